/- BlockTurns, walked: it returns true. -/
import Derived.Test.YtkngfobnfocpjaaBlockV
import Derived.Test.YtkngfobnfocpjaaKit2
namespace Go.Proofs.Ytkngfobnfocpjaa
open Go.RowKit
set_option linter.unusedVariables false

set_option maxRecDepth 100000 in
set_option maxHeartbeats 1000000 in
theorem BlockTurns_walk (g s z : Int) (xa : Option Addr) (xn xc : Nat) (lx : List UInt8) (ba : Option Addr) (bn bc : Nat) (lb : List UInt8) (w : World) (hx : Bt w xa xn xc lx) (hb : Bt w ba bn bc lb) :
    Calls Try.prog 8 #[.agg #[.int .i64 g, .int .i64 s, .int .i64 z, .slice xa xn xc], .slice ba bn bc] w (Grew (.bool true) w) := by
  obtain ⟨R, hR⟩ : ∃ R, Blk.wrong g s z xn = R := ⟨_, rfl⟩
  have D1 := fun W (h : Below w.heap.size w W) => bBytes_call g s z xa xn xc lx W (hx.below h)
  have D2 := fun W (h : Below w.heap.size w W) => bParse_call ba bn bc lb W (hb.below h)
  have D3 := fun (yg ys yz : Nat) (yd : List UInt8) W (a : Option Addr) (c : Nat) (h : Bt W a yd.length c yd) => bBytes_call yg ys yz a yd.length c yd W h
  have HB := hid (Blk.parse_back lb)
  have HZ := hid (Blk.parse_zero lb)
  have HN := hid (Bt.n hx)
  rw [hR] at D1
  generalize Blk.parse lb = Y at *
  obtain ⟨ye, yg, ys, yz, yd⟩ := Y
  by_cases hr : R = 0
  · subst hr
    rw [if_pos rfl] at D1
    obtain ⟨hw1, hw2⟩ := Blk.wrong_zero hR
    obtain ⟨g, rfl⟩ := Int.eq_ofNat_of_zero_le (a := g) (by omega)
    obtain ⟨s, rfl⟩ := Int.eq_ofNat_of_zero_le (a := s) (by omega)
    obtain ⟨z, rfl⟩ := Int.eq_ofNat_of_zero_le (a := z) (by omega)
    rw [Int.toNat_natCast, Int.toNat_natCast, Int.toNat_natCast] at D1
    have hpp := Blk.parse_bytes g s z lx (by rw [HN.out]; exact hR)
    generalize Blk.bytes g s z lx = P at *
    have D4 := hid (show ∀ W (a : Option Addr) (n c : Nat), Bt W a n c P → Calls Try.prog 28 #[.slice a n c] W (PTells ⟨0, g, s, z, lx⟩ W) from fun W a n c h => by
      have := bParse_call a n c P W h
      rw [hpp] at this; exact this)
    have D1 := hid D1; have D2 := hid D2; have D3 := hid D3
    clear hpp
    by_cases hy : ye = 0
    · subst hy
      obtain ⟨hw, hbk⟩ := HB.out rfl
      have hw : Blk.wrong yg ys yz yd.length = 0 := hw
      have hbk : Blk.bytes yg ys yz yd = lb := hbk
      have D3' := hid (show ∀ W (a : Option Addr) (c : Nat), Bt W a yd.length c yd → Calls Try.prog 26 #[.agg #[.int .i64 yg, .int .i64 ys, .int .i64 yz, .slice a yd.length c]] W (BRes lb 0 W) from fun W a c h => by
        have := D3.out yg ys yz yd W a c h
        rw [hw, if_pos rfl, Int.toNat_natCast, Int.toNat_natCast, Int.toNat_natCast, hbk] at this; exact this)
      go_enter Try.func8, Try.ntmps8
      go_wp2_with fail
      go_at_call 31; refine (alive4_call _).mono ?_; rintro e w1 ⟨rfl, b1⟩
      have k0 : w1.cell? ⟨w.heap.size, 0, none⟩ = some (.int .i64 g) := box_cell b1 0
      have k1 : w1.cell? ⟨w.heap.size, 1, none⟩ = some (.int .i64 s) := box_cell b1 1
      have k2 : w1.cell? ⟨w.heap.size, 2, none⟩ = some (.int .i64 z) := box_cell b1 2
      have k3 : w1.cell? ⟨w.heap.size, 3, none⟩ = some (.slice xa xn xc) := box_cell b1 3
      have bb1 := box_below b1
      have z1 := box_size b1
      go_wp2_with fail
      go_at_call 26; refine (D1.out _ bb1).mono ?_; rintro e w2 ⟨v2, rfl, b2, o2⟩
      have bb2 := bnext bb1 b2
      go_wp2_with fail
      obtain ⟨a2, c2, rfl, s2⟩ := own_sl o2
      go_at_call 28; refine (D4.out _ _ _ _ s2).mono ?_; rintro e w4 ⟨a4, c4, rfl, b4, o4⟩
      have bb4 := bnext bb2 b4
      obtain ⟨a4', cp4', e4, s4⟩ := own_sl o4
      cases e4
      obtain ⟨hc2, hf2⟩ := bcell b2
      obtain ⟨hc4, hf4⟩ := bcell b4
      have z2 := Nat.lt_of_lt_of_le z1 b2.size
      have z4 := Nat.lt_of_lt_of_le z2 b4.size
      go_wp2_with fail
      go_at_call 30; refine (rSameBlock_call _ _ _ _ _ _ _ _ _ _ _ _ lx lx _ ((hx.below bb4).alloc _) (s4.alloc _)).mono ?_; rintro e w6 ⟨rfl, b6⟩
      have b6' := box_below b6
      have bb6 := bnext bb4 b6'
      go_wp2_with fail
      go_at_call 28; refine (D2.out _ bb6).mono ?_; rintro e w3 ⟨a3, c3, rfl, b3, o3⟩
      have bb3 := bnext bb6 b3
      obtain ⟨a3', cp3', e3, s3⟩ := own_sl o3
      cases e3
      go_wp2_with fail
      go_at_call 26; refine (D3'.out _ _ _ (s3.alloc _)).mono ?_; rintro e w5 ⟨v5, rfl, b5, o5⟩
      have b5' := box_below b5
      have bb5 := bnext bb3 b5'
      obtain ⟨a5, c5, rfl, s5⟩ := own_sl o5
      have q1 := Bt.str s5
      have q2 := Bt.str (hb.below bb5)
      go_wp2
      go_ret
      exact ⟨ret_bool (by simp), bb5⟩
    · have hz := HZ.out hy
      have hy0 : (ye != 0) = true := by rw [bne_iff_ne]; exact hy
      cases hz
      go_enter Try.func8, Try.ntmps8
      go_wp2_with fail
      go_at_call 31; refine (alive4_call _).mono ?_; rintro e w1 ⟨rfl, b1⟩
      have k0 : w1.cell? ⟨w.heap.size, 0, none⟩ = some (.int .i64 g) := box_cell b1 0
      have k1 : w1.cell? ⟨w.heap.size, 1, none⟩ = some (.int .i64 s) := box_cell b1 1
      have k2 : w1.cell? ⟨w.heap.size, 2, none⟩ = some (.int .i64 z) := box_cell b1 2
      have k3 : w1.cell? ⟨w.heap.size, 3, none⟩ = some (.slice xa xn xc) := box_cell b1 3
      have bb1 := box_below b1
      have z1 := box_size b1
      go_wp2_with fail
      go_at_call 26; refine (D1.out _ bb1).mono ?_; rintro e w2 ⟨v2, rfl, b2, o2⟩
      have bb2 := bnext bb1 b2
      go_wp2_with fail
      obtain ⟨a2, c2, rfl, s2⟩ := own_sl o2
      go_at_call 28; refine (D4.out _ _ _ _ s2).mono ?_; rintro e w4 ⟨a4, c4, rfl, b4, o4⟩
      have bb4 := bnext bb2 b4
      obtain ⟨a4', cp4', e4, s4⟩ := own_sl o4
      cases e4
      obtain ⟨hc2, hf2⟩ := bcell b2
      obtain ⟨hc4, hf4⟩ := bcell b4
      have z2 := Nat.lt_of_lt_of_le z1 b2.size
      have z4 := Nat.lt_of_lt_of_le z2 b4.size
      go_wp2_with fail
      go_at_call 30; refine (rSameBlock_call _ _ _ _ _ _ _ _ _ _ _ _ lx lx _ ((hx.below bb4).alloc _) (s4.alloc _)).mono ?_; rintro e w6 ⟨rfl, b6⟩
      have b6' := box_below b6
      have bb6 := bnext bb4 b6'
      go_wp2_with fail
      go_at_call 28; refine (D2.out _ bb6).mono ?_; rintro e w3 ⟨a3, c3, rfl, b3, o3⟩
      have bb3 := bnext bb6 b3
      obtain ⟨a3', cp3', e3, s3⟩ := own_sl o3
      cases e3
      go_wp2_with fail
      go_at_call 30; refine (rSameBlock_call _ _ _ _ _ _ _ _ _ _ _ _ [] [] _ (s3.alloc _) (Sl.none _ _)).mono ?_; rintro e w5 ⟨rfl, b5⟩
      have b5' := box_below b5
      go_wp2
      go_ret
      exact ⟨ret_bool (by simp), bnext bb3 b5'⟩
  · rw [if_neg hr] at D1
    have hr0 : (R == 0) = false := beq_eq_false_iff_ne.2 hr
    have D1 := hid D1; have D2 := hid D2; have D3 := hid D3
    by_cases hy : ye = 0
    · subst hy
      obtain ⟨hw, hbk⟩ := HB.out rfl
      have hw : Blk.wrong yg ys yz yd.length = 0 := hw
      have hbk : Blk.bytes yg ys yz yd = lb := hbk
      have D3' := hid (show ∀ W (a : Option Addr) (c : Nat), Bt W a yd.length c yd → Calls Try.prog 26 #[.agg #[.int .i64 yg, .int .i64 ys, .int .i64 yz, .slice a yd.length c]] W (BRes lb 0 W) from fun W a c h => by
        have := D3.out yg ys yz yd W a c h
        rw [hw, if_pos rfl, Int.toNat_natCast, Int.toNat_natCast, Int.toNat_natCast, hbk] at this; exact this)
      go_enter Try.func8, Try.ntmps8
      go_wp2_with fail
      go_at_call 31; refine (alive4_call _).mono ?_; rintro e w1 ⟨rfl, b1⟩
      have k0 : w1.cell? ⟨w.heap.size, 0, none⟩ = some (.int .i64 g) := box_cell b1 0
      have k1 : w1.cell? ⟨w.heap.size, 1, none⟩ = some (.int .i64 s) := box_cell b1 1
      have k2 : w1.cell? ⟨w.heap.size, 2, none⟩ = some (.int .i64 z) := box_cell b1 2
      have k3 : w1.cell? ⟨w.heap.size, 3, none⟩ = some (.slice xa xn xc) := box_cell b1 3
      have bb1 := box_below b1
      have z1 := box_size b1
      go_wp2_with fail
      go_at_call 26; refine (D1.out _ bb1).mono ?_; rintro e w2 ⟨v2, rfl, b2, o2⟩
      have bb2 := bnext bb1 b2
      go_wp2_with fail
      go_at_call 28; refine (D2.out _ bb2).mono ?_; rintro e w3 ⟨a3, c3, rfl, b3, o3⟩
      have bb3 := bnext bb2 b3
      obtain ⟨a3', cp3', e3, s3⟩ := own_sl o3
      cases e3
      go_wp2_with fail
      go_at_call 26; refine (D3'.out _ _ _ (s3.alloc _)).mono ?_; rintro e w5 ⟨v5, rfl, b5, o5⟩
      have b5' := box_below b5
      have bb5 := bnext bb3 b5'
      obtain ⟨a5, c5, rfl, s5⟩ := own_sl o5
      have q1 := Bt.str s5
      have q2 := Bt.str (hb.below bb5)
      go_wp2
      go_ret
      exact ⟨ret_bool (by simp), bb5⟩
    · have hz := HZ.out hy
      have hy0 : (ye != 0) = true := by rw [bne_iff_ne]; exact hy
      cases hz
      go_enter Try.func8, Try.ntmps8
      go_wp2_with fail
      go_at_call 31; refine (alive4_call _).mono ?_; rintro e w1 ⟨rfl, b1⟩
      have k0 : w1.cell? ⟨w.heap.size, 0, none⟩ = some (.int .i64 g) := box_cell b1 0
      have k1 : w1.cell? ⟨w.heap.size, 1, none⟩ = some (.int .i64 s) := box_cell b1 1
      have k2 : w1.cell? ⟨w.heap.size, 2, none⟩ = some (.int .i64 z) := box_cell b1 2
      have k3 : w1.cell? ⟨w.heap.size, 3, none⟩ = some (.slice xa xn xc) := box_cell b1 3
      have bb1 := box_below b1
      have z1 := box_size b1
      go_wp2_with fail
      go_at_call 26; refine (D1.out _ bb1).mono ?_; rintro e w2 ⟨v2, rfl, b2, o2⟩
      have bb2 := bnext bb1 b2
      go_wp2_with fail
      go_at_call 28; refine (D2.out _ bb2).mono ?_; rintro e w3 ⟨a3, c3, rfl, b3, o3⟩
      have bb3 := bnext bb2 b3
      obtain ⟨a3', cp3', e3, s3⟩ := own_sl o3
      cases e3
      go_wp2_with fail
      go_at_call 30; refine (rSameBlock_call _ _ _ _ _ _ _ _ _ _ _ _ [] [] _ (s3.alloc _) (Sl.none _ _)).mono ?_; rintro e w5 ⟨rfl, b5⟩
      have b5' := box_below b5
      go_wp2
      go_ret
      exact ⟨ret_bool (by simp), bnext bb3 b5'⟩

end Go.Proofs.Ytkngfobnfocpjaa
