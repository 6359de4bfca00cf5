import Derived.Test.YtkngfobnfocpjaaBlockD
namespace Go.Proofs.Ytkngfobnfocpjaa
open Go.RowKit
set_option linter.unusedVariables false

set_option maxRecDepth 100000 in
set_option maxHeartbeats 4000000 in
theorem BlockTells_walk (g s z : Int) (xa : Option Addr) (xn xc : Nat) (lx : List UInt8) (ba : Option Addr) (bn bc : Nat) (lb : List UInt8) (w : World) (hx : Bt w xa xn xc lx) (hb : Bt w ba bn bc lb) :
    Calls Try.prog 7 #[.agg #[.int .i64 g, .int .i64 s, .int .i64 z, .slice xa xn xc], .slice ba bn bc] w (Grew (.bool true) w) := by
  have hbW : Below w.heap.size w (w.alloc (.cells #[.int .i64 g, .int .i64 s, .int .i64 z, .slice xa xn xc] 32)) := (Below.refl _ _).alloc (Nat.le_refl _) _
  have c0 : (w.alloc (.cells #[.int .i64 g, .int .i64 s, .int .i64 z, .slice xa xn xc] 32)).cell? ⟨w.heap.size, 0, none⟩ = some (.int .i64 g) := by simp
  have c1 : (w.alloc (.cells #[.int .i64 g, .int .i64 s, .int .i64 z, .slice xa xn xc] 32)).cell? ⟨w.heap.size, 1, none⟩ = some (.int .i64 s) := by simp
  have c2 : (w.alloc (.cells #[.int .i64 g, .int .i64 s, .int .i64 z, .slice xa xn xc] 32)).cell? ⟨w.heap.size, 2, none⟩ = some (.int .i64 z) := by simp
  have c3 : (w.alloc (.cells #[.int .i64 g, .int .i64 s, .int .i64 z, .slice xa xn xc] 32)).cell? ⟨w.heap.size, 3, none⟩ = some (.slice xa xn xc) := by simp
  have hsz : w.heap.size < (w.alloc (.cells #[.int .i64 g, .int .i64 s, .int .i64 z, .slice xa xn xc] 32)).heap.size := by simp
  go_enter Try.func7, Try.ntmps7
  go_upto_region 1 with (fail)
  generalize (w.alloc (.cells #[.int .i64 g, .int .i64 s, .int .i64 z, .slice xa xn xc] 32)) = W at *
  obtain ⟨R, hR⟩ : ∃ R, Blk.wrong g s z xn = R := ⟨_, rfl⟩
  have hxle := hx.le
  have hxmax := hx.max
  have HK := hid (show ∀ W1 w4, Below W.heap.size W W1 → Below W1.heap.size W1 w4 → Below W.heap.size W w4 ∧ w4.cell? ⟨w.heap.size, 0, none⟩ = some (.int .i64 g) ∧ w4.cell? ⟨w.heap.size, 1, none⟩ = some (.int .i64 s) ∧ w4.cell? ⟨w.heap.size, 2, none⟩ = some (.int .i64 z) ∧ w4.cell? ⟨w.heap.size, 3, none⟩ = some (.slice xa xn xc) from fun W1 w4 h1 h4 =>
    have kb := bnext h1 h4
    ⟨kb, (kb.cell (p := ⟨w.heap.size, 0, none⟩) hsz).trans c0, (kb.cell (p := ⟨w.heap.size, 1, none⟩) hsz).trans c1, (kb.cell (p := ⟨w.heap.size, 2, none⟩) hsz).trans c2, (kb.cell (p := ⟨w.heap.size, 3, none⟩) hsz).trans c3⟩)
  have C1 := hid (show ∀ W1, Below W.heap.size W W1 → Calls Try.prog 24 #[.agg #[.int .i64 g, .int .i64 s, .int .i64 z, .slice xa xn xc]] W1 (fun e w4 => e = .returned (.int .i64 R) ∧ Below W.heap.size W w4 ∧ w4.cell? ⟨w.heap.size, 0, none⟩ = some (.int .i64 g) ∧ w4.cell? ⟨w.heap.size, 1, none⟩ = some (.int .i64 s) ∧ w4.cell? ⟨w.heap.size, 2, none⟩ = some (.int .i64 z) ∧ w4.cell? ⟨w.heap.size, 3, none⟩ = some (.slice xa xn xc)) from fun W1 h1 =>
    (hR ▸ bWrong_call g s z xa xn xc hxle hxmax W1).mono fun e w4 ⟨he, h4⟩ => ⟨he, HK.out W1 w4 h1 h4⟩)
  have C2 := hid (show ∀ W1, Below W.heap.size W W1 → Calls Try.prog 25 #[.agg #[.int .i64 g, .int .i64 s, .int .i64 z, .slice xa xn xc]] W1 (fun e w4 => e = .returned (.int .i64 R) ∧ Below W.heap.size W w4 ∧ w4.cell? ⟨w.heap.size, 0, none⟩ = some (.int .i64 g) ∧ w4.cell? ⟨w.heap.size, 1, none⟩ = some (.int .i64 s) ∧ w4.cell? ⟨w.heap.size, 2, none⟩ = some (.int .i64 z) ∧ w4.cell? ⟨w.heap.size, 3, none⟩ = some (.slice xa xn xc)) from fun W1 h1 =>
    (hR ▸ rWrongBlock_call g s z xa xn xc hxle hxmax W1).mono fun e w4 ⟨he, h4⟩ => ⟨he, HK.out W1 w4 h1 h4⟩)
  have C3 := hid (show ∀ W1, Below W.heap.size W W1 → Calls Try.prog 22 #[.slice ba bn bc] W1 (Same (.int .u32 (Crc.sum lb)) W1) from fun W1 h1 => Sum_call _ _ _ lb _ (hb.below (hbW.trans (h1.mono hbW.size))))
  have C4 := hid (show ∀ W1, Below W.heap.size W W1 → Calls Try.prog 23 #[.slice ba bn bc] W1 (Same (.int .u32 (Crc.sum lb)) W1) from fun W1 h1 => rSum_call _ _ _ lb _ (hb.below (hbW.trans (h1.mono hbW.size))))
  go_cut [22] (fun s22 wc => s22 = .bool false ∧ Below W.heap.size W wc ∧ wc.cell? ⟨w.heap.size, 0, none⟩ = some (.int .i64 g) ∧ wc.cell? ⟨w.heap.size, 1, none⟩ = some (.int .i64 s) ∧ wc.cell? ⟨w.heap.size, 2, none⟩ = some (.int .i64 z) ∧ wc.cell? ⟨w.heap.size, 3, none⟩ = some (.slice xa xn xc))
  case first =>
    go_region_held3 (fun w' => w'.cell? ⟨w.heap.size, 0, none⟩ = some (.int .i64 g) ∧ w'.cell? ⟨w.heap.size, 1, none⟩ = some (.int .i64 s) ∧ w'.cell? ⟨w.heap.size, 2, none⟩ = some (.int .i64 z) ∧ w'.cell? ⟨w.heap.size, 3, none⟩ = some (.slice xa xn xc)) (first | exact ⟨c0, c1, c2, c3⟩ | exact ⟨k0, k1, k2, k3⟩ | go_keep)
      (first
        | (go_at_call 24; refine (C1.out _ ?_).mono ?_; (repeat (first | assumption | exact Below.refl _ _ | refine below_drewN ?_ _ | refine Below.drew ?_)); rintro e w4 ⟨rfl, kb, k0, k1, k2, k3⟩)
        | (go_at_call 25; refine (C2.out _ ?_).mono ?_; (repeat (first | assumption | exact Below.refl _ _ | refine below_drewN ?_ _ | refine Below.drew ?_)); rintro e w4 ⟨rfl, kb, k0, k1, k2, k3⟩)
        | (go_at_call 22; refine (C3.out _ ?_).mono ?_; (repeat (first | assumption | exact Below.refl _ _ | refine below_drewN ?_ _ | refine Below.drew ?_)); rintro e w4 ⟨rfl, rfl⟩)
        | (go_at_call 23; refine (C4.out _ ?_).mono ?_; (repeat (first | assumption | exact Below.refl _ _ | refine below_drewN ?_ _ | refine Below.drew ?_)); rintro e w4 ⟨rfl, rfl⟩))
    all_goals (go_wp2_with fail; go_meet)
    exact ⟨rfl, kb, k0, k1, k2, k3⟩
  case rest =>
    obtain ⟨rfl, kb, k0, k1, k2, k3⟩ := hcut
    have kw := hbW.trans (kb.mono hbW.size)
    have hx1 := hx.below kw
    have hb1 := hb.below kw
    have D1 := bBytes_call g s z xa xn xc lx wc hx1
    have D2 := fun wx (h : Below wc.heap.size wc wx) => rBlockBytes_call g s z xa xn xc lx wx (hx1.below h)
    have D3 := fun wx (h : Below wc.heap.size wc wx) => bParse_call ba bn bc lb wx (hb1.below h)
    have D4 := fun wx (h : Below wc.heap.size wc wx) => rParseBlock_call ba bn bc lb wx (hb1.below h)
    have hkk := fun (w4 : World) (h4 : Below wc.heap.size wc w4) => (show Below W.heap.size W w4 from bnext kb h4)
    have hk0 := fun (w4 : World) (h4 : Below wc.heap.size wc w4) => (((hkk w4 h4).cell (p := ⟨w.heap.size, 0, none⟩) hsz).trans c0)
    have hk1 := fun (w4 : World) (h4 : Below wc.heap.size wc w4) => (((hkk w4 h4).cell (p := ⟨w.heap.size, 1, none⟩) hsz).trans c1)
    have hk2 := fun (w4 : World) (h4 : Below wc.heap.size wc w4) => (((hkk w4 h4).cell (p := ⟨w.heap.size, 2, none⟩) hsz).trans c2)
    have hk3 := fun (w4 : World) (h4 : Below wc.heap.size wc w4) => (((hkk w4 h4).cell (p := ⟨w.heap.size, 3, none⟩) hsz).trans c3)
    rw [hR] at D1 D2
    generalize (if R = 0 then Blk.bytes g.toNat s.toNat z.toNat lx else []) = P at *
    generalize Blk.parse lb = Y at *
    obtain ⟨ye, yg, ys, yz, yd⟩ := Y
    have D1 := hid D1; have D2 := hid D2; have D3 := hid D3; have D4 := hid D4
    have K0 := hid hk0; have K1 := hid hk1; have K2 := hid hk2; have K3 := hid hk3
    clear hk0 hk1 hk2 hk3 hkk
    go_wp2_with (first
      | (go_at_call 26; (with_reducible refine (D1.out).mono ?_); rintro e w1 ⟨v1, rfl, b1, o1⟩; obtain ⟨a1, cp1, rfl, s1⟩ := own_sl o1; have k0 := K0.out w1 b1; have k1 := K1.out w1 b1; have k2 := K2.out w1 b1; have k3 := K3.out w1 b1)
      | (go_at_call 27; (with_reducible refine (D2.out _ b1).mono ?_); rintro e w2 ⟨v2, rfl, b2, o2⟩; obtain ⟨a2, cp2, rfl, s2⟩ := own_sl o2; have q1 := Bt.str (s1.below b2); have q2 := Bt.str s2; have bb2 := bnext b1 b2)
      | (go_at_call 28; refine (D3.out _ bb2).mono ?_; rintro e w3 ⟨a3, cp3, rfl, b3, o3⟩; have bb3 := bnext bb2 b3; obtain ⟨a3', cp3', e3, s3⟩ := own_sl o3; cases e3)
      | (go_at_call 29; refine (D4.out _ (bb3.alloc bb3.size _)).mono ?_; rintro e w4 ⟨a4, n4, cp4, rfl, b4, s4⟩; have x0 : w4.cell? ⟨w3.heap.size, 0, none⟩ = some (.int .i64 yg) := box_cell b4 0; have x1 : w4.cell? ⟨w3.heap.size, 1, none⟩ = some (.int .i64 ys) := box_cell b4 1; have x2 : w4.cell? ⟨w3.heap.size, 2, none⟩ = some (.int .i64 yz) := box_cell b4 2; have x3 : w4.cell? ⟨w3.heap.size, 3, none⟩ = some (.slice a3 yd.length cp3) := box_cell b4 3; have b4' := box_below b4; have z3 := box_size b4; have s3' := s3.below b4'; have bb4 := bnext bb3 b4')
      | (go_at_call 30; refine (rSameBlock_call _ _ _ _ _ _ _ _ _ _ _ _ yd yd _ (s3'.alloc _) (s4.alloc _)).mono ?_; rintro e w5 ⟨rfl, b5⟩; have b5' := box_below b5))
    go_ret
    exact ⟨ret_bool (by simp), kw.trans ((bnext bb4 b5').mono kw.size)⟩

end Go.Proofs.Ytkngfobnfocpjaa
