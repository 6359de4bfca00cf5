/- BlockSpoilt and BlockCut, walked: each returns true. -/
import Derived.Test.YtkngfobnfocpjaaBlockV
import Derived.Test.YtkngfobnfocpjaaBlkS
import Derived.Test.YtkngfobnfocpjaaKit2
namespace Go.Proofs.Ytkngfobnfocpjaa
open Go.RowKit
set_option linter.unusedVariables false

theorem spoilt_one {w w2 : World} {g cap : Nat} {P : List UInt8} (k b : Nat) (o2 : w2.ownsRow w.heap.size 5 1 (.slice (some ⟨g, 0, none⟩) P.length cap) P.length (cb P)) (hb : b < 256) :
    Bt (w2.setCell ⟨g, k, none⟩ (.int .u8 ((at8 P k ^^^ b : Nat) : Int))) (some ⟨g, 0, none⟩) P.length cap (P.set k (UInt8.ofNat (at8 P k ^^^ b))) := by
  have h := (o2.stored k (.int .u8 ((at8 P k ^^^ b : Nat) : Int))).1
  obtain ⟨a, c, e, s⟩ := own_sl h
  cases e
  unfold Bt
  rw [cb_set, u8_xor _ _ (at8_lt _ _) hb]
  exact s
set_option maxRecDepth 100000 in
set_option maxHeartbeats 1000000 in
theorem BlockSpoilt_walk (g s z : Int) (xa : Option Addr) (xn xc : Nat) (lx : List UInt8) (at_ : Int) (by_ : Nat) (hby : by_ < 256) (hat : -9223372036854775808 ≤ at_ ∧ at_ ≤ 9223372036854775807) (w : World) (hx : Bt w xa xn xc lx) :
    Calls Try.prog 9 #[.agg #[.int .i64 g, .int .i64 s, .int .i64 z, .slice xa xn xc], .int .i64 at_, .int .u8 (by_ : Int)] w (Grew (.bool true) w) := by
  obtain ⟨R, hR⟩ : ∃ R, Blk.wrong g s z xn = R := ⟨_, rfl⟩
  have D1 := fun W (h : Below w.heap.size w W) => bBytes_call g s z xa xn xc lx W (hx.below h)
  have HN := hid (Bt.n hx)
  rw [hR] at D1
  by_cases hr : R = 0
  · subst hr
    rw [if_pos rfl] at D1
    obtain ⟨hw1, hw2⟩ := Blk.wrong_zero hR
    obtain ⟨g, rfl⟩ := Int.eq_ofNat_of_zero_le (a := g) (by omega)
    obtain ⟨s, rfl⟩ := Int.eq_ofNat_of_zero_le (a := s) (by omega)
    obtain ⟨z, rfl⟩ := Int.eq_ofNat_of_zero_le (a := z) (by omega)
    rw [Int.toNat_natCast, Int.toNat_natCast, Int.toNat_natCast] at D1
    have hset := Blk.parse_set g s z lx (by rw [HN.out]; exact hR)
    have hlen := Blk.bytes_length g s z lx
    generalize Blk.bytes g s z lx = P at *
    obtain ⟨n, hn⟩ : ∃ n, P.length = n := ⟨_, rfl⟩
    have hn0 : 0 < n := by omega
    have hn1 : n ≤ 411 := by have := HN.out; omega
    have D1 := hid D1
    by_cases hmain : 0 ≤ at_ ∧ at_ < n ∧ by_ ≠ 0
    · obtain ⟨h0, h1, h2⟩ := hmain
      obtain ⟨k, rfl⟩ := Int.eq_ofNat_of_zero_le h0
      have hk : k < n := by omega
      have t1 : decide ((k : Int) < 0) = false := by simp
      have t2 : decide (n ≤ k) = false := by simp; omega
      have t3 : ((by_ : Int) == 0) = false := by rw [beq_eq_false_iff_ne]; omega
      have hP := hset k (UInt8.ofNat (at8 P k ^^^ by_)) (by omega) (by
        intro e
        have := congrArg UInt8.toNat e
        rw [u8_xor _ _ (at8_lt _ _) hby, ← Blk.at8_get] at this
        exact xor_ne _ _ h2 this)
      have D2 := fun W a c (h : Bt W a P.length c (P.set k (UInt8.ofNat (at8 P k ^^^ by_)))) => bParse_call a P.length c _ W h
      have hx8 : bits .xor .u8 (at8 P k : Int) (by_ : Int) = ((at8 P k ^^^ by_ : Nat) : Int) := u8_xor_nat _ _ (at8_lt _ _) hby
      obtain ⟨er, hP, her⟩ : ∃ er, Blk.parse (P.set k (UInt8.ofNat (at8 P k ^^^ by_))) = ⟨er, 0, 0, 0, []⟩ ∧ (er = 2 ∨ er = 9) := by
        rcases hP with h | h
        · exact ⟨2, h, .inl rfl⟩
        · exact ⟨9, h, .inr rfl⟩
      rw [hn, hP] at D2
      have D2 := hid D2
      have S1 := hid (fun w w2 g cap => @spoilt_one w w2 g cap P k by_)
      rw [hn] at S1
      clear hset hP
      have HN2 := hid hn
      clear hn hlen h0
      go_enter Try.func9, Try.ntmps9
      go_wp2_with fail
      go_at_call 31; refine (alive4_call _).mono ?_; rintro e w1 ⟨rfl, b1⟩
      have k0 : w1.cell? ⟨w.heap.size, 0, none⟩ = some (.int .i64 g) := box_cell b1 0
      have k1 : w1.cell? ⟨w.heap.size, 1, none⟩ = some (.int .i64 s) := box_cell b1 1
      have k2 : w1.cell? ⟨w.heap.size, 2, none⟩ = some (.int .i64 z) := box_cell b1 2
      have k3 : w1.cell? ⟨w.heap.size, 3, none⟩ = some (.slice xa xn xc) := box_cell b1 3
      have bb1 := box_below b1
      go_wp2_with fail
      go_at_call 26; refine (D1.out _ bb1).mono ?_; rintro e w2 ⟨v2, rfl, b2, o2⟩
      rw [HN2.out] at o2
      obtain ⟨q, cap, rfl, q1, q2, q3, q4⟩ := own_pos o2 hn0
      unfold maxLen at q4
      have c1 : w2.cell? ⟨q, k, none⟩ = some (.int .u8 (at8 P k)) := by
        rw [o2.cellAt k (by omega)]; exact cb_get _ _ (by rw [HN2.out]; exact hk)
      have c2 : w2.frozen? ⟨q, k, none⟩ = false := o2.frozenAt k
      have bb2 := bnext bb1 b2
      have q5 := bb1.size
      have S2 := hid (S1.out w w2 q cap (own_mono o2 q5) hby)
      go_wp2_with fail
      go_at_call 28; refine (D2.out _ _ _ S2.out).mono ?_; rintro e w3 ⟨a3, c3, rfl, b3, o3⟩
      have bb3 : Below w.heap.size w w3 := bb2.setCell (by show w.heap.size ≤ q; omega) _ |>.trans (b3.mono (by simp; exact bb2.size))
      rcases her with rfl | rfl
      all_goals
        go_wp2
        go_ret
        exact ⟨rfl, bb3⟩
    · have D1' : ∀ W, Below w.heap.size w W → Calls Try.prog 26 #[.agg #[.int .i64 g, .int .i64 s, .int .i64 z, .slice xa xn xc]] W (fun e w' => ∃ a cap, e = .returned (.tuple #[.slice a n cap, .int .i64 0]) ∧ Below W.heap.size W w') := fun W h => (D1.out W h).mono fun e w' ⟨v, he, hb, ho⟩ => by
        obtain ⟨a, cap, rfl, _⟩ := own_sl ho
        rw [hn] at he
        exact ⟨a, cap, he, hb⟩
      have D1' := hid D1'
      clear D1 hset hn hlen
      by_cases t0 : at_ < 0
      · have t1 : decide (at_ < 0) = true := by simpa using t0
        clear t0 hmain
        go_enter Try.func9, Try.ntmps9
        go_wp2_with fail
        go_at_call 31; refine (alive4_call _).mono ?_; rintro e w1 ⟨rfl, b1⟩
        have k0 : w1.cell? ⟨w.heap.size, 0, none⟩ = some (.int .i64 g) := box_cell b1 0
        have k1 : w1.cell? ⟨w.heap.size, 1, none⟩ = some (.int .i64 s) := box_cell b1 1
        have k2 : w1.cell? ⟨w.heap.size, 2, none⟩ = some (.int .i64 z) := box_cell b1 2
        have k3 : w1.cell? ⟨w.heap.size, 3, none⟩ = some (.slice xa xn xc) := box_cell b1 3
        have bb1 := box_below b1
        go_wp2_with fail
        go_at_call 26; refine (D1'.out _ bb1).mono ?_; rintro e w2 ⟨a2, c2, rfl, b2⟩
        go_wp2
        go_ret
        exact ⟨rfl, bnext bb1 b2⟩
      · obtain ⟨k, rfl⟩ := Int.eq_ofNat_of_zero_le (Int.not_lt.1 t0)
        have t1 : decide ((k : Int) < 0) = false := by simp
        clear t0
        by_cases t2 : n ≤ k
        · have t3 : decide (n ≤ k) = true := by simpa using t2
          clear hmain
          go_enter Try.func9, Try.ntmps9
          go_wp2_with fail
          go_at_call 31; refine (alive4_call _).mono ?_; rintro e w1 ⟨rfl, b1⟩
          have k0 : w1.cell? ⟨w.heap.size, 0, none⟩ = some (.int .i64 g) := box_cell b1 0
          have k1 : w1.cell? ⟨w.heap.size, 1, none⟩ = some (.int .i64 s) := box_cell b1 1
          have k2 : w1.cell? ⟨w.heap.size, 2, none⟩ = some (.int .i64 z) := box_cell b1 2
          have k3 : w1.cell? ⟨w.heap.size, 3, none⟩ = some (.slice xa xn xc) := box_cell b1 3
          have bb1 := box_below b1
          go_wp2_with fail
          go_at_call 26; refine (D1'.out _ bb1).mono ?_; rintro e w2 ⟨a2, c2, rfl, b2⟩
          go_wp2
          go_ret
          exact ⟨rfl, bnext bb1 b2⟩
        · have t3 : decide (n ≤ k) = false := by simpa using t2
          have t4 : by_ = 0 := by omega
          subst t4
          clear hmain
          go_enter Try.func9, Try.ntmps9
          go_wp2_with fail
          go_at_call 31; refine (alive4_call _).mono ?_; rintro e w1 ⟨rfl, b1⟩
          have k0 : w1.cell? ⟨w.heap.size, 0, none⟩ = some (.int .i64 g) := box_cell b1 0
          have k1 : w1.cell? ⟨w.heap.size, 1, none⟩ = some (.int .i64 s) := box_cell b1 1
          have k2 : w1.cell? ⟨w.heap.size, 2, none⟩ = some (.int .i64 z) := box_cell b1 2
          have k3 : w1.cell? ⟨w.heap.size, 3, none⟩ = some (.slice xa xn xc) := box_cell b1 3
          have bb1 := box_below b1
          go_wp2_with fail
          go_at_call 26; refine (D1'.out _ bb1).mono ?_; rintro e w2 ⟨a2, c2, rfl, b2⟩
          go_wp2
          go_ret
          exact ⟨rfl, bnext bb1 b2⟩
  · rw [if_neg hr] at D1
    have hr0 : (R != 0) = true := by rw [bne_iff_ne]; exact hr
    have D1 := hid D1
    clear hR hr
    go_enter Try.func9, Try.ntmps9
    go_wp2_with fail
    go_at_call 31; refine (alive4_call _).mono ?_; rintro e w1 ⟨rfl, b1⟩
    have k0 : w1.cell? ⟨w.heap.size, 0, none⟩ = some (.int .i64 g) := box_cell b1 0
    have k1 : w1.cell? ⟨w.heap.size, 1, none⟩ = some (.int .i64 s) := box_cell b1 1
    have k2 : w1.cell? ⟨w.heap.size, 2, none⟩ = some (.int .i64 z) := box_cell b1 2
    have k3 : w1.cell? ⟨w.heap.size, 3, none⟩ = some (.slice xa xn xc) := box_cell b1 3
    have bb1 := box_below b1
    go_wp2_with fail
    go_at_call 26; refine (D1.out _ bb1).mono ?_; rintro e w2 ⟨v2, rfl, b2, o2⟩
    go_wp2
    go_ret
    exact ⟨rfl, bnext bb1 b2⟩

theorem Blk.cut_same (P : List UInt8) (m k i : Nat) (hP : P.length = k) (h : i < m) (hi : i < k) : at8 (P.take m ++ (List.replicate m 0).drop k) i = at8 P i := by
  unfold at8 List.getD
  rw [List.getElem?_append_left (by rw [List.length_take]; omega), List.getElem?_take, if_pos h]
set_option maxRecDepth 100000 in
set_option maxHeartbeats 1000000 in
theorem BlockCut_walk (g s z : Int) (xa : Option Addr) (xn xc : Nat) (lx : List UInt8) (at_ : Int) (hat : -9223372036854775808 ≤ at_ ∧ at_ ≤ 9223372036854775807) (w : World) (hx : Bt w xa xn xc lx) :
    Calls Try.prog 10 #[.agg #[.int .i64 g, .int .i64 s, .int .i64 z, .slice xa xn xc], .int .i64 at_] w (Grew (.bool true) w) := by
  obtain ⟨R, hR⟩ : ∃ R, Blk.wrong g s z xn = R := ⟨_, rfl⟩
  have D1 := fun W (h : Below w.heap.size w W) => bBytes_call g s z xa xn xc lx W (hx.below h)
  have HN := hid (Bt.n hx)
  rw [hR] at D1
  by_cases hr : R = 0
  · subst hr
    rw [if_pos rfl] at D1
    obtain ⟨hw1, hw2⟩ := Blk.wrong_zero hR
    obtain ⟨g, rfl⟩ := Int.eq_ofNat_of_zero_le (a := g) (by omega)
    obtain ⟨s, rfl⟩ := Int.eq_ofNat_of_zero_le (a := s) (by omega)
    obtain ⟨z, rfl⟩ := Int.eq_ofNat_of_zero_le (a := z) (by omega)
    rw [Int.toNat_natCast, Int.toNat_natCast, Int.toNat_natCast] at D1
    have hcut := fun c => Blk.parse_cut g s z lx c (by rw [HN.out]; exact hR)
    have hlen := Blk.bytes_length g s z lx
    generalize Blk.bytes g s z lx = P at *
    obtain ⟨n, hn⟩ : ∃ n, P.length = n := ⟨_, rfl⟩
    have hn0 : 0 < n := by omega
    have hn1 : n ≤ 411 := by have := HN.out; omega
    have D1' := hid (show ∀ W, Below w.heap.size w W → Calls Try.prog 26 #[.agg #[.int .i64 g, .int .i64 s, .int .i64 z, .slice xa xn xc]] W (fun e w' => ∃ a cap, e = .returned (.tuple #[.slice a n cap, .int .i64 0]) ∧ Below W.heap.size W w' ∧ Bt w' a n cap P) from fun W h => (D1 W h).mono fun e w' ⟨v, he, hb, ho⟩ => by
        obtain ⟨a, cap, rfl, hs⟩ := own_sl ho
        rw [hn] at he hs
        exact ⟨a, cap, he, hb, hs⟩)
    clear D1
    by_cases t0 : at_ < 0
    · have t1 : decide (at_ < 0) = true := by simpa using t0
      clear t0 hcut hlen hn
      go_enter Try.func10, Try.ntmps10
      go_wp2_with fail
      go_at_call 31; refine (alive4_call _).mono ?_; rintro e w1 ⟨rfl, b1⟩
      have k0 : w1.cell? ⟨w.heap.size, 0, none⟩ = some (.int .i64 g) := box_cell b1 0
      have k1 : w1.cell? ⟨w.heap.size, 1, none⟩ = some (.int .i64 s) := box_cell b1 1
      have k2 : w1.cell? ⟨w.heap.size, 2, none⟩ = some (.int .i64 z) := box_cell b1 2
      have k3 : w1.cell? ⟨w.heap.size, 3, none⟩ = some (.slice xa xn xc) := box_cell b1 3
      have bb1 := box_below b1
      go_wp2_with fail
      go_at_call 26; refine (D1'.out _ bb1).mono ?_; rintro e w2 ⟨a2, c2, rfl, b2, s2⟩
      go_wp2
      go_ret
      exact ⟨rfl, bnext bb1 b2⟩
    · obtain ⟨k, rfl⟩ := Int.eq_ofNat_of_zero_le (Int.not_lt.1 t0)
      have t1 : decide ((k : Int) < 0) = false := by simp
      clear t0
      by_cases t2 : k > n + 20
      · have t3 : decide ((n : Int) + 20 < (k : Int)) = true := by simp; omega
        clear hcut hlen hn
        go_enter Try.func10, Try.ntmps10
        go_wp2_with fail
        go_at_call 31; refine (alive4_call _).mono ?_; rintro e w1 ⟨rfl, b1⟩
        have k0 : w1.cell? ⟨w.heap.size, 0, none⟩ = some (.int .i64 g) := box_cell b1 0
        have k1 : w1.cell? ⟨w.heap.size, 1, none⟩ = some (.int .i64 s) := box_cell b1 1
        have k2 : w1.cell? ⟨w.heap.size, 2, none⟩ = some (.int .i64 z) := box_cell b1 2
        have k3 : w1.cell? ⟨w.heap.size, 3, none⟩ = some (.slice xa xn xc) := box_cell b1 3
        have bb1 := box_below b1
        go_wp2_with fail
        go_at_call 26; refine (D1'.out _ bb1).mono ?_; rintro e w2 ⟨a2, c2, rfl, b2, s2⟩
        go_wp2
        go_ret
        exact ⟨rfl, bnext bb1 b2⟩
      · have t3 : decide ((n : Int) + 20 < (k : Int)) = false := by simp; omega
        by_cases t4 : k = n
        · subst t4
          clear hcut hlen hn
          go_enter Try.func10, Try.ntmps10
          go_wp2_with fail
          go_at_call 31; refine (alive4_call _).mono ?_; rintro e w1 ⟨rfl, b1⟩
          have k0 : w1.cell? ⟨w.heap.size, 0, none⟩ = some (.int .i64 g) := box_cell b1 0
          have k1 : w1.cell? ⟨w.heap.size, 1, none⟩ = some (.int .i64 s) := box_cell b1 1
          have k2 : w1.cell? ⟨w.heap.size, 2, none⟩ = some (.int .i64 z) := box_cell b1 2
          have k3 : w1.cell? ⟨w.heap.size, 3, none⟩ = some (.slice xa xn xc) := box_cell b1 3
          have bb1 := box_below b1
          go_wp2_with fail
          go_at_call 26; refine (D1'.out _ bb1).mono ?_; rintro e w2 ⟨a2, c2, rfl, b2, s2⟩
          go_wp2
          go_ret
          exact ⟨rfl, bnext bb1 b2⟩
        · have t5 : ((k : Int) == (n : Int)) = false := by rw [beq_eq_false_iff_ne]; omega
          have t6 : (k == n) = false := by rw [beq_eq_false_iff_ne]; omega
          have HC := hid (hcut (P.take k ++ (List.replicate k 0).drop n) (by rw [List.length_append, List.length_take, List.length_drop, List.length_replicate]; omega) (fun h12 => by
            rw [List.length_append, List.length_take, List.length_drop, List.length_replicate] at h12
            exact ⟨Blk.cut_same P k n 5 hn (by omega) (by omega), Blk.cut_same P k n 6 hn (by omega) (by omega)⟩))
          have D2 := hid (show ∀ W a c, Bt W a k c (P.take k ++ (List.replicate k 0).drop n) → Calls Try.prog 28 #[.slice a k c] W (PTells ⟨2, 0, 0, 0, []⟩ W) from fun W a c h => by
            have := bParse_call a k c _ W h
            rw [HC.out] at this; exact this)
          clear hcut hlen hn t4
          go_enter Try.func10, Try.ntmps10
          go_wp2_with fail
          go_at_call 31; refine (alive4_call _).mono ?_; rintro e w1 ⟨rfl, b1⟩
          have k0 : w1.cell? ⟨w.heap.size, 0, none⟩ = some (.int .i64 g) := box_cell b1 0
          have k1 : w1.cell? ⟨w.heap.size, 1, none⟩ = some (.int .i64 s) := box_cell b1 1
          have k2 : w1.cell? ⟨w.heap.size, 2, none⟩ = some (.int .i64 z) := box_cell b1 2
          have k3 : w1.cell? ⟨w.heap.size, 3, none⟩ = some (.slice xa xn xc) := box_cell b1 3
          have bb1 := box_below b1
          go_wp2_with fail
          go_at_call 26; refine (D1'.out _ bb1).mono ?_; rintro e w2 ⟨a2, c2, rfl, b2, s2⟩
          have bb2 := bnext bb1 b2
          go_wp2_with (first
            | (refine wpList_make_bytes rfl (.tmp 34) (.tmp 34) rfl k rfl rfl (by omega) ?_; intro w3 o3 b3 z3; have bb3 := bnext bb2 b3; have s2' := s2.below b3)
            | (refine wpList_copy_bytes rfl (.tmp 36) (.tmp 37) rfl w2.heap.size w2.heap.size k k (List.replicate k 0) P rfl o3 a2 n c2 rfl s2' w.heap.size w bb3 bb2.size ?_; intro w4 r4 o4 b4))
          obtain ⟨a4, c4, e4, s4⟩ := own_sl o4
          cases e4
          go_at_call 28; refine (D2.out _ _ _ s4).mono ?_; rintro e w5 ⟨a5, c5, rfl, b5, o5⟩
          go_wp2
          go_ret
          exact ⟨rfl, bnext b4 b5⟩
  · rw [if_neg hr] at D1
    have hr0 : (R != 0) = true := by rw [bne_iff_ne]; exact hr
    have D1 := hid D1
    clear hR hr
    go_enter Try.func10, Try.ntmps10
    go_wp2_with fail
    go_at_call 31; refine (alive4_call _).mono ?_; rintro e w1 ⟨rfl, b1⟩
    have k0 : w1.cell? ⟨w.heap.size, 0, none⟩ = some (.int .i64 g) := box_cell b1 0
    have k1 : w1.cell? ⟨w.heap.size, 1, none⟩ = some (.int .i64 s) := box_cell b1 1
    have k2 : w1.cell? ⟨w.heap.size, 2, none⟩ = some (.int .i64 z) := box_cell b1 2
    have k3 : w1.cell? ⟨w.heap.size, 3, none⟩ = some (.slice xa xn xc) := box_cell b1 3
    have bb1 := box_below b1
    go_wp2_with fail
    go_at_call 26; refine (D1.out _ bb1).mono ?_; rintro e w2 ⟨v2, rfl, b2, o2⟩
    go_wp2
    go_ret
    exact ⟨rfl, bnext bb1 b2⟩

end Go.Proofs.Ytkngfobnfocpjaa
