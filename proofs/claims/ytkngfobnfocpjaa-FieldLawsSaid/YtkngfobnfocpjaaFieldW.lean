/- Walks of the four laws of the field: each returns true for every input. -/
import Derived.Test.YtkngfobnfocpjaaField
namespace Go.Proofs.Ytkngfobnfocpjaa
open Go.RowKit
set_option linter.unusedVariables false

theorem Grew.trans {v : Value} {w w1 : World} (hb : Below w.heap.size w w1) {e : Ending} {w' : World} (h : Grew v w1 e w') : Grew v w e w' :=
  ⟨h.1, hb.trans (h.2.mono hb.size)⟩
theorem alive1_call (w : World) : Calls Try.prog 21 #[] w (Grew (.bool true) w) := by
  have k1 : ∀ w, Calls Try.prog 15 #[.int .u8 2, .int .u8 128] w (Grew (.int .u8 29) w) := fun w => by
    have := fMul_call 2 128 (by decide) (by decide) w
    rw [show Fld.mul 2 128 = 29 by decide +kernel] at this; exact this
  have k2 : ∀ w, Calls Try.prog 17 #[.int .u8 1] w (Grew (.int .u8 1) w) := fun w => by
    have := fInv_call 1 (by decide) w
    rw [show Fld.inv 1 = 1 by decide +kernel] at this; exact this
  have k3 : ∀ w, Calls Try.prog 19 #[.int .u8 2, .int .i64 8] w (Grew (.int .u8 29) w) := fun w => by
    have := fPow_call 2 8 (by decide) (by decide) w
    rw [show Fld.pow 2 8 = 29 by decide +kernel] at this; exact this
  go_enter Try.func21, Try.ntmps21
  go_wp2_with (first
    | (go_at_call 15; refine (k1 _).mono ?_; rintro e w1 ⟨rfl, hb1⟩)
    | (go_at_call 17; refine (k2 _).mono ?_; rintro e w2 ⟨rfl, hb2⟩)
    | (go_at_call 19; refine (k3 _).mono ?_; rintro e w3 ⟨rfl, hb3⟩))
  go_ret
  exact ⟨rfl, (bnext (bnext hb1 hb2) hb3)⟩

set_option maxHeartbeats 400000 in
theorem FieldTells_walk (x y : Nat) (n : Int) (hx : x < 256) (hy : y < 256) (hn : -9223372036854775808 ≤ n ∧ n ≤ 9223372036854775807) (w : World) :
    Calls Try.prog 3 #[.int .u8 x, .int .u8 y, .int .i64 n] w (Grew (.bool true) w) := by
  go_enter Try.func3, Try.ntmps3
  go_wp2_with (first
    | (go_at_call 15; refine (fMul_call _ _ hx hy _).mono ?_; rintro e w1 ⟨rfl, hb1⟩)
    | (go_at_call 16; refine (rMul_call _ _ hx hy _).mono ?_; rintro e w1' ⟨rfl, rfl⟩)
    | (go_at_call 17; refine (fInv_call _ hx _).mono ?_; rintro e w2 ⟨rfl, hb2⟩)
    | (go_at_call 18; refine (rInv_call _ hx _).mono ?_; rintro e w2' ⟨rfl, rfl⟩)
    | (go_at_call 19; refine (fPow_call _ _ hx hn _).mono ?_; rintro e w3 ⟨rfl, hb3⟩)
    | (go_at_call 20; refine (rPow_call _ _ hx hn _).mono ?_; rintro e w3' ⟨rfl, rfl⟩))
  go_ret
  exact ⟨rfl, (bnext (bnext hb1 hb2) hb3)⟩

set_option maxHeartbeats 1000000 in
theorem FieldLaws_walk (x y z : Nat) (hx : x < 256) (hy : y < 256) (hz : z < 256) (w : World) :
    Calls Try.prog 4 #[.int .u8 x, .int .u8 y, .int .u8 z] w (Grew (.bool true) w) := by
  have hxr : y ^^^ z < 256 := Nat.xor_lt_two_pow (n := 8) hy hz
  have c1 := fMul_call x y hx hy
  have c2 := fMul_call y z hy hz
  have c3 := fMul_call y x hy hx
  have c4 := fMul_call (Fld.mul x y) z (Fld.mul_lt _ _) hz
  have c5 := fMul_call x (Fld.mul y z) hx (Fld.mul_lt _ _)
  have c6 := fMul_call x (y ^^^ z) hx hxr
  have c7 := fMul_call x z hx hz
  have c8 : ∀ w, Calls Try.prog 15 #[.int .u8 x, .int .u8 1] w (Grew (.int .u8 x) w) := fun w => by
    have := fMul_call x 1 hx (by decide) w
    rw [Fld.mul_one x hx] at this; exact this
  rw [Fld.mul_comm y x] at c3
  rw [Fld.mul_assoc x y z hx hy hz] at c4
  rw [Fld.mul_addr x y z hx hy hz] at c6
  have h0 : (Fld.mul x y = 0) ↔ (x = 0 ∨ y = 0) := Fld.mul_eq_zero x y
  have hp := Fld.mul_lt x y
  have hs := Fld.mul_lt x z
  generalize Fld.mul x y = p at *
  generalize Fld.mul y z = q at *
  generalize Fld.mul x q = r at *
  generalize Fld.mul x z = s at *
  have e1 := u8_xor_nat y z hy hz
  have e2 := u8_xor_nat p s hp hs
  have C1 := hid c1; have C2 := hid c2; have C3 := hid c3; have C4 := hid c4; have C5 := hid c5; have C6 := hid c6; have C7 := hid c7; have C8 := hid c8; have H0 := hid h0
  clear c1 c2 c3 c4 c5 c6 c7 c8 h0
  go_enter Try.func4, Try.ntmps4
  go_wp2_with (first
    | (go_at_call 21; refine (alive1_call _).mono ?_; rintro e w0 ⟨rfl, hb0⟩)
    | (go_at_call 15; ((with_reducible refine (C1.out _).mono ?_); rintro e w1 ⟨rfl, hb1⟩))
    | (go_at_call 15; ((with_reducible refine (C2.out _).mono ?_); rintro e w2 ⟨rfl, hb2⟩))
    | (go_at_call 15; ((with_reducible refine (C3.out _).mono ?_); rintro e w3 ⟨rfl, hb3⟩))
    | (go_at_call 15; ((with_reducible refine (C4.out _).mono ?_); rintro e w4 ⟨rfl, hb4⟩))
    | (go_at_call 15; ((with_reducible refine (C5.out _).mono ?_); rintro e w5 ⟨rfl, hb5⟩))
    | (go_at_call 15; ((with_reducible refine (C6.out _).mono ?_); rintro e w6 ⟨rfl, hb6⟩))
    | (go_at_call 15; ((with_reducible refine (C7.out _).mono ?_); rintro e w7 ⟨rfl, hb7⟩))
    | (go_at_call 15; ((with_reducible refine (C8.out _).mono ?_); rintro e w8 ⟨rfl, hb8⟩)))
  all_goals go_ret
  · have h := H0.out.2 (.inl ‹x = 0›)
    subst h
    exact ⟨rfl, (bnext (bnext (bnext (bnext (bnext (bnext (bnext (bnext hb0 hb1) hb2) hb3) hb4) hb5) hb6) hb7) hb8)⟩
  · refine ⟨?_, (bnext (bnext (bnext (bnext (bnext (bnext (bnext (bnext hb0 hb1) hb2) hb3) hb4) hb5) hb6) hb7) hb8)⟩
    show Ending.returned (.bool (((p : Int) == 0) == (((x : Int) == 0) || ((y : Int) == 0)))) = _
    have h := H0.out
    have hx' : ((x : Int) == 0) = decide (x = 0) := by rw [Bool.eq_iff_iff]; simp
    have hy' : ((y : Int) == 0) = decide (y = 0) := by rw [Bool.eq_iff_iff]; simp
    have hp' : ((p : Int) == 0) = decide (p = 0) := by rw [Bool.eq_iff_iff]; simp
    rw [hx', hy', hp']
    congr 2
    rw [← Bool.decide_or, beq_iff_eq]
    exact decide_eq_decide.2 h

set_option maxHeartbeats 1000000 in
theorem FieldBack_walk (x y : Nat) (hx : x < 256) (hy : y < 256) (w : World) :
    Calls Try.prog 5 #[.int .u8 x, .int .u8 y] w (Grew (.bool true) w) := by
  by_cases h0 : y = 0
  · subst h0
    have k2 : ∀ w, Calls Try.prog 17 #[.int .u8 0] w (Grew (.int .u8 0) w) := fun w => fInv_call 0 (by decide) w
    have hb : Below w.heap.size w w := Below.refl _ _
    go_enter Try.func5, Try.ntmps5
    go_wp2_with (first
      | (go_at_call 21; refine (alive1_call _).mono ?_; rintro e w0 ⟨rfl, hb'⟩; replace hb := bnext hb hb')
      | (go_at_call 17; refine (k2 _).mono ?_; rintro e w1 ⟨rfl, hb'⟩; replace hb := bnext hb hb'))
    go_ret
    exact ⟨rfl, hb⟩
  have hd : ((y : Int) == 0) = false := by rw [beq_eq_false_iff_ne]; omega
  have c1 := fMul_call x y hx hy
  have c2 := fInv_call y hy
  have c3 := fMul_call (Fld.mul x y) (Fld.inv y) (Fld.mul_lt _ _) (Fld.inv_lt _)
  have c4 := fInv_call (Fld.inv y) (Fld.inv_lt _)
  rw [Fld.inv_inv y hy] at c4
  rw [Fld.mul_assoc x y _ hx hy (Fld.inv_lt _), Fld.mul_inv y hy h0, Fld.mul_one x hx] at c3
  have hp := Fld.mul_lt x y
  have hs := Fld.inv_lt y
  generalize Fld.mul x y = p at *
  generalize Fld.inv y = q at *
  have C1 := hid c1; have C2 := hid c2; have C3 := hid c3; have C4 := hid c4
  clear c1 c2 c3 c4
  have hb : Below w.heap.size w w := Below.refl _ _
  go_enter Try.func5, Try.ntmps5
  go_wp2_with (first
    | (go_at_call 21; refine (alive1_call _).mono ?_; rintro e w0 ⟨rfl, hb'⟩; replace hb := bnext hb hb')
    | (go_at_call 15; ((with_reducible refine (C1.out _).mono ?_); rintro e w1 ⟨rfl, hb'⟩; replace hb := bnext hb hb'))
    | (go_at_call 17; ((with_reducible refine (C2.out _).mono ?_); rintro e w2 ⟨rfl, hb'⟩; replace hb := bnext hb hb'))
    | (go_at_call 15; ((with_reducible refine (C3.out _).mono ?_); rintro e w3 ⟨rfl, hb'⟩; replace hb := bnext hb hb'))
    | (go_at_call 17; ((with_reducible refine (C4.out _).mono ?_); rintro e w4 ⟨rfl, hb'⟩; replace hb := bnext hb hb')))
  go_ret
  exact ⟨rfl, hb⟩

set_option maxHeartbeats 2000000 in
theorem FieldPowers_walk (x : Nat) (m n : Int) (hx : x < 256) (hm : -9223372036854775808 ≤ m ∧ m ≤ 9223372036854775807) (hn : -9223372036854775808 ≤ n ∧ n ≤ 9223372036854775807) (w : World) :
    Calls Try.prog 6 #[.int .u8 x, .int .i64 m, .int .i64 n] w (Grew (.bool true) w) := by
  by_cases h0 : x = 0
  · subst h0
    go_enter Try.func6, Try.ntmps6
    go_wp2_with (first
      | (go_at_call 21; refine (alive1_call _).mono ?_; rintro e w0 ⟨rfl, hb0⟩))
    all_goals go_ret
    all_goals exact ⟨rfl, hb0⟩
  have hd : ((x : Int) == 0) = false := by rw [beq_eq_false_iff_ne]; omega
  by_cases hb : m < -1000000 ∨ m > 1000000 ∨ n < -1000000 ∨ n > 1000000
  · go_enter Try.func6, Try.ntmps6
    go_wp2_with (first
      | (go_at_call 21; refine (alive1_call _).mono ?_; rintro e w0 ⟨rfl, hb0⟩))
    all_goals go_ret
    all_goals exact ⟨rfl, hb0⟩
  have b1 : -1000000 ≤ m := by omega
  have b2 : m ≤ 1000000 := by omega
  have b3 : -1000000 ≤ n := by omega
  have b4 : n ≤ 1000000 := by omega
  clear hb
  have c1 := fPow_call x (m + n) hx (by omega)
  have c2 := fPow_call x m hx hm
  have c3 := fPow_call x n hx hn
  have c4 := fMul_call (Fld.pow x m) (Fld.pow x n) (Fld.pow_lt _ _) (Fld.pow_lt _ _)
  rw [← Fld.pow_add x m n hx h0] at c4
  have c5 : ∀ w, Calls Try.prog 19 #[.int .u8 x, .int .i64 255] w (Grew (.int .u8 1) w) := fun w => by
    have := fPow_call x 255 hx (by decide) w
    rw [Fld.pow_255 x h0] at this; exact this
  have c6 : ∀ w, Calls Try.prog 19 #[.int .u8 2, .int .i64 m] w (Grew (.int .u8 (Fld.pow 2 m)) w) := fun w => fPow_call 2 m (by decide) hm w
  have c7 : ∀ w, Calls Try.prog 19 #[.int .u8 2, .int .i64 n] w (Grew (.int .u8 (Fld.pow 2 n)) w) := fun w => fPow_call 2 n (by decide) hn w
  have hinj := Fld.pow_two_inj m n
  generalize Fld.pow x (m + n) = p at *
  generalize Fld.pow x m = q at *
  generalize Fld.pow x n = r at *
  generalize Fld.pow 2 m = s at *
  generalize Fld.pow 2 n = u at *
  have C1 := hid c1; have C2 := hid c2; have C3 := hid c3; have C4 := hid c4; have C5 := hid c5; have C6 := hid c6; have C7 := hid c7
  clear c1 c2 c3 c4 c5 c6 c7
  have hmod : (m - n).tmod 255 = 0 ↔ (m - n) % 255 = 0 := by
    rw [← Int.dvd_iff_tmod_eq_zero, ← Int.dvd_iff_emod_eq_zero]
  by_cases hz : (m - n).tmod 255 = 0
  · have hz0 : ((m - n).tmod 255 == 0) = true := by simpa using hz
    clear hinj hmod hz h0
    go_enter Try.func6, Try.ntmps6
    go_wp2_with (first
      | (go_at_call 21; refine (alive1_call _).mono ?_; rintro e w0 ⟨rfl, hb0⟩)
      | (go_at_call 19; ((with_reducible refine (C1.out _).mono ?_); rintro e w1 ⟨rfl, hb1⟩))
      | (go_at_call 19; ((with_reducible refine (C2.out _).mono ?_); rintro e w2 ⟨rfl, hb2⟩))
      | (go_at_call 19; ((with_reducible refine (C3.out _).mono ?_); rintro e w3 ⟨rfl, hb3⟩))
      | (go_at_call 15; ((with_reducible refine (C4.out _).mono ?_); rintro e w4 ⟨rfl, hb4⟩))
      | (go_at_call 19; ((with_reducible refine (C5.out _).mono ?_); rintro e w5 ⟨rfl, hb5⟩)))
    go_ret
    exact ⟨rfl, bnext (bnext (bnext (bnext (bnext hb0 hb1) hb2) hb3) hb4) hb5⟩
  · have hz0 : ((m - n).tmod 255 == 0) = false := by simpa using hz
    have hne : ((s : Int) != (u : Int)) = true := by
      rw [bne_iff_ne]; intro e
      exact hz (hmod.2 (hinj (by omega)))
    clear hinj hmod hz h0
    go_enter Try.func6, Try.ntmps6
    go_wp2_with (first
      | (go_at_call 21; refine (alive1_call _).mono ?_; rintro e w0 ⟨rfl, hb0⟩)
      | (go_at_call 19; ((with_reducible refine (C1.out _).mono ?_); rintro e w1 ⟨rfl, hb1⟩))
      | (go_at_call 19; ((with_reducible refine (C2.out _).mono ?_); rintro e w2 ⟨rfl, hb2⟩))
      | (go_at_call 19; ((with_reducible refine (C3.out _).mono ?_); rintro e w3 ⟨rfl, hb3⟩))
      | (go_at_call 15; ((with_reducible refine (C4.out _).mono ?_); rintro e w4 ⟨rfl, hb4⟩))
      | (go_at_call 19; ((with_reducible refine (C5.out _).mono ?_); rintro e w5 ⟨rfl, hb5⟩))
      | (go_at_call 19; ((with_reducible refine (C6.out _).mono ?_); rintro e w6 ⟨rfl, hb6⟩))
      | (go_at_call 19; ((with_reducible refine (C7.out _).mono ?_); rintro e w7 ⟨rfl, hb7⟩)))
    go_ret
    exact ⟨rfl, bnext (bnext (bnext (bnext (bnext (bnext (bnext hb0 hb1) hb2) hb3) hb4) hb5) hb6) hb7⟩

end Go.Proofs.Ytkngfobnfocpjaa
