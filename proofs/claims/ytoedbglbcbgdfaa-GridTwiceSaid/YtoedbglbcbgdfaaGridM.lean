/- Walk of GridTells. -/
import Derived.Test.YtoedbglbcbgdfaaGridJ
import Derived.Test.YtoedbglbcbgdfaaGridS
namespace Go.Proofs.Ytoedbglbcbgdfaa
open Go.RowKit
set_option linter.unusedVariables false

set_option maxHeartbeats 2000000 in
theorem GridTells_walk (a : Option Addr) (n ac : Nat) (A : List Rw) (b : Option Addr) (m bc : Nat) (B : List Rw) (z : Int) (w : World) (hA : Ms w a n ac A) (hB : Ms w b m bc B) :
    Calls Try.prog 4 #[.slice a n ac, .slice b m bc, .int .i64 z] w (Grew (.bool true) w) := by
  obtain ⟨W, hW⟩ : ∃ W, Mat.wrongM (rwData A) = W := ⟨_, rfl⟩
  go_enter Try.func4, Try.ntmps4
  go_wp2_with fail
  go_at_call 14
  refine (gWrong_call _ _ _ _ _ hA).mono ?_
  rintro e w0 ⟨rfl, rfl⟩
  rw [hW]
  go_wp2_with fail
  go_at_call 16
  refine (rWrongMatrix_call _ _ _ _ _ hA).mono ?_
  rintro e w1 ⟨rfl, q, hq⟩
  have b1 : Below w.heap.size w w1 := by rw [hq]; exact below_drewN (Below.refl _ _) q
  replace hq := hid hq
  rw [hW]
  replace hW := hid hW
  go_wp2_with fail
  go_at_call 17
  refine (gOne_call _ _).mono ?_
  rintro e w2 ⟨a2, n2, c2, R2, e2, rfl, h2, hp2, b2⟩
  replace b2 := bnext b1 b2
  replace hp2 := hid hp2
  clear b1
  go_wp2_with fail
  go_at_call 18
  refine (rOne_call _ _).mono ?_
  rintro e w3 ⟨a3, n3, c3, R3, e3, rfl, h3, hp3, b3⟩
  obtain ⟨hd3, rfl⟩ := hp2.out.uniq hp3
  replace hd3 := hid hd3
  replace h2 := h2.below b3
  replace b3 := bnext b2 b3
  clear hp2 hp3 b2
  go_wp2_with fail
  go_at_call 19
  refine (rSame_same _ _ _ _ _ _ _ _ _ h2 h3 hd3.out).mono ?_
  rintro e w4 ⟨rfl, q4, hq4⟩
  have b4 : Below w.heap.size w w4 := by rw [hq4]; exact below_drewN b3 q4
  replace hq4 := hid hq4
  have A4 := hA.below b4
  have B4 := hB.below b4
  clear h2 h3 b3
  go_wp2_with fail
  go_at_call 20
  refine (gMul_call _ _ _ _ _ _ _ _ _ A4 B4).mono ?_
  rintro e w5 ⟨a5, n5, c5, R5, e5, rfl, h5, hp5, b5⟩
  replace hp5 := hid hp5
  replace b5 := bnext b4 b5
  clear A4 B4 b4
  have A5 := hA.below b5
  have B5 := hB.below b5
  go_wp2_with fail
  go_at_call 21
  refine (rMulMatrix_call _ _ _ _ _ _ _ _ _ A5 B5).mono ?_
  rintro e w6 ⟨a6, n6, c6, R6, e6, rfl, h6, hp6, b6⟩
  obtain ⟨hd6, rfl⟩ := hp5.out.uniq hp6
  replace hd6 := hid hd6
  replace h5 := h5.below b6
  replace b6 := bnext b5 b6
  clear hp5 hp6 b5 A5 B5
  go_wp2_with fail
  go_at_call 19
  refine (rSame_same _ _ _ _ _ _ _ _ _ h5 h6 hd6.out).mono ?_
  rintro e w7 ⟨rfl, q7, hq7⟩
  have b7 : Below w.heap.size w w7 := by rw [hq7]; exact below_drewN b6 q7
  replace hq7 := hid hq7
  have A7 := hA.below b7
  clear h5 h6 b6
  go_wp2_with fail
  go_at_call 15
  refine (gInvert_call _ _ _ _ _ A7).mono ?_
  rintro e w8 ⟨a8, n8, c8, R8, e8, rfl, h8, hp8, b8⟩
  replace hp8 := hid hp8
  replace b8 := bnext b7 b8
  clear A7 b7
  have A8 := hA.below b8
  go_wp2_with fail
  go_at_call 22
  refine (rInvert_call _ _ _ _ _ A8).mono ?_
  rintro e w9 ⟨a9, n9, c9, R9, e9, rfl, h9, hp9, b9⟩
  obtain ⟨hd9, rfl⟩ := hp8.out.uniq hp9
  replace hd9 := hid hd9
  replace h8 := h8.below b9
  replace b9 := bnext b8 b9
  clear hp8 hp9 b8 A8
  go_wp2_with fail
  go_at_call 19
  refine (rSame_same _ _ _ _ _ _ _ _ _ h8 h9 hd9.out).mono ?_
  rintro e w10 ⟨rfl, q10, hq10⟩
  have b10 : Below w.heap.size w w10 := by rw [hq10]; exact below_drewN b9 q10
  replace hq10 := hid hq10
  go_wp2_with fail
  go_ret
  exact ⟨ret_bool rfl, b10⟩

end Go.Proofs.Ytoedbglbcbgdfaa
