/- Walk of CodeTells. -/
import Derived.Test.YtoedbglbcbgdfaaCodeV
namespace Go.Proofs.Ytoedbglbcbgdfaa
open Go.RowKit
set_option linter.unusedVariables false

set_option maxHeartbeats 4000000 in
theorem CodeTells_walk (a : Option Addr) (n ac : Nat) (A : List Rw) (d z : Int) (hd : -9223372036854775808 ≤ d ∧ d ≤ 9223372036854775807) (w : World) (hA : Ms w a n ac A) : Calls Try.prog 8 #[.slice a n ac, .int .i64 d, .int .i64 z] w (Grew (.bool true) w) := by
  replace hd := hid hd
  obtain ⟨W, hW⟩ : ∃ W, Mat.wrongC d z = W := ⟨_, rfl⟩
  go_enter Try.func8, Try.ntmps8
  go_wp2_with fail
  go_at_call 23
  refine (cWrong_call _ _ _).mono ?_
  rintro e w0 ⟨rfl, rfl⟩
  rw [hW]
  go_wp2_with fail
  go_at_call 24
  refine (rWrongCode_call _ _ _).mono ?_
  rintro e w0 ⟨rfl, rfl⟩
  rw [hW]
  replace hW := hid hW
  go_wp2_with fail
  go_at_call 25
  refine (cGood_call _ _ _ _ _ hd.out _ hA).mono ?_
  rintro e w1 ⟨x1, rfl, hg1, b1⟩
  replace hg1 := hid hg1
  have A1 := hA.below b1
  go_wp2_with fail
  go_at_call 26
  refine (rGood_call _ _ _ _ _ hd.out _ A1).mono ?_
  rintro e w2 ⟨x2, rfl, hg2, b2⟩
  obtain rfl : x1 = x2 := hg1.out.uniq hg2
  replace b2 := bnext b1 b2
  have A2 := hA.below b2
  clear hg1 hg2 b1 A1
  go_wp2_with fail
  go_at_call 27
  refine (cRows_call _ _ _).mono ?_
  rintro e w3 ⟨a3, n3, c3, R3, e3, rfl, h3, hp3, b3⟩
  replace hp3 := hid hp3
  replace b3 := bnext b2 b3
  clear b2 A2
  go_wp2_with fail
  go_at_call 28
  refine (rRows_call _ _ _).mono ?_
  rintro e w4 ⟨a4, n4, c4, R4, e4, rfl, h4, hp4, b4⟩
  obtain ⟨hd4, rfl⟩ := hp3.out.uniq hp4
  replace hd4 := hid hd4
  replace h3 := h3.below b4
  replace b4 := bnext b3 b4
  clear hp3 hp4 b3
  go_wp2_with fail
  go_at_call 19
  refine (rSame_same _ _ _ _ _ _ _ _ _ h3 h4 hd4.out).mono ?_
  rintro e w5 ⟨rfl, q5, hq5⟩
  have b5 : Below w.heap.size w w5 := by rw [hq5]; exact below_drewN b4 q5
  replace hq5 := hid hq5
  have A5 := hA.below b5
  clear h3 h4 b4
  go_wp2_with fail
  go_at_call 29
  refine (cSpare_call _ _ _ _ _ _ A5).mono ?_
  rintro e w6 ⟨a6, n6, c6, R6, e6, rfl, h6, hp6, b6⟩
  replace hp6 := hid hp6
  replace b6 := bnext b5 b6
  have A6 := hA.below b6
  clear b5 A5
  go_wp2_with fail
  go_at_call 30
  refine (rSpare_call _ _ _ _ _ _ A6).mono ?_
  rintro e w7 ⟨a7, n7, c7, R7, e7, rfl, h7, hp7, b7⟩
  obtain ⟨hd7, rfl⟩ := hp6.out.uniq hp7
  replace hd7 := hid hd7
  replace h6 := h6.below b7
  replace b7 := bnext b6 b7
  clear hp6 hp7 b6 A6
  go_wp2_with fail
  go_at_call 19
  refine (rSame_same _ _ _ _ _ _ _ _ _ h6 h7 hd7.out).mono ?_
  rintro e w8 ⟨rfl, q8, hq8⟩
  have b8 : Below w.heap.size w w8 := by rw [hq8]; exact below_drewN b7 q8
  replace hq8 := hid hq8
  have A8 := hA.below b8
  clear h6 h7 b7
  go_wp2_with fail
  go_at_call 31
  refine (cMend_call _ _ _ _ _ hd.out _ A8).mono ?_
  rintro e w9 ⟨a9, n9, c9, R9, e9, rfl, h9, hp9, b9⟩
  replace hp9 := hid hp9
  replace b9 := bnext b8 b9
  have A9 := hA.below b9
  clear b8 A8
  go_wp2_with fail
  go_at_call 32
  refine (rMend_call _ _ _ _ _ hd.out _ A9).mono ?_
  rintro e w10 ⟨a10, n10, c10, R10, e10, rfl, h10, hp10, b10⟩
  obtain ⟨hd10, rfl⟩ := hp9.out.uniq hp10
  replace hd10 := hid hd10
  replace h9 := h9.below b10
  replace b10 := bnext b9 b10
  clear hp9 hp10 b9 A9
  go_wp2_with fail
  go_at_call 19
  refine (rSame_same _ _ _ _ _ _ _ _ _ h9 h10 hd10.out).mono ?_
  rintro e w11 ⟨rfl, q11, hq11⟩
  have b11 : Below w.heap.size w w11 := by rw [hq11]; exact below_drewN b10 q11
  replace hq11 := hid hq11
  go_wp2_with fail
  go_ret
  exact ⟨ret_bool rfl, b11⟩

end Go.Proofs.Ytoedbglbcbgdfaa
