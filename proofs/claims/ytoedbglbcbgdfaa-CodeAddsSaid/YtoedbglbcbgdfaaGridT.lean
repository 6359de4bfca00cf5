/- The closed fact that the laws of chapter 2 ask first is true. -/
import Derived.Test.YtoedbglbcbgdfaaGridS
import Derived.Test.YtoedbglbcbgdfaaGridH
import Derived.Test.YtoedbglbcbgdfaaGridF
namespace Go.Proofs.Ytoedbglbcbgdfaa
open Go.RowKit
set_option linter.unusedVariables false
theorem lit_mat2 (w : World) (r0 r1 : Array Value) (l0 l1 : List UInt8) (h0 : r0.toList = cb l0) (h1 : r1.toList = cb l1) (n0 : l0.length = 2) (n1 : l1.length = 2) (a b c : Nat) (ha : a = w.heap.size) (hb : b = w.heap.size + 1) (hc : c = w.heap.size + 1 + 1) :
    Ms (((w.alloc (.cells r0 5)).alloc (.cells r1 5)).alloc (.cells #[.slice (some ⟨a, 0, none⟩) 2 2, .slice (some ⟨b, 0, none⟩) 2 2] 27)) (some ⟨c, 0, none⟩) 2 2 [⟨some ⟨a, 0, none⟩, 2, 2, l0⟩, ⟨some ⟨b, 0, none⟩, 2, 2, l1⟩] := by
  subst ha hb hc
  have x0 := lit_bt w r0 l0 (by rw [n0]; decide) h0
  have x1 := lit_bt (w.alloc (.cells r0 5)) r1 l1 (by rw [n1]; decide) h1
  rw [n0] at x0
  rw [n1] at x1
  have e1 : (w.alloc (.cells r0 5)).heap.size = w.heap.size + 1 := by simp
  rw [e1] at x1
  have e2 : ((w.alloc (.cells r0 5)).alloc (.cells r1 5)).heap.size = w.heap.size + 1 + 1 := by simp
  refine ⟨⟨by decide, by decide, rfl, (fun e => by cases e), fun _ => ⟨_, 0, rfl, fun j u hj => ?_⟩⟩, fun r hr => ?_⟩
  · rw [Nat.zero_add, ← e2, cell_new]
    simpa [rwCells, Rw.v] using hj
  · simp only [List.mem_cons, List.not_mem_nil, or_false] at hr
    rcases hr with rfl | rfl
    · exact (x0.alloc _).alloc _
    · exact x1.alloc _
theorem undo_swap : Mat.Undo 2 (Mat.ent [[0, 1], [1, 0]]) (Mat.ent [[0, 1], [1, 0]]) := by
  have e : ∀ i j, i < 2 → j < 2 → Mat.mul 2 (Mat.ent [[0, 1], [1, 0]]) (Mat.ent [[0, 1], [1, 0]]) i j = Mat.one i j := by
    intro i j hi hj
    have hi' : i = 0 ∨ i = 1 := by omega
    have hj' : j = 0 ∨ j = 1 := by omega
    unfold Mat.mul Mat.sum Mat.sum Mat.sum
    rcases hi' with rfl | rfl <;> rcases hj' with rfl | rfl
    · show Mat.gadd (Mat.gadd 0 (Mat.gmul 0 0)) (Mat.gmul 1 1) = 1
      rw [Mat.mul_zero, Mat.mul_one]; decide
    · show Mat.gadd (Mat.gadd 0 (Mat.gmul 0 1)) (Mat.gmul 1 0) = 0
      rw [Mat.mul_zero, Mat.mul_one]; decide
    · show Mat.gadd (Mat.gadd 0 (Mat.gmul 1 0)) (Mat.gmul 0 1) = 0
      rw [Mat.mul_zero, Mat.mul_one]; decide
    · show Mat.gadd (Mat.gadd 0 (Mat.gmul 1 1)) (Mat.gmul 0 0) = 1
      rw [Mat.mul_zero, Mat.mul_one]; decide
  exact ⟨e, e⟩
theorem fine2 (x y z u : UInt8) : Mat.Fine [[x, y], [z, u]] 2 2 := ⟨rfl, fun r hr => by
  simp only [List.mem_cons, List.not_mem_nil, or_false] at hr
  rcases hr with rfl | rfl <;> rfl, by decide, by decide, by decide, by decide⟩
theorem inv_swap {L : List (List UInt8)} {e : Int} (h : Mat.InvR [[0, 1], [1, 0]] L e) : e = 0 ∧ L = [[0, 1], [1, 0]] := by
  rcases h.ok (fine2 0 1 1 0) with ⟨_, _, h3⟩ | ⟨f, h1, h2, h3⟩
  · exact absurd undo_swap.inj h3
  · exact ⟨h3, h1.uniq (fine2 0 1 1 0).rep (h2.uniq undo_swap)⟩
theorem one_two {L : List (List UInt8)} {e : Int} (h : Mat.OneR 2 L e) : e = 0 ∧ L = [[1, 0], [0, 1]] := by
  obtain ⟨h1, h2⟩ := Mat.OneR.ok (n := 2) (by decide) (by decide) h
  refine ⟨h2, h1.uniq (fine2 1 0 0 1).rep fun i j hi hj => ?_⟩
  have hi' : i = 0 ∨ i = 1 := by omega
  have hj' : j = 0 ∨ j = 1 := by omega
  rcases hi' with rfl | rfl <;> rcases hj' with rfl | rfl <;> rfl

set_option maxHeartbeats 1000000 in
theorem alive2_call (w : World) : Calls Try.prog 13 #[] w (Grew (.bool true) w) := by
  go_enter Try.func13, Try.ntmps13
  go_wp2_with fail
  have M0 := lit_mat2 w #[.int .u8 0, .int .u8 1] #[.int .u8 1, .int .u8 0] [0, 1] [1, 0] rfl rfl rfl rfl _ _ _ rfl rfl rfl
  have B0 : Below w.heap.size w (((w.alloc (.cells #[.int .u8 0, .int .u8 1] 5)).alloc (.cells #[.int .u8 1, .int .u8 0] 5)).alloc (.cells #[.slice (some ⟨w.heap.size, 0, none⟩) 2 2, .slice (some ⟨w.heap.size + 1, 0, none⟩) 2 2] 27)) := (((Below.refl _ _).alloc (Nat.le_refl _) _).alloc (by simp) _).alloc (by simp; omega) _
  go_at_call 15
  refine (gInvert_call _ _ _ _ _ M0).mono ?_
  rintro e w1 ⟨a1, n1, c1, R1, e1, rfl, h1, hp1, b1⟩
  obtain ⟨rfl, hd1⟩ := inv_swap hp1
  replace b1 := B0.trans (b1.mono B0.size)
  replace hd1 := hid hd1
  clear hp1 M0 B0
  go_wp2_with fail
  go_at_call 17
  refine (gOne_call _ _).mono ?_
  rintro e w2 ⟨a2, n2, c2, R2, e2, rfl, h2, hp2, b2⟩
  obtain ⟨rfl, hd2⟩ := one_two hp2
  replace hd2 := hid hd2
  have h3 := h1.below b2
  replace b2 := bnext b1 b2
  clear hp2 h1 b1
  go_wp2_with fail
  have M1 := lit_mat2 w2 #[.int .u8 0, .int .u8 1] #[.int .u8 1, .int .u8 0] [0, 1] [1, 0] rfl rfl rfl rfl _ _ _ rfl rfl rfl
  have B1 : Below w2.heap.size w2 (((w2.alloc (.cells #[.int .u8 0, .int .u8 1] 5)).alloc (.cells #[.int .u8 1, .int .u8 0] 5)).alloc (.cells #[.slice (some ⟨w2.heap.size, 0, none⟩) 2 2, .slice (some ⟨w2.heap.size + 1, 0, none⟩) 2 2] 27)) := (((Below.refl _ _).alloc (Nat.le_refl _) _).alloc (by simp) _).alloc (by simp; omega) _
  go_at_call 19
  refine (rSame_same _ _ _ _ _ _ _ _ _ (h3.below B1) M1 hd1.out).mono ?_
  rintro e w3 ⟨rfl, q, hq⟩
  have B2 : Below w2.heap.size w2 w3 := by rw [hq]; exact below_drewN B1 q
  replace hq := hid hq
  have h4 := h2.below B2
  replace b2 := bnext b2 B2
  clear M1 B1 B2 h2 h3
  go_wp2_with fail
  have M1 := lit_mat2 w3 #[.int .u8 1, .int .u8 0] #[.int .u8 0, .int .u8 1] [1, 0] [0, 1] rfl rfl rfl rfl _ _ _ rfl rfl rfl
  have B1 : Below w3.heap.size w3 (((w3.alloc (.cells #[.int .u8 1, .int .u8 0] 5)).alloc (.cells #[.int .u8 0, .int .u8 1] 5)).alloc (.cells #[.slice (some ⟨w3.heap.size, 0, none⟩) 2 2, .slice (some ⟨w3.heap.size + 1, 0, none⟩) 2 2] 27)) := (((Below.refl _ _).alloc (Nat.le_refl _) _).alloc (by simp) _).alloc (by simp; omega) _
  go_at_call 19
  refine (rSame_same _ _ _ _ _ _ _ _ _ (h4.below B1) M1 hd2.out).mono ?_
  rintro e w4 ⟨rfl, q2, hq2⟩
  have B2 : Below w3.heap.size w3 w4 := by rw [hq2]; exact below_drewN B1 q2
  replace hq2 := hid hq2
  replace b2 := bnext b2 B2
  clear M1 B1
  go_wp2_with fail
  go_ret
  exact ⟨ret_bool rfl, b2⟩

end Go.Proofs.Ytoedbglbcbgdfaa
