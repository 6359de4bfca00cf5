/- The closed fact that the laws of chapter 2 ask first is true. -/
import Derived.Test.YtjdgfijpmljhiaaGridS
import Derived.Test.YtjdgfijpmljhiaaGridH
import Derived.Test.YtjdgfijpmljhiaaGridF
namespace Go.Proofs.Ytjdgfijpmljhiaa
open Go.RowKit
set_option linter.unusedVariables false
theorem lit_mat2 (w : World) (r0 r1 : Array Value) (l0 l1 : List UInt8) (h0 : r0.toList = cb l0) (h1 : r1.toList = cb l1) (n0 : l0.length = 2) (n1 : l1.length = 2) (a b c : Nat) (ha : a = w.heap.size) (hb : b = w.heap.size + 1) (hc : c = w.heap.size + 1 + 1) :
    Ms (((w.alloc (.cells r0 5)).alloc (.cells r1 5)).alloc (.cells #[.slice (some ⟨a, 0, none⟩) 2 2, .slice (some ⟨b, 0, none⟩) 2 2] 48)) (some ⟨c, 0, none⟩) 2 2 [⟨some ⟨a, 0, none⟩, 2, 2, l0⟩, ⟨some ⟨b, 0, none⟩, 2, 2, l1⟩] := by
  subst ha hb hc
  have x0 := lit_bt w r0 l0 (by rw [n0]; decide) h0
  have x1 := lit_bt (w.alloc (.cells r0 5)) r1 l1 (by rw [n1]; decide) h1
  rw [n0] at x0
  rw [n1] at x1
  have e1 : (w.alloc (.cells r0 5)).heap.size = w.heap.size + 1 := by simp
  rw [e1] at x1
  have e2 : ((w.alloc (.cells r0 5)).alloc (.cells r1 5)).heap.size = w.heap.size + 1 + 1 := by simp
  refine ⟨⟨by decide, by decide, rfl, (fun e => by cases e), fun _ => ⟨_, 0, rfl, fun j u hj => ?_⟩⟩, fun r hr => ?_⟩
  · rw [Nat.zero_add, ← e2, cell_new]
    simpa [rwCells, Rw.v] using hj
  · simp only [List.mem_cons, List.not_mem_nil, or_false] at hr
    rcases hr with rfl | rfl
    · exact (x0.alloc _).alloc _
    · exact x1.alloc _
theorem undo_swap : Mat.Undo 2 (Mat.ent [[0, 1], [1, 0]]) (Mat.ent [[0, 1], [1, 0]]) := by
  have e : ∀ i j, i < 2 → j < 2 → Mat.mul 2 (Mat.ent [[0, 1], [1, 0]]) (Mat.ent [[0, 1], [1, 0]]) i j = Mat.one i j := by
    intro i j hi hj
    have hi' : i = 0 ∨ i = 1 := by omega
    have hj' : j = 0 ∨ j = 1 := by omega
    unfold Mat.mul Mat.sum Mat.sum Mat.sum
    rcases hi' with rfl | rfl <;> rcases hj' with rfl | rfl
    · show Mat.gadd (Mat.gadd 0 (Mat.gmul 0 0)) (Mat.gmul 1 1) = 1
      rw [Mat.mul_zero, Mat.mul_one]; decide
    · show Mat.gadd (Mat.gadd 0 (Mat.gmul 0 1)) (Mat.gmul 1 0) = 0
      rw [Mat.mul_zero, Mat.mul_one]; decide
    · show Mat.gadd (Mat.gadd 0 (Mat.gmul 1 0)) (Mat.gmul 0 1) = 0
      rw [Mat.mul_zero, Mat.mul_one]; decide
    · show Mat.gadd (Mat.gadd 0 (Mat.gmul 1 1)) (Mat.gmul 0 0) = 1
      rw [Mat.mul_zero, Mat.mul_one]; decide
  exact ⟨e, e⟩
theorem fine2 (x y z u : UInt8) : Mat.Fine [[x, y], [z, u]] 2 2 := ⟨rfl, fun r hr => by
  simp only [List.mem_cons, List.not_mem_nil, or_false] at hr
  rcases hr with rfl | rfl <;> rfl, by decide, by decide, by decide, by decide⟩
theorem inv_swap {L : List (List UInt8)} {e : Int} (h : Mat.InvR [[0, 1], [1, 0]] L e) : e = 0 ∧ L = [[0, 1], [1, 0]] := by
  rcases h.ok (fine2 0 1 1 0) with ⟨_, _, h3⟩ | ⟨f, h1, h2, h3⟩
  · exact absurd undo_swap.inj h3
  · exact ⟨h3, h1.uniq (fine2 0 1 1 0).rep (h2.uniq undo_swap)⟩
theorem one_two {L : List (List UInt8)} {e : Int} (h : Mat.OneR 2 L e) : e = 0 ∧ L = [[1, 0], [0, 1]] := by
  obtain ⟨h1, h2⟩ := Mat.OneR.ok (n := 2) (by decide) (by decide) h
  refine ⟨h2, h1.uniq (fine2 1 0 0 1).rep fun i j hi hj => ?_⟩
  have hi' : i = 0 ∨ i = 1 := by omega
  have hj' : j = 0 ∨ j = 1 := by omega
  rcases hi' with rfl | rfl <;> rcases hj' with rfl | rfl <;> rfl

end Go.Proofs.Ytjdgfijpmljhiaa
