/- Walks of GridOne, GridThree, GridBack. -/
import Derived.Test.YtjdgfijpmljhiaaGridT
namespace Go.Proofs.Ytjdgfijpmljhiaa
open Go.RowKit
set_option linter.unusedVariables false
/-- The first row of a matrix whose rows are alike, as memory has it. -/
theorem Ms.row0 {w : World} {a : Option Addr} {n cap m : Nat} {A : List Rw} (h : Ms w a n cap A) (hF : Mat.Fine (rwData A) n m) :
    ∃ b off r0 p0, a = some ⟨b, off, none⟩ ∧ ∀ w', Below w.heap.size w w' → w'.cell? ⟨b, off, none⟩ = some (.slice r0 m p0) := by
  have h1 := hF.n1
  obtain ⟨b, off, rfl, _⟩ := h.sl.addr (by omega)
  have hA0 : 0 < A.length := by rw [h.cnt]; omega
  have hl := Bt.n (h.at 0 hA0).2
  have hm : A[0].n = m := by rw [← hl]; exact hF.cols _ (List.mem_map.2 ⟨_, List.getElem_mem hA0, rfl⟩)
  refine ⟨b, off, A[0].a, A[0].cap, rfl, fun w' hb => ?_⟩
  have := ((h.below hb).at 0 hA0).1
  rw [hm] at this
  simpa using this
theorem Ms.wid {w : World} {a : Option Addr} {n cap : Nat} {A : List Rw} (h : Ms w a n cap A) (hw : Mat.wrongM (rwData A) = 0) : Mat.Fine (rwData A) n (Mat.wid (rwData A) 0) := by
  have := Mat.wrong_fine hw
  rwa [h.dn] at this
theorem eq_of_rep {K L : List (List UInt8)} {n m : Nat} {f : Mat.M} (h : Mat.Rep L n m f) (hK : Mat.Fine K n m) (e : ∀ i j, i < n → j < m → f i j = Mat.ent K i j) : L = K := h.uniq hK.rep e

end Go.Proofs.Ytjdgfijpmljhiaa
