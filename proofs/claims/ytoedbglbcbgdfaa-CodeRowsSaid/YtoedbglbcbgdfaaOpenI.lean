/- How lists of numbers that came in are read. -/
import Derived.Test.YtoedbglbcbgdfaaOpenM
import Derived.Test.YtoedbglbcbgdfaaCodeJ
namespace Go.Proofs.Ytoedbglbcbgdfaa
open Go.ChangeShapes Go.WideShapes Go.ChangeAt Go.RowKit Go.Joins
set_option linter.unusedVariables false
theorem open_is {H : Type} {enc : TypeId × Value → H} {w : World} {base fuel : Nat} {spare : Nat → Bool} {held : Bool} {v : Value} {x : DataW H × List MemPlace}
    (h : DataW.trod enc Try.prog w base spare held fuel 43 [v] = some x) : ∃ a n cap zs, v = .slice a n cap ∧ Is w a n cap zs := by
  rcases open_ints Try.underlying43 Try.underlying3 (by kernel_rfl) h with ⟨hcs, _⟩ | ⟨a, n, cap, zs, hcs, _, hl, hm, hz, _, hc, hw⟩
  · obtain rfl : v = .slice none 0 0 := by simpa using hcs
    exact ⟨none, 0, 0, [], rfl, Sl.none _ _⟩
  · obtain rfl : v = .slice (some a) n cap := by simpa using hcs
    have hzn : n ≤ zs.length := by rw [hz]; split <;> omega
    refine ⟨some a, n, cap, zs.take n, rfl, hl, hm, (by simp; omega), (fun e => by cases e), fun hn => ?_⟩
    obtain ⟨b, off, rfl, hcell⟩ := ints_at hc (by omega)
    refine ⟨b, off, rfl, fun j u hj => ?_⟩
    have hj' : j < n := by
      have := (List.getElem?_eq_some_iff.1 hj).1
      simp at this; omega
    have hjl : j < zs.length := by omega
    simp [hj', hjl] at hj
    rw [hcell j hjl, ← hj]
    simp [List.getD, hjl]
end Go.Proofs.Ytoedbglbcbgdfaa
