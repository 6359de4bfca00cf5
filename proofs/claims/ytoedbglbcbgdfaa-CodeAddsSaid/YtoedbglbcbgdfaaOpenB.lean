/- How arguments that came in are read: integers, bytes, blocks. -/
import Derived.Test.YtoedbglbcbgdfaaMem
import Derived.Test.YtoedbglbcbgdfaaLaw
import Derived.Lib.SmallJoins
namespace Go.Proofs.Ytoedbglbcbgdfaa
open Go.ChangeShapes Go.WideShapes Go.ChangeAt Go.RowKit Go.Joins
set_option linter.unusedVariables false
theorem i64_bounds' {a : Int} (h : (Lit.int .i64 a).wf = true) : -9223372036854775808 ≤ a ∧ a ≤ 9223372036854775807 := by
  simpa [Lit.wf, IntKind.min, IntKind.max, IntKind.signed, IntKind.bits] using h
/-- A slice of bytes that came in, read as data, is one whose bytes one can read. -/
theorem open_bt {H : Type} {enc : TypeId × Value → H} {w : World} {base fuel : Nat} {spare : Nat → Bool} {held : Bool} {v : Value} {x : DataW H × List MemPlace}
    (h : DataW.trod enc Try.prog w base spare held fuel 27 [v] = some x) : ∃ a n cap l, v = .slice a n cap ∧ Bt w a n cap l := by
  rcases open_ints Try.underlying27 Try.underlying5 (by kernel_rfl) h with ⟨hcs, _⟩ | ⟨a, n, cap, zs, hcs, _, hl, hm, hz, _, hc, hw⟩
  · obtain rfl : v = .slice none 0 0 := by simpa using hcs
    exact ⟨none, 0, 0, [], rfl, Sl.none _ _⟩
  · obtain rfl : v = .slice (some a) n cap := by simpa using hcs
    have hzn : n ≤ zs.length := by rw [hz]; split <;> omega
    have hb : ∀ z ∈ zs, 0 ≤ z ∧ z ≤ 255 := fun z hz => by simpa [Lit.wf, IntKind.min, IntKind.max, IntKind.signed, IntKind.bits] using hw z hz
    refine ⟨some a, n, cap, (zs.take n).map fun z => UInt8.ofNat z.toNat, rfl, hl, hm, (by simp [cb]; omega), (fun e => by cases e), fun hn => ?_⟩
    obtain ⟨b, off, rfl, hcell⟩ := ints_at hc (by omega)
    refine ⟨b, off, rfl, fun j u hj => ?_⟩
    have hj' : j < n := by
      have := (List.getElem?_eq_some_iff.1 hj).1
      simp [cb] at this; omega
    have hjl : j < zs.length := by omega
    have hz0 := hb (zs[j]) (List.getElem_mem _)
    simp [cb, hj', hjl] at hj
    rw [hcell j hjl, ← hj]
    simp [hjl]
    omega
theorem u8_bounds {a : Int} (h : (Lit.int .u8 a).wf = true) : 0 ≤ a ∧ a ≤ 255 := by
  simpa [Lit.wf, IntKind.min, IntKind.max, IntKind.signed, IntKind.bits] using h
theorem i64_bounds {a : Int} (h : (Lit.int .i64 a).wf = true) : -9223372036854775808 ≤ a ∧ a ≤ 9223372036854775807 := i64_bounds' h

end Go.Proofs.Ytoedbglbcbgdfaa
