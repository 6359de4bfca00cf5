/- How arguments that came in are read: integers, bytes, blocks. -/
import Derived.Test.YtjdgfijpmljhiaaMem
import Derived.Test.YtjdgfijpmljhiaaLaw
import Derived.Lib.SmallJoins
namespace Go.Proofs.Ytjdgfijpmljhiaa
open Go.ChangeShapes Go.WideShapes Go.ChangeAt Go.RowKit Go.Joins
set_option linter.unusedVariables false
theorem i64_bounds' {a : Int} (h : (Lit.int .i64 a).wf = true) : -9223372036854775808 ≤ a ∧ a ≤ 9223372036854775807 := by
  simpa [Lit.wf, IntKind.min, IntKind.max, IntKind.signed, IntKind.bits] using h
/-- A slice of bytes that came in, read as data, is one whose bytes one can read. -/
theorem open_bt {H : Type} {enc : TypeId × Value → H} {w : World} {base fuel : Nat} {spare : Nat → Bool} {held : Bool} {v : Value} {x : DataW H × List MemPlace}
    (h : DataW.trod enc Try.prog w base spare held fuel 48 [v] = some x) : ∃ a n cap l, v = .slice a n cap ∧ Bt w a n cap l := by
  rcases open_ints Try.underlying48 Try.underlying5 (by kernel_rfl) h with ⟨hcs, _⟩ | ⟨a, n, cap, zs, hcs, _, hl, hm, hz, _, hc, hw⟩
  · obtain rfl : v = .slice none 0 0 := by simpa using hcs
    exact ⟨none, 0, 0, [], rfl, Sl.none _ _⟩
  · obtain rfl : v = .slice (some a) n cap := by simpa using hcs
    have hzn : n ≤ zs.length := by rw [hz]; split <;> omega
    have hb : ∀ z ∈ zs, 0 ≤ z ∧ z ≤ 255 := fun z hz => by simpa [Lit.wf, IntKind.min, IntKind.max, IntKind.signed, IntKind.bits] using hw z hz
    refine ⟨some a, n, cap, (zs.take n).map fun z => UInt8.ofNat z.toNat, rfl, hl, hm, (by simp [cb]; omega), (fun e => by cases e), fun hn => ?_⟩
    obtain ⟨b, off, rfl, hcell⟩ := ints_at hc (by omega)
    refine ⟨b, off, rfl, fun j u hj => ?_⟩
    have hj' : j < n := by
      have := (List.getElem?_eq_some_iff.1 hj).1
      simp [cb] at this; omega
    have hjl : j < zs.length := by omega
    have hz0 := hb (zs[j]) (List.getElem_mem _)
    simp [cb, hj', hjl] at hj
    rw [hcell j hjl, ← hj]
    simp [hjl]
    omega
theorem u8_bounds {a : Int} (h : (Lit.int .u8 a).wf = true) : 0 ≤ a ∧ a ≤ 255 := by
  simpa [Lit.wf, IntKind.min, IntKind.max, IntKind.signed, IntKind.bits] using h
theorem i64_bounds {a : Int} (h : (Lit.int .i64 a).wf = true) : -9223372036854775808 ≤ a ∧ a ≤ 9223372036854775807 := i64_bounds' h

set_option maxRecDepth 100000 in
theorem open_block {H : Type} {enc : TypeId × Value → H} {w : World} {b0 base : Nat} {spare : Nat → Bool} {held : Bool} {v : Value} {d : DataW H} {p : List MemPlace} (hv : Value.okWide Try.prog w .any b0 77 v)
    (h : DataW.Trod enc Try.prog w base spare held 77 v d p) : ∃ (g s z : Int) (a : Option Addr) (n cap : Nat) (l : List UInt8), v = .agg #[.int .i64 g, .int .i64 s, .int .i64 z, .slice a n cap] ∧ Bt w a n cap l ∧
      (-9223372036854775808 ≤ g ∧ g ≤ 9223372036854775807) ∧ (-9223372036854775808 ≤ s ∧ s ≤ 9223372036854775807) ∧ (-9223372036854775808 ≤ z ∧ z ≤ 9223372036854775807) := by
  obtain ⟨v0, v1, v2, v3, y0, y1, y2, y3, n, rfl, rfl, rfl, h0, h1, h2, h3⟩ := open_agg4 Try.underlying77 (by kernel_rfl) (by kernel_rfl) hv h
  obtain ⟨g, e0, _, w0⟩ := DataW.trod_int Try.underlying3 h0
  obtain ⟨s, e1, _, w1⟩ := DataW.trod_int Try.underlying3 h1
  obtain ⟨z, e2, _, w2⟩ := DataW.trod_int Try.underlying3 h2
  obtain ⟨a, n, cap, l, rfl, hb⟩ := open_bt h3
  simp at e0 e1 e2
  subst e0 e1 e2
  exact ⟨g, s, z, a, n, cap, l, rfl, hb, i64_bounds' w0, i64_bounds' w1, i64_bounds' w2⟩

end Go.Proofs.Ytjdgfijpmljhiaa
