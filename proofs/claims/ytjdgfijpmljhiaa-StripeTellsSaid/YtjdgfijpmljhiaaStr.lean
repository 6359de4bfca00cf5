/- Bytes as strings: 'string(b)' of bytes that one can read; when two are the same. -/
import Derived.Test.YtjdgfijpmljhiaaKit3
import Derived.Laws.IdiomStrings
import Derived.Lib.BufferRead
namespace Go.Proofs.Ytjdgfijpmljhiaa
open Go.RowKit
set_option linter.unusedVariables false
/-- 'string(b)' of bytes that one can read. -/
theorem Bt.str {w : World} {a : Option Addr} {n cap : Nat} {l : List UInt8} (h : Bt w a n cap l) : (convert 48 9 (.slice a n cap)).run Try.prog w = .ok (.string ⟨l.toArray⟩) w := by
  have hn := Bt.n h
  cases a with
  | none =>
    have h0 := h.nil rfl
    have hle := h.le
    obtain rfl : n = 0 := by omega
    obtain rfl : l = [] := List.eq_nil_of_length_eq_zero hn
    exact Lib.run_convert_nil_bytes w 48 9 5 cap Try.underlying48 Try.underlying5 Try.underlying9
  | some p =>
    subst hn
    refine run_convert_bytes_back w 48 9 5 p cap l Try.underlying48 Try.underlying5 Try.underlying9 ?_
    intro j hj
    obtain ⟨b, off, e, hc⟩ := h.addr (by omega)
    cases e
    rw [add_off, hc j _ (cb_get l j hj)]
    simp [at8, List.getD, hj]
theorem str_eq (l m : List UInt8) : ((⟨l.toArray⟩ : ByteArray) == ⟨m.toArray⟩) = decide (l = m) := by
  show (l.toArray == m.toArray) = _
  by_cases h : l = m
  · subst h; simp
  · rw [decide_eq_false h]
    refine beq_eq_false_iff_ne.2 fun e => h ?_
    simpa using e
theorem beq_dec (l m : List UInt8) : (l == m) = decide (l = m) := by
  by_cases h : l = m
  · subst h; simp
  · rw [decide_eq_false h]; exact beq_eq_false_iff_ne.2 h
end Go.Proofs.Ytjdgfijpmljhiaa
