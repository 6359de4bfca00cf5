import Derived.Test.YtkngfobnfocpjaaBlockC
import Derived.Laws.IdiomStrings
import Derived.Lib.BufferRead
namespace Go.Proofs.Ytkngfobnfocpjaa
open Go.RowKit
set_option linter.unusedVariables false

/-- 'string(b)' of bytes that one can read. -/
theorem Bt.str {w : World} {a : Option Addr} {n cap : Nat} {l : List UInt8} (h : Bt w a n cap l) : (convert 30 9 (.slice a n cap)).run Try.prog w = .ok (.string ⟨l.toArray⟩) w := by
  have hn := Bt.n h
  cases a with
  | none =>
    have h0 := h.nil rfl
    have hle := h.le
    obtain rfl : n = 0 := by omega
    obtain rfl : l = [] := List.eq_nil_of_length_eq_zero hn
    exact Lib.run_convert_nil_bytes w 30 9 5 cap Try.underlying30 Try.underlying5 Try.underlying9
  | some p =>
    subst hn
    refine run_convert_bytes_back w 30 9 5 p cap l Try.underlying30 Try.underlying5 Try.underlying9 ?_
    intro j hj
    obtain ⟨b, off, e, hc⟩ := h.addr (by omega)
    cases e
    rw [add_off, hc j _ (cb_get l j hj)]
    simp [at8, List.getD, hj]
theorem str_eq (l m : List UInt8) : ((⟨l.toArray⟩ : ByteArray) == ⟨m.toArray⟩) = decide (l = m) := by
  show (l.toArray == m.toArray) = _
  by_cases h : l = m
  · subst h; simp
  · rw [decide_eq_false h]
    refine beq_eq_false_iff_ne.2 fun e => h ?_
    simpa using e
theorem beq_dec (l m : List UInt8) : (l == m) = decide (l = m) := by
  by_cases h : l = m
  · subst h; simp
  · rw [decide_eq_false h]; exact beq_eq_false_iff_ne.2 h

set_option maxRecDepth 100000 in
set_option maxHeartbeats 4000000 in
theorem rSameBlock_call (g s z g' s' z' : Int) (a a' : Option Addr) (n cap n' cap' : Nat) (l l' : List UInt8) (w : World) (h : Bt w a n cap l) (h' : Bt w a' n' cap' l') :
    Calls Try.prog 30 #[.agg #[.int .i64 g, .int .i64 s, .int .i64 z, .slice a n cap], .agg #[.int .i64 g', .int .i64 s', .int .i64 z', .slice a' n' cap']] w (Grew (.bool (decide (g = g' ∧ s = s' ∧ z = z' ∧ l = l'))) w) := by
  have e1 := Bt.str ((h.alloc (.cells #[.int .i64 g, .int .i64 s, .int .i64 z, .slice a n cap] 32)).alloc (.cells #[.int .i64 g', .int .i64 s', .int .i64 z', .slice a' n' cap'] 32))
  have e2 := Bt.str ((h'.alloc (.cells #[.int .i64 g, .int .i64 s, .int .i64 z, .slice a n cap] 32)).alloc (.cells #[.int .i64 g', .int .i64 s', .int .i64 z', .slice a' n' cap'] 32))
  have e3 := str_eq l l'
  by_cases hg : g = g'
  · have b1 : (g == g') = true := by rw [hg]; simp
    have HG := hid hg
    clear hg
    by_cases hs : s = s'
    · have b2 : (s == s') = true := by rw [hs]; simp
      have HS := hid hs
      clear hs
      by_cases hz : z = z'
      · have b3 : (z == z') = true := by rw [hz]; simp
        have HZ := hid hz
        clear hz
        go_enter Try.func30, Try.ntmps30
        go_wp2
        go_ret
        exact ⟨ret_bool (by rw [beq_dec]; exact decide_eq_decide.2 ⟨fun e => ⟨HG.out, HS.out, HZ.out, e⟩, fun e => e.2.2.2⟩), ((Below.refl _ _).alloc (Nat.le_refl _) _).alloc (by simp) _⟩
      · have b3 : (z == z') = false := beq_eq_false_iff_ne.2 hz
        have HZ := hid hz
        clear hz
        go_enter Try.func30, Try.ntmps30
        go_wp2
        go_ret
        exact ⟨ret_bool (decide_eq_false fun e => HZ.out e.2.2.1).symm, ((Below.refl _ _).alloc (Nat.le_refl _) _).alloc (by simp) _⟩
    · have b2 : (s == s') = false := beq_eq_false_iff_ne.2 hs
      have HZ := hid hs
      clear hs
      go_enter Try.func30, Try.ntmps30
      go_wp2
      go_ret
      exact ⟨ret_bool (decide_eq_false fun e => HZ.out e.2.1).symm, ((Below.refl _ _).alloc (Nat.le_refl _) _).alloc (by simp) _⟩
  · have b1 : (g == g') = false := beq_eq_false_iff_ne.2 hg
    have HZ := hid hg
    clear hg
    go_enter Try.func30, Try.ntmps30
    go_wp2
    go_ret
    exact ⟨ret_bool (decide_eq_false fun e => HZ.out e.1).symm, ((Below.refl _ _).alloc (Nat.le_refl _) _).alloc (by simp) _⟩

end Go.Proofs.Ytkngfobnfocpjaa
