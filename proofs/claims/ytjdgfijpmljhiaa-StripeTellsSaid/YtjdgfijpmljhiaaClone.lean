/- Contract of slices.Clone at bytes. -/
import Derived.Test.YtjdgfijpmljhiaaKit2
import Derived.WalkSpells
namespace Go.Proofs.Ytjdgfijpmljhiaa
open Go.RowKit
set_option linter.unusedVariables false

set_option maxHeartbeats 1000000 in
theorem cloneBytes_call (a : Option Addr) (n cap : Nat) (l : List UInt8) (w : World) (h : Bt w a n cap l) (hlim : n ≤ 140737488355328) :
    Calls Try.prog 77 #[.slice a n cap] w fun e w' => ∃ v, e = .returned v ∧ Below w.heap.size w w' ∧ w'.ownsRow w.heap.size 5 1 v n (cb l) := by
  cases a with
  | none =>
    have h0 := h.nil rfl
    have hle := h.le
    obtain rfl : n = 0 := by omega
    obtain rfl : cap = 0 := h0
    have he := fun wx => Lib.run_eql_slice_nil (P := Try.prog) wx 48 5 none 0 0 0 0 Try.underlying48
    go_enter Try.func77, Try.ntmps77
    go_wp2
    go_ret
    exact ⟨_, rfl, Below.refl _ _, by have := h.len; simp at this; rw [this]; exact World.ownsRow_nil _ _ _ _⟩
  | some p =>
    have he := fun wx => Lib.run_eql_slice_nil (P := Try.prog) wx 48 5 (some p) n cap 0 0 Try.underlying48
    have HN := hid (Bt.n h)
    have hln : l.length ≤ 140737488355328 := by rw [HN.out]; exact hlim
    go_enter Try.func77, Try.ntmps77
    go_wp2_with (at_builtin; (refine wpList_append_bytes rfl (.tmp 5) (.tmp 6) rfl w.heap.size (.slice (some ⟨w.heap.size, 0, none⟩) 0 0) [] l rfl (own_lit w w.heap.size (Nat.le_refl _) _ [] (by decide) rfl) (some p) n cap rfl (h.alloc _) ?d1 ?d2 ?_); (case d1 => simp; omega); (case d2 => simp); intro v2 w4 ho2 hg2)
    go_ret
    refine ⟨v2, rfl, below_grown1 ((Below.refl _ _).alloc (Nat.le_refl _) _) (by simp) hg2 (Nat.le_refl _), ?_⟩
    rw [List.nil_append, HN.out] at ho2
    exact ho2

end Go.Proofs.Ytjdgfijpmljhiaa
