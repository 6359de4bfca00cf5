/- Contracts of the reference's SameEvents and SameBatches at the same data. -/
import Derived.Test.YtkngfobnfocpjaaEvMem
import Derived.Test.YtkngfobnfocpjaaKit3
namespace Go.Proofs.Ytkngfobnfocpjaa
open Go.RowKit
set_option linter.unusedVariables false

theorem Es.drewN {w : World} {a : Option Addr} {n cap : Nat} {l : List Evt.Ev} (h : Es w a n cap l) (k : Nat) : Es (w.drewN k) a n cap l := ⟨h.sl.drewN k, h.ok⟩
theorem Bs.drewN {w : World} {a : Option Addr} {n cap : Nat} {l : List Rb} (h : Bs w a n cap l) (k : Nat) : Bs (w.drewN k) a n cap l := ⟨h.sl.drewN k, fun r hr => (h.ev r hr).drewN k⟩
set_option maxHeartbeats 1000000 in
theorem rSameEvents_same (a a' : Option Addr) (n cap n' cap' : Nat) (l : List Evt.Ev) (w : World) (h : Es w a n cap l) (h' : Es w a' n' cap' l) : Calls Try.prog 53 #[.slice a n cap, .slice a' n' cap'] w (Drew (.bool true) w) := by
  obtain rfl : n' = n := h'.n.symm.trans h.n
  have hmax := h.sl.max
  have hle := h.sl.le
  unfold maxLen at hmax
  have HN := hid h.n
  go_enter Try.func53, Try.ntmps53
  go_wp2
  go_loopg [5, 13, 16, 17, 18, 19, 20, 21, 22, 23, 24] n' (fun g s5 i s16 s17 s18 s19 s20 s21 s22 s23 s24 wr => ∃ k j : Nat, g = n' - k ∧ k ≤ n' ∧ i = .int .i64 k ∧ wr = w.drewN j)
  case atStart => exact ⟨0, 0, rfl, by omega, rfl, rfl⟩
  case round =>
    obtain ⟨k, j, rfl, hk, rfl, rfl⟩ := hrel
    by_cases hlt : k < n'
    · have hkl : k < l.length := by rw [HN.out]; exact hlt
      obtain ⟨b, off, rfl, _⟩ := h.sl.addr (by omega)
      obtain ⟨b', off', rfl, _⟩ := h'.sl.addr (by omega)
      obtain ⟨q0, q1, q2⟩ := h.at k hkl
      obtain ⟨p0, p1, p2⟩ := h'.at k hkl
      generalize l[k] = e at *
      go_wp2_with fail
      go_quiet (fail)
      go_wp2_with fail
      go_roundg (n' - (k + 1))
      case measure => omega
      case rel => exact ⟨k + 1, _, rfl, by omega, by go_num, rfl⟩
    · obtain rfl : k = n' := by omega
      go_wp2
      go_ret
      exact ⟨rfl, j, rfl⟩

set_option maxRecDepth 100000 in
set_option maxHeartbeats 1000000 in
theorem rSameBatches_same (a a' : Option Addr) (n cap n' cap' : Nat) (l l' : List Rb) (w : World) (h : Bs w a n cap l) (h' : Bs w a' n' cap' l') (hl : l.map Rb.ba = l'.map Rb.ba) : Calls Try.prog 42 #[.slice a n cap, .slice a' n' cap'] w (Drew (.bool true) w) := by
  have hll : l.length = l'.length := by have := congrArg List.length hl; simpa using this
  obtain rfl : n' = n := h'.n.symm.trans (hll.symm.trans h.n)
  have hmax := h.sl.max
  have hle := h.sl.le
  unfold maxLen at hmax
  have HN := hid h.n
  have HN' := hid h'.n
  have HL := hid hl
  clear hl hll
  go_enter Try.func42, Try.ntmps42
  go_wp2
  go_loopg [5, 13, 16, 17, 18, 19, 20, 21, 22, 23, 24, 25, 26, 27, 28, 29, 30, 31, 32, 33, 34, 35, 36, 37, 38, 39, 40] n' (fun g s5 i s16 s17 s18 s19 s20 s21 s22 s23 s24 s25 s26 s27 s28 s29 s30 s31 s32 s33 s34 s35 s36 s37 s38 s39 s40 wr => ∃ k j : Nat, g = n' - k ∧ k ≤ n' ∧ i = .int .i64 k ∧ wr = w.drewN j)
  case atStart => exact ⟨0, 0, rfl, by omega, rfl, rfl⟩
  case round =>
    obtain ⟨k, j, rfl, hk, rfl, hW⟩ := hrel
    have HW := hid hW
    have h := hW ▸ h.drewN j
    have h' := hW ▸ h'.drewN j
    clear hW
    by_cases hlt : k < n'
    · have hkl : k < l.length := by rw [HN.out]; exact hlt
      have hkl' : k < l'.length := by rw [HN'.out]; exact hlt
      obtain ⟨b, off, rfl, _⟩ := h.sl.addr (by omega)
      obtain ⟨b', off', rfl, _⟩ := h'.sl.addr (by omega)
      obtain ⟨q0, q1, q2⟩ := h.at k hkl
      obtain ⟨p0, p1, p2⟩ := h'.at k hkl'
      have he : (l[k]).ba = (l'[k]).ba := by
        have := congrArg (fun x => x[k]?) HL.out
        simpa [hkl, hkl'] using this
      generalize l[k] = r at *
      generalize l'[k] = r' at *
      obtain ⟨c, ea, en, ec, evs⟩ := r
      obtain ⟨c', ea', en', ec', evs'⟩ := r'
      have e1 : c = c' := congrArg Evt.Ba.c he
      have e2 : evs = evs' := congrArg Evt.Ba.evs he
      subst e1
      subst e2
      clear he
      simp only at q0 q1 q2 p0 p1 p2
      have hi0 : (0 : Int) ≤ (k : Int) := Int.natCast_nonneg _
      have hi1 : (k : Int) < (n' : Int) := by omega
      go_wp2_with fail
      go_quiet ((go_at_call 53; exact Calls.quiet_of (rSameEvents_same _ _ _ _ _ _ evs _ (q2.drewN _) (p2.drewN _))))
      go_wp2_with fail
      go_roundg (n' - (k + 1))
      case measure => omega
      case rel => exact ⟨k + 1, _, rfl, by omega, by go_num, by rw [HW.out, World.drewN_drewN]⟩
    · obtain rfl : k = n' := by omega
      go_wp2
      go_ret
      exact ⟨rfl, j, HW.out⟩

end Go.Proofs.Ytkngfobnfocpjaa
