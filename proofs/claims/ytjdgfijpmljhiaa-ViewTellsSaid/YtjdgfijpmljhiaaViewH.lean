/- Contract of the reference's SameView at the same data; alive. -/
import Derived.Test.YtjdgfijpmljhiaaViewG
namespace Go.Proofs.Ytjdgfijpmljhiaa
open Go.RowKit
set_option linter.unusedVariables false
theorem As.drewN {w : World} {a : Option Addr} {n cap : Nat} {l : List Vw.Acc} (h : As w a n cap l) (k : Nat) : As (w.drewN k) a n cap l := ⟨h.sl.drewN k, h.ok⟩

set_option maxHeartbeats 2000000 in
theorem rSameView_same (u : Int) (a a' : Option Addr) (n cap n' cap' : Nat) (l : List Vw.Acc) (w : World) (h : As w a n cap l) (h' : As w a' n' cap' l) : Calls Try.prog 20 #[viVal u a n cap, viVal u a' n' cap'] w (Grew (.bool true) w) := by
  obtain rfl : n' = n := h'.cnt.symm.trans h.cnt
  have hmax := h.sl.max
  have hle := h.sl.le
  unfold maxLen at hmax
  have HN := hid h.cnt
  unfold viVal
  go_enter Try.func20, Try.ntmps20
  go_wp2_with fail
  obtain ⟨V, hV⟩ : ∃ V, V = (w.alloc (.cells #[.int .i64 u, .slice a n' cap] 24)).alloc (.cells #[.int .i64 u, .slice a' n' cap'] 24) := ⟨_, rfl⟩
  rw [← hV]
  have v1 : V.heap[w.heap.size]? = some (.cells #[.int .i64 u, .slice a n' cap] 24 (0, 0)) := by rw [hV]; exact blk_old (blk_new _ _)
  have v2 : V.heap[w.heap.size + 1]? = some (.cells #[.int .i64 u, .slice a' n' cap'] 24 (0, 0)) := by rw [hV]; simpa using blk_new (w.alloc (.cells #[.int .i64 u, .slice a n' cap] 24)) _
  have hb : Below w.heap.size w V := by rw [hV]; exact ((Below.refl _ _).alloc (Nat.le_refl _) _).alloc (by simp) _
  replace h := h.below hb
  replace h' := h'.below hb
  clear hV
  have r0 : V.cell? ⟨w.heap.size, 0, none⟩ = some (.int .i64 u) := blk_cell v1
  have r1 : V.cell? ⟨w.heap.size, 1, none⟩ = some (.slice a n' cap) := blk_cell v1
  have r2 : V.cell? ⟨w.heap.size + 1, 0, none⟩ = some (.int .i64 u) := blk_cell v2
  have r3 : V.cell? ⟨w.heap.size + 1, 1, none⟩ = some (.slice a' n' cap') := blk_cell v2
  go_wp2_with fail
  go_loopg [5, 23, 26, 27, 28, 29, 30, 31, 32, 33, 34, 35, 36] n' (fun g s5 i s26 s27 s28 s29 s30 s31 s32 s33 s34 s35 s36 wr => ∃ k j : Nat, g = n' - k ∧ k ≤ n' ∧ i = .int .i64 (k : Int) ∧ wr = V.drewN j)
  case atStart => exact ⟨0, 0, rfl, by omega, rfl, rfl⟩
  case round =>
    obtain ⟨k, j, rfl, hk, rfl, hW⟩ := hrel
    have HW := hid hW
    have h := hW ▸ h.drewN j
    have h' := hW ▸ h'.drewN j
    have r0 : wr.cell? ⟨w.heap.size, 0, none⟩ = some (.int .i64 u) := by rw [hW]; exact r0
    have r1 : wr.cell? ⟨w.heap.size, 1, none⟩ = some (.slice a n' cap) := by rw [hW]; exact r1
    have r2 : wr.cell? ⟨w.heap.size + 1, 0, none⟩ = some (.int .i64 u) := by rw [hW]; exact r2
    have r3 : wr.cell? ⟨w.heap.size + 1, 1, none⟩ = some (.slice a' n' cap') := by rw [hW]; exact r3
    clear hW
    by_cases hlt : k < n'
    · have hkl : k < l.length := by rw [HN.out]; exact hlt
      obtain ⟨b, off, rfl, _⟩ := h.sl.addr (by omega)
      obtain ⟨b', off', rfl, _⟩ := h'.sl.addr (by omega)
      obtain ⟨q0, q1, q2, q3⟩ := h.at k hkl
      obtain ⟨p0, p1, p2, p3⟩ := h'.at k hkl
      generalize l[k] = e at *
      have hi0 : (0 : Int) ≤ (k : Int) := Int.natCast_nonneg _
      have hi1 : (k : Int) < (n' : Int) := by omega
      go_wp2_with fail
      go_quiet (fail)
      go_wp2_with fail
      go_roundg (n' - (k + 1))
      case measure => omega
      case rel => exact ⟨k + 1, _, rfl, by omega, by go_num, by rw [HW.out, World.drewN_drewN]⟩
    · obtain rfl : k = n' := by omega
      go_wp2_with fail
      go_ret
      exact ⟨rfl, by rw [HW.out]; exact below_drewN hb _⟩

end Go.Proofs.Ytjdgfijpmljhiaa
