/- Contract of the reference's Same: of matrices with the same bytes it is true. -/
import Derived.Test.YtjdgfijpmljhiaaGridD
import Derived.Test.YtjdgfijpmljhiaaStr
namespace Go.Proofs.Ytjdgfijpmljhiaa
open Go.RowKit
set_option linter.unusedVariables false
theorem beq_refl_str (l : List UInt8) : ((⟨l.toArray⟩ : ByteArray) == ⟨l.toArray⟩) = true := by rw [str_eq]; simp
theorem bne_refl_str (l : List UInt8) : ((⟨l.toArray⟩ : ByteArray) != ⟨l.toArray⟩) = false := by
  show (!((⟨l.toArray⟩ : ByteArray) == ⟨l.toArray⟩)) = false
  rw [beq_refl_str]; rfl

set_option maxHeartbeats 1000000 in
theorem rSame_same (a b : Option Addr) (n ac m bc : Nat) (A B : List Rw) (w : World) (hA : Ms w a n ac A) (hB : Ms w b m bc B) (hd : rwData A = rwData B) : Calls Try.prog 30 #[.slice a n ac, .slice b m bc] w (Drew (.bool true) w) := by
  have hAn := hA.cnt
  have hBm := hB.cnt
  have hl : A.length = B.length := by have := congrArg List.length hd; rwa [rwData_length, rwData_length] at this
  obtain rfl : n = m := by omega
  have hle := hA.sl.le
  have hmax := hA.sl.max
  unfold maxLen at hmax
  have HA := hid hAn
  have HB := hid hBm
  clear hl hAn hBm
  go_enter Try.func30, Try.ntmps30
  go_wp2_with fail
  go_loopg [5, 13] n (fun g s5 i wr => ∃ k q : Nat, g = n - k ∧ k ≤ n ∧ i = .int .i64 (k : Int) ∧ wr = w.drewN q)
  case atStart => exact ⟨0, 0, rfl, by omega, rfl, rfl⟩
  case round =>
    obtain ⟨k, q, rfl, hk, rfl, rfl⟩ := hrel
    by_cases hlt : k < n
    · have hkA : k < A.length := by rw [HA.out]; exact hlt
      have hkB : k < B.length := by rw [HB.out]; exact hlt
      obtain ⟨b, boff, rfl, _⟩ := hB.sl.addr (by omega)
      obtain ⟨a, aoff, rfl, _⟩ := hA.sl.addr (by omega)
      obtain ⟨c0, d0⟩ := (hA.drewN q).at k hkA
      obtain ⟨c1, d1⟩ := (hB.drewN q).at k hkB
      have e0 : A[k].l = B[k].l := by
        have h1 := rwData_get A k hkA
        rw [hd, rwData_get B k hkB] at h1
        exact (Option.some.inj h1).symm
      rw [e0] at d0
      have q0 := fun s => Bt.str (Sl.drewN d0 s)
      have q1 := fun s => Bt.str (Sl.drewN d1 s)
      have q2 := bne_refl_str B[k].l
      have q3 := beq_refl_str B[k].l
      clear d0 d1 e0
      obtain ⟨W, hW⟩ : ∃ W, w.drewN q = W := ⟨_, rfl⟩
      rw [hW] at c0 c1 q0 q1 ⊢
      replace hW := hid hW
      generalize (⟨B[k].l.toArray⟩ : ByteArray) = S at *
      generalize A[k] = r0 at *
      generalize B[k] = r1 at *
      obtain ⟨a0, n0, p0, l0⟩ := r0
      obtain ⟨a1, n1, p1, l1⟩ := r1
      simp only at c0 c1 q0 q1
      have i0 : (0 : Int) ≤ (k : Int) := Int.natCast_nonneg _
      have i1 : (k : Int) < (n : Int) := by omega
      go_wp2_with fail
      go_quiet (fail)
      go_wp2_with fail
      go_roundg (n - (k + 1))
      case measure => omega
      case rel => exact ⟨k + 1, _, rfl, by omega, by go_num, by rw [← hW.out]; exact World.drewN_drewN _ _ _⟩
    · obtain rfl : k = n := by omega
      go_wp2_with fail
      go_ret
      exact ⟨ret_bool rfl, _, rfl⟩

end Go.Proofs.Ytjdgfijpmljhiaa
