/- Contracts of what is wrong with a matrix, the program's and the reference's; of One. -/
import Derived.Test.YtjdgfijpmljhiaaMx
import Derived.Test.YtjdgfijpmljhiaaPlB
namespace Go.Proofs.Ytjdgfijpmljhiaa
open Go.RowKit
set_option linter.unusedVariables false
theorem wrong_few {R : List Rw} {n : Nat} (hn : (rwData R).length = n) (h : n < 1 ∨ 12 < n) : Mat.wrongM (rwData R) = 5 := by
  unfold Mat.wrongM; rw [if_pos (by omega)]
theorem wrong_wid {R : List Rw} {k : Nat} (hk : Mat.wid (rwData R) 0 = k) (h : k < 1 ∨ 400 < k) : Mat.wrongM (rwData R) = 5 := by
  unfold Mat.wrongM; rw [if_pos (by omega)]
theorem wrong_form {R : List Rw} {n k i : Nat} (hn : (rwData R).length = n) (h1 : 1 ≤ n) (h2 : n ≤ 12) (hk : Mat.wid (rwData R) 0 = k) (h3 : 1 ≤ k) (h4 : k ≤ 400) (hi : i < R.length) (hne : R[i].l.length ≠ k) : Mat.wrongM (rwData R) = 2 := by
  unfold Mat.wrongM; rw [if_neg (by omega), if_pos ⟨R[i].l, List.mem_map.2 ⟨_, List.getElem_mem _, rfl⟩, by rw [hk]; exact hne⟩]
theorem wrong_none {R : List Rw} {n k : Nat} (hn : (rwData R).length = n) (h1 : 1 ≤ n) (h2 : n ≤ 12) (hk : Mat.wid (rwData R) 0 = k) (h3 : 1 ≤ k) (h4 : k ≤ 400) (h : ∀ i (hi : i < R.length), R[i].l.length = k) : Mat.wrongM (rwData R) = 0 := by
  unfold Mat.wrongM; rw [if_neg (by omega), if_neg]
  rintro ⟨r, hr, hne⟩
  obtain ⟨q, hq, rfl⟩ := List.mem_map.1 hr
  obtain ⟨i, hi, rfl⟩ := List.getElem_of_mem hq
  exact hne (by rw [hk]; exact h i hi)
theorem wid_row {R : List Rw} {i : Nat} (hi : i < R.length) : Mat.wid (rwData R) i = R[i].l.length := by
  unfold Mat.wid rwData; simp [List.getD, hi]

set_option maxHeartbeats 1000000 in
theorem gWrong_call (a : Option Addr) (n cap : Nat) (R : List Rw) (w : World) (h : Ms w a n cap R) : Calls Try.prog 59 #[.slice a n cap] w (Same (.int .i64 (Mat.wrongM (rwData R))) w) := by
  have hle := h.sl.le
  have hmax := h.sl.max
  unfold maxLen at hmax
  have HN := hid h.dn
  by_cases h1 : n < 1
  · have HE := hid (wrong_few HN.out (.inl h1))
    obtain rfl : n = 0 := by omega
    clear h1
    go_enter Try.func59, Try.ntmps59
    go_wp2
    go_ret
    exact ⟨ret_int HE.out.symm, rfl⟩
  by_cases h2 : 12 < n
  · have HE := hid (wrong_few HN.out (.inr h2))
    go_enter Try.func59, Try.ntmps59
    go_wp2
    go_ret
    exact ⟨ret_int HE.out.symm, rfl⟩
  obtain ⟨b, off, rfl, _⟩ := h.sl.addr (by omega)
  have hR0 : 0 < R.length := by have := h.cnt; omega
  have c0 := (h.at 0 hR0).1
  have HK := hid (wid_row hR0)
  have HB0 := hid (Bt.n (h.at 0 hR0).2)
  generalize R[0] = r0 at *
  obtain ⟨a0, n0, p0, l0⟩ := r0
  simp only [Nat.add_zero] at c0 HK HB0
  have HW : Hid (Mat.wid (rwData R) 0 = n0) := hid (HK.out.trans HB0.out)
  clear HK HB0
  by_cases h3 : n0 < 1
  · have HE := hid (wrong_wid HW.out (.inl h3))
    obtain rfl : n0 = 0 := by omega
    clear h3
    go_enter Try.func59, Try.ntmps59
    go_wp2
    go_ret
    exact ⟨ret_int HE.out.symm, rfl⟩
  by_cases h4 : 400 < n0
  · have HE := hid (wrong_wid HW.out (.inr h4))
    go_enter Try.func59, Try.ntmps59
    go_wp2
    go_ret
    exact ⟨ret_int HE.out.symm, rfl⟩
  go_enter Try.func59, Try.ntmps59
  go_wp2
  go_loopg [4, 29] n (fun g s4 i wr => ∃ k : Nat, g = n - k ∧ k ≤ n ∧ i = .int .i64 (k : Int) ∧ w = wr ∧ ∀ j (hj : j < R.length), j < k → R[j].l.length = n0)
  case atStart => exact ⟨0, rfl, by omega, rfl, rfl, fun j _ hj => absurd hj (by omega)⟩
  case round =>
    obtain ⟨k, rfl, hk, rfl, rfl, hall⟩ := hrel
    replace hall := hid hall
    by_cases hlt : k < n
    · have hkl : k < R.length := by have := h.cnt; omega
      have c1 := (h.at k hkl).1
      have HB := hid (Bt.n (h.at k hkl).2)
      have hf := hid (fun hne => wrong_form HN.out (by omega) (by omega) HW.out (by omega) (by omega) hkl hne)
      generalize hr : R[k] = r at *
      obtain ⟨a1, n1, p1, l1⟩ := r
      simp only at c1 HB hf
      have HR := hid hr
      clear hr
      by_cases hne : n1 = n0
      · subst hne
        go_wp2
        go_roundg (n - (k + 1))
        case measure => omega
        case rel =>
          refine ⟨k + 1, rfl, by omega, by go_num, rfl, fun j hj hjk => ?_⟩
          by_cases e : j = k
          · subst e; rw [HR.out]; exact HB.out
          · exact hall.out j hj (by omega)
      · have HE := hid (hf.out (by rw [HB.out]; exact hne))
        have t0 : ((n1 : Int) != (n0 : Int)) = true := by rw [bne_iff_ne]; omega
        have t1 : (n1 != n0) = true := by rw [bne_iff_ne]; exact hne
        go_wp2
        go_ret
        exact ⟨ret_int HE.out.symm, rfl⟩
    · obtain rfl : k = n := by omega
      have HE := hid (wrong_none HN.out (by omega) (by omega) HW.out (by omega) (by omega) (fun i hi => hall.out i hi (by have := h.cnt; omega)))
      go_wp2
      go_ret
      exact ⟨ret_int HE.out.symm, rfl⟩

set_option maxHeartbeats 1000000 in
theorem rWrongMatrix_call (a : Option Addr) (n cap : Nat) (R : List Rw) (w : World) (h : Ms w a n cap R) : Calls Try.prog 65 #[.slice a n cap] w (Drew (.int .i64 (Mat.wrongM (rwData R))) w) := by
  have hle := h.sl.le
  have hmax := h.sl.max
  unfold maxLen at hmax
  have HN := hid h.dn
  by_cases h1 : n < 1
  · have HE := hid (wrong_few HN.out (.inl h1))
    obtain rfl : n = 0 := by omega
    clear h1
    go_enter Try.func65, Try.ntmps65
    go_wp2
    go_ret
    exact ⟨ret_int HE.out.symm, 0, rfl⟩
  have e1 : ((n : Int) == 0) = false := by rw [beq_eq_false_iff_ne]; omega
  have e2 : (n == 0) = false := by rw [beq_eq_false_iff_ne]; omega
  by_cases h2 : 12 < n
  · have HE := hid (wrong_few HN.out (.inr h2))
    go_enter Try.func65, Try.ntmps65
    go_wp2
    go_ret
    exact ⟨ret_int HE.out.symm, 0, rfl⟩
  obtain ⟨b, off, rfl, _⟩ := h.sl.addr (by omega)
  have hR0 : 0 < R.length := by have := h.cnt; omega
  have c0 := (h.at 0 hR0).1
  have HK := hid (wid_row hR0)
  have HB0 := hid (Bt.n (h.at 0 hR0).2)
  generalize R[0] = r0 at *
  obtain ⟨a0, n0, p0, l0⟩ := r0
  simp only [Nat.add_zero] at c0 HK HB0
  have HW : Hid (Mat.wid (rwData R) 0 = n0) := hid (HK.out.trans HB0.out)
  clear HK HB0
  by_cases h3 : n0 < 1
  · have HE := hid (wrong_wid HW.out (.inl h3))
    obtain rfl : n0 = 0 := by omega
    clear h3
    go_enter Try.func65, Try.ntmps65
    go_wp2
    go_ret
    exact ⟨ret_int HE.out.symm, 0, rfl⟩
  have e3 : ((n0 : Int) == 0) = false := by rw [beq_eq_false_iff_ne]; omega
  have e4 : (n0 == 0) = false := by rw [beq_eq_false_iff_ne]; omega
  by_cases h4 : 400 < n0
  · have HE := hid (wrong_wid HW.out (.inr h4))
    go_enter Try.func65, Try.ntmps65
    go_wp2
    go_ret
    exact ⟨ret_int HE.out.symm, 0, rfl⟩
  go_enter Try.func65, Try.ntmps65
  go_wp2
  go_loopg [3, 28] n (fun g s4 i wr => ∃ k q : Nat, g = n - k ∧ k ≤ n ∧ i = .int .i64 (k : Int) ∧ wr = w.drewN q ∧ ∀ j (hj : j < R.length), j < k → R[j].l.length = n0)
  case atStart => exact ⟨0, 0, rfl, by omega, rfl, rfl, fun j _ hj => absurd hj (by omega)⟩
  case round =>
    obtain ⟨k, q, rfl, hk, rfl, rfl, hall⟩ := hrel
    replace hall := hid hall
    by_cases hlt : k < n
    · have hkl : k < R.length := by have := h.cnt; omega
      have c1 := (h.at k hkl).1
      have HB := hid (Bt.n (h.at k hkl).2)
      have hf := hid (fun hne => wrong_form HN.out (by omega) (by omega) HW.out (by omega) (by omega) hkl hne)
      generalize hr : R[k] = r at *
      obtain ⟨a1, n1, p1, l1⟩ := r
      simp only at c1 HB hf
      have HR := hid hr
      clear hr
      have i0 : (0 : Int) ≤ (k : Int) := Int.natCast_nonneg _
      have i1 : (k : Int) < (n : Int) := by omega
      have i2 : (0 : Int) < (n : Int) := by omega
      by_cases hne : n1 = n0
      · subst hne
        go_wp2_with fail
        go_quiet (fail)
        go_wp2_with fail
        go_roundg (n - (k + 1))
        case measure => omega
        case rel =>
          refine ⟨k + 1, _, rfl, by omega, by go_num, rfl, fun j hj hjk => ?_⟩
          by_cases e : j = k
          · subst e; rw [HR.out]; exact HB.out
          · exact hall.out j hj (by omega)
      · have HE := hid (hf.out (by rw [HB.out]; exact hne))
        have t0 : ((n1 : Int) != (n0 : Int)) = true := by rw [bne_iff_ne]; omega
        have t1 : (n1 != n0) = true := by rw [bne_iff_ne]; exact hne
        go_wp2_with fail
        go_quiet (fail)
        go_wp2_with fail
        go_ret
        exact ⟨ret_int HE.out.symm, _, World.drewN_drewN _ _ _⟩
    · obtain rfl : k = n := by omega
      have HE := hid (wrong_none HN.out (by omega) (by omega) HW.out (by omega) (by omega) (fun i hi => hall.out i hi (by have := h.cnt; omega)))
      go_wp2
      go_ret
      exact ⟨ret_int HE.out.symm, _, rfl⟩

end Go.Proofs.Ytjdgfijpmljhiaa
