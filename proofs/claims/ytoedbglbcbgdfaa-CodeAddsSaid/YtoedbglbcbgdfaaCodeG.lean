/- Contract of chapter 3: Good, the program's. -/
import Derived.Test.YtoedbglbcbgdfaaCodeC
import Derived.Test.YtoedbglbcbgdfaaCodeD
namespace Go.Proofs.Ytoedbglbcbgdfaa
open Go.RowKit
set_option linter.unusedVariables false
namespace Mat
def GoodR (l : List (List UInt8)) (d : Int) (b : Bool) : Prop :=
  if wrongC d ((l.length : Int) - d) ≠ 0 ∨ wrongM l ≠ 0 then b = false else ∃ K, SpareR (l.take d.toNat) ((l.length : Int) - d) K 0 ∧ b = decide (K = l.drop d.toNat)
theorem GoodR.uniq {l : List (List UInt8)} {d : Int} {b c : Bool} (h : GoodR l d b) (k : GoodR l d c) : b = c := by
  unfold GoodR at h k
  split at h
  · rw [if_pos (by assumption)] at k; exact h.trans k.symm
  · rw [if_neg (by assumption)] at k
    obtain ⟨K, h1, rfl⟩ := h
    obtain ⟨K', k1, rfl⟩ := k
    rw [(h1.uniq k1).1]
theorem good_no {l : List (List UInt8)} {d : Int} (h : wrongC d ((l.length : Int) - d) ≠ 0 ∨ wrongM l ≠ 0) : GoodR l d false := by unfold GoodR; rw [if_pos h]
theorem good_of {l K : List (List UInt8)} {d s : Nat} (hl : l.length = d + s) (h1 : 1 ≤ d) (h2 : d ≤ 8) (h3 : s ≤ 4) (hw : wrongM l = 0) (hK : SpareR (l.take d) (s : Int) K 0) : GoodR l (d : Int) (decide (K = l.drop d)) := by
  have e : ((l.length : Int) - (d : Int)) = (s : Int) := by omega
  unfold GoodR
  rw [e, if_neg (fun h => by
    rcases h with h | h
    · exact h (wrongC_of (by omega))
    · exact h hw), Int.toNat_natCast]
  exact ⟨K, hK, rfl⟩
theorem Fine.take {l : List (List UInt8)} {n m d : Nat} (h : Fine l n m) (h1 : 1 ≤ d) (h2 : d ≤ n) : Fine (l.take d) d m :=
  ⟨by rw [List.length_take, h.rows]; omega, fun r hr => h.cols r (List.mem_of_mem_take hr), h1, by have := h.n2; omega, h.m1, h.m2⟩
end Mat
theorem wrongC_wrap' {d : Int} {n : Nat} (hn : n ≤ 9223372036854775807) (hd : -9223372036854775808 ≤ d ∧ d ≤ 9223372036854775807) : Mat.wrongC d (IntKind.i64.wrap ((n : Int) - d)) = Mat.wrongC d ((n : Int) - d) := by
  by_cases h : d < 1
  · rw [wrongC_5 (.inl h), wrongC_5 (.inl h)]
  · rw [IntWalk.i64_in _ (by omega)]
/-- It returns whether they are good; what was there is as it was. -/
def GRes (P : Bool → Prop) (w : World) (e : Ending) (w' : World) : Prop := ∃ b, e = .returned (.bool b) ∧ P b ∧ Below w.heap.size w w'
theorem good_rw {A R2 : List Rw} {n D s : Nat} (hn : n = D + s) (h1 : 1 ≤ D) (h2 : D ≤ 8) (h3 : s ≤ 4) (hw : Mat.wrongM (rwData A) = 0) (hl : (rwData A).length = n) (hp : Mat.SpareR (rwData (A.take D)) (s : Int) (rwData R2) 0) : Mat.GoodR (rwData A) (D : Int) (decide (rwData R2 = rwData (A.drop D))) := by
  have e1 : rwData (A.take D) = (rwData A).take D := by simp [rwData, List.map_take]
  have e2 : rwData (A.drop D) = (rwData A).drop D := by simp [rwData, List.map_drop]
  rw [e2]
  exact Mat.good_of (by omega) h1 h2 h3 hw (by rw [← e1]; exact hp)

set_option maxHeartbeats 1000000 in
theorem cGood_bad (a : Option Addr) (n ac : Nat) (A : List Rw) (d : Int) (hd : -9223372036854775808 ≤ d ∧ d ≤ 9223372036854775807) (w : World) (hA : Ms w a n ac A) (hc : Mat.wrongC d ((n : Int) - d) ≠ 0) : Calls Try.prog 25 #[.slice a n ac, .int .i64 d] w (Same (.bool false) w) := by
  have hn : n ≤ 9223372036854775807 := by
    have h1 := hA.sl.le
    have h2 := hA.sl.max
    unfold maxLen at h2
    omega
  have hz := wrongC_wrap' hn hd
  rw [← hz] at hc
  generalize hzz : IntKind.i64.wrap ((n : Int) - d) = z at *
  have u0 : (Mat.wrongC d z != 0) = true := bne_iff_ne.2 hc
  have D := hid (cWrong_call d z w)
  generalize Mat.wrongC d z = e at *
  replace hc := hid hc
  replace hz := hid hz
  replace hd := hid hd
  go_enter Try.func25, Try.ntmps25
  go_wp2_with fail
  go_at_call 23
  refine (D.out).mono ?_
  rintro e' w1 ⟨rfl, rfl⟩
  go_wp2_with fail
  go_ret
  exact ⟨rfl, rfl⟩
set_option maxHeartbeats 400000 in
theorem cGood_ok (a : Option Addr) (n ac D s : Nat) (A : List Rw) (w : World) (hA : Ms w a n ac A) (hn : n = D + s) (h1 : 1 ≤ D) (h2 : D ≤ 8) (h3 : s ≤ 4) : Calls Try.prog 25 #[.slice a n ac, .int .i64 (D : Int)] w (GRes (Mat.GoodR (rwData A) (D : Int)) w) := by
  have HL := hid hA.dn
  have s1 : IntKind.i64.wrap ((n : Int) - (D : Int)) = (s : Int) := by rw [IntWalk.i64_in _ (by omega)]; omega
  have s2 : (n : Int) - (D : Int) = (s : Int) := by omega
  have hC := hid (cWrong_call (D : Int) (s : Int) w)
  rw [Mat.wrongC_of (by omega)] at hC
  by_cases hw : Mat.wrongM (rwData A) = 0
  · have hF := Mat.wrong_fine hw
    rw [HL.out] at hF
    generalize hm : Mat.wid (rwData A) 0 = m at hF
    have HF := hid hF
    have HW := hid hw
    clear hF hw hm
    have hle := hA.sl.le
    have hDn : D ≤ n := by omega
    have hDc : D ≤ ac := by omega
    have i0 : (0 : Int) ≤ (D : Int) := by omega
    have i1 : (D : Int) ≤ (n : Int) := by omega
    have i2 : (D : Int) ≤ (ac : Int) := by omega
    have hT := hA.take (k := D) hDn
    have hFT : Hid (Mat.Fine (rwData (A.take D)) D m) := hid (by
      have := HF.out.take (d := D) h1 hDn
      rwa [show rwData (A.take D) = (rwData A).take D by simp [rwData, List.map_take]])
    have hDr := hA.drop (lo := D) hDn
    obtain ⟨ab, aoff, rfl, _⟩ := hA.sl.addr (by omega)
    replace hn := hid hn
    by_cases hcap : ac = D
    · rw [if_pos hcap] at hDr
      obtain rfl := hcap.symm
      rw [show n - D = 0 by omega, Nat.sub_self] at hDr
      go_enter Try.func25, Try.ntmps25
      go_wp2_with fail
      go_at_call 23
      refine (hC.out).mono ?_
      rintro e' w1 ⟨rfl, rfl⟩
      go_wp2_with fail
      go_at_call 14
      refine (gWrong_call _ _ _ _ _ hA).mono ?_
      rintro e w1' ⟨rfl, rfl⟩
      rw [HW.out]
      go_wp2_with fail
      go_at_call 29
      refine (cSpare_call _ _ _ _ _ _ hT).mono ?_
      rintro e w2 ⟨a2, n2, c2, R2, e2, rfl, hM2, hp2, b2⟩
      obtain rfl : e2 = 0 := (Mat.SpareR.ok hFT.out h2 h3 hp2).2
      replace hp2 := hid hp2
      replace hDr := hDr.below b2
      go_wp2_with fail
      go_at_call 46
      refine (EqualFuncM_call _ _ _ _ _ _ _ _ _ hM2 hDr).mono ?_
      rintro e w3 ⟨rfl, q, hq⟩
      have b3 : Below w.heap.size w w3 := by rw [hq]; exact below_drewN b2 q
      replace hq := hid hq
      have hG := good_rw hn.out h1 h2 h3 HW.out HL.out hp2.out
      obtain ⟨bb, hbb⟩ : ∃ b, decide (rwData R2 = rwData (A.drop D)) = b := ⟨_, rfl⟩
      rw [hbb] at hG ⊢
      replace hbb := hid hbb
      replace hG := hid hG
      go_wp2_with fail
      go_ret
      exact ⟨bb, rfl, hG.out, b3⟩
    · rw [if_neg hcap, Option.map_some, add_off, Nat.mul_one] at hDr
      go_enter Try.func25, Try.ntmps25
      go_wp2_with fail
      go_at_call 23
      refine (hC.out).mono ?_
      rintro e' w1 ⟨rfl, rfl⟩
      go_wp2_with fail
      go_at_call 14
      refine (gWrong_call _ _ _ _ _ hA).mono ?_
      rintro e w1' ⟨rfl, rfl⟩
      rw [HW.out]
      go_wp2_with fail
      go_at_call 29
      refine (cSpare_call _ _ _ _ _ _ hT).mono ?_
      rintro e w2 ⟨a2, n2, c2, R2, e2, rfl, hM2, hp2, b2⟩
      obtain rfl : e2 = 0 := (Mat.SpareR.ok hFT.out h2 h3 hp2).2
      replace hp2 := hid hp2
      replace hDr := hDr.below b2
      go_wp2_with fail
      go_at_call 46
      refine (EqualFuncM_call _ _ _ _ _ _ _ _ _ hM2 hDr).mono ?_
      rintro e w3 ⟨rfl, q, hq⟩
      have b3 : Below w.heap.size w w3 := by rw [hq]; exact below_drewN b2 q
      replace hq := hid hq
      have hG := good_rw hn.out h1 h2 h3 HW.out HL.out hp2.out
      obtain ⟨bb, hbb⟩ : ∃ b, decide (rwData R2 = rwData (A.drop D)) = b := ⟨_, rfl⟩
      rw [hbb] at hG ⊢
      replace hbb := hid hbb
      replace hG := hid hG
      go_wp2_with fail
      go_ret
      exact ⟨bb, rfl, hG.out, b3⟩
  · replace hn := hid hn
    have u0 : (Mat.wrongM (rwData A) != 0) = true := bne_iff_ne.2 hw
    have hG := hid (Mat.good_no (l := rwData A) (d := (D : Int)) (.inr hw))
    generalize hW : Mat.wrongM (rwData A) = W at *
    go_enter Try.func25, Try.ntmps25
    go_wp2_with fail
    go_at_call 23
    refine (hC.out).mono ?_
    rintro e' w1 ⟨rfl, rfl⟩
    go_wp2_with fail
    go_at_call 14
    refine (gWrong_call _ _ _ _ _ hA).mono ?_
    rintro e w1' ⟨rfl, rfl⟩
    rw [hW]
    replace hW := hid hW
    replace hw := hid hw
    go_wp2_with fail
    go_ret
    exact ⟨false, rfl, hG.out, Below.refl _ _⟩
theorem cGood_call (a : Option Addr) (n ac : Nat) (A : List Rw) (d : Int) (hd : -9223372036854775808 ≤ d ∧ d ≤ 9223372036854775807) (w : World) (hA : Ms w a n ac A) : Calls Try.prog 25 #[.slice a n ac, .int .i64 d] w (GRes (Mat.GoodR (rwData A) d) w) := by
  by_cases hc : Mat.wrongC d ((n : Int) - d) = 0
  · have hc2 := Mat.wrongC_ok hc
    obtain ⟨D, rfl⟩ := Int.eq_ofNat_of_zero_le (a := d) (by omega)
    exact cGood_ok a n ac D (n - D) A w hA (by omega) (by omega) (by omega) (by omega)
  · exact (cGood_bad a n ac A d hd w hA hc).mono fun e w' ⟨h1, h2⟩ => ⟨false, h1, Mat.good_no (.inl (by rw [hA.dn]; exact hc)), h2 ▸ Below.refl _ _⟩

end Go.Proofs.Ytoedbglbcbgdfaa
