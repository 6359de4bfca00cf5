/- Plain laws of chapter 3: what is mended is what was there; good shards; sums. No program in sight. -/
import Derived.Test.YtjdgfijpmljhiaaPlB
import Derived.Test.YtjdgfijpmljhiaaCodeG
namespace Go.Proofs.Ytjdgfijpmljhiaa.Mat
set_option linter.unusedVariables false
/-- Shards: data and their spare ones. -/
structure Shards (l S : List (List UInt8)) (d s m : Nat) : Prop where
  fine : Fine l d m
  d8 : d ≤ 8
  s4 : s ≤ 4
  rep : Rep S s m (spareM d (ent l))
section
variable {l S : List (List UInt8)} {d s m : Nat}
theorem Shards.rows (h : Shards l S d s m) : Rep (l ++ S) (d + s) m (mul d (rowM d) (ent l)) := all_rows h.fine.rep h.rep
theorem Shards.whole (h : Shards l S d s m) : Fine (l ++ S) (d + s) m := h.rows.fine (by have := h.fine.n1; omega) (by have := h.d8; have := h.s4; omega) h.fine.m1 h.fine.m2
theorem Shards.row (h : Shards l S d s m) {i : Nat} (hi : i < d + s) : ((l ++ S).getD i []).length = m := by
  have hl : i < (l ++ S).length := by rw [h.whole.rows]; exact hi
  rw [show (l ++ S).getD i [] = (l ++ S)[i] by simp only [List.getD, List.getElem?_eq_getElem hl, Option.getD_some]]
  exact h.whole.cols _ (List.getElem_mem _)
/-- All shards, some of which are gone. -/
structure Left (l S X : List (List UInt8)) (d s : Nat) : Prop where
  len : X.length = d + s
  row : ∀ i, i < d + s → X.getD i [] = (l ++ S).getD i [] ∨ X.getD i [] = []
theorem Left.there (h : Shards l S d s m) {X : List (List UInt8)} (hX : Left l S X d s) {u : Nat} (hu : u ∈ there X) : u < d + s ∧ X.getD u [] = (l ++ S).getD u [] := by
  obtain ⟨h1, h2⟩ := there_lt hu
  rw [hX.len] at h1
  refine ⟨h1, (hX.row u h1).resolve_right fun e => ?_⟩
  unfold isThere at h2
  rw [e] at h2
  exact absurd h2 (by decide)
theorem mend_all (h : Shards l S d s m) {X : List (List UInt8)} (hX : Left l S X d s) (hd : d ≤ (Mat.there X).length) {L : List (List UInt8)} {e : Int} (hm : MendR X (d : Int) L e) : L = l ++ S ∧ e = 0 := by
  classical
  have hd1 := h.fine.n1
  have hlen : ((X.length : Int) - (d : Int)) = (s : Int) := by rw [hX.len]; omega
  have hg : ∀ p, p < d → (Mat.there X).getD p 0 ∈ Mat.there X := fun p hp => by
    rw [show (Mat.there X).getD p 0 = (Mat.there X)[p]'(by omega) by simp only [List.getD, List.getElem?_eq_getElem (show p < (Mat.there X).length by omega), Option.getD_some]]
    exact List.getElem_mem _
  have hwid : wid X ((Mat.there X).getD 0 0) = m := by
    obtain ⟨h1, h2⟩ := hX.there h (hg 0 (by omega))
    unfold wid
    rw [h2]; exact h.row h1
  unfold MendR at hm
  rw [hlen, if_neg (fun hh => hh (wrongC_of (by have := h.d8; have := h.s4; omega))), if_neg (by omega), if_neg (fun ⟨q, hq, hb⟩ => by
    obtain ⟨i, hi, rfl⟩ := List.getElem_of_mem hq
    have hi' : i < d + s := by rw [← hX.len]; exact hi
    have e1 : X.getD i [] = X[i] := by simp only [List.getD, List.getElem?_eq_getElem hi, Option.getD_some]
    rw [hwid] at hb
    rcases hX.row i hi' with h1 | h1
    · rw [e1] at h1
      rw [h1, h.row hi'] at hb
      have := h.fine.m2
      omega
    · rw [e1] at h1
      rw [h1] at hb
      simp at hb), hwid, hX.len, Int.toNat_natCast] at hm
  obtain ⟨f, hU, hR, he⟩ := hm
  refine ⟨hR.uniq h.rows fun i j hi hj => ?_, he⟩
  refine mul_congr (fun _ _ => rfl) fun k hk => ?_
  have e1 : mul d f (fun p k => ent X ((Mat.there X).getD p 0) k) k j = mul d f (mul d (picked d ((Mat.there X).take d)) (ent l)) k j := mul_congr (fun _ _ => rfl) fun p hp => by
    obtain ⟨h1, h2⟩ := hX.there h (hg p hp)
    have e2 : ent X ((Mat.there X).getD p 0) j = ent (l ++ S) ((Mat.there X).getD p 0) j := by unfold ent; rw [h2]
    rw [e2, h.rows.eq _ j h1 hj]
    refine sum_congr fun q _ => ?_
    show gmul (rowM d ((Mat.there X).getD p 0) q) (ent l q j) = gmul (rowM d (((Mat.there X).take d).getD p 0) q) (ent l q j)
    rw [show ((Mat.there X).take d).getD p 0 = (Mat.there X).getD p 0 by simp [List.getD, hp]]
  rw [e1, ← mul_assoc3]
  have e3 : mul d (mul d f (picked d ((Mat.there X).take d))) (ent l) k j = mul d one (ent l) k j := mul_congr (fun q hq => hU.1 k q hk hq) fun _ _ => rfl
  rw [e3, one_mul_left d _ hk]
/-- More of them than spare ones. -/
theorem mend_lost (h : Shards l S d s m) {X : List (List UInt8)} (hX : Left l S X d s) (hd : (Mat.there X).length < d) {L : List (List UInt8)} {e : Int} (hm : MendR X (d : Int) L e) : L = [] ∧ e = 10 := by
  classical
  have hd1 := h.fine.n1
  have hlen : ((X.length : Int) - (d : Int)) = (s : Int) := by rw [hX.len]; omega
  unfold MendR at hm
  rw [hlen, if_neg (fun hh => hh (wrongC_of (by have := h.d8; have := h.s4; omega))), if_pos (by omega)] at hm
  exact hm
theorem Shards.take (h : Shards l S d s m) : (l ++ S).take d = l := by rw [List.take_append, h.fine.rows, Nat.sub_self, List.take_zero, List.append_nil, List.take_of_length_le (by rw [h.fine.rows]; exact Nat.le_refl _)]
theorem Shards.drop (h : Shards l S d s m) : (l ++ S).drop d = S := by rw [List.drop_append, h.fine.rows, Nat.sub_self, List.drop_zero, List.drop_of_length_le (by rw [h.fine.rows]; exact Nat.le_refl _), List.nil_append]
theorem GoodR.spare {Z : List (List UInt8)} {b : Bool} (hZ : Fine Z (d + s) m) (h1 : 1 ≤ d) (h2 : d ≤ 8) (h3 : s ≤ 4) (hb : GoodR Z (d : Int) b) : ∃ K, Rep K s m (spareM d (ent (Z.take d))) ∧ b = decide (K = Z.drop d) := by
  unfold GoodR at hb
  have hlen : ((Z.length : Int) - (d : Int)) = (s : Int) := by rw [hZ.rows]; omega
  rw [hlen, if_neg (fun hh => by
    rcases hh with hh | hh
    · exact hh (wrongC_of (by omega))
    · exact hh hZ.wrong), Int.toNat_natCast] at hb
  obtain ⟨K, hK, rfl⟩ := hb
  exact ⟨K, (hK.ok (hZ.take h1 (by omega)) h2 h3).1, rfl⟩
theorem good_all (h : Shards l S d s m) {b : Bool} (hb : GoodR (l ++ S) (d : Int) b) : b = true := by
  obtain ⟨K, hK, rfl⟩ := hb.spare h.whole h.fine.n1 h.d8 h.s4
  rw [h.take] at hK
  rw [h.drop]
  exact decide_eq_true (hK.uniq h.rep fun _ _ _ _ => rfl)
theorem rowM_ne {i j : Nat} (hi : d ≤ i) (hj : j < d) (h : i < 256) : rowM d i j ≠ 0 := by
  unfold rowM
  rw [if_neg (by omega)]
  refine inv_ne (add_ne fun e => ?_)
  have := ofNat_inj (by omega) (by omega) e
  omega
/-- A byte that is another one is found. -/
theorem good_spoilt (h : Shards l S d s m) (hs : 1 ≤ s) {k at' : Nat} (hk : k < d + s) (hat : at' < m) {by' : UInt8} (hby : by' ≠ 0) {r : List UInt8} (hr : r.length = m) (hr2 : ∀ j, j < m → r.getD j 0 = if j = at' then gadd (ent (l ++ S) k j) by' else ent (l ++ S) k j) {b : Bool} (hb : GoodR ((l ++ S).set k r) (d : Int) b) : b = false := by
  obtain ⟨K, hK, rfl⟩ := hb.spare (⟨by rw [List.length_set]; exact h.whole.rows, fun q hq => by
    rcases List.mem_or_eq_of_mem_set hq with h1 | rfl
    · exact h.whole.cols _ h1
    · exact hr, h.whole.n1, h.whole.n2, h.whole.m1, h.whole.m2⟩ : Fine ((l ++ S).set k r) (d + s) m) h.fine.n1 h.d8 h.s4
  refine decide_eq_false fun e => ?_
  by_cases hkd : k < d
  · have hkl : k < l.length := by rw [h.fine.rows]; exact hkd
    rw [List.set_append_left _ _ hkl] at hK e
    have e1 : (l.set k r ++ S).take d = l.set k r := by rw [List.take_append, List.length_set, h.fine.rows, Nat.sub_self, List.take_zero, List.append_nil, List.take_of_length_le (by rw [List.length_set, h.fine.rows]; exact Nat.le_refl _)]
    have e2 : (l.set k r ++ S).drop d = S := by rw [List.drop_append, List.length_set, h.fine.rows, Nat.sub_self, List.drop_zero, List.drop_of_length_le (by rw [List.length_set, h.fine.rows]; exact Nat.le_refl _), List.nil_append]
    rw [e1] at hK
    rw [e2] at e
    subst e
    have h1 := hK.eq 0 at' (by omega) hat
    rw [h.rep.eq 0 at' (by omega) hat] at h1
    unfold spareM mul at h1
    have h2 : (sum d fun q => gmul (rowM d (d + 0) q) (ent (l.set k r) q at')) = gadd (sum d fun q => gmul (rowM d (d + 0) q) (ent l q at')) (sum d fun q => gmul (rowM d (d + 0) q) (if q = k then by' else 0)) := by
      rw [← sum_add]
      refine sum_congr fun q hq => ?_
      rw [← mul_add, ent_set hkl]
      congr 1
      by_cases eq : q = k
      · subst eq
        rw [if_pos rfl, if_pos rfl, hr2 at' hat, if_pos rfl, ent_append, if_pos hkl]
      · rw [if_neg eq, if_neg eq, add_zero]
    have h1 : (sum d fun q => gmul (rowM d (d + 0) q) (ent l q at')) = (sum d fun q => gmul (rowM d (d + 0) q) (ent (l.set k r) q at')) := h1
    have e5 : (sum d fun q => gmul (rowM d (d + 0) q) (if q = k then by' else 0)) = gmul (rowM d (d + 0) k) by' := by
      rw [sum_one hkd _ fun q _ hne => by rw [if_neg hne, mul_zero], if_pos rfl]
    rw [h2, e5] at h1
    have h3 : gmul (rowM d (d + 0) k) by' = 0 := by
      have h4 := congrArg (gadd (sum d fun q => gmul (rowM d (d + 0) q) (ent l q at'))) h1
      rw [add_self, ← add_assoc, add_self, zero_add] at h4
      exact h4.symm
    rcases mul_eq_zero h3 with h4 | h4
    · exact rowM_ne (by omega) hkd (by have := h.d8; omega) h4
    · exact hby h4
  · have hkl : l.length ≤ k := by rw [h.fine.rows]; omega
    rw [List.set_append_right _ _ hkl] at hK e
    have e1 : (l ++ S.set (k - l.length) r).take d = l := by rw [List.take_append, h.fine.rows, Nat.sub_self, List.take_zero, List.append_nil, List.take_of_length_le (by rw [h.fine.rows]; exact Nat.le_refl _)]
    have e2 : (l ++ S.set (k - l.length) r).drop d = S.set (k - l.length) r := by rw [List.drop_append, h.fine.rows, Nat.sub_self, List.drop_zero, List.drop_of_length_le (by rw [h.fine.rows]; exact Nat.le_refl _), List.nil_append]
    rw [e1] at hK
    rw [e2] at e
    have e3 := hK.uniq h.rep fun _ _ _ _ => rfl
    rw [e3] at e
    have hkS : k - l.length < S.length := by rw [h.rep.rows, h.fine.rows]; omega
    have e4 : ent S (k - l.length) at' = ent (S.set (k - l.length) r) (k - l.length) at' := by rw [← e]
    rw [ent_set hkS, if_pos rfl, hr2 at' hat, if_pos rfl, ent_append, if_neg (by omega)] at e4
    have h4 := congrArg (gadd (ent S (k - l.length) at')) e4
    rw [add_self, ← add_assoc, add_self, zero_add] at h4
    exact hby h4.symm
/-- Spare shards of a sum. -/
theorem spare_sum {a b c : M} (e : ∀ i j, i < d → j < m → c i j = gadd (a i j) (b i j)) {i j : Nat} (hj : j < m) : spareM d c i j = gadd (spareM d a i j) (spareM d b i j) := by
  unfold spareM mul
  rw [← sum_add]
  exact sum_congr fun k hk => by rw [e k j hk hj, mul_add]
/-- one that was there is gone -/
theorem there_set {X : List (List UInt8)} {k : Nat} (hk : k < X.length) (h : 0 < (X.getD k []).length) : (Mat.there (X.set k [])).length + 1 = (Mat.there X).length := by
  have e1 : Mat.there (X.set k []) = (Mat.there X).erase k := by
    rw [List.Nodup.erase_eq_filter (there_nodup X)]
    unfold Mat.there
    rw [List.filter_filter, List.length_set]
    refine List.filter_congr fun i hi => ?_
    by_cases e : i = k
    · subst e; simp [List.getD, hk]
    · have e' : (i != k) = true := bne_iff_ne.2 e
      simp [List.getD, List.getElem?_set_ne (Ne.symm e), e']
      exact decide_eq_decide.2 Iff.rfl
  have hm : k ∈ Mat.there X := by
    unfold Mat.there
    rw [List.mem_filter, List.mem_range]
    exact ⟨hk, by simpa using h⟩
  rw [e1, List.length_erase_of_mem hm]
  have := List.length_pos_of_mem hm
  omega
theorem there_all (h : Shards l S d s m) : (Mat.there (l ++ S)).length = d + s := by
  unfold Mat.there
  rw [h.whole.rows, List.filter_eq_self.2 fun i hi => ?_, List.length_range]
  rw [h.row (List.mem_range.1 hi)]
  have := h.fine.m1
  exact decide_eq_true (by omega)
end
end Go.Proofs.Ytjdgfijpmljhiaa.Mat
