/- Plain laws of mending: which shards are there. No program in sight. -/
import Derived.Test.YtoedbglbcbgdfaaCode
namespace Go.Proofs.Ytoedbglbcbgdfaa.Mat
set_option linter.unusedVariables false
def isThere (l : List (List UInt8)) (i : Nat) : Bool := decide (0 < (l.getD i []).length)
/-- the first d of those of the first k shards that are there -/
def firsts (l : List (List UInt8)) (d k : Nat) : List Nat := ((List.range k).filter (isThere l)).take d
theorem firsts_zero (l : List (List UInt8)) (d : Nat) : firsts l d 0 = [] := by simp [firsts]
theorem firsts_all (l : List (List UInt8)) (d : Nat) : firsts l d l.length = (there l).take d := rfl
theorem firsts_no {l : List (List UInt8)} {d k : Nat} (h : isThere l k = false) : firsts l d (k + 1) = firsts l d k := by
  unfold firsts
  rw [List.range_succ, List.filter_append, List.filter_cons_of_neg (by simp [h]), List.filter_nil, List.append_nil]
theorem firsts_full {l : List (List UInt8)} {d k : Nat} (h : d ≤ (firsts l d k).length) : firsts l d (k + 1) = firsts l d k := by
  unfold firsts at h ⊢
  rw [List.length_take] at h
  rw [List.range_succ, List.filter_append, List.take_append, Nat.sub_eq_zero_of_le (by omega), List.take_zero, List.append_nil]
theorem firsts_yes {l : List (List UInt8)} {d k : Nat} (h : isThere l k = true) (hd : (firsts l d k).length < d) : firsts l d (k + 1) = firsts l d k ++ [k] := by
  unfold firsts at hd ⊢
  rw [List.length_take] at hd
  rw [List.range_succ, List.filter_append, List.filter_cons_of_pos h, List.filter_nil, List.take_append, List.take_of_length_le (l := [k]) (by simp; omega)]
theorem firsts_le (l : List (List UInt8)) (d k : Nat) : (firsts l d k).length ≤ d := by unfold firsts; rw [List.length_take]; omega
theorem firsts_len (l : List (List UInt8)) (d : Nat) : (firsts l d l.length).length = min d (there l).length := by rw [firsts_all, List.length_take]
theorem there_lt {l : List (List UInt8)} {u : Nat} (h : u ∈ there l) : u < l.length ∧ isThere l u = true := by
  unfold there at h
  rw [List.mem_filter, List.mem_range] at h
  exact h
theorem there_nodup (l : List (List UInt8)) : (there l).Nodup := List.nodup_range.filter _
theorem firsts_get {l : List (List UInt8)} {d i : Nat} (h : i < d) (h2 : d ≤ (there l).length) : (firsts l d l.length).getD i 0 = (there l).getD i 0 := by
  rw [firsts_all]
  simp [List.getD, h]
theorem mend_none {l : List (List UInt8)} {d : Int} (h : wrongC d ((l.length : Int) - d) ≠ 0) : MendR l d [] (wrongC d ((l.length : Int) - d)) := by unfold MendR; rw [if_pos h]; exact ⟨rfl, rfl⟩
theorem mend_few {l : List (List UInt8)} {d : Int} (h : wrongC d ((l.length : Int) - d) = 0) (h2 : ((there l).length : Int) < d) : MendR l d [] 10 := by unfold MendR; rw [if_neg (fun e => e h), if_pos h2]; exact ⟨rfl, rfl⟩
theorem mend_form {l : List (List UInt8)} {d : Int} (h : wrongC d ((l.length : Int) - d) = 0) (h2 : d ≤ ((there l).length : Int)) (h3 : BadForm l) : MendR l d [] 2 := by
  unfold MendR; rw [if_neg (fun e => e h), if_neg (by omega), if_pos h3]; exact ⟨rfl, rfl⟩
theorem mend_ok {l : List (List UInt8)} {d : Nat} {n : Nat} {f : M} {L : List (List UInt8)} (h : wrongC (d : Int) ((l.length : Int) - d) = 0) (h2 : d ≤ (there l).length) (h3 : ¬ BadForm l) (hU : Undo d (picked d (firsts l d l.length)) f) (hn : wid l ((there l).getD 0 0) = n) (hR : Rep L l.length n (mendM l d f)) : MendR l (d : Int) L 0 := by
  unfold MendR; rw [if_neg (fun e => e h), if_neg (by omega), if_neg h3, Int.toNat_natCast]
  exact ⟨f, hU, by rw [hn]; exact hR, rfl⟩
/-- all shards that are there are of n bytes -/
theorem form_ok {l : List (List UInt8)} (h : ¬ BadForm l) {u : Nat} (hu : u ∈ there l) : (l.getD u []).length = wid l ((there l).getD 0 0) ∧ (l.getD u []).length ≤ 400 := by
  obtain ⟨h1, h2⟩ := there_lt hu
  have h2 : 0 < (l.getD u []).length := by simpa [isThere] using h2
  have hm : l.getD u [] ∈ l := by
    rw [show l.getD u [] = l[u] by simp [List.getD, h1]]
    exact List.getElem_mem _
  refine Classical.byContradiction fun hh => h ⟨_, hm, ?_⟩
  by_cases e : 400 < (l.getD u []).length
  · exact .inl e
  · exact .inr ⟨h2, fun e2 => hh ⟨e2, by omega⟩⟩
theorem ent_append {A B : List (List UInt8)} (i j : Nat) : ent (A ++ B) i j = if i < A.length then ent A i j else ent B (i - A.length) j := by
  unfold ent
  by_cases h : i < A.length
  · rw [if_pos h]; simp [List.getD, List.getElem?_append_left h]
  · rw [if_neg h]; simp [List.getD, List.getElem?_append_right (Nat.le_of_not_lt h)]
/-- data and the spare shards of them are what the rows tell -/
theorem all_rows {L K : List (List UInt8)} {d s n : Nat} {a : M} (hL : Rep L d n a) (hK : Rep K s n (spareM d a)) : Rep (L ++ K) (d + s) n (mul d (rowM d) a) := by
  refine ⟨by rw [List.length_append, hL.rows, hK.rows], fun r hr => ?_, fun i j hi hj => ?_⟩
  · rcases List.mem_append.1 hr with h | h
    · exact hL.cols r h
    · exact hK.cols r h
  · rw [ent_append, hL.rows]
    by_cases h : i < d
    · rw [if_pos h, hL.eq i j h hj, ← one_mul_left d a h j]
      exact mul_congr (fun k _ => by unfold rowM; rw [if_pos h]) fun _ _ => rfl
    · rw [if_neg h, hK.eq (i - d) j (by omega) hj]
      unfold spareM
      refine sum_congr fun k _ => ?_
      show gmul (rowM d (d + (i - d)) k) (a k j) = _
      rw [show d + (i - d) = i by omega]
end Go.Proofs.Ytoedbglbcbgdfaa.Mat
