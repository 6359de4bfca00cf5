/- Plain laws of chapter 3: what each shard is of data; spare shards; mending; any as many rows as data can be undone. No program in sight. -/
import Derived.Test.YtoedbglbcbgdfaaGrd
import Derived.Test.YtoedbglbcbgdfaaCau
namespace Go.Proofs.Ytoedbglbcbgdfaa.Mat
set_option linter.unusedVariables false
def wrongC (d s : Int) : Int := if d < 1 ∨ 8 < d ∨ s < 0 ∨ 4 < s then 5 else 0
theorem wrongC_ok {d s : Int} (h : wrongC d s = 0) : 1 ≤ d ∧ d ≤ 8 ∧ 0 ≤ s ∧ s ≤ 4 := by
  unfold wrongC at h
  split at h
  · cases h
  · omega
theorem wrongC_of {d s : Int} (h : 1 ≤ d ∧ d ≤ 8 ∧ 0 ≤ s ∧ s ≤ 4) : wrongC d s = 0 := by
  unfold wrongC; rw [if_neg (by omega)]
/-- what shard i is of data -/
def rowM (d : Nat) : M := fun i j => if i < d then one i j else ginv (gadd (UInt8.ofNat i) (UInt8.ofNat j))
def RowsR (d s : Int) (L : List (List UInt8)) (e : Int) : Prop := if wrongC d s ≠ 0 then L = [] ∧ e = wrongC d s else Rep L (d + s).toNat d.toNat (rowM d.toNat) ∧ e = 0
/-- the spare shards of a -/
def spareM (d : Nat) (a : M) : M := mul d (fun i j => rowM d (d + i) j) a
def SpareR (l : List (List UInt8)) (s : Int) (L : List (List UInt8)) (e : Int) : Prop :=
  if wrongC l.length s ≠ 0 then L = [] ∧ e = wrongC l.length s else if wrongM l ≠ 0 then L = [] ∧ e = wrongM l else Rep L s.toNat (wid l 0) (spareM l.length (ent l)) ∧ e = 0
theorem RowsR.uniq {d s : Int} {L K : List (List UInt8)} {e g : Int} (h : RowsR d s L e) (k : RowsR d s K g) : L = K ∧ e = g := by
  unfold RowsR at h k
  split at h
  · rw [if_pos (by assumption)] at k; exact ⟨h.1.trans k.1.symm, h.2.trans k.2.symm⟩
  · rw [if_neg (by assumption)] at k; exact ⟨h.1.uniq k.1 (fun _ _ _ _ => rfl), h.2.trans k.2.symm⟩
theorem SpareR.uniq {l : List (List UInt8)} {s : Int} {L K : List (List UInt8)} {e g : Int} (h : SpareR l s L e) (k : SpareR l s K g) : L = K ∧ e = g := by
  unfold SpareR at h k
  split at h
  · rw [if_pos (by assumption)] at k; exact ⟨h.1.trans k.1.symm, h.2.trans k.2.symm⟩
  · rw [if_neg (by assumption)] at k
    split at h
    · rw [if_pos (by assumption)] at k; exact ⟨h.1.trans k.1.symm, h.2.trans k.2.symm⟩
    · rw [if_neg (by assumption)] at k; exact ⟨h.1.uniq k.1 (fun _ _ _ _ => rfl), h.2.trans k.2.symm⟩
theorem RowsR.ok {d s : Nat} {L : List (List UInt8)} {e : Int} (h1 : 1 ≤ d) (h2 : d ≤ 8) (h3 : s ≤ 4) (h : RowsR (d : Int) (s : Int) L e) : Rep L (d + s) d (rowM d) ∧ e = 0 := by
  unfold RowsR at h
  rw [if_neg (fun hh => hh (wrongC_of (by omega)))] at h
  have e1 : ((d : Int) + (s : Int)).toNat = d + s := by omega
  rwa [e1, Int.toNat_natCast] at h
theorem SpareR.ok {l : List (List UInt8)} {d m s : Nat} {L : List (List UInt8)} {e : Int} (hl : Fine l d m) (h2 : d ≤ 8) (h3 : s ≤ 4) (h : SpareR l (s : Int) L e) : Rep L s m (spareM d (ent l)) ∧ e = 0 := by
  unfold SpareR at h
  rw [hl.rows] at h
  have := hl.n1
  rw [if_neg (fun hh => hh (wrongC_of (by omega))), if_neg (fun hh => hh hl.wrong), hl.wid0, Int.toNat_natCast] at h
  exact h
/-- Spare shards that came out are of fit data. -/
theorem SpareR.fit {l : List (List UInt8)} {s : Int} {L : List (List UInt8)} {e : Int} (h : SpareR l s L e) (he : e = 0) : ∃ d m s' : Nat, s = s' ∧ Fine l d m ∧ d ≤ 8 ∧ s' ≤ 4 ∧ Rep L s' m (spareM d (ent l)) := by
  subst he
  unfold SpareR at h
  split at h
  · rename_i h1; exact absurd h.2.symm h1
  · rename_i h1
    split at h
    · rename_i h2; exact absurd h.2.symm h2
    · rename_i h2
      have hF := wrong_fine (Classical.not_not.1 h2)
      have hc := wrongC_ok (Classical.not_not.1 h1)
      exact ⟨_, _, s.toNat, by omega, hF, by omega, by omega, h.1⟩
theorem SpareR.bad {l : List (List UInt8)} {s : Int} {L : List (List UInt8)} {e : Int} (h : SpareR l s L e) (he : e ≠ 0) : L = [] := by
  unfold SpareR at h
  split at h
  · exact h.1
  · split at h
    · exact h.1
    · exact absurd h.2 he
/-! ### any as many rows as data -/
theorem length_sub {l : List Nat} : ∀ {m : List Nat}, l.Nodup → (∀ x ∈ l, x ∈ m) → l.length ≤ m.length := by
  induction l with
  | nil => intro m _ _; exact Nat.zero_le _
  | cons a l ih =>
    intro m hn hs
    rw [List.nodup_cons] at hn
    have ha := hs a (List.mem_cons_self ..)
    have h1 := ih (m := m.erase a) hn.2 fun x hx => (List.mem_erase_of_ne (show x ≠ a from fun e => hn.1 (by rw [← e]; exact hx))).2 (hs x (List.mem_cons_of_mem _ hx))
    rw [List.length_erase_of_mem ha] at h1
    have h2 : 0 < m.length := List.length_pos_of_mem ha
    simp only [List.length_cons]
    omega
theorem filter_both {α : Type} (l : List α) (p : α → Bool) : (l.filter p).length + (l.filter fun x => !p x).length = l.length := by
  induction l with
  | nil => rfl
  | cons a l ih =>
    by_cases h : p a = true
    · simp [h]; omega
    · simp [h]; omega
theorem lsum_append {α : Type} (l m : List α) (f : α → UInt8) : lsum (l ++ m) f = gadd (lsum l f) (lsum m f) := by
  induction l with
  | nil => exact (zero_add _).symm
  | cons x l ih => show gadd _ (lsum (l ++ m) f) = gadd (gadd _ _) _; rw [ih, add_assoc]
theorem sum_lsum (n : Nat) (f : Nat → UInt8) : sum n f = lsum (List.range n) f := by
  induction n with
  | zero => rfl
  | succ n ih =>
    rw [List.range_succ, lsum_append, sum_succ, ih]
    show _ = gadd _ (gadd (f n) 0)
    rw [add_zero]
theorem lsum_filter {α : Type} (l : List α) (p : α → Bool) (f : α → UInt8) (h : ∀ x ∈ l, p x = false → f x = 0) : lsum (l.filter p) f = lsum l f := by
  induction l with
  | nil => rfl
  | cons x l ih =>
    have ih := ih fun y hy => h y (List.mem_cons_of_mem _ hy)
    cases hx : p x with
    | true => rw [List.filter_cons_of_pos hx]; show gadd _ _ = gadd _ _; rw [ih]
    | false =>
      rw [List.filter_cons_of_neg (by simp [hx]), ih]
      show _ = gadd (f x) _
      rw [h x (List.mem_cons_self ..) hx, zero_add]
theorem ofNat_inj {a b : Nat} (ha : a < 256) (hb : b < 256) (h : UInt8.ofNat a = UInt8.ofNat b) : a = b := by
  have := congrArg UInt8.toNat h
  rwa [UInt8.toNat_ofNat', UInt8.toNat_ofNat', Nat.mod_eq_of_lt ha, Nat.mod_eq_of_lt hb] at this
theorem nodup_map_ofNat {l : List Nat} (h : l.Nodup) (hl : ∀ x ∈ l, x < 256) : (l.map UInt8.ofNat).Nodup := by
  induction l with
  | nil => exact List.nodup_nil
  | cons a l ih =>
    rw [List.nodup_cons] at h
    rw [List.map_cons, List.nodup_cons]
    refine ⟨fun hm => ?_, ih h.2 fun x hx => hl x (List.mem_cons_of_mem _ hx)⟩
    obtain ⟨x, hx, e⟩ := List.mem_map.1 hm
    have := ofNat_inj (hl x (List.mem_cons_of_mem _ hx)) (hl a (List.mem_cons_self ..)) e
    exact h.1 (this ▸ hx)
/-- the rows that were picked -/
def picked (d : Nat) (U : List Nat) : M := fun i j => rowM d (U.getD i 0) j
theorem picked_inj {d : Nat} (U : List Nat) (hlen : U.length = d) (hnd : U.Nodup) (hlt : ∀ u ∈ U, u < 256) : Inj d (picked d U) := by
  intro x hx
  -- rows of data among them
  have row : ∀ u ∈ U, (sum d fun k => gmul (rowM d u k) (x k)) = 0 := fun u hu => by
    obtain ⟨i, hi, rfl⟩ := List.getElem_of_mem hu
    have := hx i (by omega)
    unfold app picked at this
    rw [show U.getD i 0 = U[i] by simp [List.getD, hi]] at this
    exact this
  have data : ∀ u ∈ U, u < d → x u = 0 := fun u hu hud => by
    have := row u hu
    rw [sum_one hud _ fun k hk hne => by unfold rowM one; rw [if_pos hud, if_neg (fun e => hne e.symm), zero_mul]] at this
    unfold rowM one at this
    rwa [if_pos hud, if_pos rfl, one_mul] at this
  -- data that are missing, rows of spare ones
  let T := (List.range d).filter fun j => !decide (j ∈ U)
  let H := U.filter fun u => !decide (u < d)
  have hT : ∀ j, j ∈ T ↔ j < d ∧ j ∉ U := fun j => by simp [T]
  have hH : ∀ u, u ∈ H ↔ u ∈ U ∧ d ≤ u := fun u => by simp [H]
  have hle : T.length ≤ H.length := by
    have h1 := filter_both U (fun u => decide (u < d))
    have h2 := filter_both (List.range d) (fun j => decide (j ∈ U))
    have h3 : (U.filter fun u => decide (u < d)).length ≤ ((List.range d).filter fun j => decide (j ∈ U)).length :=
      length_sub (hnd.filter _) fun y hy => by
        simp only [List.mem_filter, List.mem_range, decide_eq_true_eq] at hy ⊢
        exact ⟨hy.2, hy.1⟩
    have e1 : (U.filter fun x => !decide (x < d)).length = H.length := rfl
    have e2 : ((List.range d).filter fun x => !decide (x ∈ U)).length = T.length := rfl
    rw [e1] at h1
    rw [e2, List.length_range] at h2
    omega
  have key := cauchy (T.map fun j => (UInt8.ofNat j, x j)) ((H.take T.length).map UInt8.ofNat) (by simp; omega)
    (nodup_map_ofNat ((hnd.filter _).sublist (List.take_sublist _ _)) fun u hu => hlt u ((hH u).1 (List.mem_of_mem_take hu)).1)
    (by
      rw [List.map_map]
      have : ((fun p : UInt8 × UInt8 => p.1) ∘ fun j => (UInt8.ofNat j, x j)) = UInt8.ofNat := rfl
      rw [this]
      by_cases hd : d ≤ 256
      · exact nodup_map_ofNat (List.nodup_range.filter _) fun j hj => by have := ((hT j).1 hj).1; omega
      · -- more rows than numbers
        have := length_sub (l := U) (m := List.range 256) hnd fun u hu => List.mem_range.2 (hlt u hu)
        rw [List.length_range] at this
        omega)
    (fun a ha p hp e => by
      obtain ⟨u, hu, rfl⟩ := List.mem_map.1 ha
      obtain ⟨j, hj, rfl⟩ := List.mem_map.1 hp
      have h1 := (hH u).1 (List.mem_of_mem_take hu)
      have h2 := (hT j).1 hj
      have := ofNat_inj (hlt u h1.1) (by have := hlt u h1.1; omega) e
      omega)
    (fun a ha => by
      obtain ⟨u, hu, rfl⟩ := List.mem_map.1 ha
      have h1 := (hH u).1 (List.mem_of_mem_take hu)
      have h2 := row u h1.1
      rw [sum_lsum, ← lsum_filter (List.range d) (fun j => !decide (j ∈ U)) _ (fun k hk hkU => by
        have hkU : k ∈ U := by simpa using hkU
        rw [data k hkU (List.mem_range.1 hk), mul_zero])] at h2
      rw [lsum_map, ← h2]
      refine lsum_congr fun j hj => ?_
      have h3 := (hT j).1 hj
      unfold rowM
      rw [if_neg (by omega), mul_comm])
  intro i hi
  by_cases hiU : i ∈ U
  · exact data i hiU hi
  · exact key (UInt8.ofNat i, x i) (List.mem_map.2 ⟨i, (hT i).2 ⟨hi, hiU⟩, rfl⟩)
/-- What can be undone there is one that undoes. -/
theorem InvR.inj {A L : List (List UInt8)} {n : Nat} {e : Int} (hA : Fine A n n) (hi : Inj n (ent A)) (h : InvR A L e) : ∃ f, Rep L n n f ∧ Undo n (ent A) f ∧ e = 0 := by
  rcases h.ok hA with ⟨_, _, h⟩ | h
  · exact absurd hi h
  · exact h
/-! ### mending -/
/-- the shards that are there -/
def there (l : List (List UInt8)) : List Nat := (List.range l.length).filter fun i => decide (0 < (l.getD i []).length)
def BadForm (l : List (List UInt8)) : Prop := ∃ s ∈ l, 400 < s.length ∨ (0 < s.length ∧ s.length ≠ wid l ((there l).getD 0 0))
def mendM (l : List (List UInt8)) (d : Nat) (f : M) : M := mul d (rowM d) (mul d f (fun p k => ent l ((there l).getD p 0) k))
open Classical in
def MendR (l : List (List UInt8)) (d : Int) (L : List (List UInt8)) (e : Int) : Prop :=
  if wrongC d ((l.length : Int) - d) ≠ 0 then L = [] ∧ e = wrongC d ((l.length : Int) - d) else if ((there l).length : Int) < d then L = [] ∧ e = 10 else if BadForm l then L = [] ∧ e = 2
  else ∃ f, Undo d.toNat (picked d.toNat ((there l).take d.toNat)) f ∧ Rep L l.length (wid l ((there l).getD 0 0)) (mendM l d.toNat f) ∧ e = 0
theorem mul_congr {n : Nat} {a a' b b' : M} {i j : Nat} (h1 : ∀ k, k < n → a i k = a' i k) (h2 : ∀ k, k < n → b k j = b' k j) : mul n a b i j = mul n a' b' i j := sum_congr fun k hk => by rw [h1 k hk, h2 k hk]
theorem MendR.uniq {l : List (List UInt8)} {d : Int} {L K : List (List UInt8)} {e g : Int} (h : MendR l d L e) (k : MendR l d K g) : L = K ∧ e = g := by
  classical
  unfold MendR at h k
  split at h
  · rw [if_pos (by assumption)] at k; exact ⟨h.1.trans k.1.symm, h.2.trans k.2.symm⟩
  · rw [if_neg (by assumption)] at k
    split at h
    · rw [if_pos (by assumption)] at k; exact ⟨h.1.trans k.1.symm, h.2.trans k.2.symm⟩
    · rw [if_neg (by assumption)] at k
      split at h
      · rw [if_pos (by assumption)] at k; exact ⟨h.1.trans k.1.symm, h.2.trans k.2.symm⟩
      · rw [if_neg (by assumption)] at k
        obtain ⟨f, h1, h2, h3⟩ := h
        obtain ⟨f', k1, k2, k3⟩ := k
        exact ⟨h2.uniq k2 (fun i j hi hj => mul_congr (fun _ _ => rfl) fun p hp => mul_congr (fun q hq => h1.uniq k1 p q hp hq) fun _ _ => rfl), h3.trans k3.symm⟩
end Go.Proofs.Ytoedbglbcbgdfaa.Mat
