/- Plain laws of matrices as lists of rows: what is wrong with one, products, what undoes one. No program in sight. -/
import Derived.Test.YtoedbglbcbgdfaaMat
namespace Go.Proofs.Ytoedbglbcbgdfaa.Mat
set_option linter.unusedVariables false
/-- what stands at row i, column j -/
def ent (L : List (List UInt8)) (i j : Nat) : UInt8 := (L.getD i []).getD j 0
/-- how long row i is -/
def wid (L : List (List UInt8)) (i : Nat) : Nat := (L.getD i []).length
def tab (n m : Nat) (f : M) : List (List UInt8) := (List.range n).map fun i => (List.range m).map fun j => f i j
/-- L has n rows of m bytes, f's. -/
structure Rep (L : List (List UInt8)) (n m : Nat) (f : M) : Prop where
  rows : L.length = n
  cols : ∀ r ∈ L, r.length = m
  eq : ∀ i j, i < n → j < m → ent L i j = f i j
theorem ent_get {L : List (List UInt8)} {i j : Nat} (hi : i < L.length) (hj : j < L[i].length) : ent L i j = L[i][j] := by
  unfold ent
  simp [List.getD, hi, hj]
theorem wid_get {L : List (List UInt8)} {i : Nat} (hi : i < L.length) : wid L i = L[i].length := by
  unfold wid
  simp [List.getD, hi]
theorem tab_rows (n m : Nat) (f : M) : (tab n m f).length = n := by simp [tab]
theorem tab_rep (n m : Nat) (f : M) : Rep (tab n m f) n m f := by
  refine ⟨tab_rows n m f, fun r hr => ?_, fun i j hi hj => ?_⟩
  · unfold tab at hr
    obtain ⟨i, _, rfl⟩ := List.mem_map.1 hr
    simp
  · rw [ent_get (by rw [tab_rows]; exact hi) (by simp [tab]; exact hj)]
    simp [tab]
theorem Rep.width {L : List (List UInt8)} {n m : Nat} {f : M} (h : Rep L n m f) {i : Nat} (hi : i < n) : wid L i = m := by
  have hl : i < L.length := by rw [h.rows]; exact hi
  rw [wid_get hl]; exact h.cols _ (List.getElem_mem _)
theorem Rep.uniq {L K : List (List UInt8)} {n m : Nat} {f g : M} (h : Rep L n m f) (k : Rep K n m g) (e : ∀ i j, i < n → j < m → f i j = g i j) : L = K := by
  refine List.ext_getElem (by rw [h.rows, k.rows]) fun i h1 h2 => ?_
  have hi : i < n := by rw [← h.rows]; exact h1
  have c1 := h.cols _ (List.getElem_mem h1)
  have c2 := k.cols _ (List.getElem_mem h2)
  refine List.ext_getElem (by rw [c1, c2]) fun j g1 g2 => ?_
  have hj : j < m := by rw [← c1]; exact g1
  rw [← ent_get h1 g1, ← ent_get h2 g2, h.eq i j hi hj, k.eq i j hi hj, e i j hi hj]
theorem Rep.congr {L : List (List UInt8)} {n m : Nat} {f g : M} (h : Rep L n m f) (e : ∀ i j, i < n → j < m → f i j = g i j) : Rep L n m g :=
  ⟨h.rows, h.cols, fun i j hi hj => (h.eq i j hi hj).trans (e i j hi hj)⟩
theorem Rep.self {L : List (List UInt8)} {n m : Nat} (h1 : L.length = n) (h2 : ∀ r ∈ L, r.length = m) : Rep L n m (ent L) := ⟨h1, h2, fun _ _ _ _ => rfl⟩
/-- one row turns -/
theorem Rep.set {L : List (List UInt8)} {n m : Nat} {f : M} (h : Rep L n m f) (i : Nat) (r : List UInt8) (hr : r.length = m) (hi : i < n) : Rep (L.set i r) n m (fun a j => if a = i then r.getD j 0 else f a j) := by
  refine ⟨by rw [List.length_set]; exact h.rows, fun q hq => ?_, fun a j ha hj => ?_⟩
  · rcases List.mem_or_eq_of_mem_set hq with h1 | rfl
    · exact h.cols _ h1
    · exact hr
  · unfold ent
    by_cases e : a = i
    · subst e
      rw [if_pos rfl]
      congr 1
      simp [List.getD, h.rows, ha]
    · rw [if_neg e, ← h.eq a j ha hj]
      unfold ent
      congr 1
      simp [List.getD, List.getElem?_set_ne (Ne.symm e)]
/-- what is wrong with a matrix -/
def wrongM (L : List (List UInt8)) : Int := if L.length < 1 ∨ 12 < L.length ∨ wid L 0 < 1 ∨ 400 < wid L 0 then 5 else if ∃ r ∈ L, r.length ≠ wid L 0 then 2 else 0
structure Fine (L : List (List UInt8)) (n m : Nat) : Prop where
  rows : L.length = n
  cols : ∀ r ∈ L, r.length = m
  n1 : 1 ≤ n
  n2 : n ≤ 12
  m1 : 1 ≤ m
  m2 : m ≤ 400
theorem wrong_fine {L : List (List UInt8)} (h : wrongM L = 0) : Fine L L.length (wid L 0) := by
  unfold wrongM at h
  split at h
  · cases h
  · split at h
    · cases h
    · rename_i h1 h2
      exact ⟨rfl, fun r hr => Classical.byContradiction fun e => h2 ⟨r, hr, e⟩, by omega, by omega, by omega, by omega⟩
theorem Fine.wid0 {L : List (List UInt8)} {n m : Nat} (h : Fine L n m) : wid L 0 = m := by
  have h1 := h.n1
  have hl : 0 < L.length := by rw [h.rows]; omega
  rw [wid_get hl]; exact h.cols _ (List.getElem_mem _)
theorem Fine.wrong {L : List (List UInt8)} {n m : Nat} (h : Fine L n m) : wrongM L = 0 := by
  unfold wrongM
  rw [if_neg, if_neg]
  · rintro ⟨r, hr, hne⟩
    exact hne (by rw [h.wid0]; exact h.cols r hr)
  · rw [h.wid0, h.rows]
    have := h.n1; have := h.n2; have := h.m1; have := h.m2
    omega
theorem Fine.rep {L : List (List UInt8)} {n m : Nat} (h : Fine L n m) : Rep L n m (ent L) := .self h.rows h.cols
theorem Rep.fine {L : List (List UInt8)} {n m : Nat} {f : M} (h : Rep L n m f) (n1 : 1 ≤ n) (n2 : n ≤ 12) (m1 : 1 ≤ m) (m2 : m ≤ 400) : Fine L n m := ⟨h.rows, h.cols, n1, n2, m1, m2⟩
/-- the one of n -/
def OneR (n : Int) (L : List (List UInt8)) (e : Int) : Prop := if n < 1 ∨ 12 < n then L = [] ∧ e = 5 else Rep L n.toNat n.toNat one ∧ e = 0
/-- a product -/
def MulR (A B : List (List UInt8)) (L : List (List UInt8)) (e : Int) : Prop :=
  if wrongM A ≠ 0 then L = [] ∧ e = wrongM A else if wrongM B ≠ 0 then L = [] ∧ e = wrongM B else if wid A 0 ≠ B.length then L = [] ∧ e = 8
  else Rep L A.length (wid B 0) (mul B.length (ent A) (ent B)) ∧ e = 0
/-- what undoes it -/
def InvR (A : List (List UInt8)) (L : List (List UInt8)) (e : Int) : Prop :=
  if wrongM A ≠ 0 then L = [] ∧ e = wrongM A else if wid A 0 ≠ A.length then L = [] ∧ e = 8
  else (L = [] ∧ e = 6 ∧ ¬ Inj A.length (ent A)) ∨ (∃ f, Rep L A.length A.length f ∧ Undo A.length (ent A) f ∧ e = 0)
theorem OneR.uniq {n : Int} {L K : List (List UInt8)} {e g : Int} (h : OneR n L e) (k : OneR n K g) : L = K ∧ e = g := by
  unfold OneR at h k
  split at h
  · rw [if_pos (by assumption)] at k; exact ⟨h.1.trans k.1.symm, h.2.trans k.2.symm⟩
  · rw [if_neg (by assumption)] at k; exact ⟨h.1.uniq k.1 (fun _ _ _ _ => rfl), h.2.trans k.2.symm⟩
theorem MulR.uniq {A B : List (List UInt8)} {L K : List (List UInt8)} {e g : Int} (h : MulR A B L e) (k : MulR A B K g) : L = K ∧ e = g := by
  unfold MulR at h k
  split at h
  · rw [if_pos (by assumption)] at k; exact ⟨h.1.trans k.1.symm, h.2.trans k.2.symm⟩
  · rw [if_neg (by assumption)] at k
    split at h
    · rw [if_pos (by assumption)] at k; exact ⟨h.1.trans k.1.symm, h.2.trans k.2.symm⟩
    · rw [if_neg (by assumption)] at k
      split at h
      · rw [if_pos (by assumption)] at k; exact ⟨h.1.trans k.1.symm, h.2.trans k.2.symm⟩
      · rw [if_neg (by assumption)] at k; exact ⟨h.1.uniq k.1 (fun _ _ _ _ => rfl), h.2.trans k.2.symm⟩
theorem Undo.inj {n : Nat} {a b : M} (h : Undo n a b) : Inj n a := inj_of_left h.1
theorem InvR.uniq {A : List (List UInt8)} {L K : List (List UInt8)} {e g : Int} (h : InvR A L e) (k : InvR A K g) : L = K ∧ e = g := by
  unfold InvR at h k
  split at h
  · rw [if_pos (by assumption)] at k; exact ⟨h.1.trans k.1.symm, h.2.trans k.2.symm⟩
  · rw [if_neg (by assumption)] at k
    split at h
    · rw [if_pos (by assumption)] at k; exact ⟨h.1.trans k.1.symm, h.2.trans k.2.symm⟩
    · rw [if_neg (by assumption)] at k
      rcases h with ⟨h1, h2, h3⟩ | ⟨f, h1, h2, h3⟩
      · rcases k with ⟨k1, k2, k3⟩ | ⟨f', k1, k2, k3⟩
        · exact ⟨h1.trans k1.symm, h2.trans k2.symm⟩
        · exact absurd k2.inj h3
      · rcases k with ⟨k1, k2, k3⟩ | ⟨f', k1, k2, k3⟩
        · exact absurd h2.inj k3
        · exact ⟨h1.uniq k1 (h2.uniq k2), h3.trans k3.symm⟩
theorem OneR.ok {n : Nat} (h1 : 1 ≤ n) (h2 : n ≤ 12) {L : List (List UInt8)} {e : Int} (h : OneR (n : Int) L e) : Rep L n n one ∧ e = 0 := by
  unfold OneR at h
  rw [if_neg (by omega)] at h
  simpa using h
theorem MulR.ok {A B : List (List UInt8)} {n m k : Nat} (hA : Fine A n m) (hB : Fine B m k) {L : List (List UInt8)} {e : Int} (h : MulR A B L e) : Rep L n k (mul m (ent A) (ent B)) ∧ e = 0 := by
  unfold MulR at h
  rw [if_neg (by rw [hA.wrong]; simp), if_neg (by rw [hB.wrong]; simp), if_neg (by rw [hA.wid0, hB.rows]; simp), hA.rows, hB.rows, hB.wid0] at h
  exact h
theorem InvR.ok {A : List (List UInt8)} {n : Nat} (hA : Fine A n n) {L : List (List UInt8)} {e : Int} (h : InvR A L e) : (L = [] ∧ e = 6 ∧ ¬ Inj n (ent A)) ∨ (∃ f, Rep L n n f ∧ Undo n (ent A) f ∧ e = 0) := by
  unfold InvR at h
  rw [if_neg (by rw [hA.wrong]; simp), if_neg (by rw [hA.wid0, hA.rows]; simp), hA.rows] at h
  exact h
end Go.Proofs.Ytoedbglbcbgdfaa.Mat
