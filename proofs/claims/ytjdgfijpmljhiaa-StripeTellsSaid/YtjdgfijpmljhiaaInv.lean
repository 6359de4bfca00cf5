/- Plain laws: how rows that change places, are multiplied, or added, turn the entries; a step of undoing between like matrices. No program in sight. -/
import Derived.Test.YtjdgfijpmljhiaaPlB
namespace Go.Proofs.Ytjdgfijpmljhiaa.Mat
set_option linter.unusedVariables false
theorem Step.congr {n : Nat} {a work out work' out' : M} {P P' : Nat → Prop} (h : Step n a work out P) (hw : ∀ i j, i < n → j < n → work' i j = work i j) (ho : ∀ i j, i < n → j < n → out' i j = out i j) (hP : ∀ j, P' j → P j ∧ j < n) : Step n a work' out' P' := by
  refine ⟨fun i j hi hj => ?_, fun x hx => h.inj x fun i hi => ?_, fun i j hi hj => ?_⟩
  · rw [hw i j hi hj, ← h.eq i j hi hj]
    exact sum_congr fun k hk => by rw [ho i k hi hk]
  · rw [← hx i hi]
    exact app_congr (fun k hk => (ho i k hi hk).symm) (fun _ _ => rfl)
  · rw [hw i j hi (hP j hj).2]
    exact h.cols i j hi (hP j hj).1
theorem ent_set {L : List (List UInt8)} {i : Nat} (hi : i < L.length) (r : List UInt8) (a j : Nat) : ent (L.set i r) a j = if a = i then r.getD j 0 else ent L a j := by
  unfold ent
  by_cases e : a = i
  · subst e; simp [List.getD, hi]
  · rw [if_neg e]; simp [List.getD, List.getElem?_set_ne (Ne.symm e)]
theorem ent_at {L : List (List UInt8)} {i : Nat} (hi : i < L.length) (j : Nat) : ent L i j = L[i].getD j 0 := by
  unfold ent; simp [List.getD, hi]
theorem ent_swap {L : List (List UInt8)} {c k : Nat} (hc : c < L.length) (hk : k < L.length) (i j : Nat) : ent ((L.set c L[k]).set k L[c]) i j = swapM c k (ent L) i j := by
  rw [ent_set (by simpa using hk), ent_set hc]
  unfold swapM
  rw [ent_at hc, ent_at hk]
  by_cases e1 : i = k
  · subst e1
    rw [if_pos rfl]
    by_cases e2 : i = c
    · subst e2; rw [if_pos rfl]
    · rw [if_neg e2, if_pos rfl]
  · rw [if_neg e1]
    by_cases e2 : i = c
    · rw [if_pos e2, if_pos e2]
    · rw [if_neg e2, if_neg e2, if_neg e1]
theorem ent_scale {L : List (List UInt8)} {n c : Nat} {x : UInt8} (hc : c < L.length) {r : List UInt8} (hr : ∀ j, j < n → r.getD j 0 = gmul (L[c].getD j 0) x) (i j : Nat) (hj : j < n) : ent (L.set c r) i j = scaleM c x (ent L) i j := by
  rw [ent_set hc]
  unfold scaleM
  by_cases e : i = c
  · rw [if_pos e, if_pos e, hr j hj, ent_at hc]
  · rw [if_neg e, if_neg e]
/-- the rows ahead of i are done -/
def elimTo (c : Nat) (y : Nat → UInt8) (i : Nat) (a : M) : M := fun r j => if r < i then elimM c y a r j else a r j
theorem elimTo_zero (c : Nat) (y : Nat → UInt8) (a : M) (r j : Nat) : elimTo c y 0 a r j = a r j := by unfold elimTo; rw [if_neg (by omega)]
theorem elimTo_all {c n : Nat} {y : Nat → UInt8} {a : M} {r j : Nat} (h : r < n) : elimTo c y n a r j = elimM c y a r j := by unfold elimTo; rw [if_pos h]
/-- a row that stays -/
theorem elimTo_stay {c i : Nat} {y : Nat → UInt8} {a : M} (h : i = c ∨ y i = 0) (r j : Nat) : elimTo c y (i + 1) a r j = elimTo c y i a r j := by
  unfold elimTo
  by_cases e : r = i
  · subst e
    rw [if_pos (by omega), if_neg (by omega)]
    unfold elimM
    rcases h with h | h
    · rw [if_pos h, h]
    · split
      · rename_i e; rw [e]
      · rw [h, mul_zero, add_zero]
  · by_cases e2 : r < i
    · rw [if_pos e2, if_pos (by omega)]
    · rw [if_neg e2, if_neg (by omega)]
/-- a row that turns -/
theorem ent_elim {L : List (List UInt8)} {n c i : Nat} {y : Nat → UInt8} {a : M} (hi : i < L.length) (hL : ∀ r j, r < n → j < n → ent L r j = elimTo c y i a r j) (hin : i < n) (hcn : c < n) (hic : i ≠ c) {m : List UInt8}
    (hm : ∀ j, j < n → m.getD j 0 = gadd (L[i].getD j 0) (gmul (ent L c j) (y i))) (r j : Nat) (hr : r < n) (hj : j < n) : ent (L.set i m) r j = elimTo c y (i + 1) a r j := by
  have hc : ent L c j = a c j := by
    rw [hL c j hcn hj]
    unfold elimTo elimM
    split
    · rw [if_pos rfl]
    · rfl
  rw [ent_set hi]
  by_cases e : r = i
  · subst e
    rw [if_pos rfl, hm j hj, hc, ← ent_at hi, hL r j hr hj]
    unfold elimTo
    rw [if_neg (by omega), if_pos (by omega)]
    unfold elimM
    rw [if_neg hic]
  · rw [if_neg e, hL r j hr hj]
    unfold elimTo
    by_cases e2 : r < i
    · rw [if_pos e2, if_pos (by omega)]
    · rw [if_neg e2, if_neg (by omega)]
theorem scale_one {c : Nat} {a : M} (h : a c c ≠ 0) : scaleM c (ginv (a c c)) a c c = 1 := by
  unfold scaleM; rw [if_pos rfl]; exact mul_inv h
end Go.Proofs.Ytjdgfijpmljhiaa.Mat
