/- Plain laws of matrices of bytes: sums, products, what undoes one. No program in sight. -/
import Derived.Test.YtoedbglbcbgdfaaFld
namespace Go.Proofs.Ytoedbglbcbgdfaa.Mat
set_option linter.unusedVariables false
/-! ### bytes as numbers -/
def gadd (a b : UInt8) : UInt8 := a ^^^ b
def gmul (a b : UInt8) : UInt8 := UInt8.ofNat (Fld.mul a.toNat b.toNat)
def ginv (a : UInt8) : UInt8 := UInt8.ofNat (Fld.inv a.toNat)
theorem toNat_mul (a b : UInt8) : (gmul a b).toNat = Fld.mul a.toNat b.toNat := by
  unfold gmul; rw [UInt8.toNat_ofNat']; exact Nat.mod_eq_of_lt (Fld.mul_lt _ _)
theorem toNat_inv (a : UInt8) : (ginv a).toNat = Fld.inv a.toNat := by
  unfold ginv; rw [UInt8.toNat_ofNat']; exact Nat.mod_eq_of_lt (Fld.inv_lt _)
theorem toNat_add (a b : UInt8) : (gadd a b).toNat = a.toNat ^^^ b.toNat := UInt8.toNat_xor a b
theorem lt (a : UInt8) : a.toNat < 256 := UInt8.toNat_lt a
theorem add_comm (a b : UInt8) : gadd a b = gadd b a := UInt8.toNat_inj.1 (by rw [toNat_add, toNat_add, Nat.xor_comm])
theorem add_assoc (a b c : UInt8) : gadd (gadd a b) c = gadd a (gadd b c) := UInt8.toNat_inj.1 (by simp only [toNat_add, Nat.xor_assoc])
theorem add_zero (a : UInt8) : gadd a 0 = a := UInt8.toNat_inj.1 (by rw [toNat_add]; exact Nat.xor_zero _)
theorem zero_add (a : UInt8) : gadd 0 a = a := by rw [add_comm, add_zero]
theorem add_self (a : UInt8) : gadd a a = 0 := UInt8.toNat_inj.1 (by rw [toNat_add, Nat.xor_self]; rfl)
theorem add_eq_zero {a b : UInt8} (h : gadd a b = 0) : a = b := by
  have : gadd (gadd a b) b = gadd 0 b := by rw [h]
  rwa [add_assoc, add_self, add_zero, zero_add] at this
theorem mul_comm (a b : UInt8) : gmul a b = gmul b a := UInt8.toNat_inj.1 (by rw [toNat_mul, toNat_mul, Fld.mul_comm])
theorem mul_assoc (a b c : UInt8) : gmul (gmul a b) c = gmul a (gmul b c) := UInt8.toNat_inj.1 (by simp only [toNat_mul]; exact Fld.mul_assoc _ _ _ (lt a) (lt b) (lt c))
theorem mul_one (a : UInt8) : gmul a 1 = a := UInt8.toNat_inj.1 (by rw [toNat_mul]; exact Fld.mul_one _ (lt a))
theorem one_mul (a : UInt8) : gmul 1 a = a := by rw [mul_comm, mul_one]
theorem mul_zero (a : UInt8) : gmul a 0 = 0 := UInt8.toNat_inj.1 (by rw [toNat_mul]; exact Fld.mul_zero _)
theorem zero_mul (a : UInt8) : gmul 0 a = 0 := by rw [mul_comm, mul_zero]
theorem mul_add (a b c : UInt8) : gmul a (gadd b c) = gadd (gmul a b) (gmul a c) := UInt8.toNat_inj.1 (by simp only [toNat_mul, toNat_add]; exact Fld.mul_addr _ _ _ (lt a) (lt b) (lt c))
theorem add_mul (a b c : UInt8) : gmul (gadd a b) c = gadd (gmul a c) (gmul b c) := by rw [mul_comm, mul_add, mul_comm c a, mul_comm c b]
theorem ne_zero {a : UInt8} (h : a ≠ 0) : a.toNat ≠ 0 := fun e => h (UInt8.toNat_inj.1 e)
theorem mul_inv {a : UInt8} (h : a ≠ 0) : gmul a (ginv a) = 1 := UInt8.toNat_inj.1 (by rw [toNat_mul, toNat_inv]; exact Fld.mul_inv _ (lt a) (ne_zero h))
theorem inv_mul {a : UInt8} (h : a ≠ 0) : gmul (ginv a) a = 1 := by rw [mul_comm, mul_inv h]
theorem inv_ne {a : UInt8} (h : a ≠ 0) : ginv a ≠ 0 := fun e => by have := mul_inv h; rw [e, mul_zero] at this; exact absurd this (by decide)
theorem mul_eq_zero {a b : UInt8} (h : gmul a b = 0) : a = 0 ∨ b = 0 := by
  by_cases ha : a = 0
  · exact .inl ha
  · right
    have : gmul (ginv a) (gmul a b) = gmul (ginv a) 0 := by rw [h]
    rwa [← mul_assoc, inv_mul ha, one_mul, mul_zero] at this
/-! ### sums -/
def sum : Nat → (Nat → UInt8) → UInt8
  | 0, _ => 0
  | n + 1, f => gadd (sum n f) (f n)
theorem sum_succ (n : Nat) (f : Nat → UInt8) : sum (n + 1) f = gadd (sum n f) (f n) := rfl
theorem sum_congr {n : Nat} {f g : Nat → UInt8} (h : ∀ i, i < n → f i = g i) : sum n f = sum n g := by
  induction n with
  | zero => rfl
  | succ n ih => unfold sum; rw [ih fun i hi => h i (by omega), h n (by omega)]
theorem sum_zero {n : Nat} {f : Nat → UInt8} (h : ∀ i, i < n → f i = 0) : sum n f = 0 := by
  induction n with
  | zero => rfl
  | succ n ih => unfold sum; rw [ih fun i hi => h i (by omega), h n (by omega)]; rfl
theorem add4 (a b c d : UInt8) : gadd (gadd a b) (gadd c d) = gadd (gadd a c) (gadd b d) := by
  rw [add_assoc, add_assoc, ← add_assoc b, ← add_assoc c, add_comm b c]
theorem sum_add (n : Nat) (f g : Nat → UInt8) : sum n (fun i => gadd (f i) (g i)) = gadd (sum n f) (sum n g) := by
  induction n with
  | zero => exact (add_self 0).symm
  | succ n ih => rw [sum_succ, sum_succ, sum_succ, ih, add4]
theorem mul_sum (n : Nat) (a : UInt8) (f : Nat → UInt8) : gmul a (sum n f) = sum n fun i => gmul a (f i) := by
  induction n with
  | zero => exact mul_zero a
  | succ n ih => unfold sum; rw [mul_add, ih]
theorem sum_mul (n : Nat) (a : UInt8) (f : Nat → UInt8) : gmul (sum n f) a = sum n fun i => gmul (f i) a := by
  rw [mul_comm, mul_sum]; exact sum_congr fun i _ => mul_comm _ _
theorem sum_swap (n m : Nat) (f : Nat → Nat → UInt8) : (sum n fun i => sum m fun j => f i j) = sum m fun j => sum n fun i => f i j := by
  induction n with
  | zero => exact (sum_zero fun j _ => rfl).symm
  | succ n ih =>
    rw [sum_succ, ih, ← sum_add]
    exact sum_congr fun j _ => rfl
theorem sum_one {n k : Nat} (hk : k < n) (f : Nat → UInt8) (h : ∀ i, i < n → i ≠ k → f i = 0) : sum n f = f k := by
  induction n with
  | zero => omega
  | succ n ih =>
    unfold sum
    by_cases e : k = n
    · subst e
      rw [sum_zero fun i hi => h i (by omega) (by omega), zero_add]
    · rw [ih (by omega) fun i hi hne => h i (by omega) hne, h n (by omega) (fun e' => e e'.symm), add_zero]
/-! ### matrices: rows and columns from 0 on -/
abbrev M := Nat → Nat → UInt8
def one : M := fun i j => if i = j then 1 else 0
/-- a product, over n -/
def mul (n : Nat) (a b : M) : M := fun i j => sum n fun k => gmul (a i k) (b k j)
def app (n : Nat) (a : M) (x : Nat → UInt8) : Nat → UInt8 := fun i => sum n fun k => gmul (a i k) (x k)
theorem mul_assoc3 (n m : Nat) (a b c : M) (i j : Nat) : mul m (mul n a b) c i j = mul n a (mul m b c) i j := by
  unfold mul
  rw [show (sum m fun k => gmul (sum n fun l => gmul (a i l) (b l k)) (c k j)) = sum m fun k => sum n fun l => gmul (gmul (a i l) (b l k)) (c k j) from sum_congr fun k _ => sum_mul n _ _,
    sum_swap]
  refine sum_congr fun l _ => ?_
  rw [mul_sum]
  exact sum_congr fun k _ => mul_assoc _ _ _
theorem app_mul (n m : Nat) (a b : M) (x : Nat → UInt8) (i : Nat) : app m (mul n a b) x i = app n a (app m b x) i := mul_assoc3 n m a b (fun k _ => x k) i 0
theorem one_app (n : Nat) (x : Nat → UInt8) {i : Nat} (h : i < n) : app n one x i = x i := by
  unfold app one
  rw [sum_one h _ fun k _ hne => by rw [if_neg (fun e => hne e.symm), zero_mul], if_pos rfl, one_mul]
theorem one_mul_left (n : Nat) (a : M) {i : Nat} (h : i < n) (j : Nat) : mul n one a i j = a i j := one_app n (fun k => a k j) h
theorem mul_one_right (n : Nat) (a : M) (i : Nat) {j : Nat} (h : j < n) : mul n a one i j = a i j := by
  unfold mul one
  rw [sum_one h _ fun k _ hne => by rw [if_neg hne, mul_zero], if_pos rfl, mul_one]
/-- No sum of columns but the empty one is nought. -/
def Inj (n : Nat) (a : M) : Prop := ∀ x : Nat → UInt8, (∀ i, i < n → app n a x i = 0) → ∀ i, i < n → x i = 0
/-- b undoes a, from either side. -/
def Undo (n : Nat) (a b : M) : Prop := (∀ i j, i < n → j < n → mul n b a i j = one i j) ∧ ∀ i j, i < n → j < n → mul n a b i j = one i j
theorem app_congr {n : Nat} {a b : M} {x y : Nat → UInt8} {i : Nat} (h : ∀ k, k < n → a i k = b i k) (hx : ∀ k, k < n → x k = y k) : app n a x i = app n b y i := sum_congr fun k hk => by rw [h k hk, hx k hk]
theorem app_add (n : Nat) (a : M) (x y : Nat → UInt8) (i : Nat) : app n a (fun k => gadd (x k) (y k)) i = gadd (app n a x i) (app n a y i) := by
  unfold app
  rw [← sum_add]
  exact sum_congr fun k _ => mul_add _ _ _
/-- What undoes it from the left, and takes no column for nought, undoes it. -/
theorem undo_of_left {n : Nat} {a b : M} (h : ∀ i j, i < n → j < n → mul n b a i j = one i j) (hb : Inj n b) : Undo n a b := by
  refine ⟨h, fun i j hi hj => ?_⟩
  have hz := hb (fun k => gadd (mul n a b k j) (one k j)) (fun i hi => by
    rw [app_add]
    have e1 : app n b (fun k => mul n a b k j) i = app n (mul n b a) (fun k => b k j) i := (app_mul n n b a (fun k => b k j) i).symm
    have e2 : app n (mul n b a) (fun k => b k j) i = app n one (fun k => b k j) i := app_congr (fun k hk => h i k hi hk) fun _ _ => rfl
    have e3 : app n b (fun k => one k j) i = b i j := mul_one_right n b i hj
    rw [e1, e2, one_app n _ hi, e3, add_self]) i hi
  exact add_eq_zero hz
theorem inj_of_left {n : Nat} {a b : M} (h : ∀ i j, i < n → j < n → mul n b a i j = one i j) : Inj n a := by
  intro x hx i hi
  have e : app n (mul n b a) x i = x i := by
    rw [show app n (mul n b a) x i = app n one x i from app_congr (fun k hk => h i k hi hk) fun _ _ => rfl, one_app n x hi]
  rw [← e, app_mul]
  exact sum_zero fun k hk => by rw [hx k hk, mul_zero]
theorem Undo.symm {n : Nat} {a b : M} (h : Undo n a b) : Undo n b a := ⟨h.2, h.1⟩
theorem Undo.uniq {n : Nat} {a b c : M} (h : Undo n a b) (k : Undo n a c) : ∀ i j, i < n → j < n → b i j = c i j := by
  intro i j hi hj
  have e1 : mul n (mul n b a) c i j = c i j := by
    rw [show mul n (mul n b a) c i j = mul n one c i j from sum_congr fun l hl => by rw [h.1 i l hi hl], one_mul_left n c hi]
  have e2 : mul n b (mul n a c) i j = b i j := by
    rw [show mul n b (mul n a c) i j = mul n b one i j from sum_congr fun l hl => by rw [k.2 l j hl hj], mul_one_right n b i hj]
  rw [← e1, mul_assoc3, e2]
/-! ### undoing, step by step: the rows of 'work' and of 'out' are changed alike -/
/-- Behind the columns P: out times a is work; out takes no column for nought; the columns P are those of one. -/
structure Step (n : Nat) (a work out : M) (P : Nat → Prop) : Prop where
  eq : ∀ i j, i < n → j < n → mul n out a i j = work i j
  inj : Inj n out
  cols : ∀ i j, i < n → P j → work i j = one i j
theorem Step.start (n : Nat) (a : M) : Step n a a one (fun _ => False) :=
  ⟨fun i j hi _ => one_mul_left n a hi j, fun x hx i hi => by have := hx i hi; rwa [one_app n x hi] at this, fun i j _ h => h.elim⟩
theorem Step.zero {n : Nat} {a work out : M} {P : Nat → Prop} (h : Step n a work out P) {i j : Nat} (hi : i < n) (hP : ¬ P i) (hj : P j) : work i j = 0 := by
  rw [h.cols i j hi hj]
  unfold one
  rw [if_neg (show ¬ i = j from fun e => hP (e ▸ hj))]
/-- No pivot: it can't be undone. -/
theorem Step.stuck {n c : Nat} {a work out : M} {P : Nat → Prop} (h : Step n a work out P) (hc : c < n) (hPc : ¬ P c) (hz : ∀ i, i < n → ¬ P i → work i c = 0) : ¬ Inj n a := by
  classical
  intro ha
  have hx := ha (fun j => gadd (if P j then work j c else 0) (one j c)) (fun i hi => by
    refine h.inj _ (fun i hi => ?_) i hi
    rw [← app_mul, show app n (mul n out a) _ i = app n work _ i from app_congr (fun k hk => h.eq i k hi hk) fun _ _ => rfl, app_add]
    have e1 : app n work (fun k => one k c) i = work i c := mul_one_right n work i hc
    rw [e1]
    by_cases hP : P i
    · have e2 : app n work (fun j => if P j then work j c else 0) i = work i c := by
        unfold app
        rw [sum_one hi _ fun k hk hne => ?_]
        · show gmul (work i i) (if P i then work i c else 0) = _
          rw [if_pos hP, h.cols i i hi hP]; unfold one; rw [if_pos rfl, one_mul]
        · show gmul (work i k) (if P k then work k c else 0) = _
          by_cases hk2 : P k
          · rw [if_pos hk2, h.cols i k hi hk2]; unfold one; rw [if_neg (fun e => hne e.symm), zero_mul]
          · rw [if_neg hk2, mul_zero]
      rw [e2, add_self]
    · have e2 : app n work (fun j => if P j then work j c else 0) i = 0 := by
        refine sum_zero fun k hk => ?_
        show gmul (work i k) (if P k then work k c else 0) = _
        by_cases hk2 : P k
        · rw [h.zero hi hP hk2, zero_mul]
        · rw [if_neg hk2, mul_zero]
      rw [e2, hz i hi hP, add_zero]) c hc
  simp only [if_neg hPc, zero_add] at hx
  unfold one at hx
  rw [if_pos rfl] at hx
  exact absurd hx (by decide)
theorem Step.done {n : Nat} {a work out : M} {P : Nat → Prop} (h : Step n a work out P) (hP : ∀ j, j < n → P j) : Undo n a out := undo_of_left (fun i j hi hj => (h.eq i j hi hj).trans (h.cols i j hi (hP j hj))) h.inj
def swapM (c k : Nat) (a : M) : M := fun i j => if i = c then a k j else if i = k then a c j else a i j
def scaleM (c : Nat) (x : UInt8) (a : M) : M := fun i j => if i = c then gmul (a c j) x else a i j
def elimM (c : Nat) (y : Nat → UInt8) (a : M) : M := fun i j => if i = c then a c j else gadd (a i j) (gmul (a c j) (y i))
theorem mul_swap (n c k : Nat) (a b : M) (i j : Nat) : mul n (swapM c k a) b i j = swapM c k (mul n a b) i j := by
  unfold mul swapM; split
  · rfl
  · split <;> rfl
theorem mul_scale (n c : Nat) (x : UInt8) (a b : M) (i j : Nat) : mul n (scaleM c x a) b i j = scaleM c x (mul n a b) i j := by
  unfold mul scaleM; split
  · rw [sum_mul]; exact sum_congr fun k _ => by rw [mul_assoc, mul_comm x, ← mul_assoc]
  · rfl
theorem mul_elim (n c : Nat) (y : Nat → UInt8) (a b : M) (i j : Nat) : mul n (elimM c y a) b i j = elimM c y (mul n a b) i j := by
  unfold mul elimM; split
  · rfl
  · rw [sum_mul, ← sum_add]; exact sum_congr fun k _ => by rw [add_mul, mul_assoc, mul_comm (y i), ← mul_assoc]
theorem Step.swap {n c k : Nat} {a work out : M} {P : Nat → Prop} (h : Step n a work out P) (hc : c < n) (hk : k < n) (hPc : ¬ P c) (hPk : ¬ P k) : Step n a (swapM c k work) (swapM c k out) P := by
  refine ⟨fun i j hi hj => ?_, fun x hx => h.inj x fun i hi => ?_, fun i j hi hj => ?_⟩
  · rw [mul_swap]
    unfold swapM
    split
    · exact h.eq k j hk hj
    · split
      · exact h.eq c j hc hj
      · exact h.eq i j hi hj
  · have e : ∀ i, app n (swapM c k out) x i = swapM c k (fun i _ => app n out x i) i 0 := fun i => mul_swap n c k out (fun k _ => x k) i 0
    by_cases h1 : i = k
    · have := hx c hc
      rw [e] at this; unfold swapM at this
      rw [if_pos rfl] at this; rw [h1]; exact this
    · by_cases h2 : i = c
      · have := hx k hk
        rw [e] at this; unfold swapM at this
        subst h2
        rw [if_neg (fun e => h1 e.symm), if_pos rfl] at this; exact this
      · have := hx i hi
        rw [e] at this; unfold swapM at this
        rw [if_neg h2, if_neg h1] at this; exact this
  · unfold swapM
    split
    · rename_i e
      subst e
      rw [h.zero hk hPk hj]; unfold one; rw [if_neg (show ¬ i = j from fun e => hPc (e ▸ hj))]
    · split
      · rename_i e
        subst e
        rw [h.zero hc hPc hj]; unfold one; rw [if_neg (show ¬ i = j from fun e => hPk (e ▸ hj))]
      · exact h.cols i j hi hj
theorem Step.scale {n c : Nat} {a work out : M} {P : Nat → Prop} (h : Step n a work out P) (hc : c < n) (hPc : ¬ P c) {x : UInt8} (hx0 : x ≠ 0) : Step n a (scaleM c x work) (scaleM c x out) P := by
  refine ⟨fun i j hi hj => ?_, fun v hv => h.inj v fun i hi => ?_, fun i j hi hj => ?_⟩
  · rw [mul_scale]
    unfold scaleM
    split
    · rw [h.eq c j hc hj]
    · exact h.eq i j hi hj
  · have := hv i hi
    have e : app n (scaleM c x out) v i = scaleM c x (fun i _ => app n out v i) i 0 := mul_scale n c x out (fun k _ => v k) i 0
    rw [e] at this; unfold scaleM at this
    split at this
    · rename_i e2
      subst e2
      exact (mul_eq_zero this).resolve_right hx0
    · exact this
  · unfold scaleM
    split
    · rename_i e
      subst e
      rw [h.zero hc hPc hj, zero_mul]; unfold one; rw [if_neg (show ¬ i = j from fun e => hPc (e ▸ hj))]
    · exact h.cols i j hi hj
theorem Step.elim {n c : Nat} {a work out : M} {P : Nat → Prop} (h : Step n a work out P) (hc : c < n) (hPc : ¬ P c) (h1 : work c c = 1) : Step n a (elimM c (fun i => work i c) work) (elimM c (fun i => work i c) out) (fun j => P j ∨ j = c) := by
  refine ⟨fun i j hi hj => ?_, fun v hv => h.inj v fun i hi => ?_, fun i j hi hj => ?_⟩
  · rw [mul_elim]
    unfold elimM
    split
    · exact h.eq c j hc hj
    · rw [h.eq i j hi hj, h.eq c j hc hj]
  · have e : ∀ i, app n (elimM c (fun i => work i c) out) v i = elimM c (fun i => work i c) (fun i _ => app n out v i) i 0 := fun i => mul_elim n c _ out (fun k _ => v k) i 0
    have hcz : app n out v c = 0 := by
      have := hv c hc
      rw [e] at this; unfold elimM at this
      rwa [if_pos rfl] at this
    by_cases h2 : i = c
    · rw [h2]; exact hcz
    · have := hv i hi
      rw [e] at this; unfold elimM at this
      rw [if_neg h2] at this
      dsimp only at this
      rw [hcz, zero_mul, add_zero] at this; exact this
  · unfold elimM
    rcases hj with hj | rfl
    · have hne : c ≠ j := fun e => hPc (e ▸ hj)
      split
      · rename_i e
        subst e
        rw [h.zero hc hPc hj]; unfold one; rw [if_neg hne]
      · rw [h.zero hc hPc hj, zero_mul, add_zero]; exact h.cols i j hi hj
    · split
      · rename_i e
        subst e
        rw [h1]; unfold one; rw [if_pos rfl]
      · rename_i e
        rw [h1, one_mul, add_self]; unfold one; rw [if_neg e]
end Go.Proofs.Ytoedbglbcbgdfaa.Mat
