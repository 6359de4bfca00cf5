/- Plain laws of the bytes of the field: products by powers of two, as the document multiplies, what times a byte is 1, and powers. No program in sight. -/
namespace Go.Proofs.Ytoedbglbcbgdfaa.Fld
set_option linter.unusedVariables false
/-- times x -/
def xt (a : Nat) : Nat := if 255 < 2 * a then (2 * a) ^^^ 285 else 2 * a
def pw : Nat → Nat
  | 0 => 1
  | n + 1 => xt (pw n)
def lgFrom : Nat → Nat → Nat → Nat → Nat
  | 0, _, _, _ => 0
  | f + 1, x, i, a => if x = a then i else lgFrom f (xt x) (i + 1) a
/-- the table of logarithms -/
def lg (a : Nat) : Nat := lgFrom 255 1 0 a
def mul (a b : Nat) : Nat := if a = 0 ∨ b = 0 then 0 else pw (lg a + lg b)
def inv (a : Nat) : Nat := if a = 0 then 0 else pw (255 - lg a)

theorem pw_lt : ∀ n, pw n < 256
  | 0 => by decide
  | n + 1 => by
    have ih := pw_lt n
    have h : ∀ a, a < 256 → xt a < 256 := by decide +kernel
    exact h _ ih
theorem xt_ne : ∀ a, a < 256 → a ≠ 0 → xt a ≠ 0 := by decide +kernel
theorem pw_ne : ∀ n, pw n ≠ 0
  | 0 => by decide
  | n + 1 => xt_ne _ (pw_lt n) (pw_ne n)
theorem lg_pw : ∀ i, i < 255 → lg (pw i) = i := by decide +kernel
theorem pw_lg : ∀ a, a < 256 → a ≠ 0 → pw (lg a) = a ∧ lg a < 255 := by decide +kernel
theorem pw_255 : pw 255 = 1 := by decide +kernel
theorem pw_add255 : ∀ n, pw (n + 255) = pw n
  | 0 => pw_255
  | n + 1 => by show xt (pw (n + 255)) = xt (pw n); rw [pw_add255 n]
theorem pw_mod (n : Nat) : pw (n % 255) = pw n := by
  have h : ∀ k m, pw (m + 255 * k) = pw m := by
    intro k
    induction k with
    | zero => intro m; simp
    | succ k ih => intro m; rw [show m + 255 * (k + 1) = (m + 255 * k) + 255 by omega, pw_add255, ih]
  have := h (n / 255) (n % 255)
  rw [show n % 255 + 255 * (n / 255) = n by omega] at this
  exact this.symm
theorem pw_inj {i j : Nat} (h : pw i = pw j) : i % 255 = j % 255 := by
  rw [← pw_mod i, ← pw_mod j] at h
  have h1 := lg_pw (i % 255) (by omega)
  rw [h, lg_pw (j % 255) (by omega)] at h1
  exact h1.symm

theorem mul_lt (a b : Nat) : mul a b < 256 := by
  unfold mul; split
  · omega
  · exact pw_lt _
theorem mul_pw (i j : Nat) : mul (pw i) (pw j) = pw (i + j) := by
  unfold mul
  rw [if_neg (by have := pw_ne i; have := pw_ne j; omega)]
  rw [← pw_mod i, ← pw_mod j, lg_pw _ (by omega), lg_pw _ (by omega), ← pw_mod, ← pw_mod (i + j)]
  congr 1
  omega
theorem mul_zero (a : Nat) : mul a 0 = 0 := by simp [mul]
theorem zero_mul (a : Nat) : mul 0 a = 0 := by simp [mul]
/-- every byte is 0 or a power -/
theorem cases_pw (a : Nat) (h : a < 256) : a = 0 ∨ ∃ i, i < 255 ∧ a = pw i := by
  by_cases h0 : a = 0
  · exact .inl h0
  · exact .inr ⟨lg a, (pw_lg a h h0).2, (pw_lg a h h0).1.symm⟩
theorem mul_comm (a b : Nat) : mul a b = mul b a := by
  unfold mul; rw [Nat.add_comm]; simp only [Or.comm]
theorem mul_assoc (a b c : Nat) (ha : a < 256) (hb : b < 256) (hc : c < 256) : mul (mul a b) c = mul a (mul b c) := by
  rcases cases_pw a ha with rfl | ⟨i, _, rfl⟩
  · simp [zero_mul]
  rcases cases_pw b hb with rfl | ⟨j, _, rfl⟩
  · simp [zero_mul, mul_zero]
  rcases cases_pw c hc with rfl | ⟨k, _, rfl⟩
  · simp [mul_zero]
  rw [mul_pw, mul_pw, mul_pw, mul_pw, Nat.add_assoc]
theorem mul_one (a : Nat) (ha : a < 256) : mul a 1 = a := by
  rcases cases_pw a ha with rfl | ⟨i, _, rfl⟩
  · simp [zero_mul]
  · exact mul_pw i 0
theorem mul_eq_zero (a b : Nat) : mul a b = 0 ↔ a = 0 ∨ b = 0 := by
  unfold mul
  split
  · simp [*]
  · rename_i h; simp [h, pw_ne]
theorem inv_pw (i : Nat) (h : i < 255) : inv (pw i) = pw (255 - i) := by
  unfold inv; rw [if_neg (pw_ne i), lg_pw i h]
theorem mul_inv (a : Nat) (ha : a < 256) (h0 : a ≠ 0) : mul a (inv a) = 1 := by
  rcases cases_pw a ha with rfl | ⟨i, hi, rfl⟩
  · exact absurd rfl h0
  · rw [inv_pw i hi, mul_pw, show i + (255 - i) = 255 by omega, pw_255]
theorem inv_lt (a : Nat) : inv a < 256 := by
  unfold inv; split
  · omega
  · exact pw_lt _
theorem inv_ne (a : Nat) (h0 : a ≠ 0) : inv a ≠ 0 := by unfold inv; rw [if_neg h0]; exact pw_ne _
theorem inv_inv (a : Nat) (ha : a < 256) : inv (inv a) = a := by
  rcases cases_pw a ha with rfl | ⟨i, hi, rfl⟩
  · rfl
  · rw [inv_pw i hi]
    by_cases h : i = 0
    · subst h; decide +kernel
    · rw [inv_pw _ (by omega)]; congr 1; omega

/-! ### The document's product -/
def clm (x b : Nat) : Nat := (List.range 8).foldl (fun n k => if b >>> k &&& 1 = 1 then n ^^^ x <<< k else n) 0
def red (n : Nat) : Nat := [14, 13, 12, 11, 10, 9, 8].foldl (fun n k => if n >>> k &&& 1 = 1 then n ^^^ 285 <<< (k - 8) else n) n
def rmul (a b : Nat) : Nat := red (clm a b) % 256

theorem bit_iff (n k : Nat) : (n >>> k &&& 1 = 1) ↔ n.testBit k = true := by
  rw [Nat.testBit, Nat.and_comm]
  have h : (1 &&& n >>> k) < 2 := Nat.lt_of_le_of_lt Nat.and_le_left (by omega)
  simp only [bne_iff_ne]
  omega
def stp (n k : Nat) : Nat := if n >>> k &&& 1 = 1 then n ^^^ 285 <<< (k - 8) else n
theorem xor4 (a b c d : Nat) : (a ^^^ b) ^^^ (c ^^^ d) = (a ^^^ c) ^^^ (b ^^^ d) := by
  rw [Nat.xor_assoc, Nat.xor_assoc, ← Nat.xor_assoc b, Nat.xor_comm b c, Nat.xor_assoc c]
theorem stp_add (n m k : Nat) : stp (n ^^^ m) k = stp n k ^^^ stp m k := by
  unfold stp
  simp only [bit_iff, Nat.testBit_xor]
  generalize 285 <<< (k - 8) = p
  cases n.testBit k <;> cases m.testBit k <;> simp
  · rw [Nat.xor_assoc]
  · rw [Nat.xor_assoc, Nat.xor_comm m p, Nat.xor_assoc]
  · rw [xor4]; simp
theorem fold_add (l : List Nat) : ∀ n m, l.foldl stp (n ^^^ m) = l.foldl stp n ^^^ l.foldl stp m := by
  induction l with
  | nil => intro n m; rfl
  | cons k l ih => intro n m; simp only [List.foldl_cons, stp_add, ih]
theorem red_add (n m : Nat) : red (n ^^^ m) = red n ^^^ red m := fold_add _ n m
def xs : List Nat → (Nat → Nat) → Nat
  | [], _ => 0
  | k :: l, f => f k ^^^ xs l f
theorem fold_xs (b : Nat) (f : Nat → Nat) (l : List Nat) : ∀ n, l.foldl (fun n k => if b >>> k &&& 1 = 1 then n ^^^ f k else n) n = n ^^^ xs l (fun k => if b.testBit k then f k else 0) := by
  induction l with
  | nil => intro n; simp [xs]
  | cons k l ih =>
    intro n
    simp only [List.foldl_cons, xs, bit_iff]
    simp only [bit_iff] at ih
    split
    · rw [ih]; simp [*, Nat.xor_assoc]
    · rw [ih]; simp [*]
theorem xs_add (l : List Nat) (f g : Nat → Nat) : xs l (fun k => f k ^^^ g k) = xs l f ^^^ xs l g := by
  induction l with
  | nil => simp [xs]
  | cons k l ih => simp only [xs, ih]; rw [xor4]
theorem clm_xs (x b : Nat) : clm x b = xs (List.range 8) (fun k => if b.testBit k then x <<< k else 0) := by
  unfold clm; rw [fold_xs b (fun k => x <<< k)]; simp
theorem clm_addl (x y b : Nat) : clm (x ^^^ y) b = clm x b ^^^ clm y b := by
  rw [clm_xs, clm_xs, clm_xs, ← xs_add]
  congr 1; funext k
  cases b.testBit k <;> simp [Nat.shiftLeft_xor_distrib]
theorem clm_addr (x b c : Nat) : clm x (b ^^^ c) = clm x b ^^^ clm x c := by
  rw [clm_xs, clm_xs, clm_xs, ← xs_add]
  congr 1; funext k
  rw [Nat.testBit_xor]
  cases b.testBit k <;> cases c.testBit k <;> simp
theorem mod_xor (a b : Nat) : (a ^^^ b) % 256 = a % 256 ^^^ b % 256 := by
  rw [show (256 : Nat) = 2 ^ 8 from rfl]
  exact Nat.xor_mod_two_pow
theorem rmul_addl (a b c : Nat) : rmul (a ^^^ b) c = rmul a c ^^^ rmul b c := by
  unfold rmul; rw [clm_addl, red_add, mod_xor]
theorem rmul_addr (a b c : Nat) : rmul a (b ^^^ c) = rmul a b ^^^ rmul a c := by
  unfold rmul; rw [clm_addr, red_add, mod_xor]
theorem xt_add : ∀ a b, a < 256 → b < 256 → xt (a ^^^ b) = xt a ^^^ xt b := by
  have h1 : ∀ a, a < 256 → xt a = stp (2 * a) 8 := by decide +kernel
  intro a b ha hb
  have hab : a ^^^ b < 256 := Nat.xor_lt_two_pow (n := 8) ha hb
  rw [h1 _ ha, h1 _ hb, h1 _ hab, ← stp_add]
  congr 1
  have := Nat.shiftLeft_xor_distrib (i := 1) (a := a) (b := b)
  simpa [Nat.shiftLeft_eq, Nat.mul_comm] using this
/-- a byte is the sum of its bits -/
def bitsum (a : Nat) (f : Nat → Nat) : Nat := (List.range 8).foldl (fun s k => if a >>> k &&& 1 = 1 then s ^^^ f k else s) 0
theorem is_bitsum : ∀ a, a < 256 → bitsum a (fun k => 1 <<< k) = a := by decide +kernel
theorem additive_bits (f : Nat → Nat) (h : ∀ a b, a < 256 → b < 256 → f (a ^^^ b) = f a ^^^ f b) (a : Nat) (ha : a < 256) : f a = bitsum a fun k => f (1 <<< k) := by
  have f0 : f 0 = 0 := by have := h 0 0 (by omega) (by omega); simpa using this
  have key : ∀ (l : List Nat), (∀ k ∈ l, k < 8) → ∀ s, s < 256 → 
      f (l.foldl (fun s k => if a >>> k &&& 1 = 1 then s ^^^ 1 <<< k else s) s) = l.foldl (fun s k => if a >>> k &&& 1 = 1 then s ^^^ f (1 <<< k) else s) (f s) := by
    intro l
    induction l with
    | nil => intro _ s _; rfl
    | cons k l ih =>
      intro hl s hs
      have hk := hl k (by simp)
      have h1 : (1 : Nat) <<< k < 256 := by
        have : ∀ k, k < 8 → (1 : Nat) <<< k < 256 := by decide
        exact this k hk
      simp only [List.foldl_cons]
      split
      · rw [ih (fun j hj => hl j (by simp [hj])) _ (Nat.xor_lt_two_pow (n := 8) hs h1), h _ _ hs h1]
      · exact ih (fun j hj => hl j (by simp [hj])) _ hs
  have := key (List.range 8) (by simp) 0 (by omega)
  rw [f0] at this
  have e := is_bitsum a ha
  unfold bitsum at e ⊢
  rw [e] at this
  exact this
theorem additive_eq (f g : Nat → Nat) (hf : ∀ a b, a < 256 → b < 256 → f (a ^^^ b) = f a ^^^ f b) (hg : ∀ a b, a < 256 → b < 256 → g (a ^^^ b) = g a ^^^ g b)
    (he : ∀ k, k < 8 → f (1 <<< k) = g (1 <<< k)) (a : Nat) (ha : a < 256) : f a = g a := by
  rw [additive_bits f hf a ha, additive_bits g hg a ha]
  unfold bitsum
  have key : ∀ (l : List Nat), (∀ k ∈ l, k < 8) → ∀ s, l.foldl (fun s k => if a >>> k &&& 1 = 1 then s ^^^ f (1 <<< k) else s) s = l.foldl (fun s k => if a >>> k &&& 1 = 1 then s ^^^ g (1 <<< k) else s) s := by
    intro l
    induction l with
    | nil => intro _ s; rfl
    | cons k l ih => intro hl s; simp only [List.foldl_cons]; rw [he k (hl k (by simp))]; exact ih (fun j hj => hl j (by simp [hj])) _
  exact key _ (by simp) 0
theorem rmul_lt (a b : Nat) : rmul a b < 256 := Nat.mod_lt _ (by omega)
theorem rmul_xt (a b : Nat) (ha : a < 256) (hb : b < 256) : rmul a (xt b) = xt (rmul a b) := by
  refine additive_eq (fun b => rmul a (xt b)) (fun b => xt (rmul a b)) ?_ ?_ ?_ b hb
  · intro x y hx hy; simp only [xt_add x y hx hy, rmul_addr]
  · intro x y _ _; simp only [rmul_addr]; rw [xt_add _ _ (rmul_lt _ _) (rmul_lt _ _)]
  · intro k hk
    refine additive_eq (fun a => rmul a (xt (1 <<< k))) (fun a => xt (rmul a (1 <<< k))) ?_ ?_ ?_ a ha
    · intro x y _ _; simp only [rmul_addl]
    · intro x y _ _; simp only [rmul_addl]; rw [xt_add _ _ (rmul_lt _ _) (rmul_lt _ _)]
    · have h : ∀ k, k < 8 → ∀ j, j < 8 → rmul (1 <<< j) (xt (1 <<< k)) = xt (rmul (1 <<< j) (1 <<< k)) := by decide +kernel
      exact fun j hj => h k hk j hj
theorem rmul_one : ∀ a, a < 256 → rmul a 1 = a := by decide +kernel
theorem rmul_pw (i j : Nat) : rmul (pw i) (pw j) = pw (i + j) := by
  induction j with
  | zero => exact rmul_one _ (pw_lt i)
  | succ j ih => show rmul (pw i) (xt (pw j)) = xt (pw (i + j)); rw [rmul_xt _ _ (pw_lt i) (pw_lt j), ih]
theorem rmul_zero (a : Nat) : rmul a 0 = 0 := by
  have := rmul_addr a 0 0; simpa using this
theorem zero_rmul (a : Nat) : rmul 0 a = 0 := by
  have := rmul_addl 0 0 a; simpa using this
theorem rmul_eq (a b : Nat) (ha : a < 256) (hb : b < 256) : rmul a b = mul a b := by
  rcases cases_pw a ha with rfl | ⟨i, _, rfl⟩
  · rw [zero_rmul, zero_mul]
  rcases cases_pw b hb with rfl | ⟨j, _, rfl⟩
  · rw [rmul_zero, mul_zero]
  rw [rmul_pw, mul_pw]
theorem mul_addr (a b c : Nat) (ha : a < 256) (hb : b < 256) (hc : c < 256) : mul a (b ^^^ c) = mul a b ^^^ mul a c := by
  rw [← rmul_eq a b ha hb, ← rmul_eq a c ha hc, ← rmul_eq a _ ha (Nat.xor_lt_two_pow (n := 8) hb hc), rmul_addr]

/-! ### What times a byte is 1, tried out; powers -/
/-- the first from b on, of f -/
def rinvFrom (a : Nat) : Nat → Nat → Nat
  | 0, _ => 0
  | f + 1, b => if rmul a b = 1 then b else rinvFrom a f (b + 1)
def rinv (a : Nat) : Nat := rinvFrom a 255 1
theorem inv_uniq (a b : Nat) (ha : a < 256) (hb : b < 256) (h : mul a b = 1) : b = inv a := by
  have h0 : a ≠ 0 := by rintro rfl; rw [zero_mul] at h; cases h
  have h1 := mul_inv a ha h0
  have : mul (inv a) (mul a b) = mul (inv a) (mul a (inv a)) := by rw [h, h1]
  rw [← mul_assoc _ _ _ (inv_lt a) ha hb, ← mul_assoc _ _ _ (inv_lt a) ha (inv_lt a), mul_comm (inv a) a, h1, mul_comm 1 b, mul_comm 1 _, mul_one _ hb, mul_one _ (inv_lt a)] at this
  exact this
theorem rinvFrom_eq (a : Nat) (ha : a < 256) : ∀ f b, b + f = 256 → 1 ≤ b → (a ≠ 0 → b ≤ inv a) → rinvFrom a f b = inv a := by
  intro f
  induction f with
  | zero =>
    intro b hb h1 h
    unfold rinvFrom
    by_cases h0 : a = 0
    · subst h0; rfl
    · have := h h0; have := inv_lt a; omega
  | succ f ih =>
    intro b hb h1 h
    unfold rinvFrom
    rw [rmul_eq a b ha (by omega)]
    split
    · rename_i he; exact inv_uniq a b ha (by omega) he
    · rename_i he
      refine ih (b + 1) (by omega) (by omega) fun h0 => ?_
      have := h h0
      by_cases e : b = inv a
      · rw [e, mul_inv a ha h0] at he; exact absurd rfl he
      · omega
theorem rinv_eq (a : Nat) (ha : a < 256) : rinv a = inv a := rinvFrom_eq a ha 255 1 rfl (Nat.le_refl _) fun h0 => by have := inv_ne a h0; omega

/-- powers -/
def pow (a : Nat) (n : Int) : Nat := if n = 0 then 1 else if a = 0 then 0 else pw ((lg a * n) % 255).toNat
/-- a product, k times more by a -/
def rpowFrom (a : Nat) : Nat → Nat → Nat
  | 0, out => out
  | k + 1, out => rpowFrom a k (rmul out a)
def rpow (a : Nat) (n : Int) : Nat :=
  if n = 0 then 1 else
    rpowFrom (if n < 0 then rinv a else a) (if n.tmod 255 < 0 then -(n.tmod 255) else n.tmod 255).toNat (if (if n < 0 then rinv a else a) = 0 then 0 else 1)
theorem rpowFrom_pw (i : Nat) : ∀ k j, rpowFrom (pw i) k (pw j) = pw (j + i * k)
  | 0, j => by simp [rpowFrom]
  | k + 1, j => by
    unfold rpowFrom
    rw [rmul_pw, rpowFrom_pw i k, Nat.mul_succ]; congr 1; omega
theorem rpowFrom_zero : ∀ k, rpowFrom 0 k 0 = 0
  | 0 => rfl
  | k + 1 => by unfold rpowFrom; rw [zero_rmul]; exact rpowFrom_zero k
theorem pw_int (i : Nat) (z : Int) (h : ((i : Int) - z) % 255 = 0) : pw i = pw (z % 255).toNat := by
  rw [← pw_mod i]; congr 1; omega
theorem rpow_eq (a : Nat) (n : Int) (ha : a < 256) : rpow a n = pow a n := by
  unfold rpow pow
  split
  · rfl
  rename_i hn
  rw [rinv_eq a ha]
  by_cases h0 : a = 0
  · subst h0
    have : inv 0 = 0 := rfl
    simp [this, rpowFrom_zero]
  rw [if_neg h0]
  have ht := Int.tmod_eq_emod (a := n) (b := 255)
  have ha' : (if n < 0 then inv a else a) = pw (if n < 0 then 255 - lg a else lg a) := by
    split
    · unfold inv; rw [if_neg h0]
    · exact (pw_lg a ha h0).1.symm
  rw [ha', if_neg (pw_ne _)]
  have := rpowFrom_pw (if n < 0 then 255 - lg a else lg a) (if n.tmod 255 < 0 then -(n.tmod 255) else n.tmod 255).toNat 0
  rw [show pw 0 = 1 from rfl] at this
  rw [this]
  have hl := (pw_lg a ha h0).2
  refine pw_int _ _ ?_
  generalize lg a = L at *
  simp only [Nat.zero_add, Int.natCast_mul]
  by_cases hneg : n < 0
  · have hk : ((if n.tmod 255 < 0 then -(n.tmod 255) else n.tmod 255).toNat : Int) = (-n) % 255 := by
      have h2 := Int.neg_tmod n 255
      have h3 := Int.tmod_eq_emod_of_nonneg (a := -n) (b := 255) (by omega)
      split <;> omega
    rw [hk, if_pos hneg, show (((255 - L : Nat) : Int)) = 255 - L by omega]
    have e : (255 - (L : Int)) * ((-n) % 255) = 255 * ((-n) % 255) - L * ((-n) % 255) := by rw [Int.sub_mul]
    rw [e]
    have e2 : (L : Int) * ((-n) % 255) = L * (-n) - L * (255 * ((-n) / 255)) := by rw [← Int.mul_sub]; congr 1; omega
    rw [e2, Int.mul_neg, ← Int.mul_assoc, Int.mul_comm (L : Int) 255, Int.mul_assoc]
    generalize (L : Int) * (-n / 255) = q
    generalize (L : Int) * n = p
    omega
  · have hk : ((if n.tmod 255 < 0 then -(n.tmod 255) else n.tmod 255).toNat : Int) = n % 255 := by
      have h3 := Int.tmod_eq_emod_of_nonneg (a := n) (b := 255) (by omega)
      split <;> omega
    rw [hk, if_neg hneg]
    have e2 : (L : Int) * (n % 255) = L * n - L * (255 * (n / 255)) := by rw [← Int.mul_sub]; congr 1; omega
    rw [e2, ← Int.mul_assoc, Int.mul_comm (L : Int) 255, Int.mul_assoc]
    generalize (L : Int) * (n / 255) = q
    generalize (L : Int) * n = p
    omega
/-- the program's exponent -/
def pexp (L : Int) (n : Int) : Int := if (L * n.tmod 255).tmod 255 < 0 then (L * n.tmod 255).tmod 255 + 255 else (L * n.tmod 255).tmod 255
theorem pexp_eq (L n : Int) : pexp L n = (L * n) % 255 := by
  unfold pexp
  have h1 : (L * n.tmod 255) % 255 = (L * n) % 255 := by
    have h := Int.mul_tdiv_add_tmod n 255
    have e : L * n.tmod 255 = L * n - 255 * (L * n.tdiv 255) := by
      have : n.tmod 255 = n - 255 * n.tdiv 255 := by omega
      rw [this, Int.mul_sub, ← Int.mul_assoc, Int.mul_comm L 255, Int.mul_assoc]
    rw [e]; omega
  rw [← h1]
  generalize L * n.tmod 255 = z
  by_cases hz : 0 ≤ z
  · have := Int.tmod_eq_emod_of_nonneg (a := z) (b := 255) hz
    split <;> omega
  · have h2 := Int.neg_tmod z 255
    have h3 := Int.tmod_eq_emod_of_nonneg (a := -z) (b := 255) (by omega)
    split <;> omega
theorem pow_add (a : Nat) (m n : Int) (ha : a < 256) (h0 : a ≠ 0) : pow a (m + n) = mul (pow a m) (pow a n) := by
  have hp : ∀ n, pow a n = pw ((lg a * n) % 255).toNat := by
    intro n; unfold pow; rw [if_neg h0]; split
    · rename_i h; subst h; simp [pw]
    · rfl
  rw [hp, hp, hp, mul_pw]
  rw [← pw_mod (((lg a * m) % 255).toNat + _)]
  congr 1
  rw [Int.mul_add]
  generalize (lg a : Int) * m = x
  generalize (lg a : Int) * n = y
  omega
theorem pow_255 (a : Nat) (h0 : a ≠ 0) : pow a 255 = 1 := by
  unfold pow; rw [if_neg (by decide), if_neg h0]; simp [pw]
theorem lg_two : lg 2 = 1 := by decide +kernel
theorem pow_two_inj (m n : Int) (h : pow 2 m = pow 2 n) : (m - n) % 255 = 0 := by
  have hp : ∀ n, pow 2 n = pw (n % 255).toNat := by
    intro n; unfold pow; split
    · rename_i h; subst h; simp [pw]
    · simp [lg_two]
  rw [hp, hp] at h
  have := pw_inj h
  omega
theorem pow_lt (a : Nat) (n : Int) : pow a n < 256 := by
  unfold pow; split
  · omega
  split
  · omega
  · exact pw_lt _
end Go.Proofs.Ytoedbglbcbgdfaa.Fld
