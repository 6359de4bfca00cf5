/- Joined, and what is not used struck: PlB. -/
namespace Go.Proofs.Ythhcdfjijagalaa.Fld
set_option linter.unusedVariables false
/-- times x -/
def xt (a : Nat) : Nat := if 255 < 2 * a then (2 * a) ^^^ 285 else 2 * a
def pw : Nat → Nat
  | 0 => 1
  | n + 1 => xt (pw n)
def lgFrom : Nat → Nat → Nat → Nat → Nat
  | 0, _, _, _ => 0
  | f + 1, x, i, a => if x = a then i else lgFrom f (xt x) (i + 1) a
/-- the table of logarithms -/
def lg (a : Nat) : Nat := lgFrom 255 1 0 a
def mul (a b : Nat) : Nat := if a = 0 ∨ b = 0 then 0 else pw (lg a + lg b)
def inv (a : Nat) : Nat := if a = 0 then 0 else pw (255 - lg a)
theorem pw_lt : ∀ n, pw n < 256
  | 0 => by decide
  | n + 1 => by
    have ih := pw_lt n
    have h : ∀ a, a < 256 → xt a < 256 := by decide +kernel
    exact h _ ih
theorem xt_ne : ∀ a, a < 256 → a ≠ 0 → xt a ≠ 0 := by decide +kernel
theorem pw_ne : ∀ n, pw n ≠ 0
  | 0 => by decide
  | n + 1 => xt_ne _ (pw_lt n) (pw_ne n)
theorem lg_pw : ∀ i, i < 255 → lg (pw i) = i := by decide +kernel
theorem pw_lg : ∀ a, a < 256 → a ≠ 0 → pw (lg a) = a ∧ lg a < 255 := by decide +kernel
theorem pw_255 : pw 255 = 1 := by decide +kernel
theorem pw_add255 : ∀ n, pw (n + 255) = pw n
  | 0 => pw_255
  | n + 1 => by show xt (pw (n + 255)) = xt (pw n); rw [pw_add255 n]
theorem pw_mod (n : Nat) : pw (n % 255) = pw n := by
  have h : ∀ k m, pw (m + 255 * k) = pw m := by
    intro k
    induction k with
    | zero => intro m; simp
    | succ k ih => intro m; rw [show m + 255 * (k + 1) = (m + 255 * k) + 255 by omega, pw_add255, ih]
  have := h (n / 255) (n % 255)
  rw [show n % 255 + 255 * (n / 255) = n by omega] at this
  exact this.symm
theorem mul_lt (a b : Nat) : mul a b < 256 := by
  unfold mul; split
  · omega
  · exact pw_lt _
theorem mul_pw (i j : Nat) : mul (pw i) (pw j) = pw (i + j) := by
  unfold mul
  rw [if_neg (by have := pw_ne i; have := pw_ne j; omega)]
  rw [← pw_mod i, ← pw_mod j, lg_pw _ (by omega), lg_pw _ (by omega), ← pw_mod, ← pw_mod (i + j)]
  congr 1
  omega
theorem mul_zero (a : Nat) : mul a 0 = 0 := by simp [mul]
theorem zero_mul (a : Nat) : mul 0 a = 0 := by simp [mul]
/-- every byte is 0 or a power -/
theorem cases_pw (a : Nat) (h : a < 256) : a = 0 ∨ ∃ i, i < 255 ∧ a = pw i := by
  by_cases h0 : a = 0
  · exact .inl h0
  · exact .inr ⟨lg a, (pw_lg a h h0).2, (pw_lg a h h0).1.symm⟩
theorem mul_comm (a b : Nat) : mul a b = mul b a := by
  unfold mul; rw [Nat.add_comm]; simp only [Or.comm]
theorem mul_assoc (a b c : Nat) (ha : a < 256) (hb : b < 256) (hc : c < 256) : mul (mul a b) c = mul a (mul b c) := by
  rcases cases_pw a ha with rfl | ⟨i, _, rfl⟩
  · simp [zero_mul]
  rcases cases_pw b hb with rfl | ⟨j, _, rfl⟩
  · simp [zero_mul, mul_zero]
  rcases cases_pw c hc with rfl | ⟨k, _, rfl⟩
  · simp [mul_zero]
  rw [mul_pw, mul_pw, mul_pw, mul_pw, Nat.add_assoc]
theorem mul_one (a : Nat) (ha : a < 256) : mul a 1 = a := by
  rcases cases_pw a ha with rfl | ⟨i, _, rfl⟩
  · simp [zero_mul]
  · exact mul_pw i 0
theorem inv_pw (i : Nat) (h : i < 255) : inv (pw i) = pw (255 - i) := by
  unfold inv; rw [if_neg (pw_ne i), lg_pw i h]
theorem mul_inv (a : Nat) (ha : a < 256) (h0 : a ≠ 0) : mul a (inv a) = 1 := by
  rcases cases_pw a ha with rfl | ⟨i, hi, rfl⟩
  · exact absurd rfl h0
  · rw [inv_pw i hi, mul_pw, show i + (255 - i) = 255 by omega, pw_255]
theorem inv_lt (a : Nat) : inv a < 256 := by
  unfold inv; split
  · omega
  · exact pw_lt _
/-! ### The document's product -/
def clm (x b : Nat) : Nat := (List.range 8).foldl (fun n k => if b >>> k &&& 1 = 1 then n ^^^ x <<< k else n) 0
def red (n : Nat) : Nat := [14, 13, 12, 11, 10, 9, 8].foldl (fun n k => if n >>> k &&& 1 = 1 then n ^^^ 285 <<< (k - 8) else n) n
def rmul (a b : Nat) : Nat := red (clm a b) % 256
theorem bit_iff (n k : Nat) : (n >>> k &&& 1 = 1) ↔ n.testBit k = true := by
  rw [Nat.testBit, Nat.and_comm]
  have h : (1 &&& n >>> k) < 2 := Nat.lt_of_le_of_lt Nat.and_le_left (by omega)
  simp only [bne_iff_ne]
  omega
def stp (n k : Nat) : Nat := if n >>> k &&& 1 = 1 then n ^^^ 285 <<< (k - 8) else n
theorem xor4 (a b c d : Nat) : (a ^^^ b) ^^^ (c ^^^ d) = (a ^^^ c) ^^^ (b ^^^ d) := by
  rw [Nat.xor_assoc, Nat.xor_assoc, ← Nat.xor_assoc b, Nat.xor_comm b c, Nat.xor_assoc c]
theorem stp_add (n m k : Nat) : stp (n ^^^ m) k = stp n k ^^^ stp m k := by
  unfold stp
  simp only [bit_iff, Nat.testBit_xor]
  generalize 285 <<< (k - 8) = p
  cases n.testBit k <;> cases m.testBit k <;> simp
  · rw [Nat.xor_assoc]
  · rw [Nat.xor_assoc, Nat.xor_comm m p, Nat.xor_assoc]
  · rw [xor4]; simp
theorem fold_add (l : List Nat) : ∀ n m, l.foldl stp (n ^^^ m) = l.foldl stp n ^^^ l.foldl stp m := by
  induction l with
  | nil => intro n m; rfl
  | cons k l ih => intro n m; simp only [List.foldl_cons, stp_add, ih]
theorem red_add (n m : Nat) : red (n ^^^ m) = red n ^^^ red m := fold_add _ n m
def xs : List Nat → (Nat → Nat) → Nat
  | [], _ => 0
  | k :: l, f => f k ^^^ xs l f
theorem fold_xs (b : Nat) (f : Nat → Nat) (l : List Nat) : ∀ n, l.foldl (fun n k => if b >>> k &&& 1 = 1 then n ^^^ f k else n) n = n ^^^ xs l (fun k => if b.testBit k then f k else 0) := by
  induction l with
  | nil => intro n; simp [xs]
  | cons k l ih =>
    intro n
    simp only [List.foldl_cons, xs, bit_iff]
    simp only [bit_iff] at ih
    split
    · rw [ih]; simp [*, Nat.xor_assoc]
    · rw [ih]; simp [*]
theorem xs_add (l : List Nat) (f g : Nat → Nat) : xs l (fun k => f k ^^^ g k) = xs l f ^^^ xs l g := by
  induction l with
  | nil => simp [xs]
  | cons k l ih => simp only [xs, ih]; rw [xor4]
theorem clm_xs (x b : Nat) : clm x b = xs (List.range 8) (fun k => if b.testBit k then x <<< k else 0) := by
  unfold clm; rw [fold_xs b (fun k => x <<< k)]; simp
theorem clm_addl (x y b : Nat) : clm (x ^^^ y) b = clm x b ^^^ clm y b := by
  rw [clm_xs, clm_xs, clm_xs, ← xs_add]
  congr 1; funext k
  cases b.testBit k <;> simp [Nat.shiftLeft_xor_distrib]
theorem clm_addr (x b c : Nat) : clm x (b ^^^ c) = clm x b ^^^ clm x c := by
  rw [clm_xs, clm_xs, clm_xs, ← xs_add]
  congr 1; funext k
  rw [Nat.testBit_xor]
  cases b.testBit k <;> cases c.testBit k <;> simp
theorem mod_xor (a b : Nat) : (a ^^^ b) % 256 = a % 256 ^^^ b % 256 := by
  rw [show (256 : Nat) = 2 ^ 8 from rfl]
  exact Nat.xor_mod_two_pow
theorem rmul_addl (a b c : Nat) : rmul (a ^^^ b) c = rmul a c ^^^ rmul b c := by
  unfold rmul; rw [clm_addl, red_add, mod_xor]
theorem rmul_addr (a b c : Nat) : rmul a (b ^^^ c) = rmul a b ^^^ rmul a c := by
  unfold rmul; rw [clm_addr, red_add, mod_xor]
theorem xt_add : ∀ a b, a < 256 → b < 256 → xt (a ^^^ b) = xt a ^^^ xt b := by
  have h1 : ∀ a, a < 256 → xt a = stp (2 * a) 8 := by decide +kernel
  intro a b ha hb
  have hab : a ^^^ b < 256 := Nat.xor_lt_two_pow (n := 8) ha hb
  rw [h1 _ ha, h1 _ hb, h1 _ hab, ← stp_add]
  congr 1
  have := Nat.shiftLeft_xor_distrib (i := 1) (a := a) (b := b)
  simpa [Nat.shiftLeft_eq, Nat.mul_comm] using this
/-- a byte is the sum of its bits -/
def bitsum (a : Nat) (f : Nat → Nat) : Nat := (List.range 8).foldl (fun s k => if a >>> k &&& 1 = 1 then s ^^^ f k else s) 0
theorem is_bitsum : ∀ a, a < 256 → bitsum a (fun k => 1 <<< k) = a := by decide +kernel
theorem additive_bits (f : Nat → Nat) (h : ∀ a b, a < 256 → b < 256 → f (a ^^^ b) = f a ^^^ f b) (a : Nat) (ha : a < 256) : f a = bitsum a fun k => f (1 <<< k) := by
  have f0 : f 0 = 0 := by have := h 0 0 (by omega) (by omega); simpa using this
  have key : ∀ (l : List Nat), (∀ k ∈ l, k < 8) → ∀ s, s < 256 →
      f (l.foldl (fun s k => if a >>> k &&& 1 = 1 then s ^^^ 1 <<< k else s) s) = l.foldl (fun s k => if a >>> k &&& 1 = 1 then s ^^^ f (1 <<< k) else s) (f s) := by
    intro l
    induction l with
    | nil => intro _ s _; rfl
    | cons k l ih =>
      intro hl s hs
      have hk := hl k (by simp)
      have h1 : (1 : Nat) <<< k < 256 := by
        have : ∀ k, k < 8 → (1 : Nat) <<< k < 256 := by decide
        exact this k hk
      simp only [List.foldl_cons]
      split
      · rw [ih (fun j hj => hl j (by simp [hj])) _ (Nat.xor_lt_two_pow (n := 8) hs h1), h _ _ hs h1]
      · exact ih (fun j hj => hl j (by simp [hj])) _ hs
  have := key (List.range 8) (by simp) 0 (by omega)
  rw [f0] at this
  have e := is_bitsum a ha
  unfold bitsum at e ⊢
  rw [e] at this
  exact this
theorem additive_eq (f g : Nat → Nat) (hf : ∀ a b, a < 256 → b < 256 → f (a ^^^ b) = f a ^^^ f b) (hg : ∀ a b, a < 256 → b < 256 → g (a ^^^ b) = g a ^^^ g b)
    (he : ∀ k, k < 8 → f (1 <<< k) = g (1 <<< k)) (a : Nat) (ha : a < 256) : f a = g a := by
  rw [additive_bits f hf a ha, additive_bits g hg a ha]
  unfold bitsum
  have key : ∀ (l : List Nat), (∀ k ∈ l, k < 8) → ∀ s, l.foldl (fun s k => if a >>> k &&& 1 = 1 then s ^^^ f (1 <<< k) else s) s = l.foldl (fun s k => if a >>> k &&& 1 = 1 then s ^^^ g (1 <<< k) else s) s := by
    intro l
    induction l with
    | nil => intro _ s; rfl
    | cons k l ih => intro hl s; simp only [List.foldl_cons]; rw [he k (hl k (by simp))]; exact ih (fun j hj => hl j (by simp [hj])) _
  exact key _ (by simp) 0
theorem rmul_lt (a b : Nat) : rmul a b < 256 := Nat.mod_lt _ (by omega)
theorem rmul_xt (a b : Nat) (ha : a < 256) (hb : b < 256) : rmul a (xt b) = xt (rmul a b) := by
  refine additive_eq (fun b => rmul a (xt b)) (fun b => xt (rmul a b)) ?_ ?_ ?_ b hb
  · intro x y hx hy; simp only [xt_add x y hx hy, rmul_addr]
  · intro x y _ _; simp only [rmul_addr]; rw [xt_add _ _ (rmul_lt _ _) (rmul_lt _ _)]
  · intro k hk
    refine additive_eq (fun a => rmul a (xt (1 <<< k))) (fun a => xt (rmul a (1 <<< k))) ?_ ?_ ?_ a ha
    · intro x y _ _; simp only [rmul_addl]
    · intro x y _ _; simp only [rmul_addl]; rw [xt_add _ _ (rmul_lt _ _) (rmul_lt _ _)]
    · have h : ∀ k, k < 8 → ∀ j, j < 8 → rmul (1 <<< j) (xt (1 <<< k)) = xt (rmul (1 <<< j) (1 <<< k)) := by decide +kernel
      exact fun j hj => h k hk j hj
theorem rmul_one : ∀ a, a < 256 → rmul a 1 = a := by decide +kernel
theorem rmul_pw (i j : Nat) : rmul (pw i) (pw j) = pw (i + j) := by
  induction j with
  | zero => exact rmul_one _ (pw_lt i)
  | succ j ih => show rmul (pw i) (xt (pw j)) = xt (pw (i + j)); rw [rmul_xt _ _ (pw_lt i) (pw_lt j), ih]
theorem rmul_zero (a : Nat) : rmul a 0 = 0 := by
  have := rmul_addr a 0 0; simpa using this
theorem zero_rmul (a : Nat) : rmul 0 a = 0 := by
  have := rmul_addl 0 0 a; simpa using this
theorem rmul_eq (a b : Nat) (ha : a < 256) (hb : b < 256) : rmul a b = mul a b := by
  rcases cases_pw a ha with rfl | ⟨i, _, rfl⟩
  · rw [zero_rmul, zero_mul]
  rcases cases_pw b hb with rfl | ⟨j, _, rfl⟩
  · rw [rmul_zero, mul_zero]
  rw [rmul_pw, mul_pw]
theorem mul_addr (a b c : Nat) (ha : a < 256) (hb : b < 256) (hc : c < 256) : mul a (b ^^^ c) = mul a b ^^^ mul a c := by
  rw [← rmul_eq a b ha hb, ← rmul_eq a c ha hc, ← rmul_eq a _ ha (Nat.xor_lt_two_pow (n := 8) hb hc), rmul_addr]
end Go.Proofs.Ythhcdfjijagalaa.Fld
namespace Go.Proofs.Ythhcdfjijagalaa.Mat
set_option linter.unusedVariables false
/-! ### bytes as numbers -/
def gadd (a b : UInt8) : UInt8 := a ^^^ b
def gmul (a b : UInt8) : UInt8 := UInt8.ofNat (Fld.mul a.toNat b.toNat)
def ginv (a : UInt8) : UInt8 := UInt8.ofNat (Fld.inv a.toNat)
theorem toNat_mul (a b : UInt8) : (gmul a b).toNat = Fld.mul a.toNat b.toNat := by
  unfold gmul; rw [UInt8.toNat_ofNat']; exact Nat.mod_eq_of_lt (Fld.mul_lt _ _)
theorem toNat_inv (a : UInt8) : (ginv a).toNat = Fld.inv a.toNat := by
  unfold ginv; rw [UInt8.toNat_ofNat']; exact Nat.mod_eq_of_lt (Fld.inv_lt _)
theorem toNat_add (a b : UInt8) : (gadd a b).toNat = a.toNat ^^^ b.toNat := UInt8.toNat_xor a b
theorem lt (a : UInt8) : a.toNat < 256 := UInt8.toNat_lt a
theorem add_comm (a b : UInt8) : gadd a b = gadd b a := UInt8.toNat_inj.1 (by rw [toNat_add, toNat_add, Nat.xor_comm])
theorem add_assoc (a b c : UInt8) : gadd (gadd a b) c = gadd a (gadd b c) := UInt8.toNat_inj.1 (by simp only [toNat_add, Nat.xor_assoc])
theorem add_zero (a : UInt8) : gadd a 0 = a := UInt8.toNat_inj.1 (by rw [toNat_add]; exact Nat.xor_zero _)
theorem zero_add (a : UInt8) : gadd 0 a = a := by rw [add_comm, add_zero]
theorem add_self (a : UInt8) : gadd a a = 0 := UInt8.toNat_inj.1 (by rw [toNat_add, Nat.xor_self]; rfl)
theorem add_eq_zero {a b : UInt8} (h : gadd a b = 0) : a = b := by
  have : gadd (gadd a b) b = gadd 0 b := by rw [h]
  rwa [add_assoc, add_self, add_zero, zero_add] at this
theorem mul_comm (a b : UInt8) : gmul a b = gmul b a := UInt8.toNat_inj.1 (by rw [toNat_mul, toNat_mul, Fld.mul_comm])
theorem mul_assoc (a b c : UInt8) : gmul (gmul a b) c = gmul a (gmul b c) := UInt8.toNat_inj.1 (by simp only [toNat_mul]; exact Fld.mul_assoc _ _ _ (lt a) (lt b) (lt c))
theorem mul_one (a : UInt8) : gmul a 1 = a := UInt8.toNat_inj.1 (by rw [toNat_mul]; exact Fld.mul_one _ (lt a))
theorem one_mul (a : UInt8) : gmul 1 a = a := by rw [mul_comm, mul_one]
theorem mul_zero (a : UInt8) : gmul a 0 = 0 := UInt8.toNat_inj.1 (by rw [toNat_mul]; exact Fld.mul_zero _)
theorem zero_mul (a : UInt8) : gmul 0 a = 0 := by rw [mul_comm, mul_zero]
theorem mul_add (a b c : UInt8) : gmul a (gadd b c) = gadd (gmul a b) (gmul a c) := UInt8.toNat_inj.1 (by simp only [toNat_mul, toNat_add]; exact Fld.mul_addr _ _ _ (lt a) (lt b) (lt c))
theorem add_mul (a b c : UInt8) : gmul (gadd a b) c = gadd (gmul a c) (gmul b c) := by rw [mul_comm, mul_add, mul_comm c a, mul_comm c b]
theorem ne_zero {a : UInt8} (h : a ≠ 0) : a.toNat ≠ 0 := fun e => h (UInt8.toNat_inj.1 e)
theorem mul_inv {a : UInt8} (h : a ≠ 0) : gmul a (ginv a) = 1 := UInt8.toNat_inj.1 (by rw [toNat_mul, toNat_inv]; exact Fld.mul_inv _ (lt a) (ne_zero h))
theorem inv_mul {a : UInt8} (h : a ≠ 0) : gmul (ginv a) a = 1 := by rw [mul_comm, mul_inv h]
theorem inv_ne {a : UInt8} (h : a ≠ 0) : ginv a ≠ 0 := fun e => by have := mul_inv h; rw [e, mul_zero] at this; exact absurd this (by decide)
theorem mul_eq_zero {a b : UInt8} (h : gmul a b = 0) : a = 0 ∨ b = 0 := by
  by_cases ha : a = 0
  · exact .inl ha
  · right
    have : gmul (ginv a) (gmul a b) = gmul (ginv a) 0 := by rw [h]
    rwa [← mul_assoc, inv_mul ha, one_mul, mul_zero] at this
/-! ### sums -/
def sum : Nat → (Nat → UInt8) → UInt8
  | 0, _ => 0
  | n + 1, f => gadd (sum n f) (f n)
theorem sum_succ (n : Nat) (f : Nat → UInt8) : sum (n + 1) f = gadd (sum n f) (f n) := rfl
theorem sum_congr {n : Nat} {f g : Nat → UInt8} (h : ∀ i, i < n → f i = g i) : sum n f = sum n g := by
  induction n with
  | zero => rfl
  | succ n ih => unfold sum; rw [ih fun i hi => h i (by omega), h n (by omega)]
theorem sum_zero {n : Nat} {f : Nat → UInt8} (h : ∀ i, i < n → f i = 0) : sum n f = 0 := by
  induction n with
  | zero => rfl
  | succ n ih => unfold sum; rw [ih fun i hi => h i (by omega), h n (by omega)]; rfl
theorem add4 (a b c d : UInt8) : gadd (gadd a b) (gadd c d) = gadd (gadd a c) (gadd b d) := by
  rw [add_assoc, add_assoc, ← add_assoc b, ← add_assoc c, add_comm b c]
theorem sum_add (n : Nat) (f g : Nat → UInt8) : sum n (fun i => gadd (f i) (g i)) = gadd (sum n f) (sum n g) := by
  induction n with
  | zero => exact (add_self 0).symm
  | succ n ih => rw [sum_succ, sum_succ, sum_succ, ih, add4]
theorem mul_sum (n : Nat) (a : UInt8) (f : Nat → UInt8) : gmul a (sum n f) = sum n fun i => gmul a (f i) := by
  induction n with
  | zero => exact mul_zero a
  | succ n ih => unfold sum; rw [mul_add, ih]
theorem sum_mul (n : Nat) (a : UInt8) (f : Nat → UInt8) : gmul (sum n f) a = sum n fun i => gmul (f i) a := by
  rw [mul_comm, mul_sum]; exact sum_congr fun i _ => mul_comm _ _
theorem sum_swap (n m : Nat) (f : Nat → Nat → UInt8) : (sum n fun i => sum m fun j => f i j) = sum m fun j => sum n fun i => f i j := by
  induction n with
  | zero => exact (sum_zero fun j _ => rfl).symm
  | succ n ih =>
    rw [sum_succ, ih, ← sum_add]
    exact sum_congr fun j _ => rfl
theorem sum_one {n k : Nat} (hk : k < n) (f : Nat → UInt8) (h : ∀ i, i < n → i ≠ k → f i = 0) : sum n f = f k := by
  induction n with
  | zero => omega
  | succ n ih =>
    unfold sum
    by_cases e : k = n
    · subst e
      rw [sum_zero fun i hi => h i (by omega) (by omega), zero_add]
    · rw [ih (by omega) fun i hi hne => h i (by omega) hne, h n (by omega) (fun e' => e e'.symm), add_zero]
/-! ### matrices: rows and columns from 0 on -/
abbrev M := Nat → Nat → UInt8
def one : M := fun i j => if i = j then 1 else 0
/-- a product, over n -/
def mul (n : Nat) (a b : M) : M := fun i j => sum n fun k => gmul (a i k) (b k j)
def app (n : Nat) (a : M) (x : Nat → UInt8) : Nat → UInt8 := fun i => sum n fun k => gmul (a i k) (x k)
theorem mul_assoc3 (n m : Nat) (a b c : M) (i j : Nat) : mul m (mul n a b) c i j = mul n a (mul m b c) i j := by
  unfold mul
  rw [show (sum m fun k => gmul (sum n fun l => gmul (a i l) (b l k)) (c k j)) = sum m fun k => sum n fun l => gmul (gmul (a i l) (b l k)) (c k j) from sum_congr fun k _ => sum_mul n _ _,
    sum_swap]
  refine sum_congr fun l _ => ?_
  rw [mul_sum]
  exact sum_congr fun k _ => mul_assoc _ _ _
theorem app_mul (n m : Nat) (a b : M) (x : Nat → UInt8) (i : Nat) : app m (mul n a b) x i = app n a (app m b x) i := mul_assoc3 n m a b (fun k _ => x k) i 0
theorem one_app (n : Nat) (x : Nat → UInt8) {i : Nat} (h : i < n) : app n one x i = x i := by
  unfold app one
  rw [sum_one h _ fun k _ hne => by rw [if_neg (fun e => hne e.symm), zero_mul], if_pos rfl, one_mul]
theorem one_mul_left (n : Nat) (a : M) {i : Nat} (h : i < n) (j : Nat) : mul n one a i j = a i j := one_app n (fun k => a k j) h
theorem mul_one_right (n : Nat) (a : M) (i : Nat) {j : Nat} (h : j < n) : mul n a one i j = a i j := by
  unfold mul one
  rw [sum_one h _ fun k _ hne => by rw [if_neg hne, mul_zero], if_pos rfl, mul_one]
/-- No sum of columns but the empty one is nought. -/
def Inj (n : Nat) (a : M) : Prop := ∀ x : Nat → UInt8, (∀ i, i < n → app n a x i = 0) → ∀ i, i < n → x i = 0
/-- b undoes a, from either side. -/
def Undo (n : Nat) (a b : M) : Prop := (∀ i j, i < n → j < n → mul n b a i j = one i j) ∧ ∀ i j, i < n → j < n → mul n a b i j = one i j
theorem app_congr {n : Nat} {a b : M} {x y : Nat → UInt8} {i : Nat} (h : ∀ k, k < n → a i k = b i k) (hx : ∀ k, k < n → x k = y k) : app n a x i = app n b y i := sum_congr fun k hk => by rw [h k hk, hx k hk]
theorem app_add (n : Nat) (a : M) (x y : Nat → UInt8) (i : Nat) : app n a (fun k => gadd (x k) (y k)) i = gadd (app n a x i) (app n a y i) := by
  unfold app
  rw [← sum_add]
  exact sum_congr fun k _ => mul_add _ _ _
/-- What undoes it from the left, and takes no column for nought, undoes it. -/
theorem undo_of_left {n : Nat} {a b : M} (h : ∀ i j, i < n → j < n → mul n b a i j = one i j) (hb : Inj n b) : Undo n a b := by
  refine ⟨h, fun i j hi hj => ?_⟩
  have hz := hb (fun k => gadd (mul n a b k j) (one k j)) (fun i hi => by
    rw [app_add]
    have e1 : app n b (fun k => mul n a b k j) i = app n (mul n b a) (fun k => b k j) i := (app_mul n n b a (fun k => b k j) i).symm
    have e2 : app n (mul n b a) (fun k => b k j) i = app n one (fun k => b k j) i := app_congr (fun k hk => h i k hi hk) fun _ _ => rfl
    have e3 : app n b (fun k => one k j) i = b i j := mul_one_right n b i hj
    rw [e1, e2, one_app n _ hi, e3, add_self]) i hi
  exact add_eq_zero hz
theorem Undo.uniq {n : Nat} {a b c : M} (h : Undo n a b) (k : Undo n a c) : ∀ i j, i < n → j < n → b i j = c i j := by
  intro i j hi hj
  have e1 : mul n (mul n b a) c i j = c i j := by
    rw [show mul n (mul n b a) c i j = mul n one c i j from sum_congr fun l hl => by rw [h.1 i l hi hl], one_mul_left n c hi]
  have e2 : mul n b (mul n a c) i j = b i j := by
    rw [show mul n b (mul n a c) i j = mul n b one i j from sum_congr fun l hl => by rw [k.2 l j hl hj], mul_one_right n b i hj]
  rw [← e1, mul_assoc3, e2]
/-! ### undoing, step by step: the rows of 'work' and of 'out' are changed alike -/
/-- Behind the columns P: out times a is work; out takes no column for nought; the columns P are those of one. -/
structure Step (n : Nat) (a work out : M) (P : Nat → Prop) : Prop where
  eq : ∀ i j, i < n → j < n → mul n out a i j = work i j
  inj : Inj n out
  cols : ∀ i j, i < n → P j → work i j = one i j
theorem Step.start (n : Nat) (a : M) : Step n a a one (fun _ => False) :=
  ⟨fun i j hi _ => one_mul_left n a hi j, fun x hx i hi => by have := hx i hi; rwa [one_app n x hi] at this, fun i j _ h => h.elim⟩
theorem Step.zero {n : Nat} {a work out : M} {P : Nat → Prop} (h : Step n a work out P) {i j : Nat} (hi : i < n) (hP : ¬ P i) (hj : P j) : work i j = 0 := by
  rw [h.cols i j hi hj]
  unfold one
  rw [if_neg (show ¬ i = j from fun e => hP (e ▸ hj))]
/-- No pivot: it can't be undone. -/
theorem Step.stuck {n c : Nat} {a work out : M} {P : Nat → Prop} (h : Step n a work out P) (hc : c < n) (hPc : ¬ P c) (hz : ∀ i, i < n → ¬ P i → work i c = 0) : ¬ Inj n a := by
  classical
  intro ha
  have hx := ha (fun j => gadd (if P j then work j c else 0) (one j c)) (fun i hi => by
    refine h.inj _ (fun i hi => ?_) i hi
    rw [← app_mul, show app n (mul n out a) _ i = app n work _ i from app_congr (fun k hk => h.eq i k hi hk) fun _ _ => rfl, app_add]
    have e1 : app n work (fun k => one k c) i = work i c := mul_one_right n work i hc
    rw [e1]
    by_cases hP : P i
    · have e2 : app n work (fun j => if P j then work j c else 0) i = work i c := by
        unfold app
        rw [sum_one hi _ fun k hk hne => ?_]
        · show gmul (work i i) (if P i then work i c else 0) = _
          rw [if_pos hP, h.cols i i hi hP]; unfold one; rw [if_pos rfl, one_mul]
        · show gmul (work i k) (if P k then work k c else 0) = _
          by_cases hk2 : P k
          · rw [if_pos hk2, h.cols i k hi hk2]; unfold one; rw [if_neg (fun e => hne e.symm), zero_mul]
          · rw [if_neg hk2, mul_zero]
      rw [e2, add_self]
    · have e2 : app n work (fun j => if P j then work j c else 0) i = 0 := by
        refine sum_zero fun k hk => ?_
        show gmul (work i k) (if P k then work k c else 0) = _
        by_cases hk2 : P k
        · rw [h.zero hi hP hk2, zero_mul]
        · rw [if_neg hk2, mul_zero]
      rw [e2, hz i hi hP, add_zero]) c hc
  simp only [if_neg hPc, zero_add] at hx
  unfold one at hx
  rw [if_pos rfl] at hx
  exact absurd hx (by decide)
theorem Step.done {n : Nat} {a work out : M} {P : Nat → Prop} (h : Step n a work out P) (hP : ∀ j, j < n → P j) : Undo n a out := undo_of_left (fun i j hi hj => (h.eq i j hi hj).trans (h.cols i j hi (hP j hj))) h.inj
def swapM (c k : Nat) (a : M) : M := fun i j => if i = c then a k j else if i = k then a c j else a i j
def scaleM (c : Nat) (x : UInt8) (a : M) : M := fun i j => if i = c then gmul (a c j) x else a i j
def elimM (c : Nat) (y : Nat → UInt8) (a : M) : M := fun i j => if i = c then a c j else gadd (a i j) (gmul (a c j) (y i))
theorem mul_swap (n c k : Nat) (a b : M) (i j : Nat) : mul n (swapM c k a) b i j = swapM c k (mul n a b) i j := by
  unfold mul swapM; split
  · rfl
  · split <;> rfl
theorem mul_scale (n c : Nat) (x : UInt8) (a b : M) (i j : Nat) : mul n (scaleM c x a) b i j = scaleM c x (mul n a b) i j := by
  unfold mul scaleM; split
  · rw [sum_mul]; exact sum_congr fun k _ => by rw [mul_assoc, mul_comm x, ← mul_assoc]
  · rfl
theorem mul_elim (n c : Nat) (y : Nat → UInt8) (a b : M) (i j : Nat) : mul n (elimM c y a) b i j = elimM c y (mul n a b) i j := by
  unfold mul elimM; split
  · rfl
  · rw [sum_mul, ← sum_add]; exact sum_congr fun k _ => by rw [add_mul, mul_assoc, mul_comm (y i), ← mul_assoc]
theorem Step.swap {n c k : Nat} {a work out : M} {P : Nat → Prop} (h : Step n a work out P) (hc : c < n) (hk : k < n) (hPc : ¬ P c) (hPk : ¬ P k) : Step n a (swapM c k work) (swapM c k out) P := by
  refine ⟨fun i j hi hj => ?_, fun x hx => h.inj x fun i hi => ?_, fun i j hi hj => ?_⟩
  · rw [mul_swap]
    unfold swapM
    split
    · exact h.eq k j hk hj
    · split
      · exact h.eq c j hc hj
      · exact h.eq i j hi hj
  · have e : ∀ i, app n (swapM c k out) x i = swapM c k (fun i _ => app n out x i) i 0 := fun i => mul_swap n c k out (fun k _ => x k) i 0
    by_cases h1 : i = k
    · have := hx c hc
      rw [e] at this; unfold swapM at this
      rw [if_pos rfl] at this; rw [h1]; exact this
    · by_cases h2 : i = c
      · have := hx k hk
        rw [e] at this; unfold swapM at this
        subst h2
        rw [if_neg (fun e => h1 e.symm), if_pos rfl] at this; exact this
      · have := hx i hi
        rw [e] at this; unfold swapM at this
        rw [if_neg h2, if_neg h1] at this; exact this
  · unfold swapM
    split
    · rename_i e
      subst e
      rw [h.zero hk hPk hj]; unfold one; rw [if_neg (show ¬ i = j from fun e => hPc (e ▸ hj))]
    · split
      · rename_i e
        subst e
        rw [h.zero hc hPc hj]; unfold one; rw [if_neg (show ¬ i = j from fun e => hPk (e ▸ hj))]
      · exact h.cols i j hi hj
theorem Step.scale {n c : Nat} {a work out : M} {P : Nat → Prop} (h : Step n a work out P) (hc : c < n) (hPc : ¬ P c) {x : UInt8} (hx0 : x ≠ 0) : Step n a (scaleM c x work) (scaleM c x out) P := by
  refine ⟨fun i j hi hj => ?_, fun v hv => h.inj v fun i hi => ?_, fun i j hi hj => ?_⟩
  · rw [mul_scale]
    unfold scaleM
    split
    · rw [h.eq c j hc hj]
    · exact h.eq i j hi hj
  · have := hv i hi
    have e : app n (scaleM c x out) v i = scaleM c x (fun i _ => app n out v i) i 0 := mul_scale n c x out (fun k _ => v k) i 0
    rw [e] at this; unfold scaleM at this
    split at this
    · rename_i e2
      subst e2
      exact (mul_eq_zero this).resolve_right hx0
    · exact this
  · unfold scaleM
    split
    · rename_i e
      subst e
      rw [h.zero hc hPc hj, zero_mul]; unfold one; rw [if_neg (show ¬ i = j from fun e => hPc (e ▸ hj))]
    · exact h.cols i j hi hj
theorem Step.elim {n c : Nat} {a work out : M} {P : Nat → Prop} (h : Step n a work out P) (hc : c < n) (hPc : ¬ P c) (h1 : work c c = 1) : Step n a (elimM c (fun i => work i c) work) (elimM c (fun i => work i c) out) (fun j => P j ∨ j = c) := by
  refine ⟨fun i j hi hj => ?_, fun v hv => h.inj v fun i hi => ?_, fun i j hi hj => ?_⟩
  · rw [mul_elim]
    unfold elimM
    split
    · exact h.eq c j hc hj
    · rw [h.eq i j hi hj, h.eq c j hc hj]
  · have e : ∀ i, app n (elimM c (fun i => work i c) out) v i = elimM c (fun i => work i c) (fun i _ => app n out v i) i 0 := fun i => mul_elim n c _ out (fun k _ => v k) i 0
    have hcz : app n out v c = 0 := by
      have := hv c hc
      rw [e] at this; unfold elimM at this
      rwa [if_pos rfl] at this
    by_cases h2 : i = c
    · rw [h2]; exact hcz
    · have := hv i hi
      rw [e] at this; unfold elimM at this
      rw [if_neg h2] at this
      dsimp only at this
      rw [hcz, zero_mul, add_zero] at this; exact this
  · unfold elimM
    rcases hj with hj | rfl
    · have hne : c ≠ j := fun e => hPc (e ▸ hj)
      split
      · rename_i e
        subst e
        rw [h.zero hc hPc hj]; unfold one; rw [if_neg hne]
      · rw [h.zero hc hPc hj, zero_mul, add_zero]; exact h.cols i j hi hj
    · split
      · rename_i e
        subst e
        rw [h1]; unfold one; rw [if_pos rfl]
      · rename_i e
        rw [h1, one_mul, add_self]; unfold one; rw [if_neg e]
end Go.Proofs.Ythhcdfjijagalaa.Mat
namespace Go.Proofs.Ythhcdfjijagalaa.Mat
set_option linter.unusedVariables false
/-- what stands at row i, column j -/
def ent (L : List (List UInt8)) (i j : Nat) : UInt8 := (L.getD i []).getD j 0
/-- how long row i is -/
def wid (L : List (List UInt8)) (i : Nat) : Nat := (L.getD i []).length
def tab (n m : Nat) (f : M) : List (List UInt8) := (List.range n).map fun i => (List.range m).map fun j => f i j
/-- L has n rows of m bytes, f's. -/
structure Rep (L : List (List UInt8)) (n m : Nat) (f : M) : Prop where
  rows : L.length = n
  cols : ∀ r ∈ L, r.length = m
  eq : ∀ i j, i < n → j < m → ent L i j = f i j
theorem ent_get {L : List (List UInt8)} {i j : Nat} (hi : i < L.length) (hj : j < L[i].length) : ent L i j = L[i][j] := by
  unfold ent
  simp [List.getD, hi, hj]
theorem wid_get {L : List (List UInt8)} {i : Nat} (hi : i < L.length) : wid L i = L[i].length := by
  unfold wid
  simp [List.getD, hi]
theorem tab_rows (n m : Nat) (f : M) : (tab n m f).length = n := by simp [tab]
theorem tab_rep (n m : Nat) (f : M) : Rep (tab n m f) n m f := by
  refine ⟨tab_rows n m f, fun r hr => ?_, fun i j hi hj => ?_⟩
  · unfold tab at hr
    obtain ⟨i, _, rfl⟩ := List.mem_map.1 hr
    simp
  · rw [ent_get (by rw [tab_rows]; exact hi) (by simp [tab]; exact hj)]
    simp [tab]
theorem Rep.uniq {L K : List (List UInt8)} {n m : Nat} {f g : M} (h : Rep L n m f) (k : Rep K n m g) (e : ∀ i j, i < n → j < m → f i j = g i j) : L = K := by
  refine List.ext_getElem (by rw [h.rows, k.rows]) fun i h1 h2 => ?_
  have hi : i < n := by rw [← h.rows]; exact h1
  have c1 := h.cols _ (List.getElem_mem h1)
  have c2 := k.cols _ (List.getElem_mem h2)
  refine List.ext_getElem (by rw [c1, c2]) fun j g1 g2 => ?_
  have hj : j < m := by rw [← c1]; exact g1
  rw [← ent_get h1 g1, ← ent_get h2 g2, h.eq i j hi hj, k.eq i j hi hj, e i j hi hj]
theorem Rep.congr {L : List (List UInt8)} {n m : Nat} {f g : M} (h : Rep L n m f) (e : ∀ i j, i < n → j < m → f i j = g i j) : Rep L n m g :=
  ⟨h.rows, h.cols, fun i j hi hj => (h.eq i j hi hj).trans (e i j hi hj)⟩
theorem Rep.self {L : List (List UInt8)} {n m : Nat} (h1 : L.length = n) (h2 : ∀ r ∈ L, r.length = m) : Rep L n m (ent L) := ⟨h1, h2, fun _ _ _ _ => rfl⟩
/-- what is wrong with a matrix -/
def wrongM (L : List (List UInt8)) : Int := if L.length < 1 ∨ 12 < L.length ∨ wid L 0 < 1 ∨ 400 < wid L 0 then 5 else if ∃ r ∈ L, r.length ≠ wid L 0 then 2 else 0
structure Fine (L : List (List UInt8)) (n m : Nat) : Prop where
  rows : L.length = n
  cols : ∀ r ∈ L, r.length = m
  n1 : 1 ≤ n
  n2 : n ≤ 12
  m1 : 1 ≤ m
  m2 : m ≤ 400
theorem wrong_fine {L : List (List UInt8)} (h : wrongM L = 0) : Fine L L.length (wid L 0) := by
  unfold wrongM at h
  split at h
  · cases h
  · split at h
    · cases h
    · rename_i h1 h2
      exact ⟨rfl, fun r hr => Classical.byContradiction fun e => h2 ⟨r, hr, e⟩, by omega, by omega, by omega, by omega⟩
theorem Fine.wid0 {L : List (List UInt8)} {n m : Nat} (h : Fine L n m) : wid L 0 = m := by
  have h1 := h.n1
  have hl : 0 < L.length := by rw [h.rows]; omega
  rw [wid_get hl]; exact h.cols _ (List.getElem_mem _)
theorem Fine.wrong {L : List (List UInt8)} {n m : Nat} (h : Fine L n m) : wrongM L = 0 := by
  unfold wrongM
  rw [if_neg, if_neg]
  · rintro ⟨r, hr, hne⟩
    exact hne (by rw [h.wid0]; exact h.cols r hr)
  · rw [h.wid0, h.rows]
    have := h.n1; have := h.n2; have := h.m1; have := h.m2
    omega
theorem Fine.rep {L : List (List UInt8)} {n m : Nat} (h : Fine L n m) : Rep L n m (ent L) := .self h.rows h.cols
theorem Rep.fine {L : List (List UInt8)} {n m : Nat} {f : M} (h : Rep L n m f) (n1 : 1 ≤ n) (n2 : n ≤ 12) (m1 : 1 ≤ m) (m2 : m ≤ 400) : Fine L n m := ⟨h.rows, h.cols, n1, n2, m1, m2⟩
/-- a product -/
def MulR (A B : List (List UInt8)) (L : List (List UInt8)) (e : Int) : Prop :=
  if wrongM A ≠ 0 then L = [] ∧ e = wrongM A else if wrongM B ≠ 0 then L = [] ∧ e = wrongM B else if wid A 0 ≠ B.length then L = [] ∧ e = 8
  else Rep L A.length (wid B 0) (mul B.length (ent A) (ent B)) ∧ e = 0
/-- what undoes it -/
def InvR (A : List (List UInt8)) (L : List (List UInt8)) (e : Int) : Prop :=
  if wrongM A ≠ 0 then L = [] ∧ e = wrongM A else if wid A 0 ≠ A.length then L = [] ∧ e = 8
  else (L = [] ∧ e = 6 ∧ ¬ Inj A.length (ent A)) ∨ (∃ f, Rep L A.length A.length f ∧ Undo A.length (ent A) f ∧ e = 0)
theorem MulR.ok {A B : List (List UInt8)} {n m k : Nat} (hA : Fine A n m) (hB : Fine B m k) {L : List (List UInt8)} {e : Int} (h : MulR A B L e) : Rep L n k (mul m (ent A) (ent B)) ∧ e = 0 := by
  unfold MulR at h
  rw [if_neg (by rw [hA.wrong]; simp), if_neg (by rw [hB.wrong]; simp), if_neg (by rw [hA.wid0, hB.rows]; simp), hA.rows, hB.rows, hB.wid0] at h
  exact h
theorem InvR.ok {A : List (List UInt8)} {n : Nat} (hA : Fine A n n) {L : List (List UInt8)} {e : Int} (h : InvR A L e) : (L = [] ∧ e = 6 ∧ ¬ Inj n (ent A)) ∨ (∃ f, Rep L n n f ∧ Undo n (ent A) f ∧ e = 0) := by
  unfold InvR at h
  rw [if_neg (by rw [hA.wrong]; simp), if_neg (by rw [hA.wid0, hA.rows]; simp), hA.rows] at h
  exact h
end Go.Proofs.Ythhcdfjijagalaa.Mat
namespace Go.Proofs.Ythhcdfjijagalaa.Mat
set_option linter.unusedVariables false
def lsum {α : Type} : List α → (α → UInt8) → UInt8
  | [], _ => 0
  | x :: l, f => gadd (f x) (lsum l f)
theorem lsum_congr {α : Type} {l : List α} {f g : α → UInt8} (h : ∀ x ∈ l, f x = g x) : lsum l f = lsum l g := by
  induction l with
  | nil => rfl
  | cons x l ih => show gadd _ _ = gadd _ _; rw [h x (List.mem_cons_self ..), ih fun y hy => h y (List.mem_cons_of_mem _ hy)]
theorem lsum_add {α : Type} (l : List α) (f g : α → UInt8) : lsum l (fun x => gadd (f x) (g x)) = gadd (lsum l f) (lsum l g) := by
  induction l with
  | nil => exact (add_self 0).symm
  | cons x l ih => show gadd _ (lsum l _) = gadd (gadd _ _) (gadd _ _); rw [ih, add4]
theorem mul_lsum {α : Type} (l : List α) (a : UInt8) (f : α → UInt8) : gmul a (lsum l f) = lsum l fun x => gmul a (f x) := by
  induction l with
  | nil => exact mul_zero a
  | cons x l ih => show gmul a (gadd _ _) = gadd _ _; rw [mul_add, ih]
theorem lsum_map {α β : Type} (l : List α) (m : α → β) (f : β → UInt8) : lsum (l.map m) f = lsum l fun x => f (m x) := by
  induction l with
  | nil => rfl
  | cons x l ih => show gadd _ _ = gadd _ _; rw [ih]
theorem lsum_zero {α : Type} {l : List α} {f : α → UInt8} (h : ∀ x ∈ l, f x = 0) : lsum l f = 0 := by
  rw [lsum_congr (g := fun _ => 0) h]
  induction l with
  | nil => rfl
  | cons x l ih => show gadd 0 _ = 0; rw [zero_add]; exact ih fun y hy => h y (List.mem_cons_of_mem _ hy)
theorem add_ne {a b : UInt8} (h : a ≠ b) : gadd a b ≠ 0 := fun e => h (add_eq_zero e)
theorem add_cancel (a b c : UInt8) : gadd (gadd a b) (gadd b c) = gadd a c := by
  rw [add_assoc, ← add_assoc b, add_self, zero_add]
/-- 1/u + 1/v = (u + v) / (u v) -/
theorem inv_add {u v : UInt8} (hu : u ≠ 0) (hv : v ≠ 0) : gadd (ginv u) (ginv v) = gmul (gadd u v) (gmul (ginv u) (ginv v)) := by
  rw [add_mul, ← mul_assoc u, mul_inv hu, one_mul, mul_comm (ginv u) (ginv v), ← mul_assoc v, mul_inv hv, one_mul, add_comm]
/-- (i + b) / (i + p) = 1 + (p + b) / (i + p) -/
theorem frac {i b p : UInt8} (h : i ≠ p) : gmul (gadd i b) (ginv (gadd i p)) = gadd 1 (gmul (gadd p b) (ginv (gadd i p))) := by
  rw [← add_cancel i p b, add_mul, mul_inv (add_ne h)]
theorem row_step {i b : UInt8} {x : UInt8} {l : List (UInt8 × UInt8)} (hi : ∀ p ∈ (b, x) :: l, i ≠ p.1) (h : lsum ((b, x) :: l) (fun p => gmul p.2 (ginv (gadd i p.1))) = 0) :
    lsum l (fun p => gmul (gmul p.2 (gadd p.1 b)) (ginv (gadd i p.1))) = lsum ((b, x) :: l) (fun p => p.2) := by
  have e : gmul (gadd i b) (lsum ((b, x) :: l) (fun p => gmul p.2 (ginv (gadd i p.1)))) = gadd (lsum ((b, x) :: l) (fun p => p.2)) (lsum ((b, x) :: l) (fun p => gmul (gmul p.2 (gadd p.1 b)) (ginv (gadd i p.1)))) := by
    rw [mul_lsum, ← lsum_add]
    refine lsum_congr fun p hp => ?_
    rw [← mul_assoc, mul_comm (gadd i b), mul_assoc, frac (hi p hp), mul_add, mul_one, ← mul_assoc]
  rw [h, mul_zero] at e
  have e2 := add_eq_zero e.symm
  rw [e2]
  show _ = gadd (gmul (gmul x (gadd b b)) _) _
  rw [add_self, mul_zero, zero_mul, zero_add]
/-- THE LAW. -/
theorem cauchy : ∀ (l : List (UInt8 × UInt8)) (as : List UInt8), as.length = l.length → as.Nodup → (l.map (·.1)).Nodup → (∀ a ∈ as, ∀ p ∈ l, a ≠ p.1) →
    (∀ a ∈ as, lsum l (fun p => gmul p.2 (ginv (gadd a p.1))) = 0) → ∀ p ∈ l, p.2 = 0 := by
  intro l
  induction hn : l.length generalizing l with
  | zero => intro as _ _ _ _ _ p hp; rw [List.eq_nil_of_length_eq_zero hn] at hp; cases hp
  | succ n ih =>
    intro as hlen hnd hnl hne h
    match l, hn, as, hlen with
    | (b, x) :: l', hn, a :: as', hlen =>
      simp only [List.length_cons] at hn hlen
      rw [List.nodup_cons] at hnd
      rw [List.map_cons, List.nodup_cons] at hnl
      have ha := hne a (List.mem_cons_self ..)
      have Ta := row_step ha (h a (List.mem_cons_self ..))
      have hrest : ∀ q ∈ l'.map (fun p : UInt8 × UInt8 => (p.1, gmul (gmul p.2 (gadd p.1 b)) (ginv (gadd a p.1)))), q.2 = 0 := by
        refine ih _ (by rw [List.length_map]; omega) as' (by omega) hnd.2 (by rw [List.map_map]; exact hnl.2) (fun i hi q hq => ?_) (fun i hi => ?_)
        · obtain ⟨p, hp, rfl⟩ := List.mem_map.1 hq
          exact hne i (List.mem_cons_of_mem _ hi) p (List.mem_cons_of_mem _ hp)
        · have hii := hne i (List.mem_cons_of_mem _ hi)
          have Ti := row_step hii (h i (List.mem_cons_of_mem _ hi))
          rw [← Ta] at Ti
          have hz : gmul (gadd i a) (lsum (l'.map (fun p : UInt8 × UInt8 => (p.1, gmul (gmul p.2 (gadd p.1 b)) (ginv (gadd a p.1))))) (fun p => gmul p.2 (ginv (gadd i p.1)))) = 0 := by
            rw [lsum_map, mul_lsum]
            have e : gadd (lsum l' (fun p => gmul (gmul p.2 (gadd p.1 b)) (ginv (gadd i p.1)))) (lsum l' (fun p => gmul (gmul p.2 (gadd p.1 b)) (ginv (gadd a p.1)))) = 0 := by rw [Ti, add_self]
            rw [← lsum_add] at e
            rw [← e]
            refine lsum_congr fun p hp => ?_
            have h1 := add_ne (hii p (List.mem_cons_of_mem _ hp))
            have h2 := add_ne (ha p (List.mem_cons_of_mem _ hp))
            rw [← mul_add, inv_add h1 h2]
            have e3 : gadd (gadd i p.1) (gadd a p.1) = gadd i a := by rw [add_comm a, add_cancel]
            rw [e3]
            generalize gmul p.2 (gadd p.1 b) = y
            rw [mul_assoc y, mul_comm (ginv (gadd a p.1)), ← mul_assoc (gadd i a), mul_comm (gadd i a) y, mul_assoc y]
          have hia : i ≠ a := fun e => hnd.1 (e ▸ hi)
          exact (mul_eq_zero hz).resolve_left (add_ne hia)
      have hl : ∀ p ∈ l', p.2 = 0 := by
        intro p hp
        have := hrest _ (List.mem_map.2 ⟨p, hp, rfl⟩)
        have h2 := add_ne (ha p (List.mem_cons_of_mem _ hp))
        have hb : p.1 ≠ b := fun e => hnl.1 (e ▸ List.mem_map.2 ⟨p, hp, rfl⟩)
        have h3 := (mul_eq_zero this).resolve_right (inv_ne h2)
        exact (mul_eq_zero h3).resolve_right (add_ne hb)
      have hx : x = 0 := by
        have h0 := h a (List.mem_cons_self ..)
        have e : lsum l' (fun p => gmul p.2 (ginv (gadd a p.1))) = 0 := lsum_zero fun p hp => by rw [hl p hp, zero_mul]
        have h0 : gadd (gmul x (ginv (gadd a b))) (lsum l' (fun p => gmul p.2 (ginv (gadd a p.1)))) = 0 := h0
        rw [e, add_zero] at h0
        exact (mul_eq_zero h0).resolve_right (inv_ne (add_ne (ha (b, x) (List.mem_cons_self ..))))
      intro p hp
      rcases List.mem_cons.1 hp with rfl | hp
      · exact hx
      · exact hl p hp
end Go.Proofs.Ythhcdfjijagalaa.Mat
namespace Go.Proofs.Ythhcdfjijagalaa.Mat
set_option linter.unusedVariables false
def wrongC (d s : Int) : Int := if d < 1 ∨ 8 < d ∨ s < 0 ∨ 4 < s then 5 else 0
theorem wrongC_ok {d s : Int} (h : wrongC d s = 0) : 1 ≤ d ∧ d ≤ 8 ∧ 0 ≤ s ∧ s ≤ 4 := by
  unfold wrongC at h
  split at h
  · cases h
  · omega
theorem wrongC_of {d s : Int} (h : 1 ≤ d ∧ d ≤ 8 ∧ 0 ≤ s ∧ s ≤ 4) : wrongC d s = 0 := by
  unfold wrongC; rw [if_neg (by omega)]
/-- what shard i is of data -/
def rowM (d : Nat) : M := fun i j => if i < d then one i j else ginv (gadd (UInt8.ofNat i) (UInt8.ofNat j))
/-- the spare shards of a -/
def spareM (d : Nat) (a : M) : M := mul d (fun i j => rowM d (d + i) j) a
def SpareR (l : List (List UInt8)) (s : Int) (L : List (List UInt8)) (e : Int) : Prop :=
  if wrongC l.length s ≠ 0 then L = [] ∧ e = wrongC l.length s else if wrongM l ≠ 0 then L = [] ∧ e = wrongM l else Rep L s.toNat (wid l 0) (spareM l.length (ent l)) ∧ e = 0
theorem SpareR.uniq {l : List (List UInt8)} {s : Int} {L K : List (List UInt8)} {e g : Int} (h : SpareR l s L e) (k : SpareR l s K g) : L = K ∧ e = g := by
  unfold SpareR at h k
  split at h
  · rw [if_pos (by assumption)] at k; exact ⟨h.1.trans k.1.symm, h.2.trans k.2.symm⟩
  · rw [if_neg (by assumption)] at k
    split at h
    · rw [if_pos (by assumption)] at k; exact ⟨h.1.trans k.1.symm, h.2.trans k.2.symm⟩
    · rw [if_neg (by assumption)] at k; exact ⟨h.1.uniq k.1 (fun _ _ _ _ => rfl), h.2.trans k.2.symm⟩
theorem SpareR.ok {l : List (List UInt8)} {d m s : Nat} {L : List (List UInt8)} {e : Int} (hl : Fine l d m) (h2 : d ≤ 8) (h3 : s ≤ 4) (h : SpareR l (s : Int) L e) : Rep L s m (spareM d (ent l)) ∧ e = 0 := by
  unfold SpareR at h
  rw [hl.rows] at h
  have := hl.n1
  rw [if_neg (fun hh => hh (wrongC_of (by omega))), if_neg (fun hh => hh hl.wrong), hl.wid0, Int.toNat_natCast] at h
  exact h
/-! ### any as many rows as data -/
theorem length_sub {l : List Nat} : ∀ {m : List Nat}, l.Nodup → (∀ x ∈ l, x ∈ m) → l.length ≤ m.length := by
  induction l with
  | nil => intro m _ _; exact Nat.zero_le _
  | cons a l ih =>
    intro m hn hs
    rw [List.nodup_cons] at hn
    have ha := hs a (List.mem_cons_self ..)
    have h1 := ih (m := m.erase a) hn.2 fun x hx => (List.mem_erase_of_ne (show x ≠ a from fun e => hn.1 (by rw [← e]; exact hx))).2 (hs x (List.mem_cons_of_mem _ hx))
    rw [List.length_erase_of_mem ha] at h1
    have h2 : 0 < m.length := List.length_pos_of_mem ha
    simp only [List.length_cons]
    omega
theorem filter_both {α : Type} (l : List α) (p : α → Bool) : (l.filter p).length + (l.filter fun x => !p x).length = l.length := by
  induction l with
  | nil => rfl
  | cons a l ih =>
    by_cases h : p a = true
    · simp [h]; omega
    · simp [h]; omega
theorem lsum_append {α : Type} (l m : List α) (f : α → UInt8) : lsum (l ++ m) f = gadd (lsum l f) (lsum m f) := by
  induction l with
  | nil => exact (zero_add _).symm
  | cons x l ih => show gadd _ (lsum (l ++ m) f) = gadd (gadd _ _) _; rw [ih, add_assoc]
theorem sum_lsum (n : Nat) (f : Nat → UInt8) : sum n f = lsum (List.range n) f := by
  induction n with
  | zero => rfl
  | succ n ih =>
    rw [List.range_succ, lsum_append, sum_succ, ih]
    show _ = gadd _ (gadd (f n) 0)
    rw [add_zero]
theorem lsum_filter {α : Type} (l : List α) (p : α → Bool) (f : α → UInt8) (h : ∀ x ∈ l, p x = false → f x = 0) : lsum (l.filter p) f = lsum l f := by
  induction l with
  | nil => rfl
  | cons x l ih =>
    have ih := ih fun y hy => h y (List.mem_cons_of_mem _ hy)
    cases hx : p x with
    | true => rw [List.filter_cons_of_pos hx]; show gadd _ _ = gadd _ _; rw [ih]
    | false =>
      rw [List.filter_cons_of_neg (by simp [hx]), ih]
      show _ = gadd (f x) _
      rw [h x (List.mem_cons_self ..) hx, zero_add]
theorem ofNat_inj {a b : Nat} (ha : a < 256) (hb : b < 256) (h : UInt8.ofNat a = UInt8.ofNat b) : a = b := by
  have := congrArg UInt8.toNat h
  rwa [UInt8.toNat_ofNat', UInt8.toNat_ofNat', Nat.mod_eq_of_lt ha, Nat.mod_eq_of_lt hb] at this
theorem nodup_map_ofNat {l : List Nat} (h : l.Nodup) (hl : ∀ x ∈ l, x < 256) : (l.map UInt8.ofNat).Nodup := by
  induction l with
  | nil => exact List.nodup_nil
  | cons a l ih =>
    rw [List.nodup_cons] at h
    rw [List.map_cons, List.nodup_cons]
    refine ⟨fun hm => ?_, ih h.2 fun x hx => hl x (List.mem_cons_of_mem _ hx)⟩
    obtain ⟨x, hx, e⟩ := List.mem_map.1 hm
    have := ofNat_inj (hl x (List.mem_cons_of_mem _ hx)) (hl a (List.mem_cons_self ..)) e
    exact h.1 (this ▸ hx)
/-- the rows that were picked -/
def picked (d : Nat) (U : List Nat) : M := fun i j => rowM d (U.getD i 0) j
theorem picked_inj {d : Nat} (U : List Nat) (hlen : U.length = d) (hnd : U.Nodup) (hlt : ∀ u ∈ U, u < 256) : Inj d (picked d U) := by
  intro x hx
  -- rows of data among them
  have row : ∀ u ∈ U, (sum d fun k => gmul (rowM d u k) (x k)) = 0 := fun u hu => by
    obtain ⟨i, hi, rfl⟩ := List.getElem_of_mem hu
    have := hx i (by omega)
    unfold app picked at this
    rw [show U.getD i 0 = U[i] by simp [List.getD, hi]] at this
    exact this
  have data : ∀ u ∈ U, u < d → x u = 0 := fun u hu hud => by
    have := row u hu
    rw [sum_one hud _ fun k hk hne => by unfold rowM one; rw [if_pos hud, if_neg (fun e => hne e.symm), zero_mul]] at this
    unfold rowM one at this
    rwa [if_pos hud, if_pos rfl, one_mul] at this
  -- data that are missing, rows of spare ones
  let T := (List.range d).filter fun j => !decide (j ∈ U)
  let H := U.filter fun u => !decide (u < d)
  have hT : ∀ j, j ∈ T ↔ j < d ∧ j ∉ U := fun j => by simp [T]
  have hH : ∀ u, u ∈ H ↔ u ∈ U ∧ d ≤ u := fun u => by simp [H]
  have hle : T.length ≤ H.length := by
    have h1 := filter_both U (fun u => decide (u < d))
    have h2 := filter_both (List.range d) (fun j => decide (j ∈ U))
    have h3 : (U.filter fun u => decide (u < d)).length ≤ ((List.range d).filter fun j => decide (j ∈ U)).length :=
      length_sub (hnd.filter _) fun y hy => by
        simp only [List.mem_filter, List.mem_range, decide_eq_true_eq] at hy ⊢
        exact ⟨hy.2, hy.1⟩
    have e1 : (U.filter fun x => !decide (x < d)).length = H.length := rfl
    have e2 : ((List.range d).filter fun x => !decide (x ∈ U)).length = T.length := rfl
    rw [e1] at h1
    rw [e2, List.length_range] at h2
    omega
  have key := cauchy (T.map fun j => (UInt8.ofNat j, x j)) ((H.take T.length).map UInt8.ofNat) (by simp; omega)
    (nodup_map_ofNat ((hnd.filter _).sublist (List.take_sublist _ _)) fun u hu => hlt u ((hH u).1 (List.mem_of_mem_take hu)).1)
    (by
      rw [List.map_map]
      have : ((fun p : UInt8 × UInt8 => p.1) ∘ fun j => (UInt8.ofNat j, x j)) = UInt8.ofNat := rfl
      rw [this]
      by_cases hd : d ≤ 256
      · exact nodup_map_ofNat (List.nodup_range.filter _) fun j hj => by have := ((hT j).1 hj).1; omega
      · -- more rows than numbers
        have := length_sub (l := U) (m := List.range 256) hnd fun u hu => List.mem_range.2 (hlt u hu)
        rw [List.length_range] at this
        omega)
    (fun a ha p hp e => by
      obtain ⟨u, hu, rfl⟩ := List.mem_map.1 ha
      obtain ⟨j, hj, rfl⟩ := List.mem_map.1 hp
      have h1 := (hH u).1 (List.mem_of_mem_take hu)
      have h2 := (hT j).1 hj
      have := ofNat_inj (hlt u h1.1) (by have := hlt u h1.1; omega) e
      omega)
    (fun a ha => by
      obtain ⟨u, hu, rfl⟩ := List.mem_map.1 ha
      have h1 := (hH u).1 (List.mem_of_mem_take hu)
      have h2 := row u h1.1
      rw [sum_lsum, ← lsum_filter (List.range d) (fun j => !decide (j ∈ U)) _ (fun k hk hkU => by
        have hkU : k ∈ U := by simpa using hkU
        rw [data k hkU (List.mem_range.1 hk), mul_zero])] at h2
      rw [lsum_map, ← h2]
      refine lsum_congr fun j hj => ?_
      have h3 := (hT j).1 hj
      unfold rowM
      rw [if_neg (by omega), mul_comm])
  intro i hi
  by_cases hiU : i ∈ U
  · exact data i hiU hi
  · exact key (UInt8.ofNat i, x i) (List.mem_map.2 ⟨i, (hT i).2 ⟨hi, hiU⟩, rfl⟩)
/-- What can be undone there is one that undoes. -/
theorem InvR.inj {A L : List (List UInt8)} {n : Nat} {e : Int} (hA : Fine A n n) (hi : Inj n (ent A)) (h : InvR A L e) : ∃ f, Rep L n n f ∧ Undo n (ent A) f ∧ e = 0 := by
  rcases h.ok hA with ⟨_, _, h⟩ | h
  · exact absurd hi h
  · exact h
/-! ### mending -/
/-- the shards that are there -/
def there (l : List (List UInt8)) : List Nat := (List.range l.length).filter fun i => decide (0 < (l.getD i []).length)
def BadForm (l : List (List UInt8)) : Prop := ∃ s ∈ l, 400 < s.length ∨ (0 < s.length ∧ s.length ≠ wid l ((there l).getD 0 0))
def mendM (l : List (List UInt8)) (d : Nat) (f : M) : M := mul d (rowM d) (mul d f (fun p k => ent l ((there l).getD p 0) k))
open Classical in
def MendR (l : List (List UInt8)) (d : Int) (L : List (List UInt8)) (e : Int) : Prop :=
  if wrongC d ((l.length : Int) - d) ≠ 0 then L = [] ∧ e = wrongC d ((l.length : Int) - d) else if ((there l).length : Int) < d then L = [] ∧ e = 10 else if BadForm l then L = [] ∧ e = 2
  else ∃ f, Undo d.toNat (picked d.toNat ((there l).take d.toNat)) f ∧ Rep L l.length (wid l ((there l).getD 0 0)) (mendM l d.toNat f) ∧ e = 0
theorem mul_congr {n : Nat} {a a' b b' : M} {i j : Nat} (h1 : ∀ k, k < n → a i k = a' i k) (h2 : ∀ k, k < n → b k j = b' k j) : mul n a b i j = mul n a' b' i j := sum_congr fun k hk => by rw [h1 k hk, h2 k hk]
theorem MendR.uniq {l : List (List UInt8)} {d : Int} {L K : List (List UInt8)} {e g : Int} (h : MendR l d L e) (k : MendR l d K g) : L = K ∧ e = g := by
  classical
  unfold MendR at h k
  split at h
  · rw [if_pos (by assumption)] at k; exact ⟨h.1.trans k.1.symm, h.2.trans k.2.symm⟩
  · rw [if_neg (by assumption)] at k
    split at h
    · rw [if_pos (by assumption)] at k; exact ⟨h.1.trans k.1.symm, h.2.trans k.2.symm⟩
    · rw [if_neg (by assumption)] at k
      split at h
      · rw [if_pos (by assumption)] at k; exact ⟨h.1.trans k.1.symm, h.2.trans k.2.symm⟩
      · rw [if_neg (by assumption)] at k
        obtain ⟨f, h1, h2, h3⟩ := h
        obtain ⟨f', k1, k2, k3⟩ := k
        exact ⟨h2.uniq k2 (fun i j hi hj => mul_congr (fun _ _ => rfl) fun p hp => mul_congr (fun q hq => h1.uniq k1 p q hp hq) fun _ _ => rfl), h3.trans k3.symm⟩
end Go.Proofs.Ythhcdfjijagalaa.Mat
namespace Go.Proofs.Ythhcdfjijagalaa.Mat
set_option linter.unusedVariables false
def isThere (l : List (List UInt8)) (i : Nat) : Bool := decide (0 < (l.getD i []).length)
/-- the first d of those of the first k shards that are there -/
def firsts (l : List (List UInt8)) (d k : Nat) : List Nat := ((List.range k).filter (isThere l)).take d
theorem firsts_zero (l : List (List UInt8)) (d : Nat) : firsts l d 0 = [] := by simp [firsts]
theorem firsts_all (l : List (List UInt8)) (d : Nat) : firsts l d l.length = (there l).take d := rfl
theorem firsts_no {l : List (List UInt8)} {d k : Nat} (h : isThere l k = false) : firsts l d (k + 1) = firsts l d k := by
  unfold firsts
  rw [List.range_succ, List.filter_append, List.filter_cons_of_neg (by simp [h]), List.filter_nil, List.append_nil]
theorem firsts_full {l : List (List UInt8)} {d k : Nat} (h : d ≤ (firsts l d k).length) : firsts l d (k + 1) = firsts l d k := by
  unfold firsts at h ⊢
  rw [List.length_take] at h
  rw [List.range_succ, List.filter_append, List.take_append, Nat.sub_eq_zero_of_le (by omega), List.take_zero, List.append_nil]
theorem firsts_yes {l : List (List UInt8)} {d k : Nat} (h : isThere l k = true) (hd : (firsts l d k).length < d) : firsts l d (k + 1) = firsts l d k ++ [k] := by
  unfold firsts at hd ⊢
  rw [List.length_take] at hd
  rw [List.range_succ, List.filter_append, List.filter_cons_of_pos h, List.filter_nil, List.take_append, List.take_of_length_le (l := [k]) (by simp; omega)]
theorem firsts_le (l : List (List UInt8)) (d k : Nat) : (firsts l d k).length ≤ d := by unfold firsts; rw [List.length_take]; omega
theorem there_lt {l : List (List UInt8)} {u : Nat} (h : u ∈ there l) : u < l.length ∧ isThere l u = true := by
  unfold there at h
  rw [List.mem_filter, List.mem_range] at h
  exact h
theorem there_nodup (l : List (List UInt8)) : (there l).Nodup := List.nodup_range.filter _
theorem firsts_get {l : List (List UInt8)} {d i : Nat} (h : i < d) (h2 : d ≤ (there l).length) : (firsts l d l.length).getD i 0 = (there l).getD i 0 := by
  rw [firsts_all]
  simp [List.getD, h]
theorem mend_none {l : List (List UInt8)} {d : Int} (h : wrongC d ((l.length : Int) - d) ≠ 0) : MendR l d [] (wrongC d ((l.length : Int) - d)) := by unfold MendR; rw [if_pos h]; exact ⟨rfl, rfl⟩
theorem mend_few {l : List (List UInt8)} {d : Int} (h : wrongC d ((l.length : Int) - d) = 0) (h2 : ((there l).length : Int) < d) : MendR l d [] 10 := by unfold MendR; rw [if_neg (fun e => e h), if_pos h2]; exact ⟨rfl, rfl⟩
theorem mend_form {l : List (List UInt8)} {d : Int} (h : wrongC d ((l.length : Int) - d) = 0) (h2 : d ≤ ((there l).length : Int)) (h3 : BadForm l) : MendR l d [] 2 := by
  unfold MendR; rw [if_neg (fun e => e h), if_neg (by omega), if_pos h3]; exact ⟨rfl, rfl⟩
theorem mend_ok {l : List (List UInt8)} {d : Nat} {n : Nat} {f : M} {L : List (List UInt8)} (h : wrongC (d : Int) ((l.length : Int) - d) = 0) (h2 : d ≤ (there l).length) (h3 : ¬ BadForm l) (hU : Undo d (picked d (firsts l d l.length)) f) (hn : wid l ((there l).getD 0 0) = n) (hR : Rep L l.length n (mendM l d f)) : MendR l (d : Int) L 0 := by
  unfold MendR; rw [if_neg (fun e => e h), if_neg (by omega), if_neg h3, Int.toNat_natCast]
  exact ⟨f, hU, by rw [hn]; exact hR, rfl⟩
/-- all shards that are there are of n bytes -/
theorem form_ok {l : List (List UInt8)} (h : ¬ BadForm l) {u : Nat} (hu : u ∈ there l) : (l.getD u []).length = wid l ((there l).getD 0 0) ∧ (l.getD u []).length ≤ 400 := by
  obtain ⟨h1, h2⟩ := there_lt hu
  have h2 : 0 < (l.getD u []).length := by simpa [isThere] using h2
  have hm : l.getD u [] ∈ l := by
    rw [show l.getD u [] = l[u] by simp [List.getD, h1]]
    exact List.getElem_mem _
  refine Classical.byContradiction fun hh => h ⟨_, hm, ?_⟩
  by_cases e : 400 < (l.getD u []).length
  · exact .inl e
  · exact .inr ⟨h2, fun e2 => hh ⟨e2, by omega⟩⟩
theorem ent_append {A B : List (List UInt8)} (i j : Nat) : ent (A ++ B) i j = if i < A.length then ent A i j else ent B (i - A.length) j := by
  unfold ent
  by_cases h : i < A.length
  · rw [if_pos h]; simp [List.getD, List.getElem?_append_left h]
  · rw [if_neg h]; simp [List.getD, List.getElem?_append_right (Nat.le_of_not_lt h)]
/-- data and the spare shards of them are what the rows tell -/
theorem all_rows {L K : List (List UInt8)} {d s n : Nat} {a : M} (hL : Rep L d n a) (hK : Rep K s n (spareM d a)) : Rep (L ++ K) (d + s) n (mul d (rowM d) a) := by
  refine ⟨by rw [List.length_append, hL.rows, hK.rows], fun r hr => ?_, fun i j hi hj => ?_⟩
  · rcases List.mem_append.1 hr with h | h
    · exact hL.cols r h
    · exact hK.cols r h
  · rw [ent_append, hL.rows]
    by_cases h : i < d
    · rw [if_pos h, hL.eq i j h hj, ← one_mul_left d a h j]
      exact mul_congr (fun k _ => by unfold rowM; rw [if_pos h]) fun _ _ => rfl
    · rw [if_neg h, hK.eq (i - d) j (by omega) hj]
      unfold spareM
      refine sum_congr fun k _ => ?_
      show gmul (rowM d (d + (i - d)) k) (a k j) = _
      rw [show d + (i - d) = i by omega]
end Go.Proofs.Ythhcdfjijagalaa.Mat
