/- Plain law of spare shards' rows: numbers that are what times a sum of two is 1 make squares that can be undone. No program in sight. -/
import Derived.Test.YtoedbglbcbgdfaaMat
namespace Go.Proofs.Ytoedbglbcbgdfaa.Mat
set_option linter.unusedVariables false
def lsum {α : Type} : List α → (α → UInt8) → UInt8
  | [], _ => 0
  | x :: l, f => gadd (f x) (lsum l f)
theorem lsum_congr {α : Type} {l : List α} {f g : α → UInt8} (h : ∀ x ∈ l, f x = g x) : lsum l f = lsum l g := by
  induction l with
  | nil => rfl
  | cons x l ih => show gadd _ _ = gadd _ _; rw [h x (List.mem_cons_self ..), ih fun y hy => h y (List.mem_cons_of_mem _ hy)]
theorem lsum_add {α : Type} (l : List α) (f g : α → UInt8) : lsum l (fun x => gadd (f x) (g x)) = gadd (lsum l f) (lsum l g) := by
  induction l with
  | nil => exact (add_self 0).symm
  | cons x l ih => show gadd _ (lsum l _) = gadd (gadd _ _) (gadd _ _); rw [ih, add4]
theorem mul_lsum {α : Type} (l : List α) (a : UInt8) (f : α → UInt8) : gmul a (lsum l f) = lsum l fun x => gmul a (f x) := by
  induction l with
  | nil => exact mul_zero a
  | cons x l ih => show gmul a (gadd _ _) = gadd _ _; rw [mul_add, ih]
theorem lsum_map {α β : Type} (l : List α) (m : α → β) (f : β → UInt8) : lsum (l.map m) f = lsum l fun x => f (m x) := by
  induction l with
  | nil => rfl
  | cons x l ih => show gadd _ _ = gadd _ _; rw [ih]
theorem lsum_zero {α : Type} {l : List α} {f : α → UInt8} (h : ∀ x ∈ l, f x = 0) : lsum l f = 0 := by
  rw [lsum_congr (g := fun _ => 0) h]
  induction l with
  | nil => rfl
  | cons x l ih => show gadd 0 _ = 0; rw [zero_add]; exact ih fun y hy => h y (List.mem_cons_of_mem _ hy)
theorem add_ne {a b : UInt8} (h : a ≠ b) : gadd a b ≠ 0 := fun e => h (add_eq_zero e)
theorem add_cancel (a b c : UInt8) : gadd (gadd a b) (gadd b c) = gadd a c := by
  rw [add_assoc, ← add_assoc b, add_self, zero_add]
theorem mul4 (a b c d : UInt8) : gmul (gmul a b) (gmul c d) = gmul (gmul a c) (gmul b d) := by
  rw [mul_assoc, mul_assoc, ← mul_assoc b, ← mul_assoc c, mul_comm b c]
/-- 1/u + 1/v = (u + v) / (u v) -/
theorem inv_add {u v : UInt8} (hu : u ≠ 0) (hv : v ≠ 0) : gadd (ginv u) (ginv v) = gmul (gadd u v) (gmul (ginv u) (ginv v)) := by
  rw [add_mul, ← mul_assoc u, mul_inv hu, one_mul, mul_comm (ginv u) (ginv v), ← mul_assoc v, mul_inv hv, one_mul, add_comm]
/-- (i + b) / (i + p) = 1 + (p + b) / (i + p) -/
theorem frac {i b p : UInt8} (h : i ≠ p) : gmul (gadd i b) (ginv (gadd i p)) = gadd 1 (gmul (gadd p b) (ginv (gadd i p))) := by
  rw [← add_cancel i p b, add_mul, mul_inv (add_ne h)]
theorem row_step {i b : UInt8} {x : UInt8} {l : List (UInt8 × UInt8)} (hi : ∀ p ∈ (b, x) :: l, i ≠ p.1) (h : lsum ((b, x) :: l) (fun p => gmul p.2 (ginv (gadd i p.1))) = 0) :
    lsum l (fun p => gmul (gmul p.2 (gadd p.1 b)) (ginv (gadd i p.1))) = lsum ((b, x) :: l) (fun p => p.2) := by
  have e : gmul (gadd i b) (lsum ((b, x) :: l) (fun p => gmul p.2 (ginv (gadd i p.1)))) = gadd (lsum ((b, x) :: l) (fun p => p.2)) (lsum ((b, x) :: l) (fun p => gmul (gmul p.2 (gadd p.1 b)) (ginv (gadd i p.1)))) := by
    rw [mul_lsum, ← lsum_add]
    refine lsum_congr fun p hp => ?_
    rw [← mul_assoc, mul_comm (gadd i b), mul_assoc, frac (hi p hp), mul_add, mul_one, ← mul_assoc]
  rw [h, mul_zero] at e
  have e2 := add_eq_zero e.symm
  rw [e2]
  show _ = gadd (gmul (gmul x (gadd b b)) _) _
  rw [add_self, mul_zero, zero_mul, zero_add]
/-- THE LAW. -/
theorem cauchy : ∀ (l : List (UInt8 × UInt8)) (as : List UInt8), as.length = l.length → as.Nodup → (l.map (·.1)).Nodup → (∀ a ∈ as, ∀ p ∈ l, a ≠ p.1) →
    (∀ a ∈ as, lsum l (fun p => gmul p.2 (ginv (gadd a p.1))) = 0) → ∀ p ∈ l, p.2 = 0 := by
  intro l
  induction hn : l.length generalizing l with
  | zero => intro as _ _ _ _ _ p hp; rw [List.eq_nil_of_length_eq_zero hn] at hp; cases hp
  | succ n ih =>
    intro as hlen hnd hnl hne h
    match l, hn, as, hlen with
    | (b, x) :: l', hn, a :: as', hlen =>
      simp only [List.length_cons] at hn hlen
      rw [List.nodup_cons] at hnd
      rw [List.map_cons, List.nodup_cons] at hnl
      have ha := hne a (List.mem_cons_self ..)
      have Ta := row_step ha (h a (List.mem_cons_self ..))
      have hrest : ∀ q ∈ l'.map (fun p : UInt8 × UInt8 => (p.1, gmul (gmul p.2 (gadd p.1 b)) (ginv (gadd a p.1)))), q.2 = 0 := by
        refine ih _ (by rw [List.length_map]; omega) as' (by omega) hnd.2 (by rw [List.map_map]; exact hnl.2) (fun i hi q hq => ?_) (fun i hi => ?_)
        · obtain ⟨p, hp, rfl⟩ := List.mem_map.1 hq
          exact hne i (List.mem_cons_of_mem _ hi) p (List.mem_cons_of_mem _ hp)
        · have hii := hne i (List.mem_cons_of_mem _ hi)
          have Ti := row_step hii (h i (List.mem_cons_of_mem _ hi))
          rw [← Ta] at Ti
          have hz : gmul (gadd i a) (lsum (l'.map (fun p : UInt8 × UInt8 => (p.1, gmul (gmul p.2 (gadd p.1 b)) (ginv (gadd a p.1))))) (fun p => gmul p.2 (ginv (gadd i p.1)))) = 0 := by
            rw [lsum_map, mul_lsum]
            have e : gadd (lsum l' (fun p => gmul (gmul p.2 (gadd p.1 b)) (ginv (gadd i p.1)))) (lsum l' (fun p => gmul (gmul p.2 (gadd p.1 b)) (ginv (gadd a p.1)))) = 0 := by rw [Ti, add_self]
            rw [← lsum_add] at e
            rw [← e]
            refine lsum_congr fun p hp => ?_
            have h1 := add_ne (hii p (List.mem_cons_of_mem _ hp))
            have h2 := add_ne (ha p (List.mem_cons_of_mem _ hp))
            rw [← mul_add, inv_add h1 h2]
            have e3 : gadd (gadd i p.1) (gadd a p.1) = gadd i a := by rw [add_comm a, add_cancel]
            rw [e3]
            generalize gmul p.2 (gadd p.1 b) = y
            rw [mul_assoc y, mul_comm (ginv (gadd a p.1)), ← mul_assoc (gadd i a), mul_comm (gadd i a) y, mul_assoc y]
          have hia : i ≠ a := fun e => hnd.1 (e ▸ hi)
          exact (mul_eq_zero hz).resolve_left (add_ne hia)
      have hl : ∀ p ∈ l', p.2 = 0 := by
        intro p hp
        have := hrest _ (List.mem_map.2 ⟨p, hp, rfl⟩)
        have h2 := add_ne (ha p (List.mem_cons_of_mem _ hp))
        have hb : p.1 ≠ b := fun e => hnl.1 (e ▸ List.mem_map.2 ⟨p, hp, rfl⟩)
        have h3 := (mul_eq_zero this).resolve_right (inv_ne h2)
        exact (mul_eq_zero h3).resolve_right (add_ne hb)
      have hx : x = 0 := by
        have h0 := h a (List.mem_cons_self ..)
        have e : lsum l' (fun p => gmul p.2 (ginv (gadd a p.1))) = 0 := lsum_zero fun p hp => by rw [hl p hp, zero_mul]
        have h0 : gadd (gmul x (ginv (gadd a b))) (lsum l' (fun p => gmul p.2 (ginv (gadd a p.1)))) = 0 := h0
        rw [e, add_zero] at h0
        exact (mul_eq_zero h0).resolve_right (inv_ne (add_ne (ha (b, x) (List.mem_cons_self ..))))
      intro p hp
      rcases List.mem_cons.1 hp with rfl | hp
      · exact hx
      · exact hl p hp
end Go.Proofs.Ytoedbglbcbgdfaa.Mat
