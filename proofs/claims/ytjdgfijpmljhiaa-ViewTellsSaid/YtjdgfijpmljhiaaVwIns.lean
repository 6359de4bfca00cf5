/- Plain law: an account put in its place by one walk over all accounts, as the reference does it. -/
import Derived.Test.YtjdgfijpmljhiaaVwLaw
namespace Go.Proofs.Ytjdgfijpmljhiaa.Vw
set_option linter.unusedVariables false
/-- behind k accounts: is the new one there (done)? what is there (out)? -/
structure Ri (a : Acc) (l : List Acc) (k : Nat) (done : Bool) (out : List Acc) : Prop where
  no : done = false → (∀ j (hj : j < l.length), j < k → key l[j] < key a) ∧ out = l.take k
  yes : done = true → out ++ l.drop k = ins a l ∧ ∀ j (hj : j < l.length), k ≤ j → key a < key l[j]
theorem Ri.start (a : Acc) (l : List Acc) : Ri a l 0 false [] := ⟨fun _ => ⟨fun j _ h => absurd h (by omega), by simp⟩, fun h => by cases h⟩
theorem tri' (a b : Acc) (h : ¬ key b < key a) (hne : b.s ≠ a.s) : key a < key b := by
  by_cases h1 : key a < key b
  · exact h1
  · exact absurd (key_eq.1 (List.le_antisymm (List.not_lt.1 h1) (List.not_lt.1 h))) hne
theorem ins_len (a : Acc) (l : List Acc) : (ins a l).length ≤ l.length + 1 := by
  induction l with
  | nil => simp [ins]
  | cons x r ih =>
    have e : ins a (x :: r) = if key x < key a then x :: ins a r else if x.s = a.s then a :: r else a :: x :: r := rfl
    rw [e]
    split
    · simp; omega
    · split <;> simp
section
variable {a : Acc} {l : List Acc} {k : Nat} {out : List Acc}
theorem Ri.after (h : Ri a l k true out) (hk : k < l.length) : l[k].s ≠ a.s ∧ Ri a l (k + 1) true (out ++ [l[k]]) := by
  obtain ⟨h1, h2⟩ := h.yes rfl
  have h3 := h2 k hk (Nat.le_refl _)
  refine ⟨fun e => lt_irr _ (by rw [key_eq.2 e] at h3; exact h3), ⟨(fun e => by cases e), fun _ => ⟨?_, fun j hj hkj => h2 j hj (by omega)⟩⟩⟩
  rw [← h1, List.append_assoc, List.drop_eq_getElem_cons hk]; rfl
theorem Ri.below (h : Ri a l k false out) (hk : k < l.length) (hlt : key l[k] < key a) : l[k].s ≠ a.s ∧ Ri a l (k + 1) false (out ++ [l[k]]) := by
  obtain ⟨h1, h2⟩ := h.no rfl
  refine ⟨fun e => lt_irr _ (by rw [key_eq.2 e] at hlt; exact hlt), ⟨fun _ => ⟨fun j hj hjk => ?_, ?_⟩, (fun e => by cases e)⟩⟩
  · rcases Nat.lt_or_ge j k with h3 | h3
    · exact h1 j hj h3
    · obtain rfl : j = k := by omega
      exact hlt
  · rw [h2, List.take_succ_eq_append_getElem hk]
theorem Ri.same (h : Ri a l k false out) (hk : k < l.length) (hup : Up none l) (he : l[k].s = a.s) : Ri a l (k + 1) true (out ++ [a]) := by
  obtain ⟨h1, h2⟩ := h.no rfl
  refine ⟨(fun e => by cases e), fun _ => ⟨?_, fun j hj hkj => ?_⟩⟩
  · rw [ins_found a l k hk h1 (key_eq.2 he), h2, List.append_assoc, List.set_eq_take_append_cons_drop, if_pos hk]; rfl
  · rw [← key_eq.2 he]; exact hup.get k j hk hj (by omega)
theorem Ri.new (h : Ri a l k false out) (hk : k < l.length) (hup : Up none l) (hlt : ¬ key l[k] < key a) (hne : l[k].s ≠ a.s) : Ri a l (k + 1) true (out ++ [a] ++ [l[k]]) := by
  obtain ⟨h1, h2⟩ := h.no rfl
  have h3 := tri' a l[k] hlt hne
  refine ⟨(fun e => by cases e), fun _ => ⟨?_, fun j hj hkj => lt_tr h3 (hup.get k j hk hj (by omega))⟩⟩
  rw [ins_new a l k (by omega) h1 (fun _ => ⟨hlt, fun e => hne (key_eq.1 e)⟩), h2, List.drop_eq_getElem_cons hk]
  simp
theorem Ri.stop (h : Ri a l l.length true out) : out = ins a l := by
  have := (h.yes rfl).1
  rwa [List.drop_of_length_le (Nat.le_refl _), List.append_nil] at this
theorem Ri.last (h : Ri a l l.length false out) : out ++ [a] = ins a l := by
  obtain ⟨h1, h2⟩ := h.no rfl
  rw [ins_new a l l.length (Nat.le_refl _) h1 (fun hh => absurd hh (by omega)), h2]
  simp
theorem Ri.len {d : Bool} (h : Ri a l k d out) (hk : k ≤ l.length) : out.length ≤ l.length + 1 := by
  cases d with
  | false => rw [(h.no rfl).2, List.length_take]; omega
  | true =>
    have h1 := congrArg List.length (h.yes rfl).1
    have h2 := ins_len a l
    rw [List.length_append] at h1
    omega
end
end Go.Proofs.Ytjdgfijpmljhiaa.Vw
