/- How memory reads: slices of accounts; a view, an account as values. -/
import Derived.Test.YtjdgfijpmljhiaaVw
import Derived.Test.YtjdgfijpmljhiaaEvMem
namespace Go.Proofs.Ytjdgfijpmljhiaa
open Go.RowKit
set_option linter.unusedVariables false
def acVal (a : Vw.Acc) : Value := .agg #[.string a.s, .int .i64 a.sum, .int .i64 a.cnt, .bool a.opn]
def ac4 (a : Vw.Acc) : List Value := [.string a.s, .int .i64 a.sum, .int .i64 a.cnt, .bool a.opn]
def acCells (l : List Vw.Acc) : List Value := l.flatMap ac4
theorem acCells_length (l : List Vw.Acc) : (acCells l).length = l.length * 4 := by
  induction l with
  | nil => rfl
  | cons e l ih => unfold acCells at *; rw [List.flatMap_cons, List.length_append, ih]; simp [ac4]; omega
theorem acCells_append (l m : List Vw.Acc) : acCells (l ++ m) = acCells l ++ acCells m := by unfold acCells; simp
theorem acCells_one (l : List Vw.Acc) : ∀ u ∈ acCells l, u.oneCell' = true := by
  intro u hu
  unfold acCells at hu
  obtain ⟨a, _, h⟩ := List.mem_flatMap.1 hu
  simp only [ac4, List.mem_cons, List.not_mem_nil, or_false] at h
  rcases h with rfl | rfl | rfl | rfl <;> rfl
theorem acCells_get (l : List Vw.Acc) : ∀ (i : Nat) (h : i < l.length), (acCells l)[i * 4]? = some (.string l[i].s) ∧ (acCells l)[i * 4 + 1]? = some (.int .i64 l[i].sum) ∧ (acCells l)[i * 4 + 2]? = some (.int .i64 l[i].cnt) ∧ (acCells l)[i * 4 + 3]? = some (.bool l[i].opn) := by
  induction l with
  | nil => intro i h; exact absurd h (by simp)
  | cons e l ih =>
    intro i h
    have e0 : acCells (e :: l) = ac4 e ++ acCells l := rfl
    rw [e0]
    match i with
    | 0 => exact ⟨rfl, rfl, rfl, rfl⟩
    | i + 1 =>
      have := ih i (by simpa using h)
      have g : ∀ j, (ac4 e ++ acCells l)[(i + 1) * 4 + j]? = (acCells l)[i * 4 + j]? := by
        intro j
        rw [List.getElem?_append_right (by simp [ac4]; omega)]
        congr 1
        simp [ac4]; omega
      exact ⟨(g 0).trans this.1, (g 1).trans this.2.1, (g 2).trans this.2.2.1, (g 3).trans this.2.2.2⟩
/-- The slice (a, n, cap) reads as these accounts. -/
structure As (w : World) (a : Option Addr) (n cap : Nat) (l : List Vw.Acc) : Prop where
  sl : Sl w 4 a n cap (acCells l)
  ok : ∀ e ∈ l, e.s.size ≤ maxLen
section
variable {w w' : World} {a : Option Addr} {n cap : Nat} {l : List Vw.Acc}
theorem As.cnt (h : As w a n cap l) : l.length = n := by
  have := h.sl.len; rw [acCells_length] at this; omega
theorem As.below (h : As w a n cap l) (hb : Below w.heap.size w w') : As w' a n cap l := ⟨h.sl.below hb, h.ok⟩
theorem As.alloc (h : As w a n cap l) (o : Obj) : As (w.alloc o) a n cap l := ⟨h.sl.alloc o, h.ok⟩
theorem As.nil (w : World) : As w none 0 0 [] := ⟨Sl.none w 4, fun r hr => by cases hr⟩
theorem As.at {b off : Nat} (h : As w (some ⟨b, off, none⟩) n cap l) (i : Nat) (hi : i < l.length) :
    w.cell? ⟨b, off + i * 4, none⟩ = some (.string l[i].s) ∧ w.cell? ⟨b, off + i * 4 + 1, none⟩ = some (.int .i64 l[i].sum) ∧ w.cell? ⟨b, off + i * 4 + 2, none⟩ = some (.int .i64 l[i].cnt) ∧ w.cell? ⟨b, off + i * 4 + 3, none⟩ = some (.bool l[i].opn) := by
  have hn := h.cnt
  have hg := acCells_get l i hi
  exact ⟨h.sl.cell (by omega) hg.1, h.sl.cell (by omega) hg.2.1, h.sl.cell (by omega) hg.2.2.1, h.sl.cell (by omega) hg.2.2.2⟩
end
end Go.Proofs.Ytjdgfijpmljhiaa
