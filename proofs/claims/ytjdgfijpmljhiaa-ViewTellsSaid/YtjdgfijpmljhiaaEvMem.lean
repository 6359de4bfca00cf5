/- How memory reads: slices of events, slices of batches. -/
import Derived.Test.YtjdgfijpmljhiaaEvt
import Derived.Test.YtjdgfijpmljhiaaKit2
namespace Go.Proofs.Ytjdgfijpmljhiaa
open Go.RowKit
set_option linter.unusedVariables false
/-- an event, as a value -/
def evVal (e : Evt.Ev) : Value := .agg #[.string e.s, .int .i64 e.k, .int .i64 e.n]
def ev3 (e : Evt.Ev) : List Value := [.string e.s, .int .i64 e.k, .int .i64 e.n]
def evCells (l : List Evt.Ev) : List Value := l.flatMap ev3
theorem evCells_length (l : List Evt.Ev) : (evCells l).length = l.length * 3 := by
  induction l with
  | nil => rfl
  | cons e l ih => unfold evCells at *; rw [List.flatMap_cons, List.length_append, ih]; simp [ev3]; omega
theorem evCells_append (l m : List Evt.Ev) : evCells (l ++ m) = evCells l ++ evCells m := by unfold evCells; simp
theorem evCells_get (l : List Evt.Ev) : ∀ (i : Nat) (h : i < l.length), (evCells l)[i * 3]? = some (.string l[i].s) ∧ (evCells l)[i * 3 + 1]? = some (.int .i64 l[i].k) ∧ (evCells l)[i * 3 + 2]? = some (.int .i64 l[i].n) := by
  induction l with
  | nil => intro i h; exact absurd h (by simp)
  | cons e l ih =>
    intro i h
    have e0 : evCells (e :: l) = ev3 e ++ evCells l := rfl
    rw [e0]
    match i with
    | 0 => exact ⟨rfl, rfl, rfl⟩
    | i + 1 =>
      have := ih i (by simpa using h)
      have g : ∀ j, (ev3 e ++ evCells l)[(i + 1) * 3 + j]? = (evCells l)[i * 3 + j]? := by
        intro j
        rw [List.getElem?_append_right (by simp [ev3]; omega)]
        congr 1
        simp [ev3]; omega
      exact ⟨(g 0).trans this.1, (g 1).trans this.2.1, (g 2).trans this.2.2⟩
/-- The slice (a, n, cap) reads as these events. -/
structure Es (w : World) (a : Option Addr) (n cap : Nat) (l : List Evt.Ev) : Prop where
  sl : Sl w 3 a n cap (evCells l)
  ok : ∀ e ∈ l, e.s.size ≤ maxLen
theorem Es.n {w : World} {a : Option Addr} {n cap : Nat} {l : List Evt.Ev} (h : Es w a n cap l) : l.length = n := by
  have := h.sl.len; rw [evCells_length] at this; omega
theorem Es.below {w w' : World} {a : Option Addr} {n cap : Nat} {l : List Evt.Ev} (h : Es w a n cap l) (hb : Below w.heap.size w w') : Es w' a n cap l := ⟨h.sl.below hb, h.ok⟩
theorem Es.alloc {w : World} {a : Option Addr} {n cap : Nat} {l : List Evt.Ev} (h : Es w a n cap l) (o : Obj) : Es (w.alloc o) a n cap l := ⟨h.sl.alloc o, h.ok⟩
theorem Es.at {w : World} {b off n cap : Nat} {l : List Evt.Ev} (h : Es w (some ⟨b, off, none⟩) n cap l) (i : Nat) (hi : i < l.length) :
    w.cell? ⟨b, off + i * 3, none⟩ = some (.string l[i].s) ∧ w.cell? ⟨b, off + i * 3 + 1, none⟩ = some (.int .i64 l[i].k) ∧ w.cell? ⟨b, off + i * 3 + 2, none⟩ = some (.int .i64 l[i].n) := by
  have hn := h.n
  have hg := evCells_get l i hi
  exact ⟨h.sl.cell (by omega) hg.1, h.sl.cell (by omega) hg.2.1, h.sl.cell (by omega) hg.2.2⟩
/-- a batch as memory has it -/
structure Rb where
  c : Int
  a : Option Addr
  n : Nat
  cap : Nat
  evs : List Evt.Ev
def Rb.ba (r : Rb) : Evt.Ba := ⟨r.c, r.evs⟩
def rb2 (r : Rb) : List Value := [.int .i64 r.c, .slice r.a r.n r.cap]
def rbCells (l : List Rb) : List Value := l.flatMap rb2
theorem rbCells_length (l : List Rb) : (rbCells l).length = l.length * 2 := by
  induction l with
  | nil => rfl
  | cons e l ih => unfold rbCells at *; rw [List.flatMap_cons, List.length_append, ih]; simp [rb2]; omega
theorem rbCells_append (l m : List Rb) : rbCells (l ++ m) = rbCells l ++ rbCells m := by unfold rbCells; simp
theorem rbCells_get (l : List Rb) : ∀ (i : Nat) (h : i < l.length), (rbCells l)[i * 2]? = some (.int .i64 l[i].c) ∧ (rbCells l)[i * 2 + 1]? = some (.slice l[i].a l[i].n l[i].cap) := by
  induction l with
  | nil => intro i h; exact absurd h (by simp)
  | cons e l ih =>
    intro i h
    have e0 : rbCells (e :: l) = rb2 e ++ rbCells l := rfl
    rw [e0]
    match i with
    | 0 => exact ⟨rfl, rfl⟩
    | i + 1 =>
      have := ih i (by simpa using h)
      have g : ∀ j, (rb2 e ++ rbCells l)[(i + 1) * 2 + j]? = (rbCells l)[i * 2 + j]? := by
        intro j
        rw [List.getElem?_append_right (by simp [rb2]; omega)]
        congr 1
        simp [rb2]; omega
      exact ⟨(g 0).trans this.1, (g 1).trans this.2⟩
/-- The slice (a, n, cap) reads as these batches. -/
structure Bs (w : World) (a : Option Addr) (n cap : Nat) (l : List Rb) : Prop where
  sl : Sl w 2 a n cap (rbCells l)
  ev : ∀ r ∈ l, Es w r.a r.n r.cap r.evs
theorem Bs.n {w : World} {a : Option Addr} {n cap : Nat} {l : List Rb} (h : Bs w a n cap l) : l.length = n := by
  have := h.sl.len; rw [rbCells_length] at this; omega
theorem Bs.below {w w' : World} {a : Option Addr} {n cap : Nat} {l : List Rb} (h : Bs w a n cap l) (hb : Below w.heap.size w w') : Bs w' a n cap l := ⟨h.sl.below hb, fun r hr => (h.ev r hr).below hb⟩
theorem Bs.alloc {w : World} {a : Option Addr} {n cap : Nat} {l : List Rb} (h : Bs w a n cap l) (o : Obj) : Bs (w.alloc o) a n cap l := ⟨h.sl.alloc o, fun r hr => (h.ev r hr).alloc o⟩
theorem Bs.at {w : World} {b off n cap : Nat} {l : List Rb} (h : Bs w (some ⟨b, off, none⟩) n cap l) (i : Nat) (hi : i < l.length) :
    w.cell? ⟨b, off + i * 2, none⟩ = some (.int .i64 l[i].c) ∧ w.cell? ⟨b, off + i * 2 + 1, none⟩ = some (.slice l[i].a l[i].n l[i].cap) ∧ Es w l[i].a l[i].n l[i].cap l[i].evs := by
  have hn := h.n
  have hg := rbCells_get l i hi
  exact ⟨h.sl.cell (by omega) hg.1, h.sl.cell (by omega) hg.2, h.ev _ (List.getElem_mem _)⟩
end Go.Proofs.Ytjdgfijpmljhiaa
