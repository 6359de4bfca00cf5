/- Since a world nothing has turned but some blocks: how that is kept, and what it keeps. -/
import Derived.Test.YtjdgfijpmljhiaaKit3
namespace Go.Proofs.Ytjdgfijpmljhiaa
open Go.RowKit
set_option linter.unusedVariables false
theorem Sl.drew {w : World} {sz : Nat} {a : Option Addr} {n cap : Nat} {cs : List Value} (h : Sl w sz a n cap cs) : Sl w.drew sz a n cap cs := h.drewN 1
/-- Since w nothing has turned but the blocks in S and new ones. -/
structure Only (w w' : World) (S : List Nat) : Prop where
  os : w'.os = w.os
  tape : w'.tape = w.tape
  output : w'.output = w.output
  size : w.heap.size ≤ w'.heap.size
  block : ∀ k, k < w.heap.size → k ∉ S → w'.heap[k]? = w.heap[k]?
theorem Only.refl (w : World) (S : List Nat) : Only w w S := ⟨rfl, rfl, rfl, Nat.le_refl _, fun _ _ _ => rfl⟩
theorem Only.more {w0 w w' : World} {S : List Nat} {q : Option Nat} (h : Only w0 w S) (k : w.grownBy w' q) (hq : ∀ x, q = some x → x ∈ S ∨ w0.heap.size ≤ x) : Only w0 w' S :=
  ⟨k.os.trans h.os, k.tape.trans h.tape, k.output.trans h.output, Nat.le_trans h.size k.size, fun i hi hne => by
    refine (k.block i (Nat.lt_of_lt_of_le hi h.size) (fun e => ?_)).trans (h.block i hi hne)
    rcases hq i e.symm with h1 | h1
    · exact hne h1
    · omega⟩
theorem Only.alloc {w0 w : World} {S : List Nat} (h : Only w0 w S) (o : Obj) : Only w0 (w.alloc o) S := h.more (World.grownBy_alloc w o none) (fun x e => by cases e)
theorem Only.below {w0 w w' : World} {S : List Nat} (h : Only w0 w S) (hb : Below w.heap.size w w') : Only w0 w' S := h.more (grown_of_below hb none) (fun x e => by cases e)
theorem Only.drew {w0 w : World} {S : List Nat} (h : Only w0 w S) : Only w0 w.drew S := ⟨h.os, h.tape, h.output, h.size, h.block⟩
theorem Only.setCell {w0 w : World} {S : List Nat} (h : Only w0 w S) {a : Addr} (ha : a.block ∈ S ∨ w0.heap.size ≤ a.block) (v : Value) : Only w0 (w.setCell a v) S :=
  ⟨h.os, h.tape, h.output, by simpa using h.size, fun k hk hn => by
    rw [Below.heap_setCell _ _ _ _ (fun e => ?_)]
    · exact h.block k hk hn
    · rcases ha with h1 | h1
      · exact hn (e ▸ h1)
      · omega⟩
theorem Only.isBelow {w w' : World} {S : List Nat} {b : Nat} (h : Only w w' S) (hb : b ≤ w.heap.size) (hS : ∀ x ∈ S, b ≤ x) : Below b w w' :=
  ⟨h.os, h.tape, h.output, h.size, fun k hk => h.block k (by omega) (fun hm => by have := hS k hm; omega)⟩
theorem Only.own {w w' : World} {S : List Nat} {base : Nat} {e : TypeId} {sz : Nat} {o : Value} {n : Nat} {xs : List Value} (h : Only w w' S) (ho : w.ownsRow base e sz o n xs) (hS : ∀ x ∈ S, o.ownBlock ≠ some x) : w'.ownsRow base e sz o n xs := by
  refine ⟨ho.1, ?_⟩
  rcases ho.2 with h2 | ⟨g, cap, cur, rfl, hg, hh, r⟩
  · exact .inl h2
  · exact .inr ⟨g, cap, cur, rfl, hg, by rw [h.block g (Array.getElem?_eq_some_iff.1 hh).1 (fun hm => hS g hm rfl)]; exact hh, r⟩
theorem Only.blk {w w' : World} {S : List Nat} {b : Nat} {o : Obj} (h : Only w w' S) (hb : w.heap[b]? = some o) (hS : b ∉ S) : w'.heap[b]? = some o := by
  rw [h.block b (Array.getElem?_eq_some_iff.1 hb).1 hS]; exact hb
theorem Only.grown {w w' : World} {r : Nat} (h : Only w w' [r]) : w.grownBy w' (some r) := ⟨h.os, h.tape, h.output, h.size, fun k hk hne => h.block k hk (by simpa using fun e => hne (by rw [e]))⟩
theorem Only.trans' {a b c : World} {S : List Nat} (h : Only a b S) (k : Only b c S) : Only a c S :=
  ⟨k.os.trans h.os, k.tape.trans h.tape, k.output.trans h.output, Nat.le_trans h.size k.size, fun i hi hn => (k.block i (Nat.lt_of_lt_of_le hi h.size) hn).trans (h.block i hi hn)⟩
theorem heap_ne {w : World} {a b : Nat} {cs cs' : Array Value} {t t' : TypeId} {fr fr' : Nat × Nat} (ha : w.heap[a]? = some (.cells cs t fr)) (hb : w.heap[b]? = some (.cells cs' t' fr')) (hne : t ≠ t') : a ≠ b := by
  rintro rfl
  rw [ha] at hb
  injection hb with hb
  injection hb with _ ht
  exact hne ht
theorem Src.ofLit {P : Program} (W : World) (cs : Array Value) (t : TypeId) (m sz : Nat) {tx e' : TypeId} (hk : P.underlying tx = some (.slice e')) (hs : cs.size = m * sz) (h1 : ∀ u ∈ cs.toList, u.oneCell' = true) :
    Src P sz tx (.slice (some ⟨W.heap.size, 0, none⟩) m m) m cs.toList (W.alloc (.cells cs t)) :=
  Src.ofSlice _ hk _ m m cs.toList (by simpa using hs) (fun j u hj => by rw [add_off, Nat.zero_add, cell_new]; simpa using hj) h1
end Go.Proofs.Ytjdgfijpmljhiaa
