/- Contract of chapter 3: Mend, the program's. -/
import Derived.Test.YtjdgfijpmljhiaaCodeC
import Derived.Test.YtjdgfijpmljhiaaCodeD
import Derived.Test.YtjdgfijpmljhiaaPlB
namespace Go.Proofs.Ytjdgfijpmljhiaa
open Go.RowKit
set_option linter.unusedVariables false
set_option maxRecDepth 100000
def rw0 : Rw := ⟨none, 0, 0, []⟩
/-- Two own lists of rows, apart. -/
structure Tw (w W : World) (v1 : Value) (T : List Rw) (v2 : Value) (P : List Rw) : Prop where
  t : OT w W none w.heap.size 48 1 v1 T.length (rwCells T)
  p : OT w W none w.heap.size 48 1 v2 P.length (rwCells P)
  ne : ∀ x, v1.ownBlock = some x → v2.ownBlock ≠ some x
/-- A literal of one row, apart from both. -/
structure Lit1 (W : World) (v1 v2 : Value) (b : Nat) (u : Value) : Prop where
  cell : W.cell? ⟨b, 0, none⟩ = some u
  ne1 : v1.ownBlock ≠ some b
  ne2 : v2.ownBlock ≠ some b
section
variable {w W W' : World} {v1 v2 v' : Value} {T P : List Rw} {b : Nat} {u : Value}
theorem Tw.nil (w : World) : Tw w w (.slice none 0 0) [] (.slice none 0 0) [] := ⟨OT.fresh (World.ownsRow_nil _ _ _ _) (Below.refl _ _) (Nat.le_refl _), OT.fresh (World.ownsRow_nil _ _ _ _) (Below.refl _ _) (Nat.le_refl _), fun x e => by cases e⟩
theorem Tw.keep (h : Tw w W v1 T v2 P) (hb : Below W.heap.size W W') : Tw w W' v1 T v2 P := ⟨h.t.below hb, h.p.below hb, h.ne⟩
theorem Tw.alloc (h : Tw w W v1 T v2 P) (o : Obj) : Tw w (W.alloc o) v1 T v2 P := h.keep ((Below.refl _ _).alloc (Nat.le_refl _) o)
theorem Tw.drew (h : Tw w W v1 T v2 P) : Tw w W.drew v1 T v2 P := h.keep (below_drewN (Below.refl _ _) 1)
theorem Tw.below (h : Tw w W v1 T v2 P) : Below w.heap.size w W := h.t.belowOf (Nat.le_refl _) (fun k e => by cases e)
theorem Tw.size (h : Tw w W v1 T v2 P) : w.heap.size ≤ W.heap.size := h.t.grown.size
theorem Lit1.alloc (h : Lit1 W v1 v2 b u) (o : Obj) : Lit1 (W.alloc o) v1 v2 b u := ⟨(cell_old (World.block_lt_of_cell? _ _ h.cell)).trans h.cell, h.ne1, h.ne2⟩
theorem Lit1.drew (h : Lit1 W v1 v2 b u) : Lit1 W.drew v1 v2 b u := ⟨h.cell, h.ne1, h.ne2⟩
theorem Tw.lit (h : Tw w W v1 T v2 P) (u : Value) (hb : W.heap.size = b) : Lit1 (W.alloc (.cells #[u] 48)) v1 v2 b u := by
  subst hb
  refine ⟨cell_new W #[u] 48 0, fun e => ?_, fun e => ?_⟩
  · exact absurd (h.t.own.lt _ e).2 (Nat.lt_irrefl _)
  · exact absurd (h.p.own.lt _ e).2 (Nat.lt_irrefl _)
theorem Tw.litD (h : Tw w W v1 T v2 P) (u : Value) (hb : W.heap.size = b) : Lit1 (W.alloc (.cells #[u] 48)).drew v1 v2 b u := (h.lit u hb).drew
theorem OT.other {row : Option Nat} {base : Nat} {e : TypeId} {sz n : Nat} {o : Value} {xs : List Value} {q : Option Nat} {w0 : World} (h : OT w0 W row base e sz o n xs) (hg : W.grownBy W' q) (hq : ∀ x, q = some x → w0.heap.size ≤ x ∧ o.ownBlock ≠ some x) : OT w0 W' row base e sz o n xs := h.step hg (.inr hq)
/-- one more in the first -/
theorem Tw.push1 (h : Tw w W v1 T v2 P) {r : Rw} (ho : OT w W' none w.heap.size 48 1 v' (T.length + 1) (rwCells T ++ [r.v])) (hg : W.grownBy W' v1.ownBlock) (hl : v'.ownBlock = v1.ownBlock ∨ v'.ownBlock = some W.heap.size) : Tw w W' v' (T ++ [r]) v2 P := by
  refine ⟨by simpa [rwCells] using ho, h.p.other hg (fun x hx => ⟨(h.t.own.lt x hx).1, h.ne x hx⟩), fun x hx => ?_⟩
  rcases hl with hl | hl
  · rw [hl] at hx; exact h.ne x hx
  · rw [hl] at hx
    cases hx
    exact fun e => absurd (h.p.own.lt _ e).2 (Nat.lt_irrefl _)
theorem Tw.symm (h : Tw w W v1 T v2 P) : Tw w W v2 P v1 T := ⟨h.p, h.t, fun x hx e => h.ne x e hx⟩
theorem Lit1.symm (h : Lit1 W v1 v2 b u) : Lit1 W v2 v1 b u := ⟨h.cell, h.ne2, h.ne1⟩
theorem Lit1.push1 (h : Lit1 W v1 v2 b u) (hg : W.grownBy W' v1.ownBlock) (hl : v'.ownBlock = v1.ownBlock ∨ v'.ownBlock = some W.heap.size) : Lit1 W' v' v2 b u := by
  have hb := World.block_lt_of_cell? _ _ h.cell
  refine ⟨?_, ?_, h.ne2⟩
  · rw [World.cell?_of_block (w := W) (hg.block b hb (fun e => h.ne1 e.symm))]
    exact h.cell
  · rcases hl with hl | hl
    · rw [hl]; exact h.ne1
    · rw [hl]; intro e
      have e : W.heap.size = b := by simpa using e
      have hb : b < W.heap.size := hb
      omega
/-- a cell that was there is as it was -/
theorem Tw.old (h : Tw w W v1 T v2 P) (hg : W.grownBy W' v1.ownBlock) {p : Addr} {u : Value} (hp : W.cell? p = some u) (hw : p.block < w.heap.size) : W'.cell? p = some u := by
  rw [World.cell?_of_block (w := W) (hg.block p.block (World.block_lt_of_cell? _ _ hp) (fun e => ?_))]
  · exact hp
  · have := (h.t.own.lt _ e.symm).1
    omega
end
section
variable {ops : Array Oper} {o : Oper} {a : Act} {K : Act → World → Prop} {Q : Exit → Act → World → Prop} {E : Prop} {w W : World}
theorem step_append_tw (hgd : o.guard = none) (s xo : Operand) (tt : TypeId) (htt : Try.prog.underlying tt = some (.slice 48)) (ho : o.op = .call { callee := .builtin .append, args := #[s, xo], argTypes := #[tt, tt] })
    {v1 v2 : Value} {T P : List Rw} (h : Tw w W v1 T v2 P) (hs : a.eval s = v1) (r : Rw) (b : Nat) (hxe : a.eval xo = .slice (some ⟨b, 0, none⟩) 1 1) (hl : Lit1 W v1 v2 b r.v) (hlen : T.length ≤ 1000)
    (h' : ∀ v' W', Tw w W' v' (T ++ [r]) v2 P → W.grownBy W' v1.ownBlock → (v'.ownBlock = v1.ownBlock ∨ v'.ownBlock = some W.heap.size) → K (a.put o.dst v') W') : if Region.wanted o (yielded ops a.tmps) = true then Oper.wp Try.prog o a W K Q else E := by
  have hw : Region.wanted o (yielded ops a.tmps) = true := by simp [Region.wanted, hgd]
  rw [if_pos hw]
  obtain ⟨i, hi, hz, e1, e2⟩ := info_parts1 info_bytest
  have hsrc : Src Try.prog 1 tt (.slice (some ⟨b, 0, none⟩) 1 1) 1 [r.v] W := Src.ofSlice W htt ⟨b, 0, none⟩ 1 1 [r.v] rfl (fun j u hj => by
    have hj0 : j = 0 := by
      have := (List.getElem?_eq_some_iff.1 hj).1
      simp at this; omega
    subst hj0
    rw [add_off, Nat.add_zero, hl.cell]; simpa using hj) (fun u hu => by simp at hu; subst hu; rfl)
  obtain ⟨v', w', hr, h3, h4, h5⟩ := run_append_lies_src (P := Try.prog) W w.heap.size tt tt o.type 48 i (.slice none 0 0) 1 24 htt hi hz e1 e2 rfl (by decide) v1 T.length (rwCells T) h.t.own _ 1 [r.v] hsrc (by unfold maxLen; omega) (by omega) h.size
  have h5' : v'.ownBlock = v1.ownBlock ∨ ∀ k, v'.ownBlock = some k → W.heap.size ≤ k := by
    rcases h5 with h5 | h5
    · exact .inl h5
    · exact .inr fun k hk => by rw [h5] at hk; cases hk; exact Nat.le_refl _
  unfold Oper.wp execOp
  simp only [ho, resolve, invoke, builtin, Sem.run_bind, Sem.run_pure, Result.andThen_ok, List.map_toArray, List.map_cons, List.map_nil, hs, hxe, hr]
  exact h' v' w' (h.push1 (h.t.more h3 h4 h5') h4 h5) h4 h5
end
end Go.Proofs.Ytjdgfijpmljhiaa
