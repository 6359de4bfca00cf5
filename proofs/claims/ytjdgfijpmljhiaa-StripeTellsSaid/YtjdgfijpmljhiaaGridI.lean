/- The reference's Invert: plain laws of rows of both halves, side by side; memory of such rows. -/
import Derived.Test.YtjdgfijpmljhiaaGridH
import Derived.Test.YtjdgfijpmljhiaaZero
namespace Go.Proofs.Ytjdgfijpmljhiaa
open Go.RowKit
set_option linter.unusedVariables false
theorem Mat.ent_elim2 {n m c i : Nat} {L L' a : Mat.M} {y : Nat → UInt8} (hL : ∀ r j, r < n → j < m → L r j = Mat.elimTo c y i a r j) (hin : i < n) (hcn : c < n) (hic : i ≠ c)
    (h' : ∀ r j, r < n → j < m → L' r j = if r = i then Mat.gadd (L i j) (Mat.gmul (y i) (L c j)) else L r j) : ∀ r j, r < n → j < m → L' r j = Mat.elimTo c y (i + 1) a r j := by
  intro r j hr hj
  have hc : L c j = a c j := by
    rw [hL c j hcn hj]
    unfold Mat.elimTo Mat.elimM
    split
    · rw [if_pos rfl]
    · rfl
  rw [h' r j hr hj]
  by_cases e : r = i
  · subst e
    rw [if_pos rfl, hc, hL r j hr hj]
    unfold Mat.elimTo
    rw [if_neg (by omega), if_pos (by omega)]
    unfold Mat.elimM
    rw [if_neg hic, Mat.mul_comm (y r)]
  · rw [if_neg e, hL r j hr hj]
    unfold Mat.elimTo
    by_cases e2 : r < i
    · rw [if_pos e2, if_pos (by omega)]
    · rw [if_neg e2, if_neg (by omega)]
/-- row i of both halves: a's, and one's -/
def sideRow (n i : Nat) (l : List UInt8) : List UInt8 := l ++ oneRow n i
theorem sideRow_set (n i : Nat) (l : List UInt8) (hl : l.length = n) : (l ++ List.replicate n 0).set (n + i) 1 = sideRow n i l := by
  unfold sideRow oneRow
  rw [List.set_append_right _ _ (by omega)]
  congr 2
  omega
theorem sideRow_length {n i : Nat} {l : List UInt8} (hl : l.length = n) : (sideRow n i l).length = n + n := by
  unfold sideRow; rw [List.length_append, oneRow_length, hl]
theorem sideRow_left {n i : Nat} {l : List UInt8} (hl : l.length = n) {j : Nat} (hj : j < n) : (sideRow n i l).getD j 0 = l.getD j 0 := getD_app _ _ (by omega)
theorem sideRow_right {n i : Nat} {l : List UInt8} (hl : l.length = n) (hi : i < n) {j : Nat} (hj : j < n) : (sideRow n i l).getD (n + j) 0 = Mat.one i j := by
  rw [← oneRow_get hi hj]
  unfold sideRow
  simp [List.getD, List.getElem?_append_right, hl]
/-- one entry turns -/
theorem ent_setB (R : List Wr) (i k : Nat) (hi : i < R.length) (hk : k < R[i].l.length) (y : UInt8) (a j : Nat) : Mat.ent (wrData (R.set i ⟨R[i].g, R[i].cap, R[i].l.set k y⟩)) a j = if a = i ∧ j = k then y else Mat.ent (wrData R) a j := by
  rw [data_set, Mat.ent_set (by rw [wrData_length]; exact hi)]
  by_cases e : a = i
  · subst e
    rw [if_pos rfl, getD_set hk]
    by_cases e2 : j = k
    · rw [if_pos e2, if_pos ⟨rfl, e2⟩]
    · rw [if_neg e2, if_neg (fun h => e2 h.2), ent_wr hi]
  · rw [if_neg e, if_neg (fun h => e h.1)]
/-- Rows of the call's own that are put one behind the other. -/
structure Mw (w W : World) (v : Value) (R : List Wr) : Prop where
  mb : Mb w W none w.heap.size v (R.map Wr.rw)
  row : ∀ r ∈ R, W.ownsRow w.heap.size 5 1 r.v r.l.length (cb r.l)
  nodup : (R.map Wr.g).Nodup
theorem Mw.nil (w : World) : Mw w w (.slice none 0 0) [] := ⟨Mb.nil w w (Below.refl _ _) _ (Nat.le_refl _), (fun r hr => by cases hr), List.nodup_nil⟩
theorem Mw.keep {w W W' : World} {v : Value} {R : List Wr} (h : Mw w W v R) (hb : Below W.heap.size W W') : Mw w W' v R := ⟨h.mb.below hb, fun r hr => own_below (h.row r hr) hb, h.nodup⟩
theorem Mw.below {w W : World} {v : Value} {R : List Wr} (h : Mw w W v R) : Below w.heap.size w W := h.mb.own.belowOf (Nat.le_refl _) (fun k e => by cases e)
theorem Mw.lt {w W : World} {v : Value} {R : List Wr} (h : Mw w W v R) {r : Wr} (hr : r ∈ R) : r.g < W.heap.size := ((h.row r hr).lt _ rfl).2
/-- one more -/
theorem Mw.push {w W W' W'' : World} {v v' : Value} {R : List Wr} {r : Wr} (h : Mw w W v R) (hb : Below W.heap.size W W') (ho : W'.ownsRow w.heap.size 5 1 r.v r.l.length (cb r.l)) (hr : W.heap.size ≤ r.g) (hm : Mb w W'' none w.heap.size v' (R.map Wr.rw ++ [r.rw])) (hg : W'.grownBy W'' v.ownBlock) : Mw w W'' v' (R ++ [r]) := by
  have hrow : ∀ q ∈ R ++ [r], W'.ownsRow w.heap.size 5 1 q.v q.l.length (cb q.l) := fun q hq => by
    rcases List.mem_append.1 hq with hq | hq
    · exact own_below (h.row q hq) hb
    · obtain rfl := List.mem_singleton.1 hq
      exact ho
  have hv := (h.mb.below hb).own.own
  refine ⟨by rw [List.map_append]; exact hm, fun q hq => ?_, ?_⟩
  · obtain ⟨ds, hbk⟩ : ∃ cs, W'.heap[q.g]? = some (.cells cs 5 (0, 0)) := by
      obtain ⟨cur, hgg, _⟩ := own_row (hrow q hq)
      exact ⟨_, hgg⟩
    have hne := own_blk_ne hv hbk (by decide)
    cases hvb : v.ownBlock with
    | none =>
      rw [hvb] at hg
      exact ((Only.refl W' []).more hg (fun x e => by cases e)).own (hrow q hq) (by simp)
    | some x =>
      rw [hvb] at hg hne
      exact ((Only.refl W' [x]).more hg (fun y e => by cases e; exact .inl (by simp))).own (hrow q hq) (fun y hy e => by
        obtain rfl : y = x := by simpa using hy
        have e : some q.g = some y := e
        exact hne e.symm)
  · rw [List.map_append, List.nodup_append]
    refine ⟨h.nodup, by simp, fun x hx y hy => ?_⟩
    obtain ⟨q, hq, rfl⟩ := List.mem_map.1 hx
    obtain rfl : y = r.g := by simpa using hy
    have := h.lt hq
    omega
/-- The matrix of both halves. -/
structure Wk (w W : World) (G n m cap : Nat) (R : List Wr) : Prop where
  mo : Mo W w.heap.size G n cap R
  len : R.length = n
  wid : ∀ r ∈ R, r.l.length = m
  below : Below w.heap.size w W
theorem Mw.wk {w W : World} {v : Value} {R : List Wr} {n m : Nat} (h : Mw w W v R) (hn : R.length = n) (h1 : 0 < n) (hw : ∀ r ∈ R, r.l.length = m) : ∃ G cap, v = .slice (some ⟨G, 0, none⟩) n cap ∧ Wk w W G n m cap R := by
  subst hn
  have ho := h.mb.own.own
  rw [wrCells_rw, List.length_map] at ho
  obtain ⟨G, cap, rfl, _⟩ := own_pos ho h1
  refine ⟨G, cap, rfl, ⟨Nat.le_refl _, ?_, h.row, h.nodup⟩, rfl, hw, h.below⟩
  rw [Nat.sub_self, List.replicate_zero, List.append_nil]
  exact ho
theorem Wk.keep {w W W' : World} {G n m cap : Nat} {R : List Wr} (h : Wk w W G n m cap R) (hb : Below W.heap.size W W') : Wk w W' G n m cap R := ⟨h.mo.below hb, h.len, h.wid, h.below.trans (hb.mono h.below.size)⟩
theorem Wk.drewN {w W : World} {G n m cap : Nat} {R : List Wr} (h : Wk w W G n m cap R) (q : Nat) : Wk w (W.drewN q) G n m cap R := ⟨h.mo.drewN q, h.len, h.wid, below_drewN h.below q⟩
theorem Wk.swap {w W : World} {G n m cap : Nat} {R : List Wr} (h : Wk w W G n m cap R) (i k : Nat) (hi : i < R.length) (hk : k < R.length) :
    Wk w ((W.setCell ⟨G, i, none⟩ R[k].v).setCell ⟨G, k, none⟩ R[i].v) G n m cap ((R.set i R[k]).set k R[i]) := by
  refine ⟨h.mo.swap i k hi hk, by simpa using h.len, fun r hr => ?_, (h.below.setCell h.mo.lt.1 _).setCell h.mo.lt.1 _⟩
  rcases List.mem_or_eq_of_mem_set hr with h1 | rfl
  · rcases List.mem_or_eq_of_mem_set h1 with h2 | rfl
    · exact h.wid r h2
    · exact h.wid _ (List.getElem_mem _)
  · exact h.wid _ (List.getElem_mem _)
theorem Wk.setB {w W : World} {G n m cap : Nat} {R : List Wr} (h : Wk w W G n m cap R) (i k : Nat) (hi : i < R.length) (y : UInt8) (v : Nat) (hv : y.toNat = v) : Wk w (W.setCell ⟨R[i].g, k, none⟩ (.int .u8 (v : Int))) G n m cap (R.set i ⟨R[i].g, R[i].cap, R[i].l.set k y⟩) := by
  subst hv
  refine ⟨h.mo.setByte i k hi y, by simpa using h.len, fun r hr => ?_, h.below.setCell (h.mo.rlt (List.getElem_mem _)).1 _⟩
  rcases List.mem_or_eq_of_mem_set hr with h1 | rfl
  · exact h.wid r h1
  · rw [List.length_set]; exact h.wid _ (List.getElem_mem _)
theorem Wk.at {w W : World} {G n m cap : Nat} {R : List Wr} (h : Wk w W G n m cap R) (i : Nat) (hi : i < R.length) : W.cell? ⟨G, i, none⟩ = some (.slice (some ⟨R[i].g, 0, none⟩) m R[i].cap) := by
  have := h.mo.at i hi
  rwa [h.wid _ (List.getElem_mem _)] at this
theorem Wk.byte {w W : World} {G n m cap : Nat} {R : List Wr} (h : Wk w W G n m cap R) (i j : Nat) (hi : i < R.length) (hj : j < m) : W.cell? ⟨R[i].g, j, none⟩ = some (.int .u8 ((Mat.ent (wrData R) i j).toNat : Int)) := by
  rw [h.mo.byte i j hi (by rw [h.wid _ (List.getElem_mem _)]; exact hj), ent_wr hi]
  rfl
end Go.Proofs.Ytjdgfijpmljhiaa
