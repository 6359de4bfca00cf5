/- Memory of matrices: slices of slices of bytes that are read (Ms); such as the call owns, row by row (Mo). -/
import Derived.Test.YtjdgfijpmljhiaaOnly
namespace Go.Proofs.Ytjdgfijpmljhiaa
open Go.RowKit
set_option linter.unusedVariables false
/-- a row of bytes as memory has it -/
structure Rw where
  a : Option Addr
  n : Nat
  cap : Nat
  l : List UInt8
def Rw.v (r : Rw) : Value := .slice r.a r.n r.cap
def rwCells (R : List Rw) : List Value := R.map Rw.v
def rwData (R : List Rw) : List (List UInt8) := R.map Rw.l
theorem rwCells_length (R : List Rw) : (rwCells R).length = R.length := by simp [rwCells]
theorem rwData_length (R : List Rw) : (rwData R).length = R.length := by simp [rwData]
theorem rwCells_get (R : List Rw) (i : Nat) (h : i < R.length) : (rwCells R)[i]? = some (.slice R[i].a R[i].n R[i].cap) := by simp [rwCells, h, Rw.v]
theorem rwData_get (R : List Rw) (i : Nat) (h : i < R.length) : (rwData R)[i]? = some R[i].l := by simp [rwData, h]
theorem rwCells_one (R : List Rw) : ∀ u ∈ rwCells R, u.oneCell' = true := by
  intro u hu
  obtain ⟨r, _, rfl⟩ := List.mem_map.1 hu
  rfl
/-- The slice (a, n, cap) reads as the rows R. -/
structure Ms (w : World) (a : Option Addr) (n cap : Nat) (R : List Rw) : Prop where
  sl : Sl w 1 a n cap (rwCells R)
  row : ∀ r ∈ R, Bt w r.a r.n r.cap r.l
section
variable {w w' : World} {a : Option Addr} {n cap : Nat} {R : List Rw}
theorem Ms.cnt (h : Ms w a n cap R) : R.length = n := by
  have := h.sl.len; rw [rwCells_length] at this; omega
theorem Ms.dn (h : Ms w a n cap R) : (rwData R).length = n := by rw [rwData_length]; exact h.cnt
theorem Ms.below (h : Ms w a n cap R) (hb : Below w.heap.size w w') : Ms w' a n cap R := ⟨h.sl.below hb, fun r hr => (h.row r hr).below hb⟩
theorem Ms.alloc (h : Ms w a n cap R) (o : Obj) : Ms (w.alloc o) a n cap R := h.below ((Below.refl _ _).alloc (Nat.le_refl _) o)
theorem Ms.drewN (h : Ms w a n cap R) (k : Nat) : Ms (w.drewN k) a n cap R := h.below ⟨rfl, rfl, rfl, Nat.le_refl _, fun _ _ => rfl⟩
theorem Ms.drew (h : Ms w a n cap R) : Ms w.drew a n cap R := h.drewN 1
theorem Ms.nil (w : World) : Ms w none 0 0 [] := ⟨Sl.none w 1, fun r hr => by cases hr⟩
theorem Ms.at {b off : Nat} (h : Ms w (some ⟨b, off, none⟩) n cap R) (i : Nat) (hi : i < R.length) : w.cell? ⟨b, off + i, none⟩ = some (.slice R[i].a R[i].n R[i].cap) ∧ Bt w R[i].a R[i].n R[i].cap R[i].l :=
  ⟨h.sl.cell (by have := h.cnt; omega) (rwCells_get R i hi), h.row _ (List.getElem_mem _)⟩
/-- 'm[lo:hi]' -/
theorem Ms.slice (h : Ms w a n cap R) {lo hi : Nat} (h1 : lo ≤ hi) (h2 : hi ≤ n) : Ms w (if cap = lo then a else a.map (·.add (lo * 1))) (hi - lo) (cap - lo) ((R.drop lo).take (hi - lo)) := by
  refine ⟨?_, fun r hr => h.row r (List.mem_of_mem_drop (List.mem_of_mem_take hr))⟩
  have := h.sl.slice h1 h2
  have e : rwCells ((R.drop lo).take (hi - lo)) = ((rwCells R).drop (lo * 1)).take ((hi - lo) * 1) := by simp [rwCells, List.map_drop, List.map_take]
  rw [e]; exact this
theorem Ms.drop (h : Ms w a n cap R) {lo : Nat} (h1 : lo ≤ n) : Ms w (if cap = lo then a else a.map (·.add (lo * 1))) (n - lo) (cap - lo) (R.drop lo) := by
  have := h.slice h1 (Nat.le_refl n)
  rwa [List.take_of_length_le (by rw [List.length_drop, h.cnt]; exact Nat.le_refl _)] at this
theorem Ms.take (h : Ms w a n cap R) {k : Nat} (hk : k ≤ n) : Ms w a k cap (R.take k) := by
  refine ⟨?_, fun r hr => h.row r (List.mem_of_mem_take hr)⟩
  have := h.sl.take hk
  have e : rwCells (R.take k) = (rwCells R).take (k * 1) := by simp [rwCells, List.map_take]
  rw [e]; exact this
end
/-- It returns a matrix and an error's number, of which P holds; what was there is as it was. -/
def MRes (P : List (List UInt8) → Int → Prop) (w : World) (e : Ending) (w' : World) : Prop :=
  ∃ a n cap R err, e = .returned (.tuple #[.slice a n cap, .int .i64 err]) ∧ Ms w' a n cap R ∧ P (rwData R) err ∧ Below w.heap.size w w'
/-- a row of bytes of the call's own -/
structure Wr where
  g : Nat
  cap : Nat
  l : List UInt8
def Wr.v (r : Wr) : Value := .slice (some ⟨r.g, 0, none⟩) r.l.length r.cap
def Wr.rw (r : Wr) : Rw := ⟨some ⟨r.g, 0, none⟩, r.l.length, r.cap, r.l⟩
def wrData (R : List Wr) : List (List UInt8) := R.map Wr.l
theorem wrData_rw (R : List Wr) : rwData (R.map Wr.rw) = wrData R := by simp [rwData, wrData, Wr.rw]
theorem wrCells_rw (R : List Wr) : rwCells (R.map Wr.rw) = R.map Wr.v := by simp [rwCells, Wr.rw, Wr.v, Rw.v]
/-- In w the block g has n slices: those of the rows R, of as many blocks; the others are nil. -/
structure Mo (w : World) (base g n cap : Nat) (R : List Wr) : Prop where
  le : R.length ≤ n
  own : w.ownsRow base 48 1 (.slice (some ⟨g, 0, none⟩) n cap) n (R.map Wr.v ++ List.replicate (n - R.length) (.slice none 0 0))
  row : ∀ r ∈ R, w.ownsRow base 5 1 r.v r.l.length (cb r.l)
  nodup : (R.map Wr.g).Nodup
section
variable {w w' : World} {base g n cap : Nat} {R : List Wr}
theorem Mo.blk (h : Mo w base g n cap R) : ∃ cs, w.heap[g]? = some (.cells cs 48 (0, 0)) := by
  obtain ⟨cur, hg, _⟩ := own_row h.own
  exact ⟨_, hg⟩
theorem Mo.rblk (h : Mo w base g n cap R) {r : Wr} (hr : r ∈ R) : ∃ cs, w.heap[r.g]? = some (.cells cs 5 (0, 0)) := by
  obtain ⟨cur, hg, _⟩ := own_row (h.row r hr)
  exact ⟨_, hg⟩
theorem Mo.lt (h : Mo w base g n cap R) : base ≤ g ∧ g < w.heap.size := h.own.lt g rfl
theorem Mo.rlt (h : Mo w base g n cap R) {r : Wr} (hr : r ∈ R) : base ≤ r.g ∧ r.g < w.heap.size := (h.row r hr).lt _ rfl
theorem Mo.ne (h : Mo w base g n cap R) {r : Wr} (hr : r ∈ R) : r.g ≠ g := by
  obtain ⟨_, h1⟩ := h.blk
  obtain ⟨_, h2⟩ := h.rblk hr
  exact heap_ne h2 h1 (by decide)
theorem Mo.only {S : List Nat} (h : Mo w base g n cap R) (hO : Only w w' S) (hg : g ∉ S) (hr : ∀ r ∈ R, r.g ∉ S) : Mo w' base g n cap R :=
  ⟨h.le, hO.own h.own (fun x hx e => by cases e; exact hg hx), fun r hr' => hO.own (h.row r hr') (fun x hx e => by cases e; exact hr r hr' hx), h.nodup⟩
theorem Mo.below (h : Mo w base g n cap R) (hb : Below w.heap.size w w') : Mo w' base g n cap R := h.only (S := []) ((Only.refl w []).below hb) (by simp) (by simp)
theorem Mo.alloc (h : Mo w base g n cap R) (o : Obj) : Mo (w.alloc o) base g n cap R := h.below ((Below.refl _ _).alloc (Nat.le_refl _) o)
theorem Mo.drewN (h : Mo w base g n cap R) (k : Nat) : Mo (w.drewN k) base g n cap R := h.below ⟨rfl, rfl, rfl, Nat.le_refl _, fun _ _ => rfl⟩
theorem Mo.at (h : Mo w base g n cap R) (i : Nat) (hi : i < R.length) : w.cell? ⟨g, i, none⟩ = some (.slice (some ⟨R[i].g, 0, none⟩) R[i].l.length R[i].cap) := by
  rw [h.own.cellAt i (by have := h.le; omega), List.getElem?_append_left (by simpa using hi)]
  simp [hi, Wr.v]
theorem Mo.atNil (h : Mo w base g n cap R) (i : Nat) (hi : R.length ≤ i) (hn : i < n) : w.cell? ⟨g, i, none⟩ = some (.slice none 0 0) := by
  rw [h.own.cellAt i (by omega), List.getElem?_append_right (by simpa using hi), List.getElem?_replicate, if_pos (by simp; omega)]
theorem Mo.free (h : Mo w base g n cap R) (i : Nat) : w.frozen? ⟨g, i, none⟩ = false := h.own.frozenAt i
theorem Mo.byte (h : Mo w base g n cap R) (i j : Nat) (hi : i < R.length) (hj : j < R[i].l.length) : w.cell? ⟨R[i].g, j, none⟩ = some (.int .u8 (at8 R[i].l j)) := by
  have := h.row R[i] (List.getElem_mem _)
  unfold Wr.v at this
  rw [this.cellAt j (by omega)]
  exact cb_get _ _ hj
theorem Mo.rfree (h : Mo w base g n cap R) (i j : Nat) (hi : i < R.length) : w.frozen? ⟨R[i].g, j, none⟩ = false := by
  have := h.row R[i] (List.getElem_mem _)
  unfold Wr.v at this
  exact this.frozenAt j
theorem Mo.rw (h : Mo w base g n cap R) {r : Wr} (hr : r ∈ R) : Bt w (some ⟨r.g, 0, none⟩) r.l.length r.cap r.l := by
  obtain ⟨a, c, e, hs⟩ := own_sl (h.row r hr)
  unfold Wr.v at e
  cases e
  exact hs
theorem Mo.ms (h : Mo w base g n cap R) (hn : R.length = n) : Ms w (some ⟨g, 0, none⟩) n cap (R.map Wr.rw) := by
  subst hn
  refine ⟨?_, fun r hr => ?_⟩
  · have ho := h.own
    rw [Nat.sub_self, List.replicate_zero, List.append_nil, ← wrCells_rw] at ho
    obtain ⟨a, c, e, hs⟩ := own_sl ho
    cases e
    exact hs
  · obtain ⟨r', hr', rfl⟩ := List.mem_map.1 hr
    exact h.rw hr'
theorem nodup_get {l : List Nat} (h : l.Nodup) {i j : Nat} (hi : i < l.length) (hj : j < l.length) (e : l[i] = l[j]) : i = j := (List.getElem_inj h).1 e
theorem Mo.gne (h : Mo w base g n cap R) {i j : Nat} (hi : i < R.length) (hj : j < R.length) (hne : i ≠ j) : R[i].g ≠ R[j].g := fun e =>
  hne (nodup_get h.nodup (by simpa using hi) (by simpa using hj) (by simpa using e))
/-- One row has turned. -/
theorem Mo.setRow (h : Mo w base g n cap R) (i : Nat) (hi : i < R.length) {l' : List UInt8} (hl : l'.length = R[i].l.length) (hO : Only w w' [R[i].g]) (ho : w'.ownsRow base 5 1 R[i].v R[i].l.length (cb l')) :
    Mo w' base g n cap (R.set i ⟨R[i].g, R[i].cap, l'⟩) := by
  have hne := h.ne (List.getElem_mem hi)
  have hv : (Wr.v ⟨R[i].g, R[i].cap, l'⟩) = R[i].v := by simp [Wr.v, hl]
  have e : (R.set i ⟨R[i].g, R[i].cap, l'⟩).map Wr.v = R.map Wr.v := by
    rw [List.map_set, hv]
    exact List.ext_getElem (by simp) (fun k h1 h2 => by simp [List.getElem_set]; intro hk; subst hk; rfl)
  have eg : (R.set i ⟨R[i].g, R[i].cap, l'⟩).map Wr.g = R.map Wr.g := by
    rw [List.map_set]
    exact List.ext_getElem (by simp) (fun k h1 h2 => by simp [List.getElem_set]; intro hk; subst hk; rfl)
  refine ⟨by simpa using h.le, ?_, fun r hr => ?_, by rw [eg]; exact h.nodup⟩
  · rw [e, List.length_set]
    exact hO.own h.own (fun x hx ee => by cases ee; exact hne (List.mem_singleton.1 hx).symm)
  · obtain ⟨k, hk, rfl⟩ := List.getElem_of_mem hr
    have hk' : k < R.length := by simpa using hk
    by_cases hki : i = k
    · subst hki
      rw [List.getElem_set_self, hv]
      simp only [hl]
      exact ho
    · rw [List.getElem_set_ne hki]
      exact hO.own (h.row _ (List.getElem_mem _)) (fun x hx ee => by
        have ee : some R[k].g = some x := ee
        cases ee
        exact h.gne hk' hi (Ne.symm hki) (by simpa using hx))
/-- One byte is set. -/
theorem Mo.setByte (h : Mo w base g n cap R) (i j : Nat) (hi : i < R.length) (y : UInt8) : Mo (w.setCell ⟨R[i].g, j, none⟩ (.int .u8 (y.toNat : Int))) base g n cap (R.set i ⟨R[i].g, R[i].cap, R[i].l.set j y⟩) := by
  have hr := h.row R[i] (List.getElem_mem _)
  refine h.setRow i hi (by simp) ((Only.refl w _).setCell (.inl (by simp)) _) ?_
  rw [cb_set]
  exact (World.ownsRow.stored hr j _).1
/-- Two rows change places. -/
theorem Mo.swap (h : Mo w base g n cap R) (i k : Nat) (hi : i < R.length) (hk : k < R.length) :
    Mo ((w.setCell ⟨g, i, none⟩ R[k].v).setCell ⟨g, k, none⟩ R[i].v) base g n cap ((R.set i R[k]).set k R[i]) := by
  have hO : Only w ((w.setCell ⟨g, i, none⟩ R[k].v).setCell ⟨g, k, none⟩ R[i].v) [g] := ((Only.refl w _).setCell (.inl (by simp)) _).setCell (.inl (by simp)) _
  have hmem : ∀ r ∈ (R.set i R[k]).set k R[i], r ∈ R := fun r hr => by
    rcases List.mem_or_eq_of_mem_set hr with h1 | rfl
    · rcases List.mem_or_eq_of_mem_set h1 with h2 | rfl
      · exact h2
      · exact List.getElem_mem _
    · exact List.getElem_mem _
  refine ⟨by simpa using h.le, ?_, fun r hr => hO.own (h.row r (hmem r hr)) (fun x hx ee => ?_), ?_⟩
  · have h1 := (World.ownsRow.stored (World.ownsRow.stored h.own i R[k].v).1 k R[i].v).1
    have e : ((R.map Wr.v ++ List.replicate (n - R.length) (Value.slice none 0 0)).set i R[k].v).set k R[i].v = ((R.set i R[k]).set k R[i]).map Wr.v ++ List.replicate (n - ((R.set i R[k]).set k R[i]).length) (Value.slice none 0 0) := by
      rw [List.set_append_left _ _ (by simpa using hi), List.set_append_left _ _ (by simpa using hk), List.map_set, List.map_set]
      simp
    rw [e] at h1
    exact h1
  · obtain rfl : x = g := by simpa using hx
    have ee : some r.g = some x := ee
    cases ee
    exact h.ne (hmem r hr) rfl
  · have hp : ((R.map Wr.g).set i ((R.map Wr.g)[k]'(by simpa using hk))).set k ((R.map Wr.g)[i]'(by simpa using hi)) = ((R.set i R[k]).set k R[i]).map Wr.g := by simp [List.map_set]
    rw [← hp]
    refine List.pairwise_iff_getElem.2 fun x y hx hy hlt hxy => ?_
    simp only [List.length_set] at hx hy
    have hx' : x < (R.map Wr.g).length := by simpa using hx
    have hy' : y < (R.map Wr.g).length := by simpa using hy
    have key := fun (p q : Nat) (hp : p < (R.map Wr.g).length) (hq : q < (R.map Wr.g).length) (e : (R.map Wr.g)[p] = (R.map Wr.g)[q]) => nodup_get h.nodup hp hq e
    simp only [List.getElem_set] at hxy
    have : x = y := by
      split at hxy <;> split at hxy <;> (try split at hxy) <;> (try split at hxy) <;> have := key _ _ _ _ hxy <;> omega
    omega
/-- One row more. -/
theorem Mo.push (h : Mo w base g n cap R) (hlt : R.length < n) (r : Wr) (ho : w.ownsRow base 5 1 r.v r.l.length (cb r.l)) (hnew : ∀ q ∈ R, q.g ≠ r.g) : Mo (w.setCell ⟨g, R.length, none⟩ r.v) base g n cap (R ++ [r]) := by
  have hO : Only w (w.setCell ⟨g, R.length, none⟩ r.v) [g] := (Only.refl w _).setCell (.inl (by simp)) _
  obtain ⟨_, hb⟩ := h.blk
  have hne : ∀ q : Wr, w.ownsRow base 5 1 q.v q.l.length (cb q.l) → ∀ x ∈ [g], q.v.ownBlock ≠ some x := fun q hq x hx => by
    obtain rfl : x = g := by simpa using hx
    exact own_blk_ne hq hb (by decide)
  refine ⟨by simp; omega, ?_, fun q hq => ?_, ?_⟩
  · have h1 := (World.ownsRow.stored h.own R.length r.v).1
    have e : (R.map Wr.v ++ List.replicate (n - R.length) (Value.slice none 0 0)).set R.length r.v = (R ++ [r]).map Wr.v ++ List.replicate (n - (R ++ [r]).length) (.slice none 0 0) := by
      obtain ⟨m, hm⟩ : ∃ m, n - R.length = m + 1 := ⟨n - R.length - 1, by omega⟩
      rw [hm, List.set_append_right _ _ (by simp), List.replicate_succ]
      simp only [List.length_map, Nat.sub_self, List.set_cons_zero, List.map_append, List.map_cons, List.map_nil, List.append_assoc, List.singleton_append, List.length_append, List.length_cons, List.length_nil]
      rw [show n - (R.length + (0 + 1)) = m by omega]
    rw [e] at h1
    exact h1
  · rcases List.mem_append.1 hq with hq | hq
    · exact hO.own (h.row q hq) (hne q (h.row q hq))
    · obtain rfl := List.mem_singleton.1 hq
      exact hO.own ho (hne q ho)
  · rw [List.map_append, List.nodup_append]
    refine ⟨h.nodup, by simp, fun x hx y hy => ?_⟩
    obtain ⟨q, hq, rfl⟩ := List.mem_map.1 hx
    obtain rfl : y = r.g := by simpa using hy
    exact hnew q hq
end
end Go.Proofs.Ytjdgfijpmljhiaa
