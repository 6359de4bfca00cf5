/- Joined, and what is not used struck: Mx, GridA, GridB, Field. -/
import Derived.Test.YthhcdfjijagalaaM03
import Derived.Test.YthhcdfjijagalaaM02
import Derived.Test.YthhcdfjijagalaaM01
import Derived.Test.YthhcdfjijagalaaProg
namespace Go.Proofs.Ythhcdfjijagalaa
open Go.RowKit
set_option linter.unusedVariables false
/-- a row of bytes as memory has it -/
structure Rw where
  a : Option Addr
  n : Nat
  cap : Nat
  l : List UInt8
def Rw.v (r : Rw) : Value := .slice r.a r.n r.cap
def rwCells (R : List Rw) : List Value := R.map Rw.v
def rwData (R : List Rw) : List (List UInt8) := R.map Rw.l
theorem rwCells_length (R : List Rw) : (rwCells R).length = R.length := by simp [rwCells]
theorem rwData_length (R : List Rw) : (rwData R).length = R.length := by simp [rwData]
theorem rwCells_get (R : List Rw) (i : Nat) (h : i < R.length) : (rwCells R)[i]? = some (.slice R[i].a R[i].n R[i].cap) := by simp [rwCells, h, Rw.v]
theorem rwCells_one (R : List Rw) : ∀ u ∈ rwCells R, u.oneCell' = true := by
  intro u hu
  obtain ⟨r, _, rfl⟩ := List.mem_map.1 hu
  rfl
/-- The slice (a, n, cap) reads as the rows R. -/
structure Ms (w : World) (a : Option Addr) (n cap : Nat) (R : List Rw) : Prop where
  sl : Sl w 1 a n cap (rwCells R)
  row : ∀ r ∈ R, Bt w r.a r.n r.cap r.l
section
variable {w w' : World} {a : Option Addr} {n cap : Nat} {R : List Rw}
theorem Ms.cnt (h : Ms w a n cap R) : R.length = n := by
  have := h.sl.len; rw [rwCells_length] at this; omega
theorem Ms.dn (h : Ms w a n cap R) : (rwData R).length = n := by rw [rwData_length]; exact h.cnt
theorem Ms.below (h : Ms w a n cap R) (hb : Below w.heap.size w w') : Ms w' a n cap R := ⟨h.sl.below hb, fun r hr => (h.row r hr).below hb⟩
theorem Ms.nil (w : World) : Ms w none 0 0 [] := ⟨Sl.none w 1, fun r hr => by cases hr⟩
theorem Ms.at {b off : Nat} (h : Ms w (some ⟨b, off, none⟩) n cap R) (i : Nat) (hi : i < R.length) : w.cell? ⟨b, off + i, none⟩ = some (.slice R[i].a R[i].n R[i].cap) ∧ Bt w R[i].a R[i].n R[i].cap R[i].l :=
  ⟨h.sl.cell (by have := h.cnt; omega) (rwCells_get R i hi), h.row _ (List.getElem_mem _)⟩
/-- 'm[lo:hi]' -/
theorem Ms.slice (h : Ms w a n cap R) {lo hi : Nat} (h1 : lo ≤ hi) (h2 : hi ≤ n) : Ms w (if cap = lo then a else a.map (·.add (lo * 1))) (hi - lo) (cap - lo) ((R.drop lo).take (hi - lo)) := by
  refine ⟨?_, fun r hr => h.row r (List.mem_of_mem_drop (List.mem_of_mem_take hr))⟩
  have := h.sl.slice h1 h2
  have e : rwCells ((R.drop lo).take (hi - lo)) = ((rwCells R).drop (lo * 1)).take ((hi - lo) * 1) := by simp [rwCells, List.map_drop, List.map_take]
  rw [e]; exact this
theorem Ms.drop (h : Ms w a n cap R) {lo : Nat} (h1 : lo ≤ n) : Ms w (if cap = lo then a else a.map (·.add (lo * 1))) (n - lo) (cap - lo) (R.drop lo) := by
  have := h.slice h1 (Nat.le_refl n)
  rwa [List.take_of_length_le (by rw [List.length_drop, h.cnt]; exact Nat.le_refl _)] at this
end
/-- It returns a matrix and an error's number, of which P holds; what was there is as it was. -/
def MRes (P : List (List UInt8) → Int → Prop) (w : World) (e : Ending) (w' : World) : Prop :=
  ∃ a n cap R err, e = .returned (.tuple #[.slice a n cap, .int .i64 err]) ∧ Ms w' a n cap R ∧ P (rwData R) err ∧ Below w.heap.size w w'
/-- a row of bytes of the call's own -/
structure Wr where
  g : Nat
  cap : Nat
  l : List UInt8
def Wr.v (r : Wr) : Value := .slice (some ⟨r.g, 0, none⟩) r.l.length r.cap
def Wr.rw (r : Wr) : Rw := ⟨some ⟨r.g, 0, none⟩, r.l.length, r.cap, r.l⟩
def wrData (R : List Wr) : List (List UInt8) := R.map Wr.l
theorem wrData_rw (R : List Wr) : rwData (R.map Wr.rw) = wrData R := by simp [rwData, wrData, Wr.rw]
theorem wrCells_rw (R : List Wr) : rwCells (R.map Wr.rw) = R.map Wr.v := by simp [rwCells, Wr.rw, Wr.v, Rw.v]
/-- In w the block g has n slices: those of the rows R, of as many blocks; the others are nil. -/
structure Mo (w : World) (base g n cap : Nat) (R : List Wr) : Prop where
  le : R.length ≤ n
  own : w.ownsRow base 88 1 (.slice (some ⟨g, 0, none⟩) n cap) n (R.map Wr.v ++ List.replicate (n - R.length) (.slice none 0 0))
  row : ∀ r ∈ R, w.ownsRow base 5 1 r.v r.l.length (cb r.l)
  nodup : (R.map Wr.g).Nodup
section
variable {w w' : World} {base g n cap : Nat} {R : List Wr}
theorem Mo.blk (h : Mo w base g n cap R) : ∃ cs, w.heap[g]? = some (.cells cs 88 (0, 0)) := by
  obtain ⟨cur, hg, _⟩ := own_row h.own
  exact ⟨_, hg⟩
theorem Mo.rblk (h : Mo w base g n cap R) {r : Wr} (hr : r ∈ R) : ∃ cs, w.heap[r.g]? = some (.cells cs 5 (0, 0)) := by
  obtain ⟨cur, hg, _⟩ := own_row (h.row r hr)
  exact ⟨_, hg⟩
theorem Mo.lt (h : Mo w base g n cap R) : base ≤ g ∧ g < w.heap.size := h.own.lt g rfl
theorem Mo.rlt (h : Mo w base g n cap R) {r : Wr} (hr : r ∈ R) : base ≤ r.g ∧ r.g < w.heap.size := (h.row r hr).lt _ rfl
theorem Mo.ne (h : Mo w base g n cap R) {r : Wr} (hr : r ∈ R) : r.g ≠ g := by
  obtain ⟨_, h1⟩ := h.blk
  obtain ⟨_, h2⟩ := h.rblk hr
  exact heap_ne h2 h1 (by decide)
theorem Mo.only {S : List Nat} (h : Mo w base g n cap R) (hO : Only w w' S) (hg : g ∉ S) (hr : ∀ r ∈ R, r.g ∉ S) : Mo w' base g n cap R :=
  ⟨h.le, hO.own h.own (fun x hx e => by cases e; exact hg hx), fun r hr' => hO.own (h.row r hr') (fun x hx e => by cases e; exact hr r hr' hx), h.nodup⟩
theorem Mo.below (h : Mo w base g n cap R) (hb : Below w.heap.size w w') : Mo w' base g n cap R := h.only (S := []) ((Only.refl w []).below hb) (by simp) (by simp)
theorem Mo.drewN (h : Mo w base g n cap R) (k : Nat) : Mo (w.drewN k) base g n cap R := h.below ⟨rfl, rfl, rfl, Nat.le_refl _, fun _ _ => rfl⟩
theorem Mo.at (h : Mo w base g n cap R) (i : Nat) (hi : i < R.length) : w.cell? ⟨g, i, none⟩ = some (.slice (some ⟨R[i].g, 0, none⟩) R[i].l.length R[i].cap) := by
  rw [h.own.cellAt i (by have := h.le; omega), List.getElem?_append_left (by simpa using hi)]
  simp [hi, Wr.v]
theorem Mo.atNil (h : Mo w base g n cap R) (i : Nat) (hi : R.length ≤ i) (hn : i < n) : w.cell? ⟨g, i, none⟩ = some (.slice none 0 0) := by
  rw [h.own.cellAt i (by omega), List.getElem?_append_right (by simpa using hi), List.getElem?_replicate, if_pos (by simp; omega)]
theorem Mo.free (h : Mo w base g n cap R) (i : Nat) : w.frozen? ⟨g, i, none⟩ = false := h.own.frozenAt i
theorem Mo.byte (h : Mo w base g n cap R) (i j : Nat) (hi : i < R.length) (hj : j < R[i].l.length) : w.cell? ⟨R[i].g, j, none⟩ = some (.int .u8 (at8 R[i].l j)) := by
  have := h.row R[i] (List.getElem_mem _)
  unfold Wr.v at this
  rw [this.cellAt j (by omega)]
  exact cb_get _ _ hj
theorem Mo.rfree (h : Mo w base g n cap R) (i j : Nat) (hi : i < R.length) : w.frozen? ⟨R[i].g, j, none⟩ = false := by
  have := h.row R[i] (List.getElem_mem _)
  unfold Wr.v at this
  exact this.frozenAt j
theorem Mo.rw (h : Mo w base g n cap R) {r : Wr} (hr : r ∈ R) : Bt w (some ⟨r.g, 0, none⟩) r.l.length r.cap r.l := by
  obtain ⟨a, c, e, hs⟩ := own_sl (h.row r hr)
  unfold Wr.v at e
  cases e
  exact hs
theorem Mo.ms (h : Mo w base g n cap R) (hn : R.length = n) : Ms w (some ⟨g, 0, none⟩) n cap (R.map Wr.rw) := by
  subst hn
  refine ⟨?_, fun r hr => ?_⟩
  · have ho := h.own
    rw [Nat.sub_self, List.replicate_zero, List.append_nil, ← wrCells_rw] at ho
    obtain ⟨a, c, e, hs⟩ := own_sl ho
    cases e
    exact hs
  · obtain ⟨r', hr', rfl⟩ := List.mem_map.1 hr
    exact h.rw hr'
theorem nodup_get {l : List Nat} (h : l.Nodup) {i j : Nat} (hi : i < l.length) (hj : j < l.length) (e : l[i] = l[j]) : i = j := (List.getElem_inj h).1 e
theorem Mo.gne (h : Mo w base g n cap R) {i j : Nat} (hi : i < R.length) (hj : j < R.length) (hne : i ≠ j) : R[i].g ≠ R[j].g := fun e =>
  hne (nodup_get h.nodup (by simpa using hi) (by simpa using hj) (by simpa using e))
/-- One row has turned. -/
theorem Mo.setRow (h : Mo w base g n cap R) (i : Nat) (hi : i < R.length) {l' : List UInt8} (hl : l'.length = R[i].l.length) (hO : Only w w' [R[i].g]) (ho : w'.ownsRow base 5 1 R[i].v R[i].l.length (cb l')) :
    Mo w' base g n cap (R.set i ⟨R[i].g, R[i].cap, l'⟩) := by
  have hne := h.ne (List.getElem_mem hi)
  have hv : (Wr.v ⟨R[i].g, R[i].cap, l'⟩) = R[i].v := by simp [Wr.v, hl]
  have e : (R.set i ⟨R[i].g, R[i].cap, l'⟩).map Wr.v = R.map Wr.v := by
    rw [List.map_set, hv]
    exact List.ext_getElem (by simp) (fun k h1 h2 => by simp [List.getElem_set]; intro hk; subst hk; rfl)
  have eg : (R.set i ⟨R[i].g, R[i].cap, l'⟩).map Wr.g = R.map Wr.g := by
    rw [List.map_set]
    exact List.ext_getElem (by simp) (fun k h1 h2 => by simp [List.getElem_set]; intro hk; subst hk; rfl)
  refine ⟨by simpa using h.le, ?_, fun r hr => ?_, by rw [eg]; exact h.nodup⟩
  · rw [e, List.length_set]
    exact hO.own h.own (fun x hx ee => by cases ee; exact hne (List.mem_singleton.1 hx).symm)
  · obtain ⟨k, hk, rfl⟩ := List.getElem_of_mem hr
    have hk' : k < R.length := by simpa using hk
    by_cases hki : i = k
    · subst hki
      rw [List.getElem_set_self, hv]
      simp only [hl]
      exact ho
    · rw [List.getElem_set_ne hki]
      exact hO.own (h.row _ (List.getElem_mem _)) (fun x hx ee => by
        have ee : some R[k].g = some x := ee
        cases ee
        exact h.gne hk' hi (Ne.symm hki) (by simpa using hx))
/-- One byte is set. -/
theorem Mo.setByte (h : Mo w base g n cap R) (i j : Nat) (hi : i < R.length) (y : UInt8) : Mo (w.setCell ⟨R[i].g, j, none⟩ (.int .u8 (y.toNat : Int))) base g n cap (R.set i ⟨R[i].g, R[i].cap, R[i].l.set j y⟩) := by
  have hr := h.row R[i] (List.getElem_mem _)
  refine h.setRow i hi (by simp) ((Only.refl w _).setCell (.inl (by simp)) _) ?_
  rw [cb_set]
  exact (World.ownsRow.stored hr j _).1
/-- Two rows change places. -/
theorem Mo.swap (h : Mo w base g n cap R) (i k : Nat) (hi : i < R.length) (hk : k < R.length) :
    Mo ((w.setCell ⟨g, i, none⟩ R[k].v).setCell ⟨g, k, none⟩ R[i].v) base g n cap ((R.set i R[k]).set k R[i]) := by
  have hO : Only w ((w.setCell ⟨g, i, none⟩ R[k].v).setCell ⟨g, k, none⟩ R[i].v) [g] := ((Only.refl w _).setCell (.inl (by simp)) _).setCell (.inl (by simp)) _
  have hmem : ∀ r ∈ (R.set i R[k]).set k R[i], r ∈ R := fun r hr => by
    rcases List.mem_or_eq_of_mem_set hr with h1 | rfl
    · rcases List.mem_or_eq_of_mem_set h1 with h2 | rfl
      · exact h2
      · exact List.getElem_mem _
    · exact List.getElem_mem _
  refine ⟨by simpa using h.le, ?_, fun r hr => hO.own (h.row r (hmem r hr)) (fun x hx ee => ?_), ?_⟩
  · have h1 := (World.ownsRow.stored (World.ownsRow.stored h.own i R[k].v).1 k R[i].v).1
    have e : ((R.map Wr.v ++ List.replicate (n - R.length) (Value.slice none 0 0)).set i R[k].v).set k R[i].v = ((R.set i R[k]).set k R[i]).map Wr.v ++ List.replicate (n - ((R.set i R[k]).set k R[i]).length) (Value.slice none 0 0) := by
      rw [List.set_append_left _ _ (by simpa using hi), List.set_append_left _ _ (by simpa using hk), List.map_set, List.map_set]
      simp
    rw [e] at h1
    exact h1
  · obtain rfl : x = g := by simpa using hx
    have ee : some r.g = some x := ee
    cases ee
    exact h.ne (hmem r hr) rfl
  · have hp : ((R.map Wr.g).set i ((R.map Wr.g)[k]'(by simpa using hk))).set k ((R.map Wr.g)[i]'(by simpa using hi)) = ((R.set i R[k]).set k R[i]).map Wr.g := by simp [List.map_set]
    rw [← hp]
    refine List.pairwise_iff_getElem.2 fun x y hx hy hlt hxy => ?_
    simp only [List.length_set] at hx hy
    have hx' : x < (R.map Wr.g).length := by simpa using hx
    have hy' : y < (R.map Wr.g).length := by simpa using hy
    have key := fun (p q : Nat) (hp : p < (R.map Wr.g).length) (hq : q < (R.map Wr.g).length) (e : (R.map Wr.g)[p] = (R.map Wr.g)[q]) => nodup_get h.nodup hp hq e
    simp only [List.getElem_set] at hxy
    have : x = y := by
      split at hxy <;> split at hxy <;> (try split at hxy) <;> (try split at hxy) <;> have := key _ _ _ _ hxy <;> omega
    omega
/-- One row more. -/
theorem Mo.push (h : Mo w base g n cap R) (hlt : R.length < n) (r : Wr) (ho : w.ownsRow base 5 1 r.v r.l.length (cb r.l)) (hnew : ∀ q ∈ R, q.g ≠ r.g) : Mo (w.setCell ⟨g, R.length, none⟩ r.v) base g n cap (R ++ [r]) := by
  have hO : Only w (w.setCell ⟨g, R.length, none⟩ r.v) [g] := (Only.refl w _).setCell (.inl (by simp)) _
  obtain ⟨_, hb⟩ := h.blk
  have hne : ∀ q : Wr, w.ownsRow base 5 1 q.v q.l.length (cb q.l) → ∀ x ∈ [g], q.v.ownBlock ≠ some x := fun q hq x hx => by
    obtain rfl : x = g := by simpa using hx
    exact own_blk_ne hq hb (by decide)
  refine ⟨by simp; omega, ?_, fun q hq => ?_, ?_⟩
  · have h1 := (World.ownsRow.stored h.own R.length r.v).1
    have e : (R.map Wr.v ++ List.replicate (n - R.length) (Value.slice none 0 0)).set R.length r.v = (R ++ [r]).map Wr.v ++ List.replicate (n - (R ++ [r]).length) (.slice none 0 0) := by
      obtain ⟨m, hm⟩ : ∃ m, n - R.length = m + 1 := ⟨n - R.length - 1, by omega⟩
      rw [hm, List.set_append_right _ _ (by simp), List.replicate_succ]
      simp only [List.length_map, Nat.sub_self, List.set_cons_zero, List.map_append, List.map_cons, List.map_nil, List.append_assoc, List.singleton_append, List.length_append, List.length_cons, List.length_nil]
      rw [show n - (R.length + (0 + 1)) = m by omega]
    rw [e] at h1
    exact h1
  · rcases List.mem_append.1 hq with hq | hq
    · exact hO.own (h.row q hq) (hne q (h.row q hq))
    · obtain rfl := List.mem_singleton.1 hq
      exact hO.own ho (hne q ho)
  · rw [List.map_append, List.nodup_append]
    refine ⟨h.nodup, by simp, fun x hx y hy => ?_⟩
    obtain ⟨q, hq, rfl⟩ := List.mem_map.1 hx
    obtain rfl : y = r.g := by simpa using hy
    exact hnew q hq
end
end Go.Proofs.Ythhcdfjijagalaa
namespace Go.Proofs.Ythhcdfjijagalaa
open Go.RowKit
set_option linter.unusedVariables false
theorem wrong_few {R : List Rw} {n : Nat} (hn : (rwData R).length = n) (h : n < 1 ∨ 12 < n) : Mat.wrongM (rwData R) = 5 := by
  unfold Mat.wrongM; rw [if_pos (by omega)]
theorem wrong_wid {R : List Rw} {k : Nat} (hk : Mat.wid (rwData R) 0 = k) (h : k < 1 ∨ 400 < k) : Mat.wrongM (rwData R) = 5 := by
  unfold Mat.wrongM; rw [if_pos (by omega)]
theorem wrong_form {R : List Rw} {n k i : Nat} (hn : (rwData R).length = n) (h1 : 1 ≤ n) (h2 : n ≤ 12) (hk : Mat.wid (rwData R) 0 = k) (h3 : 1 ≤ k) (h4 : k ≤ 400) (hi : i < R.length) (hne : R[i].l.length ≠ k) : Mat.wrongM (rwData R) = 2 := by
  unfold Mat.wrongM; rw [if_neg (by omega), if_pos ⟨R[i].l, List.mem_map.2 ⟨_, List.getElem_mem _, rfl⟩, by rw [hk]; exact hne⟩]
theorem wrong_none {R : List Rw} {n k : Nat} (hn : (rwData R).length = n) (h1 : 1 ≤ n) (h2 : n ≤ 12) (hk : Mat.wid (rwData R) 0 = k) (h3 : 1 ≤ k) (h4 : k ≤ 400) (h : ∀ i (hi : i < R.length), R[i].l.length = k) : Mat.wrongM (rwData R) = 0 := by
  unfold Mat.wrongM; rw [if_neg (by omega), if_neg]
  rintro ⟨r, hr, hne⟩
  obtain ⟨q, hq, rfl⟩ := List.mem_map.1 hr
  obtain ⟨i, hi, rfl⟩ := List.getElem_of_mem hq
  exact hne (by rw [hk]; exact h i hi)
theorem wid_row {R : List Rw} {i : Nat} (hi : i < R.length) : Mat.wid (rwData R) i = R[i].l.length := by
  unfold Mat.wid rwData; simp [List.getD, hi]
set_option maxHeartbeats 1000000 in
theorem gWrong_call (a : Option Addr) (n cap : Nat) (R : List Rw) (w : World) (h : Ms w a n cap R) : Calls Try.prog 100 #[.slice a n cap] w (Same (.int .i64 (Mat.wrongM (rwData R))) w) := by
  have hle := h.sl.le
  have hmax := h.sl.max
  unfold maxLen at hmax
  have HN := hid h.dn
  by_cases h1 : n < 1
  · have HE := hid (wrong_few HN.out (.inl h1))
    obtain rfl : n = 0 := by omega
    clear h1
    go_enter Try.func100, Try.ntmps100
    go_wp2
    go_ret
    exact ⟨ret_int HE.out.symm, rfl⟩
  by_cases h2 : 12 < n
  · have HE := hid (wrong_few HN.out (.inr h2))
    go_enter Try.func100, Try.ntmps100
    go_wp2
    go_ret
    exact ⟨ret_int HE.out.symm, rfl⟩
  obtain ⟨b, off, rfl, _⟩ := h.sl.addr (by omega)
  have hR0 : 0 < R.length := by have := h.cnt; omega
  have c0 := (h.at 0 hR0).1
  have HK := hid (wid_row hR0)
  have HB0 := hid (Bt.n (h.at 0 hR0).2)
  generalize R[0] = r0 at *
  obtain ⟨a0, n0, p0, l0⟩ := r0
  simp only [Nat.add_zero] at c0 HK HB0
  have HW : Hid (Mat.wid (rwData R) 0 = n0) := hid (HK.out.trans HB0.out)
  clear HK HB0
  by_cases h3 : n0 < 1
  · have HE := hid (wrong_wid HW.out (.inl h3))
    obtain rfl : n0 = 0 := by omega
    clear h3
    go_enter Try.func100, Try.ntmps100
    go_wp2
    go_ret
    exact ⟨ret_int HE.out.symm, rfl⟩
  by_cases h4 : 400 < n0
  · have HE := hid (wrong_wid HW.out (.inr h4))
    go_enter Try.func100, Try.ntmps100
    go_wp2
    go_ret
    exact ⟨ret_int HE.out.symm, rfl⟩
  go_enter Try.func100, Try.ntmps100
  go_wp2
  go_loopg [4, 29] n (fun g s4 i wr => ∃ k : Nat, g = n - k ∧ k ≤ n ∧ i = .int .i64 (k : Int) ∧ w = wr ∧ ∀ j (hj : j < R.length), j < k → R[j].l.length = n0)
  case atStart => exact ⟨0, rfl, by omega, rfl, rfl, fun j _ hj => absurd hj (by omega)⟩
  case round =>
    obtain ⟨k, rfl, hk, rfl, rfl, hall⟩ := hrel
    replace hall := hid hall
    by_cases hlt : k < n
    · have hkl : k < R.length := by have := h.cnt; omega
      have c1 := (h.at k hkl).1
      have HB := hid (Bt.n (h.at k hkl).2)
      have hf := hid (fun hne => wrong_form HN.out (by omega) (by omega) HW.out (by omega) (by omega) hkl hne)
      generalize hr : R[k] = r at *
      obtain ⟨a1, n1, p1, l1⟩ := r
      simp only at c1 HB hf
      have HR := hid hr
      clear hr
      by_cases hne : n1 = n0
      · subst hne
        go_wp2
        go_roundg (n - (k + 1))
        case measure => omega
        case rel =>
          refine ⟨k + 1, rfl, by omega, by go_num, rfl, fun j hj hjk => ?_⟩
          by_cases e : j = k
          · subst e; rw [HR.out]; exact HB.out
          · exact hall.out j hj (by omega)
      · have HE := hid (hf.out (by rw [HB.out]; exact hne))
        have t0 : ((n1 : Int) != (n0 : Int)) = true := by rw [bne_iff_ne]; omega
        have t1 : (n1 != n0) = true := by rw [bne_iff_ne]; exact hne
        go_wp2
        go_ret
        exact ⟨ret_int HE.out.symm, rfl⟩
    · obtain rfl : k = n := by omega
      have HE := hid (wrong_none HN.out (by omega) (by omega) HW.out (by omega) (by omega) (fun i hi => hall.out i hi (by have := h.cnt; omega)))
      go_wp2
      go_ret
      exact ⟨ret_int HE.out.symm, rfl⟩
end Go.Proofs.Ythhcdfjijagalaa
namespace Go.Proofs.Ythhcdfjijagalaa
open Go.RowKit
set_option linter.unusedVariables false
theorem info_bytest : (Try.prog.info? 88).map (fun i => (i.zero, i.size, i.bytes)) = some (some (.slice none 0 0), 1, 24) := by kernel_rfl
theorem und_Matrix : Try.prog.underlying 156 = some (.slice 88) := Try.underlying156
theorem und_rowst : Try.prog.underlying 118 = some (.slice 88) := Try.underlying118
theorem madeCells_nil (n : Nat) : (madeCells (Value.cells (.slice none 0 0)) (n * 1)).toList = List.replicate n (.slice none 0 0) := by
  simp only [madeCells, Value.cells, Nat.mul_one]
  apply List.ext_getElem
  · simp
  · intro i h1 h2
    simp [Nat.mod_one]
/-- 'make([][]byte, n)' -/
theorem wpList_make_mat {ops : Array Oper} {rest : List Oper} {o : Oper} {a : Act} {Q : Exit → Act → World → Prop} {w : World} (hg : o.guard = none) (l c : Operand) (tt : TypeId) (htt : Try.prog.underlying tt = some (.slice 88)) (hop : o.op = Op.makeSlice tt l c)
    (n : Nat) (hl : a.eval l = .int .i64 (n : Int)) (hc : a.eval c = .int .i64 (n : Int)) (hn : n ≤ 65536)
    (hK : ∀ w', Mo w' w.heap.size w.heap.size n n [] → Below w.heap.size w w' → w.heap.size < w'.heap.size → wpList Try.prog ops Q rest (a.put o.dst (.slice (some ⟨w.heap.size, 0, none⟩) n n)) w') :
    wpList Try.prog ops Q (o :: rest) a w := by
  obtain ⟨i, hi, hz, h1, h2⟩ := info_parts1 info_bytest
  refine wpList_make_full w hg l c tt hop w.heap.size 88 i (.slice none 0 0) 1 htt hi hz h1 .i64 .i64 n n n hl hc rfl rfl (by rw [h2]; omega) (by unfold maxLen; omega) (Nat.le_refl _) ?_
  intro w' ho hgr
  have hlt := (ho.lt _ rfl).2
  refine hK w' ⟨Nat.zero_le _, ?_, (fun r hr => by cases hr), List.nodup_nil⟩ (Below.grown (Below.refl _ _) hgr (Nat.le_refl _) (by intro k hk; cases hk)) hlt
  rw [madeCells_nil] at ho
  simpa using ho
/-! ### matrices that are built row by row, to be read -/
/-- Row r lies not in the block of v. -/
def Apart (v : Value) (r : Rw) : Prop := 0 < r.n → ∀ b off, r.a = some ⟨b, off, none⟩ → v.ownBlock ≠ some b
structure Mb (w0 w : World) (row : Option Nat) (base : Nat) (v : Value) (R : List Rw) : Prop where
  own : OT w0 w row base 88 1 v R.length (rwCells R)
  bt : ∀ r ∈ R, Bt w r.a r.n r.cap r.l
  apart : ∀ r ∈ R, Apart v r
theorem Bt.lt' {w : World} {b off n cap : Nat} {l : List UInt8} (h : Bt w (some ⟨b, off, none⟩) n cap l) (hn : 0 < n) : b < w.heap.size := Sl.lt h hn (by decide)
/-- bytes in a block that has not turned -/
theorem Sl.grown {w w' : World} {sz : Nat} {a : Option Addr} {n cap : Nat} {cs : List Value} (h : Sl w sz a n cap cs) {q : Option Nat} (hg : w.grownBy w' q) (hne : 0 < n → ∀ b off, a = some ⟨b, off, Option.none⟩ → q ≠ some b) : Sl w' sz a n cap cs :=
  ⟨h.le, h.max, h.len, h.nil, fun hn => by
    obtain ⟨b, off, e, hc⟩ := h.addr hn
    refine ⟨b, off, e, fun j u hj => ?_⟩
    have h1 := hc j u hj
    have hlt := World.block_lt_of_cell? _ _ h1
    rw [World.cell?_of_block (w := w) (hg.block b hlt (fun e2 => hne hn b off e e2.symm))]
    exact h1⟩
theorem Mb.nil (w0 w : World) (hb : Below w0.heap.size w0 w) (base : Nat) (hle : w0.heap.size ≤ base) : Mb w0 w none base (.slice none 0 0) [] := ⟨OT.fresh (World.ownsRow_nil _ _ _ _) hb hle, (fun r hr => by cases hr), (fun r hr => by cases hr)⟩
theorem Mb.below {w0 w w' : World} {row : Option Nat} {base : Nat} {v : Value} {R : List Rw} (h : Mb w0 w row base v R) (hb : Below w.heap.size w w') : Mb w0 w' row base v R := ⟨h.own.below hb, fun r hr => (h.bt r hr).below hb, h.apart⟩
theorem Mb.alloc {w0 w : World} {row : Option Nat} {base : Nat} {v : Value} {R : List Rw} (h : Mb w0 w row base v R) (o : Obj) : Mb w0 (w.alloc o) row base v R := h.below ((Below.refl _ _).alloc (Nat.le_refl _) o)
theorem Mb.ms {w0 w : World} {row : Option Nat} {base : Nat} {v : Value} {R : List Rw} (h : Mb w0 w row base v R) : ∃ a cap, v = .slice a R.length cap ∧ Ms w a R.length cap R := by
  obtain ⟨a, cap, e, hs⟩ := own_sl h.own.own
  exact ⟨a, cap, e, hs, h.bt⟩
theorem apart_own {w : World} {base base' n m g cap : Nat} {v : Value} {xs ys : List Value} (h : w.ownsRow base 88 1 v n xs) (hr : w.ownsRow base' 5 1 (.slice (some ⟨g, 0, none⟩) m cap) m ys) (l : List UInt8) : Apart v ⟨some ⟨g, 0, none⟩, m, cap, l⟩ := fun hn b off e => by
  cases e
  obtain ⟨cur, hg, _⟩ := own_row hr
  exact own_blk_ne h hg (by decide)
theorem Mb.more {w0 w w' : World} {row : Option Nat} {base : Nat} {v v' : Value} {R : List Rw} {r : Rw} (h : Mb w0 w row base v R) (ho : OT w0 w' row base 88 1 v' (R.length + 1) (rwCells R ++ [r.v])) (hg : w.grownBy w' v.ownBlock) (hl : v'.ownBlock = v.ownBlock ∨ ∀ k, v'.ownBlock = some k → w.heap.size ≤ k)
    (hb : Bt w r.a r.n r.cap r.l) (ha : Apart v r) : Mb w0 w' row base v' (R ++ [r]) := by
  have hbt : ∀ q ∈ R ++ [r], Bt w q.a q.n q.cap q.l ∧ Apart v q := fun q hq => by
    rcases List.mem_append.1 hq with hq | hq
    · exact ⟨h.bt q hq, h.apart q hq⟩
    · obtain rfl := List.mem_singleton.1 hq
      exact ⟨hb, ha⟩
  refine ⟨?_, fun q hq => (hbt q hq).1.grown hg (hbt q hq).2, fun q hq => ?_⟩
  · have e : rwCells (R ++ [r]) = rwCells R ++ [r.v] := by simp [rwCells]
    rw [e, List.length_append]
    exact ho
  · rcases hl with hl | hl
    · intro hn b off e
      rw [hl]; exact (hbt q hq).2 hn b off e
    · intro hn b off e e2
      have h1 := hl b e2
      have h2 := Bt.lt' (e ▸ (hbt q hq).1) hn
      omega
/-- 'append(out, r)' -/
theorem wpList_append_row {ops : Array Oper} {rest : List Oper} {o : Oper} {a : Act} {Q : Exit → Act → World → Prop} {W : World} (hgd : o.guard = none) (s xo : Operand) (tt : TypeId) (htt : Try.prog.underlying tt = some (.slice 88))
    (ho : o.op = .call { callee := .builtin .append, args := #[s, xo], argTypes := #[tt, tt] })
    {w0 : World} {row : Option Nat} (base : Nat) (v : Value) (R : List Rw) (hs : a.eval s = v) (h : Mb w0 W row base v R) (r : Rw) (b : Nat) (hbs : W.heap.size = b) (hxe : a.eval xo = .slice (some ⟨b, 0, none⟩) 1 1)
    (hb : Bt W r.a r.n r.cap r.l) (ha : Apart v r) (hlen : R.length ≤ 65536) (hbase : base ≤ W.heap.size)
    (K : ∀ v' w', Mb w0 w' row base v' (R ++ [r]) → (W.alloc (.cells #[.slice r.a r.n r.cap] 88)).grownBy w' v.ownBlock → wpList Try.prog ops Q rest (a.put o.dst v') w') : wpList Try.prog ops Q (o :: rest) a (W.alloc (.cells #[.slice r.a r.n r.cap] 88)) := by
  subst hbs
  have h1 := h.alloc (.cells #[.slice r.a r.n r.cap] 88)
  obtain ⟨i, hi, hz, e1, e2⟩ := info_parts1 info_bytest
  have hsrc : Src Try.prog 1 tt (.slice (some ⟨W.heap.size, 0, none⟩) 1 1) 1 [.slice r.a r.n r.cap] (W.alloc (.cells #[.slice r.a r.n r.cap] 88)) := Src.ofLit W #[.slice r.a r.n r.cap] 88 1 1 htt rfl (by simp [Value.oneCell'])
  obtain ⟨v', w', hr, h3, h4, h5⟩ := run_append_lies_src (P := Try.prog) (W.alloc (.cells #[.slice r.a r.n r.cap] 88)) base tt tt o.type 88 i (.slice none 0 0) 1 24 htt hi hz e1 e2 rfl (by decide) v R.length (rwCells R) h1.own.own _ 1 _ hsrc (by unfold maxLen; omega) (by omega) (by simp; omega)
  have h5' : v'.ownBlock = v.ownBlock ∨ ∀ k, v'.ownBlock = some k → (W.alloc (.cells #[.slice r.a r.n r.cap] 88)).heap.size ≤ k := by
    rcases h5 with h5 | h5
    · exact .inl h5
    · exact .inr fun k hk => by rw [h5] at hk; cases hk; exact Nat.le_refl _
  refine wpList_value hgd ?_ (K v' w' (h1.more (h1.own.more h3 h4 h5') h4 h5' (hb.alloc _) ha) h4)
  unfold execOp
  simp only [ho, resolve, invoke, builtin, Sem.run_bind, Sem.run_pure, Result.andThen_ok, List.map_toArray, List.map_cons, List.map_nil, hs, hxe, hr]
/-! ### one row of bytes, written -/
theorem byte_len {w : World} {base g n cap : Nat} {m : List UInt8} (h : w.ownsRow base 5 1 (.slice (some ⟨g, 0, none⟩) n cap) n (cb m)) : m.length = n := by
  have := h.1; simpa [cb] using this
theorem own_bt {w : World} {base g n cap : Nat} {m : List UInt8} (h : w.ownsRow base 5 1 (.slice (some ⟨g, 0, none⟩) n cap) n (cb m)) : Bt w (some ⟨g, 0, none⟩) n cap m := by
  obtain ⟨a, c, e, hs⟩ := own_sl h
  cases e
  exact hs
theorem byte_at {w : World} {base g n cap : Nat} {m : List UInt8} (h : w.ownsRow base 5 1 (.slice (some ⟨g, 0, none⟩) n cap) n (cb m)) (k : Nat) (hk : k < n) : w.cell? ⟨g, k, none⟩ = some (.int .u8 (at8 m k)) := by
  rw [h.cellAt k (by omega)]
  exact cb_get m k (by rw [byte_len h]; exact hk)
theorem byte_free {w : World} {base g n cap : Nat} {m : List UInt8} (h : w.ownsRow base 5 1 (.slice (some ⟨g, 0, none⟩) n cap) n (cb m)) (k : Nat) : w.frozen? ⟨g, k, none⟩ = false := h.frozenAt k
theorem byte_set {w : World} {base g n cap : Nat} {m : List UInt8} (h : w.ownsRow base 5 1 (.slice (some ⟨g, 0, none⟩) n cap) n (cb m)) (k v : Nat) (y : UInt8) (hy : y.toNat = v) :
    (w.setCell ⟨g, k, none⟩ (.int .u8 (v : Int))).ownsRow base 5 1 (.slice (some ⟨g, 0, none⟩) n cap) n (cb (m.set k y)) := by
  rw [cb_set, hy]
  exact (World.ownsRow.stored h k _).1
theorem getD_set {m : List UInt8} {k : Nat} (hk : k < m.length) (y : UInt8) (j : Nat) : (m.set k y).getD j 0 = if j = k then y else m.getD j 0 := by
  by_cases e : j = k
  · subst e; simp [List.getD, hk]
  · rw [if_neg e]; simp [List.getD, List.getElem?_set_ne (Ne.symm e)]
theorem getD_app (l m : List UInt8) {j : Nat} (h : j < l.length) : (l ++ m).getD j 0 = l.getD j 0 := by simp [List.getD, List.getElem?_append_left h]
theorem getD_end (l : List UInt8) (y : UInt8) {j : Nat} (h : l.length = j) : (l ++ [y]).getD j 0 = y := by subst h; simp [List.getD]
theorem rwData_at {R : List Rw} {i : Nat} (hi : i < (rwData R).length) : (rwData R)[i] = (R[i]'(by simpa [rwData] using hi)).l := by simp [rwData]
/-- A row of the call's own has come to be f's; nothing else has turned. -/
def RowRes (base g n cap : Nat) (f : Nat → UInt8) (w : World) (e : Ending) (w' : World) : Prop :=
  e = .returned (.tuple #[]) ∧ ∃ m, w'.ownsRow base 5 1 (.slice (some ⟨g, 0, none⟩) n cap) n (cb m) ∧ (∀ j, j < n → m.getD j 0 = f j) ∧ Only w w' [g]
end Go.Proofs.Ythhcdfjijagalaa
namespace Go.Proofs.Ythhcdfjijagalaa
open Go.RowKit
set_option linter.unusedVariables false
theorem lg_lt (a : Nat) (h : a < 256) : Fld.lg a < 255 := by
  have h' : ∀ a, a < 256 → Fld.lg a < 255 := by decide +kernel
  exact h' a h
/-- The tables, k powers laid. -/
def tabF (k i : Nat) : Value := if i < 510 then .int .u8 ((if i % 255 < k then Fld.pw (i % 255) else 0 : Nat) : Int) else .int .i64 ((if Fld.lg (i - 510) < k then Fld.lg (i - 510) else 0 : Nat) : Int)
/-- The tables lie in block b. -/
def Tab (w : World) (b : Nat) : Prop := w.rowIs b 183 766 (tabF 255)
theorem Tab.pow {w : World} {b : Nat} (h : Tab w b) (i : Nat) (hi : i < 510) : w.cell? ⟨b, i, none⟩ = some (.int .u8 (Fld.pw i)) := by
  rw [World.rowIs.cell h (by omega)]
  unfold tabF
  rw [if_pos hi, if_pos (by omega), Fld.pw_mod]
theorem Tab.log {w : World} {b : Nat} (h : Tab w b) (a : Nat) (ha : a < 256) : w.cell? ⟨b, 510 + a, none⟩ = some (.int .i64 (Fld.lg a)) := by
  rw [World.rowIs.cell h (by omega)]
  unfold tabF
  rw [if_neg (by omega), show 510 + a - 510 = a by omega, if_pos (lg_lt a ha)]
theorem Tab.drewN {w : World} {b : Nat} (h : Tab w b) (n : Nat) : Tab (w.drewN n) b := h
def C0 : Array Value := (Array.replicate 510 (.int .u8 0)) ++ (Array.replicate 256 (.int .i64 0))
theorem build_run {ρ : Operand → Value} {o : Oper} (w : World) (ho : o.op = .build 183 #[]) : (execOp ρ o).run Try.prog w = .ok (.value (.agg C0)) w := by
  unfold execOp; rw [ho]; kernel_rfl
/-- Rounds of Make. -/
structure Making (w : World) (k : Nat) (x i : Value) (wr : World) : Prop where
  le : k ≤ 255
  i : i = .int .i64 k
  x : x = .int .i64 (Fld.pw k)
  below : Below w.heap.size w wr
  size : wr.heap.size = w.heap.size + 1
  row : wr.rowIs w.heap.size 183 766 (tabF k)
theorem making_start (w : World) : Making w 0 (.int .i64 1) (.int .i64 0) (w.alloc (.cells C0 183)) := by
  refine ⟨by omega, rfl, rfl, (Below.refl _ _).alloc (Nat.le_refl _) _, by simp, ?_⟩
  have hs : C0.size = 766 := by simp [C0]
  have := World.rowIs_alloc w C0 183 (tabF 0) ?_
  · rwa [hs] at this
  · intro i hi
    rw [hs] at hi
    unfold C0 tabF
    simp only [Nat.not_lt_zero, if_false]
    by_cases h : i < 510
    · rw [if_pos h, Array.getElem?_append_left (by simpa using h)]
      simp [h]
    · rw [if_neg h, Array.getElem?_append_right (by simpa using Nat.le_of_not_lt h)]
      simp only [Array.size_replicate]
      rw [Array.getElem?_replicate, if_pos (by omega)]; rfl
theorem making_step {w wr : World} {k : Nat} {x i : Value} (h : Making w k x i wr) (hk : k < 255) (y : Int) (hy : y = Fld.xt (Fld.pw k)) :
    Making w (k + 1) (.int .i64 y) (.int .i64 ((k : Int) + 1)) ((((wr.setCell ⟨w.heap.size, k, none⟩ (.int .u8 (Fld.pw k))).setCell ⟨w.heap.size, k + 255, none⟩ (.int .u8 (Fld.pw k))).setCell ⟨w.heap.size, 510 + Fld.pw k, none⟩ (.int .i64 k)).drew) := by
  have hp := Fld.pw_lt k
  refine ⟨by omega, by simp, by rw [hy]; rfl, (((h.below.setCell (Nat.le_refl _) _).setCell (Nat.le_refl _) _).setCell (Nat.le_refl _) _).drew, by simp [h.size], ?_⟩
  refine World.rowIs.drew ((((h.row.set k _).set (k + 255) _).set (510 + Fld.pw k) _).congr ?_)
  intro j hj
  unfold tabF
  by_cases h1 : j = 510 + Fld.pw k
  · subst h1
    rw [if_pos rfl, if_neg (by omega), show 510 + Fld.pw k - 510 = Fld.pw k by omega, Fld.lg_pw k hk, if_pos (by omega)]
  rw [if_neg h1]
  by_cases h2 : j = k + 255
  · subst h2
    rw [if_pos rfl, if_pos (by omega), if_pos (by omega), show (k + 255) % 255 = k by omega]
  rw [if_neg h2]
  by_cases h3 : j = k
  · subst h3
    rw [if_pos rfl, if_pos (by omega), if_pos (by omega), show j % 255 = j by omega]
  rw [if_neg h3]
  by_cases h4 : j < 510
  · rw [if_pos h4, if_pos h4]
    by_cases h5 : j % 255 < k
    · rw [if_pos h5, if_pos (by omega)]
    · rw [if_neg h5, if_neg (by omega)]
  · rw [if_neg h4, if_neg h4]
    have hl : ∀ a, a < 256 → Fld.lg a = k → a = Fld.pw k ∨ k = 0 := by
      intro a ha e
      by_cases h0 : a = 0
      · right
        subst h0
        have : Fld.lg 0 = 0 := by decide +kernel
        omega
      · exact .inl (by rw [← e]; exact (Fld.pw_lg a ha h0).1.symm)
    by_cases h5 : Fld.lg (j - 510) < k
    · rw [if_pos h5, if_pos (by omega)]
    · rw [if_neg h5]
      split
      · rename_i h6
        rcases hl (j - 510) (by omega) (by omega) with e | e
        · omega
        · subst e; simp; omega
      · rfl
set_option maxRecDepth 100000 in
set_option maxHeartbeats 1000000 in
theorem Make_call (w : World) :
    Calls Try.prog 111 #[] w fun e w' => Grew (.pointer (some ⟨w.heap.size, 0, none⟩)) w e w' ∧ Tab w' w.heap.size ∧ w'.heap.size = w.heap.size + 1 := by
  go_enter Try.func111, Try.ntmps111
  go_wp2_with (refine wpList_value rfl (build_run _ rfl) ?_)
  go_loopg [2, 6] 255 (fun g x i wr => ∃ k : Nat, g = 255 - k ∧ Making w k x i wr)
  case atStart => exact ⟨0, rfl, making_start w⟩
  case round =>
    obtain ⟨k, rfl, hm⟩ := hrel
    obtain rfl := hm.i
    obtain rfl := hm.x
    have hk := hm.le
    by_cases hlt : k < 255
    · have l1 := Fld.pw_lt k
      have f0 : ∀ j, wr.frozen? ⟨w.heap.size, j, none⟩ = false := hm.row.frozen
      have c1 := hm.row.cell (i := k) (by omega)
      have c2 := hm.row.cell (i := k + 255) (by omega)
      have c3 := hm.row.cell (i := 510 + Fld.pw k) (by omega)
      go_wp2
      go_region
      go_wp2
      all_goals go_roundg (255 - (k + 1))
      all_goals first | omega | skip
      · refine ⟨k + 1, rfl, making_step hm hlt _ ?_⟩
        have := i64_xor_nat (2 * Fld.pw k) 285 (by omega) (by omega)
        unfold Fld.xt
        rw [if_pos (by omega), ← this]
        congr 1; omega
      · refine ⟨k + 1, rfl, making_step hm hlt _ ?_⟩
        unfold Fld.xt
        rw [if_neg (by omega)]
        omega
    · obtain rfl : k = 255 := by omega
      go_wp2
      go_ret
      exact ⟨⟨rfl, hm.below⟩, hm.row, hm.size⟩
set_option maxHeartbeats 400000 in
theorem TMul_call (b x y : Nat) (hx : x < 256) (hy : y < 256) (w : World) (h : Tab w b) :
    Calls Try.prog 112 #[.pointer (some ⟨b, 0, none⟩), .int .u8 x, .int .u8 y] w (Drew (.int .u8 (Fld.mul x y)) w) := by
  have h1 := h.log x hx
  have h2 := h.log y hy
  have l1 := lg_lt x hx
  have l2 := lg_lt y hy
  have h3 := h.pow (Fld.lg x + Fld.lg y) (by omega)
  by_cases c1 : x = 0
  · subst c1
    go_enter Try.func112, Try.ntmps112
    go_wp2
    go_ret
    exact ⟨by rw [Fld.zero_mul]; rfl, 0, rfl⟩
  have d1 : ((x : Int) == 0) = false := by simpa using c1
  by_cases c2 : y = 0
  · subst c2
    go_enter Try.func112, Try.ntmps112
    go_wp2
    go_ret
    exact ⟨by rw [Fld.mul_zero]; rfl, 0, rfl⟩
  have d2 : ((y : Int) == 0) = false := by simpa using c2
  have HM := hid (show Fld.mul x y = Fld.pw (Fld.lg x + Fld.lg y) by unfold Fld.mul; rw [if_neg (by omega)])
  go_enter Try.func112, Try.ntmps112
  go_wp2
  go_quiet (fail)
  go_wp2
  go_ret
  exact ⟨by rw [HM.out]; rfl, nq, rfl⟩
set_option maxHeartbeats 400000 in
theorem TInv_call (b x : Nat) (hx : x < 256) (w : World) (h : Tab w b) :
    Calls Try.prog 115 #[.pointer (some ⟨b, 0, none⟩), .int .u8 x] w (Drew (.int .u8 (Fld.inv x)) w) := by
  have h1 := h.log x hx
  have l1 := lg_lt x hx
  have h3 := h.pow (255 - Fld.lg x) (by omega)
  by_cases c1 : x = 0
  · subst c1
    go_enter Try.func115, Try.ntmps115
    go_wp2
    go_ret
    exact ⟨rfl, 0, rfl⟩
  have d1 : ((x : Int) == 0) = false := by simpa using c1
  have HM := hid (show Fld.inv x = Fld.pw (255 - Fld.lg x) by unfold Fld.inv; rw [if_neg (by omega)])
  go_enter Try.func115, Try.ntmps115
  go_wp2
  go_quiet (fail)
  go_wp2
  go_ret
  exact ⟨by rw [HM.out]; rfl, nq, rfl⟩
set_option maxHeartbeats 400000 in
theorem fInv_call (x : Nat) (hx : x < 256) (w : World) :
    Calls Try.prog 110 #[.int .u8 x] w (Grew (.int .u8 (Fld.inv x)) w) := by
  go_enter Try.func110, Try.ntmps110
  go_wp2_with (first
    | (go_at_call 111; refine (Make_call _).mono ?_; rintro e w1 ⟨⟨rfl, hb⟩, ht, hs⟩)
    | (go_at_call 115; refine (TInv_call _ _ hx _ ht).mono ?_; rintro e w2 ⟨rfl, n, rfl⟩))
  go_ret
  exact ⟨rfl, below_drewN hb n⟩
end Go.Proofs.Ythhcdfjijagalaa
