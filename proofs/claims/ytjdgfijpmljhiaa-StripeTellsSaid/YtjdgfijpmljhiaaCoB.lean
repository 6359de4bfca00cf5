/- CodeH, GridW, CodeI, CodeJ, CodeN: joined. -/
import Derived.Test.YtjdgfijpmljhiaaCodeF
import Derived.Test.YtjdgfijpmljhiaaCodeL
import Derived.Test.YtjdgfijpmljhiaaGridL
import Derived.BigRegion
import Derived.Maps.Own
import Derived.Maps.OwnOps
import Derived.Maps.OwnSet
import Derived.Maps.Views
/- The closed fact that the laws of chapter 3 ask first is true; all shards of data. -/
namespace Go.Proofs.Ytjdgfijpmljhiaa
open Go.RowKit
set_option linter.unusedVariables false
theorem lit_mat2n (w : World) (n : Nat) (hn : n ≤ 1000) (r0 r1 : Array Value) (l0 l1 : List UInt8) (h0 : r0.toList = cb l0) (h1 : r1.toList = cb l1) (n0 : l0.length = n) (n1 : l1.length = n) (a b c : Nat) (ha : a = w.heap.size) (hb : b = w.heap.size + 1) (hc : c = w.heap.size + 1 + 1) :
    Ms (((w.alloc (.cells r0 5)).alloc (.cells r1 5)).alloc (.cells #[.slice (some ⟨a, 0, none⟩) n n, .slice (some ⟨b, 0, none⟩) n n] 48)) (some ⟨c, 0, none⟩) 2 2 [⟨some ⟨a, 0, none⟩, n, n, l0⟩, ⟨some ⟨b, 0, none⟩, n, n, l1⟩] := by
  subst ha hb hc
  have x0 := lit_bt w r0 l0 (by rw [n0]; unfold maxLen; omega) h0
  have x1 := lit_bt (w.alloc (.cells r0 5)) r1 l1 (by rw [n1]; unfold maxLen; omega) h1
  rw [n0] at x0
  rw [n1] at x1
  have e1 : (w.alloc (.cells r0 5)).heap.size = w.heap.size + 1 := by simp
  rw [e1] at x1
  have e2 : ((w.alloc (.cells r0 5)).alloc (.cells r1 5)).heap.size = w.heap.size + 1 + 1 := by simp
  refine ⟨⟨by decide, by decide, rfl, (fun e => by cases e), fun _ => ⟨_, 0, rfl, fun j u hj => ?_⟩⟩, fun r hr => ?_⟩
  · rw [Nat.zero_add, ← e2, cell_new]
    simpa [rwCells, Rw.v] using hj
  · simp only [List.mem_cons, List.not_mem_nil, or_false] at hr
    rcases hr with rfl | rfl
    · exact (x0.alloc _).alloc _
    · exact x1.alloc _
/-- a literal of rows that lie in memory -/
theorem lit_rows (w : World) (R : List Rw) (hb : ∀ r ∈ R, Bt w r.a r.n r.cap r.l) (hl : R.length ≤ 1000) (cs : Array Value) (hc : cs.toList = rwCells R) : Ms (w.alloc (.cells cs 48)) (some ⟨w.heap.size, 0, none⟩) R.length R.length R := by
  refine ⟨⟨Nat.le_refl _, by unfold maxLen; omega, by rw [rwCells_length, Nat.mul_one], (fun e => by cases e), fun _ => ⟨_, 0, rfl, fun j u hj => ?_⟩⟩, fun r hr => (hb r hr).alloc _⟩
  rw [Nat.zero_add, cell_new, ← hj, ← hc]
  simp
theorem fine21 (x y : UInt8) : Mat.Fine [[x], [y]] 2 1 := ⟨rfl, fun r hr => by
  simp only [List.mem_cons, List.not_mem_nil, or_false] at hr
  rcases hr with rfl | rfl <;> rfl, by decide, by decide, by decide, by decide⟩

end Go.Proofs.Ytjdgfijpmljhiaa

/- Walk of GridTwice. -/
namespace Go.Proofs.Ytjdgfijpmljhiaa
open Go.RowKit
set_option linter.unusedVariables false
theorem Ms.ofOwn {W : World} {base g n cap : Nat} {A : List Rw} (h : W.ownsRow base 48 1 (.slice (some ⟨g, 0, none⟩) n cap) n (rwCells A)) (hb : ∀ r ∈ A, Bt W r.a r.n r.cap r.l) : Ms W (some ⟨g, 0, Option.none⟩) n cap A := by
  obtain ⟨a, c, e, hs⟩ := own_sl h
  cases e
  exact ⟨hs, hb⟩
theorem rwCells_set (A : List Rw) (i : Nat) (r : Rw) : rwCells (A.set i r) = (rwCells A).set i r.v := by simp [rwCells, List.map_set]
theorem rwData_set (A : List Rw) (i : Nat) (r : Rw) : rwData (A.set i r) = (rwData A).set i r.l := by simp [rwData, List.map_set]
theorem Mat.Fine.set {L : List (List UInt8)} {n m : Nat} (h : Mat.Fine L n m) (i : Nat) (r : List UInt8) (hr : r.length = m) : Mat.Fine (L.set i r) n m :=
  ⟨by rw [List.length_set]; exact h.rows, fun q hq => by
    rcases List.mem_or_eq_of_mem_set hq with h1 | rfl
    · exact h.cols _ h1
    · exact hr, h.n1, h.n2, h.m1, h.m2⟩
/-- A row twice can't be undone. -/
theorem inv_twice {L K : List (List UInt8)} {n i j : Nat} {e : Int} (h : Mat.Fine L n n) (hi : i < n) (hj : j < n) (hne : i ≠ j) (hI : Mat.InvR (L.set i (L[j]'(by rw [h.rows]; exact hj))) K e) : e = 6 := by
  have hjL : j < L.length := by rw [h.rows]; exact hj
  have hiL : i < L.length := by rw [h.rows]; exact hi
  rcases hI.ok (h.set i _ (h.cols _ (List.getElem_mem _))) with ⟨_, h2, _⟩ | ⟨f, _, hU, _⟩
  · exact h2
  · have h1 := hU.2 i j hi hj
    have h2 := hU.2 j j hj hj
    have e1 : ∀ k, Mat.ent (L.set i L[j]) i k = Mat.ent (L.set i L[j]) j k := fun k => by
      rw [Mat.ent_set hiL, if_pos rfl, Mat.ent_set hiL, if_neg (Ne.symm hne), Mat.ent_at hjL]
    have e2 : Mat.mul n (Mat.ent (L.set i L[j])) f i j = Mat.mul n (Mat.ent (L.set i L[j])) f j j := Mat.sum_congr fun k _ => by rw [e1]
    rw [h1, h2] at e2
    unfold Mat.one at e2
    rw [if_neg hne, if_pos rfl] at e2
    exact absurd e2 (by decide)
/-- Nor can a row of noughts. -/
theorem inv_nought {L K : List (List UInt8)} {n i : Nat} {e : Int} (h : Mat.Fine L n n) (hi : i < n) (hI : Mat.InvR (L.set i (List.replicate n 0)) K e) : e = 6 := by
  have hiL : i < L.length := by rw [h.rows]; exact hi
  rcases hI.ok (h.set i _ (by simp)) with ⟨_, h2, _⟩ | ⟨f, _, hU, _⟩
  · exact h2
  · have h1 := hU.2 i i hi hi
    have e2 : Mat.mul n (Mat.ent (L.set i (List.replicate n 0))) f i i = 0 := Mat.sum_zero fun k hk => by
      rw [Mat.ent_set hiL, if_pos rfl]
      simp [List.getD, hk, Mat.zero_mul]
    rw [h1] at e2
    unfold Mat.one at e2
    rw [if_pos rfl] at e2
    exact absurd e2 (by decide)

end Go.Proofs.Ytjdgfijpmljhiaa

/- Walk of CodeGood. -/
namespace Go.Proofs.Ytjdgfijpmljhiaa
open Go.RowKit
set_option linter.unusedVariables false
theorem rwData_append (A B : List Rw) : rwData (A ++ B) = rwData A ++ rwData B := by simp [rwData]

end Go.Proofs.Ytjdgfijpmljhiaa

/- Walk of CodeMends. -/
namespace Go.Proofs.Ytjdgfijpmljhiaa
open Go.RowKit
set_option linter.unusedVariables false
/-- The slice (a, n, cap) has the numbers zs. -/
abbrev Is (w : World) (a : Option Addr) (n cap : Nat) (zs : List Int) : Prop := Sl w 1 a n cap (zs.map (Value.int .i64))
theorem Is.cnt {w : World} {a : Option Addr} {n cap : Nat} {zs : List Int} (h : Is w a n cap zs) : zs.length = n := by
  have := h.len; simpa using this
theorem Is.at {w : World} {b off n cap : Nat} {zs : List Int} (h : Is w (some ⟨b, off, none⟩) n cap zs) (i : Nat) (hi : i < zs.length) : w.cell? ⟨b, off + i, none⟩ = some (.int .i64 zs[i]) :=
  Sl.cell h (by have := h.cnt; omega) (by simp [hi])
theorem getD_rw {X : List Rw} {i : Nat} (hi : i < X.length) : (rwData X).getD i [] = X[i].l := by simp [List.getD, rwData, hi]

end Go.Proofs.Ytjdgfijpmljhiaa

/- Walk of CodeRows: a set of numbers, kept by a map. -/
namespace Go.Proofs.Ytjdgfijpmljhiaa
open Go.RowKit Go.Maps
set_option linter.unusedVariables false
set_option maxRecDepth 100000
theorem plainElem_bool_inv {v : Value} {z : DataW Unit × List MemPlace} (h : (plainElem (H := Unit) Try.prog 4) v = some z) : ∃ x, v = .bool x ∧ z = (.lit (.bool x), []) := by
  unfold plainElem at h
  rw [Try.underlying4] at h
  cases v <;> simp at h
  exact ⟨_, rfl, h.symm⟩
/-- The map at b has just the numbers U. -/
structure Had (w : World) (b : Nat) (U : List Nat) (D : DataW Unit) : Prop where
  own : w.ownsMap Try.prog 3 (plainElem (H := Unit) Try.prog 4) b U.length D
  at_ : ∀ u : Nat, u < 16 → D.atKey (.int .i64 (u : Int)) (.lit (.bool false)) = .lit (.bool (decide (u ∈ U)))
theorem key_of (u : Nat) (h : u < 16) : keyOf Try.prog 3 (.int .i64 (u : Int)) = some (.int .i64 (u : Int)) := keyOf_int_mk Try.underlying3 (WalkArith.wf_i64 (by omega))
theorem Had.look {w : World} {b : Nat} {U : List Nat} {D : DataW Unit} (h : Had w b U D) (u : Nat) (hu : u < 16) : (Instr.lookup 53 (.map (some b)) (.int .i64 (u : Int)) false).run Try.prog w = .ok (.bool (decide (u ∈ U))) w := by
  obtain ⟨v, ps, hrun, hv⟩ := h.own.lookup (int_keyed Try.underlying3) Try.underlying53 (z := .bool false) (by kernel_rfl) (plainElem_bool Try.underlying4 false) (key_of u hu)
  rw [h.at_ u hu] at hv
  obtain ⟨x, rfl, e⟩ := plainElem_bool_inv hv
  simp at e
  rw [hrun, e.1]
theorem Had.put {w w' : World} {b : Nat} {U : List Nat} {D : DataW Unit} (h : Had w b U D) {u : Nat} (hu : u < 16) (ho : w'.ownsMap Try.prog 3 (plainElem (H := Unit) Try.prog 4) b (U.length + 1) (D.put (.int .i64 (u : Int)) (.lit (.bool true)))) : Had w' b (U ++ [u]) (D.put (.int .i64 (u : Int)) (.lit (.bool true))) := by
  refine ⟨by rw [List.length_append]; exact ho, fun v hv => ?_⟩
  by_cases e : v = u
  · subst e
    rw [atKey_put_same h.own.isMap (by trivial)]
    simp
  · rw [atKey_put_other (by intro e2; apply e; injection e2 with _ e3; omega), h.at_ v hv]
    have : (v ∈ U ++ [u]) ↔ v ∈ U := by simp [e]
    rw [decide_eq_decide.2 this]
theorem Had.kept {w w' : World} {b : Nat} {U : List Nat} {D : DataW Unit} {q : Option Nat} (h : Had w b U D) (hg : w.grownBy w' q) (hq : some b ≠ q) : Had w' b U D := ⟨h.own.kept hg hq, h.at_⟩
theorem Had.start (w : World) : Had (w.alloc (.map #[] 0)) w.heap.size [] (.map []) := ⟨World.ownsMap_made _ _ _ _, fun u _ => rfl⟩
theorem Had.blk {w : World} {b : Nat} {U : List Nat} {D : DataW Unit} (h : Had w b U D) : ∃ es c, w.heap[b]? = some (.map es c) := by
  obtain ⟨es, c, hb, _⟩ := h.own
  exact ⟨es, c, hb⟩
theorem own_map_ne {w : World} {base : Nat} {e : TypeId} {sz n b : Nat} {o : Value} {xs : List Value} {U : List Nat} {D : DataW Unit} (hown : w.ownsRow base e sz o n xs) (h : Had w b U D) : o.ownBlock ≠ some b := by
  intro he
  obtain ⟨es, c, hb⟩ := h.blk
  rcases hown.2 with ⟨rfl, _⟩ | ⟨g, cap, cur, rfl, _, hh, _⟩
  · simp [Value.ownBlock] at he
  · have : g = b := by simpa [Value.ownBlock] using he
    subst this
    rw [hb] at hh
    cases hh
theorem Mat.RowsR.fit {d z : Int} {L : List (List UInt8)} {e : Int} (h : Mat.RowsR d z L e) (he : e = 0) : ∃ D s : Nat, d = D ∧ z = s ∧ 1 ≤ D ∧ D ≤ 8 ∧ s ≤ 4 ∧ Mat.Rep L (D + s) D (Mat.rowM D) := by
  subst he
  unfold Mat.RowsR at h
  split at h
  · rename_i h1; exact absurd h.2.symm h1
  · rename_i h1
    have hc := Mat.wrongC_ok (Classical.not_not.1 h1)
    obtain ⟨D, rfl⟩ := Int.eq_ofNat_of_zero_le (a := d) (by omega)
    obtain ⟨s, rfl⟩ := Int.eq_ofNat_of_zero_le (a := z) (by omega)
    have e1 : ((D : Int) + (s : Int)).toNat = D + s := by omega
    rw [e1, Int.toNat_natCast] at h
    exact ⟨D, s, rfl, rfl, by omega, by omega, by omega, h.1⟩
theorem Mat.RowsR.bad {d z : Int} {L : List (List UInt8)} {e : Int} (h : Mat.RowsR d z L e) (he : e ≠ 0) : L = [] := by
  unfold Mat.RowsR at h
  split at h
  · exact h.1
  · exact absurd h.2 he

end Go.Proofs.Ytjdgfijpmljhiaa
