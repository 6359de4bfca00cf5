/- How arguments that came in are read: a view. -/
import Derived.Test.YtjdgfijpmljhiaaOpenE
import Derived.Test.YtjdgfijpmljhiaaVwMem
namespace Go.Proofs.Ytjdgfijpmljhiaa
open Go.ChangeShapes Go.WideShapes Go.ChangeAt Go.RowKit Go.Joins Go.Deep
set_option linter.unusedVariables false
section
variable {H : Type} {enc : TypeId × Value → H} {w : World} {base : Nat} {spare : Nat → Bool} {held : Bool}
theorem accs_of {w : World} {b off n cap : Nat} (V : Nat → Vw.Acc) (hl : n ≤ cap) (hm : cap ≤ maxLen)
    (hc : ∀ i, i < n → (w.cell? ⟨b, off + i * 4, none⟩ = some (.string (V i).s) ∧ w.cell? ⟨b, off + (i * 4 + 1), none⟩ = some (.int .i64 (V i).sum) ∧ w.cell? ⟨b, off + (i * 4 + 2), none⟩ = some (.int .i64 (V i).cnt) ∧ w.cell? ⟨b, off + (i * 4 + 3), none⟩ = some (.bool (V i).opn)) ∧ (V i).s.size ≤ maxLen) :
    As w (some ⟨b, off, none⟩) n cap ((List.range n).map V) := by
  refine ⟨⟨hl, hm, by rw [acCells_length]; simp, (fun e => by cases e), fun hn => ⟨b, off, rfl, fun j u hj => ?_⟩⟩, fun e he => ?_⟩
  · have hjl : j < n * 4 := by
      have := (List.getElem?_eq_some_iff.1 hj).1
      rw [acCells_length] at this; simpa using this
    have hi : j / 4 < n := by omega
    obtain ⟨g0, g1, g2, g3⟩ := acCells_get ((List.range n).map V) (j / 4) (by simpa using hi)
    obtain ⟨⟨c0, c1, c2, c3⟩, _⟩ := hc (j / 4) hi
    simp only [List.getElem_map, List.getElem_range] at g0 g1 g2 g3
    have h3 : j % 4 = 0 ∨ j % 4 = 1 ∨ j % 4 = 2 ∨ j % 4 = 3 := by omega
    rcases h3 with h3 | h3 | h3 | h3
    · have e : j = j / 4 * 4 := by omega
      rw [e, g0] at hj; rw [e, c0, hj]
    · have e : j = j / 4 * 4 + 1 := by omega
      rw [e, g1] at hj; rw [e, c1, hj]
    · have e : j = j / 4 * 4 + 2 := by omega
      rw [e, g2] at hj; rw [e, c2, hj]
    · have e : j = j / 4 * 4 + 3 := by omega
      rw [e, g3] at hj; rw [e, c3, hj]
  · obtain ⟨i, hi, rfl⟩ := List.mem_map.1 he
    exact (hc i (List.mem_range.1 hi)).2
set_option maxRecDepth 100000 in
theorem open_accs {fuel : Nat} {v : Value} {x : DataW H × List MemPlace} (h : DataW.trod enc Try.prog w base spare held fuel 22 [v] = some x) : ∃ a n cap l, v = .slice a n cap ∧ As w a n cap l := by
  rcases open_elems Try.underlying22 Try.underlying31 (by kernel_rfl) (by kernel_rfl) h with rfl | ⟨a, n, cap, rfl, hl, hm, hf⟩
  · exact ⟨none, 0, 0, [], rfl, Sl.none _ _, fun e he => by cases he⟩
  · rcases Nat.eq_zero_or_pos n with h0 | h0
    · subst h0
      exact ⟨some a, 0, cap, [], rfl, ⟨hl, hm, rfl, (fun e => by cases e), fun h => absurd h (by omega)⟩, fun e he => by cases he⟩
    · obtain ⟨u, y, k, hu, _⟩ := hf 0 h0 0 _ rfl
      obtain ⟨b, off, rfl⟩ := off_of hu
      have hp : ∀ i, i < n → ∃ e : Vw.Acc, (w.cell? ⟨b, off + i * 4, none⟩ = some (.string e.s) ∧ w.cell? ⟨b, off + (i * 4 + 1), none⟩ = some (.int .i64 e.sum) ∧ w.cell? ⟨b, off + (i * 4 + 2), none⟩ = some (.int .i64 e.cnt) ∧ w.cell? ⟨b, off + (i * 4 + 3), none⟩ = some (.bool e.opn)) ∧ e.s.size ≤ maxLen := by
        intro i hi
        obtain ⟨u0, y0, k0, h0, t0⟩ := hf i hi 0 _ rfl
        obtain ⟨u1, y1, k1, h1, t1⟩ := hf i hi 1 _ rfl
        obtain ⟨u2, y2, k2, h2, t2⟩ := hf i hi 2 _ rfl
        obtain ⟨u3, y3, k3, h3, t3⟩ := hf i hi 3 _ rfl
        obtain ⟨s, e0, _, hs⟩ := DataW.trod_string Try.underlying9 t0
        obtain ⟨g1, e1, _, _⟩ := DataW.trod_int Try.underlying3 t1
        obtain ⟨g2, e2, _, _⟩ := DataW.trod_int Try.underlying3 t2
        obtain ⟨g3, e3, _⟩ := DataW.trod_bool Try.underlying4 t3
        simp at e0 e1 e2 e3
        subst e0 e1 e2 e3
        rw [add_off] at h0 h1 h2 h3
        exact ⟨⟨s, g1, g2, g3⟩, ⟨h0, h1, h2, h3⟩, hs⟩
      have : Inhabited Vw.Acc := ⟨⟨⟨#[]⟩, 0, 0, false⟩⟩
      obtain ⟨V, hV⟩ := choose_lt (α := Vw.Acc) hp
      exact ⟨_, n, cap, _, rfl, accs_of V hl hm hV⟩
set_option maxRecDepth 100000 in
theorem open_view {b0 : Nat} {v : Value} {d : DataW H} {p : List MemPlace} (hv : Value.okWide Try.prog w .any b0 24 v)
    (h : DataW.Trod enc Try.prog w base spare held 24 v d p) : ∃ (u : Int) (a : Option Addr) (n cap : Nat) (l : List Vw.Acc), v = .agg #[.int .i64 u, .slice a n cap] ∧ As w a n cap l ∧ -9223372036854775808 ≤ u ∧ u ≤ 9223372036854775807 := by
  obtain ⟨v0, v1, y0, y1, n, rfl, rfl, rfl, h0, h1⟩ := open_agg2 Try.underlying24 (by kernel_rfl) (by kernel_rfl) hv h
  obtain ⟨u, e0, _, w0⟩ := DataW.trod_int Try.underlying3 h0
  obtain ⟨a, n, cap, l, rfl, hb⟩ := open_accs h1
  simp at e0
  subst e0
  exact ⟨u, a, n, cap, l, rfl, hb, i64_bounds' w0⟩
set_option maxRecDepth 100000 in
theorem open_str {b0 : Nat} {v : Value} {d : DataW H} {p : List MemPlace} (hv : Value.okWide Try.prog w .any b0 9 v)
    (h : DataW.Trod enc Try.prog w base spare held 9 v d p) : ∃ s : ByteArray, v = .string s ∧ s.size ≤ maxLen := by
  obtain ⟨s, rfl⟩ := okWide_string Try.underlying9 hv
  obtain ⟨f, h⟩ := h
  obtain ⟨s', e0, _, hs⟩ := DataW.trod_string Try.underlying9 h
  simp [Value.cells] at e0
  subst e0
  exact ⟨s, rfl, hs⟩
end
end Go.Proofs.Ytjdgfijpmljhiaa
