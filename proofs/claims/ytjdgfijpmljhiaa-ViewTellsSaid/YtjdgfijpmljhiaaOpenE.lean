/- How arguments that came in are read: events, batches. -/
import Derived.Test.YtjdgfijpmljhiaaOpenB
import Derived.Test.YtjdgfijpmljhiaaEvMem
import Derived.Deep.Slices
import Derived.Deep.Fields
namespace Go.Proofs.Ytjdgfijpmljhiaa
open Go.ChangeShapes Go.WideShapes Go.ChangeAt Go.RowKit Go.Joins Go.Deep
set_option linter.unusedVariables false
section
variable {H : Type} {enc : TypeId × Value → H} {w : World} {base : Nat} {spare : Nat → Bool} {held : Bool}
/-- A slice of structs whose fields take a cell each: the cells of each element, field by field. -/
theorem open_elems {t e : TypeId} {fs : Array Field} {fuel : Nat} {v : Value} {x : DataW H × List MemPlace} (ht : Try.prog.underlying t = some (.slice e)) (he : Try.prog.underlying e = some (.struct fs)) (hone : oneCellFields Try.prog fs = true) (hC : Try.prog.cellsOf e = fs.size)
    (h : DataW.trod enc Try.prog w base spare held fuel t [v] = some x) :
    v = .slice none 0 0 ∨ ∃ (a : Addr) (n cap : Nat), v = .slice (some a) n cap ∧ n ≤ cap ∧ cap ≤ maxLen ∧ ∀ i, i < n → ∀ (j : Nat) (f : Field), fs[j]? = some f → ∃ (u : Value) (y : DataW H × List MemPlace) (k : Nat), w.cell? (a.add (i * fs.size + j)) = some u ∧ DataW.trod enc Try.prog w base spare held k f.type [u] = some y := by
  rcases open_slice ht h with ⟨h0, _⟩ | ⟨a, n, cap, m, k, D, Pl, hcs, _, hl, hm, hmm, _, hi⟩
  · left; simpa using h0
  · right
    refine ⟨a, n, cap, by simpa using hcs, hl, hm, fun i hin j f hf => ?_⟩
    have him : i < m := by rw [hmm]; split <;> omega
    obtain ⟨cs', h1, h2⟩ := hi i him
    rw [hC] at h1
    obtain ⟨_, hlen, hat⟩ := World.cells?_some h1
    obtain ⟨ys, k', _, _, _, hyl, hfs⟩ := DataW.trod_struct he h2
    have hj := (Array.getElem?_eq_some_iff.1 hf).1
    obtain ⟨ho, hk⟩ := hone_of hone j f hf
    have hd := hfs j f hf
    rw [ho, hk, List.drop_eq_getElem_cons (by omega)] at hd
    have hy : ys[j]? = some (ys[j]'(by omega)) := List.getElem?_eq_getElem (by omega)
    refine ⟨cs'[j]'(by omega), _, k', ?_, hd.trans hy⟩
    have := hat j hj
    rw [← Go.Deep.add_add, this, List.getElem?_eq_getElem (by omega)]
theorem off_of {w : World} {a : Addr} {u : Value} {k : Nat} (h : w.cell? (a.add (0 * k + 0)) = some u) : ∃ b off, a = ⟨b, off, none⟩ := by
  rw [Nat.zero_mul] at h
  obtain ⟨b, off, spot⟩ := a
  have hspot : spot = none := by
    have := World.cell?_spot h
    unfold Addr.add at this
    simpa using this
  exact ⟨b, off, by rw [hspot]⟩

theorem evs_of {w : World} {b off n cap : Nat} (V : Nat → Evt.Ev) (hl : n ≤ cap) (hm : cap ≤ maxLen)
    (hc : ∀ i, i < n → (w.cell? ⟨b, off + i * 3, none⟩ = some (.string (V i).s) ∧ w.cell? ⟨b, off + (i * 3 + 1), none⟩ = some (.int .i64 (V i).k) ∧ w.cell? ⟨b, off + (i * 3 + 2), none⟩ = some (.int .i64 (V i).n)) ∧ (V i).s.size ≤ maxLen) :
    Es w (some ⟨b, off, none⟩) n cap ((List.range n).map V) := by
  refine ⟨⟨hl, hm, by rw [evCells_length]; simp, (fun e => by cases e), fun hn => ⟨b, off, rfl, fun j u hj => ?_⟩⟩, fun e he => ?_⟩
  · have hjl : j < n * 3 := by
      have := (List.getElem?_eq_some_iff.1 hj).1
      rw [evCells_length] at this; simpa using this
    have hi : j / 3 < n := by omega
    obtain ⟨g0, g1, g2⟩ := evCells_get ((List.range n).map V) (j / 3) (by simpa using hi)
    obtain ⟨⟨c0, c1, c2⟩, _⟩ := hc (j / 3) hi
    simp only [List.getElem_map, List.getElem_range] at g0 g1 g2
    have h3 : j % 3 = 0 ∨ j % 3 = 1 ∨ j % 3 = 2 := by omega
    rcases h3 with h3 | h3 | h3
    · have e : j = j / 3 * 3 := by omega
      rw [e, g0] at hj; rw [e, c0, hj]
    · have e : j = j / 3 * 3 + 1 := by omega
      rw [e, g1] at hj; rw [e, c1, hj]
    · have e : j = j / 3 * 3 + 2 := by omega
      rw [e, g2] at hj; rw [e, c2, hj]
  · obtain ⟨i, hi, rfl⟩ := List.mem_map.1 he
    exact (hc i (List.mem_range.1 hi)).2
set_option maxRecDepth 100000 in
theorem open_events {fuel : Nat} {v : Value} {x : DataW H × List MemPlace} (h : DataW.trod enc Try.prog w base spare held fuel 25 [v] = some x) : ∃ a n cap l, v = .slice a n cap ∧ Es w a n cap l := by
  rcases open_elems Try.underlying25 Try.underlying34 (by kernel_rfl) (by kernel_rfl) h with rfl | ⟨a, n, cap, rfl, hl, hm, hf⟩
  · exact ⟨none, 0, 0, [], rfl, Sl.none _ _, fun e he => by cases he⟩
  · rcases Nat.eq_zero_or_pos n with h0 | h0
    · subst h0
      exact ⟨some a, 0, cap, [], rfl, ⟨hl, hm, rfl, (fun e => by cases e), fun h => absurd h (by omega)⟩, fun e he => by cases he⟩
    · obtain ⟨u, y, k, hu, _⟩ := hf 0 h0 0 _ rfl
      obtain ⟨b, off, rfl⟩ := off_of hu
      have hp : ∀ i, i < n → ∃ e : Evt.Ev, (w.cell? ⟨b, off + i * 3, none⟩ = some (.string e.s) ∧ w.cell? ⟨b, off + (i * 3 + 1), none⟩ = some (.int .i64 e.k) ∧ w.cell? ⟨b, off + (i * 3 + 2), none⟩ = some (.int .i64 e.n)) ∧ e.s.size ≤ maxLen := by
        intro i hi
        obtain ⟨u0, y0, k0, h0, t0⟩ := hf i hi 0 _ rfl
        obtain ⟨u1, y1, k1, h1, t1⟩ := hf i hi 1 _ rfl
        obtain ⟨u2, y2, k2, h2, t2⟩ := hf i hi 2 _ rfl
        obtain ⟨s, e0, _, hs⟩ := DataW.trod_string Try.underlying9 t0
        obtain ⟨g1, e1, _, _⟩ := DataW.trod_int Try.underlying3 t1
        obtain ⟨g2, e2, _, _⟩ := DataW.trod_int Try.underlying3 t2
        simp at e0 e1 e2
        subst e0 e1 e2
        rw [add_off] at h0 h1 h2
        exact ⟨⟨s, g1, g2⟩, ⟨h0, h1, h2⟩, hs⟩
      have : Inhabited Evt.Ev := ⟨⟨⟨#[]⟩, 0, 0⟩⟩
      obtain ⟨V, hV⟩ := choose_lt (α := Evt.Ev) hp
      exact ⟨_, n, cap, _, rfl, evs_of V hl hm hV⟩

set_option maxRecDepth 100000 in
theorem open_event {b0 : Nat} {v : Value} {d : DataW H} {p : List MemPlace} (hv : Value.okWide Try.prog w .any b0 34 v)
    (h : DataW.Trod enc Try.prog w base spare held 34 v d p) : ∃ e : Evt.Ev, v = evVal e ∧ e.s.size ≤ maxLen := by
  obtain ⟨v0, v1, v2, y0, y1, y2, n, rfl, rfl, rfl, h0, h1, h2⟩ := open_agg3 Try.underlying34 (by kernel_rfl) (by kernel_rfl) hv h
  obtain ⟨s, e0, _, hs⟩ := DataW.trod_string Try.underlying9 h0
  obtain ⟨k, e1, _, _⟩ := DataW.trod_int Try.underlying3 h1
  obtain ⟨m, e2, _, _⟩ := DataW.trod_int Try.underlying3 h2
  simp at e0 e1 e2
  subst e0 e1 e2
  exact ⟨⟨s, k, m⟩, rfl, hs⟩

end
end Go.Proofs.Ytjdgfijpmljhiaa
