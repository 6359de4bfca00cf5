/- How matrices that came in are read. -/
import Derived.Test.YtoedbglbcbgdfaaOpenB
import Derived.Test.YtoedbglbcbgdfaaMx
import Derived.Deep.Slices
import Derived.Deep.Fields
namespace Go.Proofs.Ytoedbglbcbgdfaa
open Go.ChangeShapes Go.WideShapes Go.ChangeAt Go.RowKit Go.Joins Go.Deep
set_option linter.unusedVariables false
theorem rows_of {w : World} {b off n cap : Nat} (V : Nat → Rw) (hl : n ≤ cap) (hm : cap ≤ maxLen) (hc : ∀ i, i < n → w.cell? ⟨b, off + i, none⟩ = some (V i).v ∧ Bt w (V i).a (V i).n (V i).cap (V i).l) :
    Ms w (some ⟨b, off, none⟩) n cap ((List.range n).map V) := by
  refine ⟨⟨hl, hm, by rw [rwCells_length]; simp, (fun e => by cases e), fun hn => ⟨b, off, rfl, fun j u hj => ?_⟩⟩, fun e he => ?_⟩
  · have hjl : j < n := by
      have := (List.getElem?_eq_some_iff.1 hj).1
      rw [rwCells_length] at this; simpa using this
    have g0 := rwCells_get ((List.range n).map V) j (by simpa using hjl)
    simp only [List.getElem_map, List.getElem_range] at g0
    rw [g0] at hj
    rw [(hc j hjl).1, ← hj]
    rfl
  · obtain ⟨i, hi, rfl⟩ := List.mem_map.1 he
    exact (hc i (List.mem_range.1 hi)).2
section
variable {H : Type} {enc : TypeId × Value → H} {w : World} {base : Nat} {spare : Nat → Bool} {held : Bool}
theorem open_rows {fuel : Nat} {t : TypeId} {v : Value} {x : DataW H × List MemPlace} (ht : Try.prog.underlying t = some (.slice 27)) (h : DataW.trod enc Try.prog w base spare held fuel t [v] = some x) : ∃ a n cap R, v = .slice a n cap ∧ Ms w a n cap R := by
  rcases open_slice ht h with ⟨h0, _⟩ | ⟨a, n, cap, m, k, D, Pl, hcs, _, hl, hm, hmm, _, hi⟩
  · exact ⟨none, 0, 0, [], by simpa using h0, Ms.nil w⟩
  · obtain rfl : v = .slice (some a) n cap := by simpa using hcs
    rcases Nat.eq_zero_or_pos n with h0 | h0
    · subst h0
      exact ⟨some a, 0, cap, [], rfl, ⟨hl, hm, rfl, (fun e => by cases e), fun h => absurd h (by omega)⟩, fun e he => by cases he⟩
    have hC : Try.prog.cellsOf 27 = 1 := by kernel_rfl
    have hp : ∀ i, i < n → ∃ r : Rw, w.cell? (a.add i) = some r.v ∧ Bt w r.a r.n r.cap r.l := by
      intro i hin
      have him : i < m := by rw [hmm]; split <;> omega
      obtain ⟨cs', h1, h2⟩ := hi i him
      rw [hC] at h1
      obtain ⟨_, hlen, hat⟩ := World.cells?_some h1
      obtain ⟨u, rfl⟩ : ∃ u, cs' = [u] := List.length_eq_one_iff.1 hlen
      obtain ⟨ra, rn, rc, rl, rfl, hb⟩ := open_bt h2
      refine ⟨⟨ra, rn, rc, rl⟩, ?_, hb⟩
      have := hat 0 (by omega)
      rw [Go.Deep.add_add] at this
      simpa [Rw.v] using this
    obtain ⟨r0, hr0, _⟩ := hp 0 h0
    obtain ⟨b, off, rfl⟩ : ∃ b off, a = ⟨b, off, none⟩ := by
      obtain ⟨b, off, spot⟩ := a
      have hspot : spot = none := by
        have := World.cell?_spot hr0
        unfold Addr.add at this
        simpa using this
      exact ⟨b, off, by rw [hspot]⟩
    have : Inhabited Rw := ⟨⟨none, 0, 0, []⟩⟩
    obtain ⟨V, hV⟩ := choose_lt (α := Rw) hp
    refine ⟨_, n, cap, _, rfl, rows_of V hl hm fun i hi => ?_⟩
    have := hV i hi
    rw [add_off] at this
    exact this
end
end Go.Proofs.Ytoedbglbcbgdfaa
