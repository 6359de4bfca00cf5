/- OpenM, OpenR: joined. -/
import Derived.Test.YtjdgfijpmljhiaaOpA
import Derived.Test.YtjdgfijpmljhiaaMx
import Derived.Deep.Slices
import Derived.Deep.Fields
import Derived.SizedLaws
/- How matrices that came in are read. -/
namespace Go.Proofs.Ytjdgfijpmljhiaa
open Go.ChangeShapes Go.WideShapes Go.ChangeAt Go.RowKit Go.Joins Go.Deep
set_option linter.unusedVariables false
theorem rows_of {w : World} {b off n cap : Nat} (V : Nat → Rw) (hl : n ≤ cap) (hm : cap ≤ maxLen) (hc : ∀ i, i < n → w.cell? ⟨b, off + i, none⟩ = some (V i).v ∧ Bt w (V i).a (V i).n (V i).cap (V i).l) :
    Ms w (some ⟨b, off, none⟩) n cap ((List.range n).map V) := by
  refine ⟨⟨hl, hm, by rw [rwCells_length]; simp, (fun e => by cases e), fun hn => ⟨b, off, rfl, fun j u hj => ?_⟩⟩, fun e he => ?_⟩
  · have hjl : j < n := by
      have := (List.getElem?_eq_some_iff.1 hj).1
      rw [rwCells_length] at this; simpa using this
    have g0 := rwCells_get ((List.range n).map V) j (by simpa using hjl)
    simp only [List.getElem_map, List.getElem_range] at g0
    rw [g0] at hj
    rw [(hc j hjl).1, ← hj]
    rfl
  · obtain ⟨i, hi, rfl⟩ := List.mem_map.1 he
    exact (hc i (List.mem_range.1 hi)).2
section
variable {H : Type} {enc : TypeId × Value → H} {w : World} {base : Nat} {spare : Nat → Bool} {held : Bool}
theorem open_rows {fuel : Nat} {t : TypeId} {v : Value} {x : DataW H × List MemPlace} (ht : Try.prog.underlying t = some (.slice 48)) (h : DataW.trod enc Try.prog w base spare held fuel t [v] = some x) : ∃ a n cap R, v = .slice a n cap ∧ Ms w a n cap R := by
  rcases open_slice ht h with ⟨h0, _⟩ | ⟨a, n, cap, m, k, D, Pl, hcs, _, hl, hm, hmm, _, hi⟩
  · exact ⟨none, 0, 0, [], by simpa using h0, Ms.nil w⟩
  · obtain rfl : v = .slice (some a) n cap := by simpa using hcs
    rcases Nat.eq_zero_or_pos n with h0 | h0
    · subst h0
      exact ⟨some a, 0, cap, [], rfl, ⟨hl, hm, rfl, (fun e => by cases e), fun h => absurd h (by omega)⟩, fun e he => by cases he⟩
    have hC : Try.prog.cellsOf 48 = 1 := by kernel_rfl
    have hp : ∀ i, i < n → ∃ r : Rw, w.cell? (a.add i) = some r.v ∧ Bt w r.a r.n r.cap r.l := by
      intro i hin
      have him : i < m := by rw [hmm]; split <;> omega
      obtain ⟨cs', h1, h2⟩ := hi i him
      rw [hC] at h1
      obtain ⟨_, hlen, hat⟩ := World.cells?_some h1
      obtain ⟨u, rfl⟩ : ∃ u, cs' = [u] := List.length_eq_one_iff.1 hlen
      obtain ⟨ra, rn, rc, rl, rfl, hb⟩ := open_bt h2
      refine ⟨⟨ra, rn, rc, rl⟩, ?_, hb⟩
      have := hat 0 (by omega)
      rw [Go.Deep.add_add] at this
      simpa [Rw.v] using this
    obtain ⟨r0, hr0, _⟩ := hp 0 h0
    obtain ⟨b, off, rfl⟩ : ∃ b off, a = ⟨b, off, none⟩ := by
      obtain ⟨b, off, spot⟩ := a
      have hspot : spot = none := by
        have := World.cell?_spot hr0
        unfold Addr.add at this
        simpa using this
      exact ⟨b, off, by rw [hspot]⟩
    have : Inhabited Rw := ⟨⟨none, 0, 0, []⟩⟩
    obtain ⟨V, hV⟩ := choose_lt (α := Rw) hp
    refine ⟨_, n, cap, _, rfl, rows_of V hl hm fun i hi => ?_⟩
    have := hV i hi
    rw [add_off] at this
    exact this
end
end Go.Proofs.Ytjdgfijpmljhiaa

/- How matrices that came in are read, and how much they may take: the form's reach. -/
namespace Go.Proofs.Ytjdgfijpmljhiaa
open Go.ChangeShapes Go.WideShapes Go.ChangeAt Go.RowKit Go.Joins Go.Deep
set_option linter.unusedVariables false
theorem mem_weightsAll {H : Type} {P : Program} {e : TypeId} {u : Nat} : ∀ {l : List (DataW H)} {d : DataW H}, d ∈ l → u ∈ d.weights P e → u ∈ DataW.weightsAll P e l
  | x :: r, d, hd, hu => by
    unfold DataW.weightsAll
    rcases List.mem_cons.1 hd with rfl | h
    · exact List.mem_append_left _ hu
    · exact List.mem_append_right _ (mem_weightsAll h hu)
theorem bytesOf_u8 : Try.prog.bytesOf 5 = 1 := by kernel_rfl
theorem bytesOf_bytest : Try.prog.bytesOf 48 = 24 := by kernel_rfl
theorem open_bt_reach {H : Type} {enc : TypeId × Value → H} {w : World} {base fuel : Nat} {spare : Nat → Bool} {held : Bool} {v : Value} {x : DataW H × List MemPlace}
    (h : DataW.trod enc Try.prog w base spare held fuel 48 [v] = some x) (hw : ∀ u ∈ x.1.weights Try.prog 48, u ≤ reachBytes) : ∃ a n cap l, v = .slice a n cap ∧ Bt w a n cap l ∧ n ≤ reachBytes := by
  have h' := h
  obtain ⟨a, n, cap, l, rfl, hb⟩ := open_bt h
  refine ⟨a, n, cap, l, rfl, hb, ?_⟩
  rcases open_ints Try.underlying48 Try.underlying5 (by kernel_rfl) h' with ⟨hcs, _⟩ | ⟨a', n', cap', zs, hcs, _, hl, hm, hz, rfl, hc, _⟩
  · have : n = 0 := by simp at hcs; exact hcs.2.1
    subst this; exact Nat.zero_le _
  · simp at hcs
    obtain ⟨_, rfl, rfl⟩ := hcs
    have h1 := hw ((lits .u8 (zs.take n) : List (DataW H)).length + (lits .u8 (zs.drop n) : List (DataW H)).length) (by
      show _ ∈ DataW.weights Try.prog 48 (DataW.slice (lits .u8 (zs.take n)) (lits .u8 (zs.drop n)))
      unfold DataW.weights
      rw [Try.underlying48]
      simp [bytesOf_u8])
    have h2 : n ≤ zs.length := by rw [hz]; split <;> omega
    simp [lits] at h1
    omega
section
variable {H : Type} {enc : TypeId × Value → H} {w : World} {base : Nat} {spare : Nat → Bool} {held : Bool}
theorem open_rows_reach {fuel : Nat} {t : TypeId} {v : Value} {x : DataW H × List MemPlace} (ht : Try.prog.underlying t = some (.slice 48)) (h : DataW.trod enc Try.prog w base spare held fuel t [v] = some x) (hw : ∀ u ∈ x.1.weights Try.prog t, u ≤ reachBytes) :
    ∃ a n cap R, v = .slice a n cap ∧ Ms w a n cap R ∧ n * 24 ≤ reachBytes ∧ ∀ r ∈ R, r.n ≤ reachBytes := by
  rcases open_slice ht h with ⟨h0, _⟩ | ⟨a, n, cap, m, k, D, Pl, hcs, _, hl, hm, hmm, hx, hi⟩
  · exact ⟨none, 0, 0, [], by simpa using h0, Ms.nil _, by simp, fun r hr => by cases hr⟩
  · obtain rfl : v = .slice (some a) n cap := by simpa using hcs
    have hx1 : x.1 = .slice ((List.range n).map D) ((List.range (m - n)).map fun j => D (n + j)) := by rw [hx]
    have hws : ∀ u, (u = (((List.range n).map D).length + ((List.range (m - n)).map fun j => D (n + j)).length) * 24 ∨ u ∈ DataW.weightsAll Try.prog 48 ((List.range n).map D)) → u ≤ reachBytes := fun u hu => by
      refine hw u ?_
      rw [hx1]
      unfold DataW.weights
      rw [ht]
      simp only [bytesOf_bytest, List.mem_cons, List.mem_append]
      rcases hu with rfl | hu
      · exact .inl rfl
      · exact .inr (.inl hu)
    have hn24 : n * 24 ≤ reachBytes := by
      have := hws _ (.inl rfl)
      simp at this
      omega
    rcases Nat.eq_zero_or_pos n with h0 | h0
    · subst h0
      exact ⟨some a, 0, cap, [], rfl, ⟨⟨hl, hm, rfl, (fun e => by cases e), fun h => absurd h (by omega)⟩, fun e he => by cases he⟩, by simp, fun r hr => by cases hr⟩
    have hC : Try.prog.cellsOf 48 = 1 := by kernel_rfl
    have hp : ∀ i, i < n → ∃ r : Rw, w.cell? (a.add i) = some r.v ∧ Bt w r.a r.n r.cap r.l ∧ r.n ≤ reachBytes := by
      intro i hin
      have him : i < m := by rw [hmm]; split <;> omega
      obtain ⟨cs', h1, h2⟩ := hi i him
      rw [hC] at h1
      obtain ⟨_, hlen, hat⟩ := World.cells?_some h1
      obtain ⟨u, rfl⟩ : ∃ u, cs' = [u] := List.length_eq_one_iff.1 hlen
      obtain ⟨ra, rn, rc, rl, rfl, hb, hr⟩ := open_bt_reach h2 (fun u hu => hws u (.inr (mem_weightsAll (List.mem_map.2 ⟨i, List.mem_range.2 hin, rfl⟩) hu)))
      refine ⟨⟨ra, rn, rc, rl⟩, ?_, hb, hr⟩
      have := hat 0 (by omega)
      rw [Go.Deep.add_add] at this
      simpa [Rw.v] using this
    obtain ⟨r0, hr0, _⟩ := hp 0 h0
    obtain ⟨b, off, rfl⟩ : ∃ b off, a = ⟨b, off, none⟩ := by
      obtain ⟨b, off, spot⟩ := a
      have hspot : spot = none := by
        have := World.cell?_spot hr0
        unfold Addr.add at this
        simpa using this
      exact ⟨b, off, by rw [hspot]⟩
    have : Inhabited Rw := ⟨⟨none, 0, 0, []⟩⟩
    obtain ⟨V, hV⟩ := choose_lt (α := Rw) hp
    refine ⟨_, n, cap, _, rfl, rows_of V hl hm fun i hi => ?_, hn24, fun r hr => ?_⟩
    · have := hV i hi
      rw [add_off] at this
      exact ⟨this.1, this.2.1⟩
    · obtain ⟨i, hi, rfl⟩ := List.mem_map.1 hr
      exact (hV i (List.mem_range.1 hi)).2.2
end
end Go.Proofs.Ytjdgfijpmljhiaa
