/- How lists of harms that came in are read. -/
import Derived.Test.YtjdgfijpmljhiaaOpA
import Derived.Test.YtjdgfijpmljhiaaStripeH
namespace Go.Proofs.Ytjdgfijpmljhiaa
open Go.ChangeShapes Go.WideShapes Go.ChangeAt Go.RowKit Go.Joins Go.Deep
set_option linter.unusedVariables false

theorem hs_of {w : World} {b off n cap : Nat} (V : Nat → HarmV) (hl : n ≤ cap) (hm : cap ≤ maxLen)
    (hc : ∀ i, i < n → (w.cell? ⟨b, off + i * 3, none⟩ = some (.int .i64 (V i).sh) ∧ w.cell? ⟨b, off + (i * 3 + 1), none⟩ = some (.int .i64 (V i).t) ∧ w.cell? ⟨b, off + (i * 3 + 2), none⟩ = some (.int .u8 ((V i).y.toNat : Int))) ∧ -9223372036854775808 ≤ (V i).t ∧ (V i).t ≤ 9223372036854775807) :
    Hs w (some ⟨b, off, none⟩) n cap ((List.range n).map V) := by
  refine ⟨⟨hl, hm, by rw [hmCells_length]; simp, (fun e => by cases e), fun hn => ⟨b, off, rfl, fun j u hj => ?_⟩⟩, fun e he => ?_⟩
  · have hjl : j < n * 3 := by
      have := (List.getElem?_eq_some_iff.1 hj).1
      rw [hmCells_length] at this; simpa using this
    have hi : j / 3 < n := by omega
    obtain ⟨g0, g1, g2⟩ := hmCells_get ((List.range n).map V) (j / 3) (by simpa using hi)
    obtain ⟨⟨c0, c1, c2⟩, _⟩ := hc (j / 3) hi
    simp only [List.getElem_map, List.getElem_range] at g0 g1 g2
    have h3 : j % 3 = 0 ∨ j % 3 = 1 ∨ j % 3 = 2 := by omega
    rcases h3 with h3 | h3 | h3
    · have e : j = j / 3 * 3 := by omega
      rw [e, g0] at hj; rw [e, c0, hj]
    · have e : j = j / 3 * 3 + 1 := by omega
      rw [e, g1] at hj; rw [e, c1, hj]
    · have e : j = j / 3 * 3 + 2 := by omega
      rw [e, g2] at hj; rw [e, c2, hj]
  · obtain ⟨i, hi, rfl⟩ := List.mem_map.1 he
    exact (hc i (List.mem_range.1 hi)).2
section
variable {H : Type} {enc : TypeId × Value → H} {w : World} {base : Nat} {spare : Nat → Bool} {held : Bool}
set_option maxRecDepth 100000 in
theorem open_harms {fuel : Nat} {v : Value} {x : DataW H × List MemPlace} (h : DataW.trod enc Try.prog w base spare held fuel 49 [v] = some x) : ∃ a n cap l, v = .slice a n cap ∧ Hs w a n cap l := by
  rcases open_elems Try.underlying49 Try.underlying79 (by kernel_rfl) (by kernel_rfl) h with rfl | ⟨a, n, cap, rfl, hl, hm, hf⟩
  · exact ⟨none, 0, 0, [], rfl, Sl.none _ _, fun e he => by cases he⟩
  · rcases Nat.eq_zero_or_pos n with h0 | h0
    · subst h0
      exact ⟨some a, 0, cap, [], rfl, ⟨hl, hm, rfl, (fun e => by cases e), fun h => absurd h (by omega)⟩, fun e he => by cases he⟩
    · obtain ⟨u, y, k, hu, _⟩ := hf 0 h0 0 _ rfl
      obtain ⟨b, off, rfl⟩ := off_of hu
      have hp : ∀ i, i < n → ∃ e : HarmV, (w.cell? ⟨b, off + i * 3, none⟩ = some (.int .i64 e.sh) ∧ w.cell? ⟨b, off + (i * 3 + 1), none⟩ = some (.int .i64 e.t) ∧ w.cell? ⟨b, off + (i * 3 + 2), none⟩ = some (.int .u8 (e.y.toNat : Int))) ∧ -9223372036854775808 ≤ e.t ∧ e.t ≤ 9223372036854775807 := by
        intro i hi
        obtain ⟨u0, y0, k0, h0, t0⟩ := hf i hi 0 _ rfl
        obtain ⟨u1, y1, k1, h1, t1⟩ := hf i hi 1 _ rfl
        obtain ⟨u2, y2, k2, h2, t2⟩ := hf i hi 2 _ rfl
        obtain ⟨g0, e0, _, _⟩ := DataW.trod_int Try.underlying3 t0
        obtain ⟨g1, e1, _, w1⟩ := DataW.trod_int Try.underlying3 t1
        obtain ⟨g2, e2, _, w2⟩ := DataW.trod_int Try.underlying5 t2
        simp at e0 e1 e2
        subst e0 e1 e2
        rw [add_off] at h0 h1 h2
        have hb := u8_bounds w2
        refine ⟨⟨g0, g1, UInt8.ofNat g2.toNat⟩, ⟨h0, h1, ?_⟩, i64_bounds w1⟩
        rw [UInt8.toNat_ofNat']
        have : (((g2.toNat % 2 ^ 8 : Nat)) : Int) = g2 := by omega
        rw [this]; exact h2
      have : Inhabited HarmV := ⟨⟨0, 0, 0⟩⟩
      obtain ⟨V, hV⟩ := choose_lt (α := HarmV) hp
      exact ⟨_, n, cap, _, rfl, hs_of V hl hm hV⟩
end

end Go.Proofs.Ytjdgfijpmljhiaa
