/- Plain laws of blocks: a byte that is another one is found; cut short, or made longer, it is none. No program in sight. -/
import Derived.Test.YtkngfobnfocpjaaBlkL
namespace Go.Proofs.Ytkngfobnfocpjaa.Blk
set_option linter.unusedVariables false
theorem bytes_56 (g s z : Nat) (l : List UInt8) (h : wrong g s z l.length = 0) : 256 * at8 (bytes g s z l) 5 + at8 (bytes g s z l) 6 = l.length := by
  have hw := wrong_zero h
  have e5 : at8 (bytes g s z l) 5 = l.length / 256 := by show (UInt8.ofNat (l.length / 256)).toNat = _; rw [ofNat8]; omega
  have e6 : at8 (bytes g s z l) 6 = l.length % 256 := by show (UInt8.ofNat l.length).toNat = _; rw [ofNat8]
  rw [e5, e6]; omega
/-- CUT SHORT, OR MADE LONGER, IT IS NONE. -/
theorem parse_cut (g s z : Nat) (l c : List UInt8) (h : wrong g s z l.length = 0) (hc : c.length ≠ l.length + 11) (h5 : 12 ≤ c.length → at8 c 5 = at8 (bytes g s z l) 5 ∧ at8 c 6 = at8 (bytes g s z l) 6) : parse c = ⟨2, 0, 0, 0, []⟩ := by
  refine parse_form c ?_
  by_cases h12 : 12 ≤ c.length
  · obtain ⟨a, b⟩ := h5 h12
    right; right
    rw [a, b, bytes_56 g s z l h]; omega
  · left; omega
theorem at8_set_ne (l : List UInt8) (i k : Nat) (y : UInt8) (h : i ≠ k) : at8 (l.set i y) k = at8 l k := by
  unfold at8 List.getD; rw [List.getElem?_set_ne h]
theorem at8_set_eq (l : List UInt8) (i : Nat) (y : UInt8) (h : i < l.length) : at8 (l.set i y) i = y.toNat := by
  unfold at8 List.getD; rw [List.getElem?_set_self h]; rfl
theorem at8_get (l : List UInt8) (i : Nat) (h : i < l.length) : at8 l i = l[i].toNat := by
  unfold at8 List.getD; rw [List.getElem?_eq_getElem h]; rfl
/-- A BYTE THAT IS ANOTHER ONE IS FOUND. -/
theorem parse_set (g s z : Nat) (l : List UInt8) (h : wrong g s z l.length = 0) (i : Nat) (y : UInt8) (hi : i < (bytes g s z l).length) (hy : y ≠ (bytes g s z l)[i]) :
    parse ((bytes g s z l).set i y) = ⟨2, 0, 0, 0, []⟩ ∨ parse ((bytes g s z l).set i y) = ⟨9, 0, 0, 0, []⟩ := by
  have hw := wrong_zero h
  have hlen : ((bytes g s z l).set i y).length = l.length + 11 := by rw [List.length_set, bytes_length]
  by_cases hf : ((bytes g s z l).set i y).length < 12 ∨ at8 ((bytes g s z l).set i y) 0 ≠ 83 ∨ 256 * at8 ((bytes g s z l).set i y) 5 + at8 ((bytes g s z l).set i y) 6 ≠ ((bytes g s z l).set i y).length - 11
  · exact .inl (parse_form _ hf)
  · right
    have f0 : at8 ((bytes g s z l).set i y) 0 = 83 := by omega
    have f5 : 256 * at8 ((bytes g s z l).set i y) 5 + at8 ((bytes g s z l).set i y) 6 + 7 = 7 + l.length := by omega
    have hb := body_length g s z l
    refine parse_sum _ (7 + l.length) (by rw [hlen]; omega) (by omega) f0 f5 ?_
    rw [bytes_length] at hi
    have hr0 : rd4 (bytes g s z l) (7 + l.length) = Crc.sum (body g s z l) := by unfold bytes; exact rd4_le4 _ _ _ (Crc.sum_lt _) hb
    by_cases hk : i < 7 + l.length
    · have ht : ((bytes g s z l).set i y).take (7 + l.length) = (body g s z l).set i y := by
        unfold bytes; rw [List.set_append_left _ _ (by omega)]
        exact List.take_left' (by rw [List.length_set, hb])
      have hr : rd4 ((bytes g s z l).set i y) (7 + l.length) = rd4 (bytes g s z l) (7 + l.length) := by
        unfold rd4
        rw [at8_set_ne _ _ _ _ (by omega), at8_set_ne _ _ _ _ (by omega), at8_set_ne _ _ _ _ (by omega), at8_set_ne _ _ _ _ (by omega)]
      rw [ht, hr, hr0]
      intro e
      refine Crc.sum_set (body g s z l) i (by omega) y ?_ e.symm
      intro e2
      apply hy
      rw [e2]
      unfold bytes
      exact (List.getElem_append_left (by omega)).symm
    · have ht : ((bytes g s z l).set i y).take (7 + l.length) = body g s z l := by
        unfold bytes; rw [List.set_append_right _ _ (by omega)]
        exact List.take_left' hb
      rw [ht, ← hr0]
      intro e
      apply hy
      have hne : at8 ((bytes g s z l).set i y) i = y.toNat := at8_set_eq _ _ _ (by rw [bytes_length]; omega)
      have hge : at8 (bytes g s z l) i = ((bytes g s z l)[i]'(by rw [bytes_length]; omega)).toNat := at8_get _ _ _
      apply UInt8.toNat_inj.1
      rw [← hne, ← hge]
      have b := fun k => at8_lt ((bytes g s z l).set i y) k
      have c := fun k => at8_lt (bytes g s z l) k
      have b0 := b (7 + l.length); have b1 := b (7 + l.length + 1); have b2 := b (7 + l.length + 2); have b3 := b (7 + l.length + 3)
      have c0 := c (7 + l.length); have c1 := c (7 + l.length + 1); have c2 := c (7 + l.length + 2); have c3 := c (7 + l.length + 3)
      unfold rd4 at e
      have hi4 : i = 7 + l.length ∨ i = 7 + l.length + 1 ∨ i = 7 + l.length + 2 ∨ i = 7 + l.length + 3 := by omega
      rcases hi4 with rfl | rfl | rfl | rfl <;> omega

end Go.Proofs.Ytkngfobnfocpjaa.Blk
