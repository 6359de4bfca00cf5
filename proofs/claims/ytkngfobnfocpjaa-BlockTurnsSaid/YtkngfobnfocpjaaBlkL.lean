/- Plain laws of blocks: what is written is read, in one way alone. No program in sight. -/
import Derived.Test.YtkngfobnfocpjaaBlk
namespace Go.Proofs.Ytkngfobnfocpjaa.Blk
set_option linter.unusedVariables false
theorem at8_right (l m : List UInt8) (i k : Nat) (h : l.length = k) : at8 (l ++ m) (k + i) = at8 m i := by
  subst h
  unfold at8 List.getD
  rw [List.getElem?_append_right (by omega), Nat.add_sub_cancel_left]
theorem body_length (g s z : Nat) (l : List UInt8) : (body g s z l).length = 7 + l.length := by unfold body; rw [List.length_append, hdr_length]
theorem bytes_length (g s z : Nat) (l : List UInt8) : (bytes g s z l).length = l.length + 11 := by unfold bytes; rw [List.length_append, body_length, le4_length]; omega
theorem ofNat8 (n : Nat) : (UInt8.ofNat n).toNat = n % 256 := UInt8.toNat_ofNat'
theorem rd4_le4 (b : List UInt8) (c k : Nat) (h : c < 4294967296) (hk : b.length = k) : rd4 (b ++ le4 c) k = c := by
  unfold rd4
  rw [at8_right b (le4 c) 1 k hk, at8_right b (le4 c) 2 k hk, at8_right b (le4 c) 3 k hk]
  have h0 : at8 (b ++ le4 c) k = at8 (le4 c) 0 := at8_right b (le4 c) 0 k hk
  rw [h0]
  show (UInt8.ofNat c).toNat + 256 * (UInt8.ofNat (c / 256)).toNat + 65536 * (UInt8.ofNat (c / 65536)).toNat + 16777216 * (UInt8.ofNat (c / 16777216)).toNat = c
  rw [ofNat8, ofNat8, ofNat8, ofNat8]; omega
theorem parse_bytes (g s z : Nat) (l : List UInt8) (h : wrong g s z l.length = 0) : parse (bytes g s z l) = ⟨0, g, s, z, l⟩ := by
  have hw := wrong_zero h
  have e1 : at8 (bytes g s z l) 1 = g := by show (UInt8.ofNat g).toNat = g; rw [ofNat8]; omega
  have e2 : at8 (bytes g s z l) 2 = s := by show (UInt8.ofNat s).toNat = s; rw [ofNat8]; omega
  have e3 : at8 (bytes g s z l) 3 = z / 256 := by show (UInt8.ofNat (z / 256)).toNat = _; rw [ofNat8]; omega
  have e4 : at8 (bytes g s z l) 4 = z % 256 := by show (UInt8.ofNat z).toNat = _; rw [ofNat8]
  have e5 : at8 (bytes g s z l) 5 = l.length / 256 := by show (UInt8.ofNat (l.length / 256)).toNat = _; rw [ofNat8]; omega
  have e6 : at8 (bytes g s z l) 6 = l.length % 256 := by show (UInt8.ofNat l.length).toNat = _; rw [ofNat8]
  have hz : 256 * (z / 256) + z % 256 = z := by omega
  have ht : (bytes g s z l).take (7 + l.length) = body g s z l := by
    unfold bytes; rw [← body_length g s z l]; exact List.take_left
  have hd : ((bytes g s z l).drop 7).take (7 + l.length - 7) = l := by
    have : (bytes g s z l).drop 7 = l ++ le4 (Crc.sum (body g s z l)) := rfl
    rw [this, Nat.add_sub_cancel_left]; exact List.take_left
  have hk : 7 + l.length - 7 = l.length := by omega
  have := parse_ok (bytes g s z l) (7 + l.length) (by rw [bytes_length]; omega) (by omega) rfl (by rw [e5, e6]; omega)
    (by rw [ht]; unfold bytes; exact rd4_le4 _ _ _ (Crc.sum_lt _) (body_length g s z l)) (by rw [e1, e2, e3, e4, hz, hk]; exact h)
  rw [this, e1, e2, e3, e4, hz, hd]
theorem parse_zero (l : List UInt8) (h : (parse l).err ≠ 0) : parse l = ⟨(parse l).err, 0, 0, 0, []⟩ := by
  unfold parse at *
  split
  · rfl
  · split
    · rfl
    · split
      · rfl
      · rename_i h1 h2 h3
        rw [if_neg h1, if_neg h2, if_neg h3] at h
        exact absurd rfl h
theorem parse_back (l : List UInt8) (h : (parse l).err = 0) : wrong (parse l).g (parse l).s (parse l).z (parse l).data.length = 0 ∧ bytes (parse l).g (parse l).s (parse l).z (parse l).data = l := by
  have hp : ¬ (l.length < 12 ∨ at8 l 0 ≠ 83 ∨ 256 * at8 l 5 + at8 l 6 ≠ l.length - 11) := by
    intro h1; rw [parse_form l h1] at h; cases h
  have h12 : 12 ≤ l.length := by omega
  have h0 : at8 l 0 = 83 := by omega
  have h5 : 256 * at8 l 5 + at8 l 6 = l.length - 11 := by omega
  obtain ⟨n, hn⟩ : ∃ n, l.length = n + 11 := ⟨l.length - 11, by omega⟩
  have h1 : 1 ≤ n := by omega
  rcases l with _ | ⟨a0, _ | ⟨a1, _ | ⟨a2, _ | ⟨a3, _ | ⟨a4, _ | ⟨a5, _ | ⟨a6, t⟩⟩⟩⟩⟩⟩⟩
  all_goals simp only [List.length_nil, List.length_cons] at hn
  iterate 7 omega
  have htl : t.length = n + 4 := by omega
  obtain ⟨d, r, rfl, hd⟩ : ∃ d r, t = d ++ r ∧ d.length = n := ⟨t.take n, t.drop n, (List.take_append_drop n t).symm, by rw [List.length_take]; omega⟩
  have hr : r.length = 4 := by rw [List.length_append] at htl; omega
  subst hd
  obtain ⟨b0, b1, b2, b3, rfl⟩ : ∃ b0 b1 b2 b3, r = [b0, b1, b2, b3] := by
    match r, hr with
    | [b0, b1, b2, b3], _ => exact ⟨b0, b1, b2, b3, rfl⟩
  have hll : (a0 :: a1 :: a2 :: a3 :: a4 :: a5 :: a6 :: (d ++ [b0, b1, b2, b3])).length = d.length + 7 + 4 := by simp
  have h5' : 256 * a5.toNat + a6.toNat = d.length := by
    have : 256 * a5.toNat + a6.toNat = (a0 :: a1 :: a2 :: a3 :: a4 :: a5 :: a6 :: (d ++ [b0, b1, b2, b3])).length - 11 := h5
    rw [hll] at this; omega
  have hK : 256 * at8 (a0 :: a1 :: a2 :: a3 :: a4 :: a5 :: a6 :: (d ++ [b0, b1, b2, b3])) 5 + at8 (a0 :: a1 :: a2 :: a3 :: a4 :: a5 :: a6 :: (d ++ [b0, b1, b2, b3])) 6 + 7 = d.length + 7 := by rw [h5, hll]; omega
  have htk : (a0 :: a1 :: a2 :: a3 :: a4 :: a5 :: a6 :: (d ++ [b0, b1, b2, b3])).take (d.length + 7) = a0 :: a1 :: a2 :: a3 :: a4 :: a5 :: a6 :: d := by
    show a0 :: a1 :: a2 :: a3 :: a4 :: a5 :: a6 :: (d ++ [b0, b1, b2, b3]).take d.length = _
    rw [List.take_left]
  have hdp : ((a0 :: a1 :: a2 :: a3 :: a4 :: a5 :: a6 :: (d ++ [b0, b1, b2, b3])).drop 7).take (d.length + 7 - 7) = d := by
    show (d ++ [b0, b1, b2, b3]).take _ = _
    rw [Nat.add_sub_cancel]; exact List.take_left
  have hsum : rd4 (a0 :: a1 :: a2 :: a3 :: a4 :: a5 :: a6 :: (d ++ [b0, b1, b2, b3])) (d.length + 7) = Crc.sum (a0 :: a1 :: a2 :: a3 :: a4 :: a5 :: a6 :: d) := by
    refine Classical.byContradiction fun hs => ?_
    rw [parse_sum _ (d.length + 7) hll (by omega) h0 hK (by rw [htk]; exact hs)] at h
    cases h
  have hw : wrong (a1.toNat) (a2.toNat) ((256 * a3.toNat + a4.toNat : Nat) : Int) (d.length + 7 - 7) = 0 := by
    refine Classical.byContradiction fun hs => ?_
    rw [parse_wrong _ (d.length + 7) hll (by omega) h0 hK (by rw [htk]; exact hsum) hs] at h
    exact hs h
  rw [parse_ok _ (d.length + 7) hll (by omega) h0 hK (by rw [htk]; exact hsum) hw, hdp]
  rw [Nat.add_sub_cancel] at hw
  refine ⟨hw, ?_⟩
  have f0 : (83 : UInt8) = a0 := UInt8.toNat_inj.1 h0.symm
  have f1 : UInt8.ofNat a1.toNat = a1 := UInt8.ofNat_toNat
  have f2 : UInt8.ofNat a2.toNat = a2 := UInt8.ofNat_toNat
  have l4 := UInt8.toNat_lt a4
  have l6 := UInt8.toNat_lt a6
  have l3 := UInt8.toNat_lt a3
  have l5 := UInt8.toNat_lt a5
  have f3 : UInt8.ofNat ((256 * a3.toNat + a4.toNat) / 256) = a3 := UInt8.toNat_inj.1 (by rw [ofNat8]; omega)
  have f4 : UInt8.ofNat (256 * a3.toNat + a4.toNat) = a4 := UInt8.toNat_inj.1 (by rw [ofNat8]; omega)
  have f5 : UInt8.ofNat (d.length / 256) = a5 := UInt8.toNat_inj.1 (by rw [ofNat8]; omega)
  have f6 : UInt8.ofNat d.length = a6 := UInt8.toNat_inj.1 (by rw [ofNat8]; omega)
  have hbody : body a1.toNat a2.toNat (256 * a3.toNat + a4.toNat) d = a0 :: a1 :: a2 :: a3 :: a4 :: a5 :: a6 :: d := by
    show [83, UInt8.ofNat a1.toNat, UInt8.ofNat a2.toNat, UInt8.ofNat ((256 * a3.toNat + a4.toNat) / 256), UInt8.ofNat (256 * a3.toNat + a4.toNat), UInt8.ofNat (d.length / 256), UInt8.ofNat d.length] ++ d = _
    rw [f0, f1, f2, f3, f4, f5, f6]; rfl
  show bytes a1.toNat a2.toNat (256 * a3.toNat + a4.toNat) d = _
  unfold bytes
  rw [hbody, ← hsum]
  have g : ∀ i, at8 (a0 :: a1 :: a2 :: a3 :: a4 :: a5 :: a6 :: (d ++ [b0, b1, b2, b3])) (d.length + 7 + i) = at8 [b0, b1, b2, b3] i := fun i =>
    at8_right (a0 :: a1 :: a2 :: a3 :: a4 :: a5 :: a6 :: d) [b0, b1, b2, b3] i (d.length + 7) (by simp)
  have hrd : rd4 (a0 :: a1 :: a2 :: a3 :: a4 :: a5 :: a6 :: (d ++ [b0, b1, b2, b3])) (d.length + 7) = b0.toNat + 256 * b1.toNat + 65536 * b2.toNat + 16777216 * b3.toNat := by
    unfold rd4
    rw [g 1, g 2, g 3, show at8 (a0 :: a1 :: a2 :: a3 :: a4 :: a5 :: a6 :: (d ++ [b0, b1, b2, b3])) (d.length + 7) = b0.toNat from g 0]; rfl
  rw [hrd]
  have m0 := UInt8.toNat_lt b0
  have m1 := UInt8.toNat_lt b1
  have m2 := UInt8.toNat_lt b2
  have m3 := UInt8.toNat_lt b3
  have n0 : UInt8.ofNat (b0.toNat + 256 * b1.toNat + 65536 * b2.toNat + 16777216 * b3.toNat) = b0 := UInt8.toNat_inj.1 (by rw [ofNat8]; omega)
  have n1 : UInt8.ofNat ((b0.toNat + 256 * b1.toNat + 65536 * b2.toNat + 16777216 * b3.toNat) / 256) = b1 := UInt8.toNat_inj.1 (by rw [ofNat8]; omega)
  have n2 : UInt8.ofNat ((b0.toNat + 256 * b1.toNat + 65536 * b2.toNat + 16777216 * b3.toNat) / 65536) = b2 := UInt8.toNat_inj.1 (by rw [ofNat8]; omega)
  have n3 : UInt8.ofNat ((b0.toNat + 256 * b1.toNat + 65536 * b2.toNat + 16777216 * b3.toNat) / 16777216) = b3 := UInt8.toNat_inj.1 (by rw [ofNat8]; omega)
  show (a0 :: a1 :: a2 :: a3 :: a4 :: a5 :: a6 :: d) ++ [UInt8.ofNat _, UInt8.ofNat _, UInt8.ofNat _, UInt8.ofNat _] = _
  rw [n0, n1, n2, n3]; rfl

end Go.Proofs.Ytkngfobnfocpjaa.Blk
