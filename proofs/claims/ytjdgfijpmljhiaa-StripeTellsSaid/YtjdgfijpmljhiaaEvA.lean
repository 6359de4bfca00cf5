/- EventA, EventB, EventH: joined. -/
import Derived.Test.YtjdgfijpmljhiaaOpA
import Derived.WalkSpells
import Derived.Test.YtjdgfijpmljhiaaKit3
import Derived.Lib.ConvBytes
/- Contracts of event.Named, Wrong and WrongBatch: each returns what the plain laws say. -/
namespace Go.Proofs.Ytjdgfijpmljhiaa
open Go.RowKit
set_option linter.unusedVariables false
theorem Evt.take_snoc (s : ByteArray) (k : Nat) (h : k < s.size) : (Evt.lst s).take (k + 1) = (Evt.lst s).take k ++ [s[k]] := by
  unfold Evt.lst
  rw [List.take_succ_eq_append_getElem (by simpa using h)]; rfl
theorem Evt.all_snoc (s : ByteArray) (k : Nat) (h : k < s.size) (ha : ((Evt.lst s).take k).all Evt.okc = true) (hc : Evt.okc s[k] = true) : ((Evt.lst s).take (k + 1)).all Evt.okc = true := by
  rw [Evt.take_snoc s k h, List.all_append, ha]; simp [hc]
theorem Evt.all_bad (s : ByteArray) (k : Nat) (h : k < s.size) (hc : Evt.okc s[k] = false) : Evt.named (Evt.lst s) = false := by
  unfold Evt.named
  have : (Evt.lst s).all Evt.okc = false := by
    rw [Bool.eq_false_iff]
    intro ha
    rw [List.all_eq_true] at ha
    have := ha s[k] (by
      have h2 : (Evt.lst s)[k]'(by unfold Evt.lst; simpa using h) = s[k] := rfl
      rw [← h2]; exact List.getElem_mem _)
    rw [hc] at this; cases this
  rw [this, Bool.and_false]
theorem Evt.lst_length (s : ByteArray) : (Evt.lst s).length = s.size := by unfold Evt.lst; simp
theorem Evt.okc_eq (c : UInt8) : Evt.okc c = ((decide (97 ≤ c.toNat) && decide (c.toNat ≤ 122)) || (decide (48 ≤ c.toNat) && decide (c.toNat ≤ 57))) := rfl

set_option maxHeartbeats 1000000 in
theorem eNamed_call (s : ByteArray) (hs : s.size ≤ maxLen) (w : World) : Calls Try.prog 24 #[.string s] w (Same (.bool (Evt.named (Evt.lst s))) w) := by
  unfold maxLen at hs
  have HL := hid (Evt.lst_length s)
  by_cases h0 : s.size < 1
  · have hf : Evt.named (Evt.lst s) = false := by unfold Evt.named; rw [HL.out]; simp; omega
    rw [hf]
    have t1 : decide ((s.size : Int) < 1) = true := by simp; omega
    go_enter Try.func24, Try.ntmps24
    go_wp2
    all_goals go_ret
    all_goals exact ⟨rfl, rfl⟩
  · by_cases h1 : 10 < s.size
    · have hf : Evt.named (Evt.lst s) = false := by unfold Evt.named; rw [HL.out]; simp; omega
      rw [hf]
      go_enter Try.func24, Try.ntmps24
      go_wp2
      all_goals go_ret
      all_goals exact ⟨rfl, rfl⟩
    · go_enter Try.func24, Try.ntmps24
      go_wp2
      go_loopg [3, 4, 15] s.size (fun g x y i wr => w = wr ∧ ∃ k : Nat, g = s.size - k ∧ k ≤ s.size ∧ i = .int .i64 k ∧ Hid (((Evt.lst s).take k).all Evt.okc = true))
      case atStart => exact ⟨rfl, 0, rfl, by omega, rfl, hid (by simp)⟩
      case round =>
        obtain ⟨rfl, k, rfl, hk, rfl, HA⟩ := hrel
        by_cases hlt : k < s.size
        · have HS := hid (Evt.all_snoc s k hlt HA.out)
          have HB := hid (Evt.all_bad s k hlt)
          have HO := hid (Evt.okc_eq s[k])
          have hb := UInt8.toNat_lt s[k]
          go_wp2
          all_goals first
            | (go_ret; exact ⟨ret_bool (HB.out (by rw [HO.out]; simp only [Bool.or_eq_false_iff, Bool.and_eq_false_iff, decide_eq_false_iff_not]; omega)).symm, rfl⟩)
            | (go_roundg (s.size - (k + 1))
               case measure => omega
               case rel => exact ⟨rfl, k + 1, rfl, by omega, by go_num, hid (HS.out (by rw [HO.out]; simp only [Bool.or_eq_true, Bool.and_eq_true, decide_eq_true_eq]; omega))⟩)
        · obtain rfl : k = s.size := by omega
          go_wp2
          go_ret
          refine ⟨ret_bool ?_, rfl⟩
          unfold Evt.named
          have := HA.out
          rw [List.take_of_length_le (by rw [HL.out]; omega)] at this
          rw [this, HL.out]; simp; omega

set_option maxHeartbeats 1000000 in
theorem eWrong_call (e : Evt.Ev) (hs : e.s.size ≤ maxLen) (w : World) : Calls Try.prog 38 #[evVal e] w (Grew (.int .i64 (Evt.wrongEv e)) w) := by
  obtain ⟨s, k, n⟩ := e
  unfold evVal
  have HN := hid (fun W => eNamed_call s hs W)
  simp only at hs ⊢
  have HW := hid (show Evt.wrongEv ⟨s, k, n⟩ = if Evt.named (Evt.lst s) = false then 7 else if k < 1 ∨ 4 < k then 1 else if n < 0 ∨ 1000000 < n ∨ ((k = 1 ∨ k = 4) ∧ n ≠ 0) then 3 else 0 from rfl)
  generalize Evt.named (Evt.lst s) = N at *
  cases N with
  | false =>
    go_enter Try.func38, Try.ntmps38
    go_wp2_with fail
    go_at_call 24; refine (HN.out _).mono ?_; rintro e w1 ⟨rfl, rfl⟩
    go_wp2_with fail
    go_ret
    exact ⟨ret_int (by rw [HW.out]; rfl), (Below.refl _ _).alloc (Nat.le_refl _) _⟩
  | true =>
    go_enter Try.func38, Try.ntmps38
    go_wp2_with fail
    go_at_call 24; refine (HN.out _).mono ?_; rintro e w1 ⟨rfl, rfl⟩
    go_wp2_with fail
    all_goals go_ret
    all_goals refine ⟨ret_int ?_, (Below.refl _ _).alloc (Nat.le_refl _) _⟩
    all_goals rw [HW.out, if_neg (by simp)]
    all_goals clear HW HN
    all_goals (try simp only [bne_iff_ne, bne_eq_false_iff_eq, ne_eq] at *)
    all_goals first
      | rw [if_pos (by omega)]
      | (rw [if_neg (by omega)]; rw [if_pos (by omega)])
      | (rw [if_neg (by omega)]; rw [if_neg (by omega)])

end Go.Proofs.Ytjdgfijpmljhiaa

/- Contract of event.WrongBatch: it returns what the plain laws say. -/
namespace Go.Proofs.Ytjdgfijpmljhiaa
open Go.RowKit
set_option linter.unusedVariables false
def fVal (f : Int × Int) : Value := .agg #[.int .i64 f.1, .int .i64 f.2]

end Go.Proofs.Ytjdgfijpmljhiaa

/- Contracts of the reference's Named, WrongEvent, WrongBatch and Three. -/
namespace Go.Proofs.Ytjdgfijpmljhiaa
open Go.RowKit
set_option linter.unusedVariables false

/-- '[]byte(s)' -/
theorem conv_bytes (w : World) (s : ByteArray) : ∃ W cp, (convert 9 48 (.string s)).run Try.prog w = .ok (.slice (some ⟨w.heap.size, 0, none⟩) s.size cp) W ∧ Below w.heap.size w W ∧ ∀ j, j < s.size → W.cell? ⟨w.heap.size, j, none⟩ = some (.int .u8 (at8 (Evt.lst s) j)) := by
  refine ⟨Lib.bytesWorld w 5 s, _, Lib.run_convert_string_bytes w 9 48 5 s Try.underlying9 Try.underlying48 Try.underlying5, ⟨rfl, rfl, rfl, by rw [Lib.bytesWorld_size]; omega, fun k hk => Lib.bytesWorld_at_old w 5 s k hk⟩, fun j hj => ?_⟩
  rw [Lib.bytesWorld_cell w 5 s j hj]; rfl
theorem Evt.at8_lst (s : ByteArray) (k : Nat) (h : k < s.size) : at8 (Evt.lst s) k = (s[k]).toNat := by
  unfold at8 Evt.lst List.getD
  rw [List.getElem?_eq_getElem (by simpa using h)]; rfl
set_option maxHeartbeats 1000000 in
theorem rNamed_call (s : ByteArray) (hs : s.size ≤ maxLen) (w : World) : Calls Try.prog 37 #[.string s] w (Grew (.bool (Evt.named (Evt.lst s))) w) := by
  unfold maxLen at hs
  have HL := hid (Evt.lst_length s)
  obtain ⟨W, cp, hcv, hbW, hcell⟩ := conv_bytes w s
  replace hcell := hid hcell
  go_enter Try.func37, Try.ntmps37
  go_wp2_with fail
  go_loopg [4, 8] s.size (fun g x i wr => W = wr ∧ ∃ k : Nat, g = s.size - k ∧ k ≤ s.size ∧ i = .int .i64 k ∧ Hid (((Evt.lst s).take k).all Evt.okc = true))
  case atStart => exact ⟨rfl, 0, rfl, by omega, rfl, hid (by simp)⟩
  case round =>
    obtain ⟨rfl, k, rfl, hk, rfl, HA⟩ := hrel
    by_cases hlt : k < s.size
    · have hc := hcell.out k hlt
      have HS := hid (Evt.all_snoc s k hlt HA.out)
      have HB := hid (Evt.all_bad s k hlt)
      have HO := hid (Evt.okc_eq s[k])
      have hb := at8_lt (Evt.lst s) k
      rw [← Evt.at8_lst s k hlt] at HO
      generalize at8 (Evt.lst s) k = c at *
      clear hcv
      go_wp2
      all_goals (try simp only [Bool.not_eq_true', Bool.not_eq_false', decide_eq_true_eq, decide_eq_false_iff_not] at *)
      all_goals first
        | (go_ret; exact ⟨ret_bool (HB.out (by rw [HO.out]; simp only [Bool.or_eq_false_iff, Bool.and_eq_false_iff, decide_eq_false_iff_not]; omega)).symm, hbW⟩)
        | (go_roundg (s.size - (k + 1))
           case measure => omega
           case rel => exact ⟨rfl, k + 1, rfl, by omega, by go_num, hid (HS.out (by rw [HO.out]; simp only [Bool.or_eq_true, Bool.and_eq_true, decide_eq_true_eq]; omega))⟩)
    · obtain rfl : k = s.size := by omega
      clear hcv
      have he : Evt.named (Evt.lst s) = (decide (0 < s.size) && decide (s.size ≤ 10)) := by
        have := HA.out
        rw [List.take_of_length_le (by rw [HL.out]; exact Nat.le_refl _)] at this
        unfold Evt.named
        rw [this, HL.out, Bool.and_true]
      have HE := hid he
      clear he
      go_wp2
      all_goals go_ret
      all_goals exact ⟨ret_bool (by first | (rw [HE.out, decide_eq_true ‹0 < s.size›, Bool.true_and]; exact decide_eq_decide.2 (by omega)) | rw [HE.out, decide_eq_false ‹¬ 0 < s.size›, Bool.false_and]), hbW⟩

set_option maxHeartbeats 1000000 in
theorem rWrongEvent_call (e : Evt.Ev) (hs : e.s.size ≤ maxLen) (w : World) : Calls Try.prog 15 #[evVal e] w (Grew (.int .i64 (Evt.wrongEv e)) w) := by
  obtain ⟨s, k, n⟩ := e
  unfold evVal
  have HN := hid (fun W => rNamed_call s hs W)
  simp only at hs ⊢
  have HW := hid (show Evt.wrongEv ⟨s, k, n⟩ = if Evt.named (Evt.lst s) = false then 7 else if k < 1 ∨ 4 < k then 1 else if n < 0 ∨ 1000000 < n ∨ ((k = 1 ∨ k = 4) ∧ n ≠ 0) then 3 else 0 from rfl)
  generalize Evt.named (Evt.lst s) = N at *
  cases N with
  | false =>
    go_enter Try.func15, Try.ntmps15
    go_wp2_with fail
    go_at_call 37; refine (HN.out _).mono ?_; rintro e w1 ⟨rfl, b1⟩
    have q0 : w1.cell? ⟨w.heap.size, 0, none⟩ = some (.string s) := box_cell b1 0
    have q1 : w1.cell? ⟨w.heap.size, 1, none⟩ = some (.int .i64 k) := box_cell b1 1
    have q2 : w1.cell? ⟨w.heap.size, 2, none⟩ = some (.int .i64 n) := box_cell b1 2
    have bb := box_below b1
    go_wp2_with fail
    go_ret
    exact ⟨ret_int (by rw [HW.out]; rfl), bb⟩
  | true =>
    go_enter Try.func15, Try.ntmps15
    go_wp2_with fail
    go_at_call 37; refine (HN.out _).mono ?_; rintro e w1 ⟨rfl, b1⟩
    have q0 : w1.cell? ⟨w.heap.size, 0, none⟩ = some (.string s) := box_cell b1 0
    have q1 : w1.cell? ⟨w.heap.size, 1, none⟩ = some (.int .i64 k) := box_cell b1 1
    have q2 : w1.cell? ⟨w.heap.size, 2, none⟩ = some (.int .i64 n) := box_cell b1 2
    have bb := box_below b1
    go_wp2_with fail
    all_goals go_ret
    all_goals refine ⟨ret_int ?_, bb⟩
    all_goals rw [HW.out, if_neg (by simp)]
    all_goals clear HW HN
    all_goals (try simp only [bne_iff_ne, bne_eq_false_iff_eq, ne_eq] at *)
    all_goals first
      | rw [if_pos (by omega)]
      | (rw [if_neg (by omega)]; rw [if_pos (by omega)])
      | (rw [if_neg (by omega)]; rw [if_neg (by omega)])

end Go.Proofs.Ytjdgfijpmljhiaa
