/- Contracts of the reference's Named, WrongEvent, WrongBatch and Three. -/
import Derived.Test.YtkngfobnfocpjaaEventB
import Derived.Test.YtkngfobnfocpjaaKit3
import Derived.Lib.ConvBytes
namespace Go.Proofs.Ytkngfobnfocpjaa
open Go.RowKit
set_option linter.unusedVariables false

/-- '[]byte(s)' -/
theorem conv_bytes (w : World) (s : ByteArray) : ∃ W cp, (convert 9 30 (.string s)).run Try.prog w = .ok (.slice (some ⟨w.heap.size, 0, none⟩) s.size cp) W ∧ Below w.heap.size w W ∧ ∀ j, j < s.size → W.cell? ⟨w.heap.size, j, none⟩ = some (.int .u8 (at8 (Evt.lst s) j)) := by
  refine ⟨Lib.bytesWorld w 5 s, _, Lib.run_convert_string_bytes w 9 30 5 s Try.underlying9 Try.underlying30 Try.underlying5, ⟨rfl, rfl, rfl, by rw [Lib.bytesWorld_size]; omega, fun k hk => Lib.bytesWorld_at_old w 5 s k hk⟩, fun j hj => ?_⟩
  rw [Lib.bytesWorld_cell w 5 s j hj]; rfl
theorem Evt.at8_lst (s : ByteArray) (k : Nat) (h : k < s.size) : at8 (Evt.lst s) k = (s[k]).toNat := by
  unfold at8 Evt.lst List.getD
  rw [List.getElem?_eq_getElem (by simpa using h)]; rfl
set_option maxHeartbeats 1000000 in
theorem rNamed_call (s : ByteArray) (hs : s.size ≤ maxLen) (w : World) : Calls Try.prog 33 #[.string s] w (Grew (.bool (Evt.named (Evt.lst s))) w) := by
  unfold maxLen at hs
  have HL := hid (Evt.lst_length s)
  obtain ⟨W, cp, hcv, hbW, hcell⟩ := conv_bytes w s
  replace hcell := hid hcell
  go_enter Try.func33, Try.ntmps33
  go_wp2_with fail
  go_loopg [4, 8] s.size (fun g x i wr => W = wr ∧ ∃ k : Nat, g = s.size - k ∧ k ≤ s.size ∧ i = .int .i64 k ∧ Hid (((Evt.lst s).take k).all Evt.okc = true))
  case atStart => exact ⟨rfl, 0, rfl, by omega, rfl, hid (by simp)⟩
  case round =>
    obtain ⟨rfl, k, rfl, hk, rfl, HA⟩ := hrel
    by_cases hlt : k < s.size
    · have hc := hcell.out k hlt
      have HS := hid (Evt.all_snoc s k hlt HA.out)
      have HB := hid (Evt.all_bad s k hlt)
      have HO := hid (Evt.okc_eq s[k])
      have hb := at8_lt (Evt.lst s) k
      rw [← Evt.at8_lst s k hlt] at HO
      generalize at8 (Evt.lst s) k = c at *
      clear hcv
      go_wp2
      all_goals (try simp only [Bool.not_eq_true', Bool.not_eq_false', decide_eq_true_eq, decide_eq_false_iff_not] at *)
      all_goals first
        | (go_ret; exact ⟨ret_bool (HB.out (by rw [HO.out]; simp only [Bool.or_eq_false_iff, Bool.and_eq_false_iff, decide_eq_false_iff_not]; omega)).symm, hbW⟩)
        | (go_roundg (s.size - (k + 1))
           case measure => omega
           case rel => exact ⟨rfl, k + 1, rfl, by omega, by go_num, hid (HS.out (by rw [HO.out]; simp only [Bool.or_eq_true, Bool.and_eq_true, decide_eq_true_eq]; omega))⟩)
    · obtain rfl : k = s.size := by omega
      clear hcv
      have he : Evt.named (Evt.lst s) = (decide (0 < s.size) && decide (s.size ≤ 10)) := by
        have := HA.out
        rw [List.take_of_length_le (by rw [HL.out]; exact Nat.le_refl _)] at this
        unfold Evt.named
        rw [this, HL.out, Bool.and_true]
      have HE := hid he
      clear he
      go_wp2
      all_goals go_ret
      all_goals exact ⟨ret_bool (by first | (rw [HE.out, decide_eq_true ‹0 < s.size›, Bool.true_and]; exact decide_eq_decide.2 (by omega)) | rw [HE.out, decide_eq_false ‹¬ 0 < s.size›, Bool.false_and]), hbW⟩

set_option maxHeartbeats 1000000 in
theorem rWrongEvent_call (e : Evt.Ev) (hs : e.s.size ≤ maxLen) (w : World) : Calls Try.prog 35 #[evVal e] w (Grew (.int .i64 (Evt.wrongEv e)) w) := by
  obtain ⟨s, k, n⟩ := e
  unfold evVal
  have HN := hid (fun W => rNamed_call s hs W)
  simp only at hs ⊢
  have HW := hid (show Evt.wrongEv ⟨s, k, n⟩ = if Evt.named (Evt.lst s) = false then 7 else if k < 1 ∨ 4 < k then 1 else if n < 0 ∨ 1000000 < n ∨ ((k = 1 ∨ k = 4) ∧ n ≠ 0) then 3 else 0 from rfl)
  generalize Evt.named (Evt.lst s) = N at *
  cases N with
  | false =>
    go_enter Try.func35, Try.ntmps35
    go_wp2_with fail
    go_at_call 33; refine (HN.out _).mono ?_; rintro e w1 ⟨rfl, b1⟩
    have q0 : w1.cell? ⟨w.heap.size, 0, none⟩ = some (.string s) := box_cell b1 0
    have q1 : w1.cell? ⟨w.heap.size, 1, none⟩ = some (.int .i64 k) := box_cell b1 1
    have q2 : w1.cell? ⟨w.heap.size, 2, none⟩ = some (.int .i64 n) := box_cell b1 2
    have bb := box_below b1
    go_wp2_with fail
    go_ret
    exact ⟨ret_int (by rw [HW.out]; rfl), bb⟩
  | true =>
    go_enter Try.func35, Try.ntmps35
    go_wp2_with fail
    go_at_call 33; refine (HN.out _).mono ?_; rintro e w1 ⟨rfl, b1⟩
    have q0 : w1.cell? ⟨w.heap.size, 0, none⟩ = some (.string s) := box_cell b1 0
    have q1 : w1.cell? ⟨w.heap.size, 1, none⟩ = some (.int .i64 k) := box_cell b1 1
    have q2 : w1.cell? ⟨w.heap.size, 2, none⟩ = some (.int .i64 n) := box_cell b1 2
    have bb := box_below b1
    go_wp2_with fail
    all_goals go_ret
    all_goals refine ⟨ret_int ?_, bb⟩
    all_goals rw [HW.out, if_neg (by simp)]
    all_goals clear HW HN
    all_goals (try simp only [bne_iff_ne, bne_eq_false_iff_eq, ne_eq] at *)
    all_goals first
      | rw [if_pos (by omega)]
      | (rw [if_neg (by omega)]; rw [if_pos (by omega)])
      | (rw [if_neg (by omega)]; rw [if_neg (by omega)])

set_option maxHeartbeats 1000000 in
theorem rWrongBatch_call (c : Int) (a : Option Addr) (n cap : Nat) (l : List Evt.Ev) (w : World) (h : Es w a n cap l) : Calls Try.prog 37 #[.agg #[.int .i64 c, .slice a n cap]] w (Grew (fVal (Evt.wrongBa ⟨c, l⟩)) w) := by
  have hmax := h.sl.max
  have hle := h.sl.le
  unfold maxLen at hmax
  have HN := hid h.n
  have HW := hid (show Evt.wrongBa ⟨c, l⟩ = if c < 1 ∨ 1000000 < c then (3, 0) else if l.length < 1 ∨ 10 < l.length then (5, 0) else Evt.fw l 0 from rfl)
  unfold fVal
  by_cases hc : c < 1 ∨ 1000000 < c
  · have HC := hid (HW.out.trans (if_pos hc))
    rw [HC.out]
    go_enter Try.func37, Try.ntmps37
    go_wp2
    all_goals exact bodyPost_ret (v := .agg #[.int .i64 3, .int .i64 0]) (by simp [results, Try.results37, go_sem]) rfl ⟨rfl, ((Below.refl _ _).alloc (Nat.le_refl _) _).alloc (by simp) _⟩
  · by_cases hn : n < 1 ∨ 10 < n
    · have HC := hid (HW.out.trans ((if_neg hc).trans (if_pos (by rw [HN.out]; exact hn))))
      rw [HC.out]
      go_enter Try.func37, Try.ntmps37
      go_wp2
      all_goals exact bodyPost_ret (v := .agg #[.int .i64 5, .int .i64 0]) (by simp [results, Try.results37, go_sem]) rfl ⟨rfl, ((Below.refl _ _).alloc (Nat.le_refl _) _).alloc (by simp) _⟩
    · have HC := hid (HW.out.trans ((if_neg hc).trans (if_neg (by rw [HN.out]; exact hn))))
      obtain ⟨b, off, rfl, _⟩ := h.sl.addr (by omega)
      have tn0 : ((n : Int) == 0) = false := by rw [beq_eq_false_iff_ne]; omega
      go_enter Try.func37, Try.ntmps37
      go_wp2
      go_loopg [3, 4, 5, 29] n (fun g x y z i wr => ∃ k : Nat, g = n - k ∧ k ≤ n ∧ i = .int .i64 k ∧ Below w.heap.size w wr ∧ w.heap.size + 1 < wr.heap.size ∧
        wr.cell? ⟨w.heap.size + 1, 0, none⟩ = some (.int .i64 0) ∧ wr.cell? ⟨w.heap.size + 1, 1, none⟩ = some (.int .i64 0) ∧ wr.frozen? ⟨w.heap.size + 1, 0, none⟩ = false ∧ wr.frozen? ⟨w.heap.size + 1, 1, none⟩ = false ∧ Hid (Evt.fw l 0 = Evt.fw (l.drop k) k))
      case atStart => exact ⟨0, rfl, by omega, rfl, ((Below.refl _ _).alloc (Nat.le_refl _) _).alloc (by simp) _, by simp, by simp, by simp, by simp, by simp, hid rfl⟩
      case round =>
        obtain ⟨k, rfl, hk, rfl, hb, hz, hr0, hr1, hf0, hf1, HF⟩ := hrel
        by_cases hlt : k < n
        · have hkl : k < l.length := by rw [HN.out]; exact hlt
          obtain ⟨q0, q1, q2⟩ := (h.below hb).at k hkl
          have D := fun W => rWrongEvent_call l[k] (h.ok _ (List.getElem_mem _)) W
          unfold evVal at D
          have HS := hid (show Evt.fw (l.drop k) k = if Evt.wrongEv l[k] ≠ 0 then (Evt.wrongEv l[k], (k : Int)) else Evt.fw (l.drop (k + 1)) (k + 1) by
            rw [List.drop_eq_getElem_cons hkl]; rfl)
          generalize l[k] = ev at *
          generalize Evt.wrongEv ev = E at *
          have D := hid D
          go_wp2_with fail
          go_at_call 35; refine (D.out _).mono ?_; rintro e w1 ⟨rfl, b1⟩
          obtain ⟨bc1, bf1⟩ := bcell b1
          have r0 : w1.cell? ⟨w.heap.size + 1, 0, none⟩ = some (.int .i64 0) := by rw [bc1 _ _ (by simp; omega), cell_old hz]; exact hr0
          have r1 : w1.cell? ⟨w.heap.size + 1, 1, none⟩ = some (.int .i64 0) := by rw [bc1 _ _ (by simp; omega), cell_old hz]; exact hr1
          have f0 : w1.frozen? ⟨w.heap.size + 1, 0, none⟩ = false := by rw [bf1 _ _ (by simp; omega), frozen_old hz]; exact hf0
          have f1 : w1.frozen? ⟨w.heap.size + 1, 1, none⟩ = false := by rw [bf1 _ _ (by simp; omega), frozen_old hz]; exact hf1
          have hb1 : Below w.heap.size w w1 := (hb.alloc hb.size _).trans (b1.mono (by simp; omega))
          have hz1 := b1.size
          simp only [World.size_alloc] at hz1
          clear bc1 bf1 hr0 hr1 hf0 hf1 D
          by_cases hE : E = 0
          · subst hE
            go_wp2
            go_roundg (n - (k + 1))
            case measure => omega
            case rel => exact ⟨k + 1, rfl, by omega, by go_num, hb1, by omega, r0, r1, f0, f1, hid (by rw [HF.out, HS.out]; rfl)⟩
          · have t0 : (E != 0) = true := by rw [bne_iff_ne]; exact hE
            have HR := hid (show Evt.wrongBa ⟨c, l⟩ = (E, (k : Int)) by rw [HC.out, HF.out, HS.out, if_pos hE])
            clear hE HC HF HS HW
            go_wp2
            exact bodyPost_ret (v := .agg #[.int .i64 E, .int .i64 k]) (by simp [results, Try.results37, go_sem, r0, r1]) rfl ⟨by rw [HR.out], (hb1.setCell (by simp) _).setCell (by simp) _⟩
        · obtain rfl : k = n := by omega
          have HR := hid (show Evt.wrongBa ⟨c, l⟩ = (0, 0) by rw [HC.out, HF.out, List.drop_of_length_le (by rw [HN.out]; exact Nat.le_refl _)]; rfl)
          go_wp2
          exact bodyPost_ret (v := .agg #[.int .i64 0, .int .i64 0]) (by simp [results, Try.results37, go_sem, hr0, hr1]) rfl ⟨by rw [HR.out], (hb.setCell (by simp) _).setCell (by simp) _⟩

theorem Evt.three_cells (x : Nat) (h : x < 16777216) : (Evt.three x).map (fun c => (c.toNat : Int)) = [(x : Int) / 65536, (x : Int) / 256 % 256, (x : Int) % 256] := by
  simp only [Evt.three, List.map_cons, List.map_nil, UInt8.toNat_ofNat', List.cons.injEq, and_true]; omega
set_option maxHeartbeats 1000000 in
theorem rThree_call (x : Nat) (w : World) (hx : x < 16777216) : Calls Try.prog 49 #[.int .i64 (x : Int)] w fun e w' => e = .returned (.slice (some ⟨w.heap.size, 0, none⟩) 3 3) ∧ w' = w.alloc (.cells #[.int .u8 ((x : Int) / 65536), .int .u8 ((x : Int) / 256 % 256), .int .u8 ((x : Int) % 256)] 5) := by
  go_enter Try.func49, Try.ntmps49
  go_wp2_with fail
  go_ret
  exact ⟨rfl, rfl⟩

end Go.Proofs.Ytkngfobnfocpjaa
