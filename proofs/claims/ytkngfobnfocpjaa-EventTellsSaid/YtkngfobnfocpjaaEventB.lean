/- Contract of event.WrongBatch: it returns what the plain laws say. -/
import Derived.Test.YtkngfobnfocpjaaEventA
namespace Go.Proofs.Ytkngfobnfocpjaa
open Go.RowKit
set_option linter.unusedVariables false
def fVal (f : Int × Int) : Value := .agg #[.int .i64 f.1, .int .i64 f.2]

set_option maxHeartbeats 1000000 in
theorem eWrongBatch_call (c : Int) (a : Option Addr) (n cap : Nat) (l : List Evt.Ev) (w : World) (h : Es w a n cap l) : Calls Try.prog 36 #[.agg #[.int .i64 c, .slice a n cap]] w (Grew (fVal (Evt.wrongBa ⟨c, l⟩)) w) := by
  have hmax := h.sl.max
  have hle := h.sl.le
  unfold maxLen at hmax
  have HN := hid h.n
  have HW := hid (show Evt.wrongBa ⟨c, l⟩ = if c < 1 ∨ 1000000 < c then (3, 0) else if l.length < 1 ∨ 10 < l.length then (5, 0) else Evt.fw l 0 from rfl)
  unfold fVal
  by_cases hc : c < 1 ∨ 1000000 < c
  · have HC := hid (HW.out.trans (if_pos hc))
    rw [HC.out]
    go_enter Try.func36, Try.ntmps36
    go_wp2
    all_goals exact bodyPost_ret (v := .agg #[.int .i64 3, .int .i64 0]) (by simp [results, Try.results36, go_sem]) rfl ⟨rfl, ((Below.refl _ _).alloc (Nat.le_refl _) _).alloc (by simp) _⟩
  · by_cases hn : n < 1 ∨ 10 < n
    · have HC := hid (HW.out.trans ((if_neg hc).trans (if_pos (by rw [HN.out]; exact hn))))
      rw [HC.out]
      go_enter Try.func36, Try.ntmps36
      go_wp2
      all_goals exact bodyPost_ret (v := .agg #[.int .i64 5, .int .i64 0]) (by simp [results, Try.results36, go_sem]) rfl ⟨rfl, ((Below.refl _ _).alloc (Nat.le_refl _) _).alloc (by simp) _⟩
    · have HC := hid (HW.out.trans ((if_neg hc).trans (if_neg (by rw [HN.out]; exact hn))))
      obtain ⟨b, off, rfl, _⟩ := h.sl.addr (by omega)
      go_enter Try.func36, Try.ntmps36
      go_wp2
      go_loopg [3, 4, 5, 29] n (fun g x y z i wr => ∃ k : Nat, g = n - k ∧ k ≤ n ∧ i = .int .i64 k ∧ Below w.heap.size w wr ∧ w.heap.size + 1 < wr.heap.size ∧
        wr.cell? ⟨w.heap.size + 1, 0, none⟩ = some (.int .i64 0) ∧ wr.cell? ⟨w.heap.size + 1, 1, none⟩ = some (.int .i64 0) ∧ wr.frozen? ⟨w.heap.size + 1, 0, none⟩ = false ∧ wr.frozen? ⟨w.heap.size + 1, 1, none⟩ = false ∧ Hid (Evt.fw l 0 = Evt.fw (l.drop k) k))
      case atStart => exact ⟨0, rfl, by omega, rfl, ((Below.refl _ _).alloc (Nat.le_refl _) _).alloc (by simp) _, by simp, by simp, by simp, by simp, by simp, hid rfl⟩
      case round =>
        obtain ⟨k, rfl, hk, rfl, hb, hz, hr0, hr1, hf0, hf1, HF⟩ := hrel
        by_cases hlt : k < n
        · have hkl : k < l.length := by rw [HN.out]; exact hlt
          obtain ⟨q0, q1, q2⟩ := (h.below hb).at k hkl
          have D := fun W => eWrong_call l[k] (h.ok _ (List.getElem_mem _)) W
          unfold evVal at D
          have HS := hid (show Evt.fw (l.drop k) k = if Evt.wrongEv l[k] ≠ 0 then (Evt.wrongEv l[k], (k : Int)) else Evt.fw (l.drop (k + 1)) (k + 1) by
            rw [List.drop_eq_getElem_cons hkl]; rfl)
          generalize l[k] = ev at *
          generalize Evt.wrongEv ev = E at *
          have D := hid D
          go_wp2_with fail
          go_at_call 34; refine (D.out _).mono ?_; rintro e w1 ⟨rfl, b1⟩
          obtain ⟨bc1, bf1⟩ := bcell b1
          have r0 : w1.cell? ⟨w.heap.size + 1, 0, none⟩ = some (.int .i64 0) := by rw [bc1 _ _ (by simp; omega), cell_old hz]; exact hr0
          have r1 : w1.cell? ⟨w.heap.size + 1, 1, none⟩ = some (.int .i64 0) := by rw [bc1 _ _ (by simp; omega), cell_old hz]; exact hr1
          have f0 : w1.frozen? ⟨w.heap.size + 1, 0, none⟩ = false := by rw [bf1 _ _ (by simp; omega), frozen_old hz]; exact hf0
          have f1 : w1.frozen? ⟨w.heap.size + 1, 1, none⟩ = false := by rw [bf1 _ _ (by simp; omega), frozen_old hz]; exact hf1
          have hb1 : Below w.heap.size w w1 := (hb.alloc hb.size _).trans (b1.mono (by simp; omega))
          have hz1 := b1.size
          simp only [World.size_alloc] at hz1
          clear bc1 bf1 hr0 hr1 hf0 hf1 D
          by_cases hE : E = 0
          · subst hE
            go_wp2
            go_roundg (n - (k + 1))
            case measure => omega
            case rel => exact ⟨k + 1, rfl, by omega, by go_num, hb1, by omega, r0, r1, f0, f1, hid (by rw [HF.out, HS.out]; rfl)⟩
          · have t0 : (E != 0) = true := by rw [bne_iff_ne]; exact hE
            have HR := hid (show Evt.wrongBa ⟨c, l⟩ = (E, (k : Int)) by rw [HC.out, HF.out, HS.out, if_pos hE])
            clear hE HC HF HS HW
            go_wp2
            exact bodyPost_ret (v := .agg #[.int .i64 E, .int .i64 k]) (by simp [results, Try.results36, go_sem, r0, r1]) rfl ⟨by rw [HR.out], (hb1.setCell (by simp) _).setCell (by simp) _⟩
        · obtain rfl : k = n := by omega
          have HR := hid (show Evt.wrongBa ⟨c, l⟩ = (0, 0) by rw [HC.out, HF.out, List.drop_of_length_le (by rw [HN.out]; exact Nat.le_refl _)]; rfl)
          go_wp2
          exact bodyPost_ret (v := .agg #[.int .i64 0, .int .i64 0]) (by simp [results, Try.results36, go_sem, hr0, hr1]) rfl ⟨by rw [HR.out], (hb.setCell (by simp) _).setCell (by simp) _⟩

end Go.Proofs.Ytkngfobnfocpjaa
