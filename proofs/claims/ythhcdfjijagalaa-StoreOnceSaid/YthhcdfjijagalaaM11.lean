/- Joined, and what is not used struck: EvA, ViewA. -/
import Derived.Test.YthhcdfjijagalaaM10
import Derived.Test.YthhcdfjijagalaaM03
import Derived.WalkSpells
import Derived.Lib.ConvBytes
namespace Go.Proofs.Ythhcdfjijagalaa
open Go.RowKit
set_option linter.unusedVariables false
theorem Evt.take_snoc (s : ByteArray) (k : Nat) (h : k < s.size) : (Evt.lst s).take (k + 1) = (Evt.lst s).take k ++ [s[k]] := by
  unfold Evt.lst
  rw [List.take_succ_eq_append_getElem (by simpa using h)]; rfl
theorem Evt.all_snoc (s : ByteArray) (k : Nat) (h : k < s.size) (ha : ((Evt.lst s).take k).all Evt.okc = true) (hc : Evt.okc s[k] = true) : ((Evt.lst s).take (k + 1)).all Evt.okc = true := by
  rw [Evt.take_snoc s k h, List.all_append, ha]; simp [hc]
theorem Evt.all_bad (s : ByteArray) (k : Nat) (h : k < s.size) (hc : Evt.okc s[k] = false) : Evt.named (Evt.lst s) = false := by
  unfold Evt.named
  have : (Evt.lst s).all Evt.okc = false := by
    rw [Bool.eq_false_iff]
    intro ha
    rw [List.all_eq_true] at ha
    have := ha s[k] (by
      have h2 : (Evt.lst s)[k]'(by unfold Evt.lst; simpa using h) = s[k] := rfl
      rw [← h2]; exact List.getElem_mem _)
    rw [hc] at this; cases this
  rw [this, Bool.and_false]
theorem Evt.lst_length (s : ByteArray) : (Evt.lst s).length = s.size := by unfold Evt.lst; simp
theorem Evt.okc_eq (c : UInt8) : Evt.okc c = ((decide (97 ≤ c.toNat) && decide (c.toNat ≤ 122)) || (decide (48 ≤ c.toNat) && decide (c.toNat ≤ 57))) := rfl
set_option maxHeartbeats 1000000 in
theorem eNamed_call (s : ByteArray) (hs : s.size ≤ maxLen) (w : World) : Calls Try.prog 45 #[.string s] w (Same (.bool (Evt.named (Evt.lst s))) w) := by
  unfold maxLen at hs
  have HL := hid (Evt.lst_length s)
  by_cases h0 : s.size < 1
  · have hf : Evt.named (Evt.lst s) = false := by unfold Evt.named; rw [HL.out]; simp; omega
    rw [hf]
    have t1 : decide ((s.size : Int) < 1) = true := by simp; omega
    go_enter Try.func45, Try.ntmps45
    go_wp2
    all_goals go_ret
    all_goals exact ⟨rfl, rfl⟩
  · by_cases h1 : 10 < s.size
    · have hf : Evt.named (Evt.lst s) = false := by unfold Evt.named; rw [HL.out]; simp; omega
      rw [hf]
      go_enter Try.func45, Try.ntmps45
      go_wp2
      all_goals go_ret
      all_goals exact ⟨rfl, rfl⟩
    · go_enter Try.func45, Try.ntmps45
      go_wp2
      go_loopg [3, 4, 15] s.size (fun g x y i wr => w = wr ∧ ∃ k : Nat, g = s.size - k ∧ k ≤ s.size ∧ i = .int .i64 k ∧ Hid (((Evt.lst s).take k).all Evt.okc = true))
      case atStart => exact ⟨rfl, 0, rfl, by omega, rfl, hid (by simp)⟩
      case round =>
        obtain ⟨rfl, k, rfl, hk, rfl, HA⟩ := hrel
        by_cases hlt : k < s.size
        · have HS := hid (Evt.all_snoc s k hlt HA.out)
          have HB := hid (Evt.all_bad s k hlt)
          have HO := hid (Evt.okc_eq s[k])
          have hb := UInt8.toNat_lt s[k]
          go_wp2
          all_goals first
            | (go_ret; exact ⟨ret_bool (HB.out (by rw [HO.out]; simp only [Bool.or_eq_false_iff, Bool.and_eq_false_iff, decide_eq_false_iff_not]; omega)).symm, rfl⟩)
            | (go_roundg (s.size - (k + 1))
               case measure => omega
               case rel => exact ⟨rfl, k + 1, rfl, by omega, by go_num, hid (HS.out (by rw [HO.out]; simp only [Bool.or_eq_true, Bool.and_eq_true, decide_eq_true_eq]; omega))⟩)
        · obtain rfl : k = s.size := by omega
          go_wp2
          go_ret
          refine ⟨ret_bool ?_, rfl⟩
          unfold Evt.named
          have := HA.out
          rw [List.take_of_length_le (by rw [HL.out]; omega)] at this
          rw [this, HL.out]; simp; omega
set_option maxHeartbeats 1000000 in
theorem eWrong_call (e : Evt.Ev) (hs : e.s.size ≤ maxLen) (w : World) : Calls Try.prog 46 #[evVal e] w (Grew (.int .i64 (Evt.wrongEv e)) w) := by
  obtain ⟨s, k, n⟩ := e
  unfold evVal
  have HN := hid (fun W => eNamed_call s hs W)
  simp only at hs ⊢
  have HW := hid (show Evt.wrongEv ⟨s, k, n⟩ = if Evt.named (Evt.lst s) = false then 7 else if k < 1 ∨ 4 < k then 1 else if n < 0 ∨ 1000000 < n ∨ ((k = 1 ∨ k = 4) ∧ n ≠ 0) then 3 else 0 from rfl)
  generalize Evt.named (Evt.lst s) = N at *
  cases N with
  | false =>
    go_enter Try.func46, Try.ntmps46
    go_wp2_with fail
    go_at_call 45; refine (HN.out _).mono ?_; rintro e w1 ⟨rfl, rfl⟩
    go_wp2_with fail
    go_ret
    exact ⟨ret_int (by rw [HW.out]; rfl), (Below.refl _ _).alloc (Nat.le_refl _) _⟩
  | true =>
    go_enter Try.func46, Try.ntmps46
    go_wp2_with fail
    go_at_call 45; refine (HN.out _).mono ?_; rintro e w1 ⟨rfl, rfl⟩
    go_wp2_with fail
    all_goals go_ret
    all_goals refine ⟨ret_int ?_, (Below.refl _ _).alloc (Nat.le_refl _) _⟩
    all_goals rw [HW.out, if_neg (by simp)]
    all_goals clear HW HN
    all_goals (try simp only [bne_iff_ne, bne_eq_false_iff_eq, ne_eq] at *)
    all_goals first
      | rw [if_pos (by omega)]
      | (rw [if_neg (by omega)]; rw [if_pos (by omega)])
      | (rw [if_neg (by omega)]; rw [if_neg (by omega)])
end Go.Proofs.Ythhcdfjijagalaa
namespace Go.Proofs.Ythhcdfjijagalaa
open Go.RowKit
set_option linter.unusedVariables false
def fVal (f : Int × Int) : Value := .agg #[.int .i64 f.1, .int .i64 f.2]
set_option maxHeartbeats 1000000 in
theorem eWrongBatch_call (c : Int) (a : Option Addr) (n cap : Nat) (l : List Evt.Ev) (w : World) (h : Es w a n cap l) : Calls Try.prog 52 #[.agg #[.int .i64 c, .slice a n cap]] w (Grew (fVal (Evt.wrongBa ⟨c, l⟩)) w) := by
  have hmax := h.sl.max
  have hle := h.sl.le
  unfold maxLen at hmax
  have HN := hid h.n
  have HW := hid (show Evt.wrongBa ⟨c, l⟩ = if c < 1 ∨ 1000000 < c then (3, 0) else if l.length < 1 ∨ 10 < l.length then (5, 0) else Evt.fw l 0 from rfl)
  unfold fVal
  by_cases hc : c < 1 ∨ 1000000 < c
  · have HC := hid (HW.out.trans (if_pos hc))
    rw [HC.out]
    go_enter Try.func52, Try.ntmps52
    go_wp2
    all_goals exact bodyPost_ret (v := .agg #[.int .i64 3, .int .i64 0]) (by simp [results, Try.results52, go_sem]) rfl ⟨rfl, ((Below.refl _ _).alloc (Nat.le_refl _) _).alloc (by simp) _⟩
  · by_cases hn : n < 1 ∨ 10 < n
    · have HC := hid (HW.out.trans ((if_neg hc).trans (if_pos (by rw [HN.out]; exact hn))))
      rw [HC.out]
      go_enter Try.func52, Try.ntmps52
      go_wp2
      all_goals exact bodyPost_ret (v := .agg #[.int .i64 5, .int .i64 0]) (by simp [results, Try.results52, go_sem]) rfl ⟨rfl, ((Below.refl _ _).alloc (Nat.le_refl _) _).alloc (by simp) _⟩
    · have HC := hid (HW.out.trans ((if_neg hc).trans (if_neg (by rw [HN.out]; exact hn))))
      obtain ⟨b, off, rfl, _⟩ := h.sl.addr (by omega)
      go_enter Try.func52, Try.ntmps52
      go_wp2
      go_loopg [3, 4, 5, 29] n (fun g x y z i wr => ∃ k : Nat, g = n - k ∧ k ≤ n ∧ i = .int .i64 k ∧ Below w.heap.size w wr ∧ w.heap.size + 1 < wr.heap.size ∧
        wr.cell? ⟨w.heap.size + 1, 0, none⟩ = some (.int .i64 0) ∧ wr.cell? ⟨w.heap.size + 1, 1, none⟩ = some (.int .i64 0) ∧ wr.frozen? ⟨w.heap.size + 1, 0, none⟩ = false ∧ wr.frozen? ⟨w.heap.size + 1, 1, none⟩ = false ∧ Hid (Evt.fw l 0 = Evt.fw (l.drop k) k))
      case atStart => exact ⟨0, rfl, by omega, rfl, ((Below.refl _ _).alloc (Nat.le_refl _) _).alloc (by simp) _, by simp, by simp, by simp, by simp, by simp, hid rfl⟩
      case round =>
        obtain ⟨k, rfl, hk, rfl, hb, hz, hr0, hr1, hf0, hf1, HF⟩ := hrel
        by_cases hlt : k < n
        · have hkl : k < l.length := by rw [HN.out]; exact hlt
          obtain ⟨q0, q1, q2⟩ := (h.below hb).at k hkl
          have D := fun W => eWrong_call l[k] (h.ok _ (List.getElem_mem _)) W
          unfold evVal at D
          have HS := hid (show Evt.fw (l.drop k) k = if Evt.wrongEv l[k] ≠ 0 then (Evt.wrongEv l[k], (k : Int)) else Evt.fw (l.drop (k + 1)) (k + 1) by
            rw [List.drop_eq_getElem_cons hkl]; rfl)
          generalize l[k] = ev at *
          generalize Evt.wrongEv ev = E at *
          have D := hid D
          go_wp2_with fail
          go_at_call 46; refine (D.out _).mono ?_; rintro e w1 ⟨rfl, b1⟩
          obtain ⟨bc1, bf1⟩ := bcell b1
          have r0 : w1.cell? ⟨w.heap.size + 1, 0, none⟩ = some (.int .i64 0) := by rw [bc1 _ _ (by simp; omega), cell_old hz]; exact hr0
          have r1 : w1.cell? ⟨w.heap.size + 1, 1, none⟩ = some (.int .i64 0) := by rw [bc1 _ _ (by simp; omega), cell_old hz]; exact hr1
          have f0 : w1.frozen? ⟨w.heap.size + 1, 0, none⟩ = false := by rw [bf1 _ _ (by simp; omega), frozen_old hz]; exact hf0
          have f1 : w1.frozen? ⟨w.heap.size + 1, 1, none⟩ = false := by rw [bf1 _ _ (by simp; omega), frozen_old hz]; exact hf1
          have hb1 : Below w.heap.size w w1 := (hb.alloc hb.size _).trans (b1.mono (by simp; omega))
          have hz1 := b1.size
          simp only [World.size_alloc] at hz1
          clear bc1 bf1 hr0 hr1 hf0 hf1 D
          by_cases hE : E = 0
          · subst hE
            go_wp2
            go_roundg (n - (k + 1))
            case measure => omega
            case rel => exact ⟨k + 1, rfl, by omega, by go_num, hb1, by omega, r0, r1, f0, f1, hid (by rw [HF.out, HS.out]; rfl)⟩
          · have t0 : (E != 0) = true := by rw [bne_iff_ne]; exact hE
            have HR := hid (show Evt.wrongBa ⟨c, l⟩ = (E, (k : Int)) by rw [HC.out, HF.out, HS.out, if_pos hE])
            clear hE HC HF HS HW
            go_wp2
            exact bodyPost_ret (v := .agg #[.int .i64 E, .int .i64 k]) (by simp [results, Try.results52, go_sem, r0, r1]) rfl ⟨by rw [HR.out], (hb1.setCell (by simp) _).setCell (by simp) _⟩
        · obtain rfl : k = n := by omega
          have HR := hid (show Evt.wrongBa ⟨c, l⟩ = (0, 0) by rw [HC.out, HF.out, List.drop_of_length_le (by rw [HN.out]; exact Nat.le_refl _)]; rfl)
          go_wp2
          exact bodyPost_ret (v := .agg #[.int .i64 0, .int .i64 0]) (by simp [results, Try.results52, go_sem, hr0, hr1]) rfl ⟨by rw [HR.out], (hb.setCell (by simp) _).setCell (by simp) _⟩
end Go.Proofs.Ythhcdfjijagalaa
namespace Go.Proofs.Ythhcdfjijagalaa
open Go.RowKit
set_option linter.unusedVariables false
end Go.Proofs.Ythhcdfjijagalaa
namespace Go.Proofs.Ythhcdfjijagalaa
open Go.RowKit
set_option linter.unusedVariables false
def viVal (u : Int) (a : Option Addr) (n cap : Nat) : Value := .agg #[.int .i64 u, .slice a n cap]
def fVal' (f : Int × Int) : Value := .agg #[.int .i64 f.1, .int .i64 f.2]
theorem ba_eq (a b : ByteArray) : (a == b) = decide (a = b) := by
  show (a.data == b.data) = _
  by_cases h : a = b
  · subst h; simp
  · rw [decide_eq_false h]
    refine beq_eq_false_iff_ne.2 fun e => h ?_
    cases a; cases b; simpa using e
theorem str_list (a b : ByteArray) : (a.toList == b.toList) = decide (a = b) := by
  rw [ByteArray.toList_eq, ByteArray.toList_eq]
  by_cases h : a = b
  · subst h; simp
  · rw [decide_eq_false h]
    refine beq_eq_false_iff_ne.2 fun e => h ?_
    cases a; cases b
    simpa using e
set_option maxHeartbeats 1000000 in
theorem vMay_call (a : Vw.Acc) (e : Evt.Ev) (w : World) : Calls Try.prog 47 #[acVal a, evVal e] w (Grew (.bool (Vw.may a e)) w) := by
  obtain ⟨s, m, c, o⟩ := a
  obtain ⟨t, k, n⟩ := e
  unfold acVal evVal
  have hb : Below w.heap.size w ((w.alloc (.cells #[.string s, .int .i64 m, .int .i64 c, .bool o] 65)).alloc (.cells #[.string t, .int .i64 k, .int .i64 n] 32)) := ((Below.refl _ _).alloc (Nat.le_refl _) _).alloc (by simp) _
  have HM := hid (show Vw.may ⟨s, m, c, o⟩ ⟨t, k, n⟩ = if k = 1 then !o else if k = 2 ∨ k = 4 then o else if k = 3 then o && decide (n ≤ m) else false from rfl)
  simp only
  by_cases h1 : k = 1
  · have HR := hid (HM.out.trans (if_pos h1))
    rw [HR.out]
    subst h1
    go_enter Try.func47, Try.ntmps47
    go_wp2_with fail
    go_ret
    exact ⟨rfl, hb⟩
  · have t1 : (k == 1) = false := beq_eq_false_iff_ne.2 h1
    by_cases h2 : k = 2
    · have HR := hid (HM.out.trans ((if_neg h1).trans (if_pos (.inl h2))))
      rw [HR.out]
      subst h2
      go_enter Try.func47, Try.ntmps47
      go_wp2_with fail
      go_ret
      exact ⟨rfl, hb⟩
    · have t2 : (k == 2) = false := beq_eq_false_iff_ne.2 h2
      by_cases h4 : k = 4
      · have HR := hid (HM.out.trans ((if_neg h1).trans (if_pos (.inr h4))))
        rw [HR.out]
        subst h4
        go_enter Try.func47, Try.ntmps47
        go_wp2_with fail
        go_ret
        exact ⟨rfl, hb⟩
      · have t4 : (k == 4) = false := beq_eq_false_iff_ne.2 h4
        by_cases h3 : k = 3
        · have HR := hid (HM.out.trans ((if_neg h1).trans ((if_neg (by omega)).trans (if_pos h3))))
          rw [HR.out]
          subst h3
          cases o with
          | false =>
            go_enter Try.func47, Try.ntmps47
            go_wp2_with fail
            go_ret
            exact ⟨rfl, hb⟩
          | true =>
            go_enter Try.func47, Try.ntmps47
            go_wp2_with fail
            go_ret
            exact ⟨ret_bool (by simp), hb⟩
        · have t3 : (k == 3) = false := beq_eq_false_iff_ne.2 h3
          have HR := hid (HM.out.trans ((if_neg h1).trans ((if_neg (by omega)).trans (if_neg h3))))
          rw [HR.out]
          replace h1 := hid h1; replace h2 := hid h2; replace h3 := hid h3; replace h4 := hid h4
          go_enter Try.func47, Try.ntmps47
          go_wp2_with fail
          go_ret
          exact ⟨rfl, hb⟩
theorem get_step {l : List Vw.Acc} {s : ByteArray} {k : Nat} (h : k < l.length) : Vw.get (l.drop k) s = if l[k].s = s then l[k] else Vw.get (l.drop (k + 1)) s := by
  rw [List.drop_eq_getElem_cons h]; rfl
set_option maxHeartbeats 1000000 in
theorem vGet_call (u : Int) (a : Option Addr) (n cap : Nat) (l : List Vw.Acc) (s : ByteArray) (w : World) (h : As w a n cap l) : Calls Try.prog 26 #[viVal u a n cap, .string s] w (Grew (acVal (Vw.get l s)) w) := by
  have hmax := h.sl.max
  have hle := h.sl.le
  unfold maxLen at hmax
  have HN := hid h.cnt
  unfold viVal
  go_enter Try.func26, Try.ntmps26
  go_wp2_with fail
  go_loopg [10] n (fun g i wr => ∃ k : Nat, g = n - k ∧ k ≤ n ∧ i = .int .i64 (k : Int) ∧ Below w.heap.size w wr ∧ w.heap.size + 1 < wr.heap.size ∧
    wr.heap[w.heap.size + 1]? = some (.cells #[.string ⟨#[]⟩, .int .i64 0, .int .i64 0, .bool false] 65 (0, 0)) ∧ Hid (Vw.get l s = Vw.get (l.drop k) s))
  case atStart => exact ⟨0, rfl, by omega, rfl, ((Below.refl _ _).alloc (Nat.le_refl _) _).alloc (by simp) _, by simp, by
    have := blk_new (w.alloc (.cells #[.int .i64 u, .slice a n cap] 42)) (.cells #[.string ⟨#[]⟩, .int .i64 0, .int .i64 0, .bool false] 65)
    rwa [World.size_alloc] at this, hid rfl⟩
  case round =>
    obtain ⟨k, rfl, hk, rfl, hb, hz, hbk, HG⟩ := hrel
    have z1 : w.heap.size + 1 ≠ wr.heap.size := by omega
    have z2 : wr.heap.size ≠ w.heap.size + 1 := by omega
    have r0 : wr.cell? ⟨w.heap.size + 1, 0, none⟩ = some (.string ⟨#[]⟩) := blk_cell hbk
    have r1 : wr.cell? ⟨w.heap.size + 1, 1, none⟩ = some (.int .i64 0) := blk_cell hbk
    have r2 : wr.cell? ⟨w.heap.size + 1, 2, none⟩ = some (.int .i64 0) := blk_cell hbk
    have r3 : wr.cell? ⟨w.heap.size + 1, 3, none⟩ = some (.bool false) := blk_cell hbk
    have f0 : wr.frozen? ⟨w.heap.size + 1, 0, none⟩ = false := blk_free hbk
    have f1 : wr.frozen? ⟨w.heap.size + 1, 1, none⟩ = false := blk_free hbk
    have f2 : wr.frozen? ⟨w.heap.size + 1, 2, none⟩ = false := blk_free hbk
    have f3 : wr.frozen? ⟨w.heap.size + 1, 3, none⟩ = false := blk_free hbk
    by_cases hlt : k < n
    · have hkl : k < l.length := by rw [HN.out]; exact hlt
      obtain ⟨b, off, rfl, _⟩ := h.sl.addr (by omega)
      obtain ⟨q0, q1, q2, q3⟩ := (h.below hb).at k hkl
      have HS := hid (get_step (s := s) hkl)
      generalize hac : l[k] = ac at *
      obtain ⟨t, m, c, o⟩ := ac
      simp only at q0 q1 q2 q3
      replace hac := hid hac
      by_cases hts : t = s
      · subst hts
        have e0 : (t == t) = true := by rw [ba_eq]; simp
        have e1 : (t.toList == t.toList) = true := by rw [str_list]; simp
        have HR := hid (show Vw.get l t = ⟨t, m, c, o⟩ by rw [HG.out, HS.out, if_pos rfl])
        go_wp2_with fail
        have p0 : ∀ i, i < 4 → ((((((wr.setCell ⟨w.heap.size + 1, 0, none⟩ (.string t)).setCell ⟨w.heap.size + 1, 1, none⟩ (.int .i64 m)).setCell ⟨w.heap.size + 1, 2, none⟩ (.int .i64 c)).setCell ⟨w.heap.size + 1, 3, none⟩ (.bool o)).alloc (.cells #[.string t, .int .i64 m, .int .i64 c, .bool o] 65))).cell? ⟨w.heap.size + 1, i, none⟩ = (((((wr.setCell ⟨w.heap.size + 1, 0, none⟩ (.string t)).setCell ⟨w.heap.size + 1, 1, none⟩ (.int .i64 m)).setCell ⟨w.heap.size + 1, 2, none⟩ (.int .i64 c)).setCell ⟨w.heap.size + 1, 3, none⟩ (.bool o))).cell? ⟨w.heap.size + 1, i, none⟩ := fun i _ => cell_old (by simp only [World.size_setCell]; exact hz)
        have p1 := (p0 0 (by decide)).trans (show _ = some (.string t) by simp [go_sem, r0])
        have p2 := (p0 1 (by decide)).trans (show _ = some (.int .i64 m) by simp [go_sem, r1])
        have p3 := (p0 2 (by decide)).trans (show _ = some (.int .i64 c) by simp [go_sem, r2])
        have p4 := (p0 3 (by decide)).trans (show _ = some (.bool o) by simp [go_sem, r3])
        exact bodyPost_ret (v := .agg #[.string t, .int .i64 m, .int .i64 c, .bool o]) (by simp [results, Try.results26, go_sem, p1, p2, p3, p4]) rfl ⟨by rw [HR.out]; rfl, ((((hb.setCell (by simp) _).setCell (by simp) _).setCell (by simp) _).setCell (by simp) _).alloc (by simp; omega) _⟩
      · have e0 : (t == s) = false := by rw [ba_eq, decide_eq_false hts]
        have e1 : (t.toList == s.toList) = false := by rw [str_list, decide_eq_false hts]
        have HT := hid hts
        have hb2 := hid ((hb.alloc hb.size (.cells #[.string t, .int .i64 m, .int .i64 c, .bool o] 65)))
        have hk2 := hid (blk_old (o' := .cells #[.string t, .int .i64 m, .int .i64 c, .bool o] 65) hbk)
        clear hts
        go_wp2_with fail
        go_roundg (n - (k + 1))
        case measure => omega
        case rel =>
          exact ⟨k + 1, rfl, by omega, by go_num, hb2.out, by simp; omega, hk2.out, hid (by rw [HG.out, HS.out, if_neg HT.out])⟩
    · obtain rfl : k = n := by omega
      have HR := hid (show Vw.get l s = Vw.new s by rw [HG.out, List.drop_of_length_le (by rw [HN.out]; exact Nat.le_refl _)]; rfl)
      go_wp2_with fail
      exact bodyPost_ret (v := .agg #[.string s, .int .i64 0, .int .i64 0, .bool false]) (by simp [results, Try.results26, go_sem, r0, r1, r2, r3]) rfl ⟨by rw [HR.out]; rfl, ((((hb.setCell (by simp) _).setCell (by simp) _).setCell (by simp) _).setCell (by simp) _)⟩
end Go.Proofs.Ythhcdfjijagalaa
