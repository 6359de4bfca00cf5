/- Contracts of chapter 3, the reference's: Rows; Same, whatever comes. -/
import Derived.Test.YtjdgfijpmljhiaaCodeA
import Derived.Test.YtjdgfijpmljhiaaGridS
namespace Go.Proofs.Ytjdgfijpmljhiaa
open Go.RowKit
set_option linter.unusedVariables false
set_option maxRecDepth 100000
theorem sames_next {A B : List (List UInt8)} {k : Nat} (h1 : k < A.length) (h2 : k < B.length) (h : A.take k = B.take k) (e : A[k] = B[k]) : A.take (k + 1) = B.take (k + 1) := by
  rw [List.take_succ_eq_append_getElem h1, List.take_succ_eq_append_getElem h2, h, e]
theorem bne_str {l m : List UInt8} (h : l ≠ m) : ((⟨l.toArray⟩ : ByteArray) != ⟨m.toArray⟩) = true := by
  show (!((⟨l.toArray⟩ : ByteArray) == ⟨m.toArray⟩)) = true
  rw [str_eq, decide_eq_false h]; rfl

set_option maxHeartbeats 2000000 in
theorem rSame_call (a b : Option Addr) (n ac m bc : Nat) (A B : List Rw) (w : World) (hA : Ms w a n ac A) (hB : Ms w b m bc B) : Calls Try.prog 30 #[.slice a n ac, .slice b m bc] w (Drew (.bool (decide (rwData A = rwData B))) w) := by
  by_cases hd : rwData A = rwData B
  · rw [decide_eq_true hd]; exact rSame_same a b n ac m bc A B w hA hB hd
  rw [decide_eq_false hd]
  have hn := hA.cnt
  have hm := hB.cnt
  have hle := hA.sl.le
  have hmax := hA.sl.max
  unfold maxLen at hmax
  by_cases hnm : n = m
  · subst hnm
    have HN := hid hn
    have HM := hid hm
    have HD := hid hd
    clear hn hm hd
    go_enter Try.func30, Try.ntmps30
    go_wp2_with fail
    go_loopg [5, 13] n (fun g s5 i wr => ∃ k q : Nat, g = n - k ∧ k ≤ n ∧ i = .int .i64 (k : Int) ∧ wr = w.drewN q ∧ Hid ((rwData A).take k = (rwData B).take k))
    case atStart => exact ⟨0, 0, rfl, by omega, rfl, rfl, hid rfl⟩
    case round =>
      obtain ⟨k, q, rfl, hk, rfl, rfl, HT⟩ := hrel
      by_cases hlt : k < n
      · have hkA : k < A.length := by rw [HN.out]; exact hlt
        have hkB : k < B.length := by rw [HM.out]; exact hlt
        obtain ⟨b, boff, rfl, _⟩ := hB.sl.addr (by omega)
        obtain ⟨a, aoff, rfl, _⟩ := hA.sl.addr (by omega)
        obtain ⟨c0, d0⟩ := (hA.drewN q).at k hkA
        obtain ⟨c1, d1⟩ := (hB.drewN q).at k hkB
        have hkA2 : k < (rwData A).length := by rw [rwData_length]; exact hkA
        have hkB2 : k < (rwData B).length := by rw [rwData_length]; exact hkB
        have hdA : (rwData A)[k] = A[k].l := rwData_at hkA2
        have hdB : (rwData B)[k] = B[k].l := rwData_at hkB2
        have hnext := fun e => hid (sames_next hkA2 hkB2 HT.out e)
        rw [hdA, hdB] at hnext
        obtain ⟨W, hW⟩ : ∃ W, w.drewN q = W := ⟨_, rfl⟩
        have q0 := fun s => Bt.str (Sl.drewN d0 s)
        have q1 := fun s => Bt.str (Sl.drewN d1 s)
        rw [hW] at c0 c1 q0 q1 ⊢
        replace hW := hid hW
        replace hdA := hid hdA
        replace hdB := hid hdB
        clear d0 d1
        generalize A[k] = r0 at *
        generalize B[k] = r1 at *
        obtain ⟨a0, n0, p0, l0⟩ := r0
        obtain ⟨a1, n1, p1, l1⟩ := r1
        simp only at c0 c1 q0 q1 hnext
        have i0 : (0 : Int) ≤ (k : Int) := Int.natCast_nonneg _
        have i1 : (k : Int) < (n : Int) := by omega
        by_cases hl : l0 = l1
        · subst hl
          replace hnext := hnext rfl
          have q2 := bne_refl_str l0
          have q3 := beq_refl_str l0
          generalize (⟨l0.toArray⟩ : ByteArray) = S at *
          go_wp2_with fail
          go_quiet (fail)
          go_wp2_with fail
          go_roundg (n - (k + 1))
          case measure => omega
          case rel => exact ⟨k + 1, _, rfl, by omega, by go_num, by rw [← hW.out]; exact World.drewN_drewN _ _ _, hnext⟩
        · have q2 := bne_str hl
          have q3 : ((⟨l0.toArray⟩ : ByteArray) == ⟨l1.toArray⟩) = false := by rw [str_eq, decide_eq_false hl]
          have q4 : (l0 == l1) = false := by rw [beq_dec, decide_eq_false hl]
          have HL := hid hl
          clear hnext hl
          go_wp2_with fail
          go_quiet (fail)
          go_wp2_with fail
          go_ret
          exact ⟨ret_bool rfl, _, by rw [← hW.out]; exact World.drewN_drewN _ _ _⟩
      · obtain rfl : n = k := by omega
        have HE := HT.out
        rw [List.take_of_length_le (by rw [rwData_length, HN.out]; exact Nat.le_refl _), List.take_of_length_le (by rw [rwData_length, HM.out]; exact Nat.le_refl _)] at HE
        exact absurd HE HD.out
  · have u0 : ((n : Int) != (m : Int)) = true := by rw [bne_iff_ne]; omega
    have u1 : (n != m) = true := bne_iff_ne.2 hnm
    clear hn hm hnm hd
    go_enter Try.func30, Try.ntmps30
    go_wp2_with fail
    go_ret
    exact ⟨ret_bool rfl, 0, rfl⟩

set_option maxHeartbeats 1000000 in
theorem rRows_bad (d s : Int) (w : World) (h : Mat.wrongC d s ≠ 0) : Calls Try.prog 64 #[.int .i64 d, .int .i64 s] w (NilB (Mat.wrongC d s) w) := by
  have C := hid (rWrongCode_call d s w)
  have t0 : (Mat.wrongC d s != 0) = true := by rw [bne_iff_ne]; exact h
  clear h
  generalize Mat.wrongC d s = e at *
  go_enter Try.func64, Try.ntmps64
  go_wp2_with fail
  go_at_call 48; refine (C.out).mono ?_; rintro e' w1 ⟨rfl, rfl⟩
  go_wp2_with fail
  go_ret2
  exact ⟨rfl, Below.refl _ _⟩
set_option maxHeartbeats 2000000 in
theorem rRows_ok (d s : Nat) (w : World) (h1 : 1 ≤ d) (h2 : d ≤ 8) (h3 : s ≤ 4) : Calls Try.prog 64 #[.int .i64 (d : Int), .int .i64 (s : Int)] w (MRes (fun L e => Mat.Rep L (d + s) d (Mat.rowM d) ∧ e = 0) w) := by
  have C := hid (rWrongCode_call d s w)
  rw [Mat.wrongC_of (by omega)] at C
  obtain ⟨N, hN⟩ : ∃ N, d + s = N := ⟨_, rfl⟩
  have s1 : IntKind.i64.wrap ((d : Int) + (s : Int)) = (N : Int) := by rw [IntWalk.i64_in _ (by omega)]; omega
  have s2 : (d : Int) + (s : Int) = (N : Int) := by omega
  have hN12 : N ≤ 12 := by omega
  rw [hN]
  replace hN := hid hN
  go_enter Try.func64, Try.ntmps64
  go_wp2_with fail
  go_at_call 48; refine (C.out).mono ?_; rintro e' w1 ⟨rfl, rfl⟩
  go_wp2_with fail
  go_loopg [7, 8] N (fun g s7 s8 wr => ∃ (k : Nat) (R : List Rw), g = N - k ∧ k ≤ N ∧ s8 = .int .i64 (k : Int) ∧ Hid (R.length = k) ∧ Mb w wr none w.heap.size s7 R ∧ Hid (∀ i (hi : i < R.length), R[i].l.length = d ∧ ∀ j, j < d → R[i].l.getD j 0 = Mat.rowM d i j))
  case atStart => exact ⟨0, [], rfl, by omega, rfl, hid rfl, Mb.nil _ _ (Below.refl _ _) _ (Nat.le_refl _), hid (fun i hi => absurd hi (by simp))⟩
  case round =>
    obtain ⟨k, R, rfl, hk, rfl, HL, hM, HD⟩ := hrel
    obtain ⟨wo, rfl⟩ : ∃ wo : World, wo = wr := ⟨_, rfl⟩
    by_cases hlt : k < N
    · have hszo := (hM.own.belowOf (Nat.le_refl _) (fun k e => by cases e)).size
      have hk12 : k < 12 := by omega
      go_wp2_with (refine wpList_make_bytes rfl (.tmp 24) (.tmp 24) rfl d rfl rfl (by omega) ?_; intro w2 o2 b2 z2)
      go_loopg [28] d (fun g s28 wr => ∃ (j : Nat) (l : List UInt8), g = d - j ∧ j ≤ d ∧ s28 = .int .i64 (j : Int) ∧ wr.ownsRow wo.heap.size 5 1 (.slice (some ⟨wo.heap.size, 0, none⟩) d d) d (cb l) ∧ Below wo.heap.size wo wr ∧ Hid (∀ t, t < d → l.getD t 0 = if t < j then Mat.rowM d k t else 0))
      case atStart => exact ⟨0, _, rfl, by omega, rfl, o2, b2, hid (fun t ht => by simp [List.getD, ht])⟩
      case round =>
        clear o2 b2 z2
        obtain ⟨j, l, rfl, hj, rfl, hO, hB, HJ⟩ := hrel
        obtain ⟨wp, rfl⟩ : ∃ wp : World, wp = wr := ⟨_, rfl⟩
        have hszp := hB.size
        by_cases hjd : j < d
        · have HJL := hid (byte_len hO)
          have c0 := byte_at hO j hjd
          have f0 := byte_free hO j
          have hstep : ∀ (y : UInt8), y = Mat.rowM d k j → Hid (∀ t, t < d → (l.set j y).getD t 0 = if t < j + 1 then Mat.rowM d k t else 0) := fun y hy => hid (fun t ht => by
            rw [getD_set (by rw [HJL.out]; exact hjd)]
            by_cases e : t = j
            · subst e; rw [if_pos rfl, if_pos (by omega), hy]
            · rw [if_neg e, HJ.out t ht]
              by_cases e2 : t < j
              · rw [if_pos e2, if_pos (by omega)]
              · rw [if_neg e2, if_neg (by omega)])
          replace hstep := hid hstep
          by_cases hdk : d ≤ k
          · have u0 : (d : Int) ≤ (k : Int) := by omega
            have hx := i64_xor_nat k j (by omega) (by omega)
            have hy := rowM_inv (d := d) (i := k) (j := j) hdk (by omega) (by omega)
            have hxl : k ^^^ j < 256 := Nat.xor_lt_two_pow (n := 8) (by omega) (by omega)
            have hw8 : IntKind.u8.wrap ((k ^^^ j : Nat) : Int) = ((k ^^^ j : Nat) : Int) := by rw [IntKind.wrap_u8]; omega
            obtain ⟨y, hyy⟩ : ∃ y, Mat.rowM d k j = y := ⟨_, rfl⟩
            rw [hyy] at hy
            replace hyy := hid hyy
            have D := hid (rInv_call (k ^^^ j) hxl wp)
            rw [← hy] at D
            have hs := hid (byte_set hO j y.toNat y rfl)
            have hBs : Hid (Below wo.heap.size wo (wp.setCell ⟨wo.heap.size, j, none⟩ (.int .u8 (y.toNat : Int)))) := hid (hB.setCell (Nat.le_refl _) _)
            generalize k ^^^ j = x at *
            clear hy
            go_wp2_with fail
            go_at_call 78; refine (D.out).mono ?_; rintro e w5 ⟨rfl, rfl⟩
            go_wp2_with fail
            go_roundg (d - (j + 1))
            case measure => omega
            case rel => exact ⟨j + 1, _, rfl, by omega, by go_num, hs.out, hBs.out, hstep.out y hyy.out.symm⟩
          · have u0 : ¬ (d : Int) ≤ (k : Int) := by omega
            by_cases hkj : k = j
            · have hs : Hid ((wp.setCell ⟨wo.heap.size, j, none⟩ (.int .u8 1)).ownsRow wo.heap.size 5 1 (.slice (some ⟨wo.heap.size, 0, none⟩) d d) d (cb (l.set j 1))) := hid (byte_set hO j 1 1 rfl)
              have hBs : Hid (Below wo.heap.size wo (wp.setCell ⟨wo.heap.size, j, none⟩ (.int .u8 1))) := hid (hB.setCell (Nat.le_refl _) _)
              have hr := hid (show (1 : UInt8) = Mat.rowM d k j by unfold Mat.rowM Mat.one; rw [if_pos (by omega), if_pos hkj])
              subst hkj
              go_wp2_with fail
              go_roundg (d - (k + 1))
              case measure => omega
              case rel => exact ⟨k + 1, _, rfl, by omega, by go_num, hs.out, hBs.out, hstep.out 1 hr.out⟩
            · have u1 : ((k : Int) == (j : Int)) = false := beq_eq_false_iff_ne.2 (by omega)
              have u2 : (k == j) = false := beq_eq_false_iff_ne.2 hkj
              have hr := hid (show (0 : UInt8) = Mat.rowM d k j by unfold Mat.rowM Mat.one; rw [if_pos (by omega), if_neg hkj])
              have HKJ := hid hkj
              clear hkj
              go_wp2_with fail
              go_roundg (d - (j + 1))
              case measure => omega
              case rel =>
                refine ⟨j + 1, l, rfl, by omega, by go_num, hO, hB, hid (fun t ht => ?_)⟩
                rw [HJ.out t ht]
                by_cases e : t = j
                · subst e; rw [if_neg (by omega), if_pos (by omega)]; exact hr.out
                · by_cases e2 : t < j
                  · rw [if_pos e2, if_pos (by omega)]
                  · rw [if_neg e2, if_neg (by omega)]
        · obtain rfl : d = j := by omega
          have M2 := hM.below hB
          have hR12 : R.length ≤ 65536 := by rw [HL.out]; omega
          go_wp2_with (refine wpList_append_row rfl (.tmp 49) (.tmp 51) 88 und_Matrix rfl w.heap.size _ R rfl M2 ⟨some ⟨wo.heap.size, 0, none⟩, d, d, l⟩ _ rfl rfl (own_bt hO) (apart_own M2.own.own hO _) hR12 (by omega) ?_; intro v5 w5 M5 g5)
          go_roundg (N - (k + 1))
          case measure => omega
          case rel =>
            refine ⟨k + 1, R ++ [⟨some ⟨wo.heap.size, 0, none⟩, d, d, l⟩], rfl, by omega, by go_num, hid (by simp [HL.out]), M5, hid (fun i hi => ?_)⟩
            by_cases e : i < R.length
            · rw [List.getElem_append_left e]; exact HD.out i e
            · have hi' : i < R.length + 1 := by simpa using hi
              have e2 : i = k := by have := HL.out; omega
              subst e2
              rw [List.getElem_append_right (by omega)]
              simp only [HL.out, Nat.sub_self, List.getElem_cons_zero]
              exact ⟨byte_len hO, fun j hj => by rw [HJ.out j hj, if_pos hj]⟩
    · obtain rfl : N = k := by omega
      obtain ⟨a', cap', rfl, hMs⟩ := hM.ms
      have hb := hM.own.belowOf (Nat.le_refl _) (fun k e => by cases e)
      go_wp2_with fail
      go_ret2
      refine ⟨_, _, _, R, 0, rfl, hMs, ⟨rep_of_rows (by rw [rwData_length]; exact HL.out) (fun i hi => ?_), rfl⟩, hb⟩
      rw [rwData_at hi]
      exact HD.out i (by simpa [rwData] using hi)
theorem rRows_call (d s : Int) (w : World) : Calls Try.prog 64 #[.int .i64 d, .int .i64 s] w (MRes (Mat.RowsR d s) w) := by
  by_cases h : Mat.wrongC d s = 0
  · have hc := Mat.wrongC_ok h
    obtain ⟨d', rfl⟩ := Int.eq_ofNat_of_zero_le (a := d) (by omega)
    obtain ⟨s', rfl⟩ := Int.eq_ofNat_of_zero_le (a := s) (by omega)
    exact (rRows_ok d' s' w (by omega) (by omega) (by omega)).mono fun e w' ⟨x1, x2, x3, x4, x5, y1, y2, ⟨y3, y5⟩, y4⟩ => ⟨x1, x2, x3, x4, x5, y1, y2, by subst y5; exact rows_some (by omega) (by omega) (by omega) y3, y4⟩
  · exact (rRows_bad d s w h).mono fun e w' hh => NilB.res hh (rows_none h)

end Go.Proofs.Ytjdgfijpmljhiaa
