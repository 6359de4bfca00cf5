/- CodeS, CodeT: joined. -/
import Derived.Test.YtjdgfijpmljhiaaCodeA
import Derived.Test.YtjdgfijpmljhiaaGridS
import Derived.Test.YtjdgfijpmljhiaaCodeC
import Derived.Test.YtjdgfijpmljhiaaGridL
/- Contracts of chapter 3, the reference's: Rows; Same, whatever comes. -/
namespace Go.Proofs.Ytjdgfijpmljhiaa
open Go.RowKit
set_option linter.unusedVariables false
set_option maxRecDepth 100000
theorem sames_next {A B : List (List UInt8)} {k : Nat} (h1 : k < A.length) (h2 : k < B.length) (h : A.take k = B.take k) (e : A[k] = B[k]) : A.take (k + 1) = B.take (k + 1) := by
  rw [List.take_succ_eq_append_getElem h1, List.take_succ_eq_append_getElem h2, h, e]
theorem bne_str {l m : List UInt8} (h : l ≠ m) : ((⟨l.toArray⟩ : ByteArray) != ⟨m.toArray⟩) = true := by
  show (!((⟨l.toArray⟩ : ByteArray) == ⟨m.toArray⟩)) = true
  rw [str_eq, decide_eq_false h]; rfl

set_option maxHeartbeats 2000000 in
theorem rSame_call (a b : Option Addr) (n ac m bc : Nat) (A B : List Rw) (w : World) (hA : Ms w a n ac A) (hB : Ms w b m bc B) : Calls Try.prog 30 #[.slice a n ac, .slice b m bc] w (Drew (.bool (decide (rwData A = rwData B))) w) := by
  by_cases hd : rwData A = rwData B
  · rw [decide_eq_true hd]; exact rSame_same a b n ac m bc A B w hA hB hd
  rw [decide_eq_false hd]
  have hn := hA.cnt
  have hm := hB.cnt
  have hle := hA.sl.le
  have hmax := hA.sl.max
  unfold maxLen at hmax
  by_cases hnm : n = m
  · subst hnm
    have HN := hid hn
    have HM := hid hm
    have HD := hid hd
    clear hn hm hd
    go_enter Try.func30, Try.ntmps30
    go_wp2_with fail
    go_loopg [5, 13] n (fun g s5 i wr => ∃ k q : Nat, g = n - k ∧ k ≤ n ∧ i = .int .i64 (k : Int) ∧ wr = w.drewN q ∧ Hid ((rwData A).take k = (rwData B).take k))
    case atStart => exact ⟨0, 0, rfl, by omega, rfl, rfl, hid rfl⟩
    case round =>
      obtain ⟨k, q, rfl, hk, rfl, rfl, HT⟩ := hrel
      by_cases hlt : k < n
      · have hkA : k < A.length := by rw [HN.out]; exact hlt
        have hkB : k < B.length := by rw [HM.out]; exact hlt
        obtain ⟨b, boff, rfl, _⟩ := hB.sl.addr (by omega)
        obtain ⟨a, aoff, rfl, _⟩ := hA.sl.addr (by omega)
        obtain ⟨c0, d0⟩ := (hA.drewN q).at k hkA
        obtain ⟨c1, d1⟩ := (hB.drewN q).at k hkB
        have hkA2 : k < (rwData A).length := by rw [rwData_length]; exact hkA
        have hkB2 : k < (rwData B).length := by rw [rwData_length]; exact hkB
        have hdA : (rwData A)[k] = A[k].l := rwData_at hkA2
        have hdB : (rwData B)[k] = B[k].l := rwData_at hkB2
        have hnext := fun e => hid (sames_next hkA2 hkB2 HT.out e)
        rw [hdA, hdB] at hnext
        obtain ⟨W, hW⟩ : ∃ W, w.drewN q = W := ⟨_, rfl⟩
        have q0 := fun s => Bt.str (Sl.drewN d0 s)
        have q1 := fun s => Bt.str (Sl.drewN d1 s)
        rw [hW] at c0 c1 q0 q1 ⊢
        replace hW := hid hW
        replace hdA := hid hdA
        replace hdB := hid hdB
        clear d0 d1
        generalize A[k] = r0 at *
        generalize B[k] = r1 at *
        obtain ⟨a0, n0, p0, l0⟩ := r0
        obtain ⟨a1, n1, p1, l1⟩ := r1
        simp only at c0 c1 q0 q1 hnext
        have i0 : (0 : Int) ≤ (k : Int) := Int.natCast_nonneg _
        have i1 : (k : Int) < (n : Int) := by omega
        by_cases hl : l0 = l1
        · subst hl
          replace hnext := hnext rfl
          have q2 := bne_refl_str l0
          have q3 := beq_refl_str l0
          generalize (⟨l0.toArray⟩ : ByteArray) = S at *
          go_wp2_with fail
          go_quiet (fail)
          go_wp2_with fail
          go_roundg (n - (k + 1))
          case measure => omega
          case rel => exact ⟨k + 1, _, rfl, by omega, by go_num, by rw [← hW.out]; exact World.drewN_drewN _ _ _, hnext⟩
        · have q2 := bne_str hl
          have q3 : ((⟨l0.toArray⟩ : ByteArray) == ⟨l1.toArray⟩) = false := by rw [str_eq, decide_eq_false hl]
          have q4 : (l0 == l1) = false := by rw [beq_dec, decide_eq_false hl]
          have HL := hid hl
          clear hnext hl
          go_wp2_with fail
          go_quiet (fail)
          go_wp2_with fail
          go_ret
          exact ⟨ret_bool rfl, _, by rw [← hW.out]; exact World.drewN_drewN _ _ _⟩
      · obtain rfl : n = k := by omega
        have HE := HT.out
        rw [List.take_of_length_le (by rw [rwData_length, HN.out]; exact Nat.le_refl _), List.take_of_length_le (by rw [rwData_length, HM.out]; exact Nat.le_refl _)] at HE
        exact absurd HE HD.out
  · have u0 : ((n : Int) != (m : Int)) = true := by rw [bne_iff_ne]; omega
    have u1 : (n != m) = true := bne_iff_ne.2 hnm
    clear hn hm hnm hd
    go_enter Try.func30, Try.ntmps30
    go_wp2_with fail
    go_ret
    exact ⟨ret_bool rfl, 0, rfl⟩

set_option maxHeartbeats 1000000 in
theorem rRows_bad (d s : Int) (w : World) (h : Mat.wrongC d s ≠ 0) : Calls Try.prog 64 #[.int .i64 d, .int .i64 s] w (NilB (Mat.wrongC d s) w) := by
  have C := hid (rWrongCode_call d s w)
  have t0 : (Mat.wrongC d s != 0) = true := by rw [bne_iff_ne]; exact h
  clear h
  generalize Mat.wrongC d s = e at *
  go_enter Try.func64, Try.ntmps64
  go_wp2_with fail
  go_at_call 48; refine (C.out).mono ?_; rintro e' w1 ⟨rfl, rfl⟩
  go_wp2_with fail
  go_ret2
  exact ⟨rfl, Below.refl _ _⟩
set_option maxHeartbeats 2000000 in
theorem rRows_ok (d s : Nat) (w : World) (h1 : 1 ≤ d) (h2 : d ≤ 8) (h3 : s ≤ 4) : Calls Try.prog 64 #[.int .i64 (d : Int), .int .i64 (s : Int)] w (MRes (fun L e => Mat.Rep L (d + s) d (Mat.rowM d) ∧ e = 0) w) := by
  have C := hid (rWrongCode_call d s w)
  rw [Mat.wrongC_of (by omega)] at C
  obtain ⟨N, hN⟩ : ∃ N, d + s = N := ⟨_, rfl⟩
  have s1 : IntKind.i64.wrap ((d : Int) + (s : Int)) = (N : Int) := by rw [IntWalk.i64_in _ (by omega)]; omega
  have s2 : (d : Int) + (s : Int) = (N : Int) := by omega
  have hN12 : N ≤ 12 := by omega
  rw [hN]
  replace hN := hid hN
  go_enter Try.func64, Try.ntmps64
  go_wp2_with fail
  go_at_call 48; refine (C.out).mono ?_; rintro e' w1 ⟨rfl, rfl⟩
  go_wp2_with fail
  go_loopg [7, 8] N (fun g s7 s8 wr => ∃ (k : Nat) (R : List Rw), g = N - k ∧ k ≤ N ∧ s8 = .int .i64 (k : Int) ∧ Hid (R.length = k) ∧ Mb w wr none w.heap.size s7 R ∧ Hid (∀ i (hi : i < R.length), R[i].l.length = d ∧ ∀ j, j < d → R[i].l.getD j 0 = Mat.rowM d i j))
  case atStart => exact ⟨0, [], rfl, by omega, rfl, hid rfl, Mb.nil _ _ (Below.refl _ _) _ (Nat.le_refl _), hid (fun i hi => absurd hi (by simp))⟩
  case round =>
    obtain ⟨k, R, rfl, hk, rfl, HL, hM, HD⟩ := hrel
    obtain ⟨wo, rfl⟩ : ∃ wo : World, wo = wr := ⟨_, rfl⟩
    by_cases hlt : k < N
    · have hszo := (hM.own.belowOf (Nat.le_refl _) (fun k e => by cases e)).size
      have hk12 : k < 12 := by omega
      go_wp2_with (refine wpList_make_bytes rfl (.tmp 24) (.tmp 24) rfl d rfl rfl (by omega) ?_; intro w2 o2 b2 z2)
      go_loopg [28] d (fun g s28 wr => ∃ (j : Nat) (l : List UInt8), g = d - j ∧ j ≤ d ∧ s28 = .int .i64 (j : Int) ∧ wr.ownsRow wo.heap.size 5 1 (.slice (some ⟨wo.heap.size, 0, none⟩) d d) d (cb l) ∧ Below wo.heap.size wo wr ∧ Hid (∀ t, t < d → l.getD t 0 = if t < j then Mat.rowM d k t else 0))
      case atStart => exact ⟨0, _, rfl, by omega, rfl, o2, b2, hid (fun t ht => by simp [List.getD, ht])⟩
      case round =>
        clear o2 b2 z2
        obtain ⟨j, l, rfl, hj, rfl, hO, hB, HJ⟩ := hrel
        obtain ⟨wp, rfl⟩ : ∃ wp : World, wp = wr := ⟨_, rfl⟩
        have hszp := hB.size
        by_cases hjd : j < d
        · have HJL := hid (byte_len hO)
          have c0 := byte_at hO j hjd
          have f0 := byte_free hO j
          have hstep : ∀ (y : UInt8), y = Mat.rowM d k j → Hid (∀ t, t < d → (l.set j y).getD t 0 = if t < j + 1 then Mat.rowM d k t else 0) := fun y hy => hid (fun t ht => by
            rw [getD_set (by rw [HJL.out]; exact hjd)]
            by_cases e : t = j
            · subst e; rw [if_pos rfl, if_pos (by omega), hy]
            · rw [if_neg e, HJ.out t ht]
              by_cases e2 : t < j
              · rw [if_pos e2, if_pos (by omega)]
              · rw [if_neg e2, if_neg (by omega)])
          replace hstep := hid hstep
          by_cases hdk : d ≤ k
          · have u0 : (d : Int) ≤ (k : Int) := by omega
            have hx := i64_xor_nat k j (by omega) (by omega)
            have hy := rowM_inv (d := d) (i := k) (j := j) hdk (by omega) (by omega)
            have hxl : k ^^^ j < 256 := Nat.xor_lt_two_pow (n := 8) (by omega) (by omega)
            have hw8 : IntKind.u8.wrap ((k ^^^ j : Nat) : Int) = ((k ^^^ j : Nat) : Int) := by rw [IntKind.wrap_u8]; omega
            obtain ⟨y, hyy⟩ : ∃ y, Mat.rowM d k j = y := ⟨_, rfl⟩
            rw [hyy] at hy
            replace hyy := hid hyy
            have D := hid (rInv_call (k ^^^ j) hxl wp)
            rw [← hy] at D
            have hs := hid (byte_set hO j y.toNat y rfl)
            have hBs : Hid (Below wo.heap.size wo (wp.setCell ⟨wo.heap.size, j, none⟩ (.int .u8 (y.toNat : Int)))) := hid (hB.setCell (Nat.le_refl _) _)
            generalize k ^^^ j = x at *
            clear hy
            go_wp2_with fail
            go_at_call 78; refine (D.out).mono ?_; rintro e w5 ⟨rfl, rfl⟩
            go_wp2_with fail
            go_roundg (d - (j + 1))
            case measure => omega
            case rel => exact ⟨j + 1, _, rfl, by omega, by go_num, hs.out, hBs.out, hstep.out y hyy.out.symm⟩
          · have u0 : ¬ (d : Int) ≤ (k : Int) := by omega
            by_cases hkj : k = j
            · have hs : Hid ((wp.setCell ⟨wo.heap.size, j, none⟩ (.int .u8 1)).ownsRow wo.heap.size 5 1 (.slice (some ⟨wo.heap.size, 0, none⟩) d d) d (cb (l.set j 1))) := hid (byte_set hO j 1 1 rfl)
              have hBs : Hid (Below wo.heap.size wo (wp.setCell ⟨wo.heap.size, j, none⟩ (.int .u8 1))) := hid (hB.setCell (Nat.le_refl _) _)
              have hr := hid (show (1 : UInt8) = Mat.rowM d k j by unfold Mat.rowM Mat.one; rw [if_pos (by omega), if_pos hkj])
              subst hkj
              go_wp2_with fail
              go_roundg (d - (k + 1))
              case measure => omega
              case rel => exact ⟨k + 1, _, rfl, by omega, by go_num, hs.out, hBs.out, hstep.out 1 hr.out⟩
            · have u1 : ((k : Int) == (j : Int)) = false := beq_eq_false_iff_ne.2 (by omega)
              have u2 : (k == j) = false := beq_eq_false_iff_ne.2 hkj
              have hr := hid (show (0 : UInt8) = Mat.rowM d k j by unfold Mat.rowM Mat.one; rw [if_pos (by omega), if_neg hkj])
              have HKJ := hid hkj
              clear hkj
              go_wp2_with fail
              go_roundg (d - (j + 1))
              case measure => omega
              case rel =>
                refine ⟨j + 1, l, rfl, by omega, by go_num, hO, hB, hid (fun t ht => ?_)⟩
                rw [HJ.out t ht]
                by_cases e : t = j
                · subst e; rw [if_neg (by omega), if_pos (by omega)]; exact hr.out
                · by_cases e2 : t < j
                  · rw [if_pos e2, if_pos (by omega)]
                  · rw [if_neg e2, if_neg (by omega)]
        · obtain rfl : d = j := by omega
          have M2 := hM.below hB
          have hR12 : R.length ≤ 65536 := by rw [HL.out]; omega
          go_wp2_with (refine wpList_append_row rfl (.tmp 49) (.tmp 51) 88 und_Matrix rfl w.heap.size _ R rfl M2 ⟨some ⟨wo.heap.size, 0, none⟩, d, d, l⟩ _ rfl rfl (own_bt hO) (apart_own M2.own.own hO _) hR12 (by omega) ?_; intro v5 w5 M5 g5)
          go_roundg (N - (k + 1))
          case measure => omega
          case rel =>
            refine ⟨k + 1, R ++ [⟨some ⟨wo.heap.size, 0, none⟩, d, d, l⟩], rfl, by omega, by go_num, hid (by simp [HL.out]), M5, hid (fun i hi => ?_)⟩
            by_cases e : i < R.length
            · rw [List.getElem_append_left e]; exact HD.out i e
            · have hi' : i < R.length + 1 := by simpa using hi
              have e2 : i = k := by have := HL.out; omega
              subst e2
              rw [List.getElem_append_right (by omega)]
              simp only [HL.out, Nat.sub_self, List.getElem_cons_zero]
              exact ⟨byte_len hO, fun j hj => by rw [HJ.out j hj, if_pos hj]⟩
    · obtain rfl : N = k := by omega
      obtain ⟨a', cap', rfl, hMs⟩ := hM.ms
      have hb := hM.own.belowOf (Nat.le_refl _) (fun k e => by cases e)
      go_wp2_with fail
      go_ret2
      refine ⟨_, _, _, R, 0, rfl, hMs, ⟨rep_of_rows (by rw [rwData_length]; exact HL.out) (fun i hi => ?_), rfl⟩, hb⟩
      rw [rwData_at hi]
      exact HD.out i (by simpa [rwData] using hi)
theorem rRows_call (d s : Int) (w : World) : Calls Try.prog 64 #[.int .i64 d, .int .i64 s] w (MRes (Mat.RowsR d s) w) := by
  by_cases h : Mat.wrongC d s = 0
  · have hc := Mat.wrongC_ok h
    obtain ⟨d', rfl⟩ := Int.eq_ofNat_of_zero_le (a := d) (by omega)
    obtain ⟨s', rfl⟩ := Int.eq_ofNat_of_zero_le (a := s) (by omega)
    exact (rRows_ok d' s' w (by omega) (by omega) (by omega)).mono fun e w' ⟨x1, x2, x3, x4, x5, y1, y2, ⟨y3, y5⟩, y4⟩ => ⟨x1, x2, x3, x4, x5, y1, y2, by subst y5; exact rows_some (by omega) (by omega) (by omega) y3, y4⟩
  · exact (rRows_bad d s w h).mono fun e w' hh => NilB.res hh (rows_none h)

end Go.Proofs.Ytjdgfijpmljhiaa

/- Contract of chapter 3: the reference's Spare. -/
namespace Go.Proofs.Ytjdgfijpmljhiaa
open Go.RowKit
set_option linter.unusedVariables false
set_option maxRecDepth 100000
/-- what has been summed up ahead of j -/
def spTo (d i : Nat) (a : Mat.M) (t j : Nat) : UInt8 := Mat.sum j fun q => Mat.gmul (Mat.rowM d (d + i) q) (a q t)
theorem spTo_all (d i : Nat) (a : Mat.M) (t : Nat) : spTo d i a t d = Mat.spareM d a i t := rfl
theorem spTo_succ (d i : Nat) (a : Mat.M) (t j : Nat) : spTo d i a t (j + 1) = Mat.gadd (spTo d i a t j) (Mat.gmul (Mat.rowM d (d + i) j) (a j t)) := rfl

set_option maxRecDepth 100000 in
set_option maxHeartbeats 4000000 in
theorem rSpare_ok (a : Option Addr) (n ac m s : Nat) (A : List Rw) (w : World) (hA : Ms w a n ac A) (hF : Mat.Fine (rwData A) n m) (hn8 : n ≤ 8) (hs4 : s ≤ 4) : Calls Try.prog 49 #[.slice a n ac, .int .i64 (s : Int)] w (MResN (fun L e => Mat.Rep L s m (Mat.spareM n (Mat.ent (rwData A))) ∧ e = 0) w) := by
  have hn1 : 1 ≤ n := hF.n1
  have hm1 := hF.m1
  have hm2 := hF.m2
  have HW := hid hF.wrong
  have HA := hid hA.cnt
  obtain ⟨ab, aoff, ra0, rc0, rfl, hc0⟩ := hA.row0 hF
  replace hc0 := hid hc0
  have XA := hid (hA.heads hF.cols)
  clear hF
  go_enter Try.func49, Try.ntmps49
  go_wp2_with fail
  go_at_call 64
  refine (rRows_ok n s w hn1 hn8 hs4).mono ?_
  rintro e w1 ⟨a1, n1, c1, R1, e1, rfl, hR, ⟨hp1, rfl⟩, b1⟩
  have A1 := hA.below b1
  have HR := hid hR.cnt
  have hn1' : n1 = n + s := by rw [← hR.dn, hp1.rows]
  obtain ⟨rb, roff, rfl, _⟩ := hR.sl.addr (by omega)
  have XR := hid (hR.heads hp1.cols)
  have HP := hid hp1
  have hle1 := hR.sl.le
  have hlt1 : n ≤ n1 := by omega
  clear hp1
  go_wp2_with fail
  go_at_call 65
  refine (rWrongMatrix_call _ _ _ _ _ A1).mono ?_
  rintro e w2 ⟨rfl, q2, hq2⟩
  rw [HW.out]
  have b12 : Below w1.heap.size w1 w2 := by rw [hq2]; exact below_drewN (Below.refl _ _) q2
  replace hq2 := hid hq2
  have b2 := bnext b1 b12
  have HS : Hid (n1 = n + s) := hid hn1'
  have hRep0 : Hid (s = 0 → Mat.Rep [] s m (Mat.spareM n (Mat.ent (rwData A)))) := hid (fun h => ⟨h.symm, (fun r hr => by cases hr), fun i j hi => absurd hi (by omega)⟩)
  by_cases hs0 : s = 0
  · subst hs0
    by_cases hcap : c1 = n
    all_goals
      go_wp2_with fail
      go_loopg [9, 35] 0 (fun g s9 i wr => g = 0 ∧ s9 = .slice none 0 0 ∧ i = .int .i64 0 ∧ w2 = wr)
      case atStart => exact ⟨rfl, rfl, rfl, rfl⟩
      case round =>
        obtain ⟨rfl, rfl, rfl, rfl⟩ := hrel
        go_wp2_with fail
        go_ret2
        exact ⟨_, _, _, [], 0, rfl, Ms.nil _, ⟨hRep0.out (by first | exact trivial | rfl), rfl⟩, b2, NewR.nil _⟩
  · have hcap : ¬ c1 = n := by omega
    clear hRep0
    go_wp2_with fail
    clear hc0
    go_loopg [9, 35] s (fun g s9 s35 wr => ∃ (k : Nat) (R : List Rw), g = s - k ∧ k ≤ s ∧ s35 = .int .i64 (k : Int) ∧ Hid (R.length = k) ∧ Mb w2 wr none w2.heap.size s9 R ∧ Hid (NewR w.heap.size R) ∧ Hid (∀ i (hi : i < R.length), R[i].l.length = m ∧ ∀ j, j < m → R[i].l.getD j 0 = Mat.spareM n (Mat.ent (rwData A)) i j))
    case atStart => exact ⟨0, [], rfl, by omega, rfl, hid rfl, Mb.nil _ _ (Below.refl _ _) _ (Nat.le_refl _), hid (NewR.nil _), hid (fun i hi => absurd hi (by simp))⟩
    case round =>
      obtain ⟨k, R, rfl, hk, rfl, HL, hM, HW2, HD⟩ := hrel
      obtain ⟨wo, rfl⟩ : ∃ wo : World, wo = wr := ⟨_, rfl⟩
      have hbo := hM.own.belowOf (Nat.le_refl _) (fun k e => by cases e)
      have hszo := hbo.size
      by_cases hlt : k < s
      · have hkR : n + k < R1.length := by rw [HR.out, HS.out]; omega
        obtain ⟨ra, rc, hra, e0⟩ := XR.out (n + k) hkR
        have hb1o := b12.trans (hbo.mono b12.size)
        have x0 := e0 wo hb1o
        have hA0 : 0 < A.length := by rw [HA.out]; omega
        obtain ⟨qa, qc, _, e00⟩ := XA.out 0 hA0
        have c0 := e00 wo (bnext b2 hbo)
        rw [Nat.add_zero] at c0
        rw [← Nat.add_assoc] at x0
        have hrl := hid (Bt.n hra)
        have hrow : Hid (∀ j, j < n → R1[n + k].l.getD j 0 = Mat.rowM n (n + k) j) := hid (fun j hj => by
          rw [← ent_rw hkR]; exact HP.out.eq (n + k) j (by omega) hj)
        clear e0 e00
        go_wp2_with (refine wpList_make_bytes rfl (.tmp 42) (.tmp 42) rfl m rfl rfl (by omega) ?_; intro w3 o3 b3 z3)
        clear x0 c0
        go_loopg [46] m (fun g s46 wr => ∃ (t : Nat) (l : List UInt8), g = m - t ∧ t ≤ m ∧ s46 = .int .i64 (t : Int) ∧ wr.ownsRow wo.heap.size 5 1 (.slice (some ⟨wo.heap.size, 0, none⟩) m m) m (cb l) ∧ Below wo.heap.size wo wr ∧ Hid (∀ v, v < m → l.getD v 0 = if v < t then Mat.spareM n (Mat.ent (rwData A)) k v else 0))
        case atStart => exact ⟨0, _, rfl, by omega, rfl, o3, b3, hid (fun v hv => by simp [List.getD, hv])⟩
        case round =>
          clear o3 b3 z3
          obtain ⟨t, l, rfl, ht, rfl, hO, hB, HJ⟩ := hrel
          obtain ⟨wp, rfl⟩ : ∃ wp : World, wp = wr := ⟨_, rfl⟩
          have hszp := hB.size
          by_cases htm : t < m
          · go_wp2_with fail
            go_loopg [51] n (fun g s51 wr => ∃ (j : Nat) (l' : List UInt8), g = n - j ∧ j ≤ n ∧ s51 = .int .i64 (j : Int) ∧ wr.ownsRow wo.heap.size 5 1 (.slice (some ⟨wo.heap.size, 0, none⟩) m m) m (cb l') ∧ Below wo.heap.size wo wr ∧ Hid (∀ v, v < m → l'.getD v 0 = if v < t then Mat.spareM n (Mat.ent (rwData A)) k v else if v = t then spTo n k (Mat.ent (rwData A)) t j else 0))
            case atStart =>
              refine ⟨0, l, rfl, by omega, rfl, hO, hB, hid (fun v hv => ?_)⟩
              rw [HJ.out v hv]
              by_cases e : v < t
              · rw [if_pos e, if_pos e]
              · rw [if_neg e, if_neg e]
                by_cases e2 : v = t
                · rw [if_pos e2]; rfl
                · rw [if_neg e2]
            case round =>
              clear hO hB HJ hszp
              obtain ⟨j, l', rfl, hj, rfl, hO, hB, HJ⟩ := hrel
              obtain ⟨V, rfl⟩ : ∃ V : World, V = wr := ⟨_, rfl⟩
              have hszp := hB.size
              by_cases hjn : j < n
              · have hjA : j < A.length := by rw [HA.out]; exact hjn
                have hbV := bnext (bnext b2 hbo) hB
                obtain ⟨qa, qc, hqa, e1⟩ := XA.out j hjA
                have x0 := e1 V hbV
                have hqV := hqa.below hbV
                obtain ⟨qb, qoff, rfl, _⟩ := hqV.addr (by omega)
                have x1 := Bt.at hqV t htm
                have hraV := hra.below (hb1o.trans (hB.mono hb1o.size))
                obtain ⟨sb, soff, rfl, _⟩ := hraV.addr (by omega)
                have x2 := Bt.at hraV j hjn
                have x3 := byte_at hO t htm
                have f0 := byte_free hO t
                have i0 : (0 : Int) ≤ (j : Int) := by omega
                have i1 : (j : Int) < (n : Int) := by omega
                have i2 : (0 : Int) ≤ (t : Int) := by omega
                have i3 : (t : Int) < (m : Int) := by omega
                have HJL := hid (byte_len hO)
                have h8a := at8_lt R1[n + k].l j
                have h8b := at8_lt A[j].l t
                have h8c := at8_lt l' t
                have e8 : (spTo n k (Mat.ent (rwData A)) t (j + 1)).toNat = at8 l' t ^^^ Fld.mul (at8 R1[n + k].l j) (at8 A[j].l t) := by
                  rw [spTo_succ, Mat.toNat_add, Mat.toNat_mul, ← hrow.out j hjn, ent_rw hjA]
                  have := HJ.out t htm
                  rw [if_neg (by omega), if_pos rfl] at this
                  rw [← this]; rfl
                have hs := hid (fun q => byte_set (own_drewN hO q) t _ _ e8)
                have hBs : Hid (∀ q v, Below wo.heap.size wo ((V.drewN q).setCell ⟨wo.heap.size, t, none⟩ v)) := hid (fun q v => (below_drewN hB q).setCell (Nat.le_refl _) _)
                have D := hid (fun q => rMul_call _ _ h8a h8b (V.drewN q))
                have hv := Fld.mul_lt (at8 R1[n + k].l j) (at8 A[j].l t)
                have hxx := u8_xor_nat (at8 l' t) _ h8c hv
                clear e8 e1
                generalize at8 R1[n + k].l j = va at *
                generalize at8 A[j].l t = vb at *
                generalize Fld.mul va vb = v at *
                generalize at8 l' t = vc at *
                generalize vc ^^^ v = u at *
                go_wp2_with fail
                refine wp_region_still_tail 20 (by kernel_rfl) (by kernel_rfl) ?_
                change wpStill _ _ (World.drew _) _ _ _
                simp only [List.take_succ_cons, List.take_zero, List.drop_succ_cons, List.drop_zero]
                repeat (first | still_step | still_call ((D.out 1).mono fun _ _ h => ⟨h.1, h.2.symm⟩))
                refine wpStill_nil ?_
                change wpList _ _ _ _ _ (World.drewN V 1)
                go_wp2_with fail
                go_roundg (n - (j + 1))
                case measure => omega
                case rel =>
                  refine ⟨j + 1, _, rfl, by omega, by go_num, hs.out _, hBs.out _ _, hid (fun v hv => ?_)⟩
                  rw [getD_set (by rw [HJL.out]; exact htm)]
                  by_cases e : v = t
                  · subst e; rw [if_pos rfl, if_neg (by omega), if_pos rfl]
                  · rw [if_neg e, HJ.out v hv]
                    by_cases e2 : v < t
                    · rw [if_pos e2, if_pos e2]
                    · rw [if_neg e2, if_neg e2, if_neg e, if_neg e]
              · obtain rfl : n = j := by omega
                go_wp2_with fail
                go_roundg (m - (t + 1))
                case measure => omega
                case rel =>
                  refine ⟨t + 1, l', rfl, by omega, by go_num, hO, hB, hid (fun v hv => ?_)⟩
                  rw [HJ.out v hv]
                  by_cases e : v < t
                  · rw [if_pos e, if_pos (by omega)]
                  · rw [if_neg e]
                    by_cases e2 : v = t
                    · subst e2; rw [if_pos rfl, if_pos (by omega), spTo_all]
                    · rw [if_neg e2, if_neg (by omega)]
          · obtain rfl : m = t := by omega
            have M2 := hM.below hB
            have hR12 : R.length ≤ 65536 := by rw [HL.out]; omega
            go_wp2_with (refine wpList_append_row rfl (.tmp 76) (.tmp 78) 50 und_rowst rfl w2.heap.size _ R rfl M2 ⟨some ⟨wo.heap.size, 0, none⟩, m, m, l⟩ _ rfl rfl (own_bt hO) (apart_own M2.own.own hO _) hR12 (by omega) ?_; intro v5 w5 M5 g5)
            go_roundg (s - (k + 1))
            case measure => omega
            case rel =>
              refine ⟨k + 1, R ++ [⟨some ⟨wo.heap.size, 0, none⟩, m, m, l⟩], rfl, by omega, by go_num, hid (by simp [HL.out]), M5, hid (fun r hr hn b off e => ?_), hid (fun i hi => ?_)⟩
              · rcases List.mem_append.1 hr with hr | hr
                · exact HW2.out r hr hn b off e
                · obtain rfl := List.mem_singleton.1 hr
                  cases e
                  exact Nat.le_trans b2.size hszo
              by_cases e : i < R.length
              · rw [List.getElem_append_left e]; exact HD.out i e
              · have hi' : i < R.length + 1 := by simpa using hi
                have e2 : i = k := by have := HL.out; omega
                subst e2
                rw [List.getElem_append_right (by omega)]
                simp only [HL.out, Nat.sub_self, List.getElem_cons_zero]
                exact ⟨byte_len hO, fun v hv => by rw [HJ.out v hv, if_pos hv]⟩
      · obtain rfl : s = k := by omega
        obtain ⟨a', cap', rfl, hMs⟩ := hM.ms
        go_wp2_with fail
        go_ret2
        refine ⟨_, _, _, R, 0, rfl, hMs, ⟨rep_of_rows (by rw [rwData_length]; exact HL.out) (fun i hi => ?_), rfl⟩, bnext b2 hbo, HW2.out⟩
        rw [rwData_at hi]
        exact HD.out i (by simpa [rwData] using hi)
set_option maxHeartbeats 1000000 in
theorem rSpare_bad (a : Option Addr) (n ac : Nat) (A : List Rw) (z : Int) (w : World) (hA : Ms w a n ac A) (hc : Mat.wrongC (n : Int) z ≠ 0) : Calls Try.prog 49 #[.slice a n ac, .int .i64 z] w (NilB (Mat.wrongC (n : Int) z) w) := by
  have u0 : (Mat.wrongC (n : Int) z != 0) = true := bne_iff_ne.2 hc
  have D := hid (rRows_bad (n : Int) z w hc)
  generalize Mat.wrongC (n : Int) z = e at *
  replace hc := hid hc
  go_enter Try.func49, Try.ntmps49
  go_wp2_with fail
  go_at_call 64
  refine (D.out).mono ?_
  rintro e' w1 ⟨rfl, b1⟩
  go_wp2_with fail
  go_ret2
  exact ⟨rfl, b1⟩
set_option maxHeartbeats 1000000 in
theorem rSpare_wrong (a : Option Addr) (n ac s : Nat) (A : List Rw) (w : World) (hA : Ms w a n ac A) (hn1 : 1 ≤ n) (hn8 : n ≤ 8) (hs4 : s ≤ 4) (hw : Mat.wrongM (rwData A) ≠ 0) : Calls Try.prog 49 #[.slice a n ac, .int .i64 (s : Int)] w (NilB (Mat.wrongM (rwData A)) w) := by
  have u0 : (Mat.wrongM (rwData A) != 0) = true := bne_iff_ne.2 hw
  generalize hW : Mat.wrongM (rwData A) = W at *
  replace hw := hid hw
  go_enter Try.func49, Try.ntmps49
  go_wp2_with fail
  go_at_call 64
  refine (rRows_ok n s w hn1 hn8 hs4).mono ?_
  rintro e w1 ⟨a1, n1, c1, R1, e1, rfl, hR, ⟨hp1, rfl⟩, b1⟩
  have A1 := hA.below b1
  replace hp1 := hid hp1
  go_wp2_with fail
  go_at_call 65
  refine (rWrongMatrix_call _ _ _ _ _ A1).mono ?_
  rintro e w2 ⟨rfl, q2, hq2⟩
  rw [hW]
  have b2 : Below w.heap.size w w2 := by rw [hq2]; exact below_drewN b1 q2
  replace hq2 := hid hq2
  replace hW := hid hW
  go_wp2_with fail
  go_ret2
  exact ⟨rfl, b2⟩
theorem rSpare_callN (a : Option Addr) (n ac : Nat) (A : List Rw) (z : Int) (w : World) (hA : Ms w a n ac A) : Calls Try.prog 49 #[.slice a n ac, .int .i64 z] w (MResN (Mat.SpareR (rwData A) z) w) := by
  by_cases hc : Mat.wrongC (n : Int) z = 0
  · have hc2 := Mat.wrongC_ok hc
    obtain ⟨s, rfl⟩ := Int.eq_ofNat_of_zero_le (a := z) (by omega)
    by_cases hw : Mat.wrongM (rwData A) = 0
    · have hF := hA.wid hw
      exact (rSpare_ok a n ac _ s A w hA hF (by omega) (by omega)).mono fun e w' ⟨x1, x2, x3, x4, x5, y1, y2, ⟨y3, y5⟩, y4, y6⟩ => ⟨x1, x2, x3, x4, x5, y1, y2, by subst y5; exact spare_some hF (by omega) (by omega) y3, y4, y6⟩
    · exact (rSpare_wrong a n ac s A w hA (by omega) (by omega) (by omega) hw).mono fun e w' hh => NilB.resN hh (spare_wrong (by rw [hA.dn]; exact hc) hw)
  · exact (rSpare_bad a n ac A z w hA hc).mono fun e w' hh => NilB.resN hh (by
      have := spare_none (l := rwData A) (s := z) (by rw [hA.dn]; exact hc)
      rwa [hA.dn] at this)
theorem rSpare_call (a : Option Addr) (n ac : Nat) (A : List Rw) (z : Int) (w : World) (hA : Ms w a n ac A) : Calls Try.prog 49 #[.slice a n ac, .int .i64 z] w (MRes (Mat.SpareR (rwData A) z) w) := (rSpare_callN a n ac A z w hA).mono fun _ _ h => h.res

end Go.Proofs.Ytjdgfijpmljhiaa
