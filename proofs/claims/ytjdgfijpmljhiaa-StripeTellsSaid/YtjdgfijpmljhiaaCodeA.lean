/- Contracts of chapter 3: what is wrong with how many shards there are, and what each shard is of data: the program's and the reference's. -/
import Derived.Test.YtjdgfijpmljhiaaGridF
import Derived.Test.YtjdgfijpmljhiaaPlB
import Derived.Test.YtjdgfijpmljhiaaInv
namespace Go.Proofs.Ytjdgfijpmljhiaa
open Go.RowKit
set_option linter.unusedVariables false
set_option maxRecDepth 100000
theorem wrongC_cases {P : Prop} (d s : Int) (h1 : d < 1 → P) (h2 : ¬ d < 1 → 8 < d → P) (h3 : ¬ d < 1 → ¬ 8 < d → s < 0 → P) (h4 : ¬ d < 1 → ¬ 8 < d → ¬ s < 0 → 4 < s → P) (h5 : ¬ d < 1 → ¬ 8 < d → ¬ s < 0 → ¬ 4 < s → P) : P := by
  by_cases e1 : d < 1
  · exact h1 e1
  · by_cases e2 : 8 < d
    · exact h2 e1 e2
    · by_cases e3 : s < 0
      · exact h3 e1 e2 e3
      · by_cases e4 : 4 < s
        · exact h4 e1 e2 e3 e4
        · exact h5 e1 e2 e3 e4
theorem wrongC_5 {d s : Int} (h : d < 1 ∨ 8 < d ∨ s < 0 ∨ 4 < s) : Mat.wrongC d s = 5 := by unfold Mat.wrongC; rw [if_pos h]

theorem cWrong_call (d s : Int) (w : World) : Calls Try.prog 44 #[.int .i64 d, .int .i64 s] w (Same (.int .i64 (Mat.wrongC d s)) w) := by
  refine wrongC_cases d s (fun h1 => ?_) (fun h1 h2 => ?_) (fun h1 h2 h3 => ?_) (fun h1 h2 h3 h4 => ?_) (fun h1 h2 h3 h4 => ?_)
  · rw [wrongC_5 (.inl h1)]
    go_enter Try.func44, Try.ntmps44
    go_wp2_with fail
    go_ret
    exact ⟨rfl, rfl⟩
  · rw [wrongC_5 (.inr (.inl h2))]
    go_enter Try.func44, Try.ntmps44
    go_wp2_with fail
    go_ret
    exact ⟨rfl, rfl⟩
  · rw [wrongC_5 (.inr (.inr (.inl h3)))]
    go_enter Try.func44, Try.ntmps44
    go_wp2_with fail
    go_ret
    exact ⟨rfl, rfl⟩
  · rw [wrongC_5 (.inr (.inr (.inr h4)))]
    go_enter Try.func44, Try.ntmps44
    go_wp2_with fail
    go_ret
    exact ⟨rfl, rfl⟩
  · rw [Mat.wrongC_of (by omega)]
    go_enter Try.func44, Try.ntmps44
    go_wp2_with fail
    go_ret
    exact ⟨rfl, rfl⟩

theorem rWrongCode_call (d s : Int) (w : World) : Calls Try.prog 48 #[.int .i64 d, .int .i64 s] w (Same (.int .i64 (Mat.wrongC d s)) w) := by
  refine wrongC_cases d s (fun h1 => ?_) (fun h1 h2 => ?_) (fun h1 h2 h3 => ?_) (fun h1 h2 h3 h4 => ?_) (fun h1 h2 h3 h4 => ?_)
  · rw [wrongC_5 (.inl h1)]
    go_enter Try.func48, Try.ntmps48
    go_wp2_with fail
    go_ret
    exact ⟨rfl, rfl⟩
  · rw [wrongC_5 (.inr (.inl h2))]
    go_enter Try.func48, Try.ntmps48
    go_wp2_with fail
    go_ret
    exact ⟨rfl, rfl⟩
  · rw [wrongC_5 (.inr (.inr (.inl h3)))]
    go_enter Try.func48, Try.ntmps48
    go_wp2_with fail
    go_ret
    exact ⟨rfl, rfl⟩
  · rw [wrongC_5 (.inr (.inr (.inr h4)))]
    go_enter Try.func48, Try.ntmps48
    go_wp2_with fail
    go_ret
    exact ⟨rfl, rfl⟩
  · rw [Mat.wrongC_of (by omega)]
    go_enter Try.func48, Try.ntmps48
    go_wp2_with fail
    go_ret
    exact ⟨rfl, rfl⟩

/-- a matrix of the call's own, to be read and made longer -/
theorem Mo.mb {w W : World} {g n cap : Nat} {R : List Wr} (h : Mo W w.heap.size g n cap R) (hn : R.length = n) (hb : Below w.heap.size w W) : Mb w W none w.heap.size (.slice (some ⟨g, 0, none⟩) n cap) (R.map Wr.rw) := by
  subst hn
  refine ⟨?_, fun r hr => ?_, fun r hr => ?_⟩
  · have ho := h.own
    rw [Nat.sub_self, List.replicate_zero, List.append_nil, ← wrCells_rw] at ho
    rw [List.length_map]
    exact OT.fresh ho hb (Nat.le_refl _)
  · obtain ⟨r', hr', rfl⟩ := List.mem_map.1 hr
    exact h.rw hr'
  · obtain ⟨r', hr', rfl⟩ := List.mem_map.1 hr
    intro _ b off e e2
    have e : some (⟨r'.g, 0, none⟩ : Addr) = some ⟨b, off, none⟩ := e
    cases e
    have e2 : some g = some r'.g := e2
    cases e2
    exact h.ne hr' rfl
theorem rowM_inv {d i j : Nat} (hi : d ≤ i) (h1 : i < 256) (h2 : j < 256) : (Mat.rowM d i j).toNat = Fld.inv (i ^^^ j) := by
  unfold Mat.rowM
  rw [if_neg (by omega), Mat.toNat_inv, Mat.toNat_add, UInt8.toNat_ofNat', UInt8.toNat_ofNat', Nat.mod_eq_of_lt h1, Nat.mod_eq_of_lt h2]
theorem rows_none {d s : Int} (h : Mat.wrongC d s ≠ 0) : Mat.RowsR d s [] (Mat.wrongC d s) := by unfold Mat.RowsR; rw [if_pos h]; exact ⟨rfl, rfl⟩
theorem rows_some {d s : Nat} (h1 : 1 ≤ d) (h2 : d ≤ 8) (h3 : s ≤ 4) {L : List (List UInt8)} (h : Mat.Rep L (d + s) d (Mat.rowM d)) : Mat.RowsR d s L 0 := by
  unfold Mat.RowsR
  rw [if_neg (fun hh => hh (Mat.wrongC_of (by omega)))]
  have e1 : ((d : Int) + (s : Int)).toNat = d + s := by omega
  rw [e1, Int.toNat_natCast]
  exact ⟨h, rfl⟩

set_option maxHeartbeats 1000000 in
theorem cRows_bad (d s : Int) (w : World) (h : Mat.wrongC d s ≠ 0) : Calls Try.prog 58 #[.int .i64 d, .int .i64 s] w (NilB (Mat.wrongC d s) w) := by
  have C := hid (cWrong_call d s w)
  have t0 : (Mat.wrongC d s != 0) = true := by rw [bne_iff_ne]; exact h
  clear h
  generalize Mat.wrongC d s = e at *
  go_enter Try.func58, Try.ntmps58
  go_wp2_with fail
  go_at_call 44; refine (C.out).mono ?_; rintro e' w1 ⟨rfl, rfl⟩
  go_wp2_with fail
  go_ret2
  exact ⟨rfl, Below.refl _ _⟩
set_option maxHeartbeats 2000000 in
theorem cRows_ok (d s : Nat) (w : World) (h1 : 1 ≤ d) (h2 : d ≤ 8) (h3 : s ≤ 4) : Calls Try.prog 58 #[.int .i64 (d : Int), .int .i64 (s : Int)] w (MRes (fun L e => Mat.Rep L (d + s) d (Mat.rowM d) ∧ e = 0) w) := by
  have C := hid (cWrong_call d s w)
  rw [Mat.wrongC_of (by omega)] at C
  go_enter Try.func58, Try.ntmps58
  go_wp2_with fail
  go_at_call 44; refine (C.out).mono ?_; rintro e' w1 ⟨rfl, rfl⟩
  go_wp2_with fail
  go_at_call 73; refine (gOne_ok d w h1 (by omega)).mono ?_; rintro e w2 ⟨Go, Ro, rfl, hRo, hMo, hRep, hb2⟩
  have hMb := hMo.mb hRo hb2
  have HD := hid (show ∀ i (hi : i < (Ro.map Wr.rw).length), (Ro.map Wr.rw)[i].l.length = d ∧ ∀ j, j < d → (Ro.map Wr.rw)[i].l.getD j 0 = Mat.rowM d i j from fun i hi => by
    have hi' : i < Ro.length := by simpa using hi
    have hL : i < (wrData Ro).length := by simpa [wrData] using hi'
    have e1 := hRep.cols _ (List.getElem_mem hL)
    rw [wrData_get hL] at e1
    refine ⟨by simpa [Wr.rw] using e1, fun j hj => ?_⟩
    have e2 := hRep.eq i j (by omega) hj
    rw [Mat.ent_at hL, wrData_get hL] at e2
    unfold Mat.rowM
    rw [if_pos (by omega), ← e2]
    simp [Wr.rw])
  have HL := hid (show (Ro.map Wr.rw).length = d + 0 by rw [List.length_map, hRo]; rfl)
  generalize Ro.map Wr.rw = R0 at *
  clear hMo hRep hRo
  go_wp2_with fail
  go_loopg [7, 24] s (fun g s7 s24 wr => ∃ (k : Nat) (R : List Rw), g = s - k ∧ k ≤ s ∧ s24 = .int .i64 (k : Int) ∧ Hid (R.length = d + k) ∧ Mb w wr none w.heap.size s7 R ∧ Hid (∀ i (hi : i < R.length), R[i].l.length = d ∧ ∀ j, j < d → R[i].l.getD j 0 = Mat.rowM d i j))
  case atStart => exact ⟨0, R0, rfl, by omega, rfl, HL, hMb, HD⟩
  case round =>
    clear hMb HD HL hb2
    obtain ⟨k, R, rfl, hk, rfl, HL, hM, HD⟩ := hrel
    obtain ⟨wo, rfl⟩ : ∃ wo : World, wo = wr := ⟨_, rfl⟩
    by_cases hlt : k < s
    · obtain ⟨dk, hdk⟩ : ∃ dk, dk = d + k := ⟨_, rfl⟩
      have s1 : IntKind.i64.wrap ((d : Int) + (k : Int)) = (d : Int) + (k : Int) := IntWalk.i64_in _ (by omega)
      have s2 : IntKind.u8.wrap ((d : Int) + (k : Int)) = (dk : Int) := by rw [IntKind.wrap_u8]; omega
      have hdk12 : dk < 12 := by omega
      have hdd : d ≤ dk := by omega
      replace hdk := hid hdk
      have hszo := (hM.own.belowOf (Nat.le_refl _) (fun k e => by cases e)).size
      go_wp2_with fail
      go_loopg [10, 28] d (fun g s10 s28 wr => ∃ (j : Nat) (l : List UInt8), g = d - j ∧ j ≤ d ∧ s28 = .int .i64 (j : Int) ∧ Hid (l.length = j) ∧ OB wo wr none wo.heap.size s10 l ∧ Hid (∀ t, t < j → l.getD t 0 = Mat.rowM d dk t))
      case atStart => exact ⟨0, [], rfl, by omega, rfl, hid rfl, OT.fresh (World.ownsRow_nil _ _ _ _) (Below.refl _ _) (Nat.le_refl _), hid (fun t ht => absurd ht (by omega))⟩
      case round =>
        obtain ⟨j, l, rfl, hj, rfl, HJ, hO, HJ2⟩ := hrel
        obtain ⟨wp, rfl⟩ : ∃ wp : World, wp = wr := ⟨_, rfl⟩
        have hbp := hO.belowOf (Nat.le_refl _) (fun k e => by cases e)
        have hszp := hbp.size
        by_cases hjd : j < d
        · have s3 : IntKind.u8.wrap (j : Int) = (j : Int) := by rw [IntKind.wrap_u8]; omega
          have hx := u8_xor_nat dk j (by omega) (by omega)
          have hy := rowM_inv (d := d) (i := dk) (j := j) hdd (by omega) (by omega)
          have hxl : dk ^^^ j < 256 := Nat.xor_lt_two_pow (n := 8) (by omega) (by omega)
          obtain ⟨y, hyy⟩ : ∃ y, Mat.rowM d dk j = y := ⟨_, rfl⟩
          rw [hyy] at hy
          replace hyy := hid hyy
          have D := hid (fInv_call (dk ^^^ j) hxl wp)
          rw [← hy] at D
          generalize dk ^^^ j = x at *
          clear hy
          go_wp2_with fail
          go_at_call 74; refine (D.out).mono ?_; rintro e w5 ⟨rfl, b5⟩
          have hO5 := hO.below b5
          have hsz5 := b5.size
          have hl9 : l.length ≤ 8 := by rw [HJ.out]; omega
          go_wp2_with (refine wpList_append_ob rfl (.tmp 31) (.tmp 40) rfl wo.heap.size _ l [y] rfl (hO5.alloc _) (some ⟨w5.heap.size, 0, none⟩) 1 1 rfl (lit_bt w5 _ [y] (by simp [maxLen]) rfl) (by simp; omega) (by simp; omega) ?_; intro v2 w4 ho2 hg2)
          go_roundg (d - (j + 1))
          case measure => omega
          case rel =>
            refine ⟨j + 1, l ++ [y], rfl, by omega, by go_num, hid (by simp; exact HJ.out), ho2, hid (fun t ht => ?_)⟩
            by_cases e : t < l.length
            · rw [getD_app _ _ e]; exact HJ2.out t (by rw [← HJ.out]; exact e)
            · have e2 : t = j := by have := HJ.out; omega
              subst e2
              rw [getD_end _ _ HJ.out]; exact hyy.out.symm
        · obtain rfl : d = j := by omega
          have M2 := hM.below hbp
          have hO2 := hO.own
          rw [HJ.out] at hO2
          obtain ⟨g, cap, rfl, hbg, hgl, hnc, hcm⟩ := own_pos hO2 h1
          have hR12 : R.length ≤ 65536 := by rw [HL.out]; omega
          go_wp2_with (refine wpList_append_row rfl (.tmp 43) (.tmp 45) 88 und_Matrix rfl w.heap.size _ R rfl M2 ⟨some ⟨g, 0, none⟩, d, cap, l⟩ _ rfl rfl (own_bt hO2) (apart_own M2.own.own hO2 _) hR12 (by omega) ?_; intro v5 w5 M5 g5)
          go_roundg (s - (k + 1))
          case measure => omega
          case rel =>
            refine ⟨k + 1, R ++ [⟨some ⟨g, 0, none⟩, d, cap, l⟩], rfl, by omega, by go_num, hid (by simp [HL.out]; omega), M5, hid (fun i hi => ?_)⟩
            by_cases e : i < R.length
            · rw [List.getElem_append_left e]; exact HD.out i e
            · have hi' : i < R.length + 1 := by simpa using hi
              have e2 : i = dk := by have := HL.out; have := hdk.out; omega
              rw [List.getElem_append_right (by omega)]
              have e3 : i - R.length = 0 := by omega
              simp only [e3, List.getElem_cons_zero]
              rw [e2]
              exact ⟨HJ.out, HJ2.out⟩
    · obtain rfl : s = k := by omega
      obtain ⟨a', cap', rfl, hMs⟩ := hM.ms
      have hb := hM.own.belowOf (Nat.le_refl _) (fun k e => by cases e)
      go_wp2_with fail
      go_ret2
      refine ⟨_, _, _, R, 0, rfl, hMs, ⟨rep_of_rows (by rw [rwData_length]; exact HL.out) (fun i hi => ?_), rfl⟩, hb⟩
      rw [rwData_at hi]
      exact HD.out i (by simpa [rwData] using hi)
theorem cRows_call (d s : Int) (w : World) : Calls Try.prog 58 #[.int .i64 d, .int .i64 s] w (MRes (Mat.RowsR d s) w) := by
  by_cases h : Mat.wrongC d s = 0
  · have hc := Mat.wrongC_ok h
    obtain ⟨d', rfl⟩ := Int.eq_ofNat_of_zero_le (a := d) (by omega)
    obtain ⟨s', rfl⟩ := Int.eq_ofNat_of_zero_le (a := s) (by omega)
    exact (cRows_ok d' s' w (by omega) (by omega) (by omega)).mono fun e w' ⟨x1, x2, x3, x4, x5, y1, y2, ⟨y3, y5⟩, y4⟩ => ⟨x1, x2, x3, x4, x5, y1, y2, by subst y5; exact rows_some (by omega) (by omega) (by omega) y3, y4⟩
  · exact (cRows_bad d s w h).mono fun e w' hh => NilB.res hh (rows_none h)

end Go.Proofs.Ytjdgfijpmljhiaa
