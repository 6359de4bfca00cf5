/- Contract of chapter 6: the reference's Lay. -/
import Derived.Test.YtjdgfijpmljhiaaStripeC
import Derived.Test.YtjdgfijpmljhiaaCoT
namespace Go.Proofs.Ytjdgfijpmljhiaa
open Go.RowKit
set_option linter.unusedVariables false
set_option maxRecDepth 100000
theorem Stp.wd_lt {z d k : Nat} (h1 : 1 ≤ k) (hk : k < Stp.wd z d) (hd : 1 ≤ d) : k * d < z := by
  unfold Stp.wd at hk
  have h2 : k < (z + d - 1) / d := by omega
  have h3 := (Nat.lt_div_iff_mul_lt (show 0 < d by omega)).1 h2
  omega
theorem Stp.wd_ge {z d : Nat} (hd : 1 ≤ d) : z ≤ Stp.wd z d * d := Stp.wd_mul hd
theorem Stp.chunk_of {b l : List UInt8} {N i : Nat} (hl : l.length = N) (h : ∀ v, v < N → l.getD v 0 = b.getD (i * N + v) 0) : l = Stp.chunk b N i := by
  apply List.ext_getElem
  · rw [hl, Stp.chunk_length]
  · intro v h1 h2
    rw [Stp.chunk_get]
    have := h v (by omega)
    simpa [List.getD, h1] using this

set_option maxHeartbeats 8000000 in
theorem rLay_ok (a : Option Addr) (n cap : Nat) (b : List UInt8) (g d s : Nat) (w : World) (hb : Bt w a n cap b) (h1 : 1 ≤ d) (h2 : d ≤ 8) (h3 : s ≤ 4) (hg : g ≤ 39) (hz : n ≤ 400 * d) :
    Calls Try.prog 29 #[.slice a n cap, .int .i64 (g : Int), .int .i64 (d : Int), .int .i64 (s : Int)] w (MRes (Stp.LayR b (g : Int) (d : Int) (s : Int)) w) := by
  have hn := hid (Bt.n hb)
  have hle := hb.le
  have hmax := hb.max
  unfold maxLen at hmax
  have HC : Mat.wrongC (d : Int) (s : Int) = 0 := Mat.wrongC_of (by omega)
  have DC := hid (HC ▸ rWrongCode_call (d : Int) (s : Int) w)
  replace HC := hid HC
  obtain ⟨N, hN⟩ : ∃ N, N = Stp.wd n d := ⟨_, rfl⟩
  have hN1 : 1 ≤ N := by rw [hN]; exact Stp.wd_pos _ _
  have hN2 : N ≤ 400 := by rw [hN]; exact Stp.wd_le h1 hz
  have hNlt : Hid (∀ k, 1 ≤ k → k < N → k * d < n) := hid (fun k k1 k2 => Stp.wd_lt k1 (by rw [← hN]; exact k2) h1)
  have hNge : Hid (n ≤ N * d) := hid (by rw [hN]; exact Stp.wd_ge h1)
  have t0 : ¬ (g : Int) < 0 := by omega
  have t1 : ¬ (39 : Int) < (g : Int) := by omega
  have t2 : ¬ 400 * (d : Int) < (n : Int) := by omega
  replace hN := hid hN
  go_enter Try.func29, Try.ntmps29
  go_wp2_with fail
  go_at_call 48; refine (DC.out).mono ?_; rintro e w1 ⟨rfl, rfl⟩
  go_wp2_with fail
  go_loopg [11] N (fun gg s11 wr => ∃ k : Nat, gg = N + 1 - k ∧ 1 ≤ k ∧ k ≤ N ∧ s11 = .int .i64 (k : Int) ∧ w = wr)
  case atStart => exact ⟨1, by omega, Nat.le_refl _, hN1, by simp, rfl⟩
  case round =>
    obtain ⟨k, rfl, hk1, hk, rfl, rfl⟩ := hrel
    have hP : k * d ≤ 400 * 8 := Nat.mul_le_mul (by omega) h2
    have hPi : ((k : Int) * (d : Int)) = ((k * d : Nat) : Int) := by simp
    by_cases hlt : k < N
    · have hl := hNlt.out k hk1 hlt
      generalize k * d = P at *
      have hl' : (P : Int) < (n : Int) := by omega
      go_wp2_with fail
      go_roundg (N + 1 - (k + 1))
      case measure => omega
      case rel => exact ⟨k + 1, rfl, by omega, by omega, by go_num, rfl⟩
    · obtain rfl : N = k := by omega
      have hl := hNge.out
      generalize N * d = P at *
      have hl' : ¬ (P : Int) < (n : Int) := by omega
      clear hl hNlt hNge hk hk1 hlt
      have hw0 := Below.refl w.heap.size w
      go_wp2_with fail
      clear hPi hl' hP
      go_loopg [12, 13] d (fun gg s12 s48 wr => ∃ (k : Nat) (R : List Rw), gg = d - k ∧ k ≤ d ∧ s48 = .int .i64 (k : Int) ∧ Hid (R.length = k) ∧ Mb w wr none w.heap.size s12 R ∧ Hid (∀ i (hi : i < R.length), R[i].n = N ∧ R[i].l = Stp.chunk b N i))
      case atStart => exact ⟨0, [], rfl, by omega, rfl, hid rfl, Mb.nil _ _ (Below.refl _ _) _ (Nat.le_refl _), hid (fun i hi => absurd hi (by simp))⟩
      case round =>
        obtain ⟨k, R, rfl, hk, rfl, HL, hM, HD⟩ := hrel
        obtain ⟨wo, rfl⟩ : ∃ wo : World, wo = wr := ⟨_, rfl⟩
        have hbo := hM.own.belowOf (Nat.le_refl _) (fun k e => by cases e)
        have hszo := hbo.size
        by_cases hlt : k < d
        · have hP : k * N ≤ 3200 := Nat.le_trans (Nat.mul_le_mul (Nat.le_of_lt hlt) hN2) (by omega)
          have hPi : ((k : Int) * (N : Int)) = ((k * N : Nat) : Int) := by simp
          obtain ⟨P, hPe⟩ : ∃ P, P = k * N := ⟨_, rfl⟩
          rw [← hPe] at hP hPi
          replace hPe := hid hPe
          go_wp2_with (refine wpList_make_bytes rfl (.tmp 53) (.tmp 53) rfl N rfl rfl (by omega) ?_; intro w3 o3 b3 z3)
          go_loopg [57] N (fun gg s57 wr => ∃ (t : Nat) (l : List UInt8), gg = N - t ∧ t ≤ N ∧ s57 = .int .i64 (t : Int) ∧ wr.ownsRow wo.heap.size 5 1 (.slice (some ⟨wo.heap.size, 0, none⟩) N N) N (cb l) ∧ Below wo.heap.size wo wr ∧ Hid (∀ v, v < N → l.getD v 0 = if v < t then b.getD (P + v) 0 else 0))
          case atStart => exact ⟨0, _, rfl, by omega, rfl, o3, b3, hid (fun v hv => by simp [List.getD, hv])⟩
          case round =>
            clear o3 b3 z3
            obtain ⟨t, l, rfl, ht, rfl, hO, hB, HJ⟩ := hrel
            obtain ⟨wp, rfl⟩ : ∃ wp : World, wp = wr := ⟨_, rfl⟩
            have hszp := hB.size
            by_cases htm : t < N
            · have i0 : (0 : Int) ≤ (t : Int) := by omega
              have i1 : (t : Int) < (N : Int) := by omega
              have HJL := hid (byte_len hO)
              by_cases hin : P + t < n
              · have i2 : (P : Int) + (t : Int) < (n : Int) := by omega
                have i3 : (0 : Int) ≤ (P : Int) + (t : Int) := by omega
                have e4 : ((P : Int) + (t : Int)).toNat = P + t := by omega
                have hbp := Sl.below hb (bnext hbo hB)
                obtain ⟨qb, qoff, rfl, _⟩ := hbp.addr (by omega)
                have x0 := Bt.at hbp (P + t) hin
                have x3 := byte_at hO t htm
                have f0 := byte_free hO t
                have hs := hid (byte_set hO t _ (b.getD (P + t) 0) rfl)
                have hBs : Hid (∀ v, Below wo.heap.size wo (wp.setCell ⟨wo.heap.size, t, none⟩ v)) := hid (fun v => hB.setCell (Nat.le_refl _) _)
                go_wp2_with fail
                go_roundg (N - (t + 1))
                case measure => omega
                case rel =>
                  refine ⟨t + 1, _, rfl, by omega, by go_num, hs.out, hBs.out _, hid (fun v hv => ?_)⟩
                  rw [getD_set (by rw [HJL.out]; exact htm)]
                  by_cases e : v = t
                  · subst e; rw [if_pos rfl, if_pos (by omega)]
                  · rw [if_neg e, HJ.out v hv]
                    by_cases e2 : v < t
                    · rw [if_pos e2, if_pos (by omega)]
                    · rw [if_neg e2, if_neg (by omega)]
              · have i2 : ¬ (P : Int) + (t : Int) < (n : Int) := by omega
                go_wp2_with fail
                go_roundg (N - (t + 1))
                case measure => omega
                case rel =>
                  refine ⟨t + 1, l, rfl, by omega, by go_num, hO, hB, hid (fun v hv => ?_)⟩
                  rw [HJ.out v hv]
                  by_cases e : v < t
                  · rw [if_pos e, if_pos (by omega)]
                  · rw [if_neg e]
                    by_cases e2 : v < t + 1
                    · have e3 : v = t := by omega
                      subst e3
                      rw [if_pos e2]
                      have := hn.out
                      simp [List.getD, List.getElem?_eq_none (show b.length ≤ P + v by omega)]
                    · rw [if_neg e2]
            · obtain rfl : N = t := by omega
              have hle2 : l = Stp.chunk b N k := Stp.chunk_of (byte_len hO) (fun v hv => by rw [HJ.out v hv, if_pos hv, hPe.out])
              subst hle2
              have M2 := hM.below hB
              go_wp2_with (refine wpList_append_row rfl (.tmp 80) (.tmp 82) 50 und_rowst rfl w.heap.size _ R rfl M2 ⟨some ⟨wo.heap.size, 0, none⟩, N, N, Stp.chunk b N k⟩ _ rfl rfl (own_bt hO) (apart_own M2.own.own hO _) (by rw [HL.out]; omega) (by omega) ?_; intro v5 w5 M5 g5)
              go_roundg (d - (k + 1))
              case measure => omega
              case rel =>
                refine ⟨k + 1, R ++ [⟨some ⟨wo.heap.size, 0, none⟩, N, N, Stp.chunk b N k⟩], rfl, by omega, by go_num, hid (by simp [HL.out]), M5, hid (fun i hi => ?_)⟩
                by_cases e : i < R.length
                · rw [List.getElem_append_left e]; exact HD.out i e
                · have hi' : i < R.length + 1 := by simpa using hi
                  have e2 : i = k := by have := HL.out; omega
                  subst e2
                  rw [List.getElem_append_right (by omega)]
                  simp only [HL.out, Nat.sub_self, List.getElem_cons_zero]
                  exact ⟨trivial, trivial⟩
        · obtain rfl : d = k := by omega
          have hRD := hid (show rwData R = Stp.rowsD b d from by
            apply List.ext_getElem
            · rw [rwData_length, HL.out, Stp.rowsD_length]
            · intro i k1 k2
              have hi : i < R.length := by rwa [rwData_length] at k1
              have := (HD.out i hi).2
              simp only [rwData, List.getElem_map, Stp.rowsD, List.getElem_range]
              rw [this, hN.out, hn.out])
          have hF := hid (Stp.rowsD_fine (b := b) h1 h2 (by rw [hn.out]; exact hz))
          obtain ⟨a', cap', rfl, hMs⟩ := hM.ms
          rw [HL.out] at hMs
          have DS := rSpare_callN a' d cap' R (s : Int) wo hMs
          rw [hRD.out] at DS
          replace DS := hid DS
          have hown := hid hM.own.own
          have HLo := HL.out
          rw [HLo]
          rw [HLo] at hown hM
          replace HLo := hid HLo
          go_wp2_with fail
          go_at_call 49; refine (DS.out).mono ?_; rintro e w1 ⟨a1, n1, c1, S, e1, rfl, hS, hp, b1, nw⟩
          obtain ⟨hrep, rfl⟩ := Mat.SpareR.ok hF.out h2 h3 hp
          obtain rfl : s = n1 := by rw [← hS.dn, hrep.rows]
          have HS := hid hS.cnt
          have HP := hid hp
          have M1 := hM.below b1
          have hbw1 := bnext hbo b1
          have hsz1 := hbw1.size
          have hlaid := hid (Stp.lay_4 (g := g) HC.out hg (by rw [hn.out]; exact hz) hp)
          have hsh : Hid (Mat.Shards (Stp.rowsD b d) (rwData S) d s (Stp.wd b.length d)) := hid ⟨hF.out, h2, h3, hrep⟩
          have MO := hid M1.own
          rw [← HLo.out] at MO
          have hsrc := Sl.src (P := Try.prog) hS.sl (tx := 50) (e' := 48) und_rowst (rwCells_one S)
          clear hp hrep DS DC
          go_upto_region 26 with (refine wpList_append_t rfl (.tmp 90) (.tmp 91) 50 50 rfl w.heap.size 48 1 24 (.slice none 0 0) und_rowst info_bytest rfl (by decide) _ R.length (rwCells R) (by rw [HLo.out]; rfl) MO.out (.slice a1 s c1) s (rwCells S) rfl hsrc (by unfold maxLen; rw [HLo.out]; omega) (by rw [HLo.out]; omega) hsz1 ?_; intro v2 w2 ho2 hg2; obtain ⟨at2, ct2, rfl, hT0⟩ := own_sl ho2.own)
          have hbt : ∀ r ∈ R ++ S, Bt w2 r.a r.n r.cap r.l := fun r hr => by
            rcases List.mem_append.1 hr with hr | hr
            · exact (M1.bt r hr).grown hg2 (by rw [HLo.out]; exact M1.apart r hr)
            · refine (hS.row r hr).grown hg2 (fun hn b off e e2 => ?_)
              have h1 := nw r hr hn b off e
              have h2 := (hown.out.lt b (by rw [← HLo.out]; exact e2)).2
              omega
          rw [← rwCells_append, HLo.out] at hT0
          have hT : Ms w2 at2 (d + s) ct2 (R ++ S) := ⟨hT0, hbt⟩
          have hTd := hid (show rwData (R ++ S) = Stp.rowsD b d ++ rwData S by rw [← hRD.out]; simp [rwData])
          have hb2 := ho2.belowOf (b := w.heap.size) (Nat.le_refl _) (fun k e => by cases e)
          have hsz2 := hb2.size
          have hle2 := hT0.le
          have hmax2 := hT0.max
          unfold maxLen at hmax2
          rw [HLo.out]
          clear hbt hT0 ho2 hg2 nw hS hsrc MO M1 b1 hown HL HD hRD hM hMs hlt hF
          generalize hTT : R ++ S = T at *
          replace hTT := hid hTT
          have HT := hid hT.cnt
          go_loopg [18, 94] (d + s) (fun gg s18 s94 wr => ∃ (k : Nat) (O : List Rw), gg = d + s - k ∧ k ≤ d + s ∧ s94 = .int .i64 (k : Int) ∧ Hid (O.length = k) ∧ Mb w2 wr none w2.heap.size s18 O ∧ Hid (∀ i (hi : i < O.length) (hi2 : i < T.length), O[i].l = Blk.bytes g i n T[i].l))
          case atStart => exact ⟨0, [], rfl, by omega, rfl, hid rfl, Mb.nil _ _ (Below.refl _ _) _ (Nat.le_refl _), hid (fun i hi => absurd hi (by simp))⟩
          case round =>
            obtain ⟨k, O, rfl, hk, rfl, HL, hM, HD⟩ := hrel
            obtain ⟨wp, rfl⟩ : ∃ wp : World, wp = wr := ⟨_, rfl⟩
            have hbp := hM.own.belowOf (Nat.le_refl _) (fun k e => by cases e)
            have hszp := hbp.size
            by_cases hlt : k < d + s
            · have hkT : k < T.length := by rw [HT.out]; exact hlt
              obtain ⟨tb, toff, rfl, _⟩ := hT.sl.addr (by omega)
              obtain ⟨x0, hbk⟩ := (hT.below hbp).at k hkT
              have i0 : (0 : Int) ≤ (k : Int) := by omega
              have i1 : (k : Int) < (d : Int) + (s : Int) := by omega
              have hrl : T[k].l.length = Stp.wd b.length d := by
                have := hsh.out.row (i := k) hlt
                rw [← hTd.out, rwData_getD hkT] at this
                exact this
              have hrn := Bt.n hbk
              have hwr : Blk.wrong (g : Int) (k : Int) (n : Int) T[k].n = 0 := by
                have := hN.out
                rw [hn.out] at hrl
                unfold Blk.wrong
                rw [if_neg (by omega), if_neg (by omega)]
              have D := rBlockBytes_call (g : Int) (k : Int) (n : Int) T[k].a T[k].n T[k].cap T[k].l wp hbk
              rw [hwr, if_pos rfl] at D
              simp only [Int.toNat_natCast] at D
              have hBl := Blk.bytes_length g k n T[k].l
              obtain ⟨B, hB⟩ : ∃ B, B = Blk.bytes g k n T[k].l := ⟨_, rfl⟩
              rw [← hB] at D hBl
              replace hB := hid hB
              generalize hTk : T[k] = r at *
              replace hTk := hid hTk
              replace D := hid D
              have hB0 : 0 < B.length := by omega
              replace hBl := hid hBl
              replace hrl := hid hrl
              replace hrn := hid hrn
              clear hwr
              go_wp2_with fail
              go_at_call 50; refine (D.out).mono ?_; rintro e w3 ⟨v3, rfl, b3, o3⟩
              obtain ⟨gb, gc, rfl, -, -, -, -⟩ := own_pos o3 hB0
              have M3 := hM.below b3
              have hsz3 := b3.size
              go_wp2_with (refine wpList_append_row rfl (.tmp 109) (.tmp 111) 50 und_rowst rfl w2.heap.size _ O rfl M3 ⟨some ⟨gb, 0, none⟩, B.length, gc, B⟩ _ rfl rfl (own_bt o3) (apart_own M3.own.own o3 _) (by rw [HL.out]; omega) (by omega) ?_; intro v5 w5 M5 g5)
              go_roundg (d + s - (k + 1))
              case measure => omega
              case rel =>
                refine ⟨k + 1, O ++ [⟨some ⟨gb, 0, none⟩, B.length, gc, B⟩], rfl, by omega, by go_num, hid (by simp [HL.out]), M5, hid (fun i hi hi2 => ?_)⟩
                by_cases e : i < O.length
                · rw [List.getElem_append_left e]; exact HD.out i e hi2
                · have hi' : i < O.length + 1 := by simpa using hi
                  have e2 : i = k := by have := HL.out; omega
                  subst e2
                  rw [List.getElem_append_right (by omega)]
                  simp only [HL.out, Nat.sub_self, List.getElem_cons_zero]
                  rw [hB.out, hTk.out]
            · obtain rfl : d + s = k := by omega
              have hOd : rwData O = Stp.blocks g b.length (Stp.rowsD b d ++ rwData S) := by
                rw [← hTd.out]
                apply List.ext_getElem
                · rw [rwData_length, HL.out, Stp.blocks_length, rwData_length, HT.out]
                · intro i k1 k2
                  have hi : i < O.length := by rwa [rwData_length] at k1
                  have hi2 : i < T.length := by have := HL.out; rw [HT.out]; omega
                  have h5 := HD.out i hi hi2
                  have h6 := Stp.blocks_get g b.length (rwData T) i (by rw [rwData_length]; exact hi2)
                  rw [List.getElem?_eq_getElem k2] at h6
                  rw [Option.some.inj h6, rwData_getD hi2, hn.out]
                  simpa [rwData] using h5
              replace hOd := hid hOd
              obtain ⟨a3, c3, rfl, hMs⟩ := hM.ms
              have hbb := bnext hb2 hbp
              go_wp2_with fail
              go_ret2
              exact ⟨_, _, _, O, 0, rfl, hMs, by rw [hOd.out]; exact hlaid.out, hbb⟩
set_option maxHeartbeats 1000000 in
theorem rLay_call (a : Option Addr) (n cap : Nat) (b : List UInt8) (g d s : Int) (w : World) (hb : Bt w a n cap b) :
    Calls Try.prog 29 #[.slice a n cap, .int .i64 g, .int .i64 d, .int .i64 s] w (MRes (Stp.LayR b g d s) w) := by
  have hn := Bt.n hb
  have hle := hb.le
  have hmax := hb.max
  unfold maxLen at hmax
  by_cases hc : Mat.wrongC d s = 0
  · have hc2 := Mat.wrongC_ok hc
    obtain ⟨d', rfl⟩ := Int.eq_ofNat_of_zero_le (a := d) (by omega)
    obtain ⟨s', rfl⟩ := Int.eq_ofNat_of_zero_le (a := s) (by omega)
    have DC := hid (hc ▸ rWrongCode_call (d' : Int) (s' : Int) w)
    by_cases hg0 : g < 0
    · have hR := hid (Stp.lay_2 (b := b) hc (.inl hg0))
      replace hc := hid hc
      go_enter Try.func29, Try.ntmps29
      go_wp2_with fail
      go_at_call 48; refine (DC.out).mono ?_; rintro e w1 ⟨rfl, rfl⟩
      go_wp2_with fail
      go_ret2
      exact ⟨_, _, _, [], _, rfl, Ms.nil _, hR.out, Below.refl _ _⟩
    by_cases hg1 : 39 < g
    · have hR := hid (Stp.lay_2 (b := b) hc (.inr hg1))
      replace hc := hid hc
      go_enter Try.func29, Try.ntmps29
      go_wp2_with fail
      go_at_call 48; refine (DC.out).mono ?_; rintro e w1 ⟨rfl, rfl⟩
      go_wp2_with fail
      go_ret2
      exact ⟨_, _, _, [], _, rfl, Ms.nil _, hR.out, Below.refl _ _⟩
    obtain ⟨g', rfl⟩ := Int.eq_ofNat_of_zero_le (a := g) (by omega)
    by_cases hz : 400 * (d' : Int) < (n : Int)
    · have hR := hid (Stp.lay_3 (b := b) (g := (g' : Int)) hc (by omega) (by omega))
      replace hc := hid hc
      go_enter Try.func29, Try.ntmps29
      go_wp2_with fail
      go_at_call 48; refine (DC.out).mono ?_; rintro e w1 ⟨rfl, rfl⟩
      go_wp2_with fail
      go_ret2
      exact ⟨_, _, _, [], _, rfl, Ms.nil _, hR.out, Below.refl _ _⟩
    exact rLay_ok a n cap b g' d' s' w hb (by omega) (by omega) (by omega) (by omega) (by omega)
  · have u0 : (Mat.wrongC d s != 0) = true := bne_iff_ne.2 hc
    have DC := hid (rWrongCode_call d s w)
    have hR := hid (Stp.lay_1 (b := b) (g := g) hc)
    generalize Mat.wrongC d s = E at *
    replace hc := hid hc
    go_enter Try.func29, Try.ntmps29
    go_wp2_with fail
    go_at_call 48; refine (DC.out).mono ?_; rintro e w1 ⟨rfl, rfl⟩
    go_wp2_with fail
    go_ret2
    exact ⟨_, _, _, [], _, rfl, Ms.nil _, hR.out, Below.refl _ _⟩

end Go.Proofs.Ytjdgfijpmljhiaa
