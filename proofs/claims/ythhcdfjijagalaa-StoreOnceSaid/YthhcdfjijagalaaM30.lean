/- Joined, and what is not used struck: StoV. -/
import Derived.Test.YthhcdfjijagalaaM29
namespace Go.Proofs.Ythhcdfjijagalaa
open Go.RowKit
set_option linter.unusedVariables false
set_option linter.unusedSimpArgs false
set_option maxRecDepth 100000
/-- .. of the first i disks -/
def wrTo (d0 : List Sto.Dk) (k : Int) (L : List (List UInt8)) (i : Nat) : List Sto.Dk := (List.range d0.length).map fun j => if j < i then Sto.wrD (d0.getD j ⟨false, []⟩) k (L.getD j []) else d0.getD j ⟨false, []⟩
theorem wrTo_zero (d0 : List Sto.Dk) (k : Int) (L : List (List UInt8)) : wrTo d0 k L 0 = d0 := by
  refine List.ext_getElem (by simp [wrTo]) (fun j h1 h2 => ?_)
  simp [wrTo, List.getD, h2]
theorem wrTo_all (d0 : List Sto.Dk) (k : Int) (L : List (List UInt8)) : wrTo d0 k L d0.length = Sto.write d0 k L := by
  refine List.ext_getElem (by simp [wrTo, Sto.write]) (fun j h1 h2 => ?_)
  have h3 : j < d0.length := by simpa [wrTo] using h1
  simp [wrTo, Sto.write, h3]
theorem wrTo_get (d0 : List Sto.Dk) (k : Int) (L : List (List UInt8)) (i : Nat) (hi : i < d0.length) : (wrTo d0 k L i)[i]? = some d0[i] := by
  simp [wrTo, hi, List.getD]
theorem wrTo_step (d0 : List Sto.Dk) (k : Int) (L : List (List UInt8)) (i : Nat) (hi : i < d0.length) : (wrTo d0 k L i).set i (Sto.wrD d0[i] k (L.getD i [])) = wrTo d0 k L (i + 1) := by
  refine List.ext_getElem (by simp [wrTo]) (fun j h1 h2 => ?_)
  have h3 : j < d0.length := by simpa [wrTo] using h2
  rw [List.getElem_set]
  by_cases e : i = j
  · subst e; simp [wrTo, List.getD, hi]
  · rw [if_neg e]
    simp only [wrTo, List.getElem_map, List.getElem_range]
    by_cases e2 : j < i
    · rw [if_pos e2, if_pos (by omega)]
    · rw [if_neg e2, if_neg (by omega)]
theorem wrTo_same (d0 : List Sto.Dk) (k : Int) (L : List (List UInt8)) (i : Nat) (hi : i < d0.length) (h : Sto.wrD d0[i] k (L.getD i []) = d0[i]) : wrTo d0 k L i = wrTo d0 k L (i + 1) := by
  rw [← wrTo_step d0 k L i hi, h]
  refine List.ext_getElem (by simp) (fun j h1 h2 => ?_)
  rw [List.getElem_set]
  split
  · next e =>
    subst e
    have := wrTo_get d0 k L i hi
    rw [List.getElem?_eq_getElem h1] at this
    exact Option.some.inj this
  · rfl
theorem set_dk (D : List Dm) (i : Nat) (y : Dm) : (D.set i y).map Dm.dk = (D.map Dm.dk).set i y.dk := by simp [List.map_set]
set_option maxHeartbeats 8000000 in
theorem stwrite_call (base p : Nat) (m : Mst) (k : Int) (w : World) (la : Option Addr) (n lc lb : Nat) (R : List Rw) (h : StR w base p m) (hL : OwnM w lb la n lc R) (hn : m.D.length = n) (hn12 : n ≤ 12) (hlim : ∀ r ∈ R, r.n ≤ 1000000) (hH : ∀ x ∈ m.D, x.H.length ≤ 1000) :
    Calls Try.prog 68 #[.pointer (some ⟨p, 0, none⟩), .int .i64 k, .slice la n lc] w fun e w' => e = .returned (.tuple #[]) ∧ ∃ D', StR w' base p { m with D := D' } ∧ D'.map Dm.dk = Sto.write (m.D.map Dm.dk) k (rwData R) ∧ Kd w w' ∧ Below base w w' := by
  have hRl : R.length = n := by have := hL.1.1; rw [rwCells_length] at this; omega
  obtain ⟨da, dc, hdv, -⟩ := own_sl h.dks
  have hbase : base ≤ w.heap.size := Nat.le_trans h.le (Nat.le_of_lt h.lt)
  have HS := hid (h.alloc (.cells #[.int .i64 k] 3))
  have HB := hid (blk_new w (.cells #[.int .i64 k] 3))
  have HW := hid ((Below.refl w.heap.size w).alloc (Nat.le_refl _) (.cells #[.int .i64 k] 3))
  have HL1 := hid (own_below hL.1 HW.out)
  have HL2 := hid (fun r (hr : r ∈ R) => own_below (hL.2 r hr) HW.out)
  have b3 : (w.alloc (.cells #[.int .i64 k] 3)).cell? ⟨p, 3, none⟩ = some (.slice da n dc) := by
    have := blk_cell (i := 3) (h.alloc (.cells #[.int .i64 k] 3)).box
    change _ = some m.dv at this
    rw [this, hdv, hn]
  rw [hn] at hdv
  have HDV := hid hdv
  have HN := hid hn
  have HHl := hid hH
  have HRL := hid hRl
  have HLI := hid hlim
  clear hdv hL h hn hH hRl hlim
  go_enter Try.func68, Try.ntmps68
  go_wp2_with fail
  obtain ⟨wb, hwb⟩ : ∃ wb, wb = w.alloc (.cells #[.int .i64 k] 3) := ⟨_, rfl⟩
  rw [← hwb] at HS HB HW HL1 HL2 b3 ⊢
  have hwB : w.heap.size < wb.heap.size := by rw [hwb]; simp
  obtain ⟨B, hB⟩ : ∃ B, B = w.heap.size := ⟨_, rfl⟩
  rw [← hB] at HB ⊢
  replace hB := hid hB
  clear hwb
  go_wp2_with fail
  go_loopg [15] n (fun gg s15 wr => ∃ (i : Nat) (D : List Dm), gg = n - i ∧ i ≤ n ∧ s15 = .int .i64 (i : Int) ∧ Hid (StR wr base p { m with D := D }) ∧ Hid (Kd wb wr) ∧ Hid (Below base wb wr) ∧ Hid (D.length = n) ∧ Hid (D.map Dm.dk = wrTo (m.D.map Dm.dk) k (rwData R) i))
  case atStart => exact ⟨0, m.D, rfl, by omega, rfl, HS, hid (Kd.refl _), hid (Below.refl _ _), HN, hid (wrTo_zero _ _ _).symm⟩
  case round =>
    obtain ⟨i, D, rfl, hi, rfl, HX, HK, HBe, HDl, HDk⟩ := hrel
    obtain ⟨wo, rfl⟩ : ∃ wo : World, wo = wr := ⟨_, rfl⟩
    by_cases hlt : i < n
    · have hiD : i < D.length := by rw [HDl.out]; exact hlt
      have hiM : i < (m.D.map Dm.dk).length := by rw [List.length_map, HN.out]; exact hlt
      obtain ⟨da', dc', e', hsl⟩ := own_sl HX.out.dks
      have e' : m.dv = .slice da' D.length dc' := e'
      rw [HDV.out, HDl.out] at e'
      cases e'
      change Sl wo 2 da D.length dc (rows dm2 D) at hsl
      rw [HDl.out] at hsl
      have hpos := own_pos HX.out.dks (show 0 < D.length by omega)
      obtain ⟨gd, cp, e', hg1, hg2, hg3, hg4⟩ := hpos
      have e' : m.dv = .slice (some ⟨gd, 0, none⟩) D.length cp := e'
      rw [HDV.out, HDl.out] at e'
      cases e'
      obtain ⟨e0, e1⟩ := dm_at hsl i hiD
      simp only [Nat.zero_add] at e0 e1
      have c3 : wo.cell? ⟨p, 3, none⟩ = some (.slice (some ⟨gd, 0, none⟩) n dc) := by
        have := blk_cell (i := 3) HX.out.box
        change _ = some m.dv at this
        rw [this, HDV.out]
      have i0 : (0 : Int) ≤ (i : Int) := by omega
      have i1 : (i : Int) < (n : Int) := by omega
      have hBk := hid (HK.out.block B _ 3 HB.out (by decide))
      have hdi : D[i].dk = (m.D.map Dm.dk)[i] := by
        have h1 := wrTo_get (m.D.map Dm.dk) k (rwData R) i hiM
        rw [← HDk.out, List.getElem?_map, List.getElem?_eq_getElem hiD] at h1
        exact Option.some.inj h1
      have HH1000 : D[i].H.length ≤ 1000 := by
        have h1 := congrArg (fun d : Sto.Dk => d.bl.length) hdi
        simp only [List.getElem_map, Dm.dk, List.length_map] at h1
        rw [h1]
        exact HHl.out _ (List.getElem_mem _)
      have hxi : D[i]? = some D[i] := List.getElem?_eq_getElem hiD
      have hxm : D[i] ∈ D := List.getElem_mem hiD
      have hHe := hid (HX.out.held _ hxm)
      obtain ⟨x, hx⟩ : ∃ x, x = D[i] := ⟨_, rfl⟩
      rw [← hx] at e0 e1 hdi HH1000 hxi hxm hHe
      replace hx := hid hx
      replace hxm := hid hxm
      replace hdi := hid hdi
      have HXI := hid hxi
      clear hxi hsl
      obtain ⟨g, xa, xc, H⟩ := x
      simp only at e0 e1 HH1000
      cases g with
      | true =>
        go_wp2_with fail
        go_roundg (n - (i + 1))
        case measure => omega
        case rel => exact ⟨i + 1, D, rfl, by omega, by go_num, HX, HK, HBe, HDl, hid (HDk.out.trans (wrTo_same _ _ _ _ hiM (by rw [← hdi.out]; exact wrD_gone rfl)))⟩
      | false =>
        obtain ⟨a', cap', e', hsH⟩ := own_sl hHe.out
        simp only [Dm.v, Value.slice.injEq, true_and] at e'
        obtain ⟨rfl, rfl⟩ := e'
        change Sl wo 2 xa H.length xc (rows hm2 H) at hsH
        have DI := hid (idx_stwrite1 xa H.length xc H B k wo hsH (blk_cell hBk.out))
        clear hsH
        go_wp2_with fail
        go_at_call 63; refine (DI.out).mono ?_; rintro e w1 ⟨b1, hf⟩
        have X1 := hid (HX.out.below b1)
        have K1 := hid (HK.out.trans (Kd.below b1))
        have hsz1 := b1.size
        have hbw : base ≤ wo.heap.size := Nat.le_trans hbase (Nat.le_trans (Nat.le_of_lt hwB) HBe.out.size)
        have Be1 := hid (HBe.out.trans (b1.mono hbw))
        clear DI e0 e1
        rcases hf with ⟨a, ha, rfl, ha1, ha2⟩ | ⟨rfl, hno⟩
        · have HF := hid (find_some ha ha1 ha2)
          have hput := hid (fun y (hy : y.s = H[a].s) => (putB_some (b := y.b) HF.out).trans (setB_eq H k y a ha ha1 (hy.trans ha1) ha2))
          replace ha1 := hid ha1
          replace ha2 := hid ha2
          have hHe1 := X1.out.held _ (List.mem_of_getElem? HXI.out)
          obtain ⟨hb, ca, e', q1, q2, q3, q4⟩ := own_pos hHe1 (by show 0 < H.length; omega)
          simp only [Dm.v, Value.slice.injEq, true_and] at e'
          obtain ⟨rfl, rfl⟩ := e'
          have hOL := K1.out.own HL1.out (by decide)
          obtain ⟨lg, cl, e', -, -, -, -⟩ := own_pos hOL (by omega)
          simp only [Value.slice.injEq, true_and] at e'
          obtain ⟨rfl, rfl⟩ := e'
          obtain ⟨a', cap', e', hsL⟩ := own_sl hOL
          cases e'
          have hiR : i < R.length := by rw [HRL.out]; exact hlt
          have l0 : w1.cell? ⟨lg, i, none⟩ = some (.slice R[i].a R[i].n R[i].cap) := by
            have := hsL.cell (by omega) (rwCells_get R i hiR)
            rwa [Nat.zero_add] at this
          have hOr := K1.out.own (HL2.out _ (List.getElem_mem hiR)) (by decide)
          have hr0 := HLI.out _ (List.getElem_mem hiR)
          have hgetD := hid (rwData_getD hiR)
          have hwrd := fun (ya : Option Addr) (yc : Nat) => (fun L => (wrD_set (x := ⟨false, some ⟨hb, 0, none⟩, xc, H⟩) (y := ⟨false, some ⟨hb, 0, none⟩, xc, H.set a ⟨H[a].s, ya, yc, L⟩⟩) (k := k) (b := L) rfl rfl (hput.out ⟨H[a].s, ya, yc, L⟩ rfl)).symm.trans (by rw [hdi.out])) ((rwData R).getD i [])
          rw [hgetD.out] at hwrd
          obtain ⟨r, hr⟩ : ∃ r, r = R[i] := ⟨_, rfl⟩
          rw [← hr] at l0 hOr hr0 hwrd
          have HGD := hid (hgetD.out.trans (congrArg Rw.l hr.symm))
          clear hgetD hr
          obtain ⟨ra, rn, rc, rl⟩ := r
          obtain ⟨a', cap', e', hbt⟩ := own_sl hOr
          simp only [Rw.v, Value.slice.injEq, true_and] at e'
          obtain ⟨rfl, rfl⟩ := e'
          change Sl w1 1 ra rn rc (cb rl) at hbt
          obtain rfl : rl.length = rn := Bt.n hbt
          simp only at l0 hr0 hwrd HGD
          obtain ⟨a', cap', e', hsH⟩ := own_sl hHe1
          simp only [Dm.v, Value.slice.injEq, true_and] at e'
          obtain ⟨rfl, rfl⟩ := e'
          change Sl w1 2 (some ⟨hb, 0, none⟩) H.length xc (rows hm2 H) at hsH
          obtain ⟨y0, y1⟩ := hm_at hsH a ha
          simp only [Nat.zero_add] at y0 y1
          obtain ⟨a', cap', e', hsD⟩ := own_sl X1.out.dks
          have e' : m.dv = .slice a' D.length cap' := e'
          have hDl : D.length = n := by first | exact HDl.out | (rw [List.length_set]; exact HDl.out)
          rw [HDV.out, hDl] at e'
          cases e'
          change Sl w1 2 (some ⟨gd, 0, none⟩) D.length dc (rows dm2 D) at hsD
          have hiDx : i < D.length := by omega
          obtain ⟨e0, e1⟩ := dm_at hsD i hiDx
          have hDi : D[i] = ⟨false, some ⟨hb, 0, none⟩, xc, H⟩ := by
            have := HXI.out
            rw [List.getElem?_eq_getElem hiDx] at this
            exact Option.some.inj this
          rw [hDi] at e0 e1
          simp only [Nat.zero_add] at e0 e1
          obtain ⟨curH, hgH, -⟩ := own_known hHe1
          have ff : ∀ j, w1.frozen? ⟨hb, j, none⟩ = false := fun j => blk_free hgH
          have hhb : hb < w1.heap.size := blk_lt hgH
          have hggd : gd < w1.heap.size := World.block_lt_of_cell? _ _ e1
          have hllg : lg < w1.heap.size := World.block_lt_of_cell? _ _ l0
          have DC := hid (show ∀ V, Below w1.heap.size w1 V → Calls Try.prog 85 #[.slice ra rl.length rc] V (fun e w' => ∃ ya yc, e = .returned (.slice ya rl.length yc) ∧ Below w1.heap.size w1 w' ∧ w'.ownsRow w1.heap.size 5 1 (.slice ya rl.length yc) rl.length (cb rl) ∧ w'.cell? ⟨gd, i * 2 + 1, none⟩ = some (.slice (some ⟨hb, 0, none⟩) H.length xc) ∧ w'.cell? ⟨hb, a * 2 + 1, none⟩ = some (.slice H[a].a H[a].b.length H[a].cap) ∧ (∀ j, w'.frozen? ⟨hb, j, none⟩ = false) ∧ w'.cell? ⟨lg, i, none⟩ = some (.slice ra rl.length rc)) from fun V hV =>
            (cloneBytes_call ra rl.length rc rl V (hbt.below hV) (by omega)).mono fun e w' ⟨v, h1, h2, h3⟩ => by
              obtain ⟨ya, yc, rfl, -⟩ := own_sl h3
              have hVw := bnext hV h2
              exact ⟨ya, yc, h1, hVw, own_mono h3 hV.size, (hVw.cell (p := ⟨gd, _, none⟩) hggd).trans e1, (hVw.cell (p := ⟨hb, _, none⟩) hhb).trans y1, fun j => (hVw.frozen (p := ⟨hb, j, none⟩) hhb).trans (ff j), (hVw.cell (p := ⟨lg, _, none⟩) hllg).trans l0⟩)
          have ia0 : (0 : Int) ≤ (a : Int) := by omega
          have ia1 : (a : Int) < (H.length : Int) := by omega
          have hHlen : (H.length : Int) < 2000 := by omega
          have hbase1 : base ≤ w1.heap.size := by omega
          replace hwrd := hid hwrd
          clear hHe1 hOL hsL hOr hbt hsH hsD hgH hDi y0 e0
          go_wp2_with fail
          go_region_law (first
            | (go_simp; go_at_call 85; refine (DC.out _ ?_).mono ?_; (repeat (first | assumption | exact Below.refl _ _ | refine below_drewN ?_ _ | refine Below.drew ?_)); rintro e w6 ⟨ya, yc, rfl, b6, o6, z1, z2, z3, z4⟩))
          all_goals
            have hpb := X1.out.putBytes i a _ HXI.out ha b6 ya yc rl o6 hbase1 hb rfl
            have hbb : Below base w1 (w6.setCell ⟨hb, a * 2 + 1, none⟩ (.slice ya rl.length yc)) := (b6.mono hbase1).setCell q1 _
            have HPB := hid hpb
            have HBB := hid hbb
            clear hpb hbb DC z1 z2 z3 z4 b6 o6 e1 y1 l0
            go_wp2_with fail
            go_roundg (n - (i + 1))
            case measure => omega
            case rel =>
              refine ⟨i + 1, _, rfl, by omega, by go_num, hid HPB.out.1, hid (K1.out.trans HPB.out.2), hid (Be1.out.trans HBB.out), hid (by simp only [List.length_set]; exact HDl.out), hid ?_⟩
              try simp only [List.set_set]
              try rw [set_dk, HDk.out, ← wrTo_step _ _ _ _ hiM, HGD.out, hwrd.out ya yc]
        · have HF := hid (find_none hno)
          replace hno := hid hno
          have h1000 : (H.length : Int) ≤ 1000 := by omega
          go_wp2_with fail
          go_loopg [8] H.length (fun gg s8 wr => ∃ a : Nat, gg = H.length - a ∧ a ≤ H.length ∧ s8 = .int .i64 (a : Int) ∧ Hid (Below w1.heap.size w1 wr) ∧ Hid (∀ j (h : j < H.length), j < a → H[j].s < k))
          case atStart => exact ⟨0, rfl, by omega, rfl, hid (Below.refl _ _), hid (fun j h hj => absurd hj (by omega))⟩
          case round =>
            obtain ⟨a, rfl, ha, rfl, HBa, HJ⟩ := hrel
            obtain ⟨wx, rfl⟩ : ∃ wx : World, wx = wr := ⟨_, rfl⟩
            have X2 := hid (X1.out.below HBa.out)
            have K2 := hid (K1.out.trans (Kd.below HBa.out))
            have hsz2 := HBa.out.size
            have hbw1 : base ≤ w1.heap.size := by omega
            have Be2 := hid (Be1.out.trans (HBa.out.mono hbw1))
            obtain ⟨a', cap', e', hsD⟩ := own_sl X2.out.dks
            have e' : m.dv = .slice a' D.length cap' := e'
            rw [HDV.out, HDl.out] at e'
            cases e'
            change Sl wx 2 (some ⟨gd, 0, none⟩) D.length dc (rows dm2 D) at hsD
            obtain ⟨e0, e1⟩ := dm_at hsD i hiD
            have hDi : D[i] = ⟨false, xa, xc, H⟩ := by
              have := HXI.out
              rw [List.getElem?_eq_getElem hiD] at this
              exact Option.some.inj this
            rw [hDi] at e0 e1
            simp only [Nat.zero_add] at e0 e1
            have hHe2 := hid (X2.out.held _ (List.mem_of_getElem? HXI.out))
            have kB : wx.cell? ⟨B, 0, none⟩ = some (.int .i64 k) := blk_cell (K2.out.block B _ 3 HB.out (by decide))
            have ia0 : (0 : Int) ≤ (a : Int) := by omega
            clear hsD hDi e0
            by_cases hmore : ∃ h : a < H.length, H[a].s < k
            · obtain ⟨hal, hak⟩ := hmore
              obtain ⟨a', cap', e', hsH⟩ := own_sl hHe2.out
              simp only [Dm.v, Value.slice.injEq, true_and] at e'
              obtain ⟨rfl, rfl⟩ := e'
              change Sl wx 2 xa H.length xc (rows hm2 H) at hsH
              obtain ⟨hb, ho, rfl, -⟩ := hsH.addr (by omega)
              obtain ⟨y0, y1⟩ := hm_at hsH a hal
              have ia1 : (a : Int) < (H.length : Int) := by omega
              have t1 : decide ((a : Int) < (H.length : Int)) = true := decide_eq_true ia1
              have t2 : decide (H[a].s < k) = true := decide_eq_true hak
              have HAK := hid hak
              obtain ⟨sa, hsa⟩ : ∃ sa, sa = H[a].s := ⟨_, rfl⟩
              rw [← hsa] at y0 t2 hak
              replace hsa := hid hsa
              clear hsH y1
              go_wp2_with fail
              go_quiet (fail)
              go_wp2_with fail
              go_roundg (H.length - (a + 1))
              case measure => omega
              case rel =>
                refine ⟨a + 1, rfl, by omega, by go_num, hid (below_drewN HBa.out _), hid (fun j h hj => ?_)⟩
                by_cases e : j = a
                · subst e; exact HAK.out
                · exact HJ.out j h (by omega)
            · have HNM := hid (show ∀ h : a < H.length, k ≤ H[a].s from fun h => Int.not_lt.1 (fun h2 => hmore ⟨h, h2⟩))
              clear hmore
              by_cases hal : a < H.length
              · obtain ⟨a', cap', e', hsH⟩ := own_sl hHe2.out
                simp only [Dm.v, Value.slice.injEq, true_and] at e'
                obtain ⟨rfl, rfl⟩ := e'
                change Sl wx 2 xa H.length xc (rows hm2 H) at hsH
                obtain ⟨hb, ho, rfl, -⟩ := hsH.addr (by omega)
                obtain ⟨y0, y1⟩ := hm_at hsH a hal
                have ia1 : (a : Int) < (H.length : Int) := by omega
                have t1 : decide ((a : Int) < (H.length : Int)) = true := decide_eq_true ia1
                have t2 : decide (H[a].s < k) = false := decide_eq_false (Int.not_lt.2 (HNM.out hal))
                obtain ⟨sa, hsa⟩ : ∃ sa, sa = H[a].s := ⟨_, rfl⟩
                rw [← hsa] at y0 t2
                replace hsa := hid hsa
                clear hsH y1
                go_wp2_with fail
                go_quiet (fail)
                clear y0 t1 t2 ia1
                generalize hwz : wx.drewN nq = wz
                have bz : Below wx.heap.size wx wz := hwz ▸ below_drewN (Below.refl _ _) _
                clear hwz
                have X3 := hid (X2.out.below bz)
                have K3 := hid (K2.out.trans (Kd.below bz))
                have hszz := bz.size
                have Be3 := hid (Be2.out.trans (bz.mono (by omega)))
                have hHe3 := hid (show wz.ownsRow base 90 2 (.slice (some ⟨hb, ho, none⟩) H.length xc) H.length (rows hm2 H) from own_below hHe2.out bz)
                have kB3 := (bz.cell (p := ⟨B, 0, none⟩) (World.block_lt_of_cell? _ _ kB)).trans kB
                have e13 := (bz.cell (p := ⟨gd, i * 2 + 1, none⟩) (World.block_lt_of_cell? _ _ e1)).trans e1
                clear bz e1 kB X2 K2 Be2 hHe2
                have hdk3 := X3.out.dks
                have hdk3 : wz.ownsRow base 61 2 m.dv D.length (rows dm2 D) := hdk3
                rw [HDV.out, HDl.out] at hdk3
                obtain ⟨curD, hgdb, -⟩ := own_known hdk3
                have hcD : (curD.toArray)[i * 2 + 1]? = some (.slice (some ⟨hb, ho, none⟩) H.length xc) := by rw [← blk_cell hgdb]; exact e13
                have f3 : ∀ j, wz.frozen? ⟨gd, j, none⟩ = false := fun j => blk_free hgdb
                have DN := hid (show ∀ (V : World) (vb : Nat), Below wz.heap.size wz V → V.heap[vb]? = some (.cells #[.int .i64 k, .slice none 0 0] 90 (0, 0)) → wz.heap.size ≤ vb → Calls Try.prog 84 #[.slice (some ⟨hb, ho, none⟩) H.length xc, .int .i64 (a : Int), .slice (some ⟨vb, 0, none⟩) 1 1] V (fun e w' => ∃ a' c', e = .returned (.slice a' (H.length + 1) c') ∧ OT V w' (Value.slice (some ⟨hb, ho, none⟩) H.length xc).ownBlock base 90 2 (.slice a' (H.length + 1) c') (H.length + 1) (rows hm2 (H.take a ++ ⟨k, none, 0, []⟩ :: H.drop a)) ∧ w'.cell? ⟨gd, i * 2 + 1, none⟩ = some (.slice (some ⟨hb, ho, none⟩) H.length xc) ∧ (∀ j, w'.frozen? ⟨gd, j, none⟩ = false) ∧ Below wz.heap.size wz V) from fun V vb hV hv hvb =>
                  (insertHeld_call (.slice (some ⟨hb, ho, none⟩) H.length xc) H.length H a ⟨k, none, 0, []⟩ vb base V (own_below hHe3.out hV) (by have := hV.size; omega) (by omega) ha (fun e => by have := (hHe3.out.lt vb e).2; omega) hv).mono fun e w' ⟨v', h1, h2⟩ => by
                    obtain ⟨a', c', rfl, -⟩ := own_sl h2.own
                    have hg' := grown_other (own_below hHe3.out hV) h2.grown (blk_below hgdb hV) (by decide)
                    exact ⟨a', c', h1, h2, (blk_cell hg').trans hcD, fun j => blk_free hg', hV⟩)
                have e14 := (cell_old (o := .cells #[.int .i64 k, .slice none 0 0] 90) (World.block_lt_of_cell? _ _ e13)).trans e13
                clear hdk3 hgdb hcD
                go_wp2_with fail
                go_region_law (first
                  | (go_simp; go_at_call 84; refine (DN.out _ _ ?b1 ?b2 ?b3).mono ?_; (case b1 => (repeat (first | assumption | exact Below.refl _ _ | refine below_drewN ?_ _ | refine Below.drew ?_ | refine Below.alloc ?_ (Nat.le_refl _) _))); (case b2 => exact blk_new _ _); (case b3 => exact Nat.le_refl _); rintro e w5 ⟨a5, c5, rfl, O5, s1, s2, hV5⟩))
                all_goals
                  obtain ⟨a'', c'', e'', X4, K4⟩ := X3.out.ins i a _ k HXI.out hV5 O5 ha gd dc (HDV.out.trans (by show _ = Value.slice _ D.length _; rw [HDl.out]))
                  cases e''
                  have B4 : Below base wz (w5.setCell ⟨gd, i * 2 + 1, none⟩ (.slice a5 (H.length + 1) c5)) := ((hV5.mono (by omega)).trans (O5.belowOf (by have := hV5.size; omega) (fun q hq => (hHe3.out.lt q hq).1))).setCell hg1 _
                  generalize w5.setCell ⟨gd, i * 2 + 1, none⟩ (.slice a5 (H.length + 1) c5) = w7 at *
                  have X5 := hid X4
                  have K5 := hid (K3.out.trans K4)
                  have Be5 := hid (Be3.out.trans B4)
                  have hsz7 := K4.size
                  obtain ⟨H5, hH5⟩ : ∃ H5, H5 = H.take a ++ (⟨k, none, 0, []⟩ : Hm) :: H.drop a := ⟨_, rfl⟩
                  have hl5 : H5.length = H.length + 1 := by rw [hH5, List.length_append, List.length_cons, List.length_take, List.length_drop]; omega
                  have ha5 : a < H5.length := by omega
                  have ia5 : (a : Int) < (H.length : Int) + 1 := by omega
                  have hs5 : H5[a].s = k := by subst hH5; rw [ins_at H a _ ha]
                  have hput5 := hid (fun (y : Hm) (hy : y.s = H5[a].s) => show Sto.putB (H.map Hm.hd) k y.b = (H5.set a y).map Hm.hd from by
                    rw [putB_none HF.out, insB_eq H k y (hy.trans hs5) a ha HJ.out (fun h => Int.not_lt.2 (HNM.out h)), hH5, ins_set H a _ y ha])
                  have HXI5 := hid (show (D.set i ⟨false, a5, c5, H5⟩)[i]? = some (⟨false, a5, c5, H5⟩ : Dm) from List.getElem?_set_self hiD)
                  rw [← hH5] at X5
                  replace hH5 := hid hH5
                  replace hs5 := hid hs5
                  clear X4 K4 B4 O5 s1 s2 hV5 DN X3 K3 Be3 hHe3 e13 e14 f3
                  have hHe1 := X5.out.held _ (List.mem_of_getElem? HXI5.out)
                  obtain ⟨hb, ca, e', q1, q2, q3, q4⟩ := own_pos hHe1 (by show 0 < H5.length; omega)
                  simp only [Dm.v, Value.slice.injEq, true_and] at e'
                  obtain ⟨rfl, rfl⟩ := e'
                  have hOL := K5.out.own HL1.out (by decide)
                  obtain ⟨lg, cl, e', -, -, -, -⟩ := own_pos hOL (by omega)
                  simp only [Value.slice.injEq, true_and] at e'
                  obtain ⟨rfl, rfl⟩ := e'
                  obtain ⟨a', cap', e', hsL⟩ := own_sl hOL
                  cases e'
                  have hiR : i < R.length := by rw [HRL.out]; exact hlt
                  have l0 : w7.cell? ⟨lg, i, none⟩ = some (.slice R[i].a R[i].n R[i].cap) := by
                    have := hsL.cell (by omega) (rwCells_get R i hiR)
                    rwa [Nat.zero_add] at this
                  have hOr := K5.out.own (HL2.out _ (List.getElem_mem hiR)) (by decide)
                  have hr0 := HLI.out _ (List.getElem_mem hiR)
                  have hgetD := hid (rwData_getD hiR)
                  have hwrd := fun (ya : Option Addr) (yc : Nat) => (fun L => (wrD_set (x := ⟨false, none, 0, H⟩) (y := ⟨false, some ⟨hb, 0, none⟩, c5, H5.set a ⟨H5[a].s, ya, yc, L⟩⟩) (k := k) (b := L) rfl rfl (hput5.out ⟨H5[a].s, ya, yc, L⟩ rfl)).symm.trans (show Sto.wrD (⟨false, none, 0, H⟩ : Dm).dk k L = Sto.wrD (m.D.map Dm.dk)[i] k L from congrArg (fun z => Sto.wrD z k L) (show (⟨false, none, 0, H⟩ : Dm).dk = _ from hdi.out))) ((rwData R).getD i [])
                  rw [hgetD.out] at hwrd
                  obtain ⟨r, hr⟩ : ∃ r, r = R[i] := ⟨_, rfl⟩
                  rw [← hr] at l0 hOr hr0 hwrd
                  have HGD := hid (hgetD.out.trans (congrArg Rw.l hr.symm))
                  clear hgetD hr
                  obtain ⟨ra, rn, rc, rl⟩ := r
                  obtain ⟨a', cap', e', hbt⟩ := own_sl hOr
                  simp only [Rw.v, Value.slice.injEq, true_and] at e'
                  obtain ⟨rfl, rfl⟩ := e'
                  change Sl w7 1 ra rn rc (cb rl) at hbt
                  obtain rfl : rl.length = rn := Bt.n hbt
                  simp only at l0 hr0 hwrd HGD
                  obtain ⟨a', cap', e', hsH⟩ := own_sl hHe1
                  simp only [Dm.v, Value.slice.injEq, true_and] at e'
                  obtain ⟨rfl, rfl⟩ := e'
                  change Sl w7 2 (some ⟨hb, 0, none⟩) H5.length c5 (rows hm2 H5) at hsH
                  obtain ⟨y0, y1⟩ := hm_at hsH a ha5
                  simp only [Nat.zero_add] at y0 y1
                  obtain ⟨a', cap', e', hsD⟩ := own_sl X5.out.dks
                  have e' : m.dv = .slice a' (D.set i ⟨false, some ⟨hb, 0, none⟩, c5, H5⟩).length cap' := e'
                  have hDl : (D.set i ⟨false, some ⟨hb, 0, none⟩, c5, H5⟩).length = n := by first | exact HDl.out | (rw [List.length_set]; exact HDl.out)
                  rw [HDV.out, hDl] at e'
                  cases e'
                  change Sl w7 2 (some ⟨gd, 0, none⟩) (D.set i ⟨false, some ⟨hb, 0, none⟩, c5, H5⟩).length dc (rows dm2 (D.set i ⟨false, some ⟨hb, 0, none⟩, c5, H5⟩)) at hsD
                  have hiDx : i < (D.set i ⟨false, some ⟨hb, 0, none⟩, c5, H5⟩).length := by omega
                  obtain ⟨e0, e1⟩ := dm_at hsD i hiDx
                  have hDi : (D.set i ⟨false, some ⟨hb, 0, none⟩, c5, H5⟩)[i] = ⟨false, some ⟨hb, 0, none⟩, c5, H5⟩ := by
                    have := HXI5.out
                    rw [List.getElem?_eq_getElem hiDx] at this
                    exact Option.some.inj this
                  rw [hDi] at e0 e1
                  simp only [Nat.zero_add] at e0 e1
                  obtain ⟨curH, hgH, -⟩ := own_known hHe1
                  have ff : ∀ j, w7.frozen? ⟨hb, j, none⟩ = false := fun j => blk_free hgH
                  have hhb : hb < w7.heap.size := blk_lt hgH
                  have hggd : gd < w7.heap.size := World.block_lt_of_cell? _ _ e1
                  have hllg : lg < w7.heap.size := World.block_lt_of_cell? _ _ l0
                  have DC := hid (show ∀ V, Below w7.heap.size w7 V → Calls Try.prog 85 #[.slice ra rl.length rc] V (fun e w' => ∃ ya yc, e = .returned (.slice ya rl.length yc) ∧ Below w7.heap.size w7 w' ∧ w'.ownsRow w7.heap.size 5 1 (.slice ya rl.length yc) rl.length (cb rl) ∧ w'.cell? ⟨gd, i * 2 + 1, none⟩ = some (.slice (some ⟨hb, 0, none⟩) H5.length c5) ∧ w'.cell? ⟨hb, a * 2 + 1, none⟩ = some (.slice H5[a].a H5[a].b.length H5[a].cap) ∧ (∀ j, w'.frozen? ⟨hb, j, none⟩ = false) ∧ w'.cell? ⟨lg, i, none⟩ = some (.slice ra rl.length rc)) from fun V hV =>
                    (cloneBytes_call ra rl.length rc rl V (hbt.below hV) (by omega)).mono fun e w' ⟨v, h1, h2, h3⟩ => by
                      obtain ⟨ya, yc, rfl, -⟩ := own_sl h3
                      have hVw := bnext hV h2
                      exact ⟨ya, yc, h1, hVw, own_mono h3 hV.size, (hVw.cell (p := ⟨gd, _, none⟩) hggd).trans e1, (hVw.cell (p := ⟨hb, _, none⟩) hhb).trans y1, fun j => (hVw.frozen (p := ⟨hb, j, none⟩) hhb).trans (ff j), (hVw.cell (p := ⟨lg, _, none⟩) hllg).trans l0⟩)
                  have ia0 : (0 : Int) ≤ (a : Int) := by omega
                  have ia1 : (a : Int) < (H5.length : Int) := by omega
                  have hHlen : (H5.length : Int) < 2000 := by omega
                  have hbase1 : base ≤ w7.heap.size := by omega
                  replace hwrd := hid hwrd
                  clear hHe1 hOL hsL hOr hbt hsH hsD hgH hDi y0 e0
                  go_wp2_with fail
                  go_region_law (first
                    | (go_simp; go_at_call 85; refine (DC.out _ ?_).mono ?_; (repeat (first | assumption | exact Below.refl _ _ | refine below_drewN ?_ _ | refine Below.drew ?_)); rintro e w6 ⟨ya, yc, rfl, b6, o6, z1, z2, z3, z4⟩))
                  all_goals
                    have hpb := X5.out.putBytes i a _ HXI5.out ha5 b6 ya yc rl o6 hbase1 hb rfl
                    have hbb : Below base w7 (w6.setCell ⟨hb, a * 2 + 1, none⟩ (.slice ya rl.length yc)) := (b6.mono hbase1).setCell q1 _
                    have HPB := hid hpb
                    have HBB := hid hbb
                    clear hpb hbb DC z1 z2 z3 z4 b6 o6 e1 y1 l0
                    go_wp2_with fail
                    go_roundg (n - (i + 1))
                    case measure => omega
                    case rel =>
                      refine ⟨i + 1, _, rfl, by omega, by go_num, hid HPB.out.1, hid (K5.out.trans HPB.out.2), hid (Be5.out.trans HBB.out), hid (by simp only [List.length_set]; exact HDl.out), hid ?_⟩
                      try simp only [List.set_set]
                      try rw [set_dk, HDk.out, ← wrTo_step _ _ _ _ hiM, HGD.out, hwrd.out ya yc]
              · have t1 : decide ((a : Int) < (H.length : Int)) = false := decide_eq_false (by omega)
                have hal2 : H.length ≤ a := by omega
                go_wp2_with fail
                go_quiet (fail)
                clear t1 hal2
                generalize hwz : wx.drewN nq = wz
                have bz : Below wx.heap.size wx wz := hwz ▸ below_drewN (Below.refl _ _) _
                clear hwz
                have X3 := hid (X2.out.below bz)
                have K3 := hid (K2.out.trans (Kd.below bz))
                have hszz := bz.size
                have Be3 := hid (Be2.out.trans (bz.mono (by omega)))
                have hHe3 := hid (show wz.ownsRow base 90 2 (.slice xa H.length xc) H.length (rows hm2 H) from own_below hHe2.out bz)
                have kB3 := (bz.cell (p := ⟨B, 0, none⟩) (World.block_lt_of_cell? _ _ kB)).trans kB
                have e13 := (bz.cell (p := ⟨gd, i * 2 + 1, none⟩) (World.block_lt_of_cell? _ _ e1)).trans e1
                clear bz e1 kB X2 K2 Be2 hHe2
                have hdk3 := X3.out.dks
                have hdk3 : wz.ownsRow base 61 2 m.dv D.length (rows dm2 D) := hdk3
                rw [HDV.out, HDl.out] at hdk3
                obtain ⟨curD, hgdb, -⟩ := own_known hdk3
                have hcD : (curD.toArray)[i * 2 + 1]? = some (.slice xa H.length xc) := by rw [← blk_cell hgdb]; exact e13
                have f3 : ∀ j, wz.frozen? ⟨gd, j, none⟩ = false := fun j => blk_free hgdb
                have DN := hid (show ∀ (V : World) (vb : Nat), Below wz.heap.size wz V → V.heap[vb]? = some (.cells #[.int .i64 k, .slice none 0 0] 90 (0, 0)) → wz.heap.size ≤ vb → Calls Try.prog 84 #[.slice xa H.length xc, .int .i64 (a : Int), .slice (some ⟨vb, 0, none⟩) 1 1] V (fun e w' => ∃ a' c', e = .returned (.slice a' (H.length + 1) c') ∧ OT V w' (Value.slice xa H.length xc).ownBlock base 90 2 (.slice a' (H.length + 1) c') (H.length + 1) (rows hm2 (H.take a ++ ⟨k, none, 0, []⟩ :: H.drop a)) ∧ w'.cell? ⟨gd, i * 2 + 1, none⟩ = some (.slice xa H.length xc) ∧ (∀ j, w'.frozen? ⟨gd, j, none⟩ = false) ∧ Below wz.heap.size wz V) from fun V vb hV hv hvb =>
                  (insertHeld_call (.slice xa H.length xc) H.length H a ⟨k, none, 0, []⟩ vb base V (own_below hHe3.out hV) (by have := hV.size; omega) (by omega) ha (fun e => by have := (hHe3.out.lt vb e).2; omega) hv).mono fun e w' ⟨v', h1, h2⟩ => by
                    obtain ⟨a', c', rfl, -⟩ := own_sl h2.own
                    have hg' := grown_other (own_below hHe3.out hV) h2.grown (blk_below hgdb hV) (by decide)
                    exact ⟨a', c', h1, h2, (blk_cell hg').trans hcD, fun j => blk_free hg', hV⟩)
                have e14 := (cell_old (o := .cells #[.int .i64 k, .slice none 0 0] 90) (World.block_lt_of_cell? _ _ e13)).trans e13
                clear hdk3 hgdb hcD
                go_wp2_with fail
                go_region_law (first
                  | (go_simp; go_at_call 84; refine (DN.out _ _ ?b1 ?b2 ?b3).mono ?_; (case b1 => (repeat (first | assumption | exact Below.refl _ _ | refine below_drewN ?_ _ | refine Below.drew ?_ | refine Below.alloc ?_ (Nat.le_refl _) _))); (case b2 => exact blk_new _ _); (case b3 => exact Nat.le_refl _); rintro e w5 ⟨a5, c5, rfl, O5, s1, s2, hV5⟩))
                all_goals
                  obtain ⟨a'', c'', e'', X4, K4⟩ := X3.out.ins i a _ k HXI.out hV5 O5 ha gd dc (HDV.out.trans (by show _ = Value.slice _ D.length _; rw [HDl.out]))
                  cases e''
                  have B4 : Below base wz (w5.setCell ⟨gd, i * 2 + 1, none⟩ (.slice a5 (H.length + 1) c5)) := ((hV5.mono (by omega)).trans (O5.belowOf (by have := hV5.size; omega) (fun q hq => (hHe3.out.lt q hq).1))).setCell hg1 _
                  generalize w5.setCell ⟨gd, i * 2 + 1, none⟩ (.slice a5 (H.length + 1) c5) = w7 at *
                  have X5 := hid X4
                  have K5 := hid (K3.out.trans K4)
                  have Be5 := hid (Be3.out.trans B4)
                  have hsz7 := K4.size
                  obtain ⟨H5, hH5⟩ : ∃ H5, H5 = H.take a ++ (⟨k, none, 0, []⟩ : Hm) :: H.drop a := ⟨_, rfl⟩
                  have hl5 : H5.length = H.length + 1 := by rw [hH5, List.length_append, List.length_cons, List.length_take, List.length_drop]; omega
                  have ha5 : a < H5.length := by omega
                  have ia5 : (a : Int) < (H.length : Int) + 1 := by omega
                  have hs5 : H5[a].s = k := by subst hH5; rw [ins_at H a _ ha]
                  have hput5 := hid (fun (y : Hm) (hy : y.s = H5[a].s) => show Sto.putB (H.map Hm.hd) k y.b = (H5.set a y).map Hm.hd from by
                    rw [putB_none HF.out, insB_eq H k y (hy.trans hs5) a ha HJ.out (fun h => Int.not_lt.2 (HNM.out h)), hH5, ins_set H a _ y ha])
                  have HXI5 := hid (show (D.set i ⟨false, a5, c5, H5⟩)[i]? = some (⟨false, a5, c5, H5⟩ : Dm) from List.getElem?_set_self hiD)
                  rw [← hH5] at X5
                  replace hH5 := hid hH5
                  replace hs5 := hid hs5
                  clear X4 K4 B4 O5 s1 s2 hV5 DN X3 K3 Be3 hHe3 e13 e14 f3
                  have hHe1 := X5.out.held _ (List.mem_of_getElem? HXI5.out)
                  obtain ⟨hb, ca, e', q1, q2, q3, q4⟩ := own_pos hHe1 (by show 0 < H5.length; omega)
                  simp only [Dm.v, Value.slice.injEq, true_and] at e'
                  obtain ⟨rfl, rfl⟩ := e'
                  have hOL := K5.out.own HL1.out (by decide)
                  obtain ⟨lg, cl, e', -, -, -, -⟩ := own_pos hOL (by omega)
                  simp only [Value.slice.injEq, true_and] at e'
                  obtain ⟨rfl, rfl⟩ := e'
                  obtain ⟨a', cap', e', hsL⟩ := own_sl hOL
                  cases e'
                  have hiR : i < R.length := by rw [HRL.out]; exact hlt
                  have l0 : w7.cell? ⟨lg, i, none⟩ = some (.slice R[i].a R[i].n R[i].cap) := by
                    have := hsL.cell (by omega) (rwCells_get R i hiR)
                    rwa [Nat.zero_add] at this
                  have hOr := K5.out.own (HL2.out _ (List.getElem_mem hiR)) (by decide)
                  have hr0 := HLI.out _ (List.getElem_mem hiR)
                  have hgetD := hid (rwData_getD hiR)
                  have hwrd := fun (ya : Option Addr) (yc : Nat) => (fun L => (wrD_set (x := ⟨false, none, 0, H⟩) (y := ⟨false, some ⟨hb, 0, none⟩, c5, H5.set a ⟨H5[a].s, ya, yc, L⟩⟩) (k := k) (b := L) rfl rfl (hput5.out ⟨H5[a].s, ya, yc, L⟩ rfl)).symm.trans (show Sto.wrD (⟨false, none, 0, H⟩ : Dm).dk k L = Sto.wrD (m.D.map Dm.dk)[i] k L from congrArg (fun z => Sto.wrD z k L) (show (⟨false, none, 0, H⟩ : Dm).dk = _ from hdi.out))) ((rwData R).getD i [])
                  rw [hgetD.out] at hwrd
                  obtain ⟨r, hr⟩ : ∃ r, r = R[i] := ⟨_, rfl⟩
                  rw [← hr] at l0 hOr hr0 hwrd
                  have HGD := hid (hgetD.out.trans (congrArg Rw.l hr.symm))
                  clear hgetD hr
                  obtain ⟨ra, rn, rc, rl⟩ := r
                  obtain ⟨a', cap', e', hbt⟩ := own_sl hOr
                  simp only [Rw.v, Value.slice.injEq, true_and] at e'
                  obtain ⟨rfl, rfl⟩ := e'
                  change Sl w7 1 ra rn rc (cb rl) at hbt
                  obtain rfl : rl.length = rn := Bt.n hbt
                  simp only at l0 hr0 hwrd HGD
                  obtain ⟨a', cap', e', hsH⟩ := own_sl hHe1
                  simp only [Dm.v, Value.slice.injEq, true_and] at e'
                  obtain ⟨rfl, rfl⟩ := e'
                  change Sl w7 2 (some ⟨hb, 0, none⟩) H5.length c5 (rows hm2 H5) at hsH
                  obtain ⟨y0, y1⟩ := hm_at hsH a ha5
                  simp only [Nat.zero_add] at y0 y1
                  obtain ⟨a', cap', e', hsD⟩ := own_sl X5.out.dks
                  have e' : m.dv = .slice a' (D.set i ⟨false, some ⟨hb, 0, none⟩, c5, H5⟩).length cap' := e'
                  have hDl : (D.set i ⟨false, some ⟨hb, 0, none⟩, c5, H5⟩).length = n := by first | exact HDl.out | (rw [List.length_set]; exact HDl.out)
                  rw [HDV.out, hDl] at e'
                  cases e'
                  change Sl w7 2 (some ⟨gd, 0, none⟩) (D.set i ⟨false, some ⟨hb, 0, none⟩, c5, H5⟩).length dc (rows dm2 (D.set i ⟨false, some ⟨hb, 0, none⟩, c5, H5⟩)) at hsD
                  have hiDx : i < (D.set i ⟨false, some ⟨hb, 0, none⟩, c5, H5⟩).length := by omega
                  obtain ⟨e0, e1⟩ := dm_at hsD i hiDx
                  have hDi : (D.set i ⟨false, some ⟨hb, 0, none⟩, c5, H5⟩)[i] = ⟨false, some ⟨hb, 0, none⟩, c5, H5⟩ := by
                    have := HXI5.out
                    rw [List.getElem?_eq_getElem hiDx] at this
                    exact Option.some.inj this
                  rw [hDi] at e0 e1
                  simp only [Nat.zero_add] at e0 e1
                  obtain ⟨curH, hgH, -⟩ := own_known hHe1
                  have ff : ∀ j, w7.frozen? ⟨hb, j, none⟩ = false := fun j => blk_free hgH
                  have hhb : hb < w7.heap.size := blk_lt hgH
                  have hggd : gd < w7.heap.size := World.block_lt_of_cell? _ _ e1
                  have hllg : lg < w7.heap.size := World.block_lt_of_cell? _ _ l0
                  have DC := hid (show ∀ V, Below w7.heap.size w7 V → Calls Try.prog 85 #[.slice ra rl.length rc] V (fun e w' => ∃ ya yc, e = .returned (.slice ya rl.length yc) ∧ Below w7.heap.size w7 w' ∧ w'.ownsRow w7.heap.size 5 1 (.slice ya rl.length yc) rl.length (cb rl) ∧ w'.cell? ⟨gd, i * 2 + 1, none⟩ = some (.slice (some ⟨hb, 0, none⟩) H5.length c5) ∧ w'.cell? ⟨hb, a * 2 + 1, none⟩ = some (.slice H5[a].a H5[a].b.length H5[a].cap) ∧ (∀ j, w'.frozen? ⟨hb, j, none⟩ = false) ∧ w'.cell? ⟨lg, i, none⟩ = some (.slice ra rl.length rc)) from fun V hV =>
                    (cloneBytes_call ra rl.length rc rl V (hbt.below hV) (by omega)).mono fun e w' ⟨v, h1, h2, h3⟩ => by
                      obtain ⟨ya, yc, rfl, -⟩ := own_sl h3
                      have hVw := bnext hV h2
                      exact ⟨ya, yc, h1, hVw, own_mono h3 hV.size, (hVw.cell (p := ⟨gd, _, none⟩) hggd).trans e1, (hVw.cell (p := ⟨hb, _, none⟩) hhb).trans y1, fun j => (hVw.frozen (p := ⟨hb, j, none⟩) hhb).trans (ff j), (hVw.cell (p := ⟨lg, _, none⟩) hllg).trans l0⟩)
                  have ia0 : (0 : Int) ≤ (a : Int) := by omega
                  have ia1 : (a : Int) < (H5.length : Int) := by omega
                  have hHlen : (H5.length : Int) < 2000 := by omega
                  have hbase1 : base ≤ w7.heap.size := by omega
                  replace hwrd := hid hwrd
                  clear hHe1 hOL hsL hOr hbt hsH hsD hgH hDi y0 e0
                  go_wp2_with fail
                  go_region_law (first
                    | (go_simp; go_at_call 85; refine (DC.out _ ?_).mono ?_; (repeat (first | assumption | exact Below.refl _ _ | refine below_drewN ?_ _ | refine Below.drew ?_)); rintro e w6 ⟨ya, yc, rfl, b6, o6, z1, z2, z3, z4⟩))
                  all_goals
                    have hpb := X5.out.putBytes i a _ HXI5.out ha5 b6 ya yc rl o6 hbase1 hb rfl
                    have hbb : Below base w7 (w6.setCell ⟨hb, a * 2 + 1, none⟩ (.slice ya rl.length yc)) := (b6.mono hbase1).setCell q1 _
                    have HPB := hid hpb
                    have HBB := hid hbb
                    clear hpb hbb DC z1 z2 z3 z4 b6 o6 e1 y1 l0
                    go_wp2_with fail
                    go_roundg (n - (i + 1))
                    case measure => omega
                    case rel =>
                      refine ⟨i + 1, _, rfl, by omega, by go_num, hid HPB.out.1, hid (K5.out.trans HPB.out.2), hid (Be5.out.trans HBB.out), hid (by simp only [List.length_set]; exact HDl.out), hid ?_⟩
                      try simp only [List.set_set]
                      try rw [set_dk, HDk.out, ← wrTo_step _ _ _ _ hiM, HGD.out, hwrd.out ya yc]
    · obtain rfl : i = n := by omega
      go_wp2_with fail
      go_end0
      exact ⟨rfl, D, HX.out, by rw [HDk.out]; have := wrTo_all (m.D.map Dm.dk) k (rwData R); rw [List.length_map, HN.out] at this; exact this, (Kd.below HW.out).trans HK.out, (HW.out.mono hbase).trans HBe.out⟩
end Go.Proofs.Ythhcdfjijagalaa
