/- Joined, and what is not used struck: SpJ, SpK, SoF, SoG. -/
import Derived.Test.YthhcdfjijagalaaM37
import Derived.Test.YthhcdfjijagalaaM38
import Derived.Test.YthhcdfjijagalaaM40
import Derived.Test.YthhcdfjijagalaaM39
import Derived.BigRegion
namespace Go.Proofs.Ythhcdfjijagalaa
open Go.RowKit Go.Maps
set_option linter.unusedVariables false
set_option linter.unusedSimpArgs false
set_option maxRecDepth 100000
theorem sl_rows {α : Type} {f : α → List Value} {k : Nat} (hf : ∀ x, (f x).length = k) {w : World} {a : Option Addr} {n cap : Nat} {l : List α} (h : Sl w k a n cap (rows f l)) (h0 : 0 < n) :
    ∃ b off, a = some ⟨b, off, none⟩ ∧ ∀ (i : Nat) (hi : i < l.length) (j : Nat), j < k → w.cell? ⟨b, off + (i * k + j), none⟩ = (f l[i])[j]? := by
  obtain ⟨b, off, e, hc⟩ := h.addr h0
  refine ⟨b, off, e, fun i hi j hj => ?_⟩
  have h1 := rows_get hf l i j hi hj
  have hlt : j < (f l[i]).length := by rw [hf]; exact hj
  rw [List.getElem?_eq_getElem hlt] at h1 ⊢
  exact hc _ _ h1
theorem alloc2 (w : World) (o1 o2 : Obj) : ((w.alloc o1).alloc o2).drew.heap[w.heap.size]? = some o1 ∧ ((w.alloc o1).alloc o2).drew.heap[w.heap.size + 1]? = some o2 ∧ Below w.heap.size w ((w.alloc o1).alloc o2).drew := by
  refine ⟨blk_old (o' := o2) (blk_new w o1), ?_, Below.drew (((Below.refl _ _).alloc (Nat.le_refl _) o1).alloc (by simp) o2)⟩
  have := blk_new (w.alloc o1) o2
  rwa [World.size_alloc] at this
set_option maxHeartbeats 8000000 in
theorem rSameS_same (base base' : Nat) (m m' : Mst) (w : World) (h : StM w base m) (h' : StM w base' m') (hst : m.st = m'.st) (hD : m.D.length ≤ 100) (hH : ∀ x ∈ m.D, x.H.length ≤ 1000) (hT : m.T.length ≤ 1000) (hS : m.seen.length ≤ 1000) :
    Calls Try.prog 25 #[stVal m, stVal m'] w (Grew (.bool true) w) := by
  obtain ⟨d, s, b, dv, D, g, tv, T, sv, seen, u, av, A⟩ := m
  obtain ⟨d', s', b', dv', D', g', tv', T', sv', seen', u', av', A'⟩ := m'
  simp only [Mst.st, Sto.St.mk.injEq, Vw.Vi.mk.injEq, Int.natCast_inj] at hst
  obtain ⟨rfl, rfl, rfl, hDD, rfl, hTT, rfl, rfl, rfl⟩ := hst
  obtain ⟨da, dc, hdv, hds⟩ := own_sl h.dks
  obtain ⟨ta, tc, htv, hts⟩ := own_sl h.tail
  obtain ⟨sa, sc, hsv, hss⟩ := own_sl h.seen
  obtain ⟨aa, ac, hav, has⟩ := own_sl h.accs
  obtain ⟨da', dc', hdv', hds'⟩ := own_sl h'.dks
  obtain ⟨ta', tc', htv', hts'⟩ := own_sl h'.tail
  obtain ⟨sa', sc', hsv', hss'⟩ := own_sl h'.seen
  obtain ⟨aa', ac', hav', has'⟩ := own_sl h'.accs
  simp only at hdv htv hsv hav hdv' htv' hsv' hav' hds hts hss has hds' hts' hss' has' hD hH hT hS
  subst hdv htv hsv hav hdv' htv' hsv' hav'
  have hDl : D'.length = D.length := by have := congrArg List.length hDD; simpa using this.symm
  have hTl : T'.length = T.length := by have := congrArg List.length hTT; simpa using this.symm
  rw [hDl] at hds'
  rw [hTl] at hts'
  have hok := hid h.aok
  have hBs : Bs w ta T.length tc T := ⟨hts, fun r hr => by
    obtain ⟨h1, h2⟩ := h.evs r hr
    obtain ⟨a1, c1, e, h3⟩ := own_sl h1
    cases e
    exact ⟨h3, h2⟩⟩
  have hBs' : Bs w ta' T.length tc' T' := ⟨hts', fun r hr => by
    obtain ⟨h1, h2⟩ := h'.evs r hr
    obtain ⟨a1, c1, e, h3⟩ := own_sl h1
    cases e
    exact ⟨h3, h2⟩⟩
  have hAs : As w aa A.length ac A := ⟨has, hok.out⟩
  have hAs' : As w aa' A.length ac' A := ⟨has', hok.out⟩
  have HDK := hid h.held
  have HBY := hid h.bytes
  have HDK' := hid h'.held
  have HBY' := hid h'.bytes
  have HSS := hid hss
  have HSS' := hid hss'
  have HDS := hid hds
  have HDS' := hid hds'
  have HDD := hid hDD
  have HTT := hid hTT
  have HB := hid hBs
  have HB' := hid hBs'
  have HAA := hid hAs
  have HAA' := hid hAs'
  have HH := hid hH
  have HDL := hid hDl
  unfold stVal
  simp only
  rw [hDl, hTl]
  clear h h' hok hBs hBs' hAs hAs' hss hss' hds hds' hts hts' has has' hDD hTT hH hTl hDl
  have B0 := blk_old (o' := (.cells #[.int .i64 d, .int .i64 s, .int .i64 b, .slice da' D.length dc', .int .i64 (g : Int), .slice ta' T.length tc', .slice sa' seen.length sc', .int .i64 u, .slice aa' A.length ac'] 44)) (blk_new w (.cells #[.int .i64 d, .int .i64 s, .int .i64 b, .slice da D.length dc, .int .i64 (g : Int), .slice ta T.length tc, .slice sa seen.length sc, .int .i64 u, .slice aa A.length ac] 44))
  have B1 := blk_new (w.alloc (.cells #[.int .i64 d, .int .i64 s, .int .i64 b, .slice da D.length dc, .int .i64 (g : Int), .slice ta T.length tc, .slice sa seen.length sc, .int .i64 u, .slice aa A.length ac] 44)) (.cells #[.int .i64 d, .int .i64 s, .int .i64 b, .slice da' D.length dc', .int .i64 (g : Int), .slice ta' T.length tc', .slice sa' seen.length sc', .int .i64 u, .slice aa' A.length ac'] 44)
  rw [World.size_alloc] at B1
  have bV := hid (((Below.refl w.heap.size w).alloc (Nat.le_refl _) (.cells #[.int .i64 d, .int .i64 s, .int .i64 b, .slice da D.length dc, .int .i64 (g : Int), .slice ta T.length tc, .slice sa seen.length sc, .int .i64 u, .slice aa A.length ac] 44)).alloc (by simp) (.cells #[.int .i64 d, .int .i64 s, .int .i64 b, .slice da' D.length dc', .int .i64 (g : Int), .slice ta' T.length tc', .slice sa' seen.length sc', .int .i64 u, .slice aa' A.length ac'] 44))
  obtain ⟨V, hV⟩ : ∃ V, V = (w.alloc (.cells #[.int .i64 d, .int .i64 s, .int .i64 b, .slice da D.length dc, .int .i64 (g : Int), .slice ta T.length tc, .slice sa seen.length sc, .int .i64 u, .slice aa A.length ac] 44)).alloc (.cells #[.int .i64 d, .int .i64 s, .int .i64 b, .slice da' D.length dc', .int .i64 (g : Int), .slice ta' T.length tc', .slice sa' seen.length sc', .int .i64 u, .slice aa' A.length ac'] 44) := ⟨_, rfl⟩
  rw [← hV] at B0 B1 bV
  have HVV := hid hV
  have hVs : V.heap.size = w.heap.size + 2 := by rw [hV]; simp
  clear hV
  have c0 : V.cell? ⟨w.heap.size, 0, none⟩ = some (.int .i64 d) := blk_cell B0
  have c1 : V.cell? ⟨w.heap.size, 1, none⟩ = some (.int .i64 s) := blk_cell B0
  have c2 : V.cell? ⟨w.heap.size, 2, none⟩ = some (.int .i64 b) := blk_cell B0
  have c3 : V.cell? ⟨w.heap.size, 3, none⟩ = some (.slice da D.length dc) := blk_cell B0
  have c4 : V.cell? ⟨w.heap.size, 4, none⟩ = some (.int .i64 (g : Int)) := blk_cell B0
  have c5 : V.cell? ⟨w.heap.size, 5, none⟩ = some (.slice ta T.length tc) := blk_cell B0
  have c6 : V.cell? ⟨w.heap.size, 6, none⟩ = some (.slice sa seen.length sc) := blk_cell B0
  have c7 : V.cell? ⟨w.heap.size, 7, none⟩ = some (.int .i64 u) := blk_cell B0
  have c8 : V.cell? ⟨w.heap.size, 8, none⟩ = some (.slice aa A.length ac) := blk_cell B0
  have k0 : V.cell? ⟨w.heap.size + 1, 0, none⟩ = some (.int .i64 d) := blk_cell B1
  have k1 : V.cell? ⟨w.heap.size + 1, 1, none⟩ = some (.int .i64 s) := blk_cell B1
  have k2 : V.cell? ⟨w.heap.size + 1, 2, none⟩ = some (.int .i64 b) := blk_cell B1
  have k3 : V.cell? ⟨w.heap.size + 1, 3, none⟩ = some (.slice da' D.length dc') := blk_cell B1
  have k4 : V.cell? ⟨w.heap.size + 1, 4, none⟩ = some (.int .i64 (g : Int)) := blk_cell B1
  have k5 : V.cell? ⟨w.heap.size + 1, 5, none⟩ = some (.slice ta' T.length tc') := blk_cell B1
  have k6 : V.cell? ⟨w.heap.size + 1, 6, none⟩ = some (.slice sa' seen.length sc') := blk_cell B1
  have k7 : V.cell? ⟨w.heap.size + 1, 7, none⟩ = some (.int .i64 u) := blk_cell B1
  have k8 : V.cell? ⟨w.heap.size + 1, 8, none⟩ = some (.slice aa' A.length ac') := blk_cell B1
  have DB := hid (rSameBatches_same ta ta' T.length tc T.length tc' T T' V (HB.out.below bV.out) (HB'.out.below bV.out) HTT.out)
  go_enter Try.func25, Try.ntmps25
  go_upto_region 1 with (fail)
  rw [← HVV.out]
  go_wp2_with fail
  go_at_call 35; refine DB.out.mono ?_; rintro e w2 ⟨rfl, q, rfl⟩
  have DV := hid (rSameView_same u aa aa' A.length ac A.length ac' A (V.drewN q) ((HAA.out.below bV.out).below (below_drewN (Below.refl _ _) q)) ((HAA'.out.below bV.out).below (below_drewN (Below.refl _ _) q)))
  unfold viVal at DV
  go_wp2_with fail
  go_at_call 28; refine DV.out.mono ?_; rintro e w3 ⟨rfl, b3⟩
  have bW : Below V.heap.size V w3 := (below_drewN (Below.refl _ _) q).trans b3
  have C0 := hid (blk_below B0 bW)
  have C1 := hid (blk_below B1 bW)
  have bX := hid (bnext bV.out bW)
  clear c0 c1 c2 c3 c4 c5 c6 c7 c8 k0 k1 k2 k3 k4 k5 k6 k7 k8 B0 B1 b3 bW DB DV bV
  have c6 : w3.cell? ⟨w.heap.size, 6, none⟩ = some (.slice sa seen.length sc) := blk_cell C0.out
  have k6 : w3.cell? ⟨w.heap.size + 1, 6, none⟩ = some (.slice sa' seen.length sc') := blk_cell C1.out
  have c3 : w3.cell? ⟨w.heap.size, 3, none⟩ = some (.slice da D.length dc) := blk_cell C0.out
  have k3 : w3.cell? ⟨w.heap.size + 1, 3, none⟩ = some (.slice da' D.length dc') := blk_cell C1.out
  go_wp2_with fail
  go_loopg [59] seen.length (fun gg s59 wr => ∃ k j : Nat, gg = seen.length - k ∧ k ≤ seen.length ∧ s59 = .int .i64 (k : Int) ∧ wr = w3.drewN j)
  case atStart => exact ⟨0, 0, rfl, by omega, rfl, rfl⟩
  case round =>
    obtain ⟨k, j, rfl, hk, rfl, rfl⟩ := hrel
    by_cases hlt : k < seen.length
    · obtain ⟨sb, soff, rfl, hsc⟩ := HSS.out.addr (by omega)
      obtain ⟨sb', soff', rfl, hsc'⟩ := HSS'.out.addr (by omega)
      have g0 : w3.cell? ⟨sb, soff + k, none⟩ = some (.int .i64 seen[k]) := by
        have h1 := hsc k (.int .i64 seen[k]) (by simp [hlt])
        exact (bX.out.cell (p := ⟨sb, _, none⟩) (World.block_lt_of_cell? _ _ h1)).trans h1
      have g1 : w3.cell? ⟨sb', soff' + k, none⟩ = some (.int .i64 seen[k]) := by
        have h1 := hsc' k (.int .i64 seen[k]) (by simp [hlt])
        exact (bX.out.cell (p := ⟨sb', _, none⟩) (World.block_lt_of_cell? _ _ h1)).trans h1
      have i0 : (0 : Int) ≤ (k : Int) := by omega
      have i1 : (k : Int) < (seen.length : Int) := by omega
      generalize seen[k] = sv at *
      clear hsc hsc'
      go_wp2_with fail
      go_quiet (fail)
      go_wp2_with fail
      go_roundg (seen.length - (k + 1))
      case measure => omega
      case rel => exact ⟨k + 1, _, rfl, by omega, by go_num, rfl⟩
    · obtain rfl : k = seen.length := by omega
      go_wp2_with fail
      obtain ⟨W, hW⟩ : ∃ W, W = w3.drewN j := ⟨_, rfl⟩
      have bY := hid (show Below w.heap.size w W by rw [hW]; exact below_drewN bX.out j)
      have hWh : W.heap = w3.heap := by rw [hW]; rfl
      have D0 := C0.out
      have D1 := C1.out
      rw [← hWh] at D0 D1
      replace D0 := hid D0
      replace D1 := hid D1
      clear hWh
      rw [← hW]
      clear hW c3 k3 c6 k6
      go_loopg [77] D.length (fun gg s77 wr => ∃ k : Nat, gg = D.length - k ∧ k ≤ D.length ∧ s77 = .int .i64 (k : Int) ∧ Below W.heap.size W wr)
      case atStart => exact ⟨0, rfl, by omega, rfl, Below.refl _ _⟩
      case round =>
        obtain ⟨k, rfl, hk, rfl, hb⟩ := hrel
        obtain ⟨wo, rfl⟩ : ∃ wo : World, wo = wr := ⟨_, rfl⟩
        have bZ := bnext bY.out hb
        by_cases hlt : k < D.length
        · have hlt' : k < D'.length := by rw [HDL.out]; exact hlt
          obtain ⟨b1, off1, rfl, hc1⟩ := sl_rows dm2_len (HDS.out.below bZ) (by omega)
          obtain ⟨b2, off2, rfl, hc2⟩ := sl_rows dm2_len (HDS'.out.below bZ) (by omega)
          have g0 := hc1 k hlt 0 (by omega)
          have g1 := hc1 k hlt 1 (by omega)
          have e0 := hc2 k hlt' 0 (by omega)
          have e1 := hc2 k hlt' 1 (by omega)
          have hdk : D[k].dk = D'[k].dk := by
            have := congrArg (fun l => l[k]?) HDD.out
            simp only [List.getElem?_map, List.getElem?_eq_getElem hlt, List.getElem?_eq_getElem hlt', Option.map_some] at this
            exact Option.some.inj this
          have hh := hid (HDK.out D[k] (List.getElem_mem _))
          have hh' := hid (HDK'.out D'[k] (List.getElem_mem _))
          have hby := hid (HBY.out D[k] (List.getElem_mem _))
          have hby' := hid (HBY'.out D'[k] (List.getElem_mem _))
          have hH := HH.out D[k] (List.getElem_mem _)
          generalize D[k] = x at *
          generalize D'[k] = x' at *
          obtain ⟨xg, xa, xc, xH⟩ := x
          obtain ⟨xg', xa', xc', xH'⟩ := x'
          simp only [Dm.dk, Sto.Dk.mk.injEq] at hdk
          obtain ⟨rfl, hHd⟩ := hdk
          have hHl : xH'.length = xH.length := by have := congrArg List.length hHd; simpa using this.symm
          simp only [dm2, Dm.v] at g0 g1 e0 e1
          rw [hHl] at e1
          replace g0 : wo.cell? ⟨b1, off1 + k * 2, none⟩ = some (.bool xg) := g0
          replace g1 : wo.cell? ⟨b1, off1 + k * 2 + 1, none⟩ = some (.slice xa xH.length xc) := g1
          replace e0 : wo.cell? ⟨b2, off2 + k * 2, none⟩ = some (.bool xg) := e0
          replace e1 : wo.cell? ⟨b2, off2 + k * 2 + 1, none⟩ = some (.slice xa' xH.length xc') := e1
          have HHd := hid hHd
          have HHl := hid hHl
          have i0 : (0 : Int) ≤ (k : Int) := by omega
          have i1 : (k : Int) < (D.length : Int) := by omega
          have c3 : wo.cell? ⟨w.heap.size, 3, none⟩ = some (.slice (some ⟨b1, off1, none⟩) D.length dc) := blk_cell (blk_below D0.out hb)
          have k3 : wo.cell? ⟨w.heap.size + 1, 3, none⟩ = some (.slice (some ⟨b2, off2, none⟩) D.length dc') := blk_cell (blk_below D1.out hb)
          clear hc1 hc2 hHd hHl
          simp only at hH
          go_upto_region 12 with (fail)
          have hso : b1 < wo.heap.size := World.block_lt_of_cell? _ _ g0
          have hso2 : b2 < wo.heap.size := World.block_lt_of_cell? _ _ e0
          have hso3 : w.heap.size < wo.heap.size := World.block_lt_of_cell? _ _ c3
          have hso4 : w.heap.size + 1 < wo.heap.size := World.block_lt_of_cell? _ _ k3
          have a1 : ∀ o : Obj, (wo.alloc o).cell? ⟨b1, off1 + k * 2, none⟩ = some (.bool xg) := fun o => (cell_old hso).trans g0
          have a2 : ∀ o : Obj, (wo.alloc o).cell? ⟨b1, off1 + k * 2 + 1, none⟩ = some (.slice xa xH.length xc) := fun o => (cell_old hso).trans g1
          have a3 : ∀ o : Obj, (wo.alloc o).cell? ⟨b2, off2 + k * 2, none⟩ = some (.bool xg) := fun o => (cell_old hso2).trans e0
          have a4 : ∀ o : Obj, (wo.alloc o).cell? ⟨b2, off2 + k * 2 + 1, none⟩ = some (.slice xa' xH.length xc') := fun o => (cell_old hso2).trans e1
          have a5 : ∀ o : Obj, (wo.alloc o).cell? ⟨w.heap.size, 3, none⟩ = some (.slice (some ⟨b1, off1, none⟩) D.length dc) := fun o => (cell_old hso3).trans c3
          have a6 : ∀ o : Obj, (wo.alloc o).cell? ⟨w.heap.size + 1, 3, none⟩ = some (.slice (some ⟨b2, off2, none⟩) D.length dc') := fun o => (cell_old hso4).trans k3
          go_cut [7, 8] from 80 to 89 (fun s7 s8 wx => ∃ p q, s7 = .pointer (some ⟨p, 0, none⟩) ∧ s8 = .pointer (some ⟨q, 0, none⟩) ∧ wx.heap[p]? = some (.cells #[.bool xg, .slice xa xH.length xc] 61 (0, 0)) ∧ wx.heap[q]? = some (.cells #[.bool xg, .slice xa' xH.length xc'] 61 (0, 0)) ∧ Below wo.heap.size wo wx)
          case first =>
            go_region
            all_goals (go_wp2_with fail; go_meet)
            all_goals first
              | exact ⟨wo.heap.size, wo.heap.size + 1, rfl, rfl, (alloc2 wo _ _).1, (alloc2 wo _ _).2.1, (alloc2 wo _ _).2.2⟩
              | exact ⟨wo.heap.size + 1, wo.heap.size, rfl, rfl, (alloc2 wo _ _).2.1, (alloc2 wo _ _).1, (alloc2 wo _ _).2.2⟩
          case rest =>
            obtain ⟨wD, rfl⟩ : ∃ wD : World, wD = wc := ⟨_, rfl⟩
            obtain ⟨p, q, rfl, rfl, hp, hq, hbD⟩ := hcut
            have bD := bnext bZ hbD
            clear a1 a2 a3 a4 a5 a6 g0 g1 e0 e1 c3 k3
            have g0 : wD.cell? ⟨p, 0, none⟩ = some (.bool xg) := blk_cell hp
            have g1 : wD.cell? ⟨p, 1, none⟩ = some (.slice xa xH.length xc) := blk_cell hp
            have e0 : wD.cell? ⟨q, 0, none⟩ = some (.bool xg) := blk_cell hq
            have e1 : wD.cell? ⟨q, 1, none⟩ = some (.slice xa' xH.length xc') := blk_cell hq
            go_wp2_with fail
            go_loopg [107] xH.length (fun gg s107 wr => ∃ k j : Nat, gg = xH.length - k ∧ k ≤ xH.length ∧ s107 = .int .i64 (k : Int) ∧ wr = wD.drewN j)
            case atStart => exact ⟨0, 0, rfl, by omega, rfl, rfl⟩
            case round =>
              obtain ⟨kk, j, rfl, hkk, rfl, rfl⟩ := hrel
              by_cases hltH : kk < xH.length
              · have hltH' : kk < xH'.length := by rw [HHl.out]; exact hltH
                obtain ⟨a1, c1, ee1, hs1⟩ := own_sl hh.out
                obtain ⟨a2, c2, ee2, hs2⟩ := own_sl hh'.out
                simp only [Dm.v, Value.slice.injEq, true_and] at ee1 ee2
                obtain ⟨rfl, rfl⟩ := ee1
                obtain ⟨rfl, rfl⟩ := ee2
                try simp only at hs1
                try simp only at hs2
                rw [HHl.out] at hs2
                obtain ⟨b3, off3, rfl, hc3⟩ := sl_rows hm2_len (hs1.below bD) (by omega)
                obtain ⟨b4, off4, rfl, hc4⟩ := sl_rows hm2_len (hs2.below bD) (by omega)
                have y0 := hc3 kk hltH 0 (by omega)
                have y1 := hc3 kk hltH 1 (by omega)
                have z0 := hc4 kk hltH' 0 (by omega)
                have z1 := hc4 kk hltH' 1 (by omega)
                have hhd : xH[kk].hd = xH'[kk].hd := by
                  have := congrArg (fun l => l[kk]?) HHd.out
                  simp only [List.getElem?_map, List.getElem?_eq_getElem hltH, List.getElem?_eq_getElem hltH', Option.map_some] at this
                  exact Option.some.inj this
                have hb1 := hby.out xH[kk] (List.getElem_mem _)
                have hb2 := hby'.out xH'[kk] (List.getElem_mem _)
                generalize xH[kk] = h1 at *
                generalize xH'[kk] = h2 at *
                obtain ⟨hs, ha, hc, hb⟩ := h1
                obtain ⟨hs', ha', hc', hb'⟩ := h2
                simp only [Hm.hd, Sto.Hd.mk.injEq] at hhd
                obtain ⟨rfl, rfl⟩ := hhd
                replace hb1 : w.ownsRow base 5 1 (.slice ha hb.length hc) hb.length (cb hb) := hb1
                replace hb2 : w.ownsRow base' 5 1 (.slice ha' hb.length hc') hb.length (cb hb) := hb2
                replace y0 : wD.cell? ⟨b3, off3 + kk * 2, none⟩ = some (.int .i64 hs) := y0
                replace y1 : wD.cell? ⟨b3, off3 + kk * 2 + 1, none⟩ = some (.slice ha hb.length hc) := y1
                replace z0 : wD.cell? ⟨b4, off4 + kk * 2, none⟩ = some (.int .i64 hs) := z0
                replace z1 : wD.cell? ⟨b4, off4 + kk * 2 + 1, none⟩ = some (.slice ha' hb.length hc') := z1
                obtain ⟨_, _, ee3, hbt1⟩ := own_sl hb1
                cases ee3
                obtain ⟨_, _, ee4, hbt2⟩ := own_sl hb2
                cases ee4
                have hq1 := (fun n => Bt.str ((Sl.below hbt1 bD).drewN n))
                have hq2 := (fun n => Bt.str ((Sl.below hbt2 bD).drewN n))
                clear hbt1 hbt2
                have i2 : (0 : Int) ≤ (kk : Int) := by omega
                have i3 : (kk : Int) < (xH.length : Int) := by omega
                have i4 : ((⟨hb.toArray⟩ : ByteArray).toList == (⟨hb.toArray⟩ : ByteArray).toList) = true := by simp
                clear hc3 hc4 hs1 hs2 hb1 hb2
                go_upto_region 18 with (fail)
                go_quiet (fail)
                go_wp2_with fail
                go_roundg (xH.length - (kk + 1))
                case measure => omega
                case rel => exact ⟨kk + 1, _, rfl, by omega, by go_num, rfl⟩
              · obtain rfl : kk = xH.length := by omega
                go_wp2_with fail
                go_roundg (D.length - (k + 1))
                case measure => omega
                case rel => exact ⟨k + 1, rfl, by omega, by go_num, hb.trans ((below_drewN hbD j).mono hb.size)⟩
        · obtain rfl : k = D.length := by omega
          go_wp2_with fail
          go_ret
          exact ⟨rfl, bZ⟩
end Go.Proofs.Ythhcdfjijagalaa
namespace Go.Proofs.Ythhcdfjijagalaa
open Go.RowKit Go.Maps
set_option linter.unusedVariables false
set_option linter.unusedSimpArgs false
set_option maxRecDepth 100000
theorem same_zero {w : World} {base : Nat} {m : Mst} (h : StM w base m) (hst : m.st = Sto.nil) : Calls Try.prog 25 #[stVal m, .agg #[.int .i64 0, .int .i64 0, .int .i64 0, .slice none 0 0, .int .i64 0, .slice none 0 0, .slice none 0 0, .int .i64 0, .slice none 0 0]] w (Grew (.bool true) w) := by
  have hD : m.D = [] := by have := congrArg Sto.St.disks hst; simpa [Mst.st, Sto.nil] using this
  have hT : m.T = [] := by have := congrArg Sto.St.tail hst; simpa [Mst.st, Sto.nil] using this
  have hS : m.seen = [] := by have := congrArg Sto.St.seen hst; simpa [Mst.st, Sto.nil] using this
  exact rSameS_same base 0 m mst0 w h (StM.zero w 0) hst (by rw [hD]; decide) (fun x hx => by rw [hD] at hx; cases hx) (by rw [hT]; decide) (by rw [hS]; decide)
set_option maxHeartbeats 8000000 in
theorem StoreSnap_walk (sd ss sb : Int) (a : Option Addr) (n cap : Nat) (l : List Sto.Do) (w : World) (hD : Dos w a n cap l) (hF : ∀ d ∈ l, Fits d) : Calls Try.prog 10 #[.agg #[.int .i64 sd, .int .i64 ss, .int .i64 sb], .slice a n cap] w (Grew (.bool true) w) := by
  have HD := hid hD
  have HF := hid hF
  have HN := hid hD.cnt
  have hle := hD.le
  have hmax := hD.max
  unfold maxLen at hmax
  clear hD hF
  have B0 := blk_new w (.cells #[.int .i64 sd, .int .i64 ss, .int .i64 sb] 37)
  have bS := (Below.refl w.heap.size w).alloc (Nat.le_refl _) (.cells #[.int .i64 sd, .int .i64 ss, .int .i64 sb] 37)
  go_enter Try.func10, Try.ntmps10
  go_wp2_with fail
  go_at_call 21; refine (alive8_call _).mono ?_; rintro e w1 ⟨rfl, b1⟩
  have v1 := blk_below B0 b1
  have r0 : w1.cell? ⟨w.heap.size, 0, none⟩ = some (.int .i64 sd) := blk_cell v1
  have r1 : w1.cell? ⟨w.heap.size, 1, none⟩ = some (.int .i64 ss) := blk_cell v1
  have r2 : w1.cell? ⟨w.heap.size, 2, none⟩ = some (.int .i64 sb) := blk_cell v1
  have bA := hid (bnext bS b1)
  have SU1 := hid v1
  have DP := hid (stPlay_call sd ss sb a n cap l w1 (HD.out.below bA.out))
  clear b1 bS B0 v1
  go_wp2_with fail
  go_at_call 19; refine DP.out.mono ?_; rintro e w2 ⟨m, av, ac, L, er, rfl, hM, hA, hP, b2⟩
  have SU2 := hid (blk_below SU1.out b2)
  obtain ⟨va, vc, ta, tc, sa, sc, aa, ac2, hv, hv1, hv2, hv3, hv4⟩ := hM.val
  have HVV := hid hv
  rw [hv]
  replace hv4 := hid hv4
  replace hP := hid hP
  obtain ⟨-, hAm⟩ := hA.amv
  have HA := hid hAm
  have HMM := hid hM
  have bB := hid (bnext bA.out b2)
  have hs2 := bB.out.size
  clear hM hA hAm hv hv1 hv2 hv3 DP b2 r0 r1 r2
  by_cases he : er = 0
  · subst he
    obtain ⟨hw, h80, hst, hLm⟩ := Sto.play_ok hP.out
    rw [HN.out] at h80
    have HW := hid hw
    have HST := hid hst
    have HLM := hid hLm
    have H10 := hid (run_ten (Sto.start sd ss sb) l)
    rw [← hLm] at H10
    have hLl : L.length = n := by have := congrArg List.length hLm; rw [List.length_map, Sto.run_len, HN.out] at this; exact this
    have HLL := hid hLl
    rw [hLl] at HA
    rw [hLl]
    clear hw hst hLm hLl hP
    have bC := hid (bB.out.alloc hs2 (.cells #[.int .i64 m.d, .int .i64 m.s, .int .i64 m.b, .slice va m.D.length vc, .int .i64 (m.g : Int), .slice ta m.T.length tc, .slice sa m.seen.length sc, .int .i64 m.u, .slice aa m.A.length ac2] 44))
    have HA2 := hid (HA.out.below ((Below.refl _ _).alloc (Nat.le_refl _) (.cells #[.int .i64 m.d, .int .i64 m.s, .int .i64 m.b, .slice va m.D.length vc, .int .i64 (m.g : Int), .slice ta m.T.length tc, .slice sa m.seen.length sc, .int .i64 m.u, .slice aa m.A.length ac2] 44)))
    have h80' : n ≤ 80 := h80
    have DT := hid (fun W (hW : Below w.heap.size w W) (hAW : Amv W av n ac L) => told8_call a n cap l av n ac L n W (HD.out.below hW) hAW (Nat.le_refl _) (Nat.le_refl _) (by omega) HF.out H10.out)
    have HSV := hid (Sto.snap_view (d := sd) (p := ss) (b := sb) (l := l))
    rw [← HLM.out, ← HST.out, HN.out] at HSV
    have hRl := Sto.toldTo_len l (L.map Am.an) H10.out n
    have HSN := hid (show m.st.snap = ⟨m.u, m.A⟩ from rfl)
    rw [HSN.out] at HSV
    have C0 := hid (blk_new w2 (.cells #[.int .i64 m.d, .int .i64 m.s, .int .i64 m.b, .slice va m.D.length vc, .int .i64 (m.g : Int), .slice ta m.T.length tc, .slice sa m.seen.length sc, .int .i64 m.u, .slice aa m.A.length ac2] 44))
    go_wp2_with fail
    go_at_call 24; refine (DT.out _ bC.out HA2.out).mono ?_; rintro e w3 ⟨oa, oc, rfl, hEO, b3⟩
    have C1 := hid (blk_below C0.out b3)
    have bE := hid (bnext bC.out b3)
    generalize (Sto.toldTo l (L.map Am.an) n).2 = R at *
    have DF := hid (vFold_call 0 none 0 0 [] oa R.length oc R w3 (As.nil w3) hEO.es)
    have HMA := hid (HMM.out.below (((Below.refl _ _).alloc (Nat.le_refl _) (.cells #[.int .i64 m.d, .int .i64 m.s, .int .i64 m.b, .slice va m.D.length vc, .int .i64 (m.g : Int), .slice ta m.T.length tc, .slice sa m.seen.length sc, .int .i64 m.u, .slice aa m.A.length ac2] 44)).trans (b3.mono (by simp))))
    clear DT b3 hEO
    have hne : (⟨0, []⟩ : Vw.Vi) = Vw.none' := rfl
    rw [hne] at DF
    unfold viVal at DF
    clear hne
    go_wp2_with fail
    go_at_call 27; refine DF.out.mono ?_; rintro e w4 ⟨ea, en, ec, rfl, hvA, b4⟩
    have hf1 := HSV.out.1
    have hf2 := congrArg Vw.Vi.upto HSV.out.2
    have hf3 := congrArg Vw.Vi.accs HSV.out.2
    simp only at hf2 hf3
    rw [hf1, hf2]
    rw [hf3] at hvA
    generalize (Vw.fold Vw.none' R).at_ = At at *
    have C2 := hid (blk_below C1.out b4)
    have bG := hid (bnext bE.out b4)
    have HMB := HMA.out.below b4
    have hoA := own_sl HMB.accs
    obtain ⟨a9, c9, e9, hs9⟩ := hoA
    rw [hv4.out] at e9
    cases e9
    have hAs9 : As w4 aa m.A.length ac2 m.A := ⟨hs9, HMB.aok⟩
    have g7 : w4.cell? ⟨w2.heap.size, 7, none⟩ = some (.int .i64 m.u) := blk_cell C2.out
    have g8 : w4.cell? ⟨w2.heap.size, 8, none⟩ = some (.slice aa m.A.length ac2) := blk_cell C2.out
    have y7 : ∀ o1 o2 : Obj, ((w4.alloc o1).alloc o2).cell? ⟨w2.heap.size, 7, none⟩ = some (.int .i64 m.u) := fun o1 o2 => calloc (calloc g7)
    have y8 : ∀ o1 o2 : Obj, ((w4.alloc o1).alloc o2).cell? ⟨w2.heap.size, 8, none⟩ = some (.slice aa m.A.length ac2) := fun o1 o2 => calloc (calloc g8)
    have bK := (Below.refl w4.heap.size w4).alloc (Nat.le_refl _) (.cells #[.int .i64 m.u, .slice ea en ec] 42)
    have bK2 := hid (bK.alloc (by simp) (.cells #[.int .i64 0, .int .i64 At] 69))
    have DS := hid (rSameView_same m.u ea aa en ec m.A.length ac2 m.A _ (hvA.below bK2.out) (hAs9.below bK2.out))
    clear hf1 hf2 hf3 hvA HMB hs9 hAs9 g7 g8 bK
    unfold viVal at DS ⊢
    go_wp2_with fail
    go_at_call 28; refine DS.out.mono ?_; rintro e w5 ⟨rfl, b5⟩
    go_wp2_with fail
    go_ret
    exact ⟨rfl, bnext (bnext bG.out bK2.out) b5⟩
  · have hnil := (Sto.play_bad hP.out he).1
    have t0 : (er != 0) = true := bne_iff_ne.2 he
    replace he := hid he
    have bC := hid (bB.out.alloc hs2 (.cells #[.int .i64 m.d, .int .i64 m.s, .int .i64 m.b, .slice va m.D.length vc, .int .i64 (m.g : Int), .slice ta m.T.length tc, .slice sa m.seen.length sc, .int .i64 m.u, .slice aa m.A.length ac2] 44))
    have DS := hid (same_zero (HMM.out.below ((Below.refl _ _).alloc (Nat.le_refl _) (.cells #[.int .i64 m.d, .int .i64 m.s, .int .i64 m.b, .slice va m.D.length vc, .int .i64 (m.g : Int), .slice ta m.T.length tc, .slice sa m.seen.length sc, .int .i64 m.u, .slice aa m.A.length ac2] 44))) hnil)
    rw [HVV.out] at DS
    clear hnil
    go_wp2_with fail
    go_at_call 25; refine DS.out.mono ?_; rintro e w3 ⟨rfl, b3⟩
    go_wp2_with fail
    go_ret
    exact ⟨rfl, bnext bC.out b3⟩
end Go.Proofs.Ythhcdfjijagalaa
namespace Go.Proofs.Ythhcdfjijagalaa.Sto
set_option linter.unusedVariables false
/-- a store into which small batches were put, the stream a being open with the sum S -/
structure Tp (s : St) (X : List Evt.Ba) (H : Nat → Prop) (K : Nat) (c S : Int) : Prop where
  j : J s X [] H K
  cnt : Cnt s X
  small : ∀ b ∈ X, b.evs.length ≤ 2
  less : ∀ b ∈ X, b.c < c
  opn : (Vw.get s.snap.accs sa).opn = true
  sum : (Vw.get s.snap.accs sa).sum = S
theorem events_le {X : List Evt.Ba} (h : ∀ b ∈ X, b.evs.length ≤ 2) : (events X).length ≤ 2 * X.length := by
  induction X with
  | nil => simp [events]
  | cons b r ih =>
    have h1 := h b (by simp)
    have h2 := ih (fun x hx => h x (by simp [hx]))
    unfold events at *
    rw [List.flatMap_cons, List.length_append, List.length_cons]; omega
section
variable {s : St} {X : List Evt.Ba} {H : Nat → Prop} {K : Nat} {c S : Int}
/-- the first batch: a is opened -/
theorem Tp.open (h : J s X [] H K) (hc : Cnt s X) (hX : X = []) (c : Int) (h1 : 1 ≤ c) (h2 : c ≤ 1000000) :
    Tp (step s (doPut c [⟨sa, 1, 0⟩])).1 [⟨c, [⟨sa, 1, 0⟩]⟩] H (K + 1) (c + 1) 0 ∧ (step s (doPut c [⟨sa, 1, 0⟩])).2.err = 0 := by
  subst hX
  have hsn : s.snap = Vw.none' := by rw [← h.inv.snap]; rfl
  have hsg : s.segs = 0 := by have := hc.segs h.ok; simpa using this
  have hf := fold_one (v := s.snap) (e := ⟨sa, 1, 0⟩) h.good (open_right sa (.inl rfl)) (by rw [hsn]; decide) (by rw [hsn]; rfl)
  obtain ⟨e1, n1⟩ := put_good h (d := doPut c [⟨sa, 1, 0⟩]) rfl (ba_right h1 h2 (by simp) (by simp) (fun e he => by
    have he : e ∈ [(⟨sa, 1, 0⟩ : Evt.Ev)] := he
    obtain rfl := List.mem_singleton.1 he
    exact open_right sa (.inl rfl))) (fun b hb => by cases hb) (show (-1 : Int) < 0 by decide) hf.1 (by simp [doPut]) (fun b hb => by cases hb) (by omega)
  have hj := h.put (d := doPut c [⟨sa, 1, 0⟩]) rfl
  have hcn := hc.step (doPut c [⟨sa, 1, 0⟩])
  rw [n1, List.nil_append] at hj hcn
  have hsnap : (step s (doPut c [⟨sa, 1, 0⟩])).1.snap = (Vw.fold s.snap [⟨sa, 1, 0⟩]).v := by
    rw [step_put rfl]
    rcases put_view s (doPut c [⟨sa, 1, 0⟩]) with ⟨_, h3 | h3⟩ | ⟨_, _, _, h4, _⟩
    · rw [step_put rfl] at e1; exact absurd e1 h3
    · obtain ⟨b, hb, _⟩ := (h.inv.seen _).1 h3; cases hb
    · exact h4
  refine ⟨⟨hj, hcn, fun b hb => ?_, fun b hb => ?_, ?_, ?_⟩, e1⟩
  · obtain rfl := List.mem_singleton.1 hb; simp
  · obtain rfl := List.mem_singleton.1 hb; show c < c + 1; omega
  · rw [hsnap, hf.2.1, hsn]; rfl
  · rw [hsnap, hf.2.1, hsn]; rfl
theorem put_right (h : Tp s X H K c S) {l : List Evt.Ev} {c' : Int} (hc : c ≤ c') (h1 : 1 ≤ c') (h2 : c' ≤ 1000000) (hl : 1 ≤ l.length) (hl2 : l.length ≤ 2) (hw : ∀ e ∈ l, Evt.wrongEv e = 0) (hX : X.length ≤ 38) (hf : (Vw.fold s.snap l).err = 0) :
    (step s (doPut c' l)).2.err = 0 ∧ J (step s (doPut c' l)).1 (X ++ [⟨c', l⟩]) [] H (K + 1) ∧ Cnt (step s (doPut c' l)).1 (X ++ [⟨c', l⟩]) ∧ (step s (doPut c' l)).1.snap = (Vw.fold s.snap l).v := by
  have hsg := h.cnt.segs h.j.ok
  obtain ⟨e1, n1⟩ := put_good h.j (d := doPut c' l) rfl (ba_right h1 h2 hl (by omega) hw) (fun b hb => by have := h.less b hb; show b.c ≠ c'; omega) (show (-1 : Int) < 0 by decide) hf hl2 h.small (by omega)
  have hj := h.j.put (d := doPut c' l) rfl
  have hcn := h.cnt.step (doPut c' l)
  rw [n1] at hj hcn
  refine ⟨e1, hj, hcn, ?_⟩
  rw [step_put rfl]
  rcases put_view s (doPut c' l) with ⟨_, h3 | h3⟩ | ⟨_, _, _, h4, _⟩
  · rw [step_put rfl] at e1; exact absurd e1 h3
  · obtain ⟨b, hb, e⟩ := (h.j.inv.seen _).1 h3
    have := h.less b hb
    have e : b.c = c' := e
    omega
  · exact h4
theorem Tp.upto (h : Tp s X H K c S) (hX : X.length ≤ 38) : s.snap.upto < 100 := by
  have := events_le h.small
  rw [h.j.inv.upto]; omega
/-- a number is added to a -/
theorem Tp.add (h : Tp s X H K c S) {n c' : Int} (h0 : 0 ≤ n) (hn : n ≤ 1000000) (hc : c ≤ c') (h1 : 1 ≤ c') (h2 : c' ≤ 1000000) (hX : X.length ≤ 38) :
    Tp (step s (doPut c' [⟨sa, 2, n⟩])).1 (X ++ [⟨c', [⟨sa, 2, n⟩]⟩]) H (K + 1) (c' + 1) (S + n) ∧ (step s (doPut c' [⟨sa, 2, n⟩])).2.err = 0 := by
  have hu := h.upto hX
  have hw := num_right sa (.inl rfl) 2 n (.inl rfl) h0 hn
  have hf := fold_one (v := s.snap) (e := ⟨sa, 2, n⟩) h.j.good hw (by omega) (by show Vw.may (Vw.get s.snap.accs sa) _ = true; unfold Vw.may; rw [if_neg (show ¬ ((2 : Int) = 1) by decide), if_pos (.inl rfl)]; exact h.opn)
  obtain ⟨e1, e2, e3, e4⟩ := put_right h (l := [⟨sa, 2, n⟩]) hc h1 h2 (by simp) (by simp) (fun e he => by obtain rfl := List.mem_singleton.1 he; exact hw) hX hf.1
  have hg : Vw.get (step s (doPut c' [⟨sa, 2, n⟩])).1.snap.accs sa = Vw.plus (Vw.get s.snap.accs sa) ⟨sa, 2, n⟩ := by
    rw [e4, hf.2.1]
    have h5 := Vw.get_ins_same (Vw.plus (Vw.get s.snap.accs sa) ⟨sa, 2, n⟩) s.snap.accs
    rwa [Vw.plus_s, Vw.get_s] at h5
  refine ⟨⟨e2, e3, fun b hb => ?_, fun b hb => ?_, ?_, ?_⟩, e1⟩
  · rcases List.mem_append.1 hb with hb | hb
    · exact h.small b hb
    · obtain rfl := List.mem_singleton.1 hb; simp
  · rcases List.mem_append.1 hb with hb | hb
    · have := h.less b hb; omega
    · obtain rfl := List.mem_singleton.1 hb; show c' < c' + 1; omega
  · rw [hg]; exact h.opn
  · rw [hg]; show (Vw.get s.snap.accs sa).sum + n = S + n; rw [h.sum]
end
/-- numbers are added, one batch each -/
def addsD : List Int → Int → List Do
  | [], _ => []
  | n :: r, c => doPut c [⟨sa, 2, n⟩] :: addsD r (c + 1)
def addsB : List Int → Int → List Evt.Ba
  | [], _ => []
  | n :: r, c => ⟨c, [⟨sa, 2, n⟩]⟩ :: addsB r (c + 1)
theorem addsD_len (l : List Int) : ∀ c, (addsD l c).length = l.length := by
  induction l with
  | nil => intro c; rfl
  | cons n r ih => intro c; unfold addsD; rw [List.length_cons, ih, List.length_cons]
theorem events_adds (l : List Int) : ∀ c, events (addsB l c) = l.map fun n => (⟨sa, 2, n⟩ : Evt.Ev) := by
  induction l with
  | nil => intro c; rfl
  | cons n r ih =>
    intro c
    show events (⟨c, [⟨sa, 2, n⟩]⟩ :: addsB r (c + 1)) = _
    rw [show events (⟨c, [⟨sa, 2, n⟩]⟩ :: addsB r (c + 1)) = [⟨sa, 2, n⟩] ++ events (addsB r (c + 1)) from rfl, ih (c + 1)]
    rfl
theorem Tp.adds {s : St} {X : List Evt.Ba} {H : Nat → Prop} {K : Nat} {c S : Int} (h : Tp s X H K c S) (l : List Int) (hl : ∀ n ∈ l, 0 ≤ n ∧ n ≤ 1000000) (h1 : 1 ≤ c) (h2 : c + l.length ≤ 1000000) (hX : X.length + l.length ≤ 38) :
    ∃ S', Tp (run s (addsD l c)).1 (X ++ addsB l c) H (K + l.length) (c + l.length) S' := by
  induction l generalizing s X K c S with
  | nil => exact ⟨S, by simpa [addsD, addsB, run] using h⟩
  | cons n r ih =>
    have hn := hl n (by simp)
    rw [List.length_cons] at h2 hX
    obtain ⟨h3, _⟩ := h.add (n := n) (c' := c) hn.1 hn.2 (Int.le_refl _) h1 (by omega) (by omega)
    obtain ⟨S', h4⟩ := ih h3 (fun x hx => hl x (by simp [hx])) (by omega) (by omega) (by rw [List.length_append]; simp only [List.length_cons, List.length_nil]; omega)
    refine ⟨S', ?_⟩
    unfold addsD addsB
    rw [run_cons, List.length_cons]
    have e1 : X ++ (⟨c, [⟨sa, 2, n⟩]⟩ :: addsB r (c + 1)) = X ++ [⟨c, [⟨sa, 2, n⟩]⟩] ++ addsB r (c + 1) := by simp
    rw [e1, show K + (r.length + 1) = K + 1 + r.length by omega, show c + ((r.length + 1 : Nat) : Int) = c + 1 + (r.length : Int) by omega]
    exact h4
theorem start_J {d p b : Int} (h : wrongS d p b = 0) : J (start d p b) [] [] (fun _ => False) 0 := J.start h _
/-- a is opened, numbers are added -/
theorem opened {d p b : Int} (hw : wrongS d p b = 0) (l : List Int) (hl : ∀ n ∈ l, 0 ≤ n ∧ n ≤ 1000000) (hlen : l.length ≤ 30) :
    ∃ K S, Tp (run (start d p b) (doPut 1 [⟨sa, 1, 0⟩] :: addsD l 2)).1 (⟨1, [⟨sa, 1, 0⟩]⟩ :: addsB l 2) (fun _ => False) K (2 + l.length) S := by
  obtain ⟨h1, _⟩ := Tp.open (start_J hw) (Cnt.start d p b) rfl 1 (by decide) (by decide)
  obtain ⟨S, h2⟩ := h1.adds l hl (by decide) (by omega) (by simp only [List.length_cons, List.length_nil]; omega)
  rw [run_cons]
  exact ⟨_, S, h2⟩
theorem run_spare (s : St) (l : List Do) : (run s l).1.spare = s.spare := by
  induction l generalizing s with
  | nil => rfl
  | cons d r ih => rw [run_cons]; show (run _ r).1.spare = _; rw [ih, step_spare]
end Go.Proofs.Ythhcdfjijagalaa.Sto
namespace Go.Proofs.Ythhcdfjijagalaa.Sto
set_option linter.unusedVariables false
theorem run_mid (s : St) (A : List Do) (d : Do) (B : List Do) : (run s (A ++ d :: B)).2[A.length]? = some (step (run s A).1 d).2 := by
  rw [(run_app s A (d :: B)).1, List.getElem?_append_right (by rw [run_len]; exact Nat.le_refl _), run_len, Nat.sub_self, run_cons]
  rfl
def opA : Do := doPut 1 [⟨sa, 1, 0⟩]
def evA (l : List Int) : List Evt.Ev := ⟨sa, 1, 0⟩ :: l.map fun n => ⟨sa, 2, n⟩
theorem events_opened (l : List Int) : events (⟨1, [⟨sa, 1, 0⟩]⟩ :: addsB l 2) = evA l := by
  show [(⟨sa, 1, 0⟩ : Evt.Ev)] ++ events (addsB l 2) = _
  rw [events_adds]; rfl
theorem few_none {n : Int} (hn : 0 ≤ n) : Few (fun _ => False) n := fun U _ hs => by
  cases U with
  | nil => simpa using hn
  | cons u r => exact absurd (hs u (by simp)) (fun h => h)
/-- HOWEVER MANY DISKS -/
theorem shape_plain {d p b : Int} (hw : wrongS d p b = 0) (l : List Int) (hl : ∀ n ∈ l, 0 ≤ n ∧ n ≤ 1000000) (hlen : l.length ≤ 30) :
    ∃ s a, play d p b (opA :: addsD l 2 ++ [doOf 3 0]) = (s, a, 0) ∧ a.length = l.length + 2 ∧ ∃ x, a[l.length + 1]? = some x ∧ x.err = 0 ∧ x.evs = evA l := by
  obtain ⟨K, S, h⟩ := opened hw l hl hlen
  have hp := (start_J hw).ok.sp
  have hsp := run_spare (start d p b) (doPut 1 [⟨sa, 1, 0⟩] :: addsD l 2)
  have ha := h.j.all_ok (few_none (by rw [hsp]; exact hp.1))
  have hr := read_all ha (d := doOf 3 0) rfl rfl
  have hm := run_mid (start d p b) (opA :: addsD l 2) (doOf 3 0) []
  have hln : (opA :: addsD l 2).length = l.length + 1 := by rw [List.length_cons, addsD_len]
  refine ⟨_, _, play_of hw (by rw [List.length_append, hln]; simp only [List.length_cons, List.length_nil]; omega), by rw [run_len, List.length_append, hln]; rfl, _, by rw [hln] at hm; exact hm, ?_, ?_⟩
  · rw [show run (start d p b) (opA :: addsD l 2) = run (start d p b) (doPut 1 [⟨sa, 1, 0⟩] :: addsD l 2) from rfl, hr]
  · rw [show run (start d p b) (opA :: addsD l 2) = run (start d p b) (doPut 1 [⟨sa, 1, 0⟩] :: addsD l 2) from rfl, hr]
    exact events_opened l
end Go.Proofs.Ythhcdfjijagalaa.Sto
