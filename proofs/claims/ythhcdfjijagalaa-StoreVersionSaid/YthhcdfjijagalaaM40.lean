/- Joined, and what is not used struck: SpJ, SpX. -/
import Derived.Test.YthhcdfjijagalaaM37
import Derived.Test.YthhcdfjijagalaaM38
import Derived.Test.YthhcdfjijagalaaM39
import Derived.BigRegion
namespace Go.Proofs.Ythhcdfjijagalaa
open Go.RowKit Go.Maps
set_option linter.unusedVariables false
set_option linter.unusedSimpArgs false
set_option maxRecDepth 100000
theorem sl_rows {α : Type} {f : α → List Value} {k : Nat} (hf : ∀ x, (f x).length = k) {w : World} {a : Option Addr} {n cap : Nat} {l : List α} (h : Sl w k a n cap (rows f l)) (h0 : 0 < n) :
    ∃ b off, a = some ⟨b, off, none⟩ ∧ ∀ (i : Nat) (hi : i < l.length) (j : Nat), j < k → w.cell? ⟨b, off + (i * k + j), none⟩ = (f l[i])[j]? := by
  obtain ⟨b, off, e, hc⟩ := h.addr h0
  refine ⟨b, off, e, fun i hi j hj => ?_⟩
  have h1 := rows_get hf l i j hi hj
  have hlt : j < (f l[i]).length := by rw [hf]; exact hj
  rw [List.getElem?_eq_getElem hlt] at h1 ⊢
  exact hc _ _ h1
theorem alloc2 (w : World) (o1 o2 : Obj) : ((w.alloc o1).alloc o2).drew.heap[w.heap.size]? = some o1 ∧ ((w.alloc o1).alloc o2).drew.heap[w.heap.size + 1]? = some o2 ∧ Below w.heap.size w ((w.alloc o1).alloc o2).drew := by
  refine ⟨blk_old (o' := o2) (blk_new w o1), ?_, Below.drew (((Below.refl _ _).alloc (Nat.le_refl _) o1).alloc (by simp) o2)⟩
  have := blk_new (w.alloc o1) o2
  rwa [World.size_alloc] at this
set_option maxHeartbeats 8000000 in
theorem rSameS_same (base base' : Nat) (m m' : Mst) (w : World) (h : StM w base m) (h' : StM w base' m') (hst : m.st = m'.st) (hD : m.D.length ≤ 100) (hH : ∀ x ∈ m.D, x.H.length ≤ 1000) (hT : m.T.length ≤ 1000) (hS : m.seen.length ≤ 1000) :
    Calls Try.prog 25 #[stVal m, stVal m'] w (Grew (.bool true) w) := by
  obtain ⟨d, s, b, dv, D, g, tv, T, sv, seen, u, av, A⟩ := m
  obtain ⟨d', s', b', dv', D', g', tv', T', sv', seen', u', av', A'⟩ := m'
  simp only [Mst.st, Sto.St.mk.injEq, Vw.Vi.mk.injEq, Int.natCast_inj] at hst
  obtain ⟨rfl, rfl, rfl, hDD, rfl, hTT, rfl, rfl, rfl⟩ := hst
  obtain ⟨da, dc, hdv, hds⟩ := own_sl h.dks
  obtain ⟨ta, tc, htv, hts⟩ := own_sl h.tail
  obtain ⟨sa, sc, hsv, hss⟩ := own_sl h.seen
  obtain ⟨aa, ac, hav, has⟩ := own_sl h.accs
  obtain ⟨da', dc', hdv', hds'⟩ := own_sl h'.dks
  obtain ⟨ta', tc', htv', hts'⟩ := own_sl h'.tail
  obtain ⟨sa', sc', hsv', hss'⟩ := own_sl h'.seen
  obtain ⟨aa', ac', hav', has'⟩ := own_sl h'.accs
  simp only at hdv htv hsv hav hdv' htv' hsv' hav' hds hts hss has hds' hts' hss' has' hD hH hT hS
  subst hdv htv hsv hav hdv' htv' hsv' hav'
  have hDl : D'.length = D.length := by have := congrArg List.length hDD; simpa using this.symm
  have hTl : T'.length = T.length := by have := congrArg List.length hTT; simpa using this.symm
  rw [hDl] at hds'
  rw [hTl] at hts'
  have hok := hid h.aok
  have hBs : Bs w ta T.length tc T := ⟨hts, fun r hr => by
    obtain ⟨h1, h2⟩ := h.evs r hr
    obtain ⟨a1, c1, e, h3⟩ := own_sl h1
    cases e
    exact ⟨h3, h2⟩⟩
  have hBs' : Bs w ta' T.length tc' T' := ⟨hts', fun r hr => by
    obtain ⟨h1, h2⟩ := h'.evs r hr
    obtain ⟨a1, c1, e, h3⟩ := own_sl h1
    cases e
    exact ⟨h3, h2⟩⟩
  have hAs : As w aa A.length ac A := ⟨has, hok.out⟩
  have hAs' : As w aa' A.length ac' A := ⟨has', hok.out⟩
  have HDK := hid h.held
  have HBY := hid h.bytes
  have HDK' := hid h'.held
  have HBY' := hid h'.bytes
  have HSS := hid hss
  have HSS' := hid hss'
  have HDS := hid hds
  have HDS' := hid hds'
  have HDD := hid hDD
  have HTT := hid hTT
  have HB := hid hBs
  have HB' := hid hBs'
  have HAA := hid hAs
  have HAA' := hid hAs'
  have HH := hid hH
  have HDL := hid hDl
  unfold stVal
  simp only
  rw [hDl, hTl]
  clear h h' hok hBs hBs' hAs hAs' hss hss' hds hds' hts hts' has has' hDD hTT hH hTl hDl
  have B0 := blk_old (o' := (.cells #[.int .i64 d, .int .i64 s, .int .i64 b, .slice da' D.length dc', .int .i64 (g : Int), .slice ta' T.length tc', .slice sa' seen.length sc', .int .i64 u, .slice aa' A.length ac'] 44)) (blk_new w (.cells #[.int .i64 d, .int .i64 s, .int .i64 b, .slice da D.length dc, .int .i64 (g : Int), .slice ta T.length tc, .slice sa seen.length sc, .int .i64 u, .slice aa A.length ac] 44))
  have B1 := blk_new (w.alloc (.cells #[.int .i64 d, .int .i64 s, .int .i64 b, .slice da D.length dc, .int .i64 (g : Int), .slice ta T.length tc, .slice sa seen.length sc, .int .i64 u, .slice aa A.length ac] 44)) (.cells #[.int .i64 d, .int .i64 s, .int .i64 b, .slice da' D.length dc', .int .i64 (g : Int), .slice ta' T.length tc', .slice sa' seen.length sc', .int .i64 u, .slice aa' A.length ac'] 44)
  rw [World.size_alloc] at B1
  have bV := hid (((Below.refl w.heap.size w).alloc (Nat.le_refl _) (.cells #[.int .i64 d, .int .i64 s, .int .i64 b, .slice da D.length dc, .int .i64 (g : Int), .slice ta T.length tc, .slice sa seen.length sc, .int .i64 u, .slice aa A.length ac] 44)).alloc (by simp) (.cells #[.int .i64 d, .int .i64 s, .int .i64 b, .slice da' D.length dc', .int .i64 (g : Int), .slice ta' T.length tc', .slice sa' seen.length sc', .int .i64 u, .slice aa' A.length ac'] 44))
  obtain ⟨V, hV⟩ : ∃ V, V = (w.alloc (.cells #[.int .i64 d, .int .i64 s, .int .i64 b, .slice da D.length dc, .int .i64 (g : Int), .slice ta T.length tc, .slice sa seen.length sc, .int .i64 u, .slice aa A.length ac] 44)).alloc (.cells #[.int .i64 d, .int .i64 s, .int .i64 b, .slice da' D.length dc', .int .i64 (g : Int), .slice ta' T.length tc', .slice sa' seen.length sc', .int .i64 u, .slice aa' A.length ac'] 44) := ⟨_, rfl⟩
  rw [← hV] at B0 B1 bV
  have HVV := hid hV
  have hVs : V.heap.size = w.heap.size + 2 := by rw [hV]; simp
  clear hV
  have c0 : V.cell? ⟨w.heap.size, 0, none⟩ = some (.int .i64 d) := blk_cell B0
  have c1 : V.cell? ⟨w.heap.size, 1, none⟩ = some (.int .i64 s) := blk_cell B0
  have c2 : V.cell? ⟨w.heap.size, 2, none⟩ = some (.int .i64 b) := blk_cell B0
  have c3 : V.cell? ⟨w.heap.size, 3, none⟩ = some (.slice da D.length dc) := blk_cell B0
  have c4 : V.cell? ⟨w.heap.size, 4, none⟩ = some (.int .i64 (g : Int)) := blk_cell B0
  have c5 : V.cell? ⟨w.heap.size, 5, none⟩ = some (.slice ta T.length tc) := blk_cell B0
  have c6 : V.cell? ⟨w.heap.size, 6, none⟩ = some (.slice sa seen.length sc) := blk_cell B0
  have c7 : V.cell? ⟨w.heap.size, 7, none⟩ = some (.int .i64 u) := blk_cell B0
  have c8 : V.cell? ⟨w.heap.size, 8, none⟩ = some (.slice aa A.length ac) := blk_cell B0
  have k0 : V.cell? ⟨w.heap.size + 1, 0, none⟩ = some (.int .i64 d) := blk_cell B1
  have k1 : V.cell? ⟨w.heap.size + 1, 1, none⟩ = some (.int .i64 s) := blk_cell B1
  have k2 : V.cell? ⟨w.heap.size + 1, 2, none⟩ = some (.int .i64 b) := blk_cell B1
  have k3 : V.cell? ⟨w.heap.size + 1, 3, none⟩ = some (.slice da' D.length dc') := blk_cell B1
  have k4 : V.cell? ⟨w.heap.size + 1, 4, none⟩ = some (.int .i64 (g : Int)) := blk_cell B1
  have k5 : V.cell? ⟨w.heap.size + 1, 5, none⟩ = some (.slice ta' T.length tc') := blk_cell B1
  have k6 : V.cell? ⟨w.heap.size + 1, 6, none⟩ = some (.slice sa' seen.length sc') := blk_cell B1
  have k7 : V.cell? ⟨w.heap.size + 1, 7, none⟩ = some (.int .i64 u) := blk_cell B1
  have k8 : V.cell? ⟨w.heap.size + 1, 8, none⟩ = some (.slice aa' A.length ac') := blk_cell B1
  have DB := hid (rSameBatches_same ta ta' T.length tc T.length tc' T T' V (HB.out.below bV.out) (HB'.out.below bV.out) HTT.out)
  go_enter Try.func25, Try.ntmps25
  go_upto_region 1 with (fail)
  rw [← HVV.out]
  go_wp2_with fail
  go_at_call 35; refine DB.out.mono ?_; rintro e w2 ⟨rfl, q, rfl⟩
  have DV := hid (rSameView_same u aa aa' A.length ac A.length ac' A (V.drewN q) ((HAA.out.below bV.out).below (below_drewN (Below.refl _ _) q)) ((HAA'.out.below bV.out).below (below_drewN (Below.refl _ _) q)))
  unfold viVal at DV
  go_wp2_with fail
  go_at_call 28; refine DV.out.mono ?_; rintro e w3 ⟨rfl, b3⟩
  have bW : Below V.heap.size V w3 := (below_drewN (Below.refl _ _) q).trans b3
  have C0 := hid (blk_below B0 bW)
  have C1 := hid (blk_below B1 bW)
  have bX := hid (bnext bV.out bW)
  clear c0 c1 c2 c3 c4 c5 c6 c7 c8 k0 k1 k2 k3 k4 k5 k6 k7 k8 B0 B1 b3 bW DB DV bV
  have c6 : w3.cell? ⟨w.heap.size, 6, none⟩ = some (.slice sa seen.length sc) := blk_cell C0.out
  have k6 : w3.cell? ⟨w.heap.size + 1, 6, none⟩ = some (.slice sa' seen.length sc') := blk_cell C1.out
  have c3 : w3.cell? ⟨w.heap.size, 3, none⟩ = some (.slice da D.length dc) := blk_cell C0.out
  have k3 : w3.cell? ⟨w.heap.size + 1, 3, none⟩ = some (.slice da' D.length dc') := blk_cell C1.out
  go_wp2_with fail
  go_loopg [59] seen.length (fun gg s59 wr => ∃ k j : Nat, gg = seen.length - k ∧ k ≤ seen.length ∧ s59 = .int .i64 (k : Int) ∧ wr = w3.drewN j)
  case atStart => exact ⟨0, 0, rfl, by omega, rfl, rfl⟩
  case round =>
    obtain ⟨k, j, rfl, hk, rfl, rfl⟩ := hrel
    by_cases hlt : k < seen.length
    · obtain ⟨sb, soff, rfl, hsc⟩ := HSS.out.addr (by omega)
      obtain ⟨sb', soff', rfl, hsc'⟩ := HSS'.out.addr (by omega)
      have g0 : w3.cell? ⟨sb, soff + k, none⟩ = some (.int .i64 seen[k]) := by
        have h1 := hsc k (.int .i64 seen[k]) (by simp [hlt])
        exact (bX.out.cell (p := ⟨sb, _, none⟩) (World.block_lt_of_cell? _ _ h1)).trans h1
      have g1 : w3.cell? ⟨sb', soff' + k, none⟩ = some (.int .i64 seen[k]) := by
        have h1 := hsc' k (.int .i64 seen[k]) (by simp [hlt])
        exact (bX.out.cell (p := ⟨sb', _, none⟩) (World.block_lt_of_cell? _ _ h1)).trans h1
      have i0 : (0 : Int) ≤ (k : Int) := by omega
      have i1 : (k : Int) < (seen.length : Int) := by omega
      generalize seen[k] = sv at *
      clear hsc hsc'
      go_wp2_with fail
      go_quiet (fail)
      go_wp2_with fail
      go_roundg (seen.length - (k + 1))
      case measure => omega
      case rel => exact ⟨k + 1, _, rfl, by omega, by go_num, rfl⟩
    · obtain rfl : k = seen.length := by omega
      go_wp2_with fail
      obtain ⟨W, hW⟩ : ∃ W, W = w3.drewN j := ⟨_, rfl⟩
      have bY := hid (show Below w.heap.size w W by rw [hW]; exact below_drewN bX.out j)
      have hWh : W.heap = w3.heap := by rw [hW]; rfl
      have D0 := C0.out
      have D1 := C1.out
      rw [← hWh] at D0 D1
      replace D0 := hid D0
      replace D1 := hid D1
      clear hWh
      rw [← hW]
      clear hW c3 k3 c6 k6
      go_loopg [77] D.length (fun gg s77 wr => ∃ k : Nat, gg = D.length - k ∧ k ≤ D.length ∧ s77 = .int .i64 (k : Int) ∧ Below W.heap.size W wr)
      case atStart => exact ⟨0, rfl, by omega, rfl, Below.refl _ _⟩
      case round =>
        obtain ⟨k, rfl, hk, rfl, hb⟩ := hrel
        obtain ⟨wo, rfl⟩ : ∃ wo : World, wo = wr := ⟨_, rfl⟩
        have bZ := bnext bY.out hb
        by_cases hlt : k < D.length
        · have hlt' : k < D'.length := by rw [HDL.out]; exact hlt
          obtain ⟨b1, off1, rfl, hc1⟩ := sl_rows dm2_len (HDS.out.below bZ) (by omega)
          obtain ⟨b2, off2, rfl, hc2⟩ := sl_rows dm2_len (HDS'.out.below bZ) (by omega)
          have g0 := hc1 k hlt 0 (by omega)
          have g1 := hc1 k hlt 1 (by omega)
          have e0 := hc2 k hlt' 0 (by omega)
          have e1 := hc2 k hlt' 1 (by omega)
          have hdk : D[k].dk = D'[k].dk := by
            have := congrArg (fun l => l[k]?) HDD.out
            simp only [List.getElem?_map, List.getElem?_eq_getElem hlt, List.getElem?_eq_getElem hlt', Option.map_some] at this
            exact Option.some.inj this
          have hh := hid (HDK.out D[k] (List.getElem_mem _))
          have hh' := hid (HDK'.out D'[k] (List.getElem_mem _))
          have hby := hid (HBY.out D[k] (List.getElem_mem _))
          have hby' := hid (HBY'.out D'[k] (List.getElem_mem _))
          have hH := HH.out D[k] (List.getElem_mem _)
          generalize D[k] = x at *
          generalize D'[k] = x' at *
          obtain ⟨xg, xa, xc, xH⟩ := x
          obtain ⟨xg', xa', xc', xH'⟩ := x'
          simp only [Dm.dk, Sto.Dk.mk.injEq] at hdk
          obtain ⟨rfl, hHd⟩ := hdk
          have hHl : xH'.length = xH.length := by have := congrArg List.length hHd; simpa using this.symm
          simp only [dm2, Dm.v] at g0 g1 e0 e1
          rw [hHl] at e1
          replace g0 : wo.cell? ⟨b1, off1 + k * 2, none⟩ = some (.bool xg) := g0
          replace g1 : wo.cell? ⟨b1, off1 + k * 2 + 1, none⟩ = some (.slice xa xH.length xc) := g1
          replace e0 : wo.cell? ⟨b2, off2 + k * 2, none⟩ = some (.bool xg) := e0
          replace e1 : wo.cell? ⟨b2, off2 + k * 2 + 1, none⟩ = some (.slice xa' xH.length xc') := e1
          have HHd := hid hHd
          have HHl := hid hHl
          have i0 : (0 : Int) ≤ (k : Int) := by omega
          have i1 : (k : Int) < (D.length : Int) := by omega
          have c3 : wo.cell? ⟨w.heap.size, 3, none⟩ = some (.slice (some ⟨b1, off1, none⟩) D.length dc) := blk_cell (blk_below D0.out hb)
          have k3 : wo.cell? ⟨w.heap.size + 1, 3, none⟩ = some (.slice (some ⟨b2, off2, none⟩) D.length dc') := blk_cell (blk_below D1.out hb)
          clear hc1 hc2 hHd hHl
          simp only at hH
          go_upto_region 12 with (fail)
          have hso : b1 < wo.heap.size := World.block_lt_of_cell? _ _ g0
          have hso2 : b2 < wo.heap.size := World.block_lt_of_cell? _ _ e0
          have hso3 : w.heap.size < wo.heap.size := World.block_lt_of_cell? _ _ c3
          have hso4 : w.heap.size + 1 < wo.heap.size := World.block_lt_of_cell? _ _ k3
          have a1 : ∀ o : Obj, (wo.alloc o).cell? ⟨b1, off1 + k * 2, none⟩ = some (.bool xg) := fun o => (cell_old hso).trans g0
          have a2 : ∀ o : Obj, (wo.alloc o).cell? ⟨b1, off1 + k * 2 + 1, none⟩ = some (.slice xa xH.length xc) := fun o => (cell_old hso).trans g1
          have a3 : ∀ o : Obj, (wo.alloc o).cell? ⟨b2, off2 + k * 2, none⟩ = some (.bool xg) := fun o => (cell_old hso2).trans e0
          have a4 : ∀ o : Obj, (wo.alloc o).cell? ⟨b2, off2 + k * 2 + 1, none⟩ = some (.slice xa' xH.length xc') := fun o => (cell_old hso2).trans e1
          have a5 : ∀ o : Obj, (wo.alloc o).cell? ⟨w.heap.size, 3, none⟩ = some (.slice (some ⟨b1, off1, none⟩) D.length dc) := fun o => (cell_old hso3).trans c3
          have a6 : ∀ o : Obj, (wo.alloc o).cell? ⟨w.heap.size + 1, 3, none⟩ = some (.slice (some ⟨b2, off2, none⟩) D.length dc') := fun o => (cell_old hso4).trans k3
          go_cut [7, 8] from 80 to 89 (fun s7 s8 wx => ∃ p q, s7 = .pointer (some ⟨p, 0, none⟩) ∧ s8 = .pointer (some ⟨q, 0, none⟩) ∧ wx.heap[p]? = some (.cells #[.bool xg, .slice xa xH.length xc] 61 (0, 0)) ∧ wx.heap[q]? = some (.cells #[.bool xg, .slice xa' xH.length xc'] 61 (0, 0)) ∧ Below wo.heap.size wo wx)
          case first =>
            go_region
            all_goals (go_wp2_with fail; go_meet)
            all_goals first
              | exact ⟨wo.heap.size, wo.heap.size + 1, rfl, rfl, (alloc2 wo _ _).1, (alloc2 wo _ _).2.1, (alloc2 wo _ _).2.2⟩
              | exact ⟨wo.heap.size + 1, wo.heap.size, rfl, rfl, (alloc2 wo _ _).2.1, (alloc2 wo _ _).1, (alloc2 wo _ _).2.2⟩
          case rest =>
            obtain ⟨wD, rfl⟩ : ∃ wD : World, wD = wc := ⟨_, rfl⟩
            obtain ⟨p, q, rfl, rfl, hp, hq, hbD⟩ := hcut
            have bD := bnext bZ hbD
            clear a1 a2 a3 a4 a5 a6 g0 g1 e0 e1 c3 k3
            have g0 : wD.cell? ⟨p, 0, none⟩ = some (.bool xg) := blk_cell hp
            have g1 : wD.cell? ⟨p, 1, none⟩ = some (.slice xa xH.length xc) := blk_cell hp
            have e0 : wD.cell? ⟨q, 0, none⟩ = some (.bool xg) := blk_cell hq
            have e1 : wD.cell? ⟨q, 1, none⟩ = some (.slice xa' xH.length xc') := blk_cell hq
            go_wp2_with fail
            go_loopg [107] xH.length (fun gg s107 wr => ∃ k j : Nat, gg = xH.length - k ∧ k ≤ xH.length ∧ s107 = .int .i64 (k : Int) ∧ wr = wD.drewN j)
            case atStart => exact ⟨0, 0, rfl, by omega, rfl, rfl⟩
            case round =>
              obtain ⟨kk, j, rfl, hkk, rfl, rfl⟩ := hrel
              by_cases hltH : kk < xH.length
              · have hltH' : kk < xH'.length := by rw [HHl.out]; exact hltH
                obtain ⟨a1, c1, ee1, hs1⟩ := own_sl hh.out
                obtain ⟨a2, c2, ee2, hs2⟩ := own_sl hh'.out
                simp only [Dm.v, Value.slice.injEq, true_and] at ee1 ee2
                obtain ⟨rfl, rfl⟩ := ee1
                obtain ⟨rfl, rfl⟩ := ee2
                try simp only at hs1
                try simp only at hs2
                rw [HHl.out] at hs2
                obtain ⟨b3, off3, rfl, hc3⟩ := sl_rows hm2_len (hs1.below bD) (by omega)
                obtain ⟨b4, off4, rfl, hc4⟩ := sl_rows hm2_len (hs2.below bD) (by omega)
                have y0 := hc3 kk hltH 0 (by omega)
                have y1 := hc3 kk hltH 1 (by omega)
                have z0 := hc4 kk hltH' 0 (by omega)
                have z1 := hc4 kk hltH' 1 (by omega)
                have hhd : xH[kk].hd = xH'[kk].hd := by
                  have := congrArg (fun l => l[kk]?) HHd.out
                  simp only [List.getElem?_map, List.getElem?_eq_getElem hltH, List.getElem?_eq_getElem hltH', Option.map_some] at this
                  exact Option.some.inj this
                have hb1 := hby.out xH[kk] (List.getElem_mem _)
                have hb2 := hby'.out xH'[kk] (List.getElem_mem _)
                generalize xH[kk] = h1 at *
                generalize xH'[kk] = h2 at *
                obtain ⟨hs, ha, hc, hb⟩ := h1
                obtain ⟨hs', ha', hc', hb'⟩ := h2
                simp only [Hm.hd, Sto.Hd.mk.injEq] at hhd
                obtain ⟨rfl, rfl⟩ := hhd
                replace hb1 : w.ownsRow base 5 1 (.slice ha hb.length hc) hb.length (cb hb) := hb1
                replace hb2 : w.ownsRow base' 5 1 (.slice ha' hb.length hc') hb.length (cb hb) := hb2
                replace y0 : wD.cell? ⟨b3, off3 + kk * 2, none⟩ = some (.int .i64 hs) := y0
                replace y1 : wD.cell? ⟨b3, off3 + kk * 2 + 1, none⟩ = some (.slice ha hb.length hc) := y1
                replace z0 : wD.cell? ⟨b4, off4 + kk * 2, none⟩ = some (.int .i64 hs) := z0
                replace z1 : wD.cell? ⟨b4, off4 + kk * 2 + 1, none⟩ = some (.slice ha' hb.length hc') := z1
                obtain ⟨_, _, ee3, hbt1⟩ := own_sl hb1
                cases ee3
                obtain ⟨_, _, ee4, hbt2⟩ := own_sl hb2
                cases ee4
                have hq1 := (fun n => Bt.str ((Sl.below hbt1 bD).drewN n))
                have hq2 := (fun n => Bt.str ((Sl.below hbt2 bD).drewN n))
                clear hbt1 hbt2
                have i2 : (0 : Int) ≤ (kk : Int) := by omega
                have i3 : (kk : Int) < (xH.length : Int) := by omega
                have i4 : ((⟨hb.toArray⟩ : ByteArray).toList == (⟨hb.toArray⟩ : ByteArray).toList) = true := by simp
                clear hc3 hc4 hs1 hs2 hb1 hb2
                go_upto_region 18 with (fail)
                go_quiet (fail)
                go_wp2_with fail
                go_roundg (xH.length - (kk + 1))
                case measure => omega
                case rel => exact ⟨kk + 1, _, rfl, by omega, by go_num, rfl⟩
              · obtain rfl : kk = xH.length := by omega
                go_wp2_with fail
                go_roundg (D.length - (k + 1))
                case measure => omega
                case rel => exact ⟨k + 1, rfl, by omega, by go_num, hb.trans ((below_drewN hbD j).mono hb.size)⟩
        · obtain rfl : k = D.length := by omega
          go_wp2_with fail
          go_ret
          exact ⟨rfl, bZ⟩
end Go.Proofs.Ythhcdfjijagalaa
namespace Go.Proofs.Ythhcdfjijagalaa.Sto
set_option linter.unusedVariables false
end Go.Proofs.Ythhcdfjijagalaa.Sto
namespace Go.Proofs.Ythhcdfjijagalaa
open Go.RowKit Go.Maps
set_option linter.unusedSimpArgs false
set_option maxRecDepth 100000
theorem own_off {V W : World} {base B : Nat} {e t : TypeId} {sz n : Nat} {v : Value} {xs : List Value} {cs : Array Value} (h : V.ownsRow base e sz v n xs) (hO : Only V W [B]) (hB : V.heap[B]? = some (.cells cs t (0, 0))) (hne : e ≠ t) : W.ownsRow base e sz v n xs :=
  hO.own h (fun x hx => by obtain rfl := List.mem_singleton.1 hx; exact own_blk_ne h hB hne)
theorem StM.off {V W : World} {base B : Nat} {m : Mst} {cs : Array Value} (h : StM V base m) (hO : Only V W [B]) (hB : V.heap[B]? = some (.cells cs 44 (0, 0))) : StM W base m :=
  ⟨own_off h.dks hO hB (by decide), fun x hx => own_off (h.held x hx) hO hB (by decide), fun x hx y hy => own_off (h.bytes x hx y hy) hO hB (by decide), own_off h.tail hO hB (by decide), fun r hr => ⟨own_off (h.evs r hr).1 hO hB (by decide), (h.evs r hr).2⟩, own_off h.seen hO hB (by decide), own_off h.accs hO hB (by decide), h.aok⟩
theorem Ams.off {V W : World} {base B : Nat} {v : Value} {L : List Am} {cs : Array Value} (h : Ams V base v L) (hO : Only V W [B]) (hB : V.heap[B]? = some (.cells cs 44 (0, 0))) : Ams W base v L :=
  ⟨own_off h.own hO hB (by decide), fun a ha => ⟨own_off (h.evs a ha).1 hO hB (by decide), (h.evs a ha).2⟩, fun a ha => ⟨own_off (h.accs a ha).1 hO hB (by decide), (h.accs a ha).2⟩⟩
/-- Play's store lies in a box -/
def BoxRes (P : Sto.St × List Sto.An × Int) (w1 W : World) (s5 s6 s7 : Value) : Prop :=
  ∃ (m : Mst) (av : Option Addr) (ac : Nat) (L : List Am) (er : Int) (B base : Nat) (va : Option Addr) (vc : Nat) (ta : Option Addr) (tc : Nat) (sa : Option Addr) (sc : Nat) (aa : Option Addr) (ac2 : Nat),
    s5 = .pointer (some ⟨B, 0, none⟩) ∧ s6 = .slice av L.length ac ∧ s7 = .int .i64 er ∧
    stVal m = .agg #[.int .i64 m.d, .int .i64 m.s, .int .i64 m.b, .slice va m.D.length vc, .int .i64 (m.g : Int), .slice ta m.T.length tc, .slice sa m.seen.length sc, .int .i64 m.u, .slice aa m.A.length ac2] ∧
    W.heap[B]? = some (.cells #[.int .i64 m.d, .int .i64 m.s, .int .i64 m.b, .slice va m.D.length vc, .int .i64 (m.g : Int), .slice ta m.T.length tc, .slice sa m.seen.length sc, .int .i64 m.u, .slice aa m.A.length ac2] 44 (0, 0)) ∧
    StM W base m ∧ Ams W base (.slice av L.length ac) L ∧ P = (m.st, L.map Am.an, er) ∧ Below w1.heap.size w1 W
section
variable {P : Sto.St × List Sto.An × Int} {w1 V : World} {m : Mst} {av : Option Addr} {ac : Nat} {L : List Am} {er : Int} {B base : Nat} {va : Option Addr} {vc : Nat} {ta : Option Addr} {tc : Nat} {sa : Option Addr} {sc : Nat} {aa : Option Addr} {ac2 : Nat}
theorem BoxRes.new (hv : stVal m = .agg #[.int .i64 m.d, .int .i64 m.s, .int .i64 m.b, .slice va m.D.length vc, .int .i64 (m.g : Int), .slice ta m.T.length tc, .slice sa m.seen.length sc, .int .i64 m.u, .slice aa m.A.length ac2])
    (hM : StM V base m) (hA : Ams V base (.slice av L.length ac) L) (hP : P = (m.st, L.map Am.an, er)) (hb : Below w1.heap.size w1 V) :
    BoxRes P w1 (V.alloc (.cells #[.int .i64 m.d, .int .i64 m.s, .int .i64 m.b, .slice va m.D.length vc, .int .i64 (m.g : Int), .slice ta m.T.length tc, .slice sa m.seen.length sc, .int .i64 m.u, .slice aa m.A.length ac2] 44)) (.pointer (some ⟨V.heap.size, 0, none⟩)) (.slice av L.length ac) (.int .i64 er) := by
  have hB := (Below.refl V.heap.size V).alloc (Nat.le_refl _) (.cells #[.int .i64 m.d, .int .i64 m.s, .int .i64 m.b, .slice va m.D.length vc, .int .i64 (m.g : Int), .slice ta m.T.length tc, .slice sa m.seen.length sc, .int .i64 m.u, .slice aa m.A.length ac2] 44)
  exact ⟨m, av, ac, L, er, V.heap.size, base, va, vc, ta, tc, sa, sc, aa, ac2, rfl, rfl, rfl, hv, blk_new _ _, hM.below hB, ⟨own_below hA.own hB, fun a ha => ⟨own_below (hA.evs a ha).1 hB, (hA.evs a ha).2⟩, fun a ha => ⟨own_below (hA.accs a ha).1 hB, (hA.accs a ha).2⟩⟩, hP, bnext hb hB⟩
theorem BoxRes.old {x0 x1 x2 x3 x4 x5 x6 x7 x8 : Value} (hq : V.heap[B]? = some (.cells #[x0, x1, x2, x3, x4, x5, x6, x7, x8] 44 (0, 0))) (hle : w1.heap.size ≤ B)
    (hv : stVal m = .agg #[.int .i64 m.d, .int .i64 m.s, .int .i64 m.b, .slice va m.D.length vc, .int .i64 (m.g : Int), .slice ta m.T.length tc, .slice sa m.seen.length sc, .int .i64 m.u, .slice aa m.A.length ac2])
    (hM : StM V base m) (hA : Ams V base (.slice av L.length ac) L) (hP : P = (m.st, L.map Am.an, er)) (hb : Below w1.heap.size w1 V) :
    BoxRes P w1 (((((((((V.setCell ⟨B, 0, none⟩ (.int .i64 m.d)).setCell ⟨B, 1, none⟩ (.int .i64 m.s)).setCell ⟨B, 2, none⟩ (.int .i64 m.b)).setCell ⟨B, 3, none⟩ (.slice va m.D.length vc)).setCell ⟨B, 4, none⟩ (.int .i64 (m.g : Int))).setCell ⟨B, 5, none⟩ (.slice ta m.T.length tc)).setCell ⟨B, 6, none⟩ (.slice sa m.seen.length sc)).setCell ⟨B, 7, none⟩ (.int .i64 m.u)).setCell ⟨B, 8, none⟩ (.slice aa m.A.length ac2))
      (.pointer (some ⟨B, 0, none⟩)) (.slice av L.length ac) (.int .i64 er) := by
  obtain ⟨W, hW, hWB, hbW, hO⟩ := set9_facts hb hle hq (.int .i64 m.d) (.int .i64 m.s) (.int .i64 m.b) (.slice va m.D.length vc) (.int .i64 (m.g : Int)) (.slice ta m.T.length tc) (.slice sa m.seen.length sc) (.int .i64 m.u) (.slice aa m.A.length ac2)
  rw [hW]
  exact ⟨m, av, ac, L, er, B, base, va, vc, ta, tc, sa, sc, aa, ac2, rfl, rfl, rfl, hv, hWB, hM.off hO hq, hA.off hO hq, hP, hbW⟩
end
end Go.Proofs.Ythhcdfjijagalaa
