/- Joined, and what is not used struck: SpI. -/
import Derived.Test.YthhcdfjijagalaaM39
namespace Go.Proofs.Ythhcdfjijagalaa
open Go.RowKit Go.Maps
set_option linter.unusedVariables false
set_option linter.unusedSimpArgs false
set_option maxRecDepth 100000
theorem put_ten {s : Sto.St} {d : Sto.Do} (h : (Sto.put s d).2.err = 0) : d.b.evs.length ≤ 10 := by
  have hw : (Evt.wrongBa d.b).1 = 0 := by
    refine Classical.byContradiction fun hw => ?_
    unfold Sto.put at h
    rw [if_pos hw] at h
    exact hw h
  exact (Evt.wrongBa_zero hw).2.2.2.1
theorem run_ten (s : Sto.St) (l : List Sto.Do) : ∀ (i : Nat) (d : Sto.Do) (x : Sto.An), l[i]? = some d → (Sto.run s l).2[i]? = some x → d.kind = 1 → x.err = 0 → d.b.evs.length ≤ 10 := by
  intro i d x h1 h2 h3 h4
  obtain ⟨hi, rfl⟩ := List.getElem?_eq_some_iff.1 h1
  rw [Sto.run_at s l i hi] at h2
  injection h2 with h2
  subst h2
  rw [Sto.step_put h3] at h4
  exact put_ten h4
set_option maxHeartbeats 8000000 in
theorem StoreTruth_walk (sd ss sb : Int) (a : Option Addr) (n cap : Nat) (l : List Sto.Do) (w : World) (hD : Dos w a n cap l) (hF : ∀ d ∈ l, Fits d) : Calls Try.prog 5 #[.agg #[.int .i64 sd, .int .i64 ss, .int .i64 sb], .slice a n cap] w (Grew (.bool true) w) := by
  have HD := hid hD
  have HF := hid hF
  have HN := hid hD.cnt
  have hle := hD.le
  have hmax := hD.max
  unfold maxLen at hmax
  clear hD hF
  have B0 := blk_new w (.cells #[.int .i64 sd, .int .i64 ss, .int .i64 sb] 37)
  have bS := (Below.refl w.heap.size w).alloc (Nat.le_refl _) (.cells #[.int .i64 sd, .int .i64 ss, .int .i64 sb] 37)
  go_enter Try.func5, Try.ntmps5
  go_wp2_with fail
  go_at_call 21; refine (alive8_call _).mono ?_; rintro e w1 ⟨rfl, b1⟩
  have v1 := blk_below B0 b1
  have r0 : w1.cell? ⟨w.heap.size, 0, none⟩ = some (.int .i64 sd) := blk_cell v1
  have r1 : w1.cell? ⟨w.heap.size, 1, none⟩ = some (.int .i64 ss) := blk_cell v1
  have r2 : w1.cell? ⟨w.heap.size, 2, none⟩ = some (.int .i64 sb) := blk_cell v1
  have bA := hid (bnext bS b1)
  have DP := hid (stPlay_call sd ss sb a n cap l w1 (HD.out.below bA.out))
  clear b1 bS B0 v1
  go_wp2_with fail
  go_at_call 19; refine DP.out.mono ?_; rintro e w2 ⟨m, av, ac, L, er, rfl, hM, hA, hP, b2⟩
  obtain ⟨va, vc, ta, tc, sa, sc, aa, ac2, hv, -⟩ := hM.val
  rw [hv]
  replace hP := hid hP
  obtain ⟨-, hAm⟩ := hA.amv
  have HA := hid hAm
  have bB := hid (bnext bA.out b2)
  have hs2 := bB.out.size
  clear hM hA hAm hv DP b2 r0 r1 r2
  by_cases he : er = 0
  · subst he
    obtain ⟨hw, h80, hst, hLm⟩ := Sto.play_ok hP.out
    rw [HN.out] at h80
    have HT := hid (fun ho : Sto.Once l => Sto.truth hw ho)
    have H10 := hid (run_ten (Sto.start sd ss sb) l)
    rw [← hLm] at HT H10
    have hLl : L.length = n := by have := congrArg List.length hLm; rw [List.length_map, Sto.run_len, HN.out] at this; exact this
    have DO := hid (fun W (hW : Below w.heap.size w W) => once8_call a n cap l W (HD.out.below hW) (by omega) HF.out)
    have HLL := hid hLl
    rw [hLl] at HA
    rw [hLl]
    clear hw hst hLm hLl hP
    have bC := hid (bB.out.alloc hs2 (.cells #[.int .i64 m.d, .int .i64 m.s, .int .i64 m.b, .slice va m.D.length vc, .int .i64 (m.g : Int), .slice ta m.T.length tc, .slice sa m.seen.length sc, .int .i64 m.u, .slice aa m.A.length ac2] 44))
    have HA2 := hid (HA.out.below ((Below.refl _ _).alloc (Nat.le_refl _) (.cells #[.int .i64 m.d, .int .i64 m.s, .int .i64 m.b, .slice va m.D.length vc, .int .i64 (m.g : Int), .slice ta m.T.length tc, .slice sa m.seen.length sc, .int .i64 m.u, .slice aa m.A.length ac2] 44)))
    go_wp2_with fail
    go_at_call 22; refine (DO.out _ bC.out).mono ?_; rintro e w3 ⟨r, rfl, hr, b3⟩
    have HA3 := hid (HA2.out.below b3)
    have bE := hid (bnext bC.out b3)
    clear DO b3
    cases r with
    | false =>
      go_wp2_with fail
      go_ret
      exact ⟨rfl, bE.out⟩
    | true =>
      have HT2 := hid (HT.out (hr.1 rfl))
      clear hr HT
      go_wp2_with fail
      go_loopg [35] n (fun g s35 wr => ∃ k : Nat, g = n - k ∧ k ≤ n ∧ s35 = .int .i64 (k : Int) ∧ Below w3.heap.size w3 wr)
      case atStart => exact ⟨0, rfl, by omega, rfl, Below.refl _ _⟩
      case round =>
        obtain ⟨k, rfl, hk, rfl, hb⟩ := hrel
        obtain ⟨wo, rfl⟩ : ∃ wo : World, wo = wr := ⟨_, rfl⟩
        have bF := bnext bE.out hb
        have hsF := bF.size
        by_cases hlt : k < n
        · have hkl : k < l.length := by rw [HN.out]; exact hlt
          have hkL : k < L.length := by rw [HLL.out]; exact hlt
          obtain ⟨db, off, rfl, hdo⟩ := HD.out.addr (by omega)
          obtain ⟨ab, aoff, rfl⟩ := HA.out.free (by omega)
          have hd := (hdo k hkl).below bF
          have c0 := hd.kind
          have c1 := hd.n
          have c2 := hd.seg
          have c3 := hd.t
          have c4 := hd.y
          have c5 := hd.c
          obtain ⟨ea, en, ec, c6, hEs⟩ := hd.evs
          have c7 := hd.stream
          have c8 := hd.ver
          have hAo := HA3.out.below hb
          obtain ⟨z0, z1, z2, z3, z4⟩ := hAo.at k hkL
          have hxe := hid (hAo.evs L[k] (List.getElem_mem _))
          have hxa := hid (hAo.accs L[k] (List.getElem_mem _))
          have hTk := hid (HT2.out k hkl (x := L[k].an) (by rw [List.getElem?_map, List.getElem?_eq_getElem hkL]; rfl))
          have hso := hid hd.ok
          have i0 : (0 : Int) ≤ (k : Int) := by omega
          have i1 : (k : Int) < (n : Int) := by omega
          have DT := hid (fun W (hW : Below wo.heap.size wo W) => told8_call (some ⟨db, off, none⟩) n cap l (some ⟨ab, aoff, none⟩) n ac L k W (HD.out.below (bnext bF hW)) (hAo.below hW) (by omega) (by omega) (by omega) HF.out H10.out)
          have hRl := hid (Sto.toldTo_len l (L.map Am.an) H10.out k)
          clear hdo hd
          generalize l[k] = d at *
          generalize L[k] = x at *
          generalize (Sto.toldTo l (L.map Am.an) k).2 = R at *
          go_upto_region 9 with (fail)
          have q := blk_new wo (.cells #[.int .i64 d.kind, .int .i64 d.n, .int .i64 d.seg, .int .i64 d.t, .int .u8 (d.y.toNat : Int), .int .i64 d.b.c, .slice ea en ec, .string d.stream, .int .i64 d.ver] 29)
          obtain ⟨V, hV⟩ : ∃ V, V = wo.alloc (.cells #[.int .i64 d.kind, .int .i64 d.n, .int .i64 d.seg, .int .i64 d.t, .int .u8 (d.y.toNat : Int), .int .i64 d.b.c, .slice ea en ec, .string d.stream, .int .i64 d.ver] 29) := ⟨_, rfl⟩
          rw [← hV] at q ⊢
          have hVs : V.heap.size = wo.heap.size + 1 := by rw [hV]; simp
          have hbV : Below wo.heap.size wo V := by rw [hV]; exact (Below.refl _ _).alloc (Nat.le_refl _) _
          replace hV := hid hV
          clear c0 c1 c2 c3 c4 c5 c6 c7 c8
          have c0 : V.cell? ⟨wo.heap.size, 0, none⟩ = some (.int .i64 d.kind) := blk_cell q
          have c1 : V.cell? ⟨wo.heap.size, 1, none⟩ = some (.int .i64 d.n) := blk_cell q
          have c2 : V.cell? ⟨wo.heap.size, 2, none⟩ = some (.int .i64 d.seg) := blk_cell q
          have c3 : V.cell? ⟨wo.heap.size, 3, none⟩ = some (.int .i64 d.t) := blk_cell q
          have c4 : V.cell? ⟨wo.heap.size, 4, none⟩ = some (.int .u8 (d.y.toNat : Int)) := blk_cell q
          have c5 : V.cell? ⟨wo.heap.size, 5, none⟩ = some (.int .i64 d.b.c) := blk_cell q
          have c6 : V.cell? ⟨wo.heap.size, 6, none⟩ = some (.slice ea en ec) := blk_cell q
          have c7 : V.cell? ⟨wo.heap.size, 7, none⟩ = some (.string d.stream) := blk_cell q
          have c8 : V.cell? ⟨wo.heap.size, 8, none⟩ = some (.int .i64 d.ver) := blk_cell q
          have y0 : V.cell? ⟨ab, aoff + k * 5, none⟩ = some (.int .i64 x.err) := (hbV.cell (p := ⟨ab, _, none⟩) (World.block_lt_of_cell? _ _ z0)).trans z0
          have y1 : V.cell? ⟨ab, aoff + k * 5 + 1, none⟩ = some (.int .i64 x.n) := (hbV.cell (p := ⟨ab, _, none⟩) (World.block_lt_of_cell? _ _ z1)).trans z1
          have y2 : V.cell? ⟨ab, aoff + k * 5 + 2, none⟩ = some (.slice x.ea x.evs.length x.ec) := (hbV.cell (p := ⟨ab, _, none⟩) (World.block_lt_of_cell? _ _ z2)).trans z2
          have y3 : V.cell? ⟨ab, aoff + k * 5 + 3, none⟩ = some (.int .i64 x.u) := (hbV.cell (p := ⟨ab, _, none⟩) (World.block_lt_of_cell? _ _ z3)).trans z3
          have y4 : V.cell? ⟨ab, aoff + k * 5 + 4, none⟩ = some (.slice x.aa x.accs.length x.ac) := (hbV.cell (p := ⟨ab, _, none⟩) (World.block_lt_of_cell? _ _ z4)).trans z4
          clear z0 z1 z2 z3 z4
          by_cases h10 : x.err = 10
          · have t1 : (x.err != 10) = false := by rw [h10]; rfl
            replace h10 := hid h10
            go_quiet (fail)
            go_wp2_with fail
            go_roundg (n - (k + 1))
            case measure => omega
            case rel => exact ⟨k + 1, rfl, by omega, by go_num, hb.trans ((below_drewN hbV _).mono hb.size)⟩
          · have t1 : (x.err != 10) = true := bne_iff_ne.2 h10
            have hANS := hid (hTk.out h10)
            replace h10 := hid h10
            have hab : ab < V.heap.size := World.block_lt_of_cell? _ _ y0
            have hcb : wo.heap.size < V.heap.size := World.block_lt_of_cell? _ _ c0
            have CK := hid (show ∀ W, Below V.heap.size V W → W.cell? ⟨wo.heap.size, 0, none⟩ = some (.int .i64 d.kind) ∧ W.cell? ⟨wo.heap.size, 1, none⟩ = some (.int .i64 d.n) ∧ W.cell? ⟨wo.heap.size, 2, none⟩ = some (.int .i64 d.seg) ∧ W.cell? ⟨wo.heap.size, 3, none⟩ = some (.int .i64 d.t) ∧ W.cell? ⟨wo.heap.size, 4, none⟩ = some (.int .u8 (d.y.toNat : Int)) ∧ W.cell? ⟨wo.heap.size, 5, none⟩ = some (.int .i64 d.b.c) ∧ W.cell? ⟨wo.heap.size, 6, none⟩ = some (.slice ea en ec) ∧ W.cell? ⟨wo.heap.size, 7, none⟩ = some (.string d.stream) ∧ W.cell? ⟨wo.heap.size, 8, none⟩ = some (.int .i64 d.ver) ∧ W.cell? ⟨ab, aoff + k * 5, none⟩ = some (.int .i64 x.err) ∧ W.cell? ⟨ab, aoff + k * 5 + 1, none⟩ = some (.int .i64 x.n) ∧ W.cell? ⟨ab, aoff + k * 5 + 2, none⟩ = some (.slice x.ea x.evs.length x.ec) ∧ W.cell? ⟨ab, aoff + k * 5 + 3, none⟩ = some (.int .i64 x.u) ∧ W.cell? ⟨ab, aoff + k * 5 + 4, none⟩ = some (.slice x.aa x.accs.length x.ac) from fun W hW => ⟨(hW.cell (p := ⟨wo.heap.size, _, none⟩) hcb).trans c0, (hW.cell (p := ⟨wo.heap.size, _, none⟩) hcb).trans c1, (hW.cell (p := ⟨wo.heap.size, _, none⟩) hcb).trans c2, (hW.cell (p := ⟨wo.heap.size, _, none⟩) hcb).trans c3, (hW.cell (p := ⟨wo.heap.size, _, none⟩) hcb).trans c4, (hW.cell (p := ⟨wo.heap.size, _, none⟩) hcb).trans c5, (hW.cell (p := ⟨wo.heap.size, _, none⟩) hcb).trans c6, (hW.cell (p := ⟨wo.heap.size, _, none⟩) hcb).trans c7, (hW.cell (p := ⟨wo.heap.size, _, none⟩) hcb).trans c8, (hW.cell (p := ⟨ab, _, none⟩) hab).trans y0, (hW.cell (p := ⟨ab, _, none⟩) hab).trans y1, (hW.cell (p := ⟨ab, _, none⟩) hab).trans y2, (hW.cell (p := ⟨ab, _, none⟩) hab).trans y3, (hW.cell (p := ⟨ab, _, none⟩) hab).trans y4⟩)
            have C1 := hid (show ∀ W, Below V.heap.size V W → Calls Try.prog 24 #[.slice (some ⟨db, off, none⟩) n cap, .slice (some ⟨ab, aoff, none⟩) n ac, .int .i64 (k : Int)] W (fun e w' => ∃ oa oc, e = .returned (.slice oa R.length oc) ∧ Es w' oa R.length oc R ∧ Below V.heap.size V w' ∧ w'.cell? ⟨wo.heap.size, 0, none⟩ = some (.int .i64 d.kind) ∧ w'.cell? ⟨wo.heap.size, 1, none⟩ = some (.int .i64 d.n) ∧ w'.cell? ⟨wo.heap.size, 2, none⟩ = some (.int .i64 d.seg) ∧ w'.cell? ⟨wo.heap.size, 3, none⟩ = some (.int .i64 d.t) ∧ w'.cell? ⟨wo.heap.size, 4, none⟩ = some (.int .u8 (d.y.toNat : Int)) ∧ w'.cell? ⟨wo.heap.size, 5, none⟩ = some (.int .i64 d.b.c) ∧ w'.cell? ⟨wo.heap.size, 6, none⟩ = some (.slice ea en ec) ∧ w'.cell? ⟨wo.heap.size, 7, none⟩ = some (.string d.stream) ∧ w'.cell? ⟨wo.heap.size, 8, none⟩ = some (.int .i64 d.ver) ∧ w'.cell? ⟨ab, aoff + k * 5, none⟩ = some (.int .i64 x.err) ∧ w'.cell? ⟨ab, aoff + k * 5 + 1, none⟩ = some (.int .i64 x.n) ∧ w'.cell? ⟨ab, aoff + k * 5 + 2, none⟩ = some (.slice x.ea x.evs.length x.ec) ∧ w'.cell? ⟨ab, aoff + k * 5 + 3, none⟩ = some (.int .i64 x.u) ∧ w'.cell? ⟨ab, aoff + k * 5 + 4, none⟩ = some (.slice x.aa x.accs.length x.ac)) from fun W hW =>
              (DT.out W (hbV.trans (hW.mono (by omega)))).mono fun e w' ⟨oa, oc, h1, h2, h3⟩ => ⟨oa, oc, h1, h2.es, bnext hW h3, CK.out _ (bnext hW h3)⟩)
            have C2 := hid (show ∀ W oa oc, Below V.heap.size V W → Es W oa R.length oc R → Calls Try.prog 23 #[.agg #[.int .i64 d.kind, .int .i64 d.n, .int .i64 d.seg, .int .i64 d.t, .int .u8 (d.y.toNat : Int), .int .i64 d.b.c, .slice ea en ec, .string d.stream, .int .i64 d.ver], .agg #[.int .i64 x.err, .int .i64 x.n, .slice x.ea x.evs.length x.ec, .int .i64 x.u, .slice x.aa x.accs.length x.ac], .slice oa R.length oc] W (fun e w' => e = .returned (.bool true) ∧ Below V.heap.size V w' ∧ w'.cell? ⟨wo.heap.size, 0, none⟩ = some (.int .i64 d.kind) ∧ w'.cell? ⟨wo.heap.size, 1, none⟩ = some (.int .i64 d.n) ∧ w'.cell? ⟨wo.heap.size, 2, none⟩ = some (.int .i64 d.seg) ∧ w'.cell? ⟨wo.heap.size, 3, none⟩ = some (.int .i64 d.t) ∧ w'.cell? ⟨wo.heap.size, 4, none⟩ = some (.int .u8 (d.y.toNat : Int)) ∧ w'.cell? ⟨wo.heap.size, 5, none⟩ = some (.int .i64 d.b.c) ∧ w'.cell? ⟨wo.heap.size, 6, none⟩ = some (.slice ea en ec) ∧ w'.cell? ⟨wo.heap.size, 7, none⟩ = some (.string d.stream) ∧ w'.cell? ⟨wo.heap.size, 8, none⟩ = some (.int .i64 d.ver) ∧ w'.cell? ⟨ab, aoff + k * 5, none⟩ = some (.int .i64 x.err) ∧ w'.cell? ⟨ab, aoff + k * 5 + 1, none⟩ = some (.int .i64 x.n) ∧ w'.cell? ⟨ab, aoff + k * 5 + 2, none⟩ = some (.slice x.ea x.evs.length x.ec) ∧ w'.cell? ⟨ab, aoff + k * 5 + 3, none⟩ = some (.int .i64 x.u) ∧ w'.cell? ⟨ab, aoff + k * 5 + 4, none⟩ = some (.slice x.aa x.accs.length x.ac)) from fun W oa oc hW hE =>
              (answers8_call d ea en ec x oa R.length oc R W (hxe.out.below (hbV.trans (hW.mono (by omega)))) (hxa.out.below (hbV.trans (hW.mono (by omega)))) hE (by have := hRl.out; omega) hso.out hANS.out).mono fun e w' ⟨h1, h2⟩ => ⟨h1, bnext hW h2, CK.out _ (bnext hW h2)⟩)
            go_cut [58] (fun s58 wc => s58 = .bool false ∧ Below V.heap.size V wc)
            case first =>
              go_region_held3 (fun w' => w'.cell? ⟨wo.heap.size, 0, none⟩ = some (.int .i64 d.kind) ∧ w'.cell? ⟨wo.heap.size, 1, none⟩ = some (.int .i64 d.n) ∧ w'.cell? ⟨wo.heap.size, 2, none⟩ = some (.int .i64 d.seg) ∧ w'.cell? ⟨wo.heap.size, 3, none⟩ = some (.int .i64 d.t) ∧ w'.cell? ⟨wo.heap.size, 4, none⟩ = some (.int .u8 (d.y.toNat : Int)) ∧ w'.cell? ⟨wo.heap.size, 5, none⟩ = some (.int .i64 d.b.c) ∧ w'.cell? ⟨wo.heap.size, 6, none⟩ = some (.slice ea en ec) ∧ w'.cell? ⟨wo.heap.size, 7, none⟩ = some (.string d.stream) ∧ w'.cell? ⟨wo.heap.size, 8, none⟩ = some (.int .i64 d.ver) ∧ w'.cell? ⟨ab, aoff + k * 5, none⟩ = some (.int .i64 x.err) ∧ w'.cell? ⟨ab, aoff + k * 5 + 1, none⟩ = some (.int .i64 x.n) ∧ w'.cell? ⟨ab, aoff + k * 5 + 2, none⟩ = some (.slice x.ea x.evs.length x.ec) ∧ w'.cell? ⟨ab, aoff + k * 5 + 3, none⟩ = some (.int .i64 x.u) ∧ w'.cell? ⟨ab, aoff + k * 5 + 4, none⟩ = some (.slice x.aa x.accs.length x.ac)) (first | exact ⟨c0, c1, c2, c3, c4, c5, c6, c7, c8, y0, y1, y2, y3, y4⟩ | exact ⟨k0, k1, k2, k3, k4, k5, k6, k7, k8, k9, k10, k11, k12, k13⟩ | go_keep)
                (first
                  | (go_at_call 24; refine (C1.out _ ?_).mono ?_; (repeat (first | assumption | exact Below.refl _ _ | refine below_drewN ?_ _ | refine Below.drew ?_)); rintro e w4 ⟨oa, oc, rfl, hEo, kb, k0, k1, k2, k3, k4, k5, k6, k7, k8, k9, k10, k11, k12, k13⟩)
                  | (go_at_call 23; refine (C2.out _ oa oc ?_ ?_).mono ?_; (repeat (first | assumption | exact Below.refl _ _ | refine below_drewN ?_ _ | refine Below.drew ?_)); rintro e w5 ⟨rfl, kb, k0, k1, k2, k3, k4, k5, k6, k7, k8, k9, k10, k11, k12, k13⟩))
              all_goals (go_wp2_with fail; go_meet)
              all_goals exact ⟨rfl, kb⟩
            case rest =>
              obtain ⟨rfl, kb⟩ := hcut
              go_wp2_with fail
              go_roundg (n - (k + 1))
              case measure => omega
              case rel => exact ⟨k + 1, rfl, by omega, by go_num, hb.trans ((hbV.trans (kb.mono (by omega))).mono hb.size)⟩
        · obtain rfl : k = n := by omega
          go_wp2_with fail
          go_ret
          exact ⟨rfl, bF⟩
  · have hL0 : L = [] := by
      have := (Sto.play_bad hP.out he).2
      simpa using this
    subst hL0
    have t0 : (er != 0) = true := bne_iff_ne.2 he
    have t1 : (er == 0) = false := beq_eq_false_iff_ne.2 he
    replace he := hid he
    go_wp2_with fail
    go_ret
    exact ⟨rfl, bB.out.alloc hs2 _⟩
end Go.Proofs.Ythhcdfjijagalaa
