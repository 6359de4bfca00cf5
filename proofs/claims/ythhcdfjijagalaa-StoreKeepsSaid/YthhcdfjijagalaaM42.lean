/- Joined, and what is not used struck: SpV. -/
import Derived.Test.YthhcdfjijagalaaM40
import Derived.Test.YthhcdfjijagalaaM41
namespace Go.Proofs.Ythhcdfjijagalaa
open Go.RowKit Go.Maps
set_option linter.unusedVariables false
set_option linter.unusedSimpArgs false
set_option maxRecDepth 100000
/-- how far the law of keeping has come -/
def KR (w3 wr : World) (T : Nat → List Int × (Int → Bool)) (ss : Int) (k hb : Nat) : Prop :=
  ∃ (n1 n2 : Nat) (D1 D2 : DataW Unit), HU wr hb n1 (T k).1 D1 ∧ Hg 3 mkI wr (w3.heap.size + 1) n2 (T k).2 D2 ∧ n1 ≤ k ∧ n2 ≤ k ∧ hb ≠ w3.heap.size + 1 ∧ w3.heap.size ≤ hb ∧ Below w3.heap.size w3 wr ∧ ∀ j, j ≤ k → ((T j).1.length : Int) ≤ ss
theorem KR.start {w3 : World} {T : Nat → List Int × (Int → Bool)} {ss : Int} (h : T 0 = ([], fun _ => false)) (h0 : 0 ≤ ss) : KR w3 ((w3.alloc (.map #[] 0)).alloc (.map #[] 0)) T ss 0 w3.heap.size := by
  refine ⟨0, 0, .map [], .map [], ?_, ?_, Nat.le_refl _, Nat.le_refl _, by omega, Nat.le_refl _, ((Below.refl _ _).alloc (Nat.le_refl _) _).alloc (by simp) _, fun j hj => ?_⟩
  · rw [h]; exact (HU.start w3).alloc _
  · rw [h]
    have := Hg.start (kt := 3) (mk := mkI) (w3.alloc (.map #[] 0))
    rwa [World.size_alloc] at this
  · obtain rfl : j = 0 := by omega
    rw [h]; exact h0
theorem KR.step {w3 w5 : World} {T : Nat → List Int × (Int → Bool)} {ss : Int} {k hb n1 n2 : Nat} {U : List Int} {G : Int → Bool} {D1 D2 : DataW Unit} (hT : T (k + 1) = (U, G)) (hU : HU w5 hb n1 U D1) (hG : Hg 3 mkI w5 (w3.heap.size + 1) n2 G D2) (h1 : n1 ≤ k + 1) (h2 : n2 ≤ k + 1)
    (hne : hb ≠ w3.heap.size + 1) (hhb : w3.heap.size ≤ hb) (hB : Below w3.heap.size w3 w5) (hf : ∀ j, j ≤ k → ((T j).1.length : Int) ≤ ss) (hq : (U.length : Int) ≤ ss) : KR w3 w5 T ss (k + 1) hb :=
  ⟨n1, n2, D1, D2, by rw [hT]; exact hU, by rw [hT]; exact hG, h1, h2, hne, hhb, hB, fun j hj => by
    by_cases e : j = k + 1
    · subst e; rw [hT]; exact hq
    · exact hf j (by omega)⟩
set_option maxHeartbeats 8000000 in
theorem StoreKeeps_walk (sd ss sb : Int) (a : Option Addr) (n cap : Nat) (l : List Sto.Do) (w : World) (hD : Dos w a n cap l) (hF : ∀ d ∈ l, Fits d) : Calls Try.prog 6 #[.agg #[.int .i64 sd, .int .i64 ss, .int .i64 sb], .slice a n cap] w (Grew (.bool true) w) := by
  have HD := hid hD
  have HF := hid hF
  have HN := hid hD.cnt
  have hle := hD.le
  have hmax := hD.max
  unfold maxLen at hmax
  clear hD hF
  have B0 := blk_new w (.cells #[.int .i64 sd, .int .i64 ss, .int .i64 sb] 37)
  have bS := (Below.refl w.heap.size w).alloc (Nat.le_refl _) (.cells #[.int .i64 sd, .int .i64 ss, .int .i64 sb] 37)
  go_enter Try.func6, Try.ntmps6
  go_wp2_with fail
  go_at_call 21; refine (alive8_call _).mono ?_; rintro e w1 ⟨rfl, b1⟩
  have v1 := blk_below B0 b1
  have r0 : w1.cell? ⟨w.heap.size, 0, none⟩ = some (.int .i64 sd) := blk_cell v1
  have r1 : w1.cell? ⟨w.heap.size, 1, none⟩ = some (.int .i64 ss) := blk_cell v1
  have r2 : w1.cell? ⟨w.heap.size, 2, none⟩ = some (.int .i64 sb) := blk_cell v1
  have bA := hid (bnext bS b1)
  have SU1 := hid v1
  have DP := hid (stPlay_call sd ss sb a n cap l w1 (HD.out.below bA.out))
  clear b1 bS B0 v1
  go_wp2_with fail
  go_at_call 19; refine DP.out.mono ?_; rintro e w2 ⟨m, av, ac, L, er, rfl, hM, hA, hP, b2⟩
  have SU2 := hid (blk_below SU1.out b2)
  obtain ⟨va, vc, ta, tc, sa, sc, aa, ac2, hv, hv1, hv2, hv3, hv4⟩ := hM.val
  have HVV := hid hv
  rw [hv]
  replace hv4 := hid hv4
  replace hP := hid hP
  obtain ⟨-, hAm⟩ := hA.amv
  have HA := hid hAm
  have HMM := hid hM
  have bB := hid (bnext bA.out b2)
  have hs2 := bB.out.size
  clear hM hA hAm hv hv1 hv2 hv3 DP b2 r0 r1 r2
  by_cases he : er = 0
  · subst he
    obtain ⟨hw, h80, hst, hLm⟩ := Sto.play_ok hP.out
    rw [HN.out] at h80
    have HW := hid hw
    have HST := hid hst
    have HLM := hid hLm
    have H10 := hid (run_ten (Sto.start sd ss sb) l)
    rw [← hLm] at H10
    have hLl : L.length = n := by have := congrArg List.length hLm; rw [List.length_map, Sto.run_len, HN.out] at this; exact this
    have HLL := hid hLl
    rw [hLl] at HA
    rw [hLl]
    clear hw hst hLm hLl hP
    have bC := hid (bB.out.alloc hs2 (.cells #[.int .i64 m.d, .int .i64 m.s, .int .i64 m.b, .slice va m.D.length vc, .int .i64 (m.g : Int), .slice ta m.T.length tc, .slice sa m.seen.length sc, .int .i64 m.u, .slice aa m.A.length ac2] 44))
    have HA2 := hid (HA.out.below ((Below.refl _ _).alloc (Nat.le_refl _) (.cells #[.int .i64 m.d, .int .i64 m.s, .int .i64 m.b, .slice va m.D.length vc, .int .i64 (m.g : Int), .slice ta m.T.length tc, .slice sa m.seen.length sc, .int .i64 m.u, .slice aa m.A.length ac2] 44)))
    have HK := hid (fun (ho : Sto.Once l) k hk hf x hx => @Sto.keeps sd ss sb HW.out l ho k hk hf x hx)
    rw [← HLM.out] at HK
    have DO := hid (fun W (hW : Below w.heap.size w W) => once8_call a n cap l W (HD.out.below hW) (by omega) HF.out)
    have HKI := hid (Sto.keepTo_in l (L.map Am.an) HF.out)
    have hsp : 0 ≤ ss := (Sto.Ok.start HW.out).sp.1
    have HSUC := hid (fun k d x (h1 : l[k]? = some d) (h2 : (L.map Am.an)[k]? = some x) => @Sto.keepTo_succ l (L.map Am.an) k d x h1 h2)
    have HT0 := hid (show Sto.keepTo l (L.map Am.an) 0 = ([], fun _ => false) from rfl)
    go_wp2_with fail
    go_at_call 22; refine (DO.out _ bC.out).mono ?_; rintro e w3 ⟨r, rfl, hr, b3⟩
    have HA3 := hid (HA2.out.below b3)
    have SU3 := hid (blk_below (blk_old SU2.out) b3)
    have bE := hid (bnext bC.out b3)
    cases r with
    | false =>
      go_wp2_with fail
      go_ret
      exact ⟨rfl, bE.out⟩
    | true =>
      have HK2 := hid (fun k hk hf x hx => HK.out (hr.1 rfl) k hk hf x hx)
      clear hr HK DO b3
      generalize Sto.keepTo l (L.map Am.an) = T at *
      have K0 := hid (KR.start (w3 := w3) HT0.out hsp)
      have hmm := @run_makeMap Try.prog
      have hwsz := bE.out.size
      have hwlt : w.heap.size < w3.heap.size := blk_lt SU3.out
      go_wp2_with fail
      go_loopg [8, 34] n (fun g s8 s34 wr => ∃ k hb : Nat, g = n - k ∧ k ≤ n ∧ s34 = .int .i64 (k : Int) ∧ s8 = .map (some hb) ∧ KR w3 wr T ss k hb)
      case atStart => exact ⟨0, w3.heap.size, rfl, by omega, rfl, rfl, K0.out⟩
      case round =>
        clear K0 hmm
        obtain ⟨k, hb, rfl, hk, rfl, rfl, n1, n2, D1, D2, hHU, hHG, hn1, hn2, hne, hhb, hB, hf⟩ := hrel
        obtain ⟨wo, rfl⟩ : ∃ wo : World, wo = wr := ⟨_, rfl⟩
        have bF := bnext bE.out hB
        have hsF := bF.size
        have hsB := hB.size
        by_cases hlt : k < n
        · have hkl : k < l.length := by rw [HN.out]; exact hlt
          have hkL : k < L.length := by rw [HLL.out]; exact hlt
          obtain ⟨db, off, rfl, hdo⟩ := HD.out.addr (by omega)
          obtain ⟨ab, aoff, rfl⟩ := HA.out.free (by omega)
          have hd := (hdo k hkl).below bF
          have c0 := hd.kind
          have c1 := hd.n
          have c2 := hd.seg
          have c3 := hd.t
          have c4 := hd.y
          have c5 := hd.c
          obtain ⟨ea, en, ec, c6, hEs⟩ := hd.evs
          have c7 := hd.stream
          have c8 := hd.ver
          have hAo := HA3.out.below hB
          obtain ⟨z0, z1, z2, z3, z4⟩ := hAo.at k hkL
          have hxe := hid (hAo.evs L[k] (List.getElem_mem _))
          have hxa := hid (hAo.accs L[k] (List.getElem_mem _))
          have hLk : (L.map Am.an)[k]? = some L[k].an := by rw [List.getElem?_map, List.getElem?_eq_getElem hkL]; rfl
          have HTk := hid (HK2.out k hkl hf L[k].an hLk)
          have HSk := hid (HSUC.out k l[k] L[k].an (List.getElem?_eq_getElem hkl) hLk)
          have hso := hid hd.ok
          have HKY := hid (show keyOf Try.prog 3 (.int .i64 l[k].n) = some (.int .i64 l[k].n) from key_int (HF.out l[k] (List.getElem_mem _)).n)
          have i0 : (0 : Int) ≤ (k : Int) := by omega
          have i1 : (k : Int) < (n : Int) := by omega
          have DT := hid (fun W (hW : Below wo.heap.size wo W) => told8_call (some ⟨db, off, none⟩) n cap l (some ⟨ab, aoff, none⟩) n ac L k W (HD.out.below (bnext bF hW)) (hAo.below hW) (by omega) (by omega) (by omega) HF.out H10.out)
          have hRl := hid (Sto.toldTo_len l (L.map Am.an) H10.out k)
          have HFK := hid hf
          have HHU := hid hHU
          have HHG := hid hHG
          have HBB := hid hB
          have hkI := HKI.out k
          have hqs := hf k (Nat.le_refl _)
          clear hdo hd hLk hf hHU hHG hB hEs
          generalize l[k] = d at *
          generalize L[k] = x at *
          generalize (Sto.toldTo l (L.map Am.an) k).2 = R at *
          obtain ⟨U, G, hTk⟩ : ∃ U G, T k = (U, G) := ⟨_, _, rfl⟩
          rw [hTk] at HHU HHG HSk hkI hqs
          replace HHU := hid (show HU wo hb n1 U D1 from HHU.out)
          replace HHG := hid (show Hg 3 mkI wo (w3.heap.size + 1) n2 G D2 from HHG.out)
          have HUI := hid hkI.1
          have HND := hid hkI.2
          obtain ⟨q, hq⟩ : ∃ q, U.length = q := ⟨_, rfl⟩
          have hqs : (U.length : Int) ≤ ss := hqs
          rw [hq] at hqs
          have HQ := hid hq
          clear hq hkI
          replace hTk := hid hTk
          have hqs1 : ¬ ss < (q : Int) := by omega
          go_upto_region 10 with (fail)
          have qb := blk_new wo (.cells #[.int .i64 d.kind, .int .i64 d.n, .int .i64 d.seg, .int .i64 d.t, .int .u8 (d.y.toNat : Int), .int .i64 d.b.c, .slice ea en ec, .string d.stream, .int .i64 d.ver] 29)
          obtain ⟨V, hV⟩ : ∃ V, V = wo.alloc (.cells #[.int .i64 d.kind, .int .i64 d.n, .int .i64 d.seg, .int .i64 d.t, .int .u8 (d.y.toNat : Int), .int .i64 d.b.c, .slice ea en ec, .string d.stream, .int .i64 d.ver] 29) := ⟨_, rfl⟩
          rw [← hV] at qb ⊢
          have hVs : V.heap.size = wo.heap.size + 1 := by rw [hV]; simp
          have hbV : Below wo.heap.size wo V := by rw [hV]; exact (Below.refl _ _).alloc (Nat.le_refl _) _
          have BV := hid (HBB.out.trans (hbV.mono hsB))
          have HUV := hid (HHU.out.below hbV)
          have HGV := hid (HHG.out.below hbV)
          have SUV := hid (blk_below (blk_below SU3.out HBB.out) hbV)
          replace hV := hid hV
          have QB := hid qb
          clear c0 c1 c2 c3 c4 c5 c6 c7 c8
          have c0 : V.cell? ⟨wo.heap.size, 0, none⟩ = some (.int .i64 d.kind) := blk_cell qb
          have c1 : V.cell? ⟨wo.heap.size, 1, none⟩ = some (.int .i64 d.n) := blk_cell qb
          have c2 : V.cell? ⟨wo.heap.size, 2, none⟩ = some (.int .i64 d.seg) := blk_cell qb
          have c3 : V.cell? ⟨wo.heap.size, 3, none⟩ = some (.int .i64 d.t) := blk_cell qb
          have c4 : V.cell? ⟨wo.heap.size, 4, none⟩ = some (.int .u8 (d.y.toNat : Int)) := blk_cell qb
          have c5 : V.cell? ⟨wo.heap.size, 5, none⟩ = some (.int .i64 d.b.c) := blk_cell qb
          have c6 : V.cell? ⟨wo.heap.size, 6, none⟩ = some (.slice ea en ec) := blk_cell qb
          have c7 : V.cell? ⟨wo.heap.size, 7, none⟩ = some (.string d.stream) := blk_cell qb
          have c8 : V.cell? ⟨wo.heap.size, 8, none⟩ = some (.int .i64 d.ver) := blk_cell qb
          have y0 : V.cell? ⟨ab, aoff + k * 5, none⟩ = some (.int .i64 x.err) := (hbV.cell (p := ⟨ab, _, none⟩) (World.block_lt_of_cell? _ _ z0)).trans z0
          have y1 : V.cell? ⟨ab, aoff + k * 5 + 1, none⟩ = some (.int .i64 x.n) := (hbV.cell (p := ⟨ab, _, none⟩) (World.block_lt_of_cell? _ _ z1)).trans z1
          have y2 : V.cell? ⟨ab, aoff + k * 5 + 2, none⟩ = some (.slice x.ea x.evs.length x.ec) := (hbV.cell (p := ⟨ab, _, none⟩) (World.block_lt_of_cell? _ _ z2)).trans z2
          have y3 : V.cell? ⟨ab, aoff + k * 5 + 3, none⟩ = some (.int .i64 x.u) := (hbV.cell (p := ⟨ab, _, none⟩) (World.block_lt_of_cell? _ _ z3)).trans z3
          have y4 : V.cell? ⟨ab, aoff + k * 5 + 4, none⟩ = some (.slice x.aa x.accs.length x.ac) := (hbV.cell (p := ⟨ab, _, none⟩) (World.block_lt_of_cell? _ _ z4)).trans z4
          have u1 : V.cell? ⟨w.heap.size, 1, none⟩ = some (.int .i64 ss) := blk_cell SUV.out
          have hab : ab < V.heap.size := World.block_lt_of_cell? _ _ y0
          have hVb : wo.heap.size < V.heap.size := by omega
          have hVs0 : w.heap.size < V.heap.size := by omega
          have hVw3 : w3.heap.size ≤ V.heap.size := by omega
          have hhlt : hb < wo.heap.size := HHU.out.lt
          have hglt : w3.heap.size + 1 < wo.heap.size := HHG.out.own.lt
          replace hVs := hid hVs
          clear z0 z1 z2 z3 z4 qb HHU HHG
          by_cases h567 : d.kind = 5 ∨ d.kind = 6 ∨ d.kind = 7
          · by_cases he0 : x.err = 0
            · have t0 : (x.err == 0) = true := by rw [he0]; rfl
              replace he0 := hid he0
              have hlkV := HGV.out.look intK (mt := 58) Try.underlying58 HKY.out
              clear hlkV
              rcases h567 with hkd | hkd | hkd
              · have h567 : d.kind = 5 ∨ d.kind = 6 ∨ d.kind = 7 := .inl hkd
                have t5 : (d.kind == 5) = true := by rw [hkd]; rfl
                have t6 : (d.kind == 6) = false := by rw [hkd]; rfl
                have t7 : (d.kind == 7) = false := by rw [hkd]; rfl
                have HSN : T (k + 1) = ((if d.n ∈ U then U else U ++ [d.n]), fun v => if v = d.n then true else G v) := by
                  rw [HSk.out]; unfold Sto.keepN; rw [if_pos h567, if_pos (show x.an.err = 0 from he0.out)]; simp [hkd]
                replace HSN := hid HSN
                replace hkd := hid hkd
                replace h567 := hid h567
                obtain ⟨q9, hq9⟩ : ∃ q9, (if d.n ∈ U then U else U ++ [d.n]).length = q9 := ⟨_, rfl⟩
                have HQ9 := hid hq9
                clear hq9
                go_upto_region 18 with ((with_reducible show wpList _ _ _ (Oper.mk _ (Op.mapUpdate _ _ _ _) _ _ _ _ :: _) _ _); refine wpList_mapUpdate_own _ rfl _ _ _ 58 rfl 3 4 intK Try.underlying58 (plainElem (H := Unit) Try.prog 4) hb n1 D1 rfl HUV.out.hg.own (by unfold maxLen; omega) (.int .i64 d.n) (.bool true) _ rfl rfl HKY.out (.lit (.bool true)) [] (plainElem_bool Try.underlying4 _) ?_; intro w4 hown4 hg4; have hz4 := hg4.size; have HU4 := hid (HUV.out.put HKY.out hown4); have HG4 := hid (HGV.out.kept hg4 (fun e => hne (by injection e with e; exact e.symm))); have q4 := (hg4.block _ hVb (fun e => by injection e; omega)).trans QB.out; have e0 : w4.cell? ⟨wo.heap.size, 0, none⟩ = some (.int .i64 d.kind) := blk_cell q4; have e1 : w4.cell? ⟨wo.heap.size, 1, none⟩ = some (.int .i64 d.n) := blk_cell q4; have s4 := hid ((hg4.block _ hVs0 (fun e => by injection e; omega)).trans SUV.out); have hlk4 := HG4.out.look intK (mt := 58) Try.underlying58 HKY.out; unfold mkI at hlk4; have B4 := hid (BV.out.grown hg4 hVw3 (fun x hx => by cases hx; exact hhb)); clear q4 hown4; replace hg4 := hid hg4)
                go_upto_region 19 with ((with_reducible show wpList _ _ _ (Oper.mk _ (Op.mapUpdate _ _ _ _) _ _ _ _ :: _) _ _); refine wpList_mapUpdate_own _ rfl _ _ _ 58 rfl 3 4 intK Try.underlying58 (plainElem (H := Unit) Try.prog 4) (w3.heap.size + 1) n2 D2 rfl HG4.out.own (by unfold maxLen; omega) (.int .i64 d.n) (.bool true) _ rfl rfl HKY.out (.lit (.bool true)) [] (plainElem_bool Try.underlying4 _) ?_; intro w5 hown5 hg5; have HU5 := hid (HU4.out.kept hg5 (fun e => hne (by injection e))); have HG5 := hid (HG4.out.put intK mkI_inj HKY.out hown5); have s5 := hid ((hg5.block _ (by omega) (fun e => by injection e; omega)).trans s4.out); have f5 : w5.cell? ⟨w.heap.size, 1, none⟩ = some (.int .i64 ss) := blk_cell s5.out; have B5 := hid (B4.out.grown hg5 (by omega) (fun x hx => by cases hx; omega)); clear hown5; replace hg5 := hid hg5)
                clear e0 e1 hlk4
                by_cases hs9 : ss < (q9 : Int)
                · go_wp2_with (at_len; refine wpList_len_hu rfl _ rfl rfl HU5.out HQ9.out ?_)
                  go_ret
                  exact ⟨rfl, bnext bE.out B5.out⟩
                · go_wp2_with (at_len; refine wpList_len_hu rfl _ rfl rfl HU5.out HQ9.out ?_)
                  go_roundg (n - (k + 1))
                  case measure => omega
                  case rel => exact ⟨k + 1, hb, rfl, by omega, by go_num, rfl, KR.step HSN.out HU5.out HG5.out (by omega) (by omega) hne hhb B5.out HFK.out (by rw [HQ9.out]; omega)⟩
              · have h567 : d.kind = 5 ∨ d.kind = 6 ∨ d.kind = 7 := .inr (.inl hkd)
                have t5 : (d.kind == 5) = false := by rw [hkd]; rfl
                have t6 : (d.kind == 6) = true := by rw [hkd]; rfl
                have t7 : (d.kind == 7) = false := by rw [hkd]; rfl
                have HSN : T (k + 1) = ((if d.n ∈ U then U else U ++ [d.n]), fun v => if v = d.n then false else G v) := by
                  rw [HSk.out]; unfold Sto.keepN; rw [if_pos h567, if_pos (show x.an.err = 0 from he0.out)]; simp [hkd]
                replace HSN := hid HSN
                replace hkd := hid hkd
                replace h567 := hid h567
                obtain ⟨q9, hq9⟩ : ∃ q9, (if d.n ∈ U then U else U ++ [d.n]).length = q9 := ⟨_, rfl⟩
                have HQ9 := hid hq9
                clear hq9
                go_upto_region 18 with ((with_reducible show wpList _ _ _ (Oper.mk _ (Op.mapUpdate _ _ _ _) _ _ _ _ :: _) _ _); refine wpList_mapUpdate_own _ rfl _ _ _ 58 rfl 3 4 intK Try.underlying58 (plainElem (H := Unit) Try.prog 4) hb n1 D1 rfl HUV.out.hg.own (by unfold maxLen; omega) (.int .i64 d.n) (.bool true) _ rfl rfl HKY.out (.lit (.bool true)) [] (plainElem_bool Try.underlying4 _) ?_; intro w4 hown4 hg4; have hz4 := hg4.size; have HU4 := hid (HUV.out.put HKY.out hown4); have HG4 := hid (HGV.out.kept hg4 (fun e => hne (by injection e with e; exact e.symm))); have q4 := (hg4.block _ hVb (fun e => by injection e; omega)).trans QB.out; have e0 : w4.cell? ⟨wo.heap.size, 0, none⟩ = some (.int .i64 d.kind) := blk_cell q4; have e1 : w4.cell? ⟨wo.heap.size, 1, none⟩ = some (.int .i64 d.n) := blk_cell q4; have s4 := hid ((hg4.block _ hVs0 (fun e => by injection e; omega)).trans SUV.out); have hlk4 := HG4.out.look intK (mt := 58) Try.underlying58 HKY.out; unfold mkI at hlk4; have B4 := hid (BV.out.grown hg4 hVw3 (fun x hx => by cases hx; exact hhb)); clear q4 hown4; replace hg4 := hid hg4)
                go_upto_region 19 with ((with_reducible show wpList _ _ _ (Oper.mk _ (Op.mapUpdate _ _ _ _) _ _ _ _ :: _) _ _); refine wpList_mapUpdate_own _ rfl _ _ _ 58 rfl 3 4 intK Try.underlying58 (plainElem (H := Unit) Try.prog 4) (w3.heap.size + 1) n2 D2 rfl HG4.out.own (by unfold maxLen; omega) (.int .i64 d.n) (.bool false) _ rfl rfl HKY.out (.lit (.bool false)) [] (plainElem_bool Try.underlying4 _) ?_; intro w5 hown5 hg5; have HU5 := hid (HU4.out.kept hg5 (fun e => hne (by injection e))); have HG5 := hid (HG4.out.put intK mkI_inj HKY.out hown5); have s5 := hid ((hg5.block _ (by omega) (fun e => by injection e; omega)).trans s4.out); have f5 : w5.cell? ⟨w.heap.size, 1, none⟩ = some (.int .i64 ss) := blk_cell s5.out; have B5 := hid (B4.out.grown hg5 (by omega) (fun x hx => by cases hx; omega)); clear hown5; replace hg5 := hid hg5)
                clear e0 e1 hlk4
                by_cases hs9 : ss < (q9 : Int)
                · go_wp2_with (at_len; refine wpList_len_hu rfl _ rfl rfl HU5.out HQ9.out ?_)
                  go_ret
                  exact ⟨rfl, bnext bE.out B5.out⟩
                · go_wp2_with (at_len; refine wpList_len_hu rfl _ rfl rfl HU5.out HQ9.out ?_)
                  go_roundg (n - (k + 1))
                  case measure => omega
                  case rel => exact ⟨k + 1, hb, rfl, by omega, by go_num, rfl, KR.step HSN.out HU5.out HG5.out (by omega) (by omega) hne hhb B5.out HFK.out (by rw [HQ9.out]; omega)⟩
              · have h567 : d.kind = 5 ∨ d.kind = 6 ∨ d.kind = 7 := .inr (.inr hkd)
                have t5 : (d.kind == 5) = false := by rw [hkd]; rfl
                have t6 : (d.kind == 6) = false := by rw [hkd]; rfl
                have t7 : (d.kind == 7) = true := by rw [hkd]; rfl
                have HSN : T (k + 1) = ((if d.n ∈ U then U else U ++ [d.n]), fun v => if v = d.n then (G d.n) else G v) := by
                  rw [HSk.out]; unfold Sto.keepN; rw [if_pos h567, if_pos (show x.an.err = 0 from he0.out)]; simp [hkd]
                replace HSN := hid HSN
                replace hkd := hid hkd
                replace h567 := hid h567
                obtain ⟨q9, hq9⟩ : ∃ q9, (if d.n ∈ U then U else U ++ [d.n]).length = q9 := ⟨_, rfl⟩
                have HQ9 := hid hq9
                clear hq9
                go_upto_region 18 with ((with_reducible show wpList _ _ _ (Oper.mk _ (Op.mapUpdate _ _ _ _) _ _ _ _ :: _) _ _); refine wpList_mapUpdate_own _ rfl _ _ _ 58 rfl 3 4 intK Try.underlying58 (plainElem (H := Unit) Try.prog 4) hb n1 D1 rfl HUV.out.hg.own (by unfold maxLen; omega) (.int .i64 d.n) (.bool true) _ rfl rfl HKY.out (.lit (.bool true)) [] (plainElem_bool Try.underlying4 _) ?_; intro w4 hown4 hg4; have hz4 := hg4.size; have HU4 := hid (HUV.out.put HKY.out hown4); have HG4 := hid (HGV.out.kept hg4 (fun e => hne (by injection e with e; exact e.symm))); have q4 := (hg4.block _ hVb (fun e => by injection e; omega)).trans QB.out; have e0 : w4.cell? ⟨wo.heap.size, 0, none⟩ = some (.int .i64 d.kind) := blk_cell q4; have e1 : w4.cell? ⟨wo.heap.size, 1, none⟩ = some (.int .i64 d.n) := blk_cell q4; have s4 := hid ((hg4.block _ hVs0 (fun e => by injection e; omega)).trans SUV.out); have hlk4 := HG4.out.look intK (mt := 58) Try.underlying58 HKY.out; unfold mkI at hlk4; have B4 := hid (BV.out.grown hg4 hVw3 (fun x hx => by cases hx; exact hhb)); clear q4 hown4; replace hg4 := hid hg4)
                go_upto_region 19 with ((with_reducible show wpList _ _ _ (Oper.mk _ (Op.mapUpdate _ _ _ _) _ _ _ _ :: _) _ _); refine wpList_mapUpdate_own _ rfl _ _ _ 58 rfl 3 4 intK Try.underlying58 (plainElem (H := Unit) Try.prog 4) (w3.heap.size + 1) n2 D2 rfl HG4.out.own (by unfold maxLen; omega) (.int .i64 d.n) (.bool (G d.n)) _ rfl rfl HKY.out (.lit (.bool (G d.n))) [] (plainElem_bool Try.underlying4 _) ?_; intro w5 hown5 hg5; have HU5 := hid (HU4.out.kept hg5 (fun e => hne (by injection e))); have HG5 := hid (HG4.out.put intK mkI_inj HKY.out hown5); have s5 := hid ((hg5.block _ (by omega) (fun e => by injection e; omega)).trans s4.out); have f5 : w5.cell? ⟨w.heap.size, 1, none⟩ = some (.int .i64 ss) := blk_cell s5.out; have B5 := hid (B4.out.grown hg5 (by omega) (fun x hx => by cases hx; omega)); clear hown5; replace hg5 := hid hg5)
                clear e0 e1 hlk4
                by_cases hs9 : ss < (q9 : Int)
                · go_wp2_with (at_len; refine wpList_len_hu rfl _ rfl rfl HU5.out HQ9.out ?_)
                  go_ret
                  exact ⟨rfl, bnext bE.out B5.out⟩
                · go_wp2_with (at_len; refine wpList_len_hu rfl _ rfl rfl HU5.out HQ9.out ?_)
                  go_roundg (n - (k + 1))
                  case measure => omega
                  case rel => exact ⟨k + 1, hb, rfl, by omega, by go_num, rfl, KR.step HSN.out HU5.out HG5.out (by omega) (by omega) hne hhb B5.out HFK.out (by rw [HQ9.out]; omega)⟩
            · have t0 : (x.err == 0) = false := beq_eq_false_iff_ne.2 he0
              replace he0 := hid he0
              rcases h567 with hkd | hkd | hkd
              · have h567 : d.kind = 5 ∨ d.kind = 6 ∨ d.kind = 7 := .inl hkd
                have t5 : (d.kind == 5) = true := by rw [hkd]; rfl
                have t6 : (d.kind == 6) = false := by rw [hkd]; rfl
                have t7 : (d.kind == 7) = false := by rw [hkd]; rfl
                have HSN : T (k + 1) = (U, G) := by
                  rw [HSk.out]; unfold Sto.keepN; rw [if_pos h567, if_neg (show ¬ x.an.err = 0 from he0.out)]
                replace HSN := hid HSN
                replace hkd := hid hkd
                replace h567 := hid h567
                go_wp2_with (at_len; refine wpList_len_hu rfl _ rfl rfl HUV.out HQ.out ?_)
                go_roundg (n - (k + 1))
                case measure => omega
                case rel => exact ⟨k + 1, hb, rfl, by omega, by go_num, rfl, KR.step HSN.out HUV.out HGV.out (by omega) (by omega) hne hhb BV.out HFK.out (by rw [HQ.out]; exact hqs)⟩
              · have h567 : d.kind = 5 ∨ d.kind = 6 ∨ d.kind = 7 := .inr (.inl hkd)
                have t5 : (d.kind == 5) = false := by rw [hkd]; rfl
                have t6 : (d.kind == 6) = true := by rw [hkd]; rfl
                have t7 : (d.kind == 7) = false := by rw [hkd]; rfl
                have HSN : T (k + 1) = (U, G) := by
                  rw [HSk.out]; unfold Sto.keepN; rw [if_pos h567, if_neg (show ¬ x.an.err = 0 from he0.out)]
                replace HSN := hid HSN
                replace hkd := hid hkd
                replace h567 := hid h567
                go_wp2_with (at_len; refine wpList_len_hu rfl _ rfl rfl HUV.out HQ.out ?_)
                go_roundg (n - (k + 1))
                case measure => omega
                case rel => exact ⟨k + 1, hb, rfl, by omega, by go_num, rfl, KR.step HSN.out HUV.out HGV.out (by omega) (by omega) hne hhb BV.out HFK.out (by rw [HQ.out]; exact hqs)⟩
              · have h567 : d.kind = 5 ∨ d.kind = 6 ∨ d.kind = 7 := .inr (.inr hkd)
                have t5 : (d.kind == 5) = false := by rw [hkd]; rfl
                have t6 : (d.kind == 6) = false := by rw [hkd]; rfl
                have t7 : (d.kind == 7) = true := by rw [hkd]; rfl
                have HSN : T (k + 1) = (U, G) := by
                  rw [HSk.out]; unfold Sto.keepN; rw [if_pos h567, if_neg (show ¬ x.an.err = 0 from he0.out)]
                replace HSN := hid HSN
                replace hkd := hid hkd
                replace h567 := hid h567
                go_wp2_with (at_len; refine wpList_len_hu rfl _ rfl rfl HUV.out HQ.out ?_)
                go_roundg (n - (k + 1))
                case measure => omega
                case rel => exact ⟨k + 1, hb, rfl, by omega, by go_num, rfl, KR.step HSN.out HUV.out HGV.out (by omega) (by omega) hne hhb BV.out HFK.out (by rw [HQ.out]; exact hqs)⟩
          · by_cases h8 : d.kind = 8
            · have he0 : x.err = 0 := HTk.out.1 h8
              have t0 : (x.err != 0) = false := by rw [he0]; rfl
              have HSN : T (k + 1) = (U.filter G, G) := by
                rw [HSk.out]; unfold Sto.keepN; rw [if_neg h567, if_pos h8]
              replace HSN := hid HSN
              have t5 : (d.kind == 5) = false := by rw [h8]; rfl
              have t6 : (d.kind == 6) = false := by rw [h8]; rfl
              have t7 : (d.kind == 7) = false := by rw [h8]; rfl
              have t8 : (d.kind == 8) = true := by rw [h8]; rfl
              replace h8 := hid h8
              replace he0 := hid he0
              have M6 := hid (HUV.out.alloc (.map #[] 0))
              have L6 := hid (HU.start V)
              have G6 := hid (HGV.out.alloc (.map #[] 0))
              have B6 := hid (BV.out.alloc hVw3 (.map #[] 0))
              have hmm := @run_makeMap Try.prog
              go_wp2_with (at_range; refine wpList_range_own _ rfl _ 58 rfl 3 4 intK Try.underlying58 (plainElem (H := Unit) Try.prog 4) hb n1 D1 rfl M6.out.hg.own ?_; intro w6 hrg6 hg6 hs6)
              try go_frame
              rw [World.size_alloc] at hrg6 hs6
              have HL0 := hid (L6.out.kept hg6 (by simp))
              have HG0 := hid (G6.out.kept hg6 (by simp))
              have BL0 := hid (B6.out.grown hg6 (by rw [World.size_alloc]; omega) (fun x hx => by cases hx))
              have HR0 := hid hrg6
              have HSZ := hid (show Go.Maps.size D1 ≤ n1 from M6.out.hg.own.size_le)
              have HSF := hid (Sofar.start (G := G) HUV.out HUI.out)
              clear hrg6 hg6 hmm
              go_loopw [13] (fun _ wr => ∃ (left : Lit → Bool) (cnt nL : Nat) (VV : List Int) (DL : DataW Unit), wr.ranges Try.prog 3 (plainElem (H := Unit) Try.prog 4) hb (V.heap.size + 1) n1 D1 left cnt ∧ HU wr V.heap.size nL VV DL ∧ Sofar U VV G left ∧ nL + cnt ≤ n1 ∧ Hg 3 mkI wr (w3.heap.size + 1) n2 G D2 ∧ Below w3.heap.size w3 wr) (fun _ wr => wr.rangeLeft hb (V.heap.size + 1))
              case atStart => exact ⟨_, _, 0, [], .map [], HR0.out, HL0.out, HSF.out, by rw [Nat.zero_add]; exact HSZ.out, HG0.out, BL0.out⟩
              case round =>
                clear HR0 HL0 HSF HG0 BL0
                obtain ⟨left, cnt, nL, VV, DL, hrg, hHL, hSf, hcn, hHG7, hB7⟩ := hrel
                obtain ⟨w7, rfl⟩ : ∃ w7 : World, w7 = wr := ⟨_, rfl⟩
                have HRG := hid hrg
                have HHL := hid hHL
                have HSF := hid hSf
                have HG7 := hid hHG7
                have B7 := hid hB7
                clear hrg hHL hSf hHG7 hB7
                go_wp2_with (at_next; refine wpList_next_ranges _ rfl _ rfl 3 intK (plainElem (H := Unit) Try.prog 4) (Value.int .i64) (fun v : Value => v) (fun key kl hkey => by obtain ⟨x, rfl, _⟩ := Go.Maps.keyOf_int_inv Try.underlying3 hkey; exact ⟨x, rfl⟩) (fun v y hv => ⟨v, rfl⟩) hb (V.heap.size + 1) n1 D1 left cnt rfl HRG.out ?_ ?_)
                · intro h0 hl0
                  have HLU := hid (HHL.out.congr HSF.out.nd ((HND.out).filter _) (HSF.out.done hl0))
                  have HQL := hid (show ((U.filter G).length : Int) ≤ ss from by have := List.length_filter_le G U; omega)
                  have hlb := hVw3
                  clear hl0
                  go_wp2_with fail
                  go_roundg (n - (k + 1))
                  case measure => omega
                  case rel => exact ⟨k + 1, V.heap.size, rfl, by omega, by go_num, rfl, KR.step HSN.out HLU.out HG7.out (by omega) (by omega) (by omega) (by omega) B7.out HFK.out HQL.out⟩
                · intro u c kl ya yb w8 cnt8 hkl hlx hv hat hrg8 hlt8 hg8 hs8 hen8
                  obtain ⟨u', eu, rfl, hwu⟩ := Go.Maps.keyOf_int_inv Try.underlying3 hkl
                  cases eu
                  have huU : u ∈ U := by
                    have h1 := has_true_of_atKey hat
                    rw [HUV.out.has u _ hkl] at h1
                    exact of_decide_eq_true h1
                  have HN := hid (HSF.out.next huU hlx)
                  have HL8 := hid (HHL.out.kept hg8 (fun e => by injection e; omega))
                  have HG8 := hid (HG7.out.kept hg8 (fun e => by injection e; omega))
                  have hsz7 := B7.out.size
                  have hlb7 := HHL.out.lt
                  have B8 := hid (B7.out.grown hg8 hsz7 (fun x hx => by cases hx; omega))
                  have hlk8 := HG8.out.look intK (mt := 58) Try.underlying58 hkl
                  unfold mkI at hlk8
                  have HKL := hid hkl
                  have HR8 := hid hrg8
                  have hme := HR8.out.left_eq
                  have hme0 := HRG.out.left_eq
                  replace hg8 := hid hg8
                  clear hat hv hlx hkl hrg8
                  by_cases hgu : G u = true
                  · rw [hgu] at hlk8
                    obtain ⟨huV, hSN⟩ := HN.out.1 hgu
                    have HSS := hid hSN
                    have HUV9 := hid huV
                    replace hgu := hid hgu
                    clear hSN huV
                    go_wp2_with ((with_reducible show wpList _ _ _ (Oper.mk _ (Op.mapUpdate _ _ _ _) _ _ _ _ :: _) _ _); refine wpList_mapUpdate_own _ rfl _ _ _ 58 rfl 3 4 intK Try.underlying58 (plainElem (H := Unit) Try.prog 4) V.heap.size nL DL rfl HL8.out.hg.own (by unfold maxLen; omega) (.int .i64 u) (.bool true) _ rfl rfl HKL.out (.lit (.bool true)) [] (plainElem_bool Try.underlying4 _) ?_; intro w9 hown9 hg9)
                    have HL9 := HL8.out.put HKL.out hown9
                    rw [if_neg HUV9.out] at HL9
                    have HR9 := HR8.out.kept hg9 (fun e => by injection e; omega) (fun e => by injection e; omega)
                    have HG9 := HG8.out.kept hg9 (fun e => by injection e; omega)
                    have B9 := B8.out.grown hg9 (by omega) (fun x hx => by cases hx; omega)
                    go_roundw
                    case rel => exact ⟨_, _, _, _, _, _, _, _, _, _, ⟨_, cnt8, nL + 1, _, _, HR9, HL9, HSS.out, by omega, HG9, B9⟩, rfl⟩
                    case measure => rw [HR9.left_eq, HRG.out.left_eq]; omega
                  · have hgu : G u = false := by simpa using hgu
                    rw [hgu] at hlk8
                    have HSS := hid (HN.out.2 hgu)
                    replace hgu := hid hgu
                    go_wp2_with fail
                    go_roundw
                    case rel => exact ⟨_, cnt8, nL, _, _, HR8.out, HL8.out, HSS.out, by omega, HG8.out, B8.out⟩
                    case measure => rw [HR8.out.left_eq, HRG.out.left_eq]; omega
            · have HSN : T (k + 1) = (U, G) := by
                rw [HSk.out]; unfold Sto.keepN; rw [if_neg h567, if_neg h8]
              replace HSN := hid HSN
              have t5 : (d.kind == 5) = false := beq_eq_false_iff_ne.2 (fun e => h567 (.inl e))
              have t6 : (d.kind == 6) = false := beq_eq_false_iff_ne.2 (fun e => h567 (.inr (.inl e)))
              have t7 : (d.kind == 7) = false := beq_eq_false_iff_ne.2 (fun e => h567 (.inr (.inr e)))
              have t8 : (d.kind == 8) = false := beq_eq_false_iff_ne.2 h8
              replace h567 := hid h567
              replace h8 := hid h8
              have hANS := hid HTk.out.2
              have CK := hid (show ∀ W, Below V.heap.size V W → W.cell? ⟨wo.heap.size, 0, none⟩ = some (.int .i64 d.kind) ∧ W.cell? ⟨wo.heap.size, 1, none⟩ = some (.int .i64 d.n) ∧ W.cell? ⟨wo.heap.size, 2, none⟩ = some (.int .i64 d.seg) ∧ W.cell? ⟨wo.heap.size, 3, none⟩ = some (.int .i64 d.t) ∧ W.cell? ⟨wo.heap.size, 4, none⟩ = some (.int .u8 (d.y.toNat : Int)) ∧ W.cell? ⟨wo.heap.size, 5, none⟩ = some (.int .i64 d.b.c) ∧ W.cell? ⟨wo.heap.size, 6, none⟩ = some (.slice ea en ec) ∧ W.cell? ⟨wo.heap.size, 7, none⟩ = some (.string d.stream) ∧ W.cell? ⟨wo.heap.size, 8, none⟩ = some (.int .i64 d.ver) ∧ W.cell? ⟨ab, aoff + k * 5, none⟩ = some (.int .i64 x.err) ∧ W.cell? ⟨ab, aoff + k * 5 + 1, none⟩ = some (.int .i64 x.n) ∧ W.cell? ⟨ab, aoff + k * 5 + 2, none⟩ = some (.slice x.ea x.evs.length x.ec) ∧ W.cell? ⟨ab, aoff + k * 5 + 3, none⟩ = some (.int .i64 x.u) ∧ W.cell? ⟨ab, aoff + k * 5 + 4, none⟩ = some (.slice x.aa x.accs.length x.ac) from fun W hW => ⟨(hW.cell (p := ⟨wo.heap.size, _, none⟩) hVb).trans c0, (hW.cell (p := ⟨wo.heap.size, _, none⟩) hVb).trans c1, (hW.cell (p := ⟨wo.heap.size, _, none⟩) hVb).trans c2, (hW.cell (p := ⟨wo.heap.size, _, none⟩) hVb).trans c3, (hW.cell (p := ⟨wo.heap.size, _, none⟩) hVb).trans c4, (hW.cell (p := ⟨wo.heap.size, _, none⟩) hVb).trans c5, (hW.cell (p := ⟨wo.heap.size, _, none⟩) hVb).trans c6, (hW.cell (p := ⟨wo.heap.size, _, none⟩) hVb).trans c7, (hW.cell (p := ⟨wo.heap.size, _, none⟩) hVb).trans c8, (hW.cell (p := ⟨ab, _, none⟩) hab).trans y0, (hW.cell (p := ⟨ab, _, none⟩) hab).trans y1, (hW.cell (p := ⟨ab, _, none⟩) hab).trans y2, (hW.cell (p := ⟨ab, _, none⟩) hab).trans y3, (hW.cell (p := ⟨ab, _, none⟩) hab).trans y4⟩)
              have C1 := hid (show ∀ W, Below V.heap.size V W → Calls Try.prog 24 #[.slice (some ⟨db, off, none⟩) n cap, .slice (some ⟨ab, aoff, none⟩) n ac, .int .i64 (k : Int)] W (fun e w' => ∃ oa oc, e = .returned (.slice oa R.length oc) ∧ Es w' oa R.length oc R ∧ Below V.heap.size V w' ∧ w'.cell? ⟨wo.heap.size, 0, none⟩ = some (.int .i64 d.kind) ∧ w'.cell? ⟨wo.heap.size, 1, none⟩ = some (.int .i64 d.n) ∧ w'.cell? ⟨wo.heap.size, 2, none⟩ = some (.int .i64 d.seg) ∧ w'.cell? ⟨wo.heap.size, 3, none⟩ = some (.int .i64 d.t) ∧ w'.cell? ⟨wo.heap.size, 4, none⟩ = some (.int .u8 (d.y.toNat : Int)) ∧ w'.cell? ⟨wo.heap.size, 5, none⟩ = some (.int .i64 d.b.c) ∧ w'.cell? ⟨wo.heap.size, 6, none⟩ = some (.slice ea en ec) ∧ w'.cell? ⟨wo.heap.size, 7, none⟩ = some (.string d.stream) ∧ w'.cell? ⟨wo.heap.size, 8, none⟩ = some (.int .i64 d.ver) ∧ w'.cell? ⟨ab, aoff + k * 5, none⟩ = some (.int .i64 x.err) ∧ w'.cell? ⟨ab, aoff + k * 5 + 1, none⟩ = some (.int .i64 x.n) ∧ w'.cell? ⟨ab, aoff + k * 5 + 2, none⟩ = some (.slice x.ea x.evs.length x.ec) ∧ w'.cell? ⟨ab, aoff + k * 5 + 3, none⟩ = some (.int .i64 x.u) ∧ w'.cell? ⟨ab, aoff + k * 5 + 4, none⟩ = some (.slice x.aa x.accs.length x.ac)) from fun W hW =>
                (DT.out W (hbV.trans (hW.mono (by omega)))).mono fun e w' ⟨oa, oc, h1, h2, h3⟩ => ⟨oa, oc, h1, h2.es, bnext hW h3, CK.out _ (bnext hW h3)⟩)
              have C2 := hid (show ∀ W oa oc, Below V.heap.size V W → Es W oa R.length oc R → Calls Try.prog 23 #[.agg #[.int .i64 d.kind, .int .i64 d.n, .int .i64 d.seg, .int .i64 d.t, .int .u8 (d.y.toNat : Int), .int .i64 d.b.c, .slice ea en ec, .string d.stream, .int .i64 d.ver], .agg #[.int .i64 x.err, .int .i64 x.n, .slice x.ea x.evs.length x.ec, .int .i64 x.u, .slice x.aa x.accs.length x.ac], .slice oa R.length oc] W (fun e w' => e = .returned (.bool true) ∧ Below V.heap.size V w' ∧ w'.cell? ⟨wo.heap.size, 0, none⟩ = some (.int .i64 d.kind) ∧ w'.cell? ⟨wo.heap.size, 1, none⟩ = some (.int .i64 d.n) ∧ w'.cell? ⟨wo.heap.size, 2, none⟩ = some (.int .i64 d.seg) ∧ w'.cell? ⟨wo.heap.size, 3, none⟩ = some (.int .i64 d.t) ∧ w'.cell? ⟨wo.heap.size, 4, none⟩ = some (.int .u8 (d.y.toNat : Int)) ∧ w'.cell? ⟨wo.heap.size, 5, none⟩ = some (.int .i64 d.b.c) ∧ w'.cell? ⟨wo.heap.size, 6, none⟩ = some (.slice ea en ec) ∧ w'.cell? ⟨wo.heap.size, 7, none⟩ = some (.string d.stream) ∧ w'.cell? ⟨wo.heap.size, 8, none⟩ = some (.int .i64 d.ver) ∧ w'.cell? ⟨ab, aoff + k * 5, none⟩ = some (.int .i64 x.err) ∧ w'.cell? ⟨ab, aoff + k * 5 + 1, none⟩ = some (.int .i64 x.n) ∧ w'.cell? ⟨ab, aoff + k * 5 + 2, none⟩ = some (.slice x.ea x.evs.length x.ec) ∧ w'.cell? ⟨ab, aoff + k * 5 + 3, none⟩ = some (.int .i64 x.u) ∧ w'.cell? ⟨ab, aoff + k * 5 + 4, none⟩ = some (.slice x.aa x.accs.length x.ac)) from fun W oa oc hW hE =>
                (answers8_call d ea en ec x oa R.length oc R W (hxe.out.below (hbV.trans (hW.mono (by omega)))) (hxa.out.below (hbV.trans (hW.mono (by omega)))) hE (by have := hRl.out; omega) hso.out hANS.out).mono fun e w' ⟨h1, h2⟩ => ⟨h1, bnext hW h2, CK.out _ (bnext hW h2)⟩)
              go_upto_region 11 with (fail)
              go_cut [51] (fun s51 wc => s51 = .bool false ∧ Below V.heap.size V wc)
              case first =>
                go_region_held3 (fun w' => w'.cell? ⟨wo.heap.size, 0, none⟩ = some (.int .i64 d.kind) ∧ w'.cell? ⟨wo.heap.size, 1, none⟩ = some (.int .i64 d.n) ∧ w'.cell? ⟨wo.heap.size, 2, none⟩ = some (.int .i64 d.seg) ∧ w'.cell? ⟨wo.heap.size, 3, none⟩ = some (.int .i64 d.t) ∧ w'.cell? ⟨wo.heap.size, 4, none⟩ = some (.int .u8 (d.y.toNat : Int)) ∧ w'.cell? ⟨wo.heap.size, 5, none⟩ = some (.int .i64 d.b.c) ∧ w'.cell? ⟨wo.heap.size, 6, none⟩ = some (.slice ea en ec) ∧ w'.cell? ⟨wo.heap.size, 7, none⟩ = some (.string d.stream) ∧ w'.cell? ⟨wo.heap.size, 8, none⟩ = some (.int .i64 d.ver) ∧ w'.cell? ⟨ab, aoff + k * 5, none⟩ = some (.int .i64 x.err) ∧ w'.cell? ⟨ab, aoff + k * 5 + 1, none⟩ = some (.int .i64 x.n) ∧ w'.cell? ⟨ab, aoff + k * 5 + 2, none⟩ = some (.slice x.ea x.evs.length x.ec) ∧ w'.cell? ⟨ab, aoff + k * 5 + 3, none⟩ = some (.int .i64 x.u) ∧ w'.cell? ⟨ab, aoff + k * 5 + 4, none⟩ = some (.slice x.aa x.accs.length x.ac)) (first | exact ⟨c0, c1, c2, c3, c4, c5, c6, c7, c8, y0, y1, y2, y3, y4⟩ | exact ⟨k0, k1, k2, k3, k4, k5, k6, k7, k8, k9, k10, k11, k12, k13⟩ | go_keep)
                  (first
                    | (go_at_call 24; refine (C1.out _ ?_).mono ?_; (repeat (first | assumption | exact Below.refl _ _ | refine below_drewN ?_ _ | refine Below.drew ?_)); rintro e w4 ⟨oa, oc, rfl, hEo, kb, k0, k1, k2, k3, k4, k5, k6, k7, k8, k9, k10, k11, k12, k13⟩)
                    | (go_at_call 23; refine (C2.out _ oa oc ?_ ?_).mono ?_; (repeat (first | assumption | exact Below.refl _ _ | refine below_drewN ?_ _ | refine Below.drew ?_)); rintro e w5 ⟨rfl, kb, k0, k1, k2, k3, k4, k5, k6, k7, k8, k9, k10, k11, k12, k13⟩))
                all_goals (go_wp2_with fail; go_meet)
                all_goals exact ⟨rfl, kb⟩
              case rest =>
                obtain ⟨rfl, kb⟩ := hcut
                have HU9 := hid (HUV.out.below kb)
                have HG9 := hid (HGV.out.below kb)
                have B9 := hid (BV.out.trans (kb.mono hVw3))
                go_wp2_with fail
                go_roundg (n - (k + 1))
                case measure => omega
                case rel => exact ⟨k + 1, hb, rfl, by omega, by go_num, rfl, KR.step HSN.out HU9.out HG9.out (by omega) (by omega) hne hhb B9.out HFK.out (by rw [HQ.out]; exact hqs)⟩
        · obtain rfl : k = n := by omega
          go_wp2_with fail
          go_ret
          exact ⟨rfl, bF⟩
  · have t0 : (er != 0) = true := bne_iff_ne.2 he
    have t1 : (er == 0) = false := beq_eq_false_iff_ne.2 he
    replace he := hid he
    go_wp2_with fail
    go_ret
    exact ⟨rfl, bB.out.alloc hs2 _⟩
end Go.Proofs.Ythhcdfjijagalaa
