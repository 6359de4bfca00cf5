/- Joined, and what is not used struck: SpP2, SpP3, SpQ. -/
import Derived.Test.YthhcdfjijagalaaM40
namespace Go.Proofs.Ythhcdfjijagalaa
open Go.RowKit Go.Maps
set_option linter.unusedVariables false
set_option linter.unusedSimpArgs false
set_option maxRecDepth 100000
set_option maxHeartbeats 8000000 in
theorem TopMore_walk (d p fr : Int) (w : World) : Calls Try.prog 4 #[.int .i64 d, .int .i64 p, .int .i64 fr] w (Grew (.bool true) w) := by
  go_enter Try.func4, Try.ntmps4
  go_wp2_with fail
  go_at_call 14; refine (aliveT_call _).mono ?_; rintro e w1 ⟨rfl, b1⟩
  have bA := hid b1
  clear b1
  go_wp2_with fail
  go_at_call 15; refine (smallT_call d p w1).mono ?_; rintro e w1' ⟨rfl, rfl⟩
  by_cases hs : smallP d p
  · rw [decide_eq_true hs]
    have HS := hid hs
    have hs1 : 1 ≤ d ∧ d ≤ 8 ∧ 0 ≤ p ∧ p ≤ 4 := hs
    replace hs := hid hs
    obtain ⟨P, rfl⟩ := Int.eq_ofNat_of_zero_le (a := p) (by omega)
    by_cases hb : fr < 0
    · go_wp2_with fail
      go_ret
      exact ⟨rfl, bA.out⟩
    obtain ⟨N, hN⟩ : ∃ N, N = d + (P : Int) := ⟨_, rfl⟩
    have hN1 : 1 ≤ N ∧ N ≤ 12 ∧ (P : Int) < N := by omega
    have hF0 : 0 ≤ Int.tmod fr N ∧ Int.tmod fr N < N := tmod_in (by omega) (by omega)
    obtain ⟨F, hF⟩ : ∃ F, F = Int.tmod fr N := ⟨_, rfl⟩
    rw [← hF] at hF0
    have eF : Int.tmod fr N = F := hF.symm
    have eN : d + (P : Int) = N := hN.symm
    replace hN := hid hN
    clear hF
    go_wp2_with fail
    go_at_call 17; refine (openT_call _ _).mono ?_; rintro e w2 ⟨rfl, b2⟩
    have bB := hid (bnext bA.out b2)
    have hE2 := hid (lit_es (w := w2) (l := [⟨Sto.sa, 1, 0⟩]) (by decide) (fun e he => by obtain rfl := List.mem_singleton.1 he; exact sa_ok))
    have bC := hid (bB.out.alloc bB.out.size (.cells (evCells [⟨Sto.sa, 1, 0⟩]).toArray 32))
    clear b2
    go_wp2_with fail
    go_at_call 16; refine (putT_call _ _ _ _ _).mono ?_; rintro e w3 ⟨rfl, b3⟩
    have bD := hid (bnext bC.out b3)
    have hE3 := hid (hE2.out.below b3)
    clear b3
    go_wp2_with fail
    go_at_call 18; refine (addT_call _ _ _).mono ?_; rintro e w4 ⟨rfl, b4⟩
    have bE := hid (bnext bD.out b4)
    have hF4 := hid (lit_es (w := w4) (l := [⟨Sto.sa, 2, 5⟩]) (by decide) (fun e he => by obtain rfl := List.mem_singleton.1 he; exact sa_ok))
    have hE4 := hid ((hE3.out.below b4).below ((Below.refl _ _).alloc (Nat.le_refl _) (.cells (evCells [⟨Sto.sa, 2, 5⟩]).toArray 32)))
    have bF := hid (bE.out.alloc bE.out.size (.cells (evCells [⟨Sto.sa, 2, 5⟩]).toArray 32))
    clear b4
    go_wp2_with fail
    go_at_call 16; refine (putT_call _ _ _ _ _).mono ?_; rintro e w5 ⟨rfl, b5⟩
    have bG := hid (bnext bF.out b5)
    have hX0 := hid (DoO.lit (w := w5) (base := w.heap.size) bG.out.size [putX 1 [⟨Sto.sa, 1, 0⟩] w2.heap.size, putX 2 [⟨Sto.sa, 2, 5⟩] w4.heap.size] (by simp) (fun x hx => by
      simp only [List.mem_cons, List.not_mem_nil, or_false] at hx
      rcases hx with rfl | rfl
      · exact hE4.out.below b5
      · exact hF4.out.below b5) (fun x hx => by
      simp only [List.mem_cons, List.not_mem_nil, or_false] at hx
      rcases hx with rfl | rfl <;> exact putX_ok _ _ _))
    have bR := hid (bG.out.alloc bG.out.size (.cells (rows do9 [putX 1 [⟨Sto.sa, 1, 0⟩] w2.heap.size, putX 2 [⟨Sto.sa, 2, 5⟩] w4.heap.size]).toArray 29))
    have R0 : RowL w (w5.alloc (.cells (rows do9 [putX 1 [⟨Sto.sa, 1, 0⟩] w2.heap.size, putX 2 [⟨Sto.sa, 2, 5⟩] w4.heap.size]).toArray 29)) (.slice (some ⟨w5.heap.size, 0, none⟩) 2 2) ([Sto.opA, Sto.doPut 2 [⟨Sto.sa, 2, 5⟩]] ++ Sto.hurtD 5 (turnU F N 0)) [putX 1 [⟨Sto.sa, 1, 0⟩] w2.heap.size, putX 2 [⟨Sto.sa, 2, 5⟩] w4.heap.size] := ⟨hX0.out, rfl, bR.out⟩
    clear b5
    go_wp2_with fail
    go_loopg [8, 39] (P + 1) (fun g sv si wr => ∃ (k : Nat) (X : List Dod), g = P + 1 - k ∧ k ≤ P + 1 ∧ si = .int .i64 (k : Int) ∧ RowL w wr sv ([Sto.opA, Sto.doPut 2 [⟨Sto.sa, 2, 5⟩]] ++ Sto.hurtD 5 (turnU F N (k))) X)
    case atStart => exact ⟨0, _, rfl, by omega, rfl, R0⟩
    case round =>
      clear R0
      obtain ⟨k, X, rfl, hk, rfl, hR⟩ := hrel
      obtain ⟨wo, rfl⟩ : ∃ wo : World, wo = wr := ⟨_, rfl⟩
      have HR := hid hR
      have hXl := hR.len
      simp only [List.length_append, List.length_cons, List.length_nil, Sto.hurtD_len, Sto.spoilD_len, turnU_len] at hXl
      obtain ⟨xa, xc, rfl, -⟩ := own_sl hR.row.own
      have hsz := hR.below.size
      clear hR
      generalize hlX : X.length = lX at *
      have HLX := hid hlX
      clear hlX
      by_cases hlt : k < P + 1
      · have i0 : (0 : Int) ≤ (k : Int) := by omega
        have i1 : (k : Int) < (P : Int) + 1 := by omega
        have hu0 : 0 ≤ Int.tmod (F + (k : Int)) N ∧ Int.tmod (F + (k : Int)) N < N := tmod_in (by omega) (by omega)
        have HSU := hid (turnU_succ F N k)
        obtain ⟨u, hu⟩ : ∃ u, u = Int.tmod (F + (k : Int)) N := ⟨_, rfl⟩
        have eu : Int.tmod (F + (k : Int)) N = u := hu.symm
        rw [← hu] at HSU hu0
        clear hu
        have hwl := wo.heap.size
        have SS := hid (lit_src (w := wo) (Y := [Sto.doOf 5 u].map bareX) (tx := 34) Try.underlying34)
        have OT1 := hid (OT.start (HR.out.row.below ((Below.refl wo.heap.size wo).alloc (Nat.le_refl _) (.cells (rows do9 ([Sto.doOf 5 u].map bareX)).toArray 29))).own)
        rw [HLX.out] at OT1
        go_wp2_with (at_builtin; refine wpList_append_t rfl (.tmp 42) (.tmp 51) 34 34 rfl w.heap.size 29 9 96 (.agg #[.int .i64 0, .int .i64 0, .int .i64 0, .int .i64 0, .int .u8 0, .int .i64 0, .slice none 0 0, .string ⟨#[]⟩, .int .i64 0]) Try.underlying34 info_Do rfl (by decide) (.slice xa lX xc) lX (rows do9 X) rfl OT1.out _ 1 _ rfl SS.out (by unfold maxLen; omega) (by omega) (by simp; omega) ?_; intro w7v w7 o7 g7)
        have HR7 := HR.out.bare (m := [Sto.doOf 5 u]) (fun d hd => by obtain rfl := List.mem_singleton.1 hd; exact bare_of _ _) o7 (by rw [HLX.out]; rfl) g7
        rw [List.append_assoc, ← Sto.hurtD_snoc, ← HSU.out] at HR7
        go_roundg (P + 1 - (k + 1))
        case measure => omega
        case rel => exact ⟨k + 1, _, rfl, by omega, by go_num, HR7⟩
      · have hkn : k = P + 1 := by omega
        subst hkn
        have hw1 : Sto.wrongS d (P : Int) 1 = 0 := wrong_small HS.out (by omega) (by omega)
        have hw9 : Sto.wrongS d (P : Int) 9 = 0 := wrong_small HS.out (by omega) (by omega)
        have hUl : ((turnU F N (P + 1)).length : Int) = (P : Int) + 1 := by rw [turnU_len]; omega
        have hUn : (turnU F N (P + 1)).Nodup := turnU_nodup (by omega) (by omega) (by omega)
        have hUi : ∀ u ∈ turnU F N (P + 1), 0 ≤ u ∧ u < d + (P : Int) := by rw [eN]; exact turnU_in (by omega) (by omega) _
        obtain ⟨s1, a1, hp1, hl1, x1, y1, hx1, hy1, h1, -⟩ := Sto.more_plain hw1 (.inl rfl) _ hUn hUl hUi
        obtain ⟨s2, a2, hp2, hl2, x2, y2, hx2, hy2, -, h2⟩ := Sto.more_plain hw9 (.inr rfl) _ hUn hUl hUi
        rw [turnU_len] at hl1 hl2 hx1 hy1 hx2 hy2
        have P1 := hid hp1
        have P2 := hid hp2
        have A1 := hid hl1
        have A2 := hid hl2
        have Q1 := hid (And.intro hx1 (And.intro hy1 (h1 rfl)))
        have Q2 := hid (And.intro hx2 (And.intro hy2 (h2 rfl)))
        have hwl := wo.heap.size
        have SS := hid (lit_src (w := wo) (Y := [Sto.doOf 3 0, Sto.doOf 8 0].map bareX) (tx := 34) Try.underlying34)
        have OT1 := hid (OT.start (HR.out.row.below ((Below.refl wo.heap.size wo).alloc (Nat.le_refl _) (.cells (rows do9 ([Sto.doOf 3 0, Sto.doOf 8 0].map bareX)).toArray 29))).own)
        rw [HLX.out] at OT1
        clear hp1 hp2 hx1 hx2 hy1 hy2 hl1 hl2 h1 h2 hUl hUn hUi hw1 hw9
        go_wp2_with (at_builtin; refine wpList_append_t rfl (.tmp 54) (.tmp 57) 34 34 rfl w.heap.size 29 9 96 (.agg #[.int .i64 0, .int .i64 0, .int .i64 0, .int .i64 0, .int .u8 0, .int .i64 0, .slice none 0 0, .string ⟨#[]⟩, .int .i64 0]) Try.underlying34 info_Do rfl (by decide) (.slice xa lX xc) lX (rows do9 X) rfl OT1.out _ 2 _ rfl SS.out (by unfold maxLen; omega) (by omega) (by simp; omega) ?_; intro w7v w7 o7 g7)
        have HR7 := HR.out.bare (m := [Sto.doOf 3 0, Sto.doOf 8 0]) (fun d hd => by simp only [List.mem_cons, List.not_mem_nil, or_false] at hd; rcases hd with rfl | rfl <;> exact bare_of _ _) o7 (by rw [HLX.out]; rfl) g7
        obtain ⟨da, dc, rfl, hD⟩ := HR7.dos
        have hDl : ([Sto.opA, Sto.doPut 2 [⟨Sto.sa, 2, 5⟩]] ++ Sto.hurtD 5 (turnU F N (P + 1)) ++ [Sto.doOf 3 0, Sto.doOf 8 0]).length = P + 5 := by simp only [List.length_append, List.length_cons, List.length_nil, Sto.hurtD_len, turnU_len]; omega
        rw [hDl] at hD ⊢
        have b7 := hid HR7.below
        have D1 := hid (stPlay_call d P 1 _ _ _ _ w7 hD)
        have D2 := hid (fun W (hb : Below w7.heap.size w7 W) => stPlay_call d P 9 _ _ _ _ W (hD.below hb))
        clear hD HR7 o7 g7 hDl
        go_wp2_with fail
        go_at_call 19; refine (D1.out).mono ?_; rintro e v1 ⟨m1, av1, ac1, L1, er1, rfl, hM, hA, hP2, b1⟩
        have hPP := P1.out.symm.trans hP2
        simp only [Prod.mk.injEq] at hPP
        obtain ⟨-, hp1, rfl⟩ := hPP
        obtain ⟨ab1, ao1, rfl, -, hl1, hat⟩ := hA.gets hp1 (by rw [A1.out]; omega)
        rw [A1.out] at hl1
        rw [hl1]
        obtain ⟨va_1, vc_1, ta_1, tc_1, sa_1, sc_1, aa_1, ac_1, hv, -⟩ := hM.val
        rw [hv]
        have BC1 := hid ((Below.refl v1.heap.size v1).alloc (Nat.le_refl _) (.cells #[.int .i64 m1.d, .int .i64 m1.s, .int .i64 m1.b, .slice va_1 m1.D.length vc_1, .int .i64 (m1.g : Int), .slice ta_1 m1.T.length tc_1, .slice sa_1 m1.seen.length sc_1, .int .i64 m1.u, .slice aa_1 m1.A.length ac_1] 44))
        have GT1 := hid hat
        replace hl1 := hid hl1
        have B1 := hid (b1.alloc b1.size (.cells #[.int .i64 m1.d, .int .i64 m1.s, .int .i64 m1.b, .slice va_1 m1.D.length vc_1, .int .i64 (m1.g : Int), .slice ta_1 m1.T.length tc_1, .slice sa_1 m1.seen.length sc_1, .int .i64 m1.u, .slice aa_1 m1.A.length ac_1] 44))
        have BO1 := hid b1
        clear hv hp1 hM hA hP2 hat b1
        go_wp2_with fail
        go_at_call 19; refine (D2.out _ B1.out).mono ?_; rintro e v2 ⟨m2, av2, ac2, L2, er2, rfl, hM, hA, hP2, b2⟩
        have hPP := P2.out.symm.trans hP2
        simp only [Prod.mk.injEq] at hPP
        obtain ⟨-, hp1, rfl⟩ := hPP
        obtain ⟨ab2, ao2, rfl, -, hl2, hat⟩ := hA.gets hp1 (by rw [A2.out]; omega)
        rw [A2.out] at hl2
        rw [hl2]
        obtain ⟨va_2, vc_2, ta_2, tc_2, sa_2, sc_2, aa_2, ac_2, hv, -⟩ := hM.val
        rw [hv]
        have BC2 := hid ((Below.refl v2.heap.size v2).alloc (Nat.le_refl _) (.cells #[.int .i64 m2.d, .int .i64 m2.s, .int .i64 m2.b, .slice va_2 m2.D.length vc_2, .int .i64 (m2.g : Int), .slice ta_2 m2.T.length tc_2, .slice sa_2 m2.seen.length sc_2, .int .i64 m2.u, .slice aa_2 m2.A.length ac_2] 44))
        have GT2 := hid hat
        replace hl2 := hid hl2
        have B2 := hid (b2.alloc b2.size (.cells #[.int .i64 m2.d, .int .i64 m2.s, .int .i64 m2.b, .slice va_2 m2.D.length vc_2, .int .i64 (m2.g : Int), .slice ta_2 m2.T.length tc_2, .slice sa_2 m2.seen.length sc_2, .int .i64 m2.u, .slice aa_2 m2.A.length ac_2] 44))
        have BO2 := hid b2
        clear hv hp1 hM hA hP2 hat b2
        obtain ⟨z1, hz1, -, T1⟩ := GT1.out _ _ Q1.out.1
        obtain ⟨z2, hz2, -, T2⟩ := GT1.out _ _ Q1.out.2.1
        obtain ⟨z3, hz3, -, T3⟩ := GT2.out _ _ Q2.out.1
        obtain ⟨z4, hz4, -, T4⟩ := GT2.out _ _ Q2.out.2.1
        have f1 : ∀ O : Obj, (v2.alloc O).cell? ⟨ab1, ao1 + (P + 3) * 5, none⟩ = some (.int .i64 10) := fun O => by
          have e : z1.err = 10 := by have := congrArg Sto.An.err hz1; rw [Q1.out.2.2.1] at this; exact this
          have t := (T1.below (bnext BC1.out BO2.out)).c0
          rw [e] at t
          exact calloc t
        have f2 : ∀ O : Obj, (v2.alloc O).cell? ⟨ab1, ao1 + (P + 4) * 5, none⟩ = some (.int .i64 10) := fun O => by
          have e : z2.err = 10 := by have := congrArg Sto.An.err hz2; rw [Q1.out.2.2.2] at this; exact this
          have t := (T2.below (bnext BC1.out BO2.out)).c0
          rw [e] at t
          exact calloc t
        have f3 : ∀ O : Obj, (v2.alloc O).cell? ⟨ab2, ao2 + (P + 3) * 5, none⟩ = some (.int .i64 0) := fun O => by
          have e : z3.err = 0 := by have := congrArg Sto.An.err hz3; rw [Q2.out.2.2.1] at this; exact this
          have t := T3.c0
          rw [e] at t
          exact calloc t
        have f4 : ∀ O : Obj, (v2.alloc O).cell? ⟨ab2, ao2 + (P + 3) * 5 + 2, none⟩ = some (.slice z3.ea 2 z3.ec) := fun O => by
          have e : z3.evs.length = 2 := by have this : z3.evs.length = x2.evs.length := congrArg (fun a : Sto.An => a.evs.length) hz3; rw [Q2.out.2.2.2.1] at this; exact this
          have t := T3.c2
          rw [e] at t
          exact calloc t
        have f5 : ∀ O : Obj, (v2.alloc O).cell? ⟨ab2, ao2 + (P + 4) * 5, none⟩ = some (.int .i64 0) := fun O => by
          have e : z4.err = 0 := by have := congrArg Sto.An.err hz4; rw [Q2.out.2.2.2.2] at this; exact this
          have t := T4.c0
          rw [e] at t
          exact calloc t
        have BW := hid (bnext (bnext b7.out B1.out) B2.out)
        clear T1 T2 T3 T4 hz1 hz2 hz3 hz4
        go_wp2_with fail
        go_ret
        exact ⟨rfl, BW.out⟩
  · rw [decide_eq_false hs]
    replace hs := hid hs
    go_wp2_with fail
    go_ret
    exact ⟨rfl, bA.out⟩
end Go.Proofs.Ythhcdfjijagalaa
namespace Go.Proofs.Ythhcdfjijagalaa
open Go.RowKit Go.Maps
set_option linter.unusedVariables false
set_option linter.unusedSimpArgs false
set_option maxRecDepth 100000
set_option maxHeartbeats 8000000 in
theorem TopSpoilt_walk (d p fr t : Int) (y : UInt8) (w : World) : Calls Try.prog 11 #[.int .i64 d, .int .i64 p, .int .i64 fr, .int .i64 t, .int .u8 (y.toNat : Int)] w (Grew (.bool true) w) := by
  go_enter Try.func11, Try.ntmps11
  go_wp2_with fail
  go_at_call 14; refine (aliveT_call _).mono ?_; rintro e w1 ⟨rfl, b1⟩
  have bA := hid b1
  clear b1
  go_wp2_with fail
  go_at_call 15; refine (smallT_call d p w1).mono ?_; rintro e w1' ⟨rfl, rfl⟩
  by_cases hs : smallP d p
  · rw [decide_eq_true hs]
    have HS := hid hs
    have hs1 : 1 ≤ d ∧ d ≤ 8 ∧ 0 ≤ p ∧ p ≤ 4 := hs
    replace hs := hid hs
    obtain ⟨P, rfl⟩ := Int.eq_ofNat_of_zero_le (a := p) (by omega)
    by_cases hb : fr < 0
    · go_wp2_with fail
      go_ret
      exact ⟨rfl, bA.out⟩
    by_cases ht1 : t < 0
    · go_wp2_with fail
      go_ret
      exact ⟨rfl, bA.out⟩
    by_cases ht2 : 11 < t
    · go_wp2_with fail
      go_ret
      exact ⟨rfl, bA.out⟩
    by_cases hy0 : y = 0
    · subst hy0
      go_wp2_with fail
      go_ret
      exact ⟨rfl, bA.out⟩
    have HY := hid hy0
    have hyn : ((y.toNat : Int) == 0) = false := beq_eq_false_iff_ne.2 (fun e => hy0 (UInt8.toNat_inj.1 (by simpa using e)))
    clear hy0
    obtain ⟨N, hN⟩ : ∃ N, N = d + (P : Int) := ⟨_, rfl⟩
    have hN1 : 1 ≤ N ∧ N ≤ 12 ∧ (P : Int) < N := by omega
    have hF0 : 0 ≤ Int.tmod fr N ∧ Int.tmod fr N < N := tmod_in (by omega) (by omega)
    obtain ⟨F, hF⟩ : ∃ F, F = Int.tmod fr N := ⟨_, rfl⟩
    rw [← hF] at hF0
    have eF : Int.tmod fr N = F := hF.symm
    have eN : d + (P : Int) = N := hN.symm
    replace hN := hid hN
    clear hF
    go_wp2_with fail
    go_at_call 17; refine (openT_call _ _).mono ?_; rintro e w2 ⟨rfl, b2⟩
    have bB := hid (bnext bA.out b2)
    clear b2
    go_wp2_with fail
    go_at_call 18; refine (addT_call _ _ _).mono ?_; rintro e w3 ⟨rfl, b3⟩
    have bC := hid (bnext bB.out b3)
    have hE3 := hid (lit_es (w := w3) (l := Sto.evs2 5) (by decide) (fun e he => by
      simp only [Sto.evs2, List.mem_cons, List.not_mem_nil, or_false] at he
      rcases he with rfl | rfl <;> exact sa_ok))
    have bD := hid (bC.out.alloc bC.out.size (.cells (evCells (Sto.evs2 5)).toArray 32))
    clear b3
    go_wp2_with fail
    go_at_call 16; refine (putT_call _ _ _ _ _).mono ?_; rintro e w4 ⟨rfl, b4⟩
    have bE := hid (bnext bD.out b4)
    have hX0 := hid (DoO.lit (w := w4) (base := w.heap.size) bE.out.size [putX 1 (Sto.evs2 5) w3.heap.size] (by simp) (fun x hx => by obtain rfl := List.mem_singleton.1 hx; exact hE3.out.below b4) (fun x hx => by obtain rfl := List.mem_singleton.1 hx; exact putX_ok _ _ _))
    have bR := hid (bE.out.alloc bE.out.size (.cells (rows do9 [putX 1 (Sto.evs2 5) w3.heap.size]).toArray 29))
    have R0 : RowL w (w4.alloc (.cells (rows do9 [putX 1 (Sto.evs2 5) w3.heap.size]).toArray 29)) (.slice (some ⟨w4.heap.size, 0, none⟩) 1 1) ([Sto.doPut 1 (Sto.evs2 5)] ++ Sto.spoilD t y (turnU F N 0)) [putX 1 (Sto.evs2 5) w3.heap.size] := ⟨hX0.out, rfl, bR.out⟩
    clear b4
    go_wp2_with fail
    go_loopg [12, 49] (P) (fun g sv si wr => ∃ (k : Nat) (X : List Dod), g = P - k ∧ k ≤ P ∧ si = .int .i64 (k : Int) ∧ RowL w wr sv ([Sto.doPut 1 (Sto.evs2 5)] ++ Sto.spoilD t y (turnU F N (k))) X)
    case atStart => exact ⟨0, _, rfl, by omega, rfl, R0⟩
    case round =>
      clear R0
      obtain ⟨k, X, rfl, hk, rfl, hR⟩ := hrel
      obtain ⟨wo, rfl⟩ : ∃ wo : World, wo = wr := ⟨_, rfl⟩
      have HR := hid hR
      have hXl := hR.len
      simp only [List.length_append, List.length_cons, List.length_nil, Sto.hurtD_len, Sto.spoilD_len, turnU_len] at hXl
      obtain ⟨xa, xc, rfl, -⟩ := own_sl hR.row.own
      have hsz := hR.below.size
      clear hR
      generalize hlX : X.length = lX at *
      have HLX := hid hlX
      clear hlX
      by_cases hlt : k < P
      · have i0 : (0 : Int) ≤ (k : Int) := by omega
        have i1 : (k : Int) < (P : Int) := by omega
        have hu0 : 0 ≤ Int.tmod (F + (k : Int)) N ∧ Int.tmod (F + (k : Int)) N < N := tmod_in (by omega) (by omega)
        have HSU := hid (turnU_succ F N k)
        obtain ⟨u, hu⟩ : ∃ u, u = Int.tmod (F + (k : Int)) N := ⟨_, rfl⟩
        have eu : Int.tmod (F + (k : Int)) N = u := hu.symm
        rw [← hu] at HSU hu0
        clear hu
        have hwl := wo.heap.size
        have SS := hid (lit_src (w := wo) (Y := [(⟨7, u, 0, t, y, ⟨0, []⟩, ⟨#[]⟩, 0⟩ : Sto.Do)].map bareX) (tx := 34) Try.underlying34)
        have OT1 := hid (OT.start (HR.out.row.below ((Below.refl wo.heap.size wo).alloc (Nat.le_refl _) (.cells (rows do9 ([(⟨7, u, 0, t, y, ⟨0, []⟩, ⟨#[]⟩, 0⟩ : Sto.Do)].map bareX)).toArray 29))).own)
        rw [HLX.out] at OT1
        go_wp2_with (at_builtin; refine wpList_append_t rfl (.tmp 52) (.tmp 63) 34 34 rfl w.heap.size 29 9 96 (.agg #[.int .i64 0, .int .i64 0, .int .i64 0, .int .i64 0, .int .u8 0, .int .i64 0, .slice none 0 0, .string ⟨#[]⟩, .int .i64 0]) Try.underlying34 info_Do rfl (by decide) (.slice xa lX xc) lX (rows do9 X) rfl OT1.out _ 1 _ rfl SS.out (by unfold maxLen; omega) (by omega) (by simp; omega) ?_; intro w7v w7 o7 g7)
        have HR7 := HR.out.bare (m := [(⟨7, u, 0, t, y, ⟨0, []⟩, ⟨#[]⟩, 0⟩ : Sto.Do)]) (fun d hd => by obtain rfl := List.mem_singleton.1 hd; exact ⟨rfl, rfl⟩) o7 (by rw [HLX.out]; rfl) g7
        rw [List.append_assoc, ← Sto.spoilD_snoc, ← HSU.out] at HR7
        go_roundg (P - (k + 1))
        case measure => omega
        case rel => exact ⟨k + 1, _, rfl, by omega, by go_num, HR7⟩
      · have hkn : k = P := by omega
        subst hkn
        have hw1 : Sto.wrongS d (k : Int) 1 = 0 := wrong_small HS.out (by omega) (by omega)
        have hUl : ((turnU F N k).length : Int) = (k : Int) := by rw [turnU_len]
        have hUn : (turnU F N k).Nodup := turnU_nodup (by omega) (by omega) (by omega)
        have hUi : ∀ u ∈ turnU F N k, 0 ≤ u ∧ u < d + (k : Int) := by rw [eN]; exact turnU_in (by omega) (by omega) _
        obtain ⟨s1, a1, hp1, hl1, x1, x2, x3, x4, h1⟩ := Sto.spoilt_plain hw1 t y (by omega) (by omega) HY.out _ hUn hUl hUi
        rw [turnU_len] at hl1 h1
        have P1 := hid hp1
        have A1 := hid hl1
        have Q1 := hid h1
        have hwl := wo.heap.size
        have SS := hid (lit_src (w := wo) (Y := [Sto.doOf 9 0, Sto.doOf 3 0, Sto.doOf 8 0, Sto.doOf 9 0].map bareX) (tx := 34) Try.underlying34)
        have OT1 := hid (OT.start (HR.out.row.below ((Below.refl wo.heap.size wo).alloc (Nat.le_refl _) (.cells (rows do9 ([Sto.doOf 9 0, Sto.doOf 3 0, Sto.doOf 8 0, Sto.doOf 9 0].map bareX)).toArray 29))).own)
        rw [HLX.out] at OT1
        clear hp1 hl1 h1 hUl hUn hUi hw1
        go_wp2_with (at_builtin; refine wpList_append_t rfl (.tmp 66) (.tmp 71) 34 34 rfl w.heap.size 29 9 96 (.agg #[.int .i64 0, .int .i64 0, .int .i64 0, .int .i64 0, .int .u8 0, .int .i64 0, .slice none 0 0, .string ⟨#[]⟩, .int .i64 0]) Try.underlying34 info_Do rfl (by decide) (.slice xa lX xc) lX (rows do9 X) rfl OT1.out _ 4 _ rfl SS.out (by unfold maxLen; omega) (by omega) (by simp; omega) ?_; intro w7v w7 o7 g7)
        have HR7 := HR.out.bare (m := [Sto.doOf 9 0, Sto.doOf 3 0, Sto.doOf 8 0, Sto.doOf 9 0]) (fun d hd => by simp only [List.mem_cons, List.not_mem_nil, or_false] at hd; rcases hd with rfl | rfl | rfl | rfl <;> exact bare_of _ _) o7 (by rw [HLX.out]; rfl) g7
        obtain ⟨da, dc, rfl, hD⟩ := HR7.dos
        have hDl : ([Sto.doPut 1 (Sto.evs2 5)] ++ Sto.spoilD t y (turnU F N (k)) ++ [Sto.doOf 9 0, Sto.doOf 3 0, Sto.doOf 8 0, Sto.doOf 9 0]).length = k + 5 := by simp only [List.length_append, List.length_cons, List.length_nil, Sto.spoilD_len, turnU_len]; omega
        rw [hDl] at hD ⊢
        have b7 := hid HR7.below
        have D1 := hid (stPlay_call d k 1 _ _ _ _ w7 hD)
        clear hD HR7 o7 g7 hDl
        go_wp2_with fail
        go_at_call 19; refine (D1.out).mono ?_; rintro e v1 ⟨m1, av1, ac1, L1, er1, rfl, hM, hA, hP2, b1⟩
        have hPP := P1.out.symm.trans hP2
        simp only [Prod.mk.injEq] at hPP
        obtain ⟨-, hp1, rfl⟩ := hPP
        obtain ⟨ab1, ao1, rfl, -, hl1, hat⟩ := hA.gets hp1 (by rw [A1.out]; omega)
        rw [A1.out] at hl1
        rw [hl1]
        obtain ⟨va_1, vc_1, ta_1, tc_1, sa_1, sc_1, aa_1, ac_1, hv, -⟩ := hM.val
        rw [hv]
        have BC1 := hid ((Below.refl v1.heap.size v1).alloc (Nat.le_refl _) (.cells #[.int .i64 m1.d, .int .i64 m1.s, .int .i64 m1.b, .slice va_1 m1.D.length vc_1, .int .i64 (m1.g : Int), .slice ta_1 m1.T.length tc_1, .slice sa_1 m1.seen.length sc_1, .int .i64 m1.u, .slice aa_1 m1.A.length ac_1] 44))
        have GT1 := hid hat
        replace hl1 := hid hl1
        have B1 := hid (b1.alloc b1.size (.cells #[.int .i64 m1.d, .int .i64 m1.s, .int .i64 m1.b, .slice va_1 m1.D.length vc_1, .int .i64 (m1.g : Int), .slice ta_1 m1.T.length tc_1, .slice sa_1 m1.seen.length sc_1, .int .i64 m1.u, .slice aa_1 m1.A.length ac_1] 44))
        have BO1 := hid b1
        clear hv hp1 hM hA hP2 hat b1
        obtain ⟨z1, hz1, -, T1⟩ := GT1.out _ _ Q1.out.1
        obtain ⟨z2, hz2, -, T2⟩ := GT1.out _ _ Q1.out.2.1
        obtain ⟨z3, hz3, -, T3⟩ := GT1.out _ _ Q1.out.2.2.1
        obtain ⟨z4, hz4, -, T4⟩ := GT1.out _ _ Q1.out.2.2.2.1
        have q := Q1.out.2.2.2.2
        have f1 : ∀ O : Obj, (v1.alloc O).cell? ⟨ab1, ao1 + (k + 1) * 5 + 1, none⟩ = some (.int .i64 (k : Int)) := fun O => by
          have e : z1.n = (k : Int) := by have := congrArg Sto.An.n hz1; rw [q.1] at this; exact this
          have t := T1.c1
          rw [e] at t
          exact calloc t
        have f2 : ∀ O : Obj, (v1.alloc O).cell? ⟨ab1, ao1 + (k + 2) * 5, none⟩ = some (.int .i64 0) := fun O => by
          have e : z2.err = 0 := by have := congrArg Sto.An.err hz2; rw [q.2.1] at this; exact this
          have t := T2.c0
          rw [e] at t
          exact calloc t
        have f3 : ∀ O : Obj, (v1.alloc O).cell? ⟨ab1, ao1 + (k + 2) * 5 + 2, none⟩ = some (.slice z2.ea 2 z2.ec) := fun O => by
          have e : z2.evs.length = 2 := by have this : z2.evs.length = x2.evs.length := congrArg (fun a : Sto.An => a.evs.length) hz2; rw [q.2.2.1] at this; exact this
          have t := T2.c2
          rw [e] at t
          exact calloc t
        have f4 : ∀ O : Obj, (v1.alloc O).cell? ⟨ab1, ao1 + (k + 3) * 5 + 1, none⟩ = some (.int .i64 (k : Int)) := fun O => by
          have e : z3.n = (k : Int) := by have := congrArg Sto.An.n hz3; rw [q.2.2.2.1] at this; exact this
          have t := T3.c1
          rw [e] at t
          exact calloc t
        have f5 : ∀ O : Obj, (v1.alloc O).cell? ⟨ab1, ao1 + (k + 4) * 5 + 1, none⟩ = some (.int .i64 0) := fun O => by
          have e : z4.n = 0 := by have := congrArg Sto.An.n hz4; rw [q.2.2.2.2] at this; exact this
          have t := T4.c1
          rw [e] at t
          exact calloc t
        have BW := hid (bnext b7.out B1.out)
        clear T1 T2 T3 T4 hz1 hz2 hz3 hz4 q
        go_wp2_with fail
        go_ret
        exact ⟨rfl, BW.out⟩
  · rw [decide_eq_false hs]
    replace hs := hid hs
    go_wp2_with fail
    go_ret
    exact ⟨rfl, bA.out⟩
end Go.Proofs.Ythhcdfjijagalaa
namespace Go.Proofs.Ythhcdfjijagalaa
open Go.RowKit Go.Maps
set_option linter.unusedVariables false
set_option linter.unusedSimpArgs false
set_option maxRecDepth 100000
theorem own_other {w w' : World} {base b2 : Nat} {e t : TypeId} {sz sz2 n n2 : Nat} {o o2 : Value} {xs xs2 : List Value} (h : w.ownsRow base e sz o n xs) (h2 : w.ownsRow b2 t sz2 o2 n2 xs2) (hg : w.grownBy w' o2.ownBlock) (hne : t ≠ e) : w'.ownsRow base e sz o n xs := by
  refine ⟨h.1, ?_⟩
  rcases h.2 with hn | ⟨g, cap, cur, hv, hb, hh, r⟩
  · exact .inl hn
  · exact .inr ⟨g, cap, cur, hv, hb, grown_other h2 hg hh hne, r⟩
theorem DoO.other {w w' : World} {base b2 sz2 n2 : Nat} {t : TypeId} {v o2 : Value} {X : List Dod} {xs2 : List Value} (h : DoO w base v X) (h2 : w.ownsRow b2 t sz2 o2 n2 xs2) (hg : w.grownBy w' o2.ownBlock) (hne : t ≠ 29)
    (hoff : ∀ x ∈ X, 0 < x.n → ∀ b o, x.a = some ⟨b, o, none⟩ → o2.ownBlock ≠ some b) : DoO w' base v X :=
  ⟨own_other h.own h2 hg hne, fun x hx => ⟨(h.evs x hx).sl.grown hg (fun hn b off e => hoff x hx hn b off e), (h.evs x hx).ok⟩, h.ok, h.off⟩
/-- blocks that events lie in are no block that is new -/
theorem DoO.old {w : World} {base : Nat} {v v5 : Value} {X : List Dod} {own : Option Nat} (h : DoO w base v X) (hl : v5.ownBlock = own ∨ ∀ k, v5.ownBlock = some k → w.heap.size ≤ k) (ho : ∀ x ∈ X, 0 < x.n → ∀ b o, x.a = some ⟨b, o, none⟩ → own ≠ some b) :
    ∀ x ∈ X, 0 < x.n → ∀ b o, x.a = some ⟨b, o, none⟩ → v5.ownBlock ≠ some b := fun x hx hn b o e e2 => by
  rcases hl with hl | hl
  · exact ho x hx hn b o e (hl ▸ e2)
  · have h4 := hl b e2
    have h5 := (h.evs x hx).sl
    rw [e] at h5
    have := Sl.lt h5 hn (by decide)
    omega
/-- what is done, and events beside it -/
structure Row3 (w wr : World) (v vw : Value) (l : List Sto.Do) (E : List Evt.Ev) (X : List Dod) : Prop where
  row : DoO wr w.heap.size v X
  eq : X.map Dod.d = l
  below : Below w.heap.size w wr
  want : wr.ownsRow w.heap.size 32 3 vw E.length (evCells E)
  off : ∀ x ∈ X, 0 < x.n → ∀ b o, x.a = some ⟨b, o, none⟩ → vw.ownBlock ≠ some b
theorem Row3.len {w wr : World} {v vw : Value} {l : List Sto.Do} {E : List Evt.Ev} {X : List Dod} (h : Row3 w wr v vw l E X) : X.length = l.length := by rw [← h.eq, List.length_map]
theorem Row3.on {w wr W : World} {v vw : Value} {l : List Sto.Do} {E : List Evt.Ev} {X : List Dod} (h : Row3 w wr v vw l E X) (hb : Below wr.heap.size wr W) : Row3 w W v vw l E X :=
  ⟨h.row.below hb, h.eq, bnext h.below hb, own_below h.want hb, h.off⟩
theorem Row3.add {w W w5 : World} {v vw v5 : Value} {l : List Sto.Do} {E : List Evt.Ev} {X Y : List Dod} {n' : Nat} (h : Row3 w W v vw l E X) (o : OT W w5 v.ownBlock w.heap.size 29 9 v5 n' (rows do9 X ++ rows do9 Y)) (hn : n' = X.length + Y.length) (hg : W.grownBy w5 v.ownBlock)
    (he : ∀ x ∈ Y, Es W x.a x.n x.cap x.d.b.evs) (hs : ∀ x ∈ Y, x.d.stream.size ≤ maxLen) (ho : ∀ x ∈ Y, 0 < x.n → ∀ b o, x.a = some ⟨b, o, none⟩ → v.ownBlock ≠ some b ∧ vw.ownBlock ≠ some b) : Row3 w w5 v5 vw (l ++ Y.map Dod.d) E (X ++ Y) := by
  refine ⟨h.row.more o hn hg he hs (fun x hx hn b o e => (ho x hx hn b o e).1), by rw [List.map_append, h.eq], h.below.grown hg h.below.size (fun q hq => (h.row.own.lt q hq).1), own_other h.want h.row.own hg (by decide), fun x hx hn b o e => ?_⟩
  rcases List.mem_append.1 hx with hx | hx
  · exact h.off x hx hn b o e
  · exact (ho x hx hn b o e).2
theorem Row3.ev {w W w5 : World} {v vw vw5 : Value} {l : List Sto.Do} {E : List Evt.Ev} {X : List Dod} {n' : Nat} (h : Row3 w W v vw l E X) (e : Evt.Ev) (o : OT W w5 vw.ownBlock w.heap.size 32 3 vw5 n' (evCells E ++ [.string e.s, .int .i64 e.k, .int .i64 e.n])) (hn : n' = E.length + 1) (hg : W.grownBy w5 vw.ownBlock) :
    Row3 w w5 v vw5 l (E ++ [e]) X := by
  subst hn
  refine ⟨h.row.other h.want hg (by decide) h.off, h.eq, h.below.grown hg h.below.size (fun q hq => (h.want.lt q hq).1), ?_, h.row.old o.lies h.off⟩
  rw [List.length_append, evCells_append]
  exact o.own
/-- and numbers beside them -/
structure Row4 (w wr : World) (LB : Nat) (f1 f2 : Int) (v vw va : Value) (l : List Sto.Do) (E : List Evt.Ev) (ks : List Int) (X : List Dod) : Prop where
  row : DoO wr w.heap.size v X
  eq : X.map Dod.d = l
  below : Below w.heap.size w wr
  want : wr.ownsRow w.heap.size 32 3 vw E.length (evCells E)
  ats : wr.ownsRow w.heap.size 3 1 va ks.length (ks.map (Value.int .i64))
  off : ∀ x ∈ X, 0 < x.n → ∀ b o, x.a = some ⟨b, o, none⟩ → va.ownBlock ≠ some b
  lit : wr.heap[LB]? = some (.cells #[.int .i64 f1, .int .i64 f2] 3 (0, 0))
  ne : va.ownBlock ≠ some LB
theorem Row4.len {w wr : World} {LB : Nat} {f1 f2 : Int} {v vw va : Value} {l : List Sto.Do} {E : List Evt.Ev} {ks : List Int} {X : List Dod} (h : Row4 w wr LB f1 f2 v vw va l E ks X) : X.length = l.length := by rw [← h.eq, List.length_map]
theorem Row3.four {w wr : World} {f1 f2 : Int} {v vw : Value} {l : List Sto.Do} {E : List Evt.Ev} {X : List Dod} (h : Row3 w wr v vw l E X) : Row4 w (wr.alloc (.cells #[.int .i64 f1, .int .i64 f2] 3)) wr.heap.size f1 f2 v vw (.slice none 0 0) l E [] X := by
  have h2 := h.on ((Below.refl wr.heap.size wr).alloc (Nat.le_refl _) (.cells #[.int .i64 f1, .int .i64 f2] 3))
  exact ⟨h2.row, h2.eq, h2.below, h2.want, World.ownsRow_nil _ _ _ _, (fun x hx hn b o e e2 => by cases e2), blk_new _ _, fun e => by cases e⟩
theorem Row4.alloc {w wr : World} {LB : Nat} {f1 f2 : Int} {v vw va : Value} {l : List Sto.Do} {E : List Evt.Ev} {ks : List Int} {X : List Dod} (h : Row4 w wr LB f1 f2 v vw va l E ks X) (O : Obj) : Row4 w (wr.alloc O) LB f1 f2 v vw va l E ks X := by
  have hb := (Below.refl wr.heap.size wr).alloc (Nat.le_refl _) O
  exact ⟨h.row.below hb, h.eq, bnext h.below hb, own_below h.want hb, own_below h.ats hb, h.off, blk_old h.lit, h.ne⟩
theorem Row4.bare {w wr w5 : World} {LB : Nat} {f1 f2 : Int} {v vw va v5 : Value} {l m : List Sto.Do} {E : List Evt.Ev} {ks : List Int} {X : List Dod} {n' : Nat} {O : Obj} (h : Row4 w wr LB f1 f2 v vw va l E ks X) (hm : ∀ d ∈ m, Sto.Bare d)
    (o : OT (wr.alloc O) w5 v.ownBlock w.heap.size 29 9 v5 n' (rows do9 X ++ rows do9 (m.map bareX))) (hn : n' = X.length + m.length) (hg : (wr.alloc O).grownBy w5 v.ownBlock) :
    Row4 w w5 LB f1 f2 v5 vw va (l ++ m) E ks (X ++ m.map bareX) := by
  have h1 := (RowL.mk h.row h.eq h.below).bare hm o hn hg
  have h2 := h.alloc O
  refine ⟨h1.row, h1.eq, h1.below, own_other h2.want h2.row.own hg (by decide), own_other h2.ats h2.row.own hg (by decide), fun x hx hn b o e => ?_, grown_other h2.row.own hg h2.lit (by decide), h.ne⟩
  rcases List.mem_append.1 hx with hx | hx
  · exact h.off x hx hn b o e
  · obtain ⟨d, hd, rfl⟩ := List.mem_map.1 hx
    cases hn
theorem Row4.num {w wr w5 : World} {LB : Nat} {f1 f2 : Int} {v vw va va5 : Value} {l : List Sto.Do} {E : List Evt.Ev} {ks : List Int} {X : List Dod} {n' : Nat} {O : Obj} (h : Row4 w wr LB f1 f2 v vw va l E ks X) (x : Int)
    (o : OT (wr.alloc O) w5 va.ownBlock w.heap.size 3 1 va5 n' (ks.map (Value.int .i64) ++ [.int .i64 x])) (hn : n' = ks.length + 1) (hg : (wr.alloc O).grownBy w5 va.ownBlock) :
    Row4 w w5 LB f1 f2 v vw va5 l E (ks ++ [x]) X := by
  subst hn
  have h2 := h.alloc O
  have hL := (Array.getElem?_eq_some_iff.1 h2.lit).1
  refine ⟨h2.row.other h2.ats hg (by decide) h.off, h.eq, h2.below.grown hg h2.below.size (fun q hq => (h.ats.lt q hq).1), own_other h2.want h2.ats hg (by decide), ?_, h2.row.old o.lies h.off, ?_, ?_⟩
  · rw [List.length_append, List.map_append]; exact o.own
  · rw [hg.block LB hL (fun e => h.ne e.symm)]; exact h2.lit
  · intro e
    rcases o.lies with hl | hl
    · exact h.ne (hl ▸ e)
    · have := hl LB e
      omega
theorem Sto.evA_snoc (l : List Int) (n : Int) : Sto.evA (l ++ [n]) = Sto.evA l ++ [⟨Sto.sa, 2, n⟩] := by unfold Sto.evA; rw [List.map_append]; rfl
theorem Sto.evA_len (l : List Int) : (Sto.evA l).length = l.length + 1 := by simp [Sto.evA]
theorem info_int4 : (Try.prog.info? 3).map (fun i => (i.zero, i.size, i.bytes)) = some (some (.int .i64 0), 1, 8) := by kernel_rfl
end Go.Proofs.Ythhcdfjijagalaa
