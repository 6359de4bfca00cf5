/- Joined, and what is not used struck: CodeF, CoB, StripeH. -/
import Derived.Test.YthhcdfjijagalaaM23
import Derived.Test.YthhcdfjijagalaaM08
import Derived.Test.YthhcdfjijagalaaM09
import Derived.Test.YthhcdfjijagalaaM19
import Derived.Test.YthhcdfjijagalaaM18
import Derived.BigRegion
import Derived.Maps.Own
import Derived.Maps.OwnOps
import Derived.Maps.OwnSet
import Derived.Maps.Views
namespace Go.Proofs.Ythhcdfjijagalaa
open Go.RowKit
set_option linter.unusedVariables false
set_option maxRecDepth 100000
theorem wrongC_wrap {d : Int} {n : Nat} (hn : n ≤ 9223372036854775807) (hd : -9223372036854775808 ≤ d ∧ d ≤ 9223372036854775807) : Mat.wrongC d (IntKind.i64.wrap ((n : Int) - d)) = Mat.wrongC d ((n : Int) - d) := by
  by_cases h : d < 1
  · rw [wrongC_5 (.inl h), wrongC_5 (.inl h)]
  · rw [IntWalk.i64_in _ (by omega)]
theorem Ms.maxN {w : World} {a : Option Addr} {n cap : Nat} {A : List Rw} (h : Ms w a n cap A) : n ≤ 9223372036854775807 := by
  have h1 := h.sl.le
  have h2 := h.sl.max
  unfold maxLen at h2
  omega
theorem getD_l (A : List Rw) (u : Nat) : (A.getD u rw0).l = (rwData A).getD u [] := by
  unfold rwData
  by_cases h : u < A.length
  · simp [List.getD, h]
  · simp [List.getD, h, rw0]
theorem picks_data (A : List Rw) (U : List Nat) : rwData (U.map fun u => A.getD u rw0) = U.map fun u => (rwData A).getD u [] := by
  show List.map Rw.l _ = _
  rw [List.map_map]
  exact List.map_congr_left fun u _ => getD_l A u
theorem ent_picks (A : List Rw) (U : List Nat) {p : Nat} (hp : p < U.length) (k : Nat) : Mat.ent (rwData (U.map fun u => A.getD u rw0)) p k = Mat.ent (rwData A) (U.getD p 0) k := by
  rw [picks_data]
  unfold Mat.ent
  simp [List.getD, hp]
theorem picks_bt {w : World} {a : Option Addr} {n cap : Nat} {A : List Rw} (h : Ms w a n cap A) (U : List Nat) (hU : ∀ u ∈ U, u < n) : ∀ r ∈ (U.map fun u => A.getD u rw0), Bt w r.a r.n r.cap r.l := fun r hr => by
  obtain ⟨u, hu, rfl⟩ := List.mem_map.1 hr
  have h1 : u < A.length := by rw [h.cnt]; exact hU u hu
  rw [show A.getD u rw0 = A[u] by simp [List.getD, h1]]
  exact h.row _ (List.getElem_mem h1)
theorem Mat.undo_congr {n : Nat} {a b f : Mat.M} (h : Mat.Undo n a f) (e : ∀ i j, i < n → j < n → a i j = b i j) : Mat.Undo n b f :=
  ⟨fun i j hi hj => (Mat.sum_congr (fun k hk => by rw [e k j hk hj])).trans (h.1 i j hi hj), fun i j hi hj => (Mat.sum_congr (fun k hk => by rw [e i k hi hk])).trans (h.2 i j hi hj)⟩
set_option maxHeartbeats 1000000 in
theorem cMend_bad (a : Option Addr) (n ac : Nat) (A : List Rw) (d : Int) (hd : -9223372036854775808 ≤ d ∧ d ≤ 9223372036854775807) (w : World) (hA : Ms w a n ac A) (hc : Mat.wrongC d ((n : Int) - d) ≠ 0) : Calls Try.prog 92 #[.slice a n ac, .int .i64 d] w (NilB (Mat.wrongC d ((n : Int) - d)) w) := by
  have hz := wrongC_wrap hA.maxN hd
  rw [← hz] at hc ⊢
  generalize hzz : IntKind.i64.wrap ((n : Int) - d) = z at *
  have u0 : (Mat.wrongC d z != 0) = true := bne_iff_ne.2 hc
  have D := hid (cRows_bad d z w hc)
  generalize Mat.wrongC d z = e at *
  replace hc := hid hc
  replace hz := hid hz
  replace hd := hid hd
  go_enter Try.func92, Try.ntmps92
  go_wp2_with fail
  go_at_call 99
  refine (D.out).mono ?_
  rintro e' w1 ⟨rfl, b1⟩
  go_wp2_with fail
  go_ret2
  exact ⟨rfl, b1⟩
set_option maxRecDepth 100000 in
set_option maxHeartbeats 4000000 in
theorem cMend_ok (a : Option Addr) (n ac D s : Nat) (A : List Rw) (w : World) (hA : Ms w a n ac A) (hn : n = D + s) (h1 : 1 ≤ D) (h2 : D ≤ 8) (h3' : s ≤ 4) : Calls Try.prog 92 #[.slice a n ac, .int .i64 (D : Int)] w (MRes (Mat.MendR (rwData A) (D : Int)) w) := by
  have HN := hid hA.cnt
  have HL := hid hA.dn
  have s1 : IntKind.i64.wrap ((n : Int) - (D : Int)) = (s : Int) := by rw [IntWalk.i64_in _ (by omega)]; omega
  have s2 : (n : Int) - (D : Int) = (s : Int) := by omega
  have hC := hid (show Mat.wrongC (D : Int) (((rwData A).length : Int) - (D : Int)) = 0 by rw [HL.out]; exact Mat.wrongC_of (by omega))
  have hn12 : n ≤ 12 := by omega
  have hn1 : 1 ≤ n := by omega
  replace hn := hid hn
  obtain ⟨ab, aoff, rfl, _⟩ := hA.sl.addr (by omega)
  go_enter Try.func92, Try.ntmps92
  go_wp2_with fail
  go_at_call 99
  refine (cRows_ok D s w h1 h2 h3').mono ?_
  rintro e w1 ⟨a1, n1, c1, R1, e1, rfl, hR, ⟨hp1, rfl⟩, b1⟩
  obtain rfl : n1 = n := by rw [← hR.dn, hp1.rows, hn.out]
  have HR := hid hR.cnt
  have HP := hid hp1
  obtain ⟨rb, roff, rfl, _⟩ := hR.sl.addr (by omega)
  have hrb := Sl.lt hR.sl (by omega) (by decide)
  have hA1 := hA.below b1
  have hab := Sl.lt hA1.sl (by omega) (by decide)
  clear hp1
  go_wp2_with fail
  go_loopg [8, 9, 31] n1 (fun g s8 s9 s31 wr => ∃ (k : Nat) (T P : List Rw), g = n1 - k ∧ k ≤ n1 ∧ s31 = .int .i64 (k : Int) ∧ Tw w1 wr s8 T s9 P ∧ Hid (T = (Mat.firsts (rwData A) D k).map fun u => A.getD u rw0) ∧ Hid (P = (Mat.firsts (rwData A) D k).map fun u => R1.getD u rw0))
  case atStart => exact ⟨0, [], [], rfl, by omega, rfl, Tw.nil _, hid (by rw [Mat.firsts_zero]; rfl), hid (by rw [Mat.firsts_zero]; rfl)⟩
  case round =>
    obtain ⟨k, T, P, rfl, hk, rfl, hT, HT, HP2⟩ := hrel
    obtain ⟨wo, rfl⟩ : ∃ wo : World, wo = wr := ⟨_, rfl⟩
    have hbo := hT.below
    have hTl := hid (show T.length = (Mat.firsts (rwData A) D k).length by rw [HT.out]; simp)
    have hPl := hid (show P.length = T.length by rw [HT.out, HP2.out]; simp)
    have hTD : T.length ≤ D := by rw [hTl.out]; exact Mat.firsts_le _ _ _
    obtain ⟨t1, tc1, rfl, hts⟩ := own_sl hT.t.own
    obtain ⟨tl, htl⟩ : ∃ tl, T.length = tl := ⟨_, rfl⟩
    by_cases hlt : k < n1
    · have hkA : k < A.length := by rw [HN.out]; exact hlt
      have hkR : k < R1.length := by rw [HR.out]; exact hlt
      have hA2 := hA1.below hbo
      have hR2 := hR.below hbo
      have x0 := (hA2.at k hkA).1
      have x1 := (hR2.at k hkR).1
      have hl := Bt.n (hA2.at k hkA).2
      have hga : A.getD k rw0 = A[k] := by simp [List.getD, hkA]
      have hgr : R1.getD k rw0 = R1[k] := by simp [List.getD, hkR]
      have hth : Mat.isThere (rwData A) k = decide (0 < A[k].n) := by
        unfold Mat.isThere
        rw [show (rwData A).getD k [] = A[k].l by simp [List.getD, rwData, hkA], hl]
      generalize hra : A[k] = ra at *
      generalize hrr : R1[k] = rr at *
      replace hra := hid hra; replace hrr := hid hrr; replace hga := hid hga; replace hgr := hid hgr
      replace hl := hid hl
      have i0 : (0 : Int) ≤ (k : Int) := by omega
      have i1 : (k : Int) < (n1 : Int) := by omega
      rw [htl] at hTD
      by_cases hz : 0 < ra.n
      · by_cases hfull : tl < D
        · -- one more
          have hf := hid (Mat.firsts_yes (l := rwData A) (d := D) (k := k) (by rw [hth]; simpa using hz) (by rw [← hTl.out, htl]; exact hfull))
          have hlen1 : T.length ≤ 1000 := by omega
          have hlen2 : P.length ≤ 1000 := by rw [hPl.out]; omega
          have u0 : (0 : Int) < (ra.n : Int) := by omega
          have u1 : (tl : Int) < (D : Int) := by omega
          obtain ⟨V1, hV1⟩ : ∃ V, Value.slice t1 tl tc1 = V := ⟨_, rfl⟩
          replace hV1 := hid hV1
          rw [htl] at hT ⊢
          go_wp2_with fail
          rw [hV1.out] at hT ⊢
          have hwlt : rb < w1.heap.size := hrb
          have hw2 : rb < wo.heap.size := Nat.lt_of_lt_of_le hrb hbo.size
          have hop := own_sl hT.p.own
          obtain ⟨p1, pc1, hV2, hps⟩ := hop
          clear htl hts hps hbo
          have hT := hid hT
          obtain ⟨V2, rfl⟩ : ∃ V : Value, V = u9 := ⟨_, rfl⟩
          clear hV2
          go_region_law (first
              | (refine step_append_tw (v1 := V1) (v2 := V2) (T := T) (P := P) rfl (.tmp 45) (.tmp 47) 118 und_rowst rfl (by first | exact (hT.out.alloc _).drew | exact ((hT.out.alloc _).alloc _).drew) rfl ra _ rfl (by first | exact hT.out.litD _ rfl | exact ((hT.out.lit _ rfl).alloc _).drew | exact ((hT.out.alloc _).lit _ (by simp)).drew) hlen1 ?_; intro v4 w4 h4 g4 q4; have c4 : w4.cell? ⟨rb, roff + k, none⟩ = some (.slice rr.a rr.n rr.cap) := Tw.old (T := T) (P := P) (v1 := V1) (v2 := V2) (by first | exact (hT.out.alloc _).drew | exact ((hT.out.alloc _).alloc _).drew) g4 (by first | exact (cell_old hw2).trans x1 | exact (cell_old (show rb < (wo.alloc _).heap.size by simp; omega)).trans ((cell_old hw2).trans x1)) hwlt; (try have l4 : Lit1 w4 v4 V2 (wo.heap.size + 1) rr.v := Lit1.push1 (((hT.out.alloc (.cells #[.slice ra.a ra.n ra.cap] 88)).lit rr.v (by simp)).drew) g4 q4); (try have l4 : Lit1 w4 v4 V2 wo.heap.size rr.v := Lit1.push1 (((hT.out.lit rr.v rfl).alloc (.cells #[.slice ra.a ra.n ra.cap] 88)).drew) g4 q4))
              | (refine step_append_tw (v1 := V2) (v2 := V1) (T := P) (P := T) rfl (.tmp 49) (.tmp 54) 156 und_Matrix rfl (by first | exact (hT.out.alloc _).drew.symm | exact ((hT.out.alloc _).alloc _).drew.symm) rfl rr _ rfl (by first | exact (hT.out.litD _ rfl).symm | exact ((hT.out.lit _ rfl).alloc _).drew.symm | exact ((hT.out.alloc _).lit _ (by simp)).drew.symm) hlen2 ?_; intro v5 w5 h5 g5 q5; (try have l5 : Lit1 w5 v5 V1 (wo.heap.size + 1) ra.v := Lit1.push1 (((hT.out.alloc (.cells #[.slice rr.a rr.n rr.cap] 88)).lit ra.v (by simp)).drew.symm) g5 q5); (try have l5 : Lit1 w5 v5 V1 wo.heap.size ra.v := Lit1.push1 (((hT.out.lit ra.v rfl).alloc (.cells #[.slice rr.a rr.n rr.cap] 88)).drew.symm) g5 q5))
              | (refine step_append_tw (v1 := V2) (v2 := v4) (T := P) (P := T ++ [ra]) rfl (.tmp 49) (.tmp 54) 156 und_Matrix rfl (by first | exact h4.symm | exact (h4.alloc _).symm) rfl rr _ rfl (by first | exact l4.symm | exact (h4.lit _ rfl).symm) hlen2 ?_; intro v5 w5 h5 g5 q5)
              | (refine step_append_tw (v1 := V1) (v2 := v5) (T := T) (P := P ++ [rr]) rfl (.tmp 45) (.tmp 47) 118 und_rowst rfl (by first | exact h5.symm | exact (h5.alloc _).symm) rfl ra _ rfl (by first | exact l5.symm | exact (h5.lit _ rfl).symm) hlen1 ?_; intro v4 w4 h4 g4 q4))
          all_goals go_wp2_with fail
          all_goals
            go_roundg (n1 - (k + 1))
            case measure => omega
            case rel => exact ⟨k + 1, T ++ [ra], P ++ [rr], rfl, by omega, by go_num, (by first | exact h4.symm.symm | exact h5.symm), hid (by rw [hf.out, List.map_append, ← HT.out, List.map_cons, List.map_nil, hga.out]), hid (by rw [hf.out, List.map_append, ← HP2.out, List.map_cons, List.map_nil, hgr.out])⟩
        · have hf := hid (Mat.firsts_full (l := rwData A) (d := D) (k := k) (by rw [← hTl.out, htl]; omega))
          have u0 : (0 : Int) < (ra.n : Int) := by omega
          have u1 : ¬ (tl : Int) < (D : Int) := by omega
          rw [htl] at ⊢ hT
          go_wp2_with fail
          go_roundg (n1 - (k + 1))
          case measure => omega
          case rel => exact ⟨k + 1, T, P, rfl, by omega, by go_num, hT, hid (by rw [hf.out]; exact HT.out), hid (by rw [hf.out]; exact HP2.out)⟩
      · have hf := hid (Mat.firsts_no (l := rwData A) (d := D) (k := k) (by rw [hth]; simpa using hz))
        have u0 : ra.n = 0 := by omega
        rw [u0] at x0
        go_wp2_with fail
        go_roundg (n1 - (k + 1))
        case measure => omega
        case rel => exact ⟨k + 1, T, P, rfl, by omega, by go_num, hT, hid (by rw [hf.out]; exact HT.out), hid (by rw [hf.out]; exact HP2.out)⟩
    · obtain rfl : n1 = k := by omega
      have hU := hid (show Mat.firsts (rwData A) D n1 = (Mat.there (rwData A)).take D by rw [← HL.out]; exact Mat.firsts_all _ _)
      have hmin := hid (show T.length = min D (Mat.there (rwData A)).length by rw [hTl.out, hU.out, List.length_take])
      by_cases hfew : tl < D
      · have u0 : (tl : Int) < (D : Int) := by omega
        have hb := bnext b1 hbo
        have hM := hid (Mat.mend_few (l := rwData A) (d := (D : Int)) hC.out (by have := hmin.out; omega))
        rw [htl]
        go_wp2_with fail
        go_ret2
        exact ⟨_, _, _, [], 10, rfl, Ms.nil _, hM.out, hb⟩
      · obtain rfl : tl = D := by omega
        have u0 : ¬ (tl : Int) < (tl : Int) := by omega
        have hth := hid (show tl ≤ (Mat.there (rwData A)).length by have := hmin.out; omega)
        -- what row 0 of those that are there is
        have hUlt : Hid (∀ u ∈ Mat.firsts (rwData A) tl n1, u ∈ Mat.there (rwData A)) := hid (fun u hu => by rw [hU.out] at hu; exact List.mem_of_mem_take hu)
        have hUn : Hid (∀ u ∈ Mat.firsts (rwData A) tl n1, u < n1) := hid (fun u hu => by have := (Mat.there_lt (hUlt.out u hu)).1; rwa [HL.out] at this)
        have hUget : Hid (∀ i, i < tl → (Mat.firsts (rwData A) tl n1).getD i 0 = (Mat.there (rwData A)).getD i 0) := hid (fun i hi => by
          have := Mat.firsts_get (l := rwData A) hi hth.out
          rwa [HL.out] at this)
        have hUlen : Hid ((Mat.firsts (rwData A) tl n1).length = tl) := hid (by rw [← hTl.out, htl])
        have hA2 := hA1.below hbo
        have hR2 := hR.below hbo
        have hTM : Ms wo t1 T.length tc1 T := ⟨hts, by rw [HT.out]; exact picks_bt hA2 _ hUn.out⟩
        obtain ⟨p1, pc1, hV2, hps⟩ := own_sl hT.p.own
        have hPM : Ms wo p1 P.length pc1 P := ⟨hps, by rw [HP2.out]; exact picks_bt hR2 _ hUn.out⟩
        rw [hPl.out, htl] at hPM hV2
        rw [htl] at hTM
        have hT0 : 0 < T.length := by omega
        obtain ⟨g1, goff, rfl, _⟩ := hTM.sl.addr (by omega)
        have y0 := (hTM.at 0 hT0).1
        have hn0 := Bt.n (hTM.at 0 hT0).2
        have hr0 : T[0].l = (rwData A).getD ((Mat.there (rwData A)).getD 0 0) [] := by
          rw [← hUget.out 0 (by omega), ← getD_l]
          have hz0 : 0 < (Mat.firsts (rwData A) tl n1).length := by rw [hUlen.out]; omega
          simp only [HT.out, List.getElem_map]
          simp [List.getD, hz0]
        rw [hr0] at hn0
        generalize T[0] = r0 at *
        obtain ⟨ra0, n0, rc0, rl0⟩ := r0
        simp only [Nat.add_zero] at y0 hn0
        have hw0 : Hid (Mat.wid (rwData A) ((Mat.there (rwData A)).getD 0 0) = n0) := hid hn0
        clear hr0 hn0 hps hts
        replace hT := hid hT
        replace hV2 := hid hV2
        replace htl := hid htl
        rw [htl.out]
        rw [hV2.out]
        go_wp2_with fail
        go_loopg [63] n1 (fun g i wr => ∃ k : Nat, g = n1 - k ∧ k ≤ n1 ∧ i = .int .i64 (k : Int) ∧ wo = wr ∧ Hid (∀ j (hj : j < A.length), j < k → A[j].n ≤ 400 ∧ (0 < A[j].n → A[j].n = n0)))
        case atStart => exact ⟨0, rfl, by omega, rfl, rfl, hid (fun j _ hj => absurd hj (by omega))⟩
        case round =>
          obtain ⟨k, rfl, hk, rfl, rfl, hall⟩ := hrel
          by_cases hlt : k < n1
          · have hkA : k < A.length := by rw [HN.out]; exact hlt
            have x0 := (hA2.at k hkA).1
            have hl := hid (Bt.n (hA2.at k hkA).2)
            have hmem : Hid (A[k].l ∈ rwData A) := hid (List.mem_map.2 ⟨_, List.getElem_mem hkA, rfl⟩)
            generalize hra : A[k] = ra at *
            replace hra := hid hra
            have i0 : (0 : Int) ≤ (k : Int) := by omega
            have i1 : (k : Int) < (n1 : Int) := by omega
            by_cases hz : ra.n = 0
            · rw [hz] at x0
              go_wp2_with fail
              go_roundg (n1 - (k + 1))
              case measure => omega
              case rel =>
                refine ⟨k + 1, rfl, by omega, by go_num, rfl, hid (fun j hj hjk => ?_)⟩
                by_cases e : j = k
                · subst e; rw [hra.out, hz]; exact ⟨by omega, fun h => absurd h (by omega)⟩
                · exact hall.out j hj (by omega)
            · have v0 : (0 : Int) < (ra.n : Int) := by omega
              have v1 : 0 < ra.n := by omega
              by_cases hne : ra.n = n0
              · by_cases h400 : 400 < ra.n
                · have hM := hid (Mat.mend_form (l := rwData A) (d := (tl : Int)) hC.out (by have := hth.out; omega) ⟨_, hmem.out, .inl (by rw [hl.out]; exact h400)⟩)
                  have hb := bnext b1 hbo
                  have v2 : (400 : Int) < (ra.n : Int) := by omega
                  subst hne
                  go_wp2_with fail
                  go_ret2
                  exact ⟨_, _, _, [], 2, rfl, Ms.nil _, hM.out, hb⟩
                · have v2 : ¬ (400 : Int) < (ra.n : Int) := by omega
                  subst hne
                  go_wp2_with fail
                  go_roundg (n1 - (k + 1))
                  case measure => omega
                  case rel =>
                    refine ⟨k + 1, rfl, by omega, by go_num, rfl, hid (fun j hj hjk => ?_)⟩
                    by_cases e : j = k
                    · subst e; rw [hra.out]; exact ⟨by omega, fun _ => rfl⟩
                    · exact hall.out j hj (by omega)
              · have hM := hid (Mat.mend_form (l := rwData A) (d := (tl : Int)) hC.out (by have := hth.out; omega) ⟨_, hmem.out, .inr ⟨by rw [hl.out]; exact v1, by rw [hl.out, hw0.out]; exact hne⟩⟩)
                have hb := bnext b1 hbo
                have v2 : ((ra.n : Int) != (n0 : Int)) = true := by rw [bne_iff_ne]; omega
                have v3 : (ra.n != n0) = true := bne_iff_ne.2 hne
                have hne' := hid hne
                clear hne
                go_wp2_with fail
                go_ret2
                exact ⟨_, _, _, [], 2, rfl, Ms.nil _, hM.out, hb⟩
          · obtain rfl : n1 = k := by omega
            have hgood : Hid (¬ Mat.BadForm (rwData A)) := hid (fun ⟨q, hq, hbad⟩ => by
              obtain ⟨r, hr, rfl⟩ := List.mem_map.1 hq
              obtain ⟨j, hj, rfl⟩ := List.getElem_of_mem hr
              have h1 := hall.out j hj (by rw [← HN.out]; exact hj)
              have h2 := Bt.n (hA2.at j hj).2
              rw [h2, hw0.out] at hbad
              rcases hbad with h | ⟨h, h'⟩
              · omega
              · exact h' (h1.2 h))
            have hF1 : Hid (Mat.Fine (rwData P) tl tl) := hid ⟨by rw [rwData_length, hPl.out, htl.out], fun r hr => by
              rw [HP2.out, picks_data] at hr
              obtain ⟨u, hu, rfl⟩ := List.mem_map.1 hr
              have hu' : u < (rwData R1).length := by rw [HP.out.rows, ← hn.out]; exact hUn.out u hu
              rw [show (rwData R1).getD u [] = (rwData R1)[u] by simp [List.getD, hu']]
              exact HP.out.cols _ (List.getElem_mem _), h1, by omega, h1, by omega⟩
            have hpk : Hid (∀ i j, i < tl → j < tl → Mat.ent (rwData P) i j = Mat.picked tl (Mat.firsts (rwData A) tl n1) i j) := hid (fun i j hi hj => by
              rw [HP2.out, ent_picks _ _ (by rw [hUlen.out]; exact hi)]
              have hm : (Mat.firsts (rwData A) tl n1).getD i 0 < n1 := by
                rw [show (Mat.firsts (rwData A) tl n1).getD i 0 = (Mat.firsts (rwData A) tl n1)[i]'(by rw [hUlen.out]; exact hi) by simp [List.getD, hUlen.out, hi]]
                exact hUn.out _ (List.getElem_mem _)
              exact HP.out.eq _ j (by rw [← hn.out]; exact hm) hj)
            have hinj : Hid (Mat.Inj tl (Mat.ent (rwData P))) := hid (fun x hx => Mat.picked_inj (Mat.firsts (rwData A) tl n1) hUlen.out (by rw [hU.out]; exact (Mat.there_nodup _).sublist (List.take_sublist _ _)) (fun u hu => by have := hUn.out u hu; omega) x (fun i hi => by
              rw [← hx i hi]
              exact Mat.app_congr (fun k hk => (hpk.out i k hi hk).symm) (fun _ _ => rfl)))
            have hF2 : Hid (Mat.Fine (rwData T) tl n0) := hid (by
              have hrow : ∀ u ∈ Mat.firsts (rwData A) tl n1, ((rwData A).getD u []).length = n0 ∧ ((rwData A).getD u []).length ≤ 400 := fun u hu => by
                have := Mat.form_ok hgood.out (hUlt.out u hu)
                rwa [hw0.out] at this
              have hpos : 1 ≤ n0 ∧ n0 ≤ 400 := by
                have hm : (Mat.firsts (rwData A) tl n1)[0]'(by rw [hUlen.out]; omega) ∈ Mat.firsts (rwData A) tl n1 := List.getElem_mem _
                have h1 := hrow _ hm
                have h2 := (Mat.there_lt (hUlt.out _ hm)).2
                have h2 : 0 < ((rwData A).getD ((Mat.firsts (rwData A) tl n1)[0]'(by rw [hUlen.out]; omega)) []).length := by simpa [Mat.isThere] using h2
                omega
              refine ⟨by rw [rwData_length, htl.out], fun r hr => ?_, h1, by omega, hpos.1, hpos.2⟩
              rw [HT.out, picks_data] at hr
              obtain ⟨u, hu, rfl⟩ := List.mem_map.1 hr
              exact (hrow u hu).1)
            have hbW := bnext b1 hbo
            clear y0
            go_wp2_with fail
            go_at_call 105
            refine (gInvert_call _ _ _ _ _ hPM).mono ?_
            rintro e w3 ⟨a3, n3, c3, R3, e3, rfl, h3, hp3, b3⟩
            obtain ⟨f, hR3, hU3, rfl⟩ := Mat.InvR.inj hF1.out hinj.out hp3
            have hF3 := hid (hR3.fine h1 (by omega) h1 (by omega))
            replace hR3 := hid hR3
            replace hU3 := hid hU3
            have hT3 := hTM.below b3
            replace b3 := bnext hbW b3
            clear hp3 hPM
            go_wp2_with fail
            go_at_call 101
            refine (gMul_call _ _ _ _ _ _ _ _ _ h3 hT3).mono ?_
            rintro e w4 ⟨a4, n4, c4, R4, e4, rfl, h4, hp4, b4⟩
            obtain ⟨hR4, rfl⟩ := Mat.MulR.ok hF3.out hF2.out hp4
            have hF4 := hid (hR4.fine h1 (by omega) hF2.out.m1 hF2.out.m2)
            replace hR4 := hid hR4
            replace b4 := bnext b3 b4
            clear hp4 b3 h3 hT3 hTM
            go_wp2_with fail
            go_at_call 89
            refine (cSpare_call _ _ _ _ _ _ h4).mono ?_
            rintro e w5 ⟨a5, n5, c5, R5, e5, rfl, h5, hp5, b5⟩
            obtain ⟨hR5, rfl⟩ := Mat.SpareR.ok hF4.out (by omega) h3' hp5
            replace h4 := h4.below b5
            replace b5 := bnext b4 b5
            have hn4 : n4 = tl := by rw [← h4.dn, hR4.out.rows]
            have hn5 : n5 = s := by rw [← h5.dn, hR5.rows]
            rw [hn4] at h4
            rw [hn5] at h5
            obtain rfl := hn4.symm
            obtain rfl := hn5.symm
            replace hR5 := hid hR5
            clear hp5 b4
            go_wp2_with fail
            have B5 : Below w5.heap.size w5 (w5.alloc (.cells #[.slice a4 tl c4, .slice a5 s c5] 156)) := (Below.refl _ _).alloc (Nat.le_refl _) _
            go_at_call 106
            refine (ConcatM_call _ _ _ _ _ _ _ _ _ _ (h4.below B5) (h5.below B5) (cell_new _ _ _ 0) (cell_new _ _ _ 1) (by omega) (by omega)).mono ?_
            rintro e w6 ⟨a6, n6, c6, rfl, h6, b6⟩
            have b7 := bnext b5 (B5.trans (b6.mono B5.size))
            go_wp2_with fail
            go_ret2
            refine ⟨_, _, _, _, 0, rfl, h6, Mat.mend_ok hC.out hth.out hgood.out (f := f) (n := n0) ?_ hw0.out ?_, b7⟩
            · rw [HL.out]; exact Mat.undo_congr hU3.out hpk.out
            · have e1 : rwData (R4 ++ R5) = rwData R4 ++ rwData R5 := by simp [rwData]
              rw [e1, HL.out, hn.out]
              refine (Mat.all_rows hF4.out.rep hR5.out).congr fun i j hi hj => ?_
              unfold Mat.mendM
              refine Mat.mul_congr (fun _ _ => rfl) fun k hk => ?_
              rw [hR4.out.eq k j hk hj]
              refine Mat.mul_congr (fun q hq => hR3.out.eq k q hk hq) fun q hq => ?_
              rw [HT.out, ent_picks _ _ (by rw [hUlen.out]; exact hq), hUget.out q hq]
theorem cMend_call (a : Option Addr) (n ac : Nat) (A : List Rw) (d : Int) (hd : -9223372036854775808 ≤ d ∧ d ≤ 9223372036854775807) (w : World) (hA : Ms w a n ac A) : Calls Try.prog 92 #[.slice a n ac, .int .i64 d] w (MRes (Mat.MendR (rwData A) d) w) := by
  by_cases hc : Mat.wrongC d ((n : Int) - d) = 0
  · have hc2 := Mat.wrongC_ok hc
    obtain ⟨D, rfl⟩ := Int.eq_ofNat_of_zero_le (a := d) (by omega)
    exact cMend_ok a n ac D (n - D) A w hA (by omega) (by omega) (by omega) (by omega)
  · exact (cMend_bad a n ac A d hd w hA hc).mono fun e w' hh => NilB.res hh (by
      have := Mat.mend_none (l := rwData A) (d := d) (by rw [hA.dn]; exact hc)
      rwa [hA.dn] at this)
end Go.Proofs.Ythhcdfjijagalaa
namespace Go.Proofs.Ythhcdfjijagalaa
open Go.RowKit
set_option linter.unusedVariables false
end Go.Proofs.Ythhcdfjijagalaa
namespace Go.Proofs.Ythhcdfjijagalaa
open Go.RowKit
set_option linter.unusedVariables false
theorem rwData_set (A : List Rw) (i : Nat) (r : Rw) : rwData (A.set i r) = (rwData A).set i r.l := by simp [rwData, List.map_set]
end Go.Proofs.Ythhcdfjijagalaa
namespace Go.Proofs.Ythhcdfjijagalaa
open Go.RowKit
set_option linter.unusedVariables false
end Go.Proofs.Ythhcdfjijagalaa
namespace Go.Proofs.Ythhcdfjijagalaa
open Go.RowKit
set_option linter.unusedVariables false
end Go.Proofs.Ythhcdfjijagalaa
namespace Go.Proofs.Ythhcdfjijagalaa
open Go.RowKit Go.Maps
set_option linter.unusedVariables false
set_option maxRecDepth 100000
theorem plainElem_bool_inv {v : Value} {z : DataW Unit × List MemPlace} (h : (plainElem (H := Unit) Try.prog 4) v = some z) : ∃ x, v = .bool x ∧ z = (.lit (.bool x), []) := by
  unfold plainElem at h
  rw [Try.underlying4] at h
  cases v <;> simp at h
  exact ⟨_, rfl, h.symm⟩
end Go.Proofs.Ythhcdfjijagalaa
namespace Go.Proofs.Ythhcdfjijagalaa
open Go.RowKit Go.Maps
set_option linter.unusedVariables false
set_option maxRecDepth 100000
/-- a harm -/
structure HarmV where
  sh : Int
  t : Int
  y : UInt8
section
variable {w w' : World} {a : Option Addr} {n cap : Nat} {l : List HarmV}
end
theorem Mb.set {w0 w : World} {row : Option Nat} {base g n cap : Nat} {R : List Rw} (h : Mb w0 w row base (.slice (some ⟨g, 0, none⟩) n cap) R) (i : Nat) (hi : i < R.length) (r : Rw) (hb : Bt w r.a r.n r.cap r.l) (ha : Apart (.slice (some ⟨g, 0, none⟩) n cap) r) :
    Mb w0 (w.setCell ⟨g, i, none⟩ (.slice r.a r.n r.cap)) row base (.slice (some ⟨g, 0, none⟩) n cap) (R.set i r) := by
  have hn : R.length = n := by
    have := h.own.own
    rcases this.2 with ⟨h', _⟩ | ⟨g', cap', cur, h', _⟩
    · simp at h'
    · simp only [Value.slice.injEq] at h'; exact h'.2.1.symm
  have ho := h.own.own
  subst hn
  have hs := World.ownsRow.stored ho i (.slice r.a r.n r.cap)
  have hq : ∀ q ∈ R.set i r, Bt w q.a q.n q.cap q.l ∧ Apart (.slice (some ⟨g, 0, none⟩) R.length cap) q := fun q hq => by
    rcases List.mem_or_eq_of_mem_set hq with hq | rfl
    · exact ⟨h.bt q hq, h.apart q hq⟩
    · exact ⟨hb, ha⟩
  refine ⟨?_, fun q h1 => (hq q h1).1.grown hs.2 (hq q h1).2, fun q h1 => (hq q h1).2⟩
  have e : rwCells (R.set i r) = (rwCells R).set i (.slice r.a r.n r.cap) := by simp [rwCells, List.map_set, Rw.v]
  rw [e, List.length_set]
  exact h.own.more hs.1 hs.2 (.inl rfl)
theorem blk_grown {w w' : World} {b : Nat} {o : Obj} {q : Option Nat} (h : w.heap[b]? = some o) (hg : w.grownBy w' q) (hne : some b ≠ q) : w'.heap[b]? = some o := (hg.block b (blk_lt h) hne).trans h
end Go.Proofs.Ythhcdfjijagalaa
