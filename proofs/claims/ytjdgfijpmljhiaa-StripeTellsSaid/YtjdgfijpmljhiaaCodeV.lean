/- Contract of chapter 3: the reference's Mend. -/
import Derived.Test.YtjdgfijpmljhiaaCodeU
import Derived.Test.YtjdgfijpmljhiaaCodeF
import Derived.Test.YtjdgfijpmljhiaaCoB
import Derived.Test.YtjdgfijpmljhiaaGridJ
namespace Go.Proofs.Ytjdgfijpmljhiaa
open Go.RowKit
set_option linter.unusedVariables false
theorem info_intt : (Try.prog.info? 3).map (fun i => (i.zero, i.size, i.bytes)) = some (some (.int .i64 0), 1, 8) := by kernel_rfl
def natCells (U : List Nat) : List Value := U.map fun (u : Nat) => Value.int .i64 (u : Int)
theorem natCells_append (U V : List Nat) : natCells (U ++ V) = natCells U ++ natCells V := by simp [natCells]
/-- the first k's shards that are there -/
def thereTo (l : List (List UInt8)) (k : Nat) : List Nat := (List.range k).filter (Mat.isThere l)
theorem thereTo_all (l : List (List UInt8)) : thereTo l l.length = Mat.there l := rfl
theorem thereTo_no {l : List (List UInt8)} {k : Nat} (h : Mat.isThere l k = false) : thereTo l (k + 1) = thereTo l k := by
  unfold thereTo
  rw [List.range_succ, List.filter_append, List.filter_cons_of_neg (by simp [h]), List.filter_nil, List.append_nil]
theorem thereTo_yes {l : List (List UInt8)} {k : Nat} (h : Mat.isThere l k = true) : thereTo l (k + 1) = thereTo l k ++ [k] := by
  unfold thereTo
  rw [List.range_succ, List.filter_append, List.filter_cons_of_pos h, List.filter_nil]
theorem thereTo_le (l : List (List UInt8)) (k : Nat) : (thereTo l k).length ≤ k := by
  have := List.length_filter_le (Mat.isThere l) (List.range k)
  rwa [List.length_range] at this
/-- what has been summed up ahead of p; of j -/
def inTo (l : List (List UInt8)) (U : List Nat) (f : Mat.M) (j t p : Nat) : UInt8 := Mat.sum p fun q => Mat.gmul (f j q) (Mat.ent l (U.getD q 0) t)
def outTo (d : Nat) (l : List (List UInt8)) (U : List Nat) (f : Mat.M) (i t j : Nat) : UInt8 := Mat.sum j fun q => Mat.gmul (Mat.rowM d i q) (inTo l U f q t d)
theorem inTo_succ (l : List (List UInt8)) (U : List Nat) (f : Mat.M) (j t p : Nat) : inTo l U f j t (p + 1) = Mat.gadd (inTo l U f j t p) (Mat.gmul (f j p) (Mat.ent l (U.getD p 0) t)) := rfl
theorem outTo_succ (d : Nat) (l : List (List UInt8)) (U : List Nat) (f : Mat.M) (i t j : Nat) : outTo d l U f i t (j + 1) = Mat.gadd (outTo d l U f i t j) (Mat.gmul (Mat.rowM d i j) (inTo l U f j t d)) := rfl
theorem outTo_all (d : Nat) (l : List (List UInt8)) (f : Mat.M) (i t : Nat) : outTo d l (Mat.there l) f i t d = Mat.mendM l d f i t := rfl

set_option maxRecDepth 100000 in
set_option maxHeartbeats 1000000 in
theorem rMend_bad (a : Option Addr) (n ac : Nat) (A : List Rw) (d : Int) (hd : -9223372036854775808 ≤ d ∧ d ≤ 9223372036854775807) (w : World) (hA : Ms w a n ac A) (hc : Mat.wrongC d ((n : Int) - d) ≠ 0) : Calls Try.prog 54 #[.slice a n ac, .int .i64 d] w (NilB (Mat.wrongC d ((n : Int) - d)) w) := by
  have hz := wrongC_wrap hA.maxN hd
  rw [← hz] at hc ⊢
  generalize hzz : IntKind.i64.wrap ((n : Int) - d) = z at *
  have u0 : (Mat.wrongC d z != 0) = true := bne_iff_ne.2 hc
  have D := hid (rRows_bad d z w hc)
  generalize Mat.wrongC d z = e at *
  replace hc := hid hc
  replace hz := hid hz
  replace hd := hid hd
  go_enter Try.func54, Try.ntmps54
  go_wp2_with fail
  go_at_call 64
  refine (D.out).mono ?_
  rintro e' w1 ⟨rfl, b1⟩
  go_wp2_with fail
  go_ret2
  exact ⟨rfl, b1⟩
set_option maxRecDepth 100000 in
set_option maxHeartbeats 4000000 in
theorem rMend_ok (a : Option Addr) (n ac D s : Nat) (A : List Rw) (w : World) (hA : Ms w a n ac A) (hn : n = D + s) (h1 : 1 ≤ D) (h2 : D ≤ 8) (h3' : s ≤ 4) : Calls Try.prog 54 #[.slice a n ac, .int .i64 (D : Int)] w (MRes (Mat.MendR (rwData A) (D : Int)) w) := by
  have HN := hid hA.cnt
  have HL := hid hA.dn
  have s1 : IntKind.i64.wrap ((n : Int) - (D : Int)) = (s : Int) := by rw [IntWalk.i64_in _ (by omega)]; omega
  have s2 : (n : Int) - (D : Int) = (s : Int) := by omega
  have hC := hid (show Mat.wrongC (D : Int) (((rwData A).length : Int) - (D : Int)) = 0 by rw [HL.out]; exact Mat.wrongC_of (by omega))
  have hn12 : n ≤ 12 := by omega
  have hn1 : 1 ≤ n := by omega
  replace hn := hid hn
  obtain ⟨ab, aoff, rfl, _⟩ := hA.sl.addr (by omega)
  go_enter Try.func54, Try.ntmps54
  go_wp2_with fail
  go_at_call 64
  refine (rRows_ok D s w h1 h2 h3').mono ?_
  rintro e w1 ⟨a1, n1, c1, R1, e1, rfl, hR, ⟨hp1, rfl⟩, b1⟩
  obtain rfl : n1 = n := by rw [← hR.dn, hp1.rows, hn.out]
  have HR := hid hR.cnt
  have HP := hid hp1
  obtain ⟨rb, roff, rfl, _⟩ := hR.sl.addr (by omega)
  have hA1 := hA.below b1
  clear hp1
  go_wp2_with fail
  go_loopg [8, 40] n1 (fun g s8 s40 wr => ∃ k : Nat, g = n1 - k ∧ k ≤ n1 ∧ s40 = .int .i64 (k : Int) ∧ OT w1 wr none w1.heap.size 3 1 s8 (thereTo (rwData A) k).length (natCells (thereTo (rwData A) k)))
  case atStart => exact ⟨0, rfl, by omega, rfl, OT.fresh (World.ownsRow_nil _ _ _ _) (Below.refl _ _) (Nat.le_refl _)⟩
  case round =>
    obtain ⟨k, rfl, hk, rfl, hO⟩ := hrel
    obtain ⟨wo, rfl⟩ : ∃ wo : World, wo = wr := ⟨_, rfl⟩
    have hbo := hO.belowOf (Nat.le_refl _) (fun k e => by cases e)
    have hszo := hbo.size
    by_cases hlt : k < n1
    · have hkA : k < A.length := by rw [HN.out]; exact hlt
      have hA2 := hA1.below hbo
      have x0 := (hA2.at k hkA).1
      have hl := Bt.n (hA2.at k hkA).2
      have hth : Mat.isThere (rwData A) k = decide (0 < A[k].n) := by
        unfold Mat.isThere
        rw [show (rwData A).getD k [] = A[k].l by simp [List.getD, rwData, hkA], hl]
      have hle := thereTo_le (rwData A) k
      generalize A[k] = ra at *
      replace hl := hid hl
      by_cases hz : 0 < ra.n
      · have hy := hid (thereTo_yes (l := rwData A) (k := k) (by rw [hth]; simpa using hz))
        have u0 : (0 : Int) < (ra.n : Int) := by omega
        go_wp2_with (refine wpList_append_t rfl (.tmp 48) (.tmp 50) 56 56 rfl w1.heap.size 3 1 8 (.int .i64 0) Try.underlying56 info_intt rfl (by decide) _ (thereTo (rwData A) k).length (natCells (thereTo (rwData A) k)) rfl (hO.alloc (.cells #[.int .i64 (k : Int)] 3)) (.slice (some ⟨wo.heap.size, 0, none⟩) 1 1) 1 [.int .i64 (k : Int)] rfl (Src.ofLit wo #[.int .i64 (k : Int)] 3 1 1 Try.underlying56 rfl (by simp [Value.oneCell'])) (by unfold maxLen; omega) (by omega) (by simp; omega) ?_; intro v2 w2 ho2 hg2)
        go_roundg (n1 - (k + 1))
        case measure => omega
        case rel =>
          refine ⟨k + 1, rfl, by omega, by go_num, ?_⟩
          rw [hy.out, natCells_append, List.length_append]
          exact ho2
      · have hf := hid (thereTo_no (l := rwData A) (k := k) (by rw [hth]; simpa using hz))
        have u0 : ra.n = 0 := by omega
        rw [u0] at x0
        go_wp2_with fail
        go_roundg (n1 - (k + 1))
        case measure => omega
        case rel => exact ⟨k + 1, rfl, by omega, by go_num, by rw [hf.out]; exact hO⟩
    · obtain rfl : n1 = k := by omega
      have hU := hid (show thereTo (rwData A) n1 = Mat.there (rwData A) by rw [← HL.out]; exact thereTo_all _)
      have hUl := thereTo_le (rwData A) n1
      rw [hU.out] at hO hUl
      obtain ⟨ua, uc, rfl, hIs⟩ := own_sl hO.own
      obtain ⟨ul, hul⟩ : ∃ ul, (Mat.there (rwData A)).length = ul := ⟨_, rfl⟩
      rw [hul] at hIs hUl ⊢
      replace hul := hid hul
      have hA2 := hA1.below hbo
      clear hO
      by_cases hfew : ul < D
      · have u0 : (ul : Int) < (D : Int) := by omega
        have hb := bnext b1 hbo
        have hM := hid (Mat.mend_few (l := rwData A) (d := (D : Int)) hC.out (by have := hul.out; omega))
        go_wp2_with fail
        go_ret2
        exact ⟨_, _, _, [], 10, rfl, Ms.nil _, hM.out, hb⟩
      · have u0 : ¬ (ul : Int) < (D : Int) := by omega
        have hUlt : Hid (∀ u ∈ Mat.there (rwData A), u < n1) := hid (fun u hu => by have := (Mat.there_lt hu).1; rwa [HL.out] at this)
        obtain ⟨ub, uoff, rfl, _⟩ := hIs.addr (by omega)
        have hUat : Hid (∀ p, p < ul → ∃ hp : p < (Mat.there (rwData A)).length, (natCells (Mat.there (rwData A)))[p]? = some (.int .i64 (((Mat.there (rwData A)).getD p 0 : Nat) : Int)) ∧ (Mat.there (rwData A)).getD p 0 < n1 ∧ (Mat.there (rwData A)).getD p 0 ∈ Mat.there (rwData A)) := hid (fun p hp => by
          have hp' : p < (Mat.there (rwData A)).length := by rw [hul.out]; exact hp
          have e : (Mat.there (rwData A)).getD p 0 = (Mat.there (rwData A))[p] := by simp [List.getD, hp']
          rw [e]
          exact ⟨hp', by simp [natCells, hp'], hUlt.out _ (List.getElem_mem _), List.getElem_mem _⟩)
        -- what row 0 of those that are there is
        obtain ⟨hp0, hc0, hu0, hm0⟩ := hUat.out 0 (by omega)
        have y0 := hIs.cell (by omega) hc0
        rw [Nat.add_zero] at y0
        obtain ⟨v0, hv0⟩ : ∃ v0, (Mat.there (rwData A)).getD 0 0 = v0 := ⟨_, rfl⟩
        rw [hv0] at y0 hu0
        have hv0A : v0 < A.length := by rw [HN.out]; exact hu0
        have y1 := (hA2.at v0 hv0A).1
        have hw0 : Hid (Mat.wid (rwData A) ((Mat.there (rwData A)).getD 0 0) = A[v0].n) := hid (by
          rw [hv0, wid_row hv0A, Bt.n (hA2.at v0 hv0A).2])
        obtain ⟨m, hm⟩ : ∃ m, A[v0].n = m := ⟨_, rfl⟩
        rw [hm] at y1 hw0
        replace hm := hid hm
        replace hv0 := hid hv0
        clear hc0
        go_wp2_with fail
        clear y0 y1
        have hth := hid (show D ≤ (Mat.there (rwData A)).length by have := hul.out; omega)
        go_loopg [66] n1 (fun g i wr => ∃ k : Nat, g = n1 - k ∧ k ≤ n1 ∧ i = .int .i64 (k : Int) ∧ wo = wr ∧ Hid (∀ j (hj : j < A.length), j < k → A[j].n ≤ 400 ∧ (0 < A[j].n → A[j].n = m)))
        case atStart => exact ⟨0, rfl, by omega, rfl, rfl, hid (fun j _ hj => absurd hj (by omega))⟩
        case round =>
          obtain ⟨k, rfl, hk, rfl, rfl, hall⟩ := hrel
          by_cases hlt : k < n1
          · have hkA : k < A.length := by rw [HN.out]; exact hlt
            have x0 := (hA2.at k hkA).1
            have hl := hid (Bt.n (hA2.at k hkA).2)
            have hmem : Hid (A[k].l ∈ rwData A) := hid (List.mem_map.2 ⟨_, List.getElem_mem hkA, rfl⟩)
            generalize hra : A[k] = ra at *
            replace hra := hid hra
            have i0 : (0 : Int) ≤ (k : Int) := by omega
            have i1 : (k : Int) < (n1 : Int) := by omega
            by_cases hz : ra.n = 0
            · rw [hz] at x0
              go_wp2_with fail
              go_roundg (n1 - (k + 1))
              case measure => omega
              case rel =>
                refine ⟨k + 1, rfl, by omega, by go_num, rfl, hid (fun j hj hjk => ?_)⟩
                by_cases e : j = k
                · subst e; rw [hra.out, hz]; exact ⟨by omega, fun h => absurd h (by omega)⟩
                · exact hall.out j hj (by omega)
            · have v0 : (0 : Int) < (ra.n : Int) := by omega
              have v1 : 0 < ra.n := by omega
              by_cases h400 : 400 < ra.n
              · have hM := hid (Mat.mend_form (l := rwData A) (d := (D : Int)) hC.out (by have := hth.out; omega) ⟨_, hmem.out, .inl (by rw [hl.out]; exact h400)⟩)
                have hb := bnext b1 hbo
                have v2 : (400 : Int) < (ra.n : Int) := by omega
                go_wp2_with fail
                go_ret2
                exact ⟨_, _, _, [], 2, rfl, Ms.nil _, hM.out, hb⟩
              · have v2 : ¬ (400 : Int) < (ra.n : Int) := by omega
                by_cases hne : ra.n = m
                · subst hne
                  go_wp2_with fail
                  go_roundg (n1 - (k + 1))
                  case measure => omega
                  case rel =>
                    refine ⟨k + 1, rfl, by omega, by go_num, rfl, hid (fun j hj hjk => ?_)⟩
                    by_cases e : j = k
                    · subst e; rw [hra.out]; exact ⟨by omega, fun _ => rfl⟩
                    · exact hall.out j hj (by omega)
                · have hM := hid (Mat.mend_form (l := rwData A) (d := (D : Int)) hC.out (by have := hth.out; omega) ⟨_, hmem.out, .inr ⟨by rw [hl.out]; exact v1, by rw [hl.out, hw0.out]; exact hne⟩⟩)
                  have hb := bnext b1 hbo
                  have v3 : ((ra.n : Int) != (m : Int)) = true := by rw [bne_iff_ne]; omega
                  have v4 : (ra.n != m) = true := bne_iff_ne.2 hne
                  have hne' := hid hne
                  clear hne
                  go_wp2_with fail
                  go_ret2
                  exact ⟨_, _, _, [], 2, rfl, Ms.nil _, hM.out, hb⟩
          · obtain rfl : n1 = k := by omega
            have hgood : Hid (¬ Mat.BadForm (rwData A)) := hid (fun ⟨q, hq, hbad⟩ => by
              obtain ⟨r, hr, rfl⟩ := List.mem_map.1 hq
              obtain ⟨j, hj, rfl⟩ := List.getElem_of_mem hr
              have h1 := hall.out j hj (by rw [← HN.out]; exact hj)
              have h2 := Bt.n (hA2.at j hj).2
              rw [h2, hw0.out] at hbad
              rcases hbad with h | ⟨h, h'⟩
              · omega
              · exact h' (h1.2 h))
            have hrowU : Hid (∀ p, p < ul → ((rwData A).getD ((Mat.there (rwData A)).getD p 0) []).length = m ∧ ((rwData A).getD ((Mat.there (rwData A)).getD p 0) []).length ≤ 400) := hid (fun p hp => by
              obtain ⟨_, _, _, h4⟩ := hUat.out p hp
              have := Mat.form_ok hgood.out h4
              rwa [hw0.out] at this)
            have hm1 : 1 ≤ m ∧ m ≤ 400 := by
              have h1 := hrowU.out 0 (by omega)
              obtain ⟨_, _, _, h4⟩ := hUat.out 0 (by omega)
              have h2 := (Mat.there_lt h4).2
              have h2 : 0 < ((rwData A).getD ((Mat.there (rwData A)).getD 0 0) []).length := by simpa [Mat.isThere] using h2
              omega
            have hbW := bnext b1 hbo
            have hRo := hR.below hbo
            clear hall
            have hule := hIs.le
            have hDu : D ≤ uc := by omega
            have hDu2 : (D : Int) ≤ (uc : Int) := by omega
            have hDu3 : (0 : Int) ≤ (D : Int) := by omega
            have hDu4 : D ≤ ul := by omega
            go_wp2_with fail
            -- the rows of those that are there
            go_loopg [14, 89] D (fun g s14 s89 wr => ∃ (k : Nat) (K : List Rw), g = D - k ∧ k ≤ D ∧ s89 = .int .i64 (k : Int) ∧ Hid (K = ((Mat.there (rwData A)).take k).map fun u => R1.getD u rw0) ∧ Mb wo wr none wo.heap.size s14 K)
            case atStart => exact ⟨0, [], rfl, by omega, rfl, hid rfl, Mb.nil _ _ (Below.refl _ _) _ (Nat.le_refl _)⟩
            case round =>
              obtain ⟨k, K, rfl, hk, rfl, HK, hM⟩ := hrel
              obtain ⟨wp, rfl⟩ : ∃ wp : World, wp = wr := ⟨_, rfl⟩
              have hbp := hM.own.belowOf (Nat.le_refl _) (fun k e => by cases e)
              by_cases hlt2 : k < D
              · obtain ⟨hp1, hc1, hu1, hm1'⟩ := hUat.out k (by omega)
                have x0 := (hIs.below hbp).cell (by omega) hc1
                have hKl : K.length = k := by rw [HK.out, List.length_map, List.length_take]; have := hul.out; omega
                have htk := hid (show (Mat.there (rwData A)).take (k + 1) = (Mat.there (rwData A)).take k ++ [(Mat.there (rwData A)).getD k 0] by
                  rw [List.take_succ_eq_append_getElem hp1]; simp [List.getD, hp1])
                obtain ⟨v, hv⟩ : ∃ v, (Mat.there (rwData A)).getD k 0 = v := ⟨_, rfl⟩
                rw [hv] at x0 hu1 htk
                have hvR : v < R1.length := by rw [HR.out]; exact hu1
                have x1 := ((hRo.below hbp).at v hvR).1
                have hbt := ((hRo.below hbp).at v hvR).2
                have hap : Apart _ R1[v] := apart_old hM.own.own (base := wo.heap.size) (fun hn b off e => by
                  have := (hRo.at v hvR).2
                  rw [e] at this
                  exact Bt.lt' this hn)
                have hgr : Hid (R1.getD v rw0 = R1[v]) := hid (by simp [List.getD, hvR])
                have i0 : (0 : Int) ≤ (v : Int) := by omega
                have i1 : (v : Int) < (n1 : Int) := by omega
                generalize R1[v] = rr at *
                have hK12 : K.length ≤ 65536 := by omega
                have hszp := hbp.size
                replace hv := hid hv
                replace hKl := hid hKl
                clear hc1
                go_wp2_with (refine wpList_append_row rfl (.tmp 93) (.tmp 98) 88 und_Matrix rfl wo.heap.size _ K rfl hM rr _ rfl rfl hbt hap hK12 hszp ?_; intro v5 w5 M5 g5)
                go_roundg (D - (k + 1))
                case measure => omega
                case rel => exact ⟨k + 1, K ++ [rr], rfl, by omega, by go_num, hid (by rw [htk.out, List.map_append, ← HK.out, List.map_cons, List.map_nil, hgr.out]), M5⟩
              · obtain rfl : D = k := by omega
                obtain ⟨pa, pc, rfl, hPM⟩ := hM.ms
                have HK2 : Hid (K = (Mat.firsts (rwData A) D n1).map fun u => R1.getD u rw0) := hid (by rw [HK.out, ← HL.out, Mat.firsts_all])
                have hUlen : Hid ((Mat.firsts (rwData A) D n1).length = D) := hid (by rw [← HL.out, Mat.firsts_len]; have := hth.out; omega)
                have hKl : Hid (K.length = D) := hid (by rw [HK2.out, List.length_map]; exact hUlen.out)
                have hUn : Hid (∀ u ∈ Mat.firsts (rwData A) D n1, u < n1) := hid (fun u hu => hUlt.out u (by
                  rw [← HL.out, Mat.firsts_all] at hu
                  exact List.mem_of_mem_take hu))
                have hF1 : Hid (Mat.Fine (rwData K) D D) := hid ⟨by rw [rwData_length, hKl.out], fun r hr => by
                  rw [HK2.out, picks_data] at hr
                  obtain ⟨u, hu, rfl⟩ := List.mem_map.1 hr
                  have hu' : u < (rwData R1).length := by rw [HP.out.rows, ← hn.out]; exact hUn.out u hu
                  rw [show (rwData R1).getD u [] = (rwData R1)[u] by simp [List.getD, hu']]
                  exact HP.out.cols _ (List.getElem_mem _), h1, by omega, h1, by omega⟩
                have hpk : Hid (∀ i j, i < D → j < D → Mat.ent (rwData K) i j = Mat.picked D (Mat.firsts (rwData A) D n1) i j) := hid (fun i j hi hj => by
                  rw [HK2.out, ent_picks _ _ (by rw [hUlen.out]; exact hi)]
                  have hm : (Mat.firsts (rwData A) D n1).getD i 0 < n1 := by
                    rw [show (Mat.firsts (rwData A) D n1).getD i 0 = (Mat.firsts (rwData A) D n1)[i]'(by rw [hUlen.out]; exact hi) by simp [List.getD, hUlen.out, hi]]
                    exact hUn.out _ (List.getElem_mem _)
                  exact HP.out.eq _ j (by rw [← hn.out]; exact hm) hj)
                have hinj : Hid (Mat.Inj D (Mat.ent (rwData K))) := hid (fun x hx => Mat.picked_inj (Mat.firsts (rwData A) D n1) hUlen.out (by rw [← HL.out, Mat.firsts_all]; exact (Mat.there_nodup _).sublist (List.take_sublist _ _)) (fun u hu => by have := hUn.out u hu; omega) x (fun i hi => by
                  rw [← hx i hi]
                  exact Mat.app_congr (fun k hk => (hpk.out i k hi hk).symm) (fun _ _ => rfl)))
                have hbP := bnext hbW hbp
                have hboP := hbo.trans (hbp.mono hbo.size)
                replace hM := hid hM
                rw [hKl.out] at hPM ⊢
                go_wp2_with fail
                go_at_call 71
                refine (rInvert_call _ _ _ _ _ hPM).mono ?_
                rintro e w3 ⟨a3, n3, c3, R3, e3, rfl, h3, hp3, b3⟩
                obtain ⟨f, hR3, hU3, rfl⟩ := Mat.InvR.inj hF1.out hinj.out hp3
                obtain rfl : n3 = D := by rw [← h3.dn, hR3.rows]
                have HB := hid h3.cnt
                obtain ⟨bb, boff, rfl, _⟩ := h3.sl.addr (by omega)
                have XB := hid (h3.heads hR3.cols)
                have XR := hid (hR.heads HP.out.cols)
                have hRB := hid hR3
                have hFin : Hid (∀ L, Mat.Rep L n1 m (Mat.mendM (rwData A) n3 f) → Mat.MendR (rwData A) (n3 : Int) L 0) := hid (fun L hL => Mat.mend_ok hC.out hth.out hgood.out (f := f) (n := m) (by rw [HL.out]; exact Mat.undo_congr hU3 hpk.out) hw0.out (by rw [HL.out]; exact hL))
                have b13 := hboP.trans (b3.mono hboP.size)
                have bo3 := hbp.trans (b3.mono hbp.size)
                replace b3 := bnext hbP b3
                clear hp3 hR3 hU3 hPM hpk hinj hF1
                go_wp2_with fail
                go_loopg [18, 111] n1 (fun g s18 s111 wr => ∃ (k : Nat) (R : List Rw), g = n1 - k ∧ k ≤ n1 ∧ s111 = .int .i64 (k : Int) ∧ Hid (R.length = k) ∧ Mb w3 wr none w3.heap.size s18 R ∧ Hid (∀ i (hi : i < R.length), R[i].l.length = m ∧ ∀ t, t < m → R[i].l.getD t 0 = Mat.mendM (rwData A) n3 f i t))
                case atStart => exact ⟨0, [], rfl, by omega, rfl, hid rfl, Mb.nil _ _ (Below.refl _ _) _ (Nat.le_refl _), hid (fun i hi => absurd hi (by simp))⟩
                case round =>
                  obtain ⟨k, R, rfl, hk, rfl, HRl, hM3, HD⟩ := hrel
                  obtain ⟨wq, rfl⟩ : ∃ wq : World, wq = wr := ⟨_, rfl⟩
                  have hbq := hM3.own.belowOf (Nat.le_refl _) (fun k e => by cases e)
                  have hszq := hbq.size
                  by_cases hlt3 : k < n1
                  · go_wp2_with (refine wpList_make_bytes rfl (.tmp 114) (.tmp 114) rfl m rfl rfl (by omega) ?_; intro w4 o4 b4 z4)
                    go_loopg [118] m (fun g s118 wr => ∃ (t : Nat) (l : List UInt8), g = m - t ∧ t ≤ m ∧ s118 = .int .i64 (t : Int) ∧ wr.ownsRow wq.heap.size 5 1 (.slice (some ⟨wq.heap.size, 0, none⟩) m m) m (cb l) ∧ Below wq.heap.size wq wr ∧ Hid (∀ v, v < m → l.getD v 0 = if v < t then Mat.mendM (rwData A) n3 f k v else 0))
                    case atStart => exact ⟨0, _, rfl, by omega, rfl, o4, b4, hid (fun v hv => by simp [List.getD, hv])⟩
                    case round =>
                      clear o4 b4 z4
                      obtain ⟨t, l, rfl, ht, rfl, hO, hB, HJ⟩ := hrel
                      obtain ⟨wt, rfl⟩ : ∃ wt : World, wt = wr := ⟨_, rfl⟩
                      by_cases htm : t < m
                      · go_wp2_with fail
                        go_loopg [22] n3 (fun g s22 wr => ∃ (j : Nat) (l' : List UInt8), g = n3 - j ∧ j ≤ n3 ∧ s22 = .int .i64 (j : Int) ∧ wr.ownsRow wq.heap.size 5 1 (.slice (some ⟨wq.heap.size, 0, none⟩) m m) m (cb l') ∧ Below wq.heap.size wq wr ∧ Hid (∀ v, v < m → l'.getD v 0 = if v < t then Mat.mendM (rwData A) n3 f k v else if v = t then outTo n3 (rwData A) (Mat.there (rwData A)) f k t j else 0))
                        case atStart =>
                          refine ⟨0, l, rfl, by omega, rfl, hO, hB, hid (fun v hv => ?_)⟩
                          rw [HJ.out v hv]
                          by_cases e : v < t
                          · rw [if_pos e, if_pos e]
                          · rw [if_neg e, if_neg e]
                            by_cases e2 : v = t
                            · rw [if_pos e2]; rfl
                            · rw [if_neg e2]
                        case round =>
                          clear hO hB HJ
                          obtain ⟨j, l', rfl, hj, rfl, hO, hB, HJ⟩ := hrel
                          obtain ⟨wu, rfl⟩ : ∃ wu : World, wu = wr := ⟨_, rfl⟩
                          by_cases hjn : j < n3
                          · have hb3u := hbq.trans (hB.mono hbq.size)
                            have hjB : j < R3.length := by rw [HB.out]; exact hjn
                            obtain ⟨ba, bc, hba, eb⟩ := XB.out j hjB
                            go_wp2_with fail
                            go_loopg [23, 130] n3 (fun g s23 s130 wr => ∃ p q : Nat, g = n3 - p ∧ p ≤ n3 ∧ s130 = .int .i64 (p : Int) ∧ s23 = .int .u8 ((inTo (rwData A) (Mat.there (rwData A)) f j t p).toNat : Int) ∧ wr = wu.drewN q)
                            case atStart => exact ⟨0, 0, rfl, by omega, rfl, rfl, rfl⟩
                            case round =>
                              obtain ⟨p, q, rfl, hp, rfl, rfl, rfl⟩ := hrel
                              by_cases hpn : p < n3
                              · have hb3V := below_drewN hb3u q
                                obtain ⟨_, hcp, hup, hmp⟩ := hUat.out p (by omega)
                                have x0 := (hIs.below (bo3.trans (hb3V.mono bo3.size))).cell (by omega) hcp
                                have x1 := eb _ hb3V
                                have hbaV := hba.below hb3V
                                obtain ⟨bab, baoff, rfl, _⟩ := hbaV.addr (by omega)
                                have x2 := Bt.at hbaV p hpn
                                obtain ⟨v, hv⟩ : ∃ v, (Mat.there (rwData A)).getD p 0 = v := ⟨_, rfl⟩
                                have hw1 := (hrowU.out p (by omega)).1
                                have hent : (Mat.ent (rwData A) ((Mat.there (rwData A)).getD p 0) t) = ((rwData A).getD ((Mat.there (rwData A)).getD p 0) []).getD t 0 := rfl
                                rw [hv] at x0 hup hw1 hent
                                have hvA : v < A.length := by rw [HN.out]; exact hup
                                have hAV := (hA.below (bnext b3 hb3V)).at v hvA
                                rw [getD_rw hvA] at hw1 hent
                                have hvn : A[v].n = m := by rw [← Bt.n hAV.2]; exact hw1
                                obtain ⟨x3, hx3⟩ := hAV
                                rw [hvn] at x3 hx3
                                obtain ⟨avb, avoff, hav, _⟩ := hx3.addr (by omega)
                                rw [hav] at x3 hx3
                                have x4 := Bt.at hx3 t htm
                                have h8a := at8_lt R3[j].l p
                                have h8b := at8_lt A[v].l t
                                have h8z := Mat.lt (inTo (rwData A) (Mat.there (rwData A)) f j t p)
                                have e8 : (inTo (rwData A) (Mat.there (rwData A)) f j t (p + 1)).toNat = (inTo (rwData A) (Mat.there (rwData A)) f j t p).toNat ^^^ Fld.mul (at8 R3[j].l p) (at8 A[v].l t) := by
                                  rw [inTo_succ, hv, hent, Mat.toNat_add, Mat.toNat_mul, ← hRB.out.eq j p hjn hpn, ent_rw hjB]; rfl
                                have hxx := u8_xor_nat (inTo (rwData A) (Mat.there (rwData A)) f j t p).toNat (Fld.mul (at8 R3[j].l p) (at8 A[v].l t)) h8z (Fld.mul_lt _ _)
                                rw [← e8] at hxx
                                have D := hid (fun W => (rMul_call (at8 R3[j].l p) (at8 A[v].l t) h8a h8b W).mono fun _ _ h => h.drew)
                                have i0 : (0 : Int) ≤ (p : Int) := by omega
                                have i1 : (p : Int) < (n3 : Int) := by omega
                                have i2 : (0 : Int) ≤ (v : Int) := by omega
                                have i3 : (v : Int) < (n1 : Int) := by omega
                                have i4 : (0 : Int) ≤ (t : Int) := by omega
                                have i5 : (t : Int) < (m : Int) := by omega
                                have i6 : (0 : Int) ≤ (j : Int) := by omega
                                have i7 : (j : Int) < (n3 : Int) := by omega
                                have iw : IntKind.i64.wrap (v : Int) = (v : Int) := IntWalk.i64_in _ (by omega)
                                clear e8 hcp hmp hent hw1 hav hvn
                                generalize at8 R3[j].l p = va at *
                                generalize at8 A[v].l t = vb at *
                                generalize Fld.mul va vb = vm at *
                                generalize (inTo (rwData A) (Mat.there (rwData A)) f j t p).toNat = z0 at *
                                generalize hz1 : (inTo (rwData A) (Mat.there (rwData A)) f j t (p + 1)).toNat = z1 at *
                                replace hz1 := hid hz1
                                replace hv := hid hv
                                obtain ⟨W, hW⟩ : ∃ W, wu.drewN q = W := ⟨_, rfl⟩
                                rw [hW] at x0 x1 x2 x3 x4 ⊢
                                replace hW := hid hW
                                go_wp2_with fail
                                go_quiet ((go_at_call 66; exact Calls.quiet_of (D.out _)))
                                go_wp2_with fail
                                go_roundg (n3 - (p + 1))
                                case measure => omega
                                case rel => exact ⟨p + 1, _, rfl, by omega, by go_num, by rw [hz1.out], by rw [← hW.out]; exact World.drewN_drewN _ _ _⟩
                              · obtain rfl : n3 = p := by omega
                                have hO := own_drewN hO q
                                have hB := below_drewN hB q
                                have hb3u := below_drewN hb3u q
                                have hkR : k < R1.length := by rw [HR.out]; exact hlt3
                                obtain ⟨ra, rc, hra, er⟩ := XR.out k hkR
                                have x0 := er _ (b13.trans (hb3u.mono b13.size))
                                have hraV := hra.below (b13.trans (hb3u.mono b13.size))
                                obtain ⟨sb, soff, rfl, _⟩ := hraV.addr (by omega)
                                have x1 := Bt.at hraV j hjn
                                have x2 := byte_at hO t htm
                                have f0 := byte_free hO t
                                have HJL := hid (byte_len hO)
                                have h8a := at8_lt R1[k].l j
                                have h8b := Mat.lt (inTo (rwData A) (Mat.there (rwData A)) f j t n3)
                                have h8c := at8_lt l' t
                                have e8 : (outTo n3 (rwData A) (Mat.there (rwData A)) f k t (j + 1)).toNat = at8 l' t ^^^ Fld.mul (at8 R1[k].l j) (inTo (rwData A) (Mat.there (rwData A)) f j t n3).toNat := by
                                  have h5 := HJ.out t htm
                                  rw [if_neg (by omega), if_pos rfl] at h5
                                  rw [outTo_succ, Mat.toNat_add, Mat.toNat_mul, ← HP.out.eq k j (by rw [← hn.out]; exact hlt3) hjn, ent_rw hkR, ← h5]; rfl
                                have hs := hid (fun q => byte_set (own_drewN hO q) t _ _ e8)
                                have hBs : Hid (∀ q' v, Below wq.heap.size wq (((wu.drewN q).drewN q').setCell ⟨wq.heap.size, t, none⟩ v)) := hid (fun q' v => (below_drewN hB q').setCell (Nat.le_refl _) _)
                                obtain ⟨W, hW⟩ : ∃ W, wu.drewN q = W := ⟨_, rfl⟩
                                rw [hW] at x0 x1 x2 f0 hs hBs ⊢
                                have D := hid (fun q => rMul_call _ _ h8a h8b (W.drewN q))
                                have hxx := u8_xor_nat (at8 l' t) _ h8c (Fld.mul_lt (at8 R1[k].l j) (inTo (rwData A) (Mat.there (rwData A)) f j t n3).toNat)
                                have i0 : (0 : Int) ≤ (j : Int) := by omega
                                have i1 : (j : Int) < (n3 : Int) := by omega
                                have i2 : (0 : Int) ≤ (t : Int) := by omega
                                have i3 : (t : Int) < (m : Int) := by omega
                                have i4 : (0 : Int) ≤ (k : Int) := by omega
                                have i5 : (k : Int) < (n1 : Int) := by omega
                                replace hW := hid hW
                                clear e8 hO hB
                                generalize at8 R1[k].l j = va at *
                                generalize (inTo (rwData A) (Mat.there (rwData A)) f j t n3).toNat = vb at *
                                generalize Fld.mul va vb = vm at *
                                generalize at8 l' t = vc at *
                                generalize vc ^^^ vm = u at *
                                go_wp2_with fail
                                refine wp_region_still_tail 17 (by kernel_rfl) (by kernel_rfl) ?_
                                change wpStill _ _ (World.drew _) _ _ _
                                simp only [List.take_succ_cons, List.take_zero, List.drop_succ_cons, List.drop_zero]
                                repeat (first | still_step | still_call ((D.out 1).mono fun _ _ h => ⟨h.1, h.2.symm⟩))
                                refine wpStill_nil ?_
                                change wpList _ _ _ _ _ (World.drewN W 1)
                                go_wp2_with fail
                                go_roundg (n3 - (j + 1))
                                case measure => omega
                                case rel =>
                                  refine ⟨j + 1, _, rfl, by omega, by go_num, hs.out _, hBs.out _ _, hid (fun v hv => ?_)⟩
                                  rw [getD_set (by rw [HJL.out]; exact htm)]
                                  by_cases e : v = t
                                  · subst e; rw [if_pos rfl, if_neg (by omega), if_pos rfl]
                                  · rw [if_neg e, HJ.out v hv]
                                    by_cases e2 : v < t
                                    · rw [if_pos e2, if_pos e2]
                                    · rw [if_neg e2, if_neg e2, if_neg e, if_neg e]
                          · obtain rfl : n3 = j := by omega
                            go_wp2_with fail
                            go_roundg (m - (t + 1))
                            case measure => omega
                            case rel =>
                              refine ⟨t + 1, l', rfl, by omega, by go_num, hO, hB, hid (fun v hv => ?_)⟩
                              rw [HJ.out v hv]
                              by_cases e : v < t
                              · rw [if_pos e, if_pos (by omega)]
                              · rw [if_neg e]
                                by_cases e2 : v = t
                                · subst e2; rw [if_pos rfl, if_pos (by omega), outTo_all]
                                · rw [if_neg e2, if_neg (by omega)]
                      · obtain rfl : m = t := by omega
                        have M2 := hM3.below hB
                        have hszt := hB.size
                        have hR12 : R.length ≤ 65536 := by rw [HRl.out]; omega
                        go_wp2_with (refine wpList_append_row rfl (.tmp 171) (.tmp 173) 50 und_rowst rfl w3.heap.size _ R rfl M2 ⟨some ⟨wq.heap.size, 0, none⟩, m, m, l⟩ _ rfl rfl (own_bt hO) (apart_own M2.own.own hO _) hR12 (by omega) ?_; intro v5 w5 M5 g5)
                        go_roundg (n1 - (k + 1))
                        case measure => omega
                        case rel =>
                          refine ⟨k + 1, R ++ [⟨some ⟨wq.heap.size, 0, none⟩, m, m, l⟩], rfl, by omega, by go_num, hid (by simp [HRl.out]), M5, hid (fun i hi => ?_)⟩
                          by_cases e : i < R.length
                          · rw [List.getElem_append_left e]; exact HD.out i e
                          · have hi' : i < R.length + 1 := by simpa using hi
                            have e2 : i = k := by have := HRl.out; omega
                            subst e2
                            rw [List.getElem_append_right (by omega)]
                            simp only [HRl.out, Nat.sub_self, List.getElem_cons_zero]
                            exact ⟨byte_len hO, fun v hv => by rw [HJ.out v hv, if_pos hv]⟩
                  · obtain rfl : n1 = k := by omega
                    obtain ⟨a', cap', rfl, hMs⟩ := hM3.ms
                    have hb9 := bnext b3 hbq
                    go_wp2_with fail
                    go_ret2
                    refine ⟨_, _, _, R, 0, rfl, hMs, hFin.out _ (rep_of_rows (by rw [rwData_length]; exact HRl.out) (fun i hi => ?_)), hb9⟩
                    rw [rwData_at hi]
                    exact HD.out i (by simpa [rwData] using hi)
theorem rMend_call (a : Option Addr) (n ac : Nat) (A : List Rw) (d : Int) (hd : -9223372036854775808 ≤ d ∧ d ≤ 9223372036854775807) (w : World) (hA : Ms w a n ac A) : Calls Try.prog 54 #[.slice a n ac, .int .i64 d] w (MRes (Mat.MendR (rwData A) d) w) := by
  by_cases hc : Mat.wrongC d ((n : Int) - d) = 0
  · have hc2 := Mat.wrongC_ok hc
    obtain ⟨D, rfl⟩ := Int.eq_ofNat_of_zero_le (a := d) (by omega)
    exact rMend_ok a n ac D (n - D) A w hA (by omega) (by omega) (by omega) (by omega)
  · exact (rMend_bad a n ac A d hd w hA hc).mono fun e w' hh => NilB.res hh (by
      have := Mat.mend_none (l := rwData A) (d := d) (by rw [hA.dn]; exact hc)
      rwa [hA.dn] at this)

end Go.Proofs.Ytjdgfijpmljhiaa
