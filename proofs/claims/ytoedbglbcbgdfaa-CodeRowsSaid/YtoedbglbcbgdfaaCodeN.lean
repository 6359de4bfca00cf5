/- Walk of CodeRows: a set of numbers, kept by a map. -/
import Derived.Test.YtoedbglbcbgdfaaCodeJ
import Derived.Maps.Own
import Derived.Maps.OwnOps
import Derived.Maps.OwnSet
import Derived.Maps.Views
namespace Go.Proofs.Ytoedbglbcbgdfaa
open Go.RowKit Go.Maps
set_option linter.unusedVariables false
theorem plainElem_bool_inv {v : Value} {z : DataW Unit × List MemPlace} (h : (plainElem (H := Unit) Try.prog 4) v = some z) : ∃ x, v = .bool x ∧ z = (.lit (.bool x), []) := by
  unfold plainElem at h
  rw [Try.underlying4] at h
  cases v <;> simp at h
  exact ⟨_, rfl, h.symm⟩
/-- The map at b has just the numbers U. -/
structure Had (w : World) (b : Nat) (U : List Nat) (D : DataW Unit) : Prop where
  own : w.ownsMap Try.prog 3 (plainElem (H := Unit) Try.prog 4) b U.length D
  at_ : ∀ u : Nat, u < 16 → D.atKey (.int .i64 (u : Int)) (.lit (.bool false)) = .lit (.bool (decide (u ∈ U)))
theorem key_of (u : Nat) (h : u < 16) : keyOf Try.prog 3 (.int .i64 (u : Int)) = some (.int .i64 (u : Int)) := keyOf_int_mk Try.underlying3 (WalkArith.wf_i64 (by omega))
theorem Had.look {w : World} {b : Nat} {U : List Nat} {D : DataW Unit} (h : Had w b U D) (u : Nat) (hu : u < 16) : (Instr.lookup 50 (.map (some b)) (.int .i64 (u : Int)) false).run Try.prog w = .ok (.bool (decide (u ∈ U))) w := by
  obtain ⟨v, ps, hrun, hv⟩ := h.own.lookup (int_keyed Try.underlying3) Try.underlying50 (z := .bool false) (by kernel_rfl) (plainElem_bool Try.underlying4 false) (key_of u hu)
  rw [h.at_ u hu] at hv
  obtain ⟨x, rfl, e⟩ := plainElem_bool_inv hv
  simp at e
  rw [hrun, e.1]
theorem Had.put {w w' : World} {b : Nat} {U : List Nat} {D : DataW Unit} (h : Had w b U D) {u : Nat} (hu : u < 16) (ho : w'.ownsMap Try.prog 3 (plainElem (H := Unit) Try.prog 4) b (U.length + 1) (D.put (.int .i64 (u : Int)) (.lit (.bool true)))) : Had w' b (U ++ [u]) (D.put (.int .i64 (u : Int)) (.lit (.bool true))) := by
  refine ⟨by rw [List.length_append]; exact ho, fun v hv => ?_⟩
  by_cases e : v = u
  · subst e
    rw [atKey_put_same h.own.isMap (by trivial)]
    simp
  · rw [atKey_put_other (by intro e2; apply e; injection e2 with _ e3; omega), h.at_ v hv]
    have : (v ∈ U ++ [u]) ↔ v ∈ U := by simp [e]
    rw [decide_eq_decide.2 this]
theorem Had.kept {w w' : World} {b : Nat} {U : List Nat} {D : DataW Unit} {q : Option Nat} (h : Had w b U D) (hg : w.grownBy w' q) (hq : some b ≠ q) : Had w' b U D := ⟨h.own.kept hg hq, h.at_⟩
theorem Had.start (w : World) : Had (w.alloc (.map #[] 0)) w.heap.size [] (.map []) := ⟨World.ownsMap_made _ _ _ _, fun u _ => rfl⟩
theorem Had.blk {w : World} {b : Nat} {U : List Nat} {D : DataW Unit} (h : Had w b U D) : ∃ es c, w.heap[b]? = some (.map es c) := by
  obtain ⟨es, c, hb, _⟩ := h.own
  exact ⟨es, c, hb⟩
theorem own_map_ne {w : World} {base : Nat} {e : TypeId} {sz n b : Nat} {o : Value} {xs : List Value} {U : List Nat} {D : DataW Unit} (hown : w.ownsRow base e sz o n xs) (h : Had w b U D) : o.ownBlock ≠ some b := by
  intro he
  obtain ⟨es, c, hb⟩ := h.blk
  rcases hown.2 with ⟨rfl, _⟩ | ⟨g, cap, cur, rfl, _, hh, _⟩
  · simp [Value.ownBlock] at he
  · have : g = b := by simpa [Value.ownBlock] using he
    subst this
    rw [hb] at hh
    cases hh
theorem Mat.RowsR.fit {d z : Int} {L : List (List UInt8)} {e : Int} (h : Mat.RowsR d z L e) (he : e = 0) : ∃ D s : Nat, d = D ∧ z = s ∧ 1 ≤ D ∧ D ≤ 8 ∧ s ≤ 4 ∧ Mat.Rep L (D + s) D (Mat.rowM D) := by
  subst he
  unfold Mat.RowsR at h
  split at h
  · rename_i h1; exact absurd h.2.symm h1
  · rename_i h1
    have hc := Mat.wrongC_ok (Classical.not_not.1 h1)
    obtain ⟨D, rfl⟩ := Int.eq_ofNat_of_zero_le (a := d) (by omega)
    obtain ⟨s, rfl⟩ := Int.eq_ofNat_of_zero_le (a := z) (by omega)
    have e1 : ((D : Int) + (s : Int)).toNat = D + s := by omega
    rw [e1, Int.toNat_natCast] at h
    exact ⟨D, s, rfl, rfl, by omega, by omega, by omega, h.1⟩
theorem Mat.RowsR.bad {d z : Int} {L : List (List UInt8)} {e : Int} (h : Mat.RowsR d z L e) (he : e ≠ 0) : L = [] := by
  unfold Mat.RowsR at h
  split at h
  · exact h.1
  · exact absurd h.2 he

set_option maxHeartbeats 4000000 in
theorem CodeRows_walk (d z : Int) (ga : Option Addr) (gn gc : Nat) (zs : List Int) (w : World) (hG : Is w ga gn gc zs) : Calls Try.prog 12 #[.int .i64 d, .int .i64 z, .slice ga gn gc] w (Grew (.bool true) w) := by
  have hgle := hG.le
  have hgmax := hG.max
  unfold maxLen at hgmax
  have hmm := @run_makeMap Try.prog
  go_enter Try.func12, Try.ntmps12
  go_wp2_with fail
  go_at_call 33
  refine (alive3_call _).mono ?_
  rintro e w0 ⟨rfl, b0⟩
  go_wp2_with fail
  go_at_call 27
  refine (cRows_call _ _ _).mono ?_
  rintro e w2 ⟨a1, n1, c1, R1, e1, rfl, hR, hp1, b2⟩
  replace b2 := bnext b0 b2
  by_cases he : e1 = 0
  · subst he
    obtain ⟨D, s, rfl, rfl, h1, h8, h4, hrep⟩ := hp1.fit rfl
    have hn1 : n1 = D + s := by rw [← hR.dn, hrep.rows]
    have s1 : IntKind.i64.wrap ((D : Int) + (s : Int)) = (n1 : Int) := by rw [IntWalk.i64_in _ (by omega)]; omega
    have s2 : (D : Int) + (s : Int) = (n1 : Int) := by omega
    have hn12 : n1 ≤ 12 := by omega
    have HR := hid hR.cnt
    have HP := hid hrep
    obtain ⟨rb, roff, rfl, _⟩ := hR.sl.addr (by omega)
    replace hn1 := hid hn1
    clear hp1 hrep b0
    go_wp2_with fail
    have hbm : w2.heap.size < (w2.alloc (.map #[] 0)).heap.size := by simp
    go_loopg [9, 35] gn (fun g s9 s35 wr => ∃ (k : Nat) (U : List Nat) (DD : DataW Unit) (K : List Rw), g = gn - k ∧ k ≤ gn ∧ s35 = .int .i64 (k : Int) ∧ Mb w2 wr none w2.heap.size s9 K ∧ Hid (K = U.map fun u => R1.getD u rw0) ∧ Had wr w2.heap.size U DD ∧ Hid (U.Nodup) ∧ Hid (∀ u ∈ U, u < n1) ∧ U.length ≤ D ∧ w2.heap.size < wr.heap.size)
    case atStart => exact ⟨0, [], .map [], [], rfl, by omega, rfl, (Mb.nil _ _ (Below.refl _ _) _ (Nat.le_refl _)).alloc _, hid rfl, Had.start w2, hid List.nodup_nil, hid (fun u hu => by cases hu), by simp, hbm⟩
    case round =>
      clear hbm
      obtain ⟨k, U, DD, K, rfl, hk, rfl, hM, HK, hH, HU, HUn, hUD, hbm⟩ := hrel
      obtain ⟨wo, rfl⟩ : ∃ wo : World, wo = wr := ⟨_, rfl⟩
      have hbo := hM.own.belowOf (Nat.le_refl _) (fun k e => by cases e)
      have hKl : Hid (K.length = U.length) := hid (by rw [HK.out, List.length_map])
      obtain ⟨va, vc, rfl, hMs⟩ := hM.ms
      obtain ⟨tl, htl⟩ : ∃ tl, K.length = tl := ⟨_, rfl⟩
      have htD : tl ≤ D := by rw [← htl, hKl.out]; exact hUD
      replace htl := hid htl
      replace hMs := hid hMs
      by_cases hlt : k < gn
      · have hkz : k < zs.length := by rw [hG.cnt]; exact hlt
        obtain ⟨gb, goff, rfl, _⟩ := hG.addr (by omega)
        have x0 := Is.at (hG.below (bnext b2 hbo)) k hkz
        obtain ⟨v, hv⟩ : ∃ v, zs[k] = v := ⟨_, rfl⟩
        rw [hv] at x0
        replace hv := hid hv
        by_cases hc : 0 ≤ v ∧ v < n1
        · obtain ⟨u, rfl⟩ := Int.eq_ofNat_of_zero_le hc.1
          have huN : u < n1 := by omega
          have hu16 : u < 16 := by omega
          have u0 : (0 : Int) ≤ (u : Int) := by omega
          have u1 : (u : Int) < (n1 : Int) := by omega
          have hlk := hH.look u hu16
          clear hc
          by_cases hin : u ∈ U
          · rw [decide_eq_true hin] at hlk
            go_wp2_with fail
            go_roundg (gn - (k + 1))
            case measure => omega
            case rel => exact ⟨k + 1, U, DD, K, rfl, by omega, by go_num, hM, HK, hH, HU, HUn, hUD, hbm⟩
          · rw [decide_eq_false hin] at hlk
            have HIN := hid hin
            clear hin
            rw [htl.out]
            by_cases hfull : tl < D
            · have u2 : (tl : Int) < (D : Int) := by omega
              have huR : u < R1.length := by rw [HR.out]; exact huN
              have hgr : Hid (R1.getD u rw0 = R1[u]) := hid (by simp [List.getD, huR])
              have hown := hid hH.own
              have hkey := key_of u hu16
              have hUl12 : U.length < maxLen := by unfold maxLen; omega
              have hne := own_map_ne hM.own.own hH
              rw [htl.out] at hne
              have hRt := (hR.at u huR).2
              have hrlt : ∀ r ∈ K, 0 < r.n → ∀ b off, r.a = some ⟨b, off, none⟩ → b ≠ w2.heap.size := by
                rw [HK.out]
                intro r hr hn b off e
                obtain ⟨q, hq, rfl⟩ := List.mem_map.1 hr
                have hqR : q < R1.length := by rw [HR.out]; exact HUn.out q hq
                have hb := (hR.at q hqR).2
                rw [show R1.getD q rw0 = R1[q] by simp [List.getD, hqR]] at hn e
                rw [e] at hb
                have := Bt.lt' hb hn
                omega
              have hrlt := hid hrlt
              have hRt := hid hRt
              go_wp2_with (first
                | (refine wpList_mapUpdate_own _ rfl _ _ _ 50 rfl 3 4 (int_keyed Try.underlying3) Try.underlying50 (plainElem (H := Unit) Try.prog 4) w2.heap.size U.length DD rfl hown.out hUl12 _ _ (.int .i64 (u : Int)) rfl rfl hkey (.lit (.bool true)) [] (plainElem_bool Try.underlying4 true) ?_; intro w4 hown4 hg4; have hM4 : Mb w2 w4 none w2.heap.size _ K := hM.grown hg4 (fun x hx => by cases hx; rw [htl.out]; exact ⟨Nat.le_refl _, hne, hrlt.out⟩); have hH4 := Had.put hH hu16 hown4; have hb4 := hM4.own.belowOf (Nat.le_refl _) (fun k e => by cases e); have x1 := ((hR.below hb4).at u huR).1; have hz4 : w2.heap.size < w4.heap.size := Nat.lt_of_lt_of_le hbm hg4.size; have hbt4 := hRt.out.below hb4; rw [htl.out] at hM4)
                | (refine wpList_append_row rfl (.tmp 61) (.tmp 66) 23 und_Matrix rfl w2.heap.size _ K rfl hM4 R1[u] _ rfl rfl hbt4 (apart_old hM4.own.own (fun hn b off e => by have h5 := hRt.out; rw [e] at h5; exact Bt.lt' h5 hn)) (by rw [htl.out]; omega) (by omega) ?_; intro v5 w5 M5 g5))
              have hH5 : Had w5 w2.heap.size (U ++ [u]) (DD.put (.int .i64 (u : Int)) (.lit (.bool true))) := Had.kept (Had.kept hH4 (World.grownBy_alloc w4 _ none) (by simp)) g5 (fun e => by
                have h6 := own_map_ne (hM4.alloc (.cells #[.slice R1[u].a R1[u].n R1[u].cap] 27)).own.own (Had.kept hH4 (World.grownBy_alloc w4 _ none) (by simp))
                exact h6 e.symm)
              have hz5 : w2.heap.size < w5.heap.size := Nat.lt_of_lt_of_le hz4 (Nat.le_trans (by simp) g5.size)
              go_roundg (gn - (k + 1))
              case measure => omega
              case rel =>
                refine ⟨k + 1, U ++ [u], _, K ++ [R1[u]], rfl, by omega, by go_num, M5, hid (by rw [List.map_append, ← HK.out, List.map_cons, List.map_nil, hgr.out]), hH5, hid ?_, hid (fun x hx => ?_), ?_, hz5⟩
                · rw [List.nodup_append]
                  exact ⟨HU.out, by simp, fun x hx y hy => by
                    obtain rfl : y = u := by simpa using hy
                    exact fun e => HIN.out (e ▸ hx)⟩
                · rcases List.mem_append.1 hx with h | h
                  · exact HUn.out x h
                  · obtain rfl := List.mem_singleton.1 h
                    exact huN
                · rw [List.length_append]
                  have := hKl.out
                  have := htl.out
                  simp
                  omega
            · have u2 : ¬ (tl : Int) < (D : Int) := by omega
              go_wp2_with fail
              go_roundg (gn - (k + 1))
              case measure => omega
              case rel => exact ⟨k + 1, U, DD, K, rfl, by omega, by go_num, by rw [htl.out] at hM; exact hM, HK, hH, HU, HUn, hUD, hbm⟩
        · have h5 : ¬ 0 ≤ v ∨ (0 ≤ v ∧ ¬ v < n1) := by omega
          clear hc
          rcases h5 with h | ⟨h, h'⟩
          · go_wp2_with fail
            go_roundg (gn - (k + 1))
            case measure => omega
            case rel => exact ⟨k + 1, U, DD, K, rfl, by omega, by go_num, hM, HK, hH, HU, HUn, hUD, hbm⟩
          · go_wp2_with fail
            go_roundg (gn - (k + 1))
            case measure => omega
            case rel => exact ⟨k + 1, U, DD, K, rfl, by omega, by go_num, hM, HK, hH, HU, HUn, hUD, hbm⟩
      · obtain rfl : gn = k := by omega
        have hbw := bnext b2 hbo
        rw [htl.out]
        have hM0 := hMs.out
        rw [htl.out] at hM0
        by_cases hfew : tl < D
        · have u2 : (tl : Int) < (D : Int) := by omega
          go_wp2_with fail
          go_ret
          exact ⟨ret_bool rfl, hbw⟩
        · obtain rfl : tl = D := by omega
          have u2 : ¬ (tl : Int) < (tl : Int) := by omega
          have hUl : U.length = tl := by rw [← hKl.out, htl.out]
          have hF1 : Mat.Fine (rwData K) tl tl := ⟨by rw [rwData_length, htl.out], fun r hr => by
            rw [HK.out, picks_data] at hr
            obtain ⟨u, hu, rfl⟩ := List.mem_map.1 hr
            have hu' : u < (rwData R1).length := by rw [HP.out.rows, ← hn1.out]; exact HUn.out u hu
            rw [show (rwData R1).getD u [] = (rwData R1)[u] by simp [List.getD, hu']]
            exact HP.out.cols _ (List.getElem_mem _), h1, by omega, h1, by omega⟩
          have hpk : ∀ i j, i < tl → j < tl → Mat.ent (rwData K) i j = Mat.picked tl U i j := fun i j hi hj => by
            have hiU : i < U.length := by omega
            rw [HK.out, ent_picks _ _ hiU]
            have hm : U.getD i 0 < n1 := by
              rw [show U.getD i 0 = U[i] by simp [List.getD, hiU]]
              exact HUn.out _ (List.getElem_mem _)
            exact HP.out.eq _ j (by rw [← hn1.out]; exact hm) hj
          have hinj : Mat.Inj tl (Mat.ent (rwData K)) := fun x hx => Mat.picked_inj U hUl HU.out (fun u hu => by have := HUn.out u hu; omega) x (fun i hi => by
            rw [← hx i hi]
            exact Mat.app_congr (fun k hk => (hpk i k hi hk).symm) (fun _ _ => rfl))
          replace hF1 := hid hF1; replace hinj := hid hinj; replace hpk := hid hpk; replace hUl := hid hUl; replace hM := hid hM; replace hH := hid hH
          go_wp2_with fail
          go_at_call 15
          refine (gInvert_call _ _ _ _ _ hM0).mono ?_
          rintro e w5 ⟨a5, n5, c5, R5, e5, rfl, -, hp5, b5⟩
          obtain ⟨_, _, _, rfl⟩ := Mat.InvR.inj hF1.out hinj.out hp5
          replace b5 := bnext hbw b5
          clear hp5
          go_wp2_with fail
          go_ret
          exact ⟨ret_bool rfl, b5⟩
  · have u0 : (e1 != 0) = true := bne_iff_ne.2 he
    have hl : n1 = 0 := by rw [← hR.dn, hp1.bad he]; rfl
    subst hl
    replace hp1 := hid hp1
    replace he := hid he
    go_wp2_with fail
    go_ret
    exact ⟨ret_bool rfl, b2⟩

end Go.Proofs.Ytoedbglbcbgdfaa
