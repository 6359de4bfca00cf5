/- Joined, and what is not used struck: GridH. -/
import Derived.Test.YthhcdfjijagalaaM06
import Derived.BigRegion
namespace Go.Proofs.Ythhcdfjijagalaa
open Go.RowKit
set_option linter.unusedVariables false
def InvP (n : Nat) (a : Mat.M) (L : List (List UInt8)) (e : Int) : Prop := (L = [] ∧ e = 6 ∧ ¬ Mat.Inj n a) ∨ ∃ f, Mat.Rep L n n f ∧ Mat.Undo n a f ∧ e = 0
theorem inv_cases {A : List (List UInt8)} {P : Prop} (h1 : Mat.wrongM A ≠ 0 → P) (h2 : Mat.wrongM A = 0 → Mat.wid A 0 ≠ A.length → P) (h3 : ∀ n, A.length = n → Mat.Fine A n n → P) : P := by
  by_cases e1 : Mat.wrongM A = 0
  · by_cases e3 : Mat.wid A 0 = A.length
    · have h := Mat.wrong_fine e1
      rw [e3] at h
      exact h3 _ rfl h
    · exact h2 e1 e3
  · exact h1 e1
theorem invR_1 {A : List (List UInt8)} (h : Mat.wrongM A ≠ 0) : Mat.InvR A [] (Mat.wrongM A) := by unfold Mat.InvR; rw [if_pos h]; exact ⟨rfl, rfl⟩
theorem invR_2 {A : List (List UInt8)} (h : Mat.wrongM A = 0) (h3 : Mat.wid A 0 ≠ A.length) : Mat.InvR A [] 8 := by unfold Mat.InvR; rw [if_neg (fun e => e h), if_pos h3]; exact ⟨rfl, rfl⟩
theorem invR_3 {A : List (List UInt8)} {n : Nat} (hA : Mat.Fine A n n) {L : List (List UInt8)} {e : Int} (h : InvP n (Mat.ent A) L e) : Mat.InvR A L e := by
  unfold Mat.InvR
  rw [if_neg (fun e => e hA.wrong), if_neg (by rw [hA.wid0, hA.rows]; exact fun e => e rfl), hA.rows]
  exact h
theorem ent_wr {X : List Wr} {i : Nat} (hi : i < X.length) (j : Nat) : Mat.ent (wrData X) i j = X[i].l.getD j 0 := by
  unfold Mat.ent wrData; simp [List.getD, hi]
def FindE (n c : Nat) (X : List Wr) (w : World) (e : Ending) (w' : World) : Prop :=
  w = w' ∧ ((∃ p, c + p < n ∧ e = .returned (.int .i64 (p : Int)) ∧ Mat.ent (wrData X) (c + p) c ≠ 0) ∨ (e = .returned (.int .i64 (-1)) ∧ ∀ i, c ≤ i → i < n → Mat.ent (wrData X) i c = 0))
theorem find_ent {X : List Wr} {c n : Nat} (hX : X.length = n) {w : World} {e : Ending} {w' : World} (h : FindRes (n - c) c ((X.map Wr.rw).drop c) w e w') : FindE n c X w e w' := by
  obtain ⟨hw, ⟨p, hp, he, hpR, hne⟩ | ⟨he, hz⟩⟩ := h
  · refine ⟨hw, .inl ⟨p, by omega, he, ?_⟩⟩
    rw [ent_wr (by omega)]
    simpa [Wr.rw] using hne
  · refine ⟨hw, .inr ⟨he, fun i h1 h2 => ?_⟩⟩
    have := hz (i - c) (by simp; omega)
    rw [ent_wr (by omega)]
    simp only [List.getElem_drop, List.getElem_map, Wr.rw] at this
    simpa [show c + (i - c) = i by omega] using this
set_option maxRecDepth 100000 in
set_option maxHeartbeats 1000000 in
theorem gInvert_1 (a : Option Addr) (n ac : Nat) (A : List Rw) (w : World) (hA : Ms w a n ac A) (h : Mat.wrongM (rwData A) ≠ 0) : Calls Try.prog 105 #[.slice a n ac] w (NilB (Mat.wrongM (rwData A)) w) := by
  have CA := hid (gWrong_call a n ac A w hA)
  have t0 : (Mat.wrongM (rwData A) != 0) = true := by rw [bne_iff_ne]; exact h
  clear h
  generalize Mat.wrongM (rwData A) = e at *
  go_enter Try.func105, Try.ntmps105
  go_wp2_with fail
  go_at_call 100; refine (CA.out).mono ?_; rintro e' w1 ⟨rfl, rfl⟩
  go_wp2_with fail
  go_ret2
  exact ⟨rfl, Below.refl _ _⟩
set_option maxRecDepth 100000 in
set_option maxHeartbeats 1000000 in
theorem gInvert_2 (a : Option Addr) (n ac : Nat) (A : List Rw) (w : World) (hA : Ms w a n ac A) (h1 : Mat.wrongM (rwData A) = 0) (h3 : Mat.wid (rwData A) 0 ≠ n) : Calls Try.prog 105 #[.slice a n ac] w (NilB 8 w) := by
  have CA := hid (h1 ▸ gWrong_call a n ac A w hA)
  have hFA := Mat.wrong_fine h1
  have hn1 : 1 ≤ n := by have := hFA.n1; rw [rwData_length, hA.cnt] at this; omega
  obtain ⟨ab, aoff, rfl, _⟩ := hA.sl.addr (by omega)
  obtain ⟨ra, rc, _, e0⟩ := hA.heads (m := Mat.wid (rwData A) 0) hFA.cols 0 (by rw [hA.cnt]; omega)
  have e0 := e0 w (Below.refl _ _)
  simp only [Nat.add_zero] at e0
  generalize Mat.wid (rwData A) 0 = k at *
  have t0 : ((k : Int) != (n : Int)) = true := by rw [bne_iff_ne]; omega
  have t1 : (k != n) = true := by rw [bne_iff_ne]; exact h3
  clear h1 hFA h3
  go_enter Try.func105, Try.ntmps105
  go_wp2_with fail
  go_at_call 100; refine (CA.out).mono ?_; rintro e' w1 ⟨rfl, rfl⟩
  go_wp2_with fail
  go_ret2
  exact ⟨rfl, Below.refl _ _⟩
set_option maxRecDepth 100000 in
set_option maxHeartbeats 4000000 in
theorem gInvert_ok (a : Option Addr) (n ac : Nat) (A : List Rw) (w : World) (hA : Ms w a n ac A) (hFA : Mat.Fine (rwData A) n n) : Calls Try.prog 105 #[.slice a n ac] w (MRes (InvP n (Mat.ent (rwData A))) w) := by
  have CA := hid (hFA.wrong ▸ gWrong_call a n ac A w hA)
  have HA := hid hA.cnt
  have hn1 := hFA.n1; have hn2 := hFA.n2
  obtain ⟨ab, aoff, rfl, _⟩ := hA.sl.addr (by omega)
  have hA0 : 0 < A.length := by rw [HA.out]; omega
  have XA := hid (hA.heads hFA.cols)
  obtain ⟨ra0, rc0, _, q0⟩ := XA.out 0 hA0
  have q0 := q0 w (Below.refl _ _)
  simp only [Nat.add_zero] at q0
  clear hFA hA
  go_enter Try.func105, Try.ntmps105
  go_wp2_with fail
  go_at_call 100; refine (CA.out).mono ?_; rintro e' w1 ⟨rfl, rfl⟩
  go_wp2_with fail
  go_at_call 111; refine (Make_call _).mono ?_; rintro e w1 ⟨⟨rfl, hb1⟩, ht1, -⟩
  clear q0 CA
  go_wp2_with fail
  go_at_call 109; refine (gOne_ok n w1 hn1 hn2).mono ?_; rintro e w2 ⟨Go, Ro, rfl, hRo, hMo, hRep, hb2⟩
  have HRo := hid hRo
  have hRep := hid hRep
  clear hRo
  go_wp2_with (refine wpList_make_mat rfl (.tmp 36) (.tmp 36) 156 und_Matrix rfl n rfl rfl (by omega) ?_; intro w3 M3 b3 z3)
  have hb12 := bnext hb1 hb2
  have hb3 := bnext hb12 b3
  have ht3 := (ht1.below hb2).below b3
  have hMo3 := (hMo.below b3).mono hb1.size
  have hGo := hMo.lt.2
  replace M3 := M3.mono hb12.size
  have hRoW : ∀ r ∈ Ro, r.g < w2.heap.size := fun r hr => (hMo.rlt hr).2
  have hgg : w2.heap.size ≠ Go := by omega
  obtain ⟨Gw, hGw⟩ : ∃ G, w2.heap.size = G := ⟨_, rfl⟩
  rw [hGw] at M3 hgg ⊢
  clear ht1 hb1 hb2 b3 z3 hb12 hMo hGo hGw hRoW
  go_loopg [40] n (fun g i wr => ∃ (k : Nat) (R : List Wr), g = n - k ∧ k ≤ n ∧ i = .int .i64 (k : Int) ∧ Hid (R.length = k) ∧ Mo wr w.heap.size Gw n n R ∧ Mo wr w.heap.size Go n n Ro ∧ Tab wr w.heap.size ∧ Below w.heap.size w wr ∧ Hid (∀ r ∈ R, ∀ q ∈ Ro, r.g ≠ q.g) ∧ Hid (wrData R = (rwData A).take k))
  case atStart => exact ⟨0, [], rfl, by omega, rfl, hid rfl, M3, hMo3, ht3, hb3, hid (fun r hr => by cases hr), hid rfl⟩
  case round =>
    clear M3 hMo3 ht3 hb3
    obtain ⟨k, R, rfl, hk, rfl, HK, hM, hMo, htb, hbr, HRR, HD⟩ := hrel
    obtain ⟨wo, rfl⟩ : ∃ wo : World, wo = wr := ⟨_, rfl⟩
    have hszo := hbr.size
    by_cases hlt : k < n
    · have hkA : k < A.length := by rw [HA.out]; exact hlt
      obtain ⟨ra, rc, hra, e0⟩ := XA.out k hkA
      have e0 := e0 wo hbr
      have D := hid (cloneBytes_call ra n rc A[k].l wo (hra.below hbr) (by omega))
      go_wp2_with fail
      go_at_call 85; refine (D.out).mono ?_; rintro e w4 ⟨v, rfl, hb4, ho4⟩
      obtain ⟨g, cap, rfl, hbg, hgl, hnc, hcm⟩ := own_pos ho4 (by omega)
      have k0 := (hM.below hb4).atNil k (by rw [HK.out]; exact Nat.le_refl _) hlt
      have k1 := (hM.below hb4).free k
      clear e0
      go_wp2_with fail
      have P1 := (hM.below hb4).push (by rw [HK.out]; exact hlt) ⟨g, cap, A[k].l⟩ (by
        have := Bt.n hra
        simp only [Wr.v, this]
        exact own_mono ho4 hszo) (fun r hr e => by have := (hM.rlt hr).2; simp at e; omega)
      rw [HK.out] at P1
      unfold Wr.v at P1
      simp only [Bt.n hra] at P1
      have hOnly : Only w4 (w4.setCell ⟨Gw, k, none⟩ (.slice (some ⟨g, 0, none⟩) n cap)) [Gw] := (Only.refl w4 [Gw]).setCell (.inl (by simp)) _
      go_roundg (n - (k + 1))
      case measure => omega
      case rel =>
        refine ⟨k + 1, R ++ [⟨g, cap, A[k].l⟩], rfl, by omega, by go_num, hid (by simp; exact HK.out), P1, (hMo.below hb4).only hOnly (by simpa using Ne.symm hgg) (fun r hr => by simpa using hMo.gneB hM hr), (htb.below hb4).only hOnly (by simpa using hM.tab_ne htb), (bnext hbr hb4).setCell hM.lt.1 _, hid (fun r hr q hq => ?_), hid ?_⟩
        · rcases List.mem_append.1 hr with hr | hr
          · exact HRR.out r hr q hq
          · obtain rfl := List.mem_singleton.1 hr
            have := (hMo.rlt hq).2
            show g ≠ q.g
            omega
        · have hkd : k < (rwData A).length := by rw [rwData_length]; exact hkA
          rw [List.take_succ_eq_append_getElem hkd, ← HD.out, rwData_at hkd]
          simp [wrData]
    · obtain rfl : k = n := by omega
      have hlA : (rwData A).length = k := by rw [rwData_length]; exact HA.out
      have hD : wrData R = rwData A := by rw [HD.out, List.take_of_length_le (by omega)]
      have hAc : ∀ r ∈ R, r.l.length = k := fun r hr => by
        obtain ⟨i, hi, rfl⟩ := List.getElem_of_mem hr
        have hiA : i < A.length := by rw [HA.out, ← HK.out]; exact hi
        obtain ⟨_, _, hb, _⟩ := XA.out i hiA
        have e : R[i].l = A[i].l := by
          have := congrArg (fun L => L[i]?) hD
          simpa [wrData, rwData, hi, hiA] using this
        rw [e]; exact Bt.n hb
      have hG : Gx w wo w.heap.size Gw Go k k k R Ro := ⟨hM, hMo, HK.out, HRo.out, hAc, fun r hr => hRep.out.cols _ (List.mem_map.2 ⟨r, hr, rfl⟩), hgg, HRR.out, htb, hbr⟩
      have hS : Mat.Step k (Mat.ent (rwData A)) (Mat.ent (wrData R)) (Mat.ent (wrData Ro)) (fun j => j < 0) := (Mat.Step.start k (Mat.ent (rwData A))).congr (fun i j _ _ => by rw [hD]) (fun i j hi hj => hRep.out.eq i j hi hj) (fun j hj => absurd hj (by omega))
      have HS := hid hS
      clear hS hD hlA hAc hM hMo htb hbr HRR HD hRep XA HRo
      go_wp2_with fail
      go_loopg [52] k (fun g i wr => ∃ (c : Nat) (X Y : List Wr), g = k - c ∧ c ≤ k ∧ i = .int .i64 (c : Int) ∧ Gx w wr w.heap.size Gw Go k k k X Y ∧ Hid (Mat.Step k (Mat.ent (rwData A)) (Mat.ent (wrData X)) (Mat.ent (wrData Y)) (fun j => j < c)))
      case atStart => exact ⟨0, R, Ro, rfl, by omega, rfl, hG, HS⟩
      case round =>
        clear hG HS HK
        obtain ⟨c, X, Y, rfl, hc, rfl, hG, HS⟩ := hrel
        obtain ⟨wo, rfl⟩ : ∃ wo : World, wo = wr := ⟨_, rfl⟩
        have hszo := hG.below.size
        by_cases hlt : c < k
        · have hX := hid hG.lw
          have hY := hid hG.lo
          have hcX : c < X.length := by rw [hX.out]; exact hlt
          have hGA := hG.alloc (.cells #[.int .i64 (c : Int)] 3)
          have hbx := blk_new wo (.cells #[.int .i64 (c : Int)] 3)
          have hMs := (hGA.mw.ms hG.lw).drop (lo := c) (by omega)
          rw [if_neg (by omega), Option.map_some, add_off, Nat.zero_add, Nat.mul_one] at hMs
          have D := hid (IndexFuncM_call _ _ _ wo.heap.size c k _ _ hMs (fun r hr => by
            obtain ⟨q, hq, rfl⟩ := List.mem_map.1 (List.mem_of_mem_drop hr)
            exact hG.ww q hq) hlt hbx |>.mono fun e w' h => find_ent hX.out h)
          have bc : (wo.alloc (.cells #[.int .i64 (c : Int)] 3)).cell? ⟨wo.heap.size, 0, none⟩ = some (.int .i64 (c : Int)) := blk_cell hbx
          go_wp2_with fail
          go_at_call 113; refine (D.out).mono ?_; rintro e w5 ⟨rfl, ⟨p, hp, rfl, hne⟩ | ⟨rfl, hz⟩⟩
          · have hpX : c + p < X.length := by rw [hX.out]; exact hp
            have x0 := hGA.mw.at c hcX
            have x1 := hGA.mw.at (c + p) hpX
            rw [hG.ww _ (List.getElem_mem hcX)] at x0
            rw [hG.ww _ (List.getElem_mem hpX)] at x1
            have x2 := hGA.mw.free c
            have x3 := hGA.mw.free (c + p)
            have s1 : IntKind.i64.wrap ((c : Int) + (p : Int)) = (c : Int) + (p : Int) := IntWalk.i64_in _ (by omega)
            have s2 : (0 : Int) ≤ (c : Int) + (p : Int) := by omega
            have s3 : ((c : Int) + (p : Int)).toNat = c + p := by omega
            have s4 : (c : Int) + (p : Int) < (k : Int) := by omega
            have i0 : (0 : Int) ≤ (c : Int) := by omega
            have i1 : (c : Int) < (k : Int) := by omega
            have hG1 := hGA.swap c (c + p) hcX hpX
            simp only [Wr.v, hG.ww _ (List.getElem_mem hcX), hG.ww _ (List.getElem_mem hpX)] at hG1
            have n1 : Gw ≠ wo.heap.size := by have := hG.mw.lt; omega
            have n2 : Go ≠ wo.heap.size := by have := hG.mo.lt; omega
            have n3 : wo.heap.size ≠ Gw := Ne.symm n1
            have n4 : wo.heap.size ≠ Go := Ne.symm n2
            generalize wo.alloc (.cells #[.int .i64 (c : Int)] 3) = W at *
            generalize wo.heap.size = bx at *
            replace hG1 := hid hG1
            replace hne := hid hne
            have bw : W.heap[bx]? = some (.cells #[.int .i64 (c : Int)] 3 (0, 0)) := hbx
            clear hMs D hGA hG
            go_upto_region 21 with (fail)
            go_cut [79] (fun s79 wc => ∃ X2, Gx w wc w.heap.size Gw Go k k k X2 Y ∧ Hid (X2 = (X.set c X[c + p]).set (c + p) X[c]) ∧ wc.heap[bx]? = some (.cells #[.int .i64 (c : Int)] 3 (0, 0)))
            case first =>
              rcases Nat.eq_zero_or_pos p with h0 | h0
              · subst h0
                simp only [Nat.add_zero] at x1 x3 hG1
                clear s1 s2 s3 s4
                go_region
                all_goals (go_wp2_with fail; go_meet)
                exact ⟨_, hG1.out.drewN 1, hid rfl, (Below.heap_setCell _ _ _ _ n3).trans ((Below.heap_setCell _ _ _ _ n3).trans bw)⟩
              · go_region
                all_goals (go_wp2_with fail; go_meet)
                exact ⟨_, hG1.out.drewN 1, hid rfl, (Below.heap_setCell _ _ _ _ n3).trans ((Below.heap_setCell _ _ _ _ n3).trans bw)⟩
            case rest =>
              obtain ⟨X2, hG2, hD2, bw2⟩ := hcut
              clear x0 x1 x2 x3 hG1 bc bw hbx
              have hpY : c + p < Y.length := by rw [hY.out]; exact hp
              have hcY : c < Y.length := by rw [hY.out]; exact hlt
              have x0 := hG2.mo.at c hcY
              have x1 := hG2.mo.at (c + p) hpY
              rw [hG2.wo _ (List.getElem_mem hcY)] at x0
              rw [hG2.wo _ (List.getElem_mem hpY)] at x1
              have x2 := hG2.mo.free c
              have x3 := hG2.mo.free (c + p)
              have bc : wc.cell? ⟨bx, 0, none⟩ = some (.int .i64 (c : Int)) := blk_cell bw2
              have hG3 := (hG2.symm.swap c (c + p) hcY hpY).symm
              simp only [Wr.v, hG2.wo _ (List.getElem_mem hcY), hG2.wo _ (List.getElem_mem hpY)] at hG3
              replace hG3 := hid hG3
              obtain ⟨V, rfl⟩ : ∃ V : World, V = wc := ⟨_, rfl⟩
              clear hG2
              go_upto_region 22 with (fail)
              go_cut [97] (fun s97 wc => ∃ Y2, Gx w wc w.heap.size Gw Go k k k X2 Y2 ∧ Hid (Y2 = (Y.set c Y[c + p]).set (c + p) Y[c]) ∧ wc.heap[bx]? = some (.cells #[.int .i64 (c : Int)] 3 (0, 0)))
              case first =>
                rcases Nat.eq_zero_or_pos p with h0 | h0
                · subst h0
                  simp only [Nat.add_zero] at x1 x3 hG3
                  clear s1 s2 s3 s4
                  go_region
                  all_goals (go_wp2_with fail; go_meet)
                  exact ⟨_, hG3.out.drewN 1, hid rfl, (Below.heap_setCell _ _ _ _ n4).trans ((Below.heap_setCell _ _ _ _ n4).trans bw2)⟩
                · go_region
                  all_goals (go_wp2_with fail; go_meet)
                  exact ⟨_, hG3.out.drewN 1, hid rfl, (Below.heap_setCell _ _ _ _ n4).trans ((Below.heap_setCell _ _ _ _ n4).trans bw2)⟩
              case rest =>
                obtain ⟨Y2, hG4, hE2, bw3⟩ := hcut
                clear x0 x1 x2 x3 hG3 bc bw2 n1 n2 n3 n4 s1 s2 s3 s4
                have HS2 := hid ((HS.out.swap hlt hp (by omega) (by omega)).congr (work' := Mat.ent (wrData X2)) (out' := Mat.ent (wrData Y2)) (P' := fun j => j < c) (fun i j _ _ => by rw [hD2.out]; exact ent_swapW X c (c + p) hcX hpX i j) (fun i j _ _ => by rw [hE2.out]; exact ent_swapW Y c (c + p) hcY hpY i j) (fun j hj => ⟨hj, by omega⟩))
                have hne2 := hid (show Mat.ent (wrData X2) c c ≠ 0 by rw [hD2.out, ent_swapW X c (c + p) hcX hpX]; unfold Mat.swapM; rw [if_pos rfl]; exact hne.out)
                clear HS hD2 hE2 hne hpX hpY hcX hcY hX hY hp
                have hX := hid hG4.lw
                have hY := hid hG4.lo
                have hcX : c < X2.length := by rw [hX.out]; exact hlt
                have hcY : c < Y2.length := by rw [hY.out]; exact hlt
                obtain ⟨V, rfl⟩ : ∃ V : World, V = wc := ⟨_, rfl⟩
                have hw1 := hG4.ww _ (List.getElem_mem hcX)
                have hw2 := hG4.wo _ (List.getElem_mem hcY)
                have x0 := hG4.mw.at c hcX
                have x1 := hG4.mw.byte c c hcX (by omega)
                rw [hw1] at x0
                have bc : V.cell? ⟨bx, 0, none⟩ = some (.int .i64 (c : Int)) := blk_cell bw3
                have h8 := at8_lt X2[c].l c
                have DI := hid (fun q => TInv_call w.heap.size (at8 X2[c].l c) h8 (V.drewN q) (hG4.tab.drewN q))
                obtain ⟨xi, hxi⟩ : ∃ xi, xi = Mat.ginv (X2[c].l.getD c 0) := ⟨_, rfl⟩
                have e8 : Fld.inv (at8 X2[c].l c) = xi.toNat := by rw [hxi, Mat.toNat_inv]; rfl
                have hxi0 : xi ≠ 0 := by rw [hxi]; exact Mat.inv_ne (by rw [← ent_wr hcX]; exact hne2.out)
                have HXI := hid (show xi = Mat.ginv (Mat.ent (wrData X2) c c) by rw [hxi, ent_wr hcX])
                rw [e8] at DI
                clear e8 hxi
                generalize at8 X2[c].l c = xb at *
                replace hw1 := hid hw1; replace hw2 := hid hw2; replace hxi0 := hid hxi0
                go_wp2_with fail
                go_quiet ((go_at_call 115; exact Calls.quiet_of (DI.out _)))
                have hG5 := hG4.drewN nq
                have bw5 : (V.drewN nq).heap[bx]? = some (.cells #[.int .i64 (c : Int)] 3 (0, 0)) := bw3
                generalize V.drewN nq = V5 at *
                clear DI x0 x1 bc bw3 hG4
                have x0 := hG5.mw.at c hcX
                rw [hw1.out] at x0
                have bc : V5.cell? ⟨bx, 0, none⟩ = some (.int .i64 (c : Int)) := blk_cell bw5
                have ho1 := hG5.mw.row X2[c] (List.getElem_mem hcX)
                simp only [Wr.v, hw1.out] at ho1
                have D1 := hid (gscale_call w.heap.size w.heap.size X2[c].g k X2[c].cap X2[c].l xi V5 hG5.tab ho1 (by omega))
                go_wp2_with fail
                go_at_call 116; refine (D1.out).mono ?_; rintro e V6 ⟨rfl, m1, hm1, hf1, hO1⟩
                have hlm1 := byte_len hm1
                have hG6 := hG5.row c hcX hlm1 hO1 (by simp only [Wr.v, hw1.out]; exact hm1)
                have bw6 := hG5.box bw5 (List.getElem_mem hcX) hO1
                clear D1 x0 bc bw5 hO1 hm1 ho1
                have hX3 := hid (show ∀ i j, i < k → j < k → Mat.ent (wrData (X2.set c ⟨X2[c].g, X2[c].cap, m1⟩)) i j = Mat.scaleM c xi (Mat.ent (wrData X2)) i j from fun i j _ hj => by
                  rw [data_set]; exact Mat.ent_scale (n := k) (by rw [wrData_length]; exact hcX) (fun j hj => by rw [hf1 j hj]; simp [wrData]) i j hj)
                clear hf1 hG5
                have x0 := hG6.mo.at c hcY
                rw [hw2.out] at x0
                have bc : V6.cell? ⟨bx, 0, none⟩ = some (.int .i64 (c : Int)) := blk_cell bw6
                have ho1 := hG6.mo.row Y2[c] (List.getElem_mem hcY)
                simp only [Wr.v, hw2.out] at ho1
                have D1 := hid (gscale_call w.heap.size w.heap.size Y2[c].g k Y2[c].cap Y2[c].l xi V6 hG6.tab ho1 (by omega))
                go_wp2_with fail
                go_at_call 116; refine (D1.out).mono ?_; rintro e V7 ⟨rfl, m2, hm2, hf2, hO2⟩
                have hlm2 := byte_len hm2
                have hG7 := (hG6.symm.row c hcY hlm2 hO2 (by simp only [Wr.v, hw2.out]; exact hm2)).symm
                have bw7 := hG6.symm.box bw6 (List.getElem_mem hcY) hO2
                clear D1 x0 bc bw6 hO2 hm2 ho1
                have hY3 := hid (show ∀ i j, i < k → j < k → Mat.ent (wrData (Y2.set c ⟨Y2[c].g, Y2[c].cap, m2⟩)) i j = Mat.scaleM c xi (Mat.ent (wrData Y2)) i j from fun i j _ hj => by
                  rw [data_set]; exact Mat.ent_scale (n := k) (by rw [wrData_length]; exact hcY) (fun j hj => by rw [hf2 j hj]; simp [wrData]) i j hj)
                clear hf2 hG6 hlm1 hlm2
                generalize X2.set c ⟨X2[c].g, X2[c].cap, m1⟩ = X3 at *
                generalize Y2.set c ⟨Y2[c].g, Y2[c].cap, m2⟩ = Y3 at *
                have HS3 := hid ((HS2.out.scale hlt (by omega) hxi0.out).congr (work' := Mat.ent (wrData X3)) (out' := Mat.ent (wrData Y3)) (P' := fun j => j < c) hX3.out hY3.out (fun j hj => ⟨hj, by omega⟩))
                have H1 := hid (show Mat.ent (wrData X3) c c = 1 by rw [hX3.out c c hlt hlt, HXI.out]; exact Mat.scale_one hne2.out)
                clear HS2 hX3 hY3 HXI hne2 hxi0 hw1 hw2 hX hY
                go_wp2_with fail
                go_loopg [122] k (fun g ix wr => ∃ (i : Nat) (X4 Y4 : List Wr), g = k - i ∧ i ≤ k ∧ ix = .int .i64 (i : Int) ∧ Gx w wr w.heap.size Gw Go k k k X4 Y4 ∧ wr.heap[bx]? = some (.cells #[.int .i64 (c : Int)] 3 (0, 0)) ∧ Hid (∀ r j, r < k → j < k → Mat.ent (wrData X4) r j = Mat.elimTo c (fun r => Mat.ent (wrData X3) r c) i (Mat.ent (wrData X3)) r j) ∧ Hid (∀ r j, r < k → j < k → Mat.ent (wrData Y4) r j = Mat.elimTo c (fun r => Mat.ent (wrData X3) r c) i (Mat.ent (wrData Y3)) r j))
                case atStart => exact ⟨0, X3, Y3, rfl, by omega, rfl, hG7, bw7, hid (fun r j _ _ => (Mat.elimTo_zero _ _ _ _ _).symm), hid (fun r j _ _ => (Mat.elimTo_zero _ _ _ _ _).symm)⟩
                case round =>
                  clear hG7 bw7
                  obtain ⟨i, X4, Y4, rfl, hik, rfl, hG, bw, HX, HY⟩ := hrel
                  obtain ⟨U, rfl⟩ : ∃ U : World, U = wr := ⟨_, rfl⟩
                  have hX := hid hG.lw
                  have hY := hid hG.lo
                  have bc : U.cell? ⟨bx, 0, none⟩ = some (.int .i64 (c : Int)) := blk_cell bw
                  by_cases hli : i < k
                  · have hiX : i < X4.length := by rw [hX.out]; exact hli
                    have hiY : i < Y4.length := by rw [hY.out]; exact hli
                    have hcX : c < X4.length := by rw [hX.out]; exact hlt
                    have hcY : c < Y4.length := by rw [hY.out]; exact hlt
                    have hw1 := hG.ww _ (List.getElem_mem hiX)
                    have hw2 := hG.ww _ (List.getElem_mem hcX)
                    have hw3 := hG.wo _ (List.getElem_mem hiY)
                    have hw4 := hG.wo _ (List.getElem_mem hcY)
                    have x0 := hG.mw.at i hiX
                    have x1 := hG.mw.byte i c hiX (by omega)
                    rw [hw1] at x0
                    obtain ⟨y, hy⟩ : ∃ y, y = X4[i].l.getD c 0 := ⟨_, rfl⟩
                    have e8 : at8 X4[i].l c = y.toNat := by rw [hy]; rfl
                    have HYE := hid (show y = Mat.ent (wrData X3) i c by
                      rw [hy, ← ent_wr hiX, HX.out i c hli hlt]
                      unfold Mat.elimTo
                      rw [if_neg (by omega)])
                    rw [e8] at x1
                    have hy8 := Mat.lt y
                    clear e8 hy
                    have j0 : (0 : Int) ≤ (i : Int) := by omega
                    have j1 : (i : Int) < (k : Int) := by omega
                    by_cases hst : i = c ∨ y = 0
                    · have HX2 := hid (show ∀ r j, r < k → j < k → Mat.ent (wrData X4) r j = Mat.elimTo c (fun r => Mat.ent (wrData X3) r c) (i + 1) (Mat.ent (wrData X3)) r j from fun r j hr hj => by
                        rw [HX.out r j hr hj]
                        exact (Mat.elimTo_stay (hst.imp id (fun e => by rw [← HYE.out]; exact e)) r j).symm)
                      have HY2 := hid (show ∀ r j, r < k → j < k → Mat.ent (wrData Y4) r j = Mat.elimTo c (fun r => Mat.ent (wrData X3) r c) (i + 1) (Mat.ent (wrData Y3)) r j from fun r j hr hj => by
                        rw [HY.out r j hr hj]
                        exact (Mat.elimTo_stay (hst.imp id (fun e => by rw [← HYE.out]; exact e)) r j).symm)
                      rcases Nat.eq_or_lt_of_le (Nat.le_refl 0) with _ | hx
                      · by_cases hic : i = c
                        · clear hst HYE hw1 hw2 hw3 hw4
                          subst hic
                          go_wp2_with fail
                          go_quiet (fail)
                          go_wp2_with fail
                          go_roundg (k - (i + 1))
                          case measure => omega
                          case rel => exact ⟨i + 1, X4, Y4, rfl, by omega, by go_num, hG.drewN _, bw, HX2, HY2⟩
                        · have hy0 : y.toNat = 0 := by rw [hst.resolve_left hic]; rfl
                          rw [hy0] at x1
                          have u0 : ((i : Int) != (c : Int)) = true := by rw [bne_iff_ne]; omega
                          have u1 : (i != c) = true := by rw [bne_iff_ne]; exact hic
                          clear hst HYE hw1 hw2 hw3 hw4 hy0 hic
                          go_wp2_with fail
                          go_quiet (fail)
                          go_wp2_with fail
                          go_roundg (k - (i + 1))
                          case measure => omega
                          case rel => exact ⟨i + 1, X4, Y4, rfl, by omega, by go_num, hG.drewN _, bw, HX2, HY2⟩
                      · omega
                    · have hic : i ≠ c := fun e => hst (.inl e)
                      have hy0 : y.toNat ≠ 0 := fun e => hst (.inr (UInt8.toNat_inj.1 e))
                      have u0 : ((i : Int) != (c : Int)) = true := by rw [bne_iff_ne]; omega
                      have u1 : (i != c) = true := by rw [bne_iff_ne]; exact hic
                      have u2 : ((y.toNat : Int) != 0) = true := by rw [bne_iff_ne]; omega
                      have u3 : (y.toNat != 0) = true := by rw [bne_iff_ne]; exact hy0
                      replace hw1 := hid hw1; replace hw2 := hid hw2; replace hw3 := hid hw3; replace hw4 := hid hw4
                      have HIC := hid hic
                      clear hst hy0 hic
                      go_wp2_with fail
                      go_quiet (fail)
                      have hG5 := hG.drewN nq
                      have bw5 : (U.drewN nq).heap[bx]? = some (.cells #[.int .i64 (c : Int)] 3 (0, 0)) := bw
                      generalize U.drewN nq = U5 at *
                      clear x0 x1 bc hG bw
                      have x0 := hG5.mw.at i hiX
                      have x1 := hG5.mw.at c hcX
                      rw [hw1.out] at x0
                      rw [hw2.out] at x1
                      have bc : U5.cell? ⟨bx, 0, none⟩ = some (.int .i64 (c : Int)) := blk_cell bw5
                      have ho1 := hG5.mw.row X4[i] (List.getElem_mem hiX)
                      have ho2 := hG5.mw.row X4[c] (List.getElem_mem hcX)
                      simp only [Wr.v, hw1.out] at ho1
                      simp only [Wr.v, hw2.out] at ho2
                      have hgne : X4[c].g ≠ X4[i].g := hG5.mw.gne hcX hiX (Ne.symm HIC.out)
                      have D1 := hid (fun q => gadd_call w.heap.size w.heap.size X4[i].g k X4[i].cap w.heap.size X4[c].g X4[c].cap X4[i].l X4[c].l y (U5.drewN q) (hG5.tab.drewN q) (own_drewN ho1 q) (own_drewN ho2 q) hgne (by omega))
                      go_upto_region 31 with (fail)
                      go_cut [131] (fun s131 wc => ∃ X5, Gx w wc w.heap.size Gw Go k k k X5 Y4 ∧ wc.heap[bx]? = some (.cells #[.int .i64 (c : Int)] 3 (0, 0)) ∧ Hid (∀ r j, r < k → j < k → Mat.ent (wrData X5) r j = Mat.elimTo c (fun r => Mat.ent (wrData X3) r c) (i + 1) (Mat.ent (wrData X3)) r j))
                      case first =>
                        go_region_law (first | (go_simp; go_at_call 117; refine (D1.out _).mono ?_; rintro e w6 ⟨rfl, m1, hm1, hf1, hO1⟩))
                        all_goals (go_wp2_with fail; go_meet)
                        all_goals
                          refine ⟨X4.set i ⟨X4[i].g, X4[i].cap, m1⟩, (hG5.drewN _).row i hiX (byte_len hm1) hO1 (by simp only [Wr.v, hw1.out]; exact hm1), (hG5.drewN _).box bw5 (List.getElem_mem hiX) hO1, hid (fun r j hr hj => ?_)⟩
                          rw [data_set]
                          exact Mat.ent_elim (n := k) (by rw [wrData_length]; exact hiX) HX.out hli hlt HIC.out (fun j hj => by
                            rw [hf1 j hj, ← HYE.out, ent_wr hcX]; simp [wrData]) r j hr hj
                      case rest =>
                        obtain ⟨X5, hG6, bw6, HX5⟩ := hcut
                        clear x0 x1 bc ho1 ho2 hgne D1 hG5 bw5 hw1 hw2
                        obtain ⟨U6, rfl⟩ : ∃ U : World, U = wc := ⟨_, rfl⟩
                        have x0 := hG6.mo.at i hiY
                        have x1 := hG6.mo.at c hcY
                        rw [hw3.out] at x0
                        rw [hw4.out] at x1
                        have bc : U6.cell? ⟨bx, 0, none⟩ = some (.int .i64 (c : Int)) := blk_cell bw6
                        have ho1 := hG6.mo.row Y4[i] (List.getElem_mem hiY)
                        have ho2 := hG6.mo.row Y4[c] (List.getElem_mem hcY)
                        simp only [Wr.v, hw3.out] at ho1
                        simp only [Wr.v, hw4.out] at ho2
                        have hgne : Y4[c].g ≠ Y4[i].g := hG6.mo.gne hcY hiY (Ne.symm HIC.out)
                        have D1 := hid (fun q => gadd_call w.heap.size w.heap.size Y4[i].g k Y4[i].cap w.heap.size Y4[c].g Y4[c].cap Y4[i].l Y4[c].l y (U6.drewN q) (hG6.tab.drewN q) (own_drewN ho1 q) (own_drewN ho2 q) hgne (by omega))
                        go_wp2_with fail
                        go_region_law (first | (go_simp; go_at_call 117; refine (D1.out _).mono ?_; rintro e w6 ⟨rfl, m1, hm1, hf1, hO1⟩))
                        all_goals go_wp2_with fail
                        all_goals
                          go_roundg (k - (i + 1))
                          case measure => omega
                          case rel =>
                            refine ⟨i + 1, X5, Y4.set i ⟨Y4[i].g, Y4[i].cap, m1⟩, rfl, by omega, by go_num, ((hG6.drewN _).symm.row i hiY (byte_len hm1) hO1 (by simp only [Wr.v, hw3.out]; exact hm1)).symm, (hG6.drewN _).symm.box bw6 (List.getElem_mem hiY) hO1, HX5, hid (fun r j hr hj => ?_)⟩
                            rw [data_set]
                            exact Mat.ent_elim (n := k) (by rw [wrData_length]; exact hiY) HY.out hli hlt HIC.out (fun j hj => by
                              rw [hf1 j hj, ← HYE.out, ent_wr hcY]; simp [wrData]) r j hr hj
                  · obtain rfl : i = k := by omega
                    go_wp2_with fail
                    go_roundg (i - (c + 1))
                    case measure => omega
                    case rel =>
                      refine ⟨c + 1, X4, Y4, rfl, by omega, by go_num, hG, hid ?_⟩
                      refine (HS3.out.elim hlt (by omega) H1.out).congr (fun r j hr hj => ?_) (fun r j hr hj => ?_) (fun j hj => ⟨?_, by omega⟩)
                      · rw [HX.out r j hr hj, Mat.elimTo_all hr]
                      · rw [HY.out r j hr hj, Mat.elimTo_all hr]
                      · by_cases e : j = c
                        · exact .inr e
                        · exact .inl (by omega)
          · have hst := HS.out.stuck hlt (by omega) (fun i hi hic => hz i (by omega) hi)
            have hbl := hGA.below
            clear hz D
            go_wp2_with fail
            go_ret2
            exact ⟨_, _, _, [], 6, rfl, Ms.nil _, .inl ⟨rfl, rfl, hst⟩, hbl⟩
        · obtain rfl : c = k := by omega
          go_wp2_with fail
          go_ret2
          have hu := HS.out.done (fun j hj => hj)
          exact ⟨_, _, _, _, 0, rfl, hG.mo.ms hG.lo, .inr ⟨_, by rw [wrData_rw]; exact Mat.Rep.self (by rw [wrData_length]; exact hG.lo) (fun r hr => by obtain ⟨q, hq, rfl⟩ := List.mem_map.1 hr; exact hG.wo q hq), hu, rfl⟩, hG.below⟩
theorem gInvert_call (a : Option Addr) (n ac : Nat) (A : List Rw) (w : World) (hA : Ms w a n ac A) : Calls Try.prog 105 #[.slice a n ac] w (MRes (Mat.InvR (rwData A)) w) := by
  refine inv_cases (A := rwData A) (fun h => ?_) (fun h h3 => ?_) (fun n' e1 hFA => ?_)
  · exact (gInvert_1 a n ac A w hA h).mono fun e w' hh => NilB.res hh (invR_1 h)
  · exact (gInvert_2 a n ac A w hA h (by rw [hA.dn] at h3; exact h3)).mono fun e w' hh => NilB.res hh (invR_2 h h3)
  · obtain rfl : n' = n := e1.symm.trans hA.dn
    exact (gInvert_ok a n' ac A w hA hFA).mono fun e w' ⟨x1, x2, x3, x4, x5, y1, y2, y3, y4⟩ => ⟨x1, x2, x3, x4, x5, y1, y2, invR_3 hFA y3, y4⟩
end Go.Proofs.Ythhcdfjijagalaa
