/- Walk: ViewTells. -/
import Derived.Test.YtjdgfijpmljhiaaViewQ
namespace Go.Proofs.Ytjdgfijpmljhiaa
open Go.RowKit
set_option linter.unusedVariables false
set_option linter.unusedSimpArgs false
theorem newN1 (w : World) (o o' : Obj) : ((w.alloc o).alloc o').heap[w.heap.size + 1]? = some o' := by simpa using blk_new (w.alloc o) o'
theorem hTake {P : Program} {ops : Array Oper} {Q : Exit → Act → World → Prop} {md : Region.Mode} {S : World → Prop} {i : Nat} {oi : Oper} {v : Value} {fuel : Nat} {listed : Array Bool} {a : Act} {w : World} (hi : ops[i]? = some oi)
    (hs : Region.noSelect ops = true) (hf : Region.free md ops listed i = true) (hr : (Region.ready md ops listed).contains i = true)
    (hQ : ∀ c a w, Q (.panic c) (a.put oi.dst v) w → Q (.panic c) a w) (hw : Region.wanted oi (yielded ops a.tmps) = true) (hy : ∀ w, S w → (execOp a.eval oi).run P w = .ok (.value v) w) (hS : S w)
    (h : wpAnyH P md ops Q S fuel (listed.setIfInBounds i true) (a.put oi.dst v) w) : wpAnyH P md ops Q S (fuel + 1) listed a w :=
  wpAnyH_take hi hs hf hr hQ (Or.inl ⟨hw, hy⟩) hS h
theorem hSkip {P : Program} {ops : Array Oper} {Q : Exit → Act → World → Prop} {md : Region.Mode} {S : World → Prop} {i : Nat} {oi : Oper} {fuel : Nat} {listed : Array Bool} {a : Act} {w : World} (hi : ops[i]? = some oi)
    (hs : Region.noSelect ops = true) (hf : Region.free md ops listed i = true) (hr : (Region.ready md ops listed).contains i = true)
    (hQ : ∀ c a w, Q (.panic c) (a.put oi.dst undef) w → Q (.panic c) a w) (hw : Region.wanted oi (yielded ops a.tmps) = false) (hS : S w)
    (h : wpAnyH P md ops Q S fuel (listed.setIfInBounds i true) (a.put oi.dst undef) w) : wpAnyH P md ops Q S (fuel + 1) listed a w :=
  wpAnyH_take hi hs hf hr hQ (Or.inr ⟨hw, rfl⟩) hS h

set_option maxRecDepth 100000 in
set_option maxHeartbeats 40000000 in
theorem ViewTells_walk (u : Int) (a : Option Addr) (n cap : Nat) (l : List Vw.Acc) (ea : Option Addr) (en ec : Nat) (es : List Evt.Ev) (s : ByteArray) (w : World) (h : As w a n cap l) (hes : Es w ea en ec es) :
    Calls Try.prog 3 #[.agg #[.int .i64 u, .slice a n cap], .slice ea en ec, .string s] w (Grew (.bool true) w) := by
  have hemax := hes.sl.max
  have hele := hes.sl.le
  unfold maxLen at hemax
  have HEN := hid hes.n
  have V0 := blk_new w (.cells #[.int .i64 u, .slice a n cap] 24)
  have hbV : Below w.heap.size w (w.alloc (.cells #[.int .i64 u, .slice a n cap] 24)) := (Below.refl _ _).alloc (Nat.le_refl _) _
  have hV := h.below hbV
  have hEV := hes.below hbV
  -- contracts, from a world V on
  have DW := hid (fun W (hW : As W a n cap l) => vWrong_call u a n cap l W hW)
  have DR := hid (fun W (hW : As W a n cap l) => rWrongView_call u a n cap l W hW)
  have DG := hid (fun W (hW : As W a n cap l) (t : ByteArray) => vGet_call u a n cap l t W hW)
  have DH := hid (fun W (hW : As W a n cap l) (t : ByteArray) => rGet_call u a n cap l t W hW)
  have DA := hid (fun W (hW : As W a n cap l) (e : Evt.Ev) (he : e.s.size ≤ maxLen) => vApply_call u a n cap l e W hW he)
  have DB := hid (fun W (hW : As W a n cap l) (e : Evt.Ev) (he : e.s.size ≤ maxLen) => rApply_call u a n cap l e W hW he)
  have DF := hid (fun W (hW : As W a n cap l) (hE : Es W ea en ec es) => vFold_call u a n cap l ea en ec es W hW hE)
  have DI := hid (fun W (hW : As W a n cap l) (hE : Es W ea en ec es) => rFold_call u a n cap l ea en ec es W hW hE)
  obtain ⟨E, hE⟩ : ∃ E, E = Vw.wrongV ⟨u, l⟩ := ⟨_, rfl⟩
  rw [← hE] at DW DR
  replace hE := hid hE
  obtain ⟨E1, E2⟩ := E
  unfold viVal fVal' at DW DR
  unfold viVal at DG DH DA DB DF DI
  simp only at DW DR
  go_enter Try.func3, Try.ntmps3
  go_upto_region 1 with (fail)
  generalize w.alloc (.cells #[.int .i64 u, .slice a n cap] 24) = V at *
  have zV := blk_lt V0
  have r0 : V.cell? ⟨w.heap.size, 0, none⟩ = some (.int .i64 u) := blk_cell V0
  have r1 : V.cell? ⟨w.heap.size, 1, none⟩ = some (.slice a n cap) := blk_cell V0
  go_cut [30] from 17 to 30 (fun c wx => c = .bool false ∧ Below V.heap.size V wx)
  case first =>
    have KW := hid (show ∀ W, Below V.heap.size V W → Calls Try.prog 11 #[.agg #[.int .i64 u, .slice a n cap]] W (fun e w' => e = .returned (.agg #[.int .i64 E1, .int .i64 E2]) ∧ Below V.heap.size V w' ∧ w'.cell? ⟨w.heap.size, 0, none⟩ = some (.int .i64 u) ∧ w'.cell? ⟨w.heap.size, 1, none⟩ = some (.slice a n cap)) from fun W hW =>
      (DW.out W (hV.below hW)).mono fun e w' ⟨h1, h2⟩ => ⟨h1, bnext hW h2, blk_cell (blk_below V0 (bnext hW h2)), blk_cell (blk_below V0 (bnext hW h2))⟩)
    have KR := hid (show ∀ W, Below V.heap.size V W → Calls Try.prog 12 #[.agg #[.int .i64 u, .slice a n cap]] W (fun e w' => e = .returned (.agg #[.int .i64 E1, .int .i64 E2]) ∧ Below V.heap.size V w' ∧ w'.cell? ⟨w.heap.size, 0, none⟩ = some (.int .i64 u) ∧ w'.cell? ⟨w.heap.size, 1, none⟩ = some (.slice a n cap)) from fun W hW =>
      (DR.out W (hV.below hW)).mono fun e w' ⟨h1, h2⟩ => ⟨h1, bnext hW h2, blk_cell (blk_below V0 (bnext hW h2)), blk_cell (blk_below V0 (bnext hW h2))⟩)
    obtain ⟨A, hA⟩ : ∃ A, A = Vw.get l s := ⟨_, rfl⟩
    have DG := DG.out
    have DH := DH.out
    have KG := show ∀ W, Below V.heap.size V W → Calls Try.prog 13 #[.agg #[.int .i64 u, .slice a n cap], .string s] W (fun e w' => e = .returned (acVal A) ∧ Below V.heap.size V w' ∧ w'.cell? ⟨w.heap.size, 0, none⟩ = some (.int .i64 u) ∧ w'.cell? ⟨w.heap.size, 1, none⟩ = some (.slice a n cap)) from fun W hW =>
      (DG W (hV.below hW) s).mono fun e w' ⟨h1, h2⟩ => ⟨by rw [hA]; exact h1, bnext hW h2, blk_cell (blk_below V0 (bnext hW h2)), blk_cell (blk_below V0 (bnext hW h2))⟩
    have KH := show ∀ W, Below V.heap.size V W → Calls Try.prog 14 #[.agg #[.int .i64 u, .slice a n cap], .string s] W (fun e w' => e = .returned (acVal A) ∧ Below V.heap.size V w' ∧ w'.cell? ⟨w.heap.size, 0, none⟩ = some (.int .i64 u) ∧ w'.cell? ⟨w.heap.size, 1, none⟩ = some (.slice a n cap)) from fun W hW =>
      (DH W (hV.below hW) s).mono fun e w' ⟨h1, h2⟩ => ⟨by rw [hA]; exact h1, bnext hW h2, blk_cell (blk_below V0 (bnext hW h2)), blk_cell (blk_below V0 (bnext hW h2))⟩
    clear hA
    obtain ⟨t, mm, cc, oo⟩ := A
    unfold acVal at KG KH
    simp only at KG KH
    replace KG := hid KG
    replace KH := hid KH
    have e0 : (t == t) = true := by rw [ba_eq]; simp
    have e1 : (t.toList == t.toList) = true := by rw [str_list]; simp
    clear DG DH DW DR DA DB DF DI
    go_region_held3 (fun w' => w'.cell? ⟨w.heap.size, 0, none⟩ = some (.int .i64 u) ∧ w'.cell? ⟨w.heap.size, 1, none⟩ = some (.slice a n cap))
      (first | (with_reducible exact ⟨g0, g1⟩) | (exact ⟨r0, r1⟩))
      (first
        | (go_at_call 11; refine (KW.out _ ?_).mono ?_; (repeat (first | assumption | exact Below.refl _ _ | refine below_drewN ?_ _ | refine Below.drew ?_)); rintro e w5 ⟨rfl, b5, g0, g1⟩)
        | (go_at_call 12; refine (KR.out _ ?_).mono ?_; (repeat (first | assumption | exact Below.refl _ _ | refine below_drewN ?_ _ | refine Below.drew ?_)); rintro e w5 ⟨rfl, b5, g0, g1⟩)
        | (go_at_call 13; refine (KG.out _ ?_).mono ?_; (repeat (first | assumption | exact Below.refl _ _ | refine below_drewN ?_ _ | refine Below.drew ?_)); rintro e w5 ⟨rfl, b5, g0, g1⟩)
        | (go_at_call 14; refine (KH.out _ ?_).mono ?_; (repeat (first | assumption | exact Below.refl _ _ | refine below_drewN ?_ _ | refine Below.drew ?_)); rintro e w5 ⟨rfl, b5, g0, g1⟩))
    all_goals (go_wp2_with fail; go_meet; exact ⟨rfl, b5⟩)
  case rest =>
    obtain ⟨rfl, hB0⟩ := hcut
    clear r0 r1
    go_upto_region 4 with (fail)
    go_loopg [33] en (fun g i wr => ∃ k : Nat, g = en - k ∧ k ≤ en ∧ i = .int .i64 (k : Int) ∧ Below V.heap.size V wr)
    case atStart => exact ⟨0, rfl, by omega, rfl, hB0⟩
    case round =>
      clear hB0
      obtain ⟨k, rfl, hk, rfl, hB⟩ := hrel
      have v0 := blk_below V0 hB
      by_cases hlt : k < en
      · have hkl : k < es.length := by rw [HEN.out]; exact hlt
        obtain ⟨b, off, rfl, _⟩ := hes.sl.addr (by omega)
        obtain ⟨q0, q1, q2⟩ := (hEV.below hB).at k hkl
        have hok := hes.ok _ (List.getElem_mem hkl)
        generalize es[k] = ev at *
        have i0 : (0 : Int) ≤ (k : Int) := by omega
        have i1 : (k : Int) < (en : Int) := by omega
        go_upto_region 6 with (fail)
        have X1 := blk_new wr (.cells #[.string ev.s, .int .i64 ev.k, .int .i64 ev.n] 34)
        have X0 := blk_old (o' := .cells #[.string ev.s, .int .i64 ev.k, .int .i64 ev.n] 34) v0
        have hBX := hB.alloc hB.size (.cells #[.string ev.s, .int .i64 ev.k, .int .i64 ev.n] 34)
        generalize wr.alloc (.cells #[.string ev.s, .int .i64 ev.k, .int .i64 ev.n] 34) = X at *
        generalize wr.heap.size = bX at *
        clear v0 q0 q1 q2 hB
        have hVX := hV.below hBX
        have r0 : X.cell? ⟨w.heap.size, 0, none⟩ = some (.int .i64 u) := blk_cell X0
        have r1 : X.cell? ⟨w.heap.size, 1, none⟩ = some (.slice a n cap) := blk_cell X0
        have r2 : X.cell? ⟨bX, 0, none⟩ = some (.string ev.s) := blk_cell X1
        have r3 : X.cell? ⟨bX, 1, none⟩ = some (.int .i64 ev.k) := blk_cell X1
        have r4 : X.cell? ⟨bX, 2, none⟩ = some (.int .i64 ev.n) := blk_cell X1
        go_cut [60] from 37 to 60 (fun c wx => c = .bool false ∧ Below X.heap.size X wx)
        case first =>
          have ST := hid (show ∀ W w', Below X.heap.size X W → Below W.heap.size W w' → Below X.heap.size X w' ∧ w'.cell? ⟨w.heap.size, 0, none⟩ = some (.int .i64 u) ∧ w'.cell? ⟨w.heap.size, 1, none⟩ = some (.slice a n cap) ∧ w'.cell? ⟨bX, 0, none⟩ = some (.string ev.s) ∧ w'.cell? ⟨bX, 1, none⟩ = some (.int .i64 ev.k) ∧ w'.cell? ⟨bX, 2, none⟩ = some (.int .i64 ev.n) from fun W w' hW h2 =>
            ⟨bnext hW h2, blk_cell (blk_below X0 (bnext hW h2)), blk_cell (blk_below X0 (bnext hW h2)), blk_cell (blk_below X1 (bnext hW h2)), blk_cell (blk_below X1 (bnext hW h2)), blk_cell (blk_below X1 (bnext hW h2))⟩)
          have KR := fun W (hW : Below X.heap.size X W) => (DR.out W (hVX.below hW)).mono fun e w' h => And.intro h.1 (ST.out W w' hW h.2)
          have KE := fun W (hW : Below X.heap.size X W) => (rWrongEvent_call ev hok W).mono fun e w' h => And.intro h.1 (ST.out W w' hW h.2)
          have KG := fun W (hW : Below X.heap.size X W) => (DG.out W (hVX.below hW) ev.s).mono fun e w' h => And.intro h.1 (ST.out W w' hW h.2)
          have KH := fun W (hW : Below X.heap.size X W) => (DH.out W (hVX.below hW) ev.s).mono fun e w' h => And.intro h.1 (ST.out W w' hW h.2)
          have KM := fun (A : Vw.Acc) W (hW : Below X.heap.size X W) => (vMay_call A ev W).mono fun e w' h => And.intro h.1 (ST.out W w' hW h.2)
          have KN := fun (A : Vw.Acc) W (hW : Below X.heap.size X W) => (rMay_call A ev W).mono fun e w' h => And.intro h.1 (ST.out W w' hW h.2)
          clear ST
          generalize Evt.wrongEv ev = EW at *
          obtain ⟨A, hA⟩ : ∃ A, A = Vw.get l ev.s := ⟨_, rfl⟩
          rw [← hA] at KG KH
          replace KM := KM A
          replace KN := KN A
          generalize Vw.may A ev = mb at *
          obtain ⟨es', ek, em⟩ := ev
          clear hA
          obtain ⟨t, mm, cc, oo⟩ := A
          unfold evVal at KE KM KN
          unfold acVal at KG KH KM KN
          simp only at KG KH KM KN KE r2 r3 r4
          replace KR := hid KR
          replace KE := hid KE
          replace KG := hid KG
          replace KH := hid KH
          replace KM := hid KM
          replace KN := hid KN
          have f0 := fault_field0
          clear DW DR DG DH DA DB DF DI
          by_cases h1 : E1 = 0
          · have t1 : (E1 == 0) = true := beq_iff_eq.2 h1
            by_cases h2 : EW = 0
            · have t2 : (EW == 0) = true := beq_iff_eq.2 h2
              replace h1 := hid h1
              replace h2 := hid h2
              go_region_held3 (fun w' => w'.cell? ⟨w.heap.size, 0, none⟩ = some (.int .i64 u) ∧ w'.cell? ⟨w.heap.size, 1, none⟩ = some (.slice a n cap) ∧ w'.cell? ⟨bX, 0, none⟩ = some (.string es') ∧ w'.cell? ⟨bX, 1, none⟩ = some (.int .i64 ek) ∧ w'.cell? ⟨bX, 2, none⟩ = some (.int .i64 em))
                (first | (with_reducible exact ⟨g0, g1, g2, g3, g4⟩) | (exact ⟨r0, r1, r2, r3, r4⟩))
                (first
                  | (go_at_call 12; refine (KR.out _ ?_).mono ?_; (repeat (first | assumption | exact Below.refl _ _ | refine below_drewN ?_ _ | refine Below.drew ?_)); rintro e w5 ⟨rfl, b5, g0, g1, g2, g3, g4⟩)
                  | (go_at_call 15; refine (KE.out _ ?_).mono ?_; (repeat (first | assumption | exact Below.refl _ _ | refine below_drewN ?_ _ | refine Below.drew ?_)); rintro e w5 ⟨rfl, b5, g0, g1, g2, g3, g4⟩)
                  | (go_at_call 13; refine (KG.out _ ?_).mono ?_; (repeat (first | assumption | exact Below.refl _ _ | refine below_drewN ?_ _ | refine Below.drew ?_)); rintro e w5 ⟨rfl, b5, g0, g1, g2, g3, g4⟩)
                  | (go_at_call 14; refine (KH.out _ ?_).mono ?_; (repeat (first | assumption | exact Below.refl _ _ | refine below_drewN ?_ _ | refine Below.drew ?_)); rintro e w5 ⟨rfl, b5, g0, g1, g2, g3, g4⟩)
                  | (go_at_call 16; refine (KM.out _ ?_).mono ?_; (repeat (first | assumption | exact Below.refl _ _ | refine below_drewN ?_ _ | refine Below.drew ?_)); rintro e w5 ⟨rfl, b5, g0, g1, g2, g3, g4⟩)
                  | (go_at_call 17; refine (KN.out _ ?_).mono ?_; (repeat (first | assumption | exact Below.refl _ _ | refine below_drewN ?_ _ | refine Below.drew ?_)); rintro e w5 ⟨rfl, b5, g0, g1, g2, g3, g4⟩))
              all_goals (go_wp2_with fail; go_meet; exact ⟨rfl, b5⟩)
            · have t2 : (EW == 0) = false := beq_eq_false_iff_ne.2 h2
              replace h1 := hid h1
              replace h2 := hid h2
              refine wp_region_held_drew (S := (fun w' => w'.cell? ⟨w.heap.size, 0, none⟩ = some (.int .i64 u) ∧ w'.cell? ⟨w.heap.size, 1, none⟩ = some (.slice a n cap) ∧ w'.cell? ⟨bX, 0, none⟩ = some (.string es') ∧ w'.cell? ⟨bX, 1, none⟩ = some (.int .i64 ek) ∧ w'.cell? ⟨bX, 2, none⟩ = some (.int .i64 em))) (by kernel_rfl) ⟨r0, r1, r2, r3, r4⟩ (fun hHeld => ?_)
              refine hTake (i := 0) (v := ?_) rfl (by kernel_rfl) (by kernel_rfl) (by kernel_rfl) (fun _ _ _ h => h) rfl ?_ (by assumption) ?_
              rotate_left
              · (intro w hSw; (try dsimp only at hSw); go_simp; try with_reducible rfl)
              try simp only [List.getElem_toArray, List.getElem_cons_succ, List.getElem_cons_zero, Act.put, List.setIfInBounds_toArray, List.set_cons_zero, List.set_cons_succ]
              refine wpAnyH_ready (rs := [1]) (by kernel_rfl) (by simp) ?_
              refine AllReadyH.cons rfl (fun K hK => ?_) AllReadyH.nil
              simp only [List.getElem_toArray, List.getElem_cons_succ, List.getElem_cons_zero]
              go_simp
              go_at_call 12; refine (KR.out _ ?_).mono ?_; (repeat (first | assumption | exact Below.refl _ _ | refine below_drewN ?_ _ | refine Below.drew ?_)); rintro e w5 ⟨rfl, b5, g0, g1, g2, g3, g4⟩
              go_wp2_with fail
              refine hK.out _ _ ⟨g0, g1, g2, g3, g4⟩ (fun hHeld => ?_)
              clear hK K
              try simp only [List.getElem_toArray, List.getElem_cons_succ, List.getElem_cons_zero, Act.put, List.setIfInBounds_toArray, List.set_cons_zero, List.set_cons_succ]
              refine hTake (i := 2) (v := ?_) rfl (by kernel_rfl) (by kernel_rfl) (by kernel_rfl) (fun _ _ _ h => h) rfl ?_ (by assumption) ?_
              rotate_left
              · (intro w hSw; (try dsimp only at hSw); go_simp; try with_reducible rfl)
              try simp only [List.getElem_toArray, List.getElem_cons_succ, List.getElem_cons_zero, Act.put, List.setIfInBounds_toArray, List.set_cons_zero, List.set_cons_succ]
              refine hTake (i := 3) (v := ?_) rfl (by kernel_rfl) (by kernel_rfl) (by kernel_rfl) (fun _ _ _ h => h) rfl ?_ (by assumption) ?_
              rotate_left
              · (intro w hSw; (try dsimp only at hSw); go_simp; try with_reducible rfl)
              try simp only [List.getElem_toArray, List.getElem_cons_succ, List.getElem_cons_zero, Act.put, List.setIfInBounds_toArray, List.set_cons_zero, List.set_cons_succ]
              refine hTake (i := 4) (v := ?_) rfl (by kernel_rfl) (by kernel_rfl) (by kernel_rfl) (fun _ _ _ h => h) rfl ?_ (by assumption) ?_
              rotate_left
              · (intro w hSw; (try dsimp only at hSw); go_simp; try with_reducible rfl)
              try simp only [List.getElem_toArray, List.getElem_cons_succ, List.getElem_cons_zero, Act.put, List.setIfInBounds_toArray, List.set_cons_zero, List.set_cons_succ]
              refine hTake (i := 5) (v := ?_) rfl (by kernel_rfl) (by kernel_rfl) (by kernel_rfl) (fun _ _ _ h => h) rfl ?_ (by assumption) ?_
              rotate_left
              · (intro w hSw; (try dsimp only at hSw); go_simp; try with_reducible rfl)
              try simp only [List.getElem_toArray, List.getElem_cons_succ, List.getElem_cons_zero, Act.put, List.setIfInBounds_toArray, List.set_cons_zero, List.set_cons_succ]
              refine wpAnyH_ready (rs := [6]) (by kernel_rfl) (by simp) ?_
              refine AllReadyH.cons rfl (fun K hK => ?_) AllReadyH.nil
              simp only [List.getElem_toArray, List.getElem_cons_succ, List.getElem_cons_zero]
              go_simp
              go_at_call 15; refine (KE.out _ ?_).mono ?_; (repeat (first | assumption | exact Below.refl _ _ | refine below_drewN ?_ _ | refine Below.drew ?_)); rintro e w5 ⟨rfl, b5, g0, g1, g2, g3, g4⟩
              go_wp2_with fail
              refine hK.out _ _ ⟨g0, g1, g2, g3, g4⟩ (fun hHeld => ?_)
              clear hK K
              try simp only [List.getElem_toArray, List.getElem_cons_succ, List.getElem_cons_zero, Act.put, List.setIfInBounds_toArray, List.set_cons_zero, List.set_cons_succ]
              refine hTake (i := 7) (v := ?_) rfl (by kernel_rfl) (by kernel_rfl) (by kernel_rfl) (fun _ _ _ h => h) rfl ?_ (by assumption) ?_
              rotate_left
              · (intro w hSw; (try dsimp only at hSw); go_simp; try with_reducible rfl)
              try simp only [List.getElem_toArray, List.getElem_cons_succ, List.getElem_cons_zero, Act.put, List.setIfInBounds_toArray, List.set_cons_zero, List.set_cons_succ]
              refine hTake (i := 8) (v := ?_) rfl (by kernel_rfl) (by kernel_rfl) (by kernel_rfl) (fun _ _ _ h => h) rfl ?_ (by assumption) ?_
              rotate_left
              · (intro w hSw; (try dsimp only at hSw); go_simp; try with_reducible rfl)
              try simp only [List.getElem_toArray, List.getElem_cons_succ, List.getElem_cons_zero, Act.put, List.setIfInBounds_toArray, List.set_cons_zero, List.set_cons_succ]
              refine hTake (i := 9) (v := ?_) rfl (by kernel_rfl) (by kernel_rfl) (by kernel_rfl) (fun _ _ _ h => h) rfl ?_ (by assumption) ?_
              rotate_left
              · (intro w hSw; (try dsimp only at hSw); go_simp; try with_reducible rfl)
              try simp only [List.getElem_toArray, List.getElem_cons_succ, List.getElem_cons_zero, Act.put, List.setIfInBounds_toArray, List.set_cons_zero, List.set_cons_succ]
              refine hSkip (i := 10) rfl (by kernel_rfl) (by kernel_rfl) (by kernel_rfl) (fun _ _ _ h => h) rfl (by assumption) ?_
              try simp only [List.getElem_toArray, List.getElem_cons_succ, List.getElem_cons_zero, Act.put, List.setIfInBounds_toArray, List.set_cons_zero, List.set_cons_succ]
              refine hSkip (i := 11) rfl (by kernel_rfl) (by kernel_rfl) (by kernel_rfl) (fun _ _ _ h => h) rfl (by assumption) ?_
              try simp only [List.getElem_toArray, List.getElem_cons_succ, List.getElem_cons_zero, Act.put, List.setIfInBounds_toArray, List.set_cons_zero, List.set_cons_succ]
              refine hSkip (i := 12) rfl (by kernel_rfl) (by kernel_rfl) (by kernel_rfl) (fun _ _ _ h => h) rfl (by assumption) ?_
              try simp only [List.getElem_toArray, List.getElem_cons_succ, List.getElem_cons_zero, Act.put, List.setIfInBounds_toArray, List.set_cons_zero, List.set_cons_succ]
              refine hSkip (i := 13) rfl (by kernel_rfl) (by kernel_rfl) (by kernel_rfl) (fun _ _ _ h => h) rfl (by assumption) ?_
              try simp only [List.getElem_toArray, List.getElem_cons_succ, List.getElem_cons_zero, Act.put, List.setIfInBounds_toArray, List.set_cons_zero, List.set_cons_succ]
              refine hSkip (i := 14) rfl (by kernel_rfl) (by kernel_rfl) (by kernel_rfl) (fun _ _ _ h => h) rfl (by assumption) ?_
              try simp only [List.getElem_toArray, List.getElem_cons_succ, List.getElem_cons_zero, Act.put, List.setIfInBounds_toArray, List.set_cons_zero, List.set_cons_succ]
              refine hSkip (i := 15) rfl (by kernel_rfl) (by kernel_rfl) (by kernel_rfl) (fun _ _ _ h => h) rfl (by assumption) ?_
              try simp only [List.getElem_toArray, List.getElem_cons_succ, List.getElem_cons_zero, Act.put, List.setIfInBounds_toArray, List.set_cons_zero, List.set_cons_succ]
              refine hSkip (i := 16) rfl (by kernel_rfl) (by kernel_rfl) (by kernel_rfl) (fun _ _ _ h => h) rfl (by assumption) ?_
              try simp only [List.getElem_toArray, List.getElem_cons_succ, List.getElem_cons_zero, Act.put, List.setIfInBounds_toArray, List.set_cons_zero, List.set_cons_succ]
              refine hSkip (i := 17) rfl (by kernel_rfl) (by kernel_rfl) (by kernel_rfl) (fun _ _ _ h => h) rfl (by assumption) ?_
              try simp only [List.getElem_toArray, List.getElem_cons_succ, List.getElem_cons_zero, Act.put, List.setIfInBounds_toArray, List.set_cons_zero, List.set_cons_succ]
              refine hSkip (i := 18) rfl (by kernel_rfl) (by kernel_rfl) (by kernel_rfl) (fun _ _ _ h => h) rfl (by assumption) ?_
              try simp only [List.getElem_toArray, List.getElem_cons_succ, List.getElem_cons_zero, Act.put, List.setIfInBounds_toArray, List.set_cons_zero, List.set_cons_succ]
              refine hSkip (i := 19) rfl (by kernel_rfl) (by kernel_rfl) (by kernel_rfl) (fun _ _ _ h => h) rfl (by assumption) ?_
              try simp only [List.getElem_toArray, List.getElem_cons_succ, List.getElem_cons_zero, Act.put, List.setIfInBounds_toArray, List.set_cons_zero, List.set_cons_succ]
              refine hSkip (i := 20) rfl (by kernel_rfl) (by kernel_rfl) (by kernel_rfl) (fun _ _ _ h => h) rfl (by assumption) ?_
              try simp only [List.getElem_toArray, List.getElem_cons_succ, List.getElem_cons_zero, Act.put, List.setIfInBounds_toArray, List.set_cons_zero, List.set_cons_succ]
              refine hSkip (i := 21) rfl (by kernel_rfl) (by kernel_rfl) (by kernel_rfl) (fun _ _ _ h => h) rfl (by assumption) ?_
              try simp only [List.getElem_toArray, List.getElem_cons_succ, List.getElem_cons_zero, Act.put, List.setIfInBounds_toArray, List.set_cons_zero, List.set_cons_succ]
              refine hSkip (i := 22) rfl (by kernel_rfl) (by kernel_rfl) (by kernel_rfl) (fun _ _ _ h => h) rfl (by assumption) ?_
              try simp only [List.getElem_toArray, List.getElem_cons_succ, List.getElem_cons_zero, Act.put, List.setIfInBounds_toArray, List.set_cons_zero, List.set_cons_succ]
              refine hTake (i := 23) (v := ?_) rfl (by kernel_rfl) (by kernel_rfl) (by kernel_rfl) (fun _ _ _ h => h) rfl ?_ (by assumption) ?_
              rotate_left
              · (intro w hSw; (try dsimp only at hSw); go_simp; try with_reducible rfl)
              try simp only [List.getElem_toArray, List.getElem_cons_succ, List.getElem_cons_zero, Act.put, List.setIfInBounds_toArray, List.set_cons_zero, List.set_cons_succ]
              refine wpAnyH_done (by kernel_rfl) ?_ _
              go_wp2_with fail; go_meet; exact ⟨rfl, b5⟩
          · have t1 : (E1 == 0) = false := beq_eq_false_iff_ne.2 h1
            replace h1 := hid h1
            refine wp_region_held_drew (S := (fun w' => w'.cell? ⟨w.heap.size, 0, none⟩ = some (.int .i64 u) ∧ w'.cell? ⟨w.heap.size, 1, none⟩ = some (.slice a n cap) ∧ w'.cell? ⟨bX, 0, none⟩ = some (.string es') ∧ w'.cell? ⟨bX, 1, none⟩ = some (.int .i64 ek) ∧ w'.cell? ⟨bX, 2, none⟩ = some (.int .i64 em))) (by kernel_rfl) ⟨r0, r1, r2, r3, r4⟩ (fun hHeld => ?_)
            refine hTake (i := 0) (v := ?_) rfl (by kernel_rfl) (by kernel_rfl) (by kernel_rfl) (fun _ _ _ h => h) rfl ?_ (by assumption) ?_
            rotate_left
            · (intro w hSw; (try dsimp only at hSw); go_simp; try with_reducible rfl)
            try simp only [List.getElem_toArray, List.getElem_cons_succ, List.getElem_cons_zero, Act.put, List.setIfInBounds_toArray, List.set_cons_zero, List.set_cons_succ]
            refine wpAnyH_ready (rs := [1]) (by kernel_rfl) (by simp) ?_
            refine AllReadyH.cons rfl (fun K hK => ?_) AllReadyH.nil
            simp only [List.getElem_toArray, List.getElem_cons_succ, List.getElem_cons_zero]
            go_simp
            go_at_call 12; refine (KR.out _ ?_).mono ?_; (repeat (first | assumption | exact Below.refl _ _ | refine below_drewN ?_ _ | refine Below.drew ?_)); rintro e w5 ⟨rfl, b5, g0, g1, g2, g3, g4⟩
            go_wp2_with fail
            refine hK.out _ _ ⟨g0, g1, g2, g3, g4⟩ (fun hHeld => ?_)
            clear hK K
            try simp only [List.getElem_toArray, List.getElem_cons_succ, List.getElem_cons_zero, Act.put, List.setIfInBounds_toArray, List.set_cons_zero, List.set_cons_succ]
            refine hTake (i := 2) (v := ?_) rfl (by kernel_rfl) (by kernel_rfl) (by kernel_rfl) (fun _ _ _ h => h) rfl ?_ (by assumption) ?_
            rotate_left
            · (intro w hSw; (try dsimp only at hSw); go_simp; try with_reducible rfl)
            try simp only [List.getElem_toArray, List.getElem_cons_succ, List.getElem_cons_zero, Act.put, List.setIfInBounds_toArray, List.set_cons_zero, List.set_cons_succ]
            refine hTake (i := 3) (v := ?_) rfl (by kernel_rfl) (by kernel_rfl) (by kernel_rfl) (fun _ _ _ h => h) rfl ?_ (by assumption) ?_
            rotate_left
            · (intro w hSw; (try dsimp only at hSw); go_simp; try with_reducible rfl)
            try simp only [List.getElem_toArray, List.getElem_cons_succ, List.getElem_cons_zero, Act.put, List.setIfInBounds_toArray, List.set_cons_zero, List.set_cons_succ]
            refine hTake (i := 4) (v := ?_) rfl (by kernel_rfl) (by kernel_rfl) (by kernel_rfl) (fun _ _ _ h => h) rfl ?_ (by assumption) ?_
            rotate_left
            · (intro w hSw; (try dsimp only at hSw); go_simp; try with_reducible rfl)
            try simp only [List.getElem_toArray, List.getElem_cons_succ, List.getElem_cons_zero, Act.put, List.setIfInBounds_toArray, List.set_cons_zero, List.set_cons_succ]
            refine hSkip (i := 5) rfl (by kernel_rfl) (by kernel_rfl) (by kernel_rfl) (fun _ _ _ h => h) rfl (by assumption) ?_
            try simp only [List.getElem_toArray, List.getElem_cons_succ, List.getElem_cons_zero, Act.put, List.setIfInBounds_toArray, List.set_cons_zero, List.set_cons_succ]
            refine hSkip (i := 6) rfl (by kernel_rfl) (by kernel_rfl) (by kernel_rfl) (fun _ _ _ h => h) rfl (by assumption) ?_
            try simp only [List.getElem_toArray, List.getElem_cons_succ, List.getElem_cons_zero, Act.put, List.setIfInBounds_toArray, List.set_cons_zero, List.set_cons_succ]
            refine hSkip (i := 7) rfl (by kernel_rfl) (by kernel_rfl) (by kernel_rfl) (fun _ _ _ h => h) rfl (by assumption) ?_
            try simp only [List.getElem_toArray, List.getElem_cons_succ, List.getElem_cons_zero, Act.put, List.setIfInBounds_toArray, List.set_cons_zero, List.set_cons_succ]
            refine hTake (i := 8) (v := ?_) rfl (by kernel_rfl) (by kernel_rfl) (by kernel_rfl) (fun _ _ _ h => h) rfl ?_ (by assumption) ?_
            rotate_left
            · (intro w hSw; (try dsimp only at hSw); go_simp; try with_reducible rfl)
            try simp only [List.getElem_toArray, List.getElem_cons_succ, List.getElem_cons_zero, Act.put, List.setIfInBounds_toArray, List.set_cons_zero, List.set_cons_succ]
            refine hTake (i := 9) (v := ?_) rfl (by kernel_rfl) (by kernel_rfl) (by kernel_rfl) (fun _ _ _ h => h) rfl ?_ (by assumption) ?_
            rotate_left
            · (intro w hSw; (try dsimp only at hSw); go_simp; try with_reducible rfl)
            try simp only [List.getElem_toArray, List.getElem_cons_succ, List.getElem_cons_zero, Act.put, List.setIfInBounds_toArray, List.set_cons_zero, List.set_cons_succ]
            refine hSkip (i := 10) rfl (by kernel_rfl) (by kernel_rfl) (by kernel_rfl) (fun _ _ _ h => h) rfl (by assumption) ?_
            try simp only [List.getElem_toArray, List.getElem_cons_succ, List.getElem_cons_zero, Act.put, List.setIfInBounds_toArray, List.set_cons_zero, List.set_cons_succ]
            refine hSkip (i := 11) rfl (by kernel_rfl) (by kernel_rfl) (by kernel_rfl) (fun _ _ _ h => h) rfl (by assumption) ?_
            try simp only [List.getElem_toArray, List.getElem_cons_succ, List.getElem_cons_zero, Act.put, List.setIfInBounds_toArray, List.set_cons_zero, List.set_cons_succ]
            refine hSkip (i := 12) rfl (by kernel_rfl) (by kernel_rfl) (by kernel_rfl) (fun _ _ _ h => h) rfl (by assumption) ?_
            try simp only [List.getElem_toArray, List.getElem_cons_succ, List.getElem_cons_zero, Act.put, List.setIfInBounds_toArray, List.set_cons_zero, List.set_cons_succ]
            refine hSkip (i := 13) rfl (by kernel_rfl) (by kernel_rfl) (by kernel_rfl) (fun _ _ _ h => h) rfl (by assumption) ?_
            try simp only [List.getElem_toArray, List.getElem_cons_succ, List.getElem_cons_zero, Act.put, List.setIfInBounds_toArray, List.set_cons_zero, List.set_cons_succ]
            refine hSkip (i := 14) rfl (by kernel_rfl) (by kernel_rfl) (by kernel_rfl) (fun _ _ _ h => h) rfl (by assumption) ?_
            try simp only [List.getElem_toArray, List.getElem_cons_succ, List.getElem_cons_zero, Act.put, List.setIfInBounds_toArray, List.set_cons_zero, List.set_cons_succ]
            refine hSkip (i := 15) rfl (by kernel_rfl) (by kernel_rfl) (by kernel_rfl) (fun _ _ _ h => h) rfl (by assumption) ?_
            try simp only [List.getElem_toArray, List.getElem_cons_succ, List.getElem_cons_zero, Act.put, List.setIfInBounds_toArray, List.set_cons_zero, List.set_cons_succ]
            refine hSkip (i := 16) rfl (by kernel_rfl) (by kernel_rfl) (by kernel_rfl) (fun _ _ _ h => h) rfl (by assumption) ?_
            try simp only [List.getElem_toArray, List.getElem_cons_succ, List.getElem_cons_zero, Act.put, List.setIfInBounds_toArray, List.set_cons_zero, List.set_cons_succ]
            refine hSkip (i := 17) rfl (by kernel_rfl) (by kernel_rfl) (by kernel_rfl) (fun _ _ _ h => h) rfl (by assumption) ?_
            try simp only [List.getElem_toArray, List.getElem_cons_succ, List.getElem_cons_zero, Act.put, List.setIfInBounds_toArray, List.set_cons_zero, List.set_cons_succ]
            refine hSkip (i := 18) rfl (by kernel_rfl) (by kernel_rfl) (by kernel_rfl) (fun _ _ _ h => h) rfl (by assumption) ?_
            try simp only [List.getElem_toArray, List.getElem_cons_succ, List.getElem_cons_zero, Act.put, List.setIfInBounds_toArray, List.set_cons_zero, List.set_cons_succ]
            refine hSkip (i := 19) rfl (by kernel_rfl) (by kernel_rfl) (by kernel_rfl) (fun _ _ _ h => h) rfl (by assumption) ?_
            try simp only [List.getElem_toArray, List.getElem_cons_succ, List.getElem_cons_zero, Act.put, List.setIfInBounds_toArray, List.set_cons_zero, List.set_cons_succ]
            refine hSkip (i := 20) rfl (by kernel_rfl) (by kernel_rfl) (by kernel_rfl) (fun _ _ _ h => h) rfl (by assumption) ?_
            try simp only [List.getElem_toArray, List.getElem_cons_succ, List.getElem_cons_zero, Act.put, List.setIfInBounds_toArray, List.set_cons_zero, List.set_cons_succ]
            refine hSkip (i := 21) rfl (by kernel_rfl) (by kernel_rfl) (by kernel_rfl) (fun _ _ _ h => h) rfl (by assumption) ?_
            try simp only [List.getElem_toArray, List.getElem_cons_succ, List.getElem_cons_zero, Act.put, List.setIfInBounds_toArray, List.set_cons_zero, List.set_cons_succ]
            refine hSkip (i := 22) rfl (by kernel_rfl) (by kernel_rfl) (by kernel_rfl) (fun _ _ _ h => h) rfl (by assumption) ?_
            try simp only [List.getElem_toArray, List.getElem_cons_succ, List.getElem_cons_zero, Act.put, List.setIfInBounds_toArray, List.set_cons_zero, List.set_cons_succ]
            refine hTake (i := 23) (v := ?_) rfl (by kernel_rfl) (by kernel_rfl) (by kernel_rfl) (fun _ _ _ h => h) rfl ?_ (by assumption) ?_
            rotate_left
            · (intro w hSw; (try dsimp only at hSw); go_simp; try with_reducible rfl)
            try simp only [List.getElem_toArray, List.getElem_cons_succ, List.getElem_cons_zero, Act.put, List.setIfInBounds_toArray, List.set_cons_zero, List.set_cons_succ]
            refine wpAnyH_done (by kernel_rfl) ?_ _
            go_wp2_with fail; go_meet; exact ⟨rfl, b5⟩
        case rest =>
          rename World => X2
          obtain ⟨rfl, hB2⟩ := hcut
          have c0 := blk_below X0 hB2
          have c1 := blk_below X1 hB2
          have hV2 := hVX.below hB2
          have hBY := bnext hBX hB2
          have DA := DA.out _ hV2 ev hok
          have DB := hid (fun W hW => DB.out W hW ev hok)
          generalize Vw.apply ⟨u, l⟩ ev = R at *
          obtain ⟨⟨u2, l2⟩, er⟩ := R
          obtain ⟨es', ek, em⟩ := ev
          unfold VAns evVal viVal at DA DB
          simp only at DA DB r2 r3 r4 c1
          replace DA := hid DA
          clear r0 r1 r2 r3 r4 X0 X1 hBX hVX hB2
          have r0 : X2.cell? ⟨w.heap.size, 0, none⟩ = some (.int .i64 u) := blk_cell c0
          have r1 : X2.cell? ⟨w.heap.size, 1, none⟩ = some (.slice a n cap) := blk_cell c0
          have r2 : X2.cell? ⟨bX, 0, none⟩ = some (.string es') := blk_cell c1
          have r3 : X2.cell? ⟨bX, 1, none⟩ = some (.int .i64 ek) := blk_cell c1
          have r4 : X2.cell? ⟨bX, 2, none⟩ = some (.int .i64 em) := blk_cell c1
          have DS := hid (fun (a3 : Option Addr) (n3 c3 : Nat) (a5 : Option Addr) (n5 c5 : Nat) W (h3 : As W a3 n3 c3 l2) (h5 : As W a5 n5 c5 l2) => rSameView_same u2 a3 a5 n3 c3 n5 c5 l2 W h3 h5)
          unfold viVal at DS
          clear DW DR DG DH DF DI
          go_wp2_with fail
          go_at_call 18; refine DA.out.mono ?_; rintro e w4 ⟨a3, n3, c3, rfl, hA3, b4⟩
          have d0 := blk_below c0 b4
          have d1 := blk_below c1 b4
          have hV4 := hV2.below b4
          have hBY4 := bnext hBY b4
          have D4 := DB.out _ hV4
          replace D4 := hid D4
          clear r0 r1 r2 r3 r4 DA c0 c1
          have p0 := blk_cell (i := 0) d0
          have p1 := blk_cell (i := 1) d0
          have p2 := blk_cell (i := 0) d1
          have p3 := blk_cell (i := 1) d1
          have p4 := blk_cell (i := 2) d1
          go_upto_region 9 with (fail)
          have x0 := blk_old (o' := .cells #[.int .i64 u2, .slice a3 n3 c3] 24) d0
          have x1 := blk_old (o' := .cells #[.int .i64 u2, .slice a3 n3 c3] 24) d1
          have x2 := blk_new w4 (.cells #[.int .i64 u2, .slice a3 n3 c3] 24)
          have hBZ := hBY4.alloc hBY4.size (.cells #[.int .i64 u2, .slice a3 n3 c3] 24)
          have hA4 := hA3.alloc (.cells #[.int .i64 u2, .slice a3 n3 c3] 24)
          generalize w4.alloc (.cells #[.int .i64 u2, .slice a3 n3 c3] 24) = Y at *
          generalize w4.heap.size = bY at *
          clear p0 p1 p2 p3 p4 d0 d1
          have p0 : Y.cell? ⟨w.heap.size, 0, none⟩ = some (.int .i64 u) := blk_cell x0
          have p1 : Y.cell? ⟨w.heap.size, 1, none⟩ = some (.slice a n cap) := blk_cell x0
          have p2 : Y.cell? ⟨bX, 0, none⟩ = some (.string es') := blk_cell x1
          have p3 : Y.cell? ⟨bX, 1, none⟩ = some (.int .i64 ek) := blk_cell x1
          have p4 : Y.cell? ⟨bX, 2, none⟩ = some (.int .i64 em) := blk_cell x1
          have DB := DB.out _ (hV.below hBZ)
          replace DB := hid DB
          go_wp2_with fail
          go_at_call 19; refine DB.out.mono ?_; rintro e w5 ⟨a5, n5, c5, rfl, hA5, b5⟩
          have hA6 := hA4.below b5
          have y2 := blk_below x2 b5
          have y0 := blk_below x0 b5
          have hBW := bnext hBZ b5
          have DS := DS.out a3 n3 c3 a5 n5 c5 _ (hA6.alloc (.cells #[.int .i64 u2, .slice a5 n5 c5] 24)) (hA5.alloc (.cells #[.int .i64 u2, .slice a5 n5 c5] 24))
          replace DS := hid DS
          clear p0 p1 p2 p3 p4 x0 x1 x2
          go_upto_region 10 with (fail)
          have z2 := blk_old (o' := .cells #[.int .i64 u2, .slice a5 n5 c5] 24) y2
          have z3 := blk_new w5 (.cells #[.int .i64 u2, .slice a5 n5 c5] 24)
          have hBZ' := hBW.alloc hBW.size (.cells #[.int .i64 u2, .slice a5 n5 c5] 24)
          generalize w5.alloc (.cells #[.int .i64 u2, .slice a5 n5 c5] 24) = Z at *
          generalize w5.heap.size = bZ at *
          have p0 := blk_cell (i := 0) z2
          have p1 := blk_cell (i := 1) z2
          have p2 := blk_cell (i := 0) z3
          have p3 := blk_cell (i := 1) z3
          have t0 : (er != er) = false := by simp
          go_wp2_with fail
          go_at_call 20; refine DS.out.mono ?_; rintro e w6 ⟨rfl, b6⟩
          go_wp2_with fail
          go_roundg (en - (k + 1))
          case measure => omega
          case rel => exact ⟨k + 1, rfl, by omega, by go_num, bnext hBZ' b6⟩
      · obtain rfl : k = en := by omega
        have hB0 := hB
        have i1 : ¬ ((k : Int) < (k : Int)) := by omega
        have DF := DF.out
        have DI := DI.out
        generalize Vw.fold ⟨u, l⟩ es = R at *
        obtain ⟨⟨u2, l2⟩, er, at2⟩ := R
        have DS := hid (fun (a3 : Option Addr) (n3 c3 : Nat) (a5 : Option Addr) (n5 c5 : Nat) W (h3 : As W a3 n3 c3 l2) (h5 : As W a5 n5 c5 l2) => rSameView_same u2 a3 a5 n3 c3 n5 c5 l2 W h3 h5)
        unfold viVal at DS
        unfold FAns viVal at DF DI
        simp only at DF DI
        have DF := DF _ (hV.below hB) (hEV.below hB)
        replace DF := hid DF
        replace DI := hid DI
        have p0 := blk_cell (i := 0) v0
        have p1 := blk_cell (i := 1) v0
        clear DW DR DG DH DA DB
        go_wp2_with fail
        go_at_call 21; refine DF.out.mono ?_; rintro e w1 ⟨a3, n3, c3, rfl, hA3, b3⟩
        replace v0 := blk_below v0 b3
        have hB3 := bnext hB b3
        clear p0 p1 DF
        have p0 := blk_cell (i := 0) v0
        have p1 := blk_cell (i := 1) v0
        go_upto_region 14 with (fail)
        have x0 := blk_old (o' := .cells #[.int .i64 er, .int .i64 at2] 28) (blk_old (o' := .cells #[.int .i64 u2, .slice a3 n3 c3] 24) v0)
        have x1 := blk_old (o' := .cells #[.int .i64 er, .int .i64 at2] 28) (blk_new w1 (.cells #[.int .i64 u2, .slice a3 n3 c3] 24))
        have x2 := newN1 w1 (.cells #[.int .i64 u2, .slice a3 n3 c3] 24) (.cells #[.int .i64 er, .int .i64 at2] 28)
        have hBY := (hB3.alloc hB3.size (.cells #[.int .i64 u2, .slice a3 n3 c3] 24)).alloc (hB3.alloc hB3.size (.cells #[.int .i64 u2, .slice a3 n3 c3] 24)).size (.cells #[.int .i64 er, .int .i64 at2] 28)
        have hA4 := (hA3.alloc (.cells #[.int .i64 u2, .slice a3 n3 c3] 24)).alloc (.cells #[.int .i64 er, .int .i64 at2] 28)
        generalize (w1.alloc (.cells #[.int .i64 u2, .slice a3 n3 c3] 24)).alloc (.cells #[.int .i64 er, .int .i64 at2] 28) = Y at *
        clear p0 p1
        have p0 := blk_cell (i := 0) x0
        have p1 := blk_cell (i := 1) x0
        have DI := DI.out _ (hV.below hBY) (hEV.below hBY)
        replace DI := hid DI
        go_wp2_with fail
        go_at_call 22; refine DI.out.mono ?_; rintro e w2 ⟨a5, n5, c5, rfl, hA5, b5⟩
        have hA6 := hA4.below b5
        have y1 := blk_below x1 b5
        have y2 := blk_below x2 b5
        have hBW := bnext hBY b5
        have DS := DS.out a3 n3 c3 a5 n5 c5 _ ((hA6.alloc (.cells #[.int .i64 u2, .slice a5 n5 c5] 24)).alloc (.cells #[.int .i64 er, .int .i64 at2] 28)) ((hA5.alloc (.cells #[.int .i64 u2, .slice a5 n5 c5] 24)).alloc (.cells #[.int .i64 er, .int .i64 at2] 28))
        replace DS := hid DS
        clear p0 p1 x0 x1 x2
        go_upto_region 15 with (fail)
        have z1 := blk_old (o' := .cells #[.int .i64 er, .int .i64 at2] 28) (blk_old (o' := .cells #[.int .i64 u2, .slice a5 n5 c5] 24) y1)
        have z2 := blk_old (o' := .cells #[.int .i64 er, .int .i64 at2] 28) (blk_old (o' := .cells #[.int .i64 u2, .slice a5 n5 c5] 24) y2)
        have z3 := blk_old (o' := .cells #[.int .i64 er, .int .i64 at2] 28) (blk_new w2 (.cells #[.int .i64 u2, .slice a5 n5 c5] 24))
        have z4 := newN1 w2 (.cells #[.int .i64 u2, .slice a5 n5 c5] 24) (.cells #[.int .i64 er, .int .i64 at2] 28)
        have hBZ := (hBW.alloc hBW.size (.cells #[.int .i64 u2, .slice a5 n5 c5] 24)).alloc (hBW.alloc hBW.size (.cells #[.int .i64 u2, .slice a5 n5 c5] 24)).size (.cells #[.int .i64 er, .int .i64 at2] 28)
        generalize (w2.alloc (.cells #[.int .i64 u2, .slice a5 n5 c5] 24)).alloc (.cells #[.int .i64 er, .int .i64 at2] 28) = Z at *
        have p0 := blk_cell (i := 0) z1
        have p1 := blk_cell (i := 1) z1
        have p2 := blk_cell (i := 0) z2
        have p3 := blk_cell (i := 1) z2
        have p4 := blk_cell (i := 0) z3
        have p5 := blk_cell (i := 1) z3
        have p6 := blk_cell (i := 0) z4
        have p7 := blk_cell (i := 1) z4
        go_wp2_with fail
        go_at_call 20; refine DS.out.mono ?_; rintro e w6 ⟨rfl, b6⟩
        go_wp2_with fail
        go_ret
        exact ⟨rfl, bnext hbV (bnext hBZ b6)⟩

end Go.Proofs.Ytjdgfijpmljhiaa
