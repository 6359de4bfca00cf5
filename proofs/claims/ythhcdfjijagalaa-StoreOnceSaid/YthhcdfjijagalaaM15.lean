/- Joined, and what is not used struck: ViewF. -/
import Derived.Test.YthhcdfjijagalaaM14
import Derived.Deep.CutBlock
namespace Go.Proofs.Ythhcdfjijagalaa
open Go.RowKit
set_option linter.unusedVariables false
theorem blk_keep {w : World} {b g i : Nat} {o : Obj} (h : w.heap[b]? = some o) (hne : b ≠ g) (v : Value) : (w.setCell ⟨g, i, none⟩ v).heap[b]? = some o := by
  rw [Below.heap_setCell _ _ _ _ hne]; exact h
theorem acCells_set (l : List Vw.Acc) (x : Vw.Acc) : ∀ (i : Nat), i < l.length → ((((acCells l).set (i * 4) (.string x.s)).set (i * 4 + 1) (.int .i64 x.sum)).set (i * 4 + 2) (.int .i64 x.cnt)).set (i * 4 + 3) (.bool x.opn) = acCells (l.set i x) := by
  induction l with
  | nil => intro i h; exact absurd h (by simp)
  | cons a l ih =>
    intro i h
    cases i with
    | zero => rfl
    | succ i =>
      rw [List.set_cons_succ]
      have e0 : acCells (a :: l) = ac4 a ++ acCells l := rfl
      have e1 : acCells (a :: l.set i x) = ac4 a ++ acCells (l.set i x) := rfl
      rw [e0, e1, ← ih i (by simpa using h)]
      have e4 : (ac4 a).length = 4 := rfl
      have hh : ∀ (r : List Value) (j : Nat) (v : Value), (ac4 a ++ r).set ((i + 1) * 4 + j) v = ac4 a ++ r.set (i * 4 + j) v := fun r j v => by
        rw [List.set_append_right _ _ (by rw [e4]; omega), e4]
        congr 2
        omega
      have h0 : (ac4 a ++ acCells l).set ((i + 1) * 4) (.string x.s) = ac4 a ++ (acCells l).set (i * 4) (.string x.s) := hh (acCells l) 0 (.string x.s)
      rw [h0, hh, hh, hh]
/-- an account stored into an own row -/
theorem own_acc_set {w : World} {base g n cap : Nat} {l : List Vw.Acc} (h : w.ownsRow base 65 4 (.slice (some ⟨g, 0, none⟩) n cap) n (acCells l)) (i : Nat) (hi : i < l.length) (x : Vw.Acc) :
    ((((w.setCell ⟨g, i * 4, none⟩ (.string x.s)).setCell ⟨g, i * 4 + 1, none⟩ (.int .i64 x.sum)).setCell ⟨g, i * 4 + 2, none⟩ (.int .i64 x.cnt)).setCell ⟨g, i * 4 + 3, none⟩ (.bool x.opn)).ownsRow base 65 4 (.slice (some ⟨g, 0, none⟩) n cap) n (acCells (l.set i x)) := by
  obtain ⟨cur, hg, hb, hn, hc, hl, ht⟩ := own_known h
  have q := blk_set (i := i * 4 + 3) (blk_set (i := i * 4 + 2) (blk_set (i := i * 4 + 1) (blk_set (i := i * 4) hg (.string x.s)) (.int .i64 x.sum)) (.int .i64 x.cnt)) (.bool x.opn)
  simp only [List.setIfInBounds_toArray] at q
  refine own_of_known q hb hn hc (by simp only [List.length_set]; exact hl) ?_
  rw [List.take_set, List.take_set, List.take_set, List.take_set, ht]
  exact acCells_set l x i hi
set_option maxHeartbeats 2000000 in
theorem vApply_e (u : Int) (a : Option Addr) (n cap : Nat) (l : List Vw.Acc) (e : Evt.Ev) (w : World) (h : As w a n cap l) (he : e.s.size ≤ maxLen) (h1 : (Vw.wrongV ⟨u, l⟩).1 = 0) (h2 : Evt.wrongEv e = 0) (h3 : u ≠ 150) (h4 : Vw.may (Vw.get l e.s) e = true) :
    Calls Try.prog 37 #[viVal u a n cap, evVal e] w (VAnsO ⟨⟨u + 1, Vw.ins (Vw.plus (Vw.get l e.s) e) l⟩, 0⟩ w) := by
  have D := hid (fun W (hW : As W a n cap l) => vWrong_call u a n cap l W hW)
  have D2 := hid (fun W => eWrong_call e he W)
  have D3 := hid (fun W (hW : As W a n cap l) => vGet_call u a n cap l e.s W hW)
  have D4 := hid (fun W => vMay_call (Vw.get l e.s) e W)
  rw [h2] at D2
  rw [h4] at D4
  have hG := (Vw.wrongV_good ⟨u, l⟩).1 h1
  have hev := Evt.wrongEv_zero h2
  have hbd := hid (hG.each.bounds e.s hG.lo)
  have hu : u ≤ 150 := hG.hi
  have hu0 : 0 ≤ u := hG.lo
  have hlen := hG.len
  have hcn := h.cnt
  replace hG := hid hG
  replace h2 := hid h2
  replace h4 := hid h4
  obtain ⟨s, k, m⟩ := e
  simp only at D3 D4 hbd
  obtain ⟨A, hA⟩ : ∃ A, A = Vw.get l s := ⟨_, rfl⟩
  rw [← hA] at D3 D4 hbd
  replace hA := hid hA
  obtain ⟨As', Am, Ac, Ao⟩ := A
  obtain ⟨E, hE⟩ : ∃ E, E = Vw.wrongV ⟨u, l⟩ := ⟨_, rfl⟩
  rw [← hE] at h1 D
  clear hE
  obtain ⟨E1, E2⟩ := E
  have h1 : E1 = 0 := h1
  subst h1
  unfold viVal evVal
  unfold viVal fVal' at D
  unfold evVal at D2 D4
  unfold acVal at D3 D4
  unfold viVal at D3
  simp only at D D2 D3 D4 ⊢
  have t0 : (u == 150) = false := beq_eq_false_iff_ne.2 h3
  replace h3 := hid h3
  obtain ⟨g1, g2, g3, g4⟩ := hbd.out
  obtain ⟨_, _, _, m0, m1⟩ := hev
  have hn : n ≤ 150 := by
    have : (l.length : Int) ≤ u := hlen
    omega
  replace hcn := hid hcn
  clear hlen
  obtain ⟨sm, op, hP, hP2, hP3, hP4⟩ : ∃ sm op, Vw.plus ⟨As', Am, Ac, Ao⟩ ⟨s, k, m⟩ = ⟨As', sm, Ac + 1, op⟩ ∧ (k = 2 → sm = Am + m ∧ op = Ao) ∧ (k = 3 → sm = Am - m ∧ op = Ao) ∧ (k ≠ 2 → k ≠ 3 → sm = Am ∧ op = decide (k = 1)) := by
    unfold Vw.plus
    by_cases k2 : k = 2
    · subst k2; exact ⟨Am + m, Ao, rfl, fun _ => ⟨rfl, rfl⟩, fun e => absurd e (by decide), fun e => absurd rfl e⟩
    · by_cases k3 : k = 3
      · subst k3; exact ⟨Am - m, Ao, rfl, fun e => absurd e (by decide), fun _ => ⟨rfl, rfl⟩, fun _ e => absurd rfl e⟩
      · exact ⟨Am, decide (k = 1), by rw [if_neg k2, if_neg k3], fun e => absurd e k2, fun e => absurd e k3, fun _ _ => ⟨rfl, rfl⟩⟩
  replace hP := hid hP; replace hP2 := hid hP2; replace hP3 := hid hP3; replace hP4 := hid hP4
  go_enter Try.func37, Try.ntmps37
  go_wp2_with fail
  go_at_call 36; refine (D.out _ (((h.alloc _).alloc _).alloc _)).mono ?_; rintro e w1 ⟨rfl, b1⟩
  obtain ⟨v1, v2, v3, hs1, hb⟩ := three_blk w _ _ _ w1 b1
  clear b1
  have r0 : (w1.alloc (.cells #[.int .i64 0, .int .i64 E2] 69)).cell? ⟨w.heap.size + 1, 0, none⟩ = some (.string s) := blk_cell (blk_old v2)
  have r1 : (w1.alloc (.cells #[.int .i64 0, .int .i64 E2] 69)).cell? ⟨w.heap.size + 1, 1, none⟩ = some (.int .i64 k) := blk_cell (blk_old v2)
  have r2 : (w1.alloc (.cells #[.int .i64 0, .int .i64 E2] 69)).cell? ⟨w.heap.size + 1, 2, none⟩ = some (.int .i64 m) := blk_cell (blk_old v2)
  go_wp2_with fail
  go_at_call 46; refine (D2.out _).mono ?_; rintro e w2 ⟨rfl, b2⟩
  replace v1 := call_blk v1 b2
  replace v2 := call_blk v2 b2
  replace v3 := call_blk v3 b2
  replace hb := call_below hb b2
  clear b2 r0 r1 r2
  have p0 : w2.cell? ⟨w.heap.size, 0, none⟩ = some (.int .i64 u) := blk_cell v1
  have p1 : w2.cell? ⟨w.heap.size, 1, none⟩ = some (.slice a n cap) := blk_cell v1
  have p2 : w2.cell? ⟨w.heap.size + 1, 0, none⟩ = some (.string s) := blk_cell v2
  go_wp2_with fail
  go_at_call 26; refine (D3.out _ (h.below hb)).mono ?_; rintro e w3 ⟨rfl, b3⟩
  replace v2 := blk_below v2 b3
  replace v3 := blk_below v3 b3
  replace hb := bnext hb b3
  replace v1 := blk_below v1 b3
  have hs3 := blk_lt v3
  clear b3 p0 p1 p2
  obtain ⟨ba, hba⟩ : ∃ ba, w3.heap.size = ba := ⟨_, rfl⟩
  replace hba := hid hba
  have r0 : (w3.alloc (.cells #[.string As', .int .i64 Am, .int .i64 Ac, .bool Ao] 65)).cell? ⟨w.heap.size + 1, 0, none⟩ = some (.string s) := blk_cell (blk_old v2)
  have r1 : (w3.alloc (.cells #[.string As', .int .i64 Am, .int .i64 Ac, .bool Ao] 65)).cell? ⟨w.heap.size + 1, 1, none⟩ = some (.int .i64 k) := blk_cell (blk_old v2)
  have r2 : (w3.alloc (.cells #[.string As', .int .i64 Am, .int .i64 Ac, .bool Ao] 65)).cell? ⟨w.heap.size + 1, 2, none⟩ = some (.int .i64 m) := blk_cell (blk_old v2)
  go_wp2_with fail
  go_at_call 47; refine (D4.out _).mono ?_; rintro e w4 ⟨rfl, b4⟩
  replace v1 := call_blk v1 b4
  replace v2 := call_blk v2 b4
  replace v3 := call_blk v3 b4
  have v4 : w4.heap[w3.heap.size]? = some (.cells #[.string As', .int .i64 Am, .int .i64 Ac, .bool Ao] 65 (0, 0)) := blk_below (blk_new w3 _) b4
  have hb3 := hb
  replace hb := call_below hb b4
  clear b4 r0 r1 r2
  rw [hba.out] at v4 ⊢
  have p1 : w4.cell? ⟨w.heap.size + 1, 1, none⟩ = some (.int .i64 k) := blk_cell v2
  have p2 : w4.cell? ⟨w.heap.size + 1, 2, none⟩ = some (.int .i64 m) := blk_cell v2
  have a1 : w4.cell? ⟨ba, 1, none⟩ = some (.int .i64 Am) := blk_cell v4
  have a3 : w4.cell? ⟨ba, 3, none⟩ = some (.bool Ao) := blk_cell v4
  have f1 : w4.frozen? ⟨ba, 1, none⟩ = false := blk_free v4
  have f3 : w4.frozen? ⟨ba, 3, none⟩ = false := blk_free v4
  have hba1 : w.heap.size ≤ ba := by rw [← hba.out]; exact hb3.size
  obtain ⟨hx0, hx1, hx2⟩ : w.heap.size ≠ ba ∧ w.heap.size + 1 ≠ ba ∧ w.heap.size + 1 + 1 ≠ ba := by rw [← hba.out]; omega
  go_upto_block 0 with (fail)
  go_cut [] from 41 to 60 (fun wc => wc.heap[w.heap.size]? = some (.cells #[.int .i64 u, .slice a n cap] 42 (0, 0)) ∧ wc.heap[w.heap.size + 1]? = some (.cells #[.string s, .int .i64 k, .int .i64 m] 32 (0, 0)) ∧ wc.heap[w.heap.size + 1 + 1]? = some (.cells #[.int .i64 0, .slice none 0 0] 42 (0, 0)) ∧ wc.heap[ba]? = some (.cells #[.string As', .int .i64 sm, .int .i64 Ac, .bool op] 65 (0, 0)) ∧ Below w.heap.size w wc)
  case first =>
    by_cases k2 : k = 2
    · subst k2
      obtain ⟨rfl, rfl⟩ := hP2.out rfl
      have s1 : IntKind.i64.wrap (Am + m) = Am + m := IntWalk.i64_in _ (by omega)
      go_wp2_with fail
      go_meet
      exact ⟨blk_keep v1 hx0 _, blk_keep v2 hx1 _, blk_keep v3 hx2 _, blk_set v4 _, hb.setCell hba1 _⟩
    · have t2 : (k == 2) = false := beq_eq_false_iff_ne.2 k2
      by_cases k3 : k = 3
      · subst k3
        obtain ⟨rfl, rfl⟩ := hP3.out rfl
        have s1 : IntKind.i64.wrap (Am - m) = Am - m := IntWalk.i64_in _ (by omega)
        go_wp2_with fail
        go_meet
        exact ⟨blk_keep v1 hx0 _, blk_keep v2 hx1 _, blk_keep v3 hx2 _, blk_set v4 _, hb.setCell hba1 _⟩
      · have t3 : (k == 3) = false := beq_eq_false_iff_ne.2 k3
        obtain ⟨rfl, hop⟩ := hP4.out k2 k3
        have hop : op = (k == 1) := by rw [hop]; by_cases e : k = 1 <;> simp [e]
        replace hop := hid hop
        replace k2 := hid k2
        replace k3 := hid k3
        go_wp2_with fail
        go_meet
        rw [hop.out]
        exact ⟨blk_keep v1 hx0 _, blk_keep v2 hx1 _, blk_keep v3 hx2 _, blk_set v4 _, hb.setCell hba1 _⟩
  case rest =>
    obtain ⟨c1, c2, c3, c4, hc⟩ := hcut
    clear v1 v2 v3 v4 p1 p2 a1 a3 f1 f3
    have a2 : wc.cell? ⟨ba, 2, none⟩ = some (.int .i64 Ac) := blk_cell c4
    have f2 : wc.frozen? ⟨ba, 2, none⟩ = false := blk_free c4
    have s2 : IntKind.i64.wrap (Ac + 1) = Ac + 1 := IntWalk.i64_in _ (by omega)
    go_upto_region 19 with (fail)
    obtain ⟨Wc, hW⟩ : ∃ Wc, wc.setCell ⟨ba, 2, none⟩ (.int .i64 (Ac + 1)) = Wc := ⟨_, rfl⟩
    have d1 : Wc.heap[w.heap.size]? = some (.cells #[.int .i64 u, .slice a n cap] 42 (0, 0)) := hW ▸ blk_keep c1 hx0 _
    have d2 : Wc.heap[w.heap.size + 1]? = some (.cells #[.string s, .int .i64 k, .int .i64 m] 32 (0, 0)) := hW ▸ blk_keep c2 hx1 _
    have d3 : Wc.heap[w.heap.size + 1 + 1]? = some (.cells #[.int .i64 0, .slice none 0 0] 42 (0, 0)) := hW ▸ blk_keep c3 hx2 _
    have d4 : Wc.heap[ba]? = some (.cells #[.string As', .int .i64 sm, .int .i64 (Ac + 1), .bool op] 65 (0, 0)) := hW ▸ blk_set c4 _
    have hd : Below w.heap.size w Wc := hW ▸ hc.setCell hba1 _
    rw [hW]
    clear hW c1 c2 c3 c4 hc a2 f2 s2 hb hb3
    have D5 := hid (show ∀ W, Below Wc.heap.size Wc W → Calls Try.prog 32 #[.slice a n cap] W (fun e w' => ∃ va vc, e = .returned (.slice va n vc) ∧ Below Wc.heap.size Wc w' ∧ w'.ownsRow Wc.heap.size 65 4 (.slice va n vc) n (acCells l) ∧ w'.cell? ⟨w.heap.size, 0, none⟩ = some (.int .i64 u) ∧ w'.cell? ⟨w.heap.size, 1, none⟩ = some (.slice a n cap) ∧ ∀ b o, W.heap[b]? = some o → w'.heap[b]? = some o) from fun W hbW =>
      (cloneAcc_call a n cap l W ((h.below hd).below hbW) (by omega)).mono fun e w' ⟨v, h1, h2, h3⟩ => by
        obtain ⟨va, vc, rfl, _⟩ := own_sl h3
        exact ⟨va, vc, h1, bnext hbW h2, own_mono h3 hbW.size, blk_cell (blk_below (blk_below d1 hbW) h2), blk_cell (blk_below (blk_below d1 hbW) h2), fun b o hb => blk_below hb h2⟩)
    have k0 : Wc.cell? ⟨w.heap.size, 0, none⟩ = some (.int .i64 u) := blk_cell d1
    have k1 : Wc.cell? ⟨w.heap.size, 1, none⟩ = some (.slice a n cap) := blk_cell d1
    have s3 : IntKind.i64.wrap (u + 1) = u + 1 := IntWalk.i64_in _ (by omega)
    have y0 : w.heap.size < Wc.heap.size := blk_lt d1
    have y1 : w.heap.size ≠ Wc.heap.size := by omega
    have y2 : Wc.heap.size ≠ w.heap.size := by omega
    go_cut [9] from 65 to 93 (fun s9 wx => ∃ bo va vc, s9 = .pointer (some ⟨bo, 0, none⟩) ∧ wx.heap[bo]? = some (.cells #[.int .i64 (u + 1), .slice va n vc] 42 (0, 0)) ∧ wx.ownsRow Wc.heap.size 65 4 (.slice va n vc) n (acCells l) ∧ Wc.heap.size ≤ bo ∧ Below Wc.heap.size Wc wx)
    case first =>
      go_region_held3 (fun w' => w'.cell? ⟨w.heap.size, 0, none⟩ = some (.int .i64 u) ∧ w'.cell? ⟨w.heap.size, 1, none⟩ = some (.slice a n cap)) (first | exact ⟨k0, k1⟩ | exact ⟨k2, k3⟩ | exact ⟨(cell_old y0).trans k0, (cell_old y0).trans k1⟩ | exact ⟨(cell_old y5).trans k2, (cell_old y5).trans k3⟩ | go_keep)
        (first | (go_at_call 32; refine (D5.out _ ?_).mono ?_; (repeat (first | assumption | exact Below.refl _ _ | refine below_drewN ?_ _ | refine Below.drew ?_ | refine Below.alloc ?_ (Nat.le_refl _) _)); rintro e w5 ⟨va, vc, rfl, b5, o5, k2, k3, jj⟩; have j0 := hid k2; have j1 := hid k2; have j2 := hid k2; have j3 := hid k2; have j4 := hid k2; (try have j0 := jj Wc.heap.size (.cells #[.int .i64 0, .slice none 0 0] 42 (0, 0)) (by first | exact blk_new Wc _ | exact blk_new Wc.drew _)); (try have j1 := blk_cell (i := 0) j0); (try have j2 := blk_cell (i := 1) j0); (try have j3 := blk_free (i := 0) j0); (try have j4 := blk_free (i := 1) j0); (try replace jj := hid jj); have y5 : w.heap.size < w5.heap.size := World.block_lt_of_cell? _ _ k2; have y6 : w.heap.size ≠ w5.heap.size := Nat.ne_of_lt y5; have y7 := Ne.symm y6))
      all_goals (go_wp2_with fail; go_meet)
      · exact ⟨w5.heap.size, va, vc, rfl, blk_new w5 _, own_below o5 ((Below.refl _ _).alloc (Nat.le_refl _) _), b5.size, b5.alloc b5.size _⟩
      · have hne := own_blk_ne o5 j0 (by decide)
        exact ⟨Wc.heap.size, va, vc, rfl, res_blk j0 _ _, ownsRow_setCell_other (ownsRow_setCell_other o5 hne _) hne _, Nat.le_refl _, (b5.setCell (Nat.le_refl _) _).setCell (Nat.le_refl _) _⟩
    case rest =>
      obtain ⟨bo, va, vc, rfl, x1, x2, x3, x4⟩ := hcut
      have y3 := blk_below d2 x4
      have y4 := blk_below d3 x4
      have y5 := blk_below d4 x4
      replace hd := hd.trans (x4.mono hd.size)
      have hB2 := blk_lt d3
      have hBa := blk_lt d4
      clear D5 k0 k1 d1 d2 d3 d4 x4
      have hAs : As wc va n vc l := by
        obtain ⟨a', cap', e, hs⟩ := own_sl x2
        cases e
        exact ⟨hs, h.ok⟩
      have D6 := hid (searchAcc_call va n vc l s wc hAs (fun i j hi hj hij => hG.out.up.get i j hi hj hij) (by omega))
      have q0 : wc.cell? ⟨w.heap.size + 1, 0, none⟩ = some (.string s) := blk_cell y3
      have q1 : wc.cell? ⟨bo, 1, none⟩ = some (.slice va n vc) := blk_cell x1
      go_upto_region 20 with (fail)
      go_wp2_with fail
      go_at_call 48; refine D6.out.mono ?_; rintro e w6 ⟨i, hi, rfl, hlo, hhi, b6⟩
      replace hlo := hid hlo
      replace hhi := hid hhi
      replace x1 := blk_below x1 b6
      replace x2 := own_below x2 b6
      replace y4 := blk_below y4 b6
      replace y5 := blk_below y5 b6
      replace hd := bnext hd b6
      clear q0 q1 y3 b6 D6 hAs
      have hs' : As' = s := by
        have := Vw.get_s l s
        rw [← hA.out] at this
        exact this
      subst hs'
      have hfin : Vw.plus (Vw.get l As') ⟨As', k, m⟩ = ⟨As', sm, Ac + 1, op⟩ := by rw [← hA.out]; exact hP.out
      replace hfin := hid hfin
      have a0 : w6.cell? ⟨ba, 0, none⟩ = some (.string As') := blk_cell y5
      have a1 : w6.cell? ⟨ba, 1, none⟩ = some (.int .i64 sm) := blk_cell y5
      have a2 : w6.cell? ⟨ba, 2, none⟩ = some (.int .i64 (Ac + 1)) := blk_cell y5
      have a3 : w6.cell? ⟨ba, 3, none⟩ = some (.bool op) := blk_cell y5
      have o0 : w6.cell? ⟨bo, 0, none⟩ = some (.int .i64 (u + 1)) := blk_cell x1
      have o1 : w6.cell? ⟨bo, 1, none⟩ = some (.slice va n vc) := blk_cell x1
      by_cases hf : (l[i]?).map Vw.key = some (Evt.lst As')
      · have hdec := decide_eq_true hf
        rw [hdec]
        clear hdec
        have hil : i < l.length := by
          rcases Nat.lt_or_ge i l.length with hh | hh
          · exact hh
          · rw [List.getElem?_eq_none hh] at hf; cases hf
        rw [List.getElem?_eq_getElem hil, Option.map_some] at hf
        have hkey := hid (Option.some.inj hf)
        clear hf
        have hin : i < n := by rw [← hcn.out]; exact hil
        obtain ⟨g, cp, e, hg1, hg2, hg3, hg4⟩ := own_pos x2 (by omega)
        cases e
        have hAs : As w6 (some ⟨g, 0, none⟩) n vc l := by
          obtain ⟨a', cap', e, hs⟩ := own_sl x2
          cases e
          exact ⟨hs, h.ok⟩
        obtain ⟨r0, r1, r2, r3⟩ := hAs.at i hil
        simp only [Nat.zero_add] at r0 r1 r2 r3
        obtain ⟨cur, hgb, _⟩ := own_known x2
        have f0 : ∀ j, w6.frozen? ⟨g, j, none⟩ = false := fun j => blk_free hgb
        have i0 : (0 : Int) ≤ (i : Int) := by omega
        have i1 : (i : Int) < (n : Int) := by omega
        have n1 : g ≠ bo := fun e => own_blk_ne x2 x1 (by decide) (by rw [e]; rfl)
        have n2 : bo ≠ g := fun e => n1 e.symm
        have n3 : g ≠ w.heap.size + 1 + 1 := fun e => own_blk_ne x2 y4 (by decide) (by rw [e]; rfl)
        have n4 : w.heap.size + 1 + 1 ≠ g := fun e => n3 e.symm
        have t1 : w6.cell? ⟨w.heap.size + 1 + 1, 0, none⟩ = some (.int .i64 0) := blk_cell y4
        have t2 : w6.cell? ⟨w.heap.size + 1 + 1, 1, none⟩ = some (.slice none 0 0) := blk_cell y4
        have t3 : ∀ j, w6.frozen? ⟨w.heap.size + 1 + 1, j, none⟩ = false := fun j => blk_free y4
        have hset := Vw.ins_found ⟨As', sm, Ac + 1, op⟩ l i hil hlo.out hkey.out
        have hgw : w.heap.size ≤ g := by omega
        go_wp2_with fail
        have ow := own_acc_set x2 i hil ⟨As', sm, Ac + 1, op⟩
        have ow2 := ownsRow_setCell_other (a := ⟨w.heap.size + 1 + 1, 1, none⟩) (ownsRow_setCell_other (a := ⟨w.heap.size + 1 + 1, 0, none⟩) ow (by intro e; exact n3 (by simpa [Value.ownBlock] using e)) (.int .i64 (u + 1))) (by intro e; exact n3 (by simpa [Value.ownBlock] using e)) (.slice (some ⟨g, 0, none⟩) n vc)
        obtain ⟨a', cap', e, hs⟩ := own_sl ow2
        cases e
        have owF := own_mono ow2 (Nat.le_of_lt y0)
        refine bodyPost_ret (v := .tuple #[.agg #[.int .i64 (u + 1), .slice (some ⟨g, 0, none⟩) n vc], .int .i64 0]) (by simp [results, Try.results37, go_sem, t1, t2]) rfl ⟨_, _, _, rfl, ?_, (((((hd.setCell hgw _).setCell hgw _).setCell hgw _).setCell hgw _).setCell (by show w.heap.size ≤ w.heap.size + 1 + 1; omega) _).setCell (by show w.heap.size ≤ w.heap.size + 1 + 1; omega) _, by show World.ownsRow _ _ _ _ _ _ (acCells (Vw.ins (Vw.plus (Vw.get l As') ⟨As', k, m⟩) l)); rw [hfin.out, hset]; exact owF⟩
        show As _ _ _ _ (Vw.ins (Vw.plus (Vw.get l As') ⟨As', k, m⟩) l)
        rw [hfin.out, hset]
        refine ⟨hs, fun x hx => ?_⟩
        rcases List.mem_or_eq_of_mem_set hx with hx | rfl
        · exact h.ok x hx
        · exact he
      · have hdec := decide_eq_false hf
        rw [hdec]
        clear hdec
        replace hf := hid hf
        have hiv : i ≤ n := by rw [← hcn.out]; exact hi
        have z1 := blk_new w6 (.cells #[.string As', .int .i64 sm, .int .i64 (Ac + 1), .bool op] 65)
        have z2 := own_below x2 ((Below.refl _ _).alloc (Nat.le_refl _) (.cells #[.string As', .int .i64 sm, .int .i64 (Ac + 1), .bool op] 65))
        have z3 : (Value.slice va n vc).ownBlock ≠ some w6.heap.size := fun e => absurd (x2.lt _ e).2 (Nat.lt_irrefl _)
        have z4 : Wc.heap.size ≤ (w6.alloc (.cells #[.string As', .int .i64 sm, .int .i64 (Ac + 1), .bool op] 65)).heap.size := by
          have := blk_lt x1
          simp only [World.size_alloc]; omega
        have D7 := hid (insertAcc_call (.slice va n vc) n l i ⟨As', sm, Ac + 1, op⟩ w6.heap.size Wc.heap.size _ z2 z4 (by omega) hiv z3 z1)
        have hne1 := own_blk_ne z2 (blk_old x1) (by decide)
        replace x1 := blk_old (o' := .cells #[.string As', .int .i64 sm, .int .i64 (Ac + 1), .bool op] 65) x1
        replace y4 := blk_old (o' := .cells #[.string As', .int .i64 sm, .int .i64 (Ac + 1), .bool op] 65) y4
        replace hd := hd.alloc hd.size (.cells #[.string As', .int .i64 sm, .int .i64 (Ac + 1), .bool op] 65)
        have hset := Vw.ins_new ⟨As', sm, Ac + 1, op⟩ l i hi hlo.out (fun hh => ⟨hhi.out i hh (Nat.le_refl _), fun e => hf.out (by rw [List.getElem?_eq_getElem hh, Option.map_some]; exact congrArg some e)⟩)
        go_wp2_with fail
        go_at_call 51; refine D7.out.mono ?_; rintro e w7 ⟨v', rfl, o7⟩
        replace x1 := grown_other z2 o7.grown x1 (by decide)
        replace y4 := grown_other z2 o7.grown y4 (by decide)
        replace hd := below_grown (own_mono z2 (Nat.le_of_lt y0)) hd (by have := blk_lt x1; omega) o7.grown
        have o7o := o7.own
        obtain ⟨a', c', rfl, hs7⟩ := own_sl o7o
        clear z1 z2 z3 z4 D7 a0 a1 a2 a3 o0 o1 o7 hlo hhi
        have m1 : bo ≠ w.heap.size + 1 + 1 := by omega
        have m2 : w.heap.size + 1 + 1 ≠ bo := by omega
        have m3 : w.heap.size ≤ bo := by omega
        have t1 : w7.cell? ⟨w.heap.size + 1 + 1, 0, none⟩ = some (.int .i64 0) := blk_cell y4
        have t2 : w7.cell? ⟨w.heap.size + 1 + 1, 1, none⟩ = some (.slice none 0 0) := blk_cell y4
        have t3 : ∀ j, w7.frozen? ⟨w.heap.size + 1 + 1, j, none⟩ = false := fun j => blk_free y4
        have t4 : ∀ j, w7.frozen? ⟨bo, j, none⟩ = false := fun j => blk_free x1
        have t5 : w7.cell? ⟨bo, 0, none⟩ = some (.int .i64 (u + 1)) := blk_cell x1
        have t6 : w7.cell? ⟨bo, 1, none⟩ = some (.slice va n vc) := blk_cell x1
        have r1 := own_blk_ne o7o x1 (by decide)
        have r2 := own_blk_ne o7o y4 (by decide)
        go_wp2_with fail
        have ow2 := ownsRow_setCell_other (a := ⟨w.heap.size + 1 + 1, 1, none⟩) (ownsRow_setCell_other (a := ⟨w.heap.size + 1 + 1, 0, none⟩) (ownsRow_setCell_other (a := ⟨bo, 1, none⟩) o7o r1 (.slice a' (n + 1) c')) r2 (.int .i64 (u + 1))) r2 (.slice a' (n + 1) c')
        obtain ⟨a'', cap'', e, hs⟩ := own_sl ow2
        cases e
        have owF := own_mono ow2 (Nat.le_of_lt y0)
        refine bodyPost_ret (v := .tuple #[.agg #[.int .i64 (u + 1), .slice a' (n + 1) c'], .int .i64 0]) (by simp [results, Try.results37, go_sem, t1, t2]) rfl ⟨_, _, _, rfl, ?_, ((hd.setCell m3 _).setCell (by show w.heap.size ≤ w.heap.size + 1 + 1; omega) _).setCell (by show w.heap.size ≤ w.heap.size + 1 + 1; omega) _, by show World.ownsRow _ _ _ _ _ _ (acCells (Vw.ins (Vw.plus (Vw.get l As') ⟨As', k, m⟩) l)); rw [hfin.out, hset]; exact owF⟩
        show As _ _ _ _ (Vw.ins (Vw.plus (Vw.get l As') ⟨As', k, m⟩) l)
        rw [hfin.out, hset]
        refine ⟨hs, fun x hx => ?_⟩
        rcases List.mem_append.1 hx with hx | hx
        · exact h.ok x (List.mem_of_mem_take hx)
        · rcases List.mem_cons.1 hx with rfl | hx
          · exact he
          · exact h.ok x (List.mem_of_mem_drop hx)
theorem vApply_callO (u : Int) (a : Option Addr) (n cap : Nat) (l : List Vw.Acc) (e : Evt.Ev) (w : World) (h : As w a n cap l) (he : e.s.size ≤ maxLen) :
    Calls Try.prog 37 #[viVal u a n cap, evVal e] w (VAnsO (Vw.apply ⟨u, l⟩ e) w) := by
  unfold Vw.apply
  by_cases h1 : (Vw.wrongV ⟨u, l⟩).1 ≠ 0
  · rw [if_pos h1]; exact vApply_a u a n cap l e w h h1
  · rw [if_neg h1]
    have h1 : (Vw.wrongV ⟨u, l⟩).1 = 0 := Classical.byContradiction h1
    by_cases h2 : Evt.wrongEv e ≠ 0
    · rw [if_pos h2]; exact vApply_b u a n cap l e w h he h1 h2
    · rw [if_neg h2]
      have h2 : Evt.wrongEv e = 0 := Classical.byContradiction h2
      by_cases h3 : u = 150
      · rw [if_pos h3]
        subst h3
        exact vApply_c a n cap l e w h he h1 h2
      · rw [if_neg h3]
        by_cases h4 : Vw.may (Vw.get l e.s) e = false
        · rw [if_pos h4]; exact vApply_d u a n cap l e w h he h1 h2 h3 h4
        · rw [if_neg h4]; exact vApply_e u a n cap l e w h he h1 h2 h3 (by simpa using h4)
end Go.Proofs.Ythhcdfjijagalaa
