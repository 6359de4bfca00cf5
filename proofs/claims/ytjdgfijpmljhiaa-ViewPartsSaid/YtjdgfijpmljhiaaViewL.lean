/- Walk: ViewParts. -/
import Derived.Test.YtjdgfijpmljhiaaViewK
namespace Go.Proofs.Ytjdgfijpmljhiaa
open Go.RowKit
set_option linter.unusedVariables false
theorem Es.take {w : World} {a : Option Addr} {n cap k : Nat} {l : List Evt.Ev} (h : Es w a n cap l) (hk : k ≤ n) : Es w a k cap (l.take k) := by
  have hn := h.n
  refine ⟨⟨Nat.le_trans hk h.sl.le, h.sl.max, by rw [evCells_length, List.length_take, Nat.min_eq_left (by omega)], h.sl.nil, fun h0 => ?_⟩, fun e he => h.ok e (List.mem_of_mem_take he)⟩
  obtain ⟨b, off, e, hc⟩ := h.sl.addr (by omega)
  refine ⟨b, off, e, fun j u hj => hc j u ?_⟩
  have : evCells l = evCells (l.take k) ++ evCells (l.drop k) := by rw [← evCells_append, List.take_append_drop]
  rw [this, List.getElem?_append_left (List.getElem?_eq_some_iff.1 hj).1]
  exact hj
set_option maxRecDepth 100000 in
theorem slice_drop (ea : Option Addr) (en ec k : Nat) (hk : k ≤ en) (W : World) : (Instr.slice 25 (.slice ea en ec) (some (.int .i64 (k : Int))) none none).run Try.prog W = .ok (.slice (if ec = k then ea else ea.map (·.add (k * 3))) (en - k) (ec - k)) W := by
  have h0 : (0 : Int) ≤ (k : Int) := by omega
  have h1 : (k : Int) ≤ (en : Int) := by omega
  refine (run_slice_l (P := Try.prog) (w := W) (t := 25) (a := ea) (len := en) (cap := ec) Try.underlying25 .i64 (k : Int) h0 h1).trans ?_
  simp only [Int.toNat_natCast]
  rfl
theorem Es.drop {w : World} {a : Option Addr} {n cap k : Nat} {l : List Evt.Ev} (h : Es w a n cap l) (hk : k ≤ n) : Es w (if cap = k then a else a.map (·.add (k * 3))) (n - k) (cap - k) (l.drop k) := by
  have hn := h.n
  have hle := h.sl.le
  have hmax := h.sl.max
  refine ⟨⟨by omega, by omega, by rw [evCells_length, List.length_drop, hn], fun h0 => ?_, fun h0 => ?_⟩, fun e he => h.ok e (List.mem_of_mem_drop he)⟩
  · split at h0
    · omega
    · cases a with
      | none => have := h.sl.nil rfl; omega
      | some a => simp at h0
  · obtain ⟨b, off, rfl, hc⟩ := h.sl.addr (by omega)
    rw [if_neg (by omega)]
    refine ⟨b, off + k * 3, by simp [Addr.add], fun j u hj => ?_⟩
    rw [Nat.add_assoc]
    refine hc _ _ ?_
    have e : evCells l = evCells (l.take k) ++ evCells (l.drop k) := by rw [← evCells_append, List.take_append_drop]
    have hl : (evCells (l.take k)).length = k * 3 := by rw [evCells_length, List.length_take, Nat.min_eq_left (by omega)]
    rw [e, List.getElem?_append_right (by omega), hl, Nat.add_sub_cancel_left]
    exact hj
theorem new1 (w : World) (o o' : Obj) : ((w.alloc o).alloc o').heap[w.heap.size + 1]? = some o' := by simpa using blk_new (w.alloc o) o'
theorem blk_newD (w : World) (o : Obj) : (w.drew.alloc o).heap[w.heap.size]? = some o := blk_new w.drew o
theorem blk_oldD (w : World) (o o' : Obj) : ((w.drew.alloc o).alloc o').heap[w.heap.size]? = some o := blk_old (blk_new w.drew o)
theorem new1D (w : World) (o o' : Obj) : ((w.drew.alloc o).alloc o').heap[w.heap.size + 1]? = some o' := new1 w.drew o o'
theorem blk_newE (w : World) (o : Obj) : (w.alloc o).drew.heap[w.heap.size]? = some o := blk_new w o
theorem blk_oldE (w : World) (o o' : Obj) : ((w.alloc o).alloc o').drew.heap[w.heap.size]? = some o := blk_old (blk_new w o)
theorem new1E (w : World) (o o' : Obj) : ((w.alloc o).alloc o').drew.heap[w.heap.size + 1]? = some o' := new1 w o o'
theorem kp0 {w : World} {b i : Nat} {v : Value} {o o' : Obj} (h : w.cell? ⟨b, i, none⟩ = some v) (hlt : b < w.heap.size) : ((w.alloc o).alloc o').cell? ⟨b, i, none⟩ = some v := by
  rw [cell_old (by simp; omega), cell_old hlt]; exact h
theorem kp2 {w : World} {b i f : Nat} {x y v : Value} (h : w.cell? ⟨b, i, none⟩ = some v) (hne : f ≠ b) : ((w.setCell ⟨f, 0, none⟩ x).setCell ⟨f, 1, none⟩ y).cell? ⟨b, i, none⟩ = some v := by
  rw [cell_other_block _ hne, cell_other_block _ hne]; exact h
theorem kp1 {w : World} {b i f : Nat} {x y v : Value} {o : Obj} (h : w.cell? ⟨b, i, none⟩ = some v) (hlt : b < w.heap.size) (hne : f ≠ b) : (((w.setCell ⟨f, 0, none⟩ x).setCell ⟨f, 1, none⟩ y).alloc o).cell? ⟨b, i, none⟩ = some v := by
  rw [cell_old (by simpa only [World.size_setCell] using hlt)]; exact kp2 h hne
theorem kp4 {w : World} {b i f g : Nat} {x y x' y' v : Value} (h : w.cell? ⟨b, i, none⟩ = some v) (hne : f ≠ b) (hne' : g ≠ b) : ((((w.setCell ⟨f, 0, none⟩ x).setCell ⟨f, 1, none⟩ y).setCell ⟨g, 0, none⟩ x').setCell ⟨g, 1, none⟩ y').cell? ⟨b, i, none⟩ = some v := kp2 (kp2 h hne) hne'
theorem As.set2 {w : World} {a : Option Addr} {n cap f : Nat} {l : List Vw.Acc} {x y : Value} {t : TypeId} (h : As w a n cap l) (hb : w.heap[f]? = some (.cells #[x, y] t (0, 0))) (x' y' : Value) : As ((w.setCell ⟨f, 0, none⟩ x').setCell ⟨f, 1, none⟩ y') a n cap l := (h.setTwo hb _).setTwo (blk_set (i := 0) hb _) _
theorem below2 {w w1 : World} {b f : Nat} (h : Below b w w1) (hf : b ≤ f) (x' y' : Value) : Below b w ((w1.setCell ⟨f, 0, none⟩ x').setCell ⟨f, 1, none⟩ y') := (h.setCell hf _).setCell hf _
theorem blk_keep2 {w : World} {b g : Nat} {o : Obj} (h : w.heap[b]? = some o) (hne : b ≠ g) (x y : Value) : ((w.setCell ⟨g, 0, none⟩ x).setCell ⟨g, 1, none⟩ y).heap[b]? = some o := blk_keep (blk_keep h hne _) hne _
theorem new2 (w : World) (f : Nat) (x y : Value) (o : Obj) : (((w.setCell ⟨f, 0, none⟩ x).setCell ⟨f, 1, none⟩ y).alloc o).heap[w.heap.size]? = some o := by
  have := blk_new ((w.setCell ⟨f, 0, none⟩ x).setCell ⟨f, 1, none⟩ y) o
  simpa only [World.size_setCell] using this

set_option maxRecDepth 100000 in
set_option maxHeartbeats 4000000 in
theorem ViewParts_walk (u : Int) (a : Option Addr) (n cap : Nat) (l : List Vw.Acc) (ea : Option Addr) (en ec : Nat) (es : List Evt.Ev) (t : Int) (w : World) (h : As w a n cap l) (hes : Es w ea en ec es) (ht1 : -9223372036854775808 ≤ t) (ht2 : t ≤ 9223372036854775807) :
    Calls Try.prog 4 #[.agg #[.int .i64 u, .slice a n cap], .slice ea en ec, .int .i64 t] w (Grew (.bool true) w) := by
  have hemax := hes.sl.max
  have hele := hes.sl.le
  unfold maxLen at hemax
  have HEN := hid hes.n
  have D := hid (fun W (hW : As W a n cap l) (hE : Es W ea en ec es) => vFold_call u a n cap l ea en ec es W hW hE)
  have hlaw := fun (h0 : (Vw.fold ⟨u, l⟩ es).err = 0) (k : Nat) => Vw.fold_parts h0 k
  have hbad := fun (h0 : (Vw.fold ⟨u, l⟩ es).err ≠ 0) => Vw.fold_bad h0
  generalize Vw.fold ⟨u, l⟩ es = R at *
  obtain ⟨⟨u2, l2⟩, er, at2⟩ := R
  unfold viVal FAns viVal at D
  simp only at D hlaw hbad
  replace hlaw := hid hlaw
  replace hbad := hid hbad
  go_enter Try.func4, Try.ntmps4
  go_wp2_with fail
  go_at_call 23; refine (alive7_call _).mono ?_; rintro e w1 ⟨rfl, b1⟩
  have hb1 : Below w.heap.size w w1 := bnext ((Below.refl _ _).alloc (Nat.le_refl _) _) b1
  have v1 := blk_below (blk_new w (.cells #[.int .i64 u, .slice a n cap] 24)) b1
  clear b1
  have r0 : w1.cell? ⟨w.heap.size, 0, none⟩ = some (.int .i64 u) := blk_cell v1
  have r1 : w1.cell? ⟨w.heap.size, 1, none⟩ = some (.slice a n cap) := blk_cell v1
  go_wp2_with fail
  go_at_call 21; refine (D.out _ (h.below hb1) (hes.below hb1)).mono ?_; rintro e w2 ⟨a2, n2, c2, rfl, hA2, b2⟩
  replace v1 := blk_below v1 b2
  replace hb1 := bnext hb1 b2
  clear b2 r0 r1
  have s1 := blk_lt v1
  obtain ⟨V, hV, x1, x2, hb2, hb3⟩ := two_new w w2 (.cells #[.int .i64 u2, .slice a2 n2 c2] 24) (.cells #[.int .i64 er, .int .i64 at2] 28) hb1
  have v1' := blk_below v1 hb3
  have hA3 := hA2.below hb3
  have r0 : V.cell? ⟨w2.heap.size, 0, none⟩ = some (.int .i64 u2) := blk_cell x1
  have r1 : V.cell? ⟨w2.heap.size, 1, none⟩ = some (.slice a2 n2 c2) := blk_cell x1
  have r2 : V.cell? ⟨w2.heap.size + 1, 0, none⟩ = some (.int .i64 er) := blk_cell x2
  have r3 : V.cell? ⟨w.heap.size, 0, none⟩ = some (.int .i64 u) := blk_cell v1'
  have r4 : V.cell? ⟨w.heap.size, 1, none⟩ = some (.slice a n cap) := blk_cell v1'
  by_cases her : er = 0
  · subst her
    by_cases htn : t < 0
    · go_wp2_with fail
      go_ret
      exact ⟨rfl, hb2⟩
    · by_cases htp : (en : Int) < t
      · go_wp2_with fail
        go_ret
        exact ⟨rfl, hb2⟩
      · obtain ⟨k, rfl⟩ := Int.eq_ofNat_of_zero_le (Int.not_lt.1 htn)
        have hk : k ≤ en := by omega
        go_upto_region 8 with (fail)
        obtain ⟨LA, LB, LC⟩ := hlaw.out (by first | rfl | trivial) k
        have DK := fun W (hW : As W a n cap l) (hE : Es W ea k ec (es.take k)) => vFold_call u a n cap l ea k ec (es.take k) W hW hE
        generalize Vw.fold ⟨u, l⟩ (es.take k) = RK at *
        obtain ⟨⟨u3, l3⟩, er3, at3⟩ := RK
        unfold viVal FAns viVal at DK
        simp only at DK LA LB LC
        subst LA
        replace LB := hid LB
        replace LC := hid LC
        have hEk : Es V ea k ec (es.take k) := (hes.below hb2).take hk
        have hv3 := h.below hb2
        have D5 := hid (show ∀ W, Below V.heap.size V W → Calls Try.prog 21 #[.agg #[.int .i64 u, .slice a n cap], .slice ea k ec] W (fun e w' => ∃ va vn vc, e = .returned (.tuple #[.agg #[.int .i64 u3, .slice va vn vc], .agg #[.int .i64 0, .int .i64 at3]]) ∧ Below V.heap.size V w' ∧ As w' va vn vc l3 ∧ w'.cell? ⟨w.heap.size, 0, none⟩ = some (.int .i64 u) ∧ w'.cell? ⟨w.heap.size, 1, none⟩ = some (.slice a n cap) ∧ ∀ b o, W.heap[b]? = some o → w'.heap[b]? = some o) from fun W hW =>
          (DK W (hv3.below hW) (hEk.below hW)).mono fun e w' ⟨va, vn, vc, h1, h2, h3⟩ => ⟨va, vn, vc, h1, bnext hW h3, h2, blk_cell (blk_below (blk_below v1' hW) h3), blk_cell (blk_below (blk_below v1' hW) h3), fun b o hb => blk_below hb h3⟩)
        have i0 : (0 : Int) ≤ (k : Int) := by omega
        have i1 : (k : Int) ≤ (ec : Int) := by omega
        have i2 : k ≤ ec := by omega
        have HW2 : w.heap.size ≤ w2.heap.size + 1 := by omega
        have y0 : w.heap.size < V.heap.size := blk_lt v1'
        have y1 : w2.heap.size + 1 < V.heap.size := blk_lt x2
        have y2 : w2.heap.size + 1 ≠ V.heap.size := by omega
        have y3 : V.heap.size ≠ w2.heap.size + 1 := by omega
        have y4 : w.heap.size ≠ V.heap.size := by omega
        have y5 : V.heap.size ≠ w.heap.size := by omega
        have y6 : w2.heap.size + 1 ≠ w.heap.size := by omega
        have y7 : w.heap.size ≠ w2.heap.size + 1 := by omega
        clear DK hEk hv3 hlaw hbad D hV hb3 v1
        go_cut [9] from 26 to 41 (fun s9 wx => ∃ bo va vn vc, s9 = .pointer (some ⟨bo, 0, none⟩) ∧ wx.heap[bo]? = some (.cells #[.int .i64 u3, .slice va vn vc] 24 (0, 0)) ∧ wx.heap[w2.heap.size]? = some (.cells #[.int .i64 u2, .slice a2 n2 c2] 24 (0, 0)) ∧ wx.heap[w2.heap.size + 1]? = some (.cells #[.int .i64 0, .int .i64 at3] 28 (0, 0)) ∧ As wx va vn vc l3 ∧ As wx a2 n2 c2 l2 ∧ Below w.heap.size w wx)
        case first =>
          go_region_held3 (fun w' => w'.cell? ⟨w.heap.size, 0, none⟩ = some (.int .i64 u) ∧ w'.cell? ⟨w.heap.size, 1, none⟩ = some (.slice a n cap))
            (first | (with_reducible exact ⟨g0, g1⟩) | (with_reducible exact ⟨r3, r4⟩) | (with_reducible exact ⟨(cell_old z5).trans g0, (cell_old z5).trans g1⟩) | (with_reducible exact ⟨(cell_old y0).trans r3, (cell_old y0).trans r4⟩) | (with_reducible exact ⟨kp2 g0 y6, kp2 g1 y6⟩) | (with_reducible exact ⟨kp1 g0 z5 y6, kp1 g1 z5 y6⟩) | (with_reducible exact ⟨kp2 g0 y5, kp2 g1 y5⟩) | (with_reducible exact ⟨kp4 g0 y5 y6, kp4 g1 y5 y6⟩) | (with_reducible exact ⟨kp4 g0 y6 y5, kp4 g1 y6 y5⟩) | (exact ⟨r3, r4⟩) | (exact ⟨(cell_old y0).trans r3, (cell_old y0).trans r4⟩) | (exact ⟨g0, g1⟩))
            ((go_at_call 21; refine (D5.out _ ?_).mono ?_; (repeat (first | assumption | exact Below.refl _ _ | refine below_drewN ?_ _ | refine Below.drew ?_ | refine Below.alloc ?_ (Nat.le_refl _) _)); rintro e w5 ⟨va, vn, vc, rfl, b5, o5, g0, g1, jj⟩; have j0 := hid g0; have j1 := hid g0; have j2 := hid g0; have j3 := hid g0; have j4 := hid g0; (try have j0 := jj V.heap.size (.cells #[.int .i64 0, .slice none 0 0] 24 (0, 0)) (by first | exact blk_new V _ | exact blk_new V.drew _)); (try have j1 := blk_cell (i := 0) j0); (try have j2 := blk_cell (i := 1) j0); (try have j3 := blk_free (i := 0) j0); (try have j4 := blk_free (i := 1) j0); (try replace jj := hid jj); have z5 : w.heap.size < w5.heap.size := World.block_lt_of_cell? _ _ g0; have z1 := blk_below x1 b5; have z2 := blk_below x2 b5; have p0 := blk_cell (i := 0) z2; have p1 := blk_cell (i := 1) z2; have p2 := blk_free (i := 0) z2; have p3 := blk_free (i := 1) z2; have z3 := blk_lt z2; have z6 : w2.heap.size + 1 ≠ w5.heap.size := Nat.ne_of_lt z3; have z7 := Ne.symm z6))
          all_goals (go_wp2_with fail; go_meet)
          · have hbw := bnext hb2 b5
            exact ⟨w5.heap.size, va, vn, vc, rfl, new2 _ _ _ _ _, blk_old (blk_keep2 z1 (by omega) _ _), blk_old (res_blk z2 _ _), (o5.set2 z2 _ _).alloc _, ((hA3.below b5).set2 z2 _ _).alloc _, (below2 hbw HW2 _ _).alloc (below2 hbw HW2 _ _).size _⟩
          · have hbw := bnext hb2 b5
            exact ⟨V.heap.size, va, vn, vc, rfl, blk_keep2 (res_blk j0 _ _) (by omega) _ _, blk_keep2 (blk_keep2 z1 (by omega) _ _) (by omega) _ _, res_blk (blk_keep2 z2 (by omega) _ _) _ _, (o5.set2 j0 _ _).set2 (blk_keep2 z2 (by omega) _ _) _ _, ((hA3.below b5).set2 j0 _ _).set2 (blk_keep2 z2 (by omega) _ _) _ _, below2 (below2 hbw hb2.size _ _) HW2 _ _⟩
        case rest =>
          obtain ⟨bo, va, vn, vc, rfl, x3, x4, x5, hA4, hA5, hb4⟩ := hcut
          have hE4 := (hes.below hb4).drop hk
          have hSl := slice_drop ea en ec k hk
          have DK := fun W (hW : As W va vn vc l3) (hE : Es W (if ec = k then ea else ea.map (·.add (k * 3))) (en - k) (ec - k) (es.drop k)) => vFold_call u3 va vn vc l3 _ (en - k) (ec - k) (es.drop k) W hW hE
          have LB := LB.out
          have LC := LC.out
          generalize Vw.fold ⟨u3, l3⟩ (es.drop k) = RK at *
          obtain ⟨⟨u4, l4⟩, er4, at4⟩ := RK
          unfold viVal FAns viVal at DK
          simp only at DK LB LC
          subst LB
          obtain ⟨rfl, rfl⟩ : u4 = u2 ∧ l4 = l2 := ⟨congrArg Vw.Vi.upto LC, congrArg Vw.Vi.accs LC⟩
          generalize (if ec = k then ea else ea.map (·.add (k * 3))) = da at *
          generalize en - k = dn at *
          generalize ec - k = dc at *
          have D6 := hid (show ∀ W, Below wc.heap.size wc W → Calls Try.prog 21 #[.agg #[.int .i64 u3, .slice va vn vc], .slice da dn dc] W (fun e w' => ∃ vb vm vd, e = .returned (.tuple #[.agg #[.int .i64 u4, .slice vb vm vd], .agg #[.int .i64 0, .int .i64 at4]]) ∧ Below wc.heap.size wc w' ∧ As w' vb vm vd l4 ∧ w'.cell? ⟨bo, 0, none⟩ = some (.int .i64 u3) ∧ w'.cell? ⟨bo, 1, none⟩ = some (.slice va vn vc) ∧ ∀ b o, W.heap[b]? = some o → w'.heap[b]? = some o) from fun W hW =>
            (DK W (hA4.below hW) (hE4.below hW)).mono fun e w' ⟨vb, vm, vd, h1, h2, h3⟩ => ⟨vb, vm, vd, h1, bnext hW h3, h2, blk_cell (blk_below (blk_below x3 hW) h3), blk_cell (blk_below (blk_below x3 hW) h3), fun b o hb => blk_below hb h3⟩)
          clear D5 r0 r1 r2 r3 r4 x1 x2 v1' hA3 hA2 y0 y1 y2 y3 y4 y5 i0 i1 i2 htn htp DK LC hA4 hE4 y6 y7 hes hb2 hb1 s1 HEN
          replace hk := hid hk
          replace hele := hid hele
          have r3 : wc.cell? ⟨bo, 0, none⟩ = some (.int .i64 u3) := blk_cell x3
          have r4 : wc.cell? ⟨bo, 1, none⟩ = some (.slice va vn vc) := blk_cell x3
          have y0 : bo < wc.heap.size := blk_lt x3
          have ya : wc.heap.size ≠ bo := by omega
          have yb : wc.heap.size + 1 ≠ bo := by omega
          go_upto_region 9 with (fail)
          go_cut [10, 11] from 42 to 49 (fun s10 s11 wx => ∃ b10 b11 vb vm vd, s10 = .pointer (some ⟨b10, 0, none⟩) ∧ s11 = .pointer (some ⟨b11, 0, none⟩) ∧ wx.heap[b10]? = some (.cells #[.int .i64 u4, .slice vb vm vd] 24 (0, 0)) ∧ wx.heap[b11]? = some (.cells #[.int .i64 0, .int .i64 at4] 28 (0, 0)) ∧ As wx vb vm vd l4 ∧ Below wc.heap.size wc wx)
          case first =>
            go_region_held3 (fun w' => w'.cell? ⟨bo, 0, none⟩ = some (.int .i64 u3) ∧ w'.cell? ⟨bo, 1, none⟩ = some (.slice va vn vc))
              (first | (with_reducible exact ⟨g0, g1⟩) | (with_reducible exact ⟨r3, r4⟩) | (with_reducible exact ⟨(cell_old z5).trans g0, (cell_old z5).trans g1⟩) | (with_reducible exact ⟨kp0 g0 z5, kp0 g1 z5⟩) | (with_reducible exact ⟨(cell_old y0).trans r3, (cell_old y0).trans r4⟩) | (with_reducible exact ⟨kp0 r3 y0, kp0 r4 y0⟩) | (with_reducible exact ⟨kp2 g0 ya, kp2 g1 ya⟩) | (with_reducible exact ⟨kp1 g0 z5 ya, kp1 g1 z5 ya⟩) | (with_reducible exact ⟨kp2 g0 yb, kp2 g1 yb⟩) | (with_reducible exact ⟨kp1 g0 z5 yb, kp1 g1 z5 yb⟩) | (with_reducible exact ⟨kp4 g0 ya yb, kp4 g1 ya yb⟩) | (with_reducible exact ⟨kp4 g0 yb ya, kp4 g1 yb ya⟩) | (exact ⟨r3, r4⟩) | (exact ⟨(cell_old y0).trans r3, (cell_old y0).trans r4⟩) | (exact ⟨kp0 r3 y0, kp0 r4 y0⟩))
              ((go_at_call 21; refine (D6.out _ ?_).mono ?_; (repeat (first | assumption | exact Below.refl _ _ | refine below_drewN ?_ _ | refine Below.drew ?_ | exact Below.alloc (Below.refl _ _) (Nat.le_refl _) _ | exact Below.alloc (Below.alloc (Below.refl _ _) (Nat.le_refl _) _) (by simp) _)); rintro e w5 ⟨vb, vm, vd, rfl, b5, o5, g0, g1, jj⟩; (try (have jA := jj (wc.heap.size) (.cells #[.int .i64 0, .slice none 0 0] 24 (0, 0)) (by first | with_reducible exact blk_new wc _ | with_reducible exact blk_old (blk_new wc _) | with_reducible exact new1 wc _ _ | with_reducible exact blk_newE wc _ | with_reducible exact blk_oldE wc _ _ | with_reducible exact new1E wc _ _ | with_reducible exact blk_newD wc _ | with_reducible exact blk_oldD wc _ _ | with_reducible exact new1D wc _ _); have jA0 := blk_cell (i := 0) jA; have jA1 := blk_cell (i := 1) jA; have jA2 := blk_free (i := 0) jA; have jA3 := blk_free (i := 1) jA; have jA4 := blk_lt jA; have jA5 := Nat.ne_of_lt jA4; have jA6 := Ne.symm jA5)); (try (have jB := jj (wc.heap.size) (.cells #[.int .i64 0, .int .i64 0] 28 (0, 0)) (by first | with_reducible exact blk_new wc _ | with_reducible exact blk_old (blk_new wc _) | with_reducible exact new1 wc _ _ | with_reducible exact blk_newE wc _ | with_reducible exact blk_oldE wc _ _ | with_reducible exact new1E wc _ _ | with_reducible exact blk_newD wc _ | with_reducible exact blk_oldD wc _ _ | with_reducible exact new1D wc _ _); have jB0 := blk_cell (i := 0) jB; have jB1 := blk_cell (i := 1) jB; have jB2 := blk_free (i := 0) jB; have jB3 := blk_free (i := 1) jB; have jB4 := blk_lt jB; have jB5 := Nat.ne_of_lt jB4; have jB6 := Ne.symm jB5)); (try (have jC := jj (wc.heap.size + 1) (.cells #[.int .i64 0, .slice none 0 0] 24 (0, 0)) (by first | with_reducible exact blk_new wc _ | with_reducible exact blk_old (blk_new wc _) | with_reducible exact new1 wc _ _ | with_reducible exact blk_newE wc _ | with_reducible exact blk_oldE wc _ _ | with_reducible exact new1E wc _ _ | with_reducible exact blk_newD wc _ | with_reducible exact blk_oldD wc _ _ | with_reducible exact new1D wc _ _); have jC0 := blk_cell (i := 0) jC; have jC1 := blk_cell (i := 1) jC; have jC2 := blk_free (i := 0) jC; have jC3 := blk_free (i := 1) jC; have jC4 := blk_lt jC; have jC5 := Nat.ne_of_lt jC4; have jC6 := Ne.symm jC5)); (try (have jD := jj (wc.heap.size + 1) (.cells #[.int .i64 0, .int .i64 0] 28 (0, 0)) (by first | with_reducible exact blk_new wc _ | with_reducible exact blk_old (blk_new wc _) | with_reducible exact new1 wc _ _ | with_reducible exact blk_newE wc _ | with_reducible exact blk_oldE wc _ _ | with_reducible exact new1E wc _ _ | with_reducible exact blk_newD wc _ | with_reducible exact blk_oldD wc _ _ | with_reducible exact new1D wc _ _); have jD0 := blk_cell (i := 0) jD; have jD1 := blk_cell (i := 1) jD; have jD2 := blk_free (i := 0) jD; have jD3 := blk_free (i := 1) jD; have jD4 := blk_lt jD; have jD5 := Nat.ne_of_lt jD4; have jD6 := Ne.symm jD5)); replace jj := hid jj; have z5 : bo < w5.heap.size := World.block_lt_of_cell? _ _ g0))
            all_goals (go_wp2_with fail; go_meet)
            · exact ⟨_, _, vb, vm, vd, rfl, rfl, blk_old (blk_new w5 _), new1 w5 _ _, (o5.alloc _).alloc _, (b5.alloc b5.size _).alloc (b5.alloc b5.size _).size _⟩
            · exact ⟨_, _, vb, vm, vd, rfl, rfl, new1 w5 _ _, blk_old (blk_new w5 _), (o5.alloc _).alloc _, (b5.alloc b5.size _).alloc (b5.alloc b5.size _).size _⟩
            · exact ⟨_, _, vb, vm, vd, rfl, rfl, blk_old (res_blk jA _ _), new2 w5 _ _ _ _, (o5.set2 jA _ _).alloc _, (below2 b5 (Nat.le_refl _) _ _).alloc (below2 b5 (Nat.le_refl _) _ _).size _⟩
            · exact ⟨_, _, vb, vm, vd, rfl, rfl, blk_keep2 (res_blk jA _ _) (by omega) _ _, res_blk (blk_keep2 jD (by omega) _ _) _ _, (o5.set2 jA _ _).set2 (blk_keep2 jD (by omega) _ _) _ _, below2 (below2 b5 (Nat.le_refl _) _ _) (Nat.le_succ _) _ _⟩
            · exact ⟨_, _, vb, vm, vd, rfl, rfl, new2 w5 _ _ _ _, blk_old (res_blk jB _ _), (o5.set2 jB _ _).alloc _, (below2 b5 (Nat.le_refl _) _ _).alloc (below2 b5 (Nat.le_refl _) _ _).size _⟩
            · exact ⟨_, _, vb, vm, vd, rfl, rfl, blk_keep2 (res_blk jC _ _) (by omega) _ _, res_blk (blk_keep2 jB (by omega) _ _) _ _, (o5.set2 jC _ _).set2 (blk_keep2 jB (by omega) _ _) _ _, below2 (below2 b5 (Nat.le_succ _) _ _) (Nat.le_refl _) _ _⟩
          case rest =>
            rename World => W6
            obtain ⟨b10, b11, vb, vm, vd, rfl, rfl, x10, x11, hA6, hb6⟩ := hcut
            have x7 := blk_below x4 hb6
            have x8 := blk_below x5 hb6
            have hA7 := hA5.below hb6
            have hb7 := bnext hb4 hb6
            have DS := hid (rSameView_same u4 a2 vb n2 c2 vm vd l4 W6 hA7 hA6)
            unfold viVal at DS
            have p0 : W6.cell? ⟨w2.heap.size + 1, 0, none⟩ = some (.int .i64 0) := blk_cell x8
            have p1 : W6.cell? ⟨b11, 0, none⟩ = some (.int .i64 0) := blk_cell x11
            have p2 : W6.cell? ⟨w2.heap.size, 0, none⟩ = some (.int .i64 u4) := blk_cell x7
            have p3 : W6.cell? ⟨w2.heap.size, 1, none⟩ = some (.slice a2 n2 c2) := blk_cell x7
            have p4 : W6.cell? ⟨b10, 0, none⟩ = some (.int .i64 u4) := blk_cell x10
            have p5 : W6.cell? ⟨b10, 1, none⟩ = some (.slice vb vm vd) := blk_cell x10
            clear D6 r3 r4 x3 x4 x5 x7 x8 x10 x11 hSl
            go_wp2_with fail
            go_at_call 20; refine DS.out.mono ?_; rintro e w7 ⟨rfl, b7⟩
            go_wp2_with fail
            go_ret
            exact ⟨rfl, bnext hb7 b7⟩
  · have t0 : (er != 0) = true := bne_iff_ne.2 her
    have hN := hbad.out her
    obtain ⟨rfl, rfl⟩ : u2 = 0 ∧ l2 = [] := by
      have h1 := congrArg Vw.Vi.upto hN
      have h2 := congrArg Vw.Vi.accs hN
      exact ⟨h1, h2⟩
    have DS := hid (rSameView_same 0 a2 none n2 c2 0 0 [] V hA3 (As.nil _))
    unfold viVal at DS
    replace her := hid her
    clear hN
    go_wp2_with fail
    go_at_call 20; refine DS.out.mono ?_; rintro e w3 ⟨rfl, b3⟩
    go_wp2_with fail
    go_ret
    exact ⟨rfl, bnext hb2 b3⟩

end Go.Proofs.Ytjdgfijpmljhiaa
