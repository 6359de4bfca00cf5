/- Walk: ViewOthers. -/
import Derived.Test.YtjdgfijpmljhiaaViewJ
namespace Go.Proofs.Ytjdgfijpmljhiaa
open Go.RowKit
set_option linter.unusedVariables false
theorem info_evt : (Try.prog.info? 34).map (fun i => (i.zero, i.size, i.bytes)) = some (some (.agg #[.string ⟨#[]⟩, .int .i64 0, .int .i64 0]), 3, 32) := by kernel_rfl
theorem filt_step (es : List Evt.Ev) (s : ByteArray) (k : Nat) (h : k < es.length) : (es.take (k + 1)).filter (fun e => e.s = s) = (es.take k).filter (fun e => e.s = s) ++ (if es[k].s = s then [es[k]] else []) := by
  rw [List.take_succ_eq_append_getElem h, List.filter_append]
  congr 1
  by_cases hs : es[k].s = s <;> simp [hs]
theorem evCells_snoc (l : List Evt.Ev) (e : Evt.Ev) : evCells (l ++ [e]) = evCells l ++ [.string e.s, .int .i64 e.k, .int .i64 e.n] := by unfold evCells; simp [ev3]

set_option maxRecDepth 100000 in
set_option maxHeartbeats 4000000 in
theorem ViewOthers_walk (ea : Option Addr) (en ec : Nat) (es : List Evt.Ev) (s : ByteArray) (hs : s.size ≤ maxLen) (w : World) (hes : Es w ea en ec es) :
    Calls Try.prog 6 #[.slice ea en ec, .string s] w (Grew (.bool true) w) := by
  have hemax := hes.sl.max
  have hele := hes.sl.le
  unfold maxLen at hemax
  have HEN := hid hes.n
  have D := hid (fun W (hE : Es W ea en ec es) => vFold_call 0 none 0 0 [] ea en ec es W (As.nil _) hE)
  have D2 := hid (fun W (a : Option Addr) (n c : Nat) (hE : Es W a n c (es.filter (fun e => e.s = s))) => vFold_call 0 none 0 0 [] a n c (es.filter (fun e => e.s = s)) W (As.nil _) hE)
  have hlaw := Vw.fold_own (l := es) s
  have hlen : (Vw.fold Vw.none' es).err = 0 → es.length ≤ 150 := by
    intro h0
    obtain ⟨hg, he⟩ := Vw.fold_ok h0
    rw [he] at h0
    have := Vw.fo_good es Vw.none' 0 hg h0
    have h1 := this.2
    have h2 := this.1.hi
    rw [h1] at h2
    have : Vw.none'.upto = 0 := rfl
    omega
  change Hid (∀ W, Es W ea en ec es → Calls Try.prog 21 #[viVal 0 none 0 0, .slice ea en ec] W (FAns (Vw.fold Vw.none' es) W)) at D
  change Hid (∀ W (a : Option Addr) (n c : Nat), Es W a n c (es.filter (fun e => e.s = s)) → Calls Try.prog 21 #[viVal 0 none 0 0, .slice a n c] W (FAns (Vw.fold Vw.none' (es.filter (fun e => e.s = s))) W)) at D2
  generalize Vw.fold Vw.none' es = R at *
  generalize Vw.fold Vw.none' (es.filter (fun e => e.s = s)) = R' at *
  obtain ⟨⟨u2, l2⟩, er, at2⟩ := R
  obtain ⟨⟨u3, l3⟩, er3, at3⟩ := R'
  unfold viVal FAns viVal at D D2
  simp only at D D2 hlaw hlen
  replace hlaw := hid hlaw
  replace hlen := hid hlen
  go_enter Try.func6, Try.ntmps6
  go_wp2_with fail
  go_at_call 23; refine (alive7_call _).mono ?_; rintro e w1 ⟨rfl, b1⟩
  go_wp2_with fail
  go_at_call 21; refine (D.out _ (hes.below b1)).mono ?_; rintro e w2 ⟨a2, n2, c2, rfl, hA2, b2⟩
  replace b1 := bnext b1 b2
  clear b2 D
  by_cases her : er = 0
  · subst her
    obtain ⟨V, hV, x1, x2, hb2, hb3⟩ := two_new w w2 (.cells #[.int .i64 u2, .slice a2 n2 c2] 24) (.cells #[.int .i64 0, .int .i64 at2] 28) b1
    have hA3 := hA2.below hb3
    have HW2' := b1.size
    have hE3 := hes.below hb2
    clear hb3 hA2 b1
    have DN := hid (eNamed_call s hs V)
    replace hs := hid hs
    have y0 : V.cell? ⟨w2.heap.size + 1, 0, none⟩ = some (.int .i64 0) := blk_cell x2
    generalize hnm : Evt.named (Evt.lst s) = nm at DN
    cases nm
    · go_wp2_with fail
      clear hV
      go_at_call 24; refine DN.out.mono ?_; rintro e w3 ⟨rfl, rfl⟩
      go_wp2_with fail
      go_ret
      exact ⟨rfl, hb2⟩
    · go_wp2_with fail
      clear hV
      go_at_call 24; refine DN.out.mono ?_; rintro e w3 ⟨rfl, rfl⟩
      obtain ⟨LA, LB, LC⟩ := hlaw.out (by first | rfl | trivial)
      have hl150 := hlen.out (by first | rfl | trivial)
      rw [HEN.out] at hl150
      subst LA
      replace LB := hid LB
      replace LC := hid LC
      clear hlaw hlen DN hnm
      go_wp2_with fail
      go_loopg [7, 29] en (fun g o i wr => ∃ k : Nat, g = en - k ∧ k ≤ en ∧ i = .int .i64 (k : Int) ∧ OT V wr none V.heap.size 34 3 o ((es.take k).filter (fun e => e.s = s)).length (evCells ((es.take k).filter (fun e => e.s = s))))
      case atStart => exact ⟨0, rfl, by omega, rfl, OT.fresh (World.ownsRow_nil _ _ _ _) (Below.refl _ _) (Nat.le_refl _)⟩
      case round =>
        obtain ⟨k, rfl, hk, rfl, hO⟩ := hrel
        have hB : Below V.heap.size V wr := hO.belowOf (Nat.le_refl _) (fun k e => by cases e)
        by_cases hlt : k < en
        · have hkl : k < es.length := by rw [HEN.out]; exact hlt
          obtain ⟨b, off, rfl, _⟩ := hE3.sl.addr (by omega)
          obtain ⟨q0, q1, q2⟩ := (hE3.below hB).at k hkl
          have i0 : (0 : Int) ≤ (k : Int) := by omega
          have i1 : (k : Int) < (en : Int) := by omega
          have HF := hid (filt_step es s k hkl)
          have hL : ((es.take k).filter (fun e => e.s = s)).length ≤ 150 := Nat.le_trans (List.length_filter_le _ _) (by rw [List.length_take]; omega)
          generalize es[k] = e at *
          obtain ⟨t, m, c⟩ := e
          simp only at q0 q1 q2
          have hz := hB.size
          by_cases hts : t = s
          · have HF2 := hid (HF.out.trans (by rw [if_pos hts]))
            subst hts
            have e0 : (t == t) = true := by rw [ba_eq]; simp
            have e1 : (t.toList == t.toList) = true := by rw [str_list]; simp
            have hsrc : Src Try.prog 3 25 (.slice (some ⟨wr.heap.size + 1, 0, none⟩) 1 1) 1 [.string t, .int .i64 m, .int .i64 c] ((wr.alloc (.cells #[.string t, .int .i64 m, .int .i64 c] 34)).alloc (.cells #[.string t, .int .i64 m, .int .i64 c] 34)) := by
              have := Src.ofLit (P := Try.prog) (wr.alloc (.cells #[.string t, .int .i64 m, .int .i64 c] 34)) #[.string t, .int .i64 m, .int .i64 c] 34 1 3 Try.underlying25 rfl (by simp [Value.oneCell'])
              rwa [World.size_alloc] at this
            go_wp2_with (refine wpList_append_t rfl (.tmp 37) (.tmp 39) 25 25 rfl V.heap.size 34 3 32 (.agg #[.string ⟨#[]⟩, .int .i64 0, .int .i64 0]) Try.underlying25 info_evt rfl (by decide) _ _ _ rfl ((hO.alloc (.cells #[.string t, .int .i64 m, .int .i64 c] 34)).alloc (.cells #[.string t, .int .i64 m, .int .i64 c] 34)) (.slice (some ⟨wr.heap.size + 1, 0, none⟩) 1 1) 1 [.string t, .int .i64 m, .int .i64 c] rfl hsrc (by unfold maxLen; omega) (by omega) (by simp; omega) ?_; intro v5 w5 o5 g5)
            go_roundg (en - (k + 1))
            case measure => omega
            case rel =>
              refine ⟨k + 1, rfl, by omega, by go_num, ?_⟩
              rw [HF2.out, List.length_append, evCells_snoc]
              exact o5
          · have HF2 := hid (HF.out.trans (by rw [if_neg hts, List.append_nil]))
            have e0 : (t == s) = false := by rw [ba_eq, decide_eq_false hts]
            have e1 : (t.toList == s.toList) = false := by rw [str_list, decide_eq_false hts]
            clear hts
            go_wp2_with fail
            go_roundg (en - (k + 1))
            case measure => omega
            case rel => exact ⟨k + 1, rfl, by omega, by go_num, by rw [HF2.out]; exact hO.alloc _⟩
        · obtain rfl : k = en := by omega
          have htk : es.take k = es := List.take_of_length_le (by rw [HEN.out]; exact Nat.le_refl _)
          rw [htk] at hO
          obtain ⟨oa, oc, rfl, hsl⟩ := own_sl hO.own
          have hEO : Es wr oa (es.filter (fun e => e.s = s)).length oc (es.filter (fun e => e.s = s)) := ⟨hsl, fun e he => hes.ok e (List.mem_filter.1 he).1⟩
          have x1 := blk_below x1 hB
          have x2 := blk_below x2 hB
          have hA4 := hA3.below hB
          have hb4 := bnext hb2 hB
          clear htk hO hsl hA3 hE3 hB hb2 y0
          generalize hn3 : (es.filter (fun e => e.s = s)).length = n3 at *
          replace hn3 := hid hn3
          rename World => W5
          go_wp2_with fail
          go_at_call 21; refine (D2.out _ _ _ _ hEO).mono ?_; rintro e w6 ⟨a3, n3', c3, rfl, hA5, b6⟩
          have x1 := blk_below x1 b6
          have x2 := blk_below x2 b6
          have hA4 := hA4.below b6
          have hb4 := bnext hb4 b6
          have r0 : w6.cell? ⟨w2.heap.size + 1, 0, none⟩ = some (.int .i64 0) := blk_cell x2
          have r1 : w6.cell? ⟨w2.heap.size + 1, 1, none⟩ = some (.int .i64 at2) := blk_cell x2
          have r2 : w6.frozen? ⟨w2.heap.size + 1, 0, none⟩ = false := blk_free x2
          have r3 : w6.frozen? ⟨w2.heap.size + 1, 1, none⟩ = false := blk_free x2
          have z1 := blk_lt x2
          have HW2 : w.heap.size ≤ w2.heap.size + 1 := Nat.le_succ_of_le HW2'
          clear b6 D2 hEO
          go_upto_region 14 with (fail)
          have x1' : (((w6.setCell ⟨w2.heap.size + 1, 0, none⟩ (.int .i64 0)).setCell ⟨w2.heap.size + 1, 1, none⟩ (.int .i64 at3)).alloc (.cells #[.int .i64 u3, .slice a3 n3' c3] 24)).heap[w2.heap.size]? = some (.cells #[.int .i64 u2, .slice a2 n2 c2] 24 (0, 0)) := blk_old (blk_keep (blk_keep x1 (by omega) _) (by omega) _)
          have x2' : (((w6.setCell ⟨w2.heap.size + 1, 0, none⟩ (.int .i64 0)).setCell ⟨w2.heap.size + 1, 1, none⟩ (.int .i64 at3)).alloc (.cells #[.int .i64 u3, .slice a3 n3' c3] 24)).heap[w2.heap.size + 1]? = some (.cells #[.int .i64 0, .int .i64 at3] 28 (0, 0)) := blk_old (res_blk x2 _ _)
          have x3' : (((w6.setCell ⟨w2.heap.size + 1, 0, none⟩ (.int .i64 0)).setCell ⟨w2.heap.size + 1, 1, none⟩ (.int .i64 at3)).alloc (.cells #[.int .i64 u3, .slice a3 n3' c3] 24)).heap[w6.heap.size]? = some (.cells #[.int .i64 u3, .slice a3 n3' c3] 24 (0, 0)) := by
            have := blk_new ((w6.setCell ⟨w2.heap.size + 1, 0, none⟩ (.int .i64 0)).setCell ⟨w2.heap.size + 1, 1, none⟩ (.int .i64 at3)) (.cells #[.int .i64 u3, .slice a3 n3' c3] 24)
            simpa only [World.size_setCell] using this
          have hA4' := ((hA4.setTwo (i := 0) x2 (.int .i64 0)).setTwo (i := 1) (blk_set (i := 0) x2 _) (.int .i64 at3)).alloc (.cells #[.int .i64 u3, .slice a3 n3' c3] 24)
          have hA5' := ((hA5.setTwo (i := 0) x2 (.int .i64 0)).setTwo (i := 1) (blk_set (i := 0) x2 _) (.int .i64 at3)).alloc (.cells #[.int .i64 u3, .slice a3 n3' c3] 24)
          have hb5 : Below w.heap.size w (((w6.setCell ⟨w2.heap.size + 1, 0, none⟩ (.int .i64 0)).setCell ⟨w2.heap.size + 1, 1, none⟩ (.int .i64 at3)).alloc (.cells #[.int .i64 u3, .slice a3 n3' c3] 24)) := by
            have q := (hb4.setCell (p := ⟨w2.heap.size + 1, 0, none⟩) HW2 (.int .i64 0)).setCell (p := ⟨w2.heap.size + 1, 1, none⟩) HW2 (.int .i64 at3)
            exact q.alloc q.size _
          generalize (((w6.setCell ⟨w2.heap.size + 1, 0, none⟩ (.int .i64 0)).setCell ⟨w2.heap.size + 1, 1, none⟩ (.int .i64 at3)).alloc (.cells #[.int .i64 u3, .slice a3 n3' c3] 24)) = X at *
          clear hA4 hA5 hb4 r0 r1 r2 r3
          have G1 := hid (fun W (hW : As W a2 n2 c2 l2) => vGet_call u2 a2 n2 c2 l2 s W hW)
          have G2 := hid (fun W (hW : As W a3 n3' c3 l3) => vGet_call u3 a3 n3' c3 l3 s W hW)
          rw [← LB.out] at G2
          have LC := LC.out
          generalize Vw.get l2 s = A at *
          clear LB
          obtain ⟨t, m, c, o⟩ := A
          simp only at LC
          subst LC
          unfold viVal acVal at G1 G2
          simp only at G1 G2
          have GA := hid (show ∀ W, Below X.heap.size X W → Calls Try.prog 13 #[.agg #[.int .i64 u2, .slice a2 n2 c2], .string s] W (fun e w' => e = .returned (.agg #[.string t, .int .i64 m, .int .i64 (n3 : Int), .bool o]) ∧ Below X.heap.size X w' ∧ w'.cell? ⟨w2.heap.size + 1, 0, none⟩ = some (.int .i64 0) ∧ w'.cell? ⟨w2.heap.size, 0, none⟩ = some (.int .i64 u2) ∧ w'.cell? ⟨w2.heap.size, 1, none⟩ = some (.slice a2 n2 c2) ∧ w'.cell? ⟨w6.heap.size, 0, none⟩ = some (.int .i64 u3) ∧ w'.cell? ⟨w6.heap.size, 1, none⟩ = some (.slice a3 n3' c3)) from fun W hW =>
            (G1.out W (hA4'.below hW)).mono fun e w' ⟨h1, h2⟩ => ⟨h1, bnext hW h2, blk_cell (blk_below x2' (bnext hW h2)), blk_cell (blk_below x1' (bnext hW h2)), blk_cell (blk_below x1' (bnext hW h2)), blk_cell (blk_below x3' (bnext hW h2)), blk_cell (blk_below x3' (bnext hW h2))⟩)
          have GB := hid (show ∀ W, Below X.heap.size X W → Calls Try.prog 13 #[.agg #[.int .i64 u3, .slice a3 n3' c3], .string s] W (fun e w' => e = .returned (.agg #[.string t, .int .i64 m, .int .i64 (n3 : Int), .bool o]) ∧ Below X.heap.size X w' ∧ w'.cell? ⟨w2.heap.size + 1, 0, none⟩ = some (.int .i64 0) ∧ w'.cell? ⟨w2.heap.size, 0, none⟩ = some (.int .i64 u2) ∧ w'.cell? ⟨w2.heap.size, 1, none⟩ = some (.slice a2 n2 c2) ∧ w'.cell? ⟨w6.heap.size, 0, none⟩ = some (.int .i64 u3) ∧ w'.cell? ⟨w6.heap.size, 1, none⟩ = some (.slice a3 n3' c3)) from fun W hW =>
            (G2.out W (hA5'.below hW)).mono fun e w' ⟨h1, h2⟩ => ⟨h1, bnext hW h2, blk_cell (blk_below x2' (bnext hW h2)), blk_cell (blk_below x1' (bnext hW h2)), blk_cell (blk_below x1' (bnext hW h2)), blk_cell (blk_below x3' (bnext hW h2)), blk_cell (blk_below x3' (bnext hW h2))⟩)
          have GG := hid (show ∀ W (u : Int) (a : Option Addr) (n c : Nat), ((u = u2 ∧ a = a2 ∧ n = n2 ∧ c = c2) ∨ (u = u3 ∧ a = a3 ∧ n = n3' ∧ c = c3)) → Below X.heap.size X W → Calls Try.prog 13 #[.agg #[.int .i64 u, .slice a n c], .string s] W (fun e w' => e = .returned (.agg #[.string t, .int .i64 m, .int .i64 (n3 : Int), .bool o]) ∧ Below X.heap.size X w' ∧ w'.cell? ⟨w2.heap.size + 1, 0, none⟩ = some (.int .i64 0) ∧ w'.cell? ⟨w2.heap.size, 0, none⟩ = some (.int .i64 u2) ∧ w'.cell? ⟨w2.heap.size, 1, none⟩ = some (.slice a2 n2 c2) ∧ w'.cell? ⟨w6.heap.size, 0, none⟩ = some (.int .i64 u3) ∧ w'.cell? ⟨w6.heap.size, 1, none⟩ = some (.slice a3 n3' c3)) from fun W u a n c hh hW => by
            rcases hh with ⟨rfl, rfl, rfl, rfl⟩ | ⟨rfl, rfl, rfl, rfl⟩
            · exact GA.out W hW
            · exact GB.out W hW)
          have k0 : X.cell? ⟨w2.heap.size + 1, 0, none⟩ = some (.int .i64 0) := blk_cell x2'
          have k1 : X.cell? ⟨w2.heap.size, 0, none⟩ = some (.int .i64 u2) := blk_cell x1'
          have k2 : X.cell? ⟨w2.heap.size, 1, none⟩ = some (.slice a2 n2 c2) := blk_cell x1'
          have k3 : X.cell? ⟨w6.heap.size, 0, none⟩ = some (.int .i64 u3) := blk_cell x3'
          have k4 : X.cell? ⟨w6.heap.size, 1, none⟩ = some (.slice a3 n3' c3) := blk_cell x3'
          have e0 : (t == t) = true := by rw [ba_eq]; simp
          have e1 : (t.toList == t.toList) = true := by rw [str_list]; simp
          have f2 := ac_field2
          clear G1 G2 GA GB x1 x2 x1' x2' x3' hA4' hA5'
          go_region_held3 (fun w' => w'.cell? ⟨w2.heap.size + 1, 0, none⟩ = some (.int .i64 0) ∧ w'.cell? ⟨w2.heap.size, 0, none⟩ = some (.int .i64 u2) ∧ w'.cell? ⟨w2.heap.size, 1, none⟩ = some (.slice a2 n2 c2) ∧ w'.cell? ⟨w6.heap.size, 0, none⟩ = some (.int .i64 u3) ∧ w'.cell? ⟨w6.heap.size, 1, none⟩ = some (.slice a3 n3' c3))
            (first | exact ⟨g0, g1, g2, g3, g4⟩ | exact ⟨k0, k1, k2, k3, k4⟩ | go_keep)
            ((go_at_call 13; refine (GG.out _ _ _ _ _ (by first | exact .inl ⟨rfl, rfl, rfl, rfl⟩ | exact .inr ⟨rfl, rfl, rfl, rfl⟩) ?_).mono ?_; (repeat (first | assumption | exact Below.refl _ _ | refine below_drewN ?_ _ | refine Below.drew ?_)); rintro e w7 ⟨rfl, b7, g0, g1, g2, g3, g4⟩))
          all_goals (go_wp2_with fail; go_ret; exact ⟨rfl, hb5.trans (b7.mono hb5.size)⟩)
  · have t0 : (er != 0) = true := bne_iff_ne.2 her
    replace her := hid her
    go_wp2_with fail
    go_ret
    refine ⟨rfl, ?_⟩
    have := b1.alloc b1.size (.cells #[.int .i64 u2, .slice a2 n2 c2] 24)
    exact this.alloc this.size _

end Go.Proofs.Ytjdgfijpmljhiaa
