/- Joined, and what is not used struck: EventD. -/
import Derived.Test.YthhcdfjijagalaaM21
namespace Go.Proofs.Ythhcdfjijagalaa
open Go.RowKit
set_option linter.unusedVariables false
theorem Evt.bytesR_bad (bs : List Evt.Ba) (f k : Int) (h : ¬ 150 < bs.length) (h2 : Evt.fb bs 0 = (f, k)) (hf : f ≠ 0) : Evt.bytesR bs = ⟨[], f, k⟩ := by
  unfold Evt.bytesR; rw [if_neg h, h2, if_pos hf]
theorem Evt.bytesR_ok (bs : List Evt.Ba) (h : ¬ 150 < bs.length) (h2 : Evt.fb bs 0 = (0, 0)) : Evt.bytesR bs = ⟨Evt.bytes bs, 0, 0⟩ := by
  unfold Evt.bytesR; rw [if_neg h, h2, if_neg (by simp)]
theorem Evt.fb_step (bs : List Evt.Ba) (k : Nat) (b : Evt.Ba) (h : bs[k]? = some b) : Evt.fb (bs.drop k) k = if (Evt.wrongBa b).1 ≠ 0 then ((Evt.wrongBa b).1, (k : Int)) else Evt.fb (bs.drop (k + 1)) (k + 1) := by
  obtain ⟨hk, rfl⟩ := List.getElem?_eq_some_iff.1 h
  rw [List.drop_eq_getElem_cons hk]; rfl
theorem Evt.flat_step (bs : List Evt.Ba) (k : Nat) (b : Evt.Ba) (h : bs[k]? = some b) : (bs.take (k + 1)).flatMap Evt.baBytes = (bs.take k).flatMap Evt.baBytes ++ Evt.baBytes b := by
  obtain ⟨hk, rfl⟩ := List.getElem?_eq_some_iff.1 h
  rw [List.take_succ_eq_append_getElem hk, List.flatMap_append]; simp
theorem Evt.evflat_step (es : List Evt.Ev) (k : Nat) (h : k < es.length) : (es.take (k + 1)).flatMap Evt.evBytes = (es.take k).flatMap Evt.evBytes ++ Evt.evBytes es[k] := by
  rw [List.take_succ_eq_append_getElem h, List.flatMap_append]; simp
/-- a literal that was laid ahead of an append elsewhere -/
theorem lit_grown {w w' : World} {base : Nat} {e : TypeId} {sz n : Nat} {v : Value} {xs : List Value} (ho : w.ownsRow base e sz v n xs) (cs : Array Value) (l : List UInt8) (hl : l.length ≤ maxLen) (h : cs.toList = cb l) (hg : (w.alloc (.cells cs 5)).grownBy w' v.ownBlock) :
    Bt w' (some ⟨w.heap.size, 0, none⟩) l.length l.length l := by
  have h1 := lit_bt w cs l hl h
  refine ⟨h1.le, h1.max, h1.len, h1.nil, fun hn => ⟨w.heap.size, 0, rfl, fun j u hj => ?_⟩⟩
  obtain ⟨b, off, e1, hc⟩ := h1.addr hn
  cases e1
  have := hc j u hj
  exact hg.cell this (fun e2 => by have := (ho.lt _ e2.symm).2; simp at this)
/-- bytes of the call's own, and a fault -/
def BFRes (R : Evt.R) (w : World) (e : Ending) (w' : World) : Prop :=
  ∃ v, e = .returned (.tuple #[v, .agg #[.int .i64 R.err, .int .i64 R.at_]]) ∧ Below w.heap.size w w' ∧ w'.ownsRow w.heap.size 5 1 v R.l.length (cb R.l)
set_option maxRecDepth 100000 in
set_option maxHeartbeats 2000000 in
theorem eBytes_call (a : Option Addr) (n cap : Nat) (l : List Rb) (w : World) (h : Bs w a n cap l) : Calls Try.prog 74 #[.slice a n cap] w (BFRes (Evt.bytesR (l.map Rb.ba)) w) := by
  have hmax := h.sl.max
  have hle := h.sl.le
  unfold maxLen at hmax
  have HN := hid h.n
  by_cases hc : 150 < n
  · have HC := hid (show Evt.bytesR (l.map Rb.ba) = ⟨[], 5, 0⟩ by unfold Evt.bytesR; rw [if_pos (by rw [List.length_map, HN.out]; exact hc)])
    rw [HC.out]
    go_enter Try.func74, Try.ntmps74
    go_wp2
    exact bodyPost_ret (v := .tuple #[.slice none 0 0, .agg #[.int .i64 5, .int .i64 0]]) (by simp [results, Try.results74, go_sem]) rfl ⟨_, rfl, (Below.refl _ _).alloc (Nat.le_refl _) _, World.ownsRow_nil _ _ _ _⟩
  · go_enter Try.func74, Try.ntmps74
    go_wp2
    go_loopg [4, 5, 6, 7, 9, 20] n (fun g o s5 s6 s7 s9 i wr => ∃ (L : List UInt8) (k : Nat), g = n - k ∧ k ≤ n ∧ i = .int .i64 k ∧ Hid (L = UInt8.ofNat n :: ((l.map Rb.ba).take k).flatMap Evt.baBytes) ∧ L.length ≤ 1 + 160 * k ∧ OB w wr none w.heap.size o L ∧ wr.heap[w.heap.size]? = some (.cells #[.int .i64 0, .int .i64 0] 69 (0, 0)) ∧ Hid (Evt.fb (l.map Rb.ba) 0 = Evt.fb ((l.map Rb.ba).drop k) k))
    case atStart =>
      have e := OB.lit ((Below.refl w.heap.size w).alloc (Nat.le_refl _) (.cells #[.int .i64 0, .int .i64 0] 69)) #[.int .u8 (n : Int)] [UInt8.ofNat n] (by simp [maxLen]) (by simp [cb]; omega)
      rw [World.size_alloc] at e
      exact ⟨[UInt8.ofNat n], 0, rfl, by omega, rfl, hid (by simp), by simp, e, blk_old (blk_new w _), hid (by simp)⟩
    case round =>
      obtain ⟨L, k, rfl, hk, rfl, HL, hL, hO, hF, HB⟩ := hrel
      have hbw : Below w.heap.size w wr := hO.belowOf (Nat.le_refl _) (fun k h => by cases h)
      have hsz := hbw.size
      by_cases hlt : k < n
      · have hkl : k < l.length := by rw [HN.out]; exact hlt
        obtain ⟨b, off, rfl, _⟩ := h.sl.addr (by omega)
        obtain ⟨q0, q1, hE⟩ := (h.below hbw).at k hkl
        have hEw := (h.at k hkl).2.2
        generalize hr : l[k] = r at *
        obtain ⟨c, ea, en, ec, evs⟩ := r
        simp only at q0 q1 hE hEw
        have HEw := hid hEw
        clear hEw
        have HR := hid hr
        clear hr
        have D := hid (fun W (hE : Es W ea en ec evs) => eWrongBatch_call c ea en ec evs W hE)
        go_wp2_with fail
        go_at_call 52; refine (D.out _ (hE.alloc _)).mono ?_; rintro e w1 ⟨rfl, b1⟩
        have hO1 := (hO.alloc (.cells #[.int .i64 c, .slice ea en ec] 27)).below b1
        have hF1 := blk_below (blk_old (o' := .cells #[.int .i64 c, .slice ea en ec] 27) hF) b1
        have hX1 := blk_below (blk_new wr (.cells #[.int .i64 c, .slice ea en ec] 27)) b1
        have hE1 := (hE.alloc (.cells #[.int .i64 c, .slice ea en ec] 27)).below b1
        have hbw1 := hO1.belowOf (Nat.le_refl _) (fun k h => by cases h)
        have hzF := blk_lt hF1
        have hzX := blk_lt hX1
        clear b1 hO hF hE hbw D q0 q1
        unfold fVal
        obtain ⟨f1, hf1⟩ : ∃ f1, (Evt.wrongBa ⟨c, evs⟩).1 = f1 := ⟨_, rfl⟩
        rw [hf1]
        generalize (Evt.wrongBa ⟨c, evs⟩).2 = f2
        by_cases hz : f1 = 0
        · have HF := hid (hf1.trans hz)
          subst hz
          clear hf1
          have x0 : w1.cell? ⟨wr.heap.size, 0, none⟩ = some (.int .i64 c) := blk_cell hX1
          have x1 : w1.cell? ⟨wr.heap.size, 1, none⟩ = some (.slice ea en ec) := blk_cell hX1
          have HV := hid (Evt.wrongBa_zero HF.out)
          obtain ⟨hv1, hv2, hv3, hv4, hv5⟩ := Evt.wrongBa_zero HF.out
          have HE := hid hE1.n
          simp only at hv1 hv2 hv3 hv4 hv5
          rw [HE.out] at hv3 hv4
          obtain ⟨c, rfl⟩ := Int.eq_ofNat_of_zero_le (a := c) (by omega)
          have hcN : c < 16777216 := by omega
          have hle1 : L.length ≤ 24001 := by omega
          have HV5 := hid hv5
          clear hv5
          have hXa := blk_old (o' := .cells #[.int .i64 0, .int .i64 f2] 69) hX1
          have hFa := blk_old (o' := .cells #[.int .i64 0, .int .i64 f2] 69) hF1
          have hOa := hO1.alloc (.cells #[.int .i64 0, .int .i64 f2] 69)
          have hcb := hid (show (#[Value.int .u8 (en : Int)] : Array Value).toList = cb [UInt8.ofNat en] by simp [cb]; omega)
          go_wp2_with fail
          have hwr : IntKind.u8.wrap (en : Int) = (en : Int) := IntWalk.u8_in _ (by omega)
          go_cut [4] (fun o wc => OB w wc none w.heap.size o (L ++ Evt.three c ++ [UInt8.ofNat en]) ∧ wc.heap[wr.heap.size]? = some (.cells #[.int .i64 (c : Int), .slice ea en ec] 27 (0, 0)) ∧ wc.heap[w.heap.size]? = some (.cells #[.int .i64 0, .int .i64 0] 69 (0, 0)))
          case first =>
            go_region_held3 (fun w' => w'.cell? ⟨wr.heap.size, 0, none⟩ = some (.int .i64 (c : Int)) ∧ w'.cell? ⟨wr.heap.size, 1, none⟩ = some (.slice ea en ec)) (first | exact ⟨k50, k51⟩ | exact ⟨k40, k41⟩ | go_keep)
              (first
                | (go_at_call 88; refine (eput_call w _ none w.heap.size _ L c hOa.drew ?_ hcN (by omega)).mono ?_; (simp; omega); rintro e w4 ⟨v4, rfl, o4, g4⟩; have hX4 := grown_other hOa.drew.own g4 hXa (by decide); have hF4 := grown_other hOa.drew.own g4 hFa (by decide); have k40 : w4.cell? ⟨wr.heap.size, 0, none⟩ = some (.int .i64 (c : Int)) := blk_cell hX4; have k41 : w4.cell? ⟨wr.heap.size, 1, none⟩ = some (.slice ea en ec) := blk_cell hX4)
                | (go_at_call 88; refine (eput_call w _ none w.heap.size _ L c (hOa.alloc (.cells #[.int .u8 (en : Int)] 5)).drew ?_ hcN (by omega)).mono ?_; (simp; omega); rintro e w4 ⟨v4, rfl, o4, g4⟩; have hlit := lit_grown hOa.drew.own #[.int .u8 (en : Int)] [UInt8.ofNat en] (by simp [maxLen]) hcb.out g4; have hX4 := grown_other (hOa.alloc (.cells #[.int .u8 (en : Int)] 5)).drew.own g4 (blk_old hXa) (by decide); have hF4 := grown_other (hOa.alloc (.cells #[.int .u8 (en : Int)] 5)).drew.own g4 (blk_old hFa) (by decide); have k40 : w4.cell? ⟨wr.heap.size, 0, none⟩ = some (.int .i64 (c : Int)) := blk_cell hX4; have k41 : w4.cell? ⟨wr.heap.size, 1, none⟩ = some (.slice ea en ec) := blk_cell hX4)
                | (refine step_append_ob rfl (.tmp 37) (.tmp 42) rfl w.heap.size _ (L ++ Evt.three c) [UInt8.ofNat en] rfl (o4.alloc (.cells #[.int .u8 (en : Int)] 5)) (some ⟨w4.heap.size, 0, none⟩) 1 1 rfl (lit_bt w4 #[.int .u8 (en : Int)] [UInt8.ofNat en] (by simp [maxLen]) hcb.out) (by simp [Evt.three]; omega) (by have := o4.grown.size; simp; omega) ?_; intro v5 w5 o5 g5; have hX5 := grown_other (o4.alloc (.cells #[.int .u8 (en : Int)] 5)).own g5 (blk_old hX4) (by decide); have hF5 := grown_other (o4.alloc (.cells #[.int .u8 (en : Int)] 5)).own g5 (blk_old hF4) (by decide); have k50 : w5.cell? ⟨wr.heap.size, 0, none⟩ = some (.int .i64 (c : Int)) := blk_cell hX5; have k51 : w5.cell? ⟨wr.heap.size, 1, none⟩ = some (.slice ea en ec) := blk_cell hX5)
                | (refine step_append_ob rfl (.tmp 37) (.tmp 42) rfl w.heap.size _ (L ++ Evt.three c) [UInt8.ofNat en] rfl o4 (some ⟨w1.heap.size + 1, 0, none⟩) 1 1 rfl (by simpa using hlit) (by simp [Evt.three]; omega) (by have := o4.grown.size; omega) ?_; intro v5 w5 o5 g5; have hX5 := grown_other o4.own g5 hX4 (by decide); have hF5 := grown_other o4.own g5 hF4 (by decide); have k50 : w5.cell? ⟨wr.heap.size, 0, none⟩ = some (.int .i64 (c : Int)) := blk_cell hX5; have k51 : w5.cell? ⟨wr.heap.size, 1, none⟩ = some (.slice ea en ec) := blk_cell hX5))
            all_goals (go_wp2_with fail; go_meet)
            all_goals exact ⟨o5, hX5, hF5⟩
          case rest =>
            clear hwr hOa hXa hFa hO1 hX1 hF1 x0 x1 hbw1
            obtain ⟨hOc, hXc, hFc⟩ := hcut
            have y1 : wc.cell? ⟨wr.heap.size, 1, none⟩ = some (.slice ea en ec) := blk_cell hXc
            have hzc := hOc.grown.size
            go_wp2
            go_loopg [4, 9, 47] en (fun g o s9 i W => ∃ (M : List UInt8) (j : Nat), g = en - j ∧ j ≤ en ∧ i = .int .i64 j ∧ Hid (M = L ++ Evt.three c ++ [UInt8.ofNat en] ++ (evs.take j).flatMap Evt.evBytes) ∧ M.length ≤ L.length + 4 + 15 * j ∧ OB w W none w.heap.size o M ∧ W.heap[w.heap.size]? = some (.cells #[.int .i64 0, .int .i64 0] 69 (0, 0)))
            case atStart => exact ⟨_, 0, rfl, by omega, rfl, hid (by simp), by simp [Evt.three], hOc, hFc⟩
            case round =>
              obtain ⟨M, j, rfl, hj, rfl, HM, hM, hOW, hFW⟩ := hrel
              clear hOc hXc hFc y1
              rename_i W
              have hbW := hOW.belowOf (Nat.le_refl _) (fun k h => by cases h)
              have hzW := blk_lt hFW
              by_cases hje : j < en
              · have hjl : j < evs.length := by rw [HE.out]; exact hje
                obtain ⟨bb, boff, rfl, _⟩ := HEw.out.sl.addr (by omega)
                obtain ⟨q0, q1, q2⟩ := (HEw.out.below hbW).at j hjl
                have hw0 := HV5.out _ (List.getElem_mem hjl)
                obtain ⟨u1, u2, u3, u4, u5⟩ := Evt.wrongEv_zero hw0
                have u6 := Evt.named_len u1
                rw [Evt.lst_length] at u6
                have HS := hid (Evt.evflat_step evs j hjl)
                generalize evs[j] = ev at *
                clear u1 hw0
                obtain ⟨s, ke, ne⟩ := ev
                simp only at u2 u3 u4 u5 u6 q0 q1 q2
                obtain ⟨ke, rfl⟩ := Int.eq_ofNat_of_zero_le (a := ke) (by omega)
                obtain ⟨ne, rfl⟩ := Int.eq_ofNat_of_zero_le (a := ne) (by omega)
                have hO1 := hOW.alloc (.cells #[.string s, .int .i64 (ke : Int), .int .i64 (ne : Int)] 32)
                have hF1 := blk_old (o' := .cells #[.string s, .int .i64 (ke : Int), .int .i64 (ne : Int)] 32) hFW
                have hX1 := blk_new wr (.cells #[.string s, .int .i64 (ke : Int), .int .i64 (ne : Int)] 32)
                have hcb1 := hid (show (#[Value.int .u8 (s.size : Int)] : Array Value).toList = cb [UInt8.ofNat s.size] by simp [cb]; omega)
                have hl1 : Bt ((wr.alloc (.cells #[.string s, .int .i64 (ke : Int), .int .i64 (ne : Int)] 32)).alloc (.cells #[.int .u8 (s.size : Int)] 5)) (some ⟨wr.heap.size + 1, 0, none⟩) 1 1 [UInt8.ofNat s.size] := by
                  have := lit_bt (wr.alloc (.cells #[.string s, .int .i64 (ke : Int), .int .i64 (ne : Int)] 32)) #[.int .u8 (s.size : Int)] [UInt8.ofNat s.size] (by simp [maxLen]) hcb1.out
                  rw [World.size_alloc] at this; exact this
                have hwr : IntKind.u8.wrap (s.size : Int) = (s.size : Int) := IntWalk.u8_in _ (by omega)
                have hwk : IntKind.u8.wrap (ke : Int) = (ke : Int) := IntWalk.u8_in _ (by omega)
                have hM2 : M.length ≤ 25000 := by omega
                have hsl : s.data.toList.length = s.size := by simp
                have HSL := hid hsl
                clear hsl
                go_wp2_with fail
                go_region_held3 (fun w' => w'.cell? ⟨wr.heap.size, 0, none⟩ = some (.string s)) (first | exact k5 | exact k4 | go_keep)
                  (first
                    | (refine step_append_ob rfl (.tmp 51) (.tmp 56) rfl w.heap.size _ M [UInt8.ofNat s.size] rfl (hO1.alloc (.cells #[.int .u8 (s.size : Int)] 5)).drew (some ⟨wr.heap.size + 1, 0, none⟩) 1 1 rfl (Sl.drewN hl1 1) (by simp; omega) (by simp; omega) ?_; intro v4 w4 o4 g4; have hX4 := grown_other (hO1.alloc (.cells #[.int .u8 (s.size : Int)] 5)).drew.own g4 (blk_old hX1) (by decide); have hF4 := grown_other (hO1.alloc (.cells #[.int .u8 (s.size : Int)] 5)).drew.own g4 (blk_old hF1) (by decide); have k4 : w4.cell? ⟨wr.heap.size, 0, none⟩ = some (.string s) := blk_cell hX4)
                    | (refine step_append_os rfl (.tmp 57) (.tmp 59) rfl w.heap.size _ (M ++ [UInt8.ofNat s.size]) rfl o4 s rfl (by simp; omega) (by have := o4.grown.size; omega) ?_; intro v5 w5 o5 g5; have hX5 := grown_other o4.own g5 hX4 (by decide); have hF5 := grown_other o4.own g5 hF4 (by decide); have k5 : w5.cell? ⟨wr.heap.size, 0, none⟩ = some (.string s) := blk_cell hX5))
                have x1 : w5.cell? ⟨wr.heap.size, 1, none⟩ = some (.int .i64 (ke : Int)) := blk_cell hX5
                have x2 : w5.cell? ⟨wr.heap.size, 2, none⟩ = some (.int .i64 (ne : Int)) := blk_cell hX5
                clear hX4 hF4 k4 k5
                have hcb2 := hid (show (#[Value.int .u8 (ke : Int)] : Array Value).toList = cb [UInt8.ofNat ke] by simp [cb]; omega)
                go_wp2_with fail
                go_region_held3 (fun w' => w'.cell? ⟨wr.heap.size, 1, none⟩ = some (.int .i64 (ke : Int)) ∧ w'.cell? ⟨wr.heap.size, 2, none⟩ = some (.int .i64 (ne : Int))) (first | exact ⟨k71, k72⟩ | exact ⟨k61, k62⟩ | go_keep)
                  (first
                    | (refine step_append_ob rfl (.tmp 61) (.tmp 65) rfl w.heap.size _ (M ++ [UInt8.ofNat s.size] ++ s.data.toList) [UInt8.ofNat ke] rfl (o5.alloc (.cells #[.int .u8 (ke : Int)] 5)).drew (some ⟨w5.heap.size, 0, none⟩) 1 1 rfl (Sl.drewN (lit_bt w5 #[.int .u8 (ke : Int)] [UInt8.ofNat ke] (by simp [maxLen]) hcb2.out) 1) (by rw [List.length_append, List.length_append, HSL.out]; simp; omega) (by have := o5.grown.size; simp; omega) ?_; intro v6 w6 o6 g6; have hX6 := grown_other (o5.alloc (.cells #[.int .u8 (ke : Int)] 5)).drew.own g6 (blk_old hX5) (by decide); have hF6 := grown_other (o5.alloc (.cells #[.int .u8 (ke : Int)] 5)).drew.own g6 (blk_old hF5) (by decide); have k61 : w6.cell? ⟨wr.heap.size, 1, none⟩ = some (.int .i64 (ke : Int)) := blk_cell hX6; have k62 : w6.cell? ⟨wr.heap.size, 2, none⟩ = some (.int .i64 (ne : Int)) := blk_cell hX6)
                    | (go_at_call 88; refine (eput_call w _ none w.heap.size _ (M ++ [UInt8.ofNat s.size] ++ s.data.toList ++ [UInt8.ofNat ke]) ne o6 ?_ (by omega) (by rw [List.length_append, List.length_append, List.length_append, HSL.out]; simp; omega)).mono ?_; (have := o6.grown.size; omega); rintro e w7 ⟨v7, rfl, o7, g7⟩; have hX7 := grown_other o6.own g7 hX6 (by decide); have hF7 := grown_other o6.own g7 hF6 (by decide); have k71 : w7.cell? ⟨wr.heap.size, 1, none⟩ = some (.int .i64 (ke : Int)) := blk_cell hX7; have k72 : w7.cell? ⟨wr.heap.size, 2, none⟩ = some (.int .i64 (ne : Int)) := blk_cell hX7))
                clear hX6 hF6 k61 k62 k71 k72 x1 x2 hwr hwk
                go_wp2_with fail
                go_roundg (en - (j + 1))
                case measure => omega
                case rel =>
                  refine ⟨_, j + 1, rfl, by omega, by go_num, hid ?_, ?_, o7, hF7⟩
                  · rw [HM.out, HS.out]; unfold Evt.evBytes Evt.lst; simp [HSL.out]
                  · rw [List.length_append, List.length_append, List.length_append, List.length_append, HSL.out]; simp [Evt.three]; omega
              · obtain rfl : j = en := by omega
                have HW := hid (Evt.flat_step (l.map Rb.ba) k ⟨c, evs⟩ (by rw [List.getElem?_map, List.getElem?_eq_getElem hkl, HR.out]; rfl))
                have HP := hid (Evt.fb_step (l.map Rb.ba) k ⟨c, evs⟩ (by rw [List.getElem?_map, List.getElem?_eq_getElem hkl, HR.out]; rfl))
                go_wp2_with fail
                go_roundg (n - (k + 1))
                case measure => omega
                case rel =>
                  refine ⟨M, k + 1, rfl, by omega, by go_num, hid ?_, by omega, hOW, hFW, hid ?_⟩
                  · rw [HM.out, HW.out, HL.out, List.take_of_length_le (l := evs) (by rw [HE.out]; exact Nat.le_refl _)]; unfold Evt.baBytes; simp [HE.out]
                  · rw [HB.out, HP.out, if_neg (fun h => h HF.out)]
        · have t0 : (f1 != 0) = true := by rw [bne_iff_ne]; exact hz
          have hG := hid (show Evt.bytesR (l.map Rb.ba) = ⟨[], f1, (k : Int)⟩ from by
            refine Evt.bytesR_bad _ _ _ (by rw [List.length_map, HN.out]; exact hc) ?_ hz
            have := Evt.fb_step (l.map Rb.ba) k ⟨c, evs⟩ (by rw [List.getElem?_map, List.getElem?_eq_getElem hkl, HR.out]; rfl)
            rw [HB.out, this, hf1, if_pos hz])
          clear hz hf1 HB HL
          have r0 : w1.cell? ⟨w.heap.size, 0, none⟩ = some (.int .i64 0) := blk_cell hF1
          have r1 : w1.cell? ⟨w.heap.size, 1, none⟩ = some (.int .i64 0) := blk_cell hF1
          have rf0 : w1.frozen? ⟨w.heap.size, 0, none⟩ = false := blk_free hF1
          have rf1 : w1.frozen? ⟨w.heap.size, 1, none⟩ = false := blk_free hF1
          go_wp2_with fail
          go_region_held3 (fun w' => w'.cell? ⟨w1.heap.size, 0, none⟩ = some (.int .i64 f1)) (first | exact cell_atD (by simp) _ _ _ | go_keep) (first | fail)
          go_wp2
          have e0 : (((w1.setCell ⟨w.heap.size, 0, none⟩ (.int .i64 f1)).setCell ⟨w.heap.size, 1, none⟩ (.int .i64 (k : Int))).alloc (.cells #[.int .i64 f1, .int .i64 f2] 69)).cell? ⟨w.heap.size, 0, none⟩ = some (.int .i64 f1) := by
            have e : ((w1.setCell ⟨w.heap.size, 0, none⟩ (.int .i64 f1)).setCell ⟨w.heap.size, 1, none⟩ (.int .i64 (k : Int))).cell? ⟨w.heap.size, 0, none⟩ = some (.int .i64 f1) := by simp [go_sem, r0]
            refine Eq.trans (cell_old ?_) e
            simp only [World.size_setCell]; exact hzF
          have e1 : (((w1.setCell ⟨w.heap.size, 0, none⟩ (.int .i64 f1)).setCell ⟨w.heap.size, 1, none⟩ (.int .i64 (k : Int))).alloc (.cells #[.int .i64 f1, .int .i64 f2] 69)).cell? ⟨w.heap.size, 1, none⟩ = some (.int .i64 (k : Int)) := by
            have e : ((w1.setCell ⟨w.heap.size, 0, none⟩ (.int .i64 f1)).setCell ⟨w.heap.size, 1, none⟩ (.int .i64 (k : Int))).cell? ⟨w.heap.size, 1, none⟩ = some (.int .i64 (k : Int)) := by simp [go_sem, r1]
            refine Eq.trans (cell_old ?_) e
            simp only [World.size_setCell]; exact hzF
          refine bodyPost_ret (v := .tuple #[.slice none 0 0, .agg #[.int .i64 f1, .int .i64 (k : Int)]]) (by simp [results, Try.results74, go_sem, e0, e1]) rfl ⟨_, by rw [hG.out], (((hbw1.setCell (by simp) _).setCell (by simp) _).alloc (by simp; omega) _).drew, ?_⟩
          rw [hG.out]; exact World.ownsRow_nil _ _ _ _
      · obtain rfl : k = n := by omega
        have hR := hid (show Evt.bytesR (l.map Rb.ba) = ⟨Evt.bytes (l.map Rb.ba), 0, 0⟩ from Evt.bytesR_ok _ (by rw [List.length_map, HN.out]; exact hc) (by rw [HB.out, List.drop_of_length_le (by rw [List.length_map, HN.out]; exact Nat.le_refl _)]; rfl))
        have r0 : wr.cell? ⟨w.heap.size, 0, none⟩ = some (.int .i64 0) := blk_cell hF
        have r1 : wr.cell? ⟨w.heap.size, 1, none⟩ = some (.int .i64 0) := blk_cell hF
        have rf0 : wr.frozen? ⟨w.heap.size, 0, none⟩ = false := blk_free hF
        have rf1 : wr.frozen? ⟨w.heap.size, 1, none⟩ = false := blk_free hF
        have hne := own_blk_ne hO.own hF (by decide)
        go_wp2_with fail
        refine bodyPost_ret (v := .tuple #[_, .agg #[.int .i64 0, .int .i64 0]]) (by simp [results, Try.results74, go_sem, r0, r1]; rfl) rfl ⟨_, by rw [hR.out], (hbw.setCell (by simp) _).setCell (by simp) _, ?_⟩
        rw [hR.out]
        have e : L = Evt.bytes (l.map Rb.ba) := by
          rw [HL.out, List.take_of_length_le (by rw [List.length_map, HN.out]; exact Nat.le_refl _)]
          unfold Evt.bytes; rw [List.length_map, HN.out]
        rw [← e]
        exact ownsRow_setCell_other (ownsRow_setCell_other hO.own hne _) hne _
end Go.Proofs.Ythhcdfjijagalaa
