/- Contract of the reference's Bytes: it returns what the plain laws say. -/
import Derived.Test.YtkngfobnfocpjaaEventH
import Derived.Test.YtkngfobnfocpjaaEventD
namespace Go.Proofs.Ytkngfobnfocpjaa
open Go.RowKit
set_option linter.unusedVariables false

theorem Evt.three_list (x : Nat) (h : x < 16777216) : (#[.int .u8 ((x : Int) / 65536), .int .u8 ((x : Int) / 256 % 256), .int .u8 ((x : Int) % 256)] : Array Value).toList = cb (Evt.three x) := by
  rw [cb_ints _ (Evt.three_cells x h)]; rfl
section
variable {ops : Array Oper} {o : Oper} {a : Act} {Q : Exit → Act → World → Prop} {K : Act → World → Prop} {E : Prop} {w w0 : World} {row : Option Nat}
theorem step_append_s2 (hgd : o.guard = none) (s xo : Operand) (tx : TypeId) (ho : o.op = .call { callee := .builtin .append, args := #[s, xo], argTypes := #[30, tx] })
    (base : Nat) (v : Value) (l m : List UInt8) (hs : a.eval s = v) (hown : OB w0 w row base v l) (x : Value) (hxe : a.eval xo = x) (hx : Src Try.prog 1 tx x m.length (cb m) w)
    (hlen : l.length + m.length ≤ 140737488355328) (hbase : base ≤ w.heap.size)
    (h : ∀ v' w', OB w0 w' row base v' (l ++ m) → w.grownBy w' v.ownBlock → (v'.ownBlock = v.ownBlock ∨ v'.ownBlock = some w.heap.size) → K (a.put o.dst v') w') : if Region.wanted o (yielded ops a.tmps) = true then Oper.wp Try.prog o a w K Q else E := by
  have hw : Region.wanted o (yielded ops a.tmps) = true := by simp [Region.wanted, hgd]
  rw [if_pos hw]
  obtain ⟨i, hi, hz, h1, h2⟩ := info_parts1 info_u8
  obtain ⟨v', w', hr, h3, h4, h5⟩ := run_append_lies_src (P := Try.prog) w base 30 tx o.type 5 i (.int .u8 0) 1 1 Try.underlying30 hi hz h1 h2 rfl (by decide) v l.length (cb l) hown.own x m.length (cb m) hx (by unfold maxLen; omega) (by omega) hbase
  unfold Oper.wp execOp
  simp only [ho, resolve, invoke, builtin, Sem.run_bind, Sem.run_pure, Result.andThen_ok, List.map_toArray, List.map_cons, List.map_nil, hs, hxe, hr]
  refine h v' w' (hown.more (by rw [List.length_append, cb_append]; exact h3) h4 (by
    rcases h5 with h5 | h5
    · exact .inl h5
    · exact .inr fun k hk => by rw [h5] at hk; cases hk; exact Nat.le_refl _)) h4 h5
theorem step_append_ob2 (hgd : o.guard = none) (s xo : Operand) (ho : o.op = .call { callee := .builtin .append, args := #[s, xo], argTypes := #[30, 30] })
    (base : Nat) (v : Value) (l m : List UInt8) (hs : a.eval s = v) (hown : OB w0 w row base v l) (xa : Option Addr) (xn xc : Nat) (hxe : a.eval xo = .slice xa xn xc) (hx : Bt w xa xn xc m)
    (hlen : l.length + m.length ≤ 140737488355328) (hbase : base ≤ w.heap.size)
    (h : ∀ v' w', OB w0 w' row base v' (l ++ m) → w.grownBy w' v.ownBlock → (v'.ownBlock = v.ownBlock ∨ v'.ownBlock = some w.heap.size) → K (a.put o.dst v') w') : if Region.wanted o (yielded ops a.tmps) = true then Oper.wp Try.prog o a w K Q else E := by
  have hn := Bt.n hx
  exact step_append_s2 hgd s xo 30 ho base v l m hs hown _ hxe (by rw [hn]; exact Sl.src hx Try.underlying30 (cb_one m)) hlen hbase h
end
theorem src_str (W : World) (s : ByteArray) : Src Try.prog 1 9 (.string s) s.data.toList.length (cb s.data.toList) W := by
  have e : s.data.toList.length = s.size := by simp
  rw [e]; exact Src.ofString W Try.underlying9 s
/-- Where the rounds of Bytes stand inside a region: the row, the box of what is written, the box of the fault. -/
structure Rg (w W : World) (v : Value) (l : List UInt8) (X : Nat) (cs : Array Value) (t : TypeId) : Prop where
  ob : OB w W none w.heap.size v l
  blk : W.heap[X]? = some (.cells cs t (0, 0))
  flt : W.heap[w.heap.size]? = some (.cells #[.int .i64 0, .int .i64 0] 54 (0, 0))
  ne : 5 ≠ t
theorem Rg.cell {w W : World} {v : Value} {l : List UInt8} {X : Nat} {cs : Array Value} {t : TypeId} (h : Rg w W v l X cs t) (i : Nat) : W.cell? ⟨X, i, none⟩ = cs[i]? := blk_cell h.blk
theorem Rg.size {w W : World} {v : Value} {l : List UInt8} {X : Nat} {cs : Array Value} {t : TypeId} (h : Rg w W v l X cs t) : w.heap.size ≤ W.heap.size := h.ob.grown.size
theorem Rg.alloc {w W : World} {v : Value} {l : List UInt8} {X : Nat} {cs : Array Value} {t : TypeId} (h : Rg w W v l X cs t) (o : Obj) : Rg w (W.alloc o) v l X cs t := ⟨OT.alloc h.ob o, blk_old h.blk, blk_old h.flt, h.ne⟩
theorem Rg.drew {w W : World} {v : Value} {l : List UInt8} {X : Nat} {cs : Array Value} {t : TypeId} (h : Rg w W v l X cs t) : Rg w W.drew v l X cs t := ⟨OT.drew h.ob, h.blk, h.flt, h.ne⟩
theorem Rg.app {w W W' : World} {v v' : Value} {l l' : List UInt8} {X : Nat} {cs : Array Value} {t : TypeId} (h : Rg w W v l X cs t) (o : OB w W' none w.heap.size v' l') (g : W.grownBy W' v.ownBlock) : Rg w W' v' l' X cs t :=
  ⟨o, grown_other h.ob.own g h.blk h.ne, grown_other h.ob.own g h.flt (by decide), h.ne⟩
/-- A literal of bytes that lies apart from the row v. -/
structure Lt (W : World) (v : Value) (b : Nat) (cs : Array Value) : Prop where
  blk : W.heap[b]? = some (.cells cs 5 (0, 0))
  ne : v.ownBlock ≠ some b
theorem Lt.new' {w W : World} {row : Option Nat} {base b : Nat} {v : Value} {l : List UInt8} (h : OB w W row base v l) (cs : Array Value) (hb : W.heap.size = b) : Lt (W.alloc (.cells cs 5)) v b cs := by
  subst hb
  exact ⟨blk_new W _, fun e => by have := (h.own.lt _ e).2; omega⟩
theorem Lt.alloc {W : World} {v : Value} {b : Nat} {cs : Array Value} (h : Lt W v b cs) (o : Obj) : Lt (W.alloc o) v b cs := ⟨blk_old h.blk, h.ne⟩
theorem Lt.drew {W : World} {v : Value} {b : Nat} {cs : Array Value} (h : Lt W v b cs) : Lt W.drew v b cs := ⟨h.blk, h.ne⟩
theorem Lt.app {W W' : World} {v v' : Value} {b : Nat} {cs : Array Value} (h : Lt W v b cs) (g : W.grownBy W' v.ownBlock) (l : v'.ownBlock = v.ownBlock ∨ v'.ownBlock = some W.heap.size) : Lt W' v' b cs := by
  have hb := blk_lt h.blk
  refine ⟨by rw [g.block b hb (fun e => h.ne e.symm)]; exact h.blk, fun e => ?_⟩
  rcases l with l | l
  · exact h.ne (l ▸ e)
  · rw [l] at e; have : W.heap.size = b := by simpa using e
    omega
theorem Lt.bt {W : World} {v : Value} {b : Nat} {cs : Array Value} {l : List UInt8} (h : Lt W v b cs) (hl : cs.toList = cb l) (hm : l.length ≤ maxLen := by simp [maxLen, Evt.three]) : Bt W (some ⟨b, 0, none⟩) l.length l.length l :=
  ⟨Nat.le_refl _, hm, by rw [cb_length, Nat.mul_one], (fun e => by cases e), fun _ => ⟨b, 0, rfl, fun j u hj => by rw [Nat.zero_add, blk_cell h.blk, ← Array.getElem?_toList, hl]; exact hj⟩⟩
set_option maxRecDepth 100000 in
set_option maxHeartbeats 8000000 in
theorem rBytes_call (a : Option Addr) (n cap : Nat) (l : List Rb) (w : World) (h : Bs w a n cap l) : Calls Try.prog 39 #[.slice a n cap] w (BFRes (Evt.bytesR (l.map Rb.ba)) w) := by
  have hmax := h.sl.max
  have hle := h.sl.le
  unfold maxLen at hmax
  have HN := hid h.n
  by_cases hc : 150 < n
  · have HC := hid (show Evt.bytesR (l.map Rb.ba) = ⟨[], 5, 0⟩ by unfold Evt.bytesR; rw [if_pos (by rw [List.length_map, HN.out]; exact hc)])
    rw [HC.out]
    go_enter Try.func39, Try.ntmps39
    go_wp2
    exact bodyPost_ret (v := .tuple #[.slice none 0 0, .agg #[.int .i64 5, .int .i64 0]]) (by simp [results, Try.results39, go_sem]) rfl ⟨_, rfl, (Below.refl _ _).alloc (Nat.le_refl _) _, World.ownsRow_nil _ _ _ _⟩
  · go_enter Try.func39, Try.ntmps39
    go_wp2
    go_loopg [4, 5, 6, 7, 9, 20] n (fun g o s5 s6 s7 s9 i wr => ∃ (L : List UInt8) (k : Nat), g = n - k ∧ k ≤ n ∧ i = .int .i64 k ∧ Hid (L = UInt8.ofNat n :: ((l.map Rb.ba).take k).flatMap Evt.baBytes) ∧ L.length ≤ 1 + 160 * k ∧ OB w wr none w.heap.size o L ∧ wr.heap[w.heap.size]? = some (.cells #[.int .i64 0, .int .i64 0] 54 (0, 0)) ∧ Hid (Evt.fb (l.map Rb.ba) 0 = Evt.fb ((l.map Rb.ba).drop k) k))
    case atStart =>
      have e := OB.lit ((Below.refl w.heap.size w).alloc (Nat.le_refl _) (.cells #[.int .i64 0, .int .i64 0] 54)) #[.int .u8 (n : Int)] [UInt8.ofNat n] (by simp [maxLen]) (by simp [cb]; omega)
      rw [World.size_alloc] at e
      exact ⟨[UInt8.ofNat n], 0, rfl, by omega, rfl, hid (by simp), by simp, e, blk_old (blk_new w _), hid (by simp)⟩
    case round =>
      obtain ⟨L, k, rfl, hk, rfl, HL, hL, hO, hF, HB⟩ := hrel
      have hbw : Below w.heap.size w wr := hO.belowOf (Nat.le_refl _) (fun k h => by cases h)
      have hsz := hbw.size
      by_cases hlt : k < n
      · have hkl : k < l.length := by rw [HN.out]; exact hlt
        obtain ⟨b, off, rfl, _⟩ := h.sl.addr (by omega)
        obtain ⟨q0, q1, hE⟩ := (h.below hbw).at k hkl
        have hEw := (h.at k hkl).2.2
        generalize hr : l[k] = r at *
        obtain ⟨c, ea, en, ec, evs⟩ := r
        simp only at q0 q1 hE hEw
        have HEw := hid hEw
        clear hEw
        have HR := hid hr
        clear hr
        have D := hid (fun W (hE : Es W ea en ec evs) => rWrongBatch_call c ea en ec evs W hE)
        go_wp2_with fail
        go_at_call 37; refine (D.out _ (hE.alloc _)).mono ?_; rintro e w1 ⟨rfl, b1⟩
        have hO1 := (hO.alloc (.cells #[.int .i64 c, .slice ea en ec] 52)).below b1
        have hF1 := blk_below (blk_old (o' := .cells #[.int .i64 c, .slice ea en ec] 52) hF) b1
        have hX1 := blk_below (blk_new wr (.cells #[.int .i64 c, .slice ea en ec] 52)) b1
        have hE1 := (hE.alloc (.cells #[.int .i64 c, .slice ea en ec] 52)).below b1
        have hbw1 := hO1.belowOf (Nat.le_refl _) (fun k h => by cases h)
        have hzF := blk_lt hF1
        have hzX := blk_lt hX1
        clear b1 hO hF hE hbw D q0 q1
        unfold fVal
        obtain ⟨f1, hf1⟩ : ∃ f1, (Evt.wrongBa ⟨c, evs⟩).1 = f1 := ⟨_, rfl⟩
        rw [hf1]
        generalize (Evt.wrongBa ⟨c, evs⟩).2 = f2
        by_cases hz : f1 = 0
        · have HF := hid (hf1.trans hz)
          subst hz
          clear hf1
          have x0 : w1.cell? ⟨wr.heap.size, 0, none⟩ = some (.int .i64 c) := blk_cell hX1
          have x1 : w1.cell? ⟨wr.heap.size, 1, none⟩ = some (.slice ea en ec) := blk_cell hX1
          have HV := hid (Evt.wrongBa_zero HF.out)
          obtain ⟨hv1, hv2, hv3, hv4, hv5⟩ := Evt.wrongBa_zero HF.out
          have HE := hid hE1.n
          simp only at hv1 hv2 hv3 hv4 hv5
          rw [HE.out] at hv3 hv4
          obtain ⟨c, rfl⟩ := Int.eq_ofNat_of_zero_le (a := c) (by omega)
          have hcN : c < 16777216 := by omega
          have hle1 : L.length ≤ 24001 := by omega
          have HV5 := hid hv5
          clear hv5
          have hXa := blk_old (o' := .cells #[.int .i64 0, .int .i64 f2] 54) hX1
          have hFa := blk_old (o' := .cells #[.int .i64 0, .int .i64 f2] 54) hF1
          have hOa := hO1.alloc (.cells #[.int .i64 0, .int .i64 f2] 54)
          have hcb := hid (show (#[Value.int .u8 (en : Int)] : Array Value).toList = cb [UInt8.ofNat en] by simp [cb]; omega)
          go_wp2_with fail
          have hwr : IntKind.u8.wrap (en : Int) = (en : Int) := IntWalk.u8_in _ (by omega)
          go_cut [4] (fun o wc => OB w wc none w.heap.size o (L ++ Evt.three c ++ [UInt8.ofNat en]) ∧ wc.heap[wr.heap.size]? = some (.cells #[.int .i64 (c : Int), .slice ea en ec] 52 (0, 0)) ∧ wc.heap[w.heap.size]? = some (.cells #[.int .i64 0, .int .i64 0] 54 (0, 0)))
          case first =>
            have r0 : Rg w (w1.alloc (.cells #[.int .i64 0, .int .i64 f2] 54)) u4 L wr.heap.size #[.int .i64 (c : Int), .slice ea en ec] 52 := ⟨hOa, hXa, hFa, by decide⟩
            have r0d := r0.drew
            have k0 := r0.cell 0
            have k1 := r0.cell 1
            have hT3 := hid (Evt.three_list c hcN)
            have hK1 := hid hcb.out
            clear hOa hXa hFa hO1 hX1 hF1 x0 x1
            generalize w1.alloc (.cells #[.int .i64 0, .int .i64 f2] 54) = E at *
            go_region_held3 (fun w' => w'.cell? ⟨wr.heap.size, 0, none⟩ = some (.int .i64 (c : Int)) ∧ w'.cell? ⟨wr.heap.size, 1, none⟩ = some (.slice ea en ec)) (first | exact ⟨r2.cell 0, r2.cell 1⟩ | exact ⟨r1.cell 0, r1.cell 1⟩ | exact ⟨(r1.alloc _).cell 0, (r1.alloc _).cell 1⟩ | exact ⟨r0d.cell 0, r0d.cell 1⟩ | exact ⟨(r0.alloc _).drew.cell 0, (r0.alloc _).drew.cell 1⟩ | exact ⟨((r0.alloc _).alloc _).drew.cell 0, ((r0.alloc _).alloc _).drew.cell 1⟩ | go_keep)
              (first
                | (go_at_call 49; refine (rThree_call c _ hcN).mono ?_; rintro e w4 ⟨rfl, rfl⟩)
                | (refine step_append_ob2 rfl (.tmp 34) (.tmp 37) rfl w.heap.size _ L (Evt.three c) rfl (by first | exact r0d.ob | exact (r0.alloc _).drew.ob | exact ((r0.alloc _).alloc _).drew.ob) _ 3 3 rfl (by first | exact (Lt.new' r0.ob _ rfl).drew.bt hT3.out | exact ((Lt.new' r0.ob _ rfl).alloc _).drew.bt hT3.out | exact (Lt.new' (r0.alloc _).ob _ (by simp)).drew.bt hT3.out) (by simp [Evt.three]; omega) (by have := r0.size; simp; omega) ?_; intro v4 w4 o4 g4 l4;
                    (have r1 : Rg w w4 v4 (L ++ Evt.three c) wr.heap.size #[.int .i64 (c : Int), .slice ea en ec] 52 := by first | exact (r0.alloc _).drew.app o4 g4 | exact ((r0.alloc _).alloc _).drew.app o4 g4);
                    (first | (have lK : Lt w4 v4 (E.heap.size + 1) #[.int .u8 (en : Int)] := (Lt.new' (r0.alloc _).ob _ (by simp)).drew.app g4 l4) | (have lK : Lt w4 v4 E.heap.size #[.int .u8 (en : Int)] := ((Lt.new' r0.ob _ rfl).alloc _).drew.app g4 l4) | skip))
                | (refine step_append_ob2 rfl (.tmp 38) (.tmp 43) rfl w.heap.size _ (L ++ Evt.three c) [UInt8.ofNat en] rfl (by first | exact r1.ob | exact (r1.alloc _).ob) _ 1 1 rfl (by first | exact lK.bt hK1.out | exact (Lt.new' r1.ob _ rfl).bt hK1.out) (by simp [Evt.three]; omega) (by have := r1.size; simp; omega) ?_; intro v5 w5 o5 g5 l5;
                    (have r2 : Rg w w5 v5 (L ++ Evt.three c ++ [UInt8.ofNat en]) wr.heap.size #[.int .i64 (c : Int), .slice ea en ec] 52 := by first | exact r1.app o5 g5 | exact (r1.alloc _).app o5 g5)))
            all_goals (go_wp2_with fail; go_meet)
            all_goals exact ⟨r2.ob, r2.blk, r2.flt⟩
          case rest =>
            clear hwr hOa hXa hFa hO1 hX1 hF1 x0 x1 hbw1
            obtain ⟨hOc, hXc, hFc⟩ := hcut
            have y1 : wc.cell? ⟨wr.heap.size, 1, none⟩ = some (.slice ea en ec) := blk_cell hXc
            have hzc := hOc.grown.size
            go_wp2
            go_loopg [4, 9, 48] en (fun g o s9 i W => ∃ (M : List UInt8) (j : Nat), g = en - j ∧ j ≤ en ∧ i = .int .i64 j ∧ Hid (M = L ++ Evt.three c ++ [UInt8.ofNat en] ++ (evs.take j).flatMap Evt.evBytes) ∧ M.length ≤ L.length + 4 + 15 * j ∧ OB w W none w.heap.size o M ∧ W.heap[w.heap.size]? = some (.cells #[.int .i64 0, .int .i64 0] 54 (0, 0)))
            case atStart => exact ⟨_, 0, rfl, by omega, rfl, hid (by simp), by simp [Evt.three], hOc, hFc⟩
            case round =>
              obtain ⟨M, j, rfl, hj, rfl, HM, hM, hOW, hFW⟩ := hrel
              clear hOc hXc hFc y1
              rename_i W
              have hbW := hOW.belowOf (Nat.le_refl _) (fun k h => by cases h)
              have hzW := blk_lt hFW
              by_cases hje : j < en
              · have hjl : j < evs.length := by rw [HE.out]; exact hje
                obtain ⟨bb, boff, rfl, _⟩ := HEw.out.sl.addr (by omega)
                obtain ⟨q0, q1, q2⟩ := (HEw.out.below hbW).at j hjl
                have hw0 := HV5.out _ (List.getElem_mem hjl)
                obtain ⟨u1, u2, u3, u4, u5⟩ := Evt.wrongEv_zero hw0
                have u6 := Evt.named_len u1
                rw [Evt.lst_length] at u6
                have HS := hid (Evt.evflat_step evs j hjl)
                generalize evs[j] = ev at *
                clear u1 hw0
                obtain ⟨s, ke, ne⟩ := ev
                simp only at u2 u3 u4 u5 u6 q0 q1 q2
                obtain ⟨ke, rfl⟩ := Int.eq_ofNat_of_zero_le (a := ke) (by omega)
                obtain ⟨ne, rfl⟩ := Int.eq_ofNat_of_zero_le (a := ne) (by omega)
                have hO1 := hOW.alloc (.cells #[.string s, .int .i64 (ke : Int), .int .i64 (ne : Int)] 47)
                have hF1 := blk_old (o' := .cells #[.string s, .int .i64 (ke : Int), .int .i64 (ne : Int)] 47) hFW
                have hX1 := blk_new wr (.cells #[.string s, .int .i64 (ke : Int), .int .i64 (ne : Int)] 47)
                have hcb1 := hid (show (#[Value.int .u8 (s.size : Int)] : Array Value).toList = cb [UInt8.ofNat s.size] by simp [cb]; omega)
                have hl1 : Bt ((wr.alloc (.cells #[.string s, .int .i64 (ke : Int), .int .i64 (ne : Int)] 47)).alloc (.cells #[.int .u8 (s.size : Int)] 5)) (some ⟨wr.heap.size + 1, 0, none⟩) 1 1 [UInt8.ofNat s.size] := by
                  have := lit_bt (wr.alloc (.cells #[.string s, .int .i64 (ke : Int), .int .i64 (ne : Int)] 47)) #[.int .u8 (s.size : Int)] [UInt8.ofNat s.size] (by simp [maxLen]) hcb1.out
                  rw [World.size_alloc] at this; exact this
                have hwr : IntKind.u8.wrap (s.size : Int) = (s.size : Int) := IntWalk.u8_in _ (by omega)
                have hwk : IntKind.u8.wrap (ke : Int) = (ke : Int) := IntWalk.u8_in _ (by omega)
                have hM2 : M.length ≤ 25000 := by omega
                have hsl : s.data.toList.length = s.size := by simp
                have HSL := hid hsl
                clear hsl
                go_wp2_with (refine wpList_append_ob rfl (.tmp 52) (.tmp 57) rfl w.heap.size _ M [UInt8.ofNat s.size] rfl (hO1.alloc (.cells #[.int .u8 (s.size : Int)] 5)) (some ⟨wr.heap.size + 1, 0, none⟩) 1 1 rfl hl1 (by simp; omega) (by simp; omega) ?_; intro v4 w4 o4 g4; have hX4 := grown_other (hO1.alloc (.cells #[.int .u8 (s.size : Int)] 5)).own g4 (blk_old hX1) (by decide); have hF4 := grown_other (hO1.alloc (.cells #[.int .u8 (s.size : Int)] 5)).own g4 (blk_old hF1) (by decide))
                have r0 : Rg w w4 v4 (M ++ [UInt8.ofNat s.size]) wr.heap.size #[.string s, .int .i64 (ke : Int), .int .i64 (ne : Int)] 47 := ⟨o4, hX4, hF4, by decide⟩
                have k0 := r0.cell 0
                have k1 := r0.cell 1
                have k2 := r0.cell 2
                have hT3 := hid (Evt.three_list ne (by omega))
                have hK1 := hid (show (#[Value.int .u8 (ke : Int)] : Array Value).toList = cb [UInt8.ofNat ke] by simp [cb]; omega)
                have hne : ne < 16777216 := by omega
                clear hO1 hX1 hF1 hX4 hF4 hl1 g4
                have r0d := r0.drew
                generalize w4 = E at *
                go_wp2_with fail
                go_region_held3 (fun w' => w'.cell? ⟨wr.heap.size, 0, none⟩ = some (.string s) ∧ w'.cell? ⟨wr.heap.size, 1, none⟩ = some (.int .i64 (ke : Int)) ∧ w'.cell? ⟨wr.heap.size, 2, none⟩ = some (.int .i64 (ne : Int))) (first | exact ⟨r3.cell 0, r3.cell 1, r3.cell 2⟩ | exact ⟨r2.cell 0, r2.cell 1, r2.cell 2⟩ | exact ⟨(r2.alloc _).cell 0, (r2.alloc _).cell 1, (r2.alloc _).cell 2⟩ | exact ⟨r1.cell 0, r1.cell 1, r1.cell 2⟩ | exact ⟨(r1.alloc _).cell 0, (r1.alloc _).cell 1, (r1.alloc _).cell 2⟩ | exact ⟨((r1.alloc _).alloc _).cell 0, ((r1.alloc _).alloc _).cell 1, ((r1.alloc _).alloc _).cell 2⟩ | exact ⟨r0d.cell 0, r0d.cell 1, r0d.cell 2⟩ | exact ⟨(r0.alloc _).drew.cell 0, (r0.alloc _).drew.cell 1, (r0.alloc _).drew.cell 2⟩ | exact ⟨((r0.alloc _).alloc _).drew.cell 0, ((r0.alloc _).alloc _).drew.cell 1, ((r0.alloc _).alloc _).drew.cell 2⟩ | go_keep)
                  (first
                    | (go_at_call 49; refine (rThree_call ne _ hne).mono ?_; rintro e w8 ⟨rfl, rfl⟩)
                    | (refine step_append_s2 rfl (.tmp 59) (.tmp 61) 9 rfl w.heap.size _ (M ++ [UInt8.ofNat s.size]) s.data.toList rfl (by first | exact r0d.ob | exact (r0.alloc _).drew.ob | exact ((r0.alloc _).alloc _).drew.ob) (.string s) rfl (src_str _ s) (by rw [HSL.out]; simp; omega) (by have := r0.size; simp; omega) ?_; intro v5 w5 o5 g5 l5;
                        (have r1 : Rg w w5 v5 (M ++ [UInt8.ofNat s.size] ++ s.data.toList) wr.heap.size #[.string s, .int .i64 (ke : Int), .int .i64 (ne : Int)] 47 := by first | exact r0d.app o5 g5 | exact (r0.alloc _).drew.app o5 g5 | exact ((r0.alloc _).alloc _).drew.app o5 g5);
                        (first | (have lK : Lt w5 v5 _ #[.int .u8 (ke : Int)] := (Lt.new' r0.ob _ rfl).drew.app g5 l5) | (have lK : Lt w5 v5 _ #[.int .u8 (ke : Int)] := ((Lt.new' r0.ob _ rfl).alloc _).drew.app g5 l5) | (have lK : Lt w5 v5 _ #[.int .u8 (ke : Int)] := (Lt.new' (r0.alloc _).ob _ (b := E.heap.size + 1) (by simp)).drew.app g5 l5) | skip);
                        (first | (have lT : Lt w5 v5 _ #[.int .u8 ((ne : Int) / 65536), .int .u8 ((ne : Int) / 256 % 256), .int .u8 ((ne : Int) % 256)] := (Lt.new' r0.ob _ rfl).drew.app g5 l5) | (have lT : Lt w5 v5 _ #[.int .u8 ((ne : Int) / 65536), .int .u8 ((ne : Int) / 256 % 256), .int .u8 ((ne : Int) % 256)] := ((Lt.new' r0.ob _ rfl).alloc _).drew.app g5 l5) | (have lT : Lt w5 v5 _ #[.int .u8 ((ne : Int) / 65536), .int .u8 ((ne : Int) / 256 % 256), .int .u8 ((ne : Int) % 256)] := (Lt.new' (r0.alloc _).ob _ (b := E.heap.size + 1) (by simp)).drew.app g5 l5) | skip))
                    | (refine step_append_ob2 rfl (.tmp 62) (.tmp 66) rfl w.heap.size _ (M ++ [UInt8.ofNat s.size] ++ s.data.toList) [UInt8.ofNat ke] rfl (by first | exact r1.ob | exact (r1.alloc _).ob | exact ((r1.alloc _).alloc _).ob) _ 1 1 rfl (by first | exact lK.bt hK1.out | exact (lK.alloc _).bt hK1.out | exact (Lt.new' r1.ob _ rfl).bt hK1.out | exact ((Lt.new' r1.ob _ rfl).alloc _).bt hK1.out | exact (Lt.new' (r1.alloc _).ob _ (by simp)).bt hK1.out) (by rw [List.length_append, List.length_append, HSL.out]; simp; omega) (by have := r1.size; simp; omega) ?_; intro v6 w6 o6 g6 l6;
                        (have r2 : Rg w w6 v6 (M ++ [UInt8.ofNat s.size] ++ s.data.toList ++ [UInt8.ofNat ke]) wr.heap.size #[.string s, .int .i64 (ke : Int), .int .i64 (ne : Int)] 47 := by first | exact r1.app o6 g6 | exact (r1.alloc _).app o6 g6 | exact ((r1.alloc _).alloc _).app o6 g6);
                        (first | (have lT2 : Lt w6 v6 _ #[.int .u8 ((ne : Int) / 65536), .int .u8 ((ne : Int) / 256 % 256), .int .u8 ((ne : Int) % 256)] := lT.app g6 l6) | (have lT2 : Lt w6 v6 _ #[.int .u8 ((ne : Int) / 65536), .int .u8 ((ne : Int) / 256 % 256), .int .u8 ((ne : Int) % 256)] := (lT.alloc _).app g6 l6) | (have lT2 : Lt w6 v6 _ #[.int .u8 ((ne : Int) / 65536), .int .u8 ((ne : Int) / 256 % 256), .int .u8 ((ne : Int) % 256)] := (Lt.new' r1.ob _ rfl).app g6 l6) | (have lT2 : Lt w6 v6 _ #[.int .u8 ((ne : Int) / 65536), .int .u8 ((ne : Int) / 256 % 256), .int .u8 ((ne : Int) % 256)] := ((Lt.new' r1.ob _ rfl).alloc _).app g6 l6) | (have lT2 : Lt w6 v6 _ #[.int .u8 ((ne : Int) / 65536), .int .u8 ((ne : Int) / 256 % 256), .int .u8 ((ne : Int) % 256)] := (Lt.new' (r1.alloc _).ob _ (b := w5.heap.size + 1) (by simp)).app g6 l6) | skip))
                    | (refine step_append_ob2 rfl (.tmp 67) (.tmp 70) rfl w.heap.size _ (M ++ [UInt8.ofNat s.size] ++ s.data.toList ++ [UInt8.ofNat ke]) (Evt.three ne) rfl (by first | exact r2.ob | exact (r2.alloc _).ob) _ 3 3 rfl (by first | exact lT2.bt hT3.out | exact (Lt.new' r2.ob _ rfl).bt hT3.out) (by rw [List.length_append, List.length_append, List.length_append, HSL.out]; simp [Evt.three]; omega) (by have := r2.size; simp; omega) ?_; intro v7 w7 o7 g7 l7;
                        (have r3 : Rg w w7 v7 ((M ++ [UInt8.ofNat s.size] ++ s.data.toList ++ [UInt8.ofNat ke]) ++ Evt.three ne) wr.heap.size #[.string s, .int .i64 (ke : Int), .int .i64 (ne : Int)] 47 := by first | exact r2.app o7 g7 | exact (r2.alloc _).app o7 g7)))
                all_goals
                  clear hwr hwk
                  go_wp2_with fail
                  go_roundg (en - (j + 1))
                  case measure => omega
                  case rel =>
                    refine ⟨_, j + 1, rfl, by omega, by go_num, hid ?_, ?_, r3.ob, r3.flt⟩
                    · rw [HM.out, HS.out]; unfold Evt.evBytes Evt.lst; simp [HSL.out]
                    · rw [List.length_append, List.length_append, List.length_append, List.length_append, HSL.out]; simp [Evt.three]; omega
              · obtain rfl : j = en := by omega
                have HW := hid (Evt.flat_step (l.map Rb.ba) k ⟨c, evs⟩ (by rw [List.getElem?_map, List.getElem?_eq_getElem hkl, HR.out]; rfl))
                have HP := hid (Evt.fb_step (l.map Rb.ba) k ⟨c, evs⟩ (by rw [List.getElem?_map, List.getElem?_eq_getElem hkl, HR.out]; rfl))
                go_wp2_with fail
                go_roundg (n - (k + 1))
                case measure => omega
                case rel =>
                  refine ⟨M, k + 1, rfl, by omega, by go_num, hid ?_, by omega, hOW, hFW, hid ?_⟩
                  · rw [HM.out, HW.out, HL.out, List.take_of_length_le (l := evs) (by rw [HE.out]; exact Nat.le_refl _)]; unfold Evt.baBytes; simp [HE.out]
                  · rw [HB.out, HP.out, if_neg (fun h => h HF.out)]
        · have t0 : (f1 != 0) = true := by rw [bne_iff_ne]; exact hz
          have hG := hid (show Evt.bytesR (l.map Rb.ba) = ⟨[], f1, (k : Int)⟩ from by
            refine Evt.bytesR_bad _ _ _ (by rw [List.length_map, HN.out]; exact hc) ?_ hz
            have := Evt.fb_step (l.map Rb.ba) k ⟨c, evs⟩ (by rw [List.getElem?_map, List.getElem?_eq_getElem hkl, HR.out]; rfl)
            rw [HB.out, this, hf1, if_pos hz])
          clear hz hf1 HB HL
          have r0 : w1.cell? ⟨w.heap.size, 0, none⟩ = some (.int .i64 0) := blk_cell hF1
          have r1 : w1.cell? ⟨w.heap.size, 1, none⟩ = some (.int .i64 0) := blk_cell hF1
          have rf0 : w1.frozen? ⟨w.heap.size, 0, none⟩ = false := blk_free hF1
          have rf1 : w1.frozen? ⟨w.heap.size, 1, none⟩ = false := blk_free hF1
          go_wp2_with fail
          go_region_held3 (fun w' => w'.cell? ⟨w1.heap.size, 0, none⟩ = some (.int .i64 f1)) (first | exact cell_atD (by simp) _ _ _ | go_keep) (first | fail)
          go_wp2
          have e0 : (((w1.setCell ⟨w.heap.size, 0, none⟩ (.int .i64 f1)).setCell ⟨w.heap.size, 1, none⟩ (.int .i64 (k : Int))).alloc (.cells #[.int .i64 f1, .int .i64 f2] 54)).cell? ⟨w.heap.size, 0, none⟩ = some (.int .i64 f1) := by
            have e : ((w1.setCell ⟨w.heap.size, 0, none⟩ (.int .i64 f1)).setCell ⟨w.heap.size, 1, none⟩ (.int .i64 (k : Int))).cell? ⟨w.heap.size, 0, none⟩ = some (.int .i64 f1) := by simp [go_sem, r0]
            refine Eq.trans (cell_old ?_) e
            simp only [World.size_setCell]; exact hzF
          have e1 : (((w1.setCell ⟨w.heap.size, 0, none⟩ (.int .i64 f1)).setCell ⟨w.heap.size, 1, none⟩ (.int .i64 (k : Int))).alloc (.cells #[.int .i64 f1, .int .i64 f2] 54)).cell? ⟨w.heap.size, 1, none⟩ = some (.int .i64 (k : Int)) := by
            have e : ((w1.setCell ⟨w.heap.size, 0, none⟩ (.int .i64 f1)).setCell ⟨w.heap.size, 1, none⟩ (.int .i64 (k : Int))).cell? ⟨w.heap.size, 1, none⟩ = some (.int .i64 (k : Int)) := by simp [go_sem, r1]
            refine Eq.trans (cell_old ?_) e
            simp only [World.size_setCell]; exact hzF
          refine bodyPost_ret (v := .tuple #[.slice none 0 0, .agg #[.int .i64 f1, .int .i64 (k : Int)]]) (by simp [results, Try.results39, go_sem, e0, e1]) rfl ⟨_, by rw [hG.out], (((hbw1.setCell (by simp) _).setCell (by simp) _).alloc (by simp; omega) _).drew, ?_⟩
          rw [hG.out]; exact World.ownsRow_nil _ _ _ _
      · obtain rfl : k = n := by omega
        have hR := hid (show Evt.bytesR (l.map Rb.ba) = ⟨Evt.bytes (l.map Rb.ba), 0, 0⟩ from Evt.bytesR_ok _ (by rw [List.length_map, HN.out]; exact hc) (by rw [HB.out, List.drop_of_length_le (by rw [List.length_map, HN.out]; exact Nat.le_refl _)]; rfl))
        have r0 : wr.cell? ⟨w.heap.size, 0, none⟩ = some (.int .i64 0) := blk_cell hF
        have r1 : wr.cell? ⟨w.heap.size, 1, none⟩ = some (.int .i64 0) := blk_cell hF
        have rf0 : wr.frozen? ⟨w.heap.size, 0, none⟩ = false := blk_free hF
        have rf1 : wr.frozen? ⟨w.heap.size, 1, none⟩ = false := blk_free hF
        have hne := own_blk_ne hO.own hF (by decide)
        go_wp2_with fail
        refine bodyPost_ret (v := .tuple #[_, .agg #[.int .i64 0, .int .i64 0]]) (by simp [results, Try.results39, go_sem, r0, r1]; rfl) rfl ⟨_, by rw [hR.out], (hbw.setCell (by simp) _).setCell (by simp) _, ?_⟩
        rw [hR.out]
        have e : L = Evt.bytes (l.map Rb.ba) := by
          rw [HL.out, List.take_of_length_le (by rw [List.length_map, HN.out]; exact Nat.le_refl _)]
          unfold Evt.bytes; rw [List.length_map, HN.out]
        rw [← e]
        exact ownsRow_setCell_other (ownsRow_setCell_other hO.own hne _) hne _

end Go.Proofs.Ytkngfobnfocpjaa
