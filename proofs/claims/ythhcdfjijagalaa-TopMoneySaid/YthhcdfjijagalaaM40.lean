/- Joined, and what is not used struck: SpP5, OpenI. -/
import Derived.Test.YthhcdfjijagalaaM38
import Derived.Test.YthhcdfjijagalaaM39
import Derived.Test.YthhcdfjijagalaaM10
import Derived.Test.YthhcdfjijagalaaM04
import Derived.Test.YthhcdfjijagalaaM24
import Derived.Deep.Slices
import Derived.Deep.Fields
import Derived.SizedLaws
namespace Go.Proofs.Ythhcdfjijagalaa
open Go.RowKit Go.Maps
set_option linter.unusedVariables false
set_option linter.unusedSimpArgs false
set_option maxRecDepth 100000
theorem info_bool : (Try.prog.info? 4).map (fun i => (i.zero, i.size, i.bytes)) = some (some (.bool false), 1, 1) := by kernel_rfl
/-- what is done, and what is to be right beside it -/
structure RowM (w wr : World) (v vg : Value) (l : List Sto.Do) (G : List Bool) (X : List Dod) : Prop where
  row : DoO wr w.heap.size v X
  eq : X.map Dod.d = l
  below : Below w.heap.size w wr
  gd : wr.ownsRow w.heap.size 4 1 vg G.length (G.map Value.bool)
  off : ∀ x ∈ X, 0 < x.n → ∀ b o, x.a = some ⟨b, o, none⟩ → vg.ownBlock ≠ some b
theorem RowM.len {w wr : World} {v vg : Value} {l : List Sto.Do} {G : List Bool} {X : List Dod} (h : RowM w wr v vg l G X) : X.length = l.length := by rw [← h.eq, List.length_map]
theorem RowM.on {w wr W : World} {v vg : Value} {l : List Sto.Do} {G : List Bool} {X : List Dod} (h : RowM w wr v vg l G X) (hb : Below wr.heap.size wr W) : RowM w W v vg l G X :=
  ⟨h.row.below hb, h.eq, bnext h.below hb, own_below h.gd hb, h.off⟩
theorem RowM.add {w W w5 : World} {v vg v5 : Value} {l : List Sto.Do} {G : List Bool} {X Y : List Dod} {n' : Nat} (h : RowM w W v vg l G X) (o : OT W w5 v.ownBlock w.heap.size 29 9 v5 n' (rows do9 X ++ rows do9 Y)) (hn : n' = X.length + Y.length) (hg : W.grownBy w5 v.ownBlock)
    (he : ∀ x ∈ Y, Es W x.a x.n x.cap x.d.b.evs) (hs : ∀ x ∈ Y, x.d.stream.size ≤ maxLen) (ho : ∀ x ∈ Y, 0 < x.n → ∀ b o, x.a = some ⟨b, o, none⟩ → v.ownBlock ≠ some b ∧ vg.ownBlock ≠ some b) : RowM w w5 v5 vg (l ++ Y.map Dod.d) G (X ++ Y) := by
  refine ⟨h.row.more o hn hg he hs (fun x hx hn b o e => (ho x hx hn b o e).1), by rw [List.map_append, h.eq], h.below.grown hg h.below.size (fun q hq => (h.row.own.lt q hq).1), own_other h.gd h.row.own hg (by decide), fun x hx hn b o e => ?_⟩
  rcases List.mem_append.1 hx with hx | hx
  · exact h.off x hx hn b o e
  · exact (ho x hx hn b o e).2
theorem RowM.good {w W w5 : World} {v vg v5 : Value} {l : List Sto.Do} {G : List Bool} {X : List Dod} {n' : Nat} (h : RowM w W v vg l G X) (g : Bool) (o : OT W w5 vg.ownBlock w.heap.size 4 1 v5 n' (G.map Value.bool ++ [.bool g])) (hn : n' = G.length + 1) (hg : W.grownBy w5 vg.ownBlock) :
    RowM w w5 v v5 l (G ++ [g]) X := by
  subst hn
  refine ⟨h.row.other h.gd hg (by decide) h.off, h.eq, h.below.grown hg h.below.size (fun q hq => (h.gd.lt q hq).1), ?_, h.row.old o.lies h.off⟩
  rw [List.length_append, List.map_append]; exact o.own
/-- one more batch -/
theorem RowM.step {w wr W w5 : World} {v vg v5 : Value} {zs : List Int} {k n' m : Nat} {G : List Bool} {X : List Dod} {B : Nat} {es : List Evt.Ev} (h : RowM w wr v vg (Sto.opAB :: Sto.moneyDs (zs.take k) 0) G X) (hk : k < zs.length) (hb : Below wr.heap.size wr W) (hm : Sto.moneyD k zs[k] = Sto.doPut ((k : Int) + 2) es) (he : Es W (some ⟨B, 0, none⟩) es.length es.length es) (hB : wr.heap.size ≤ B)
    (o : OT W w5 v.ownBlock w.heap.size 29 9 v5 n' (rows do9 X ++ rows do9 [putX ((k : Int) + 2) es B])) (hn : n' = X.length + 1) (hg : W.grownBy w5 v.ownBlock) :
    RowM w w5 v5 vg (Sto.opAB :: Sto.moneyDs (zs.take (k + 1)) 0) G (X ++ [putX ((k : Int) + 2) es B]) := by
  have h1 := (h.on hb).add o hn hg (fun x hx => by obtain rfl := List.mem_singleton.1 hx; exact he) (fun x hx => by obtain rfl := List.mem_singleton.1 hx; exact putX_ok _ _ _) (fun x hx hn b o e => by
    obtain rfl := List.mem_singleton.1 hx
    have e : some (⟨B, 0, none⟩ : Addr) = some ⟨b, o, none⟩ := e
    cases e
    refine ⟨fun e2 => ?_, fun e2 => ?_⟩
    · have := (h.row.own.lt _ e2).2
      omega
    · have := (h.gd.lt _ e2).2
      omega)
  have e : Sto.opAB :: Sto.moneyDs (zs.take (k + 1)) 0 = (Sto.opAB :: Sto.moneyDs (zs.take k) 0) ++ [putX ((k : Int) + 2) es B].map Dod.d := by
    rw [List.take_add_one, List.getElem?_eq_getElem hk]
    show Sto.opAB :: Sto.moneyDs (zs.take k ++ [zs[k]]) 0 = _
    rw [Sto.moneyDs_snoc, List.length_take, Nat.min_eq_left (by omega), Nat.zero_add, hm]; rfl
  rw [e]; exact h1
theorem moneyG_next {zs : List Int} {k : Nat} (hk : k < zs.length) : Sto.moneyG (zs.take (k + 1)) 0 = Sto.moneyG (zs.take k) 0 ++ [decide (0 ≤ Sto.moneyHs (zs.take k) 0 + zs[k])] := by
  rw [List.take_add_one, List.getElem?_eq_getElem hk]; exact Sto.moneyG_snoc _ _ _
theorem moneyHs_next {zs : List Int} {k : Nat} (hk : k < zs.length) : Sto.moneyHs (zs.take (k + 1)) 0 = Sto.moneyH (Sto.moneyHs (zs.take k) 0) zs[k] := by
  rw [List.take_add_one, List.getElem?_eq_getElem hk]; exact Sto.moneyHs_snoc _ _ _
theorem take_money {zs : List Int} {k : Nat} (h : ∀ n ∈ zs.take k, -1000 ≤ n ∧ n ≤ 1000) (hk : k < zs.length) (hg : -1000 ≤ zs[k] ∧ zs[k] ≤ 1000) : ∀ n ∈ zs.take (k + 1), -1000 ≤ n ∧ n ≤ 1000 := fun n hn => by
  rw [List.take_add_one, List.getElem?_eq_getElem hk] at hn
  rcases List.mem_append.1 hn with hn | hn
  · exact h n hn
  · have hn : n ∈ [zs[k]] := hn
    obtain rfl := List.mem_singleton.1 hn; exact hg
theorem es2 {w : World} {l : List Evt.Ev} (hl : l.length ≤ 2) (ho : ∀ e ∈ l, e.s = Sto.sa ∨ e.s = Sto.sb) : Es (w.alloc (.cells (evCells l).toArray 32)) (some ⟨w.heap.size, 0, none⟩) l.length l.length l :=
  lit_es (by unfold maxLen; omega) (fun e he => by rcases ho e he with h | h <;> rw [h] <;> decide)
set_option maxHeartbeats 8000000 in
theorem TopMoney_walk (za : Option Addr) (zn zc : Nat) (zs : List Int) (w : World) (hZ : Is w za zn zc zs) : Calls Try.prog 12 #[.slice za zn zc] w (Grew (.bool true) w) := by
  have HZ := hid hZ
  have HZN := hid (show zs.length = zn by have := hZ.len; simpa using this)
  have hle := hZ.le
  have hmax := hZ.max
  unfold maxLen at hmax
  clear hZ
  have DO := hid (fun W => openT_call Sto.sb W)
  have DA := hid (fun n W => addT_call Sto.sa n W)
  have DB := hid (fun n W => addT_call Sto.sb n W)
  have DT := hid (fun n W => takeT_call Sto.sa n W)
  go_enter Try.func12, Try.ntmps12
  go_wp2_with fail
  go_at_call 14; refine (aliveT_call _).mono ?_; rintro e w1 ⟨rfl, b1⟩
  have bA := hid b1
  clear b1
  by_cases hz15 : 15 < zn
  · have hz15' : (15 : Int) < (zn : Int) := by omega
    go_wp2_with fail
    go_ret
    exact ⟨rfl, bA.out⟩
  have hz15' : ¬ (15 : Int) < (zn : Int) := by omega
  go_wp2_with fail
  go_at_call 17; refine (openT_call _ _).mono ?_; rintro e w2 ⟨rfl, b2⟩
  have bB := hid (bnext bA.out b2)
  clear b2
  go_wp2_with fail
  go_at_call 17; refine (openT_call _ _).mono ?_; rintro e w3 ⟨rfl, b3⟩
  have bC := hid (bnext bB.out b3)
  have hE3 := hid (es2 (w := w3) (l := [⟨Sto.sa, 1, 0⟩, ⟨Sto.sb, 1, 0⟩]) (by simp) (by simp))
  have bD := hid (bC.out.alloc bC.out.size (.cells (evCells [⟨Sto.sa, 1, 0⟩, ⟨Sto.sb, 1, 0⟩]).toArray 32))
  clear b3
  go_wp2_with fail
  go_at_call 16; refine (putT_call _ _ _ _ _).mono ?_; rintro e w4 ⟨rfl, b4⟩
  have bE := hid (bnext bD.out b4)
  have hX0 := hid (DoO.lit (w := w4) (base := w.heap.size) bE.out.size [putX 1 [⟨Sto.sa, 1, 0⟩, ⟨Sto.sb, 1, 0⟩] w3.heap.size] (by simp) (fun x hx => by obtain rfl := List.mem_singleton.1 hx; exact hE3.out.below b4) (fun x hx => by obtain rfl := List.mem_singleton.1 hx; exact putX_ok _ _ _))
  have bR := hid (bE.out.alloc bE.out.size (.cells (rows do9 [putX 1 [⟨Sto.sa, 1, 0⟩, ⟨Sto.sb, 1, 0⟩] w3.heap.size]).toArray 29))
  have R0 : RowM w (w4.alloc (.cells (rows do9 [putX 1 [⟨Sto.sa, 1, 0⟩, ⟨Sto.sb, 1, 0⟩] w3.heap.size]).toArray 29)) (.slice (some ⟨w4.heap.size, 0, none⟩) 1 1) (.slice none 0 0) (Sto.opAB :: Sto.moneyDs (zs.take 0) 0) (Sto.moneyG (zs.take 0) 0) [putX 1 [⟨Sto.sa, 1, 0⟩, ⟨Sto.sb, 1, 0⟩] w3.heap.size] :=
    ⟨hX0.out, rfl, bR.out, World.ownsRow_nil _ _ _ _, fun x hx hn b o e e2 => by cases e2⟩
  replace R0 := hid R0
  clear b4
  go_wp2_with fail
  go_loopg [3, 4, 5, 25] zn (fun g sv sh sg si wr => ∃ (k : Nat) (X : List Dod), g = zn - k ∧ k ≤ zn ∧ si = .int .i64 (k : Int) ∧ sh = .int .i64 (Sto.moneyHs (zs.take k) 0) ∧ RowM w wr sv sg (Sto.opAB :: Sto.moneyDs (zs.take k) 0) (Sto.moneyG (zs.take k) 0) X ∧ ∀ n ∈ zs.take k, -1000 ≤ n ∧ n ≤ 1000)
  case atStart => exact ⟨0, _, rfl, by omega, rfl, rfl, R0.out, fun n hn => by simp at hn⟩
  case round =>
    clear R0
    obtain ⟨k, X, rfl, hk, rfl, rfl, hR, hgood⟩ := hrel
    obtain ⟨wo, rfl⟩ : ∃ wo : World, wo = wr := ⟨_, rfl⟩
    have HR := hid hR
    have HG := hid hgood
    have htl : (zs.take k).length = k := by rw [List.length_take, HZN.out]; omega
    have hXl : X.length = k + 1 := by rw [hR.len, List.length_cons, Sto.moneyDs_len, htl]
    have hGl : (Sto.moneyG (zs.take k) 0).length = k := by rw [Sto.moneyG_len, htl]
    have hH := Sto.moneyHs_in (zs.take k) hgood 0 (Int.le_refl _)
    rw [htl] at hH
    obtain ⟨xa, xc, rfl, -⟩ := own_sl hR.row.own
    obtain ⟨ga, gc, rfl, -⟩ := own_sl hR.gd
    have hsz := hR.below.size
    rw [hXl, hGl]
    clear hR hgood
    by_cases hlt : k < zn
    · have hkz : k < zs.length := by rw [HZN.out]; exact hlt
      obtain ⟨zb, zoff, rfl, hzc⟩ := HZ.out.addr (by omega)
      have hz0 := hzc k (.int .i64 zs[k]) (by simp [hkz])
      have z0 : wo.cell? ⟨zb, zoff + k, none⟩ = some (.int .i64 zs[k]) := (HR.out.below.cell (p := ⟨zb, _, none⟩) (World.block_lt_of_cell? _ _ hz0)).trans hz0
      have i0 : (0 : Int) ≤ (k : Int) := by omega
      have i1 : (k : Int) < (zn : Int) := by omega
      have HN1 := hid (fun W w5 v5 n' B es h1 hm h2 h3 h4 h5 h6 => @RowM.step w wo W w5 (.slice xa X.length xc) (.slice ga (Sto.moneyG (zs.take k) 0).length gc) v5 zs k n' 0 (Sto.moneyG (zs.take k) 0) X B es HR.out hkz h1 hm h2 h3 h4 h5 h6)
      have HNG := hid (moneyG_next hkz)
      have HNH := hid (moneyHs_next hkz)
      have HN2 := hid (fun W w9 v vg9 n2 (X : List Dod) hR9 (g : Bool) (hg : decide (0 ≤ Sto.moneyHs (zs.take k) 0 + zs[k]'hkz) = g) (h1 : OT W w9 _ w.heap.size 4 1 vg9 n2 _) h2 h3 => (show RowM w w9 v vg9 (Sto.opAB :: Sto.moneyDs (zs.take (k + 1)) 0) (Sto.moneyG (zs.take (k + 1)) 0) X from by rw [HNG.out, hg]; exact @RowM.good w W w9 v (.slice ga (Sto.moneyG (zs.take k) 0).length gc) vg9 (Sto.opAB :: Sto.moneyDs (zs.take (k + 1)) 0) (Sto.moneyG (zs.take k) 0) X n2 hR9 g h1 h2 h3))
      have HG2 := hid (fun hz => take_money HG.out hkz hz)
      clear hz0 hzc HNG
      generalize hzk : zs[k] = z at *
      replace hzk := hid hzk
      generalize hHk : Sto.moneyHs (zs.take k) 0 = H at *
      replace hHk := hid hHk
      by_cases hz1 : z < -1000
      · have u1 : decide (z < -1000) = true := decide_eq_true hz1
        replace hz1 := hid hz1
        go_wp2_with fail
        go_ret
        exact ⟨rfl, HR.out.below⟩
      by_cases hz2 : 1000 < z
      · have u2 : decide (1000 < z) = true := decide_eq_true hz2
        have u1 : -1000 ≤ z := by omega
        replace hz2 := hid hz2
        replace hz1 := hid hz1
        go_wp2_with fail
        go_ret
        exact ⟨rfl, HR.out.below⟩
      have u1 : -1000 ≤ z := by omega
      have u2 : z ≤ 1000 := by omega
      have hzz := hid (show -1000 ≤ z ∧ z ≤ 1000 from ⟨u1, u2⟩)
      replace hz1 := hid hz1
      replace hz2 := hid hz2
      have hwr2 : IntKind.i64.wrap ((k : Int) + 2) = (k : Int) + 2 := IntWalk.i64_in _ (by omega)
      by_cases hz0 : 0 ≤ z
      · have HMD := hid (show Sto.moneyD k z = Sto.doPut ((k : Int) + 2) [⟨Sto.sa, 2, z⟩] from if_pos hz0)
        have hHz : 0 ≤ H + z := by omega
        have HDG := hid (decide_eq_true hHz)
        have HMH := hid (show Sto.moneyH H z = H + z from if_pos hHz)
        go_wp2_with fail
        go_at_call 18; refine (DA.out _ _).mono ?_; rintro e w4 ⟨rfl, b4⟩
        have hE4 := hid (es2 (w := w4) (l := [⟨Sto.sa, 2, z⟩]) (by simp) (by simp))
        have bE := hid (b4.alloc b4.size (.cells (evCells [⟨Sto.sa, 2, z⟩]).toArray 32))
        go_wp2_with fail
        go_at_call 16; refine (putT_call _ _ _ _ _).mono ?_; rintro e w5 ⟨rfl, b5⟩
        have bF := hid (bnext bE.out b5)
        have hb4 := b4.size
        have hb5 := b5.size
        rw [World.size_alloc] at hb5
        have hwl := w5.heap.size
        have SS := hid (lit_src (w := w5) (Y := [putX ((k : Int) + 2) [⟨Sto.sa, 2, z⟩] w4.heap.size]) (tx := 34) Try.underlying34)
        have BG := hid (bF.out.alloc bF.out.size (.cells (rows do9 [putX ((k : Int) + 2) [⟨Sto.sa, 2, z⟩] w4.heap.size]).toArray 29))
        have OT1 := hid (OT.start (HR.out.on BG.out).row.own)
        have hE6 := hid ((hE4.out.below b5).alloc (.cells (rows do9 [putX ((k : Int) + 2) [⟨Sto.sa, 2, z⟩] w4.heap.size]).toArray 29))
        rw [hXl] at OT1
        clear b4 b5
        go_wp2_with (first | (at_builtin; refine wpList_append_t rfl (.tmp 38) (.tmp 45) 34 34 rfl w.heap.size 29 9 96 (.agg #[.int .i64 0, .int .i64 0, .int .i64 0, .int .i64 0, .int .u8 0, .int .i64 0, .slice none 0 0, .string ⟨#[]⟩, .int .i64 0]) Try.underlying34 info_Do rfl (by decide) (.slice xa (k + 1) xc) (k + 1) (rows do9 X) rfl OT1.out _ 1 _ rfl SS.out (by unfold maxLen; omega) (by omega) (by simp; omega) ?_; intro v7 w7 o7 g7; have HR7 := hid (HN1.out _ w7 v7 _ _ [⟨Sto.sa, 2, z⟩] BG.out HMD.out hE6.out (by omega) (by rw [hXl]; exact o7) (by rw [hXl]) (by rw [hXl]; exact g7)); have hs7 := HR7.out.below.size; have SB := hid (Src.ofLit (P := Try.prog) w7 #[.bool true] 4 1 1 Try.underlying74 rfl (by simp [Value.oneCell'])); have OT2 := hid (OT.start (HR7.out.on ((Below.refl w7.heap.size w7).alloc (Nat.le_refl _) (.cells #[.bool true] 4))).gd); rw [hGl] at OT2; clear o7 g7) | (at_builtin; refine wpList_append_t rfl (.tmp 50) (.tmp 51) 74 74 rfl w.heap.size 4 1 1 (.bool false) Try.underlying74 info_bool rfl (by decide) (.slice ga k gc) k ((Sto.moneyG (zs.take k) 0).map Value.bool) rfl OT2.out _ 1 _ rfl SB.out (by unfold maxLen; omega) (by omega) (by simp; omega) ?_; intro v9 w9 o9 g9))
        have HR9 := HN2.out _ w9 v7 v9 _ _ (HR7.out.on ((Below.refl w7.heap.size w7).alloc (Nat.le_refl _) (.cells #[.bool true] 4))) true HDG.out (by rw [hGl]; exact o9) (by rw [hGl]) (by rw [hGl]; exact g9)
        go_roundg (zn - (k + 1))
        case measure => omega
        case rel => exact ⟨k + 1, _, rfl, by omega, by go_num, by rw [HNH.out, HMH.out], HR9, HG2.out hzz.out⟩
      · have HMD := hid (show Sto.moneyD k z = Sto.doPut ((k : Int) + 2) [⟨Sto.sb, 2, -z⟩, ⟨Sto.sa, 3, -z⟩] from if_neg hz0)
        by_cases hHz : 0 ≤ H + z
        · have HDG := hid (decide_eq_true hHz)
          have HMH := hid (show Sto.moneyH H z = H + z from if_pos hHz)
          go_wp2_with fail
          go_at_call 18; refine (DB.out _ _).mono ?_; rintro e w3 ⟨rfl, b3⟩
          go_wp2_with fail
          go_at_call 29; refine (DT.out _ _).mono ?_; rintro e w4 ⟨rfl, b4'⟩
          have b4 := bnext b3 b4'
          clear b3 b4'
          have hE4 := hid (es2 (w := w4) (l := [⟨Sto.sb, 2, -z⟩, ⟨Sto.sa, 3, -z⟩]) (by simp) (by simp))
          have bE := hid (b4.alloc b4.size (.cells (evCells [⟨Sto.sb, 2, -z⟩, ⟨Sto.sa, 3, -z⟩]).toArray 32))
          go_wp2_with fail
          go_at_call 16; refine (putT_call _ _ _ _ _).mono ?_; rintro e w5 ⟨rfl, b5⟩
          have bF := hid (bnext bE.out b5)
          have hb4 := b4.size
          have hb5 := b5.size
          rw [World.size_alloc] at hb5
          have hwl := w5.heap.size
          have SS := hid (lit_src (w := w5) (Y := [putX ((k : Int) + 2) [⟨Sto.sb, 2, -z⟩, ⟨Sto.sa, 3, -z⟩] w4.heap.size]) (tx := 34) Try.underlying34)
          have BG := hid (bF.out.alloc bF.out.size (.cells (rows do9 [putX ((k : Int) + 2) [⟨Sto.sb, 2, -z⟩, ⟨Sto.sa, 3, -z⟩] w4.heap.size]).toArray 29))
          have OT1 := hid (OT.start (HR.out.on BG.out).row.own)
          have hE6 := hid ((hE4.out.below b5).alloc (.cells (rows do9 [putX ((k : Int) + 2) [⟨Sto.sb, 2, -z⟩, ⟨Sto.sa, 3, -z⟩] w4.heap.size]).toArray 29))
          rw [hXl] at OT1
          clear b4 b5
          go_wp2_with (first | (at_builtin; refine wpList_append_t rfl (.tmp 53) (.tmp 64) 34 34 rfl w.heap.size 29 9 96 (.agg #[.int .i64 0, .int .i64 0, .int .i64 0, .int .i64 0, .int .u8 0, .int .i64 0, .slice none 0 0, .string ⟨#[]⟩, .int .i64 0]) Try.underlying34 info_Do rfl (by decide) (.slice xa (k + 1) xc) (k + 1) (rows do9 X) rfl OT1.out _ 1 _ rfl SS.out (by unfold maxLen; omega) (by omega) (by simp; omega) ?_; intro v7 w7 o7 g7; have HR7 := hid (HN1.out _ w7 v7 _ _ [⟨Sto.sb, 2, -z⟩, ⟨Sto.sa, 3, -z⟩] BG.out HMD.out hE6.out (by omega) (by rw [hXl]; exact o7) (by rw [hXl]) (by rw [hXl]; exact g7)); have hs7 := HR7.out.below.size; have SB := hid (Src.ofLit (P := Try.prog) w7 #[.bool true] 4 1 1 Try.underlying74 rfl (by simp [Value.oneCell'])); have OT2 := hid (OT.start (HR7.out.on ((Below.refl w7.heap.size w7).alloc (Nat.le_refl _) (.cells #[.bool true] 4))).gd); rw [hGl] at OT2; clear o7 g7) | (at_builtin; refine wpList_append_t rfl (.tmp 66) (.tmp 71) 74 74 rfl w.heap.size 4 1 1 (.bool false) Try.underlying74 info_bool rfl (by decide) (.slice ga k gc) k ((Sto.moneyG (zs.take k) 0).map Value.bool) rfl OT2.out _ 1 _ rfl SB.out (by unfold maxLen; omega) (by omega) (by simp; omega) ?_; intro v9 w9 o9 g9))
          have HR9 := HN2.out _ w9 v7 v9 _ _ (HR7.out.on ((Below.refl w7.heap.size w7).alloc (Nat.le_refl _) (.cells #[.bool true] 4))) true HDG.out (by rw [hGl]; exact o9) (by rw [hGl]) (by rw [hGl]; exact g9)
          go_roundg (zn - (k + 1))
          case measure => omega
          case rel => exact ⟨k + 1, _, rfl, by omega, by go_num, by rw [HNH.out, HMH.out], HR9, HG2.out hzz.out⟩
        · have HDG := hid (show decide (0 ≤ H + z) = decide (0 ≤ H + z) from rfl)
          have HMH := hid (show Sto.moneyH H z = H from if_neg hHz)
          go_wp2_with fail
          go_at_call 18; refine (DB.out _ _).mono ?_; rintro e w3 ⟨rfl, b3⟩
          go_wp2_with fail
          go_at_call 29; refine (DT.out _ _).mono ?_; rintro e w4 ⟨rfl, b4'⟩
          have b4 := bnext b3 b4'
          clear b3 b4'
          have hE4 := hid (es2 (w := w4) (l := [⟨Sto.sb, 2, -z⟩, ⟨Sto.sa, 3, -z⟩]) (by simp) (by simp))
          have bE := hid (b4.alloc b4.size (.cells (evCells [⟨Sto.sb, 2, -z⟩, ⟨Sto.sa, 3, -z⟩]).toArray 32))
          go_wp2_with fail
          go_at_call 16; refine (putT_call _ _ _ _ _).mono ?_; rintro e w5 ⟨rfl, b5⟩
          have bF := hid (bnext bE.out b5)
          have hb4 := b4.size
          have hb5 := b5.size
          rw [World.size_alloc] at hb5
          have hwl := w5.heap.size
          have SS := hid (lit_src (w := w5) (Y := [putX ((k : Int) + 2) [⟨Sto.sb, 2, -z⟩, ⟨Sto.sa, 3, -z⟩] w4.heap.size]) (tx := 34) Try.underlying34)
          have BG := hid (bF.out.alloc bF.out.size (.cells (rows do9 [putX ((k : Int) + 2) [⟨Sto.sb, 2, -z⟩, ⟨Sto.sa, 3, -z⟩] w4.heap.size]).toArray 29))
          have OT1 := hid (OT.start (HR.out.on BG.out).row.own)
          have hE6 := hid ((hE4.out.below b5).alloc (.cells (rows do9 [putX ((k : Int) + 2) [⟨Sto.sb, 2, -z⟩, ⟨Sto.sa, 3, -z⟩] w4.heap.size]).toArray 29))
          rw [hXl] at OT1
          clear b4 b5
          go_wp2_with (first | (at_builtin; refine wpList_append_t rfl (.tmp 53) (.tmp 64) 34 34 rfl w.heap.size 29 9 96 (.agg #[.int .i64 0, .int .i64 0, .int .i64 0, .int .i64 0, .int .u8 0, .int .i64 0, .slice none 0 0, .string ⟨#[]⟩, .int .i64 0]) Try.underlying34 info_Do rfl (by decide) (.slice xa (k + 1) xc) (k + 1) (rows do9 X) rfl OT1.out _ 1 _ rfl SS.out (by unfold maxLen; omega) (by omega) (by simp; omega) ?_; intro v7 w7 o7 g7; have HR7 := hid (HN1.out _ w7 v7 _ _ [⟨Sto.sb, 2, -z⟩, ⟨Sto.sa, 3, -z⟩] BG.out HMD.out hE6.out (by omega) (by rw [hXl]; exact o7) (by rw [hXl]) (by rw [hXl]; exact g7)); have hs7 := HR7.out.below.size; have SB := hid (Src.ofLit (P := Try.prog) w7 #[.bool (decide (0 ≤ H + z))] 4 1 1 Try.underlying74 rfl (by simp [Value.oneCell'])); have OT2 := hid (OT.start (HR7.out.on ((Below.refl w7.heap.size w7).alloc (Nat.le_refl _) (.cells #[.bool (decide (0 ≤ H + z))] 4))).gd); rw [hGl] at OT2; clear o7 g7) | (at_builtin; refine wpList_append_t rfl (.tmp 66) (.tmp 71) 74 74 rfl w.heap.size 4 1 1 (.bool false) Try.underlying74 info_bool rfl (by decide) (.slice ga k gc) k ((Sto.moneyG (zs.take k) 0).map Value.bool) rfl OT2.out _ 1 _ rfl SB.out (by unfold maxLen; omega) (by omega) (by simp; omega) ?_; intro v9 w9 o9 g9))
          have HR9 := HN2.out _ w9 v7 v9 _ _ (HR7.out.on ((Below.refl w7.heap.size w7).alloc (Nat.le_refl _) (.cells #[.bool (decide (0 ≤ H + z))] 4))) (decide (0 ≤ H + z)) rfl (by rw [hGl]; exact o9) (by rw [hGl]) (by rw [hGl]; exact g9)
          go_roundg (zn - (k + 1))
          case measure => omega
          case rel => exact ⟨k + 1, _, rfl, by omega, by go_num, by rw [HNH.out, HMH.out], HR9, HG2.out hzz.out⟩
    · have hkn : k = zn := by omega
      subst hkn
      have htk : zs.take k = zs := List.take_of_length_le (by have := HZN.out; omega)
      have hgd := HG.out
      rw [htk] at hgd HR hH hGl ⊢
      replace htk := hid htk
      obtain ⟨s1, a1, hp1, hl1, hj1, hs1⟩ := Sto.money_plain zs hgd (by rw [HZN.out]; omega)
      rw [HZN.out] at hl1 hj1
      have hal : a1.length = k + 1 := hl1
      obtain ⟨da, dc, e5, hD⟩ := (RowL.mk HR.out.row HR.out.eq HR.out.below).dos
      have hDl : (Sto.opAB :: Sto.moneyDs zs 0).length = k + 1 := by rw [List.length_cons, Sto.moneyDs_len, HZN.out]
      rw [hDl] at hD e5
      rw [hXl] at e5
      cases e5
      have D1 := hid (stPlay_call 2 1 3 _ _ _ _ wo hD)
      have P1 := hid hp1
      have A1 := hid hal
      have Q1 := hid (And.intro hj1 hs1)
      have BWO := hid HR.out.below
      have HGD := HR.out.gd
      rw [hGl] at HGD
      obtain ⟨ga', gc', e6, hG6⟩ := own_sl HGD
      cases e6
      have HG6 := hid hG6
      have HGL := hid hGl
      generalize Sto.moneyHs zs 0 = H at *
      have hAs : ∀ (m : Mst), StM wo w.heap.size m → True := fun _ _ => trivial
      clear hp1 hl1 hj1 hs1 hal hD hDl HGD hG6 hgd HR hAs hGl
      go_wp2_with fail
      go_at_call 19; refine (D1.out).mono ?_; rintro e v1 ⟨m1, av1, ac1, L1, er1, rfl, hM, hA, hP2, b1⟩
      have hPP := P1.out.symm.trans hP2
      simp only [Prod.mk.injEq] at hPP
      obtain ⟨hst, hp1, rfl⟩ := hPP
      obtain ⟨ab1, ao1, rfl, -, hl1, hat⟩ := hA.gets hp1 (by rw [A1.out]; omega)
      rw [A1.out] at hl1
      rw [hl1]
      obtain ⟨va_1, vc_1, ta_1, tc_1, sa_1, sc_1, aa_1, ac_1, hv, -, -, -, hav⟩ := hM.val
      rw [hv]
      have BC1 := hid ((Below.refl v1.heap.size v1).alloc (Nat.le_refl _) (.cells #[.int .i64 m1.d, .int .i64 m1.s, .int .i64 m1.b, .slice va_1 m1.D.length vc_1, .int .i64 (m1.g : Int), .slice ta_1 m1.T.length tc_1, .slice sa_1 m1.seen.length sc_1, .int .i64 m1.u, .slice aa_1 m1.A.length ac_1] 44))
      have GT1 := hid hat
      replace hl1 := hid hl1
      have B1 := hid (b1.alloc b1.size (.cells #[.int .i64 m1.d, .int .i64 m1.s, .int .i64 m1.b, .slice va_1 m1.D.length vc_1, .int .i64 (m1.g : Int), .slice ta_1 m1.T.length tc_1, .slice sa_1 m1.seen.length sc_1, .int .i64 m1.u, .slice aa_1 m1.A.length ac_1] 44))
      have BO1 := hid b1
      have hac := hM.accs
      rw [hav] at hac
      obtain ⟨aq, cq, eq, hacs⟩ := own_sl hac
      cases eq
      have HAC := hid (As.mk hacs hM.aok)
      have hsum : (Vw.get m1.A Sto.sa).sum = H := by have := Q1.out.2; rw [hst] at this; exact this
      replace hsum := hid hsum
      clear hv hp1 hA hP2 hat b1 hM hac hacs hav hst
      obtain ⟨W, hW⟩ : ∃ W, W = v1.alloc (.cells #[.int .i64 m1.d, .int .i64 m1.s, .int .i64 m1.b, .slice va_1 m1.D.length vc_1, .int .i64 (m1.g : Int), .slice ta_1 m1.T.length tc_1, .slice sa_1 m1.seen.length sc_1, .int .i64 m1.u, .slice aa_1 m1.A.length ac_1] 44) := ⟨_, rfl⟩
      have BW := hid (show Below w.heap.size w W by rw [hW]; exact bnext BWO.out B1.out)
      have BV1 := hid (show Below v1.heap.size v1 W by rw [hW]; exact BC1.out)
      have BX := hid (show Below wo.heap.size wo W by rw [hW]; exact B1.out)
      have qb := blk_new v1 (.cells #[.int .i64 m1.d, .int .i64 m1.s, .int .i64 m1.b, .slice va_1 m1.D.length vc_1, .int .i64 (m1.g : Int), .slice ta_1 m1.T.length tc_1, .slice sa_1 m1.seen.length sc_1, .int .i64 m1.u, .slice aa_1 m1.A.length ac_1] 44)
      rw [← hW] at qb
      have QB := hid qb
      have HAT := hid (show ∀ i, i < k → ∃ (b : Bool) (y : Am) (gb go : Nat), ga = some ⟨gb, go, none⟩ ∧ W.cell? ⟨gb, go + i, none⟩ = some (.bool b) ∧ AnAt W ab1 ao1 (i + 1) y ∧ y.err = if b = true then 0 else 8 from fun i hi => by
        obtain ⟨gb, go, e, hc⟩ := HG6.out.addr (by omega)
        obtain ⟨x, hx, he⟩ := Q1.out.1 i hi
        obtain ⟨y, hy, -, T⟩ := GT1.out _ _ hx
        have hgi : i < (Sto.moneyG zs 0).length := by rw [HGL.out]; exact hi
        refine ⟨(Sto.moneyG zs 0)[i], y, gb, go, e, ?_, T.below BV1.out, ?_⟩
        · have h1 := hc i (.bool (Sto.moneyG zs 0)[i]) (by simp [hgi])
          exact (BX.out.cell (p := ⟨gb, _, none⟩) (World.block_lt_of_cell? _ _ h1)).trans h1
        · have e1 : y.err = x.err := congrArg Sto.An.err hy
          rw [e1, he, List.getElem?_eq_getElem hgi]
          simp only [Option.some.injEq])
      clear qb
      replace hW := hid hW
      go_wp2_with fail
      rw [← hW.out]
      go_loopg [92] k (fun g si wr => ∃ i : Nat, g = k - i ∧ i ≤ k ∧ si = .int .i64 (i : Int) ∧ wr = W)
      case atStart => exact ⟨0, rfl, by omega, rfl, rfl⟩
      case round =>
        obtain ⟨i, rfl, hi, rfl, hwr⟩ := hrel
        subst hwr
        by_cases hlt5 : i < k
        · obtain ⟨b, y, gb, go, rfl, c0, T, he⟩ := HAT.out i hlt5
          have i0 : (0 : Int) ≤ (i : Int) := by omega
          have i1 : (i : Int) < (k : Int) := by omega
          have g0 := T.c0
          rw [he] at g0
          have hwi : IntKind.i64.wrap ((i : Int) + 1) = (i : Int) + 1 := IntWalk.i64_in _ (by omega)
          replace he := hid he
          clear T
          cases b
          · rw [if_neg (by decide)] at g0
            go_wp2_with fail
            go_roundg (k - (i + 1))
            case measure => omega
            case rel => exact ⟨i + 1, rfl, by omega, by go_num, rfl⟩
          · rw [if_pos rfl] at g0
            go_wp2_with fail
            go_roundg (k - (i + 1))
            case measure => omega
            case rel => exact ⟨i + 1, rfl, by omega, by go_num, rfl⟩
        · have hik : k = i := by omega
          subst hik
          have s7 := blk_cell (i := 7) QB.out
          have s8 := blk_cell (i := 8) QB.out
          have DG := hid (vGet_call m1.u aa_1 m1.A.length ac_1 m1.A ⟨#[97]⟩ wr (HAC.out.below BV1.out))
          unfold viVal at DG
          have hfs := field_sum (Vw.get m1.A ⟨#[97]⟩)
          have hs2 : (Vw.get m1.A ⟨#[97]⟩).sum = H := hsum.out
          rw [hs2] at hfs
          clear hs2
          generalize Vw.get m1.A ⟨#[97]⟩ = Xa at *
          go_wp2_with fail
          go_at_call 26; refine DG.out.mono ?_; rintro e w5 ⟨rfl, b5⟩
          go_wp2_with fail
          go_ret
          exact ⟨rfl, bnext BW.out b5⟩
end Go.Proofs.Ythhcdfjijagalaa
namespace Go.Proofs.Ythhcdfjijagalaa
open Go.ChangeShapes Go.WideShapes Go.ChangeAt Go.RowKit Go.Joins
set_option linter.unusedVariables false
theorem open_is {H : Type} {enc : TypeId × Value → H} {w : World} {base fuel : Nat} {spare : Nat → Bool} {held : Bool} {v : Value} {x : DataW H × List MemPlace}
    (h : DataW.trod enc Try.prog w base spare held fuel 22 [v] = some x) : ∃ a n cap zs, v = .slice a n cap ∧ Is w a n cap zs := by
  rcases open_ints Try.underlying22 Try.underlying3 (by kernel_rfl) h with ⟨hcs, _⟩ | ⟨a, n, cap, zs, hcs, _, hl, hm, hz, _, hc, hw⟩
  · obtain rfl : v = .slice none 0 0 := by simpa using hcs
    exact ⟨none, 0, 0, [], rfl, Sl.none _ _⟩
  · obtain rfl : v = .slice (some a) n cap := by simpa using hcs
    have hzn : n ≤ zs.length := by rw [hz]; split <;> omega
    refine ⟨some a, n, cap, zs.take n, rfl, hl, hm, (by simp; omega), (fun e => by cases e), fun hn => ?_⟩
    obtain ⟨b, off, rfl, hcell⟩ := ints_at hc (by omega)
    refine ⟨b, off, rfl, fun j u hj => ?_⟩
    have hj' : j < n := by
      have := (List.getElem?_eq_some_iff.1 hj).1
      simp at this; omega
    have hjl : j < zs.length := by omega
    simp [hj', hjl] at hj
    rw [hcell j hjl, ← hj]
    simp [List.getD, hjl]
end Go.Proofs.Ythhcdfjijagalaa
