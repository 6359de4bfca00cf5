/- Joined, and what is not used struck: SpP4, OpenI. -/
import Derived.Test.YthhcdfjijagalaaM41
import Derived.Test.YthhcdfjijagalaaM10
import Derived.Test.YthhcdfjijagalaaM04
import Derived.Test.YthhcdfjijagalaaM24
import Derived.Deep.Slices
import Derived.Deep.Fields
import Derived.SizedLaws
namespace Go.Proofs.Ythhcdfjijagalaa
open Go.RowKit Go.Maps
set_option linter.unusedVariables false
set_option linter.unusedSimpArgs false
set_option maxRecDepth 100000
/-- one more number -/
theorem Row3.step {w wr W w5 W2 w9 : World} {v vw v5 vw9 : Value} {zs : List Int} {k n' n2 : Nat} {X : List Dod} {B : Nat} (h : Row3 w wr v vw (Sto.opA :: Sto.addsD (zs.take k) 2) (Sto.evA (zs.take k)) X) (hk : k < zs.length) (hb : Below wr.heap.size wr W) (he : Es W (some ⟨B, 0, none⟩) 1 1 [⟨Sto.sa, 2, zs[k]⟩]) (hB : wr.heap.size ≤ B)
    (o : OT W w5 v.ownBlock w.heap.size 29 9 v5 n' (rows do9 X ++ rows do9 [putX (2 + (k : Int)) [⟨Sto.sa, 2, zs[k]⟩] B])) (hn : n' = X.length + 1) (hg : W.grownBy w5 v.ownBlock) :
    Row3 w w5 v5 vw (Sto.opA :: Sto.addsD (zs.take (k + 1)) 2) (Sto.evA (zs.take k)) (X ++ [putX (2 + (k : Int)) [⟨Sto.sa, 2, zs[k]⟩] B]) := by
  have h1 := (h.on hb).add o hn hg (fun x hx => by obtain rfl := List.mem_singleton.1 hx; exact he) (fun x hx => by obtain rfl := List.mem_singleton.1 hx; exact putX_ok _ _ _) (fun x hx hn b o e => by
    obtain rfl := List.mem_singleton.1 hx
    have e : some (⟨B, 0, none⟩ : Addr) = some ⟨b, o, none⟩ := e
    cases e
    refine ⟨fun e2 => ?_, fun e2 => ?_⟩
    · have := (h.row.own.lt _ e2).2
      omega
    · have := (h.want.lt _ e2).2
      omega)
  have e : Sto.opA :: Sto.addsD (zs.take (k + 1)) 2 = (Sto.opA :: Sto.addsD (zs.take k) 2) ++ [putX (2 + (k : Int)) [⟨Sto.sa, 2, zs[k]⟩] B].map Dod.d := by
    rw [List.take_add_one, List.getElem?_eq_getElem hk]
    show Sto.opA :: Sto.addsD (zs.take k ++ [zs[k]]) 2 = _
    rw [Sto.addsD_snoc, List.length_take, Nat.min_eq_left (by omega)]; rfl
  rw [e]; exact h1
theorem Row3.step2 {w W w9 : World} {v vw vw9 : Value} {zs : List Int} {k n2 : Nat} {l : List Sto.Do} {X : List Dod} (h : Row3 w W v vw l (Sto.evA (zs.take k)) X) (hk : k < zs.length) (o : OT W w9 vw.ownBlock w.heap.size 32 3 vw9 n2 (evCells (Sto.evA (zs.take k)) ++ [.string Sto.sa, .int .i64 2, .int .i64 zs[k]])) (hn : n2 = (Sto.evA (zs.take k)).length + 1) (hg : W.grownBy w9 vw.ownBlock) :
    Row3 w w9 v vw9 l (Sto.evA (zs.take (k + 1))) X := by
  have h1 := h.ev ⟨Sto.sa, 2, zs[k]⟩ o hn hg
  have e : Sto.evA (zs.take (k + 1)) = Sto.evA (zs.take k) ++ [⟨Sto.sa, 2, zs[k]⟩] := by
    rw [List.take_add_one, List.getElem?_eq_getElem hk]
    exact Sto.evA_snoc _ _
  rw [e]; exact h1
theorem take_good {zs : List Int} {k : Nat} (h : ∀ n ∈ zs.take k, 0 ≤ n ∧ n ≤ 1000000) (hk : k < zs.length) (hg : 0 ≤ zs[k] ∧ zs[k] ≤ 1000000) : ∀ n ∈ zs.take (k + 1), 0 ≤ n ∧ n ≤ 1000000 := fun n hn => by
  rw [List.take_add_one, List.getElem?_eq_getElem hk] at hn
  rcases List.mem_append.1 hn with hn | hn
  · exact h n hn
  · have hn : n ∈ [zs[k]] := hn
    obtain rfl := List.mem_singleton.1 hn; exact hg
theorem own_es {w : World} {base n cap : Nat} {a : Option Addr} {E : List Evt.Ev} (h : w.ownsRow base 32 3 (.slice a n cap) E.length (evCells E)) (hn : E.length = n) (ho : ∀ e ∈ E, e.s.size ≤ maxLen) : Es w a n cap E := by
  obtain ⟨a', c', e, hs⟩ := own_sl h
  cases e
  exact ⟨hs, ho⟩
theorem evA_ok (l : List Int) : ∀ e ∈ Sto.evA l, e.s.size ≤ maxLen := fun e he => by
  unfold Sto.evA at he
  rcases List.mem_cons.1 he with rfl | he
  · exact sa_ok
  · obtain ⟨n, _, rfl⟩ := List.mem_map.1 he
    exact sa_ok
theorem own_some {w : World} {base sz n n' cap : Nat} {e : TypeId} {a : Option Addr} {xs : List Value} (h : w.ownsRow base e sz (.slice a n cap) n' xs) (hn : 0 < n') : ∃ b, a = some ⟨b, 0, none⟩ := by
  rcases h.2 with ⟨_, h2⟩ | ⟨g, cap', cur, hv, _⟩
  · omega
  · injection hv with hv
    exact ⟨g, hv⟩
/-- whose turn it is -/
def loseU (F1 F2 N : Int) (P : Nat) : Nat → List Int
  | 0 => turnU F1 N P
  | _ + 1 => turnU F2 N P
def loseL (L : List Sto.Do) (F1 F2 N : Int) (P : Nat) : Nat → List Sto.Do
  | 0 => L
  | i + 1 => loseL L F1 F2 N P i ++ Sto.roundD (loseU F1 F2 N P i)
def loseA (b P : Nat) : Nat → List Int
  | 0 => []
  | i + 1 => loseA b P i ++ [((b + i * (2 * P + 2) + P : Nat) : Int)]
theorem loseU_len (F1 F2 N : Int) (P i : Nat) : (loseU F1 F2 N P i).length = P := by cases i <;> exact turnU_len _ _ _
theorem loseL_len (L : List Sto.Do) (F1 F2 N : Int) (P i : Nat) : (loseL L F1 F2 N P i).length = L.length + i * (2 * P + 2) := by
  induction i with
  | zero => show L.length = _; omega
  | succ i ih =>
    show (loseL L F1 F2 N P i ++ Sto.roundD _).length = _
    rw [List.length_append, ih]
    unfold Sto.roundD
    simp only [List.length_append, List.length_cons, List.length_nil, Sto.hurtD_len, loseU_len]
    rw [Nat.add_mul]
    omega
theorem loseA_len (b P i : Nat) : (loseA b P i).length = i := by
  induction i with
  | zero => rfl
  | succ i ih => show (loseA b P i ++ _).length = _; rw [List.length_append, ih]; rfl
theorem lose_at {W : World} {LB : Nat} {f1 f2 : Int} (h : W.heap[LB]? = some (.cells #[.int .i64 f1, .int .i64 f2] 3 (0, 0))) (h1 : 0 ≤ f1) (h2 : 0 ≤ f2) (N : Int) (P : Nat) {i : Nat} (hi : i < 2) :
    ∃ f, W.cell? ⟨LB, i, none⟩ = some (.int .i64 f) ∧ 0 ≤ f ∧ loseU (Int.tmod f1 N) (Int.tmod f2 N) N P i = turnU (Int.tmod f N) N P := by
  rcases i with _ | _ | i
  · exact ⟨f1, blk_cell h, h1, rfl⟩
  · exact ⟨f2, blk_cell h, h2, rfl⟩
  · omega
set_option maxHeartbeats 8000000 in
theorem TopLose_walk (d p : Int) (za : Option Addr) (zn zc : Nat) (zs : List Int) (f1 f2 : Int) (w : World) (hZ : Is w za zn zc zs) : Calls Try.prog 3 #[.int .i64 d, .int .i64 p, .slice za zn zc, .int .i64 f1, .int .i64 f2] w (Grew (.bool true) w) := by
  have HZ := hid hZ
  have HZN := hid (show zs.length = zn by have := hZ.len; simpa using this)
  have hle := hZ.le
  have hmax := hZ.max
  unfold maxLen at hmax
  clear hZ
  go_enter Try.func3, Try.ntmps3
  go_wp2_with fail
  go_at_call 14; refine (aliveT_call _).mono ?_; rintro e w1 ⟨rfl, b1⟩
  have bA := hid b1
  clear b1
  go_wp2_with fail
  go_at_call 15; refine (smallT_call d p w1).mono ?_; rintro e w1' ⟨rfl, rfl⟩
  by_cases hs : smallP d p
  · rw [decide_eq_true hs]
    have HS := hid hs
    have hs1 : 1 ≤ d ∧ d ≤ 8 ∧ 0 ≤ p ∧ p ≤ 4 := hs
    replace hs := hid hs
    obtain ⟨P, rfl⟩ := Int.eq_ofNat_of_zero_le (a := p) (by omega)
    by_cases hz12 : 12 < zn
    · have hz12' : (12 : Int) < (zn : Int) := by omega
      go_wp2_with fail
      go_ret
      exact ⟨rfl, bA.out⟩
    have hz12' : ¬ (12 : Int) < (zn : Int) := by omega
    by_cases hf1 : f1 < 0
    · go_wp2_with fail
      go_ret
      exact ⟨rfl, bA.out⟩
    by_cases hf2 : f2 < 0
    · go_wp2_with fail
      go_ret
      exact ⟨rfl, bA.out⟩
    obtain ⟨N, hN⟩ : ∃ N, N = d + (P : Int) := ⟨_, rfl⟩
    have hN1 : 1 ≤ N ∧ N ≤ 12 ∧ (P : Int) < N := by omega
    have eN : d + (P : Int) = N := hN.symm
    replace hN := hid hN
    go_wp2_with fail
    go_at_call 17; refine (openT_call _ _).mono ?_; rintro e w2 ⟨rfl, b2⟩
    have bB := hid (bnext bA.out b2)
    have hE2 := hid (lit_es (w := w2) (l := [⟨Sto.sa, 1, 0⟩]) (by decide) (fun e he => by obtain rfl := List.mem_singleton.1 he; exact sa_ok))
    have bC := hid (bB.out.alloc bB.out.size (.cells (evCells [⟨Sto.sa, 1, 0⟩]).toArray 32))
    clear b2
    go_wp2_with fail
    go_at_call 16; refine (putT_call _ _ _ _ _).mono ?_; rintro e w3 ⟨rfl, b3⟩
    have bD := hid (bnext bC.out b3)
    have hX0 := hid (DoO.lit (w := w3) (base := w.heap.size) bD.out.size [putX 1 [⟨Sto.sa, 1, 0⟩] w2.heap.size] (by simp) (fun x hx => by obtain rfl := List.mem_singleton.1 hx; exact hE2.out.below b3) (fun x hx => by obtain rfl := List.mem_singleton.1 hx; exact putX_ok _ _ _))
    have bE := hid (bD.out.alloc bD.out.size (.cells (rows do9 [putX 1 [⟨Sto.sa, 1, 0⟩] w2.heap.size]).toArray 29))
    have hlt2 := hid (show w2.heap.size < w3.heap.size by have := b3.size; rw [World.size_alloc] at this; omega)
    clear b3
    go_wp2_with fail
    go_at_call 17; refine (openT_call _ _).mono ?_; rintro e w4 ⟨rfl, b4⟩
    have bF := hid (bnext bE.out b4)
    have hlt4 := b4.size
    rw [World.size_alloc] at hlt4
    have R0 : Row3 w (w4.alloc (.cells (evCells [⟨Sto.sa, 1, 0⟩]).toArray 32)) (.slice (some ⟨w3.heap.size, 0, none⟩) 1 1) (.slice (some ⟨w4.heap.size, 0, none⟩) 1 1) (Sto.opA :: Sto.addsD (zs.take 0) 2) (Sto.evA (zs.take 0)) [putX 1 [⟨Sto.sa, 1, 0⟩] w2.heap.size] :=
      ⟨(hX0.out.below b4).alloc _, rfl, bF.out.alloc bF.out.size _, World.ownsRow_lit (e := 32) (base := w.heap.size) (size := 3) w4 (evCells [⟨Sto.sa, 1, 0⟩]).toArray 1 bF.out.size (by unfold maxLen; omega) (by simp [evCells_length]), fun x hx hn b o e e2 => by
        obtain rfl := List.mem_singleton.1 hx
        have e : some (⟨w2.heap.size, 0, none⟩ : Addr) = some ⟨b, o, none⟩ := e
        cases e
        have e2 : some w4.heap.size = some w2.heap.size := e2
        injection e2 with e2
        have := hlt2.out
        omega⟩
    replace R0 := hid R0
    clear b4 hlt4
    go_wp2_with fail
    go_loopg [12, 13, 56] zn (fun g sv sw si wr => ∃ (k : Nat) (X : List Dod), g = zn - k ∧ k ≤ zn ∧ si = .int .i64 (k : Int) ∧ Row3 w wr sv sw (Sto.opA :: Sto.addsD (zs.take k) 2) (Sto.evA (zs.take k)) X ∧ ∀ n ∈ zs.take k, 0 ≤ n ∧ n ≤ 1000000)
    case atStart => exact ⟨0, _, rfl, by omega, rfl, R0.out, fun n hn => by simp at hn⟩
    case round =>
      clear R0
      obtain ⟨k, X, rfl, hk, rfl, hR, hgood⟩ := hrel
      obtain ⟨wo, rfl⟩ : ∃ wo : World, wo = wr := ⟨_, rfl⟩
      have HR := hid hR
      have HG := hid hgood
      have hXl : X.length = k + 1 := by rw [hR.len, List.length_cons, Sto.addsD_len, List.length_take, HZN.out]; omega
      have hEl : (Sto.evA (zs.take k)).length = k + 1 := by rw [Sto.evA_len, List.length_take, HZN.out]; omega
      obtain ⟨xa, xc, rfl, -⟩ := own_sl hR.row.own
      obtain ⟨wa, wc, rfl, -⟩ := own_sl hR.want
      have hsz := hR.below.size
      rw [hXl, hEl]
      clear hR hgood
      by_cases hlt : k < zn
      · have hkz : k < zs.length := by rw [HZN.out]; exact hlt
        obtain ⟨zb, zoff, rfl, hzc⟩ := HZ.out.addr (by omega)
        have hz0 := hzc k (.int .i64 zs[k]) (by simp [hkz])
        have z0 : wo.cell? ⟨zb, zoff + k, none⟩ = some (.int .i64 zs[k]) := (HR.out.below.cell (p := ⟨zb, _, none⟩) (World.block_lt_of_cell? _ _ hz0)).trans hz0
        have i0 : (0 : Int) ≤ (k : Int) := by omega
        have i1 : (k : Int) < (zn : Int) := by omega
        have HN1 := hid (fun W w5 v5 n' B h1 h2 h3 h4 h5 h6 => @Row3.step w wo W w5 wo wo (.slice xa X.length xc) (.slice wa (Sto.evA (zs.take k)).length wc) v5 v5 zs k n' n' X B HR.out hkz h1 h2 h3 h4 h5 h6)
        have HN2 := hid (fun W w9 v vw9 n2 (X : List Dod) h (h1 : OT W w9 _ w.heap.size 32 3 vw9 n2 _) h2 h3 => @Row3.step2 w W w9 v (.slice wa (Sto.evA (zs.take k)).length wc) vw9 zs k n2 (Sto.opA :: Sto.addsD (zs.take (k + 1)) 2) X h hkz h1 h2 h3)
        have HG2 := hid (fun hz => take_good HG.out hkz hz)
        clear hz0 hzc
        generalize hzk : zs[k] = z at *
        replace hzk := hid hzk
        by_cases hz1 : z < 0
        · have u1 : decide (z < 0) = true := decide_eq_true hz1
          replace hz1 := hid hz1
          go_wp2_with fail
          go_ret
          exact ⟨rfl, HR.out.below⟩
        by_cases hz2 : 1000000 < z
        · have u2 : decide (1000000 < z) = true := decide_eq_true hz2
          have u1 : 0 ≤ z := by omega
          replace hz2 := hid hz2
          replace hz1 := hid hz1
          go_wp2_with fail
          go_ret
          exact ⟨rfl, HR.out.below⟩
        have u1 : 0 ≤ z := by omega
        have u2 : z ≤ 1000000 := by omega
        have hzz := hid (show 0 ≤ z ∧ z ≤ 1000000 from ⟨u1, u2⟩)
        replace hz1 := hid hz1
        replace hz2 := hid hz2
        have hwr2 : IntKind.i64.wrap ((k : Int) + 2) = (k : Int) + 2 := IntWalk.i64_in _ (by omega)
        go_wp2_with fail
        go_at_call 18; refine (addT_call _ _ _).mono ?_; rintro e w4 ⟨rfl, b4⟩
        have hE4 := hid (lit_es (w := w4) (l := [⟨Sto.sa, 2, z⟩]) (by simp [maxLen]) (fun e he => by obtain rfl := List.mem_singleton.1 he; exact sa_ok))
        have bE := hid (b4.alloc b4.size (.cells (evCells [⟨Sto.sa, 2, z⟩]).toArray 32))
        go_wp2_with fail
        go_at_call 16; refine (putT_call _ _ _ _ _).mono ?_; rintro e w5 ⟨rfl, b5⟩
        have bF := hid (bnext bE.out b5)
        have hb4 := b4.size
        have hb5 := b5.size
        rw [World.size_alloc] at hb5
        have hwl := w5.heap.size
        have SS := hid (lit_src (w := w5) (Y := [putX (2 + (k : Int)) [⟨Sto.sa, 2, z⟩] w4.heap.size]) (tx := 34) Try.underlying34)
        have BG := hid (bF.out.alloc bF.out.size (.cells (rows do9 [putX (2 + (k : Int)) [⟨Sto.sa, 2, z⟩] w4.heap.size]).toArray 29))
        have OT1 := hid (OT.start (HR.out.on BG.out).row.own)
        have hE6 := hid ((hE4.out.below b5).alloc (.cells (rows do9 [putX (2 + (k : Int)) [⟨Sto.sa, 2, z⟩] w4.heap.size]).toArray 29))
        rw [hXl] at OT1
        have hc2 : (k : Int) + 2 = 2 + (k : Int) := by omega
        rw [hc2]
        replace hc2 := hid hc2
        clear b4 b5 hwr2
        go_wp2_with (at_builtin; refine wpList_append_t rfl (.tmp 67) (.tmp 74) 34 34 rfl w.heap.size 29 9 96 (.agg #[.int .i64 0, .int .i64 0, .int .i64 0, .int .i64 0, .int .u8 0, .int .i64 0, .slice none 0 0, .string ⟨#[]⟩, .int .i64 0]) Try.underlying34 info_Do rfl (by decide) (.slice xa (k + 1) xc) (k + 1) (rows do9 X) rfl OT1.out _ 1 _ rfl SS.out (by unfold maxLen; omega) (by omega) (by simp; omega) ?_; intro v7 w7 o7 g7)
        have HR7 := hid (HN1.out _ w7 v7 _ _ BG.out hE6.out (by omega) (by rw [hXl]; exact o7) (by rw [hXl]) (by rw [hXl]; exact g7))
        have hs7 := HR7.out.below.size
        clear o7 g7
        go_at_call 18; refine (addT_call _ _ _).mono ?_; rintro e w8 ⟨rfl, b8⟩
        have hb8 := b8.size
        have BH := hid (b8.alloc b8.size (.cells #[.string Sto.sa, .int .i64 2, .int .i64 z] 32))
        have S2 := hid (Src.ofLit (P := Try.prog) w8 #[.string Sto.sa, .int .i64 2, .int .i64 z] 32 1 3 Try.underlying25 rfl (by simp [Value.oneCell']))
        have OT2 := hid (OT.start (HR7.out.on BH.out).want)
        rw [hEl] at OT2
        clear b8
        go_wp2_with (at_builtin; refine wpList_append_t rfl (.tmp 76) (.tmp 79) 25 25 rfl w.heap.size 32 3 32 (.agg #[.string ⟨#[]⟩, .int .i64 0, .int .i64 0]) Try.underlying25 info_ev rfl (by decide) (.slice wa (k + 1) wc) (k + 1) (evCells (Sto.evA (zs.take k))) rfl OT2.out _ 1 _ rfl S2.out (by unfold maxLen; omega) (by omega) (by simp; omega) ?_; intro v9 w9 o9 g9)
        have HR9 := HN2.out _ w9 v7 v9 _ _ (HR7.out.on BH.out) (by rw [hEl]; exact o9) (by rw [hEl]) (by rw [hEl]; exact g9)
        go_roundg (zn - (k + 1))
        case measure => omega
        case rel => exact ⟨k + 1, _, rfl, by omega, by go_num, HR9, HG2.out hzz.out⟩
      · have hkn : k = zn := by omega
        subst hkn
        have htk : zs.take k = zs := List.take_of_length_le (by have := HZN.out; omega)
        have hgd := HG.out
        have R3 := HR.out
        rw [htk] at hgd R3 hEl
        have HZL := hid (show (Sto.opA :: Sto.addsD zs 2).length = k + 1 by rw [List.length_cons, Sto.addsD_len, HZN.out])
        have R4 := R3.four (f1 := f1) (f2 := f2)
        rw [hXl, hEl] at R4
        replace R4 := hid R4
        have HGD := hid hgd
        have HXL := hid hXl
        have HEL := hid hEl
        have hle0 := hlt
        clear R3 hgd hXl hEl htk
        go_wp2_with fail
        go_loopg [12, 16, 86] 2 (fun g sv sa si wr => ∃ (i : Nat) (X : List Dod), g = 2 - i ∧ i ≤ 2 ∧ si = .int .i64 (i : Int) ∧ Row4 w wr wo.heap.size f1 f2 sv (.slice wa (k + 1) wc) sa (loseL (Sto.opA :: Sto.addsD zs 2) (Int.tmod f1 N) (Int.tmod f2 N) N P i) (Sto.evA zs) (loseA (k + 1) P i) X)
        case atStart => exact ⟨0, _, rfl, by omega, rfl, R4.out⟩
        case round =>
          clear R4
          obtain ⟨i, X2, rfl, hi, rfl, hR2⟩ := hrel
          obtain ⟨wq, rfl⟩ : ∃ wq : World, wq = wr := ⟨_, rfl⟩
          have HR2 := hid hR2
          obtain ⟨bl, hbl⟩ : ∃ bl, bl = (loseL (Sto.opA :: Sto.addsD zs 2) (Int.tmod f1 N) (Int.tmod f2 N) N P i).length := ⟨_, rfl⟩
          have hblv : bl = k + 1 + i * (2 * P + 2) := by rw [hbl, loseL_len, HZL.out]
          have hblb : bl ≤ 33 := by
            have := Nat.mul_le_mul hi (show 2 * P + 2 ≤ 10 by omega)
            omega
          have hbl1 : 1 ≤ bl := by omega
          have hX2 : X2.length = bl := hR2.len.trans hbl.symm
          have HBLV := hid hblv
          have PL3 := hid hbl.symm
          obtain ⟨xa2, xc2, rfl, -⟩ := own_sl hR2.row.own
          obtain ⟨aa2, ac2, rfl, -⟩ := own_sl hR2.ats
          rw [loseA_len] at HR2 ⊢
          rw [hX2] at HR2 ⊢
          have hsz2 := hR2.below.size
          have HX2 := hid hX2
          clear hbl hblv hX2
          by_cases hlt2 : i < 2
          · obtain ⟨fr, c0, hfr0, hUi⟩ := lose_at hR2.lit hf1 hf2 N P hlt2
            have HUI := hid hUi
            clear hR2 hUi
            have i0 : (0 : Int) ≤ (i : Int) := by omega
            have i1 : (i : Int) < 2 := by omega
            have hF0 : 0 ≤ Int.tmod fr N ∧ Int.tmod fr N < N := tmod_in (by omega) (by omega)
            obtain ⟨F, hF⟩ : ∃ F, F = Int.tmod fr N := ⟨_, rfl⟩
            rw [← hF] at hF0
            have eF : Int.tmod fr N = F := hF.symm
            clear hF
            go_wp2_with fail
            go_loopg [12, 91] P (fun g sv si wr => ∃ (j : Nat) (X : List Dod), g = P - j ∧ j ≤ P ∧ si = .int .i64 (j : Int) ∧ Row4 w wr wo.heap.size f1 f2 sv (.slice wa (k + 1) wc) (.slice aa2 i ac2) ((loseL (Sto.opA :: Sto.addsD zs 2) (Int.tmod f1 N) (Int.tmod f2 N) N P i) ++ Sto.hurtD 5 (turnU F N j)) (Sto.evA zs) ((loseA (k + 1) P i)) X)
            case atStart =>
              have e0 : (loseL (Sto.opA :: Sto.addsD zs 2) (Int.tmod f1 N) (Int.tmod f2 N) N P i) ++ Sto.hurtD 5 (turnU F N 0) = (loseL (Sto.opA :: Sto.addsD zs 2) (Int.tmod f1 N) (Int.tmod f2 N) N P i) := List.append_nil _
              exact ⟨0, _, rfl, by omega, rfl, by rw [e0]; exact HR2.out⟩
            case round =>
              obtain ⟨j, X3, rfl, hj, rfl, hR3⟩ := hrel
              obtain ⟨wp, rfl⟩ : ∃ wp : World, wp = wr := ⟨_, rfl⟩
              have HR3 := hid hR3
              have hX3 := hR3.len
              rw [List.length_append, Sto.hurtD_len, turnU_len, PL3.out] at hX3
              obtain ⟨xa3, xc3, rfl, -⟩ := own_sl hR3.row.own
              have hsz3 := hR3.below.size
              clear hR3
              generalize hl3 : X3.length = lX at *
              have HL3 := hid hl3
              clear hl3
              by_cases hlt3 : j < P
              · have i0 : (0 : Int) ≤ (j : Int) := by omega
                have i1 : (j : Int) < (P : Int) := by omega
                have hu0 : 0 ≤ Int.tmod (F + (j : Int)) N ∧ Int.tmod (F + (j : Int)) N < N := tmod_in (by omega) (by omega)
                have HSU := hid (turnU_succ F N j)
                obtain ⟨u, hu⟩ : ∃ u, u = Int.tmod (F + (j : Int)) N := ⟨_, rfl⟩
                have eu : Int.tmod (F + (j : Int)) N = u := hu.symm
                rw [← hu] at HSU hu0
                clear hu
                have hwl := wp.heap.size
                have SS := hid (lit_src (w := wp) (Y := [Sto.doOf 5 u].map bareX) (tx := 34) Try.underlying34)
                have OT1 := hid (OT.start (HR3.out.alloc (.cells (rows do9 ([Sto.doOf 5 u].map bareX)).toArray 29)).row.own)
                rw [HL3.out] at OT1
                go_wp2_with (at_builtin; refine wpList_append_t rfl (.tmp 94) (.tmp 103) 34 34 rfl w.heap.size 29 9 96 (.agg #[.int .i64 0, .int .i64 0, .int .i64 0, .int .i64 0, .int .u8 0, .int .i64 0, .slice none 0 0, .string ⟨#[]⟩, .int .i64 0]) Try.underlying34 info_Do rfl (by decide) (.slice xa3 lX xc3) lX (rows do9 X3) rfl OT1.out _ 1 _ rfl SS.out (by unfold maxLen; omega) (by omega) (by simp; omega) ?_; intro v7 w7 o7 g7)
                have HR7 := HR3.out.bare (m := [Sto.doOf 5 u]) (fun d hd => by obtain rfl := List.mem_singleton.1 hd; exact bare_of _ _) o7 (by rw [HL3.out]; rfl) g7
                rw [List.append_assoc, ← Sto.hurtD_snoc, ← HSU.out] at HR7
                go_roundg (P - (j + 1))
                case measure => omega
                case rel => exact ⟨j + 1, _, rfl, by omega, by go_num, HR7⟩
              · have hjp : P = j := by omega
                subst hjp
                have hlx : lX = bl + P := hX3
                subst hlx
                obtain ⟨xb3, rfl⟩ := own_some HR3.out.row.own (by rw [HL3.out]; omega)
                have hwl := wp.heap.size
                have SI := hid (Src.ofLit (P := Try.prog) wp #[.int .i64 ((bl : Int) + (P : Int))] 3 1 1 Try.underlying22 rfl (by simp [Value.oneCell']))
                have OT2 := hid (OT.start (HR3.out.alloc (.cells #[.int .i64 ((bl : Int) + (P : Int))] 3)).ats)
                rw [loseA_len] at OT2
                go_wp2_with (first | (at_builtin; refine wpList_append_t rfl (.tmp 106) (.tmp 109) 22 22 rfl w.heap.size 3 1 8 (.int .i64 0) Try.underlying22 info_int4 rfl (by decide) (.slice aa2 i ac2) i ((loseA (k + 1) P i).map (Value.int .i64)) rfl OT2.out _ 1 _ rfl SI.out (by unfold maxLen; omega) (by omega) (by simp; omega) ?_; intro va5 w5 o5 g5; have HR5 := hid (HR3.out.num ((bl : Int) + (P : Int)) o5 (by rw [loseA_len]) g5); have hs5 := HR5.out.below.size; have SS := hid (lit_src (w := w5) (Y := [Sto.doOf 3 0].map bareX) (tx := 34) Try.underlying34); have OT1 := hid (OT.start (HR5.out.alloc (.cells (rows do9 ([Sto.doOf 3 0].map bareX)).toArray 29)).row.own); rw [HL3.out] at OT1; clear o5 g5) | (at_builtin; refine wpList_append_t rfl (.tmp 111) (.tmp 113) 34 34 rfl w.heap.size 29 9 96 (.agg #[.int .i64 0, .int .i64 0, .int .i64 0, .int .i64 0, .int .u8 0, .int .i64 0, .slice none 0 0, .string ⟨#[]⟩, .int .i64 0]) Try.underlying34 info_Do rfl (by decide) (.slice (some ⟨xb3, 0, none⟩) (bl + P) xc3) (bl + P) (rows do9 X3) rfl OT1.out _ 1 _ rfl SS.out (by unfold maxLen; omega) (by omega) (by simp; omega) ?_; intro v6 w6 o6 g6))
                have HR6 := HR5.out.bare (m := [Sto.doOf 3 0]) (fun d hd => by obtain rfl := List.mem_singleton.1 hd; exact bare_of _ _) o6 (by rw [HL3.out]; rfl) g6
                have PL4 := hid (show ((loseL (Sto.opA :: Sto.addsD zs 2) (Int.tmod f1 N) (Int.tmod f2 N) N P i) ++ Sto.hurtD 5 (turnU F N P) ++ [Sto.doOf 3 0]).length = bl + P + 1 by rw [List.length_append, List.length_append, PL3.out, Sto.hurtD_len, turnU_len]; rfl)
                have EF := hid eF
                clear o6 g6
                go_loopg [12, 116] P (fun g sv si wr => ∃ (j : Nat) (X : List Dod), g = P - j ∧ j ≤ P ∧ si = .int .i64 (j : Int) ∧ Row4 w wr wo.heap.size f1 f2 sv (.slice wa (k + 1) wc) va5 (((loseL (Sto.opA :: Sto.addsD zs 2) (Int.tmod f1 N) (Int.tmod f2 N) N P i) ++ Sto.hurtD 5 (turnU F N P) ++ [Sto.doOf 3 0]) ++ Sto.hurtD 6 (turnU F N j)) (Sto.evA zs) (((loseA (k + 1) P i) ++ [(bl : Int) + (P : Int)])) X)
                case atStart =>
                  have e0 : ((loseL (Sto.opA :: Sto.addsD zs 2) (Int.tmod f1 N) (Int.tmod f2 N) N P i) ++ Sto.hurtD 5 (turnU F N P) ++ [Sto.doOf 3 0]) ++ Sto.hurtD 6 (turnU F N 0) = ((loseL (Sto.opA :: Sto.addsD zs 2) (Int.tmod f1 N) (Int.tmod f2 N) N P i) ++ Sto.hurtD 5 (turnU F N P) ++ [Sto.doOf 3 0]) := List.append_nil _
                  exact ⟨0, _, rfl, by omega, rfl, by rw [e0]; exact HR6⟩
                case round =>
                  obtain ⟨j, X3, rfl, hj, rfl, hR3⟩ := hrel
                  obtain ⟨wp, rfl⟩ : ∃ wp : World, wp = wr := ⟨_, rfl⟩
                  have HR3 := hid hR3
                  have hX3 := hR3.len
                  rw [List.length_append, Sto.hurtD_len, turnU_len, PL4.out] at hX3
                  obtain ⟨xa3, xc3, rfl, -⟩ := own_sl hR3.row.own
                  have hsz3 := hR3.below.size
                  clear hR3
                  generalize hl3 : X3.length = lX at *
                  have HL3 := hid hl3
                  clear hl3
                  by_cases hlt3 : j < P
                  · have i0 : (0 : Int) ≤ (j : Int) := by omega
                    have i1 : (j : Int) < (P : Int) := by omega
                    have hu0 : 0 ≤ Int.tmod (F + (j : Int)) N ∧ Int.tmod (F + (j : Int)) N < N := tmod_in (by omega) (by omega)
                    have HSU := hid (turnU_succ F N j)
                    obtain ⟨u, hu⟩ : ∃ u, u = Int.tmod (F + (j : Int)) N := ⟨_, rfl⟩
                    have eu : Int.tmod (F + (j : Int)) N = u := hu.symm
                    rw [← hu] at HSU hu0
                    clear hu
                    have hwl := wp.heap.size
                    have SS := hid (lit_src (w := wp) (Y := [Sto.doOf 6 u].map bareX) (tx := 34) Try.underlying34)
                    have OT1 := hid (OT.start (HR3.out.alloc (.cells (rows do9 ([Sto.doOf 6 u].map bareX)).toArray 29)).row.own)
                    rw [HL3.out] at OT1
                    go_wp2_with (at_builtin; refine wpList_append_t rfl (.tmp 119) (.tmp 128) 34 34 rfl w.heap.size 29 9 96 (.agg #[.int .i64 0, .int .i64 0, .int .i64 0, .int .i64 0, .int .u8 0, .int .i64 0, .slice none 0 0, .string ⟨#[]⟩, .int .i64 0]) Try.underlying34 info_Do rfl (by decide) (.slice xa3 lX xc3) lX (rows do9 X3) rfl OT1.out _ 1 _ rfl SS.out (by unfold maxLen; omega) (by omega) (by simp; omega) ?_; intro v7 w7 o7 g7)
                    have HR7 := HR3.out.bare (m := [Sto.doOf 6 u]) (fun d hd => by obtain rfl := List.mem_singleton.1 hd; exact bare_of _ _) o7 (by rw [HL3.out]; rfl) g7
                    rw [List.append_assoc, ← Sto.hurtD_snoc, ← HSU.out] at HR7
                    go_roundg (P - (j + 1))
                    case measure => omega
                    case rel => exact ⟨j + 1, _, rfl, by omega, by go_num, HR7⟩
                  · have hjp : P = j := by omega
                    subst hjp
                    have hlx : lX = bl + P + 1 + P := hX3
                    subst hlx
                    have hwl := wp.heap.size
                    have SS := hid (lit_src (w := wp) (Y := [Sto.doOf 8 0].map bareX) (tx := 34) Try.underlying34)
                    have OT1 := hid (OT.start (HR3.out.alloc (.cells (rows do9 ([Sto.doOf 8 0].map bareX)).toArray 29)).row.own)
                    rw [HL3.out] at OT1
                    go_wp2_with (at_builtin; refine wpList_append_t rfl (.tmp 131) (.tmp 133) 34 34 rfl w.heap.size 29 9 96 (.agg #[.int .i64 0, .int .i64 0, .int .i64 0, .int .i64 0, .int .u8 0, .int .i64 0, .slice none 0 0, .string ⟨#[]⟩, .int .i64 0]) Try.underlying34 info_Do rfl (by decide) (.slice xa3 (bl + P + 1 + P) xc3) (bl + P + 1 + P) (rows do9 X3) rfl OT1.out _ 1 _ rfl SS.out (by unfold maxLen; omega) (by omega) (by simp; omega) ?_; intro v9 w9 o9 g9)
                    have HR9 := HR3.out.bare (m := [Sto.doOf 8 0]) (fun d hd => by obtain rfl := List.mem_singleton.1 hd; exact bare_of _ _) o9 (by rw [HL3.out]; rfl) g9
                    have el : ((loseL (Sto.opA :: Sto.addsD zs 2) (Int.tmod f1 N) (Int.tmod f2 N) N P i) ++ Sto.hurtD 5 (turnU F N P) ++ [Sto.doOf 3 0]) ++ Sto.hurtD 6 (turnU F N P) ++ [Sto.doOf 8 0] = loseL (Sto.opA :: Sto.addsD zs 2) (Int.tmod f1 N) (Int.tmod f2 N) N P (i + 1) := by
                      show _ = (loseL (Sto.opA :: Sto.addsD zs 2) (Int.tmod f1 N) (Int.tmod f2 N) N P i) ++ Sto.roundD (loseU (Int.tmod f1 N) (Int.tmod f2 N) N P i)
                      rw [HUI.out, EF.out]
                      unfold Sto.roundD
                      simp only [List.append_assoc, List.cons_append, List.nil_append]
                    have ea : ((loseA (k + 1) P i) ++ [(bl : Int) + (P : Int)]) = loseA (k + 1) P (i + 1) := by
                      show _ = (loseA (k + 1) P i) ++ [((k + 1 + i * (2 * P + 2) + P : Nat) : Int)]
                      rw [← HBLV.out, Int.natCast_add]
                    rw [el, ea] at HR9
                    go_roundg (2 - (i + 1))
                    case measure => omega
                    case rel => exact ⟨i + 1, _, rfl, by omega, by go_num, HR9⟩
          · have hi2 : i = 2 := by omega
            subst hi2
            obtain ⟨xb2, rfl⟩ := own_some HR2.out.row.own (by rw [HX2.out]; omega)
            have hU : ((turnU (Int.tmod f1 N) N P).length : Int) = (P : Int) := by rw [turnU_len]
            have hV : ((turnU (Int.tmod f2 N) N P).length : Int) = (P : Int) := by rw [turnU_len]
            have hr1 : ∀ u ∈ turnU (Int.tmod f1 N) N P, 0 ≤ u ∧ u < d + (P : Int) := by rw [eN]; exact turnU_in (tmod_in hf1 (by omega)).1 (by omega) _
            have hr2 : ∀ u ∈ turnU (Int.tmod f2 N) N P, 0 ≤ u ∧ u < d + (P : Int) := by rw [eN]; exact turnU_in (tmod_in hf2 (by omega)).1 (by omega) _
            obtain ⟨s1, a1, hp1, hl1, ⟨x1, h1⟩, ⟨x2, h2⟩, ⟨x3, h3⟩, ⟨x4, h4⟩⟩ := Sto.lose_plain (wrong_small HS.out (by omega) (by omega)) zs HGD.out (by rw [HZN.out]; omega) _ _ hU hV hr1 hr2
            rw [turnU_len, turnU_len, HZN.out] at hl1
            rw [turnU_len, HZN.out] at h1
            rw [turnU_len, turnU_len, HZN.out] at h2 h3 h4
            have hbv := HBLV.out
            have el1 : k + 1 + (2 * P + 2) + (2 * P + 2) = bl := by omega
            rw [el1] at h3 h4
            have hal : a1.length = bl + 2 := by omega
            have P1 := hid hp1
            have A1 := hid hal
            have Q1 := hid (And.intro h1 (And.intro h2 (And.intro h3 h4)))
            clear hU hV hr1 hr2 hp1 hl1 h1 h2 h3 h4 el1 hal hbv hR2
            have hwl := wq.heap.size
            have SI := hid (Src.ofLit (P := Try.prog) wq #[.int .i64 (bl : Int)] 3 1 1 Try.underlying22 rfl (by simp [Value.oneCell']))
            have OT2 := hid (OT.start (HR2.out.alloc (.cells #[.int .i64 (bl : Int)] 3)).ats)
            rw [loseA_len] at OT2
            go_wp2_with (first | (at_builtin; refine wpList_append_t rfl (.tmp 136) (.tmp 139) 22 22 rfl w.heap.size 3 1 8 (.int .i64 0) Try.underlying22 info_int4 rfl (by decide) (.slice aa2 2 ac2) 2 ((loseA (k + 1) P 2).map (Value.int .i64)) rfl OT2.out _ 1 _ rfl SI.out (by unfold maxLen; omega) (by omega) (by simp; omega) ?_; intro va5 w5 o5 g5; have HR5 := hid (HR2.out.num (bl : Int) o5 (by rw [loseA_len]) g5); have hs5 := HR5.out.below.size; have SS := hid (lit_src (w := w5) (Y := [Sto.doOf 3 0, Sto.doOf 9 0].map bareX) (tx := 34) Try.underlying34); have OT1 := hid (OT.start (HR5.out.alloc (.cells (rows do9 ([Sto.doOf 3 0, Sto.doOf 9 0].map bareX)).toArray 29)).row.own); rw [HX2.out] at OT1; clear o5 g5) | (at_builtin; refine wpList_append_t rfl (.tmp 145) (.tmp 148) 34 34 rfl w.heap.size 29 9 96 (.agg #[.int .i64 0, .int .i64 0, .int .i64 0, .int .i64 0, .int .u8 0, .int .i64 0, .slice none 0 0, .string ⟨#[]⟩, .int .i64 0]) Try.underlying34 info_Do rfl (by decide) (.slice (some ⟨xb2, 0, none⟩) bl xc2) bl (rows do9 X2) rfl OT1.out _ 2 _ rfl SS.out (by unfold maxLen; omega) (by omega) (by simp; omega) ?_; intro v6 w6 o6 g6))
            have HR6 := HR5.out.bare (m := [Sto.doOf 3 0, Sto.doOf 9 0]) (fun d hd => by simp only [List.mem_cons, List.not_mem_nil, or_false] at hd; rcases hd with rfl | rfl <;> exact bare_of _ _) o6 (by rw [HX2.out]; rfl) g6
            obtain ⟨da, dc, rfl, hD⟩ := (RowL.mk HR6.row HR6.eq HR6.below).dos
            have hDl : ((loseL (Sto.opA :: Sto.addsD zs 2) (Int.tmod f1 N) (Int.tmod f2 N) N P 2) ++ [Sto.doOf 3 0, Sto.doOf 9 0]).length = bl + 2 := by rw [List.length_append, PL3.out]; rfl
            rw [hDl] at hD ⊢
            have b6 := hid HR6.below
            have D1 := hid (stPlay_call d P 2 _ _ _ _ w6 hD)
            have WNT := hid (own_es HR6.want (by simp [Sto.evA_len, HZN.out]) (evA_ok zs))
            have a6 := HR6.ats
            obtain ⟨aa6, ac6, rfl, hA6⟩ := own_sl a6
            have h3l : (loseA (k + 1) P 2 ++ [(bl : Int)]).length = 3 := by rw [List.length_append, loseA_len]; rfl
            rw [h3l] at hA6 ⊢
            have HA6 := hid hA6
            clear hD HR6 o6 g6 hDl a6 h3l hA6
            go_wp2_with fail
            go_at_call 19; refine (D1.out).mono ?_; rintro e v1 ⟨m1, av1, ac1, L1, er1, rfl, hM, hA, hP2, b1⟩
            have hPP := P1.out.symm.trans hP2
            simp only [Prod.mk.injEq] at hPP
            obtain ⟨-, hp1, rfl⟩ := hPP
            obtain ⟨ab1, ao1, rfl, -, hl1, hat⟩ := hA.gets hp1 (by rw [A1.out]; omega)
            rw [A1.out] at hl1
            rw [hl1]
            obtain ⟨va_1, vc_1, ta_1, tc_1, sa_1, sc_1, aa_1, ac_1, hv, -⟩ := hM.val
            rw [hv]
            have BC1 := hid ((Below.refl v1.heap.size v1).alloc (Nat.le_refl _) (.cells #[.int .i64 m1.d, .int .i64 m1.s, .int .i64 m1.b, .slice va_1 m1.D.length vc_1, .int .i64 (m1.g : Int), .slice ta_1 m1.T.length tc_1, .slice sa_1 m1.seen.length sc_1, .int .i64 m1.u, .slice aa_1 m1.A.length ac_1] 44))
            have GT1 := hid hat
            replace hl1 := hid hl1
            have B1 := hid (b1.alloc b1.size (.cells #[.int .i64 m1.d, .int .i64 m1.s, .int .i64 m1.b, .slice va_1 m1.D.length vc_1, .int .i64 (m1.g : Int), .slice ta_1 m1.T.length tc_1, .slice sa_1 m1.seen.length sc_1, .int .i64 m1.u, .slice aa_1 m1.A.length ac_1] 44))
            have BO1 := hid b1
            clear hv hp1 hM hA hP2 hat b1
            obtain ⟨W, hW⟩ : ∃ W, W = v1.alloc (.cells #[.int .i64 m1.d, .int .i64 m1.s, .int .i64 m1.b, .slice va_1 m1.D.length vc_1, .int .i64 (m1.g : Int), .slice ta_1 m1.T.length tc_1, .slice sa_1 m1.seen.length sc_1, .int .i64 m1.u, .slice aa_1 m1.A.length ac_1] 44) := ⟨_, rfl⟩
            have BW1 := hid (show Below w6.heap.size w6 W by rw [hW]; exact B1.out)
            have BV1 := hid (show Below v1.heap.size v1 W by rw [hW]; exact BC1.out)
            obtain ⟨z4, hz4, -, T4⟩ := GT1.out _ _ Q1.out.2.2.2.1
            have f4 : ∀ O : Obj, (v1.alloc O).cell? ⟨ab1, ao1 + (bl + 1) * 5 + 1, none⟩ = some (.int .i64 0) := fun O => by
              have e : z4.n = 0 := by have := congrArg Sto.An.n hz4; rw [Q1.out.2.2.2.2] at this; exact this
              have t := T4.c1
              rw [e] at t
              exact calloc t
            clear T4 hz4
            obtain ⟨ib, io, rfl, hic⟩ := HA6.out.addr (by omega)
            have HAT := hid (show ∀ i, i < 3 → ∃ K z, W.cell? ⟨ib, io + i, none⟩ = some (.int .i64 (K : Nat)) ∧ K < bl + 2 ∧ AnAt W ab1 ao1 K z ∧ z.err = 0 ∧ z.evs = Sto.evA zs from fun i hi => by
              have hbv := HBLV.out
              have g : ∀ K x, a1[K]? = some x → x.err = 0 → x.evs = Sto.evA zs → w6.cell? ⟨ib, io + i, none⟩ = some (.int .i64 (K : Nat)) → ∃ K z, W.cell? ⟨ib, io + i, none⟩ = some (.int .i64 (K : Nat)) ∧ K < bl + 2 ∧ AnAt W ab1 ao1 K z ∧ z.err = 0 ∧ z.evs = Sto.evA zs := fun K x hx he hv hc => by
                obtain ⟨z, hz, hK, T⟩ := GT1.out K x hx
                rw [A1.out] at hK
                refine ⟨K, z, (BW1.out.cell (p := ⟨ib, _, none⟩) (World.block_lt_of_cell? _ _ hc)).trans hc, hK, T.below BV1.out, ?_, ?_⟩
                · have := congrArg Sto.An.err hz; rw [he] at this; exact this
                · have := congrArg Sto.An.evs hz; rw [hv] at this; exact this
              obtain ⟨q1, q2, q3, -⟩ := Q1.out
              rcases i with _ | _ | _ | i
              · refine g _ _ q1.1 q1.2.1 q1.2.2 (hic 0 _ ?_)
                show some (Value.int .i64 ((k + 1 + 0 * (2 * P + 2) + P : Nat) : Int)) = _
                rw [Nat.zero_mul, Nat.add_zero]
              · refine g _ _ q2.1 q2.2.1 q2.2.2 (hic 1 _ ?_)
                show some (Value.int .i64 ((k + 1 + 1 * (2 * P + 2) + P : Nat) : Int)) = _
                rw [Nat.one_mul]
              · exact g _ _ q3.1 q3.2.1 q3.2.2 (hic 2 _ rfl)
              · omega)
            have WN2 := hid (WNT.out.below BW1.out)
            have BW := hid (bnext b6.out BW1.out)
            have HEN := hid (show (Sto.evA zs).length = k + 1 by rw [Sto.evA_len, HZN.out])
            clear hic
            replace hW := hid hW
            go_wp2_with fail
            rw [← hW.out]
            clear f4
            go_loopg [168] 3 (fun g si wr => ∃ (i j : Nat), g = 3 - i ∧ i ≤ 3 ∧ si = .int .i64 (i : Int) ∧ wr = W.drewN j)
            case atStart => exact ⟨0, 0, rfl, by omega, rfl, rfl⟩
            case round =>
              obtain ⟨i, j, rfl, hi3, rfl, hwr⟩ := hrel
              subst hwr
              by_cases hlt5 : i < 3
              · obtain ⟨K, z, c0, hK, T, e1, e2⟩ := HAT.out i hlt5
                have i0 : (0 : Int) ≤ (i : Int) := by omega
                have i1 : (i : Int) < 3 := by omega
                have k0 : (0 : Int) ≤ (K : Int) := by omega
                have k1 : (K : Int) < (bl : Int) + 2 := by omega
                have g0 := T.c0
                have g2 := T.c2
                have Es1 := T.evs
                rw [e1] at g0
                rw [e2, HEN.out] at g2 Es1
                have DS := hid (rSameEvents_same z.ea wa (k + 1) z.ec (k + 1) wc (Sto.evA zs) (W.drewN j) (Es1.drewN j) (WN2.out.drewN j))
                replace e1 := hid e1
                replace e2 := hid e2
                clear T Es1
                go_wp2_with fail
                go_at_call 20; refine DS.out.mono ?_; rintro e w9 ⟨rfl, q, rfl⟩
                go_wp2_with fail
                go_roundg (3 - (i + 1))
                case measure => omega
                case rel => exact ⟨i + 1, _, rfl, by omega, by go_num, rfl⟩
              · have hi5 : i = 3 := by omega
                subst hi5
                go_wp2_with fail
                go_ret
                exact ⟨rfl, below_drewN BW.out _⟩
  · rw [decide_eq_false hs]
    replace hs := hid hs
    go_wp2_with fail
    go_ret
    exact ⟨rfl, bA.out⟩
end Go.Proofs.Ythhcdfjijagalaa
namespace Go.Proofs.Ythhcdfjijagalaa
open Go.ChangeShapes Go.WideShapes Go.ChangeAt Go.RowKit Go.Joins
set_option linter.unusedVariables false
theorem open_is {H : Type} {enc : TypeId × Value → H} {w : World} {base fuel : Nat} {spare : Nat → Bool} {held : Bool} {v : Value} {x : DataW H × List MemPlace}
    (h : DataW.trod enc Try.prog w base spare held fuel 22 [v] = some x) : ∃ a n cap zs, v = .slice a n cap ∧ Is w a n cap zs := by
  rcases open_ints Try.underlying22 Try.underlying3 (by kernel_rfl) h with ⟨hcs, _⟩ | ⟨a, n, cap, zs, hcs, _, hl, hm, hz, _, hc, hw⟩
  · obtain rfl : v = .slice none 0 0 := by simpa using hcs
    exact ⟨none, 0, 0, [], rfl, Sl.none _ _⟩
  · obtain rfl : v = .slice (some a) n cap := by simpa using hcs
    have hzn : n ≤ zs.length := by rw [hz]; split <;> omega
    refine ⟨some a, n, cap, zs.take n, rfl, hl, hm, (by simp; omega), (fun e => by cases e), fun hn => ?_⟩
    obtain ⟨b, off, rfl, hcell⟩ := ints_at hc (by omega)
    refine ⟨b, off, rfl, fun j u hj => ?_⟩
    have hj' : j < n := by
      have := (List.getElem?_eq_some_iff.1 hj).1
      simp at this; omega
    have hjl : j < zs.length := by omega
    simp [hj', hjl] at hj
    rw [hcell j hjl, ← hj]
    simp [List.getD, hjl]
end Go.Proofs.Ythhcdfjijagalaa
