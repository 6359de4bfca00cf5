/- Contract: blocks that are hurt, and which ones are. -/
import Derived.Test.YtjdgfijpmljhiaaStP
import Derived.Test.YtjdgfijpmljhiaaStripeB
import Derived.Test.YtjdgfijpmljhiaaCoB
import Derived.Test.YtjdgfijpmljhiaaHand
namespace Go.Proofs.Ytjdgfijpmljhiaa
open Go.RowKit Go.Maps
set_option linter.unusedVariables false
set_option maxRecDepth 100000
/-- a harm -/
structure HarmV where
  sh : Int
  t : Int
  y : UInt8
def hm3 (x : HarmV) : List Value := [.int .i64 x.sh, .int .i64 x.t, .int .u8 (x.y.toNat : Int)]
def hmCells (l : List HarmV) : List Value := l.flatMap hm3
theorem hmCells_length (l : List HarmV) : (hmCells l).length = l.length * 3 := by
  induction l with
  | nil => rfl
  | cons e l ih => unfold hmCells at *; rw [List.flatMap_cons, List.length_append, ih]; simp [hm3]; omega
theorem hmCells_get (l : List HarmV) : ∀ (i : Nat) (h : i < l.length), (hmCells l)[i * 3]? = some (.int .i64 l[i].sh) ∧ (hmCells l)[i * 3 + 1]? = some (.int .i64 l[i].t) ∧ (hmCells l)[i * 3 + 2]? = some (.int .u8 (l[i].y.toNat : Int)) := by
  induction l with
  | nil => intro i h; exact absurd h (by simp)
  | cons e l ih =>
    intro i h
    have e0 : hmCells (e :: l) = hm3 e ++ hmCells l := rfl
    rw [e0]
    match i with
    | 0 => exact ⟨rfl, rfl, rfl⟩
    | i + 1 =>
      have := ih i (by simpa using h)
      have g : ∀ j, (hm3 e ++ hmCells l)[(i + 1) * 3 + j]? = (hmCells l)[i * 3 + j]? := by
        intro j
        rw [List.getElem?_append_right (by simp [hm3]; omega)]
        congr 1
        simp [hm3]; omega
      exact ⟨(g 0).trans this.1, (g 1).trans this.2.1, (g 2).trans this.2.2⟩
/-- The slice (a, n, cap) reads as these harms. -/
structure Hs (w : World) (a : Option Addr) (n cap : Nat) (l : List HarmV) : Prop where
  sl : Sl w 3 a n cap (hmCells l)
  ok : ∀ x ∈ l, -9223372036854775808 ≤ x.t ∧ x.t ≤ 9223372036854775807
section
variable {w w' : World} {a : Option Addr} {n cap : Nat} {l : List HarmV}
theorem Hs.cnt (h : Hs w a n cap l) : l.length = n := by
  have := h.sl.len; rw [hmCells_length] at this; omega
theorem Hs.below (h : Hs w a n cap l) (hb : Below w.heap.size w w') : Hs w' a n cap l := ⟨h.sl.below hb, h.ok⟩
theorem Hs.at {b off : Nat} (h : Hs w (some ⟨b, off, none⟩) n cap l) (i : Nat) (hi : i < l.length) :
    w.cell? ⟨b, off + i * 3, none⟩ = some (.int .i64 l[i].sh) ∧ w.cell? ⟨b, off + i * 3 + 1, none⟩ = some (.int .i64 l[i].t) ∧ w.cell? ⟨b, off + i * 3 + 2, none⟩ = some (.int .u8 (l[i].y.toNat : Int)) := by
  have hn := h.cnt
  have hg := hmCells_get l i hi
  exact ⟨h.sl.cell (by omega) hg.1, h.sl.cell (by omega) hg.2.1, h.sl.cell (by omega) hg.2.2⟩
end
theorem Mb.set {w0 w : World} {row : Option Nat} {base g n cap : Nat} {R : List Rw} (h : Mb w0 w row base (.slice (some ⟨g, 0, none⟩) n cap) R) (i : Nat) (hi : i < R.length) (r : Rw) (hb : Bt w r.a r.n r.cap r.l) (ha : Apart (.slice (some ⟨g, 0, none⟩) n cap) r) :
    Mb w0 (w.setCell ⟨g, i, none⟩ (.slice r.a r.n r.cap)) row base (.slice (some ⟨g, 0, none⟩) n cap) (R.set i r) := by
  have hn : R.length = n := by
    have := h.own.own
    rcases this.2 with ⟨h', _⟩ | ⟨g', cap', cur, h', _⟩
    · simp at h'
    · simp only [Value.slice.injEq] at h'; exact h'.2.1.symm
  have ho := h.own.own
  subst hn
  have hs := World.ownsRow.stored ho i (.slice r.a r.n r.cap)
  have hq : ∀ q ∈ R.set i r, Bt w q.a q.n q.cap q.l ∧ Apart (.slice (some ⟨g, 0, none⟩) R.length cap) q := fun q hq => by
    rcases List.mem_or_eq_of_mem_set hq with hq | rfl
    · exact ⟨h.bt q hq, h.apart q hq⟩
    · exact ⟨hb, ha⟩
  refine ⟨?_, fun q h1 => (hq q h1).1.grown hs.2 (hq q h1).2, fun q h1 => (hq q h1).2⟩
  have e : rwCells (R.set i r) = (rwCells R).set i (.slice r.a r.n r.cap) := by simp [rwCells, List.map_set, Rw.v]
  rw [e, List.length_set]
  exact h.own.more hs.1 hs.2 (.inl rfl)
theorem bt_not_map {w : World} {b off n cap bm : Nat} {l : List UInt8} (hb : Bt w (some ⟨b, off, none⟩) n cap l) (hn : 0 < n) {es : Array MapEntry} {c : Nat} (h : w.heap[bm]? = some (.map es c)) : b ≠ bm := by
  rintro rfl
  have := Bt.at hb 0 hn
  unfold World.cell? at this
  simp [h] at this
theorem blk_grown {w w' : World} {b : Nat} {o : Obj} {q : Option Nat} (h : w.heap[b]? = some o) (hg : w.grownBy w' q) (hne : some b ≠ q) : w'.heap[b]? = some o := (hg.block b (blk_lt h) hne).trans h
theorem nodup_le {U : List Nat} {n : Nat} (h : U.Nodup) (hl : ∀ u ∈ U, u < n) : U.length ≤ n := by
  have hp : U.Perm ((List.range n).filter (fun i => decide (i ∈ U))) := (List.perm_ext_iff_of_nodup h (List.nodup_range.filter _)).2 fun i => by
    rw [List.mem_filter, List.mem_range]
    exact ⟨fun hi => ⟨hl i hi, decide_eq_true hi⟩, fun hi => of_decide_eq_true hi.2⟩
  rw [hp.length_eq]
  exact Nat.le_trans (List.length_filter_le _ _) (by simp)
/-- the map has just so many entries -/
structure Sz (DD : DataW Unit) (U : List Nat) : Prop where
  size : Maps.size DD = U.length
  has : ∀ v : Nat, Maps.has DD (.int .i64 (v : Int)) = decide (v ∈ U)
theorem Sz.start : Sz (.map []) [] := ⟨rfl, fun v => rfl⟩
theorem Sz.put {w : World} {b u : Nat} {U : List Nat} {DD : DataW Unit} (h : Sz DD U) (hA : Had w b U DD) (hu : u ∉ U) : Sz (DD.put (.int .i64 (u : Int)) (.lit (.bool true))) (U ++ [u]) := by
  refine ⟨?_, fun v => ?_⟩
  · rw [Maps.size_put (hA.own.tidy (int_keyed Try.underlying3)), h.has, decide_eq_false hu, h.size]
    simp
  · by_cases e : v = u
    · subst e
      rw [Maps.has_put_same hA.own.isMap (by trivial)]
      simp
    · rw [Maps.has_put_other (by intro e2; apply e; injection e2 with _ e3; omega), h.has]
      have : (v ∈ U ++ [u]) ↔ v ∈ U := by simp [e]
      rw [decide_eq_decide.2 this]
/-- the result -/
def HurtRes (L : List (List UInt8)) (n : Nat) (w : World) (e : Ending) (w' : World) : Prop :=
  ∃ oa oc O b U DD, e = .returned (.tuple #[.slice oa n oc, .map (some b)]) ∧ Ms w' oa n oc O ∧ Had w' b U DD ∧ Sz DD U ∧ Stp.Hurt L (rwData O) U ∧ Below w.heap.size w w'

set_option maxHeartbeats 4000000 in
theorem hurt6_call (a : Option Addr) (n cap : Nat) (L : List Rw) (ha : Option Addr) (hn hc : Nat) (hs : List HarmV) (w : World) (hL : Ms w a n cap L) (hH : Hs w ha hn hc hs) (h1 : 1 ≤ n) (h12 : n ≤ 12) (hrn : ∀ r ∈ L, r.n ≤ 1000) :
    Calls Try.prog 27 #[.slice a n cap, .slice ha hn hc] w (HurtRes (rwData L) n w) := by
  have HN := hid hL.cnt
  have HH := hid hH.cnt
  have hmax := hH.sl.max
  have hle := hH.sl.le
  unfold maxLen at hmax
  have hmm := @run_makeMap Try.prog
  obtain ⟨ab, aoff, rfl, _⟩ := hL.sl.addr (by omega)
  have o1 : OT w (w.alloc (.cells #[] 48)) none w.heap.size 48 1 (.slice (some ⟨w.heap.size, 0, none⟩) 0 0) 0 [] := OT.fresh (World.ownsRow_lit w #[] 0 (Nat.le_refl _) (by decide) rfl) ((Below.refl _ _).alloc (Nat.le_refl _) _) (Nat.le_refl _)
  have hsrc := Sl.src (P := Try.prog) (hL.alloc (.cells #[] 48)).sl (tx := 50) (e' := 48) und_rowst (rwCells_one L)
  go_enter Try.func27, Try.ntmps27
  go_upto_region 2 with (refine wpList_append_t rfl (.tmp 11) (.tmp 12) 50 50 rfl w.heap.size 48 1 24 (.slice none 0 0) und_rowst info_bytest rfl (by decide) (.slice (some ⟨w.heap.size, 0, none⟩) 0 0) 0 [] rfl o1 (.slice (some ⟨ab, aoff, none⟩) n cap) n (rwCells L) rfl hsrc (by unfold maxLen; omega) (by omega) (by simp) ?_; intro v2 w2 ho2 hg2)
  simp only [Nat.zero_add, List.nil_append] at ho2
  obtain ⟨g, oc, rfl, hg0, -, -, -⟩ := own_pos ho2.own (by omega)
  have b2 : Below w.heap.size w w2 := ho2.belowOf (Nat.le_refl _) (fun k e => by cases e)
  have hlr : Hid (∀ r ∈ L, 0 < r.n → ∀ b off, r.a = some ⟨b, off, none⟩ → b < w.heap.size) := hid (fun r hr hn b off e => by
    have h5 := hL.row r hr
    rw [e] at h5
    exact Bt.lt' h5 hn)
  have M2 : Mb w w2 none w.heap.size (.slice (some ⟨g, 0, none⟩) n oc) L := ⟨by rw [HN.out]; exact ho2, fun r hr => (hL.row r hr).below b2, fun r hr => apart_old ho2.own (hlr.out r hr)⟩
  have hszz := b2.size
  clear ho2 hg2 o1 hsrc
  go_wp2_with fail
  go_loopg [17] hn (fun gg s17 wr => ∃ (k : Nat) (O : List Rw) (U : List Nat) (DD : DataW Unit), gg = hn - k ∧ k ≤ hn ∧ s17 = .int .i64 (k : Int) ∧ Mb w wr none w.heap.size (.slice (some ⟨g, 0, none⟩) n oc) O ∧ Had wr w2.heap.size U DD ∧ Hid (Stp.Hurt (rwData L) (rwData O) U) ∧ Hid (Sz DD U) ∧ w2.heap.size < wr.heap.size)
  case atStart => exact ⟨0, L, [], .map [], rfl, by omega, rfl, M2.alloc _, Had.start w2, hid (Stp.Hurt.start _), hid Sz.start, by simp⟩
  case round =>
    clear M2 hmm
    obtain ⟨k, O, U, DD, rfl, hk, rfl, hM, hA, HU, HZ, hbm⟩ := hrel
    obtain ⟨wo, rfl⟩ : ∃ wo : World, wo = wr := ⟨_, rfl⟩
    have hbo := hM.own.belowOf (Nat.le_refl _) (fun k e => by cases e)
    have hszo := hbo.size
    by_cases hlt : k < hn
    · have hkh : k < hs.length := by rw [HH.out]; exact hlt
      obtain ⟨hb, hoff, rfl, _⟩ := hH.sl.addr (by omega)
      obtain ⟨x0, x1, x2⟩ := (hH.below hbo).at k hkh
      have hxt := hH.ok hs[k] (List.getElem_mem _)
      generalize hs[k] = X at *
      obtain ⟨sh, t, y⟩ := X
      simp only at x0 x1 x2 hxt
      have i0 : (0 : Int) ≤ (k : Int) := by omega
      have i1 : (k : Int) < (hn : Int) := by omega
      go_upto_region 6 with (fail)
      have B0 := blk_new wo (.cells #[.int .i64 sh, .int .i64 t, .int .u8 (y.toNat : Int)] 79)
      have M1 := hM.alloc (.cells #[.int .i64 sh, .int .i64 t, .int .u8 (y.toNat : Int)] 79)
      have A1 : Had (wo.alloc (.cells #[.int .i64 sh, .int .i64 t, .int .u8 (y.toNat : Int)] 79)) w2.heap.size U DD := Had.kept hA (World.grownBy_alloc wo _ none) (by simp)
      have hb1 := hbo.alloc hszo (.cells #[.int .i64 sh, .int .i64 t, .int .u8 (y.toNat : Int)] 79)
      have hz1 : wo.heap.size < (wo.alloc (.cells #[.int .i64 sh, .int .i64 t, .int .u8 (y.toNat : Int)] 79)).heap.size := by simp
      generalize wo.alloc (.cells #[.int .i64 sh, .int .i64 t, .int .u8 (y.toNat : Int)] 79) = V at *
      have r0 := blk_cell (i := 0) B0
      have r1 := blk_cell (i := 1) B0
      have r2 := blk_cell (i := 2) B0
      clear x0 x1 x2 hM hA
      by_cases c1 : sh < 0
      · go_wp2_with fail
        go_roundg (hn - (k + 1))
        case measure => omega
        case rel => exact ⟨k + 1, O, U, DD, rfl, by omega, by go_num, M1, A1, HU, HZ, by omega⟩
      obtain ⟨u, rfl⟩ := Int.eq_ofNat_of_zero_le (a := sh) (by omega)
      by_cases c2 : n ≤ u
      · have c2' : (n : Int) ≤ (u : Int) := by omega
        have c1' : (0 : Int) ≤ (u : Int) := by omega
        go_wp2_with fail
        go_roundg (hn - (k + 1))
        case measure => omega
        case rel => exact ⟨k + 1, O, U, DD, rfl, by omega, by go_num, M1, A1, HU, HZ, by omega⟩
      have huL : u < L.length := by rw [HN.out]; omega
      have c2' : (u : Int) < (n : Int) := by omega
      have c1' : (0 : Int) ≤ (u : Int) := by omega
      have hlk := A1.look u (by omega)
      obtain ⟨q0, hq0⟩ := (hL.below hb1).at u huL
      have hLat := hid (fun W (hW : Below w.heap.size w W) => (hL.below hW).at u huL)
      have hLn := hrn L[u] (List.getElem_mem _)
      have hLr := hid (hlr.out L[u] (List.getElem_mem _))
      have hLd := hid (rwData_getD huL)
      generalize L[u] = r at *
      by_cases c3 : u ∈ U
      · rw [decide_eq_true c3] at hlk
        replace c3 := hid c3
        go_wp2_with fail
        go_roundg (hn - (k + 1))
        case measure => omega
        case rel => exact ⟨k + 1, O, U, DD, rfl, by omega, by go_num, M1, A1, HU, HZ, by omega⟩
      rw [decide_eq_false c3] at hlk
      replace c3 := hid c3
      by_cases c4 : r.n = 0
      · rw [c4] at q0
        go_wp2_with fail
        go_roundg (hn - (k + 1))
        case measure => omega
        case rel => exact ⟨k + 1, O, U, DD, rfl, by omega, by go_num, M1, A1, HU, HZ, by omega⟩
      have c4' : ((r.n : Int) == 0) = false := beq_eq_false_iff_ne.2 (by omega)
      have c4'' : (r.n == 0) = false := beq_eq_false_iff_ne.2 c4
      have hUl : U.length < maxLen := by
        have : U.length ≤ n := nodup_le HU.out.nd fun v hv => by
          have := HU.out.lt v hv
          rwa [rwData_length, HN.out] at this
        unfold maxLen; omega
      have hown := hid A1.own
      have hkey := key_of u (by omega)
      have hsz := hid (HZ.out.put A1 c3.out)
      have hmapb := A1.blk
      go_upto_region 8 with (refine wpList_mapUpdate_own _ rfl _ _ _ 53 rfl 3 4 (int_keyed Try.underlying3) Try.underlying53 (plainElem (H := Unit) Try.prog 4) w2.heap.size U.length DD rfl hown.out hUl _ _ (.int .i64 (u : Int)) rfl rfl hkey (.lit (.bool true)) [] (plainElem_bool Try.underlying4 true) ?_; intro w4 hown4 hg4)
      have M4 := M1.grown hg4 (fun x hx => by
        cases hx
        obtain ⟨es, c, hb⟩ := hmapb
        refine ⟨hszz, own_map_ne M1.own.own A1, fun q hq hn b off e => ?_⟩
        have h5 := M1.bt q hq
        rw [e] at h5
        exact bt_not_map h5 hn hb)
      have A4 : Had w4 w2.heap.size (U ++ [u]) _ := Had.put A1 (by omega) hown4
      have B4 := blk_grown B0 hg4 (fun e => by have := Option.some.inj e; omega)
      have b4 := M4.own.belowOf (Nat.le_refl _) (fun k e => by cases e)
      have hz4 := hg4.size
      have hOl : Hid (O.length = n) := hid (by
        have := HU.out.len
        rw [rwData_length, rwData_length, HN.out] at this; exact this)
      have huO : u < O.length := by rw [hOl.out]; omega
      clear q0 hq0 r0 r1 r2 B0 M1 A1 hown hown4 hg4 hmapb hlk hkey
      obtain ⟨q0, hq0⟩ := hLat.out w4 b4
      have r0 := blk_cell (i := 0) B4
      have r1 := blk_cell (i := 1) B4
      have r2 := blk_cell (i := 2) B4
      have hgu : ∀ W O', Mb w W none w.heap.size (.slice (some ⟨g, 0, none⟩) n oc) O' → O'.length = n → W.cell? ⟨g, u, none⟩ = some ((O'.getD u ⟨none, 0, 0, []⟩).v) ∧ W.frozen? ⟨g, u, none⟩ = false := fun W O' hM hl => by
        have ho := hM.own.own
        rw [hl] at ho
        refine ⟨?_, ho.frozenAt u⟩
        have h5 := ho.cellAt u (by omega)
        rw [h5]
        have : u < O'.length := by omega
        simp [rwCells, List.getD, this]
      obtain ⟨s0, s1⟩ := hgu w4 O M4 hOl.out
      replace hgu := hid hgu
      have hAk : Hid (∀ (W : World) v, Had W w2.heap.size (U ++ [u]) (DD.put (.int .i64 (u : Int)) (.lit (.bool true))) → (∃ O', Mb w W none w.heap.size (.slice (some ⟨g, 0, none⟩) n oc) O' ∧ O'.length = n) → Had (W.setCell ⟨g, u, none⟩ v) w2.heap.size (U ++ [u]) (DD.put (.int .i64 (u : Int)) (.lit (.bool true)))) := hid (fun W v hA ⟨O', hM, hl⟩ => by
        have ho := hM.own.own
        rw [hl] at ho
        exact Had.kept hA (World.ownsRow.stored ho u v).2 (fun e => own_map_ne ho hA e.symm))
      by_cases c5 : y = 0
      · subst c5
        go_wp2_with fail
        go_roundg (hn - (k + 1))
        case measure => omega
        case rel =>
          refine ⟨k + 1, O.set u ⟨none, 0, 0, []⟩, U ++ [u], _, rfl, by omega, by go_num, M4.set u huO ⟨none, 0, 0, []⟩ (Sl.none _ _) (fun hn => absurd hn (by simp)), hAk.out w4 _ A4 ⟨O, M4, hOl.out⟩, hid ?_, hsz, by simpa using (by omega : w2.heap.size < w4.heap.size)⟩
          rw [rwData_set]
          exact HU.out.turn c3.out (by rw [rwData_length]; exact huL) (.inl rfl)
      · have c5' : ((y.toNat : Int) == 0) = false := beq_eq_false_iff_ne.2 (fun e => c5 (UInt8.toNat_inj.1 (by simpa using e)))
        have c5'' : (y.toNat == 0) = false := beq_eq_false_iff_ne.2 (fun e => c5 (UInt8.toNat_inj.1 (by simpa using e)))
        have hrl := hid (Bt.n hq0)
        have hm0 : 0 < r.n := by omega
        have q0a := (cell_old (o := .cells #[] 5) (World.block_lt_of_cell? _ _ q0)).trans q0
        have r0a := blk_cell (i := 0) (blk_old (o' := .cells #[] 5) B4)
        have o5 : OB w4 (w4.alloc (.cells #[] 5)) none w4.heap.size (.slice (some ⟨w4.heap.size, 0, none⟩) 0 0) [] := OB.lit (w := w4) (W := w4) (Below.refl _ _) #[] [] (by simp) rfl
        have hqa := Sl.alloc hq0 (.cells #[] 5)
        replace c5 := hid c5
        go_upto_region 11 with (refine wpList_append_ob rfl (.tmp 56) (.tmp 61) rfl w4.heap.size (.slice (some ⟨w4.heap.size, 0, none⟩) 0 0) [] r.l rfl o5 r.a r.n r.cap rfl hqa (by rw [hrl.out]; simp; omega) (by simp) ?_; intro v5 w5 o5' g5; rw [List.nil_append] at o5')
        have b5 := o5'.belowOf (Nat.le_refl _) (fun k e => by cases e)
        have ho5 := o5'.own
        rw [hrl.out] at ho5
        obtain ⟨gb, bc, rfl, hgb, hgb2, hnc, hmc⟩ := own_pos ho5 hm0
        have M5 := M4.below b5
        have B5 := blk_below B4 b5
        have A5 : Had w5 w2.heap.size (U ++ [u]) (DD.put (.int .i64 (u : Int)) (.lit (.bool true))) := Had.kept A4 (grown_of_below b5 none) (by simp)
        have hlt4 := hid (fun q hq hn b off e => by
          have h5 := M4.bt q hq
          rw [e] at h5
          exact Bt.lt' h5 hn : ∀ q ∈ O, 0 < q.n → ∀ b off, q.a = some ⟨b, off, none⟩ → b < w4.heap.size)
        clear r0 r0a r1 r2 s0 s1 o5 hqa q0 q0a o5' g5 B4 M4 A4
        have r0 := blk_cell (i := 0) B5
        have r1 := blk_cell (i := 1) B5
        have r2 := blk_cell (i := 2) B5
        obtain ⟨s0, s1⟩ := hgu.out w5 O M5 hOl.out
        obtain ⟨m1, m2, m3, m4⟩ := Stp.hidx_spec t hm0
        unfold maxLen at hmc
        have hxd := hid (show Stp.hidx t r.n = Stp.hidx t r.n from rfl)
        obtain ⟨T, hT⟩ : ∃ T, Int.tmod t (r.n : Int) = T := ⟨_, rfl⟩
        rw [hT] at m1 m2 m3
        generalize Stp.hidx t r.n = ix at *
        have e2 : IntKind.i64.wrap (T + (r.n : Int)) = T + (r.n : Int) := IntWalk.i64_in _ (by omega)
        have e3 : Int.tmod (T + (r.n : Int)) (r.n : Int) = (ix : Int) := m3.symm
        have i2 : (0 : Int) ≤ (ix : Int) := by omega
        have i3 : (ix : Int) < (r.n : Int) := by omega
        have z0 := byte_at ho5 ix m4
        have z1 := byte_free ho5 ix
        have h8 := at8_lt r.l ix
        have hy8 : y.toNat < 256 := UInt8.toNat_lt y
        have hxx := u8_xor_nat (at8 r.l ix) y.toNat h8 hy8
        have e8 : (Mat.gadd (r.l.getD ix 0) y).toNat = at8 r.l ix ^^^ y.toNat := Mat.toNat_add _ _
        have hs5 := hid (fun q => byte_set (own_drewN ho5 q) ix _ _ e8)
        have hg6 := hid (fun q (v : Value) => (World.ownsRow.stored (own_drewN ho5 q) ix v).2)
        have hny : Mat.gadd (r.l.getD ix 0) y ≠ r.l.getD ix 0 := fun e => c5.out (by
          have h7 := congrArg (Mat.gadd (r.l.getD ix 0)) e
          rw [← Mat.add_assoc, Mat.add_self, Mat.zero_add] at h7
          exact h7)
        replace hny := hid hny
        have hM5 := hid M5
        have hA5 := hid A5
        clear m3 e8
        generalize hnb : Mat.gadd (r.l.getD ix 0) y = nb at *
        replace hnb := hid hnb
        generalize at8 r.l ix = va at *
        generalize y.toNat = vy at *
        generalize va ^^^ vy = vx at *
        refine wp_region_still_tail 30 (by kernel_rfl) (by kernel_rfl) ?_
        change wpStill _ _ (World.drew _) _ _ _
        simp only [List.take_succ_cons, List.take_zero, List.drop_succ_cons, List.drop_zero]
        repeat still_step
        refine wpStill_nil ?_
        change wpList _ _ _ _ _ (World.drewN w5 1)
        go_upto_region 12 with (fail)
        have ho6 := hs5.out 1
        have g6 := hg6.out 1 (.int .u8 (vx : Int))
        have hne6 : gb ≠ g := fun e => own_blk_ne hM5.out.own.own (own_row ho5).choose_spec.1 (by decide) (by rw [e]; rfl)
        have M6 : Mb w ((w5.drewN 1).setCell ⟨gb, ix, none⟩ (.int .u8 (vx : Int))) none w.heap.size (.slice (some ⟨g, 0, none⟩) n oc) O := (hM5.out.below (below_drewN (Below.refl _ _) 1)).grown g6 (fun x hx => by
          cases hx
          refine ⟨by omega, fun e => hne6 (by cases e; rfl), fun q hq hn b off e e2 => ?_⟩
          have := hlt4.out q hq hn b off e
          omega)
        have A6 : Had ((w5.drewN 1).setCell ⟨gb, ix, none⟩ (.int .u8 (vx : Int))) w2.heap.size (U ++ [u]) (DD.put (.int .i64 (u : Int)) (.lit (.bool true))) := Had.kept (Had.kept hA5.out (grown_of_below (below_drewN (Below.refl _ _) 1) none) (by simp)) g6 (fun e => by have := Option.some.inj e; omega)
        have hB6 : ((w5.drewN 1).setCell ⟨gb, ix, none⟩ (.int .u8 (vx : Int))).heap[wo.heap.size]? = _ := bkeep (w := w5.drewN 1) B5 (by omega) _
        have hz6 : w2.heap.size < ((w5.drewN 1).setCell ⟨gb, ix, none⟩ (.int .u8 (vx : Int))).heap.size := Nat.lt_of_lt_of_le (show w2.heap.size < w5.heap.size by have := b5.size; omega) g6.size
        generalize (w5.drewN 1).setCell ⟨gb, ix, none⟩ (.int .u8 (vx : Int)) = W6 at *
        have k0 := blk_cell (i := 0) hB6
        obtain ⟨k1, k2⟩ := hgu.out W6 O M6 hOl.out
        clear r0 r1 r2 s0 s1 z0 z1
        go_wp2_with fail
        go_roundg (hn - (k + 1))
        case measure => omega
        case rel =>
          refine ⟨k + 1, O.set u ⟨some ⟨gb, 0, none⟩, r.n, bc, r.l.set ix nb⟩, U ++ [u], _, rfl, by omega, by go_num, M6.set u huO ⟨some ⟨gb, 0, none⟩, r.n, bc, r.l.set ix nb⟩ (own_bt ho6) (apart_own M6.own.own ho6 _), hAk.out W6 _ A6 ⟨O, M6, hOl.out⟩, hid ?_, hsz, by simpa using hz6⟩
          rw [rwData_set]
          refine HU.out.turn c3.out (by rw [rwData_length]; exact huL) (.inr ⟨ix, nb, ?_, ?_, ?_⟩)
          · rw [hLd.out, hrl.out]; exact m4
          · have h9 : ix < r.l.length := by rw [hrl.out]; exact m4
            have h10 : ((rwData L).getD u [])[ix]'(by rw [hLd.out]; exact h9) = r.l.getD ix 0 := by
              simp only [hLd.out]
              simp [List.getD, h9]
            rw [h10]
            exact hny.out
          · rw [hLd.out]
    · obtain rfl : hn = k := by omega
      obtain ⟨ao, co, e1, hMs⟩ := hM.ms
      have hOl : O.length = n := by
        have := HU.out.len
        rw [rwData_length, rwData_length, HN.out] at this; exact this
      rw [hOl] at e1 hMs
      cases e1
      go_wp2_with fail
      go_ret2
      exact ⟨_, _, O, _, U, DD, rfl, hMs, hA, HZ.out, HU.out, hbo⟩

end Go.Proofs.Ytjdgfijpmljhiaa
