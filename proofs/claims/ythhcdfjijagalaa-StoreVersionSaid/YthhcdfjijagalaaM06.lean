/- Joined, and what is not used struck: CodeA, Str, GridG, Clone. -/
import Derived.Test.YthhcdfjijagalaaM05
import Derived.Test.YthhcdfjijagalaaM02
import Derived.Test.YthhcdfjijagalaaM03
import Derived.Laws.IdiomStrings
import Derived.Lib.BufferRead
import Derived.WalkSpells
namespace Go.Proofs.Ythhcdfjijagalaa
open Go.RowKit
set_option linter.unusedVariables false
set_option maxRecDepth 100000
theorem wrongC_cases {P : Prop} (d s : Int) (h1 : d < 1 → P) (h2 : ¬ d < 1 → 8 < d → P) (h3 : ¬ d < 1 → ¬ 8 < d → s < 0 → P) (h4 : ¬ d < 1 → ¬ 8 < d → ¬ s < 0 → 4 < s → P) (h5 : ¬ d < 1 → ¬ 8 < d → ¬ s < 0 → ¬ 4 < s → P) : P := by
  by_cases e1 : d < 1
  · exact h1 e1
  · by_cases e2 : 8 < d
    · exact h2 e1 e2
    · by_cases e3 : s < 0
      · exact h3 e1 e2 e3
      · by_cases e4 : 4 < s
        · exact h4 e1 e2 e3 e4
        · exact h5 e1 e2 e3 e4
theorem wrongC_5 {d s : Int} (h : d < 1 ∨ 8 < d ∨ s < 0 ∨ 4 < s) : Mat.wrongC d s = 5 := by unfold Mat.wrongC; rw [if_pos h]
theorem cWrong_call (d s : Int) (w : World) : Calls Try.prog 38 #[.int .i64 d, .int .i64 s] w (Same (.int .i64 (Mat.wrongC d s)) w) := by
  refine wrongC_cases d s (fun h1 => ?_) (fun h1 h2 => ?_) (fun h1 h2 h3 => ?_) (fun h1 h2 h3 h4 => ?_) (fun h1 h2 h3 h4 => ?_)
  · rw [wrongC_5 (.inl h1)]
    go_enter Try.func38, Try.ntmps38
    go_wp2_with fail
    go_ret
    exact ⟨rfl, rfl⟩
  · rw [wrongC_5 (.inr (.inl h2))]
    go_enter Try.func38, Try.ntmps38
    go_wp2_with fail
    go_ret
    exact ⟨rfl, rfl⟩
  · rw [wrongC_5 (.inr (.inr (.inl h3)))]
    go_enter Try.func38, Try.ntmps38
    go_wp2_with fail
    go_ret
    exact ⟨rfl, rfl⟩
  · rw [wrongC_5 (.inr (.inr (.inr h4)))]
    go_enter Try.func38, Try.ntmps38
    go_wp2_with fail
    go_ret
    exact ⟨rfl, rfl⟩
  · rw [Mat.wrongC_of (by omega)]
    go_enter Try.func38, Try.ntmps38
    go_wp2_with fail
    go_ret
    exact ⟨rfl, rfl⟩
/-- a matrix of the call's own, to be read and made longer -/
theorem Mo.mb {w W : World} {g n cap : Nat} {R : List Wr} (h : Mo W w.heap.size g n cap R) (hn : R.length = n) (hb : Below w.heap.size w W) : Mb w W none w.heap.size (.slice (some ⟨g, 0, none⟩) n cap) (R.map Wr.rw) := by
  subst hn
  refine ⟨?_, fun r hr => ?_, fun r hr => ?_⟩
  · have ho := h.own
    rw [Nat.sub_self, List.replicate_zero, List.append_nil, ← wrCells_rw] at ho
    rw [List.length_map]
    exact OT.fresh ho hb (Nat.le_refl _)
  · obtain ⟨r', hr', rfl⟩ := List.mem_map.1 hr
    exact h.rw hr'
  · obtain ⟨r', hr', rfl⟩ := List.mem_map.1 hr
    intro _ b off e e2
    have e : some (⟨r'.g, 0, none⟩ : Addr) = some ⟨b, off, none⟩ := e
    cases e
    have e2 : some g = some r'.g := e2
    cases e2
    exact h.ne hr' rfl
theorem rowM_inv {d i j : Nat} (hi : d ≤ i) (h1 : i < 256) (h2 : j < 256) : (Mat.rowM d i j).toNat = Fld.inv (i ^^^ j) := by
  unfold Mat.rowM
  rw [if_neg (by omega), Mat.toNat_inv, Mat.toNat_add, UInt8.toNat_ofNat', UInt8.toNat_ofNat', Nat.mod_eq_of_lt h1, Nat.mod_eq_of_lt h2]
set_option maxHeartbeats 1000000 in
theorem cRows_bad (d s : Int) (w : World) (h : Mat.wrongC d s ≠ 0) : Calls Try.prog 99 #[.int .i64 d, .int .i64 s] w (NilB (Mat.wrongC d s) w) := by
  have C := hid (cWrong_call d s w)
  have t0 : (Mat.wrongC d s != 0) = true := by rw [bne_iff_ne]; exact h
  clear h
  generalize Mat.wrongC d s = e at *
  go_enter Try.func99, Try.ntmps99
  go_wp2_with fail
  go_at_call 38; refine (C.out).mono ?_; rintro e' w1 ⟨rfl, rfl⟩
  go_wp2_with fail
  go_ret2
  exact ⟨rfl, Below.refl _ _⟩
set_option maxHeartbeats 2000000 in
theorem cRows_ok (d s : Nat) (w : World) (h1 : 1 ≤ d) (h2 : d ≤ 8) (h3 : s ≤ 4) : Calls Try.prog 99 #[.int .i64 (d : Int), .int .i64 (s : Int)] w (MRes (fun L e => Mat.Rep L (d + s) d (Mat.rowM d) ∧ e = 0) w) := by
  have C := hid (cWrong_call d s w)
  rw [Mat.wrongC_of (by omega)] at C
  go_enter Try.func99, Try.ntmps99
  go_wp2_with fail
  go_at_call 38; refine (C.out).mono ?_; rintro e' w1 ⟨rfl, rfl⟩
  go_wp2_with fail
  go_at_call 109; refine (gOne_ok d w h1 (by omega)).mono ?_; rintro e w2 ⟨Go, Ro, rfl, hRo, hMo, hRep, hb2⟩
  have hMb := hMo.mb hRo hb2
  have HD := hid (show ∀ i (hi : i < (Ro.map Wr.rw).length), (Ro.map Wr.rw)[i].l.length = d ∧ ∀ j, j < d → (Ro.map Wr.rw)[i].l.getD j 0 = Mat.rowM d i j from fun i hi => by
    have hi' : i < Ro.length := by simpa using hi
    have hL : i < (wrData Ro).length := by simpa [wrData] using hi'
    have e1 := hRep.cols _ (List.getElem_mem hL)
    rw [wrData_get hL] at e1
    refine ⟨by simpa [Wr.rw] using e1, fun j hj => ?_⟩
    have e2 := hRep.eq i j (by omega) hj
    rw [Mat.ent_at hL, wrData_get hL] at e2
    unfold Mat.rowM
    rw [if_pos (by omega), ← e2]
    simp [Wr.rw])
  have HL := hid (show (Ro.map Wr.rw).length = d + 0 by rw [List.length_map, hRo]; rfl)
  generalize Ro.map Wr.rw = R0 at *
  clear hMo hRep hRo
  go_wp2_with fail
  go_loopg [7, 24] s (fun g s7 s24 wr => ∃ (k : Nat) (R : List Rw), g = s - k ∧ k ≤ s ∧ s24 = .int .i64 (k : Int) ∧ Hid (R.length = d + k) ∧ Mb w wr none w.heap.size s7 R ∧ Hid (∀ i (hi : i < R.length), R[i].l.length = d ∧ ∀ j, j < d → R[i].l.getD j 0 = Mat.rowM d i j))
  case atStart => exact ⟨0, R0, rfl, by omega, rfl, HL, hMb, HD⟩
  case round =>
    clear hMb HD HL hb2
    obtain ⟨k, R, rfl, hk, rfl, HL, hM, HD⟩ := hrel
    obtain ⟨wo, rfl⟩ : ∃ wo : World, wo = wr := ⟨_, rfl⟩
    by_cases hlt : k < s
    · obtain ⟨dk, hdk⟩ : ∃ dk, dk = d + k := ⟨_, rfl⟩
      have s1 : IntKind.i64.wrap ((d : Int) + (k : Int)) = (d : Int) + (k : Int) := IntWalk.i64_in _ (by omega)
      have s2 : IntKind.u8.wrap ((d : Int) + (k : Int)) = (dk : Int) := by rw [IntKind.wrap_u8]; omega
      have hdk12 : dk < 12 := by omega
      have hdd : d ≤ dk := by omega
      replace hdk := hid hdk
      have hszo := (hM.own.belowOf (Nat.le_refl _) (fun k e => by cases e)).size
      go_wp2_with fail
      go_loopg [10, 28] d (fun g s10 s28 wr => ∃ (j : Nat) (l : List UInt8), g = d - j ∧ j ≤ d ∧ s28 = .int .i64 (j : Int) ∧ Hid (l.length = j) ∧ OB wo wr none wo.heap.size s10 l ∧ Hid (∀ t, t < j → l.getD t 0 = Mat.rowM d dk t))
      case atStart => exact ⟨0, [], rfl, by omega, rfl, hid rfl, OT.fresh (World.ownsRow_nil _ _ _ _) (Below.refl _ _) (Nat.le_refl _), hid (fun t ht => absurd ht (by omega))⟩
      case round =>
        obtain ⟨j, l, rfl, hj, rfl, HJ, hO, HJ2⟩ := hrel
        obtain ⟨wp, rfl⟩ : ∃ wp : World, wp = wr := ⟨_, rfl⟩
        have hbp := hO.belowOf (Nat.le_refl _) (fun k e => by cases e)
        have hszp := hbp.size
        by_cases hjd : j < d
        · have s3 : IntKind.u8.wrap (j : Int) = (j : Int) := by rw [IntKind.wrap_u8]; omega
          have hx := u8_xor_nat dk j (by omega) (by omega)
          have hy := rowM_inv (d := d) (i := dk) (j := j) hdd (by omega) (by omega)
          have hxl : dk ^^^ j < 256 := Nat.xor_lt_two_pow (n := 8) (by omega) (by omega)
          obtain ⟨y, hyy⟩ : ∃ y, Mat.rowM d dk j = y := ⟨_, rfl⟩
          rw [hyy] at hy
          replace hyy := hid hyy
          have D := hid (fInv_call (dk ^^^ j) hxl wp)
          rw [← hy] at D
          generalize dk ^^^ j = x at *
          clear hy
          go_wp2_with fail
          go_at_call 110; refine (D.out).mono ?_; rintro e w5 ⟨rfl, b5⟩
          have hO5 := hO.below b5
          have hsz5 := b5.size
          have hl9 : l.length ≤ 8 := by rw [HJ.out]; omega
          go_wp2_with (refine wpList_append_ob rfl (.tmp 31) (.tmp 40) rfl wo.heap.size _ l [y] rfl (hO5.alloc _) (some ⟨w5.heap.size, 0, none⟩) 1 1 rfl (lit_bt w5 _ [y] (by simp [maxLen]) rfl) (by simp; omega) (by simp; omega) ?_; intro v2 w4 ho2 hg2)
          go_roundg (d - (j + 1))
          case measure => omega
          case rel =>
            refine ⟨j + 1, l ++ [y], rfl, by omega, by go_num, hid (by simp; exact HJ.out), ho2, hid (fun t ht => ?_)⟩
            by_cases e : t < l.length
            · rw [getD_app _ _ e]; exact HJ2.out t (by rw [← HJ.out]; exact e)
            · have e2 : t = j := by have := HJ.out; omega
              subst e2
              rw [getD_end _ _ HJ.out]; exact hyy.out.symm
        · obtain rfl : d = j := by omega
          have M2 := hM.below hbp
          have hO2 := hO.own
          rw [HJ.out] at hO2
          obtain ⟨g, cap, rfl, hbg, hgl, hnc, hcm⟩ := own_pos hO2 h1
          have hR12 : R.length ≤ 65536 := by rw [HL.out]; omega
          go_wp2_with (refine wpList_append_row rfl (.tmp 43) (.tmp 45) 156 und_Matrix rfl w.heap.size _ R rfl M2 ⟨some ⟨g, 0, none⟩, d, cap, l⟩ _ rfl rfl (own_bt hO2) (apart_own M2.own.own hO2 _) hR12 (by omega) ?_; intro v5 w5 M5 g5)
          go_roundg (s - (k + 1))
          case measure => omega
          case rel =>
            refine ⟨k + 1, R ++ [⟨some ⟨g, 0, none⟩, d, cap, l⟩], rfl, by omega, by go_num, hid (by simp [HL.out]; omega), M5, hid (fun i hi => ?_)⟩
            by_cases e : i < R.length
            · rw [List.getElem_append_left e]; exact HD.out i e
            · have hi' : i < R.length + 1 := by simpa using hi
              have e2 : i = dk := by have := HL.out; have := hdk.out; omega
              rw [List.getElem_append_right (by omega)]
              have e3 : i - R.length = 0 := by omega
              simp only [e3, List.getElem_cons_zero]
              rw [e2]
              exact ⟨HJ.out, HJ2.out⟩
    · obtain rfl : s = k := by omega
      obtain ⟨a', cap', rfl, hMs⟩ := hM.ms
      have hb := hM.own.belowOf (Nat.le_refl _) (fun k e => by cases e)
      go_wp2_with fail
      go_ret2
      refine ⟨_, _, _, R, 0, rfl, hMs, ⟨rep_of_rows (by rw [rwData_length]; exact HL.out) (fun i hi => ?_), rfl⟩, hb⟩
      rw [rwData_at hi]
      exact HD.out i (by simpa [rwData] using hi)
end Go.Proofs.Ythhcdfjijagalaa
namespace Go.Proofs.Ythhcdfjijagalaa
open Go.RowKit
set_option linter.unusedVariables false
/-- 'string(b)' of bytes that one can read. -/
theorem Bt.str {w : World} {a : Option Addr} {n cap : Nat} {l : List UInt8} (h : Bt w a n cap l) : (convert 88 9 (.slice a n cap)).run Try.prog w = .ok (.string ⟨l.toArray⟩) w := by
  have hn := Bt.n h
  cases a with
  | none =>
    have h0 := h.nil rfl
    have hle := h.le
    obtain rfl : n = 0 := by omega
    obtain rfl : l = [] := List.eq_nil_of_length_eq_zero hn
    exact Lib.run_convert_nil_bytes w 88 9 5 cap Try.underlying88 Try.underlying5 Try.underlying9
  | some p =>
    subst hn
    refine run_convert_bytes_back w 88 9 5 p cap l Try.underlying88 Try.underlying5 Try.underlying9 ?_
    intro j hj
    obtain ⟨b, off, e, hc⟩ := h.addr (by omega)
    cases e
    rw [add_off, hc j _ (cb_get l j hj)]
    simp [at8, List.getD, hj]
end Go.Proofs.Ythhcdfjijagalaa
namespace Go.Proofs.Ythhcdfjijagalaa
open Go.RowKit
set_option linter.unusedVariables false
structure Gx (w W : World) (t Gw Go n cw co : Nat) (A B : List Wr) : Prop where
  mw : Mo W w.heap.size Gw n cw A
  mo : Mo W w.heap.size Go n co B
  lw : A.length = n
  lo : B.length = n
  ww : ∀ r ∈ A, r.l.length = n
  wo : ∀ r ∈ B, r.l.length = n
  gg : Gw ≠ Go
  rr : ∀ r ∈ A, ∀ q ∈ B, r.g ≠ q.g
  tab : Tab W t
  below : Below w.heap.size w W
section
variable {w W W' : World} {t Gw Go n cw co : Nat} {A B : List Wr}
theorem Gx.keep (h : Gx w W t Gw Go n cw co A B) (hb : Below W.heap.size W W') : Gx w W' t Gw Go n cw co A B :=
  ⟨h.mw.below hb, h.mo.below hb, h.lw, h.lo, h.ww, h.wo, h.gg, h.rr, h.tab.below hb, h.below.trans (hb.mono h.below.size)⟩
theorem Gx.alloc (h : Gx w W t Gw Go n cw co A B) (o : Obj) : Gx w (W.alloc o) t Gw Go n cw co A B := h.keep ((Below.refl _ _).alloc (Nat.le_refl _) o)
theorem Gx.drewN (h : Gx w W t Gw Go n cw co A B) (k : Nat) : Gx w (W.drewN k) t Gw Go n cw co A B := h.keep (below_drewN (Below.refl _ _) k)
/-- the other way round -/
theorem Gx.symm (h : Gx w W t Gw Go n cw co A B) : Gx w W t Go Gw n co cw B A := ⟨h.mo, h.mw, h.lo, h.lw, h.wo, h.ww, Ne.symm h.gg, fun r hr q hq => Ne.symm (h.rr q hq r hr), h.tab, h.below⟩
theorem Mo.gneB {base base' G G' n n' c c' : Nat} {A B : List Wr} (h : Mo W base G n c A) (h' : Mo W base' G' n' c' B) {r : Wr} (hr : r ∈ A) : r.g ≠ G' := by
  obtain ⟨_, h1⟩ := h.rblk hr
  obtain ⟨_, h2⟩ := h'.blk
  exact heap_ne h1 h2 (by decide)
/-- two rows of the first change places -/
theorem Gx.swap (h : Gx w W t Gw Go n cw co A B) (i k : Nat) (hi : i < A.length) (hk : k < A.length) :
    Gx w ((W.setCell ⟨Gw, i, none⟩ A[k].v).setCell ⟨Gw, k, none⟩ A[i].v) t Gw Go n cw co ((A.set i A[k]).set k A[i]) B := by
  have hO : Only W ((W.setCell ⟨Gw, i, none⟩ A[k].v).setCell ⟨Gw, k, none⟩ A[i].v) [Gw] := ((Only.refl W _).setCell (.inl (by simp)) _).setCell (.inl (by simp)) _
  have hmem : ∀ r ∈ (A.set i A[k]).set k A[i], r ∈ A := fun r hr => by
    rcases List.mem_or_eq_of_mem_set hr with h1 | rfl
    · rcases List.mem_or_eq_of_mem_set h1 with h2 | rfl
      · exact h2
      · exact List.getElem_mem _
    · exact List.getElem_mem _
  refine ⟨h.mw.swap i k hi hk, h.mo.only hO (by simpa using Ne.symm h.gg) (fun r hr => by simpa using h.mo.gneB h.mw hr), by simpa using h.lw, h.lo, fun r hr => h.ww r (hmem r hr), h.wo, h.gg, fun r hr => h.rr r (hmem r hr), h.tab.only hO (by simpa using h.mw.tab_ne h.tab), ?_⟩
  exact (h.below.setCell h.mw.lt.1 _).setCell h.mw.lt.1 _
/-- a row of the first turns -/
theorem Gx.row (h : Gx w W t Gw Go n cw co A B) (i : Nat) (hi : i < A.length) {l' : List UInt8} (hl : l'.length = n) (hO : Only W W' [A[i].g]) (ho : W'.ownsRow w.heap.size 5 1 A[i].v A[i].l.length (cb l')) :
    Gx w W' t Gw Go n cw co (A.set i ⟨A[i].g, A[i].cap, l'⟩) B := by
  have hm : A[i] ∈ A := List.getElem_mem _
  have hmem : ∀ r ∈ A.set i ⟨A[i].g, A[i].cap, l'⟩, r.l.length = n ∧ ∃ q ∈ A, r.g = q.g := fun r hr => by
    rcases List.mem_or_eq_of_mem_set hr with h1 | rfl
    · exact ⟨h.ww r h1, r, h1, rfl⟩
    · exact ⟨hl, A[i], hm, rfl⟩
  refine ⟨h.mw.setRow i hi (by rw [hl, h.ww _ hm]) hO ho, h.mo.only hO (by simpa using Ne.symm (h.mw.gneB h.mo hm)) (fun r hr => by simpa using Ne.symm (h.rr _ hm r hr)), by simpa using h.lw, h.lo, fun r hr => (hmem r hr).1, h.wo, h.gg, fun r hr q hq => ?_, h.tab.only hO (by simpa using h.mw.tab_rne h.tab hm), h.below.trans (hO.isBelow h.below.size (by simpa using (h.mw.rlt hm).1))⟩
  obtain ⟨_, q', hq', e⟩ := hmem r hr
  rw [e]; exact h.rr q' hq' q hq
theorem Gx.box (h : Gx w W t Gw Go n cw co A B) {b : Nat} {cs : Array Value} (hb : W.heap[b]? = some (.cells cs 3 (0, 0))) {r : Wr} (hr : r ∈ A) (hO : Only W W' [r.g]) : W'.heap[b]? = some (.cells cs 3 (0, 0)) := by
  obtain ⟨_, h1⟩ := h.mw.rblk hr
  exact hO.blk hb (by simpa using heap_ne hb h1 (by decide))
theorem data_swap (A : List Wr) (i k : Nat) (hi : i < A.length) (hk : k < A.length) : wrData ((A.set i A[k]).set k A[i]) = ((wrData A).set i ((wrData A)[k]'(by simpa [wrData] using hk))).set k ((wrData A)[i]'(by simpa [wrData] using hi)) := by
  simp [wrData, List.map_set]
theorem ent_swapW (A : List Wr) (c k : Nat) (hc : c < A.length) (hk : k < A.length) (i j : Nat) : Mat.ent (wrData ((A.set c A[k]).set k A[c])) i j = Mat.swapM c k (Mat.ent (wrData A)) i j := by
  rw [data_swap A c k hc hk, Mat.ent_swap]
theorem wrData_length (A : List Wr) : (wrData A).length = A.length := by simp [wrData]
theorem data_set (A : List Wr) (i : Nat) (r : Wr) : wrData (A.set i r) = (wrData A).set i r.l := by simp [wrData, List.map_set]
end
set_option maxHeartbeats 400000 in
theorem gInvert1_call (b off m cap bx c : Nat) (l : List UInt8) (w : World) (h : Bt w (some ⟨b, off, none⟩) m cap l) (hc : c < m) (hbx : w.heap[bx]? = some (.cells #[.int .i64 (c : Int)] 3 (0, 0))) :
    Calls Try.prog 114 #[.slice (some ⟨b, off, none⟩) m cap, .pointer (some ⟨bx, 0, none⟩)] w (Same (.bool (decide (l.getD c 0 ≠ 0))) w) := by
  have hle := h.le
  have hmax := h.max
  unfold maxLen at hmax
  have c0 : w.cell? ⟨bx, 0, none⟩ = some (.int .i64 (c : Int)) := blk_cell hbx
  have c1 := Bt.at h c hc
  have HE := hid (show decide (l.getD c 0 ≠ 0) = ((at8 l c : Int) != 0) by
    rw [Bool.eq_iff_iff]
    simp only [decide_eq_true_eq, bne_iff_ne, ne_eq]
    unfold at8
    constructor
    · intro h1 h2
      exact h1 (UInt8.toNat_inj.1 (by simpa using h2))
    · intro h1 h2
      exact h1 (by rw [h2]; rfl))
  rw [HE.out]
  generalize at8 l c = x at *
  go_enter Try.func114, Try.ntmps114
  go_wp2
  go_ret
  exact ⟨rfl, rfl⟩
/-- the first row whose entry at c is not nought, or none -/
def FindRes (n c : Nat) (R : List Rw) (w : World) (e : Ending) (w' : World) : Prop :=
  w = w' ∧ ((∃ k, k < n ∧ e = .returned (.int .i64 (k : Int)) ∧ ∃ h : k < R.length, R[k].l.getD c 0 ≠ 0) ∨ (e = .returned (.int .i64 (-1)) ∧ ∀ k (h : k < R.length), R[k].l.getD c 0 = 0))
set_option maxHeartbeats 1000000 in
theorem IndexFuncM_call (a : Option Addr) (n cap bx c m : Nat) (R : List Rw) (w : World) (h : Ms w a n cap R) (hm : ∀ r ∈ R, r.l.length = m) (hc : c < m) (hbx : w.heap[bx]? = some (.cells #[.int .i64 (c : Int)] 3 (0, 0))) :
    Calls Try.prog 113 #[.slice a n cap, .func (Fn.func 114) #[] #[.pointer (some ⟨bx, 0, none⟩)]] w (FindRes n c R w) := by
  have hle := h.sl.le
  have hmax := h.sl.max
  unfold maxLen at hmax
  have HN := hid h.cnt
  go_enter Try.func113, Try.ntmps113
  go_wp2
  go_loopg [8] n (fun g i wr => ∃ k : Nat, g = n - k ∧ k ≤ n ∧ i = .int .i64 (k : Int) ∧ w = wr ∧ Hid (∀ j (h : j < R.length), j < k → R[j].l.getD c 0 = 0))
  case atStart => exact ⟨0, rfl, by omega, rfl, rfl, hid (fun j _ hj => absurd hj (by omega))⟩
  case round =>
    obtain ⟨k, rfl, hk, rfl, rfl, H0⟩ := hrel
    by_cases hlt : k < n
    · have hkR : k < R.length := by rw [HN.out]; exact hlt
      obtain ⟨b, off, rfl, _⟩ := h.sl.addr (by omega)
      obtain ⟨e0, hb⟩ := h.at k hkR
      have hl := hm _ (List.getElem_mem hkR)
      have hn1 : R[k].n = m := (Bt.n hb).symm.trans hl
      rw [hn1] at e0 hb
      obtain ⟨b1, off1, ha, _⟩ := hb.addr (by omega)
      rw [ha] at e0 hb
      have D := hid (gInvert1_call b1 off1 m _ bx c _ w hb hc hbx)
      have HD := hid (show R[k].l.getD c 0 = R[k].l.getD c 0 from rfl)
      generalize hz : R[k].l.getD c 0 = z at D
      replace hz := hid hz
      clear hn1 ha hl
      by_cases hz0 : z = 0
      · subst hz0
        have t0 : decide ((0 : UInt8) ≠ 0) = false := by decide
        rw [t0] at D
        go_wp2_with fail
        go_at_call 114; refine (D.out).mono ?_; rintro e w1 ⟨rfl, rfl⟩
        go_wp2_with fail
        go_roundg (n - (k + 1))
        case measure => omega
        case rel =>
          refine ⟨k + 1, rfl, by omega, by go_num, rfl, hid (fun j hj hjk => ?_)⟩
          by_cases e : j = k
          · subst e; exact hz.out
          · exact H0.out j hj (by omega)
      · have t0 : decide (z ≠ 0) = true := by simpa using hz0
        rw [t0] at D
        go_wp2_with fail
        go_at_call 114; refine (D.out).mono ?_; rintro e w1 ⟨rfl, rfl⟩
        go_wp2_with fail
        go_ret
        exact ⟨rfl, .inl ⟨k, hlt, rfl, hkR, by rw [hz.out]; exact hz0⟩⟩
    · obtain rfl : k = n := by omega
      go_wp2_with fail
      go_ret
      exact ⟨rfl, .inr ⟨rfl, fun j hj => H0.out j hj (by rw [← HN.out]; exact hj)⟩⟩
end Go.Proofs.Ythhcdfjijagalaa
namespace Go.Proofs.Ythhcdfjijagalaa
open Go.RowKit
set_option linter.unusedVariables false
set_option maxHeartbeats 1000000 in
theorem cloneBytes_call (a : Option Addr) (n cap : Nat) (l : List UInt8) (w : World) (h : Bt w a n cap l) (hlim : n ≤ 140737488355328) :
    Calls Try.prog 85 #[.slice a n cap] w fun e w' => ∃ v, e = .returned v ∧ Below w.heap.size w w' ∧ w'.ownsRow w.heap.size 5 1 v n (cb l) := by
  cases a with
  | none =>
    have h0 := h.nil rfl
    have hle := h.le
    obtain rfl : n = 0 := by omega
    obtain rfl : cap = 0 := h0
    have he := fun wx => Lib.run_eql_slice_nil (P := Try.prog) wx 88 5 none 0 0 0 0 Try.underlying88
    go_enter Try.func85, Try.ntmps85
    go_wp2
    go_ret
    exact ⟨_, rfl, Below.refl _ _, by have := h.len; simp at this; rw [this]; exact World.ownsRow_nil _ _ _ _⟩
  | some p =>
    have he := fun wx => Lib.run_eql_slice_nil (P := Try.prog) wx 88 5 (some p) n cap 0 0 Try.underlying88
    have HN := hid (Bt.n h)
    have hln : l.length ≤ 140737488355328 := by rw [HN.out]; exact hlim
    go_enter Try.func85, Try.ntmps85
    go_wp2_with (at_builtin; (refine wpList_append_bytes rfl (.tmp 5) (.tmp 6) rfl w.heap.size (.slice (some ⟨w.heap.size, 0, none⟩) 0 0) [] l rfl (own_lit w w.heap.size (Nat.le_refl _) _ [] (by decide) rfl) (some p) n cap rfl (h.alloc _) ?d1 ?d2 ?_); (case d1 => simp; omega); (case d2 => simp); intro v2 w4 ho2 hg2)
    go_ret
    refine ⟨v2, rfl, below_grown1 ((Below.refl _ _).alloc (Nat.le_refl _) _) (by simp) hg2 (Nat.le_refl _), ?_⟩
    rw [List.nil_append, HN.out] at ho2
    exact ho2
end Go.Proofs.Ythhcdfjijagalaa
