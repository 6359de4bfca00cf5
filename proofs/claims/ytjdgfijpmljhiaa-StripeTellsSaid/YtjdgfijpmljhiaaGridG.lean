/- Memory while a matrix is undone: two matrices of the call's own, the tables; finding a row. -/
import Derived.Test.YtjdgfijpmljhiaaGridF
import Derived.Test.YtjdgfijpmljhiaaInv
namespace Go.Proofs.Ytjdgfijpmljhiaa
open Go.RowKit
set_option linter.unusedVariables false
structure Gx (w W : World) (t Gw Go n cw co : Nat) (A B : List Wr) : Prop where
  mw : Mo W w.heap.size Gw n cw A
  mo : Mo W w.heap.size Go n co B
  lw : A.length = n
  lo : B.length = n
  ww : ∀ r ∈ A, r.l.length = n
  wo : ∀ r ∈ B, r.l.length = n
  gg : Gw ≠ Go
  rr : ∀ r ∈ A, ∀ q ∈ B, r.g ≠ q.g
  tab : Tab W t
  below : Below w.heap.size w W
section
variable {w W W' : World} {t Gw Go n cw co : Nat} {A B : List Wr}
theorem Gx.keep (h : Gx w W t Gw Go n cw co A B) (hb : Below W.heap.size W W') : Gx w W' t Gw Go n cw co A B :=
  ⟨h.mw.below hb, h.mo.below hb, h.lw, h.lo, h.ww, h.wo, h.gg, h.rr, h.tab.below hb, h.below.trans (hb.mono h.below.size)⟩
theorem Gx.alloc (h : Gx w W t Gw Go n cw co A B) (o : Obj) : Gx w (W.alloc o) t Gw Go n cw co A B := h.keep ((Below.refl _ _).alloc (Nat.le_refl _) o)
theorem Gx.drewN (h : Gx w W t Gw Go n cw co A B) (k : Nat) : Gx w (W.drewN k) t Gw Go n cw co A B := h.keep (below_drewN (Below.refl _ _) k)
/-- the other way round -/
theorem Gx.symm (h : Gx w W t Gw Go n cw co A B) : Gx w W t Go Gw n co cw B A := ⟨h.mo, h.mw, h.lo, h.lw, h.wo, h.ww, Ne.symm h.gg, fun r hr q hq => Ne.symm (h.rr q hq r hr), h.tab, h.below⟩
theorem Mo.gneB {base base' G G' n n' c c' : Nat} {A B : List Wr} (h : Mo W base G n c A) (h' : Mo W base' G' n' c' B) {r : Wr} (hr : r ∈ A) : r.g ≠ G' := by
  obtain ⟨_, h1⟩ := h.rblk hr
  obtain ⟨_, h2⟩ := h'.blk
  exact heap_ne h1 h2 (by decide)
/-- two rows of the first change places -/
theorem Gx.swap (h : Gx w W t Gw Go n cw co A B) (i k : Nat) (hi : i < A.length) (hk : k < A.length) :
    Gx w ((W.setCell ⟨Gw, i, none⟩ A[k].v).setCell ⟨Gw, k, none⟩ A[i].v) t Gw Go n cw co ((A.set i A[k]).set k A[i]) B := by
  have hO : Only W ((W.setCell ⟨Gw, i, none⟩ A[k].v).setCell ⟨Gw, k, none⟩ A[i].v) [Gw] := ((Only.refl W _).setCell (.inl (by simp)) _).setCell (.inl (by simp)) _
  have hmem : ∀ r ∈ (A.set i A[k]).set k A[i], r ∈ A := fun r hr => by
    rcases List.mem_or_eq_of_mem_set hr with h1 | rfl
    · rcases List.mem_or_eq_of_mem_set h1 with h2 | rfl
      · exact h2
      · exact List.getElem_mem _
    · exact List.getElem_mem _
  refine ⟨h.mw.swap i k hi hk, h.mo.only hO (by simpa using Ne.symm h.gg) (fun r hr => by simpa using h.mo.gneB h.mw hr), by simpa using h.lw, h.lo, fun r hr => h.ww r (hmem r hr), h.wo, h.gg, fun r hr => h.rr r (hmem r hr), h.tab.only hO (by simpa using h.mw.tab_ne h.tab), ?_⟩
  exact (h.below.setCell h.mw.lt.1 _).setCell h.mw.lt.1 _
/-- a row of the first turns -/
theorem Gx.row (h : Gx w W t Gw Go n cw co A B) (i : Nat) (hi : i < A.length) {l' : List UInt8} (hl : l'.length = n) (hO : Only W W' [A[i].g]) (ho : W'.ownsRow w.heap.size 5 1 A[i].v A[i].l.length (cb l')) :
    Gx w W' t Gw Go n cw co (A.set i ⟨A[i].g, A[i].cap, l'⟩) B := by
  have hm : A[i] ∈ A := List.getElem_mem _
  have hmem : ∀ r ∈ A.set i ⟨A[i].g, A[i].cap, l'⟩, r.l.length = n ∧ ∃ q ∈ A, r.g = q.g := fun r hr => by
    rcases List.mem_or_eq_of_mem_set hr with h1 | rfl
    · exact ⟨h.ww r h1, r, h1, rfl⟩
    · exact ⟨hl, A[i], hm, rfl⟩
  refine ⟨h.mw.setRow i hi (by rw [hl, h.ww _ hm]) hO ho, h.mo.only hO (by simpa using Ne.symm (h.mw.gneB h.mo hm)) (fun r hr => by simpa using Ne.symm (h.rr _ hm r hr)), by simpa using h.lw, h.lo, fun r hr => (hmem r hr).1, h.wo, h.gg, fun r hr q hq => ?_, h.tab.only hO (by simpa using h.mw.tab_rne h.tab hm), h.below.trans (hO.isBelow h.below.size (by simpa using (h.mw.rlt hm).1))⟩
  obtain ⟨_, q', hq', e⟩ := hmem r hr
  rw [e]; exact h.rr q' hq' q hq
/-- a box in which a number lies -/
theorem box_only {W W' : World} {S : List Nat} {b : Nat} {cs : Array Value} (hb : W.heap[b]? = some (.cells cs 3 (0, 0))) (hO : Only W W' S) (hS : ∀ x ∈ S, ∃ ds t, W.heap[x]? = some (.cells ds t (0, 0)) ∧ t ≠ 3) : W'.heap[b]? = some (.cells cs 3 (0, 0)) :=
  hO.blk hb fun hm => by
    obtain ⟨ds, t, hx, hne⟩ := hS b hm
    exact heap_ne hx hb hne rfl
theorem Gx.data_swap (h : Gx w W t Gw Go n cw co A B) (i k : Nat) (hi : i < A.length) (hk : k < A.length) : wrData ((A.set i A[k]).set k A[i]) = ((wrData A).set i ((wrData A)[k]'(by simpa [wrData] using hk))).set k ((wrData A)[i]'(by simpa [wrData] using hi)) := by
  simp [wrData, List.map_set]
theorem Gx.box (h : Gx w W t Gw Go n cw co A B) {b : Nat} {cs : Array Value} (hb : W.heap[b]? = some (.cells cs 3 (0, 0))) {r : Wr} (hr : r ∈ A) (hO : Only W W' [r.g]) : W'.heap[b]? = some (.cells cs 3 (0, 0)) := by
  obtain ⟨_, h1⟩ := h.mw.rblk hr
  exact hO.blk hb (by simpa using heap_ne hb h1 (by decide))
theorem data_swap (A : List Wr) (i k : Nat) (hi : i < A.length) (hk : k < A.length) : wrData ((A.set i A[k]).set k A[i]) = ((wrData A).set i ((wrData A)[k]'(by simpa [wrData] using hk))).set k ((wrData A)[i]'(by simpa [wrData] using hi)) := by
  simp [wrData, List.map_set]
theorem ent_swapW (A : List Wr) (c k : Nat) (hc : c < A.length) (hk : k < A.length) (i j : Nat) : Mat.ent (wrData ((A.set c A[k]).set k A[c])) i j = Mat.swapM c k (Mat.ent (wrData A)) i j := by
  rw [data_swap A c k hc hk, Mat.ent_swap]
theorem wrData_length (A : List Wr) : (wrData A).length = A.length := by simp [wrData]
theorem data_set (A : List Wr) (i : Nat) (r : Wr) : wrData (A.set i r) = (wrData A).set i r.l := by simp [wrData, List.map_set]
end

set_option maxHeartbeats 400000 in
theorem gInvert1_call (b off m cap bx c : Nat) (l : List UInt8) (w : World) (h : Bt w (some ⟨b, off, none⟩) m cap l) (hc : c < m) (hbx : w.heap[bx]? = some (.cells #[.int .i64 (c : Int)] 3 (0, 0))) :
    Calls Try.prog 80 #[.slice (some ⟨b, off, none⟩) m cap, .pointer (some ⟨bx, 0, none⟩)] w (Same (.bool (decide (l.getD c 0 ≠ 0))) w) := by
  have hle := h.le
  have hmax := h.max
  unfold maxLen at hmax
  have c0 : w.cell? ⟨bx, 0, none⟩ = some (.int .i64 (c : Int)) := blk_cell hbx
  have c1 := Bt.at h c hc
  have HE := hid (show decide (l.getD c 0 ≠ 0) = ((at8 l c : Int) != 0) by
    rw [Bool.eq_iff_iff]
    simp only [decide_eq_true_eq, bne_iff_ne, ne_eq]
    unfold at8
    constructor
    · intro h1 h2
      exact h1 (UInt8.toNat_inj.1 (by simpa using h2))
    · intro h1 h2
      exact h1 (by rw [h2]; rfl))
  rw [HE.out]
  generalize at8 l c = x at *
  go_enter Try.func80, Try.ntmps80
  go_wp2
  go_ret
  exact ⟨rfl, rfl⟩

/-- the first row whose entry at c is not nought, or none -/
def FindRes (n c : Nat) (R : List Rw) (w : World) (e : Ending) (w' : World) : Prop :=
  w = w' ∧ ((∃ k, k < n ∧ e = .returned (.int .i64 (k : Int)) ∧ ∃ h : k < R.length, R[k].l.getD c 0 ≠ 0) ∨ (e = .returned (.int .i64 (-1)) ∧ ∀ k (h : k < R.length), R[k].l.getD c 0 = 0))
set_option maxHeartbeats 1000000 in
theorem IndexFuncM_call (a : Option Addr) (n cap bx c m : Nat) (R : List Rw) (w : World) (h : Ms w a n cap R) (hm : ∀ r ∈ R, r.l.length = m) (hc : c < m) (hbx : w.heap[bx]? = some (.cells #[.int .i64 (c : Int)] 3 (0, 0))) :
    Calls Try.prog 79 #[.slice a n cap, .func (Fn.func 80) #[] #[.pointer (some ⟨bx, 0, none⟩)]] w (FindRes n c R w) := by
  have hle := h.sl.le
  have hmax := h.sl.max
  unfold maxLen at hmax
  have HN := hid h.cnt
  go_enter Try.func79, Try.ntmps79
  go_wp2
  go_loopg [8] n (fun g i wr => ∃ k : Nat, g = n - k ∧ k ≤ n ∧ i = .int .i64 (k : Int) ∧ w = wr ∧ Hid (∀ j (h : j < R.length), j < k → R[j].l.getD c 0 = 0))
  case atStart => exact ⟨0, rfl, by omega, rfl, rfl, hid (fun j _ hj => absurd hj (by omega))⟩
  case round =>
    obtain ⟨k, rfl, hk, rfl, rfl, H0⟩ := hrel
    by_cases hlt : k < n
    · have hkR : k < R.length := by rw [HN.out]; exact hlt
      obtain ⟨b, off, rfl, _⟩ := h.sl.addr (by omega)
      obtain ⟨e0, hb⟩ := h.at k hkR
      have hl := hm _ (List.getElem_mem hkR)
      have hn1 : R[k].n = m := (Bt.n hb).symm.trans hl
      rw [hn1] at e0 hb
      obtain ⟨b1, off1, ha, _⟩ := hb.addr (by omega)
      rw [ha] at e0 hb
      have D := hid (gInvert1_call b1 off1 m _ bx c _ w hb hc hbx)
      have HD := hid (show R[k].l.getD c 0 = R[k].l.getD c 0 from rfl)
      generalize hz : R[k].l.getD c 0 = z at D
      replace hz := hid hz
      clear hn1 ha hl
      by_cases hz0 : z = 0
      · subst hz0
        have t0 : decide ((0 : UInt8) ≠ 0) = false := by decide
        rw [t0] at D
        go_wp2_with fail
        go_at_call 80; refine (D.out).mono ?_; rintro e w1 ⟨rfl, rfl⟩
        go_wp2_with fail
        go_roundg (n - (k + 1))
        case measure => omega
        case rel =>
          refine ⟨k + 1, rfl, by omega, by go_num, rfl, hid (fun j hj hjk => ?_)⟩
          by_cases e : j = k
          · subst e; exact hz.out
          · exact H0.out j hj (by omega)
      · have t0 : decide (z ≠ 0) = true := by simpa using hz0
        rw [t0] at D
        go_wp2_with fail
        go_at_call 80; refine (D.out).mono ?_; rintro e w1 ⟨rfl, rfl⟩
        go_wp2_with fail
        go_ret
        exact ⟨rfl, .inl ⟨k, hlt, rfl, hkR, by rw [hz.out]; exact hz0⟩⟩
    · obtain rfl : k = n := by omega
      go_wp2_with fail
      go_ret
      exact ⟨rfl, .inr ⟨rfl, fun j hj => H0.out j hj (by rw [← HN.out]; exact hj)⟩⟩

end Go.Proofs.Ytjdgfijpmljhiaa
