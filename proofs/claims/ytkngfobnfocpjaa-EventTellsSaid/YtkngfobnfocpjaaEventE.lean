/- Contracts of the reader of events: take, num, event. -/
import Derived.Test.YtkngfobnfocpjaaEventA
import Derived.Test.YtkngfobnfocpjaaKit3
import Derived.Test.YtkngfobnfocpjaaOnly
import Derived.Test.YtkngfobnfocpjaaBlockD
namespace Go.Proofs.Ytkngfobnfocpjaa
open Go.RowKit
set_option linter.unusedVariables false

/-- The reader in block r of w has what t says; its bytes lie where they lay in w0. -/
structure Rd (w0 w : World) (r : Nat) (t : Evt.St) : Prop where
  cells : ∃ a n cap, w.heap[r]? = some (.cells #[.slice a n cap, .bool t.ok] 77 (0, 0)) ∧ Bt w0 a n cap t.l
  old : w0.heap.size ≤ r
  below : Below w0.heap.size w0 w
theorem Rd.keep {w0 w w' : World} {r : Nat} {t : Evt.St} {S : List Nat} (h : Rd w0 w r t) (hO : Only w w' S) (hr : r ∉ S) (hS : ∀ x ∈ S, w0.heap.size ≤ x) : Rd w0 w' r t := by
  obtain ⟨a, n, cap, hb, hl⟩ := h.cells
  exact ⟨⟨a, n, cap, hO.blk hb hr, hl⟩, h.old, h.below.trans (hO.isBelow h.below.size hS)⟩
theorem heap_set0 {w : World} {b : Nat} {x y v : Value} {t : TypeId} (h : w.heap[b]? = some (.cells #[x, y] t (0, 0))) : (w.setCell ⟨b, 0, none⟩ v).heap[b]? = some (.cells #[v, y] t (0, 0)) := by
  rw [heap_setCell_same w b 0 #[x, y] t v h]; rfl
theorem heap_set1 {w : World} {b : Nat} {x y v : Value} {t : TypeId} (h : w.heap[b]? = some (.cells #[x, y] t (0, 0))) : (w.setCell ⟨b, 1, none⟩ v).heap[b]? = some (.cells #[x, v] t (0, 0)) := by
  rw [heap_setCell_same w b 1 #[x, y] t v h]; rfl
/-- bytes, and the reader behind it -/
def TakeRes (w0 : World) (r : Nat) (l : List UInt8) (t : Evt.St) (w : World) (e : Ending) (w' : World) : Prop := ∃ a n cap, e = .returned (.slice a n cap) ∧ Bt w' a n cap l ∧ Rd w0 w' r t ∧ Only w w' [r]
set_option maxHeartbeats 1000000 in
theorem rdtake_call (w0 w : World) (r k : Nat) (t : Evt.St) (hk : k ≤ 255) (h : Rd w0 w r t) : Calls Try.prog 54 #[.pointer (some ⟨r, 0, none⟩), .int .i64 (k : Int)] w (TakeRes w0 r (Evt.take k t).1 (Evt.take k t).2 w) := by
  obtain ⟨⟨a, n, cap, hb, hl⟩, hold, hbel⟩ := h
  obtain ⟨l, ok⟩ := t
  simp only at hb hl
  have HN := hid (Bt.n hl)
  have hmax := hl.max
  have hle := hl.le
  unfold maxLen at hmax
  have c0 : w.cell? ⟨r, 0, none⟩ = some (.slice a n cap) := blk_cell hb
  have c1 : w.cell? ⟨r, 1, none⟩ = some (.bool ok) := blk_cell hb
  have f0 : w.frozen? ⟨r, 0, none⟩ = false := blk_free hb
  have f1 : w.frozen? ⟨r, 1, none⟩ = false := blk_free hb
  by_cases hlt : n < k
  · have HE := hid (show Evt.take k ⟨l, ok⟩ = (List.replicate k 0, ⟨l, false⟩) by unfold Evt.take; rw [if_pos (by simp only [HN.out]; exact hlt)])
    have t0 : decide ((n : Int) < (k : Int)) = true := by simpa using hlt
    have t1 : decide (n < k) = true := by simpa using hlt
    rw [HE.out]
    go_enter Try.func54, Try.ntmps54
    go_wp2_with (refine wpList_make_bytes rfl (.tmp 16) (.tmp 16) rfl k rfl rfl (by omega) ?_; intro w3 o3 b3 z3)
    go_ret
    obtain ⟨a3, cp3, e3, s3⟩ := own_sl o3
    cases e3
    have hO : Only w w3 [r] := ((Only.refl w [r]).setCell (.inl (by simp)) _).below b3
    have hb3 := blk_below (heap_set1 (v := .bool false) hb) b3
    rw [World.size_setCell] at s3
    exact ⟨_, _, _, rfl, s3, ⟨⟨a, n, cap, hb3, hl⟩, hold, hbel.trans (hO.isBelow hbel.size (by simpa using hold))⟩, hO⟩
  · have HE := hid (show Evt.take k ⟨l, ok⟩ = (l.take k, ⟨l.drop k, ok⟩) by unfold Evt.take; rw [if_neg (by simp only [HN.out]; exact hlt)])
    have t0 : decide ((n : Int) < (k : Int)) = false := by simpa using hlt
    have t1 : decide (n < k) = false := by simpa using hlt
    have hkn : k ≤ n := by omega
    have hs1 := Bt.take hl hkn
    have hs2 := Bt.slice hl hkn (Nat.le_refl n)
    rw [List.take_of_length_le (by rw [List.length_drop, HN.out]; exact Nat.le_refl _)] at hs2
    rw [HE.out]
    by_cases hc : cap = k
    · obtain rfl : n = k := by omega
      subst hc
      rw [if_pos rfl] at hs2
      have hs1 := hid hs1
      have hs2 := hid hs2
      go_enter Try.func54, Try.ntmps54
      go_wp2
      go_ret
      exact ⟨_, _, _, rfl, hs1.out.below (hbel.setCell hold _), ⟨⟨_, _, _, heap_set0 hb, by simpa using hs2.out⟩, hold, hbel.setCell hold _⟩, (Only.refl w [r]).setCell (.inl (by simp)) _⟩
    · rw [if_neg hc] at hs2
      have hs1 := hid hs1
      have hs2 := hid hs2
      go_enter Try.func54, Try.ntmps54
      go_wp2
      all_goals go_ret
      all_goals exact ⟨_, _, _, rfl, hs1.out.below (hbel.setCell hold _), ⟨⟨_, _, _, heap_set0 hb, by simpa using hs2.out⟩, hold, hbel.setCell hold _⟩, (Only.refl w [r]).setCell (.inl (by simp)) _⟩

theorem Evt.be_snoc (l : List UInt8) (j : Nat) (h : j < l.length) : Evt.be (l.take (j + 1)) = 256 * Evt.be (l.take j) + at8 l j := by
  unfold Evt.be
  rw [List.take_succ_eq_append_getElem h, List.foldl_append]
  simp [at8, List.getD, h, Nat.mul_comm]
theorem Evt.be_lt (l : List UInt8) (j : Nat) (h : j ≤ l.length) : Evt.be (l.take j) < 256 ^ j := by
  induction j with
  | zero => simp [Evt.be]
  | succ j ih =>
    rw [Evt.be_snoc l j (by omega), Nat.pow_succ]
    have := ih (by omega)
    have := at8_lt l j
    omega
theorem Evt.take_length (k : Nat) (t : Evt.St) : (Evt.take k t).1.length = k := by
  unfold Evt.take
  split
  · simp
  · rw [List.length_take]; omega
def NumRes (w0 : World) (r : Nat) (x : Nat) (t : Evt.St) (w : World) (e : Ending) (w' : World) : Prop := e = .returned (.int .i64 (x : Int)) ∧ Rd w0 w' r t ∧ Only w w' [r]
set_option maxHeartbeats 1000000 in
theorem rdnum_call (w0 w : World) (r k : Nat) (t : Evt.St) (hk : k ≤ 3) (h : Rd w0 w r t) : Calls Try.prog 50 #[.pointer (some ⟨r, 0, none⟩), .int .i64 (k : Int)] w (NumRes w0 r (Evt.num k t).1 (Evt.num k t).2 w) := by
  have D := hid (rdtake_call w0 w r k t (by omega) h)
  have HL := hid (Evt.take_length k t)
  have HE := hid (show (Evt.num k t).1 = Evt.be (Evt.take k t).1 from rfl)
  have HE2 := hid (show (Evt.num k t).2 = (Evt.take k t).2 from rfl)
  rw [HE.out, HE2.out]
  generalize (Evt.take k t).1 = l at *
  generalize (Evt.take k t).2 = t' at *
  clear HE HE2
  go_enter Try.func50, Try.ntmps50
  go_wp2_with fail
  go_at_call 54; refine (D.out).mono ?_; rintro e w1 ⟨a, n, cap, rfl, hl, hR, hO⟩
  have HN := hid ((Bt.n hl).symm.trans HL.out)
  have hn3 : n ≤ 3 := by have := HN.out; omega
  go_wp2_with fail
  go_loopg [5, 7, 12] n (fun g x c i wr => w1 = wr ∧ ∃ j : Nat, g = n - j ∧ j ≤ n ∧ i = .int .i64 j ∧ x = .int .i64 (Evt.be (l.take j) : Nat))
  case atStart => exact ⟨rfl, 0, rfl, by omega, rfl, rfl⟩
  case round =>
    obtain ⟨rfl, j, rfl, hj, rfl, rfl⟩ := hrel
    by_cases hlt : j < n
    · obtain ⟨b, off, rfl, _⟩ := hl.addr (by omega)
      have hc := Bt.at hl j hlt
      have h8 := at8_lt l j
      have HS := hid (Evt.be_snoc l j (by rw [HL.out]; have := HN.out; omega))
      have hB := Evt.be_lt l j (by rw [HL.out]; have := HN.out; omega)
      have hB2 : Evt.be (l.take j) < 65536 := Nat.lt_of_lt_of_le hB (Nat.pow_le_pow_right (n := 256) (by decide) (show j ≤ 2 by omega))
      clear hB
      generalize Evt.be (l.take j) = B at *
      have hx := i64_or_nat (B * 256) (at8 l j) (by omega) (by omega)
      have hx2 : bits .or .i64 ((B : Int) * 256) (at8 l j : Int) = ((256 * B + at8 l j : Nat) : Int) := by
        rw [Nat.or_comm, or_shift (at8 l j) B 8 h8] at hx
        rw [show ((B * 256 : Nat) : Int) = (B : Int) * 256 by simp] at hx
        rw [hx]; congr 1; omega
      clear hx
      go_wp2
      go_roundg (n - (j + 1))
      case measure => omega
      case rel => exact ⟨rfl, j + 1, rfl, by omega, by go_num, by rw [HS.out]; exact congrArg (Value.int .i64) (by omega)⟩
    · obtain rfl : j = n := by omega
      go_wp2
      go_ret
      exact ⟨ret_int (by rw [List.take_of_length_le (by rw [Bt.n hl]; exact Nat.le_refl _)]), hR, hO⟩

def EvRes (w0 : World) (r : Nat) (x : Evt.Ev) (t : Evt.St) (w : World) (e : Ending) (w' : World) : Prop := e = .returned (evVal x) ∧ Rd w0 w' r t ∧ Only w w' [r] ∧ x.s.size ≤ maxLen
set_option maxHeartbeats 1000000 in
theorem rdevent_call (w0 w : World) (r : Nat) (t : Evt.St) (h : Rd w0 w r t) : Calls Try.prog 51 #[.pointer (some ⟨r, 0, none⟩)] w (EvRes w0 r (Evt.event t).1 (Evt.event t).2 w) := by
  have hr := h.old
  have hrl : r < w.heap.size := by obtain ⟨⟨a, n, cap, hb, _⟩, _, _⟩ := h; exact blk_lt hb
  have D1 := fun W t (h : Rd w0 W r t) => rdnum_call w0 W r 1 t (by omega) h
  have D3 := fun W t (h : Rd w0 W r t) => rdnum_call w0 W r 3 t (by omega) h
  have D2 := fun W k t (hk : k ≤ 255) (h : Rd w0 W r t) => rdtake_call w0 W r k t hk h
  have hE : Evt.event t = (⟨⟨(Evt.take (Evt.num 1 t).1 (Evt.num 1 t).2).1.toArray⟩, (Evt.num 1 (Evt.take (Evt.num 1 t).1 (Evt.num 1 t).2).2).1, (Evt.num 3 (Evt.num 1 (Evt.take (Evt.num 1 t).1 (Evt.num 1 t).2).2).2).1⟩, (Evt.num 3 (Evt.num 1 (Evt.take (Evt.num 1 t).1 (Evt.num 1 t).2).2).2).2) := rfl
  have d1 := D1 (w.alloc (.cells #[.string ⟨#[]⟩, .int .i64 0, .int .i64 0] 47)) t
  have hb1 : (Evt.num 1 t).1 < 256 := by
    have := Evt.be_lt (Evt.take 1 t).1 1 (by rw [Evt.take_length]; exact Nat.le_refl _)
    rw [List.take_of_length_le (by rw [Evt.take_length]; exact Nat.le_refl _)] at this
    exact this
  generalize Evt.num 1 t = n1 at *
  obtain ⟨x1, t1⟩ := n1
  simp only at hE d1 hb1
  have d2 := fun W => D2 W x1 t1 (by omega)
  have hl2 := Evt.take_length x1 t1
  generalize Evt.take x1 t1 = n2 at *
  obtain ⟨l2, t2⟩ := n2
  simp only at hE d2 hl2
  have d3 := fun W => D1 W t2
  generalize Evt.num 1 t2 = n3 at *
  obtain ⟨x3, t3⟩ := n3
  simp only at hE d3
  have d4 := fun W => D3 W t3
  generalize Evt.num 3 t3 = n4 at *
  obtain ⟨x4, t4⟩ := n4
  simp only at hE d4
  have HE := hid hE
  clear hE D1 D2 D3
  rw [HE.out]
  have HL2 := hid hl2
  have d1 := hid d1; have d2 := hid d2; have d3 := hid d3; have d4 := hid d4
  clear hl2
  have R0 := hid (h.keep ((Only.refl w []).alloc (.cells #[.string ⟨#[]⟩, .int .i64 0, .int .i64 0] 47)) (by simp) (by simp))
  go_enter Try.func51, Try.ntmps51
  go_wp2_with fail
  go_at_call 50; refine (d1.out R0.out).mono ?_; rintro e w1 ⟨rfl, R1, O1⟩
  go_wp2_with fail
  go_at_call 54; refine (d2.out _ R1).mono ?_; rintro e w2 ⟨a, n, cap, rfl, hl, R2, O2⟩
  have hst := Bt.str hl
  have HN := hid (Bt.n hl)
  go_wp2_with fail
  go_at_call 50; refine (d3.out _ R2).mono ?_; rintro e w3 ⟨rfl, R3, O3⟩
  go_wp2_with fail
  go_at_call 50; refine (d4.out _ R3).mono ?_; rintro e w4 ⟨rfl, R4, O4⟩
  have hne : w.heap.size ≠ r := by omega
  have hb0 := blk_new w (.cells #[.string ⟨#[]⟩, .int .i64 0, .int .i64 0] 47)
  have hb4 := O4.blk (O3.blk (O2.blk (O1.blk hb0 (by simpa using hne)) (by simpa using hne)) (by simpa using hne)) (by simpa using hne)
  have r0 : w4.cell? ⟨w.heap.size, 0, none⟩ = some (.string ⟨#[]⟩) := blk_cell hb4
  have r1 : w4.cell? ⟨w.heap.size, 1, none⟩ = some (.int .i64 0) := blk_cell hb4
  have r2 : w4.cell? ⟨w.heap.size, 2, none⟩ = some (.int .i64 0) := blk_cell hb4
  have f0 : w4.frozen? ⟨w.heap.size, 0, none⟩ = false := blk_free hb4
  have f1 : w4.frozen? ⟨w.heap.size, 1, none⟩ = false := blk_free hb4
  have f2 : w4.frozen? ⟨w.heap.size, 2, none⟩ = false := blk_free hb4
  have OO : Only w w4 [r] := (((((Only.refl w [r]).alloc (.cells #[.string ⟨#[]⟩, .int .i64 0, .int .i64 0] 47)).more O1.grown (by simp)).more O2.grown (by simp)).more O3.grown (by simp)).more O4.grown (by simp)
  have hK : Only w4 (((w4.setCell ⟨w.heap.size, 0, none⟩ (.string ⟨l2.toArray⟩)).setCell ⟨w.heap.size, 1, none⟩ (.int .i64 (x3 : Int))).setCell ⟨w.heap.size, 2, none⟩ (.int .i64 (x4 : Int))) [w.heap.size] := (((Only.refl w4 _).setCell (.inl (by simp)) _).setCell (.inl (by simp)) _).setCell (.inl (by simp)) _
  have hszw := h.below.size
  have hRE := R4.keep hK (by simpa using Ne.symm hne) (by simpa using hszw)
  have hOE : Only w (((w4.setCell ⟨w.heap.size, 0, none⟩ (.string ⟨l2.toArray⟩)).setCell ⟨w.heap.size, 1, none⟩ (.int .i64 (x3 : Int))).setCell ⟨w.heap.size, 2, none⟩ (.int .i64 (x4 : Int))) [r] := ((OO.setCell (.inr (Nat.le_refl _)) _).setCell (.inr (Nat.le_refl _)) _).setCell (.inr (Nat.le_refl _)) _
  clear hK
  have hRE := hid hRE; have hOE := hid hOE
  go_wp2_with fail
  exact bodyPost_ret (v := .agg #[.string ⟨l2.toArray⟩, .int .i64 (x3 : Int), .int .i64 (x4 : Int)]) (by simp [results, Try.results51, go_sem, r0, r1, r2]) rfl ⟨rfl, hRE.out, hOE.out, by show l2.toArray.size ≤ maxLen; simp [maxLen]; have := HL2.out; omega⟩

end Go.Proofs.Ytkngfobnfocpjaa
