/- Contract of the closure 'num' of the reference's Parse. -/
import Derived.Test.YtkngfobnfocpjaaEventH
import Derived.Test.YtkngfobnfocpjaaEventF
namespace Go.Proofs.Ytkngfobnfocpjaa
open Go.RowKit
set_option linter.unusedVariables false

/-- the boxes of the reference's reader: at, b, ok -/
structure Rr (w0 w : World) (pa pb po : Nat) (l : List UInt8) (at_ : Nat) (ok : Bool) : Prop where
  hat : w.heap[pa]? = some (.cells #[.int .i64 (at_ : Int)] 3 (0, 0))
  hb : ∃ a n cap, w.heap[pb]? = some (.cells #[.slice a n cap] 30 (0, 0)) ∧ Bt w0 a n cap l
  hok : w.heap[po]? = some (.cells #[.bool ok] 4 (0, 0))
  old : w0.heap.size ≤ pa ∧ w0.heap.size ≤ pb ∧ w0.heap.size ≤ po
  below : Below w0.heap.size w0 w
  le : at_ ≤ l.length
  fit : l.length ≤ 9223372036854775807
theorem heap_set01 {w : World} {b : Nat} {x v : Value} {t : TypeId} (h : w.heap[b]? = some (.cells #[x] t (0, 0))) : (w.setCell ⟨b, 0, none⟩ v).heap[b]? = some (.cells #[v] t (0, 0)) := by
  rw [heap_setCell_same w b 0 #[x] t v h]; rfl
theorem Rr.setAt {w0 w : World} {pa pb po : Nat} {l : List UInt8} {at_ : Nat} {ok : Bool} (h : Rr w0 w pa pb po l at_ ok) (n : Nat) (hn : n ≤ l.length) : Rr w0 (w.setCell ⟨pa, 0, none⟩ (.int .i64 (n : Int))) pa pb po l n ok := by
  obtain ⟨h1, ⟨a, m, cap, h2, hl⟩, h3, h4, h5, h6, h7⟩ := h
  refine ⟨heap_set01 h1, ⟨a, m, cap, ?_, hl⟩, ?_, h4, h5.setCell h4.1 _, hn, h7⟩
  · rw [Below.heap_setCell _ _ _ _ (fun e => heap_ne h1 h2 (by decide) e.symm)]; exact h2
  · rw [Below.heap_setCell _ _ _ _ (fun e => heap_ne h1 h3 (by decide) e.symm)]; exact h3
theorem Rr.setOk {w0 w : World} {pa pb po : Nat} {l : List UInt8} {at_ : Nat} {ok : Bool} (h : Rr w0 w pa pb po l at_ ok) (b : Bool) : Rr w0 (w.setCell ⟨po, 0, none⟩ (.bool b)) pa pb po l at_ b := by
  obtain ⟨h1, ⟨a, m, cap, h2, hl⟩, h3, h4, h5, h6, h7⟩ := h
  refine ⟨?_, ⟨a, m, cap, ?_, hl⟩, heap_set01 h3, h4, h5.setCell h4.2.2 _, h6, h7⟩
  · rw [Below.heap_setCell _ _ _ _ (fun e => heap_ne h3 h1 (by decide) e.symm)]; exact h1
  · rw [Below.heap_setCell _ _ _ _ (fun e => heap_ne h3 h2 (by decide) e.symm)]; exact h2
/-- what num leaves: k bytes from at on, if so many are there; else 0, and ok no longer -/
def NumR (w0 : World) (pa pb po : Nat) (l : List UInt8) (at_ k : Nat) (ok : Bool) (w : World) (e : Ending) (w' : World) : Prop :=
  ∃ (x at' : Nat), e = .returned (.int .i64 (x : Int)) ∧ x < 256 ^ k ∧ Rr w0 w' pa pb po l at' (ok && decide (at_ + k ≤ l.length)) ∧ Only w w' [pa, po] ∧ (at_ + k ≤ l.length → x = Evt.be ((l.drop at_).take k) ∧ at' = at_ + k) ∧ (l.length < at_ + k → x = 0) ∧ at' ≤ at_ + k
set_option maxHeartbeats 2000000 in
theorem rParse1_call (w0 w : World) (pa pb po : Nat) (l : List UInt8) (at_ k : Nat) (ok : Bool) (hk : k ≤ 3) (h : Rr w0 w pa pb po l at_ ok) :
    Calls Try.prog 52 #[.int .i64 (k : Int), .pointer (some ⟨pa, 0, none⟩), .pointer (some ⟨pb, 0, none⟩), .pointer (some ⟨po, 0, none⟩)] w (NumR w0 pa pb po l at_ k ok w) := by
  have hle := h.le
  have hfit := h.fit
  go_enter Try.func52, Try.ntmps52
  go_wp2_with fail
  go_loopg [6, 7] k (fun g x i wr => ∃ j : Nat, g = k - j ∧ j ≤ k ∧ i = .int .i64 (j : Int) ∧ at_ + j ≤ l.length ∧ x = .int .i64 (Evt.be ((l.drop at_).take j) : Nat) ∧ Rr w0 wr pa pb po l (at_ + j) ok ∧ Only w wr [pa, po])
  case atStart => exact ⟨0, rfl, by omega, rfl, by omega, rfl, h, Only.refl _ _⟩
  case round =>
    obtain ⟨j, rfl, hj, rfl, haj, rfl, hR, hO⟩ := hrel
    by_cases hlt : j < k
    · obtain ⟨h1, ⟨a, n, cap, h2, hl⟩, h3, h4, h5, h6, h7⟩ := id hR
      have c1 : wr.cell? ⟨pa, 0, none⟩ = some (.int .i64 ((at_ + j : Nat) : Int)) := blk_cell h1
      have c2 : wr.cell? ⟨pb, 0, none⟩ = some (.slice a n cap) := blk_cell h2
      have c3 : wr.cell? ⟨po, 0, none⟩ = some (.bool ok) := blk_cell h3
      have f1 : wr.frozen? ⟨pa, 0, none⟩ = false := blk_free h1
      have f3 : wr.frozen? ⟨po, 0, none⟩ = false := blk_free h3
      have HN := hid (Bt.n hl)
      have hln : l.length = n := HN.out
      by_cases hend : n ≤ at_ + j
      · have t0 : decide ((n : Int) ≤ ((at_ + j : Nat) : Int)) = true := by simp; omega
        have t1 : decide (n ≤ at_ + j) = true := by simpa using hend
        have hR' := hid (hR.setOk false)
        have hO' := hid (hO.setCell (a := ⟨po, 0, none⟩) (.inl (by simp)) (.bool false))
        clear hln
        go_wp2_with fail
        go_ret
        have hno : ¬ at_ + k ≤ l.length := by rw [HN.out]; omega
        refine ⟨0, at_ + j, rfl, Nat.pow_pos (by decide), ?_, hO'.out, fun hh => absurd hh hno, fun _ => rfl, by omega⟩
        rw [decide_eq_false hno, Bool.and_false]; exact hR'.out
      · have hB0 := Evt.be_snoc (l.drop at_) j (by rw [List.length_drop]; omega)
        have hB := Evt.be_lt (l.drop at_) j (by rw [List.length_drop]; omega)
        have hB2 : Evt.be ((l.drop at_).take j) < 65536 := Nat.lt_of_lt_of_le hB (Nat.pow_le_pow_right (n := 256) (by decide) (show j ≤ 2 by omega))
        have h8d : at8 (l.drop at_) j = at8 l (at_ + j) := by unfold at8 List.getD; rw [List.getElem?_drop]
        rw [h8d] at hB0
        clear hB h8d
        have HS := hid hB0
        clear hB0
        obtain ⟨b, off, rfl, _⟩ := hl.addr (by omega)
        obtain ⟨q, hq⟩ : ∃ q, at_ + j = q := ⟨_, rfl⟩
        rw [hq] at hR c1 hend haj HS
        have HQ := hid hq
        clear hq
        have hqn : q < n := by omega
        have hc := Bt.at (Sl.below hl h5) q hqn
        have h8 := at8_lt l q
        generalize at8 l q = c8 at *
        generalize Evt.be ((l.drop at_).take j) = B at *
        have hR' := hid (hR.setAt (q + 1) (by omega))
        have hO' := hid (hO.setCell (a := ⟨pa, 0, none⟩) (.inl (by simp)) (.int .i64 ((q + 1 : Nat) : Int)))
        have hcast : ((q + 1 : Nat) : Int) = (q : Int) + 1 := by simp
        rw [hcast] at hR' hO'
        have t0 : decide ((n : Int) ≤ (q : Int)) = false := by simp; omega
        have t1 : decide (n ≤ q) = false := by simp; omega
        clear hR hO hcast h1 h2 h3 hl
        go_wp2_with fail
        go_roundg (k - (j + 1))
        case measure => omega
        case rel => exact ⟨j + 1, rfl, by omega, by go_num, by have := HQ.out; omega, by rw [HS.out]; exact congrArg (Value.int .i64) (by omega), by rw [show at_ + (j + 1) = q + 1 by have := HQ.out; omega]; exact hR'.out, hO'.out⟩
    · obtain rfl : j = k := by omega
      go_wp2_with fail
      go_ret
      have hB := Evt.be_lt (l.drop at_) j (by rw [List.length_drop]; omega)
      refine ⟨Evt.be ((l.drop at_).take j), at_ + j, rfl, hB, ?_, hO, fun _ => ⟨rfl, rfl⟩, fun hh => by omega, Nat.le_refl _⟩
      rw [decide_eq_true haj, Bool.and_true]; exact hR
/-- Where the reference's reader stands: while all was there, at q; else no matter. -/
def Rel (l : List UInt8) (ok : Bool) (q : Nat) (t : Evt.St) : Prop := (ok = true → t = ⟨l.drop q, true⟩) ∧ (ok = false → t.ok = false)
theorem Evt.take_keeps (k : Nat) (t : Evt.St) (h : t.ok = false) : (Evt.take k t).2.ok = false := by
  unfold Evt.take; split
  · rfl
  · exact h
theorem Evt.num_keeps (k : Nat) (t : Evt.St) (h : t.ok = false) : (Evt.num k t).2.ok = false := Evt.take_keeps k t h
theorem Evt.take_at {l : List UInt8} {q k : Nat} (h : q + k ≤ l.length) : Evt.take k ⟨l.drop q, true⟩ = ((l.drop q).take k, ⟨l.drop (q + k), true⟩) := by
  unfold Evt.take
  rw [if_neg (by simp only [List.length_drop]; omega)]
  simp only [List.drop_drop]
theorem Evt.take_past {l : List UInt8} {q k : Nat} (hq : q ≤ l.length) (h : l.length < q + k) : (Evt.take k ⟨l.drop q, true⟩).2.ok = false := by
  unfold Evt.take
  rw [if_pos (by simp only [List.length_drop]; omega)]
/-- num, as the plain laws have it -/
def NumP (w0 : World) (pa pb po : Nat) (l : List UInt8) (q0 k : Nat) (tok : Bool) (r : Nat) (t' : Evt.St) (w : World) (e : Ending) (w' : World) : Prop :=
  ∃ (x q : Nat) (ok : Bool), e = .returned (.int .i64 (x : Int)) ∧ x < 256 ^ k ∧ Rr w0 w' pa pb po l q ok ∧ Only w w' [pa, po] ∧ Rel l ok q t' ∧ (ok = true → x = r) ∧ (tok = true → ok = false → x = 0) ∧ q ≤ q0 + k
theorem rParse1_pure (w0 w : World) (pa pb po : Nat) (l : List UInt8) (q k : Nat) (ok : Bool) (t : Evt.St) (hk : k ≤ 3) (h : Rr w0 w pa pb po l q ok) (hr : Rel l ok q t) :
    Calls Try.prog 52 #[.int .i64 (k : Int), .pointer (some ⟨pa, 0, none⟩), .pointer (some ⟨pb, 0, none⟩), .pointer (some ⟨po, 0, none⟩)] w (NumP w0 pa pb po l q k t.ok (Evt.num k t).1 (Evt.num k t).2 w) := by
  refine (rParse1_call w0 w pa pb po l q k ok hk h).mono fun e w' ⟨x, q', he, hx, hR, hO, hy, hn, hqq⟩ => ⟨x, q', _, he, hx, hR, hO, ?_, ?_, ?_, hqq⟩
  · cases ok with
    | false => exact ⟨fun hh => by simp at hh, fun _ => Evt.num_keeps k t (hr.2 rfl)⟩
    | true =>
      have ht := hr.1 rfl
      subst ht
      by_cases hc : q + k ≤ l.length
      · rw [decide_eq_true hc]
        refine ⟨fun _ => ?_, fun hh => by simp at hh⟩
        show (Evt.take k _).2 = _
        rw [Evt.take_at hc, (hy hc).2]
      · rw [decide_eq_false hc]
        exact ⟨fun hh => by simp at hh, fun _ => Evt.take_past h.le (by omega)⟩
  · intro hh
    cases ok with
    | false => simp at hh
    | true =>
      have ht := hr.1 rfl
      subst ht
      have hc : q + k ≤ l.length := by simpa using hh
      show x = Evt.be (Evt.take k _).1
      rw [Evt.take_at hc, (hy hc).1]
  · intro ht hh
    cases ok with
    | false => have := hr.2 rfl; rw [ht] at this; cases this
    | true =>
      have hc : ¬ q + k ≤ l.length := by simpa using hh
      exact hn (by omega)

end Go.Proofs.Ytkngfobnfocpjaa
