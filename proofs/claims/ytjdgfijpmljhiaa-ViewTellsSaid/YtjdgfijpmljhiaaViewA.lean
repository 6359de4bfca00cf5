/- Contracts of chapter 7: May, Get, Wrong, the program's. -/
import Derived.Test.YtjdgfijpmljhiaaVwMem
import Derived.Test.YtjdgfijpmljhiaaEventA
import Derived.Test.YtjdgfijpmljhiaaKit3
namespace Go.Proofs.Ytjdgfijpmljhiaa
open Go.RowKit
set_option linter.unusedVariables false
def viVal (u : Int) (a : Option Addr) (n cap : Nat) : Value := .agg #[.int .i64 u, .slice a n cap]
def fVal' (f : Int × Int) : Value := .agg #[.int .i64 f.1, .int .i64 f.2]
theorem ba_eq (a b : ByteArray) : (a == b) = decide (a = b) := by
  show (a.data == b.data) = _
  by_cases h : a = b
  · subst h; simp
  · rw [decide_eq_false h]
    refine beq_eq_false_iff_ne.2 fun e => h ?_
    cases a; cases b; simpa using e
theorem str_list (a b : ByteArray) : (a.toList == b.toList) = decide (a = b) := by
  rw [ByteArray.toList_eq, ByteArray.toList_eq]
  by_cases h : a = b
  · subst h; simp
  · rw [decide_eq_false h]
    refine beq_eq_false_iff_ne.2 fun e => h ?_
    cases a; cases b
    simpa using e

set_option maxHeartbeats 1000000 in
theorem vMay_call (a : Vw.Acc) (e : Evt.Ev) (w : World) : Calls Try.prog 16 #[acVal a, evVal e] w (Grew (.bool (Vw.may a e)) w) := by
  obtain ⟨s, m, c, o⟩ := a
  obtain ⟨t, k, n⟩ := e
  unfold acVal evVal
  have hb : Below w.heap.size w ((w.alloc (.cells #[.string s, .int .i64 m, .int .i64 c, .bool o] 31)).alloc (.cells #[.string t, .int .i64 k, .int .i64 n] 34)) := ((Below.refl _ _).alloc (Nat.le_refl _) _).alloc (by simp) _
  have HM := hid (show Vw.may ⟨s, m, c, o⟩ ⟨t, k, n⟩ = if k = 1 then !o else if k = 2 ∨ k = 4 then o else if k = 3 then o && decide (n ≤ m) else false from rfl)
  simp only
  by_cases h1 : k = 1
  · have HR := hid (HM.out.trans (if_pos h1))
    rw [HR.out]
    subst h1
    go_enter Try.func16, Try.ntmps16
    go_wp2_with fail
    go_ret
    exact ⟨rfl, hb⟩
  · have t1 : (k == 1) = false := beq_eq_false_iff_ne.2 h1
    by_cases h2 : k = 2
    · have HR := hid (HM.out.trans ((if_neg h1).trans (if_pos (.inl h2))))
      rw [HR.out]
      subst h2
      go_enter Try.func16, Try.ntmps16
      go_wp2_with fail
      go_ret
      exact ⟨rfl, hb⟩
    · have t2 : (k == 2) = false := beq_eq_false_iff_ne.2 h2
      by_cases h4 : k = 4
      · have HR := hid (HM.out.trans ((if_neg h1).trans (if_pos (.inr h4))))
        rw [HR.out]
        subst h4
        go_enter Try.func16, Try.ntmps16
        go_wp2_with fail
        go_ret
        exact ⟨rfl, hb⟩
      · have t4 : (k == 4) = false := beq_eq_false_iff_ne.2 h4
        by_cases h3 : k = 3
        · have HR := hid (HM.out.trans ((if_neg h1).trans ((if_neg (by omega)).trans (if_pos h3))))
          rw [HR.out]
          subst h3
          cases o with
          | false =>
            go_enter Try.func16, Try.ntmps16
            go_wp2_with fail
            go_ret
            exact ⟨rfl, hb⟩
          | true =>
            go_enter Try.func16, Try.ntmps16
            go_wp2_with fail
            go_ret
            exact ⟨ret_bool (by simp), hb⟩
        · have t3 : (k == 3) = false := beq_eq_false_iff_ne.2 h3
          have HR := hid (HM.out.trans ((if_neg h1).trans ((if_neg (by omega)).trans (if_neg h3))))
          rw [HR.out]
          replace h1 := hid h1; replace h2 := hid h2; replace h3 := hid h3; replace h4 := hid h4
          go_enter Try.func16, Try.ntmps16
          go_wp2_with fail
          go_ret
          exact ⟨rfl, hb⟩

theorem get_step {l : List Vw.Acc} {s : ByteArray} {k : Nat} (h : k < l.length) : Vw.get (l.drop k) s = if l[k].s = s then l[k] else Vw.get (l.drop (k + 1)) s := by
  rw [List.drop_eq_getElem_cons h]; rfl
set_option maxHeartbeats 1000000 in
theorem vGet_call (u : Int) (a : Option Addr) (n cap : Nat) (l : List Vw.Acc) (s : ByteArray) (w : World) (h : As w a n cap l) : Calls Try.prog 13 #[viVal u a n cap, .string s] w (Grew (acVal (Vw.get l s)) w) := by
  have hmax := h.sl.max
  have hle := h.sl.le
  unfold maxLen at hmax
  have HN := hid h.cnt
  unfold viVal
  go_enter Try.func13, Try.ntmps13
  go_wp2_with fail
  go_loopg [10] n (fun g i wr => ∃ k : Nat, g = n - k ∧ k ≤ n ∧ i = .int .i64 (k : Int) ∧ Below w.heap.size w wr ∧ w.heap.size + 1 < wr.heap.size ∧
    wr.heap[w.heap.size + 1]? = some (.cells #[.string ⟨#[]⟩, .int .i64 0, .int .i64 0, .bool false] 31 (0, 0)) ∧ Hid (Vw.get l s = Vw.get (l.drop k) s))
  case atStart => exact ⟨0, rfl, by omega, rfl, ((Below.refl _ _).alloc (Nat.le_refl _) _).alloc (by simp) _, by simp, by
    have := blk_new (w.alloc (.cells #[.int .i64 u, .slice a n cap] 24)) (.cells #[.string ⟨#[]⟩, .int .i64 0, .int .i64 0, .bool false] 31)
    rwa [World.size_alloc] at this, hid rfl⟩
  case round =>
    obtain ⟨k, rfl, hk, rfl, hb, hz, hbk, HG⟩ := hrel
    have z1 : w.heap.size + 1 ≠ wr.heap.size := by omega
    have z2 : wr.heap.size ≠ w.heap.size + 1 := by omega
    have r0 : wr.cell? ⟨w.heap.size + 1, 0, none⟩ = some (.string ⟨#[]⟩) := blk_cell hbk
    have r1 : wr.cell? ⟨w.heap.size + 1, 1, none⟩ = some (.int .i64 0) := blk_cell hbk
    have r2 : wr.cell? ⟨w.heap.size + 1, 2, none⟩ = some (.int .i64 0) := blk_cell hbk
    have r3 : wr.cell? ⟨w.heap.size + 1, 3, none⟩ = some (.bool false) := blk_cell hbk
    have f0 : wr.frozen? ⟨w.heap.size + 1, 0, none⟩ = false := blk_free hbk
    have f1 : wr.frozen? ⟨w.heap.size + 1, 1, none⟩ = false := blk_free hbk
    have f2 : wr.frozen? ⟨w.heap.size + 1, 2, none⟩ = false := blk_free hbk
    have f3 : wr.frozen? ⟨w.heap.size + 1, 3, none⟩ = false := blk_free hbk
    by_cases hlt : k < n
    · have hkl : k < l.length := by rw [HN.out]; exact hlt
      obtain ⟨b, off, rfl, _⟩ := h.sl.addr (by omega)
      obtain ⟨q0, q1, q2, q3⟩ := (h.below hb).at k hkl
      have HS := hid (get_step (s := s) hkl)
      generalize hac : l[k] = ac at *
      obtain ⟨t, m, c, o⟩ := ac
      simp only at q0 q1 q2 q3
      replace hac := hid hac
      by_cases hts : t = s
      · subst hts
        have e0 : (t == t) = true := by rw [ba_eq]; simp
        have e1 : (t.toList == t.toList) = true := by rw [str_list]; simp
        have HR := hid (show Vw.get l t = ⟨t, m, c, o⟩ by rw [HG.out, HS.out, if_pos rfl])
        go_wp2_with fail
        have p0 : ∀ i, i < 4 → ((((((wr.setCell ⟨w.heap.size + 1, 0, none⟩ (.string t)).setCell ⟨w.heap.size + 1, 1, none⟩ (.int .i64 m)).setCell ⟨w.heap.size + 1, 2, none⟩ (.int .i64 c)).setCell ⟨w.heap.size + 1, 3, none⟩ (.bool o)).alloc (.cells #[.string t, .int .i64 m, .int .i64 c, .bool o] 31))).cell? ⟨w.heap.size + 1, i, none⟩ = (((((wr.setCell ⟨w.heap.size + 1, 0, none⟩ (.string t)).setCell ⟨w.heap.size + 1, 1, none⟩ (.int .i64 m)).setCell ⟨w.heap.size + 1, 2, none⟩ (.int .i64 c)).setCell ⟨w.heap.size + 1, 3, none⟩ (.bool o))).cell? ⟨w.heap.size + 1, i, none⟩ := fun i _ => cell_old (by simp only [World.size_setCell]; exact hz)
        have p1 := (p0 0 (by decide)).trans (show _ = some (.string t) by simp [go_sem, r0])
        have p2 := (p0 1 (by decide)).trans (show _ = some (.int .i64 m) by simp [go_sem, r1])
        have p3 := (p0 2 (by decide)).trans (show _ = some (.int .i64 c) by simp [go_sem, r2])
        have p4 := (p0 3 (by decide)).trans (show _ = some (.bool o) by simp [go_sem, r3])
        exact bodyPost_ret (v := .agg #[.string t, .int .i64 m, .int .i64 c, .bool o]) (by simp [results, Try.results13, go_sem, p1, p2, p3, p4]) rfl ⟨by rw [HR.out]; rfl, ((((hb.setCell (by simp) _).setCell (by simp) _).setCell (by simp) _).setCell (by simp) _).alloc (by simp; omega) _⟩
      · have e0 : (t == s) = false := by rw [ba_eq, decide_eq_false hts]
        have e1 : (t.toList == s.toList) = false := by rw [str_list, decide_eq_false hts]
        have HT := hid hts
        have hb2 := hid ((hb.alloc hb.size (.cells #[.string t, .int .i64 m, .int .i64 c, .bool o] 31)))
        have hk2 := hid (blk_old (o' := .cells #[.string t, .int .i64 m, .int .i64 c, .bool o] 31) hbk)
        clear hts
        go_wp2_with fail
        go_roundg (n - (k + 1))
        case measure => omega
        case rel => 
          exact ⟨k + 1, rfl, by omega, by go_num, hb2.out, by simp; omega, hk2.out, hid (by rw [HG.out, HS.out, if_neg HT.out])⟩
    · obtain rfl : k = n := by omega
      have HR := hid (show Vw.get l s = Vw.new s by rw [HG.out, List.drop_of_length_le (by rw [HN.out]; exact Nat.le_refl _)]; rfl)
      go_wp2_with fail
      exact bodyPost_ret (v := .agg #[.string s, .int .i64 0, .int .i64 0, .bool false]) (by simp [results, Try.results13, go_sem, r0, r1, r2, r3]) rfl ⟨by rw [HR.out]; rfl, ((((hb.setCell (by simp) _).setCell (by simp) _).setCell (by simp) _).setCell (by simp) _)⟩

end Go.Proofs.Ytjdgfijpmljhiaa
