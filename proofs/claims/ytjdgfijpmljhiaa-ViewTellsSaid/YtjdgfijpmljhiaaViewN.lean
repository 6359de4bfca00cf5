/- Contracts of chapter 7: the reference's Get and May. -/
import Derived.Test.YtjdgfijpmljhiaaViewG
import Derived.Test.YtjdgfijpmljhiaaVwLaw
namespace Go.Proofs.Ytjdgfijpmljhiaa
open Go.RowKit
set_option linter.unusedVariables false
theorem res_acc {w : World} {b : Nat} {a0 a1 a2 a3 : Value} {t : TypeId} (h : w.heap[b]? = some (.cells #[a0, a1, a2, a3] t (0, 0))) (v0 v1 v2 v3 : Value) :
    ((((w.setCell ⟨b, 0, none⟩ v0).setCell ⟨b, 1, none⟩ v1).setCell ⟨b, 2, none⟩ v2).setCell ⟨b, 3, none⟩ v3).heap[b]? = some (.cells #[v0, v1, v2, v3] t (0, 0)) :=
  blk_set (i := 3) (blk_set (i := 2) (blk_set (i := 1) (blk_set (i := 0) h v0) v1) v2) v3
theorem blk_keep4 {w : World} {b g : Nat} {o : Obj} (h : w.heap[b]? = some o) (hne : b ≠ g) (v0 v1 v2 v3 : Value) : ((((w.setCell ⟨g, 0, none⟩ v0).setCell ⟨g, 1, none⟩ v1).setCell ⟨g, 2, none⟩ v2).setCell ⟨g, 3, none⟩ v3).heap[b]? = some o :=
  blk_keep (blk_keep (blk_keep (blk_keep h hne _) hne _) hne _) hne _
theorem below4 {w w1 : World} {b f : Nat} (h : Below b w w1) (hf : b ≤ f) (v0 v1 v2 v3 : Value) : Below b w ((((w1.setCell ⟨f, 0, none⟩ v0).setCell ⟨f, 1, none⟩ v1).setCell ⟨f, 2, none⟩ v2).setCell ⟨f, 3, none⟩ v3) := (((h.setCell hf _).setCell hf _).setCell hf _).setCell hf _

theorem get_step' {l : List Vw.Acc} {s : ByteArray} {k : Nat} (h : k < l.length) : Vw.get (l.drop k) s = if l[k].s = s then l[k] else Vw.get (l.drop (k + 1)) s := by
  rw [List.drop_eq_getElem_cons h]; rfl
set_option maxHeartbeats 2000000 in
theorem rGet_call (u : Int) (a : Option Addr) (n cap : Nat) (l : List Vw.Acc) (s : ByteArray) (w : World) (h : As w a n cap l) : Calls Try.prog 14 #[viVal u a n cap, .string s] w (Grew (acVal (Vw.get l s)) w) := by
  have hmax := h.sl.max
  have hle := h.sl.le
  unfold maxLen at hmax
  have HN := hid h.cnt
  have s0 : IntKind.i64.wrap ((n : Int) - 1) = (n : Int) - 1 := IntWalk.i64_in _ (by omega)
  unfold viVal
  go_enter Try.func14, Try.ntmps14
  go_wp2_with fail
  obtain ⟨V, hV⟩ : ∃ V, V = ((w.alloc (.cells #[.int .i64 u, .slice a n cap] 24)).alloc (.cells #[.string ⟨#[]⟩, .int .i64 0, .int .i64 0, .bool false] 31)).alloc (.cells #[.string s, .int .i64 0, .int .i64 0, .bool false] 31) := ⟨_, rfl⟩
  rw [← hV]
  have hb : Below w.heap.size w V := by
    rw [hV]
    have q := ((Below.refl w.heap.size w).alloc (Nat.le_refl _) (.cells #[.int .i64 u, .slice a n cap] 24)).alloc (by simp) (.cells #[.string ⟨#[]⟩, .int .i64 0, .int .i64 0, .bool false] 31)
    exact q.alloc q.size _
  obtain ⟨v1, v2, v3, hz, _⟩ := three_blk w (.cells #[.int .i64 u, .slice a n cap] 24) (.cells #[.string ⟨#[]⟩, .int .i64 0, .int .i64 0, .bool false] 31) (.cells #[.string s, .int .i64 0, .int .i64 0, .bool false] 31) V (by rw [hV]; exact Below.refl _ _)
  clear hV
  have r0 : V.cell? ⟨w.heap.size, 1, none⟩ = some (.slice a n cap) := blk_cell v1
  go_wp2_with fail
  go_loopg [6] n (fun g i wr => ∃ (k : Nat) (A : Vw.Acc), g = k ∧ k ≤ n ∧ i = .int .i64 ((k : Int) - 1) ∧ Below w.heap.size w wr ∧ wr.heap[w.heap.size]? = some (.cells #[.int .i64 u, .slice a n cap] 24 (0, 0)) ∧
    wr.heap[w.heap.size + 1]? = some (.cells #[.string ⟨#[]⟩, .int .i64 0, .int .i64 0, .bool false] 31 (0, 0)) ∧ wr.heap[w.heap.size + 1 + 1]? = some (.cells #[.string A.s, .int .i64 A.sum, .int .i64 A.cnt, .bool A.opn] 31 (0, 0)) ∧ Hid (Vw.get (l.drop k) s = A))
  case atStart => exact ⟨n, Vw.new s, rfl, Nat.le_refl _, rfl, hb, v1, v2, v3, hid (by rw [List.drop_of_length_le (by rw [HN.out]; exact Nat.le_refl _)]; rfl)⟩
  case round =>
    clear hb v1 v2 v3 r0 hz
    obtain ⟨k, A, rfl, hk, rfl, hb, v1, v2, v3, HG⟩ := hrel
    have r0 : wr.cell? ⟨w.heap.size, 1, none⟩ = some (.slice a n cap) := blk_cell v1
    have r1 : wr.cell? ⟨w.heap.size + 1 + 1, 0, none⟩ = some (.string A.s) := blk_cell v3
    have r2 : wr.cell? ⟨w.heap.size + 1 + 1, 1, none⟩ = some (.int .i64 A.sum) := blk_cell v3
    have r3 : wr.cell? ⟨w.heap.size + 1 + 1, 2, none⟩ = some (.int .i64 A.cnt) := blk_cell v3
    have r4 : wr.cell? ⟨w.heap.size + 1 + 1, 3, none⟩ = some (.bool A.opn) := blk_cell v3
    rcases Nat.eq_zero_or_pos gk with hk0 | hk0
    · subst hk0
      have g0 : wr.cell? ⟨w.heap.size + 1, 0, none⟩ = some (.string ⟨#[]⟩) := blk_cell v2
      have g1 : wr.cell? ⟨w.heap.size + 1, 1, none⟩ = some (.int .i64 0) := blk_cell v2
      have g2 : wr.cell? ⟨w.heap.size + 1, 2, none⟩ = some (.int .i64 0) := blk_cell v2
      have g3 : wr.cell? ⟨w.heap.size + 1, 3, none⟩ = some (.bool false) := blk_cell v2
      have f0 : ∀ j, wr.frozen? ⟨w.heap.size + 1, j, none⟩ = false := fun j => blk_free v2
      have HR := hid (show Vw.get l s = A from HG.out)
      go_wp2_with fail
      exact bodyPost_ret (v := .agg #[.string A.s, .int .i64 A.sum, .int .i64 A.cnt, .bool A.opn]) (by simp [results, Try.results14, go_sem, g0, g1, g2, g3]) rfl ⟨by rw [HR.out]; rfl, below4 hb (by omega) _ _ _ _⟩
    · obtain ⟨j, rfl⟩ : ∃ j, gk = j + 1 := ⟨gk - 1, by omega⟩
      have hjl : j < l.length := by rw [HN.out]; omega
      obtain ⟨b, off, rfl, _⟩ := h.sl.addr (by omega)
      obtain ⟨q0, q1, q2, q3⟩ := (h.below hb).at j hjl
      have HS := hid (get_step' (s := s) hjl)
      generalize hac : l[j] = ac at *
      obtain ⟨t, m, c, o⟩ := ac
      simp only at q0 q1 q2 q3
      replace hac := hid hac
      have e3 : (((j + 1 : Nat) : Int) - 1) = (j : Int) := by omega
      rw [e3]
      have i0 : (0 : Int) ≤ (j : Int) := by omega
      have i1 : (j : Int) < (n : Int) := by omega
      have i2 : IntKind.i64.wrap ((j : Int) - 1) = (j : Int) - 1 := IntWalk.i64_in _ (by omega)
      by_cases hts : t = s
      · subst hts
        have e0 : (t == t) = true := by rw [ba_eq]; simp
        have e1 : (t.toList == t.toList) = true := by rw [str_list]; simp
        have HR := hid (show Vw.get (l.drop j) t = ⟨t, m, c, o⟩ by rw [HS.out, if_pos rfl])
        have f0 : ∀ j, wr.frozen? ⟨w.heap.size + 1 + 1, j, none⟩ = false := fun j => blk_free v3
        go_wp2_with fail
        go_roundg j
        case measure => omega
        case rel => exact ⟨j, ⟨t, m, c, o⟩, rfl, by omega, rfl, below4 hb (by omega) _ _ _ _, blk_keep4 v1 (by omega) _ _ _ _, blk_keep4 v2 (by omega) _ _ _ _, res_acc v3 _ _ _ _, HR⟩
      · have e0 : (t == s) = false := by rw [ba_eq, decide_eq_false hts]
        have e1 : (t.toList == s.toList) = false := by rw [str_list, decide_eq_false hts]
        have HR := hid (show Vw.get (l.drop j) s = A by rw [HS.out, if_neg hts]; exact HG.out)
        clear hts
        go_wp2_with fail
        go_roundg j
        case measure => omega
        case rel => exact ⟨j, A, rfl, by omega, rfl, hb, v1, v2, v3, HR⟩

set_option maxHeartbeats 1000000 in
theorem rMay_call (a : Vw.Acc) (e : Evt.Ev) (w : World) : Calls Try.prog 17 #[acVal a, evVal e] w (Grew (.bool (Vw.may a e)) w) := by
  obtain ⟨s, m, c, o⟩ := a
  obtain ⟨t, k, n⟩ := e
  unfold acVal evVal
  cases o with
  | false =>
    have hb : Below w.heap.size w ((w.alloc (.cells #[.string s, .int .i64 m, .int .i64 c, .bool false] 31)).alloc (.cells #[.string t, .int .i64 k, .int .i64 n] 34)) := ((Below.refl _ _).alloc (Nat.le_refl _) _).alloc (by simp) _
    have HM := hid (show Vw.may ⟨s, m, c, false⟩ ⟨t, k, n⟩ = if k = 1 then !false else if k = 2 ∨ k = 4 then false else if k = 3 then false && decide (n ≤ m) else false from rfl)
    simp only
    by_cases h1 : k = 1
    · have HR := hid (HM.out.trans (if_pos h1))
      rw [HR.out]
      subst h1
      go_enter Try.func17, Try.ntmps17
      go_wp2_with fail
      go_ret
      exact ⟨rfl, hb⟩
    · have t1 : (k == 1) = false := beq_eq_false_iff_ne.2 h1
      by_cases h2 : k = 2
      · have HR := hid (HM.out.trans ((if_neg h1).trans (if_pos (.inl h2))))
        rw [HR.out]
        subst h2
        go_enter Try.func17, Try.ntmps17
        go_wp2_with fail
        go_ret
        exact ⟨rfl, hb⟩
      · have t2 : (k == 2) = false := beq_eq_false_iff_ne.2 h2
        by_cases h4 : k = 4
        · have HR := hid (HM.out.trans ((if_neg h1).trans (if_pos (.inr h4))))
          rw [HR.out]
          subst h4
          go_enter Try.func17, Try.ntmps17
          go_wp2_with fail
          go_ret
          exact ⟨rfl, hb⟩
        · have t4 : (k == 4) = false := beq_eq_false_iff_ne.2 h4
          by_cases h3 : k = 3
          · have HR := hid (HM.out.trans ((if_neg h1).trans ((if_neg (by omega)).trans (if_pos h3))))
            rw [HR.out]
            subst h3
            go_enter Try.func17, Try.ntmps17
            go_wp2_with fail
            go_ret
            exact ⟨rfl, hb⟩
          · have t3 : (k == 3) = false := beq_eq_false_iff_ne.2 h3
            have HR := hid (HM.out.trans ((if_neg h1).trans ((if_neg (by omega)).trans (if_neg h3))))
            rw [HR.out]
            replace h1 := hid h1; replace h2 := hid h2; replace h3 := hid h3; replace h4 := hid h4
            go_enter Try.func17, Try.ntmps17
            go_wp2_with fail
            go_ret
            exact ⟨rfl, hb⟩
  | true =>
    have hb : Below w.heap.size w ((w.alloc (.cells #[.string s, .int .i64 m, .int .i64 c, .bool true] 31)).alloc (.cells #[.string t, .int .i64 k, .int .i64 n] 34)) := ((Below.refl _ _).alloc (Nat.le_refl _) _).alloc (by simp) _
    have HM := hid (show Vw.may ⟨s, m, c, true⟩ ⟨t, k, n⟩ = if k = 1 then !true else if k = 2 ∨ k = 4 then true else if k = 3 then true && decide (n ≤ m) else false from rfl)
    simp only
    by_cases h1 : k = 1
    · have HR := hid (HM.out.trans (if_pos h1))
      rw [HR.out]
      subst h1
      go_enter Try.func17, Try.ntmps17
      go_wp2_with fail
      go_ret
      exact ⟨rfl, hb⟩
    · have t1 : (k == 1) = false := beq_eq_false_iff_ne.2 h1
      by_cases h2 : k = 2
      · have HR := hid (HM.out.trans ((if_neg h1).trans (if_pos (.inl h2))))
        rw [HR.out]
        subst h2
        go_enter Try.func17, Try.ntmps17
        go_wp2_with fail
        go_ret
        exact ⟨rfl, hb⟩
      · have t2 : (k == 2) = false := beq_eq_false_iff_ne.2 h2
        by_cases h4 : k = 4
        · have HR := hid (HM.out.trans ((if_neg h1).trans (if_pos (.inr h4))))
          rw [HR.out]
          subst h4
          go_enter Try.func17, Try.ntmps17
          go_wp2_with fail
          go_ret
          exact ⟨rfl, hb⟩
        · have t4 : (k == 4) = false := beq_eq_false_iff_ne.2 h4
          by_cases h3 : k = 3
          · have HR := hid (HM.out.trans ((if_neg h1).trans ((if_neg (by omega)).trans (if_pos h3))))
            rw [HR.out]
            subst h3
            go_enter Try.func17, Try.ntmps17
            go_wp2_with fail
            go_ret
            exact ⟨ret_bool (by simp), hb⟩
          · have t3 : (k == 3) = false := beq_eq_false_iff_ne.2 h3
            have HR := hid (HM.out.trans ((if_neg h1).trans ((if_neg (by omega)).trans (if_neg h3))))
            rw [HR.out]
            replace h1 := hid h1; replace h2 := hid h2; replace h3 := hid h3; replace h4 := hid h4
            go_enter Try.func17, Try.ntmps17
            go_wp2_with fail
            go_ret
            exact ⟨rfl, hb⟩

end Go.Proofs.Ytjdgfijpmljhiaa
