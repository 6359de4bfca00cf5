/- Contract of chapter 7: the reference's WrongView. -/
import Derived.Test.YtjdgfijpmljhiaaViewI
import Derived.Test.YtjdgfijpmljhiaaVwLaw
import Derived.Test.YtjdgfijpmljhiaaEventH
namespace Go.Proofs.Ytjdgfijpmljhiaa
open Go.RowKit
set_option linter.unusedVariables false
theorem tri (t p : ByteArray) (h : ¬ Evt.lst p < Evt.lst t) : t = p ∨ Evt.lst t < Evt.lst p := by
  by_cases h1 : Evt.lst t < Evt.lst p
  · exact .inr h1
  · exact .inl (Vw.lst_inj (List.le_antisymm (List.not_lt.1 h) (List.not_lt.1 h1)))
/-- 't is behind p' -/
theorem leq_no (t p : ByteArray) (h : Evt.lst p < Evt.lst t) : Op.bytesLess t.toList p.toList = false ∧ (t.toList == p.toList) = false := by
  rw [less_str, str_list]
  refine ⟨decide_eq_false fun k => Vw.lt_irr _ (Vw.lt_tr h k), decide_eq_false ?_⟩
  rintro rfl
  exact Vw.lt_irr _ h
theorem leq_yes (t p : ByteArray) (h : ¬ Evt.lst p < Evt.lst t) : (Op.bytesLess t.toList p.toList = true) ∨ (Op.bytesLess t.toList p.toList = false ∧ (t.toList == p.toList) = true) := by
  rw [less_str, str_list]
  rcases tri t p h with rfl | h
  · exact .inr ⟨decide_eq_false (Vw.lt_irr _), by simp⟩
  · exact .inl (decide_eq_true h)

theorem rWrongView1_call (E k : Int) (b : Nat) (w : World) (h : w.cell? ⟨b, 0, none⟩ = some (.int .i64 k)) : Calls Try.prog 36 #[.int .i64 E, .pointer (some ⟨b, 0, none⟩)] w (Grew (.agg #[.int .i64 E, .int .i64 k]) w) := by
  have hlt : b < w.heap.size := World.block_lt_of_cell? _ _ h
  go_enter Try.func36, Try.ntmps36
  go_wp2_with fail
  exact bodyPost_ret (v := .agg #[.int .i64 E, .int .i64 k]) (by simp [results, Try.results36, go_sem]) rfl ⟨rfl, (Below.refl _ _).alloc (Nat.le_refl _) _⟩

theorem newB (w : World) (o o' : Obj) : ((w.alloc o).alloc o').heap[w.heap.size + 1]? = some o' := by simpa using blk_new (w.alloc o) o'
theorem four_blk {w wr w1 : World} {o1 o2 : Obj} (hb : Below w.heap.size w wr) (h1 : Below ((wr.alloc o1).alloc o2).heap.size ((wr.alloc o1).alloc o2) w1) :
    w1.heap[wr.heap.size]? = some o1 ∧ w1.heap[wr.heap.size + 1]? = some o2 ∧ wr.heap.size + 1 < w1.heap.size ∧ Below w.heap.size w w1 ∧ Below wr.heap.size wr w1 := by
  have e := (blk_below (newB wr o1 o2) h1)
  have b2 : Below wr.heap.size wr w1 := bnext (((Below.refl _ _).alloc (Nat.le_refl _) o1).alloc (by simp) o2) h1
  exact ⟨blk_below (blk_old (blk_new wr o1)) h1, e, blk_lt e, bnext hb b2, b2⟩
set_option maxRecDepth 100000 in
set_option maxHeartbeats 4000000 in
theorem rWrongView_call (u : Int) (a : Option Addr) (n cap : Nat) (l : List Vw.Acc) (w : World) (h : As w a n cap l) : Calls Try.prog 12 #[viVal u a n cap] w (Grew (fVal' (Vw.wrongV ⟨u, l⟩)) w) := by
  have hmax := h.sl.max
  have hle := h.sl.le
  unfold maxLen at hmax
  have HN := hid h.cnt
  have HW := hid (show Vw.wrongV ⟨u, l⟩ = if u < 0 ∨ 150 < u then (3, 0) else Vw.wl u 0 0 none l from rfl)
  have hmf : ∀ (fn : Fn) (first cap : Array Value) (w : World), (Instr.makeFunc fn first cap).run Try.prog w = .ok (.func fn first cap) w := fun _ _ _ _ => rfl
  unfold viVal fVal'
  by_cases hu : u < 0 ∨ 150 < u
  · have HC := hid (HW.out.trans (if_pos hu))
    rw [HC.out]
    rcases hu with hu | hu
    · go_enter Try.func12, Try.ntmps12
      go_wp2_with fail
      exact bodyPost_ret (v := .agg #[.int .i64 3, .int .i64 0]) (by simp [results, Try.results12, go_sem]) rfl ⟨rfl, ((Below.refl _ _).alloc (Nat.le_refl _) _).alloc (by simp) _⟩
    · have hu0 : ¬ u < 0 := by omega
      go_enter Try.func12, Try.ntmps12
      go_wp2_with fail
      exact bodyPost_ret (v := .agg #[.int .i64 3, .int .i64 0]) (by simp [results, Try.results12, go_sem]) rfl ⟨rfl, ((Below.refl _ _).alloc (Nat.le_refl _) _).alloc (by simp) _⟩
  · have HC := hid (HW.out.trans (if_neg hu))
    have hu0 : ¬ u < 0 := by omega
    have hu1 : ¬ 150 < u := by omega
    clear hu HW
    rw [HC.out]
    have B0 := blk_new w (.cells #[.int .i64 u, .slice a n cap] 24)
    have B1 := blk_new (w.alloc (.cells #[.int .i64 u, .slice a n cap] 24)) (.cells #[.int .i64 0, .int .i64 0] 28)
    rw [World.size_alloc] at B1
    have B0' := blk_old (o' := .cells #[.int .i64 0, .int .i64 0] 28) B0
    replace B0' := hid B0'; replace B1 := hid B1
    clear B0
    go_enter Try.func12, Try.ntmps12
    go_wp2_with fail
    go_loopg [3, 21] n (fun g s3 i wr => ∃ (k : Nat) (c : Int), g = n - k ∧ k ≤ n ∧ i = .int .i64 (k : Int) ∧ s3 = .int .i64 (u - c) ∧ 0 ≤ c ∧ c ≤ u ∧ Below w.heap.size w wr ∧ w.heap.size + 1 < wr.heap.size ∧
      wr.heap[w.heap.size]? = some (.cells #[.int .i64 u, .slice a n cap] 24 (0, 0)) ∧ wr.heap[w.heap.size + 1]? = some (.cells #[.int .i64 0, .int .i64 0] 28 (0, 0)) ∧ Hid (Vw.wl u 0 0 none l = Vw.wl u k c (prevKey l k) (l.drop k)))
    case atStart => exact ⟨0, 0, rfl, by omega, rfl, by simp, by omega, by omega, ((Below.refl _ _).alloc (Nat.le_refl _) _).alloc (by simp) _, by simp, B0'.out, B1.out, hid rfl⟩
    case round =>
      clear B0' B1
      obtain ⟨k, c, rfl, hk, rfl, rfl, hc0, hcu, hb, hz, hbv, hbf, HG⟩ := hrel
      by_cases hlt : k < n
      · have hkl : k < l.length := by rw [HN.out]; exact hlt
        obtain ⟨b, off, rfl, _⟩ := h.sl.addr (by omega)
        obtain ⟨q0, q1, q2, q3⟩ := (h.below hb).at k hkl
        have HS := hid (wl_step (u := u) (c := c) hkl)
        have hsz := h.ok _ (List.getElem_mem hkl)
        obtain ⟨ac, hac⟩ : ∃ ac, l[k] = ac := ⟨_, rfl⟩
        rw [hac] at q0 q1 q2 q3 HS hsz
        replace hac := hid hac
        obtain ⟨t, m, cn, o⟩ := ac
        simp only at q0 q1 q2 q3 hsz
        have D := hid (rNamed_call t hsz)
        have hkey : Vw.key (⟨t, m, cn, o⟩ : Vw.Acc) = Evt.lst t := rfl
        rw [hkey] at HS
        generalize Evt.named (Evt.lst t) = N at *
        have v0 : wr.cell? ⟨w.heap.size, 0, none⟩ = some (.int .i64 u) := blk_cell hbv
        have v1 : wr.cell? ⟨w.heap.size, 1, none⟩ = some (.slice (some ⟨b, off, none⟩) n cap) := blk_cell hbv
        go_wp2_with fail
        go_at_call 37; refine (D.out _).mono ?_; rintro e W ⟨rfl, b1⟩
        obtain ⟨x1, x2, hzW, hbW, hbr⟩ := four_blk hb b1
        have hvW := blk_below hbv hbr
        have hfW := blk_below hbf hbr
        have hAW := h.below hbW
        have a0 : W.cell? ⟨wr.heap.size + 1, 0, none⟩ = some (.string t) := blk_cell x2
        have a1 : W.cell? ⟨wr.heap.size + 1, 1, none⟩ = some (.int .i64 m) := blk_cell x2
        have a2 : W.cell? ⟨wr.heap.size + 1, 2, none⟩ = some (.int .i64 cn) := blk_cell x2
        have a4 : W.cell? ⟨wr.heap.size, 0, none⟩ = some (.int .i64 (k : Int)) := blk_cell x1
        have hz1 : w.heap.size + 1 < W.heap.size := blk_lt hfW
        clear v0 v1 q0 q1 q2 q3 b1 D hbv hbf hbr
        have v0 : W.cell? ⟨w.heap.size, 0, none⟩ = some (.int .i64 u) := blk_cell hvW
        have v1 : W.cell? ⟨w.heap.size, 1, none⟩ = some (.slice (some ⟨b, off, none⟩) n cap) := blk_cell hvW
        cases N with
        | false =>
          have HR := hid (show Vw.wl u 0 0 none l = (7, (k : Int)) by rw [HG.out, HS.out, if_pos rfl])
          clear HS
          go_wp2_with fail
          go_at_call 36; refine (rWrongView1_call 7 (k : Int) wr.heap.size W (blk_cell x1)).mono ?_; rintro e w2 ⟨rfl, b2⟩
          have hf2 := blk_below hfW b2
          have r0 : w2.cell? ⟨w.heap.size + 1, 0, none⟩ = some (.int .i64 0) := blk_cell hf2
          have r1 : w2.cell? ⟨w.heap.size + 1, 1, none⟩ = some (.int .i64 0) := blk_cell hf2
          have f0 : w2.frozen? ⟨w.heap.size + 1, 0, none⟩ = false := blk_free hf2
          have f1 : w2.frozen? ⟨w.heap.size + 1, 1, none⟩ = false := blk_free hf2
          go_wp2_with fail
          exact bodyPost_ret (v := .agg #[.int .i64 7, .int .i64 (k : Int)]) (by simp [results, Try.results12, go_sem, r0, r1]) rfl ⟨by rw [HR.out], ((bnext hbW b2).setCell (by simp) _).setCell (by simp) _⟩
        | true =>
          have HS := hid (HS.out.trans (if_neg (by simp)))
          by_cases g1 : cn < 1
          · have HR := hid (show Vw.wl u 0 0 none l = (3, (k : Int)) by rw [HG.out, HS.out, if_pos (.inl g1)])
            clear HS
            go_wp2_with fail
            go_at_call 36; refine (rWrongView1_call 3 (k : Int) wr.heap.size W (blk_cell x1)).mono ?_; rintro e w2 ⟨rfl, b2⟩
            have hf2 := blk_below hfW b2
            have r0 : w2.cell? ⟨w.heap.size + 1, 0, none⟩ = some (.int .i64 0) := blk_cell hf2
            have r1 : w2.cell? ⟨w.heap.size + 1, 1, none⟩ = some (.int .i64 0) := blk_cell hf2
            have f0 : w2.frozen? ⟨w.heap.size + 1, 0, none⟩ = false := blk_free hf2
            have f1 : w2.frozen? ⟨w.heap.size + 1, 1, none⟩ = false := blk_free hf2
            go_wp2_with fail
            exact bodyPost_ret (v := .agg #[.int .i64 3, .int .i64 (k : Int)]) (by simp [results, Try.results12, go_sem, r0, r1]) rfl ⟨by rw [HR.out], ((bnext hbW b2).setCell (by simp) _).setCell (by simp) _⟩
          by_cases g2 : u < cn
          · have HR := hid (show Vw.wl u 0 0 none l = (3, (k : Int)) by rw [HG.out, HS.out, if_pos (.inr (.inl g2))])
            clear HS
            go_wp2_with fail
            go_at_call 36; refine (rWrongView1_call 3 (k : Int) wr.heap.size W (blk_cell x1)).mono ?_; rintro e w2 ⟨rfl, b2⟩
            have hf2 := blk_below hfW b2
            have r0 : w2.cell? ⟨w.heap.size + 1, 0, none⟩ = some (.int .i64 0) := blk_cell hf2
            have r1 : w2.cell? ⟨w.heap.size + 1, 1, none⟩ = some (.int .i64 0) := blk_cell hf2
            have f0 : w2.frozen? ⟨w.heap.size + 1, 0, none⟩ = false := blk_free hf2
            have f1 : w2.frozen? ⟨w.heap.size + 1, 1, none⟩ = false := blk_free hf2
            go_wp2_with fail
            exact bodyPost_ret (v := .agg #[.int .i64 3, .int .i64 (k : Int)]) (by simp [results, Try.results12, go_sem, r0, r1]) rfl ⟨by rw [HR.out], ((bnext hbW b2).setCell (by simp) _).setCell (by simp) _⟩
          have s1 : IntKind.i64.wrap (-1000000 * cn) = -1000000 * cn := IntWalk.i64_in _ (by omega)
          have s2 : IntKind.i64.wrap (1000000 * cn) = 1000000 * cn := IntWalk.i64_in _ (by omega)
          by_cases g4 : 1000000 * cn < m
          · have HR := hid (show Vw.wl u 0 0 none l = (3, (k : Int)) by rw [HG.out, HS.out, if_pos (.inr (.inr (.inr g4)))])
            clear HS
            go_wp2_with fail
            go_at_call 36; refine (rWrongView1_call 3 (k : Int) wr.heap.size W (blk_cell x1)).mono ?_; rintro e w2 ⟨rfl, b2⟩
            have hf2 := blk_below hfW b2
            have r0 : w2.cell? ⟨w.heap.size + 1, 0, none⟩ = some (.int .i64 0) := blk_cell hf2
            have r1 : w2.cell? ⟨w.heap.size + 1, 1, none⟩ = some (.int .i64 0) := blk_cell hf2
            have f0 : w2.frozen? ⟨w.heap.size + 1, 0, none⟩ = false := blk_free hf2
            have f1 : w2.frozen? ⟨w.heap.size + 1, 1, none⟩ = false := blk_free hf2
            go_wp2_with fail
            exact bodyPost_ret (v := .agg #[.int .i64 3, .int .i64 (k : Int)]) (by simp [results, Try.results12, go_sem, r0, r1]) rfl ⟨by rw [HR.out], ((bnext hbW b2).setCell (by simp) _).setCell (by simp) _⟩
          by_cases g3 : m < -1000000 * cn
          · have HR := hid (show Vw.wl u 0 0 none l = (3, (k : Int)) by rw [HG.out, HS.out, if_pos (.inr (.inr (.inl g3)))])
            clear HS
            go_wp2_with fail
            go_at_call 36; refine (rWrongView1_call 3 (k : Int) wr.heap.size W (blk_cell x1)).mono ?_; rintro e w2 ⟨rfl, b2⟩
            have hf2 := blk_below hfW b2
            have r0 : w2.cell? ⟨w.heap.size + 1, 0, none⟩ = some (.int .i64 0) := blk_cell hf2
            have r1 : w2.cell? ⟨w.heap.size + 1, 1, none⟩ = some (.int .i64 0) := blk_cell hf2
            have f0 : w2.frozen? ⟨w.heap.size + 1, 0, none⟩ = false := blk_free hf2
            have f1 : w2.frozen? ⟨w.heap.size + 1, 1, none⟩ = false := blk_free hf2
            go_wp2_with fail
            exact bodyPost_ret (v := .agg #[.int .i64 3, .int .i64 (k : Int)]) (by simp [results, Try.results12, go_sem, r0, r1]) rfl ⟨by rw [HR.out], ((bnext hbW b2).setCell (by simp) _).setCell (by simp) _⟩
          have HS := hid (HS.out.trans (if_neg (fun hh => by rcases hh with h1 | h1 | h1 | h1 <;> first | exact g1 h1 | exact g2 h1 | exact g3 h1 | exact g4 h1)))
          rcases Nat.eq_zero_or_pos k with hk0 | hk0
          · subst hk0
            have HS := hid (HS.out.trans (if_neg (fun hh => hh (by trivial))))
            have a4 : W.cell? ⟨wr.heap.size, 0, none⟩ = some (.int .i64 0) := a4
            go_wp2_with fail
            go_quiet (fail)
            have hbQ := below_drewN hbW nq
            have hvQ : (W.drewN nq).heap[w.heap.size]? = some (.cells #[.int .i64 u, .slice (some ⟨b, off, none⟩) n cap] 24 (0, 0)) := hvW
            have hfQ : (W.drewN nq).heap[w.heap.size + 1]? = some (.cells #[.int .i64 0, .int .i64 0] 28 (0, 0)) := hfW
            have hzQ : w.heap.size + 1 < (W.drewN nq).heap.size := hz1
            have a2Q : (W.drewN nq).cell? ⟨wr.heap.size + 1, 2, none⟩ = some (.int .i64 cn) := a2
            have a4Q : (W.drewN nq).cell? ⟨wr.heap.size, 0, none⟩ = some (.int .i64 0) := a4
            clear v0 v1 a0 a1 a2 a4 hbW hvW hfW hz1 hzW hAW x1 x2
            generalize W.drewN nq = W2 at *
            have a4 := a4Q
            have s3 : IntKind.i64.wrap (u - c - cn) = u - c - cn := IntWalk.i64_in _ (by omega)
            by_cases g5 : u < c + cn
            · have HR := hid (show Vw.wl u 0 0 none l = (8, ((0 : Nat) : Int)) by rw [HG.out, HS.out, if_pos g5])
              have g6 : u - c - cn < 0 := by omega
              clear HS
              go_wp2_with fail
              go_at_call 36; refine (rWrongView1_call 8 0 wr.heap.size W2 a4).mono ?_; rintro e w2 ⟨rfl, b2⟩
              have hf2 := blk_below hfQ b2
              have r0 : w2.cell? ⟨w.heap.size + 1, 0, none⟩ = some (.int .i64 0) := blk_cell hf2
              have r1 : w2.cell? ⟨w.heap.size + 1, 1, none⟩ = some (.int .i64 0) := blk_cell hf2
              have f0 : w2.frozen? ⟨w.heap.size + 1, 0, none⟩ = false := blk_free hf2
              have f1 : w2.frozen? ⟨w.heap.size + 1, 1, none⟩ = false := blk_free hf2
              go_wp2_with fail
              exact bodyPost_ret (v := .agg #[.int .i64 8, .int .i64 0]) (by simp [results, Try.results12, go_sem, r0, r1]) rfl ⟨by rw [HR.out]; rfl, ((bnext hbQ b2).setCell (by simp) _).setCell (by simp) _⟩
            · have HS := hid (HS.out.trans (if_neg g5))
              have g6 : ¬ u - c - cn < 0 := by omega
              go_wp2_with fail
              go_roundg (n - (0 + 1))
              case measure => omega
              case rel => exact ⟨0 + 1, c + cn, rfl, by omega, by go_num, by rw [show u - (c + cn) = u - c - cn from by omega], by omega, by omega, hbQ, hzQ, hvQ, hfQ, hid (by rw [HG.out, HS.out])⟩
          · obtain ⟨j, rfl⟩ : ∃ j, k = j + 1 := ⟨k - 1, by omega⟩
            have hjl : j < l.length := by omega
            have pj := (hAW.at j hjl).1
            obtain ⟨pr, hpr⟩ : ∃ pr, l[j].s = pr := ⟨_, rfl⟩
            rw [hpr] at pj
            have hpk : Hid (prevKey l (j + 1) = some (Evt.lst pr)) := hid (by unfold prevKey; rw [if_neg (by omega), ← hpr]; simp [hjl, Vw.key])
            replace hpr := hid hpr
            have i0 : (0 : Int) ≤ (j : Int) := by omega
            have i1 : (j : Int) < (n : Int) := by omega
            have i2 : (0 : Int) < (j : Int) + 1 := by omega
            have i3 : IntKind.i64.wrap ((j : Int) + 1 - 1) = (j : Int) := by rw [show (j : Int) + 1 - 1 = (j : Int) from by omega]; exact IntWalk.i64_in _ (by omega)
            by_cases hris : Evt.lst pr < Evt.lst t
            · obtain ⟨e0, e1⟩ := leq_no t pr hris
              have HS := hid (HS.out.trans (if_neg (fun hh => hh (by rw [hpk.out]; exact hris))))
              have HRI := hid hris
              clear hris
              go_wp2_with fail
              go_quiet (fail)
              have hbQ := below_drewN hbW nq
              have hvQ : (W.drewN nq).heap[w.heap.size]? = some (.cells #[.int .i64 u, .slice (some ⟨b, off, none⟩) n cap] 24 (0, 0)) := hvW
              have hfQ : (W.drewN nq).heap[w.heap.size + 1]? = some (.cells #[.int .i64 0, .int .i64 0] 28 (0, 0)) := hfW
              have hzQ : w.heap.size + 1 < (W.drewN nq).heap.size := hz1
              have a2Q : (W.drewN nq).cell? ⟨wr.heap.size + 1, 2, none⟩ = some (.int .i64 cn) := a2
              have a4Q : (W.drewN nq).cell? ⟨wr.heap.size, 0, none⟩ = some (.int .i64 ((j + 1 : Nat) : Int)) := a4
              clear v0 v1 a0 a1 a2 a4 hbW hvW hfW hz1 hzW hAW x1 x2
              generalize W.drewN nq = W2 at *
              have a4 := a4Q
              have s3 : IntKind.i64.wrap (u - c - cn) = u - c - cn := IntWalk.i64_in _ (by omega)
              by_cases g5 : u < c + cn
              · have HR := hid (show Vw.wl u 0 0 none l = (8, ((j + 1 : Nat) : Int)) by rw [HG.out, HS.out, if_pos g5])
                have g6 : u - c - cn < 0 := by omega
                clear HS
                go_wp2_with fail
                go_at_call 36; refine (rWrongView1_call 8 ((j + 1 : Nat) : Int) wr.heap.size W2 a4).mono ?_; rintro e w2 ⟨rfl, b2⟩
                have hf2 := blk_below hfQ b2
                have r0 : w2.cell? ⟨w.heap.size + 1, 0, none⟩ = some (.int .i64 0) := blk_cell hf2
                have r1 : w2.cell? ⟨w.heap.size + 1, 1, none⟩ = some (.int .i64 0) := blk_cell hf2
                have f0 : w2.frozen? ⟨w.heap.size + 1, 0, none⟩ = false := blk_free hf2
                have f1 : w2.frozen? ⟨w.heap.size + 1, 1, none⟩ = false := blk_free hf2
                go_wp2_with fail
                exact bodyPost_ret (v := .agg #[.int .i64 8, .int .i64 ((j + 1 : Nat) : Int)]) (by simp [results, Try.results12, go_sem, r0, r1]) rfl ⟨by rw [HR.out], ((bnext hbQ b2).setCell (by simp) _).setCell (by simp) _⟩
              · have HS := hid (HS.out.trans (if_neg g5))
                have g6 : ¬ u - c - cn < 0 := by omega
                go_wp2_with fail
                go_roundg (n - (j + 1 + 1))
                case measure => omega
                case rel => exact ⟨j + 1 + 1, c + cn, rfl, by omega, by go_num, by rw [show u - (c + cn) = u - c - cn from by omega], by omega, by omega, hbQ, hzQ, hvQ, hfQ, hid (by rw [HG.out, HS.out])⟩
            · rcases leq_yes t pr hris with e0 | ⟨e0, e1⟩
              · have HR := hid (show Vw.wl u 0 0 none l = (2, ((j + 1 : Nat) : Int)) by rw [HG.out, HS.out, if_pos (fun hh => hris (by rw [hpk.out] at hh; exact hh))])
                have HRI := hid hris
                clear hris HS
                go_wp2_with fail
                go_quiet (fail)
                have hbQ := below_drewN hbW nq
                have hvQ : (W.drewN nq).heap[w.heap.size]? = some (.cells #[.int .i64 u, .slice (some ⟨b, off, none⟩) n cap] 24 (0, 0)) := hvW
                have hfQ : (W.drewN nq).heap[w.heap.size + 1]? = some (.cells #[.int .i64 0, .int .i64 0] 28 (0, 0)) := hfW
                have hzQ : w.heap.size + 1 < (W.drewN nq).heap.size := hz1
                have a2Q : (W.drewN nq).cell? ⟨wr.heap.size + 1, 2, none⟩ = some (.int .i64 cn) := a2
                have a4Q : (W.drewN nq).cell? ⟨wr.heap.size, 0, none⟩ = some (.int .i64 ((j + 1 : Nat) : Int)) := a4
                clear v0 v1 a0 a1 a2 a4 hbW hvW hfW hz1 hzW hAW x1 x2
                generalize W.drewN nq = W2 at *
                have a4 := a4Q
                go_wp2_with fail
                go_at_call 36; refine (rWrongView1_call 2 ((j + 1 : Nat) : Int) wr.heap.size W2 a4).mono ?_; rintro e w2 ⟨rfl, b2⟩
                have hf2 := blk_below hfQ b2
                have r0 : w2.cell? ⟨w.heap.size + 1, 0, none⟩ = some (.int .i64 0) := blk_cell hf2
                have r1 : w2.cell? ⟨w.heap.size + 1, 1, none⟩ = some (.int .i64 0) := blk_cell hf2
                have f0 : w2.frozen? ⟨w.heap.size + 1, 0, none⟩ = false := blk_free hf2
                have f1 : w2.frozen? ⟨w.heap.size + 1, 1, none⟩ = false := blk_free hf2
                go_wp2_with fail
                exact bodyPost_ret (v := .agg #[.int .i64 2, .int .i64 ((j + 1 : Nat) : Int)]) (by simp [results, Try.results12, go_sem, r0, r1]) rfl ⟨by rw [HR.out], ((bnext hbQ b2).setCell (by simp) _).setCell (by simp) _⟩
              · have HR := hid (show Vw.wl u 0 0 none l = (2, ((j + 1 : Nat) : Int)) by rw [HG.out, HS.out, if_pos (fun hh => hris (by rw [hpk.out] at hh; exact hh))])
                have HRI := hid hris
                clear hris HS
                go_wp2_with fail
                go_quiet (fail)
                have hbQ := below_drewN hbW nq
                have hvQ : (W.drewN nq).heap[w.heap.size]? = some (.cells #[.int .i64 u, .slice (some ⟨b, off, none⟩) n cap] 24 (0, 0)) := hvW
                have hfQ : (W.drewN nq).heap[w.heap.size + 1]? = some (.cells #[.int .i64 0, .int .i64 0] 28 (0, 0)) := hfW
                have hzQ : w.heap.size + 1 < (W.drewN nq).heap.size := hz1
                have a2Q : (W.drewN nq).cell? ⟨wr.heap.size + 1, 2, none⟩ = some (.int .i64 cn) := a2
                have a4Q : (W.drewN nq).cell? ⟨wr.heap.size, 0, none⟩ = some (.int .i64 ((j + 1 : Nat) : Int)) := a4
                clear v0 v1 a0 a1 a2 a4 hbW hvW hfW hz1 hzW hAW x1 x2
                generalize W.drewN nq = W2 at *
                have a4 := a4Q
                go_wp2_with fail
                go_at_call 36; refine (rWrongView1_call 2 ((j + 1 : Nat) : Int) wr.heap.size W2 a4).mono ?_; rintro e w2 ⟨rfl, b2⟩
                have hf2 := blk_below hfQ b2
                have r0 : w2.cell? ⟨w.heap.size + 1, 0, none⟩ = some (.int .i64 0) := blk_cell hf2
                have r1 : w2.cell? ⟨w.heap.size + 1, 1, none⟩ = some (.int .i64 0) := blk_cell hf2
                have f0 : w2.frozen? ⟨w.heap.size + 1, 0, none⟩ = false := blk_free hf2
                have f1 : w2.frozen? ⟨w.heap.size + 1, 1, none⟩ = false := blk_free hf2
                go_wp2_with fail
                exact bodyPost_ret (v := .agg #[.int .i64 2, .int .i64 ((j + 1 : Nat) : Int)]) (by simp [results, Try.results12, go_sem, r0, r1]) rfl ⟨by rw [HR.out], ((bnext hbQ b2).setCell (by simp) _).setCell (by simp) _⟩
      · obtain rfl : k = n := by omega
        have r0 : wr.cell? ⟨w.heap.size + 1, 0, none⟩ = some (.int .i64 0) := blk_cell hbf
        have r1 : wr.cell? ⟨w.heap.size + 1, 1, none⟩ = some (.int .i64 0) := blk_cell hbf
        have f0 : wr.frozen? ⟨w.heap.size + 1, 0, none⟩ = false := blk_free hbf
        have f1 : wr.frozen? ⟨w.heap.size + 1, 1, none⟩ = false := blk_free hbf
        have v0 : wr.cell? ⟨w.heap.size, 0, none⟩ = some (.int .i64 u) := blk_cell hbv
        have v1 : wr.cell? ⟨w.heap.size, 1, none⟩ = some (.slice a k cap) := blk_cell hbv
        by_cases hcu' : c = u
        · have HR := hid (show Vw.wl u 0 0 none l = (0, 0) by
            rw [HG.out, List.drop_of_length_le (by rw [HN.out]; exact Nat.le_refl _)]
            unfold Vw.wl
            rw [if_neg (fun hh => hh hcu')])
          subst hcu'
          rw [show c - c = 0 from by omega]
          go_wp2_with fail
          exact bodyPost_ret (v := .agg #[.int .i64 0, .int .i64 0]) (by simp [results, Try.results12, go_sem, r0, r1]) rfl ⟨by rw [HR.out], (hb.setCell (by simp) _).setCell (by simp) _⟩
        · have HR := hid (show Vw.wl u 0 0 none l = (8, (k : Int)) by
            rw [HG.out, List.drop_of_length_le (by rw [HN.out]; exact Nat.le_refl _)]
            unfold Vw.wl
            rw [if_pos hcu'])
          have t0 : (u - c != 0) = true := bne_iff_ne.2 (by omega)
          replace hcu' := hid hcu'
          generalize u - c = lf at *
          go_wp2_with fail
          exact bodyPost_ret (v := .agg #[.int .i64 8, .int .i64 (k : Int)]) (by simp [results, Try.results12, go_sem, r0, r1]) rfl ⟨by rw [HR.out], (hb.setCell (by simp) _).setCell (by simp) _⟩

end Go.Proofs.Ytjdgfijpmljhiaa
