/- Joined, and what is not used struck: ViewB. -/
import Derived.Test.YthhcdfjijagalaaM11
namespace Go.Proofs.Ythhcdfjijagalaa
open Go.RowKit
set_option linter.unusedVariables false
theorem less_eq : ∀ (x y : List UInt8), Op.bytesLess x y = decide (x < y)
  | [], [] => by simp [Op.bytesLess]
  | _ :: _, [] => by simp [Op.bytesLess]
  | [], _ :: _ => by simp [Op.bytesLess]
  | a :: x, b :: y => by
    rw [Op.bytesLess, less_eq x y]
    by_cases h : a = b <;> simp [h, List.cons_lt_cons_iff]
theorem less_str (a b : ByteArray) : Op.bytesLess a.toList b.toList = decide (Evt.lst a < Evt.lst b) := by
  rw [less_eq, ByteArray.toList_eq, ByteArray.toList_eq]; rfl
/-- what stands ahead of account k -/
def prevKey (l : List Vw.Acc) (k : Nat) : Option (List UInt8) := if k = 0 then none else (l[k - 1]?).map Vw.key
theorem wl_step {u c : Int} {l : List Vw.Acc} {k : Nat} (h : k < l.length) : Vw.wl u k c (prevKey l k) (l.drop k) = if Evt.named (Vw.key l[k]) = false then (7, (k : Int)) else if Vw.badRange u l[k] then (3, (k : Int)) else if ¬ Vw.rises (prevKey l k) l[k] then (2, (k : Int)) else if u < c + l[k].cnt then (8, (k : Int)) else Vw.wl u (k + 1) (c + l[k].cnt) (prevKey l (k + 1)) (l.drop (k + 1)) := by
  have e : prevKey l (k + 1) = some (Vw.key l[k]) := by unfold prevKey; rw [if_neg (by omega)]; simp [h]
  rw [List.drop_eq_getElem_cons h, e]; rfl
set_option maxRecDepth 100000 in
set_option maxHeartbeats 4000000 in
theorem vWrong_call (u : Int) (a : Option Addr) (n cap : Nat) (l : List Vw.Acc) (w : World) (h : As w a n cap l) : Calls Try.prog 36 #[viVal u a n cap] w (Grew (fVal' (Vw.wrongV ⟨u, l⟩)) w) := by
  have hmax := h.sl.max
  have hle := h.sl.le
  unfold maxLen at hmax
  have HN := hid h.cnt
  have HW := hid (show Vw.wrongV ⟨u, l⟩ = if u < 0 ∨ 150 < u then (3, 0) else Vw.wl u 0 0 none l from rfl)
  unfold viVal fVal'
  by_cases hu : u < 0 ∨ 150 < u
  · have HC := hid (HW.out.trans (if_pos hu))
    rw [HC.out]
    rcases hu with hu | hu
    · go_enter Try.func36, Try.ntmps36
      go_wp2_with fail
      exact bodyPost_ret (v := .agg #[.int .i64 3, .int .i64 0]) (by simp [results, Try.results36, go_sem]) rfl ⟨rfl, ((Below.refl _ _).alloc (Nat.le_refl _) _).alloc (by simp) _⟩
    · have hu0 : ¬ u < 0 := by omega
      go_enter Try.func36, Try.ntmps36
      go_wp2_with fail
      exact bodyPost_ret (v := .agg #[.int .i64 3, .int .i64 0]) (by simp [results, Try.results36, go_sem]) rfl ⟨rfl, ((Below.refl _ _).alloc (Nat.le_refl _) _).alloc (by simp) _⟩
  · have HC := hid (HW.out.trans (if_neg hu))
    have hu0 : ¬ u < 0 := by omega
    have hu1 : ¬ 150 < u := by omega
    clear hu HW
    rw [HC.out]
    have B0 := blk_new w (.cells #[.int .i64 u, .slice a n cap] 42)
    have B1 := blk_new (w.alloc (.cells #[.int .i64 u, .slice a n cap] 42)) (.cells #[.int .i64 0, .int .i64 0] 69)
    rw [World.size_alloc] at B1
    have B0' := blk_old (o' := .cells #[.int .i64 0, .int .i64 0] 69) B0
    replace B0' := hid B0'; replace B1 := hid B1
    clear B0
    go_enter Try.func36, Try.ntmps36
    go_wp2_with fail
    go_loopg [3, 18] n (fun g s3 i wr => ∃ (k : Nat) (c : Int), g = n - k ∧ k ≤ n ∧ i = .int .i64 (k : Int) ∧ s3 = .int .i64 c ∧ 0 ≤ c ∧ c ≤ u ∧ Below w.heap.size w wr ∧ w.heap.size + 1 < wr.heap.size ∧
      wr.heap[w.heap.size]? = some (.cells #[.int .i64 u, .slice a n cap] 42 (0, 0)) ∧ wr.heap[w.heap.size + 1]? = some (.cells #[.int .i64 0, .int .i64 0] 69 (0, 0)) ∧ Hid (Vw.wl u 0 0 none l = Vw.wl u k c (prevKey l k) (l.drop k)))
    case atStart => exact ⟨0, 0, rfl, by omega, rfl, rfl, by omega, by omega, ((Below.refl _ _).alloc (Nat.le_refl _) _).alloc (by simp) _, by simp, B0'.out, B1.out, hid rfl⟩
    case round =>
      clear B0' B1
      obtain ⟨k, c, rfl, hk, rfl, rfl, hc0, hcu, hb, hz, hbv, hbf, HG⟩ := hrel
      have z1 : w.heap.size + 1 ≠ wr.heap.size := by omega
      have z2 : wr.heap.size ≠ w.heap.size + 1 := by omega
      have z3 : w.heap.size ≠ wr.heap.size := by omega
      have z4 : wr.heap.size ≠ w.heap.size := by omega
      have v0 : wr.cell? ⟨w.heap.size, 0, none⟩ = some (.int .i64 u) := blk_cell hbv
      have v1 : wr.cell? ⟨w.heap.size, 1, none⟩ = some (.slice a n cap) := blk_cell hbv
      have r0 : wr.cell? ⟨w.heap.size + 1, 0, none⟩ = some (.int .i64 0) := blk_cell hbf
      have r1 : wr.cell? ⟨w.heap.size + 1, 1, none⟩ = some (.int .i64 0) := blk_cell hbf
      have f0 : wr.frozen? ⟨w.heap.size + 1, 0, none⟩ = false := blk_free hbf
      have f1 : wr.frozen? ⟨w.heap.size + 1, 1, none⟩ = false := blk_free hbf
      by_cases hlt : k < n
      · have hkl : k < l.length := by rw [HN.out]; exact hlt
        obtain ⟨b, off, rfl, _⟩ := h.sl.addr (by omega)
        have hbl := Sl.lt h.sl (by omega) (by decide)
        obtain ⟨q0, q1, q2, q3⟩ := (h.below hb).at k hkl
        have HS := hid (wl_step (u := u) (c := c) hkl)
        have hsz := h.ok _ (List.getElem_mem hkl)
        obtain ⟨ac, hac⟩ : ∃ ac, l[k] = ac := ⟨_, rfl⟩
        rw [hac] at q0 q1 q2 q3 HS hsz
        replace hac := hid hac
        obtain ⟨t, m, cn, o⟩ := ac
        simp only at q0 q1 q2 q3 hsz
        have D := hid (eNamed_call t hsz)
        have hkey : Vw.key (⟨t, m, cn, o⟩ : Vw.Acc) = Evt.lst t := rfl
        rw [hkey] at HS
        generalize Evt.named (Evt.lst t) = N at *
        have hbA := hid (hb.alloc hb.size (.cells #[.string t, .int .i64 m, .int .i64 cn, .bool o] 65))
        have hvA := hid (blk_old (o' := .cells #[.string t, .int .i64 m, .int .i64 cn, .bool o] 65) hbv)
        have hfA := hid (blk_old (o' := .cells #[.string t, .int .i64 m, .int .i64 cn, .bool o] 65) hbf)
        go_wp2_with fail
        go_at_call 45; refine (D.out _).mono ?_; rintro e w1 ⟨rfl, rfl⟩
        have q0 := ((h.below hbA.out).at k hkl).1
        have a0 := cell_new wr #[.string t, .int .i64 m, .int .i64 cn, .bool o] 65 0
        have a1 := cell_new wr #[.string t, .int .i64 m, .int .i64 cn, .bool o] 65 1
        have a2 := cell_new wr #[.string t, .int .i64 m, .int .i64 cn, .bool o] 65 2
        have a3 := cell_new wr #[.string t, .int .i64 m, .int .i64 cn, .bool o] 65 3
        have hzA : w.heap.size + 1 < (wr.alloc (.cells #[.string t, .int .i64 m, .int .i64 cn, .bool o] 65)).heap.size := by simp; omega
        have hbW := hbA.out
        have hvW := hvA.out
        have hfW := hfA.out
        have hAW := h.below hbW
        clear hbA hvA hfA v0 v1 r0 r1 f0 f1 z1 z2 z3 z4 q1 q2 q3 hb hbv hbf hz D q0
        generalize (wr.alloc (.cells #[.string t, .int .i64 m, .int .i64 cn, .bool o] 65)) = W at *
        generalize wr.heap.size = bA at *
        have v0 : W.cell? ⟨w.heap.size, 0, none⟩ = some (.int .i64 u) := blk_cell hvW
        have v1 : W.cell? ⟨w.heap.size, 1, none⟩ = some (.slice (some ⟨b, off, none⟩) n cap) := blk_cell hvW
        have r0 : W.cell? ⟨w.heap.size + 1, 0, none⟩ = some (.int .i64 0) := blk_cell hfW
        have r1 : W.cell? ⟨w.heap.size + 1, 1, none⟩ = some (.int .i64 0) := blk_cell hfW
        have f0 : W.frozen? ⟨w.heap.size + 1, 0, none⟩ = false := blk_free hfW
        have f1 : W.frozen? ⟨w.heap.size + 1, 1, none⟩ = false := blk_free hfW
        simp at a0 a1 a2 a3
        cases N with
        | false =>
          have HR := hid (show Vw.wl u 0 0 none l = (7, (k : Int)) by rw [HG.out, HS.out, if_pos rfl])
          clear HS
          go_wp2_with fail
          exact bodyPost_ret (v := .agg #[.int .i64 7, .int .i64 (k : Int)]) (by simp [results, Try.results36, go_sem, r0, r1]) rfl ⟨by rw [HR.out], (hbW.setCell (by simp) _).setCell (by simp) _⟩
        | true =>
          have HS := hid (HS.out.trans (if_neg (by simp)))
          by_cases g1 : cn < 1
          · have HR := hid (show Vw.wl u 0 0 none l = (3, (k : Int)) by rw [HG.out, HS.out, if_pos (.inl g1)])
            clear HS
            go_wp2_with fail
            exact bodyPost_ret (v := .agg #[.int .i64 3, .int .i64 (k : Int)]) (by simp [results, Try.results36, go_sem, r0, r1]) rfl ⟨by rw [HR.out], (hbW.setCell (by simp) _).setCell (by simp) _⟩
          by_cases g2 : u < cn
          · have HR := hid (show Vw.wl u 0 0 none l = (3, (k : Int)) by rw [HG.out, HS.out, if_pos (.inr (.inl g2))])
            clear HS
            go_wp2_with fail
            exact bodyPost_ret (v := .agg #[.int .i64 3, .int .i64 (k : Int)]) (by simp [results, Try.results36, go_sem, r0, r1]) rfl ⟨by rw [HR.out], (hbW.setCell (by simp) _).setCell (by simp) _⟩
          have s1 : IntKind.i64.wrap (-1000000 * cn) = -1000000 * cn := IntWalk.i64_in _ (by omega)
          have s2 : IntKind.i64.wrap (1000000 * cn) = 1000000 * cn := IntWalk.i64_in _ (by omega)
          by_cases g3 : m < -1000000 * cn
          · have HR := hid (show Vw.wl u 0 0 none l = (3, (k : Int)) by rw [HG.out, HS.out, if_pos (.inr (.inr (.inl g3)))])
            clear HS
            go_wp2_with fail
            exact bodyPost_ret (v := .agg #[.int .i64 3, .int .i64 (k : Int)]) (by simp [results, Try.results36, go_sem, r0, r1]) rfl ⟨by rw [HR.out], (hbW.setCell (by simp) _).setCell (by simp) _⟩
          by_cases g4 : 1000000 * cn < m
          · have HR := hid (show Vw.wl u 0 0 none l = (3, (k : Int)) by rw [HG.out, HS.out, if_pos (.inr (.inr (.inr g4)))])
            clear HS
            go_wp2_with fail
            exact bodyPost_ret (v := .agg #[.int .i64 3, .int .i64 (k : Int)]) (by simp [results, Try.results36, go_sem, r0, r1]) rfl ⟨by rw [HR.out], (hbW.setCell (by simp) _).setCell (by simp) _⟩
          have HS := hid (HS.out.trans (if_neg (fun hh => by rcases hh with h1 | h1 | h1 | h1 <;> first | exact g1 h1 | exact g2 h1 | exact g3 h1 | exact g4 h1)))
          rcases Nat.eq_zero_or_pos k with hk0 | hk0
          · subst hk0
            have HS := hid (HS.out.trans (if_neg (fun hh => hh (by trivial))))
            go_wp2_with fail
            go_quiet (fail)
            have hbQ := below_drewN hbW nq
            have hvQ : (W.drewN nq).heap[w.heap.size]? = some (.cells #[.int .i64 u, .slice (some ⟨b, off, none⟩) n cap] 42 (0, 0)) := hvW
            have hfQ : (W.drewN nq).heap[w.heap.size + 1]? = some (.cells #[.int .i64 0, .int .i64 0] 69 (0, 0)) := hfW
            have hzQ : w.heap.size + 1 < (W.drewN nq).heap.size := hzA
            have a2Q : (W.drewN nq).cell? ⟨bA, 2, none⟩ = some (.int .i64 cn) := a2
            clear v0 v1 r0 r1 f0 f1 a0 a1 a2 a3 hbW hvW hfW hzA hAW
            generalize W.drewN nq = W2 at *
            have v0 : W2.cell? ⟨w.heap.size, 0, none⟩ = some (.int .i64 u) := blk_cell hvQ
            have r0 : W2.cell? ⟨w.heap.size + 1, 0, none⟩ = some (.int .i64 0) := blk_cell hfQ
            have r1 : W2.cell? ⟨w.heap.size + 1, 1, none⟩ = some (.int .i64 0) := blk_cell hfQ
            have f0 : W2.frozen? ⟨w.heap.size + 1, 0, none⟩ = false := blk_free hfQ
            have f1 : W2.frozen? ⟨w.heap.size + 1, 1, none⟩ = false := blk_free hfQ
            have s3 : IntKind.i64.wrap (c + cn) = c + cn := IntWalk.i64_in _ (by omega)
            by_cases g5 : u < c + cn
            · have HR := hid (show Vw.wl u 0 0 none l = (8, ((0 : Nat) : Int)) by rw [HG.out, HS.out, if_pos g5])
              clear HS
              go_wp2_with fail
              exact bodyPost_ret (v := .agg #[.int .i64 8, .int .i64 0]) (by simp [results, Try.results36, go_sem, r0, r1]) rfl ⟨by rw [HR.out]; rfl, (hbQ.setCell (by simp) _).setCell (by simp) _⟩
            · have HS := hid (HS.out.trans (if_neg g5))
              go_wp2_with fail
              go_roundg (n - (0 + 1))
              case measure => omega
              case rel => exact ⟨0 + 1, c + cn, rfl, by omega, by go_num, rfl, by omega, by omega, hbQ, hzQ, hvQ, hfQ, hid (by rw [HG.out, HS.out])⟩
          · obtain ⟨j, rfl⟩ : ∃ j, k = j + 1 := ⟨k - 1, by omega⟩
            have hjl : j < l.length := by omega
            have pj := (hAW.at j hjl).1
            obtain ⟨pr, hpr⟩ : ∃ pr, l[j].s = pr := ⟨_, rfl⟩
            rw [hpr] at pj
            have hpk : Hid (prevKey l (j + 1) = some (Evt.lst pr)) := hid (by unfold prevKey; rw [if_neg (by omega), ← hpr]; simp [hjl, Vw.key])
            replace hpr := hid hpr
            have i0 : (0 : Int) ≤ (j : Int) := by omega
            have i1 : (j : Int) < (n : Int) := by omega
            have i2 : (0 : Int) < (j : Int) + 1 := by omega
            by_cases hris : Evt.lst pr < Evt.lst t
            · have e0 : Op.bytesLess pr.toList t.toList = true := by rw [less_str, decide_eq_true hris]
              have HS := hid (HS.out.trans (if_neg (fun hh => hh (by rw [hpk.out]; exact hris))))
              have HRI := hid hris
              clear hris
              go_wp2_with fail
              go_quiet (fail)
              have hbQ := below_drewN hbW nq
              have hvQ : (W.drewN nq).heap[w.heap.size]? = some (.cells #[.int .i64 u, .slice (some ⟨b, off, none⟩) n cap] 42 (0, 0)) := hvW
              have hfQ : (W.drewN nq).heap[w.heap.size + 1]? = some (.cells #[.int .i64 0, .int .i64 0] 69 (0, 0)) := hfW
              have hzQ : w.heap.size + 1 < (W.drewN nq).heap.size := hzA
              have a2Q : (W.drewN nq).cell? ⟨bA, 2, none⟩ = some (.int .i64 cn) := a2
              clear v0 v1 r0 r1 f0 f1 a0 a1 a2 a3 hbW hvW hfW hzA hAW
              generalize W.drewN nq = W2 at *
              have v0 : W2.cell? ⟨w.heap.size, 0, none⟩ = some (.int .i64 u) := blk_cell hvQ
              have r0 : W2.cell? ⟨w.heap.size + 1, 0, none⟩ = some (.int .i64 0) := blk_cell hfQ
              have r1 : W2.cell? ⟨w.heap.size + 1, 1, none⟩ = some (.int .i64 0) := blk_cell hfQ
              have f0 : W2.frozen? ⟨w.heap.size + 1, 0, none⟩ = false := blk_free hfQ
              have f1 : W2.frozen? ⟨w.heap.size + 1, 1, none⟩ = false := blk_free hfQ
              have s3 : IntKind.i64.wrap (c + cn) = c + cn := IntWalk.i64_in _ (by omega)
              by_cases g5 : u < c + cn
              · have HR := hid (show Vw.wl u 0 0 none l = (8, ((j + 1 : Nat) : Int)) by rw [HG.out, HS.out, if_pos g5])
                clear HS
                go_wp2_with fail
                exact bodyPost_ret (v := .agg #[.int .i64 8, .int .i64 ((j + 1 : Nat) : Int)]) (by simp [results, Try.results36, go_sem, r0, r1]) rfl ⟨by rw [HR.out], (hbQ.setCell (by simp) _).setCell (by simp) _⟩
              · have HS := hid (HS.out.trans (if_neg g5))
                go_wp2_with fail
                go_roundg (n - (j + 1 + 1))
                case measure => omega
                case rel => exact ⟨j + 1 + 1, c + cn, rfl, by omega, by go_num, rfl, by omega, by omega, hbQ, hzQ, hvQ, hfQ, hid (by rw [HG.out, HS.out])⟩
            · have e0 : Op.bytesLess pr.toList t.toList = false := by rw [less_str, decide_eq_false hris]
              have HR := hid (show Vw.wl u 0 0 none l = (2, ((j + 1 : Nat) : Int)) by rw [HG.out, HS.out, if_pos (fun hh => hris (by rw [hpk.out] at hh; exact hh))])
              have HRI := hid hris
              clear hris HS
              go_wp2_with fail
              go_quiet (fail)
              have hbQ := below_drewN hbW nq
              have hvQ : (W.drewN nq).heap[w.heap.size]? = some (.cells #[.int .i64 u, .slice (some ⟨b, off, none⟩) n cap] 42 (0, 0)) := hvW
              have hfQ : (W.drewN nq).heap[w.heap.size + 1]? = some (.cells #[.int .i64 0, .int .i64 0] 69 (0, 0)) := hfW
              have hzQ : w.heap.size + 1 < (W.drewN nq).heap.size := hzA
              have a2Q : (W.drewN nq).cell? ⟨bA, 2, none⟩ = some (.int .i64 cn) := a2
              clear v0 v1 r0 r1 f0 f1 a0 a1 a2 a3 hbW hvW hfW hzA hAW
              generalize W.drewN nq = W2 at *
              have v0 : W2.cell? ⟨w.heap.size, 0, none⟩ = some (.int .i64 u) := blk_cell hvQ
              have r0 : W2.cell? ⟨w.heap.size + 1, 0, none⟩ = some (.int .i64 0) := blk_cell hfQ
              have r1 : W2.cell? ⟨w.heap.size + 1, 1, none⟩ = some (.int .i64 0) := blk_cell hfQ
              have f0 : W2.frozen? ⟨w.heap.size + 1, 0, none⟩ = false := blk_free hfQ
              have f1 : W2.frozen? ⟨w.heap.size + 1, 1, none⟩ = false := blk_free hfQ
              have s3 : IntKind.i64.wrap (c + cn) = c + cn := IntWalk.i64_in _ (by omega)
              clear s3
              go_wp2_with fail
              exact bodyPost_ret (v := .agg #[.int .i64 2, .int .i64 ((j + 1 : Nat) : Int)]) (by simp [results, Try.results36, go_sem, r0, r1]) rfl ⟨by rw [HR.out], (hbQ.setCell (by simp) _).setCell (by simp) _⟩
      · obtain rfl : k = n := by omega
        by_cases hcu' : c = u
        · have HR := hid (show Vw.wl u 0 0 none l = (0, 0) by
            rw [HG.out, List.drop_of_length_le (by rw [HN.out]; exact Nat.le_refl _)]
            unfold Vw.wl
            rw [if_neg (fun hh => hh hcu')])
          subst hcu'
          go_wp2_with fail
          exact bodyPost_ret (v := .agg #[.int .i64 0, .int .i64 0]) (by simp [results, Try.results36, go_sem, r0, r1]) rfl ⟨by rw [HR.out], (hb.setCell (by simp) _).setCell (by simp) _⟩
        · have HR := hid (show Vw.wl u 0 0 none l = (8, (k : Int)) by
            rw [HG.out, List.drop_of_length_le (by rw [HN.out]; exact Nat.le_refl _)]
            unfold Vw.wl
            rw [if_pos hcu'])
          have t0 : (c != u) = true := bne_iff_ne.2 hcu'
          replace hcu' := hid hcu'
          go_wp2_with fail
          exact bodyPost_ret (v := .agg #[.int .i64 8, .int .i64 (k : Int)]) (by simp [results, Try.results36, go_sem, r0, r1]) rfl ⟨by rw [HR.out], (hb.setCell (by simp) _).setCell (by simp) _⟩
end Go.Proofs.Ythhcdfjijagalaa
