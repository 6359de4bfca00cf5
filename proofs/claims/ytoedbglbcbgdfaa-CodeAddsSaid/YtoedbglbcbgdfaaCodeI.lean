/- Walk of CodeGood. -/
import Derived.Test.YtoedbglbcbgdfaaCodeH
import Derived.Test.YtoedbglbcbgdfaaGridW
namespace Go.Proofs.Ytoedbglbcbgdfaa
open Go.RowKit
set_option linter.unusedVariables false
theorem rwData_append (A B : List Rw) : rwData (A ++ B) = rwData A ++ rwData B := by simp [rwData]

set_option maxHeartbeats 4000000 in
theorem CodeGood_walk (a : Option Addr) (n ac : Nat) (A : List Rw) (z x t : Int) (y : Nat) (hy : y < 256) (w : World) (hA : Ms w a n ac A) : Calls Try.prog 10 #[.slice a n ac, .int .i64 z, .int .i64 x, .int .i64 t, .int .u8 (y : Int)] w (Grew (.bool true) w) := by
  go_enter Try.func10, Try.ntmps10
  go_wp2_with fail
  go_at_call 33
  refine (alive3_call _).mono ?_
  rintro e w0 ⟨rfl, b0⟩
  have A0 := hA.below b0
  go_wp2_with fail
  go_at_call 34
  refine (all3_call _ _ _ _ _ _ A0).mono ?_
  rintro e w2 (⟨rfl, b2⟩ | ⟨g, cap, d, s, m, N, R, w1, rfl, hN, rfl, hS, b1, hbt, b2, ho⟩)
  · replace b2 := bnext b0 b2
    go_wp2_with fail
    go_ret
    exact ⟨ret_bool rfl, b2⟩
  · have hAn : n = d := by rw [← hA.dn, hS.fine.rows]
    subst hAn
    have hn1 : 1 ≤ n := hS.fine.n1
    have hn8 := hS.d8
    have hs4 := hS.s4
    have hF := hS.whole
    rw [← rwData_append, ← hN] at hF
    have hZ : Ms w2 (some ⟨g, 0, none⟩) N cap (A ++ R) := Ms.ofOwn ho (fun r hr => (hbt r hr).below b2)
    have hZl : (A ++ R).length = N := hZ.cnt
    have hg := (ho.lt g rfl)
    have hSd : Hid (Mat.Shards (rwData A) (rwData R) n s m) := hid hS
    have hdat : Hid (rwData (A ++ R) = rwData A ++ rwData R) := hid (rwData_append A R)
    generalize A ++ R = Z at *
    have hN0 : 0 < N := by omega
    have hNe : ¬ N = 0 := by omega
    have bw := bnext (bnext b0 b1) b2
    replace hN := hid hN
    replace hS := hid hS
    go_wp2_with fail
    go_at_call 25
    refine (cGood_call _ _ _ _ _ (by omega) _ hZ).mono ?_
    rintro e w3 ⟨b, rfl, hgd, b3⟩
    obtain rfl : b = true := Mat.good_all hSd.out (by rw [← hdat.out]; exact hgd)
    have hZ3 := hZ.below b3
    have ho3 := own_below ho b3
    obtain ⟨b', off', r0, p0, e0, hc0⟩ := hZ3.row0 hF
    cases e0
    have c0 := hc0 w3 (Below.refl _ _)
    have b13 := b2.trans (b3.mono b2.size)
    replace bw := bnext bw b3
    clear hc0 hgd hZ
    by_cases hcond : 0 ≤ x ∧ x < N ∧ 0 ≤ t ∧ t < m ∧ y ≠ 0 ∧ s ≠ 0
    · obtain ⟨q1, q2, q3, q4, q5, q6⟩ := hcond
      obtain ⟨x, rfl⟩ := Int.eq_ofNat_of_zero_le q1
      obtain ⟨t, rfl⟩ := Int.eq_ofNat_of_zero_le q3
      have hxN : x < N := by omega
      have htm : t < m := by omega
      have v0 : ¬ (x : Int) < 0 := by omega
      have v1 : ¬ (t : Int) < 0 := by omega
      have v2 : ¬ (y : Int) = 0 := by omega
      have v3 : ((y : Int) == 0) = false := beq_eq_false_iff_ne.2 v2
      have v4 : (y == 0) = false := beq_eq_false_iff_ne.2 q5
      have v5 : ¬ (s : Int) = 0 := by omega
      have v6 : ((s : Int) == 0) = false := beq_eq_false_iff_ne.2 v5
      have v7 : (s == 0) = false := beq_eq_false_iff_ne.2 q6
      have hxZ : x < Z.length := by omega
      have hb := hZ3.sl
      have cx := (hZ3.at x hxZ).1
      have hbx := (hZ3.at x hxZ).2
      rw [Nat.zero_add] at cx
      have hrl : Z[x].l.length = m := hF.cols _ (List.mem_map.2 ⟨_, List.getElem_mem hxZ, rfl⟩)
      have hrn : Z[x].n = m := (Bt.n hbx).symm.trans hrl
      have hcz := rwCells_get Z x hxZ
      rw [hrn] at cx hbx hcz
      have hent : Hid (∀ j, Mat.ent (rwData A ++ rwData R) x j = Z[x].l.getD j 0) := hid (fun j => by rw [← hdat.out, ent_rw hxZ])
      generalize hrr : Z[x] = rr at *
      obtain ⟨ra, rn, rc, rl⟩ := rr
      simp only at cx hbx hrl hrn hent hcz
      subst hrn
      have hm400 := hF.m2
      replace hrr := hid hrr
      replace hcz := hid hcz
      replace hrl := hid hrl
      replace hF := hid hF
      have q5' := hid q5
      have q6' := hid q6
      clear q1 q2 q3 q4 q5 q6
      have hgl : g < w3.heap.size := (ho3.lt g rfl).2
      go_wp2_with (refine wpList_append_ob rfl (.tmp 63) (.tmp 67) rfl w3.heap.size (.slice (some ⟨w3.heap.size, 0, none⟩) 0 0) [] rl rfl (OB.lit (Below.refl _ _) _ [] (by decide) rfl) ra rn rc rfl (hbx.alloc _) (by simp; have := hrl.out; omega) (by simp) ?_; intro v4 w4 ho4 hg4; rw [List.nil_append] at ho4; have ho5 := ho4.own; rw [hrl.out] at ho5; obtain ⟨gs, cs, rfl, hs1, hs2, hs3, hs4'⟩ := own_pos ho5 (by have := hF.out.m1; omega); have b4 : Below w3.heap.size w3 w4 := ho4.belowOf (Nat.le_refl _) (fun k e => by cases e); have k1 := byte_at ho5 t htm; have k2 := byte_free ho5 t; have h8 := at8_lt rl t; have hxx := u8_xor_nat (at8 rl t) y h8 hy; have ho6 := hid (own_below ho3 b4); have c5 : w4.cell? ⟨g, x, none⟩ = some (.slice ra rn rc) := (by rw [ho6.out.cellAt x (by omega)]; exact hcz.out); have f5 : w4.frozen? ⟨g, x, none⟩ = false := ho6.out.frozenAt x; have hgne : g ≠ gs := (by omega); have hgne' : gs ≠ g := Ne.symm hgne)
      trace_state
      have e8 : (Mat.gadd (rl.getD t 0) (UInt8.ofNat y)).toNat = at8 rl t ^^^ y := by
        rw [Mat.toNat_add, UInt8.toNat_ofNat', Nat.mod_eq_of_lt hy]; rfl
      have p1 := byte_set ho5 t _ _ e8
      have p2 := ((Only.refl w4 [gs]).setCell (a := ⟨gs, t, none⟩) (.inl (by simp)) (.int .u8 ((at8 rl t ^^^ y : Nat) : Int))).own ho6.out (fun u hu e => by cases e; exact hgne (by simpa using hu))
      have p3 : ((w4.setCell ⟨gs, t, none⟩ (.int .u8 ((at8 rl t ^^^ y : Nat) : Int))).setCell ⟨g, x, none⟩ (.slice (some ⟨gs, 0, none⟩) rn cs)).ownsRow w1.heap.size 27 1 (.slice (some ⟨g, 0, none⟩) N cap) N ((rwCells Z).set x (.slice (some ⟨gs, 0, none⟩) rn cs)) := (World.ownsRow.stored p2 x _).1
      have p4 := ((Only.refl (w4.setCell ⟨gs, t, none⟩ (.int .u8 ((at8 rl t ^^^ y : Nat) : Int))) [g]).setCell (a := ⟨g, x, none⟩) (.inl (by simp)) (.slice (some ⟨gs, 0, none⟩) rn cs)).own p1 (fun u hu e => by cases e; exact hgne' (by simpa using hu))
      have p5 : Below w1.heap.size w1 ((w4.setCell ⟨gs, t, none⟩ (.int .u8 ((at8 rl t ^^^ y : Nat) : Int))).setCell ⟨g, x, none⟩ (.slice (some ⟨gs, 0, none⟩) rn cs)) := ((b13.trans (b4.mono b13.size)).setCell (by have := b13.size; show w1.heap.size ≤ gs; omega) _).setCell hg.1 _
      have p6 : Below w.heap.size w ((w4.setCell ⟨gs, t, none⟩ (.int .u8 ((at8 rl t ^^^ y : Nat) : Int))).setCell ⟨g, x, none⟩ (.slice (some ⟨gs, 0, none⟩) rn cs)) := bnext (bnext b0 b1) p5
      have hM := Ms.ofOwn (A := Z.set x ⟨some ⟨gs, 0, none⟩, rn, cs, rl.set t (Mat.gadd (rl.getD t 0) (UInt8.ofNat y))⟩) (by rw [rwCells_set]; exact p3) (fun r hr => by
        rcases List.mem_or_eq_of_mem_set hr with h1 | rfl
        · exact (hbt r h1).below p5
        · exact own_bt p4)
      generalize ((w4.setCell ⟨gs, t, none⟩ (.int .u8 ((at8 rl t ^^^ y : Nat) : Int))).setCell ⟨g, x, none⟩ (.slice (some ⟨gs, 0, none⟩) rn cs)) = w5 at *
      clear p1 p2 p3 p4 p5
      go_at_call 25
      refine (cGood_call _ _ _ _ _ (by omega) _ hM).mono ?_
      rintro e w6 ⟨b, rfl, hgd, b6⟩
      rw [rwData_set, hdat.out] at hgd
      obtain rfl : b = false := Mat.good_spoilt hSd.out (by have := q6'.out; omega) (k := x) (at' := t) (by have := hN.out; omega) htm (by' := UInt8.ofNat y) (fun e => q5'.out (by
        have := congrArg UInt8.toNat e
        rw [UInt8.toNat_ofNat', Nat.mod_eq_of_lt hy] at this
        exact this)) (by rw [List.length_set]; exact hrl.out) (fun j hj => by
        rw [getD_set (by rw [hrl.out]; exact htm)]
        by_cases e : j = t
        · subst e; rw [if_pos rfl, if_pos rfl, hent.out]
        · rw [if_neg e, if_neg e, hent.out]) hgd
      replace p6 := bnext p6 b6
      clear hgd
      go_wp2_with fail
      go_ret
      exact ⟨ret_bool rfl, p6⟩
    · have h5 : x < 0 ∨ (¬ x < 0 ∧ (N : Int) ≤ x) ∨ (¬ x < 0 ∧ x < N ∧ t < 0) ∨ (¬ x < 0 ∧ x < N ∧ ¬ t < 0 ∧ (m : Int) ≤ t) ∨ (¬ x < 0 ∧ x < N ∧ ¬ t < 0 ∧ t < m ∧ y = 0) ∨ (¬ x < 0 ∧ x < N ∧ ¬ t < 0 ∧ t < m ∧ ¬ (y : Int) = 0 ∧ s = 0) := by omega
      clear hcond hF
      rcases h5 with h | ⟨h1, h2⟩ | ⟨h1, h2, h3⟩ | ⟨h1, h2, h3, h4⟩ | ⟨h1, h2, h3, h4, rfl⟩ | ⟨h1, h2, h3, h4, h5, rfl⟩
      all_goals
        go_wp2_with fail
        go_ret
        exact ⟨ret_bool rfl, bw⟩

end Go.Proofs.Ytoedbglbcbgdfaa
