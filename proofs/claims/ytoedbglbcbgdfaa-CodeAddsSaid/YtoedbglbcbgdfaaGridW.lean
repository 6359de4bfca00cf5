/- Walk of GridTwice. -/
import Derived.Test.YtoedbglbcbgdfaaGridL
import Derived.BigRegion
namespace Go.Proofs.Ytoedbglbcbgdfaa
open Go.RowKit
set_option linter.unusedVariables false
theorem Ms.ofOwn {W : World} {base g n cap : Nat} {A : List Rw} (h : W.ownsRow base 27 1 (.slice (some ⟨g, 0, none⟩) n cap) n (rwCells A)) (hb : ∀ r ∈ A, Bt W r.a r.n r.cap r.l) : Ms W (some ⟨g, 0, Option.none⟩) n cap A := by
  obtain ⟨a, c, e, hs⟩ := own_sl h
  cases e
  exact ⟨hs, hb⟩
theorem rwCells_set (A : List Rw) (i : Nat) (r : Rw) : rwCells (A.set i r) = (rwCells A).set i r.v := by simp [rwCells, List.map_set]
theorem rwData_set (A : List Rw) (i : Nat) (r : Rw) : rwData (A.set i r) = (rwData A).set i r.l := by simp [rwData, List.map_set]
theorem Mat.Fine.set {L : List (List UInt8)} {n m : Nat} (h : Mat.Fine L n m) (i : Nat) (r : List UInt8) (hr : r.length = m) : Mat.Fine (L.set i r) n m :=
  ⟨by rw [List.length_set]; exact h.rows, fun q hq => by
    rcases List.mem_or_eq_of_mem_set hq with h1 | rfl
    · exact h.cols _ h1
    · exact hr, h.n1, h.n2, h.m1, h.m2⟩
/-- A row twice can't be undone. -/
theorem inv_twice {L K : List (List UInt8)} {n i j : Nat} {e : Int} (h : Mat.Fine L n n) (hi : i < n) (hj : j < n) (hne : i ≠ j) (hI : Mat.InvR (L.set i (L[j]'(by rw [h.rows]; exact hj))) K e) : e = 6 := by
  have hjL : j < L.length := by rw [h.rows]; exact hj
  have hiL : i < L.length := by rw [h.rows]; exact hi
  rcases hI.ok (h.set i _ (h.cols _ (List.getElem_mem _))) with ⟨_, h2, _⟩ | ⟨f, _, hU, _⟩
  · exact h2
  · have h1 := hU.2 i j hi hj
    have h2 := hU.2 j j hj hj
    have e1 : ∀ k, Mat.ent (L.set i L[j]) i k = Mat.ent (L.set i L[j]) j k := fun k => by
      rw [Mat.ent_set hiL, if_pos rfl, Mat.ent_set hiL, if_neg (Ne.symm hne), Mat.ent_at hjL]
    have e2 : Mat.mul n (Mat.ent (L.set i L[j])) f i j = Mat.mul n (Mat.ent (L.set i L[j])) f j j := Mat.sum_congr fun k _ => by rw [e1]
    rw [h1, h2] at e2
    unfold Mat.one at e2
    rw [if_neg hne, if_pos rfl] at e2
    exact absurd e2 (by decide)
/-- Nor can a row of noughts. -/
theorem inv_nought {L K : List (List UInt8)} {n i : Nat} {e : Int} (h : Mat.Fine L n n) (hi : i < n) (hI : Mat.InvR (L.set i (List.replicate n 0)) K e) : e = 6 := by
  have hiL : i < L.length := by rw [h.rows]; exact hi
  rcases hI.ok (h.set i _ (by simp)) with ⟨_, h2, _⟩ | ⟨f, _, hU, _⟩
  · exact h2
  · have h1 := hU.2 i i hi hi
    have e2 : Mat.mul n (Mat.ent (L.set i (List.replicate n 0))) f i i = 0 := Mat.sum_zero fun k hk => by
      rw [Mat.ent_set hiL, if_pos rfl]
      simp [List.getD, hk, Mat.zero_mul]
    rw [h1] at e2
    unfold Mat.one at e2
    rw [if_pos rfl] at e2
    exact absurd e2 (by decide)

set_option maxHeartbeats 2000000 in
theorem GridTwice_main (a : Option Addr) (n ac i j : Nat) (A : List Rw) (w : World) (hA : Ms w a n ac A) (hF : Mat.Fine (rwData A) n n) (hi : i < n) (hj : j < n) (hne : i ≠ j) : Calls Try.prog 3 #[.slice a n ac, .int .i64 (i : Int), .int .i64 (j : Int)] w (Grew (.bool true) w) := by
  obtain ⟨b, off, r0, p0, rfl, hc0⟩ := hA.row0 hF
  replace hc0 := hid hc0
  have hn0 : 0 < n := hF.n1
  have hn12 := hF.n2
  have HW := hid hF.wrong
  have HF := hid hF
  have HN := hid hA.cnt
  clear hF
  have u0 : (0 : Int) ≤ (i : Int) := by omega
  have u1 : (0 : Int) ≤ (j : Int) := by omega
  have u2 : (i : Int) < (n : Int) := by omega
  have u3 : (j : Int) < (n : Int) := by omega
  have u4 : ¬ (i : Int) = (j : Int) := by omega
  have u5 : ((i : Int) == (j : Int)) = false := beq_eq_false_iff_ne.2 u4
  have u6 : (i == j) = false := beq_eq_false_iff_ne.2 hne
  have u7 : ¬ (i : Int) < 0 := by omega
  have u8 : ¬ (j : Int) < 0 := by omega
  go_enter Try.func3, Try.ntmps3
  go_wp2_with fail
  go_at_call 13
  refine (alive2_call _).mono ?_
  rintro e w1 ⟨rfl, b1⟩
  have A1 := hA.below b1
  have c1 := hc0.out w1 b1
  go_wp2_with fail
  go_at_call 14
  refine (gWrong_call _ _ _ _ _ A1).mono ?_
  rintro e w1' ⟨rfl, rfl⟩
  rw [HW.out]
  have o1 : OT w1 (w1.alloc (.cells #[] 27)) none w1.heap.size 27 1 (.slice (some ⟨w1.heap.size, 0, none⟩) 0 0) 0 [] := OT.fresh (World.ownsRow_lit w1 #[] 0 (Nat.le_refl _) (by decide) rfl) ((Below.refl _ _).alloc (Nat.le_refl _) _) (Nat.le_refl _)
  go_wp2_with (first
    | (refine wpList_append_t rfl (.tmp 52) (.tmp 53) 23 23 rfl w1.heap.size 27 1 24 (.slice none 0 0) und_Matrix info_bytest rfl (by decide) (.slice (some ⟨w1.heap.size, 0, none⟩) 0 0) 0 [] rfl o1 (.slice (some ⟨b, off, none⟩) n ac) n (rwCells A) rfl (Sl.src (A1.alloc _).sl und_Matrix (rwCells_one A)) (by unfold maxLen; omega) (by omega) (by simp) ?_; intro v2 w2 ho2 hg2; simp only [Nat.zero_add, List.nil_append] at ho2; obtain ⟨gb, capb, rfl, hgb1, hgb2, hgb3, hgb4⟩ := own_pos ho2.own hn0; have b2 : Below w1.heap.size w1 w2 := ho2.belowOf (Nat.le_refl _) (fun k e => by cases e); have A2 := A1.below b2; have o2 : OT w2 (w2.alloc (.cells #[] 27)) none w2.heap.size 27 1 (.slice (some ⟨w2.heap.size, 0, none⟩) 0 0) 0 [] := OT.fresh (World.ownsRow_lit w2 #[] 0 (Nat.le_refl _) (by decide) rfl) ((Below.refl _ _).alloc (Nat.le_refl _) _) (Nat.le_refl _))
    | (refine wpList_append_t rfl (.tmp 55) (.tmp 56) 23 23 rfl w2.heap.size 27 1 24 (.slice none 0 0) und_Matrix info_bytest rfl (by decide) (.slice (some ⟨w2.heap.size, 0, none⟩) 0 0) 0 [] rfl o2 (.slice (some ⟨b, off, none⟩) n ac) n (rwCells A) rfl (Sl.src (A2.alloc _).sl und_Matrix (rwCells_one A)) (by unfold maxLen; omega) (by omega) (by simp) ?_; intro v3 w3 ho3 hg3; simp only [Nat.zero_add, List.nil_append] at ho3; obtain ⟨gc, capc, rfl, hgc1, hgc2, hgc3, hgc4⟩ := own_pos ho3.own hn0; have b3 : Below w2.heap.size w2 w3 := ho3.belowOf (Nat.le_refl _) (fun k e => by cases e)))
  have A3 := A2.below b3
  have ob := own_below ho2.own b3
  have oc := ho3.own
  have hgne : gb ≠ gc := by omega
  have hgne' : gc ≠ gb := Ne.symm hgne
  have hiA : i < A.length := by rw [HN.out]; exact hi
  have hjA : j < A.length := by rw [HN.out]; exact hj
  have x0 : w3.cell? ⟨gb, j, none⟩ = some (.slice A[j].a A[j].n A[j].cap) := by rw [ob.cellAt j (by omega)]; exact rwCells_get A j hjA
  have x1 : w3.cell? ⟨gb, i, none⟩ = some (.slice A[i].a A[i].n A[i].cap) := by rw [ob.cellAt i (by omega)]; exact rwCells_get A i hiA
  have x2 : w3.cell? ⟨gc, i, none⟩ = some (.slice A[i].a A[i].n A[i].cap) := by rw [oc.cellAt i (by omega)]; exact rwCells_get A i hiA
  have y0 := ob.frozenAt i
  have y1 := oc.frozenAt i
  have mk := run_make_row' (P := Try.prog) 27 5 (.int .u8 0) 1 Try.underlying27 info_u8 rfl .i64 .i64 n (by omega) (by omega)
  have l1 : gb < w3.heap.size := by have := b3.size; omega
  have l2 : gc < w3.heap.size := hgc2
  have l3 : gb ≠ w3.heap.size := by omega
  have l4 : gc ≠ w3.heap.size := by omega
  obtain ⟨W3, rfl⟩ : ∃ W : World, W = w3 := ⟨_, rfl⟩
  replace ho2 := hid ho2; replace ho3 := hid ho3
  generalize hra : A[j] = ra at *
  generalize hrb : A[i] = rb at *
  obtain ⟨ja, jn, jc, jl⟩ := ra
  obtain ⟨ia, iN, ic, il⟩ := rb
  simp only at x0 x1 x2
  replace hra := hid hra; replace hrb := hid hrb
  clear c1 A1 A2 o1
  have hzl : (madeCells #[Value.int .u8 0] n).toList = cb (List.replicate n 0) := by
    simp only [madeCells, cb, List.map_replicate]
    apply List.ext_getElem
    · simp
    · intro i h1 h2
      simp [Nat.mod_one]
  have hs1 : W3.heap.size = ((W3.setCell ⟨gb, i, none⟩ (.slice ja jn jc)).setCell ⟨gc, i, none⟩ (.slice (some ⟨W3.heap.size, 0, none⟩) n n)).heap.size := by rw [World.size_setCell, World.size_setCell]
  have q1 : (W3.setCell ⟨gb, i, none⟩ (.slice ja jn jc)).ownsRow w1.heap.size 27 1 (.slice (some ⟨gb, 0, none⟩) n capb) n ((rwCells A).set i (.slice ja jn jc)) := (World.ownsRow.stored ob i _).1
  have q2 := ((Only.refl (W3.setCell ⟨gb, i, none⟩ (.slice ja jn jc)) [gc]).setCell (a := ⟨gc, i, none⟩) (.inl (by simp)) (.slice (some ⟨W3.heap.size, 0, none⟩) n n)).own q1 (fun x hx e => by cases e; exact hgne (by simpa using hx))
  have q3 := ((Only.refl W3 [gb]).setCell (a := ⟨gb, i, none⟩) (.inl (by simp)) (.slice ja jn jc)).own oc (fun x hx e => by cases e; exact hgne' (by simpa using hx))
  have q4 : ((W3.setCell ⟨gb, i, none⟩ (.slice ja jn jc)).setCell ⟨gc, i, none⟩ (.slice (some ⟨W3.heap.size, 0, none⟩) n n)).ownsRow w2.heap.size 27 1 (.slice (some ⟨gc, 0, none⟩) n capc) n ((rwCells A).set i (.slice (some ⟨W3.heap.size, 0, none⟩) n n)) := (World.ownsRow.stored q3 i _).1
  have q5 : Below w.heap.size w ((W3.setCell ⟨gb, i, none⟩ (.slice ja jn jc)).setCell ⟨gc, i, none⟩ (.slice (some ⟨W3.heap.size, 0, none⟩) n n)) := ((bnext (bnext b1 b2) b3).setCell (by have := b1.size; show w.heap.size ≤ gb; omega) _).setCell (by have := b1.size; have := b2.size; show w.heap.size ≤ gc; omega) _
  have q6 := lit_bt ((W3.setCell ⟨gb, i, none⟩ (.slice ja jn jc)).setCell ⟨gc, i, none⟩ (.slice (some ⟨W3.heap.size, 0, none⟩) n n)) (madeCells #[Value.int .u8 0] n) (List.replicate n 0) (by simp [maxLen]; omega) hzl
  rw [← hs1] at q6
  simp only [List.length_replicate] at q6
  have qb : Below w.heap.size w ((((W3.setCell ⟨gb, i, none⟩ (.slice ja jn jc)).setCell ⟨gc, i, none⟩ (.slice (some ⟨W3.heap.size, 0, none⟩) n n)).alloc (.cells (madeCells #[Value.int .u8 0] n) 5)).drew) := (q5.alloc q5.size _).drew
  have hB := Ms.ofOwn (A := A.set i ⟨ja, jn, jc, jl⟩) (W := (((W3.setCell ⟨gb, i, none⟩ (.slice ja jn jc)).setCell ⟨gc, i, none⟩ (.slice (some ⟨W3.heap.size, 0, none⟩) n n)).alloc (.cells (madeCells #[Value.int .u8 0] n) 5)).drew) (by
    rw [rwCells_set]
    exact own_below q2 (((Below.refl _ _).alloc (Nat.le_refl _) _).drew)) (fun r hr => by
    rcases List.mem_or_eq_of_mem_set hr with h1 | rfl
    · exact (hA.row r h1).below qb
    · have h1 : (⟨ja, jn, jc, jl⟩ : Rw) ∈ A := by rw [← hra.out]; exact List.getElem_mem _
      exact (hA.row _ h1).below qb)
  have hC := Ms.ofOwn (A := A.set i ⟨some ⟨W3.heap.size, 0, none⟩, n, n, List.replicate n 0⟩) (W := (((W3.setCell ⟨gb, i, none⟩ (.slice ja jn jc)).setCell ⟨gc, i, none⟩ (.slice (some ⟨W3.heap.size, 0, none⟩) n n)).alloc (.cells (madeCells #[Value.int .u8 0] n) 5)).drew) (by
    rw [rwCells_set]
    exact own_below q4 (((Below.refl _ _).alloc (Nat.le_refl _) _).drew)) (fun r hr => by
    rcases List.mem_or_eq_of_mem_set hr with h1 | rfl
    · exact (hA.row r h1).below qb
    · exact Sl.drew q6)
  have hjl : jl = (rwData A)[j]'(by rw [HF.out.rows]; exact hj) := by rw [rwData_at, hra.out]
  replace hB := hid hB; replace hC := hid hC; replace qb := hid qb; replace hjl := hid hjl; replace ob := hid ob; replace oc := hid oc
  clear q1 q2 q3 q4 q5 q6 hs1 hzl
  go_region
  have hB := hB.out
  have hC := hC.out
  have qb := qb.out
  generalize (((W3.setCell ⟨gb, i, none⟩ (.slice ja jn jc)).setCell ⟨gc, i, none⟩ (.slice (some ⟨W3.heap.size, 0, none⟩) n n)).alloc (.cells (madeCells #[Value.int .u8 0] n) 5)).drew = W4 at *
  clear x0 x1 x2 y0 y1 l1 l2 l3 l4 mk
  go_wp2_with fail
  go_at_call 15
  refine (gInvert_call _ _ _ _ _ hB).mono ?_
  rintro e w5 ⟨a5, n5, c5, R5, e5, rfl, -, hp5, b5⟩
  obtain rfl : e5 = 6 := inv_twice HF.out hi hj hne (by rw [← hjl.out]; rw [rwData_set] at hp5; exact hp5)
  replace hC := hC.below b5
  replace b5 := bnext qb b5
  clear hp5 hB qb
  go_wp2_with fail
  go_at_call 15
  refine (gInvert_call _ _ _ _ _ hC).mono ?_
  rintro e w6 ⟨a6, n6, c6, R6, e6, rfl, -, hp6, b6⟩
  obtain rfl : e6 = 6 := inv_nought HF.out hi (by rw [rwData_set] at hp6; exact hp6)
  replace b6 := bnext b5 b6
  clear hp6 hC b5
  go_wp2_with fail
  go_ret
  exact ⟨ret_bool rfl, b6⟩
set_option maxHeartbeats 2000000 in
theorem GridTwice_walk (a : Option Addr) (n ac : Nat) (A : List Rw) (x y : Int) (w : World) (hA : Ms w a n ac A) : Calls Try.prog 3 #[.slice a n ac, .int .i64 x, .int .i64 y] w (Grew (.bool true) w) := by
  by_cases hw : Mat.wrongM (rwData A) = 0
  · have hF := hA.wid hw
    generalize Mat.wid (rwData A) 0 = m at hF
    by_cases hm : m = n
    · subst hm
      by_cases hc : 0 ≤ x ∧ 0 ≤ y ∧ x < m ∧ y < m ∧ x ≠ y
      · obtain ⟨i, rfl⟩ := Int.eq_ofNat_of_zero_le hc.1
        obtain ⟨j, rfl⟩ := Int.eq_ofNat_of_zero_le hc.2.1
        exact GridTwice_main a m ac i j A w hA hF (by omega) (by omega) (by omega)
      · obtain ⟨b, off, r0, p0, rfl, hc0⟩ := hA.row0 hF
        replace hc0 := hid hc0
        have hn0 : 0 < m := hF.n1
        have HW := hid hw
        clear hF hw
        have h5 : x < 0 ∨ (¬ x < 0 ∧ y < 0) ∨ (¬ x < 0 ∧ ¬ y < 0 ∧ (m : Int) ≤ x) ∨ (¬ x < 0 ∧ ¬ y < 0 ∧ x < m ∧ (m : Int) ≤ y) ∨ (¬ x < 0 ∧ ¬ y < 0 ∧ x < m ∧ y < m ∧ x = y) := by omega
        clear hc
        rcases h5 with h | ⟨h1, h2⟩ | ⟨h1, h2, h3⟩ | ⟨h1, h2, h3, h4⟩ | ⟨h1, h2, h3, h4, rfl⟩
        all_goals
          go_enter Try.func3, Try.ntmps3
          go_wp2_with fail
          go_at_call 13
          refine (alive2_call _).mono ?_
          rintro e w1 ⟨rfl, b1⟩
          have A1 := hA.below b1
          have c1 := hc0.out w1 b1
          go_wp2_with fail
          go_at_call 14
          refine (gWrong_call _ _ _ _ _ A1).mono ?_
          rintro e w1' ⟨rfl, rfl⟩
          rw [HW.out]
          go_wp2_with fail
          go_ret
          exact ⟨ret_bool rfl, b1⟩
    · obtain ⟨b, off, r0, p0, rfl, hc0⟩ := hA.row0 hF
      replace hc0 := hid hc0
      have hn0 : 0 < n := hF.n1
      have HW := hid hw
      clear hF hw
      have u0 : ((m : Int) != (n : Int)) = true := by rw [bne_iff_ne]; omega
      have u1 : (m != n) = true := bne_iff_ne.2 hm
      go_enter Try.func3, Try.ntmps3
      go_wp2_with fail
      go_at_call 13
      refine (alive2_call _).mono ?_
      rintro e w1 ⟨rfl, b1⟩
      have A1 := hA.below b1
      have c1 := hc0.out w1 b1
      go_wp2_with fail
      go_at_call 14
      refine (gWrong_call _ _ _ _ _ A1).mono ?_
      rintro e w1' ⟨rfl, rfl⟩
      rw [HW.out]
      go_wp2_with fail
      go_ret
      exact ⟨ret_bool rfl, b1⟩
  · have u0 : (Mat.wrongM (rwData A) != 0) = true := bne_iff_ne.2 hw
    generalize hW : Mat.wrongM (rwData A) = W at *
    go_enter Try.func3, Try.ntmps3
    go_wp2_with fail
    go_at_call 13
    refine (alive2_call _).mono ?_
    rintro e w1 ⟨rfl, b1⟩
    have A1 := hA.below b1
    go_wp2_with fail
    go_at_call 14
    refine (gWrong_call _ _ _ _ _ A1).mono ?_
    rintro e w1' ⟨rfl, rfl⟩
    rw [hW]
    replace hW := hid hW
    go_wp2_with fail
    go_ret
    exact ⟨ret_bool rfl, b1⟩

end Go.Proofs.Ytoedbglbcbgdfaa
