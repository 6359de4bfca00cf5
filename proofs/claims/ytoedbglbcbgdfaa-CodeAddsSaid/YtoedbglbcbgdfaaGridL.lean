/- Walks of GridOne, GridThree, GridBack. -/
import Derived.Test.YtoedbglbcbgdfaaGridT
namespace Go.Proofs.Ytoedbglbcbgdfaa
open Go.RowKit
set_option linter.unusedVariables false
/-- The first row of a matrix whose rows are alike, as memory has it. -/
theorem Ms.row0 {w : World} {a : Option Addr} {n cap m : Nat} {A : List Rw} (h : Ms w a n cap A) (hF : Mat.Fine (rwData A) n m) :
    ∃ b off r0 p0, a = some ⟨b, off, none⟩ ∧ ∀ w', Below w.heap.size w w' → w'.cell? ⟨b, off, none⟩ = some (.slice r0 m p0) := by
  have h1 := hF.n1
  obtain ⟨b, off, rfl, _⟩ := h.sl.addr (by omega)
  have hA0 : 0 < A.length := by rw [h.cnt]; omega
  have hl := Bt.n (h.at 0 hA0).2
  have hm : A[0].n = m := by rw [← hl]; exact hF.cols _ (List.mem_map.2 ⟨_, List.getElem_mem hA0, rfl⟩)
  refine ⟨b, off, A[0].a, A[0].cap, rfl, fun w' hb => ?_⟩
  have := ((h.below hb).at 0 hA0).1
  rw [hm] at this
  simpa using this
theorem Ms.wid {w : World} {a : Option Addr} {n cap : Nat} {A : List Rw} (h : Ms w a n cap A) (hw : Mat.wrongM (rwData A) = 0) : Mat.Fine (rwData A) n (Mat.wid (rwData A) 0) := by
  have := Mat.wrong_fine hw
  rwa [h.dn] at this
theorem eq_of_rep {K L : List (List UInt8)} {n m : Nat} {f : Mat.M} (h : Mat.Rep L n m f) (hK : Mat.Fine K n m) (e : ∀ i j, i < n → j < m → f i j = Mat.ent K i j) : L = K := h.uniq hK.rep e

set_option maxHeartbeats 1000000 in
theorem GridOne_walk (a : Option Addr) (n ac : Nat) (A : List Rw) (w : World) (hA : Ms w a n ac A) : Calls Try.prog 5 #[.slice a n ac] w (Grew (.bool true) w) := by
  by_cases hw : Mat.wrongM (rwData A) = 0
  · have hF := hA.wid hw
    generalize Mat.wid (rwData A) 0 = m at hF
    obtain ⟨b, off, r0, p0, rfl, hc0⟩ := hA.row0 hF
    replace hc0 := hid hc0
    have HF := hid hF
    have hn12 := hF.n2
    have hn0 : 0 < n := hF.n1
    clear hF
    have HW := hid hw
    clear hw
    by_cases hm : m ≤ 12
    · have u0 : ¬ (12 : Int) < (m : Int) := by omega
      go_enter Try.func5, Try.ntmps5
      go_wp2_with fail
      go_at_call 13
      refine (alive2_call _).mono ?_
      rintro e w1 ⟨rfl, b1⟩
      have A1 := hA.below b1
      have c1 := hc0.out w1 b1
      go_wp2_with fail
      go_at_call 14
      refine (gWrong_call _ _ _ _ _ A1).mono ?_
      rintro e w1' ⟨rfl, rfl⟩
      rw [HW.out]
      go_wp2_with fail
      go_at_call 17
      refine (gOne_call _ _).mono ?_
      rintro e w2 ⟨a2, n2, c2, R2, e2, rfl, h2, hp2, b2⟩
      obtain ⟨hR2, rfl⟩ := Mat.OneR.ok HF.out.n1 HF.out.n2 hp2
      replace hR2 := hid hR2
      replace b2 := bnext b1 b2
      have c2 := hc0.out w2 b2
      clear A1 c1 b1 hp2
      go_wp2_with fail
      go_at_call 17
      refine (gOne_call _ _).mono ?_
      rintro e w3 ⟨a3, n3, cp3, R3, e3, rfl, h3, hp3, b3⟩
      obtain ⟨hR3, rfl⟩ := Mat.OneR.ok HF.out.m1 hm hp3
      replace hR3 := hid hR3
      replace h2 := h2.below b3
      replace b3 := bnext b2 b3
      have A3 := hA.below b3
      clear c2 b2 hp3
      go_wp2_with fail
      go_at_call 20
      refine (gMul_call _ _ _ _ _ _ _ _ _ h2 A3).mono ?_
      rintro e w4 ⟨a4, n4, cp4, R4, e4, rfl, h4, hp4, b4⟩
      obtain ⟨hR4, rfl⟩ := Mat.MulR.ok (hR2.out.fine HF.out.n1 HF.out.n2 HF.out.n1 (by omega)) HF.out hp4
      have hd4 : rwData R4 = rwData A := eq_of_rep hR4 HF.out (fun i j hi hj => (Mat.sum_congr (fun k hk => by rw [hR2.out.eq i k hi hk])).trans (Mat.one_mul_left _ _ hi j))
      replace hd4 := hid hd4
      replace A3 := A3.below b4
      replace h3 := h3.below b4
      replace b4 := bnext b3 b4
      clear hp4 hR4 b3 h2
      go_wp2_with fail
      go_at_call 20
      refine (gMul_call _ _ _ _ _ _ _ _ _ A3 h3).mono ?_
      rintro e w5 ⟨a5, n5, cp5, R5, e5, rfl, h5, hp5, b5⟩
      obtain ⟨hR5, rfl⟩ := Mat.MulR.ok HF.out (hR3.out.fine HF.out.m1 hm HF.out.m1 HF.out.m2) hp5
      have hd5 : rwData R5 = rwData A := eq_of_rep hR5 HF.out (fun i j hi hj => (Mat.sum_congr (fun k hk => by rw [hR3.out.eq k j hk hj])).trans (Mat.mul_one_right _ _ i hj))
      replace hd5 := hid hd5
      replace A3 := A3.below b5
      replace h4 := h4.below b5
      replace b5 := bnext b4 b5
      clear hp5 hR5 b4 h3
      go_wp2_with fail
      go_at_call 19
      refine (rSame_same _ _ _ _ _ _ _ _ _ h4 A3 hd4.out).mono ?_
      rintro e w6 ⟨rfl, q6, hq6⟩
      have b6 : Below w.heap.size w w6 := by rw [hq6]; exact below_drewN b5 q6
      replace A3 := A3.drewN q6
      replace h5 := h5.drewN q6
      rw [← hq6] at A3 h5
      replace hq6 := hid hq6
      go_wp2_with fail
      go_at_call 19
      refine (rSame_same _ _ _ _ _ _ _ _ _ h5 A3 hd5.out).mono ?_
      rintro e w7 ⟨rfl, q7, hq7⟩
      have b7 : Below w.heap.size w w7 := by rw [hq7]; exact below_drewN b6 q7
      replace hq7 := hid hq7
      go_wp2_with fail
      go_ret
      exact ⟨ret_bool rfl, b7⟩
    · have u0 : (12 : Int) < (m : Int) := by omega
      go_enter Try.func5, Try.ntmps5
      go_wp2_with fail
      go_at_call 13
      refine (alive2_call _).mono ?_
      rintro e w1 ⟨rfl, b1⟩
      have A1 := hA.below b1
      have c1 := hc0.out w1 b1
      go_wp2_with fail
      go_at_call 14
      refine (gWrong_call _ _ _ _ _ A1).mono ?_
      rintro e w1' ⟨rfl, rfl⟩
      rw [HW.out]
      go_wp2_with fail
      go_ret
      exact ⟨ret_bool rfl, b1⟩
  · have u0 : (Mat.wrongM (rwData A) != 0) = true := bne_iff_ne.2 hw
    generalize hW : Mat.wrongM (rwData A) = W at *
    go_enter Try.func5, Try.ntmps5
    go_wp2_with fail
    go_at_call 13
    refine (alive2_call _).mono ?_
    rintro e w1 ⟨rfl, b1⟩
    have A1 := hA.below b1
    go_wp2_with fail
    go_at_call 14
    refine (gWrong_call _ _ _ _ _ A1).mono ?_
    rintro e w1' ⟨rfl, rfl⟩
    rw [hW]
    replace hW := hid hW
    go_wp2_with fail
    go_ret
    exact ⟨ret_bool rfl, b1⟩

/-- A product that came out is of two fit ones. -/
theorem Mat.MulR.fit {A B L : List (List UInt8)} {e : Int} (h : Mat.MulR A B L e) (he : e = 0) : ∃ n m k, Mat.Fine A n m ∧ Mat.Fine B m k ∧ Mat.Rep L n k (Mat.mul m (Mat.ent A) (Mat.ent B)) := by
  subst he
  unfold Mat.MulR at h
  split at h
  · rename_i h1; exact absurd h.2.symm h1
  · rename_i h1
    split at h
    · rename_i h2; exact absurd h.2.symm h2
    · rename_i h2
      split at h
      · exact absurd h.2 (by decide)
      · rename_i h3
        have hA := Mat.wrong_fine (Classical.not_not.1 h1)
        have hB := Mat.wrong_fine (Classical.not_not.1 h2)
        rw [Classical.not_not.1 h3] at hA
        exact ⟨_, _, _, hA, hB, h.1⟩
set_option maxHeartbeats 1000000 in
theorem GridThree_walk (a : Option Addr) (n ac : Nat) (A : List Rw) (b : Option Addr) (m bc : Nat) (B : List Rw) (c : Option Addr) (k cc : Nat) (C : List Rw) (w : World) (hA : Ms w a n ac A) (hB : Ms w b m bc B) (hC : Ms w c k cc C) :
    Calls Try.prog 6 #[.slice a n ac, .slice b m bc, .slice c k cc] w (Grew (.bool true) w) := by
  go_enter Try.func6, Try.ntmps6
  go_wp2_with fail
  go_at_call 13
  refine (alive2_call _).mono ?_
  rintro e w1 ⟨rfl, b1⟩
  have A1 := hA.below b1
  have B1 := hB.below b1
  go_wp2_with fail
  go_at_call 20
  refine (gMul_call _ _ _ _ _ _ _ _ _ A1 B1).mono ?_
  rintro e w2 ⟨a2, n2, c2, R2, e2, rfl, h2, hp2, b2⟩
  replace b2 := bnext b1 b2
  clear A1 B1 b1
  have B2 := hB.below b2
  have C2 := hC.below b2
  replace hp2 := hid hp2
  go_wp2_with fail
  go_at_call 20
  refine (gMul_call _ _ _ _ _ _ _ _ _ B2 C2).mono ?_
  rintro e w3 ⟨a3, n3, c3, R3, e3, rfl, h3, hp3, b3⟩
  replace h2 := h2.below b3
  replace b3 := bnext b2 b3
  clear B2 C2 b2
  replace hp3 := hid hp3
  by_cases he2 : e2 = 0
  · subst he2
    by_cases he3 : e3 = 0
    · subst he3
      obtain ⟨nn, mm, kk, hF1, hF2, hr2⟩ := hp2.out.fit rfl
      obtain ⟨mm', kk', ll, hF3, hF4, hr3⟩ := hp3.out.fit rfl
      obtain rfl : mm = mm' := hF2.rows.symm.trans hF3.rows
      obtain rfl : kk = kk' := hF2.wid0.symm.trans hF3.wid0
      have hX2 := hr2.fine hF1.n1 hF1.n2 hF2.m1 hF2.m2
      have hX3 := hr3.fine hF2.n1 hF2.n2 hF4.m1 hF4.m2
      replace hF1 := hid hF1; replace hF2 := hid hF2; replace hF3 := hid hF3; replace hF4 := hid hF4
      replace hX2 := hid hX2; replace hX3 := hid hX3; replace hr2 := hid hr2; replace hr3 := hid hr3
      have C3 := hC.below b3
      go_wp2_with fail
      go_at_call 20
      refine (gMul_call _ _ _ _ _ _ _ _ _ h2 C3).mono ?_
      rintro e w4 ⟨a4, n4, c4, R4, e4, rfl, h4, hp4, b4⟩
      obtain ⟨hr4, rfl⟩ := Mat.MulR.ok hX2.out hF4.out hp4
      replace hr4 := hid hr4
      replace h3 := h3.below b4
      replace b4 := bnext b3 b4
      have A4 := hA.below b4
      clear hp4 b3 h2 C3
      go_wp2_with fail
      go_at_call 20
      refine (gMul_call _ _ _ _ _ _ _ _ _ A4 h3).mono ?_
      rintro e w5 ⟨a5, n5, c5, R5, e5, rfl, h5, hp5, b5⟩
      obtain ⟨hr5, rfl⟩ := Mat.MulR.ok hF1.out hX3.out hp5
      have hd : rwData R4 = rwData R5 := hr4.out.uniq hr5 (fun i j hi hj => by
        refine (Mat.sum_congr (fun x hx => by rw [hr2.out.eq i x hi hx])).trans ((Mat.mul_assoc3 mm kk (Mat.ent (rwData A)) (Mat.ent (rwData B)) (Mat.ent (rwData C)) i j).trans (Mat.sum_congr (fun x hx => by rw [hr3.out.eq x j hx hj])))
        )
      replace hd := hid hd
      replace h4 := h4.below b5
      replace b5 := bnext b4 b5
      clear hp5 hr5 b4 h3 A4
      go_wp2_with fail
      go_at_call 19
      refine (rSame_same _ _ _ _ _ _ _ _ _ h4 h5 hd.out).mono ?_
      rintro e w6 ⟨rfl, q6, hq6⟩
      have b6 : Below w.heap.size w w6 := by rw [hq6]; exact below_drewN b5 q6
      replace hq6 := hid hq6
      go_wp2_with fail
      go_ret
      exact ⟨ret_bool rfl, b6⟩
    · have u0 : (e3 != 0) = true := bne_iff_ne.2 he3
      go_wp2_with fail
      go_ret
      exact ⟨ret_bool rfl, b3⟩
  · have u0 : (e2 != 0) = true := bne_iff_ne.2 he2
    go_wp2_with fail
    go_ret
    exact ⟨ret_bool rfl, b3⟩

theorem Mat.InvR.fit {A L : List (List UInt8)} {e : Int} (h : Mat.InvR A L e) (he : e = 0) : ∃ n f, Mat.Fine A n n ∧ Mat.Rep L n n f ∧ Mat.Undo n (Mat.ent A) f := by
  subst he
  unfold Mat.InvR at h
  split at h
  · rename_i h1; exact absurd h.2.symm h1
  · rename_i h1
    split at h
    · exact absurd h.2 (by decide)
    · rename_i h3
      have hA := Mat.wrong_fine (Classical.not_not.1 h1)
      rw [Classical.not_not.1 h3] at hA
      rcases h with ⟨_, h, _⟩ | ⟨f, h1, h2, _⟩
      · exact absurd h (by decide)
      · exact ⟨_, f, hA, h1, h2⟩
theorem Mat.InvR.bad {A L : List (List UInt8)} {e : Int} (h : Mat.InvR A L e) (he : e ≠ 0) : L = [] := by
  unfold Mat.InvR at h
  split at h
  · exact h.1
  · split at h
    · exact h.1
    · rcases h with ⟨h, _⟩ | ⟨_, _, _, h⟩
      · exact h
      · exact absurd h he
theorem Mat.undo_of_rep {n : Nat} {a f g : Mat.M} (h : Mat.Undo n a f) (e : ∀ i j, i < n → j < n → f i j = g i j) : Mat.Undo n a g :=
  ⟨fun i j hi hj => (Mat.sum_congr (fun k hk => by rw [e i k hi hk])).trans (h.1 i j hi hj), fun i j hi hj => (Mat.sum_congr (fun k hk => by rw [e k j hk hj])).trans (h.2 i j hi hj)⟩
set_option maxHeartbeats 1000000 in
theorem GridBack_walk (a : Option Addr) (n ac : Nat) (A : List Rw) (w : World) (hA : Ms w a n ac A) : Calls Try.prog 7 #[.slice a n ac] w (Grew (.bool true) w) := by
  have HN := hid hA.dn
  go_enter Try.func7, Try.ntmps7
  go_wp2_with fail
  go_at_call 13
  refine (alive2_call _).mono ?_
  rintro e w1 ⟨rfl, b1⟩
  have A1 := hA.below b1
  go_wp2_with fail
  go_at_call 15
  refine (gInvert_call _ _ _ _ _ A1).mono ?_
  rintro e w2 ⟨a2, n2, c2, R2, e2, rfl, h2, hp2, b2⟩
  replace b2 := bnext b1 b2
  clear A1 b1
  by_cases he2 : e2 = 0
  · subst he2
    obtain ⟨n', f, hF, hR, hU⟩ := hp2.fit rfl
    obtain rfl : n = n' := HN.out.symm.trans hF.rows
    have hU2 := Mat.undo_of_rep hU (fun i j hi hj => (hR.eq i j hi hj).symm)
    have hF2 := hR.fine hF.n1 hF.n2 hF.m1 hF.m2
    replace hF := hid hF; replace hR := hid hR; replace hU2 := hid hU2; replace hF2 := hid hF2
    clear hp2 hU
    go_wp2_with fail
    go_at_call 17
    refine (gOne_call _ _).mono ?_
    rintro e w3 ⟨a3, n3, c3, R3, e3, rfl, h3, hp3, b3⟩
    obtain ⟨hR3, rfl⟩ := Mat.OneR.ok hF.out.n1 hF.out.n2 hp3
    replace hR3 := hid hR3
    replace h2 := h2.below b3
    replace b3 := bnext b2 b3
    have A3 := hA.below b3
    clear hp3 b2
    go_wp2_with fail
    go_at_call 20
    refine (gMul_call _ _ _ _ _ _ _ _ _ A3 h2).mono ?_
    rintro e w4 ⟨a4, n4, c4, R4, e4, rfl, h4, hp4, b4⟩
    obtain ⟨hr4, rfl⟩ := Mat.MulR.ok hF.out hF2.out hp4
    have hd4 := hid (hr4.uniq hR3.out (fun i j hi hj => hU2.out.2 i j hi hj))
    replace h2 := h2.below b4
    replace h3 := h3.below b4
    replace b4 := bnext b3 b4
    have A4 := hA.below b4
    clear hp4 b3 A3 hr4
    go_wp2_with fail
    go_at_call 20
    refine (gMul_call _ _ _ _ _ _ _ _ _ h2 A4).mono ?_
    rintro e w5 ⟨a5, n5, c5, R5, e5, rfl, h5, hp5, b5⟩
    obtain ⟨hr5, rfl⟩ := Mat.MulR.ok hF2.out hF.out hp5
    have hd5 := hid (hr5.uniq hR3.out (fun i j hi hj => hU2.out.1 i j hi hj))
    replace h2 := h2.below b5
    replace h3 := h3.below b5
    replace h4 := h4.below b5
    replace b5 := bnext b4 b5
    clear hp5 b4 A4 hr5
    go_wp2_with fail
    go_at_call 15
    refine (gInvert_call _ _ _ _ _ h2).mono ?_
    rintro e w6 ⟨a6, n6, c6, R6, e6, rfl, h6, hp6, b6⟩
    obtain ⟨f6, hR6, hU6, rfl⟩ : ∃ f, Mat.Rep (rwData R6) n n f ∧ Mat.Undo n (Mat.ent (rwData R2)) f ∧ e6 = 0 := by
      rcases hp6.ok hF2.out with ⟨_, _, h⟩ | h
      · exact absurd hU2.out.symm.inj h
      · exact h
    have hd6 := hid (hR6.uniq hF.out.rep (hU6.uniq hU2.out.symm))
    replace h3 := h3.below b6
    replace h4 := h4.below b6
    replace h5 := h5.below b6
    replace b6 := bnext b5 b6
    have A6 := hA.below b6
    clear hp6 b5 h2 hR6 hU6
    go_wp2_with fail
    go_at_call 19
    refine (rSame_same _ _ _ _ _ _ _ _ _ h4 h3 hd4.out).mono ?_
    rintro e w7 ⟨rfl, q7, hq7⟩
    have b7 : Below w.heap.size w w7 := by rw [hq7]; exact below_drewN b6 q7
    replace h3 := h3.drewN q7; replace h5 := h5.drewN q7; replace h6 := h6.drewN q7; replace A6 := A6.drewN q7
    rw [← hq7] at h3 h5 h6 A6
    replace hq7 := hid hq7
    clear b6 h4
    go_wp2_with fail
    go_at_call 19
    refine (rSame_same _ _ _ _ _ _ _ _ _ h5 h3 hd5.out).mono ?_
    rintro e w8 ⟨rfl, q8, hq8⟩
    have b8 : Below w.heap.size w w8 := by rw [hq8]; exact below_drewN b7 q8
    replace h6 := h6.drewN q8; replace A6 := A6.drewN q8
    rw [← hq8] at h6 A6
    replace hq8 := hid hq8
    clear b7 h5 h3
    go_wp2_with fail
    go_at_call 19
    refine (rSame_same _ _ _ _ _ _ _ _ _ h6 A6 hd6.out).mono ?_
    rintro e w9 ⟨rfl, q9, hq9⟩
    have b9 : Below w.heap.size w w9 := by rw [hq9]; exact below_drewN b8 q9
    replace hq9 := hid hq9
    go_wp2_with fail
    go_ret
    exact ⟨ret_bool rfl, b9⟩
  · have u0 : (e2 != 0) = true := bne_iff_ne.2 he2
    have hl : n2 = 0 := by rw [← h2.dn, hp2.bad he2]; rfl
    subst hl
    replace hp2 := hid hp2
    go_wp2_with fail
    go_ret
    exact ⟨ret_bool rfl, b2⟩

end Go.Proofs.Ytoedbglbcbgdfaa
