/- Walk of CodeAdds. -/
import Derived.Test.YtoedbglbcbgdfaaCodeK
namespace Go.Proofs.Ytoedbglbcbgdfaa
open Go.RowKit
set_option linter.unusedVariables false
theorem sum_rows {X Y K : List (List UInt8)} {s m : Nat} {f g : Mat.M} (h : SumR X Y K) (hX : Mat.Rep X s m f) (hY : Mat.Rep Y s m g) : Mat.Rep K s m (fun i j => Mat.gadd (f i j) (g i j)) := by
  rcases h with ⟨rfl, i, h1, h2, hne⟩ | ⟨hl, hr⟩
  · exact absurd ((hX.cols _ (List.getElem_mem h1)).trans (hY.cols _ (List.getElem_mem h2)).symm) hne
  · refine rep_of_rows (by rw [hl, hX.rows]) fun i hi => ?_
    have h1 : i < X.length := by rw [← hl]; exact hi
    have h2 : i < Y.length := by rw [hY.rows, ← hX.rows]; exact h1
    obtain ⟨e1, e2, e3⟩ := hr i h1 h2 hi
    have hxm := hX.cols _ (List.getElem_mem h1)
    refine ⟨e2.trans hxm, fun j hj => ?_⟩
    rw [e3 j (by rw [hxm]; exact hj), ← Mat.ent_at h1, ← Mat.ent_at h2, hX.eq i j (by rw [← hX.rows]; exact h1) hj, hY.eq i j (by rw [← hX.rows]; exact h1) hj]
/-- Of two lists of data and their sum: they are of one width. -/
theorem sum_wide {A B C : List (List UInt8)} {d m m' m'' : Nat} (h : SumR A B C) (hA : Mat.Fine A d m) (hB : Mat.Fine B d m') (hC : Mat.Fine C d m'') : m' = m ∧ m'' = m := by
  have h1 : 0 < A.length := by rw [hA.rows]; exact hA.n1
  have h2 : 0 < B.length := by rw [hB.rows]; exact hB.n1
  have h3 : 0 < C.length := by rw [hC.rows]; exact hC.n1
  rcases h with ⟨rfl, _⟩ | ⟨hl, hr⟩
  · exact absurd h3 (by decide)
  · obtain ⟨e1, e2, _⟩ := hr 0 h1 h2 h3
    rw [hA.cols _ (List.getElem_mem h1), hB.cols _ (List.getElem_mem h2)] at e1
    rw [hA.cols _ (List.getElem_mem h1), hC.cols _ (List.getElem_mem h3)] at e2
    exact ⟨e1.symm, e2⟩
theorem sum_len {A B C : List (List UInt8)} {d d'' m m'' : Nat} (h : SumR A B C) (hA : Mat.Fine A d m) (hC : Mat.Fine C d'' m'') : d'' = d := by
  rcases h with ⟨rfl, _⟩ | ⟨hl, _⟩
  · have := hC.rows; have := hC.n1; simp at *; omega
  · rw [← hC.rows, ← hA.rows, hl]

set_option maxHeartbeats 4000000 in
theorem CodeAdds_walk (a : Option Addr) (n ac : Nat) (A : List Rw) (b : Option Addr) (n' bc : Nat) (B : List Rw) (z : Int) (w : World) (hA : Ms w a n ac A) (hB : Ms w b n' bc B) (hn : (n + 1) * 24 ≤ 140737488355328) (hm : ∀ r ∈ A, r.n ≤ 140737488355328) :
    Calls Try.prog 11 #[.slice a n ac, .slice b n' bc, .int .i64 z] w (Grew (.bool true) w) := by
  have hn62 : n ≤ 5864062014805 := by omega
  replace hn := hid hn
  replace hm := hid hm
  by_cases hnn : n = n'
  · subst hnn
    go_enter Try.func11, Try.ntmps11
    go_wp2_with fail
    go_at_call 33
    refine (alive3_call _).mono ?_
    rintro e w0 ⟨rfl, b0⟩
    have A0 := hA.below b0
    have B0 := hB.below b0
    go_wp2_with fail
    go_at_call 35
    refine (CodeAdds1_call _ _ _ _ _ _ _ _ A0 B0 hn.out hm.out).mono ?_
    rintro e w1 ⟨a1, n1, c1, C, rfl, hC, hsum, b1⟩
    replace hsum := hid hsum
    replace b1 := bnext b0 b1
    have A1 := hA.below b1
    clear A0 B0 b0
    go_wp2_with fail
    go_at_call 29
    refine (cSpare_call _ _ _ _ _ _ A1).mono ?_
    rintro e w2 ⟨a2, n2, c2, X, e2, rfl, hX, hp2, b2⟩
    replace hp2 := hid hp2
    replace hC := hC.below b2
    replace b2 := bnext b1 b2
    have B2 := hB.below b2
    clear A1 b1
    go_wp2_with fail
    go_at_call 29
    refine (cSpare_call _ _ _ _ _ _ B2).mono ?_
    rintro e w3 ⟨a3, n3, c3, Y, e3, rfl, hY, hp3, b3⟩
    replace hp3 := hid hp3
    replace hC := hC.below b3
    replace hX := hX.below b3
    replace b3 := bnext b2 b3
    clear B2 b2
    go_wp2_with fail
    go_at_call 29
    refine (cSpare_call _ _ _ _ _ _ hC).mono ?_
    rintro e w4 ⟨a4, n4, c4, Z, e4, rfl, hZ, hp4, b4⟩
    replace hp4 := hid hp4
    replace hX := hX.below b4
    replace hY := hY.below b4
    replace b4 := bnext b3 b4
    clear b3
    by_cases h2 : e2 = 0
    · subst h2
      by_cases h3 : e3 = 0
      · subst h3
        by_cases h4 : e4 = 0
        · subst h4
          obtain ⟨d, m, s, hz, hF, h8, hs4, hrX⟩ := hp2.out.fit rfl
          obtain ⟨d', m', s', hz', hF', _, _, hrY⟩ := hp3.out.fit rfl
          obtain ⟨d'', m'', s'', hz'', hF'', _, _, hrZ⟩ := hp4.out.fit rfl
          obtain rfl : s = s' := by omega
          obtain rfl : s = s'' := by omega
          obtain rfl : n = d := by rw [← hA.dn, hF.rows]
          obtain rfl : n = d' := by rw [← hB.dn, hF'.rows]
          obtain rfl : n = d'' := (sum_len hsum.out hF hF'').symm
          obtain ⟨rfl, rfl⟩ := sum_wide hsum.out hF hF' hF''
          have hent := sum_rows hsum.out hF.rep hF'.rep
          obtain rfl : n2 = s := by rw [← hX.dn, hrX.rows]
          obtain rfl : n3 = n2 := by rw [← hY.dn, hrY.rows]
          have hm2 := hF.m2
          have hXm : ∀ r ∈ X, r.n ≤ 140737488355328 := fun r hr => by
            rw [← Bt.n (hX.row r hr), hrX.cols _ (List.mem_map.2 ⟨r, hr, rfl⟩)]; omega
          have hXY := fun K (h : SumR (rwData X) (rwData Y) K) => (show K = rwData Z from (sum_rows h hrX hrY).uniq hrZ fun i j hi hj => (Mat.spare_sum (m := m'') (fun p q hp hq => (hent.eq p q hp hq)) hj).symm)
          have hn3 : (n3 + 1) * 24 ≤ 140737488355328 := by omega
          replace hXY := hid hXY
          replace hXm := hid hXm
          clear hz hz' hz'' hF hF' hF'' hrX hrY hrZ hent
          go_wp2_with fail
          go_at_call 35
          refine (CodeAdds1_call _ _ _ _ _ _ _ _ hX hY hn3 hXm.out).mono ?_
          rintro e w5 ⟨a5, n5, c5, K, rfl, hK, hsumK, b5⟩
          have hd := hid (hXY.out _ hsumK)
          replace hZ := hZ.below b5
          replace b5 := bnext b4 b5
          clear hsumK b4
          go_wp2_with fail
          go_at_call 19
          refine (rSame_same _ _ _ _ _ _ _ _ _ hK hZ hd.out).mono ?_
          rintro e w6 ⟨rfl, q6, hq6⟩
          have b6 : Below w.heap.size w w6 := by rw [hq6]; exact below_drewN b5 q6
          replace hq6 := hid hq6
          go_wp2_with fail
          go_ret
          exact ⟨ret_bool rfl, b6⟩
        · have u0 : (e4 != 0) = true := bne_iff_ne.2 h4
          replace h4 := hid h4
          go_wp2_with fail
          go_ret
          exact ⟨ret_bool rfl, b4⟩
      · have u0 : (e3 != 0) = true := bne_iff_ne.2 h3
        replace h3 := hid h3
        go_wp2_with fail
        go_ret
        exact ⟨ret_bool rfl, b4⟩
    · have u0 : (e2 != 0) = true := bne_iff_ne.2 h2
      replace h2 := hid h2
      go_wp2_with fail
      go_ret
      exact ⟨ret_bool rfl, b4⟩
  · have u0 : ((n : Int) != (n' : Int)) = true := by rw [bne_iff_ne]; omega
    have u1 : (n != n') = true := bne_iff_ne.2 hnn
    replace hnn := hid hnn
    go_enter Try.func11, Try.ntmps11
    go_wp2_with fail
    go_at_call 33
    refine (alive3_call _).mono ?_
    rintro e w0 ⟨rfl, b0⟩
    go_wp2_with fail
    go_ret
    exact ⟨ret_bool rfl, b0⟩

end Go.Proofs.Ytoedbglbcbgdfaa
