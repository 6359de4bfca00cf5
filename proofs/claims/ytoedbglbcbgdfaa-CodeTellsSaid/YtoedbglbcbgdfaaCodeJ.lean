/- Walk of CodeMends. -/
import Derived.Test.YtoedbglbcbgdfaaCodeI
namespace Go.Proofs.Ytoedbglbcbgdfaa
open Go.RowKit
set_option linter.unusedVariables false
/-- The slice (a, n, cap) has the numbers zs. -/
abbrev Is (w : World) (a : Option Addr) (n cap : Nat) (zs : List Int) : Prop := Sl w 1 a n cap (zs.map (Value.int .i64))
theorem Is.cnt {w : World} {a : Option Addr} {n cap : Nat} {zs : List Int} (h : Is w a n cap zs) : zs.length = n := by
  have := h.len; simpa using this
theorem Is.at {w : World} {b off n cap : Nat} {zs : List Int} (h : Is w (some ⟨b, off, none⟩) n cap zs) (i : Nat) (hi : i < zs.length) : w.cell? ⟨b, off + i, none⟩ = some (.int .i64 zs[i]) :=
  Sl.cell h (by have := h.cnt; omega) (by simp [hi])
theorem getD_rw {X : List Rw} {i : Nat} (hi : i < X.length) : (rwData X).getD i [] = X[i].l := by simp [List.getD, rwData, hi]

set_option maxHeartbeats 4000000 in
theorem CodeMends_walk (a : Option Addr) (n ac : Nat) (A : List Rw) (z : Int) (ga : Option Addr) (gn gc : Nat) (zs : List Int) (w : World) (hA : Ms w a n ac A) (hG : Is w ga gn gc zs) : Calls Try.prog 9 #[.slice a n ac, .int .i64 z, .slice ga gn gc] w (Grew (.bool true) w) := by
  have hgle := hG.le
  have hgmax := hG.max
  unfold maxLen at hgmax
  go_enter Try.func9, Try.ntmps9
  go_wp2_with fail
  go_at_call 33
  refine (alive3_call _).mono ?_
  rintro e w0 ⟨rfl, b0⟩
  have A0 := hA.below b0
  go_wp2_with fail
  go_at_call 34
  refine (all3_call _ _ _ _ _ _ A0).mono ?_
  rintro e w2 (⟨rfl, b2⟩ | ⟨g, cap, d, s, m, N, R, w1, rfl, hN, rfl, hS, b1, hbt, b2, ho⟩)
  · replace b2 := bnext b0 b2
    go_wp2_with fail
    go_ret
    exact ⟨ret_bool rfl, b2⟩
  · have hAn : n = d := by rw [← hA.dn, hS.fine.rows]
    subst hAn
    have hn1 : 1 ≤ n := hS.fine.n1
    have hn8 := hS.d8
    have hs4 := hS.s4
    have hZ : Ms w2 (some ⟨g, 0, none⟩) N cap (A ++ R) := Ms.ofOwn ho (fun r hr => (hbt r hr).below b2)
    have hZl : (A ++ R).length = N := hZ.cnt
    have hSd : Hid (Mat.Shards (rwData A) (rwData R) n s m) := hid hS
    have hdat : Hid (rwData (A ++ R) = rwData A ++ rwData R) := hid (rwData_append A R)
    generalize A ++ R = Z at *
    have hN0 : 0 < N := by omega
    have hNe : ¬ N = 0 := by omega
    have hN12 : N ≤ 12 := by omega
    have bw := bnext (bnext b0 b1) b2
    have hgl := (ho.lt g rfl).2
    replace hN := hid hN
    replace hS := hid hS
    have o1 : OT w2 (w2.alloc (.cells #[] 27)) none w2.heap.size 27 1 (.slice (some ⟨w2.heap.size, 0, none⟩) 0 0) 0 [] := OT.fresh (World.ownsRow_lit w2 #[] 0 (Nat.le_refl _) (by decide) rfl) ((Below.refl _ _).alloc (Nat.le_refl _) _) (Nat.le_refl _)
    go_wp2_with (refine wpList_append_t rfl (.tmp 31) (.tmp 32) 22 22 rfl w2.heap.size 27 1 24 (.slice none 0 0) und_rowst info_bytest rfl (by decide) (.slice (some ⟨w2.heap.size, 0, none⟩) 0 0) 0 [] rfl o1 (.slice (some ⟨g, 0, none⟩) N cap) N (rwCells Z) rfl (Sl.src (hZ.alloc _).sl und_rowst (rwCells_one Z)) (by unfold maxLen; omega) (by omega) (by simp) ?_; intro v3 w3 ho3 hg3; simp only [Nat.zero_add, List.nil_append] at ho3; obtain ⟨gl, capl, rfl, hl1, hl2, hl3, hl4⟩ := own_pos ho3.own hN0; have b3 : Below w2.heap.size w2 w3 := ho3.belowOf (Nat.le_refl _) (fun k e => by cases e))
    go_loopg [10, 36] gn (fun gg s10 s36 wr => ∃ (k q : Nat) (X : List Rw), gg = gn - k ∧ k ≤ gn ∧ s36 = .int .i64 (k : Int) ∧ s10 = .int .i64 (q : Int) ∧ wr.ownsRow w2.heap.size 27 1 (.slice (some ⟨gl, 0, none⟩) N capl) N (rwCells X) ∧ Below w2.heap.size w2 wr ∧ Hid (X.length = N) ∧ Hid (∀ i (hi : i < X.length) (hz : i < Z.length), X[i] = Z[i] ∨ X[i] = rw0) ∧ Hid ((Mat.there (rwData X)).length + q = N))
    case atStart =>
      refine ⟨0, 0, Z, rfl, by omega, rfl, rfl, ho3.own, b3, hid hZl, hid (fun i hi hz => .inl rfl), hid ?_⟩
      rw [hdat.out, Mat.there_all hSd.out, hN.out]; rfl
    case round =>
      clear ho3 b3 hg3 o1 hl2
      obtain ⟨k, q, X, rfl, hk, rfl, rfl, hX, bX, HX, HR, HQ⟩ := hrel
      obtain ⟨wo, rfl⟩ : ∃ wo : World, wo = wr := ⟨_, rfl⟩
      have hq12 : q ≤ 12 := by have := HQ.out; omega
      by_cases hlt : k < gn
      · have hkz : k < zs.length := by rw [hG.cnt]; exact hlt
        obtain ⟨gb, goff, rfl, _⟩ := hG.addr (by omega)
        have x0 := Is.at (hG.below (bnext bw bX)) k hkz
        obtain ⟨v, hv⟩ : ∃ v, zs[k] = v := ⟨_, rfl⟩
        rw [hv] at x0
        replace hv := hid hv
        by_cases hc : 0 ≤ v ∧ v < N
        · obtain ⟨x, rfl⟩ := Int.eq_ofNat_of_zero_le hc.1
          have hxN : x < N := by omega
          have hxX : x < X.length := by rw [HX.out]; exact hxN
          have hxZ : x < Z.length := by omega
          have c0 : wo.cell? ⟨gl, x, none⟩ = some (.slice X[x].a X[x].n X[x].cap) := by rw [hX.cellAt x (by omega)]; exact rwCells_get X x hxX
          have f0 := hX.frozenAt x
          have u0 : (0 : Int) ≤ (x : Int) := by omega
          have u1 : (x : Int) < (N : Int) := by omega
          obtain ⟨xn, hxn⟩ : ∃ xn, X[x].n = xn := ⟨_, rfl⟩
          rw [hxn] at c0
          clear hc
          by_cases hz : xn = 0
          · subst hz
            go_wp2_with fail
            go_roundg (gn - (k + 1))
            case measure => omega
            case rel => exact ⟨k + 1, q, X, rfl, by omega, by go_num, rfl, hX, bX, HX, HR, HQ⟩
          · have u2 : (0 : Int) < (xn : Int) := by omega
            have hX2 : (wo.setCell ⟨gl, x, none⟩ (.slice none 0 0)).ownsRow w2.heap.size 27 1 (.slice (some ⟨gl, 0, none⟩) N capl) N (rwCells (X.set x rw0)) := by
              rw [rwCells_set]
              exact (World.ownsRow.stored hX x _).1
            have hX2 := hid hX2
            have hne : Hid (0 < ((rwData X).getD x []).length) := hid (by
              rw [getD_rw hxX]
              have h1 : X[x] = Z[x] := (HR.out x hxX hxZ).resolve_right (fun e => hz (by rw [← hxn, e]; rfl))
              have h2 := Bt.n (hZ.at x hxZ).2
              rw [h1, h2, ← h1, hxn]
              omega)
            have b4 : Hid (Below w2.heap.size w2 (wo.setCell ⟨gl, x, none⟩ (.slice none 0 0))) := hid (bX.setCell hl1 _)
            replace hxn := hid hxn
            go_wp2_with fail
            go_roundg (gn - (k + 1))
            case measure => omega
            case rel =>
              refine ⟨k + 1, q + 1, X.set x rw0, rfl, by omega, by go_num, by go_num, hX2.out, b4.out, hid (by rw [List.length_set]; exact HX.out), hid (fun i hi hz' => ?_), hid ?_⟩
              · have hi' : i < X.length := by simpa using hi
                by_cases e : i = x
                · subst e; right; simp
                · rw [List.getElem_set_ne (Ne.symm e)]; exact HR.out i hi' hz'
              · rw [rwData_set]
                have := Mat.there_set (X := rwData X) (k := x) (by rw [rwData_length]; exact hxX) hne.out
                have h3 := HQ.out
                show (Mat.there ((rwData X).set x [])).length + (q + 1) = N
                omega
        · have h5 : ¬ 0 ≤ v ∨ (0 ≤ v ∧ ¬ v < N) := by omega
          clear hc
          rcases h5 with h | ⟨h, h'⟩
          · go_wp2_with fail
            go_roundg (gn - (k + 1))
            case measure => omega
            case rel => exact ⟨k + 1, q, X, rfl, by omega, by go_num, rfl, hX, bX, HX, HR, HQ⟩
          · go_wp2_with fail
            go_roundg (gn - (k + 1))
            case measure => omega
            case rel => exact ⟨k + 1, q, X, rfl, by omega, by go_num, rfl, hX, bX, HX, HR, HQ⟩
      · obtain rfl : gn = k := by omega
        have hM : Ms wo (some ⟨gl, 0, none⟩) N capl X := Ms.ofOwn hX (fun r hr => by
          obtain ⟨i, hi, rfl⟩ := List.getElem_of_mem hr
          have hiZ : i < Z.length := by rw [hZl, ← HX.out]; exact hi
          rcases HR.out i hi hiZ with e | e
          · rw [e]; exact ((hbt _ (List.getElem_mem hiZ)).below b2).below bX
          · rw [e]; exact Sl.none _ _)
        have hL : Hid (Mat.Left (rwData A) (rwData R) (rwData X) n s) := hid ⟨by rw [rwData_length, HX.out, hN.out], fun i hi => by
          have hiX : i < X.length := by rw [HX.out, hN.out]; exact hi
          have hiZ : i < Z.length := by rw [hZl, hN.out]; exact hi
          rw [getD_rw hiX, ← hdat.out, getD_rw hiZ]
          rcases HR.out i hiX hiZ with e | e
          · left; rw [e]
          · right; rw [e]; rfl⟩
        have hZX := hZ.below bX
        have bwX := bnext bw bX
        by_cases hqs : s < q
        · have u0 : (s : Int) < (q : Int) := by omega
          go_wp2_with fail
          go_at_call 31
          refine (cMend_call _ _ _ _ _ (by omega) _ hM).mono ?_
          rintro e w5 ⟨a5, n5, c5, R5, e5, rfl, h5, hp5, b5⟩
          obtain ⟨hd5, rfl⟩ := Mat.mend_lost hSd.out hL.out (by have := HQ.out; have := hN.out; omega) hp5
          obtain rfl : n5 = 0 := by rw [← h5.dn, hd5]; rfl
          replace b5 := bnext bwX b5
          replace hd5 := hid hd5
          clear hp5
          go_wp2_with fail
          go_ret
          exact ⟨ret_bool rfl, b5⟩
        · have u0 : ¬ (s : Int) < (q : Int) := by omega
          go_wp2_with fail
          go_at_call 31
          refine (cMend_call _ _ _ _ _ (by omega) _ hM).mono ?_
          rintro e w5 ⟨a5, n5, c5, R5, e5, rfl, h5, hp5, b5⟩
          obtain ⟨hd5, rfl⟩ := Mat.mend_all hSd.out hL.out (by have := HQ.out; have := hN.out; omega) hp5
          replace hZX := hZX.below b5
          replace b5 := bnext bwX b5
          replace hd5 := hid hd5
          clear hp5
          go_wp2_with fail
          go_at_call 19
          refine (rSame_same _ _ _ _ _ _ _ _ _ h5 hZX (by rw [hd5.out, hdat.out])).mono ?_
          rintro e w6 ⟨rfl, q6, hq6⟩
          have b6 : Below w.heap.size w w6 := by rw [hq6]; exact below_drewN b5 q6
          replace hq6 := hid hq6
          go_wp2_with fail
          go_ret
          exact ⟨ret_bool rfl, b6⟩

end Go.Proofs.Ytoedbglbcbgdfaa
