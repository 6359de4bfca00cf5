/- Contracts: One, the program's and the reference's. -/
import Derived.Test.YtjdgfijpmljhiaaGridC
namespace Go.Proofs.Ytjdgfijpmljhiaa
open Go.RowKit
set_option linter.unusedVariables false
/-- row i of one -/
def oneRow (n i : Nat) : List UInt8 := (List.replicate n 0).set i 1
theorem oneRow_length (n i : Nat) : (oneRow n i).length = n := by simp [oneRow]
theorem oneRow_get {n i j : Nat} (hi : i < n) (hj : j < n) : (oneRow n i).getD j 0 = Mat.one i j := by
  unfold oneRow
  rw [getD_set (by simpa using hi)]
  unfold Mat.one
  by_cases e : j = i
  · rw [if_pos e, if_pos e.symm]
  · rw [if_neg e, if_neg (fun h => e h.symm)]
    simp [List.getD, hj]
theorem rep_of_rows {n m : Nat} {f : Mat.M} {L : List (List UInt8)} (hL : L.length = n) (h : ∀ i (hi : i < L.length), L[i].length = m ∧ ∀ j, j < m → L[i].getD j 0 = f i j) : Mat.Rep L n m f := by
  refine ⟨hL, fun r hr => ?_, fun i j hi hj => ?_⟩
  · obtain ⟨i, hi, rfl⟩ := List.getElem_of_mem hr
    exact (h i hi).1
  · have hi' : i < L.length := by omega
    have := (h i hi').2 j hj
    unfold Mat.ent
    rw [show L.getD i [] = L[i] by simp [List.getD, hi']]
    exact this
theorem one_rep {n : Nat} {L : List (List UInt8)} (hL : L.length = n) (h : ∀ i (hi : i < L.length), L[i] = oneRow n i) : Mat.Rep L n n Mat.one := rep_of_rows hL fun i hi => by
  rw [h i hi]
  exact ⟨oneRow_length n i, fun j hj => oneRow_get (by omega) hj⟩
theorem wrData_get {R : List Wr} {i : Nat} (hi : i < (wrData R).length) : (wrData R)[i] = (R[i]'(by simpa [wrData] using hi)).l := by simp [wrData]
/-- It returns a matrix of the call's own. -/
def MoRes (P : List (List UInt8) → Prop) (n : Nat) (w : World) (e : Ending) (w' : World) : Prop :=
  ∃ g R, e = .returned (.tuple #[.slice (some ⟨g, 0, none⟩) n n, .int .i64 0]) ∧ R.length = n ∧ Mo w' w.heap.size g n n R ∧ P (wrData R) ∧ Below w.heap.size w w'
theorem MoRes.res {P : List (List UInt8) → Prop} {n : Nat} {w : World} {e : Ending} {w' : World} {Q : List (List UInt8) → Int → Prop} (h : MoRes P n w e w') (hq : ∀ L, P L → Q L 0) : MRes Q w e w' := by
  obtain ⟨g, R, he, hn, hM, hP, hb⟩ := h
  exact ⟨_, _, _, _, _, he, hM.ms hn, by rw [wrData_rw]; exact hq _ hP, hb⟩

set_option maxHeartbeats 1000000 in
theorem gOne_ok (n : Nat) (w : World) (h1 : 1 ≤ n) (h2 : n ≤ 12) : Calls Try.prog 73 #[.int .i64 (n : Int)] w (MoRes (fun L => Mat.Rep L n n Mat.one) n w) := by
  go_enter Try.func73, Try.ntmps73
  go_wp2_with (refine wpList_make_mat rfl (.tmp 12) (.tmp 12) 88 und_Matrix rfl n rfl rfl (by omega) ?_; intro w1 M1 b1 z1)
  go_loopg [5, 16] n (fun g s5 i wr => ∃ (k : Nat) (R : List Wr), g = n - k ∧ k ≤ n ∧ i = .int .i64 (k : Int) ∧ R.length = k ∧ Mo wr w.heap.size w.heap.size n n R ∧ (∀ i (hi : i < R.length), R[i].l = oneRow n i) ∧ Below w.heap.size w wr)
  case atStart => exact ⟨0, [], rfl, by omega, rfl, rfl, M1, (fun i hi => absurd hi (by simp)), b1⟩
  case round =>
    obtain ⟨k, R, rfl, hk, rfl, hRk, hM, hR, hb⟩ := hrel
    have HR := hid hR
    have HK := hid hRk
    clear hR hRk
    have hsz := hb.size
    have hgl := hM.lt
    by_cases hlt : k < n
    · have M2 := fun w' (h : Below wr.heap.size wr w') => hM.below h
      have hG : w.heap.size ≠ wr.heap.size := by omega
      replace M2 := hid M2
      clear M1 b1 z1
      go_wp2_with (refine wpList_make_bytes rfl (.tmp 21) (.tmp 21) rfl n rfl rfl (by omega) ?_; intro w2 o2 b2 z2; have k0 : w2.cell? ⟨w.heap.size, k, none⟩ = some (.slice none 0 0) := (M2.out w2 b2).atNil k (by rw [HK.out]; exact Nat.le_refl _) hlt; have k1 : w2.frozen? ⟨w.heap.size, k, none⟩ = false := (M2.out w2 b2).free k; have k2 := byte_at o2 k hlt; have k3 := byte_free o2 k)
      have P1 := (M2.out w2 b2).push (by rw [HK.out]; exact hlt) ⟨wr.heap.size, n, List.replicate n 0⟩ (by simpa [Wr.v] using own_mono o2 hsz) (fun q hq e => by have := (hM.rlt hq).2; simp at e; omega)
      rw [HK.out] at P1
      have P2 := P1.setByte k k (by simp; have := HK.out; omega) 1
      have hlen : k < (R ++ [(⟨wr.heap.size, n, List.replicate n 0⟩ : Wr)]).length := by simp; have := HK.out; omega
      have hget : (R ++ [(⟨wr.heap.size, n, List.replicate n 0⟩ : Wr)])[k]'hlen = ⟨wr.heap.size, n, List.replicate n 0⟩ := by
        rw [List.getElem_append_right (by rw [HK.out]; exact Nat.le_refl _)]
        simp
      simp only [hget] at P2
      have hset : (R ++ [(⟨wr.heap.size, n, List.replicate n 0⟩ : Wr)]).set k ⟨wr.heap.size, n, (List.replicate n 0).set k 1⟩ = R ++ [⟨wr.heap.size, n, oneRow n k⟩] := by
        rw [List.set_append_right _ _ (by rw [HK.out]; exact Nat.le_refl _), HK.out]
        simp [oneRow]
      rw [hset] at P2
      go_roundg (n - (k + 1))
      case measure => omega
      case rel =>
        refine ⟨k + 1, R ++ [⟨wr.heap.size, n, oneRow n k⟩], rfl, by omega, by go_num, by simp; exact HK.out, by simpa [Wr.v] using P2, fun i hi => ?_, ?_⟩
        · by_cases e : i < R.length
          · rw [List.getElem_append_left e]; exact HR.out i e
          · have hi' : i < R.length + 1 := by simpa using hi
            have e2 : i = k := by have := HK.out; omega
            subst e2
            rw [List.getElem_append_right (by omega)]
            simp
        · exact (((bnext hb b2)).setCell (by show w.heap.size ≤ w.heap.size; omega) _).setCell (by show w.heap.size ≤ wr.heap.size; omega) _
    · obtain rfl : k = n := by omega
      go_wp2_with fail
      go_ret2
      exact ⟨_, R, rfl, HK.out, hM, one_rep (by rw [wrData]; simpa using HK.out) (fun i hi => by rw [wrData_get hi]; exact HR.out i (by simpa [wrData] using hi)), hb⟩
set_option maxHeartbeats 1000000 in
theorem gOne_bad (n : Int) (w : World) (h : n < 1 ∨ 12 < n) : Calls Try.prog 73 #[.int .i64 n] w (Same (.tuple #[.slice none 0 0, .int .i64 5]) w) := by
  rcases h with h | h
  · go_enter Try.func73, Try.ntmps73
    go_wp2_with fail
    go_ret2
    exact ⟨rfl, rfl⟩
  · have t0 : ¬ n < 1 := by omega
    go_enter Try.func73, Try.ntmps73
    go_wp2_with fail
    go_ret2
    exact ⟨rfl, rfl⟩
theorem MRes.none (P : List (List UInt8) → Int → Prop) (w : World) (e : Ending) (w' : World) (err : Int) (h : Same (.tuple #[.slice Option.none 0 0, .int .i64 err]) w e w') (hP : P [] err) : MRes P w e w' := by
  obtain ⟨rfl, rfl⟩ := h
  exact ⟨_, _, _, [], err, rfl, Ms.nil _, hP, Below.refl _ _⟩
theorem gOne_call (n : Int) (w : World) : Calls Try.prog 73 #[.int .i64 n] w (MRes (Mat.OneR n) w) := by
  by_cases h : n < 1 ∨ 12 < n
  · exact (gOne_bad n w h).mono fun e w' hh => MRes.none _ _ _ _ 5 hh (by unfold Mat.OneR; rw [if_pos h]; exact ⟨rfl, rfl⟩)
  · obtain ⟨m, rfl⟩ := Int.eq_ofNat_of_zero_le (a := n) (by omega)
    exact (gOne_ok m w (by omega) (by omega)).mono fun e w' hh => hh.res fun L hL => by unfold Mat.OneR; rw [if_neg h]; simpa using hL

end Go.Proofs.Ytjdgfijpmljhiaa
