/- Joined, and what is not used struck: GridC, GridD, GridE, GridF, Inv. -/
import Derived.Test.YthhcdfjijagalaaM04
import Derived.Test.YthhcdfjijagalaaM02
namespace Go.Proofs.Ythhcdfjijagalaa
open Go.RowKit
set_option linter.unusedVariables false
theorem Tab.lt {w : World} {b : Nat} (h : Tab w b) : b < w.heap.size := World.block_lt_of_cell? _ _ (h.pow 0 (by omega))
theorem Tab.only {w w' : World} {b : Nat} {S : List Nat} (h : Tab w b) (hO : Only w w' S) (hS : b ∉ S) : Tab w' b := World.rowIs.of_block h (hO.block b h.lt hS)
theorem Tab.below {w w' : World} {b : Nat} (h : Tab w b) (hb : Below w.heap.size w w') : Tab w' b := h.only ((Only.refl w []).below hb) (by simp)
theorem Tab.ne {w : World} {b g base n cap : Nat} {xs : List Value} {t : TypeId} (h : Tab w b) (ho : w.ownsRow base t 1 (.slice (some ⟨g, 0, none⟩) n cap) n xs) (hne : 183 ≠ t) : b ≠ g := by
  obtain ⟨c, hc, _⟩ := h
  obtain ⟨cur, hg, _⟩ := own_row ho
  exact heap_ne hc hg hne
theorem Only.drewN {w0 w : World} {S : List Nat} (h : Only w0 w S) (j : Nat) : Only w0 (w.drewN j) S := ⟨h.os, h.tape, h.output, h.size, h.block⟩
theorem own_drewN {w : World} {base : Nat} {e : TypeId} {sz : Nat} {v : Value} {n : Nat} {xs : List Value} (h : w.ownsRow base e sz v n xs) (j : Nat) : (w.drewN j).ownsRow base e sz v n xs := h
theorem gmul_at (m : List UInt8) (k : Nat) (x : UInt8) : (Mat.gmul (m.getD k 0) x).toNat = Fld.mul (at8 m k) x.toNat := Mat.toNat_mul _ _
set_option maxHeartbeats 1000000 in
theorem gscale_call (t base g n cap : Nat) (l : List UInt8) (x : UInt8) (w : World) (ht : Tab w t) (h : w.ownsRow base 5 1 (.slice (some ⟨g, 0, none⟩) n cap) n (cb l)) (hn : n ≤ 65536) :
    Calls Try.prog 116 #[.pointer (some ⟨t, 0, none⟩), .slice (some ⟨g, 0, none⟩) n cap, .int .u8 (x.toNat : Int)] w (RowRes base g n cap (fun j => Mat.gmul (l.getD j 0) x) w) := by
  have htg := ht.ne h (by decide)
  have hx := Mat.lt x
  go_enter Try.func116, Try.ntmps116
  go_wp2_with fail
  go_loopg [6, 9] n (fun g' s6 i wr => ∃ (k : Nat) (m : List UInt8), g' = n - k ∧ k ≤ n ∧ i = .int .i64 (k : Int) ∧ wr.ownsRow base 5 1 (.slice (some ⟨g, 0, none⟩) n cap) n (cb m) ∧ (∀ j, j < n → m.getD j 0 = if j < k then Mat.gmul (l.getD j 0) x else l.getD j 0) ∧ Only w wr [g])
  case atStart => exact ⟨0, l, rfl, by omega, rfl, h, fun j _ => by simp, Only.refl _ _⟩
  case round =>
    obtain ⟨k, m, rfl, hk, rfl, ho, hm, hO⟩ := hrel
    have HM := hid hm
    clear hm
    have htr := ht.only hO (by simpa using htg)
    by_cases hlt : k < n
    · have c0 := byte_at ho k hlt
      have f0 := byte_free ho k
      have h8 := at8_lt m k
      have hs := byte_set ho k _ _ (gmul_at m k x)
      have hO2 := hO.setCell (a := ⟨g, k, none⟩) (.inl (by simp)) (.int .u8 ((Fld.mul (at8 m k) x.toNat : Nat) : Int))
      have HML := hid (byte_len ho)
      have D := hid (TMul_call t (at8 m k) x.toNat h8 hx wr htr)
      generalize at8 m k = c at *
      generalize Fld.mul c x.toNat = v at *
      have hs := hid hs
      have hO2 := hid hO2
      go_wp2_with fail
      go_at_call 112; refine (D.out).mono ?_; rintro e w1 ⟨rfl, j1, rfl⟩
      go_wp2_with fail
      go_roundg (n - (k + 1))
      case measure => omega
      case rel =>
        refine ⟨k + 1, _, rfl, by omega, by go_num, own_drewN hs.out j1, fun j hj => ?_, hO2.out.drewN j1⟩
        rw [getD_set (by rw [HML.out]; exact hlt)]
        by_cases e : j = k
        · subst e
          rw [if_pos rfl, if_pos (by omega), HM.out j hj, if_neg (by omega)]
        · rw [if_neg e, HM.out j hj]
          by_cases e2 : j < k
          · rw [if_pos e2, if_pos (by omega)]
          · rw [if_neg e2, if_neg (by omega)]
    · obtain rfl : k = n := by omega
      go_wp2_with fail
      go_end0
      exact ⟨rfl, m, ho, fun j hj => by rw [HM.out j hj, if_pos hj], hO⟩
set_option maxHeartbeats 1000000 in
theorem gadd_call (t base g n cap base' g' cap' : Nat) (l l' : List UInt8) (x : UInt8) (w : World) (ht : Tab w t) (h : w.ownsRow base 5 1 (.slice (some ⟨g, 0, none⟩) n cap) n (cb l))
    (h' : w.ownsRow base' 5 1 (.slice (some ⟨g', 0, none⟩) n cap') n (cb l')) (hne : g' ≠ g) (hn : n ≤ 65536) :
    Calls Try.prog 117 #[.pointer (some ⟨t, 0, none⟩), .slice (some ⟨g, 0, none⟩) n cap, .slice (some ⟨g', 0, none⟩) n cap', .int .u8 (x.toNat : Int)] w (RowRes base g n cap (fun j => Mat.gadd (l.getD j 0) (Mat.gmul (l'.getD j 0) x)) w) := by
  have htg := ht.ne h (by decide)
  have hx := Mat.lt x
  go_enter Try.func117, Try.ntmps117
  go_wp2_with fail
  go_loopg [8, 11] n (fun gg s8 i wr => ∃ (k : Nat) (m : List UInt8), gg = n - k ∧ k ≤ n ∧ i = .int .i64 (k : Int) ∧ wr.ownsRow base 5 1 (.slice (some ⟨g, 0, none⟩) n cap) n (cb m) ∧ (∀ j, j < n → m.getD j 0 = if j < k then Mat.gadd (l.getD j 0) (Mat.gmul (l'.getD j 0) x) else l.getD j 0) ∧ Only w wr [g])
  case atStart => exact ⟨0, l, rfl, by omega, rfl, h, fun j _ => by simp, Only.refl _ _⟩
  case round =>
    obtain ⟨k, m, rfl, hk, rfl, ho, hm, hO⟩ := hrel
    have HM := hid hm
    clear hm
    have htr := ht.only hO (by simpa using htg)
    have ho' := hO.own h' (fun y hy e => by cases e; exact hne (by simpa using hy))
    by_cases hlt : k < n
    · have c0 := byte_at ho k hlt
      have c1 := byte_at ho' k hlt
      have f0 := byte_free ho k
      have h8 := at8_lt m k
      have h9 := at8_lt l' k
      have e8 : (Mat.gadd (m.getD k 0) (Mat.gmul (l'.getD k 0) x)).toNat = at8 m k ^^^ Fld.mul (at8 l' k) x.toNat := by rw [Mat.toNat_add, gmul_at]; rfl
      have hs := fun q => byte_set (own_drewN ho q) k _ _ e8
      have hO2 := fun q => (hO.drewN q).setCell (a := ⟨g, k, none⟩) (.inl (by simp)) (.int .u8 ((at8 m k ^^^ Fld.mul (at8 l' k) x.toNat : Nat) : Int))
      have HML := hid (byte_len ho)
      have D := hid (fun q => TMul_call t (at8 l' k) x.toNat h9 hx (wr.drewN q) (htr.drewN q))
      have hv := Fld.mul_lt (at8 l' k) x.toNat
      have hxx := u8_xor_nat (at8 m k) (Fld.mul (at8 l' k) x.toNat) h8 hv
      have i0 : (0 : Int) ≤ (k : Int) := Int.natCast_nonneg _
      have i1 : (k : Int) < (n : Int) := by omega
      clear e8
      generalize at8 m k = c at *
      generalize at8 l' k = c' at *
      generalize Fld.mul c' x.toNat = v at *
      generalize c ^^^ v = y at *
      have hs := hid hs
      have hO2 := hid hO2
      go_wp2_with fail
      go_region_law (first | (go_simp; go_at_call 112; refine (D.out _).mono ?_; rintro e w1 ⟨rfl, j1, rfl⟩))
      all_goals go_wp2_with fail
      all_goals
        go_roundg (n - (k + 1))
        case measure => omega
        case rel =>
          refine ⟨k + 1, _, rfl, by omega, by go_num, hs.out _, fun j hj => ?_, hO2.out _⟩
          rw [getD_set (by rw [HML.out]; exact hlt)]
          by_cases e : j = k
          · subst e
            rw [if_pos rfl, if_pos (by omega), HM.out j hj, if_neg (by omega)]
          · rw [if_neg e, HM.out j hj]
            by_cases e2 : j < k
            · rw [if_pos e2, if_pos (by omega)]
            · rw [if_neg e2, if_neg (by omega)]
    · obtain rfl : k = n := by omega
      go_wp2_with fail
      go_end0
      exact ⟨rfl, m, ho, fun j hj => by rw [HM.out j hj, if_pos hj], hO⟩
end Go.Proofs.Ythhcdfjijagalaa
namespace Go.Proofs.Ythhcdfjijagalaa
open Go.RowKit
set_option linter.unusedVariables false
/-- row i of one -/
def oneRow (n i : Nat) : List UInt8 := (List.replicate n 0).set i 1
theorem oneRow_length (n i : Nat) : (oneRow n i).length = n := by simp [oneRow]
theorem oneRow_get {n i j : Nat} (hi : i < n) (hj : j < n) : (oneRow n i).getD j 0 = Mat.one i j := by
  unfold oneRow
  rw [getD_set (by simpa using hi)]
  unfold Mat.one
  by_cases e : j = i
  · rw [if_pos e, if_pos e.symm]
  · rw [if_neg e, if_neg (fun h => e h.symm)]
    simp [List.getD, hj]
theorem rep_of_rows {n m : Nat} {f : Mat.M} {L : List (List UInt8)} (hL : L.length = n) (h : ∀ i (hi : i < L.length), L[i].length = m ∧ ∀ j, j < m → L[i].getD j 0 = f i j) : Mat.Rep L n m f := by
  refine ⟨hL, fun r hr => ?_, fun i j hi hj => ?_⟩
  · obtain ⟨i, hi, rfl⟩ := List.getElem_of_mem hr
    exact (h i hi).1
  · have hi' : i < L.length := by omega
    have := (h i hi').2 j hj
    unfold Mat.ent
    rw [show L.getD i [] = L[i] by simp [List.getD, hi']]
    exact this
theorem one_rep {n : Nat} {L : List (List UInt8)} (hL : L.length = n) (h : ∀ i (hi : i < L.length), L[i] = oneRow n i) : Mat.Rep L n n Mat.one := rep_of_rows hL fun i hi => by
  rw [h i hi]
  exact ⟨oneRow_length n i, fun j hj => oneRow_get (by omega) hj⟩
theorem wrData_get {R : List Wr} {i : Nat} (hi : i < (wrData R).length) : (wrData R)[i] = (R[i]'(by simpa [wrData] using hi)).l := by simp [wrData]
/-- It returns a matrix of the call's own. -/
def MoRes (P : List (List UInt8) → Prop) (n : Nat) (w : World) (e : Ending) (w' : World) : Prop :=
  ∃ g R, e = .returned (.tuple #[.slice (some ⟨g, 0, none⟩) n n, .int .i64 0]) ∧ R.length = n ∧ Mo w' w.heap.size g n n R ∧ P (wrData R) ∧ Below w.heap.size w w'
theorem MoRes.res {P : List (List UInt8) → Prop} {n : Nat} {w : World} {e : Ending} {w' : World} {Q : List (List UInt8) → Int → Prop} (h : MoRes P n w e w') (hq : ∀ L, P L → Q L 0) : MRes Q w e w' := by
  obtain ⟨g, R, he, hn, hM, hP, hb⟩ := h
  exact ⟨_, _, _, _, _, he, hM.ms hn, by rw [wrData_rw]; exact hq _ hP, hb⟩
set_option maxHeartbeats 1000000 in
theorem gOne_ok (n : Nat) (w : World) (h1 : 1 ≤ n) (h2 : n ≤ 12) : Calls Try.prog 109 #[.int .i64 (n : Int)] w (MoRes (fun L => Mat.Rep L n n Mat.one) n w) := by
  go_enter Try.func109, Try.ntmps109
  go_wp2_with (refine wpList_make_mat rfl (.tmp 12) (.tmp 12) 156 und_Matrix rfl n rfl rfl (by omega) ?_; intro w1 M1 b1 z1)
  go_loopg [5, 16] n (fun g s5 i wr => ∃ (k : Nat) (R : List Wr), g = n - k ∧ k ≤ n ∧ i = .int .i64 (k : Int) ∧ R.length = k ∧ Mo wr w.heap.size w.heap.size n n R ∧ (∀ i (hi : i < R.length), R[i].l = oneRow n i) ∧ Below w.heap.size w wr)
  case atStart => exact ⟨0, [], rfl, by omega, rfl, rfl, M1, (fun i hi => absurd hi (by simp)), b1⟩
  case round =>
    obtain ⟨k, R, rfl, hk, rfl, hRk, hM, hR, hb⟩ := hrel
    have HR := hid hR
    have HK := hid hRk
    clear hR hRk
    have hsz := hb.size
    have hgl := hM.lt
    by_cases hlt : k < n
    · have M2 := fun w' (h : Below wr.heap.size wr w') => hM.below h
      have hG : w.heap.size ≠ wr.heap.size := by omega
      replace M2 := hid M2
      clear M1 b1 z1
      go_wp2_with (refine wpList_make_bytes rfl (.tmp 21) (.tmp 21) rfl n rfl rfl (by omega) ?_; intro w2 o2 b2 z2; have k0 : w2.cell? ⟨w.heap.size, k, none⟩ = some (.slice none 0 0) := (M2.out w2 b2).atNil k (by rw [HK.out]; exact Nat.le_refl _) hlt; have k1 : w2.frozen? ⟨w.heap.size, k, none⟩ = false := (M2.out w2 b2).free k; have k2 := byte_at o2 k hlt; have k3 := byte_free o2 k)
      have P1 := (M2.out w2 b2).push (by rw [HK.out]; exact hlt) ⟨wr.heap.size, n, List.replicate n 0⟩ (by simpa [Wr.v] using own_mono o2 hsz) (fun q hq e => by have := (hM.rlt hq).2; simp at e; omega)
      rw [HK.out] at P1
      have P2 := P1.setByte k k (by simp; have := HK.out; omega) 1
      have hlen : k < (R ++ [(⟨wr.heap.size, n, List.replicate n 0⟩ : Wr)]).length := by simp; have := HK.out; omega
      have hget : (R ++ [(⟨wr.heap.size, n, List.replicate n 0⟩ : Wr)])[k]'hlen = ⟨wr.heap.size, n, List.replicate n 0⟩ := by
        rw [List.getElem_append_right (by rw [HK.out]; exact Nat.le_refl _)]
        simp
      simp only [hget] at P2
      have hset : (R ++ [(⟨wr.heap.size, n, List.replicate n 0⟩ : Wr)]).set k ⟨wr.heap.size, n, (List.replicate n 0).set k 1⟩ = R ++ [⟨wr.heap.size, n, oneRow n k⟩] := by
        rw [List.set_append_right _ _ (by rw [HK.out]; exact Nat.le_refl _), HK.out]
        simp [oneRow]
      rw [hset] at P2
      go_roundg (n - (k + 1))
      case measure => omega
      case rel =>
        refine ⟨k + 1, R ++ [⟨wr.heap.size, n, oneRow n k⟩], rfl, by omega, by go_num, by simp; exact HK.out, by simpa [Wr.v] using P2, fun i hi => ?_, ?_⟩
        · by_cases e : i < R.length
          · rw [List.getElem_append_left e]; exact HR.out i e
          · have hi' : i < R.length + 1 := by simpa using hi
            have e2 : i = k := by have := HK.out; omega
            subst e2
            rw [List.getElem_append_right (by omega)]
            simp
        · exact (((bnext hb b2)).setCell (by show w.heap.size ≤ w.heap.size; omega) _).setCell (by show w.heap.size ≤ wr.heap.size; omega) _
    · obtain rfl : k = n := by omega
      go_wp2_with fail
      go_ret2
      exact ⟨_, R, rfl, HK.out, hM, one_rep (by rw [wrData]; simpa using HK.out) (fun i hi => by rw [wrData_get hi]; exact HR.out i (by simpa [wrData] using hi)), hb⟩
end Go.Proofs.Ythhcdfjijagalaa
namespace Go.Proofs.Ythhcdfjijagalaa
open Go.RowKit
set_option linter.unusedVariables false
theorem ent_rw {R : List Rw} {i : Nat} (hi : i < R.length) (j : Nat) : Mat.ent (rwData R) i j = R[i].l.getD j 0 := by
  unfold Mat.ent rwData; simp [List.getD, hi]
section
variable {w w' : World} {base G n cap g c : Nat} {R : List Wr} {l : List UInt8}
theorem last_get (R : List Wr) (r : Wr) (h : R.length < (R ++ [r]).length) : (R ++ [r])[R.length]'h = r := by
  rw [List.getElem_append_right (Nat.le_refl _)]; simp
theorem Mo.last (h : Mo w base G n cap (R ++ [⟨g, c, l⟩])) : w.cell? ⟨G, R.length, none⟩ = some (.slice (some ⟨g, 0, none⟩) l.length c) ∧ (∀ j, j < l.length → w.cell? ⟨g, j, none⟩ = some (.int .u8 (at8 l j))) ∧ (∀ j, w.frozen? ⟨g, j, none⟩ = false) := by
  have hl : R.length < (R ++ [(⟨g, c, l⟩ : Wr)]).length := by simp
  have e := last_get R ⟨g, c, l⟩ hl
  have h1 := h.at R.length hl
  rw [e] at h1
  refine ⟨h1, fun j hj => ?_, fun j => ?_⟩
  · have h2 := h.byte R.length j hl (by rw [e]; exact hj)
    rw [e] at h2; exact h2
  · have h2 := h.rfree R.length j hl
    rw [e] at h2; exact h2
theorem Mo.setLast (h : Mo w base G n cap (R ++ [⟨g, c, l⟩])) (j v : Nat) (y : UInt8) (hy : y.toNat = v) : Mo (w.setCell ⟨g, j, none⟩ (.int .u8 (v : Int))) base G n cap (R ++ [⟨g, c, l.set j y⟩]) := by
  have hl : R.length < (R ++ [(⟨g, c, l⟩ : Wr)]).length := by simp
  have e := last_get R ⟨g, c, l⟩ hl
  have h1 := h.setByte R.length j hl y
  simp only [e, hy] at h1
  rw [List.set_append_right _ _ (Nat.le_refl _)] at h1
  simpa using h1
end
/-- the product's row, k terms of it -/
def mulTo (k : Nat) (A B : List (List UInt8)) (i j : Nat) : UInt8 := Mat.sum k fun p => Mat.gmul (Mat.ent A i p) (Mat.ent B p j)
set_option maxHeartbeats 2000000 in
theorem gMul_wrong (a b : Option Addr) (n ac m bc : Nat) (A B : List Rw) (w : World) (hA : Ms w a n ac A) (hB : Ms w b m bc B) (e : Int) (he : e ≠ 0) (K : Nat) (hK : K = 0 ∧ Mat.wrongM (rwData A) = e ∨ K = 1 ∧ Mat.wrongM (rwData A) = 0 ∧ Mat.wrongM (rwData B) = e) :
    Calls Try.prog 101 #[.slice a n ac, .slice b m bc] w (fun e' w' => e' = .returned (.tuple #[.slice none 0 0, .int .i64 e]) ∧ Below w.heap.size w w') := by
  have CA := hid (fun W (h : Below w.heap.size w W) => gWrong_call a n ac A W (hA.below h))
  have CB := hid (fun W (h : Below w.heap.size w W) => gWrong_call b m bc B W (hB.below h))
  have hbW : Below w.heap.size w (w.alloc (.cells #[.slice a n ac, .slice b m bc] 156)) := (Below.refl _ _).alloc (Nat.le_refl _) _
  have c0 : (w.alloc (.cells #[.slice a n ac, .slice b m bc] 156)).cell? ⟨w.heap.size, 0, none⟩ = some (.slice a n ac) := by simp
  have c1 : (w.alloc (.cells #[.slice a n ac, .slice b m bc] 156)).cell? ⟨w.heap.size, 1, none⟩ = some (.slice b m bc) := by simp
  have t0 : (e != 0) = true := by rw [bne_iff_ne]; exact he
  generalize Mat.wrongM (rwData A) = eA at *
  generalize Mat.wrongM (rwData B) = eB at *
  have HK := hid hK
  clear hK he
  go_enter Try.func101, Try.ntmps101
  go_wp2_with fail
  generalize (w.alloc (.cells #[.slice a n ac, .slice b m bc] 156)) = W at *
  go_loopg [21] 2 (fun g i wr => ∃ k : Nat, g = 2 - k ∧ k ≤ K ∧ i = .int .i64 (k : Int) ∧ W = wr)
  case atStart => exact ⟨0, rfl, by omega, rfl, rfl⟩
  case round =>
    obtain ⟨k, rfl, hk, rfl, rfl⟩ := hrel
    rcases HK.out with ⟨hK0, hA0⟩ | ⟨hK1, hA0, hB0⟩
    · subst hK0
      subst hA0
      obtain rfl : k = 0 := by omega
      go_wp2_with fail
      go_at_call 100; refine (CA.out _ hbW).mono ?_; rintro e' w1 ⟨rfl, rfl⟩
      go_wp2_with fail
      go_ret2
      exact ⟨rfl, hbW⟩
    · subst hK1
      subst hA0
      subst hB0
      rcases Nat.eq_zero_or_pos k with h0 | h0
      · subst h0
        go_wp2_with fail
        go_at_call 100; refine (CA.out _ hbW).mono ?_; rintro e' w1 ⟨rfl, rfl⟩
        go_wp2_with fail
        go_roundg 1
        case measure => omega
        case rel => exact ⟨1, rfl, by omega, by go_num, rfl⟩
      · obtain rfl : k = 1 := by omega
        go_wp2_with fail
        go_at_call 100; refine (CB.out _ hbW).mono ?_; rintro e' w1 ⟨rfl, rfl⟩
        go_wp2_with fail
        go_ret2
        exact ⟨rfl, hbW⟩
set_option maxHeartbeats 2000000 in
theorem gMul_fit (a b : Option Addr) (n ac m bc : Nat) (A B : List Rw) (w : World) (hA : Ms w a n ac A) (hB : Ms w b m bc B) (h1 : Mat.wrongM (rwData A) = 0) (h2 : Mat.wrongM (rwData B) = 0) (h3 : Mat.wid (rwData A) 0 ≠ m) :
    Calls Try.prog 101 #[.slice a n ac, .slice b m bc] w (fun e' w' => e' = .returned (.tuple #[.slice none 0 0, .int .i64 8]) ∧ Below w.heap.size w w') := by
  have CA := hid (fun W (h : Below w.heap.size w W) => h1 ▸ gWrong_call a n ac A W (hA.below h))
  have CB := hid (fun W (h : Below w.heap.size w W) => h2 ▸ gWrong_call b m bc B W (hB.below h))
  have hbW : Below w.heap.size w (w.alloc (.cells #[.slice a n ac, .slice b m bc] 156)) := (Below.refl _ _).alloc (Nat.le_refl _) _
  have c0 : (w.alloc (.cells #[.slice a n ac, .slice b m bc] 156)).cell? ⟨w.heap.size, 0, none⟩ = some (.slice a n ac) := by simp
  have c1 : (w.alloc (.cells #[.slice a n ac, .slice b m bc] 156)).cell? ⟨w.heap.size, 1, none⟩ = some (.slice b m bc) := by simp
  have hFA := Mat.wrong_fine h1
  have hn := hA.cnt
  have hn1 : 1 ≤ n := by have := hFA.n1; rw [rwData_length] at this; omega
  obtain ⟨ab, aoff, rfl, _⟩ := hA.sl.addr (by omega)
  have hA0 : 0 < A.length := by omega
  have q0 := ((hA.below hbW).at 0 hA0).1
  have hw0 := wid_row hA0
  have hl0 := Bt.n ((hA.below hbW).at 0 hA0).2
  clear h1 h2 hFA
  generalize A[0] = r0 at *
  obtain ⟨a0, n0, p0, l0⟩ := r0
  simp only [Nat.add_zero] at q0 hw0 hl0
  have h4 : n0 ≠ m := by rw [← hl0, ← hw0]; exact h3
  have t0 : ((n0 : Int) != (m : Int)) = true := by rw [bne_iff_ne]; omega
  have t1 : (n0 != m) = true := by rw [bne_iff_ne]; exact h4
  have hn := hid hn
  clear h3 h4 hw0 hl0
  go_enter Try.func101, Try.ntmps101
  go_wp2_with fail
  generalize (w.alloc (.cells #[.slice (some ⟨ab, aoff, none⟩) n ac, .slice b m bc] 156)) = W at *
  go_loopg [21] 2 (fun g i wr => ∃ k : Nat, g = 2 - k ∧ k ≤ 2 ∧ i = .int .i64 (k : Int) ∧ W = wr)
  case atStart => exact ⟨0, rfl, by omega, rfl, rfl⟩
  case round =>
    obtain ⟨k, rfl, hk, rfl, rfl⟩ := hrel
    rcases Nat.lt_or_ge k 2 with hk2 | hk2
    · rcases Nat.eq_zero_or_pos k with h0 | h0
      · subst h0
        go_wp2_with fail
        go_at_call 100; refine (CA.out _ hbW).mono ?_; rintro e' w1 ⟨rfl, rfl⟩
        go_wp2_with fail
        go_roundg 1
        case measure => omega
        case rel => exact ⟨1, rfl, by omega, by go_num, rfl⟩
      · obtain rfl : k = 1 := by omega
        go_wp2_with fail
        go_at_call 100; refine (CB.out _ hbW).mono ?_; rintro e' w1 ⟨rfl, rfl⟩
        go_wp2_with fail
        go_roundg 0
        case measure => omega
        case rel => exact ⟨2, rfl, by omega, by go_num, rfl⟩
    · obtain rfl : k = 2 := by omega
      go_wp2_with fail
      go_ret2
      exact ⟨rfl, hbW⟩
theorem Mo.mono {w : World} {base base' G n cap : Nat} {R : List Wr} (h : Mo w base G n cap R) (hb : base' ≤ base) : Mo w base' G n cap R := ⟨h.le, own_mono h.own hb, fun r hr => own_mono (h.row r hr) hb, h.nodup⟩
theorem Mo.tab_ne {w : World} {base G n cap t : Nat} {R : List Wr} (h : Mo w base G n cap R) (ht : Tab w t) : t ≠ G := ht.ne h.own (by decide)
theorem Mo.tab_rne {w : World} {base G n cap t : Nat} {R : List Wr} (h : Mo w base G n cap R) (ht : Tab w t) {r : Wr} (hr : r ∈ R) : t ≠ r.g := ht.ne (h.row r hr) (by decide)
theorem mulTo_succ (k : Nat) (A B : List (List UInt8)) (i j : Nat) : mulTo (k + 1) A B i j = Mat.gadd (mulTo k A B i j) (Mat.gmul (Mat.ent A i k) (Mat.ent B k j)) := rfl
/-- every row's header, in every world behind -/
theorem Ms.heads {w : World} {b off n cap m : Nat} {R : List Rw} (h : Ms w (some ⟨b, off, Option.none⟩) n cap R) (hc : ∀ r ∈ rwData R, r.length = m) : ∀ i (hi : i < R.length), ∃ ra rc, Bt w ra m rc R[i].l ∧ ∀ W, Below w.heap.size w W → W.cell? ⟨b, off + i, Option.none⟩ = some (.slice ra m rc) := fun i hi => by
  have h2 := (h.at i hi).2
  have h3 : R[i].n = m := (Bt.n h2).symm.trans (hc _ (List.mem_map.2 ⟨_, List.getElem_mem hi, rfl⟩))
  rw [h3] at h2
  refine ⟨_, _, h2, fun W hW => ?_⟩
  have h1 := ((h.below hW).at i hi).1
  rw [h3] at h1
  exact h1
/-- the rows R are the first ones of a matrix -/
def RowsAre (q : Nat) (f : Mat.M) (R : List Wr) : Prop := ∀ i (hi : i < R.length), R[i].l.length = q ∧ ∀ j, j < q → R[i].l.getD j 0 = f i j
theorem RowsAre.nil (q : Nat) (f : Mat.M) : RowsAre q f [] := fun i hi => absurd hi (by simp)
theorem RowsAre.snoc {q : Nat} {f : Mat.M} {R : List Wr} (h : RowsAre q f R) {r : Wr} {k : Nat} (hk : R.length = k) (h1 : r.l.length = q) (h2 : ∀ j, j < q → r.l.getD j 0 = f k j) : RowsAre q f (R ++ [r]) := fun i hi => by
  by_cases e : i < R.length
  · rw [List.getElem_append_left e]; exact h i e
  · have hi' : i < R.length + 1 := by simpa using hi
    have e2 : i = R.length := by omega
    subst e2
    rw [last_get R r hi, hk]
    exact ⟨h1, h2⟩
theorem RowsAre.rep {q n : Nat} {f : Mat.M} {R : List Wr} (h : RowsAre q f R) (hn : R.length = n) : Mat.Rep (wrData R) n q f := rep_of_rows (by simpa [wrData] using hn) fun i hi => by
  have hi' : i < R.length := by simpa [wrData] using hi
  rw [wrData_get hi]
  exact h i hi'
set_option maxRecDepth 100000 in
set_option maxHeartbeats 4000000 in
theorem gMul_ok (a b : Option Addr) (n ac m bc q : Nat) (A B : List Rw) (w : World) (hA : Ms w a n ac A) (hB : Ms w b m bc B) (hFA : Mat.Fine (rwData A) n m) (hFB : Mat.Fine (rwData B) m q) :
    Calls Try.prog 101 #[.slice a n ac, .slice b m bc] w (MoRes (fun L => Mat.Rep L n q (Mat.mul m (Mat.ent (rwData A)) (Mat.ent (rwData B)))) n w) := by
  have CA := hid (fun W (h : Below w.heap.size w W) => hFA.wrong ▸ gWrong_call a n ac A W (hA.below h))
  have CB := hid (fun W (h : Below w.heap.size w W) => hFB.wrong ▸ gWrong_call b m bc B W (hB.below h))
  have hbW : Below w.heap.size w (w.alloc (.cells #[.slice a n ac, .slice b m bc] 156)) := (Below.refl _ _).alloc (Nat.le_refl _) _
  have c0 : (w.alloc (.cells #[.slice a n ac, .slice b m bc] 156)).cell? ⟨w.heap.size, 0, none⟩ = some (.slice a n ac) := by simp
  have c1 : (w.alloc (.cells #[.slice a n ac, .slice b m bc] 156)).cell? ⟨w.heap.size, 1, none⟩ = some (.slice b m bc) := by simp
  have HA := hid hA.cnt
  have HB := hid hB.cnt
  have hn1 := hFA.n1; have hn2 := hFA.n2; have hm1 := hFB.n1; have hm2 := hFB.n2; have hq1 := hFB.m1; have hq2 := hFB.m2
  obtain ⟨ab, aoff, rfl, _⟩ := hA.sl.addr (by omega)
  obtain ⟨bb, boff, rfl, _⟩ := hB.sl.addr (by omega)
  have hA0 : 0 < A.length := by rw [HA.out]; omega
  have hB0 : 0 < B.length := by rw [HB.out]; omega
  -- every row's header, in every world behind
  have XA := hid (hA.heads hFA.cols)
  have XB := hid (hB.heads hFB.cols)
  clear hFA hFB hA hB
  go_enter Try.func101, Try.ntmps101
  go_wp2_with fail
  generalize (w.alloc (.cells #[.slice (some ⟨ab, aoff, none⟩) n ac, .slice (some ⟨bb, boff, none⟩) m bc] 156)) = W at *
  go_loopg [21] 2 (fun g i wr => ∃ k : Nat, g = 2 - k ∧ k ≤ 2 ∧ i = .int .i64 (k : Int) ∧ W = wr)
  case atStart => exact ⟨0, rfl, by omega, rfl, rfl⟩
  case round =>
    obtain ⟨k, rfl, hk, rfl, rfl⟩ := hrel
    rcases Nat.lt_or_ge k 2 with hk2 | hk2
    · rcases Nat.eq_zero_or_pos k with h0 | h0
      · subst h0
        go_wp2_with fail
        go_at_call 100; refine (CA.out _ hbW).mono ?_; rintro e' w1 ⟨rfl, rfl⟩
        go_wp2_with fail
        go_roundg 1
        case measure => omega
        case rel => exact ⟨1, rfl, by omega, by go_num, rfl⟩
      · obtain rfl : k = 1 := by omega
        go_wp2_with fail
        go_at_call 100; refine (CB.out _ hbW).mono ?_; rintro e' w1 ⟨rfl, rfl⟩
        go_wp2_with fail
        go_roundg 0
        case measure => omega
        case rel => exact ⟨2, rfl, by omega, by go_num, rfl⟩
    · obtain rfl : k = 2 := by omega
      obtain ⟨ra0, rc0, _, q0⟩ := XA.out 0 hA0
      have q0 := q0 W hbW
      simp only [Nat.add_zero] at q0
      clear c0 c1 CA CB
      go_wp2_with fail
      go_at_call 111; refine (Make_call _).mono ?_; rintro e w2 ⟨⟨rfl, hb2⟩, ht2, -⟩
      have hb02 := hbW.trans (hb2.mono hbW.size)
      have hz2 := hb02.size
      go_wp2_with (refine wpList_make_mat rfl (.tmp 40) (.tmp 40) 156 und_Matrix rfl n rfl rfl (by omega) ?_; intro w3 M3 b3 z3)
      have hb03 := bnext hb02 b3
      have ht3 := ht2.below b3
      replace M3 := M3.mono hz2
      obtain ⟨t, ht⟩ : ∃ t, W.heap.size = t := ⟨_, rfl⟩
      rw [ht] at ht3 ⊢
      obtain ⟨G, hG⟩ : ∃ G, w2.heap.size = G := ⟨_, rfl⟩
      rw [hG] at M3 ⊢
      clear ht2 hb2 b3 z3 hb02 q0 ht hG hz2
      go_loopg [44] n (fun g i wr => ∃ (k : Nat) (R : List Wr), g = n - k ∧ k ≤ n ∧ i = .int .i64 (k : Int) ∧ Hid (R.length = k) ∧ Mo wr w.heap.size G n n R ∧ Tab wr t ∧ Below w.heap.size w wr ∧ Hid (RowsAre q (mulTo m (rwData A) (rwData B)) R))
      case atStart => exact ⟨0, [], rfl, by omega, rfl, hid rfl, M3, ht3, hb03, hid (RowsAre.nil _ _)⟩
      case round =>
        clear M3 ht3 hb03
        obtain ⟨k, R, rfl, hk, rfl, HK, hM, htb, hbr, HR⟩ := hrel
        obtain ⟨wo, rfl⟩ : ∃ wo : World, wo = wr := ⟨_, rfl⟩
        have hszo := hbr.size
        by_cases hlt : k < n
        · have hkA : k < A.length := by rw [HA.out]; exact hlt
          obtain ⟨ra, rc, hra, e0⟩ := XA.out k hkA
          have e0 := e0 wo hbr
          obtain ⟨rb, rbc, _, e1⟩ := XB.out 0 hB0
          have e1 := e1 wo hbr
          simp only [Nat.add_zero] at e1
          obtain ⟨pa, poff, rfl, _⟩ := hra.addr (by omega)
          have M2 := hid (fun w' (h : Below wo.heap.size wo w') => hM.below h)
          go_wp2_with (refine wpList_make_bytes rfl (.tmp 54) (.tmp 54) rfl q rfl rfl (by omega) ?_; intro w4 o4 b4 z4; have k0 : w4.cell? ⟨G, k, none⟩ = some (.slice none 0 0) := (M2.out w4 b4).atNil k (by rw [HK.out]; exact Nat.le_refl _) hlt; have k1 : w4.frozen? ⟨G, k, none⟩ = false := (M2.out w4 b4).free k)
          have P1 := (M2.out w4 b4).push (by rw [HK.out]; exact hlt) ⟨wo.heap.size, q, List.replicate q 0⟩ (by simpa [Wr.v] using own_mono o4 hszo) (fun r hr e => by have := (hM.rlt hr).2; simp at e; omega)
          rw [HK.out] at P1
          have hlq : (List.replicate q (0 : UInt8)).length = q := by simp
          unfold Wr.v at P1
          simp only [hlq] at P1
          have hb5 : Below w.heap.size w (w4.setCell ⟨G, k, none⟩ (.slice (some ⟨wo.heap.size, 0, none⟩) q q)) := (bnext hbr b4).setCell hM.lt.1 _
          have ht5 : Tab (w4.setCell ⟨G, k, none⟩ (.slice (some ⟨wo.heap.size, 0, none⟩) q q)) t := (htb.below b4).only ((Only.refl w4 [G]).setCell (.inl (by simp)) _) (by simpa using hM.tab_ne htb)
          obtain ⟨g1, hg1⟩ : ∃ g1, wo.heap.size = g1 := ⟨_, rfl⟩
          have hg1w : w.heap.size ≤ g1 := by omega
          rw [hg1] at P1 hb5 ht5 ⊢
          generalize w4.setCell ⟨G, k, none⟩ (.slice (some ⟨g1, 0, none⟩) q q) = w5 at *
          clear M2 hM htb hg1 e0 e1 b4 z4 o4 k0 k1 hszo
          go_loopg [59] m (fun g i wr => ∃ (kk : Nat) (l : List UInt8), g = m - kk ∧ kk ≤ m ∧ i = .int .i64 (kk : Int) ∧ Hid (l.length = q) ∧ Mo wr w.heap.size G n n (R ++ [⟨g1, q, l⟩]) ∧ Tab wr t ∧ Below w.heap.size w wr ∧ Hid (∀ j, j < q → l.getD j 0 = mulTo kk (rwData A) (rwData B) k j))
          case atStart => exact ⟨0, _, rfl, by omega, rfl, hid hlq, P1, ht5, hb5, hid (fun j hj => by simp [List.getD, hj, mulTo, Mat.sum])⟩
          case round =>
            clear P1 ht5 hb5
            obtain ⟨kk, l, rfl, hkk, rfl, HL, hM, htb, hbr3, HR3⟩ := hrel
            obtain ⟨wp, rfl⟩ : ∃ wp : World, wp = wr := ⟨_, rfl⟩
            by_cases hlt3 : kk < m
            · have hkB : kk < B.length := by rw [HB.out]; exact hlt3
              have hx := Bt.at (hra.below hbr3) kk hlt3
              obtain ⟨rb, rbc, hrb, e1⟩ := XB.out kk hkB
              have e1 := e1 wp hbr3
              obtain ⟨pb, pboff, rfl, _⟩ := hrb.addr (by omega)
              go_wp2_with fail
              clear hx e1
              go_loopg [69] q (fun g i wr => ∃ (jj : Nat) (l' : List UInt8), g = q - jj ∧ jj ≤ q ∧ i = .int .i64 (jj : Int) ∧ Hid (l'.length = q) ∧ Mo wr w.heap.size G n n (R ++ [⟨g1, q, l'⟩]) ∧ Tab wr t ∧ Below w.heap.size w wr ∧ Hid (∀ j, j < q → l'.getD j 0 = if j < jj then mulTo (kk + 1) (rwData A) (rwData B) k j else mulTo kk (rwData A) (rwData B) k j))
              case atStart => exact ⟨0, l, rfl, by omega, rfl, HL, hM, htb, hbr3, hid (fun j hj => by rw [if_neg (by omega)]; exact HR3.out j hj)⟩
              case round =>
                clear hM htb hbr3 HR3 HL
                obtain ⟨jj, l', rfl, hjj, rfl, HL', hM', htb', hbr4, HR4⟩ := hrel
                by_cases hlt4 : jj < q
                · have hy := Bt.at (hrb.below hbr4) jj hlt4
                  obtain ⟨m0, m1, m2⟩ := hM'.last
                  rw [HK.out, HL'.out] at m0
                  have m1 := m1 jj (by rw [HL'.out]; exact hlt4)
                  have m2 := m2 jj
                  have htne : t ≠ g1 := hM'.tab_rne htb' (r := ⟨g1, q, l'⟩) (by simp)
                  have h8 := at8_lt A[k].l kk
                  have h9 := at8_lt B[kk].l jj
                  have h7 := at8_lt l' jj
                  obtain ⟨y, hy0⟩ : ∃ y, y = Mat.gadd (l'.getD jj 0) (Mat.gmul (A[k].l.getD kk 0) (B[kk].l.getD jj 0)) := ⟨_, rfl⟩
                  have e8 : y.toNat = at8 l' jj ^^^ Fld.mul (at8 A[k].l kk) (at8 B[kk].l jj) := by rw [hy0, Mat.toNat_add, Mat.toNat_mul]; rfl
                  have hs := hid (fun s => (hM'.drewN s).setLast jj _ _ e8)
                  have D := hid (fun s => TMul_call t (at8 A[k].l kk) (at8 B[kk].l jj) h8 h9 (wr.drewN s) (htb'.drewN s))
                  have htc := hid (fun s v => (htb'.drewN s).only ((Only.refl (wr.drewN s) [g1]).setCell (a := ⟨g1, jj, none⟩) (.inl (by simp)) v) (by simpa using htne))
                  have hbc := hid (fun s v => (below_drewN hbr4 s).setCell (p := ⟨g1, jj, none⟩) hg1w v)
                  have hxx := u8_xor_nat (at8 l' jj) (Fld.mul (at8 A[k].l kk) (at8 B[kk].l jj)) h7 (Fld.mul_lt _ _)
                  have HY := hid hy0
                  clear e8 hy0
                  have i0 : (0 : Int) ≤ (k : Int) := Int.natCast_nonneg _
                  have i1 : (k : Int) < (n : Int) := by omega
                  have i2 : (0 : Int) ≤ (jj : Int) := Int.natCast_nonneg _
                  have i3 : (jj : Int) < (q : Int) := by omega
                  generalize at8 A[k].l kk = xa at *
                  generalize at8 B[kk].l jj = xb at *
                  generalize at8 l' jj = xl at *
                  generalize Fld.mul xa xb = v at *
                  generalize xl ^^^ v = z at *
                  go_wp2_with fail
                  go_region_law (first | (go_simp; go_at_call 112; refine (D.out _).mono ?_; rintro e w6 ⟨rfl, j1, rfl⟩))
                  all_goals go_wp2_with fail
                  all_goals
                    go_roundg (q - (jj + 1))
                    case measure => omega
                    case rel =>
                      refine ⟨jj + 1, l'.set jj y, rfl, by omega, by go_num, hid (by rw [List.length_set]; exact HL'.out), hs.out _, htc.out _ _, hbc.out _ _, hid (fun j hj => ?_)⟩
                      rw [getD_set (by rw [HL'.out]; exact hlt4)]
                      by_cases e : j = jj
                      · subst e
                        have := HR4.out j hj
                        rw [if_neg (by omega)] at this
                        rw [if_pos rfl, if_pos (by omega), HY.out, this, mulTo_succ, ent_rw hkA, ent_rw hkB]
                      · rw [if_neg e, HR4.out j hj]
                        by_cases e2 : j < jj
                        · rw [if_pos e2, if_pos (by omega)]
                        · rw [if_neg e2, if_neg (by omega)]
                · obtain rfl : jj = q := by omega
                  go_wp2_with fail
                  go_roundg (m - (kk + 1))
                  case measure => omega
                  case rel => exact ⟨kk + 1, l', rfl, by omega, by go_num, HL', hM', htb', hbr4, hid (fun j hj => by have := HR4.out j hj; rwa [if_pos hj] at this)⟩
            · obtain rfl : kk = m := by omega
              go_wp2_with fail
              go_roundg (n - (k + 1))
              case measure => omega
              case rel => exact ⟨k + 1, R ++ [⟨g1, q, l⟩], rfl, by omega, by go_num, hid (by simp; exact HK.out), hM, htb, hbr3, hid (HR.out.snoc HK.out HL.out HR3.out)⟩
        · obtain rfl : k = n := by omega
          go_wp2_with fail
          go_ret2
          exact ⟨G, R, rfl, HK.out, hM, HR.out.rep HK.out, hbr⟩
end Go.Proofs.Ythhcdfjijagalaa
namespace Go.Proofs.Ythhcdfjijagalaa
open Go.RowKit
set_option linter.unusedVariables false
def NilB (err : Int) (w : World) (e : Ending) (w' : World) : Prop := e = .returned (.tuple #[.slice none 0 0, .int .i64 err]) ∧ Below w.heap.size w w'
theorem NilB.res {P : List (List UInt8) → Int → Prop} {w : World} {e : Ending} {w' : World} {err : Int} (h : NilB err w e w') (hP : P [] err) : MRes P w e w' := by
  obtain ⟨rfl, hb⟩ := h
  exact ⟨_, _, _, [], err, rfl, Ms.nil _, hP, hb⟩
/-- the cases of a product -/
theorem mul_cases {A B : List (List UInt8)} {P : Prop} (h1 : Mat.wrongM A ≠ 0 → P) (h2 : Mat.wrongM A = 0 → Mat.wrongM B ≠ 0 → P) (h3 : Mat.wrongM A = 0 → Mat.wrongM B = 0 → Mat.wid A 0 ≠ B.length → P)
    (h4 : ∀ n m q, A.length = n → B.length = m → Mat.Fine A n m → Mat.Fine B m q → P) : P := by
  by_cases e1 : Mat.wrongM A = 0
  · by_cases e2 : Mat.wrongM B = 0
    · by_cases e3 : Mat.wid A 0 = B.length
      · exact h4 _ _ _ rfl rfl (e3 ▸ Mat.wrong_fine e1) (Mat.wrong_fine e2)
      · exact h3 e1 e2 e3
    · exact h2 e1 e2
  · exact h1 e1
theorem mulR_1 {A B : List (List UInt8)} (h : Mat.wrongM A ≠ 0) : Mat.MulR A B [] (Mat.wrongM A) := by unfold Mat.MulR; rw [if_pos h]; exact ⟨rfl, rfl⟩
theorem mulR_2 {A B : List (List UInt8)} (h : Mat.wrongM A = 0) (h2 : Mat.wrongM B ≠ 0) : Mat.MulR A B [] (Mat.wrongM B) := by unfold Mat.MulR; rw [if_neg (fun e => e h), if_pos h2]; exact ⟨rfl, rfl⟩
theorem mulR_3 {A B : List (List UInt8)} (h : Mat.wrongM A = 0) (h2 : Mat.wrongM B = 0) (h3 : Mat.wid A 0 ≠ B.length) : Mat.MulR A B [] 8 := by unfold Mat.MulR; rw [if_neg (fun e => e h), if_neg (fun e => e h2), if_pos h3]; exact ⟨rfl, rfl⟩
theorem mulR_4 {A B : List (List UInt8)} {n m q : Nat} (hA : Mat.Fine A n m) (hB : Mat.Fine B m q) {L : List (List UInt8)} (h : Mat.Rep L n q (Mat.mul m (Mat.ent A) (Mat.ent B))) : Mat.MulR A B L 0 := by
  unfold Mat.MulR
  rw [if_neg (fun e => e hA.wrong), if_neg (fun e => e hB.wrong), if_neg (by rw [hA.wid0, hB.rows]; exact fun e => e rfl), hA.rows, hB.rows, hB.wid0]
  exact ⟨h, rfl⟩
theorem gMul_call (a b : Option Addr) (n ac m bc : Nat) (A B : List Rw) (w : World) (hA : Ms w a n ac A) (hB : Ms w b m bc B) : Calls Try.prog 101 #[.slice a n ac, .slice b m bc] w (MRes (Mat.MulR (rwData A) (rwData B)) w) := by
  refine mul_cases (A := rwData A) (B := rwData B) (fun h => ?_) (fun h h2 => ?_) (fun h h2 h3 => ?_) (fun n' m' q e1 e2 hFA hFB => ?_)
  · exact (gMul_wrong a b n ac m bc A B w hA hB _ h 0 (.inl ⟨rfl, rfl⟩)).mono fun e w' hh => NilB.res hh (mulR_1 h)
  · exact (gMul_wrong a b n ac m bc A B w hA hB _ h2 1 (.inr ⟨rfl, h, rfl⟩)).mono fun e w' hh => NilB.res hh (mulR_2 h h2)
  · exact (gMul_fit a b n ac m bc A B w hA hB h h2 (by rw [hB.dn] at h3; exact h3)).mono fun e w' hh => NilB.res hh (mulR_3 h h2 h3)
  · obtain rfl : n' = n := e1.symm.trans hA.dn
    obtain rfl : m' = m := e2.symm.trans hB.dn
    exact (gMul_ok a b n' ac m' bc q A B w hA hB hFA hFB).mono fun e w' hh => hh.res fun L hL => mulR_4 hFA hFB hL
end Go.Proofs.Ythhcdfjijagalaa
namespace Go.Proofs.Ythhcdfjijagalaa.Mat
set_option linter.unusedVariables false
theorem Step.congr {n : Nat} {a work out work' out' : M} {P P' : Nat → Prop} (h : Step n a work out P) (hw : ∀ i j, i < n → j < n → work' i j = work i j) (ho : ∀ i j, i < n → j < n → out' i j = out i j) (hP : ∀ j, P' j → P j ∧ j < n) : Step n a work' out' P' := by
  refine ⟨fun i j hi hj => ?_, fun x hx => h.inj x fun i hi => ?_, fun i j hi hj => ?_⟩
  · rw [hw i j hi hj, ← h.eq i j hi hj]
    exact sum_congr fun k hk => by rw [ho i k hi hk]
  · rw [← hx i hi]
    exact app_congr (fun k hk => (ho i k hi hk).symm) (fun _ _ => rfl)
  · rw [hw i j hi (hP j hj).2]
    exact h.cols i j hi (hP j hj).1
theorem ent_set {L : List (List UInt8)} {i : Nat} (hi : i < L.length) (r : List UInt8) (a j : Nat) : ent (L.set i r) a j = if a = i then r.getD j 0 else ent L a j := by
  unfold ent
  by_cases e : a = i
  · subst e; simp [List.getD, hi]
  · rw [if_neg e]; simp [List.getD, List.getElem?_set_ne (Ne.symm e)]
theorem ent_at {L : List (List UInt8)} {i : Nat} (hi : i < L.length) (j : Nat) : ent L i j = L[i].getD j 0 := by
  unfold ent; simp [List.getD, hi]
theorem ent_swap {L : List (List UInt8)} {c k : Nat} (hc : c < L.length) (hk : k < L.length) (i j : Nat) : ent ((L.set c L[k]).set k L[c]) i j = swapM c k (ent L) i j := by
  rw [ent_set (by simpa using hk), ent_set hc]
  unfold swapM
  rw [ent_at hc, ent_at hk]
  by_cases e1 : i = k
  · subst e1
    rw [if_pos rfl]
    by_cases e2 : i = c
    · subst e2; rw [if_pos rfl]
    · rw [if_neg e2, if_pos rfl]
  · rw [if_neg e1]
    by_cases e2 : i = c
    · rw [if_pos e2, if_pos e2]
    · rw [if_neg e2, if_neg e2, if_neg e1]
theorem ent_scale {L : List (List UInt8)} {n c : Nat} {x : UInt8} (hc : c < L.length) {r : List UInt8} (hr : ∀ j, j < n → r.getD j 0 = gmul (L[c].getD j 0) x) (i j : Nat) (hj : j < n) : ent (L.set c r) i j = scaleM c x (ent L) i j := by
  rw [ent_set hc]
  unfold scaleM
  by_cases e : i = c
  · rw [if_pos e, if_pos e, hr j hj, ent_at hc]
  · rw [if_neg e, if_neg e]
/-- the rows ahead of i are done -/
def elimTo (c : Nat) (y : Nat → UInt8) (i : Nat) (a : M) : M := fun r j => if r < i then elimM c y a r j else a r j
theorem elimTo_zero (c : Nat) (y : Nat → UInt8) (a : M) (r j : Nat) : elimTo c y 0 a r j = a r j := by unfold elimTo; rw [if_neg (by omega)]
theorem elimTo_all {c n : Nat} {y : Nat → UInt8} {a : M} {r j : Nat} (h : r < n) : elimTo c y n a r j = elimM c y a r j := by unfold elimTo; rw [if_pos h]
/-- a row that stays -/
theorem elimTo_stay {c i : Nat} {y : Nat → UInt8} {a : M} (h : i = c ∨ y i = 0) (r j : Nat) : elimTo c y (i + 1) a r j = elimTo c y i a r j := by
  unfold elimTo
  by_cases e : r = i
  · subst e
    rw [if_pos (by omega), if_neg (by omega)]
    unfold elimM
    rcases h with h | h
    · rw [if_pos h, h]
    · split
      · rename_i e; rw [e]
      · rw [h, mul_zero, add_zero]
  · by_cases e2 : r < i
    · rw [if_pos e2, if_pos (by omega)]
    · rw [if_neg e2, if_neg (by omega)]
/-- a row that turns -/
theorem ent_elim {L : List (List UInt8)} {n c i : Nat} {y : Nat → UInt8} {a : M} (hi : i < L.length) (hL : ∀ r j, r < n → j < n → ent L r j = elimTo c y i a r j) (hin : i < n) (hcn : c < n) (hic : i ≠ c) {m : List UInt8}
    (hm : ∀ j, j < n → m.getD j 0 = gadd (L[i].getD j 0) (gmul (ent L c j) (y i))) (r j : Nat) (hr : r < n) (hj : j < n) : ent (L.set i m) r j = elimTo c y (i + 1) a r j := by
  have hc : ent L c j = a c j := by
    rw [hL c j hcn hj]
    unfold elimTo elimM
    split
    · rw [if_pos rfl]
    · rfl
  rw [ent_set hi]
  by_cases e : r = i
  · subst e
    rw [if_pos rfl, hm j hj, hc, ← ent_at hi, hL r j hr hj]
    unfold elimTo
    rw [if_neg (by omega), if_pos (by omega)]
    unfold elimM
    rw [if_neg hic]
  · rw [if_neg e, hL r j hr hj]
    unfold elimTo
    by_cases e2 : r < i
    · rw [if_pos e2, if_pos (by omega)]
    · rw [if_neg e2, if_neg (by omega)]
theorem scale_one {c : Nat} {a : M} (h : a c c ≠ 0) : scaleM c (ginv (a c c)) a c c = 1 := by
  unfold scaleM; rw [if_pos rfl]; exact mul_inv h
end Go.Proofs.Ythhcdfjijagalaa.Mat
