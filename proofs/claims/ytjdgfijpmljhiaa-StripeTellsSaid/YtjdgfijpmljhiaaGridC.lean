/- Contracts: scale, add; One, the program's and the reference's. -/
import Derived.Test.YtjdgfijpmljhiaaGridB
import Derived.Test.YtjdgfijpmljhiaaField
namespace Go.Proofs.Ytjdgfijpmljhiaa
open Go.RowKit
set_option linter.unusedVariables false
theorem Tab.lt {w : World} {b : Nat} (h : Tab w b) : b < w.heap.size := World.block_lt_of_cell? _ _ (h.pow 0 (by omega))
theorem Tab.only {w w' : World} {b : Nat} {S : List Nat} (h : Tab w b) (hO : Only w w' S) (hS : b ∉ S) : Tab w' b := World.rowIs.of_block h (hO.block b h.lt hS)
theorem Tab.below {w w' : World} {b : Nat} (h : Tab w b) (hb : Below w.heap.size w w') : Tab w' b := h.only ((Only.refl w []).below hb) (by simp)
theorem Tab.ne {w : World} {b g base n cap : Nat} {xs : List Value} {t : TypeId} (h : Tab w b) (ho : w.ownsRow base t 1 (.slice (some ⟨g, 0, none⟩) n cap) n xs) (hne : 114 ≠ t) : b ≠ g := by
  obtain ⟨c, hc, _⟩ := h
  obtain ⟨cur, hg, _⟩ := own_row ho
  exact heap_ne hc hg hne
theorem Only.drewN {w0 w : World} {S : List Nat} (h : Only w0 w S) (j : Nat) : Only w0 (w.drewN j) S := ⟨h.os, h.tape, h.output, h.size, h.block⟩
theorem own_drewN {w : World} {base : Nat} {e : TypeId} {sz : Nat} {v : Value} {n : Nat} {xs : List Value} (h : w.ownsRow base e sz v n xs) (j : Nat) : (w.drewN j).ownsRow base e sz v n xs := h
theorem gmul_at (m : List UInt8) (k : Nat) (x : UInt8) : (Mat.gmul (m.getD k 0) x).toNat = Fld.mul (at8 m k) x.toNat := Mat.toNat_mul _ _

set_option maxHeartbeats 1000000 in
theorem gscale_call (t base g n cap : Nat) (l : List UInt8) (x : UInt8) (w : World) (ht : Tab w t) (h : w.ownsRow base 5 1 (.slice (some ⟨g, 0, none⟩) n cap) n (cb l)) (hn : n ≤ 65536) :
    Calls Try.prog 82 #[.pointer (some ⟨t, 0, none⟩), .slice (some ⟨g, 0, none⟩) n cap, .int .u8 (x.toNat : Int)] w (RowRes base g n cap (fun j => Mat.gmul (l.getD j 0) x) w) := by
  have htg := ht.ne h (by decide)
  have hx := Mat.lt x
  go_enter Try.func82, Try.ntmps82
  go_wp2_with fail
  go_loopg [6, 9] n (fun g' s6 i wr => ∃ (k : Nat) (m : List UInt8), g' = n - k ∧ k ≤ n ∧ i = .int .i64 (k : Int) ∧ wr.ownsRow base 5 1 (.slice (some ⟨g, 0, none⟩) n cap) n (cb m) ∧ (∀ j, j < n → m.getD j 0 = if j < k then Mat.gmul (l.getD j 0) x else l.getD j 0) ∧ Only w wr [g])
  case atStart => exact ⟨0, l, rfl, by omega, rfl, h, fun j _ => by simp, Only.refl _ _⟩
  case round =>
    obtain ⟨k, m, rfl, hk, rfl, ho, hm, hO⟩ := hrel
    have HM := hid hm
    clear hm
    have htr := ht.only hO (by simpa using htg)
    by_cases hlt : k < n
    · have c0 := byte_at ho k hlt
      have f0 := byte_free ho k
      have h8 := at8_lt m k
      have hs := byte_set ho k _ _ (gmul_at m k x)
      have hO2 := hO.setCell (a := ⟨g, k, none⟩) (.inl (by simp)) (.int .u8 ((Fld.mul (at8 m k) x.toNat : Nat) : Int))
      have HML := hid (byte_len ho)
      have D := hid (TMul_call t (at8 m k) x.toNat h8 hx wr htr)
      generalize at8 m k = c at *
      generalize Fld.mul c x.toNat = v at *
      have hs := hid hs
      have hO2 := hid hO2
      go_wp2_with fail
      go_at_call 76; refine (D.out).mono ?_; rintro e w1 ⟨rfl, j1, rfl⟩
      go_wp2_with fail
      go_roundg (n - (k + 1))
      case measure => omega
      case rel =>
        refine ⟨k + 1, _, rfl, by omega, by go_num, own_drewN hs.out j1, fun j hj => ?_, hO2.out.drewN j1⟩
        rw [getD_set (by rw [HML.out]; exact hlt)]
        by_cases e : j = k
        · subst e
          rw [if_pos rfl, if_pos (by omega), HM.out j hj, if_neg (by omega)]
        · rw [if_neg e, HM.out j hj]
          by_cases e2 : j < k
          · rw [if_pos e2, if_pos (by omega)]
          · rw [if_neg e2, if_neg (by omega)]
    · obtain rfl : k = n := by omega
      go_wp2_with fail
      go_end0
      exact ⟨rfl, m, ho, fun j hj => by rw [HM.out j hj, if_pos hj], hO⟩

set_option maxHeartbeats 1000000 in
theorem gadd_call (t base g n cap base' g' cap' : Nat) (l l' : List UInt8) (x : UInt8) (w : World) (ht : Tab w t) (h : w.ownsRow base 5 1 (.slice (some ⟨g, 0, none⟩) n cap) n (cb l))
    (h' : w.ownsRow base' 5 1 (.slice (some ⟨g', 0, none⟩) n cap') n (cb l')) (hne : g' ≠ g) (hn : n ≤ 65536) :
    Calls Try.prog 83 #[.pointer (some ⟨t, 0, none⟩), .slice (some ⟨g, 0, none⟩) n cap, .slice (some ⟨g', 0, none⟩) n cap', .int .u8 (x.toNat : Int)] w (RowRes base g n cap (fun j => Mat.gadd (l.getD j 0) (Mat.gmul (l'.getD j 0) x)) w) := by
  have htg := ht.ne h (by decide)
  have hx := Mat.lt x
  go_enter Try.func83, Try.ntmps83
  go_wp2_with fail
  go_loopg [8, 11] n (fun gg s8 i wr => ∃ (k : Nat) (m : List UInt8), gg = n - k ∧ k ≤ n ∧ i = .int .i64 (k : Int) ∧ wr.ownsRow base 5 1 (.slice (some ⟨g, 0, none⟩) n cap) n (cb m) ∧ (∀ j, j < n → m.getD j 0 = if j < k then Mat.gadd (l.getD j 0) (Mat.gmul (l'.getD j 0) x) else l.getD j 0) ∧ Only w wr [g])
  case atStart => exact ⟨0, l, rfl, by omega, rfl, h, fun j _ => by simp, Only.refl _ _⟩
  case round =>
    obtain ⟨k, m, rfl, hk, rfl, ho, hm, hO⟩ := hrel
    have HM := hid hm
    clear hm
    have htr := ht.only hO (by simpa using htg)
    have ho' := hO.own h' (fun y hy e => by cases e; exact hne (by simpa using hy))
    by_cases hlt : k < n
    · have c0 := byte_at ho k hlt
      have c1 := byte_at ho' k hlt
      have f0 := byte_free ho k
      have h8 := at8_lt m k
      have h9 := at8_lt l' k
      have e8 : (Mat.gadd (m.getD k 0) (Mat.gmul (l'.getD k 0) x)).toNat = at8 m k ^^^ Fld.mul (at8 l' k) x.toNat := by rw [Mat.toNat_add, gmul_at]; rfl
      have hs := fun q => byte_set (own_drewN ho q) k _ _ e8
      have hO2 := fun q => (hO.drewN q).setCell (a := ⟨g, k, none⟩) (.inl (by simp)) (.int .u8 ((at8 m k ^^^ Fld.mul (at8 l' k) x.toNat : Nat) : Int))
      have HML := hid (byte_len ho)
      have D := hid (fun q => TMul_call t (at8 l' k) x.toNat h9 hx (wr.drewN q) (htr.drewN q))
      have hv := Fld.mul_lt (at8 l' k) x.toNat
      have hxx := u8_xor_nat (at8 m k) (Fld.mul (at8 l' k) x.toNat) h8 hv
      have i0 : (0 : Int) ≤ (k : Int) := Int.natCast_nonneg _
      have i1 : (k : Int) < (n : Int) := by omega
      clear e8
      generalize at8 m k = c at *
      generalize at8 l' k = c' at *
      generalize Fld.mul c' x.toNat = v at *
      generalize c ^^^ v = y at *
      have hs := hid hs
      have hO2 := hid hO2
      go_wp2_with fail
      go_region_law (first | (go_simp; go_at_call 76; refine (D.out _).mono ?_; rintro e w1 ⟨rfl, j1, rfl⟩))
      all_goals go_wp2_with fail
      all_goals
        go_roundg (n - (k + 1))
        case measure => omega
        case rel =>
          refine ⟨k + 1, _, rfl, by omega, by go_num, hs.out _, fun j hj => ?_, hO2.out _⟩
          rw [getD_set (by rw [HML.out]; exact hlt)]
          by_cases e : j = k
          · subst e
            rw [if_pos rfl, if_pos (by omega), HM.out j hj, if_neg (by omega)]
          · rw [if_neg e, HM.out j hj]
            by_cases e2 : j < k
            · rw [if_pos e2, if_pos (by omega)]
            · rw [if_neg e2, if_neg (by omega)]
    · obtain rfl : k = n := by omega
      go_wp2_with fail
      go_end0
      exact ⟨rfl, m, ho, fun j hj => by rw [HM.out j hj, if_pos hj], hO⟩

end Go.Proofs.Ytjdgfijpmljhiaa
