/- StripeU, StripeW: joined. -/
import Derived.Test.YtjdgfijpmljhiaaStripeT
import Derived.Test.YtjdgfijpmljhiaaStripeS
import Derived.Test.YtjdgfijpmljhiaaStripeM
import Derived.Test.YtjdgfijpmljhiaaStripeB
import Derived.Test.YtjdgfijpmljhiaaCoT
/- Contract of chapter 6: the reference's Mend. -/
namespace Go.Proofs.Ytjdgfijpmljhiaa
open Go.RowKit
set_option linter.unusedVariables false
set_option maxRecDepth 100000

set_option maxHeartbeats 400000 in
theorem rMendS_call (a : Option Addr) (n cap : Nat) (L : List Rw) (g d : Int) (w : World) (hL : Ms w a n cap L) (hd : -9223372036854775808 ≤ d ∧ d ≤ 9223372036854775807) :
    Calls Try.prog 35 #[.slice a n cap, .int .i64 g, .int .i64 d] w (MRes (Stp.MendS (rwData L) g d) w) := by
  have DR := hid (rRead_call a n cap L g d w hL hd)
  have HD := hid hL.dn
  replace hd := hid hd
  go_enter Try.func35, Try.ntmps35
  go_wp2_with fail
  go_at_call 33; refine (DR.out).mono ?_; rintro e w1 ⟨a1, n1, c1, b, f, rfl, hb, hp, b1⟩
  by_cases hf : f = 0
  · subst hf
    have hc := hp.code
    rw [HD.out] at hc
    have hc2 := Mat.wrongC_ok hc
    obtain ⟨D, rfl⟩ := Int.eq_ofNat_of_zero_le (a := d) (by omega)
    obtain ⟨s, hs⟩ := Int.eq_ofNat_of_zero_le (a := (n : Int) - (D : Int)) (by omega)
    have s1 : IntKind.i64.wrap ((n : Int) - (D : Int)) = (s : Int) := by rw [IntWalk.i64_in _ (by omega)]; omega
    have hs4 : s ≤ 4 := by omega
    have hD8 : D ≤ 8 := by omega
    have HP := hid hp
    replace hc := hid hc
    replace hc2 := hid hc2
    clear hp
    go_wp2_with fail
    go_at_call 29; refine (rLay_call a1 n1 c1 b g (D : Int) (s : Int) w1 hb).mono ?_; rintro e w2 ⟨a2, n2, c2, X, f2, rfl, hX, hp2, b2⟩
    replace hp2 := hid hp2
    go_wp2_with fail
    go_ret2
    exact ⟨_, _, _, X, f2, rfl, hX, ⟨b, 0, HP.out, .inr ⟨rfl, by rw [HD.out, hs]; exact hp2.out⟩⟩, bnext b1 b2⟩
  · have u0 : (f != 0) = true := bne_iff_ne.2 hf
    have HF := hid hf
    have HP := hid hp
    clear hp hf
    go_wp2_with fail
    go_ret2
    exact ⟨_, _, _, [], f, rfl, Ms.nil _, ⟨b, f, HP.out, .inl ⟨HF.out, rfl, rfl⟩⟩, b1⟩

end Go.Proofs.Ytjdgfijpmljhiaa

/- Walk: StripeTells. -/
namespace Go.Proofs.Ytjdgfijpmljhiaa
open Go.RowKit
set_option linter.unusedVariables false
set_option linter.unusedSimpArgs false
set_option maxRecDepth 100000

set_option maxHeartbeats 4000000 in
theorem StripeTells_walk (a : Option Addr) (n cap : Nat) (b : List UInt8) (la : Option Addr) (ln lc : Nat) (L : List Rw) (g d s : Int) (w : World) (hb : Bt w a n cap b) (hL : Ms w la ln lc L) (hln : ln * 24 ≤ 140737488355328) (hd : -9223372036854775808 ≤ d ∧ d ≤ 9223372036854775807) :
    Calls Try.prog 9 #[.slice a n cap, .slice la ln lc, .int .i64 g, .int .i64 d, .int .i64 s] w (Grew (.bool true) w) := by
  have HD := hid hd
  have HLn := hid hln
  clear hd hln
  go_enter Try.func9, Try.ntmps9
  go_wp2_with fail
  go_at_call 26; refine (sLay_call _ _ _ _ _ _ _ _ hb).mono ?_; rintro e w1 ⟨a1, n1, c1, X, e1, rfl, hX, hp1, b1⟩
  have hb1 := Sl.below hb b1
  go_wp2_with fail
  go_at_call 29; refine (rLay_call _ _ _ _ _ _ _ _ hb1).mono ?_; rintro e w2 ⟨a2, n2, c2, Y, e2, rfl, hY, hp2, b2⟩
  have hX2 := hX.below b2
  replace b2 := bnext b1 b2
  obtain ⟨hXY, rfl⟩ := hp1.uniq hp2
  have D := hid (rSame_call a1 a2 n1 c1 n2 c2 X Y w2 hX2 hY)
  rw [decide_eq_true hXY] at D
  have t1 : (e1 != e1) = false := by simp
  clear hp1 hp2 hX hXY b1 hb1 hX2 hY
  go_wp2_with fail
  go_at_call 30; refine (D.out).mono ?_; rintro e w3 ⟨rfl, q3, hq3⟩
  have b3 : Below w.heap.size w w3 := by rw [hq3]; exact below_drewN b2 q3
  replace hq3 := hid hq3
  have hL3 := hL.below b3
  clear D t1 b2
  go_wp2_with fail
  go_at_call 28; refine (sBad_call la ln lc L _ _ hL3 HLn.out).mono ?_; rintro e w4 ⟨ba, bc, rfl, hB, b4⟩
  have hL4 := hL3.below b4
  replace b4 := bnext b3 b4
  go_wp2_with fail
  go_at_call 31; refine (rBad_call la ln lc L _ _ hL4 HLn.out).mono ?_; rintro e w5 ⟨ba2, bc2, rfl, hB2, b5⟩
  have hB5 := Sl.below hB b5
  replace b5 := bnext b4 b5
  clear hB hL3 hL4 b3 b4
  generalize Stp.badL (rwData L) g ln = B at *
  obtain ⟨m, hm⟩ : ∃ m, m = B.length := ⟨_, rfl⟩
  rw [← hm] at hB5 hB2 ⊢
  have HM := hid hm
  clear hm
  have hsl := hB5.le
  have hsm := hB5.max
  have hsl2 := hB2.le
  have hsm2 := hB2.max
  unfold maxLen at hsm hsm2
  have t2 : ((m : Int) != (m : Int)) = false := by simp
  go_wp2_with fail
  go_loopg [58] m (fun gg s58 wr => ∃ k j : Nat, gg = m - k ∧ k ≤ m ∧ s58 = .int .i64 (k : Int) ∧ wr = w5.drewN j)
  case atStart => exact ⟨0, 0, rfl, by omega, rfl, rfl⟩
  case round =>
    obtain ⟨k, j, rfl, hk, rfl, rfl⟩ := hrel
    obtain ⟨V, hV⟩ : ∃ V, V = w5.drewN j := ⟨_, rfl⟩
    rw [← hV]
    replace hV := hid hV
    by_cases hlt : k < m
    · have hkB : k < B.length := by rw [← HM.out]; exact hlt
      obtain ⟨bb, boff, rfl, _⟩ := hB5.addr (by omega)
      obtain ⟨bb2, boff2, rfl, _⟩ := hB2.addr (by omega)
      have x0 : V.cell? ⟨bb, boff + k, none⟩ = some (.int .i64 ((B[k] : Nat) : Int)) := by rw [hV.out]; exact hB5.cell (by omega) (nCells_get hkB)
      have x1 : V.cell? ⟨bb2, boff2 + k, none⟩ = some (.int .i64 ((B[k] : Nat) : Int)) := by rw [hV.out]; exact hB2.cell (by omega) (nCells_get hkB)
      generalize B[k] = u at *
      have i0 : (0 : Int) ≤ (k : Int) := by omega
      have i1 : (k : Int) < (m : Int) := by omega
      have t3 : ((u : Int) != (u : Int)) = false := by simp
      go_wp2_with fail
      go_quiet (fail)
      go_wp2_with fail
      go_roundg (m - (k + 1))
      case measure => omega
      case rel => exact ⟨k + 1, j + nq, rfl, by omega, by go_num, by rw [hV.out]; exact World.drewN_drewN _ _ _⟩
    · obtain rfl : m = k := by omega
      have bV : Below w.heap.size w V := by rw [hV.out]; exact below_drewN b5 j
      clear hB5 hB2 t2 b5 hsl hsm hsl2 hsm2
      have hLV := hL.below bV
      go_wp2_with fail
      go_at_call 32; refine (sRead_call la ln lc L _ _ _ hLV HD.out).mono ?_; rintro e w6 ⟨ra, rn, rc, R, f, rfl, hR, hpR, b6⟩
      have hL6 := hLV.below b6
      replace b6 := bnext bV b6
      go_wp2_with fail
      go_at_call 33; refine (rRead_call la ln lc L _ _ _ hL6 HD.out).mono ?_; rintro e w7 ⟨ra2, rn2, rc2, R2, f2, rfl, hR2, hpR2, b7⟩
      have hL7 := hL6.below b7
      have hR7 := Sl.below hR b7
      replace b7 := bnext b6 b7
      obtain ⟨rfl, rfl⟩ := hpR.uniq hpR2
      have q1 := Bt.str hR7
      have q2 := Bt.str hR2
      have q3 : ((⟨R.toArray⟩ : ByteArray) == ⟨R.toArray⟩) = true := by rw [str_eq]; simp
      have q4 : ((⟨R.toArray⟩ : ByteArray) != ⟨R.toArray⟩) = false := by rw [bne, q3]; rfl
      have t4 : (f != f) = false := by simp
      clear hpR hpR2 hR hLV hL6 bV b6 hR7 hR2
      go_wp2_with fail
      go_at_call 34; refine (sMend_call la ln lc L _ _ _ hL7 HD.out).mono ?_; rintro e w8 ⟨xa, xn, xc, X2, g2, rfl, hX8, hp8, b8⟩
      have hL8 := hL7.below b8
      replace b8 := bnext b7 b8
      clear q1 q2 q3 q4 t4 hL7 b7
      go_wp2_with fail
      go_at_call 35; refine (rMendS_call la ln lc L _ _ _ hL8 HD.out).mono ?_; rintro e w9 ⟨ya, yn, yc, Y2, g3, rfl, hY9, hp9, b9⟩
      have hX9 := hX8.below b9
      replace b9 := bnext b8 b9
      obtain ⟨hXY, rfl⟩ := hp8.uniq hp9
      have D := hid (rSame_call xa ya xn xc yn yc X2 Y2 w9 hX9 hY9)
      rw [decide_eq_true hXY] at D
      have t5 : (g2 == g2) = true := by simp
      clear hp8 hp9 hX8 hX9 hY9 hXY hL8 b8
      go_wp2_with fail
      go_at_call 30; refine (D.out).mono ?_; rintro e w10 ⟨rfl, q10, rfl⟩
      go_wp2_with fail
      go_ret
      exact ⟨rfl, below_drewN b9 q10⟩

end Go.Proofs.Ytjdgfijpmljhiaa
