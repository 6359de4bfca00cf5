/- Contract of chapter 6: the program's Mend. -/
import Derived.Test.YtjdgfijpmljhiaaStripeR
import Derived.Test.YtjdgfijpmljhiaaStripeC
namespace Go.Proofs.Ytjdgfijpmljhiaa
namespace Stp
def MendS (l : List (List UInt8)) (g d : Int) (L : List (List UInt8)) (e : Int) : Prop := ∃ b f, ReadR l g d b f ∧ ((f ≠ 0 ∧ L = [] ∧ e = f) ∨ (f = 0 ∧ LayR b g d ((l.length : Int) - d) L e))
theorem MendS.uniq {l : List (List UInt8)} {g d : Int} {L K : List (List UInt8)} {e f : Int} (h : MendS l g d L e) (k : MendS l g d K f) : L = K ∧ e = f := by
  obtain ⟨b, f1, h1, h2⟩ := h
  obtain ⟨c, f2, k1, k2⟩ := k
  obtain ⟨rfl, rfl⟩ := h1.uniq k1
  rcases h2 with ⟨a1, a2, a3⟩ | ⟨a1, a2⟩ <;> rcases k2 with ⟨b1, b2, b3⟩ | ⟨b1, b2⟩
  · exact ⟨a2.trans b2.symm, a3.trans b3.symm⟩
  · exact absurd b1 a1
  · exact absurd a1 b1
  · exact a2.uniq b2
theorem ReadR.code {l : List (List UInt8)} {g d : Int} {R : List UInt8} (h : ReadR l g d R 0) : Mat.wrongC d ((l.length : Int) - d) = 0 := by
  classical
  refine Classical.byContradiction fun hc => ?_
  unfold ReadR at h
  rw [if_pos hc] at h
  exact hc h.2.symm
end Stp
open Go.RowKit
set_option linter.unusedVariables false
set_option maxRecDepth 100000

set_option maxHeartbeats 400000 in
theorem sMend_call (a : Option Addr) (n cap : Nat) (L : List Rw) (g d : Int) (w : World) (hL : Ms w a n cap L) (hd : -9223372036854775808 ≤ d ∧ d ≤ 9223372036854775807) :
    Calls Try.prog 34 #[.slice a n cap, .int .i64 g, .int .i64 d] w (MRes (Stp.MendS (rwData L) g d) w) := by
  have DR := hid (sRead_call a n cap L g d w hL hd)
  have HD := hid hL.dn
  replace hd := hid hd
  go_enter Try.func34, Try.ntmps34
  go_wp2_with fail
  go_at_call 32; refine (DR.out).mono ?_; rintro e w1 ⟨a1, n1, c1, b, f, rfl, hb, hp, b1⟩
  by_cases hf : f = 0
  · subst hf
    have hc := hp.code
    rw [HD.out] at hc
    have hc2 := Mat.wrongC_ok hc
    obtain ⟨D, rfl⟩ := Int.eq_ofNat_of_zero_le (a := d) (by omega)
    obtain ⟨s, hs⟩ := Int.eq_ofNat_of_zero_le (a := (n : Int) - (D : Int)) (by omega)
    have s1 : IntKind.i64.wrap ((n : Int) - (D : Int)) = (s : Int) := by rw [IntWalk.i64_in _ (by omega)]; omega
    have hs4 : s ≤ 4 := by omega
    have hD8 : D ≤ 8 := by omega
    have HP := hid hp
    replace hc := hid hc
    replace hc2 := hid hc2
    clear hp
    go_wp2_with fail
    go_at_call 26; refine (sLay_call a1 n1 c1 b g (D : Int) (s : Int) w1 hb).mono ?_; rintro e w2 ⟨a2, n2, c2, X, f2, rfl, hX, hp2, b2⟩
    replace hp2 := hid hp2
    go_wp2_with fail
    go_ret2
    exact ⟨_, _, _, X, f2, rfl, hX, ⟨b, 0, HP.out, .inr ⟨rfl, by rw [HD.out, hs]; exact hp2.out⟩⟩, bnext b1 b2⟩
  · have u0 : (f != 0) = true := bne_iff_ne.2 hf
    have HF := hid hf
    have HP := hid hp
    clear hp hf
    go_wp2_with fail
    go_ret2
    exact ⟨_, _, _, [], f, rfl, Ms.nil _, ⟨b, f, HP.out, .inl ⟨HF.out, rfl, rfl⟩⟩, b1⟩

end Go.Proofs.Ytjdgfijpmljhiaa
