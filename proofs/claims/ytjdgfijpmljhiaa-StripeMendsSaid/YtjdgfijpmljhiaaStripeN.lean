/- Walk: StripeMends. -/
import Derived.Test.YtjdgfijpmljhiaaStripeM
import Derived.Test.YtjdgfijpmljhiaaStripeJ
import Derived.Test.YtjdgfijpmljhiaaCodeS
namespace Go.Proofs.Ytjdgfijpmljhiaa
open Go.RowKit Go.Maps
set_option linter.unusedVariables false
set_option linter.unusedSimpArgs false
set_option maxRecDepth 100000

set_option maxHeartbeats 4000000 in
theorem StripeMends_walk (a : Option Addr) (n cap : Nat) (b : List UInt8) (g d s : Int) (ha : Option Addr) (hn hc : Nat) (hs : List HarmV) (w : World) (hb : Bt w a n cap b) (hH : Hs w ha hn hc hs) :
    Calls Try.prog 10 #[.slice a n cap, .int .i64 g, .int .i64 d, .int .i64 s, .slice ha hn hc] w (Grew (.bool true) w) := by
  go_enter Try.func10, Try.ntmps10
  go_wp2_with fail
  go_at_call 25; refine (alive6_call _).mono ?_; rintro e w0 ⟨rfl, b0⟩
  go_wp2_with fail
  go_at_call 26; refine (sLay_call _ _ _ _ _ _ _ _ (Sl.below hb b0)).mono ?_; rintro e w1 ⟨a1, n1, c1, L, e1, rfl, hL, hp, b1⟩
  replace b1 := bnext b0 b1
  by_cases he : e1 = 0
  · subst he
    have hlay := hid hp
    obtain ⟨g, d, s, S, rfl, rfl, rfl, hLd⟩ := hp.laid rfl
    have hn1 : n1 = d + s := by rw [← hL.dn, hLd.len]
    have h12 := hLd.n12
    have HD := hid hLd
    have hrn := hid (laid_rn hLd hL)
    have HN := hid hL.dn
    replace hn1 := hid hn1
    have hn2 : n1 ≤ 12 := by have := hn1.out; omega
    have hn3 : 1 ≤ n1 := by have := hn1.out; omega
    have hd12 : d ≤ 12 := by have := hn1.out; omega
    clear hp hLd h12
    go_wp2_with fail
    go_at_call 27; refine (hurt6_call a1 n1 c1 L ha hn hc hs _ hL (hH.below b1) hn3 hn2 hrn.out).mono ?_; rintro e w2 ⟨oa, oc, O, mb, U, DD, rfl, hO, hA, hSz, hU, b2⟩
    have hL2 := hL.below b2
    replace b2 := bnext b1 b2
    have HU := hid hU
    have HO := hid hO.dn
    have hUn : U.length ≤ 12 := by
      have h1 := nodup_le hU.nd (fun v hv => hU.lt v hv)
      rw [HN.out] at h1
      omega
    clear hU
    go_wp2_with fail
    go_at_call 32; refine (sRead_call oa n1 oc O _ _ _ hO (by omega)).mono ?_; rintro e w3 ⟨ra, rn, rc, R, f, rfl, hR, hpR, b3⟩
    have hA3 : Had w3 mb U DD := Had.kept hA (grown_of_below b3 none) (by simp)
    have hL3 := hL2.below b3
    have hO3 := hO.below b3
    replace b3 := bnext b2 b3
    replace hpR := hid hpR
    clear hA hL hL2 hO
    go_wp2_with fail
    go_at_call 34; refine (sMend_call oa n1 oc O _ _ _ hO3 (by omega)).mono ?_; rintro e w4 ⟨xa, xn, xc, X, f2, rfl, hX, hpX, b4⟩
    have hA4 : Had w4 mb U DD := Had.kept hA3 (grown_of_below b4 none) (by simp)
    have hL4 := hL3.below b4
    have hR4 := Sl.below hR b4
    replace b4 := bnext b3 b4
    have hlen := hA4.own.len (t := 53) Try.underlying53 3
    rw [hSz.size] at hlen
    have hb4 := Sl.below hb b4
    clear hA3 hL3 hO3 hR
    by_cases hU : s < U.length
    · obtain ⟨rfl, rfl⟩ := HU.out.lost HD.out hU hpR.out
      have hf2 : f2 = 10 := by
        obtain ⟨b', f', h1, h2⟩ := hpX
        obtain ⟨_, rfl⟩ := HU.out.lost HD.out hU h1
        rcases h2 with ⟨_, _, h⟩ | ⟨h, _⟩
        · exact h
        · exact absurd h (by decide)
      subst hf2
      have u1 : (s : Int) < (U.length : Int) := by omega
      clear hpX
      go_wp2_with fail
      go_ret
      exact ⟨rfl, b4⟩
    · obtain ⟨rfl, rfl⟩ := HU.out.read HD.out (Nat.not_lt.1 hU) hpR.out
      have hXL : rwData X = rwData L ∧ f2 = 0 := by
        obtain ⟨b', f', h1, h2⟩ := hpX
        obtain ⟨rfl, rfl⟩ := HU.out.read HD.out (Nat.not_lt.1 hU) h1
        rcases h2 with ⟨h, _⟩ | ⟨_, h⟩
        · exact absurd rfl h
        · have e : (((rwData O).length : Int) - (d : Int)) = (s : Int) := by rw [HO.out, hn1.out]; omega
          rw [e] at h
          exact h.uniq hlay.out
      obtain ⟨hXd, rfl⟩ := hXL
      have u1 : ¬ (s : Int) < (U.length : Int) := by omega
      have q1 := Bt.str hR4
      have q2 := Bt.str hb4
      have q3 : ((⟨R.toArray⟩ : ByteArray) == ⟨R.toArray⟩) = true := by rw [str_eq]; simp
      have D := hid (rSame_call xa a1 xn xc n1 c1 X L w4 hX hL4)
      rw [decide_eq_true hXd] at D
      replace hXd := hid hXd
      clear hpX
      go_wp2_with fail
      go_at_call 30; refine (D.out).mono ?_; rintro e w5 ⟨rfl, q, rfl⟩
      go_wp2_with fail
      go_ret
      exact ⟨rfl, below_drewN b4 q⟩
  · have u0 : (e1 != 0) = true := bne_iff_ne.2 he
    have hl : n1 = 0 := by rw [← hL.dn, hp.bad he]; rfl
    subst hl
    replace he := hid he
    clear hp
    go_wp2_with fail
    go_ret
    exact ⟨rfl, b1⟩

end Go.Proofs.Ytjdgfijpmljhiaa
