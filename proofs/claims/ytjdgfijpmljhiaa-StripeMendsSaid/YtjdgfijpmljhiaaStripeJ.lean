/- Walks: StripeBad; StripePlace. -/
import Derived.Test.YtjdgfijpmljhiaaStripeV
namespace Go.Proofs.Ytjdgfijpmljhiaa
open Go.RowKit Go.Maps
set_option linter.unusedVariables false
set_option linter.unusedSimpArgs false
set_option maxRecDepth 100000
theorem laid_rows {b : List UInt8} {g d s : Nat} {S L : List (List UInt8)} (h : Stp.Laid b g d s S L) {i : Nat} (hi : i < d + s) : (L.getD i []).length ≤ 411 := by
  rw [h.row hi, Blk.bytes_length, h.sh.row hi]
  have := h.sh.fine.m2
  omega
theorem laid_rn {b : List UInt8} {g d s : Nat} {S : List (List UInt8)} {L : List Rw} {w : World} {a : Option Addr} {n cap : Nat} (h : Stp.Laid b g d s S (rwData L)) (hL : Ms w a n cap L) : ∀ r ∈ L, r.n ≤ 1000 := fun r hr => by
  obtain ⟨i, hi, rfl⟩ := List.getElem_of_mem hr
  have h1 := laid_rows h (i := i) (by have := h.len; rw [rwData_length] at this; omega)
  rw [rwData_getD hi] at h1
  have := Bt.n (hL.row L[i] (List.getElem_mem hi))
  omega

set_option maxHeartbeats 4000000 in
theorem StripeBad_walk (a : Option Addr) (n cap : Nat) (b : List UInt8) (g d s : Int) (ha : Option Addr) (hn hc : Nat) (hs : List HarmV) (w : World) (hb : Bt w a n cap b) (hH : Hs w ha hn hc hs) :
    Calls Try.prog 7 #[.slice a n cap, .int .i64 g, .int .i64 d, .int .i64 s, .slice ha hn hc] w (Grew (.bool true) w) := by
  go_enter Try.func7, Try.ntmps7
  go_wp2_with fail
  go_at_call 25; refine (alive6_call _).mono ?_; rintro e w0 ⟨rfl, b0⟩
  go_wp2_with fail
  go_at_call 26; refine (sLay_call _ _ _ _ _ _ _ _ (Sl.below hb b0)).mono ?_; rintro e w1 ⟨a1, n1, c1, L, e1, rfl, hL, hp, b1⟩
  replace b1 := bnext b0 b1
  by_cases he : e1 = 0
  · subst he
    obtain ⟨g, d, s, S, rfl, rfl, rfl, hLd⟩ := hp.laid rfl
    have hn1 : n1 = d + s := by rw [← hL.dn, hLd.len]
    have h12 := hLd.n12
    have HD := hid hLd
    have hrn := hid (laid_rn hLd hL)
    have HN := hid hL.dn
    replace hn1 := hid hn1
    have hn2 : n1 ≤ 12 := by have := hn1.out; omega
    have hn3 : 1 ≤ n1 := by have := hn1.out; omega
    clear hp hLd h12
    go_wp2_with fail
    go_at_call 27; refine (hurt6_call a1 n1 c1 L ha hn hc hs _ hL (hH.below b1) hn3 hn2 hrn.out).mono ?_; rintro e w2 ⟨oa, oc, O, mb, U, DD, rfl, hO, hA, hSz, hU, b2⟩
    have hL2 := hL.below b2
    replace b2 := bnext b1 b2
    have HU := hid hU
    have HO := hid hO.dn
    go_wp2_with fail
    go_at_call 28; refine (sBad_call oa n1 oc O _ _ hO (by omega)).mono ?_; rintro e w3 ⟨ba, bc, rfl, hB, b3⟩
    have hA3 : Had w3 mb U DD := Had.kept hA (grown_of_below b3 none) (by simp)
    have hL3 := hL2.below b3
    replace b3 := bnext b2 b3
    have hbl : (Stp.badL (rwData O) (g : Int) n1).length = U.length := by
      have := HU.out.bad_len HD.out
      rwa [HN.out] at this
    have hbm : ∀ i, i ∈ Stp.badL (rwData O) (g : Int) n1 ↔ i ∈ U := fun i => by
      have := HU.out.bad HD.out (i := i)
      rwa [HN.out] at this
    have hlen := hid (hA3.own.len (t := 53) Try.underlying53 3)
    rw [hSz.size] at hlen
    have hUn : U.length ≤ 12 := by
      have h1 := nodup_le HU.out.nd (fun v hv => HU.out.lt v hv)
      rw [HN.out] at h1
      omega
    obtain ⟨B, hBe⟩ : ∃ B, B = Stp.badL (rwData O) (g : Int) n1 := ⟨_, rfl⟩
    rw [← hBe] at hB hbl hbm ⊢
    obtain ⟨m, hm⟩ : ∃ m, m = B.length := ⟨_, rfl⟩
    rw [← hbl, ← hm] at hlen
    rw [← hm] at hB ⊢
    have hBl := hid hm
    have hm12 : m ≤ 12 := by omega
    replace hBe := hid hBe
    have hbm := hid hbm
    have hUlt : Hid (∀ i ∈ U, i < 16) := hid (fun i hi => by
      have := HU.out.lt i hi
      rw [HN.out] at this
      omega)
    clear hm hbl hU hO hA hL hL2 hUn
    have hsl := hB.le
    have hsm := hB.max
    unfold maxLen at hsm
    go_wp2_with fail
    go_loopg [41] m (fun gg s41 wr => ∃ k : Nat, gg = m - k ∧ k ≤ m ∧ s41 = .int .i64 (k : Int) ∧ w3 = wr)
    case atStart => exact ⟨0, rfl, by omega, rfl, rfl⟩
    case round =>
      obtain ⟨k, rfl, hk, rfl, rfl⟩ := hrel
      by_cases hlt : k < m
      · have hkB : k < B.length := by rw [← hBl.out]; exact hlt
        obtain ⟨bb, boff, rfl, _⟩ := hB.addr (by omega)
        have x0 := hB.cell (by omega) (nCells_get hkB)
        have hin := (hbm.out _).1 (List.getElem_mem hkB)
        have hlk := hA3.look B[k] (hUlt.out _ hin)
        rw [decide_eq_true hin] at hlk
        generalize B[k] = u at *
        replace hin := hid hin
        have i0 : (0 : Int) ≤ (k : Int) := by omega
        have i1 : (k : Int) < (m : Int) := by omega
        go_wp2_with fail
        go_roundg (m - (k + 1))
        case measure => omega
        case rel => exact ⟨k + 1, rfl, by omega, by go_num, rfl⟩
      · obtain rfl : m = k := by omega
        have hlen2 := hlen.out
        go_wp2_with fail
        go_at_call 28; refine (sBad_call a1 n1 c1 L _ _ hL3 (by omega)).mono ?_; rintro e w4 ⟨ba2, bc2, rfl, hB2, b4⟩
        have hz := HD.out.bad_none
        rw [HN.out] at hz
        rw [hz]
        clear hB2
        go_wp2_with fail
        go_ret
        exact ⟨ret_bool rfl, bnext b3 b4⟩
  · have u0 : (e1 != 0) = true := bne_iff_ne.2 he
    replace he := hid he
    clear hp
    go_wp2_with fail
    go_ret
    exact ⟨rfl, b1⟩

end Go.Proofs.Ytjdgfijpmljhiaa
