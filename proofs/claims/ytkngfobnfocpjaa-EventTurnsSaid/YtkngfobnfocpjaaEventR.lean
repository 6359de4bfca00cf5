/- EventTurns, walked: it returns true. -/
import Derived.Test.YtkngfobnfocpjaaEventV
namespace Go.Proofs.Ytkngfobnfocpjaa
open Go.RowKit
set_option linter.unusedVariables false

theorem beq_refl_ba (l : List UInt8) : ((⟨l.toArray⟩ : ByteArray) == ⟨l.toArray⟩) = true := by rw [str_eq]; simp
set_option maxRecDepth 100000 in
set_option maxHeartbeats 2000000 in
theorem EventTurns_walk (la : Option Addr) (ln lc : Nat) (Rs : List Rb) (ba : Option Addr) (bn bc : Nat) (lb : List UInt8) (w : World) (hx : Bs w la ln lc Rs) (hb : Bt w ba bn bc lb) :
    Calls Try.prog 12 #[.slice la ln lc, .slice ba bn bc] w (Grew (.bool true) w) := by
  have D1 := fun W (h : Below w.heap.size w W) => eBytes_call la ln lc Rs W (hx.below h)
  have D2 := fun W (h : Below w.heap.size w W) => eParse_call ba bn bc lb W (hb.below h)
  have HPB := Evt.parse_bytes (Rs.map Rb.ba)
  have HZ := Evt.parse_zero lb
  have HK := Evt.parse_back lb
  generalize Evt.bytesR (Rs.map Rb.ba) = R at *
  obtain ⟨P, re, rat⟩ := R
  simp only at HPB
  generalize Evt.parse lb = Y at *
  obtain ⟨yl, ye⟩ := Y
  simp only at HZ HK
  have D3 := hid (show ∀ W a n c, n = P.length → Bt W a n c P → Calls Try.prog 40 #[.slice a n c] W (PBRes (Evt.parse P) W) from fun W a n c _ h => eParse_call a n c P W h)
  have DY := hid (show ye = 0 → ∀ W a n c (Ms : List Rb), Bs W a n c Ms → Ms.map Rb.ba = yl → Calls Try.prog 38 #[.slice a n c] W (BFRes ⟨lb, 0, 0⟩ W) from fun h0 W a n c Ms h hm => by
    have := eBytes_call a n c Ms W h
    rw [hm, HK h0] at this
    exact this)
  replace D1 := hid D1; replace D2 := hid D2; replace HZ := hid HZ
  clear HK
  have HQ := hid (beq_refl_ba lb)
  by_cases hr : re = 0
  · subst hr
    have hpp := HPB rfl
    have D3' := hid (show ∀ W a n c, n = P.length → Bt W a n c P → Calls Try.prog 40 #[.slice a n c] W (PBRes ⟨Rs.map Rb.ba, 0⟩ W) from fun W a n c hn h => by rw [← hpp]; exact D3.out W a n c hn h)
    clear HPB hpp D3
    by_cases hy : ye = 0
    · subst hy
      replace DY := hid (DY.out rfl)
      clear HZ
      go_enter Try.func12, Try.ntmps12
      go_wp2_with fail
      go_at_call 43; refine (alive5_call _).mono ?_; rintro e w1 ⟨rfl, b1⟩
      go_wp2_with fail
      go_at_call 38; refine (D1.out _ b1).mono ?_; rintro e w2 ⟨v2, rfl, b2, o2⟩
      obtain ⟨a2, c2, rfl, s2⟩ := own_sl o2
      have bb2 := bnext b1 b2
      have z2 := bb2.size
      have s2' := Sl.alloc s2 (.cells #[.int .i64 0, .int .i64 rat] 54)
      go_wp2_with fail
      go_at_call 40; refine (D3'.out _ _ _ _ rfl s2').mono ?_; rintro e w3 ⟨a3, n3, c3, Ms, rfl, hMs, hmm, b3⟩
      have b3' := box_below b3
      have bb3 := bnext bb2 b3'
      have z3 := bb3.size
      go_wp2_with fail
      go_at_call 42; refine (rSameBatches_same _ _ _ _ _ _ Ms Rs _ hMs (hx.below bb3) hmm).mono ?_; rintro e w4 ⟨rfl, j4, rfl⟩
      have bb4 := below_drewN bb3 j4
      generalize w3.drewN j4 = w4 at *
      clear hmm
      go_wp2_with fail
      go_at_call 40; refine (D2.out _ bb4).mono ?_; rintro e w5 ⟨a5, n5, c5, Ms5, rfl, hMs5, hmm5, b5⟩
      have bb5 := bnext bb4 b5
      go_wp2_with fail
      go_at_call 38; refine (DY.out _ _ _ _ Ms5 hMs5 hmm5).mono ?_; rintro e w6 ⟨v6, rfl, b6, o6⟩
      obtain ⟨a6, c6, rfl, s6⟩ := own_sl o6
      have bb6 := bnext bb5 b6
      have z6 := bb6.size
      have q1 := Bt.str (Sl.alloc s6 (.cells #[.int .i64 0, .int .i64 0] 54))
      have q2 := Bt.str (Sl.alloc (hb.below bb6) (.cells #[.int .i64 0, .int .i64 0] 54))
      clear hmm5
      go_wp2_with fail
      go_ret
      exact ⟨ret_bool (by simp), bb6.alloc z6 _⟩
    · have hyl := HZ.out hy
      subst hyl
      have hy0 : (ye != 0) = true := by rw [bne_iff_ne]; exact hy
      clear HZ hy DY
      go_enter Try.func12, Try.ntmps12
      go_wp2_with fail
      go_at_call 43; refine (alive5_call _).mono ?_; rintro e w1 ⟨rfl, b1⟩
      go_wp2_with fail
      go_at_call 38; refine (D1.out _ b1).mono ?_; rintro e w2 ⟨v2, rfl, b2, o2⟩
      obtain ⟨a2, c2, rfl, s2⟩ := own_sl o2
      have bb2 := bnext b1 b2
      have z2 := bb2.size
      have s2' := Sl.alloc s2 (.cells #[.int .i64 0, .int .i64 rat] 54)
      go_wp2_with fail
      go_at_call 40; refine (D3'.out _ _ _ _ rfl s2').mono ?_; rintro e w3 ⟨a3, n3, c3, Ms, rfl, hMs, hmm, b3⟩
      have b3' := box_below b3
      have bb3 := bnext bb2 b3'
      have z3 := bb3.size
      go_wp2_with fail
      go_at_call 42; refine (rSameBatches_same _ _ _ _ _ _ Ms Rs _ hMs (hx.below bb3) hmm).mono ?_; rintro e w4 ⟨rfl, j4, rfl⟩
      have bb4 := below_drewN bb3 j4
      generalize w3.drewN j4 = w4 at *
      clear hmm
      go_wp2_with fail
      go_at_call 40; refine (D2.out _ bb4).mono ?_; rintro e w5 ⟨a5, n5, c5, Ms5, rfl, hMs5, hmm5, b5⟩
      have bb5 := bnext bb4 b5
      have hn5 : n5 = 0 := by
        have h1 := hMs5.n
        have h2 := congrArg List.length hmm5
        simp at h2
        rw [h2] at h1; simpa using h1.symm
      subst hn5
      clear hmm5
      go_wp2_with fail
      go_ret
      exact ⟨ret_bool (by simp), bb5⟩
  · have hr0 : (re == 0) = false := beq_eq_false_iff_ne.2 hr
    clear HPB hr D3
    by_cases hy : ye = 0
    · subst hy
      replace DY := hid (DY.out rfl)
      clear HZ
      go_enter Try.func12, Try.ntmps12
      go_wp2_with fail
      go_at_call 43; refine (alive5_call _).mono ?_; rintro e w1 ⟨rfl, b1⟩
      go_wp2_with fail
      go_at_call 38; refine (D1.out _ b1).mono ?_; rintro e w2 ⟨v2, rfl, b2, o2⟩
      obtain ⟨a2, c2, rfl, s2⟩ := own_sl o2
      have bb2 := bnext b1 b2
      have z2 := bb2.size
      have bb4 := bb2.alloc z2 (.cells #[.int .i64 re, .int .i64 rat] 54)
      have hw4 : ∃ w4, w2.alloc (.cells #[.int .i64 re, .int .i64 rat] 54) = w4 := ⟨_, rfl⟩
      go_wp2_with fail
      go_at_call 40; refine (D2.out _ bb4).mono ?_; rintro e w5 ⟨a5, n5, c5, Ms5, rfl, hMs5, hmm5, b5⟩
      have bb5 := bnext bb4 b5
      go_wp2_with fail
      go_at_call 38; refine (DY.out _ _ _ _ Ms5 hMs5 hmm5).mono ?_; rintro e w6 ⟨v6, rfl, b6, o6⟩
      obtain ⟨a6, c6, rfl, s6⟩ := own_sl o6
      have bb6 := bnext bb5 b6
      have z6 := bb6.size
      have q1 := Bt.str (Sl.alloc s6 (.cells #[.int .i64 0, .int .i64 0] 54))
      have q2 := Bt.str (Sl.alloc (hb.below bb6) (.cells #[.int .i64 0, .int .i64 0] 54))
      clear hmm5
      go_wp2_with fail
      go_ret
      exact ⟨ret_bool (by simp), bb6.alloc z6 _⟩
    · have hyl := HZ.out hy
      subst hyl
      have hy0 : (ye != 0) = true := by rw [bne_iff_ne]; exact hy
      clear HZ hy DY
      go_enter Try.func12, Try.ntmps12
      go_wp2_with fail
      go_at_call 43; refine (alive5_call _).mono ?_; rintro e w1 ⟨rfl, b1⟩
      go_wp2_with fail
      go_at_call 38; refine (D1.out _ b1).mono ?_; rintro e w2 ⟨v2, rfl, b2, o2⟩
      obtain ⟨a2, c2, rfl, s2⟩ := own_sl o2
      have bb2 := bnext b1 b2
      have z2 := bb2.size
      have bb4 := bb2.alloc z2 (.cells #[.int .i64 re, .int .i64 rat] 54)
      have hw4 : ∃ w4, w2.alloc (.cells #[.int .i64 re, .int .i64 rat] 54) = w4 := ⟨_, rfl⟩
      go_wp2_with fail
      go_at_call 40; refine (D2.out _ bb4).mono ?_; rintro e w5 ⟨a5, n5, c5, Ms5, rfl, hMs5, hmm5, b5⟩
      have bb5 := bnext bb4 b5
      have hn5 : n5 = 0 := by
        have h1 := hMs5.n
        have h2 := congrArg List.length hmm5
        simp at h2
        rw [h2] at h1; simpa using h1.symm
      subst hn5
      clear hmm5
      go_wp2_with fail
      go_ret
      exact ⟨ret_bool (by simp), bb5⟩

end Go.Proofs.Ytkngfobnfocpjaa
