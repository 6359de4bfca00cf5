/- Contracts of chapter 3: spare shards, the program's. -/
import Derived.Test.YtjdgfijpmljhiaaCodeA
import Derived.Test.YtjdgfijpmljhiaaGridL
namespace Go.Proofs.Ytjdgfijpmljhiaa
open Go.RowKit
set_option linter.unusedVariables false
set_option maxRecDepth 100000
theorem spare_none {l : List (List UInt8)} {s : Int} (h : Mat.wrongC l.length s ≠ 0) : Mat.SpareR l s [] (Mat.wrongC l.length s) := by unfold Mat.SpareR; rw [if_pos h]; exact ⟨rfl, rfl⟩
theorem spare_wrong {l : List (List UInt8)} {s : Int} (h : Mat.wrongC l.length s = 0) (h2 : Mat.wrongM l ≠ 0) : Mat.SpareR l s [] (Mat.wrongM l) := by unfold Mat.SpareR; rw [if_neg (fun e => e h), if_pos h2]; exact ⟨rfl, rfl⟩
theorem spare_some {l : List (List UInt8)} {d m s : Nat} (hl : Mat.Fine l d m) (h2 : d ≤ 8) (h3 : s ≤ 4) {L : List (List UInt8)} (h : Mat.Rep L s m (Mat.spareM d (Mat.ent l))) : Mat.SpareR l (s : Int) L 0 := by
  have := hl.n1
  unfold Mat.SpareR
  rw [hl.rows, if_neg (fun hh => hh (Mat.wrongC_of (by omega))), if_neg (fun hh => hh hl.wrong), hl.wid0, Int.toNat_natCast]
  exact ⟨h, rfl⟩
theorem ent_drop (R : List Rw) (d i j : Nat) : Mat.ent (rwData (R.drop d)) i j = Mat.ent (rwData R) (d + i) j := by
  unfold Mat.ent rwData
  simp [List.getD]
/-- rows in new blocks -/
def NewR (B : Nat) (R : List Rw) : Prop := ∀ r ∈ R, 0 < r.n → ∀ b off, r.a = some ⟨b, off, none⟩ → B ≤ b
theorem NewR.nil (B : Nat) : NewR B [] := fun r hr => by cases hr
theorem NewR.mono {B C : Nat} {R : List Rw} (h : NewR B R) (hc : C ≤ B) : NewR C R := fun r hr hn b off e => Nat.le_trans hc (h r hr hn b off e)
/-- as MRes, and the rows lie in new blocks -/
def MResN (P : List (List UInt8) → Int → Prop) (w : World) (e : Ending) (w' : World) : Prop :=
  ∃ a n cap R err, e = .returned (.tuple #[.slice a n cap, .int .i64 err]) ∧ Ms w' a n cap R ∧ P (rwData R) err ∧ Below w.heap.size w w' ∧ NewR w.heap.size R
theorem MResN.res {P : List (List UInt8) → Int → Prop} {w : World} {e : Ending} {w' : World} (h : MResN P w e w') : MRes P w e w' := by
  obtain ⟨a, n, cap, R, err, h1, h2, h3, h4, _⟩ := h
  exact ⟨a, n, cap, R, err, h1, h2, h3, h4⟩
theorem NilB.resN {P : List (List UInt8) → Int → Prop} {w : World} {e : Ending} {w' : World} {err : Int} (h : NilB err w e w') (hP : P [] err) : MResN P w e w' := by
  obtain ⟨rfl, hb⟩ := h
  exact ⟨_, _, _, [], err, rfl, Ms.nil _, hP, hb, NewR.nil _⟩
theorem MoRes.resN {P : List (List UInt8) → Prop} {n : Nat} {w : World} {e : Ending} {w' : World} {Q : List (List UInt8) → Int → Prop} (h : MoRes P n w e w') (hq : ∀ L, P L → Q L 0) : MResN Q w e w' := by
  obtain ⟨g, R, he, hn, hM, hP, hb⟩ := h
  refine ⟨_, _, _, _, _, he, hM.ms hn, by rw [wrData_rw]; exact hq _ hP, hb, fun r hr _ b off e => ?_⟩
  obtain ⟨r', hr', rfl⟩ := List.mem_map.1 hr
  cases e
  exact (hM.rlt hr').1

theorem gMul_callN (a b : Option Addr) (n ac m bc : Nat) (A B : List Rw) (w : World) (hA : Ms w a n ac A) (hB : Ms w b m bc B) : Calls Try.prog 60 #[.slice a n ac, .slice b m bc] w (MResN (Mat.MulR (rwData A) (rwData B)) w) := by
  refine mul_cases (A := rwData A) (B := rwData B) (fun h => ?_) (fun h h2 => ?_) (fun h h2 h3 => ?_) (fun n' m' q e1 e2 hFA hFB => ?_)
  · exact (gMul_wrong a b n ac m bc A B w hA hB _ h 0 (.inl ⟨rfl, rfl⟩)).mono fun e w' hh => NilB.resN hh (mulR_1 h)
  · exact (gMul_wrong a b n ac m bc A B w hA hB _ h2 1 (.inr ⟨rfl, h, rfl⟩)).mono fun e w' hh => NilB.resN hh (mulR_2 h h2)
  · exact (gMul_fit a b n ac m bc A B w hA hB h h2 (by rw [hB.dn] at h3; exact h3)).mono fun e w' hh => NilB.resN hh (mulR_3 h h2 h3)
  · obtain rfl : n' = n := e1.symm.trans hA.dn
    obtain rfl : m' = m := e2.symm.trans hB.dn
    exact (gMul_ok a b n' ac m' bc q A B w hA hB hFA hFB).mono fun e w' hh => hh.resN fun L hL => mulR_4 hFA hFB hL

set_option maxHeartbeats 1000000 in
theorem cSpare_callN (a : Option Addr) (n ac : Nat) (A : List Rw) (s : Int) (w : World) (hA : Ms w a n ac A) : Calls Try.prog 45 #[.slice a n ac, .int .i64 s] w (MResN (Mat.SpareR (rwData A) s) w) := by
  have HN := hid hA.dn
  by_cases hc : Mat.wrongC (n : Int) s = 0
  · have hc2 := Mat.wrongC_ok hc
    obtain ⟨s, rfl⟩ := Int.eq_ofNat_of_zero_le (a := s) (by omega)
    have hn1 : 1 ≤ n := by omega
    have hn8 : n ≤ 8 := by omega
    have hs4 : s ≤ 4 := by omega
    have HC := hid hc
    clear hc hc2
    by_cases hw : Mat.wrongM (rwData A) = 0
    · have hF := hA.wid hw
      generalize Mat.wid (rwData A) 0 = m at hF
      have HF := hid hF
      have HW := hid hw
      clear hF hw
      by_cases hs0 : s = 0
      · subst hs0
        go_enter Try.func45, Try.ntmps45
        go_wp2_with fail
        go_at_call 58
        refine (cRows_ok n 0 w hn1 hn8 hs4).mono ?_
        rintro e w1 ⟨a1, n1, c1, R1, e1, rfl, h1, ⟨hp1, rfl⟩, b1⟩
        have A1 := hA.below b1
        replace hp1 := hid hp1
        go_wp2_with fail
        go_at_call 59
        refine (gWrong_call _ _ _ _ _ A1).mono ?_
        rintro e w1' ⟨rfl, rfl⟩
        rw [HW.out]
        go_wp2_with fail
        go_ret2
        exact ⟨_, _, _, [], 0, rfl, Ms.nil _, spare_some HF.out hn8 hs4 ⟨rfl, (fun r hr => by cases hr), fun i j hi => absurd hi (by omega)⟩, b1, NewR.nil _⟩
      · have u0 : ((s : Int) == 0) = false := beq_eq_false_iff_ne.2 (by omega)
        have u1 : (s == 0) = false := beq_eq_false_iff_ne.2 hs0
        have u2 : ¬ (s : Int) = 0 := by omega
        go_enter Try.func45, Try.ntmps45
        go_wp2_with fail
        go_at_call 58
        refine (cRows_ok n s w hn1 hn8 hs4).mono ?_
        rintro e w1 ⟨a1, n1, c1, R1, e1, rfl, h1, ⟨hp1, rfl⟩, b1⟩
        have A1 := hA.below b1
        have hd1 := h1.dn
        rw [hp1.rows] at hd1
        have hle1 := h1.sl.le
        have hlt1 : n < n1 := by omega
        have hltc : n < c1 := by omega
        have hnc : ¬ c1 = n := by omega
        obtain ⟨bb, boff, rfl, _⟩ := h1.sl.addr (by omega)
        have h2 := h1.drop (lo := n) (by omega)
        rw [if_neg hnc, Option.map_some, add_off, Nat.mul_one] at h2
        have hF2 : Mat.Fine (rwData (R1.drop n)) s n := ⟨by rw [rwData_length, List.length_drop]; have := h1.cnt; omega, fun r hr => by
          obtain ⟨q, hq, rfl⟩ := List.mem_map.1 hr
          exact hp1.cols _ (List.mem_map.2 ⟨q, List.mem_of_mem_drop hq, rfl⟩), by omega, by omega, by omega, by omega⟩
        replace hp1 := hid hp1
        replace hF2 := hid hF2
        replace hd1 := hid hd1
        go_wp2_with fail
        go_at_call 59
        refine (gWrong_call _ _ _ _ _ A1).mono ?_
        rintro e w1' ⟨rfl, rfl⟩
        rw [HW.out]
        go_wp2_with fail
        go_at_call 60
        refine (gMul_callN _ _ _ _ _ _ _ _ _ h2 A1).mono ?_
        rintro e w3 ⟨a3, n3, c3, R3, e3, rfl, h3, hp3, b3, nw3⟩
        replace nw3 := hid (nw3.mono b1.size)
        obtain ⟨hr3, rfl⟩ := Mat.MulR.ok hF2.out HF.out hp3
        replace b3 := bnext b1 b3
        replace hr3 := hid hr3
        clear hp3
        go_wp2_with fail
        go_ret2
        exact ⟨_, _, _, R3, 0, rfl, h3, spare_some HF.out hn8 hs4 (hr3.out.congr fun i j hi hj => Mat.mul_congr (fun k hk => by
          rw [ent_drop]; exact hp1.out.eq (n + i) k (by omega) hk) fun _ _ => rfl), b3, nw3.out⟩
    · have u0 : (Mat.wrongM (rwData A) != 0) = true := bne_iff_ne.2 hw
      generalize hW : Mat.wrongM (rwData A) = W at *
      go_enter Try.func45, Try.ntmps45
      go_wp2_with fail
      go_at_call 58
      refine (cRows_ok n s w hn1 hn8 hs4).mono ?_
      rintro e w1 ⟨a1, n1, c1, R1, e1, rfl, h1, ⟨hp1, rfl⟩, b1⟩
      have A1 := hA.below b1
      replace hp1 := hid hp1
      go_wp2_with fail
      go_at_call 59
      refine (gWrong_call _ _ _ _ _ A1).mono ?_
      rintro e w1' ⟨rfl, rfl⟩
      rw [hW]
      replace hW := hid hW
      replace hw := hid hw
      go_wp2_with fail
      go_ret2
      exact ⟨_, _, _, [], _, rfl, Ms.nil _, by
        have := spare_wrong (l := rwData A) (s := (s : Int)) (by rw [HN.out]; exact HC.out) (by rw [hW.out]; exact hw.out)
        rw [hW.out] at this; exact this, b1, NewR.nil _⟩
  · have u0 : (Mat.wrongC (n : Int) s != 0) = true := bne_iff_ne.2 hc
    have D := hid (cRows_bad (n : Int) s w hc)
    have HS := hid (spare_none (l := rwData A) (s := s) (by rw [HN.out]; exact hc))
    rw [HN.out] at HS
    generalize Mat.wrongC (n : Int) s = e at *
    replace hc := hid hc
    go_enter Try.func45, Try.ntmps45
    go_wp2_with fail
    go_at_call 58
    refine (D.out).mono ?_
    rintro e' w1 ⟨rfl, b1⟩
    go_wp2_with fail
    go_ret2
    exact ⟨_, _, _, [], _, rfl, Ms.nil _, HS.out, b1, NewR.nil _⟩
theorem cSpare_call (a : Option Addr) (n ac : Nat) (A : List Rw) (s : Int) (w : World) (hA : Ms w a n ac A) : Calls Try.prog 45 #[.slice a n ac, .int .i64 s] w (MRes (Mat.SpareR (rwData A) s) w) := (cSpare_callN a n ac A s w hA).mono fun _ _ h => h.res

end Go.Proofs.Ytjdgfijpmljhiaa
