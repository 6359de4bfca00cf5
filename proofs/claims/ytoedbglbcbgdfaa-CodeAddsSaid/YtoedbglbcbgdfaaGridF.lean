/- Contracts: the program's Mul, all cases; the reference's MulMatrix. -/
import Derived.Test.YtoedbglbcbgdfaaGridE
namespace Go.Proofs.Ytoedbglbcbgdfaa
open Go.RowKit
set_option linter.unusedVariables false
def NilB (err : Int) (w : World) (e : Ending) (w' : World) : Prop := e = .returned (.tuple #[.slice none 0 0, .int .i64 err]) ∧ Below w.heap.size w w'
theorem NilB.res {P : List (List UInt8) → Int → Prop} {w : World} {e : Ending} {w' : World} {err : Int} (h : NilB err w e w') (hP : P [] err) : MRes P w e w' := by
  obtain ⟨rfl, hb⟩ := h
  exact ⟨_, _, _, [], err, rfl, Ms.nil _, hP, hb⟩
/-- the cases of a product -/
theorem mul_cases {A B : List (List UInt8)} {P : Prop} (h1 : Mat.wrongM A ≠ 0 → P) (h2 : Mat.wrongM A = 0 → Mat.wrongM B ≠ 0 → P) (h3 : Mat.wrongM A = 0 → Mat.wrongM B = 0 → Mat.wid A 0 ≠ B.length → P)
    (h4 : ∀ n m q, A.length = n → B.length = m → Mat.Fine A n m → Mat.Fine B m q → P) : P := by
  by_cases e1 : Mat.wrongM A = 0
  · by_cases e2 : Mat.wrongM B = 0
    · by_cases e3 : Mat.wid A 0 = B.length
      · exact h4 _ _ _ rfl rfl (e3 ▸ Mat.wrong_fine e1) (Mat.wrong_fine e2)
      · exact h3 e1 e2 e3
    · exact h2 e1 e2
  · exact h1 e1
theorem mulR_1 {A B : List (List UInt8)} (h : Mat.wrongM A ≠ 0) : Mat.MulR A B [] (Mat.wrongM A) := by unfold Mat.MulR; rw [if_pos h]; exact ⟨rfl, rfl⟩
theorem mulR_2 {A B : List (List UInt8)} (h : Mat.wrongM A = 0) (h2 : Mat.wrongM B ≠ 0) : Mat.MulR A B [] (Mat.wrongM B) := by unfold Mat.MulR; rw [if_neg (fun e => e h), if_pos h2]; exact ⟨rfl, rfl⟩
theorem mulR_3 {A B : List (List UInt8)} (h : Mat.wrongM A = 0) (h2 : Mat.wrongM B = 0) (h3 : Mat.wid A 0 ≠ B.length) : Mat.MulR A B [] 8 := by unfold Mat.MulR; rw [if_neg (fun e => e h), if_neg (fun e => e h2), if_pos h3]; exact ⟨rfl, rfl⟩
theorem mulR_4 {A B : List (List UInt8)} {n m q : Nat} (hA : Mat.Fine A n m) (hB : Mat.Fine B m q) {L : List (List UInt8)} (h : Mat.Rep L n q (Mat.mul m (Mat.ent A) (Mat.ent B))) : Mat.MulR A B L 0 := by
  unfold Mat.MulR
  rw [if_neg (fun e => e hA.wrong), if_neg (fun e => e hB.wrong), if_neg (by rw [hA.wid0, hB.rows]; exact fun e => e rfl), hA.rows, hB.rows, hB.wid0]
  exact ⟨h, rfl⟩

theorem gMul_call (a b : Option Addr) (n ac m bc : Nat) (A B : List Rw) (w : World) (hA : Ms w a n ac A) (hB : Ms w b m bc B) : Calls Try.prog 20 #[.slice a n ac, .slice b m bc] w (MRes (Mat.MulR (rwData A) (rwData B)) w) := by
  refine mul_cases (A := rwData A) (B := rwData B) (fun h => ?_) (fun h h2 => ?_) (fun h h2 h3 => ?_) (fun n' m' q e1 e2 hFA hFB => ?_)
  · exact (gMul_wrong a b n ac m bc A B w hA hB _ h 0 (.inl ⟨rfl, rfl⟩)).mono fun e w' hh => NilB.res hh (mulR_1 h)
  · exact (gMul_wrong a b n ac m bc A B w hA hB _ h2 1 (.inr ⟨rfl, h, rfl⟩)).mono fun e w' hh => NilB.res hh (mulR_2 h h2)
  · exact (gMul_fit a b n ac m bc A B w hA hB h h2 (by rw [hB.dn] at h3; exact h3)).mono fun e w' hh => NilB.res hh (mulR_3 h h2 h3)
  · obtain rfl : n' = n := e1.symm.trans hA.dn
    obtain rfl : m' = m := e2.symm.trans hB.dn
    exact (gMul_ok a b n' ac m' bc q A B w hA hB hFA hFB).mono fun e w' hh => hh.res fun L hL => mulR_4 hFA hFB hL

set_option maxHeartbeats 2000000 in
theorem rMulMatrix_1 (a b : Option Addr) (n ac m bc : Nat) (A B : List Rw) (w : World) (hA : Ms w a n ac A) (hB : Ms w b m bc B) (h : Mat.wrongM (rwData A) ≠ 0) : Calls Try.prog 21 #[.slice a n ac, .slice b m bc] w (NilB (Mat.wrongM (rwData A)) w) := by
  have CA := hid (rWrongMatrix_call a n ac A w hA)
  have t0 : (Mat.wrongM (rwData A) != 0) = true := by rw [bne_iff_ne]; exact h
  clear h
  generalize Mat.wrongM (rwData A) = e at *
  go_enter Try.func21, Try.ntmps21
  go_wp2_with fail
  go_at_call 16; refine (CA.out).mono ?_; rintro e' w1 ⟨rfl, j1, rfl⟩
  go_wp2_with fail
  go_ret2
  exact ⟨rfl, below_drewN (Below.refl _ _) _⟩
set_option maxHeartbeats 2000000 in
theorem rMulMatrix_2 (a b : Option Addr) (n ac m bc : Nat) (A B : List Rw) (w : World) (hA : Ms w a n ac A) (hB : Ms w b m bc B) (h1 : Mat.wrongM (rwData A) = 0) (h : Mat.wrongM (rwData B) ≠ 0) : Calls Try.prog 21 #[.slice a n ac, .slice b m bc] w (NilB (Mat.wrongM (rwData B)) w) := by
  have CA := hid (h1 ▸ rWrongMatrix_call a n ac A w hA)
  have CB := hid (fun j => rWrongMatrix_call b m bc B (w.drewN j) (hB.drewN j))
  have t0 : (Mat.wrongM (rwData B) != 0) = true := by rw [bne_iff_ne]; exact h
  clear h h1
  generalize Mat.wrongM (rwData B) = e at *
  go_enter Try.func21, Try.ntmps21
  go_wp2_with fail
  go_at_call 16; refine (CA.out).mono ?_; rintro e' w1 ⟨rfl, j1, rfl⟩
  go_wp2_with fail
  go_at_call 16; refine (CB.out j1).mono ?_; rintro e' w1 ⟨rfl, j2, rfl⟩
  go_wp2_with fail
  go_ret2
  exact ⟨rfl, below_drewN (Below.refl _ _) _⟩
set_option maxHeartbeats 2000000 in
theorem rMulMatrix_3 (a b : Option Addr) (n ac m bc : Nat) (A B : List Rw) (w : World) (hA : Ms w a n ac A) (hB : Ms w b m bc B) (h1 : Mat.wrongM (rwData A) = 0) (h2 : Mat.wrongM (rwData B) = 0) (h3 : Mat.wid (rwData A) 0 ≠ m) : Calls Try.prog 21 #[.slice a n ac, .slice b m bc] w (NilB 8 w) := by
  have CA := hid (h1 ▸ rWrongMatrix_call a n ac A w hA)
  have CB := hid (fun j => h2 ▸ rWrongMatrix_call b m bc B (w.drewN j) (hB.drewN j))
  have hFA := Mat.wrong_fine h1
  have hn1 : 1 ≤ n := by have := hFA.n1; rw [rwData_length, hA.cnt] at this; omega
  obtain ⟨ab, aoff, rfl, _⟩ := hA.sl.addr (by omega)
  obtain ⟨ra, rc, _, e0⟩ := hA.heads (m := Mat.wid (rwData A) 0) hFA.cols 0 (by rw [hA.cnt]; omega)
  have e0 := e0 w (Below.refl _ _)
  simp only [Nat.add_zero] at e0
  generalize Mat.wid (rwData A) 0 = k at *
  have t0 : ((k : Int) != (m : Int)) = true := by rw [bne_iff_ne]; omega
  have t1 : (k != m) = true := by rw [bne_iff_ne]; exact h3
  clear h1 h2 hFA h3
  go_enter Try.func21, Try.ntmps21
  go_wp2_with fail
  go_at_call 16; refine (CA.out).mono ?_; rintro e' w1 ⟨rfl, j1, rfl⟩
  go_wp2_with fail
  go_at_call 16; refine (CB.out j1).mono ?_; rintro e' w1 ⟨rfl, j2, rfl⟩
  go_wp2_with fail
  go_ret2
  exact ⟨rfl, below_drewN (Below.refl _ _) _⟩
set_option maxRecDepth 100000 in
set_option maxHeartbeats 4000000 in
theorem rMulMatrix_ok (a b : Option Addr) (n ac m bc q : Nat) (A B : List Rw) (w : World) (hA : Ms w a n ac A) (hB : Ms w b m bc B) (hFA : Mat.Fine (rwData A) n m) (hFB : Mat.Fine (rwData B) m q) :
    Calls Try.prog 21 #[.slice a n ac, .slice b m bc] w (MRes (fun L e => Mat.Rep L n q (Mat.mul m (Mat.ent (rwData A)) (Mat.ent (rwData B))) ∧ e = 0) w) := by
  have CA := hid (hFA.wrong ▸ rWrongMatrix_call a n ac A w hA)
  have CB := hid (fun j => hFB.wrong ▸ rWrongMatrix_call b m bc B (w.drewN j) (hB.drewN j))
  have HA := hid hA.cnt
  have HB := hid hB.cnt
  have hn1 := hFA.n1; have hn2 := hFA.n2; have hm1 := hFB.n1; have hm2 := hFB.n2; have hq1 := hFB.m1; have hq2 := hFB.m2
  obtain ⟨ab, aoff, rfl, _⟩ := hA.sl.addr (by omega)
  obtain ⟨bb, boff, rfl, _⟩ := hB.sl.addr (by omega)
  have hA0 : 0 < A.length := by rw [HA.out]; omega
  have hB0 : 0 < B.length := by rw [HB.out]; omega
  have XA := hid (hA.heads hFA.cols)
  have XB := hid (hB.heads hFB.cols)
  obtain ⟨ra0, rc0, _, q0⟩ := XA.out 0 hA0
  have q0 := q0 w (Below.refl _ _)
  simp only [Nat.add_zero] at q0
  clear hFA hFB hA hB
  go_enter Try.func21, Try.ntmps21
  go_wp2_with fail
  go_at_call 16; refine (CA.out).mono ?_; rintro e' w1 ⟨rfl, j1, rfl⟩
  go_wp2_with fail
  go_at_call 16; refine (CB.out j1).mono ?_; rintro e' w1 ⟨rfl, j2, rfl⟩
  go_wp2_with fail
  go_loopg [8, 33] n (fun g o i wr => ∃ (k : Nat) (R : List Rw), g = n - k ∧ k ≤ n ∧ i = .int .i64 (k : Int) ∧ Hid (R.length = k) ∧ Mb w wr none w.heap.size o R ∧ Hid (∀ i (hi : i < R.length), R[i].l.length = q ∧ ∀ j, j < q → R[i].l.getD j 0 = mulTo m (rwData A) (rwData B) i j))
  case atStart => exact ⟨0, [], rfl, by omega, rfl, hid rfl, Mb.nil w _ (below_drewN (Below.refl _ _) _) _ (Nat.le_refl _), hid (fun i hi => absurd hi (by simp))⟩
  case round =>
    clear CA CB q0
    obtain ⟨k, R, rfl, hk, rfl, HK, hM, HR⟩ := hrel
    obtain ⟨wo, rfl⟩ : ∃ wo : World, wo = wr := ⟨_, rfl⟩
    have hbr := hM.own.belowOf (b := w.heap.size) (Nat.le_refl _) (by simp)
    have hszo := hbr.size
    obtain ⟨oa, oc, rfl, hMs⟩ := hM.ms
    by_cases hlt : k < n
    · have hkA : k < A.length := by rw [HA.out]; exact hlt
      obtain ⟨ra, rc, hra, e0⟩ := XA.out k hkA
      have E0 := hid e0
      obtain ⟨rb, rbc, _, e1⟩ := XB.out 0 hB0
      have e1 := e1 wo hbr
      simp only [Nat.add_zero] at e1
      obtain ⟨pa, poff, rfl, _⟩ := hra.addr (by omega)
      have i0 : (0 : Int) ≤ (k : Int) := Int.natCast_nonneg _
      have i1 : (k : Int) < (n : Int) := by omega
      clear e0
      go_wp2_with fail
      clear e1
      go_loopg [10, 40] q (fun g r i wr => ∃ (jj : Nat) (l : List UInt8), g = q - jj ∧ jj ≤ q ∧ i = .int .i64 (jj : Int) ∧ Hid (l.length = jj) ∧ wr.ownsRow wo.heap.size 5 1 r l.length (cb l) ∧ Below wo.heap.size wo wr ∧ Hid (∀ j, j < jj → l.getD j 0 = mulTo m (rwData A) (rwData B) k j))
      case atStart => exact ⟨0, [], rfl, by omega, rfl, hid rfl, World.ownsRow_nil _ _ _ _, Below.refl _ _, hid (fun j hj => absurd hj (by omega))⟩
      case round =>
        obtain ⟨jj, l, rfl, hjj, rfl, HL, hoL, hbo, HL2⟩ := hrel
        obtain ⟨wp, rfl⟩ : ∃ wp : World, wp = wr := ⟨_, rfl⟩
        by_cases hlt2 : jj < q
        · have i2 : (0 : Int) ≤ (jj : Int) := Int.natCast_nonneg _
          have i3 : (jj : Int) < (q : Int) := by omega
          obtain ⟨va, vc, rfl, _⟩ := own_sl hoL
          go_wp2_with fail
          go_loopg [12, 45] m (fun g x i wr => ∃ (kk : Nat), g = m - kk ∧ kk ≤ m ∧ i = .int .i64 (kk : Int) ∧ x = .int .u8 ((mulTo kk (rwData A) (rwData B) k jj).toNat : Int) ∧ wr.ownsRow wo.heap.size 5 1 (.slice va l.length vc) l.length (cb l) ∧ Below wo.heap.size wo wr)
          case atStart => exact ⟨0, rfl, by omega, rfl, rfl, hoL, hbo⟩
          case round =>
            clear hoL hbo
            obtain ⟨kk, rfl, hkk, rfl, rfl, hoL, hbo⟩ := hrel
            have hbw := bnext hbr hbo
            by_cases hlt3 : kk < m
            · have hkB : kk < B.length := by rw [HB.out]; exact hlt3
              have e0 := E0.out wr hbw
              have hx := Bt.at (hra.below hbw) kk hlt3
              obtain ⟨rb, rbc, hrb, e1⟩ := XB.out kk hkB
              have e1 := e1 wr hbw
              obtain ⟨pb, pboff, rfl, _⟩ := hrb.addr (by omega)
              have hy := Bt.at (hrb.below hbw) jj hlt2
              have h8 := at8_lt A[k].l kk
              have h9 := at8_lt B[kk].l jj
              have h7 := Mat.lt (mulTo kk (rwData A) (rwData B) k jj)
              have e8 : (mulTo (kk + 1) (rwData A) (rwData B) k jj).toNat = (mulTo kk (rwData A) (rwData B) k jj).toNat ^^^ Fld.mul (at8 A[k].l kk) (at8 B[kk].l jj) := by
                rw [mulTo_succ, Mat.toNat_add, Mat.toNat_mul, ent_rw hkA, ent_rw hkB]; rfl
              have hxx := u8_xor_nat (mulTo kk (rwData A) (rwData B) k jj).toNat (Fld.mul (at8 A[k].l kk) (at8 B[kk].l jj)) h7 (Fld.mul_lt _ _)
              rw [← e8] at hxx
              have i4 : (0 : Int) ≤ (kk : Int) := Int.natCast_nonneg _
              have i5 : (kk : Int) < (m : Int) := by omega
              have D := hid (fun W => (rMul_call (at8 A[k].l kk) (at8 B[kk].l jj) h8 h9 W).mono fun _ _ h => h.drew)
              clear e8
              generalize at8 A[k].l kk = xa at *
              generalize at8 B[kk].l jj = xb at *
              generalize Fld.mul xa xb = v at *
              generalize (mulTo kk (rwData A) (rwData B) k jj).toNat = z0 at *
              generalize hz1 : (mulTo (kk + 1) (rwData A) (rwData B) k jj).toNat = z1 at *
              replace hz1 := hid hz1
              go_wp2_with fail
              go_quiet ((go_at_call 44; exact Calls.quiet_of (D.out _)))
              go_wp2_with fail
              go_roundg (m - (kk + 1))
              case measure => omega
              case rel => exact ⟨kk + 1, rfl, by omega, by go_num, by rw [hz1.out], own_drewN hoL _, below_drewN hbo _⟩
            · obtain rfl : kk = m := by omega
              have hszp := hbo.size
              have hlq : l.length ≤ 400 := by rw [HL.out]; omega
              generalize hy : mulTo kk (rwData A) (rwData B) k jj = y at *
              replace hy := hid hy
              go_wp2_with (refine wpList_append_bytes rfl (.tmp 66) (.tmp 68) rfl wo.heap.size (.slice va l.length vc) l [y] rfl (hoL.alloc _) (some ⟨wr.heap.size, 0, none⟩) 1 1 rfl (lit_bt wr _ [y] (by simp [maxLen]) rfl) (by simp; omega) (by simp; omega) ?_; intro v2 w4 ho2 hg2)
              go_roundg (q - (jj + 1))
              case measure => omega
              case rel =>
                refine ⟨jj + 1, l ++ [y], rfl, by omega, by go_num, hid (by simp; exact HL.out), ho2, below_grown (hoL.alloc _) (hbo.alloc hszp _) (by simp; omega) hg2, hid (fun j hj => ?_)⟩
                by_cases e : j < l.length
                · have := HL2.out j (by rw [← HL.out]; exact e)
                  rw [← this, getD_app _ _ e]
                · have e2 : j = jj := by have := HL.out; omega
                  subst e2
                  rw [hy.out, getD_end _ _ HL.out]
        · obtain rfl : jj = q := by omega
          have M3 := hM.below hbo
          have hszp := hbo.size
          rw [HL.out] at hoL
          obtain ⟨g, cap, rfl, hbg, hgl, hnc, hcm⟩ := own_pos hoL (by omega)
          have hR12 : R.length ≤ 65536 := by rw [HK.out]; omega
          go_wp2_with (refine wpList_append_row rfl (.tmp 71) (.tmp 73) 23 und_Matrix rfl w.heap.size _ R rfl M3 ⟨some ⟨g, 0, none⟩, jj, cap, l⟩ _ rfl rfl (own_bt hoL) (apart_own M3.own.own hoL _) hR12 (by omega) ?_; intro v5 w5 M5 g5)
          go_roundg (n - (k + 1))
          case measure => omega
          case rel =>
            refine ⟨k + 1, R ++ [⟨some ⟨g, 0, none⟩, jj, cap, l⟩], rfl, by omega, by go_num, hid (by simp; exact HK.out), M5, hid (fun i hi => ?_)⟩
            by_cases e : i < R.length
            · rw [List.getElem_append_left e]; exact HR.out i e
            · have hi' : i < R.length + 1 := by simpa using hi
              have e2 : i = k := by have := HK.out; omega
              subst e2
              rw [List.getElem_append_right (by omega)]
              simp only [HK.out, Nat.sub_self, List.getElem_cons_zero]
              exact ⟨HL.out, HL2.out⟩
    · obtain rfl : k = n := by omega
      go_wp2_with fail
      go_ret2
      exact ⟨_, _, _, R, _, rfl, hMs, ⟨rep_of_rows (by rw [rwData_length]; exact HK.out) (fun i hi => by
        have hi' : i < R.length := by rwa [rwData_length] at hi
        rw [rwData_at hi]; exact HR.out i hi'), rfl⟩, hbr⟩
theorem rMulMatrix_call (a b : Option Addr) (n ac m bc : Nat) (A B : List Rw) (w : World) (hA : Ms w a n ac A) (hB : Ms w b m bc B) : Calls Try.prog 21 #[.slice a n ac, .slice b m bc] w (MRes (Mat.MulR (rwData A) (rwData B)) w) := by
  refine mul_cases (A := rwData A) (B := rwData B) (fun h => ?_) (fun h h2 => ?_) (fun h h2 h3 => ?_) (fun n' m' q e1 e2 hFA hFB => ?_)
  · exact (rMulMatrix_1 a b n ac m bc A B w hA hB h).mono fun e w' hh => NilB.res hh (mulR_1 h)
  · exact (rMulMatrix_2 a b n ac m bc A B w hA hB h h2).mono fun e w' hh => NilB.res hh (mulR_2 h h2)
  · exact (rMulMatrix_3 a b n ac m bc A B w hA hB h h2 (by rw [hB.dn] at h3; exact h3)).mono fun e w' hh => NilB.res hh (mulR_3 h h2 h3)
  · obtain rfl : n' = n := e1.symm.trans hA.dn
    obtain rfl : m' = m := e2.symm.trans hB.dn
    exact (rMulMatrix_ok a b n' ac m' bc q A B w hA hB hFA hFB).mono fun e w' ⟨x1, x2, x3, x4, x5, y1, y2, y3, y4⟩ => ⟨x1, x2, x3, x4, x5, y1, y2, by rw [y3.2]; exact mulR_4 hFA hFB y3.1, y4⟩

end Go.Proofs.Ytoedbglbcbgdfaa
