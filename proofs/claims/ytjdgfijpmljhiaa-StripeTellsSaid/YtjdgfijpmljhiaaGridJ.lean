/- Contract: what undoes a matrix, the reference's. -/
import Derived.Test.YtjdgfijpmljhiaaGridI
namespace Go.Proofs.Ytjdgfijpmljhiaa
open Go.RowKit
set_option linter.unusedVariables false

set_option maxRecDepth 100000 in
set_option maxHeartbeats 1000000 in
theorem rInvert_1 (a : Option Addr) (n ac : Nat) (A : List Rw) (w : World) (hA : Ms w a n ac A) (h : Mat.wrongM (rwData A) ≠ 0) : Calls Try.prog 71 #[.slice a n ac] w (NilB (Mat.wrongM (rwData A)) w) := by
  have CA := hid (rWrongMatrix_call a n ac A w hA)
  have t0 : (Mat.wrongM (rwData A) != 0) = true := by rw [bne_iff_ne]; exact h
  clear h
  generalize Mat.wrongM (rwData A) = e at *
  go_enter Try.func71, Try.ntmps71
  go_wp2_with fail
  go_at_call 65; refine (CA.out).mono ?_; rintro e' w1 ⟨rfl, q, hq⟩
  have b1 : Below w.heap.size w w1 := by rw [hq]; exact below_drewN (Below.refl _ _) q
  replace hq := hid hq
  go_wp2_with fail
  go_ret2
  exact ⟨rfl, b1⟩
set_option maxRecDepth 100000 in
set_option maxHeartbeats 1000000 in
theorem rInvert_2 (a : Option Addr) (n ac : Nat) (A : List Rw) (w : World) (hA : Ms w a n ac A) (h1 : Mat.wrongM (rwData A) = 0) (h3 : Mat.wid (rwData A) 0 ≠ n) : Calls Try.prog 71 #[.slice a n ac] w (NilB 8 w) := by
  have CA := hid (h1 ▸ rWrongMatrix_call a n ac A w hA)
  have hFA := Mat.wrong_fine h1
  have hn1 : 1 ≤ n := by have := hFA.n1; rw [rwData_length, hA.cnt] at this; omega
  obtain ⟨ab, aoff, rfl, _⟩ := hA.sl.addr (by omega)
  obtain ⟨ra, rc, _, e0⟩ := hA.heads (m := Mat.wid (rwData A) 0) hFA.cols 0 (by rw [hA.cnt]; omega)
  replace e0 := hid e0
  generalize Mat.wid (rwData A) 0 = k at *
  have t0 : ((k : Int) != (n : Int)) = true := by rw [bne_iff_ne]; omega
  have t1 : (k != n) = true := by rw [bne_iff_ne]; exact h3
  clear h1 hFA h3
  go_enter Try.func71, Try.ntmps71
  go_wp2_with fail
  go_at_call 65; refine (CA.out).mono ?_; rintro e' w1 ⟨rfl, q, hq⟩
  have b1 : Below w.heap.size w w1 := by rw [hq]; exact below_drewN (Below.refl _ _) q
  have c0 := e0.out w1 b1
  simp only [Nat.add_zero] at c0
  replace hq := hid hq
  go_wp2_with fail
  go_ret2
  exact ⟨rfl, b1⟩
/-- What is left of the walk when both halves lie in memory. -/
theorem step_start {n : Nat} {A : List (List UInt8)} (hA : Mat.Fine A n n) {R : List Wr} (hR : R.length = n) (h : ∀ i (hi : i < R.length) (hA : i < A.length), R[i].l = sideRow n i A[i]) :
    Mat.Step n (Mat.ent A) (fun i j => Mat.ent (wrData R) i j) (fun i j => Mat.ent (wrData R) i (n + j)) (fun j => n ≤ j ∧ j < n) := by
  have hl : ∀ i (hi : i < A.length), A[i].length = n := fun i hi => hA.cols _ (List.getElem_mem hi)
  refine (Mat.Step.start n (Mat.ent A)).congr (fun i j hi hj => ?_) (fun i j hi hj => ?_) (fun j hj => absurd hj (by omega))
  · have hiA : i < A.length := by rw [hA.rows]; exact hi
    have hiR : i < R.length := by rw [hR]; exact hi
    show Mat.ent (wrData R) i j = Mat.ent A i j
    rw [ent_wr hiR, h i hiR hiA, sideRow_left (hl i hiA) hj, Mat.ent_at hiA]
  · have hiA : i < A.length := by rw [hA.rows]; exact hi
    have hiR : i < R.length := by rw [hR]; exact hi
    show Mat.ent (wrData R) i (n + j) = _
    rw [ent_wr hiR, h i hiR hiA, sideRow_right (hl i hiA) hi hj]
set_option maxRecDepth 100000 in
set_option maxHeartbeats 4000000 in
theorem rInvert_ok (a : Option Addr) (n ac : Nat) (A : List Rw) (w : World) (hA : Ms w a n ac A) (hFA : Mat.Fine (rwData A) n n) : Calls Try.prog 71 #[.slice a n ac] w (MRes (InvP n (Mat.ent (rwData A))) w) := by
  have CA := hid (hFA.wrong ▸ rWrongMatrix_call a n ac A w hA)
  have HA := hid hA.cnt
  have hn1 := hFA.n1; have hn2 := hFA.n2
  obtain ⟨ab, aoff, rfl, _⟩ := hA.sl.addr (by omega)
  have hA0 : 0 < A.length := by rw [HA.out]; omega
  have XA := hid (hA.heads hFA.cols)
  have HF := hid hFA
  obtain ⟨m, hm⟩ : ∃ m, m = n + n := ⟨_, rfl⟩
  have HM := hid hm
  have hm24 : m ≤ 24 := by omega
  have hnm : n < m := by omega
  clear hm
  obtain ⟨ra0, rc0, _, q0⟩ := XA.out 0 hA0
  replace q0 := hid q0
  clear hFA hA
  go_enter Try.func71, Try.ntmps71
  go_wp2_with fail
  go_at_call 65; refine (CA.out).mono ?_; rintro e' w1 ⟨rfl, q, hq⟩
  have b1 : Below w.heap.size w w1 := by rw [hq]; exact below_drewN (Below.refl _ _) q
  have c0 := q0.out w1 b1
  simp only [Nat.add_zero] at c0
  replace hq := hid hq
  go_wp2_with fail
  clear c0 q0 CA
  go_loopg [6, 35] n (fun g s6 s35 wr => ∃ (k : Nat) (R : List Wr), g = n - k ∧ k ≤ n ∧ s35 = .int .i64 (k : Int) ∧ Hid (R.length = k) ∧ Mw w1 wr s6 R ∧ Hid (∀ i (hi : i < R.length) (hA : i < A.length), R[i].l = sideRow n i A[i].l))
  case atStart => exact ⟨0, [], rfl, by omega, rfl, hid rfl, Mw.nil _, hid (fun i hi => absurd hi (by simp))⟩
  case round =>
    obtain ⟨k, R, rfl, hk, rfl, HK, hM, HR⟩ := hrel
    obtain ⟨wo, rfl⟩ : ∃ wo : World, wo = wr := ⟨_, rfl⟩
    have hbo := hM.below
    by_cases hlt : k < n
    · have hkA : k < A.length := by rw [HA.out]; exact hlt
      obtain ⟨ra, rc, hra, e0⟩ := XA.out k hkA
      have hbA : Below w.heap.size w (wo.alloc (.cells #[] 5)) := (bnext b1 hbo).alloc (bnext b1 hbo).size _
      have e0 := e0 _ hbA
      have hrl := hid (Bt.n hra)
      have s1 : IntKind.i64.wrap ((n : Int) + (k : Int)) = (n : Int) + (k : Int) := IntWalk.i64_in _ (by omega)
      have s2 : (0 : Int) ≤ (n : Int) + (k : Int) := by omega
      have s3 : ((n : Int) + (k : Int)).toNat = n + k := by omega
      have s4 : (n : Int) + (k : Int) < (m : Int) := by have := HM.out; omega
      have hl5 : A[k].l.length ≤ 1000 := by rw [hrl.out]; omega
      go_wp2_with (first
        | (refine wpList_append_ob rfl (.tmp 38) (.tmp 42) rfl wo.heap.size (.slice (some ⟨wo.heap.size, 0, none⟩) 0 0) [] A[k].l rfl (OB.lit (Below.refl _ _) _ [] (by decide) rfl) ra n rc rfl (hra.below hbA) (by simp; omega) (by simp) ?_; intro v2 w2 ho2 hg2; rw [List.nil_append] at ho2; have hz2 := hg2.size)
        | (refine wpList_append_zeros rfl (.tmp 43) (.tmp 44) rfl wo.heap.size v2 A[k].l rfl ho2 n rfl (by omega) (by omega) (by simp at hz2; omega) ?_; intro v3 w3 ho3 hg3; have ho4 := ho3.own; rw [show (A[k].l ++ List.replicate n (0 : UInt8)).length = m by simp [hrl.out, HM.out]] at ho4; obtain ⟨g3, c3, rfl, hb3, hl3, hn3, hm3⟩ := own_pos ho4 (by omega); have k1 := byte_at ho4 (n + k) (by have := HM.out; omega); have k2 := byte_free ho4 (n + k); have hB3 : Below wo.heap.size wo w3 := ho3.belowOf (Nat.le_refl _) (fun k e => by cases e); have hB4 : Hid (Below wo.heap.size wo (w3.setCell ⟨g3, n + k, none⟩ (.int .u8 1))) := hid (hB3.setCell hb3 _); have ho5 : (w3.setCell ⟨g3, n + k, none⟩ (.int .u8 1)).ownsRow wo.heap.size 5 1 (.slice (some ⟨g3, 0, none⟩) m c3) m (cb ((A[k].l ++ List.replicate n 0).set (n + k) 1)) := byte_set ho4 (n + k) 1 1 rfl; rw [sideRow_set n k _ hrl.out] at ho5; replace ho5 := hid ho5; have hM4 := hid (hM.keep hB4.out))
        | (refine wpList_append_row rfl (.tmp 51) (.tmp 53) 50 und_rowst rfl w1.heap.size _ (R.map Wr.rw) rfl hM4.out.mb ⟨some ⟨g3, 0, none⟩, m, c3, sideRow n k A[k].l⟩ _ (World.size_setCell _ _ _) rfl (own_bt ho5.out) (apart_own hM4.out.mb.own.own ho5.out _) (by rw [List.length_map, HK.out]; omega) (by rw [World.size_setCell]; have := hbo.size; omega) ?_; intro v5 w5 M5 g5))
      have hsl : (sideRow n k A[k].l).length = m := by rw [sideRow_length hrl.out, HM.out]
      go_roundg (n - (k + 1))
      case measure => omega
      case rel =>
        refine ⟨k + 1, R ++ [⟨g3, c3, sideRow n k A[k].l⟩], rfl, by omega, by go_num, hid (by simp; exact HK.out), hM.push (hB4.out.alloc (by rw [World.size_setCell]; exact hB3.size) _) ?_ hb3 (by simpa [Wr.rw, hsl] using M5) g5, hid (fun i hi hiA => ?_)⟩
        · simp only [Wr.v, hsl]
          exact own_mono (own_below ho5.out ((Below.refl _ _).alloc (Nat.le_refl _) _)) hbo.size
        · by_cases e : i < R.length
          · rw [List.getElem_append_left e]; exact HR.out i e hiA
          · have hi' : i < R.length + 1 := by simpa using hi
            have e2 : i = k := by have := HK.out; omega
            subst e2
            rw [List.getElem_append_right (by omega)]
            simp only [HK.out, Nat.sub_self, List.getElem_cons_zero]
    · obtain rfl : n = k := by omega
      obtain ⟨G, cap, rfl, hW⟩ := hM.wk (m := m) HK.out hn1 (fun r hr => by
        obtain ⟨i, hi, rfl⟩ := List.getElem_of_mem hr
        have hiA : i < A.length := by rw [HA.out, ← HK.out]; exact hi
        obtain ⟨_, _, hb, _⟩ := XA.out i hiA
        rw [HR.out i hi hiA, sideRow_length (Bt.n hb), HM.out])
      have HS := hid (step_start HF.out HK.out (fun i hi hiA => by rw [HR.out i hi (by simpa [rwData] using hiA), rwData_at]))
      clear hM HR HK hlt hbo
      go_wp2_with fail
      go_loopg [9] n (fun g s9 wr => ∃ (c : Nat) (z : Int) (R : List Wr), g = c ∧ c ≤ n ∧ s9 = .int .i64 z ∧ Hid (z + 1 = c) ∧ Wk w1 wr G n m cap R ∧ Hid (Mat.Step n (Mat.ent (rwData A)) (fun i j => Mat.ent (wrData R) i j) (fun i j => Mat.ent (wrData R) i (n + j)) (fun j => c ≤ j ∧ j < n)))
      case atStart => exact ⟨n, (n : Int) - 1, R, rfl, by omega, by go_num, hid (by omega), hW, HS⟩
      case round =>
        clear hW HS
        obtain ⟨c, z, R, hgc, hc, rfl, hz, hW, HS⟩ := hrel
        obtain rfl := hgc.symm
        obtain ⟨wo, rfl⟩ : ∃ wo : World, wo = wr := ⟨_, rfl⟩
        rcases c with _ | c
        · obtain rfl : z = -1 := by have := hz.out; omega
          clear hz
          have hu := hid (HS.out.done (fun j hj => ⟨by omega, hj⟩))
          go_wp2_with fail
          go_loopg [17, 174] n (fun g s17 s174 wr => ∃ (k : Nat) (K : List Rw), g = n - k ∧ k ≤ n ∧ s174 = .int .i64 (k : Int) ∧ Hid (K.length = k) ∧ Mb wo wr none wo.heap.size s17 K ∧ Hid (∀ i (hi : i < K.length) (hiR : i < R.length), K[i].l = R[i].l.drop n))
          case atStart => exact ⟨0, [], rfl, by omega, rfl, hid rfl, Mb.nil _ _ (Below.refl _ _) _ (Nat.le_refl _), hid (fun i hi => absurd hi (by simp))⟩
          case round =>
            obtain ⟨k, K, rfl, hk, rfl, HK, hM, HR⟩ := hrel
            obtain ⟨wp, rfl⟩ : ∃ wp : World, wp = wr := ⟨_, rfl⟩
            have hbo : Below wo.heap.size wo wp := hM.own.belowOf (Nat.le_refl _) (fun k e => by cases e)
            by_cases hlt : k < n
            · have hkR : k < R.length := by rw [hW.len]; exact hlt
              have hWk := hW.keep hbo
              have x0 := hWk.at k hkR
              have hbt := hWk.mo.rw (List.getElem_mem hkR)
              have hwd := hid (hW.wid _ (List.getElem_mem hkR))
              have hgl := (hW.mo.rlt (List.getElem_mem hkR)).2
              rw [hwd.out] at hbt
              have hle := hbt.le
              have hbs := Bt.slice hbt (lo := n) (hi := m) (by omega) (Nat.le_refl _)
              rw [if_neg (by omega), Option.map_some, add_off, Nat.zero_add, Nat.mul_one, List.take_of_length_le (by rw [List.length_drop, hwd.out]; exact Nat.le_refl _)] at hbs
              replace hbt := hid hbt
              replace hWk := hid hWk
              have hap : Apart _ (⟨some ⟨R[k].g, n, none⟩, m - n, R[k].cap - n, R[k].l.drop n⟩ : Rw) := apart_old hM.own.own (base := wo.heap.size) (fun _ b off e => by cases e; exact hgl)
              have hK12 : K.length ≤ 65536 := by rw [HK.out]; omega
              have hszp := hbo.size
              go_wp2_with (refine wpList_append_row rfl (.tmp 178) (.tmp 182) 88 und_Matrix rfl wo.heap.size _ K rfl hM ⟨some ⟨R[k].g, n, none⟩, m - n, R[k].cap - n, R[k].l.drop n⟩ _ rfl rfl hbs hap hK12 hszp ?_; intro v5 w5 M5 g5)
              go_roundg (n - (k + 1))
              case measure => omega
              case rel =>
                refine ⟨k + 1, K ++ [⟨some ⟨R[k].g, n, none⟩, m - n, R[k].cap - n, R[k].l.drop n⟩], rfl, by omega, by go_num, hid (by simp; exact HK.out), M5, hid (fun i hi hiR => ?_)⟩
                by_cases e : i < K.length
                · rw [List.getElem_append_left e]; exact HR.out i e hiR
                · have hi' : i < K.length + 1 := by simpa using hi
                  have e2 : i = k := by have := HK.out; omega
                  subst e2
                  rw [List.getElem_append_right (by omega)]
                  simp only [HK.out, Nat.sub_self, List.getElem_cons_zero]
            · obtain rfl : n = k := by omega
              obtain ⟨a', cap', rfl, hMs⟩ := hM.ms
              go_wp2_with fail
              go_ret2
              refine ⟨_, _, _, K, 0, rfl, hMs, .inr ⟨_, rep_of_rows (by rw [rwData_length]; exact HK.out) (fun i hi => ?_), hu.out, rfl⟩, bnext b1 (bnext hW.below hbo)⟩
              have hiK : i < K.length := by rw [← rwData_length]; exact hi
              have hiR : i < R.length := by rw [hW.len, ← HK.out]; exact hiK
              rw [rwData_at hi, HR.out i hiK hiR, List.length_drop, hW.wid _ (List.getElem_mem hiR)]
              refine ⟨by have := HM.out; omega, fun j hj => ?_⟩
              rw [ent_wr hiR]
              simp [List.getD]
        · obtain rfl : z = (c : Int) := by have := hz.out; omega
          clear hz
          have hcn : c < n := by omega
          have hcm : c < m := by omega
          have hcR : c < R.length := by rw [hW.len]; exact hcn
          have i0 : (0 : Int) ≤ (c : Int) := by omega
          have i1 : (c : Int) < (n : Int) := by omega
          have i2 : (c : Int) < (m : Int) := by omega
          go_wp2_with fail
          go_loopg [10, 11] (c + 1) (fun g s10 s11 wr => ∃ (k : Nat) (z : Int), g = c + 1 - k ∧ k ≤ c + 1 ∧ s11 = .int .i64 (k : Int) ∧ s10 = .int .i64 z ∧ wo = wr ∧ Hid ((z = -1 ∧ ∀ i, i < k → Mat.ent (wrData R) i c = 0) ∨ ∃ p : Nat, z = p ∧ p < k ∧ Mat.ent (wrData R) p c ≠ 0))
          case atStart => exact ⟨0, -1, rfl, by omega, rfl, rfl, rfl, hid (.inl ⟨rfl, fun i hi => absurd hi (by omega)⟩)⟩
          case round =>
            obtain ⟨k, z, rfl, hk, rfl, rfl, rfl, HZ⟩ := hrel
            by_cases hkc : k ≤ c
            · have hkR : k < R.length := by rw [hW.len]; omega
              have x0 := hW.at k hkR
              have x1 := hW.byte k c hkR hcm
              have j0 : (0 : Int) ≤ (k : Int) := by omega
              have j1 : (k : Int) < (n : Int) := by omega
              obtain ⟨y, hy⟩ : ∃ y, Mat.ent (wrData R) k c = y := ⟨_, rfl⟩
              rw [hy] at x1
              replace hy := hid hy
              by_cases hy0 : y.toNat = 0
              · rw [hy0] at x1
                have hyz : Hid (y = 0) := hid (UInt8.toNat_inj.1 hy0)
                clear hy0
                go_wp2_with fail
                go_roundg (c + 1 - (k + 1))
                case measure => omega
                case rel =>
                  refine ⟨k + 1, z, rfl, by omega, by go_num, rfl, rfl, hid ?_⟩
                  rcases HZ.out with ⟨h1, h2⟩ | ⟨p, h1, h2, h3⟩
                  · refine .inl ⟨h1, fun i hi => ?_⟩
                    by_cases e : i = k
                    · subst e; rw [hy.out]; exact hyz.out
                    · exact h2 i (by omega)
                  · exact .inr ⟨p, h1, by omega, h3⟩
              · have u0 : ((y.toNat : Int) != 0) = true := by rw [bne_iff_ne]; omega
                have u1 : (y.toNat != 0) = true := by rw [bne_iff_ne]; exact hy0
                have hyz : Hid (y ≠ 0) := hid (fun e => hy0 (by rw [e]; rfl))
                go_wp2_with fail
                go_roundg (c + 1 - (k + 1))
                case measure => omega
                case rel => exact ⟨k + 1, k, rfl, by omega, by go_num, rfl, rfl, hid (.inr ⟨k, rfl, by omega, by rw [hy.out]; exact hyz.out⟩)⟩
            · obtain rfl : k = c + 1 := by omega
              clear hk hkc
              rcases HZ.out with ⟨rfl, hz0⟩ | ⟨p, rfl, hp, hne⟩
              · have hst := hid (HS.out.stuck hcn (by omega) (fun i hi hic => hz0 i (by omega)))
                have hbl := hW.below
                clear HZ hz0
                go_wp2_with fail
                go_ret2
                exact ⟨_, _, _, [], 6, rfl, Ms.nil _, .inl ⟨rfl, rfl, hst.out⟩, bnext b1 hbl⟩
              · clear HZ
                have hpn : p < n := by omega
                have hpR : p < R.length := by rw [hW.len]; exact hpn
                have x0 := hW.at p hpR
                have x1 := hW.at c hcR
                have x2 := hW.mo.free p
                have x3 := hW.mo.free c
                have j0 : (0 : Int) ≤ (p : Int) := by omega
                have j1 : (p : Int) < (n : Int) := by omega
                have u0 : ¬ (p : Int) < 0 := by omega
                have hG1 := hW.swap p c hpR hcR
                simp only [Wr.v, hW.wid _ (List.getElem_mem hcR), hW.wid _ (List.getElem_mem hpR)] at hG1
                replace hG1 := hid hG1
                replace hne := hid hne
                obtain ⟨V, rfl⟩ : ∃ V : World, V = wo := ⟨_, rfl⟩
                clear hW
                go_upto_region 26 with (fail)
                go_cut [91] (fun s91 wc => ∃ R2, Wk w1 wc G n m cap R2 ∧ Hid (R2 = (R.set p R[c]).set c R[p]))
                case first =>
                  by_cases hpc : p = c
                  · subst hpc
                    go_region
                    all_goals (go_wp2_with fail; go_meet)
                    exact ⟨_, hG1.out.drewN 1, hid rfl⟩
                  · go_region
                    all_goals (go_wp2_with fail; go_meet)
                    exact ⟨_, hG1.out.drewN 1, hid rfl⟩
                case rest =>
                  obtain ⟨R2, hW2, hR2⟩ := hcut
                  clear x0 x1 x2 x3 hG1
                  have HS2 := hid ((HS.out.swap hpn hcn (by omega) (by omega)).congr (work' := fun i j => Mat.ent (wrData R2) i j) (out' := fun i j => Mat.ent (wrData R2) i (n + j)) (P' := fun j => c + 1 ≤ j ∧ j < n) (fun i j _ _ => by rw [hR2.out, ent_swapW R p c hpR hcR]) (fun i j _ _ => by rw [hR2.out, ent_swapW R p c hpR hcR]; rfl) (fun j hj => ⟨hj, hj.2⟩))
                  have hne2 : Hid (Mat.ent (wrData R2) c c ≠ 0) := hid (by
                    rw [hR2.out, ent_swapW R p c hpR hcR]
                    unfold Mat.swapM
                    by_cases e : c = p
                    · subst e; rw [if_pos rfl]; exact hne.out
                    · rw [if_neg e, if_pos rfl]; exact hne.out)
                  clear HS hR2 hne u0
                  obtain ⟨V, rfl⟩ : ∃ V : World, V = wc := ⟨_, rfl⟩
                  have hcR : c < R2.length := by rw [hW2.len]; exact hcn
                  have x0 := hW2.at c hcR
                  have x1 := hW2.byte c c hcR hcm
                  have hy8 := Mat.lt (Mat.ent (wrData R2) c c)
                  obtain ⟨xi, hxi⟩ : ∃ xi, Mat.ginv (Mat.ent (wrData R2) c c) = xi := ⟨_, rfl⟩
                  have e8 : Fld.inv (Mat.ent (wrData R2) c c).toNat = xi.toNat := by rw [← hxi, Mat.toNat_inv]
                  have DI := hid (rInv_call _ hy8 V)
                  rw [e8] at DI
                  have hxi0 : Hid (xi ≠ 0) := hid (by rw [← hxi]; exact Mat.inv_ne hne2.out)
                  replace hxi := hid hxi
                  clear e8
                  obtain ⟨y, hy⟩ : ∃ y, Mat.ent (wrData R2) c c = y := ⟨_, rfl⟩
                  rw [hy] at x1 DI hy8
                  replace hy := hid hy
                  go_wp2_with fail
                  go_at_call 78; refine (DI.out).mono ?_; rintro e w5 ⟨rfl, rfl⟩
                  clear x1 DI hy8
                  have hx8 := Mat.lt xi
                  go_wp2_with fail
                  clear x0
                  go_loopg [105] m (fun g s105 wr => ∃ (k : Nat) (R3 : List Wr), g = m - k ∧ k ≤ m ∧ s105 = .int .i64 (k : Int) ∧ Wk w1 wr G n m cap R3 ∧ Hid (∀ i j, i < n → j < m → Mat.ent (wrData R3) i j = if i = c ∧ j < k then Mat.gmul (Mat.ent (wrData R2) c j) xi else Mat.ent (wrData R2) i j))
                  case atStart => exact ⟨0, R2, rfl, by omega, rfl, hW2, hid (fun i j _ _ => by rw [if_neg (by omega)])⟩
                  case round =>
                    clear hW2
                    obtain ⟨k, R3, rfl, hk, rfl, hW3, HX⟩ := hrel
                    obtain ⟨V, rfl⟩ : ∃ V : World, V = wr := ⟨_, rfl⟩
                    have hcR : c < R3.length := by rw [hW3.len]; exact hcn
                    by_cases hkm : k < m
                    · have x0 := hW3.at c hcR
                      have x1 := hW3.byte c k hcR hkm
                      have f0 := hW3.mo.rfree c k hcR
                      have j2 : (0 : Int) ≤ (k : Int) := by omega
                      have j3 : (k : Int) < (m : Int) := by omega
                      have hy8 := Mat.lt (Mat.ent (wrData R3) c k)
                      have HE := hid (HX.out c k hcn hkm)
                      have hs := hid (fun q => (hW3.drewN q).setB c k hcR (Mat.gmul (Mat.ent (wrData R3) c k) xi) _ (Mat.toNat_mul _ _))
                      have D := hid (fun q => rMul_call _ _ hy8 hx8 (V.drewN q))
                      have HY := hid (fun i j => ent_setB R3 c k hcR (by rw [hW3.wid _ (List.getElem_mem _)]; exact hkm) (Mat.gmul (Mat.ent (wrData R3) c k) xi) i j)
                      obtain ⟨y3, hy3⟩ : ∃ y, Mat.ent (wrData R3) c k = y := ⟨_, rfl⟩
                      rw [hy3] at x1 D hs hy8 HY HE
                      replace hy3 := hid hy3
                      generalize Fld.mul y3.toNat xi.toNat = v at *
                      go_wp2_with fail
                      go_region_law (first | (go_simp; go_at_call 66; refine (D.out _).mono ?_; rintro e w6 ⟨rfl, rfl⟩))
                      all_goals go_wp2_with fail
                      all_goals
                        go_roundg (m - (k + 1))
                        case measure => omega
                        case rel =>
                          refine ⟨k + 1, _, rfl, by omega, by go_num, hs.out _, hid (fun i j hi hj => ?_)⟩
                          rw [HY.out, HX.out i j hi hj]
                          by_cases e : i = c
                          · subst e
                            by_cases e2 : j = k
                            · subst e2
                              have := HE.out
                              rw [if_neg (by omega)] at this
                              rw [if_pos ⟨rfl, rfl⟩, if_pos ⟨rfl, by omega⟩, this]
                            · rw [if_neg (fun h => e2 h.2)]
                              by_cases e3 : j < k
                              · rw [if_pos ⟨rfl, e3⟩, if_pos ⟨rfl, by omega⟩]
                              · rw [if_neg (fun h => e3 h.2), if_neg (by omega)]
                          · rw [if_neg (fun h => e h.1), if_neg (fun h => e h.1), if_neg (fun h => e h.1)]
                    · obtain rfl : m = k := by omega
                      have HX3 := hid (show ∀ i j, i < n → j < m → Mat.ent (wrData R3) i j = Mat.scaleM c xi (Mat.ent (wrData R2)) i j from fun i j hi hj => by
                        rw [HX.out i j hi hj]
                        unfold Mat.scaleM
                        by_cases e : i = c
                        · rw [if_pos ⟨e, hj⟩, if_pos e]
                        · rw [if_neg (fun h => e h.1), if_neg e])
                      have HS3 := hid ((HS2.out.scale hcn (by omega) hxi0.out).congr (work' := fun i j => Mat.ent (wrData R3) i j) (out' := fun i j => Mat.ent (wrData R3) i (n + j)) (P' := fun j => c + 1 ≤ j ∧ j < n) (fun i j hi hj => HX3.out i j hi (by omega)) (fun i j hi hj => (HX3.out i (n + j) hi (by have := HM.out; omega)).trans rfl) (fun j hj => ⟨hj, hj.2⟩))
                      have H1 := hid (show Mat.ent (wrData R3) c c = 1 by rw [HX3.out c c hcn hcm, ← hxi.out]; exact Mat.scale_one hne2.out)
                      clear HS2 HX HX3 hne2 hxi hxi0 hx8 hy hkm hk
                      go_wp2_with fail
                      go_loopg [126] n (fun g s126 wr => ∃ (i : Nat) (R4 : List Wr), g = n - i ∧ i ≤ n ∧ s126 = .int .i64 (i : Int) ∧ Wk w1 wr G n m cap R4 ∧ Hid (∀ r j, r < n → j < m → Mat.ent (wrData R4) r j = Mat.elimTo c (fun r => Mat.ent (wrData R3) r c) i (Mat.ent (wrData R3)) r j))
                      case atStart => exact ⟨0, R3, rfl, by omega, rfl, hW3, hid (fun r j _ _ => (Mat.elimTo_zero _ _ _ _ _).symm)⟩
                      case round =>
                        clear hW3
                        obtain ⟨i, R4, rfl, hi, rfl, hW4, HX⟩ := hrel
                        obtain ⟨V, rfl⟩ : ∃ V : World, V = wr := ⟨_, rfl⟩
                        have hcR : c < R4.length := by rw [hW4.len]; exact hcn
                        by_cases hin : i < n
                        · have hiR : i < R4.length := by rw [hW4.len]; exact hin
                          have x0 := hW4.at i hiR
                          have x1 := hW4.byte i c hiR hcm
                          have j2 : (0 : Int) ≤ (i : Int) := by omega
                          have j3 : (i : Int) < (n : Int) := by omega
                          have HYE := hid (show Mat.ent (wrData R3) i c = Mat.ent (wrData R4) i c by
                            rw [HX.out i c hin hcm]
                            unfold Mat.elimTo
                            rw [if_neg (by omega)])
                          obtain ⟨y, hy⟩ : ∃ y, Mat.ent (wrData R4) i c = y := ⟨_, rfl⟩
                          rw [hy] at x1 HYE
                          replace hy := hid hy
                          have hy8 := Mat.lt y
                          by_cases hic : i = c
                          · subst hic
                            have HX2 := hid (show ∀ r j, r < n → j < m → Mat.ent (wrData R4) r j = Mat.elimTo i (fun r => Mat.ent (wrData R3) r i) (i + 1) (Mat.ent (wrData R3)) r j from fun r j hr hj => by
                              rw [HX.out r j hr hj]
                              exact (Mat.elimTo_stay (.inl rfl) r j).symm)
                            go_wp2_with fail
                            go_loopg [141] m (fun g s141 wr => ∃ k : Nat, g = m - k ∧ k ≤ m ∧ s141 = .int .i64 (k : Int) ∧ V = wr)
                            case atStart => exact ⟨0, rfl, by omega, rfl, rfl⟩
                            case round =>
                              obtain ⟨k, rfl, hk, rfl, rfl⟩ := hrel
                              by_cases hkm : k < m
                              · go_wp2_with fail
                                go_roundg (m - (k + 1))
                                case measure => omega
                                case rel => exact ⟨k + 1, rfl, by omega, by go_num, rfl⟩
                              · obtain rfl : m = k := by omega
                                go_wp2_with fail
                                go_roundg (n - (i + 1))
                                case measure => omega
                                case rel => exact ⟨i + 1, R4, rfl, by omega, by go_num, hW4, HX2⟩
                          · have u0 : ((i : Int) != (c : Int)) = true := by rw [bne_iff_ne]; omega
                            have u1 : (i != c) = true := by rw [bne_iff_ne]; exact hic
                            have HIC := hid hic
                            clear hic
                            go_wp2_with fail
                            clear x0 x1
                            go_loopg [141] m (fun g s141 wr => ∃ (k : Nat) (R5 : List Wr), g = m - k ∧ k ≤ m ∧ s141 = .int .i64 (k : Int) ∧ Wk w1 wr G n m cap R5 ∧ Hid (∀ r j, r < n → j < m → Mat.ent (wrData R5) r j = if r = i ∧ j < k then Mat.gadd (Mat.ent (wrData R4) i j) (Mat.gmul y (Mat.ent (wrData R4) c j)) else Mat.ent (wrData R4) r j))
                            case atStart => exact ⟨0, R4, rfl, by omega, rfl, hW4, hid (fun r j _ _ => by rw [if_neg (by omega)])⟩
                            case round =>
                              clear hW4
                              obtain ⟨k, R5, rfl, hk, rfl, hW5, HZ⟩ := hrel
                              obtain ⟨V, rfl⟩ : ∃ V : World, V = wr := ⟨_, rfl⟩
                              have hcR : c < R5.length := by rw [hW5.len]; exact hcn
                              have hiR : i < R5.length := by rw [hW5.len]; exact hin
                              by_cases hkm : k < m
                              · have x0 := hW5.at i hiR
                                have x1 := hW5.byte i k hiR hkm
                                have x2 := hW5.at c hcR
                                have x3 := hW5.byte c k hcR hkm
                                have f0 := hW5.mo.rfree i k hiR
                                have j4 : (0 : Int) ≤ (k : Int) := by omega
                                have j5 : (k : Int) < (m : Int) := by omega
                                have ha8 := Mat.lt (Mat.ent (wrData R5) i k)
                                have hb8 := Mat.lt (Mat.ent (wrData R5) c k)
                                have HEa := hid (show Mat.ent (wrData R5) i k = Mat.ent (wrData R4) i k by rw [HZ.out i k hin hkm, if_neg (by omega)])
                                have HEb := hid (show Mat.ent (wrData R5) c k = Mat.ent (wrData R4) c k by rw [HZ.out c k hcn hkm, if_neg (fun h => HIC.out h.1.symm)])
                                have hs := hid (fun q => (hW5.drewN q).setB i k hiR (Mat.gadd (Mat.ent (wrData R5) i k) (Mat.gmul y (Mat.ent (wrData R5) c k))) ((Mat.ent (wrData R5) i k).toNat ^^^ Fld.mul y.toNat (Mat.ent (wrData R5) c k).toNat) (by rw [Mat.toNat_add, Mat.toNat_mul]))
                                have D := hid (fun q => rMul_call _ _ hy8 hb8 (V.drewN q))
                                have HY := hid (fun r j => ent_setB R5 i k hiR (by rw [hW5.wid _ (List.getElem_mem _)]; exact hkm) (Mat.gadd (Mat.ent (wrData R5) i k) (Mat.gmul y (Mat.ent (wrData R5) c k))) r j)
                                have hv := Fld.mul_lt y.toNat (Mat.ent (wrData R5) c k).toNat
                                have hxx := u8_xor_nat (Mat.ent (wrData R5) i k).toNat _ ha8 hv
                                obtain ⟨a5, ha5⟩ : ∃ y, Mat.ent (wrData R5) i k = y := ⟨_, rfl⟩
                                obtain ⟨b5, hb5⟩ : ∃ y, Mat.ent (wrData R5) c k = y := ⟨_, rfl⟩
                                rw [ha5] at x1 hs ha8 HY HEa hxx
                                rw [hb5] at x3 D hs hb8 HY HEb hxx hv
                                replace ha5 := hid ha5
                                replace hb5 := hid hb5
                                generalize Fld.mul y.toNat b5.toNat = v at *
                                generalize a5.toNat ^^^ v = u at *
                                go_wp2_with fail
                                go_upto_region 41 with (fail)
                                refine wp_region_still_tail 23 (by kernel_rfl) (by kernel_rfl) ?_
                                change wpStill _ _ (World.drew _) _ _ _
                                simp only [List.take_succ_cons, List.take_zero, List.drop_succ_cons, List.drop_zero]
                                repeat (first | still_step | still_call ((D.out 1).mono fun _ _ h => ⟨h.1, h.2.symm⟩))
                                refine wpStill_nil ?_
                                change wpList _ _ _ _ _ (World.drewN V 1)
                                go_wp2_with fail
                                go_roundg (m - (k + 1))
                                case measure => omega
                                case rel =>
                                  refine ⟨k + 1, _, rfl, by omega, by go_num, hs.out _, hid (fun r j hr hj => ?_)⟩
                                  rw [HY.out, HZ.out r j hr hj]
                                  by_cases e : r = i
                                  · subst e
                                    by_cases e2 : j = k
                                    · subst e2
                                      rw [if_pos ⟨rfl, rfl⟩, if_pos ⟨rfl, by omega⟩, HEa.out, HEb.out]
                                    · rw [if_neg (fun h => e2 h.2)]
                                      by_cases e3 : j < k
                                      · rw [if_pos ⟨rfl, e3⟩, if_pos ⟨rfl, by omega⟩]
                                      · rw [if_neg (fun h => e3 h.2), if_neg (by omega)]
                                  · rw [if_neg (fun h => e h.1), if_neg (fun h => e h.1), if_neg (fun h => e h.1)]
                              · obtain rfl : m = k := by omega
                                have HX2 := hid (Mat.ent_elim2 (n := n) (m := m) (y := fun r => Mat.ent (wrData R3) r c) (L' := Mat.ent (wrData R5)) HX.out hin hcn HIC.out (fun r j hr hj => by
                                  rw [HZ.out r j hr hj]
                                  by_cases e : r = i
                                  · rw [if_pos ⟨e, hj⟩, if_pos e, HYE.out]
                                  · rw [if_neg (fun h => e h.1), if_neg e]))
                                go_wp2_with fail
                                go_roundg (n - (i + 1))
                                case measure => omega
                                case rel => exact ⟨i + 1, R5, rfl, by omega, by go_num, hW5, HX2⟩
                        · obtain rfl : n = i := by omega
                          have HS4 := hid ((HS3.out.elim hcn (by omega) H1.out).congr (work' := fun i j => Mat.ent (wrData R4) i j) (out' := fun i j => Mat.ent (wrData R4) i (n + j)) (P' := fun j => c ≤ j ∧ j < n) (fun i j hi hj => by
                            rw [HX.out i j hi (by omega), Mat.elimTo_all hi]) (fun i j hi hj => by
                            rw [HX.out i (n + j) hi (by have := HM.out; omega), Mat.elimTo_all hi]; rfl) (fun j hj => ⟨by
                              by_cases e : j = c
                              · exact .inr e
                              · exact .inl ⟨by omega, hj.2⟩, hj.2⟩))
                          go_wp2_with fail
                          go_roundg c
                          case measure => omega
                          case rel => exact ⟨c, (c : Int) - 1, R4, rfl, by omega, by go_num, hid (by omega), hW4, HS4⟩
theorem rInvert_call (a : Option Addr) (n ac : Nat) (A : List Rw) (w : World) (hA : Ms w a n ac A) : Calls Try.prog 71 #[.slice a n ac] w (MRes (Mat.InvR (rwData A)) w) := by
  refine inv_cases (A := rwData A) (fun h => ?_) (fun h h3 => ?_) (fun n' e1 hFA => ?_)
  · exact (rInvert_1 a n ac A w hA h).mono fun e w' hh => NilB.res hh (invR_1 h)
  · exact (rInvert_2 a n ac A w hA h (by rw [hA.dn] at h3; exact h3)).mono fun e w' hh => NilB.res hh (invR_2 h h3)
  · obtain rfl : n' = n := e1.symm.trans hA.dn
    exact (rInvert_ok a n' ac A w hA hFA).mono fun e w' ⟨x1, x2, x3, x4, x5, y1, y2, y3, y4⟩ => ⟨x1, x2, x3, x4, x5, y1, y2, invR_3 hFA y3, y4⟩

end Go.Proofs.Ytjdgfijpmljhiaa
