/- Joined, and what is not used struck: SpV3, OpenV. -/
import Derived.Test.YthhcdfjijagalaaM42
import Derived.Test.YthhcdfjijagalaaM10
namespace Go.Proofs.Ythhcdfjijagalaa
open Go.RowKit Go.Maps
set_option linter.unusedVariables false
set_option linter.unusedSimpArgs false
set_option maxRecDepth 100000
set_option maxHeartbeats 8000000 in
theorem StoreVersion_walk (sd ss sb : Int) (a : Option Addr) (n cap : Nat) (l : List Sto.Do) (str : ByteArray) (c : Int) (hstr : str.size ≤ maxLen) (w : World) (hD : Dos w a n cap l) (hF : ∀ d ∈ l, Fits d) : Calls Try.prog 9 #[.agg #[.int .i64 sd, .int .i64 ss, .int .i64 sb], .slice a n cap, .string str, .int .i64 c] w (Grew (.bool true) w) := by
  have HD := hid hD
  have HF := hid hF
  have HN := hid hD.cnt
  have hle := hD.le
  have hmax := hD.max
  unfold maxLen at hmax
  clear hD hF
  have B0 := blk_new w (.cells #[.int .i64 sd, .int .i64 ss, .int .i64 sb] 37)
  have bS := (Below.refl w.heap.size w).alloc (Nat.le_refl _) (.cells #[.int .i64 sd, .int .i64 ss, .int .i64 sb] 37)
  go_enter Try.func9, Try.ntmps9
  go_wp2_with fail
  go_at_call 21; refine (alive8_call _).mono ?_; rintro e w1 ⟨rfl, b1⟩
  have v1 := blk_below B0 b1
  have r0 : w1.cell? ⟨w.heap.size, 0, none⟩ = some (.int .i64 sd) := blk_cell v1
  have r1 : w1.cell? ⟨w.heap.size, 1, none⟩ = some (.int .i64 ss) := blk_cell v1
  have r2 : w1.cell? ⟨w.heap.size, 2, none⟩ = some (.int .i64 sb) := blk_cell v1
  have bA := hid (bnext bS b1)
  have SU1 := hid v1
  have DP := hid (stPlay_call sd ss sb a n cap l w1 (HD.out.below bA.out))
  clear b1 bS B0 v1
  go_wp2_with fail
  go_at_call 19; refine DP.out.mono ?_; rintro e w2 ⟨m, av, ac, L, er, rfl, hM, hA, hP, b2⟩
  have SU2 := hid (blk_below SU1.out b2)
  obtain ⟨va, vc, ta, tc, sa, sc, aa, ac2, hv, hv1, hv2, hv3, hv4⟩ := hM.val
  have HVV := hid hv
  rw [hv]
  replace hv4 := hid hv4
  replace hP := hid hP
  obtain ⟨-, hAm⟩ := hA.amv
  have HA := hid hAm
  have HMM := hid hM
  have bB := hid (bnext bA.out b2)
  have hs2 := bB.out.size
  clear hM hA hAm hv hv1 hv2 hv3 DP b2 r0 r1 r2
  by_cases he : er = 0
  · subst he
    obtain ⟨hw, h80, hst, hLm⟩ := Sto.play_ok hP.out
    rw [HN.out] at h80
    have HW := hid hw
    have HST := hid hst
    have HLM := hid hLm
    have H10 := hid (run_ten (Sto.start sd ss sb) l)
    rw [← hLm] at H10
    have hLl : L.length = n := by have := congrArg List.length hLm; rw [List.length_map, Sto.run_len, HN.out] at this; exact this
    have HLL := hid hLl
    rw [hLl] at HA
    rw [hLl]
    clear hw hst hLm hLl hP
    have bC := hid (bB.out.alloc hs2 (.cells #[.int .i64 m.d, .int .i64 m.s, .int .i64 m.b, .slice va m.D.length vc, .int .i64 (m.g : Int), .slice ta m.T.length tc, .slice sa m.seen.length sc, .int .i64 m.u, .slice aa m.A.length ac2] 44))
    have HA2 := hid (HA.out.below ((Below.refl _ _).alloc (Nat.le_refl _) (.cells #[.int .i64 m.d, .int .i64 m.s, .int .i64 m.b, .slice va m.D.length vc, .int .i64 (m.g : Int), .slice ta m.T.length tc, .slice sa m.seen.length sc, .int .i64 m.u, .slice aa m.A.length ac2] 44)))
    have hne : (29 : TypeId) ≠ 44 := by decide
    have HSTR := hid hstr
    have hwr2 : IntKind.i64.wrap ((n : Int) + 2) = (n : Int) + 2 := IntWalk.i64_in _ (by omega)
    by_cases hn80 : 80 < n + 2
    · have hn80' : (80 : Int) < (n : Int) + 2 := by omega
      go_wp2_with fail
      go_ret
      exact ⟨rfl, bC.out⟩
    have hn80' : ¬ (80 : Int) < (n : Int) + 2 := by omega
    by_cases hc1 : c < 1
    · go_wp2_with fail
      go_ret
      exact ⟨rfl, bC.out⟩
    by_cases hc2 : 1000000 ≤ c
    · go_wp2_with fail
      go_ret
      exact ⟨rfl, bC.out⟩
    have HOK := hid (show Sto.Ok m.st (0 + l.length) from by rw [HST.out]; exact (Sto.Ok.start HW.out).run l)
    have HPL := hid (fun kd n1 n2 => @Sto.version_play sd ss sb l c kd str HW.out (by rw [HN.out]; omega) (by omega) (by omega) n1 n2)
    rw [← HLM.out, ← HST.out] at HPL
    have hac := HMM.out.accs
    rw [hv4.out] at hac
    obtain ⟨aq, cq, eq, hacs⟩ := own_sl hac
    cases eq
    have HAC := hid (As.mk hacs HMM.out.aok)
    obtain ⟨W, hW⟩ : ∃ W, W = w2.alloc (.cells #[.int .i64 m.d, .int .i64 m.s, .int .i64 m.b, .slice va m.D.length vc, .int .i64 (m.g : Int), .slice ta m.T.length tc, .slice sa m.seen.length sc, .int .i64 m.u, .slice aa m.A.length ac2] 44) := ⟨_, rfl⟩
    have C0 := hid (blk_new w2 (.cells #[.int .i64 m.d, .int .i64 m.s, .int .i64 m.b, .slice va m.D.length vc, .int .i64 (m.g : Int), .slice ta m.T.length tc, .slice sa m.seen.length sc, .int .i64 m.u, .slice aa m.A.length ac2] 44))
    have SUW := hid (blk_old (o' := (.cells #[.int .i64 m.d, .int .i64 m.s, .int .i64 m.b, .slice va m.D.length vc, .int .i64 (m.g : Int), .slice ta m.T.length tc, .slice sa m.seen.length sc, .int .i64 m.u, .slice aa m.A.length ac2] 44)) SU2.out)
    have hbW2 : Below w2.heap.size w2 W := by rw [hW]; exact (Below.refl _ _).alloc (Nat.le_refl _) _
    rw [← hW] at bC C0 SUW
    have HW2 := hid hW
    have hq6 : W.cell? ⟨w2.heap.size, 6, none⟩ = some (.slice sa m.seen.length sc) := blk_cell C0.out
    have hq7 : W.cell? ⟨w2.heap.size, 7, none⟩ = some (.int .i64 m.u) := blk_cell C0.out
    have hq8 : W.cell? ⟨w2.heap.size, 8, none⟩ = some (.slice aa m.A.length ac2) := blk_cell C0.out
    have DG := hid (vGet_call m.u aa m.A.length ac2 m.A str W (HAC.out.below hbW2))
    unfold viVal at DG
    have hfl := HPL
    clear hW hac hacs hfl
    go_upto_region 6 with (fail)
    rw [← HW2.out]
    go_wp2_with fail
    go_at_call 26; refine DG.out.mono ?_; rintro e w5 ⟨rfl, b5⟩
    obtain ⟨xs, xsum, xc, xo, hxa⟩ : ∃ xs xsum xc xo, Vw.get m.A str = ⟨xs, xsum, xc, xo⟩ := ⟨_, _, _, _, rfl⟩
    have hxc : (Vw.get m.st.snap.accs str).cnt = xc := by
      show (Vw.get m.A str).cnt = xc
      rw [hxa]
    rw [hxc] at HPL
    rw [hxa]
    simp only [acVal]
    have hcl : w5.cell? ⟨w2.heap.size, 6, none⟩ = some (.slice sa m.seen.length sc) := (b5.cell (p := ⟨w2.heap.size, 6, none⟩) (World.block_lt_of_cell? _ _ hq6)).trans hq6
    have b5H := hid b5
    clear DG hxa hxc hq6 hq7 hq8 b5
    go_upto_if 52 with (fail)
    go_cut [53] (fun s53 wc => ∃ kd : Int, wc = (w5.alloc (.cells #[.string xs, .int .i64 xsum, .int .i64 xc, .bool xo] 65)).alloc (.cells #[.string str, .int .i64 kd, .int .i64 0] 32))
    case first =>
      cases xo
      · go_wp2_with fail
        go_meet
        exact ⟨1, rfl⟩
      · go_wp2_with fail
        go_meet
        exact ⟨2, rfl⟩
    case rest =>
      obtain ⟨kd, rfl⟩ := hcut
      have hcw : IntKind.i64.wrap (c + 1) = c + 1 := IntWalk.i64_in _ (by omega)
      go_upto_region 13 with (fail)
      obtain ⟨V, hV⟩ : ∃ V, V = ((((w5.alloc (.cells #[.string xs, .int .i64 xsum, .int .i64 xc, .bool xo] 65)).alloc (.cells #[.string str, .int .i64 kd, .int .i64 0] 32)).alloc (.cells #[.string str, .int .i64 kd, .int .i64 0] 32)).alloc (.cells #[.int .i64 1, .int .i64 0, .int .i64 0, .int .i64 0, .int .u8 0, .int .i64 c, .slice (some ⟨w5.heap.size + 1 + 1, 0, none⟩) 1 1, .string str, .int .i64 xc] 29)).alloc (.cells #[.int .i64 1, .int .i64 0, .int .i64 0, .int .i64 0, .int .u8 0, .int .i64 (c + 1), .slice (some ⟨w5.heap.size + 1 + 1, 0, none⟩) 1 1, .string str, .int .i64 xc] 29) := ⟨_, rfl⟩
      rw [← hV]
      have o1 : V.heap[w5.heap.size + 1 + 1 + 1]? = some (.cells #[.int .i64 1, .int .i64 0, .int .i64 0, .int .i64 0, .int .u8 0, .int .i64 c, .slice (some ⟨w5.heap.size + 1 + 1, 0, none⟩) 1 1, .string str, .int .i64 xc] 29 (0, 0)) := by
        rw [hV]
        refine blk_old ?_
        have := blk_new (((w5.alloc (.cells #[.string xs, .int .i64 xsum, .int .i64 xc, .bool xo] 65)).alloc (.cells #[.string str, .int .i64 kd, .int .i64 0] 32)).alloc (.cells #[.string str, .int .i64 kd, .int .i64 0] 32)) (.cells #[.int .i64 1, .int .i64 0, .int .i64 0, .int .i64 0, .int .u8 0, .int .i64 c, .slice (some ⟨w5.heap.size + 1 + 1, 0, none⟩) 1 1, .string str, .int .i64 xc] 29)
        rwa [World.size_alloc, World.size_alloc, World.size_alloc] at this
      have o2 : V.heap[w5.heap.size + 1 + 1 + 1 + 1]? = some (.cells #[.int .i64 1, .int .i64 0, .int .i64 0, .int .i64 0, .int .u8 0, .int .i64 (c + 1), .slice (some ⟨w5.heap.size + 1 + 1, 0, none⟩) 1 1, .string str, .int .i64 xc] 29 (0, 0)) := by
        rw [hV]
        have := blk_new ((((w5.alloc (.cells #[.string xs, .int .i64 xsum, .int .i64 xc, .bool xo] 65)).alloc (.cells #[.string str, .int .i64 kd, .int .i64 0] 32)).alloc (.cells #[.string str, .int .i64 kd, .int .i64 0] 32)).alloc (.cells #[.int .i64 1, .int .i64 0, .int .i64 0, .int .i64 0, .int .u8 0, .int .i64 c, .slice (some ⟨w5.heap.size + 1 + 1, 0, none⟩) 1 1, .string str, .int .i64 xc] 29)) (.cells #[.int .i64 1, .int .i64 0, .int .i64 0, .int .i64 0, .int .u8 0, .int .i64 (c + 1), .slice (some ⟨w5.heap.size + 1 + 1, 0, none⟩) 1 1, .string str, .int .i64 xc] 29)
        rwa [World.size_alloc, World.size_alloc, World.size_alloc, World.size_alloc] at this
      have hrow : Es V (some ⟨w5.heap.size + 1 + 1, 0, none⟩) 1 1 [⟨str, kd, 0⟩] := by
        rw [hV]
        refine Es.alloc (Es.alloc ?_ _) _
        have := lit_es (w := (w5.alloc (.cells #[.string xs, .int .i64 xsum, .int .i64 xc, .bool xo] 65)).alloc (.cells #[.string str, .int .i64 kd, .int .i64 0] 32)) (l := [⟨str, kd, 0⟩]) (show 1 ≤ maxLen by decide) (fun e he => by obtain rfl := List.mem_singleton.1 he; exact HSTR.out)
        rwa [World.size_alloc, World.size_alloc] at this
      have hbV5 : Below w5.heap.size w5 V := by
        rw [hV]
        exact (((((Below.refl _ _).alloc (Nat.le_refl _) _).alloc (by simp only [World.size_alloc]; omega) _).alloc (by simp only [World.size_alloc]; omega) _).alloc (by simp only [World.size_alloc]; omega) _).alloc (by simp only [World.size_alloc]; omega) _
      have HROW := hid hrow
      have O1 := hid o1
      have O2 := hid o2
      have bV := hid (bnext (bnext bC.out b5H.out) hbV5)
      have su := hid (blk_below (blk_below SUW.out b5H.out) hbV5)
      have hcs : V.cell? ⟨w2.heap.size, 6, none⟩ = some (.slice sa m.seen.length sc) := (hbV5.cell (p := ⟨w2.heap.size, 6, none⟩) (World.block_lt_of_cell? _ _ hcl)).trans hcl
      have hV5 : w5.heap.size + 1 + 1 + 1 + 1 < V.heap.size := blk_lt o2
      have hwV : w.heap.size < V.heap.size := blk_lt su.out
      have hsv : m.sv = .slice sa m.seen.length sc := by
        have := HVV.out
        unfold stVal at this
        simp only [Value.agg.injEq, Array.mk.injEq, List.cons.injEq] at this
        exact this.2.2.2.2.2.2.1
      have hse := HMM.out.seen
      rw [hsv] at hse
      obtain ⟨sq, scq, eq2, hsl⟩ := own_sl hse
      cases eq2
      have HSL := hid (Sl.below hsl ((hbW2.trans (b5H.out.mono hbW2.size)).trans (hbV5.mono (Nat.le_trans hbW2.size b5H.out.size))))
      have hsle : m.seen.length ≤ n := by
        have := HOK.out.seen
        rw [HN.out] at this
        have e : m.st.seen = m.seen := rfl
        rw [e] at this
        omega
      replace hV := hid hV
      obtain ⟨q, hq⟩ : ∃ q, m.seen.length = q := ⟨_, rfl⟩
      have HQ := hid hq
      rw [hq] at hcs hsle
      clear hq hse hsl hsv hrow o1 o2 hcl
      go_wp2_with fail
      go_loopg [70] q (fun g s70 wr => ∃ k : Nat, g = q - k ∧ k ≤ q ∧ s70 = .int .i64 (k : Int) ∧ wr = V ∧ Hid (∀ j (h : j < m.seen.length), j < k → m.seen[j] ≠ c ∧ m.seen[j] ≠ c + 1))
      case atStart => exact ⟨0, rfl, by omega, rfl, rfl, hid (fun j _ hj => absurd hj (Nat.not_lt_zero _))⟩
      case round =>
        obtain ⟨k, rfl, hk, rfl, hwr, hno⟩ := hrel
        subst hwr
        by_cases hlt : k < q
        · have hks : k < m.seen.length := by rw [HQ.out]; exact hlt
          obtain ⟨xb, xo2, rfl, hxc⟩ := HSL.out.addr (by omega)
          have x0 : wr.cell? ⟨xb, xo2 + k, none⟩ = some (.int .i64 m.seen[k]) := hxc k _ (by simp [hks])
          have HNX := hid (fun (h : m.seen[k] ≠ c ∧ m.seen[k] ≠ c + 1) => (show ∀ j (h : j < m.seen.length), j < k + 1 → m.seen[j] ≠ c ∧ m.seen[j] ≠ c + 1 from fun j hj hjk => by
            by_cases e : j = k
            · subst e; exact h
            · exact hno.out j hj (by omega)))
          have j0 : (0 : Int) ≤ (k : Int) := by omega
          have j1 : (k : Int) < (q : Int) := by omega
          clear hxc
          generalize m.seen[k] = z at *
          by_cases hz1 : z = c
          · have u1 : (z == c) = true := by rw [hz1]; exact beq_self_eq_true c
            replace hz1 := hid hz1
            go_wp2_with fail
            go_ret
            exact ⟨rfl, bV.out⟩
          · have u1 : (z == c) = false := beq_eq_false_iff_ne.2 hz1
            by_cases hz2 : z = c + 1
            · have u2 : (z == c + 1) = true := by rw [hz2]; exact beq_self_eq_true _
              replace hz1 := hid hz1
              replace hz2 := hid hz2
              go_wp2_with fail
              go_ret
              exact ⟨rfl, bV.out⟩
            · have u2 : (z == c + 1) = false := beq_eq_false_iff_ne.2 hz2
              have HNN := hid (HNX.out ⟨hz1, hz2⟩)
              replace hz1 := hid hz1
              replace hz2 := hid hz2
              go_wp2_with fail
              go_roundg (q - (k + 1))
              case measure => omega
              case rel => exact ⟨k + 1, rfl, by omega, by go_num, rfl, HNN⟩
        · have n1 : ¬ c ∈ m.st.seen := fun h => by
            obtain ⟨j, hj, e⟩ := List.mem_iff_getElem.1 (show c ∈ m.seen from h)
            exact (hno.out j hj (by rw [HQ.out] at hj; omega)).1 e
          have n2 : ¬ c + 1 ∈ m.st.seen := fun h => by
            obtain ⟨j, hj, e⟩ := List.mem_iff_getElem.1 (show c + 1 ∈ m.seen from h)
            exact (hno.out j hj (by rw [HQ.out] at hj; omega)).2 e
          obtain ⟨s', x1, x2, hpl, hx12⟩ := HPL.out kd n1 n2
          have HP := hid hpl
          have HX12 := hid hx12
          have hkq : k = q := by omega
          subst hkq
          have CK := hid (show ∀ W', Below wr.heap.size wr W' → W'.cell? ⟨w.heap.size, 0, none⟩ = some (.int .i64 sd) ∧ W'.cell? ⟨w.heap.size, 1, none⟩ = some (.int .i64 ss) ∧ W'.cell? ⟨w.heap.size, 2, none⟩ = some (.int .i64 sb) ∧ W'.cell? ⟨w5.heap.size + 1 + 1 + 1, 0, none⟩ = some (.int .i64 1) ∧ W'.cell? ⟨w5.heap.size + 1 + 1 + 1, 1, none⟩ = some (.int .i64 0) ∧ W'.cell? ⟨w5.heap.size + 1 + 1 + 1, 2, none⟩ = some (.int .i64 0) ∧ W'.cell? ⟨w5.heap.size + 1 + 1 + 1, 3, none⟩ = some (.int .i64 0) ∧ W'.cell? ⟨w5.heap.size + 1 + 1 + 1, 4, none⟩ = some (.int .u8 0) ∧ W'.cell? ⟨w5.heap.size + 1 + 1 + 1, 5, none⟩ = some (.int .i64 c) ∧ W'.cell? ⟨w5.heap.size + 1 + 1 + 1, 6, none⟩ = some (.slice (some ⟨w5.heap.size + 1 + 1, 0, none⟩) 1 1) ∧ W'.cell? ⟨w5.heap.size + 1 + 1 + 1, 7, none⟩ = some (.string str) ∧ W'.cell? ⟨w5.heap.size + 1 + 1 + 1, 8, none⟩ = some (.int .i64 xc) ∧ W'.cell? ⟨w5.heap.size + 1 + 1 + 1 + 1, 0, none⟩ = some (.int .i64 1) ∧ W'.cell? ⟨w5.heap.size + 1 + 1 + 1 + 1, 1, none⟩ = some (.int .i64 0) ∧ W'.cell? ⟨w5.heap.size + 1 + 1 + 1 + 1, 2, none⟩ = some (.int .i64 0) ∧ W'.cell? ⟨w5.heap.size + 1 + 1 + 1 + 1, 3, none⟩ = some (.int .i64 0) ∧ W'.cell? ⟨w5.heap.size + 1 + 1 + 1 + 1, 4, none⟩ = some (.int .u8 0) ∧ W'.cell? ⟨w5.heap.size + 1 + 1 + 1 + 1, 5, none⟩ = some (.int .i64 (c + 1)) ∧ W'.cell? ⟨w5.heap.size + 1 + 1 + 1 + 1, 6, none⟩ = some (.slice (some ⟨w5.heap.size + 1 + 1, 0, none⟩) 1 1) ∧ W'.cell? ⟨w5.heap.size + 1 + 1 + 1 + 1, 7, none⟩ = some (.string str) ∧ W'.cell? ⟨w5.heap.size + 1 + 1 + 1 + 1, 8, none⟩ = some (.int .i64 xc) from fun W' hW' => by
            have su := su.out
            have o1 := O1.out
            have o2 := O2.out
            exact ⟨blk_cell (blk_below su hW'), blk_cell (blk_below su hW'), blk_cell (blk_below su hW'), blk_cell (blk_below o1 hW'), blk_cell (blk_below o1 hW'), blk_cell (blk_below o1 hW'), blk_cell (blk_below o1 hW'), blk_cell (blk_below o1 hW'), blk_cell (blk_below o1 hW'), blk_cell (blk_below o1 hW'), blk_cell (blk_below o1 hW'), blk_cell (blk_below o1 hW'), blk_cell (blk_below o2 hW'), blk_cell (blk_below o2 hW'), blk_cell (blk_below o2 hW'), blk_cell (blk_below o2 hW'), blk_cell (blk_below o2 hW'), blk_cell (blk_below o2 hW'), blk_cell (blk_below o2 hW'), blk_cell (blk_below o2 hW'), blk_cell (blk_below o2 hW')⟩)
          obtain ⟨X, hX, hXl, hXE, hXS⟩ := (HD.out.below bV.out).cells
          have HX := hid hX
          have HXE := hid hXE
          have HXS := hid hXS
          have HYE := hid (show ∀ y ∈ [(⟨Sto.verD c str kd xc, some ⟨w5.heap.size + 1 + 1, 0, none⟩, 1, 1⟩ : Dod), ⟨Sto.verD (c + 1) str kd xc, some ⟨w5.heap.size + 1 + 1, 0, none⟩, 1, 1⟩], Es wr y.a y.n y.cap y.d.b.evs ∧ y.d.stream.size ≤ maxLen from fun y hy => by
            simp only [List.mem_cons, List.not_mem_nil, or_false] at hy
            rcases hy with rfl | rfl <;> exact ⟨HROW.out, HSTR.out⟩)
          clear hX hXE hXS hpl hx12 n1 n2 hcs
          go_upto_region 19 with (fail)
          go_cut [18, 19, 11] (fun sB sA sE wc => BoxRes (Sto.play sd ss sb (l ++ [(⟨Sto.verD c str kd xc, some ⟨w5.heap.size + 1 + 1, 0, none⟩, 1, 1⟩ : Dod), ⟨Sto.verD (c + 1) str kd xc, some ⟨w5.heap.size + 1 + 1, 0, none⟩, 1, 1⟩].map Dod.d)) wr wc sB sA sE)
          case first =>
            go_region_held3 (fun w' => w'.cell? ⟨w.heap.size, 0, none⟩ = some (.int .i64 sd) ∧ w'.cell? ⟨w.heap.size, 1, none⟩ = some (.int .i64 ss) ∧ w'.cell? ⟨w.heap.size, 2, none⟩ = some (.int .i64 sb) ∧ w'.cell? ⟨w5.heap.size + 1 + 1 + 1, 0, none⟩ = some (.int .i64 1) ∧ w'.cell? ⟨w5.heap.size + 1 + 1 + 1, 1, none⟩ = some (.int .i64 0) ∧ w'.cell? ⟨w5.heap.size + 1 + 1 + 1, 2, none⟩ = some (.int .i64 0) ∧ w'.cell? ⟨w5.heap.size + 1 + 1 + 1, 3, none⟩ = some (.int .i64 0) ∧ w'.cell? ⟨w5.heap.size + 1 + 1 + 1, 4, none⟩ = some (.int .u8 0) ∧ w'.cell? ⟨w5.heap.size + 1 + 1 + 1, 5, none⟩ = some (.int .i64 c) ∧ w'.cell? ⟨w5.heap.size + 1 + 1 + 1, 6, none⟩ = some (.slice (some ⟨w5.heap.size + 1 + 1, 0, none⟩) 1 1) ∧ w'.cell? ⟨w5.heap.size + 1 + 1 + 1, 7, none⟩ = some (.string str) ∧ w'.cell? ⟨w5.heap.size + 1 + 1 + 1, 8, none⟩ = some (.int .i64 xc) ∧ w'.cell? ⟨w5.heap.size + 1 + 1 + 1 + 1, 0, none⟩ = some (.int .i64 1) ∧ w'.cell? ⟨w5.heap.size + 1 + 1 + 1 + 1, 1, none⟩ = some (.int .i64 0) ∧ w'.cell? ⟨w5.heap.size + 1 + 1 + 1 + 1, 2, none⟩ = some (.int .i64 0) ∧ w'.cell? ⟨w5.heap.size + 1 + 1 + 1 + 1, 3, none⟩ = some (.int .i64 0) ∧ w'.cell? ⟨w5.heap.size + 1 + 1 + 1 + 1, 4, none⟩ = some (.int .u8 0) ∧ w'.cell? ⟨w5.heap.size + 1 + 1 + 1 + 1, 5, none⟩ = some (.int .i64 (c + 1)) ∧ w'.cell? ⟨w5.heap.size + 1 + 1 + 1 + 1, 6, none⟩ = some (.slice (some ⟨w5.heap.size + 1 + 1, 0, none⟩) 1 1) ∧ w'.cell? ⟨w5.heap.size + 1 + 1 + 1 + 1, 7, none⟩ = some (.string str) ∧ w'.cell? ⟨w5.heap.size + 1 + 1 + 1 + 1, 8, none⟩ = some (.int .i64 xc)) ((refine CK.out _ ?_; (repeat (first | with_reducible assumption | with_reducible exact Below.refl _ _ | with_reducible refine below_drewN ?_ _ | with_reducible refine Below.drew ?_ | with_reducible refine Below.alloc ?_ (by (first | omega | (simp only [heap_alloc, heap_drew, Array.size_push]; omega))) _ | with_reducible refine below_set ?_ (by (first | omega | (simp only [heap_alloc, heap_drew, Array.size_push]; omega))))); done))
              (first
                | (go_at_call 19; refine (stPlay_call sd ss sb a5 (n + 2) c5 _ _ (hD5.below (by (repeat (first | with_reducible assumption | with_reducible exact Below.refl _ _ | with_reducible refine below_drewN ?_ _ | with_reducible refine Below.drew ?_ | with_reducible refine Below.alloc ?_ (by (first | omega | (simp only [heap_alloc, heap_drew, Array.size_push]; omega))) _ | with_reducible refine below_set ?_ (by (first | omega | (simp only [heap_alloc, heap_drew, Array.size_push]; omega)))))))).mono ?_; rintro e w6 ⟨m', av', ac', L', er', rfl, hM', hA', hP', b6⟩; have b7 : Below wr.heap.size wr w6 := (by refine bnext ?_ b6; (repeat (first | with_reducible assumption | with_reducible exact Below.refl _ _ | with_reducible refine below_drewN ?_ _ | with_reducible refine Below.drew ?_ | with_reducible refine Below.alloc ?_ (by (first | omega | (simp only [heap_alloc, heap_drew, Array.size_push]; omega))) _ | with_reducible refine below_set ?_ (by (first | omega | (simp only [heap_alloc, heap_drew, Array.size_push]; omega)))))); have z7 := b7.size; obtain ⟨va', vc', ta', tc', sa', sc', aa', ac2', hv', -⟩ := hM'.val; rw [hv']; replace hv' := hid hv'; replace hM' := hid hM'; replace hA' := hid hA'; replace hP' := hid hP'; (first | (with_reducible have pq := blk_below pq b6; (try simp only [World.size_alloc] at pq); have q0 := blk_cell (i := 0) pq; have q1 := blk_cell (i := 1) pq; have q2 := blk_cell (i := 2) pq; have q3 := blk_cell (i := 3) pq; have q4 := blk_cell (i := 4) pq; have q5 := blk_cell (i := 5) pq; have q6 := blk_cell (i := 6) pq; have q7 := blk_cell (i := 7) pq; have q8 := blk_cell (i := 8) pq; have qf := (fun i => blk_free (i := i) pq)) | (with_reducible have pq := blk_below (blk_old pq) b6; (try simp only [World.size_alloc] at pq); have q0 := blk_cell (i := 0) pq; have q1 := blk_cell (i := 1) pq; have q2 := blk_cell (i := 2) pq; have q3 := blk_cell (i := 3) pq; have q4 := blk_cell (i := 4) pq; have q5 := blk_cell (i := 5) pq; have q6 := blk_cell (i := 6) pq; have q7 := blk_cell (i := 7) pq; have q8 := blk_cell (i := 8) pq; have qf := (fun i => blk_free (i := i) pq)) | (with_reducible have pq := blk_below (blk_new wz5 (.cells #[.int .i64 0, .int .i64 0, .int .i64 0, .slice none 0 0, .int .i64 0, .slice none 0 0, .slice none 0 0, .int .i64 0, .slice none 0 0] 44)) b6; (try simp only [World.size_alloc] at pq); have q0 := blk_cell (i := 0) pq; have q1 := blk_cell (i := 1) pq; have q2 := blk_cell (i := 2) pq; have q3 := blk_cell (i := 3) pq; have q4 := blk_cell (i := 4) pq; have q5 := blk_cell (i := 5) pq; have q6 := blk_cell (i := 6) pq; have q7 := blk_cell (i := 7) pq; have q8 := blk_cell (i := 8) pq; have qf := (fun i => blk_free (i := i) pq)) | skip); (try replace pq := hid pq); clear r4 r5 g4 g5 o4 o5)
                | (refine step_append_k rfl (.tmp 86) (.tmp 87) 34 34 rfl wr.heap.size 29 9 96 (.agg #[.int .i64 0, .int .i64 0, .int .i64 0, .int .i64 0, .int .u8 0, .int .i64 0, .slice none 0 0, .string ⟨#[]⟩, .int .i64 0]) Try.underlying34 info_Do rfl (by decide) (.slice (some ⟨_, 0, none⟩) 0 0) 0 [] rfl (OT.fresh (w0 := wr) (own0 (by (first | omega | (simp only [heap_alloc, heap_drew, Array.size_push]; omega))) (by (simp only [heap_alloc, heap_drew, Array.getElem?_push, Array.size_push]; repeat (first | assumption | rfl | rw [if_pos (by omega)] | rw [if_neg (by omega)])))) (by (repeat (first | with_reducible assumption | with_reducible exact Below.refl _ _ | with_reducible refine below_drewN ?_ _ | with_reducible refine Below.drew ?_ | with_reducible refine Below.alloc ?_ (by (first | omega | (simp only [heap_alloc, heap_drew, Array.size_push]; omega))) _ | with_reducible refine below_set ?_ (by (first | omega | (simp only [heap_alloc, heap_drew, Array.size_push]; omega)))))) (Nat.le_refl _)) (.slice a n cap) n (rows do9 X) rfl (HXS.out _ (by (repeat (first | with_reducible assumption | with_reducible exact Below.refl _ _ | with_reducible refine below_drewN ?_ _ | with_reducible refine Below.drew ?_ | with_reducible refine Below.alloc ?_ (by (first | omega | (simp only [heap_alloc, heap_drew, Array.size_push]; omega))) _ | with_reducible refine below_set ?_ (by (first | omega | (simp only [heap_alloc, heap_drew, Array.size_push]; omega))))))) (by unfold maxLen; omega) (by omega) (by (first | omega | (simp only [heap_alloc, heap_drew, Array.size_push]; omega))) ?_; intro v4 w4 o4 g4 r4; rw [Nat.zero_add, List.nil_append] at o4; have b4 := o4.belowOf (Nat.le_refl _) (fun k e => by cases e); have z4 := b4.size; (first | (with_reducible have pq := r4 _ _ _ _ hne (bdrew (blk_new _ (.cells #[.int .i64 0, .int .i64 0, .int .i64 0, .slice none 0 0, .int .i64 0, .slice none 0 0, .slice none 0 0, .int .i64 0, .slice none 0 0] 44)))) | (with_reducible have pq := r4 _ _ _ _ hne (bdrew (blk_old (blk_new _ (.cells #[.int .i64 0, .int .i64 0, .int .i64 0, .slice none 0 0, .int .i64 0, .slice none 0 0, .slice none 0 0, .int .i64 0, .slice none 0 0] 44))))) | (with_reducible have pq := r4 _ _ _ _ hne (bdrew (blk_old (blk_old (blk_new _ (.cells #[.int .i64 0, .int .i64 0, .int .i64 0, .slice none 0 0, .int .i64 0, .slice none 0 0, .slice none 0 0, .int .i64 0, .slice none 0 0] 44)))))) | skip))
                | (refine step_append_k rfl (.tmp 88) (.tmp 91) 34 34 rfl wr.heap.size 29 9 96 (.agg #[.int .i64 0, .int .i64 0, .int .i64 0, .int .i64 0, .int .u8 0, .int .i64 0, .slice none 0 0, .string ⟨#[]⟩, .int .i64 0]) Try.underlying34 info_Do rfl (by decide) v4 n (rows do9 X) rfl (w0 := wr) (row := none) (by (repeat (first | exact o4 | refine OT.alloc ?_ _ | refine OT.drew ?_))) (.slice (some ⟨_, 0, none⟩) 2 2) 2 (rows do9 [(⟨Sto.verD c str kd xc, some ⟨w5.heap.size + 1 + 1, 0, none⟩, 1, 1⟩ : Dod), ⟨Sto.verD (c + 1) str kd xc, some ⟨w5.heap.size + 1 + 1, 0, none⟩, 1, 1⟩]) rfl (lit_at (Y := [(⟨Sto.verD c str kd xc, some ⟨w5.heap.size + 1 + 1, 0, none⟩, 1, 1⟩ : Dod), ⟨Sto.verD (c + 1) str kd xc, some ⟨w5.heap.size + 1 + 1, 0, none⟩, 1, 1⟩]) (by first | ((simp only [heap_alloc, heap_drew, Array.getElem?_push, Array.size_push]; repeat (first | assumption | rfl | rw [if_pos (by omega)] | rw [if_neg (by omega)])); done) | ((with_reducible refine lit_kept g4 ?_ ?_) <;> first | omega | ((simp only [heap_alloc, heap_drew, Array.getElem?_push, Array.size_push]; repeat (first | assumption | rfl | rw [if_pos (by omega)] | rw [if_neg (by omega)])); done)) | ((with_reducible refine blk_old (lit_kept g4 ?_ ?_)) <;> first | omega | ((simp only [heap_alloc, heap_drew, Array.getElem?_push, Array.size_push]; repeat (first | assumption | rfl | rw [if_pos (by omega)] | rw [if_neg (by omega)])); done))) (by simp)) (by unfold maxLen; omega) (by omega) (by (first | omega | (simp only [heap_alloc, heap_drew, Array.size_push]; omega))) ?_; intro v5 wz5 o5 g5 r5; have b5 := o5.belowOf (Nat.le_refl _) (fun k e => by cases e); have z5 := b5.size; obtain ⟨a5, c5, rfl, hD5⟩ := plus_doX HX.out hXl HXE.out b5 (Y := [(⟨Sto.verD c str kd xc, some ⟨w5.heap.size + 1 + 1, 0, none⟩, 1, 1⟩ : Dod), ⟨Sto.verD (c + 1) str kd xc, some ⟨w5.heap.size + 1 + 1, 0, none⟩, 1, 1⟩]) HYE.out o5.own rfl; (first | (with_reducible have pq := r5 _ _ _ _ hne pq) | (with_reducible have pq := r5 _ _ _ _ hne (blk_old pq)) | (with_reducible have pq := r5 _ _ _ _ hne (blk_new w4 (.cells #[.int .i64 0, .int .i64 0, .int .i64 0, .slice none 0 0, .int .i64 0, .slice none 0 0, .slice none 0 0, .int .i64 0, .slice none 0 0] 44))) | (with_reducible have pq := r5 _ _ _ _ hne (blk_old (blk_new w4 (.cells #[.int .i64 0, .int .i64 0, .int .i64 0, .slice none 0 0, .int .i64 0, .slice none 0 0, .slice none 0 0, .int .i64 0, .slice none 0 0] 44)))) | (with_reducible have pq := r5 _ _ _ _ hne (blk_new (w4.alloc _) (.cells #[.int .i64 0, .int .i64 0, .int .i64 0, .slice none 0 0, .int .i64 0, .slice none 0 0, .slice none 0 0, .int .i64 0, .slice none 0 0] 44))) | skip)))
            all_goals (go_wp2_with fail; go_meet)
            all_goals first
              | with_reducible exact BoxRes.new hv'.out hM'.out hA'.out hP'.out b7
              | (with_reducible refine BoxRes.old pq.out ?_ hv'.out hM'.out hA'.out hP'.out b7; (first | omega | (simp only [heap_alloc, heap_drew, Array.size_push]; omega)))
          case rest =>
            obtain ⟨wD, rfl⟩ : ∃ wD : World, wD = wc := ⟨_, rfl⟩
            obtain ⟨m', av', ac', L', er', B, base, va', vc', ta', tc', sa', sc', aa', ac2', rfl, rfl, rfl, hv', hB, hM', hA', hP', bD⟩ := hcut
            have hPP := HP.out.symm.trans hP'
            simp only [Prod.mk.injEq] at hPP
            obtain ⟨-, hA9, rfl⟩ := hPP
            obtain ⟨bb, bo, rfl, -, hl9, hat⟩ := hA'.gets hA9 (by simp)
            have hLn : L.length = n := HLL.out
            have hl9 : L'.length = n + 2 := by rw [hl9, List.length_append, List.length_map, hLn]; rfl
            rw [hl9]
            obtain ⟨y1, hy1, -, T1⟩ := hat n x1 (by rw [List.getElem?_append_right (by rw [List.length_map]; omega), List.length_map, hLn, Nat.sub_self]; rfl)
            obtain ⟨y2, hy2, -, T2⟩ := hat (n + 1) x2 (by rw [List.getElem?_append_right (by rw [List.length_map]; omega), List.length_map, hLn, Nat.add_sub_cancel_left]; rfl)
            have e1 : y1.err = x1.err := congrArg Sto.An.err hy1
            have e2 : y2.err = x2.err := congrArg Sto.An.err hy2
            have T0 := T1.c0
            have T3 := T2.c0
            rw [e1] at T0
            rw [e2] at T3
            have bW := hid (bnext bV.out bD)
            have i0 : (0 : Int) ≤ (n : Int) := by omega
            have i1 : (n : Int) < ((n + 2 : Nat) : Int) := by omega
            have i2 : (n : Int) + 1 < ((n + 2 : Nat) : Int) := by omega
            have hwr1 : IntKind.i64.wrap ((n : Int) + 1) = (n : Int) + 1 := IntWalk.i64_in _ (by omega)
            clear hP' hA9 hA' hat hy1 hy2 T1 T2 e1 e2 hM' hv' hB bD
            by_cases hx1 : x1.err = 0
            · have hx2 := HX12.out hx1
              rw [hx1] at T0
              rw [hx2] at T3
              replace hx1 := hid hx1
              replace hx2 := hid hx2
              go_wp2_with fail
              go_ret
              exact ⟨rfl, bW.out⟩
            · have u1 : (x1.err != 0) = true := bne_iff_ne.2 hx1
              replace hx1 := hid hx1
              go_wp2_with fail
              go_ret
              exact ⟨rfl, bW.out⟩
  · have t0 : (er != 0) = true := bne_iff_ne.2 he
    have t1 : (er == 0) = false := beq_eq_false_iff_ne.2 he
    replace he := hid he
    go_wp2_with fail
    go_ret
    exact ⟨rfl, bB.out.alloc hs2 _⟩
end Go.Proofs.Ythhcdfjijagalaa
namespace Go.Proofs.Ythhcdfjijagalaa
open Go.ChangeShapes Go.WideShapes Go.ChangeAt Go.RowKit Go.Joins Go.Deep
set_option linter.unusedVariables false
section
variable {H : Type} {enc : TypeId × Value → H} {w : World} {base : Nat} {spare : Nat → Bool} {held : Bool}
set_option maxRecDepth 100000 in
theorem open_str {b0 : Nat} {v : Value} {d : DataW H} {p : List MemPlace} (hv : Value.okWide Try.prog w .any b0 9 v)
    (h : DataW.Trod enc Try.prog w base spare held 9 v d p) : ∃ s : ByteArray, v = .string s ∧ s.size ≤ maxLen := by
  obtain ⟨s, rfl⟩ := okWide_string Try.underlying9 hv
  obtain ⟨f, h⟩ := h
  obtain ⟨s', e0, _, hs⟩ := DataW.trod_string Try.underlying9 h
  simp [Value.cells] at e0
  subst e0
  exact ⟨s, rfl, hs⟩
end
end Go.Proofs.Ythhcdfjijagalaa
