/- Contract of the reference's Parse: it returns what the plain laws say. -/
import Derived.Test.YtkngfobnfocpjaaEventM
namespace Go.Proofs.Ytkngfobnfocpjaa
open Go.RowKit
set_option linter.unusedVariables false

set_option maxRecDepth 100000 in
set_option maxHeartbeats 8000000 in
theorem rParse_call (a : Option Addr) (n cap : Nat) (l : List UInt8) (w : World) (h : Bt w a n cap l) : Calls Try.prog 41 #[.slice a n cap] w (PBRes (Evt.parse l) w) := by
  have C := hid (fun W q k ok t hk h hr => rParse1_pure w W (w.heap.size + 1) w.heap.size (w.heap.size + 2) l q k ok t hk h hr)
  have HNL := hid (Bt.n h)
  have R0 : Rr w (((w.alloc (.cells #[.slice a n cap] 30)).alloc (.cells #[.int .i64 0] 3)).alloc (.cells #[.bool true] 4)) (w.heap.size + 1) w.heap.size (w.heap.size + 2) l 0 true := by
    have hb := ((Below.refl w.heap.size w).alloc (Nat.le_refl _) (.cells #[.slice a n cap] 30)).alloc (by simp) (.cells #[.int .i64 0] 3)
    refine ⟨?_, ⟨a, n, cap, blk_old (blk_old (blk_new w _)), h⟩, ?_, by omega, hb.alloc hb.size _, by omega, by have h1 := h.le; have h2 := h.max; unfold maxLen at h2; rw [HNL.out]; omega⟩
    · have := blk_new (w.alloc (.cells #[.slice a n cap] 30)) (.cells #[.int .i64 0] 3)
      rw [World.size_alloc] at this
      exact blk_old this
    · have := blk_new ((w.alloc (.cells #[.slice a n cap] 30)).alloc (.cells #[.int .i64 0] 3)) (.cells #[.bool true] 4)
      rw [World.size_alloc, World.size_alloc] at this
      exact this
  have D0 := hid (C.out _ 0 1 true ⟨l, true⟩ (by omega) R0 ⟨fun _ => rfl, fun hh => by cases hh⟩)
  have HP := hid (show Evt.parse l = if (Evt.batches (Evt.num 1 ⟨l, true⟩).1 (Evt.num 1 ⟨l, true⟩).2).2.ok = false ∨ (Evt.batches (Evt.num 1 ⟨l, true⟩).1 (Evt.num 1 ⟨l, true⟩).2).2.l ≠ [] then ⟨[], 2⟩ else if 150 < (Evt.batches (Evt.num 1 ⟨l, true⟩).1 (Evt.num 1 ⟨l, true⟩).2).1.length then ⟨[], 5⟩ else if (Evt.fb (Evt.batches (Evt.num 1 ⟨l, true⟩).1 (Evt.num 1 ⟨l, true⟩).2).1 0).1 ≠ 0 then ⟨[], (Evt.fb (Evt.batches (Evt.num 1 ⟨l, true⟩).1 (Evt.num 1 ⟨l, true⟩).2).1 0).1⟩ else ⟨(Evt.batches (Evt.num 1 ⟨l, true⟩).1 (Evt.num 1 ⟨l, true⟩).2).1, 0⟩ from rfl)
  generalize Evt.num 1 ⟨l, true⟩ = n0 at *
  obtain ⟨N0, t0⟩ := n0
  go_enter Try.func41, Try.ntmps41
  go_wp2_with fail
  go_at_call 52; refine (D0.out).mono ?_; rintro e w1 ⟨N, q0, ok0, rfl, hN, R1, O1, rel1, hNN, hN0, hq0⟩
  have hN1 : N ≤ 255 := by have : (256 : Nat) ^ 1 = 256 := rfl; omega
  clear hN D0 R0
  have hstart : M1 w w1 l N0 t0 N (.slice none 0 0) q0 ok0 t0 [] := ⟨rel1, fun hh => by rw [hNN hh]; rfl, fun hh => by rw [Evt.batches_stop _ _ (.inr (rel1.2 hh))]; exact rel1.2 hh, by simp; omega, R1, World.ownsRow_nil _ _ _ _, fun x hx => by cases hx⟩
  replace hstart := hid hstart
  clear rel1 hNN hN0 R1 O1
  go_wp2_with fail
  go_loopg [7, 9, 10, 11, 12, 13, 14] N (fun g o i s10 s11 s12 s13 s14 wr => ∃ m k q ok t Rs, g = m ∧ k + m = N ∧ i = .int .i64 (k : Int) ∧ q + m * 70000 ≤ 20000000 ∧ M1 w wr l N0 t0 m o q ok t Rs)
  case atStart => exact ⟨N, 0, q0, ok0, t0, [], rfl, by omega, rfl, by omega, hstart.out⟩
  case round =>
    clear hstart
    obtain ⟨m, k, q, ok, t, Rs, rfl, hkN, rfl, hq20, hL⟩ := hrel
    obtain ⟨wo, rfl⟩ : ∃ wo : World, wo = wr := ⟨_, rfl⟩
    obtain ⟨hrel, heq, hbad, hle, hrd, hout, hevs⟩ := hL
    obtain ⟨h1, ⟨ra, rn, rc, h2, hrl⟩, h3, _, hbw, hqle, _⟩ := id hrd
    have hsz := hbw.size
    have z1 := blk_lt h1
    have z3 := blk_lt h3
    have ca : wo.cell? ⟨w.heap.size + 1, 0, none⟩ = some (.int .i64 (q : Int)) := blk_cell h1
    have cb' : wo.cell? ⟨w.heap.size, 0, none⟩ = some (.slice ra rn rc) := blk_cell h2
    have co : wo.cell? ⟨w.heap.size + 2, 0, none⟩ = some (.bool ok) := blk_cell h3
    replace heq := hid heq; replace hbad := hid hbad
    by_cases hstop : gk = 0 ∨ ok = false
    · have HRN := hid (Bt.n hrl)
      cases ok with
      | false =>
        have HR := hid (show Evt.parse l = ⟨[], 2⟩ by rw [HP.out, if_pos (.inl (hbad.out rfl))])
        rcases Nat.eq_zero_or_pos gk with h0 | h0
        · subst h0
          obtain rfl : k = N := by omega
          clear hstop heq hbad
          go_wp2_with fail
          go_ret2
          exact ⟨none, 0, 0, [], by rw [HR.out]; rfl, Bs.none _, by rw [HR.out]; rfl, hbw⟩
        · have u0 : decide ((k : Int) < (N : Int)) = true := by simp; omega
          have u1 : decide (k < N) = true := by simp; omega
          clear hstop heq hbad
          go_wp2_with fail
          go_ret2
          exact ⟨none, 0, 0, [], by rw [HR.out]; rfl, Bs.none _, by rw [HR.out]; rfl, hbw⟩
      | true =>
        obtain rfl : gk = 0 := hstop.resolve_right (by simp)
        obtain rfl : k = N := by omega
        have ht := hrel.1 rfl
        subst ht
        have HE := heq.out rfl
        rw [Evt.batches_stop _ _ (.inl rfl), List.append_nil] at HE
        have HP2 := HP.out
        rw [HE] at HP2
        simp only at HP2
        replace HP2 := hid HP2
        clear hstop heq hbad HP HE hrel
        by_cases hqn : q = rn
        · subst hqn
          have hnil : l.drop q = [] := List.drop_of_length_le (by rw [HRN.out]; exact Nat.le_refl _)
          have HP3 := hid (HP2.out.trans (if_neg (fun h => h.elim (fun h => by cases h) (fun h => h hnil))))
          obtain ⟨oa, oc, rfl, hsl⟩ := own_sl hout
          have hmax := hsl.max
          have hleo := hsl.le
          unfold maxLen at hmax
          have hB : Bs wo oa Rs.length oc Rs := ⟨hsl, fun r hr => by
            obtain ⟨h1, h2⟩ := hevs r hr
            obtain ⟨a2, c2, e2, s2⟩ := own_sl h1
            cases e2
            exact ⟨s2, h2⟩⟩
          clear HP2 hevs hout hnil
          by_cases h150 : 150 < Rs.length
          · have HR := hid (show Evt.parse l = ⟨[], 5⟩ by rw [HP3.out, if_pos (by rw [List.length_map]; exact h150)])
            go_wp2_with fail
            go_ret2
            exact ⟨none, 0, 0, [], by rw [HR.out]; rfl, Bs.none _, by rw [HR.out]; rfl, hbw⟩
          · have HP4 := hid (HP3.out.trans (if_neg (by rw [List.length_map]; exact h150)))
            clear HP3
            obtain ⟨nR, hnR⟩ : ∃ nR, Rs.length = nR := ⟨_, rfl⟩
            rw [hnR] at hB hsl hleo h150 hle ⊢
            have HNR := hid hnR
            clear hnR
            go_wp2_with fail
            go_loopg [16, 17, 90] nR (fun g s10 s11 i W => ∃ k, g = nR - k ∧ k ≤ nR ∧ i = .int .i64 (k : Int) ∧ Below wo.heap.size wo W ∧ Hid (Evt.fb (Rs.map Rb.ba) 0 = Evt.fb ((Rs.map Rb.ba).drop k) k))
            case atStart => exact ⟨0, rfl, by omega, rfl, Below.refl _ _, hid (by simp)⟩
            case round =>
              obtain ⟨k, rfl, hk, rfl, hbW, HB⟩ := hrel
              by_cases hlt : k < nR
              · have hkl : k < Rs.length := by rw [HNR.out]; exact hlt
                obtain ⟨b, off, rfl, _⟩ := hsl.addr (by omega)
                obtain ⟨q0, q1, hE⟩ := (hB.below hbW).at k hkl
                generalize hr : Rs[k] = r at *
                obtain ⟨c, ea, en, ec, evs⟩ := r
                simp only at q0 q1 hE
                have HR := hid hr
                clear hr
                have D := hid (fun W (hE : Es W ea en ec evs) => rWrongBatch_call c ea en ec evs W hE)
                have HP := hid (Evt.fb_step (Rs.map Rb.ba) k ⟨c, evs⟩ (by rw [List.getElem?_map, List.getElem?_eq_getElem hkl, HR.out]; rfl))
                go_wp2_with fail
                go_at_call 37; refine (D.out _ (hE.alloc _)).mono ?_; rintro e w4 ⟨rfl, b4⟩
                have hbW4 : Below wo.heap.size wo w4 := (hbW.alloc hbW.size _).trans (b4.mono (by have := hbW.size; simp; omega))
                have hzo := hbW4.size
                unfold fVal
                obtain ⟨f1, hf1⟩ : ∃ f1, (Evt.wrongBa ⟨c, evs⟩).1 = f1 := ⟨_, rfl⟩
                rw [hf1]
                have HF := hid hf1
                generalize (Evt.wrongBa ⟨c, evs⟩).2 = f2
                clear hf1 b4 q0 q1 hE D
                by_cases hz : f1 = 0
                · subst hz
                  go_wp2_with fail
                  go_roundg (nR - (k + 1))
                  case measure => omega
                  case rel => exact ⟨k + 1, rfl, by omega, by go_num, hbW4.alloc hzo _, hid (by rw [HB.out, HP.out, if_neg (fun h => h HF.out)])⟩
                · have t0 : (f1 != 0) = true := by rw [bne_iff_ne]; exact hz
                  have hG := hid (show Evt.parse l = ⟨[], f1⟩ by
                    have e1 : (Evt.fb (Rs.map Rb.ba) 0) = (f1, (k : Int)) := by rw [HB.out, HP.out, if_pos (by rw [HF.out]; exact hz), HF.out]
                    rw [HP4.out, e1, if_pos hz])
                  clear hz HB
                  go_wp2_with fail
                  go_quiet (fail)
                  go_wp2_with fail
                  go_ret2
                  exact ⟨none, 0, 0, [], by rw [hG.out]; rfl, Bs.none _, by rw [hG.out]; rfl, hbw.trans ((below_drewN (hbW4.alloc hzo _) _).mono hsz)⟩
              · obtain rfl : k = nR := by omega
                have hG := hid (show Evt.parse l = ⟨Rs.map Rb.ba, 0⟩ by
                  have e1 : (Evt.fb (Rs.map Rb.ba) 0).1 = 0 := by rw [HB.out, List.drop_of_length_le (by rw [List.length_map, HNR.out]; exact Nat.le_refl _)]; rfl
                  rw [HP4.out, if_neg (fun h => h e1)])
                go_wp2_with fail
                go_ret2
                refine ⟨oa, _, oc, Rs, ?_, hB.below hbW, ?_, hbw.trans (hbW.mono hsz)⟩
                · rw [hG.out]; rfl
                · rw [hG.out]
        · have HR := hid (show Evt.parse l = ⟨[], 2⟩ by rw [HP2.out, if_pos (.inr (fun e => by have := congrArg List.length e; rw [List.length_drop, HRN.out] at this; simp at this; have := HRN.out; omega))])
          have u0 : ((q : Int) != (rn : Int)) = true := by rw [bne_iff_ne]; omega
          have u1 : (q != rn) = true := by rw [bne_iff_ne]; exact hqn
          clear HP2
          go_wp2_with fail
          go_ret2
          exact ⟨none, 0, 0, [], by rw [HR.out]; rfl, Bs.none _, by rw [HR.out]; rfl, hbw⟩
    · obtain ⟨m, rfl⟩ : ∃ m, gk = m + 1 := ⟨gk - 1, by omega⟩
      have hok : ok = true := by
        cases hh : ok with
        | true => rfl
        | false => exact absurd (.inr hh) hstop
      subst hok
      have HEQ := hid (heq.out rfl)
      have ht : t.ok = true := by rw [hrel.1 rfl]
      have t0' : decide ((k : Int) < (N : Int)) = true := by simp; omega
      have t0'' : decide (k < N) = true := by simp; omega
      clear hstop heq hbad
      have d3 := C.out wo q 3 true t (by omega) hrd hrel
      have HB1 : Evt.batches (m + 1) t = (⟨(Evt.num 3 t).1, (Evt.events (Evt.num 1 (Evt.num 3 t).2).1 (Evt.num 1 (Evt.num 3 t).2).2).1⟩ :: (Evt.batches m (Evt.events (Evt.num 1 (Evt.num 3 t).2).1 (Evt.num 1 (Evt.num 3 t).2).2).2).1, (Evt.batches m (Evt.events (Evt.num 1 (Evt.num 3 t).2).1 (Evt.num 1 (Evt.num 3 t).2).2).2).2) := by
        show (if t.ok = true then _ else _) = _
        rw [if_pos ht]; rfl
      have HEQ2 := HEQ.out
      rw [HB1] at HEQ2
      clear HEQ HB1 ht
      generalize Evt.num 3 t = p3 at *
      obtain ⟨cp, t1⟩ := p3
      have d1 := fun W q ok => C.out W q 1 ok t1 (by omega)
      have hmono : t1.ok = false → (Evt.num 1 t1).2.ok = false := Evt.num_keeps 1 t1
      simp only at HEQ2
      generalize Evt.num 1 t1 = p1 at *
      obtain ⟨Kp, t2⟩ := p1
      simp only at HEQ2
      have HEQ := hid HEQ2
      replace d3 := hid d3; replace d1 := hid d1
      clear HEQ2
      go_wp2_with fail
      go_at_call 52; refine (d3.out).mono ?_; rintro e w2 ⟨c, q1, ok1, rfl, hc, R2, O2, rel2, hcc, _, hq1⟩
      have hzw2 := O2.size
      have hR2' : Rr w (w2.alloc (.cells #[.int .i64 (c : Int), .slice none 0 0] 52)) (w.heap.size + 1) w.heap.size (w.heap.size + 2) l q1 ok1 := by
        obtain ⟨g1, ⟨a1, n1, c1, g2, g3⟩, g4, g5, g6, g7, g8⟩ := R2
        exact ⟨blk_old g1, ⟨a1, n1, c1, blk_old g2, g3⟩, blk_old g4, g5, g6.alloc g6.size _, g7, g8⟩
      have hz2 : w.heap.size + 2 < w2.heap.size := by omega
      clear d3 ca cb' co t0' t0''
      go_wp2_with fail
      go_at_call 52; refine (d1.out _ q1 ok1 hR2' rel2).mono ?_; rintro e w3 ⟨K, q2, ok2, rfl, hK, R3, O3, rel3, hKK, _, hq2⟩
      have hX3 := O3.blk (blk_new w2 (.cells #[.int .i64 (c : Int), .slice none 0 0] 52)) (by simp; omega)
      have hO3 : Only wo w3 [w.heap.size + 1, w.heap.size + 2] := (O2.alloc (.cells #[.int .i64 (c : Int), .slice none 0 0] 52)).trans' O3
      have hK1 : K ≤ 255 := by have : (256 : Nat) ^ 1 = 256 := rfl; omega
      have hstart : M2 w wo w3 l w2.heap.size c cp Kp t2 K (.slice none 0 0) q2 ok2 t2 [] := ⟨rel3, fun hh => by rw [hKK hh]; rfl, fun hh => by rw [Evt.events_stop _ _ (.inr (rel3.2 hh))]; exact rel3.2 hh, by simp; omega, R3, fun hh => hcc (by cases hx1 : ok1 with | true => rfl | false => exact absurd (hmono (rel2.2 hx1)) (by rw [rel3.1 hh]; simp)), hX3, World.ownsRow_nil _ _ _ _, fun g hg => by simp [Value.ownBlock] at hg, fun x hx => (by cases hx), hO3⟩
      replace hstart := hid hstart
      clear d1 hR2' R2 R3 O2 O3 rel3 hKK hX3 hO3 hK hc
      go_wp2_with fail
      go_loopg [12, 13, 14] K (fun g i s13 s14 W => ∃ m2 k2 ev q' ok t es, g = m2 ∧ k2 + m2 = K ∧ i = .int .i64 (k2 : Int) ∧ q' + m2 * 260 ≤ q + 66304 ∧ M2 w wo W l w2.heap.size c cp Kp t2 m2 ev q' ok t es)
      case atStart => exact ⟨K, 0, _, q2, ok2, t2, [], rfl, by omega, rfl, by omega, hstart.out⟩
      case round =>
        clear hstart
        obtain ⟨m2, k2, ev, qe, oke, t', es, rfl, hkK, rfl, hq26, hL⟩ := hrel
        have HL := hid hL
        obtain ⟨g1, ⟨ra2, rn2, rc2, g2, g3⟩, g4, _, hbw2, hqe, _⟩ := id hL.rd
        have da : wr.cell? ⟨w.heap.size + 1, 0, none⟩ = some (.int .i64 (qe : Int)) := blk_cell g1
        have db : wr.cell? ⟨w.heap.size, 0, none⟩ = some (.slice ra2 rn2 rc2) := blk_cell g2
        have dok : wr.cell? ⟨w.heap.size + 2, 0, none⟩ = some (.bool oke) := blk_cell g4
        have x0 : wr.cell? ⟨w2.heap.size, 0, none⟩ = some (.int .i64 (c : Int)) := blk_cell hL.box
        have x1 : wr.cell? ⟨w2.heap.size, 1, none⟩ = some ev := blk_cell hL.box
        by_cases hstop2 : gk = 0 ∨ oke = false
        · obtain ⟨ea, ecap, rfl, _⟩ := own_sl hL.own
          have hoW := hrd.only_own hL.only hout (by decide) (by decide)
          have hst : oke = true → gk = 0 := fun hh => hstop2.resolve_right (by rw [hh]; simp)
          have NX := hid (fun v5 w5 lit => @M1.next w wo wr w5 l N0 Kp m gk w2.heap.size t0 t2 t' Rs c cp ea ecap qe q oke true es u7 v5 lit HEQ.out (by omega) hrd hout hevs hL hst)
          have hzw := hL.only.size
          have hRsl : Rs.length ≤ 255 := by omega
          obtain ⟨a5, cp5, rfl, _⟩ := own_sl hoW
          clear hL da db
          rcases Nat.eq_zero_or_pos gk with h0 | h0
          · subst h0
            obtain rfl : k2 = K := by omega
            clear hstop2 hst
            go_wp2_with (refine wpList_append_t rfl (.tmp 73) (.tmp 75) 45 45 rfl w.heap.size 52 2 32 (.agg #[.int .i64 0, .slice none 0 0]) Try.underlying45 info_ba rfl (by decide) (.slice a5 Rs.length cp5) Rs.length (rbCells Rs) rfl (OT.start (hoW.alloc (.cells #[.int .i64 (c : Int), .slice ea es.length ecap] 52))) _ 1 [.int .i64 (c : Int), .slice ea es.length ecap] rfl (Src.ofLit wr #[.int .i64 (c : Int), .slice ea es.length ecap] 52 1 2 Try.underlying45 rfl (by simp [Value.oneCell'])) (by unfold maxLen; omega) (by omega) (by have := hbw2.size; simp; omega) ?_; intro v5 w5 o5 g5; have hL5 := NX.out v5 w5 _ o5)
            go_roundg m
            case measure => omega
            case rel => exact ⟨m, k + 1, qe, oke, _, _, rfl, by omega, by go_num, by omega, hL5⟩
          · have hok2 : oke = false := hstop2.resolve_left (by omega)
            subst hok2
            have u0 : decide ((k2 : Int) < (K : Int)) = true := by simp; omega
            have u1 : decide (k2 < K) = true := by simp; omega
            clear hstop2 hst
            go_wp2_with (refine wpList_append_t rfl (.tmp 73) (.tmp 75) 45 45 rfl w.heap.size 52 2 32 (.agg #[.int .i64 0, .slice none 0 0]) Try.underlying45 info_ba rfl (by decide) (.slice a5 Rs.length cp5) Rs.length (rbCells Rs) rfl (OT.start (hoW.alloc (.cells #[.int .i64 (c : Int), .slice ea es.length ecap] 52))) _ 1 [.int .i64 (c : Int), .slice ea es.length ecap] rfl (Src.ofLit wr #[.int .i64 (c : Int), .slice ea es.length ecap] 52 1 2 Try.underlying45 rfl (by simp [Value.oneCell'])) (by unfold maxLen; omega) (by omega) (by have := hbw2.size; simp; omega) ?_; intro v5 w5 o5 g5; have hL5 := NX.out v5 w5 _ o5)
            go_roundg m
            case measure => omega
            case rel => exact ⟨m, k + 1, qe, false, _, _, rfl, by omega, by go_num, by omega, hL5⟩
        · obtain ⟨kk, rfl⟩ : ∃ kk, gk = kk + 1 := ⟨gk - 1, by omega⟩
          have hoke : oke = true := by
            cases hh : oke with
            | true => rfl
            | false => exact absurd (.inr hh) hstop2
          subst hoke
          have u0 : decide ((k2 : Int) < (K : Int)) = true := by simp; omega
          have u1 : decide (k2 < K) = true := by simp; omega
          have ht' := hL.rel.1 rfl
          have dn := C.out (wr.alloc (.cells #[.string ⟨#[]⟩, .int .i64 0, .int .i64 0] 47)) qe 1 true t' (by omega) (hL.rd.alloc _) hL.rel
          replace dn := hid dn
          have hls : es.length + (kk + 1) ≤ 255 := hL.le
          have hX4 := blk_old (o' := .cells #[.string ⟨#[]⟩, .int .i64 0, .int .i64 0] 47) hL.box
          have hown4 := hL.own.alloc (.cells #[.string ⟨#[]⟩, .int .i64 0, .int .i64 0] 47)
          have hE4 := blk_new wr (.cells #[.string ⟨#[]⟩, .int .i64 0, .int .i64 0] 47)
          have hO4 := hL.only.alloc (.cells #[.string ⟨#[]⟩, .int .i64 0, .int .i64 0] 47)
          have hzW := hL.only.size
          clear hL hstop2 x0 x1
          go_wp2_with fail
          go_at_call 52; refine (dn.out).mono ?_; rintro e wA ⟨lg, qA, okA, rfl, hlg, RA, OA, relA, hlgA, hlg0, hqA1⟩
          have hXA := OA.blk hX4 (by simp; omega)
          have hEA := OA.blk hE4 (by simp; omega)
          have hOA := hO4.trans' OA
          have hzA := OA.size
          have hzA' : wr.heap.size + 1 ≤ wA.heap.size := by simpa using hzA
          have hownA : wA.ownsRow w.heap.size 47 3 ev es.length (evCells es) := (HL.out.rd.alloc (.cells #[.string ⟨#[]⟩, .int .i64 0, .int .i64 0] 47)).only_own OA hown4 (by decide) (by decide)
          have hlt8 : lg < 256 := by have e : (256 : Nat) ^ 1 = 256 := rfl; omega
          obtain ⟨j1, ⟨aA, nA, cA, j2, hlA⟩, j4, _, hbwA, hqA, _⟩ := id RA
          have ka : wA.cell? ⟨w.heap.size + 1, 0, none⟩ = some (.int .i64 (qA : Int)) := blk_cell j1
          have kb : wA.cell? ⟨w.heap.size, 0, none⟩ = some (.slice aA nA cA) := blk_cell j2
          have ko : wA.cell? ⟨w.heap.size + 2, 0, none⟩ = some (.bool okA) := blk_cell j4
          have HNA := hid (Bt.n hlA)
          clear hown4 hX4 hE4 hO4 OA dn da db dok hlg
          have hqAle := RA.le
          have hlE : l.length = nA := HNA.out
          have hokt : t'.ok = true := by rw [ht']
          by_cases hpast : nA < qA + lg
          · obtain rfl : okA = true := by
              cases hh : okA with
              | true => rfl
              | false => have h0 := hlg0 hokt hh; omega
            have hlgE := hlgA rfl
            have hbad2 : (Evt.event t').2.ok = false := Evt.event_past (relA.1 rfl) hqAle (by rw [hlE, ← hlgE]; exact hpast)
            have fo : wA.frozen? ⟨w.heap.size + 1 + 1, 0, none⟩ = false := blk_free j4
            have v0 : decide ((nA : Int) < (qA : Int) + (lg : Int)) = true := by simp; omega
            have RB : Rr w (wA.setCell ⟨w.heap.size + 1 + 1, 0, none⟩ (.bool false)) (w.heap.size + 1) w.heap.size (w.heap.size + 2) l qA false := RA.setOk false
            have hXne : w2.heap.size ≠ w.heap.size + 2 := by omega
            have hXB := (Below.heap_setCell wA ⟨w.heap.size + 1 + 1, 0, none⟩ (.bool false) w2.heap.size hXne).trans hXA
            have hownB := ownsRow_setCell_other (a := ⟨w.heap.size + 1 + 1, 0, none⟩) hownA (own_blk_ne hownA j4 (by decide)) (.bool false)
            have hOB := hOA.setCell (a := ⟨w.heap.size + 1 + 1, 0, none⟩) (.inl (by simp)) (.bool false)
            have hL2 := M2.broke (m' := 0) HL.out RB hbad2 hXB hownB hOB
            obtain ⟨ea, ecap, rfl, _⟩ := own_sl hL2.own
            have hoW := hrd.only_own hL2.only hout (by decide) (by decide)
            have NX := hid (fun v5 w5 lit => @M1.next w wo _ w5 l N0 Kp m 0 w2.heap.size t0 t2 _ Rs c cp ea ecap _ q false true es u7 v5 lit HEQ.out (by omega) hrd hout hevs hL2 (fun hh => by cases hh))
            have hzw := hL2.only.size
            have hRsl : Rs.length ≤ 255 := by omega
            have x0 : (wA.setCell ⟨w.heap.size + 1 + 1, 0, none⟩ (.bool false)).cell? ⟨w2.heap.size, 0, none⟩ = some (.int .i64 (c : Int)) := blk_cell hXB
            have x1 : (wA.setCell ⟨w.heap.size + 1 + 1, 0, none⟩ (.bool false)).cell? ⟨w2.heap.size, 1, none⟩ = some (.slice ea es.length ecap) := blk_cell hXB
            obtain ⟨a5, cp5, rfl, _⟩ := own_sl hoW
            have hlE := hid hlE
            have hlgE := hid hlgE
            have hsrc := Src.ofLit (wA.setCell ⟨w.heap.size + 1 + 1, 0, none⟩ (.bool false)) #[.int .i64 (c : Int), .slice ea es.length ecap] 52 1 2 Try.underlying45 rfl (by simp [Value.oneCell'])
            rw [World.size_setCell] at hsrc
            clear hL2 hXB hownB hOB RB hXA hEA hownA hOA hlgA hlg0 relA RA ht' hokt hXne
            go_wp2_with (refine wpList_append_t rfl (.tmp 73) (.tmp 75) 45 45 rfl w.heap.size 52 2 32 (.agg #[.int .i64 0, .slice none 0 0]) Try.underlying45 info_ba rfl (by decide) (.slice a5 Rs.length cp5) Rs.length (rbCells Rs) rfl (OT.start (hoW.alloc (.cells #[.int .i64 (c : Int), .slice ea es.length ecap] 52))) _ 1 [.int .i64 (c : Int), .slice ea es.length ecap] rfl hsrc (by unfold maxLen; omega) (by omega) (by have := hbw2.size; simp at hzw ⊢; omega) ?_; intro v5 w5 o5 g5; have hL5 := NX.out v5 w5 _ o5)
            go_roundg m
            case measure => omega
            case rel => exact ⟨m, k + 1, qA, false, _, _, rfl, by omega, by go_num, by omega, hL5⟩
          · have hfit2 : qA + lg ≤ nA := by omega
            have hA2 := Sl.below hlA hbwA
            have hleA := hA2.le
            have hmaxA := hA2.max
            unfold maxLen at hmaxA
            have v0 : decide ((nA : Int) < (qA : Int) + (lg : Int)) = false := by simp; omega
            have hneV : ev.ownBlock ≠ some wr.heap.size := fun e => by
              have := (HL.out.own.lt _ e).2
              omega
            have Q0 : QE w wo wA l w2.heap.size wr.heap.size c ev es qA okA (.string ⟨#[]⟩) (.int .i64 0) (.int .i64 0) := ⟨RA, hEA, hXA, hownA, hneV, hOA, by omega⟩
            have hS0 := Bt.slice hA2 (Nat.le_add_right qA lg) hfit2
            rw [Nat.add_sub_cancel_left, Nat.mul_one] at hS0
            have hSl : ((l.drop qA).take lg).length = lg := Bt.n hS0
            have hst := Bt.str hS0
            have hE1 : okA = true → Evt.take (Evt.num 1 t').1 (Evt.num 1 t').2 = ((l.drop qA).take lg, ⟨l.drop (qA + lg), true⟩) := fun hh => by
              rw [relA.1 hh, ← hlgA hh]; exact Evt.take_at (by rw [hlE]; exact hfit2)
            have relB : Rel l okA (qA + lg) (Evt.take (Evt.num 1 t').1 (Evt.num 1 t').2).2 := ⟨fun hh => by rw [hE1 hh], fun hh => Evt.take_keeps _ _ (relA.2 hh)⟩
            have Q1 := (Q0.setE 0 (.string ⟨((l.drop qA).take lg).toArray⟩) (a' := .string ⟨((l.drop qA).take lg).toArray⟩) (b' := .int .i64 0) (d' := .int .i64 0) rfl).setAt (qA + lg) (by omega)
            rw [show ((qA + lg : Nat) : Int) = (qA : Int) + (lg : Int) by simp] at Q1
            have dB := C.out _ _ 1 okA _ (by omega) Q1.rd relB
            have hTake := hid (show Evt.take (Evt.num 1 t').1 (Evt.num 1 t').2 = Evt.take (Evt.num 1 t').1 (Evt.num 1 t').2 from rfl)
            generalize hLS : (l.drop qA).take lg = LS at *
            obtain ⟨c0, c1, c2, g0, g1, g2⟩ := Q0.cells
            replace hlE := hid hlE
            replace ht' := hid ht'
            replace hst := hid hst
            replace dB := hid dB
            replace hSl := hid hSl
            replace hE1 := hid hE1
            have fA : wA.frozen? ⟨w.heap.size + 1, 0, none⟩ = false := blk_free j1
            clear hLS hS0 hpast hXA hEA hownA hOA relB
            have hqC := hid (show cA = qA → lg = 0 by omega)
            obtain hc | hc : cA = qA ∨ cA ≠ qA := by omega
            · have hst2 := hst.out
              rw [if_pos hc, hc, Nat.sub_self] at hst2
              go_wp2_with fail
              go_at_call 52; refine (dB.out).mono ?_; rintro e wB ⟨x1, qB, okB, rfl, hx1, RB, OB, relB2, hx1e, _, hqB1⟩
              have QB := Q1.num RB OB
              have Q2 := QB.setE 1 (.int .i64 (x1 : Int)) (a' := .string ⟨LS.toArray⟩) (b' := .int .i64 (x1 : Int)) (d' := .int .i64 0) rfl
              have dC := hid (C.out _ _ 3 okB _ (by omega) Q2.rd relB2)
              obtain ⟨k0, k1, k2', p0, p1, p2⟩ := QB.cells
              clear c0 c1 c2 g0 g1 g2 hst2 dB
              go_wp2_with fail
              go_at_call 52; refine (dC.out).mono ?_; rintro e wC ⟨x3, qC, okC, rfl, hx3, RC, OC, relC, hx3e, _, hqC1⟩
              have QC := Q2.num RC OC
              have Q3 := QC.setE 2 (.int .i64 (x3 : Int)) (a' := .string ⟨LS.toArray⟩) (b' := .int .i64 (x1 : Int)) (d' := .int .i64 (x3 : Int)) rfl
              clear k0 k1 k2' p0 p1 p2 dC
              obtain ⟨k0, k1, k2', p0, p1, p2⟩ := QC.cells
              have xb : wC.cell? ⟨w2.heap.size, 1, none⟩ = some ev := blk_cell QC.bx
              have hszC := Q3.only.size
              have hszC' : wo.heap.size ≤ wC.heap.size := by simpa using hszC
              have hBC : okC = true → okB = true := fun hh => by
                cases hx : okB with
                | true => rfl
                | false =>
                  have h1 := Evt.num_keeps 3 _ (relB2.2 hx)
                  rw [relC.1 hh] at h1
                  cases h1
              have hAB : okB = true → okA = true := fun hh => by
                cases hx : okA with
                | true => rfl
                | false =>
                  have h1 := Evt.num_keeps 1 _ (Evt.take_keeps (Evt.num 1 t').1 _ (relA.2 hx))
                  rw [relB2.1 hh] at h1
                  cases h1
              have hev : okC = true → (⟨⟨LS.toArray⟩, (x1 : Int), (x3 : Int)⟩ : Evt.Ev) = (Evt.event t').1 := fun hh => by
                show (⟨⟨LS.toArray⟩, (x1 : Int), (x3 : Int)⟩ : Evt.Ev) = ⟨⟨(Evt.take (Evt.num 1 t').1 (Evt.num 1 t').2).1.toArray⟩, ((Evt.num 1 (Evt.take (Evt.num 1 t').1 (Evt.num 1 t').2).2).1 : Int), ((Evt.num 3 (Evt.num 1 (Evt.take (Evt.num 1 t').1 (Evt.num 1 t').2).2).2).1 : Int)⟩
                rw [← hx3e hh, ← hx1e (hBC hh)]
                have e1 := congrArg Prod.fst (hE1.out (hAB (hBC hh)))
                simp only at e1
                rw [e1]
              have NX2 := hid (fun v' w5 lit => M2.next (lit := lit) (w5 := w5) (v' := v') HL.out hzw2 hz2 hsz Q3.rd relC hev Q3.bx Q3.own Q3.only (by show LS.toArray.size ≤ maxLen; simp [maxLen]; have := hSl.out; omega))
              have hown8 := Q3.own
              have hsrc3 := Src.ofLit (wC.setCell ⟨wr.heap.size, 2, none⟩ (.int .i64 (x3 : Int))) #[.string ⟨LS.toArray⟩, .int .i64 (x1 : Int), .int .i64 (x3 : Int)] 47 1 3 Try.underlying50 rfl (by simp [Value.oneCell'])
              rw [World.size_setCell] at hsrc3
              clear Q0 Q1 QB Q2 QC Q3 hBC hAB hev relC relB2 relA RB RC OB OC hx1e hx3e hlgA hlg0 hlE
              go_wp2_with (refine wpList_append_t rfl (.tmp 68) (.tmp 70) 50 50 rfl w.heap.size 47 3 32 (.agg #[.string ⟨#[]⟩, .int .i64 0, .int .i64 0]) Try.underlying50 info_ev rfl (by decide) ev es.length (evCells es) rfl (OT.start (hown8.alloc (.cells #[.string ⟨LS.toArray⟩, .int .i64 (x1 : Int), .int .i64 (x3 : Int)] 47))) _ 1 [.string ⟨LS.toArray⟩, .int .i64 (x1 : Int), .int .i64 (x3 : Int)] rfl hsrc3 (by unfold maxLen; omega) (by omega) (by simp; omega) ?_; intro v5 w5 o5 g5; obtain ⟨a7, cp7, rfl, _⟩ := own_sl o5.own; obtain ⟨hX5, hL5⟩ := NX2.out _ w5 _ o5; have s0 : w5.cell? ⟨w2.heap.size, 1, none⟩ = some ev := blk_cell hX5; have s1 : w5.frozen? ⟨w2.heap.size, 1, none⟩ = false := blk_free hX5)
              go_roundg kk
              case measure => omega
              case rel => exact ⟨kk, k2 + 1, _, qC, okC, _, _, rfl, by omega, by go_num, by omega, hL5⟩
            · have hst2 := hst.out
              rw [if_neg hc] at hst2
              go_wp2_with fail
              go_at_call 52; refine (dB.out).mono ?_; rintro e wB ⟨x1, qB, okB, rfl, hx1, RB, OB, relB2, hx1e, _, hqB1⟩
              have QB := Q1.num RB OB
              have Q2 := QB.setE 1 (.int .i64 (x1 : Int)) (a' := .string ⟨LS.toArray⟩) (b' := .int .i64 (x1 : Int)) (d' := .int .i64 0) rfl
              have dC := hid (C.out _ _ 3 okB _ (by omega) Q2.rd relB2)
              obtain ⟨k0, k1, k2', p0, p1, p2⟩ := QB.cells
              clear c0 c1 c2 g0 g1 g2 hst2 dB
              go_wp2_with fail
              go_at_call 52; refine (dC.out).mono ?_; rintro e wC ⟨x3, qC, okC, rfl, hx3, RC, OC, relC, hx3e, _, hqC1⟩
              have QC := Q2.num RC OC
              have Q3 := QC.setE 2 (.int .i64 (x3 : Int)) (a' := .string ⟨LS.toArray⟩) (b' := .int .i64 (x1 : Int)) (d' := .int .i64 (x3 : Int)) rfl
              clear k0 k1 k2' p0 p1 p2 dC
              obtain ⟨k0, k1, k2', p0, p1, p2⟩ := QC.cells
              have xb : wC.cell? ⟨w2.heap.size, 1, none⟩ = some ev := blk_cell QC.bx
              have hszC := Q3.only.size
              have hszC' : wo.heap.size ≤ wC.heap.size := by simpa using hszC
              have hBC : okC = true → okB = true := fun hh => by
                cases hx : okB with
                | true => rfl
                | false =>
                  have h1 := Evt.num_keeps 3 _ (relB2.2 hx)
                  rw [relC.1 hh] at h1
                  cases h1
              have hAB : okB = true → okA = true := fun hh => by
                cases hx : okA with
                | true => rfl
                | false =>
                  have h1 := Evt.num_keeps 1 _ (Evt.take_keeps (Evt.num 1 t').1 _ (relA.2 hx))
                  rw [relB2.1 hh] at h1
                  cases h1
              have hev : okC = true → (⟨⟨LS.toArray⟩, (x1 : Int), (x3 : Int)⟩ : Evt.Ev) = (Evt.event t').1 := fun hh => by
                show (⟨⟨LS.toArray⟩, (x1 : Int), (x3 : Int)⟩ : Evt.Ev) = ⟨⟨(Evt.take (Evt.num 1 t').1 (Evt.num 1 t').2).1.toArray⟩, ((Evt.num 1 (Evt.take (Evt.num 1 t').1 (Evt.num 1 t').2).2).1 : Int), ((Evt.num 3 (Evt.num 1 (Evt.take (Evt.num 1 t').1 (Evt.num 1 t').2).2).2).1 : Int)⟩
                rw [← hx3e hh, ← hx1e (hBC hh)]
                have e1 := congrArg Prod.fst (hE1.out (hAB (hBC hh)))
                simp only at e1
                rw [e1]
              have NX2 := hid (fun v' w5 lit => M2.next (lit := lit) (w5 := w5) (v' := v') HL.out hzw2 hz2 hsz Q3.rd relC hev Q3.bx Q3.own Q3.only (by show LS.toArray.size ≤ maxLen; simp [maxLen]; have := hSl.out; omega))
              have hown8 := Q3.own
              have hsrc3 := Src.ofLit (wC.setCell ⟨wr.heap.size, 2, none⟩ (.int .i64 (x3 : Int))) #[.string ⟨LS.toArray⟩, .int .i64 (x1 : Int), .int .i64 (x3 : Int)] 47 1 3 Try.underlying50 rfl (by simp [Value.oneCell'])
              rw [World.size_setCell] at hsrc3
              clear Q0 Q1 QB Q2 QC Q3 hBC hAB hev relC relB2 relA RB RC OB OC hx1e hx3e hlgA hlg0 hlE
              go_wp2_with (refine wpList_append_t rfl (.tmp 68) (.tmp 70) 50 50 rfl w.heap.size 47 3 32 (.agg #[.string ⟨#[]⟩, .int .i64 0, .int .i64 0]) Try.underlying50 info_ev rfl (by decide) ev es.length (evCells es) rfl (OT.start (hown8.alloc (.cells #[.string ⟨LS.toArray⟩, .int .i64 (x1 : Int), .int .i64 (x3 : Int)] 47))) _ 1 [.string ⟨LS.toArray⟩, .int .i64 (x1 : Int), .int .i64 (x3 : Int)] rfl hsrc3 (by unfold maxLen; omega) (by omega) (by simp; omega) ?_; intro v5 w5 o5 g5; obtain ⟨a7, cp7, rfl, _⟩ := own_sl o5.own; obtain ⟨hX5, hL5⟩ := NX2.out _ w5 _ o5; have s0 : w5.cell? ⟨w2.heap.size, 1, none⟩ = some ev := blk_cell hX5; have s1 : w5.frozen? ⟨w2.heap.size, 1, none⟩ = false := blk_free hX5)
              go_roundg kk
              case measure => omega
              case rel => exact ⟨kk, k2 + 1, _, qC, okC, _, _, rfl, by omega, by go_num, by omega, hL5⟩

end Go.Proofs.Ytkngfobnfocpjaa
