/- Joined, and what is not used struck: SpT, OpS. -/
import Derived.Test.YthhcdfjijagalaaM39
import Derived.Test.YthhcdfjijagalaaM38
import Derived.SizedLaws
namespace Go.Proofs.Ythhcdfjijagalaa
open Go.RowKit Go.Maps
set_option linter.unusedVariables false
set_option linter.unusedSimpArgs false
set_option maxRecDepth 100000
set_option maxHeartbeats 200000000 in
theorem StoreScrubs_walk (sd ss sb : Int) (a : Option Addr) (n cap : Nat) (l : List Sto.Do) (hbg : n < 1500000000000) (w : World) (hD : Dos w a n cap l) (hF : ∀ d ∈ l, Fits d) : Calls Try.prog 7 #[.agg #[.int .i64 sd, .int .i64 ss, .int .i64 sb], .slice a n cap] w (Grew (.bool true) w) := by
  have HD := hid hD
  have HF := hid hF
  have HN := hid hD.cnt
  have hle := hD.le
  have hmax := hD.max
  unfold maxLen at hmax
  clear hD hF
  have B0 := blk_new w (.cells #[.int .i64 sd, .int .i64 ss, .int .i64 sb] 37)
  have bS := (Below.refl w.heap.size w).alloc (Nat.le_refl _) (.cells #[.int .i64 sd, .int .i64 ss, .int .i64 sb] 37)
  go_enter Try.func7, Try.ntmps7
  go_wp2_with fail
  go_at_call 21; refine (alive8_call _).mono ?_; rintro e w1 ⟨rfl, b1⟩
  have v1 := blk_below B0 b1
  have r0 : w1.cell? ⟨w.heap.size, 0, none⟩ = some (.int .i64 sd) := blk_cell v1
  have r1 : w1.cell? ⟨w.heap.size, 1, none⟩ = some (.int .i64 ss) := blk_cell v1
  have r2 : w1.cell? ⟨w.heap.size, 2, none⟩ = some (.int .i64 sb) := blk_cell v1
  have bA := hid (bnext bS b1)
  have SU1 := hid v1
  obtain ⟨X, hX, hXl, hXE, hXS⟩ := (HD.out.below bA.out).cells
  have HX := hid hX
  have HXE := hid hXE
  have HXS := hid hXS
  have hw1 : w.heap.size < w1.heap.size := World.block_lt_of_cell? _ _ r0
  have hne : (29 : TypeId) ≠ 44 := by decide
  clear b1 bS B0 v1 hX hXE hXS
  have hwr3 : IntKind.i64.wrap ((n : Int) + 3) = (n : Int) + 3 := IntWalk.i64_in _ (by omega)
  by_cases h80 : 80 < n + 3
  · have h80' : (80 : Int) < (n : Int) + 3 := by omega
    go_wp2_with fail
    go_ret
    exact ⟨rfl, bA.out⟩
  · have h80' : ¬ (80 : Int) < (n : Int) + 3 := by omega
    go_upto_region 5 with (fail)
    go_cut [5, 6, 7] (fun s5 s6 s7 wc => BoxRes (Sto.play sd ss sb (l ++ [Sto.doOf 8 0, Sto.doOf 9 0, Sto.doOf 8 0])) w1 wc s5 s6 s7)
    case first =>
      go_region_held3 (fun w' => w'.cell? ⟨w.heap.size, 0, none⟩ = some (.int .i64 sd) ∧ w'.cell? ⟨w.heap.size, 1, none⟩ = some (.int .i64 ss) ∧ w'.cell? ⟨w.heap.size, 2, none⟩ = some (.int .i64 sb)) ((first | with_reducible exact ⟨i0, i1, i2⟩ | with_reducible exact ⟨j0, j1, j2⟩ | with_reducible exact ⟨k0, k1, k2⟩ | with_reducible exact ⟨r0, r1, r2⟩ | (refine ⟨?_, ?_, ?_⟩ <;> (repeat (first | with_reducible assumption | with_reducible refine calloc ?_ | with_reducible refine cdrew ?_ | with_reducible refine cell_far (by (first | omega | (simp only [heap_alloc, heap_drew, Array.size_push]; omega))) ?_)); done) | fail))
        (first
          | (refine step_append_k rfl (.tmp 20) (.tmp 21) 34 34 rfl w1.heap.size 29 9 96 (.agg #[.int .i64 0, .int .i64 0, .int .i64 0, .int .i64 0, .int .u8 0, .int .i64 0, .slice none 0 0, .string ⟨#[]⟩, .int .i64 0]) Try.underlying34 info_Do rfl (by decide) (.slice (some ⟨_, 0, none⟩) 0 0) 0 [] rfl (OT.fresh (w0 := w1) (own0 (by (first | omega | (simp only [heap_alloc, heap_drew, Array.size_push]; omega))) (by (simp only [heap_alloc, heap_drew, Array.getElem?_push, Array.size_push]; repeat (first | assumption | rfl | rw [if_pos (by omega)] | rw [if_neg (by omega)])))) (by (repeat (first | assumption | exact Below.refl _ _ | refine below_drewN ?_ _ | refine Below.drew ?_ | refine Below.alloc ?_ (by (first | omega | (simp only [heap_alloc, heap_drew, Array.size_push]; omega))) _))) (Nat.le_refl _)) (.slice a n cap) n (rows do9 X) rfl (HXS.out _ (by (repeat (first | assumption | exact Below.refl _ _ | refine below_drewN ?_ _ | refine Below.drew ?_ | refine Below.alloc ?_ (by (first | omega | (simp only [heap_alloc, heap_drew, Array.size_push]; omega))) _)))) (by unfold maxLen; omega) (by omega) (by (first | omega | (simp only [heap_alloc, heap_drew, Array.size_push]; omega))) ?_; intro v4 w4 o4 g4 r4; rw [Nat.zero_add, List.nil_append] at o4; have b4 := o4.belowOf (Nat.le_refl _) (fun k e => by cases e); have z4 := b4.size; have k0 := (b4.cell (p := ⟨w.heap.size, 0, none⟩) hw1).trans r0; have k1 := (b4.cell (p := ⟨w.heap.size, 1, none⟩) hw1).trans r1; have k2 := (b4.cell (p := ⟨w.heap.size, 2, none⟩) hw1).trans r2; (first | (with_reducible have pq := r4 _ _ _ _ hne (bdrew (blk_new _ (.cells #[.int .i64 0, .int .i64 0, .int .i64 0, .slice none 0 0, .int .i64 0, .slice none 0 0, .slice none 0 0, .int .i64 0, .slice none 0 0] 44)))) | (with_reducible have pq := r4 _ _ _ _ hne (bdrew (blk_old (blk_new _ (.cells #[.int .i64 0, .int .i64 0, .int .i64 0, .slice none 0 0, .int .i64 0, .slice none 0 0, .slice none 0 0, .int .i64 0, .slice none 0 0] 44))))) | (with_reducible have pq := r4 _ _ _ _ hne (bdrew (blk_old (blk_old (blk_new _ (.cells #[.int .i64 0, .int .i64 0, .int .i64 0, .slice none 0 0, .int .i64 0, .slice none 0 0, .slice none 0 0, .int .i64 0, .slice none 0 0] 44)))))) | skip))
          | (refine step_append_k rfl (.tmp 22) (.tmp 26) 34 34 rfl w1.heap.size 29 9 96 (.agg #[.int .i64 0, .int .i64 0, .int .i64 0, .int .i64 0, .int .u8 0, .int .i64 0, .slice none 0 0, .string ⟨#[]⟩, .int .i64 0]) Try.underlying34 info_Do rfl (by decide) v4 n (rows do9 X) rfl (w0 := w1) (row := none) (by (repeat (first | exact o4 | refine OT.alloc ?_ _ | refine OT.drew ?_))) (.slice (some ⟨_, 0, none⟩) 3 3) 3 (rows do9 ([Sto.doOf 8 0, Sto.doOf 9 0, Sto.doOf 8 0].map bareX)) rfl (lit_at (Y := [Sto.doOf 8 0, Sto.doOf 9 0, Sto.doOf 8 0].map bareX) (by first | ((simp only [heap_alloc, heap_drew, Array.getElem?_push, Array.size_push]; repeat (first | assumption | rfl | rw [if_pos (by omega)] | rw [if_neg (by omega)])); done) | (refine lit_kept g4 ?_ ?_ <;> first | omega | ((simp only [heap_alloc, heap_drew, Array.getElem?_push, Array.size_push]; repeat (first | assumption | rfl | rw [if_pos (by omega)] | rw [if_neg (by omega)])); done)) | (refine blk_old (lit_kept g4 ?_ ?_) <;> first | omega | ((simp only [heap_alloc, heap_drew, Array.getElem?_push, Array.size_push]; repeat (first | assumption | rfl | rw [if_pos (by omega)] | rw [if_neg (by omega)])); done))) (by decide)) (by unfold maxLen; omega) (by omega) (by (first | omega | (simp only [heap_alloc, heap_drew, Array.size_push]; omega))) ?_; intro v5 w5 o5 g5 r5; have b5 := o5.belowOf (Nat.le_refl _) (fun k e => by cases e); have z5 := b5.size; have j0 := (b5.cell (p := ⟨w.heap.size, 0, none⟩) hw1).trans r0; have j1 := (b5.cell (p := ⟨w.heap.size, 1, none⟩) hw1).trans r1; have j2 := (b5.cell (p := ⟨w.heap.size, 2, none⟩) hw1).trans r2; obtain ⟨a5, c5, rfl, hD5⟩ := plus_dos HX.out hXl HXE.out b5 (ops := [Sto.doOf 8 0, Sto.doOf 9 0, Sto.doOf 8 0]) (fun d hd => by simp only [List.mem_cons, List.not_mem_nil, or_false] at hd; rcases hd with rfl | rfl | rfl <;> exact bare_of _ _) o5.own rfl; (first | (with_reducible have pq := r5 _ _ _ _ hne pq) | (with_reducible have pq := r5 _ _ _ _ hne (blk_old pq)) | (with_reducible have pq := r5 _ _ _ _ hne (blk_new w4 (.cells #[.int .i64 0, .int .i64 0, .int .i64 0, .slice none 0 0, .int .i64 0, .slice none 0 0, .slice none 0 0, .int .i64 0, .slice none 0 0] 44))) | (with_reducible have pq := r5 _ _ _ _ hne (blk_old (blk_new w4 (.cells #[.int .i64 0, .int .i64 0, .int .i64 0, .slice none 0 0, .int .i64 0, .slice none 0 0, .slice none 0 0, .int .i64 0, .slice none 0 0] 44)))) | (with_reducible have pq := r5 _ _ _ _ hne (blk_new (w4.alloc _) (.cells #[.int .i64 0, .int .i64 0, .int .i64 0, .slice none 0 0, .int .i64 0, .slice none 0 0, .slice none 0 0, .int .i64 0, .slice none 0 0] 44))) | skip))
          | (go_at_call 19; refine (stPlay_call sd ss sb a5 (n + 3) c5 _ _ (hD5.below (by (repeat (first | assumption | exact Below.refl _ _ | refine below_drewN ?_ _ | refine Below.drew ?_ | refine Below.alloc ?_ (by (first | omega | (simp only [heap_alloc, heap_drew, Array.size_push]; omega))) _))))).mono ?_; rintro e w6 ⟨m, av, ac, L, er, rfl, hM, hA, hP, b6⟩; have b7 : Below w1.heap.size w1 w6 := (by refine bnext ?_ b6; (repeat (first | assumption | exact Below.refl _ _ | refine below_drewN ?_ _ | refine Below.drew ?_ | refine Below.alloc ?_ (by (first | omega | (simp only [heap_alloc, heap_drew, Array.size_push]; omega))) _))); have i0 := (b7.cell (p := ⟨w.heap.size, 0, none⟩) hw1).trans r0; have i1 := (b7.cell (p := ⟨w.heap.size, 1, none⟩) hw1).trans r1; have i2 := (b7.cell (p := ⟨w.heap.size, 2, none⟩) hw1).trans r2; obtain ⟨va, vc, ta, tc, sa, sc, aa, ac2, hv, -⟩ := hM.val; rw [hv]; replace hv := hid hv; replace hM := hid hM; replace hA := hid hA; replace hP := hid hP; (first | (with_reducible have pq := blk_below pq b6; (try simp only [World.size_alloc] at pq); have q0 := blk_cell (i := 0) pq; have q1 := blk_cell (i := 1) pq; have q2 := blk_cell (i := 2) pq; have q3 := blk_cell (i := 3) pq; have q4 := blk_cell (i := 4) pq; have q5 := blk_cell (i := 5) pq; have q6 := blk_cell (i := 6) pq; have q7 := blk_cell (i := 7) pq; have q8 := blk_cell (i := 8) pq; have qf := (fun i => blk_free (i := i) pq)) | (with_reducible have pq := blk_below (blk_old pq) b6; (try simp only [World.size_alloc] at pq); have q0 := blk_cell (i := 0) pq; have q1 := blk_cell (i := 1) pq; have q2 := blk_cell (i := 2) pq; have q3 := blk_cell (i := 3) pq; have q4 := blk_cell (i := 4) pq; have q5 := blk_cell (i := 5) pq; have q6 := blk_cell (i := 6) pq; have q7 := blk_cell (i := 7) pq; have q8 := blk_cell (i := 8) pq; have qf := (fun i => blk_free (i := i) pq)) | (with_reducible have pq := blk_below (blk_new w5 (.cells #[.int .i64 0, .int .i64 0, .int .i64 0, .slice none 0 0, .int .i64 0, .slice none 0 0, .slice none 0 0, .int .i64 0, .slice none 0 0] 44)) b6; (try simp only [World.size_alloc] at pq); have q0 := blk_cell (i := 0) pq; have q1 := blk_cell (i := 1) pq; have q2 := blk_cell (i := 2) pq; have q3 := blk_cell (i := 3) pq; have q4 := blk_cell (i := 4) pq; have q5 := blk_cell (i := 5) pq; have q6 := blk_cell (i := 6) pq; have q7 := blk_cell (i := 7) pq; have q8 := blk_cell (i := 8) pq; have qf := (fun i => blk_free (i := i) pq)) | skip); (try replace pq := hid pq); clear r4 r5 g4 g5 o4 o5))
      all_goals (go_wp2_with fail; go_meet)
      all_goals first
        | with_reducible exact BoxRes.new hv.out hM.out hA.out hP.out b7
        | (with_reducible refine BoxRes.old pq.out ?_ hv.out hM.out hA.out hP.out b7; (first | omega | (simp only [heap_alloc, heap_drew, Array.size_push]; omega)))
    case rest =>
      obtain ⟨wD, rfl⟩ : ∃ wD : World, wD = wc := ⟨_, rfl⟩
      obtain ⟨m, av, ac, L, er, B, base, va, vc, ta, tc, sa, sc, aa, ac2, rfl, rfl, rfl, hv, hB, hM, hA, hP, bD⟩ := hcut
      have BD := hid (bnext bA.out bD)
      have HB := hid hB
      have hdv : m.dv = .slice va m.D.length vc := by
        have := hv
        unfold stVal at this
        simp only [Value.agg.injEq, Array.mk.injEq, List.cons.injEq] at this
        exact this.2.2.2.1
      obtain ⟨da', dc', hdv', hds⟩ := own_sl hM.dks
      rw [hdv] at hdv'
      cases hdv'
      have HDS := hid hds
      have HHL := hid (fun x hx => own_sl (hM.held x hx))
      have hq3 : wD.cell? ⟨B, 3, none⟩ = some (.slice va m.D.length vc) := blk_cell hB
      have hq4 : wD.cell? ⟨B, 4, none⟩ = some (.int .i64 (m.g : Int)) := blk_cell hB
      have hbD := BD.out.size
      clear bD hB hdv hds hv
      by_cases he : er = 0
      · subst he
        obtain ⟨hw, -, hst, hLm⟩ := Sto.play_ok hP
        obtain ⟨x1, x2, x3, hx1, hx2, hx3, hlen, hone, hclean, hdl, hgl⟩ := Sto.scrubs_plain hw l hst hLm
        rw [HN.out] at hx1 hx2 hx3 hlen
        have hML : m.D.length = m.st.disks.length := by show _ = (m.D.map Dm.dk).length; rw [List.length_map]
        rw [← hML] at hdl
        have hgl : m.g ≤ 40 := hgl
        have hmd : m.st.disks = m.D.map Dm.dk := rfl
        have hmg : m.st.segs = m.g := rfl
        rw [hmd, hmg] at hclean
        obtain ⟨ab, ao, rfl, -, hl1, hat⟩ := hA.gets rfl (by rw [hlen]; omega)
        rw [hlen] at hl1
        rw [hl1]
        obtain ⟨y1, hy1, -, T1⟩ := hat _ _ hx1
        obtain ⟨y2, hy2, -, T2⟩ := hat _ _ hx2
        obtain ⟨y3, hy3, -, T3⟩ := hat _ _ hx3
        have E1 := hid (congrArg Sto.An.err hy1)
        have HOne := hid hone
        have HCl := hid hclean
        have TT := hid (And.intro T1 (And.intro T2 T3))
        have HY := hid (And.intro hy2 hy3)
        have i0 : (0 : Int) ≤ (n : Int) := by omega
        have i1 : (n : Int) < ((n + 3 : Nat) : Int) := by omega
        have hn80 : n + 3 ≤ 80 := by
          obtain ⟨-, h8, -, -⟩ := Sto.play_ok hP
          rw [List.length_append, HN.out] at h8
          exact h8
        have c0 : wD.cell? ⟨ab, ao + n * 5, none⟩ = some (.int .i64 y1.err) := T1.c0
        replace hl1 := hid hl1
        clear hP hA hat hx1 hx2 hx3 hlen hone hclean hw hst hLm hmd hmg hy1 hy2 hy3 T1 T2 T3 hML hM
        by_cases he1 : y1.err = 0
        · have hex : x1.err = 0 := by rw [← E1.out]; exact he1
          obtain ⟨hcl, hc2, hc3, hc4⟩ := HCl.out hex
          have HCL := hid hcl
          rw [he1] at c0
          replace he1 := hid he1
          obtain ⟨Gn, hGn⟩ : ∃ Gn : Nat, Gn = ((m.D.map Dm.dk).filter Sto.Dk.gone).length := ⟨_, rfl⟩
          rw [← hGn] at hc2
          have hGle : Gn ≤ 12 := by
            rw [hGn]
            have := List.length_filter_le Sto.Dk.gone (m.D.map Dm.dk)
            rw [List.length_map] at this
            omega
          have d1 : ((Gn * m.g : Nat) : Int) = (Gn : Int) * (m.g : Int) := by push_cast; rfl
          have d2 : Gn * m.g ≤ 480 := by
            have := Nat.mul_le_mul hGle hgl
            omega
          have f1 : y2.n = (Gn : Int) * (m.g : Int) := by
            have := congrArg Sto.An.n HY.out.1
            rw [hc2, d1] at this; exact this
          have f2 : y3.err = 0 := (congrArg Sto.An.err HY.out.2).trans hc3
          have f3 : y3.n = 0 := (congrArg Sto.An.n HY.out.2).trans hc4
          have HF1 := hid (And.intro f1 (And.intro f2 f3))
          have HGn := hid hGn
          have hmw : IntKind.i64.wrap ((Gn : Int) * (m.g : Int)) = (Gn : Int) * (m.g : Int) := IntWalk.i64_in _ (by rw [← d1]; omega)
          have HMW := hid hmw
          clear hc2 hc3 hc4 hcl hex f1 f2 f3 hGn d1 d2 hmw
          generalize hDn : m.D.length = dn at *
          have HDN := hid hDn
          clear hDn
          go_wp2_with fail
          go_loopg [9, 56] dn (fun g s9 s56 wr => ∃ k : Nat, g = dn - k ∧ k ≤ dn ∧ s56 = .int .i64 (k : Int) ∧ s9 = .int .i64 (((((m.D.take k).map Dm.dk).filter Sto.Dk.gone).length : Nat) : Int) ∧ Below wD.heap.size wD wr)
          case atStart => exact ⟨0, rfl, by omega, rfl, rfl, Below.refl _ _⟩
          case round =>
            obtain ⟨k, rfl, hk, rfl, rfl, hb⟩ := hrel
            obtain ⟨wo, rfl⟩ : ∃ wo : World, wo = wr := ⟨_, rfl⟩
            have hbs := hb.size
            have q4 : wo.cell? ⟨B, 4, none⟩ = some (.int .i64 (m.g : Int)) := (hb.cell (p := ⟨B, 4, none⟩) (World.block_lt_of_cell? _ _ hq4)).trans hq4
            have q4o : ∀ O : Obj, (wo.alloc O).cell? ⟨B, 4, none⟩ = some (.int .i64 (m.g : Int)) := fun O => calloc q4
            have HBO := hid hb
            clear hb
            by_cases hlt : k < dn
            · have hkD : k < m.D.length := by rw [HDN.out]; exact hlt
              obtain ⟨db, doff, rfl, hcells⟩ := sl_rows (f := dm2) (fun _ => rfl) HDS.out (by omega)
              have hc := hcells k hkD
              have j0 : wo.cell? ⟨db, doff + k * 2, none⟩ = some (.bool m.D[k].g) := by
                have := (hc 0 (by omega)).trans (show (dm2 m.D[k])[0]? = some (.bool m.D[k].g) from rfl)
                rw [show doff + (k * 2 + 0) = doff + k * 2 by omega] at this
                exact (HBO.out.cell (p := ⟨db, _, none⟩) (World.block_lt_of_cell? _ _ this)).trans this
              have j1 : wo.cell? ⟨db, doff + k * 2 + 1, none⟩ = some (.slice m.D[k].a m.D[k].H.length m.D[k].cap) := by
                have := (hc 1 (by omega)).trans (show (dm2 m.D[k])[1]? = some (.slice m.D[k].a m.D[k].H.length m.D[k].cap) from rfl)
                rw [show doff + (k * 2 + 1) = doff + k * 2 + 1 by omega] at this
                exact (HBO.out.cell (p := ⟨db, _, none⟩) (World.block_lt_of_cell? _ _ this)).trans this
              have hbl := hid (HCL.out (m.D[k].dk) (List.mem_map.2 ⟨_, List.getElem_mem hkD, rfl⟩))
              have htk : (m.D.take (k + 1)).map Dm.dk = (m.D.take k).map Dm.dk ++ [m.D[k].dk] := by rw [List.take_add_one, List.getElem?_eq_getElem hkD, List.map_append]; rfl
              have HTK := hid htk
              have hgk : (((m.D.take k).map Dm.dk).filter Sto.Dk.gone).length ≤ k := by
                have := List.length_filter_le Sto.Dk.gone ((m.D.take k).map Dm.dk)
                rw [List.length_map, List.length_take] at this
                omega
              have k0 : (0 : Int) ≤ (k : Int) := by omega
              have k1 : (k : Int) < (dn : Int) := by omega
              clear hc hcells htk
              generalize hXk : m.D[k] = X at *
              replace hXk := hid hXk
              generalize hGk : (((m.D.take k).map Dm.dk).filter Sto.Dk.gone).length = gk at *
              have HGK := hid hGk
              clear hGk
              by_cases hXg : X.g = true
              · rw [hXg] at j0
                have HG1 : (((m.D.take (k + 1)).map Dm.dk).filter Sto.Dk.gone).length = gk + 1 := by
                  rw [HTK.out, List.filter_append, List.length_append, HGK.out]
                  show gk + (List.filter Sto.Dk.gone [X.dk]).length = _
                  rw [List.filter_cons_of_pos (show X.dk.gone = true from hXg)]; rfl
                replace HG1 := hid HG1
                replace hXg := hid hXg
                have bN := hid ((HBO.out.alloc hbs (.cells #[.bool true, .slice X.a X.H.length X.cap] 61)))
                go_wp2_with fail
                go_roundg (dn - (k + 1))
                case measure => omega
                case rel => exact ⟨k + 1, rfl, by omega, by go_num, by rw [HG1.out]; go_num, bN.out⟩
              · have hXg : X.g = false := by simpa using hXg
                rw [hXg] at j0
                have HG1 : (((m.D.take (k + 1)).map Dm.dk).filter Sto.Dk.gone).length = gk := by
                  rw [HTK.out, List.filter_append, List.length_append, HGK.out]
                  show gk + (List.filter Sto.Dk.gone [X.dk]).length = _
                  rw [List.filter_cons_of_neg (by show ¬ X.g = true; rw [hXg]; decide)]; rfl
                have hHl : X.H.length = m.g := by
                  have := hbl.out hXg
                  have e : X.dk.bl.length = X.H.length := by show (X.H.map Hm.hd).length = _; rw [List.length_map]
                  rw [← e]; exact this
                rw [hHl] at j1
                replace HG1 := hid HG1
                replace hXg := hid hXg
                replace hHl := hid hHl
                have bN := hid ((HBO.out.alloc hbs (.cells #[.bool false, .slice X.a m.g X.cap] 61)))
                go_wp2_with fail
                go_roundg (dn - (k + 1))
                case measure => omega
                case rel => exact ⟨k + 1, rfl, by omega, by go_num, by rw [HG1.out], bN.out⟩
            · have hkn : k = dn := by omega
              subst hkn
              have hGG : (((m.D.take k).map Dm.dk).filter Sto.Dk.gone).length = Gn := by
                rw [HGn.out, List.take_of_length_le (by rw [HDN.out]; exact Nat.le_refl _)]
              rw [hGG]
              replace hGG := hid hGG
              have g1 : wo.cell? ⟨ab, ao + (n + 1) * 5 + 1, none⟩ = some (.int .i64 ((Gn : Int) * (m.g : Int))) := by
                have := (TT.out.2.1.below HBO.out).c1
                rwa [HF1.out.1] at this
              have g2 : wo.cell? ⟨ab, ao + (n + 2) * 5, none⟩ = some (.int .i64 0) := by
                have := (TT.out.2.2.below HBO.out).c0
                rwa [HF1.out.2.1] at this
              have g3 : wo.cell? ⟨ab, ao + (n + 2) * 5 + 1, none⟩ = some (.int .i64 0) := by
                have := (TT.out.2.2.below HBO.out).c1
                rwa [HF1.out.2.2] at this
              have hw1 : IntKind.i64.wrap ((n : Int) + 1) = (n : Int) + 1 := IntWalk.i64_in _ (by omega)
              have hw2 : IntKind.i64.wrap ((n : Int) + 2) = (n : Int) + 2 := IntWalk.i64_in _ (by omega)
              have hmw := HMW.out
              go_wp2_with fail
              go_quiet (fail)
              go_wp2_with fail
              go_ret
              exact ⟨rfl, bnext BD.out (below_drewN HBO.out _)⟩
        · have t1 : (y1.err != 0) = true := bne_iff_ne.2 he1
          replace he1 := hid he1
          by_cases h10 : y1.err = 10
          · have t2 : (y1.err == 10) = true := by rw [h10]; rfl
            replace h10 := hid h10
            go_wp2_with fail
            go_ret
            exact ⟨rfl, BD.out⟩
          · have t2 : (y1.err == 10) = false := beq_eq_false_iff_ne.2 h10
            have HNO := hid (fun ho : Sto.Once l => (HOne.out ho).elim (fun e => he1.out (E1.out.trans e)) (fun e => h10 (E1.out.trans e)))
            replace h10 := hid h10
            have DO := hid (once8_call a n cap l wD (HD.out.below BD.out) (by omega) HF.out)
            go_wp2_with fail
            go_at_call 22; refine DO.out.mono ?_; rintro e w4 ⟨r, rfl, hr, b4⟩
            cases r with
            | true => exact (HNO.out (hr.1 rfl)).elim
            | false =>
              go_wp2_with fail
              go_ret
              exact ⟨rfl, bnext BD.out b4⟩
      · have t0 : (er != 0) = true := bne_iff_ne.2 he
        replace he := hid he
        go_wp2_with fail
        go_ret
        exact ⟨rfl, BD.out⟩
end Go.Proofs.Ythhcdfjijagalaa
namespace Go.Proofs.Ythhcdfjijagalaa
open Go.ChangeShapes Go.WideShapes Go.ChangeAt Go.RowKit Go.Joins Go.Deep
set_option linter.unusedVariables false
theorem bytesOf_Do : Try.prog.bytesOf 29 = 96 := by kernel_rfl
theorem dos_reach {H : Type} {enc : TypeId × Value → H} {w : World} {base : Nat} {spare : Nat → Bool} {held : Bool} {fuel : Nat} {a : Option Addr} {n cap : Nat} {x : DataW H × List MemPlace} (h : DataW.trod enc Try.prog w base spare held fuel 34 [.slice a n cap] = some x) (hw : ∀ u ∈ x.1.weights Try.prog 34, u ≤ reachBytes) : n * 96 ≤ reachBytes := by
  rcases open_slice Try.underlying34 h with ⟨h0, _⟩ | ⟨a', n', cap', m, k, D, Pl, hcs, _, hl, hm, hmm, hx, hi⟩
  · have : n = 0 := by simp at h0; exact h0.2.1
    omega
  · simp at hcs
    obtain ⟨_, rfl, rfl⟩ := hcs
    have hx1 : x.1 = .slice ((List.range n).map D) ((List.range (m - n)).map fun j => D (n + j)) := by rw [hx]
    have := hw ((((List.range n).map D).length + ((List.range (m - n)).map fun j => D (n + j)).length) * 96) (by
      rw [hx1]
      unfold DataW.weights
      rw [Try.underlying34]
      simp [bytesOf_Do])
    simp at this
    omega
end Go.Proofs.Ythhcdfjijagalaa
