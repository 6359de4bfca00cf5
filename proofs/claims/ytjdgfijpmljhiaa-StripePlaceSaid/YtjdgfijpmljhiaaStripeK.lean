/- Walk: StripePlace. -/
import Derived.Test.YtjdgfijpmljhiaaStripeJ
namespace Go.Proofs.Ytjdgfijpmljhiaa
open Go.RowKit
set_option linter.unusedVariables false
set_option linter.unusedSimpArgs false
set_option maxRecDepth 100000
theorem slice_dropR (ea : Option Addr) (en ec k : Nat) (hk : k ≤ en) (W : World) : (Instr.slice 50 (.slice ea en ec) (some (.int .i64 (k : Int))) none none).run Try.prog W = .ok (.slice (if ec = k then ea else ea.map (·.add (k * 1))) (en - k) (ec - k)) W := by
  have h0 : (0 : Int) ≤ (k : Int) := by omega
  have h1 : (k : Int) ≤ (en : Int) := by omega
  refine (run_slice_l (P := Try.prog) (w := W) (t := 50) (a := ea) (len := en) (cap := ec) Try.underlying50 .i64 (k : Int) h0 h1).trans ?_
  simp only [Int.toNat_natCast]
  rfl
theorem lit1_sl {w : World} {b : Nat} {v : Value} {t : TypeId} (h : w.heap[b]? = some (.cells #[v] t (0, 0))) : Sl w 1 (some ⟨b, 0, none⟩) 1 1 [v] :=
  ⟨Nat.le_refl _, by decide, rfl, (fun e => by cases e), fun _ => ⟨b, 0, rfl, fun j u hj => by
    have hj0 : j = 0 := by
      have := (List.getElem?_eq_some_iff.1 hj).1
      simpa using this
    subst hj0
    rw [blk_cell h]
    simpa using hj⟩⟩

set_option maxHeartbeats 4000000 in
theorem StripePlace_walk (a : Option Addr) (n cap : Nat) (b : List UInt8) (g o d s : Int) (w : World) (hb : Bt w a n cap b) :
    Calls Try.prog 8 #[.slice a n cap, .int .i64 g, .int .i64 o, .int .i64 d, .int .i64 s] w (Grew (.bool true) w) := by
  go_enter Try.func8, Try.ntmps8
  go_wp2_with fail
  go_at_call 25; refine (alive6_call _).mono ?_; rintro e w0 ⟨rfl, b0⟩
  go_wp2_with fail
  go_at_call 26; refine (sLay_call _ _ _ _ _ _ _ _ (Sl.below hb b0)).mono ?_; rintro e w1 ⟨a1, n1, c1, L, e1, rfl, hL, hp, b1⟩
  replace b1 := bnext b0 b1
  by_cases he : e1 = 0
  · subst he
    obtain ⟨g, d, s, S, rfl, rfl, rfl, hLd⟩ := hp.laid rfl
    by_cases ho : o = (g : Int)
    · subst ho
      clear hp
      go_wp2_with fail
      go_ret
      exact ⟨rfl, b1⟩
    have u0 : (o == (g : Int)) = false := beq_eq_false_iff_ne.2 ho
    have hn1 : n1 = d + s := by rw [← hL.dn, hLd.len]
    have h12 := hLd.n12
    have HD := hid hLd
    have HN := hid hL.dn
    have HL := hid hL.cnt
    replace hn1 := hid hn1
    have hn2 : n1 ≤ 12 := by have := hn1.out; omega
    have hn3 : 1 ≤ n1 := by have := hn1.out; omega
    have hbo := hid (hLd.bad_other ho)
    rw [HN.out] at hbo
    replace ho := hid ho
    clear hp hLd h12
    go_wp2_with fail
    go_at_call 28; refine (sBad_call a1 n1 c1 L _ _ hL (by omega)).mono ?_; rintro e w2 ⟨ba, bc, rfl, hB, b2⟩
    rw [hbo.out]
    have hL2 := hL.below b2
    replace b2 := bnext b1 b2
    have hcle := hL2.sl.le
    have hcmax := hL2.sl.max
    unfold maxLen at hcmax
    have hSl : ∀ W, (Instr.slice 50 (.slice a1 n1 c1) (some (.int .i64 1)) none none).run Try.prog W = .ok (.slice (if c1 = 1 then a1 else a1.map (·.add (1 * 1))) (n1 - 1) (c1 - 1)) W := fun W => slice_dropR a1 n1 c1 1 hn3 W
    have j1 : (0 : Int) < (n1 : Int) := by omega
    have j2 : 0 < n1 := hn3
    have hLd := hL2.drop (lo := 1) hn3
    generalize (if c1 = 1 then a1 else a1.map (·.add (1 * 1))) = da at *
    obtain ⟨lb, loff, rfl, _⟩ := hL2.sl.addr (by omega)
    have h0L : 0 < L.length := by rw [HL.out]; omega
    obtain ⟨x0, q0⟩ := hL2.at 0 h0L
    rw [Nat.add_zero] at x0
    have t1 : ((n1 : Int) != (n1 : Int)) = false := by simp
    clear hB hL
    have z0 := World.block_lt_of_cell? _ _ x0
    obtain ⟨r0, hr0⟩ : ∃ r0, r0 = L[0] := ⟨_, rfl⟩
    rw [← hr0] at x0 q0
    replace hr0 := hid hr0
    generalize hdn : n1 - 1 = dn at *
    generalize c1 - 1 = dc at *
    have hdn2 : dn + 1 = n1 := by omega
    have hdn3 : dn ≤ 12 := by omega
    replace hdn := hid hdn
    replace hdn2 := hid hdn2
    have oA : OT w2 (w2.drew.alloc (.cells #[] 48)) none w2.heap.size 48 1 (.slice (some ⟨w2.heap.size, 0, none⟩) 0 0) 0 [] := OT.fresh (World.ownsRow_lit w2.drew #[] 0 (Nat.le_refl _) (by decide) rfl) (((Below.refl _ _).drew).alloc (Nat.le_refl _) _) (Nat.le_refl _)
    have oC : OT w2 ((w2.drew.alloc (.cells #[.slice r0.a r0.n r0.cap] 48)).alloc (.cells #[] 48)) none w2.heap.size 48 1 (.slice (some ⟨w2.heap.size + 1, 0, none⟩) 0 0) 0 [] := by
      have := World.ownsRow_lit (base := w2.heap.size) (e := 48) (size := 1) (w2.drew.alloc (.cells #[.slice r0.a r0.n r0.cap] 48)) #[] 0 (by simp) (by decide) rfl
      rw [World.size_alloc] at this
      exact OT.fresh this ((((Below.refl _ _).drew).alloc (Nat.le_refl _) _).alloc (by simp) _) (Nat.le_refl _)
    have dA : Ms (w2.drew.alloc (.cells #[] 48)) da dn dc (L.drop 1) := (hLd.drew).alloc _
    have dB : Ms ((w2.drew.alloc (.cells #[] 48)).alloc (.cells #[.slice r0.a r0.n r0.cap] 48)) da dn dc (L.drop 1) := dA.alloc _
    have dC : Ms ((w2.drew.alloc (.cells #[.slice r0.a r0.n r0.cap] 48)).alloc (.cells #[] 48)) da dn dc (L.drop 1) := ((hLd.drew).alloc _).alloc _
    have oB := oA.alloc (.cells #[.slice r0.a r0.n r0.cap] 48)
    have lB : ((w2.drew.alloc (.cells #[] 48)).alloc (.cells #[.slice r0.a r0.n r0.cap] 48)).heap[w2.heap.size + 1]? = some (.cells #[.slice r0.a r0.n r0.cap] 48 (0, 0)) := by
      have := blk_new (w2.drew.alloc (.cells #[] 48)) (.cells #[.slice r0.a r0.n r0.cap] 48)
      rwa [World.size_alloc] at this
    have lC : ((w2.drew.alloc (.cells #[.slice r0.a r0.n r0.cap] 48)).alloc (.cells #[] 48)).heap[w2.heap.size]? = some (.cells #[.slice r0.a r0.n r0.cap] 48 (0, 0)) := blk_old (blk_new w2.drew _)
    have nB : some (w2.heap.size + 1) ≠ (Value.slice (some ⟨w2.heap.size, 0, none⟩) 0 0).ownBlock := by simp [Value.ownBlock]
    have nC : some w2.heap.size ≠ (Value.slice (some ⟨w2.heap.size + 1, 0, none⟩) 0 0).ownBlock := by simp [Value.ownBlock]
    have hone : ∀ u ∈ [Value.slice r0.a r0.n r0.cap], u.oneCell' = true := by simp [Value.oneCell']
    go_upto_region 8 with (fail)
    go_region_held3 (fun w' => w'.cell? ⟨lb, loff, none⟩ = some (.slice r0.a r0.n r0.cap))
      (first | (with_reducible exact x0) | (with_reducible exact x4) | exact x0 | exact (cell_old (by simpa using z0)).trans x0 | exact (cell_old (by simp; omega)).trans ((cell_old (by simpa using z0)).trans x0) | exact (cell_old (by omega)).trans x4 | exact x5 | go_keep)
      (first
        | (refine step_append_t rfl (.tmp 38) (.tmp 40) 50 50 rfl w2.heap.size 48 1 24 (.slice none 0 0) und_rowst info_bytest rfl (by decide) _ 0 [] rfl oA (.slice da dn dc) dn (rwCells (L.drop 1)) rfl (Sl.src dA.sl und_rowst (rwCells_one _)) (by unfold maxLen; omega) (by omega) (by simp; try omega) ?_; intro v4 w4 o4 g4; rw [Nat.zero_add, List.nil_append] at o4; have b4 := o4.belowOf (Nat.le_refl _) (fun k e => by cases e); have x4 := (b4.cell (p := ⟨lb, loff, none⟩) z0).trans x0; have z4 := b4.size)
        | (refine step_append_t rfl (.tmp 38) (.tmp 40) 50 50 rfl w2.heap.size 48 1 24 (.slice none 0 0) und_rowst info_bytest rfl (by decide) _ 0 [] rfl oB (.slice da dn dc) dn (rwCells (L.drop 1)) rfl (Sl.src dB.sl und_rowst (rwCells_one _)) (by unfold maxLen; omega) (by omega) (by simp; try omega) ?_; intro v4 w4 o4 g4; rw [Nat.zero_add, List.nil_append] at o4; have b4 := o4.belowOf (Nat.le_refl _) (fun k e => by cases e); have x4 := (b4.cell (p := ⟨lb, loff, none⟩) z0).trans x0; have z4 := b4.size; have l4 := blk_grown lB g4 nB)
        | (refine step_append_t rfl (.tmp 38) (.tmp 40) 50 50 rfl w2.heap.size 48 1 24 (.slice none 0 0) und_rowst info_bytest rfl (by decide) _ 0 [] rfl oC (.slice da dn dc) dn (rwCells (L.drop 1)) rfl (Sl.src dC.sl und_rowst (rwCells_one _)) (by unfold maxLen; omega) (by omega) (by simp; try omega) ?_; intro v4 w4 o4 g4; rw [Nat.zero_add, List.nil_append] at o4; have b4 := o4.belowOf (Nat.le_refl _) (fun k e => by cases e); have x4 := (b4.cell (p := ⟨lb, loff, none⟩) z0).trans x0; have z4 := b4.size; have l4 := blk_grown lC g4 nC)
        | (refine step_append_t rfl (.tmp 41) (.tmp 45) 50 50 rfl w2.heap.size 48 1 24 (.slice none 0 0) und_rowst info_bytest rfl (by decide) _ dn (rwCells (L.drop 1)) rfl (o4.alloc (.cells #[.slice r0.a r0.n r0.cap] 48)) (.slice (some ⟨w4.heap.size, 0, none⟩) 1 1) 1 [.slice r0.a r0.n r0.cap] rfl (Src.ofLit w4 #[.slice r0.a r0.n r0.cap] 48 1 1 und_rowst rfl (by simp [Value.oneCell'])) (by unfold maxLen; omega) (by omega) (by simp; omega) ?_; intro v5 w5 o5 g5; have b5 := o5.belowOf (Nat.le_refl _) (fun k e => by cases e); have x5 := (b5.cell (p := ⟨lb, loff, none⟩) z0).trans x0)
        | (refine step_append_t rfl (.tmp 41) (.tmp 45) 50 50 rfl w2.heap.size 48 1 24 (.slice none 0 0) und_rowst info_bytest rfl (by decide) _ dn (rwCells (L.drop 1)) rfl o4 _ 1 [.slice r0.a r0.n r0.cap] rfl (Sl.src (lit1_sl l4) und_rowst hone) (by unfold maxLen; omega) (by omega) (by omega) ?_; intro v5 w5 o5 g5; have b5 := o5.belowOf (Nat.le_refl _) (fun k e => by cases e); have x5 := (b5.cell (p := ⟨lb, loff, none⟩) z0).trans x0))
    all_goals
      obtain ⟨t5, c5, rfl, hs5⟩ := own_sl o5.own
      have hM5 : Ms w5 t5 (dn + 1) c5 (L.drop 1 ++ [r0]) := ⟨by rw [rwCells_append]; exact hs5, fun r hr => by
        rcases List.mem_append.1 hr with h | h
        · exact Sl.below (hL2.row r (List.mem_of_mem_drop h)) b5
        · obtain rfl := List.mem_singleton.1 h
          exact Sl.below q0 b5⟩
      rw [hdn2.out] at hM5 ⊢
      have hbb := bnext b2 b5
      by_cases h1 : n1 = 1
      · have t2 : ((n1 : Int) == 1) = true := beq_iff_eq.2 (by omega)
        replace h1 := hid h1
        go_wp2_with fail
        go_ret
        exact ⟨rfl, hbb⟩
      · have t2 : ((n1 : Int) == 1) = false := beq_eq_false_iff_ne.2 (by omega)
        have hbt : (Stp.badL (rwData (L.drop 1 ++ [r0])) (g : Int) n1).length = n1 := by
          have h7 := HD.out.bad_turn (by rw [HN.out]; exact h1)
          rw [HN.out] at h7
          have e7 : rwData (L.drop 1 ++ [r0]) = (rwData L).drop 1 ++ [(rwData L).getD 0 []] := by
            rw [rwData_getD h0L, hr0.out]
            simp [rwData, List.map_drop]
          rw [e7]; exact h7
        replace hbt := hid hbt
        replace h1 := hid h1
        go_wp2_with fail
        go_at_call 28; refine (sBad_call _ n1 _ _ _ _ hM5 (by omega)).mono ?_; rintro e w6 ⟨ba6, bc6, rfl, hB6, b6⟩
        rw [hbt.out]
        clear hB6
        go_wp2_with fail
        go_ret
        exact ⟨ret_bool (by simp), bnext hbb b6⟩
  · have u0 : (e1 != 0) = true := bne_iff_ne.2 he
    replace he := hid he
    clear hp
    go_wp2_with fail
    go_ret
    exact ⟨rfl, b1⟩

end Go.Proofs.Ytjdgfijpmljhiaa
