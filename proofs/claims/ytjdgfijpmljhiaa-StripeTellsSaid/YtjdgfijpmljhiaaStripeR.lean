/- Contract of chapter 6: the program's Read. -/
import Derived.Test.YtjdgfijpmljhiaaStP
import Derived.Test.YtjdgfijpmljhiaaStripeH
import Derived.Test.YtjdgfijpmljhiaaCodeF
namespace Go.Proofs.Ytjdgfijpmljhiaa
open Go.RowKit
set_option linter.unusedVariables false
set_option maxRecDepth 100000
/-- It returns bytes and an error's number, of which P holds; what was there is as it was. -/
def BtRes (P : List UInt8 → Int → Prop) (w : World) (e : Ending) (w' : World) : Prop :=
  ∃ a n cap R err, e = .returned (.tuple #[.slice a n cap, .int .i64 err]) ∧ Bt w' a n cap R ∧ P R err ∧ Below w.heap.size w w'
theorem Bt.take3 {w : World} {a : Option Addr} {n cap : Nat} {l : List UInt8} (h : Bt w a n cap l) {k : Nat} (hk : k ≤ n) : Bt w a k k (l.take k) := by
  have h1 := Bt.take h hk
  exact ⟨Nat.le_refl _, Nat.le_trans h1.le h1.max, h1.len, fun e => by have := h1.nil e; have := h1.le; omega, h1.addr⟩
theorem Bt.empty (w : World) : Bt w none 0 0 [] := Sl.none w 1
theorem getD_empty {l : List (List UInt8)} {d : Nat} (h : l.length ≤ d) : l.getD d [] = [] := by simp [List.getD, h]

set_option maxHeartbeats 4000000 in
theorem sRead_ok (a : Option Addr) (n cap : Nat) (L : List Rw) (g : Int) (D s : Nat) (w : World) (hL : Ms w a n cap L) (hn : n = D + s) (h1 : 1 ≤ D) (h2 : D ≤ 8) (h3 : s ≤ 4) :
    Calls Try.prog 32 #[.slice a n cap, .int .i64 g, .int .i64 (D : Int)] w (BtRes (Stp.ReadR (rwData L) g (D : Int)) w) := by
  have HN := hid hL.cnt
  have HD := hid hL.dn
  have s1 : IntKind.i64.wrap ((n : Int) - (D : Int)) = (s : Int) := by rw [IntWalk.i64_in _ (by omega)]; omega
  have s2 : (n : Int) - (D : Int) = (s : Int) := by omega
  have hn12 : n ≤ 12 := by omega
  have hn1 : 1 ≤ n := by omega
  have hDn : D ≤ n := by omega
  have HC : Mat.wrongC (D : Int) (s : Int) = 0 := Mat.wrongC_of (by omega)
  have DC := hid (HC ▸ cWrong_call (D : Int) (s : Int) w)
  have HC2 := hid (show Mat.wrongC (D : Int) (((rwData L).length : Int) - (D : Int)) = 0 by rw [HD.out, s2]; exact HC)
  replace HC := hid HC
  replace hn := hid hn
  obtain ⟨ab, aoff, rfl, _⟩ := hL.sl.addr (by omega)
  go_enter Try.func32, Try.ntmps32
  go_wp2_with fail
  go_at_call 44; refine (DC.out).mono ?_; rintro e w0 ⟨rfl, rfl⟩
  go_wp2_with (refine wpList_make_mat rfl (.tmp 30) (.tmp 30) 50 und_rowst rfl n rfl rfl (by omega) ?_; intro w1 N1 b1 z1)
  have M1 : Mb w w1 none w.heap.size (.slice (some ⟨w.heap.size, 0, none⟩) n n) (List.replicate n ⟨none, 0, 0, []⟩) := by
    have ho := N1.own
    simp only [List.map_nil, List.nil_append, List.length_nil, Nat.sub_zero] at ho
    have e : rwCells (List.replicate n ⟨none, 0, 0, []⟩) = List.replicate n (.slice none 0 0) := by simp [rwCells, Rw.v]
    refine ⟨?_, fun r hr => ?_, fun r hr => ?_⟩
    · rw [e, List.length_replicate]; exact OT.fresh ho b1 (Nat.le_refl _)
    · rw [(List.mem_replicate.1 hr).2]; exact Bt.empty _
    · rw [(List.mem_replicate.1 hr).2]; intro hn; exact absurd hn (by simp)
  clear N1 b1
  go_loopg [9, 34] n (fun gg s9 s34 wr => ∃ (k : Nat) (O : List Rw), gg = n - k ∧ k ≤ n ∧ s34 = .int .i64 (k : Int) ∧ s9 = .int .i64 (Stp.szI (Stp.szTo (rwData L) g k)) ∧ Mb w wr none w.heap.size (.slice (some ⟨w.heap.size, 0, none⟩) n n) O ∧ Hid (rwData O = Stp.dataTo (rwData L) g k) ∧ Hid (Stp.Agree (rwData L) g k))
  case atStart => exact ⟨0, _, rfl, by omega, rfl, rfl, M1, hid (by rw [Stp.dataTo_zero, HD.out]; simp [rwData]), hid Stp.agree_zero⟩
  case round =>
    clear M1 z1
    obtain ⟨k, O, rfl, hk, rfl, rfl, hM, HO, HA⟩ := hrel
    obtain ⟨wo, rfl⟩ : ∃ wo : World, wo = wr := ⟨_, rfl⟩
    have hbo := hM.own.belowOf (Nat.le_refl _) (fun k e => by cases e)
    have hszo := hbo.size
    have hlt0 := (hM.own.own.lt _ rfl).2
    by_cases hlt : k < n
    · have hkL : k < L.length := by rw [HN.out]; exact hlt
      have hkd : k < (rwData L).length := by rw [HD.out]; exact hlt
      obtain ⟨x0, hb⟩ := (hL.below hbo).at k hkL
      have hl := rwData_getD hkL
      have D1 := sshard_call L[k].a L[k].n L[k].cap L[k].l g (k : Int) wo hb
      unfold ShTells at D1
      generalize L[k] = r at *
      have i0 : (0 : Int) ≤ (k : Int) := by omega
      have i1 : (k : Int) < (n : Int) := by omega
      have hOl : Hid (O.length = n) := hid (by have := congrArg List.length HO.out; rw [rwData_length, Stp.dataTo_length, HD.out] at this; exact this)
      cases hx : Stp.right r.l g (k : Int) with
      | false =>
        have hx' : Stp.right ((rwData L).getD k []) g k = false := by rw [hl]; exact hx
        have y1 := hid (Stp.szTo_no hx')
        have y2 := hid (Stp.dataTo_no hx')
        have y3 := hid (Stp.agree_no hx' HA.out)
        rw [hx] at D1
        replace D1 := hid D1
        replace hl := hid hl
        replace hx := hid hx
        replace hx' := hid hx'
        have y5 : Hid (Stp.szI (Stp.szTo (rwData L) g (k + 1)) = Stp.szI (Stp.szTo (rwData L) g k)) := hid (by rw [y1.out])
        generalize Stp.szI (Stp.szTo (rwData L) g k) = sI at *
        go_wp2_with fail
        go_at_call 47; refine (D1.out).mono ?_; rintro e w2 ⟨a2, c2, rfl, b2, -⟩
        have hM2 := hM.below b2
        go_wp2_with fail
        go_roundg (n - (k + 1))
        case measure => omega
        case rel => exact ⟨k + 1, O, rfl, by omega, by go_num, by rw [y5.out], hM2.alloc _, hid (by rw [y2.out]; exact HO.out), y3⟩
      | true =>
        have hx' : Stp.right ((rwData L).getD k []) g k = true := by rw [hl]; exact hx
        have y1 := hid (Stp.szTo_yes hx')
        have y2 := hid (Stp.dataTo_yes hx' hkd)
        have y3 := hid (Stp.agree_yes hx' HA.out)
        have y4 := hid (Stp.agree_not hx' hkd)
        rw [hl] at y1 y2 y3 y4
        have hsz1 : Hid (Stp.szI (Stp.szTo (rwData L) g (k + 1)) = ((Blk.parse r.l).z : Int)) := hid (by rw [y1.out]; exact Stp.szI_snoc _ _)
        rw [hx] at D1
        obtain ⟨sI, hsI⟩ : ∃ sI, sI = Stp.szI (Stp.szTo (rwData L) g k) := ⟨_, rfl⟩
        rw [← hsI] at y3 y4 ⊢
        replace hsI := hid hsI
        generalize Blk.parse r.l = P at *
        obtain ⟨E, G, Sh, Z, data⟩ := P
        simp only at D1 y2 y3 y4 hsz1
        replace D1 := hid D1
        replace hl := hid hl
        replace hx := hid hx
        replace hx' := hid hx'
        go_wp2_with fail
        go_at_call 47; refine (D1.out).mono ?_; rintro e w2 ⟨a2, c2, rfl, b2, hbd, nw⟩
        have hM2 := (hM.below b2).alloc (.cells #[.int .i64 G, .int .i64 Sh, .int .i64 Z, .slice a2 data.length c2] 77)
        have B2 := blk_new w2 (.cells #[.int .i64 G, .int .i64 Sh, .int .i64 Z, .slice a2 data.length c2] 77)
        have hbd2 := Sl.alloc hbd (.cells #[.int .i64 G, .int .i64 Sh, .int .i64 Z, .slice a2 data.length c2] 77)
        have hbw2 := bnext hbo b2
        have hbw3 := hbw2.alloc hbw2.size (.cells #[.int .i64 G, .int .i64 Sh, .int .i64 Z, .slice a2 data.length c2] 77)
        go_upto_region 11 with (fail)
        generalize w2.alloc (.cells #[.int .i64 G, .int .i64 Sh, .int .i64 Z, .slice a2 data.length c2] 77) = V at *
        have r2 := blk_cell (i := 2) B2
        have r3 := blk_cell (i := 3) B2
        have hap : Apart (.slice (some ⟨w.heap.size, 0, none⟩) n n) ⟨a2, data.length, c2, data⟩ := fun hn b off e e2 => by
          have := nw b off e
          have e3 : w.heap.size = b := Option.some.inj e2
          omega
        have hkO : k < O.length := by rw [hOl.out]; exact hlt
        have hset := hid (fun q => (hM2.below (below_drewN (Below.refl _ _) q)).set k hkO ⟨a2, data.length, c2, data⟩ (Sl.drewN hbd2 q) hap)
        have ho := hM2.own.own
        rw [hOl.out] at ho
        have f0 := ho.frozenAt k
        have f1 : V.cell? ⟨w.heap.size, k, none⟩ = some (O[k].v) := by rw [ho.cellAt k (by omega)]; simp [rwCells, hkO]
        have hdt : Hid (Stp.dataTo (rwData L) g (k + 1) = (Stp.dataTo (rwData L) g k).set k data) := y2
        clear ho hM hM2 hbo x0 hb hbd hbd2 nw hap b2 hbw2
        generalize O[k].v = ov at *
        by_cases c1 : 0 ≤ sI
        · by_cases c2' : (Z : Int) = sI
          · have hAg := hid (y3.out (.inr c2'))
            have t1 : ((Z : Int) != sI) = false := by rw [c2']; simp
            subst c2'
            clear t1
            have t1 : ((Z : Int) != (Z : Int)) = false := by simp
            clear y3 y4
            go_upto_region 13 with (fail)
            refine wp_region_still_tail 8 (by kernel_rfl) (by kernel_rfl) ?_
            change wpStill _ _ (World.drew _) _ _ _
            simp only [List.take_succ_cons, List.take_zero, List.drop_succ_cons, List.drop_zero]
            repeat still_step
            refine wpStill_nil ?_
            change wpList _ _ _ _ _ (World.drewN V 1)
            go_wp2_with fail
            go_roundg (n - (k + 1))
            case measure => omega
            case rel =>
              refine ⟨k + 1, O.set k ⟨a2, data.length, c2, data⟩, rfl, by omega, by go_num, by rw [hsz1.out], hset.out 1, hid ?_, hid hAg.out⟩
              rw [rwData_set, HO.out]
              exact hdt.out.symm
          · have hAn := hid (y4.out c1 c2')
            have t1 : ((Z : Int) != sI) = true := bne_iff_ne.2 c2'
            replace c2' := hid c2'
            clear y3 y4
            go_wp2_with fail
            go_ret2
            exact ⟨_, _, _, [], 8, rfl, Bt.empty _, Stp.read_2 HC2.out hAn.out, hbw3⟩
        · have hAg := hid (y3.out (.inl (by omega)))
          clear y3 y4
          go_upto_region 13 with (fail)
          refine wp_region_still_tail 8 (by kernel_rfl) (by kernel_rfl) ?_
          change wpStill _ _ (World.drew _) _ _ _
          simp only [List.take_succ_cons, List.take_zero, List.drop_succ_cons, List.drop_zero]
          repeat still_step
          refine wpStill_nil ?_
          change wpList _ _ _ _ _ (World.drewN V 1)
          go_wp2_with fail
          go_roundg (n - (k + 1))
          case measure => omega
          case rel =>
            refine ⟨k + 1, O.set k ⟨a2, data.length, c2, data⟩, rfl, by omega, by go_num, by rw [hsz1.out], hset.out 1, hid ?_, hid hAg.out⟩
            rw [rwData_set, HO.out]
            exact hdt.out.symm
    · obtain rfl : n = k := by omega
      have hOl : O.length = n := by have := congrArg List.length HO.out; rw [rwData_length, Stp.dataTo_length, HD.out] at this; exact this
      obtain ⟨ao, co, e1, hMs⟩ := hM.ms
      rw [hOl] at e1 hMs
      cases e1
      have HO2 : Hid (rwData O = Stp.dataTo (rwData L) g (rwData L).length) := hid (by rw [HO.out, HD.out])
      have HA2 : Hid (Stp.Agree (rwData L) g (rwData L).length) := hid (by rw [HD.out]; exact HA.out)
      have DM := cMend_call (some ⟨w.heap.size, 0, none⟩) n n O (D : Int) (by omega) wo hMs
      rw [HO2.out] at DM
      obtain ⟨sI, hsI⟩ : ∃ sI, sI = Stp.szI (Stp.szTo (rwData L) g (rwData L).length) := ⟨_, rfl⟩
      have e5 : Stp.szI (Stp.szTo (rwData L) g n) = sI := by rw [hsI, HD.out]
      rw [e5]
      clear e5
      replace hsI := hid hsI
      replace DM := hid DM
      clear hM HO HA DC hlt hlt0
      go_wp2_with fail
      go_at_call 52; refine (DM.out).mono ?_; rintro e w3 ⟨a3, n3, c3, X, f, rfl, hX, hp, b3⟩
      have hbw3 := bnext hbo b3
      by_cases hf : f = 0
      · subst hf
        have hXl := Stp.mend_len hp
        obtain rfl : n3 = n := by rw [← hX.dn, hXl.1, Stp.dataTo_length, HD.out]
        have hsz := Stp.mend_size HC2.out hp
        obtain ⟨z, hz, _⟩ := Stp.szI_of hsz
        rw [← hsI.out] at hz
        subst hz
        have HX := hid hX.cnt
        have HX2 := hid hXl.2
        have hXd := hid hXl.1
        have hxle := hX.sl.le
        have hxmax := hX.sl.max
        unfold maxLen at hxmax
        obtain ⟨xb, xoff, rfl, _⟩ := hX.sl.addr (by omega)
        have j0 : (0 : Int) ≤ (D : Int) := by omega
        have j1 : (D : Int) ≤ (c3 : Int) := by omega
        have HP := hid hp
        clear hp hsz hXl DM
        go_wp2_with fail
        go_loopg [17, 77] D (fun gg s17 s77 wr => ∃ (k : Nat), gg = D - k ∧ k ≤ D ∧ s77 = .int .i64 (k : Int) ∧ OB w3 wr none w3.heap.size s17 ((rwData X).take k).flatten)
        case atStart => exact ⟨0, rfl, by omega, rfl, OT.fresh (World.ownsRow_nil _ _ _ _) (Below.refl _ _) (Nat.le_refl _)⟩
        case round =>
          obtain ⟨k, rfl, hk, rfl, hO⟩ := hrel
          obtain ⟨wp, rfl⟩ : ∃ wp : World, wp = wr := ⟨_, rfl⟩
          have hbp := hO.belowOf (Nat.le_refl _) (fun k e => by cases e)
          have hszp := hbp.size
          have hfl := Stp.flatten_le (X := (rwData X).take k) (fun r hr => HX2.out r (List.mem_of_mem_take hr))
          rw [List.length_take] at hfl
          have hfl2 : ((rwData X).take k).flatten.length ≤ 4800 := by
            have : min k (rwData X).length * 400 ≤ 12 * 400 := Nat.mul_le_mul_right _ (by omega)
            omega
          clear hfl
          by_cases hlt : k < D
          · have hkX : k < X.length := by rw [HX.out]; omega
            obtain ⟨x0, hb⟩ := (hX.below hbp).at k hkX
            have hs2 : Hid (((rwData X).take (k + 1)).flatten = ((rwData X).take k).flatten ++ X[k].l) := hid (by
              rw [List.take_add_one, List.flatten_append]
              simp [rwData, hkX])
            have hr4 : X[k].l.length ≤ 400 := HX2.out _ (by unfold rwData; exact List.mem_map_of_mem (List.getElem_mem _))
            generalize X[k] = r at *
            have i0 : (0 : Int) ≤ (k : Int) := by omega
            have i1 : (k : Int) < (D : Int) := by omega
            generalize ((rwData X).take k).flatten = F at *
            replace hr4 := hid hr4
            replace hfl2 := hid hfl2
            go_wp2_with (refine wpList_append_ob rfl (.tmp 81) (.tmp 82) rfl w3.heap.size _ F r.l rfl hO r.a r.n r.cap rfl hb (by have := hr4.out; have := hfl2.out; omega) hszp ?_; intro v5 w5 o5 g5)
            go_roundg (D - (k + 1))
            case measure => omega
            case rel => exact ⟨k + 1, rfl, by omega, by go_num, by rw [hs2.out]; exact o5⟩
          · obtain rfl : D = k := by omega
            obtain ⟨ao, co, rfl, hbt⟩ := OB.sl hO
            have hbb := bnext hbw3 hbp
            have hF : Hid (Stp.flat (rwData X) (D : Int) = ((rwData X).take D).flatten) := hid (by unfold Stp.flat; simp)
            generalize ((rwData X).take D).flatten = F at *
            have hr4 := hid (Stp.read_4 HC2.out HA2.out HP.out)
            have hr5 := hid (Stp.read_5 HC2.out HA2.out HP.out)
            rw [hF.out, ← hsI.out] at hr4 hr5
            have hcle := hbt.le
            have hcmax := hbt.max
            unfold maxLen at hcmax
            clear hO
            by_cases c1 : F.length < z
            · have c1' : (F.length : Int) < (z : Int) := by omega
              replace hr4 := hid (hr4.out c1')
              generalize F.length = m at *
              go_wp2_with fail
              go_ret2
              exact ⟨_, _, _, [], 8, rfl, Bt.empty _, hr4.out, hbb⟩
            · have c1' : (z : Int) ≤ (F.length : Int) := by omega
              replace hr5 := hid (hr5.out c1')
              have hbt2 := hid (Bt.take3 hbt (k := z) (by omega))
              have c2 : (0 : Int) ≤ (z : Int) := by omega
              have c3' : (z : Int) ≤ (co : Int) := by omega
              generalize F.length = m at *
              go_wp2_with fail
              go_ret2
              exact ⟨_, _, _, F.take z, 0, rfl, hbt2.out, by simpa using hr5.out, hbb⟩
      · have hr3 := hid (Stp.read_3 HC2.out HA2.out hp hf)
        have t1 : (f != 0) = true := bne_iff_ne.2 hf
        replace hf := hid hf
        clear hp
        go_wp2_with fail
        go_ret2
        exact ⟨_, _, _, [], _, rfl, Bt.empty _, hr3.out, hbw3⟩
set_option maxHeartbeats 1000000 in
theorem sRead_bad (a : Option Addr) (n cap : Nat) (L : List Rw) (g d : Int) (w : World) (hL : Ms w a n cap L) (hd : -9223372036854775808 ≤ d ∧ d ≤ 9223372036854775807) (hc : Mat.wrongC d ((n : Int) - d) ≠ 0) :
    Calls Try.prog 32 #[.slice a n cap, .int .i64 g, .int .i64 d] w (BtRes (Stp.ReadR (rwData L) g d) w) := by
  have hR := hid (Stp.read_1 (l := rwData L) (g := g) (d := d) (by rw [hL.dn]; exact hc))
  rw [hL.dn] at hR
  have hz := wrongC_wrap hL.maxN hd
  rw [← hz] at hc hR
  generalize hzz : IntKind.i64.wrap ((n : Int) - d) = z at *
  have u0 : (Mat.wrongC d z != 0) = true := bne_iff_ne.2 hc
  have DC := hid (cWrong_call d z w)
  generalize Mat.wrongC d z = E at *
  replace hc := hid hc
  replace hz := hid hz
  replace hd := hid hd
  go_enter Try.func32, Try.ntmps32
  go_wp2_with fail
  go_at_call 44; refine (DC.out).mono ?_; rintro e w1 ⟨rfl, rfl⟩
  go_wp2_with fail
  go_ret2
  exact ⟨_, _, _, [], _, rfl, Bt.empty _, hR.out, Below.refl _ _⟩
theorem sRead_call (a : Option Addr) (n cap : Nat) (L : List Rw) (g d : Int) (w : World) (hL : Ms w a n cap L) (hd : -9223372036854775808 ≤ d ∧ d ≤ 9223372036854775807) :
    Calls Try.prog 32 #[.slice a n cap, .int .i64 g, .int .i64 d] w (BtRes (Stp.ReadR (rwData L) g d) w) := by
  by_cases hc : Mat.wrongC d ((n : Int) - d) = 0
  · have hc2 := Mat.wrongC_ok hc
    obtain ⟨D, rfl⟩ := Int.eq_ofNat_of_zero_le (a := d) (by omega)
    exact sRead_ok a n cap L g D (n - D) w hL (by omega) (by omega) (by omega) (by omega)
  · exact sRead_bad a n cap L g d w hL hd hc

end Go.Proofs.Ytjdgfijpmljhiaa
