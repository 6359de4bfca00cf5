/- Joined, and what is not used struck: StripeR, StripeM, StoL, StoO, StoN. -/
import Derived.Test.YthhcdfjijagalaaM09
import Derived.Test.YthhcdfjijagalaaM24
import Derived.Test.YthhcdfjijagalaaM20
import Derived.Test.YthhcdfjijagalaaM21
import Derived.Test.YthhcdfjijagalaaM23
import Derived.Test.YthhcdfjijagalaaM10
namespace Go.Proofs.Ythhcdfjijagalaa
open Go.RowKit
set_option linter.unusedVariables false
set_option maxRecDepth 100000
/-- It returns bytes and an error's number, of which P holds; what was there is as it was. -/
def BtRes (P : List UInt8 → Int → Prop) (w : World) (e : Ending) (w' : World) : Prop :=
  ∃ a n cap R err, e = .returned (.tuple #[.slice a n cap, .int .i64 err]) ∧ Bt w' a n cap R ∧ P R err ∧ Below w.heap.size w w'
theorem Bt.take3 {w : World} {a : Option Addr} {n cap : Nat} {l : List UInt8} (h : Bt w a n cap l) {k : Nat} (hk : k ≤ n) : Bt w a k k (l.take k) := by
  have h1 := Bt.take h hk
  exact ⟨Nat.le_refl _, Nat.le_trans h1.le h1.max, h1.len, fun e => by have := h1.nil e; have := h1.le; omega, h1.addr⟩
theorem Bt.empty (w : World) : Bt w none 0 0 [] := Sl.none w 1
set_option maxHeartbeats 4000000 in
theorem sRead_ok (a : Option Addr) (n cap : Nat) (L : List Rw) (g : Int) (D s : Nat) (w : World) (hL : Ms w a n cap L) (hn : n = D + s) (h1 : 1 ≤ D) (h2 : D ≤ 8) (h3 : s ≤ 4) :
    Calls Try.prog 78 #[.slice a n cap, .int .i64 g, .int .i64 (D : Int)] w (BtRes (Stp.ReadR (rwData L) g (D : Int)) w) := by
  have HN := hid hL.cnt
  have HD := hid hL.dn
  have s1 : IntKind.i64.wrap ((n : Int) - (D : Int)) = (s : Int) := by rw [IntWalk.i64_in _ (by omega)]; omega
  have s2 : (n : Int) - (D : Int) = (s : Int) := by omega
  have hn12 : n ≤ 12 := by omega
  have hn1 : 1 ≤ n := by omega
  have hDn : D ≤ n := by omega
  have HC : Mat.wrongC (D : Int) (s : Int) = 0 := Mat.wrongC_of (by omega)
  have DC := hid (HC ▸ cWrong_call (D : Int) (s : Int) w)
  have HC2 := hid (show Mat.wrongC (D : Int) (((rwData L).length : Int) - (D : Int)) = 0 by rw [HD.out, s2]; exact HC)
  replace HC := hid HC
  replace hn := hid hn
  obtain ⟨ab, aoff, rfl, _⟩ := hL.sl.addr (by omega)
  go_enter Try.func78, Try.ntmps78
  go_wp2_with fail
  go_at_call 38; refine (DC.out).mono ?_; rintro e w0 ⟨rfl, rfl⟩
  go_wp2_with (refine wpList_make_mat rfl (.tmp 30) (.tmp 30) 118 und_rowst rfl n rfl rfl (by omega) ?_; intro w1 N1 b1 z1)
  have M1 : Mb w w1 none w.heap.size (.slice (some ⟨w.heap.size, 0, none⟩) n n) (List.replicate n ⟨none, 0, 0, []⟩) := by
    have ho := N1.own
    simp only [List.map_nil, List.nil_append, List.length_nil, Nat.sub_zero] at ho
    have e : rwCells (List.replicate n ⟨none, 0, 0, []⟩) = List.replicate n (.slice none 0 0) := by simp [rwCells, Rw.v]
    refine ⟨?_, fun r hr => ?_, fun r hr => ?_⟩
    · rw [e, List.length_replicate]; exact OT.fresh ho b1 (Nat.le_refl _)
    · rw [(List.mem_replicate.1 hr).2]; exact Bt.empty _
    · rw [(List.mem_replicate.1 hr).2]; intro hn; exact absurd hn (by simp)
  clear N1 b1
  go_loopg [9, 34] n (fun gg s9 s34 wr => ∃ (k : Nat) (O : List Rw), gg = n - k ∧ k ≤ n ∧ s34 = .int .i64 (k : Int) ∧ s9 = .int .i64 (Stp.szI (Stp.szTo (rwData L) g k)) ∧ Mb w wr none w.heap.size (.slice (some ⟨w.heap.size, 0, none⟩) n n) O ∧ Hid (rwData O = Stp.dataTo (rwData L) g k) ∧ Hid (Stp.Agree (rwData L) g k))
  case atStart => exact ⟨0, _, rfl, by omega, rfl, rfl, M1, hid (by rw [Stp.dataTo_zero, HD.out]; simp [rwData]), hid Stp.agree_zero⟩
  case round =>
    clear M1 z1
    obtain ⟨k, O, rfl, hk, rfl, rfl, hM, HO, HA⟩ := hrel
    obtain ⟨wo, rfl⟩ : ∃ wo : World, wo = wr := ⟨_, rfl⟩
    have hbo := hM.own.belowOf (Nat.le_refl _) (fun k e => by cases e)
    have hszo := hbo.size
    have hlt0 := (hM.own.own.lt _ rfl).2
    by_cases hlt : k < n
    · have hkL : k < L.length := by rw [HN.out]; exact hlt
      have hkd : k < (rwData L).length := by rw [HD.out]; exact hlt
      obtain ⟨x0, hb⟩ := (hL.below hbo).at k hkL
      have hl := rwData_getD hkL
      have D1 := sshard_call L[k].a L[k].n L[k].cap L[k].l g (k : Int) wo hb
      unfold ShTells at D1
      generalize L[k] = r at *
      have i0 : (0 : Int) ≤ (k : Int) := by omega
      have i1 : (k : Int) < (n : Int) := by omega
      have hOl : Hid (O.length = n) := hid (by have := congrArg List.length HO.out; rw [rwData_length, Stp.dataTo_length, HD.out] at this; exact this)
      cases hx : Stp.right r.l g (k : Int) with
      | false =>
        have hx' : Stp.right ((rwData L).getD k []) g k = false := by rw [hl]; exact hx
        have y1 := hid (Stp.szTo_no hx')
        have y2 := hid (Stp.dataTo_no hx')
        have y3 := hid (Stp.agree_no hx' HA.out)
        rw [hx] at D1
        replace D1 := hid D1
        replace hl := hid hl
        replace hx := hid hx
        replace hx' := hid hx'
        have y5 : Hid (Stp.szI (Stp.szTo (rwData L) g (k + 1)) = Stp.szI (Stp.szTo (rwData L) g k)) := hid (by rw [y1.out])
        generalize Stp.szI (Stp.szTo (rwData L) g k) = sI at *
        go_wp2_with fail
        go_at_call 82; refine (D1.out).mono ?_; rintro e w2 ⟨a2, c2, rfl, b2, -⟩
        have hM2 := hM.below b2
        go_wp2_with fail
        go_roundg (n - (k + 1))
        case measure => omega
        case rel => exact ⟨k + 1, O, rfl, by omega, by go_num, by rw [y5.out], hM2.alloc _, hid (by rw [y2.out]; exact HO.out), y3⟩
      | true =>
        have hx' : Stp.right ((rwData L).getD k []) g k = true := by rw [hl]; exact hx
        have y1 := hid (Stp.szTo_yes hx')
        have y2 := hid (Stp.dataTo_yes hx' hkd)
        have y3 := hid (Stp.agree_yes hx' HA.out)
        have y4 := hid (Stp.agree_not hx' hkd)
        rw [hl] at y1 y2 y3 y4
        have hsz1 : Hid (Stp.szI (Stp.szTo (rwData L) g (k + 1)) = ((Blk.parse r.l).z : Int)) := hid (by rw [y1.out]; exact Stp.szI_snoc _ _)
        rw [hx] at D1
        obtain ⟨sI, hsI⟩ : ∃ sI, sI = Stp.szI (Stp.szTo (rwData L) g k) := ⟨_, rfl⟩
        rw [← hsI] at y3 y4 ⊢
        replace hsI := hid hsI
        generalize Blk.parse r.l = P at *
        obtain ⟨E, G, Sh, Z, data⟩ := P
        simp only at D1 y2 y3 y4 hsz1
        replace D1 := hid D1
        replace hl := hid hl
        replace hx := hid hx
        replace hx' := hid hx'
        go_wp2_with fail
        go_at_call 82; refine (D1.out).mono ?_; rintro e w2 ⟨a2, c2, rfl, b2, hbd, nw⟩
        have hM2 := (hM.below b2).alloc (.cells #[.int .i64 G, .int .i64 Sh, .int .i64 Z, .slice a2 data.length c2] 138)
        have B2 := blk_new w2 (.cells #[.int .i64 G, .int .i64 Sh, .int .i64 Z, .slice a2 data.length c2] 138)
        have hbd2 := Sl.alloc hbd (.cells #[.int .i64 G, .int .i64 Sh, .int .i64 Z, .slice a2 data.length c2] 138)
        have hbw2 := bnext hbo b2
        have hbw3 := hbw2.alloc hbw2.size (.cells #[.int .i64 G, .int .i64 Sh, .int .i64 Z, .slice a2 data.length c2] 138)
        go_upto_region 11 with (fail)
        generalize w2.alloc (.cells #[.int .i64 G, .int .i64 Sh, .int .i64 Z, .slice a2 data.length c2] 138) = V at *
        have r2 := blk_cell (i := 2) B2
        have r3 := blk_cell (i := 3) B2
        have hap : Apart (.slice (some ⟨w.heap.size, 0, none⟩) n n) ⟨a2, data.length, c2, data⟩ := fun hn b off e e2 => by
          have := nw b off e
          have e3 : w.heap.size = b := Option.some.inj e2
          omega
        have hkO : k < O.length := by rw [hOl.out]; exact hlt
        have hset := hid (fun q => (hM2.below (below_drewN (Below.refl _ _) q)).set k hkO ⟨a2, data.length, c2, data⟩ (Sl.drewN hbd2 q) hap)
        have ho := hM2.own.own
        rw [hOl.out] at ho
        have f0 := ho.frozenAt k
        have f1 : V.cell? ⟨w.heap.size, k, none⟩ = some (O[k].v) := by rw [ho.cellAt k (by omega)]; simp [rwCells, hkO]
        have hdt : Hid (Stp.dataTo (rwData L) g (k + 1) = (Stp.dataTo (rwData L) g k).set k data) := y2
        clear ho hM hM2 hbo x0 hb hbd hbd2 nw hap b2 hbw2
        generalize O[k].v = ov at *
        by_cases c1 : 0 ≤ sI
        · by_cases c2' : (Z : Int) = sI
          · have hAg := hid (y3.out (.inr c2'))
            have t1 : ((Z : Int) != sI) = false := by rw [c2']; simp
            subst c2'
            clear t1
            have t1 : ((Z : Int) != (Z : Int)) = false := by simp
            clear y3 y4
            go_upto_region 13 with (fail)
            refine wp_region_still_tail 8 (by kernel_rfl) (by kernel_rfl) ?_
            change wpStill _ _ (World.drew _) _ _ _
            simp only [List.take_succ_cons, List.take_zero, List.drop_succ_cons, List.drop_zero]
            repeat still_step
            refine wpStill_nil ?_
            change wpList _ _ _ _ _ (World.drewN V 1)
            go_wp2_with fail
            go_roundg (n - (k + 1))
            case measure => omega
            case rel =>
              refine ⟨k + 1, O.set k ⟨a2, data.length, c2, data⟩, rfl, by omega, by go_num, by rw [hsz1.out], hset.out 1, hid ?_, hid hAg.out⟩
              rw [rwData_set, HO.out]
              exact hdt.out.symm
          · have hAn := hid (y4.out c1 c2')
            have t1 : ((Z : Int) != sI) = true := bne_iff_ne.2 c2'
            replace c2' := hid c2'
            clear y3 y4
            go_wp2_with fail
            go_ret2
            exact ⟨_, _, _, [], 8, rfl, Bt.empty _, Stp.read_2 HC2.out hAn.out, hbw3⟩
        · have hAg := hid (y3.out (.inl (by omega)))
          clear y3 y4
          go_upto_region 13 with (fail)
          refine wp_region_still_tail 8 (by kernel_rfl) (by kernel_rfl) ?_
          change wpStill _ _ (World.drew _) _ _ _
          simp only [List.take_succ_cons, List.take_zero, List.drop_succ_cons, List.drop_zero]
          repeat still_step
          refine wpStill_nil ?_
          change wpList _ _ _ _ _ (World.drewN V 1)
          go_wp2_with fail
          go_roundg (n - (k + 1))
          case measure => omega
          case rel =>
            refine ⟨k + 1, O.set k ⟨a2, data.length, c2, data⟩, rfl, by omega, by go_num, by rw [hsz1.out], hset.out 1, hid ?_, hid hAg.out⟩
            rw [rwData_set, HO.out]
            exact hdt.out.symm
    · obtain rfl : n = k := by omega
      have hOl : O.length = n := by have := congrArg List.length HO.out; rw [rwData_length, Stp.dataTo_length, HD.out] at this; exact this
      obtain ⟨ao, co, e1, hMs⟩ := hM.ms
      rw [hOl] at e1 hMs
      cases e1
      have HO2 : Hid (rwData O = Stp.dataTo (rwData L) g (rwData L).length) := hid (by rw [HO.out, HD.out])
      have HA2 : Hid (Stp.Agree (rwData L) g (rwData L).length) := hid (by rw [HD.out]; exact HA.out)
      have DM := cMend_call (some ⟨w.heap.size, 0, none⟩) n n O (D : Int) (by omega) wo hMs
      rw [HO2.out] at DM
      obtain ⟨sI, hsI⟩ : ∃ sI, sI = Stp.szI (Stp.szTo (rwData L) g (rwData L).length) := ⟨_, rfl⟩
      have e5 : Stp.szI (Stp.szTo (rwData L) g n) = sI := by rw [hsI, HD.out]
      rw [e5]
      clear e5
      replace hsI := hid hsI
      replace DM := hid DM
      clear hM HO HA DC hlt hlt0
      go_wp2_with fail
      go_at_call 92; refine (DM.out).mono ?_; rintro e w3 ⟨a3, n3, c3, X, f, rfl, hX, hp, b3⟩
      have hbw3 := bnext hbo b3
      by_cases hf : f = 0
      · subst hf
        have hXl := Stp.mend_len hp
        obtain rfl : n3 = n := by rw [← hX.dn, hXl.1, Stp.dataTo_length, HD.out]
        have hsz := Stp.mend_size HC2.out hp
        obtain ⟨z, hz, _⟩ := Stp.szI_of hsz
        rw [← hsI.out] at hz
        subst hz
        have HX := hid hX.cnt
        have HX2 := hid hXl.2
        have hXd := hid hXl.1
        have hxle := hX.sl.le
        have hxmax := hX.sl.max
        unfold maxLen at hxmax
        obtain ⟨xb, xoff, rfl, _⟩ := hX.sl.addr (by omega)
        have j0 : (0 : Int) ≤ (D : Int) := by omega
        have j1 : (D : Int) ≤ (c3 : Int) := by omega
        have HP := hid hp
        clear hp hsz hXl DM
        go_wp2_with fail
        go_loopg [17, 77] D (fun gg s17 s77 wr => ∃ (k : Nat), gg = D - k ∧ k ≤ D ∧ s77 = .int .i64 (k : Int) ∧ OB w3 wr none w3.heap.size s17 ((rwData X).take k).flatten)
        case atStart => exact ⟨0, rfl, by omega, rfl, OT.fresh (World.ownsRow_nil _ _ _ _) (Below.refl _ _) (Nat.le_refl _)⟩
        case round =>
          obtain ⟨k, rfl, hk, rfl, hO⟩ := hrel
          obtain ⟨wp, rfl⟩ : ∃ wp : World, wp = wr := ⟨_, rfl⟩
          have hbp := hO.belowOf (Nat.le_refl _) (fun k e => by cases e)
          have hszp := hbp.size
          have hfl := Stp.flatten_le (X := (rwData X).take k) (fun r hr => HX2.out r (List.mem_of_mem_take hr))
          rw [List.length_take] at hfl
          have hfl2 : ((rwData X).take k).flatten.length ≤ 4800 := by
            have : min k (rwData X).length * 400 ≤ 12 * 400 := Nat.mul_le_mul_right _ (by omega)
            omega
          clear hfl
          by_cases hlt : k < D
          · have hkX : k < X.length := by rw [HX.out]; omega
            obtain ⟨x0, hb⟩ := (hX.below hbp).at k hkX
            have hs2 : Hid (((rwData X).take (k + 1)).flatten = ((rwData X).take k).flatten ++ X[k].l) := hid (by
              rw [List.take_add_one, List.flatten_append]
              simp [rwData, hkX])
            have hr4 : X[k].l.length ≤ 400 := HX2.out _ (by unfold rwData; exact List.mem_map_of_mem (List.getElem_mem _))
            generalize X[k] = r at *
            have i0 : (0 : Int) ≤ (k : Int) := by omega
            have i1 : (k : Int) < (D : Int) := by omega
            generalize ((rwData X).take k).flatten = F at *
            replace hr4 := hid hr4
            replace hfl2 := hid hfl2
            go_wp2_with (refine wpList_append_ob rfl (.tmp 81) (.tmp 82) rfl w3.heap.size _ F r.l rfl hO r.a r.n r.cap rfl hb (by have := hr4.out; have := hfl2.out; omega) hszp ?_; intro v5 w5 o5 g5)
            go_roundg (D - (k + 1))
            case measure => omega
            case rel => exact ⟨k + 1, rfl, by omega, by go_num, by rw [hs2.out]; exact o5⟩
          · obtain rfl : D = k := by omega
            obtain ⟨ao, co, rfl, hbt⟩ := OB.sl hO
            have hbb := bnext hbw3 hbp
            have hF : Hid (Stp.flat (rwData X) (D : Int) = ((rwData X).take D).flatten) := hid (by unfold Stp.flat; simp)
            generalize ((rwData X).take D).flatten = F at *
            have hr4 := hid (Stp.read_4 HC2.out HA2.out HP.out)
            have hr5 := hid (Stp.read_5 HC2.out HA2.out HP.out)
            rw [hF.out, ← hsI.out] at hr4 hr5
            have hcle := hbt.le
            have hcmax := hbt.max
            unfold maxLen at hcmax
            clear hO
            by_cases c1 : F.length < z
            · have c1' : (F.length : Int) < (z : Int) := by omega
              replace hr4 := hid (hr4.out c1')
              generalize F.length = m at *
              go_wp2_with fail
              go_ret2
              exact ⟨_, _, _, [], 8, rfl, Bt.empty _, hr4.out, hbb⟩
            · have c1' : (z : Int) ≤ (F.length : Int) := by omega
              replace hr5 := hid (hr5.out c1')
              have hbt2 := hid (Bt.take3 hbt (k := z) (by omega))
              have c2 : (0 : Int) ≤ (z : Int) := by omega
              have c3' : (z : Int) ≤ (co : Int) := by omega
              generalize F.length = m at *
              go_wp2_with fail
              go_ret2
              exact ⟨_, _, _, F.take z, 0, rfl, hbt2.out, by simpa using hr5.out, hbb⟩
      · have hr3 := hid (Stp.read_3 HC2.out HA2.out hp hf)
        have t1 : (f != 0) = true := bne_iff_ne.2 hf
        replace hf := hid hf
        clear hp
        go_wp2_with fail
        go_ret2
        exact ⟨_, _, _, [], _, rfl, Bt.empty _, hr3.out, hbw3⟩
set_option maxHeartbeats 1000000 in
theorem sRead_bad (a : Option Addr) (n cap : Nat) (L : List Rw) (g d : Int) (w : World) (hL : Ms w a n cap L) (hd : -9223372036854775808 ≤ d ∧ d ≤ 9223372036854775807) (hc : Mat.wrongC d ((n : Int) - d) ≠ 0) :
    Calls Try.prog 78 #[.slice a n cap, .int .i64 g, .int .i64 d] w (BtRes (Stp.ReadR (rwData L) g d) w) := by
  have hR := hid (Stp.read_1 (l := rwData L) (g := g) (d := d) (by rw [hL.dn]; exact hc))
  rw [hL.dn] at hR
  have hz := wrongC_wrap hL.maxN hd
  rw [← hz] at hc hR
  generalize hzz : IntKind.i64.wrap ((n : Int) - d) = z at *
  have u0 : (Mat.wrongC d z != 0) = true := bne_iff_ne.2 hc
  have DC := hid (cWrong_call d z w)
  generalize Mat.wrongC d z = E at *
  replace hc := hid hc
  replace hz := hid hz
  replace hd := hid hd
  go_enter Try.func78, Try.ntmps78
  go_wp2_with fail
  go_at_call 38; refine (DC.out).mono ?_; rintro e w1 ⟨rfl, rfl⟩
  go_wp2_with fail
  go_ret2
  exact ⟨_, _, _, [], _, rfl, Bt.empty _, hR.out, Below.refl _ _⟩
theorem sRead_call (a : Option Addr) (n cap : Nat) (L : List Rw) (g d : Int) (w : World) (hL : Ms w a n cap L) (hd : -9223372036854775808 ≤ d ∧ d ≤ 9223372036854775807) :
    Calls Try.prog 78 #[.slice a n cap, .int .i64 g, .int .i64 d] w (BtRes (Stp.ReadR (rwData L) g d) w) := by
  by_cases hc : Mat.wrongC d ((n : Int) - d) = 0
  · have hc2 := Mat.wrongC_ok hc
    obtain ⟨D, rfl⟩ := Int.eq_ofNat_of_zero_le (a := d) (by omega)
    exact sRead_ok a n cap L g D (n - D) w hL (by omega) (by omega) (by omega) (by omega)
  · exact sRead_bad a n cap L g d w hL hd hc
end Go.Proofs.Ythhcdfjijagalaa
namespace Go.Proofs.Ythhcdfjijagalaa
namespace Stp
def MendS (l : List (List UInt8)) (g d : Int) (L : List (List UInt8)) (e : Int) : Prop := ∃ b f, ReadR l g d b f ∧ ((f ≠ 0 ∧ L = [] ∧ e = f) ∨ (f = 0 ∧ LayR b g d ((l.length : Int) - d) L e))
theorem MendS.uniq {l : List (List UInt8)} {g d : Int} {L K : List (List UInt8)} {e f : Int} (h : MendS l g d L e) (k : MendS l g d K f) : L = K ∧ e = f := by
  obtain ⟨b, f1, h1, h2⟩ := h
  obtain ⟨c, f2, k1, k2⟩ := k
  obtain ⟨rfl, rfl⟩ := h1.uniq k1
  rcases h2 with ⟨a1, a2, a3⟩ | ⟨a1, a2⟩ <;> rcases k2 with ⟨b1, b2, b3⟩ | ⟨b1, b2⟩
  · exact ⟨a2.trans b2.symm, a3.trans b3.symm⟩
  · exact absurd b1 a1
  · exact absurd a1 b1
  · exact a2.uniq b2
theorem ReadR.code {l : List (List UInt8)} {g d : Int} {R : List UInt8} (h : ReadR l g d R 0) : Mat.wrongC d ((l.length : Int) - d) = 0 := by
  classical
  refine Classical.byContradiction fun hc => ?_
  unfold ReadR at h
  rw [if_pos hc] at h
  exact hc h.2.symm
end Stp
open Go.RowKit
set_option linter.unusedVariables false
set_option maxRecDepth 100000
set_option maxHeartbeats 400000 in
theorem sMend_callO (a : Option Addr) (n cap : Nat) (L : List Rw) (g d : Int) (w : World) (hL : Ms w a n cap L) (hd : -9223372036854775808 ≤ d ∧ d ≤ 9223372036854775807) :
    Calls Try.prog 67 #[.slice a n cap, .int .i64 g, .int .i64 d] w (MResO (Stp.MendS (rwData L) g d) w) := by
  have DR := hid (sRead_call a n cap L g d w hL hd)
  have HD := hid hL.dn
  replace hd := hid hd
  go_enter Try.func67, Try.ntmps67
  go_wp2_with fail
  go_at_call 78; refine (DR.out).mono ?_; rintro e w1 ⟨a1, n1, c1, b, f, rfl, hb, hp, b1⟩
  by_cases hf : f = 0
  · subst hf
    have hc := hp.code
    rw [HD.out] at hc
    have hc2 := Mat.wrongC_ok hc
    obtain ⟨D, rfl⟩ := Int.eq_ofNat_of_zero_le (a := d) (by omega)
    obtain ⟨s, hs⟩ := Int.eq_ofNat_of_zero_le (a := (n : Int) - (D : Int)) (by omega)
    have s1 : IntKind.i64.wrap ((n : Int) - (D : Int)) = (s : Int) := by rw [IntWalk.i64_in _ (by omega)]; omega
    have hs4 : s ≤ 4 := by omega
    have hD8 : D ≤ 8 := by omega
    have HP := hid hp
    replace hc := hid hc
    replace hc2 := hid hc2
    clear hp
    go_wp2_with fail
    go_at_call 75; refine (sLay_callO a1 n1 c1 b g (D : Int) (s : Int) w1 hb).mono ?_; rintro e w2 ⟨a2, n2, c2, X, f2, rfl, hX, hp2, b2, oX⟩
    replace hp2 := hid hp2
    go_wp2_with fail
    go_ret2
    exact ⟨_, _, _, X, f2, rfl, hX, ⟨b, 0, HP.out, .inr ⟨rfl, by rw [HD.out, hs]; exact hp2.out⟩⟩, bnext b1 b2, own_mono oX.1 b1.size, fun r hr => own_mono (oX.2 r hr) b1.size⟩
  · have u0 : (f != 0) = true := bne_iff_ne.2 hf
    have HF := hid hf
    have HP := hid hp
    clear hp hf
    go_wp2_with fail
    go_ret2
    exact ⟨_, _, _, [], f, rfl, Ms.nil _, ⟨b, f, HP.out, .inl ⟨HF.out, rfl, rfl⟩⟩, b1, OwnM.nil _ _⟩
end Go.Proofs.Ythhcdfjijagalaa
namespace Go.Proofs.Ythhcdfjijagalaa
open Go.RowKit
set_option linter.unusedVariables false
set_option linter.unusedSimpArgs false
set_option maxRecDepth 100000
/-- events in a row of their own -/
def EO (w : World) (base : Nat) (a : Option Addr) (cap : Nat) (l : List Evt.Ev) : Prop := w.ownsRow base 32 3 (.slice a l.length cap) l.length (evCells l) ∧ ∀ e ∈ l, e.s.size ≤ maxLen
theorem evCells_one (l : List Evt.Ev) : ∀ u ∈ evCells l, u.oneCell' = true := by
  intro u hu
  unfold evCells at hu
  obtain ⟨a, _, h⟩ := List.mem_flatMap.1 hu
  simp only [ev3, List.mem_cons, List.not_mem_nil, or_false] at h
  rcases h with rfl | rfl | rfl <;> rfl
theorem rbCells_one (l : List Rb) : ∀ u ∈ rbCells l, u.oneCell' = true := by
  intro u hu
  unfold rbCells at hu
  obtain ⟨a, _, h⟩ := List.mem_flatMap.1 hu
  simp only [rb2, List.mem_cons, List.not_mem_nil, or_false] at h
  rcases h with rfl | rfl <;> rfl
theorem EO.es {w : World} {base : Nat} {a : Option Addr} {cap : Nat} {l : List Evt.Ev} (h : EO w base a cap l) : Es w a l.length cap l := by
  obtain ⟨a', c', e, hs⟩ := own_sl h.1
  cases e
  exact ⟨hs, h.2⟩
def rbEvs (l : List Rb) : List Evt.Ev := l.flatMap Rb.evs
theorem rbEvs_eq (l : List Rb) : rbEvs l = Sto.events (l.map Rb.ba) := by
  unfold rbEvs Sto.events
  induction l with
  | nil => rfl
  | cons x l ih => rw [List.map_cons, List.flatMap_cons, List.flatMap_cons, ih]; rfl
theorem rbEvs_len (l : List Rb) (K : Nat) (h : ∀ r ∈ l, r.evs.length ≤ K) : (rbEvs l).length ≤ l.length * K := by
  unfold rbEvs
  induction l with
  | nil => simp
  | cons x l ih =>
    have := h x (by simp)
    have := ih (fun r hr => h r (by simp [hr]))
    rw [List.flatMap_cons, List.length_append, List.length_cons, Nat.add_mul]
    omega
theorem rbEvs_snoc (l : List Rb) (k : Nat) (hk : k < l.length) : rbEvs (l.take (k + 1)) = rbEvs (l.take k) ++ l[k].evs := by
  unfold rbEvs
  rw [List.take_add_one, List.getElem?_eq_getElem hk, List.flatMap_append]
  simp
theorem rbEvs_ok {w : World} {a : Option Addr} {n cap : Nat} {l : List Rb} (h : Bs w a n cap l) : ∀ e ∈ rbEvs l, e.s.size ≤ maxLen := by
  intro e he
  obtain ⟨r, hr, he⟩ := List.mem_flatMap.1 he
  exact (h.ev r hr).ok e he
set_option maxHeartbeats 2000000 in
theorem stevents_call (a : Option Addr) (n cap : Nat) (l : List Rb) (w : World) (h : Bs w a n cap l) (hn : n ≤ 100000) (hk : ∀ r ∈ l, r.evs.length ≤ 1000) :
    Calls Try.prog 60 #[.slice a n cap] w fun e w' => ∃ a' cap', e = .returned (.slice a' (rbEvs l).length cap') ∧ EO w' w.heap.size a' cap' (rbEvs l) ∧ Below w.heap.size w w' := by
  have HN := hid h.n
  have HK := hid hk
  have hmax := h.sl.max
  have hle := h.sl.le
  unfold maxLen at hmax
  have HOK := hid (rbEvs_ok h)
  clear hk
  go_enter Try.func60, Try.ntmps60
  go_wp2_with fail
  go_loopg [3, 8] n (fun g s3 s8 wr => ∃ k : Nat, g = n - k ∧ k ≤ n ∧ s8 = .int .i64 (k : Int) ∧ OT w wr none w.heap.size 32 3 s3 (rbEvs (l.take k)).length (evCells (rbEvs (l.take k))))
  case atStart => exact ⟨0, rfl, by omega, rfl, OT.fresh (World.ownsRow_nil _ _ _ _) (Below.refl _ _) (Nat.le_refl _)⟩
  case round =>
    obtain ⟨k, rfl, hk, rfl, hO⟩ := hrel
    obtain ⟨wo, rfl⟩ : ∃ wo : World, wo = wr := ⟨_, rfl⟩
    have hbo := hO.belowOf (b := w.heap.size) (Nat.le_refl _) (fun k e => by cases e)
    have hszo := hbo.size
    by_cases hlt : k < n
    · have hkl : k < l.length := by rw [HN.out]; exact hlt
      obtain ⟨b, off, rfl, -⟩ := h.sl.addr (by omega)
      obtain ⟨q0, q1, hE⟩ := (h.below hbo).at k hkl
      have HS := hid (rbEvs_snoc l k hkl)
      have hlen := rbEvs_len (l.take k) 1000 (fun r hr => HK.out r (List.mem_of_mem_take hr))
      rw [List.length_take] at hlen
      have hl2 := HK.out _ (List.getElem_mem hkl)
      have hr1 : (rbEvs (l.take k)).length ≤ 100000000 := by omega
      have i0 : (0 : Int) ≤ (k : Int) := by omega
      have i1 : (k : Int) < (n : Int) := by omega
      generalize l[k] = r at *
      obtain ⟨c, ea, en, ec, evs⟩ := r
      simp only at q0 q1 hE hl2 HS
      have hen := hE.n
      have hO2 := hid (hO.alloc (.cells #[.int .i64 c, .slice ea en ec] 27))
      have hE2 := hid (hE.alloc (.cells #[.int .i64 c, .slice ea en ec] 27))
      have hsrc := hid (Sl.src (P := Try.prog) hE2.out.sl Try.underlying25 (evCells_one evs))
      clear hO hE hlen
      go_wp2_with (refine wpList_append_t rfl (.tmp 12) (.tmp 14) 25 25 rfl w.heap.size 32 3 32 (.agg #[.string ⟨#[]⟩, .int .i64 0, .int .i64 0]) Try.underlying25 info_ev rfl (by decide) _ (rbEvs (l.take k)).length (evCells (rbEvs (l.take k))) rfl hO2.out (.slice ea en ec) en (evCells evs) rfl hsrc.out (by unfold maxLen; omega) (by omega) (by simp; omega) ?_; intro v2 w4 ho2 hg2)
      go_roundg (n - (k + 1))
      case measure => omega
      case rel =>
        refine ⟨k + 1, rfl, by omega, by go_num, ?_⟩
        rw [HS.out, List.length_append, evCells_append, hen]
        exact ho2
    · obtain rfl : k = n := by omega
      have e1 : l.take k = l := List.take_of_length_le (by rw [HN.out]; exact Nat.le_refl _)
      rw [e1] at hO
      obtain ⟨a', c', rfl, -⟩ := own_sl hO.own
      have hOo := hid hO.own
      clear hO
      go_wp2_with fail
      go_ret
      exact ⟨a', c', rfl, ⟨hOo.out, HOK.out⟩, hbo⟩
end Go.Proofs.Ythhcdfjijagalaa
namespace Go.Proofs.Ythhcdfjijagalaa.Sto
set_option linter.unusedVariables false
/-- what holds of a store, always (K: how many commands it can have seen) -/
structure Ok (s : St) (K : Nat) : Prop where
  d : 1 ≤ s.data ∧ s.data ≤ 8
  sp : 0 ≤ s.spare ∧ s.spare ≤ 4
  b : 1 ≤ s.batches ∧ s.batches ≤ 10
  nd : (s.disks.length : Int) = s.data + s.spare
  g : s.segs ≤ 40
  t : (s.tail.length : Int) < s.batches
  te : ∀ b ∈ s.tail, (Evt.wrongBa b).1 = 0
  seen : s.seen.length ≤ K
  sup : s.seen.Pairwise (· < ·)
  bl : ∀ x ∈ s.disks, (x.bl.map Hd.seg).Pairwise (· < ·) ∧ ∀ h ∈ x.bl, 0 ≤ h.seg ∧ h.seg < (s.segs : Int)
theorem rise_len : ∀ (l : List Int) (a b : Int), l.Pairwise (· < ·) → (∀ x ∈ l, a ≤ x ∧ x < b) → (l.length : Int) ≤ max 0 (b - a)
  | [], a, b, _, _ => by simp; omega
  | x :: l, a, b, hp, hb => by
    have h1 := List.pairwise_cons.1 hp
    have hx := hb x (by simp)
    have := rise_len l (x + 1) b h1.2 (fun y hy => by
      have := h1.1 y hy
      have := (hb y (by simp [hy])).2
      omega)
    rw [List.length_cons]
    omega
theorem Ok.len {s : St} {K : Nat} (h : Ok s K) {x : Dk} (hx : x ∈ s.disks) : x.bl.length ≤ 40 := by
  obtain ⟨h1, h2⟩ := h.bl x hx
  have := rise_len _ 0 s.segs h1 (fun y hy => by
    obtain ⟨z, hz, rfl⟩ := List.mem_map.1 hy
    exact h2 z hz)
  rw [List.length_map] at this
  have := h.g
  omega
theorem Ok.n12 {s : St} {K : Nat} (h : Ok s K) : s.disks.length ≤ 12 := by
  have := h.nd; have := h.d; have := h.sp; omega
theorem Ok.ev {s : St} {K : Nat} (h : Ok s K) {b : Evt.Ba} (hb : b ∈ s.tail) : b.evs.length ≤ 10 := (Evt.wrongBa_zero (h.te b hb)).2.2.2.1
theorem parse_bd {l : List UInt8} : (Evt.parse l).l.length ≤ 150 ∧ ∀ b ∈ (Evt.parse l).l, (Evt.wrongBa b).1 = 0 := by
  unfold Evt.parse
  simp only
  split
  · exact ⟨by simp, fun b hb => by cases hb⟩
  · split
    · exact ⟨by simp, fun b hb => by cases hb⟩
    · rename_i h
      split
      · exact ⟨by simp, fun b hb => by cases hb⟩
      · rename_i h2
        exact ⟨by simpa using h, Evt.fb_zero _ 0 (Classical.byContradiction h2)⟩
theorem allTo_stuck {ds : List Dk} {d : Int} {k : Nat} {e : Int} (he : e ≠ 0) (h : allTo ds d k = ([], e)) : ∀ j, allTo ds d (k + j) = ([], e)
  | 0 => h
  | j + 1 => by
    have := allTo_stuck he h j
    rw [← Nat.add_assoc]
    unfold allTo
    rw [if_pos (by rw [this]; exact he), this]
theorem all_stuck {s : St} {k : Nat} {e : Int} (hk : k ≤ s.segs) (he : e ≠ 0) (h : allTo s.disks s.data k = ([], e)) : all s = ([], e) := by
  have := allTo_stuck he h (s.segs - k)
  rw [Nat.add_sub_cancel' hk] at this
  unfold all
  rw [if_pos (by rw [this]; exact he), this]
theorem allTo_lost {ds : List Dk} {d : Int} {k : Nat} {l : List Evt.Ba} (h : allTo ds d k = (l, 0)) (h2 : (Stp.readF (blocks ds k) k d).2 ≠ 0) : allTo ds d (k + 1) = ([], (Stp.readF (blocks ds k) k d).2) := by
  unfold allTo
  rw [if_neg (by rw [h]; exact fun e => e rfl), if_pos h2]
theorem allTo_form {ds : List Dk} {d : Int} {k : Nat} {l : List Evt.Ba} (h : allTo ds d k = (l, 0)) (h2 : (Stp.readF (blocks ds k) k d).2 = 0) (h3 : (Evt.parse (Stp.readF (blocks ds k) k d).1).err ≠ 0) : allTo ds d (k + 1) = ([], (Evt.parse (Stp.readF (blocks ds k) k d).1).err) := by
  unfold allTo
  rw [if_neg (by rw [h]; exact fun e => e rfl), if_neg (by rw [h2]; exact fun e => e rfl), if_pos h3]
theorem allTo_more {ds : List Dk} {d : Int} {k : Nat} {l : List Evt.Ba} (h : allTo ds d k = (l, 0)) (h2 : (Stp.readF (blocks ds k) k d).2 = 0) (h3 : (Evt.parse (Stp.readF (blocks ds k) k d).1).err = 0) : allTo ds d (k + 1) = (l ++ (Evt.parse (Stp.readF (blocks ds k) k d).1).l, 0) := by
  unfold allTo
  rw [if_neg (by rw [h]; exact fun e => e rfl), if_neg (by rw [h2]; exact fun e => e rfl), if_neg (by rw [h3]; exact fun e => e rfl), h]
theorem all_ok {s : St} {l : List Evt.Ba} (h : allTo s.disks s.data s.segs = (l, 0)) : all s = (l ++ s.tail, 0) := by
  unfold all
  rw [if_neg (by rw [h]; exact fun e => e rfl), h]
end Go.Proofs.Ythhcdfjijagalaa.Sto
namespace Go.Proofs.Ythhcdfjijagalaa
open Go.RowKit
set_option linter.unusedVariables false
set_option linter.unusedSimpArgs false
set_option maxRecDepth 100000
theorem Ro.bs {w : World} {base : Nat} {v : Value} {l : List Rb} (h : Ro w base l) (ho : w.ownsRow base 27 2 v l.length (rbCells l)) : ∃ a cap, v = .slice a l.length cap ∧ Bs w a l.length cap l := by
  obtain ⟨a, cap, e, hs⟩ := own_sl ho
  exact ⟨a, cap, e, hs, fun r hr => by
    obtain ⟨h1, h2⟩ := h r hr
    obtain ⟨a2, c2, e2, s2⟩ := own_sl h1
    cases e2
    exact ⟨s2, h2⟩⟩
theorem Ro.more {w : World} {base base' : Nat} {l m : List Rb} (h : Ro w base l) (k : Ro w base' m) (hb : base ≤ base') : Ro w base (l ++ m) := fun x hx => by
  rcases List.mem_append.1 hx with hx | hx
  · exact h x hx
  · exact ⟨own_mono (k x hx).1 hb, (k x hx).2⟩
/-- batches, or an error's number -/
def AllRes (s : Sto.St) (w : World) (e : Ending) (w' : World) : Prop := ∃ a n cap Rs err, e = .returned (.tuple #[.slice a n cap, .int .i64 err]) ∧ Bs w' a n cap Rs ∧ Sto.all s = (Rs.map Rb.ba, err) ∧ Below w.heap.size w w' ∧ n ≤ 10000 ∧ ∀ r ∈ Rs, r.evs.length ≤ 10
theorem allRes_err {s : Sto.St} {w w' : World} {err : Int} (h : Sto.all s = ([], err)) (hb : Below w.heap.size w w') : AllRes s w (.returned (.tuple #[.slice none 0 0, .int .i64 err])) w' :=
  ⟨none, 0, 0, [], err, rfl, Bs.none _, h, hb, by omega, fun r hr => by cases hr⟩
set_option maxHeartbeats 4000000 in
theorem stall_call (base p : Nat) (m : Mst) (K : Nat) (w : World) (h : StR w base p m) (hk : Sto.Ok m.st K) :
    Calls Try.prog 59 #[.pointer (some ⟨p, 0, none⟩)] w (AllRes m.st w) := by
  have HO := hid hk
  have hG : m.g ≤ 40 := hk.g
  have hnd : m.D.length ≤ 12 := by have := hk.n12; simpa [Mst.st] using this
  have hT : m.T.length < 10 := by
    have h1 := hk.t; have h2 := hk.b
    simp only [Mst.st, List.length_map] at h1 h2
    omega
  have hd1 : 1 ≤ m.d ∧ m.d ≤ 8 := hk.d
  have HTE := hid (show ∀ r ∈ m.T, r.evs.length ≤ 10 from fun r hr => hk.ev (b := r.ba) (List.mem_map.2 ⟨r, hr, rfl⟩))
  have HS := hid h
  have b2 : w.cell? ⟨p, 4, none⟩ = some (.int .i64 (m.g : Int)) := blk_cell (i := 4) h.box
  have b5 : w.cell? ⟨p, 5, none⟩ = some m.tv := blk_cell (i := 5) h.box
  have hp := h.lt
  obtain ⟨G, hGe⟩ : ∃ G, G = m.g := ⟨_, rfl⟩
  rw [← hGe] at hG b2
  replace hGe := hid hGe
  obtain ⟨d, hde⟩ : ∃ d, d = m.d := ⟨_, rfl⟩
  rw [← hde] at hd1
  replace hde := hid hde
  clear hk h
  go_enter Try.func59, Try.ntmps59
  go_wp2_with fail
  go_loopg [4, 14] G (fun gg s4 s14 wr => ∃ (k : Nat) (Rs : List Rb), gg = G - k ∧ k ≤ G ∧ s14 = .int .i64 (k : Int) ∧ OT w wr none w.heap.size 27 2 s4 Rs.length (rbCells Rs) ∧ Ro wr w.heap.size Rs ∧ Hid (Sto.allTo m.st.disks m.st.data k = (Rs.map Rb.ba, 0)) ∧ Rs.length ≤ 150 * k ∧ Hid (∀ r ∈ Rs, r.evs.length ≤ 10))
  case atStart => exact ⟨0, [], rfl, by omega, rfl, OT.fresh (World.ownsRow_nil _ _ _ _) (Below.refl _ _) (Nat.le_refl _), Ro.nil _ _, hid rfl, by simp, hid (fun r hr => by cases hr)⟩
  case round =>
    obtain ⟨k, Rs, rfl, hk, rfl, hO, hRo, HA, hRl, HE⟩ := hrel
    obtain ⟨wo, rfl⟩ : ∃ wo : World, wo = wr := ⟨_, rfl⟩
    have hbo := hO.belowOf (b := w.heap.size) (Nat.le_refl _) (fun k e => by cases e)
    have hszo := hbo.size
    have HO2 := hid hO
    have HR2 := hid hRo
    clear hO hRo
    have HSo := hid (HS.out.below hbo)
    by_cases hlt : k < G
    · have c0 : wo.cell? ⟨p, 0, none⟩ = some (.int .i64 d) := by rw [hde.out]; exact blk_cell (i := 0) HSo.out.box
      have DB := hid (show ∀ W, Below wo.heap.size wo W → Calls Try.prog 65 #[.pointer (some ⟨p, 0, none⟩), .int .i64 (k : Int)] W (fun e w' => ∃ a cap R, e = .returned (.slice a m.D.length cap) ∧ Ms w' a m.D.length cap R ∧ rwData R = Sto.blocks m.st.disks k ∧ Below wo.heap.size wo w' ∧ w'.cell? ⟨p, 0, none⟩ = some (.int .i64 d)) from fun W hW =>
        (stblocks_call base p m (k : Int) W (HSo.out.below hW) (by omega)).mono fun e w' ⟨a, cap, R, h1, h2, h3, h4⟩ => ⟨a, cap, R, h1, h2, h3, bnext hW h4, by rw [hde.out]; exact blk_cell (i := 0) (HSo.out.below (bnext hW h4)).box⟩)
      go_wp2_with fail
      go_region_held3 (fun w' => w'.cell? ⟨p, 0, none⟩ = some (.int .i64 d)) (first | (with_reducible exact c0) | exact c0 | exact g0 | go_keep)
        (first
          | (go_at_call 65; refine (DB.out _ ?_).mono ?_; (repeat (first | assumption | exact Below.refl _ _ | refine below_drewN ?_ _ | refine Below.drew ?_)); rintro e w5 ⟨a5, c5, R5, rfl, M5, e5, v5, g0⟩)
          | (go_at_call 78; refine (sRead_call a5 _ c5 R5 (k : Int) d _ M5 (by omega)).mono ?_; rintro e w6 ⟨a6, n6, c6, B6, f6, rfl, hB6, p6, v6⟩; have g0 := (v6.cell (p := ⟨p, 0, none⟩) (World.block_lt_of_cell? _ _ g0)).trans g0))
      all_goals
        have hv := bnext v5 v6
        have hbv := bnext hbo hv
        have hszv := hbv.size
        rw [e5, hde.out] at p6
        change Stp.ReadR _ _ m.st.data _ _ at p6
        have hp6 := Stp.readF_eq p6
        have HA1 := HA.out
        clear DB c0 g0 p6 M5 e5
        by_cases hf : f6 = 0
        · subst hf
          have DP := hid (eParse_callO a6 n6 c6 B6 w6 hB6)
          have HR0 := hid hp6.2.symm
          have HRB := hid hp6.1
          clear hp6 HA1
          go_wp2_with fail
          go_at_call 79; refine (DP.out).mono ?_; rintro e w7 ⟨a7, n7, c7, Rs7, rfl, hB7, e7, v7, R7⟩
          have hbw := bnext hbv v7
          obtain ⟨f7, hf7⟩ : ∃ f7, f7 = (Evt.parse B6).err := ⟨_, rfl⟩
          rw [← hf7]
          have hn7 := hB7.n
          have hbd := @Sto.parse_bd B6
          rw [← e7, List.length_map] at hbd
          have HBD := hid (show ∀ r ∈ Rs7, r.evs.length ≤ 10 from fun r hr => (Evt.wrongBa_zero (hbd.2 r.ba (List.mem_map.2 ⟨r, hr, rfl⟩))).2.2.2.1)
          have hn150 := hbd.1
          have HO7 := hid (HO2.out.step (grown_of_below (bnext hv v7) none) (.inl rfl))
          have HRo7 := hid ((HR2.out.below (bnext hv v7)).more R7 hszv)
          have hszw := hbw.size
          have hsrc := hid (Sl.src (P := Try.prog) hB7.sl Try.underlying39 (rbCells_one Rs7))
          have E7 := hid e7
          clear hbd e7 hB7 DP
          by_cases hz : f7 = 0
          · have HN := hid (Sto.allTo_more HA.out HR0.out (by rw [← HRB.out, ← hf7]; exact hz))
            rw [← HRB.out, ← E7.out] at HN
            subst hz
            replace hf7 := hid hf7
            go_wp2_with (refine wpList_append_t rfl (.tmp 42) (.tmp 43) 39 39 rfl w.heap.size 27 2 32 (.agg #[.int .i64 0, .slice none 0 0]) Try.underlying39 info_ba rfl (by decide) _ Rs.length (rbCells Rs) rfl HO7.out (.slice a7 n7 c7) n7 (rbCells Rs7) rfl hsrc.out (by unfold maxLen; omega) (by omega) hszw ?_; intro v2 w4 ho2 hg2)
            go_roundg (G - (k + 1))
            case measure => omega
            case rel =>
              refine ⟨k + 1, Rs ++ Rs7, rfl, by omega, by go_num, ?_, ?_, hid (by rw [List.map_append]; exact HN.out), by rw [List.length_append]; omega, hid (fun r hr => ?_)⟩
              · rw [List.length_append, hn7, rbCells_append]; exact ho2
              · exact HRo7.out.grown HO7.out.own hg2 (by decide)
              · rcases List.mem_append.1 hr with hr | hr
                · exact HE.out r hr
                · exact HBD.out r hr
          · have hA := hid (Sto.all_stuck (s := m.st) (k := k + 1) (by show k + 1 ≤ m.g; rw [← hGe.out]; omega) (by rw [← HRB.out, ← hf7]; exact hz) (Sto.allTo_form HA.out HR0.out (by rw [← HRB.out, ← hf7]; exact hz)))
            rw [← HRB.out, ← hf7] at hA
            have t0 : (f7 != 0) = true := bne_iff_ne.2 hz
            replace hz := hid hz
            replace hf7 := hid hf7
            go_wp2_with fail
            go_ret2
            exact allRes_err hA.out hbw
        · have hA := hid (Sto.all_stuck (s := m.st) (k := k + 1) (by show k + 1 ≤ m.g; rw [← hGe.out]; omega) (by rw [← hp6.2]; exact hf) (Sto.allTo_lost HA1 (by rw [← hp6.2]; exact hf)))
          rw [← hp6.2] at hA
          have t0 : (f6 != 0) = true := bne_iff_ne.2 hf
          replace hf := hid hf
          clear hp6 HA1
          go_wp2_with fail
          go_ret2
          exact allRes_err hA.out hbv
    · obtain rfl : k = G := by omega
      have c3 : wo.cell? ⟨p, 5, none⟩ = some m.tv := blk_cell (i := 5) HSo.out.box
      obtain ⟨ta, tc, htv, hTB⟩ := Ro.bs (show Ro wo base m.T from HSo.out.evs) HSo.out.tail
      rw [htv] at c3
      have hsrc := hid (Sl.src (P := Try.prog) hTB.sl Try.underlying39 (rbCells_one m.T))
      have HRT := hid (show Ro wo (min base w.heap.size) (Rs ++ m.T) from Ro.more (fun x hx => ⟨own_mono (HR2.out x hx).1 (Nat.min_le_right _ _), (HR2.out x hx).2⟩) HSo.out.evs (Nat.min_le_left _ _))
      have HAll := hid (Sto.all_ok (s := m.st) (by show Sto.allTo m.st.disks m.st.data m.g = _; rw [← hGe.out]; exact HA.out))
      clear hTB htv
      go_wp2_with (refine wpList_append_t rfl (.tmp 46) (.tmp 51) 39 39 rfl w.heap.size 27 2 32 (.agg #[.int .i64 0, .slice none 0 0]) Try.underlying39 info_ba rfl (by decide) _ Rs.length (rbCells Rs) rfl HO2.out (.slice ta m.T.length tc) m.T.length (rbCells m.T) rfl hsrc.out (by unfold maxLen; omega) (by omega) (by omega) ?_; intro v2 w4 ho2 hg2)
      have hR4 := HRT.out.grown HO2.out.own hg2 (by decide)
      have ho2' := ho2.own
      rw [← rbCells_append, ← List.length_append] at ho2'
      obtain ⟨a', c', rfl, hBs⟩ := Ro.bs hR4 (own_mono ho2' (Nat.min_le_right _ _))
      have hb4 := ho2.belowOf (b := w.heap.size) (Nat.le_refl _) (fun k e => by cases e)
      clear ho2 hg2 ho2'
      go_ret2
      refine ⟨a', _, c', _, 0, rfl, hBs, ?_, hb4, by rw [List.length_append]; omega, fun r hr => ?_⟩
      · rw [HAll.out, List.map_append]; rfl
      · rcases List.mem_append.1 hr with hr | hr
        · exact HE.out r hr
        · exact HTE.out r hr
end Go.Proofs.Ythhcdfjijagalaa
