/- Contract of chapter 6: the reference's Read. -/
import Derived.Test.YtjdgfijpmljhiaaStripeR
import Derived.Test.YtjdgfijpmljhiaaCodeV
import Derived.Test.YtjdgfijpmljhiaaEvA
namespace Go.Proofs.Ytjdgfijpmljhiaa
open Go.RowKit
set_option linter.unusedVariables false
set_option maxRecDepth 100000
def Stp.sz0 (x : Int) : Int := if 0 ≤ x then x else 0
theorem Stp.sz0_pos {x : Int} (h : 0 ≤ x) : Stp.sz0 x = x := by unfold Stp.sz0; rw [if_pos h]
/-- '[]byte(s)', to be read -/
theorem conv_bt (w : World) (l : List UInt8) (hl : l.length ≤ maxLen) : ∃ W cp, (convert 9 48 (.string ⟨l.toArray⟩)).run Try.prog w = .ok (.slice (some ⟨w.heap.size, 0, none⟩) l.length cp) W ∧ Below w.heap.size w W ∧ Bt W (some ⟨w.heap.size, 0, none⟩) l.length cp l := by
  have hsz : (⟨l.toArray⟩ : ByteArray).size = l.length := by simp [ByteArray.size]
  have hr := Lib.run_convert_string_bytes (P := Try.prog) w 9 48 5 ⟨l.toArray⟩ Try.underlying9 Try.underlying48 Try.underlying5
  rw [hsz] at hr
  refine ⟨_, _, hr, ⟨rfl, rfl, rfl, by rw [Lib.bytesWorld_size]; omega, fun k hk => Lib.bytesWorld_at_old w 5 _ k hk⟩, grownCap_ge _ _ _ _, grownCap_le_maxLen _ _ _ _ hl, by rw [cb_length]; omega, (fun e => by cases e), fun hn => ⟨_, 0, rfl, fun j u hj => ?_⟩⟩
  have hjl : j < l.length := by
    have := (List.getElem?_eq_some_iff.1 hj).1
    rwa [cb_length] at this
  rw [Nat.zero_add, Lib.bytesWorld_cell w 5 ⟨l.toArray⟩ j (by rw [hsz]; exact hjl), ← hj, cb_get l j hjl]
  rfl

set_option maxHeartbeats 4000000 in
theorem rRead_ok (a : Option Addr) (n cap : Nat) (L : List Rw) (g : Int) (D s : Nat) (w : World) (hL : Ms w a n cap L) (hn : n = D + s) (h1 : 1 ≤ D) (h2 : D ≤ 8) (h3 : s ≤ 4) :
    Calls Try.prog 33 #[.slice a n cap, .int .i64 g, .int .i64 (D : Int)] w (BtRes (Stp.ReadR (rwData L) g (D : Int)) w) := by
  have HN := hid hL.cnt
  have HD := hid hL.dn
  have s1 : IntKind.i64.wrap ((n : Int) - (D : Int)) = (s : Int) := by rw [IntWalk.i64_in _ (by omega)]; omega
  have s2 : (n : Int) - (D : Int) = (s : Int) := by omega
  have hn12 : n ≤ 12 := by omega
  have hn1 : 1 ≤ n := by omega
  have hDn : D ≤ n := by omega
  have HC : Mat.wrongC (D : Int) (s : Int) = 0 := Mat.wrongC_of (by omega)
  have DC := hid (HC ▸ rWrongCode_call (D : Int) (s : Int) w)
  have HC2 := hid (show Mat.wrongC (D : Int) (((rwData L).length : Int) - (D : Int)) = 0 by rw [HD.out, s2]; exact HC)
  replace HC := hid HC
  replace hn := hid hn
  obtain ⟨ab, aoff, rfl, _⟩ := hL.sl.addr (by omega)
  have hLlt : Hid (∀ r ∈ L, 0 < r.n → ∀ b off, r.a = some ⟨b, off, none⟩ → b < w.heap.size) := hid (fun r hr hn b off e => by
    have h5 := hL.row r hr
    rw [e] at h5
    exact Bt.lt' h5 hn)
  go_enter Try.func33, Try.ntmps33
  go_wp2_with fail
  go_at_call 48; refine (DC.out).mono ?_; rintro e w0 ⟨rfl, rfl⟩
  go_wp2_with fail
  go_loopg [9, 10, 11, 31] n (fun gg s9 s10 s11 s31 wr => ∃ (k : Nat) (O : List Rw), gg = n - k ∧ k ≤ n ∧ s31 = .int .i64 (k : Int) ∧ s10 = .int .i64 (Stp.sz0 (Stp.szI (Stp.szTo (rwData L) g k))) ∧ s11 = .bool (decide (0 ≤ Stp.szI (Stp.szTo (rwData L) g k))) ∧ Mb w wr none w.heap.size s9 O ∧ Hid (O.length = k) ∧ Hid (∀ i (hi : i < O.length), O[i].l = (Stp.dataTo (rwData L) g (rwData L).length).getD i []) ∧ Hid (Stp.Agree (rwData L) g k))
  case atStart => exact ⟨0, [], rfl, by omega, rfl, rfl, rfl, Mb.nil _ _ (Below.refl _ _) _ (Nat.le_refl _), hid rfl, hid (fun i hi => absurd hi (by simp)), hid Stp.agree_zero⟩
  case round =>
    obtain ⟨k, O, rfl, hk, rfl, rfl, rfl, hM, HO, HOd, HA⟩ := hrel
    obtain ⟨wo, rfl⟩ : ∃ wo : World, wo = wr := ⟨_, rfl⟩
    have hbo := hM.own.belowOf (Nat.le_refl _) (fun k e => by cases e)
    have hszo := hbo.size
    by_cases hlt : k < n
    · have hkL : k < L.length := by rw [HN.out]; exact hlt
      have hkd : k < (rwData L).length := by rw [HD.out]; exact hlt
      obtain ⟨x0, hb⟩ := (hL.below hbo).at k hkL
      have hl := rwData_getD hkL
      have hgd := Stp.dataTo_get (l := rwData L) (g := g) (k := (rwData L).length) hkd
      have D1 := rRight_call L[k].a L[k].n L[k].cap L[k].l g (k : Int) wo hb
      have hbw := hL.row L[k] (List.getElem_mem hkL)
      generalize L[k] = r at *
      have i0 : (0 : Int) ≤ (k : Int) := by omega
      have i1 : (k : Int) < (n : Int) := by omega
      have hO12 : O.length ≤ 65536 := by rw [HO.out]; omega
      cases hx : Stp.right r.l g (k : Int) with
      | false =>
        have hx' : Stp.right ((rwData L).getD k []) g k = false := by rw [hl]; exact hx
        have y1 := hid (Stp.szTo_no hx')
        have y3 := hid (Stp.agree_no hx' HA.out)
        have y5 : Hid (Stp.szI (Stp.szTo (rwData L) g (k + 1)) = Stp.szI (Stp.szTo (rwData L) g k)) := hid (by rw [y1.out])
        have y6 : Hid ((Stp.dataTo (rwData L) g (rwData L).length).getD k [] = []) := hid (by rw [hgd, if_neg (by rw [hx']; simp)])
        rw [hx] at D1
        replace D1 := hid D1
        replace hl := hid hl
        replace hx := hid hx
        replace hx' := hid hx'
        replace hgd := hid hgd
        generalize Stp.szI (Stp.szTo (rwData L) g k) = sI at *
        go_wp2_with fail
        go_at_call 51; refine (D1.out).mono ?_; rintro e w2 ⟨rfl, b2⟩
        have hM2 := hM.below b2
        have hsz2 := b2.size
        go_wp2_with (refine wpList_append_row rfl (.tmp 41) (.tmp 42) 50 und_rowst rfl w.heap.size _ O rfl hM2 ⟨none, 0, 0, []⟩ _ rfl rfl (Bt.empty _) (fun hn => absurd hn (by simp)) hO12 (by omega) ?_; intro v5 w5 M5 g5)
        go_roundg (n - (k + 1))
        case measure => omega
        case rel =>
          refine ⟨k + 1, O ++ [⟨none, 0, 0, []⟩], rfl, by omega, by go_num, by rw [y5.out], by rw [y5.out], M5, hid (by simp [HO.out]), hid (fun i hi => ?_), y3⟩
          by_cases e : i < O.length
          · rw [List.getElem_append_left e]; exact HOd.out i e
          · have hi' : i < O.length + 1 := by simpa using hi
            have e2 : i = k := by have := HO.out; omega
            subst e2
            rw [List.getElem_append_right (by omega), y6.out]
            simp only [HO.out, Nat.sub_self, List.getElem_cons_zero]
      | true =>
        have hx' : Stp.right ((rwData L).getD k []) g k = true := by rw [hl]; exact hx
        have y1 := hid (Stp.szTo_yes hx')
        have y3 := hid (Stp.agree_yes hx' HA.out)
        have y4 := hid (Stp.agree_not hx' hkd)
        rw [hl] at y1 y3 y4
        have hsz1 : Hid (Stp.szI (Stp.szTo (rwData L) g (k + 1)) = ((Blk.parse r.l).z : Int)) := hid (by rw [y1.out]; exact Stp.szI_snoc _ _)
        have y6 : Hid ((Stp.dataTo (rwData L) g (rwData L).length).getD k [] = (Blk.parse r.l).data) := hid (by rw [hgd, if_pos ⟨hkd, hx'⟩, hl])
        rw [hx] at D1
        have D2 := hid (fun W (hW : Bt W r.a r.n r.cap r.l) => rParseBlock_callF r.a r.n r.cap r.l W hW)
        unfold QT at D2
        obtain ⟨sI, hsI⟩ : ∃ sI, sI = Stp.szI (Stp.szTo (rwData L) g k) := ⟨_, rfl⟩
        rw [← hsI] at y3 y4 ⊢
        replace hsI := hid hsI
        generalize Blk.parse r.l = P at *
        obtain ⟨E, G, Sh, Z, data⟩ := P
        simp only at D2 y3 y4 y6 hsz1
        replace D1 := hid D1
        replace hl := hid hl
        replace hx := hid hx
        replace hx' := hid hx'
        replace hgd := hid hgd
        go_wp2_with fail
        go_at_call 51; refine (D1.out).mono ?_; rintro e w2 ⟨rfl, b2⟩
        have hM2 := hM.below b2
        have hb2 := Sl.below hb b2
        go_wp2_with fail
        go_at_call 53; refine (D2.out w2 hb2).mono ?_; rintro e w3 ⟨a2, n2, c2, rfl, b3, hF⟩
        have hM3 := (hM2.below b3).alloc (.cells #[.int .i64 G, .int .i64 Sh, .int .i64 Z, .slice a2 n2 c2] 77)
        have B2 := blk_new w3 (.cells #[.int .i64 G, .int .i64 Sh, .int .i64 Z, .slice a2 n2 c2] 77)
        have hbw2 := bnext (bnext hbo b2) b3
        have hbw3 := hbw2.alloc hbw2.size (.cells #[.int .i64 G, .int .i64 Sh, .int .i64 Z, .slice a2 n2 c2] 77)
        have hdW := hF w hbw
        go_upto_region 12 with (fail)
        generalize w3.alloc (.cells #[.int .i64 G, .int .i64 Sh, .int .i64 Z, .slice a2 n2 c2] 77) = V at *
        have r2 := blk_cell (i := 2) B2
        have r3 := blk_cell (i := 3) B2
        have hsz3 := hbw3.size
        have hdV := Sl.below hdW hbw3
        have hap : Apart u9 ⟨a2, n2, c2, data⟩ := apart_old hM3.own.own (fun hn b off e => by
          have h5 := hdW
          have e' : a2 = some ⟨b, off, none⟩ := e
          rw [e'] at h5
          exact Bt.lt' h5 hn)
        clear hM hM2 hbo x0 hb hb2 hF b2 b3 hbw2
        by_cases c1 : 0 ≤ sI
        · have hd : decide (0 ≤ sI) = true := decide_eq_true c1
          have hz0 := Stp.sz0_pos c1
          by_cases c2' : (Z : Int) = sI
          · have hAg := hid (y3.out (.inr c2'))
            subst c2'
            have t1 : ((Z : Int) != (Z : Int)) = false := by simp
            clear y3 y4
            go_wp2_with (refine wpList_append_row rfl (.tmp 58) (.tmp 61) 50 und_rowst rfl w.heap.size _ O rfl hM3 ⟨a2, n2, c2, data⟩ _ rfl rfl hdV hap hO12 (by omega) ?_; intro v5 w5 M5 g5)
            go_roundg (n - (k + 1))
            case measure => omega
            case rel =>
              refine ⟨k + 1, O ++ [⟨a2, n2, c2, data⟩], rfl, by omega, by go_num, by rw [hsz1.out, Stp.sz0_pos (by omega)], by rw [hsz1.out, decide_eq_true (by omega)], M5, hid (by simp [HO.out]), hid (fun i hi => ?_), hid hAg.out⟩
              by_cases e : i < O.length
              · rw [List.getElem_append_left e]; exact HOd.out i e
              · have hi' : i < O.length + 1 := by simpa using hi
                have e2 : i = k := by have := HO.out; omega
                subst e2
                rw [List.getElem_append_right (by omega), y6.out]
                simp only [HO.out, Nat.sub_self, List.getElem_cons_zero]

          · have hAn := hid (y4.out c1 c2')
            have t1 : ((Z : Int) != sI) = true := bne_iff_ne.2 c2'
            replace c2' := hid c2'
            clear y3 y4
            go_wp2_with fail
            go_ret2
            exact ⟨_, _, _, [], 8, rfl, Bt.empty _, Stp.read_2 HC2.out hAn.out, hbw3⟩
        · have hAg := hid (y3.out (.inl (by omega)))
          have hd : decide (0 ≤ sI) = false := decide_eq_false c1
          clear y3 y4
          go_wp2_with (refine wpList_append_row rfl (.tmp 58) (.tmp 61) 50 und_rowst rfl w.heap.size _ O rfl hM3 ⟨a2, n2, c2, data⟩ _ rfl rfl hdV hap hO12 (by omega) ?_; intro v5 w5 M5 g5)
          go_roundg (n - (k + 1))
          case measure => omega
          case rel =>
            refine ⟨k + 1, O ++ [⟨a2, n2, c2, data⟩], rfl, by omega, by go_num, by rw [hsz1.out, Stp.sz0_pos (by omega)], by rw [hsz1.out, decide_eq_true (by omega)], M5, hid (by simp [HO.out]), hid (fun i hi => ?_), hid hAg.out⟩
            by_cases e : i < O.length
            · rw [List.getElem_append_left e]; exact HOd.out i e
            · have hi' : i < O.length + 1 := by simpa using hi
              have e2 : i = k := by have := HO.out; omega
              subst e2
              rw [List.getElem_append_right (by omega), y6.out]
              simp only [HO.out, Nat.sub_self, List.getElem_cons_zero]

    · obtain rfl : n = k := by omega
      obtain ⟨ao, co, e1, hMs⟩ := hM.ms
      rw [HO.out] at e1 hMs
      cases e1
      have HO2 : Hid (rwData O = Stp.dataTo (rwData L) g (rwData L).length) := hid (Stp.ext_getD (by rw [rwData_length, HO.out, Stp.dataTo_length, HD.out]) (fun i hi => by
        rw [rwData_length] at hi
        rw [rwData_getD hi]; exact HOd.out i hi))
      have HA2 : Hid (Stp.Agree (rwData L) g (rwData L).length) := hid (by rw [HD.out]; exact HA.out)
      have DM := rMend_call ao n co O (D : Int) (by omega) wo hMs
      rw [HO2.out] at DM
      obtain ⟨sI, hsI⟩ : ∃ sI, sI = Stp.szI (Stp.szTo (rwData L) g (rwData L).length) := ⟨_, rfl⟩
      have e5 : Stp.szI (Stp.szTo (rwData L) g n) = sI := by rw [hsI, HD.out]
      rw [e5]
      clear e5
      replace hsI := hid hsI
      replace DM := hid DM
      clear hM HO HA DC hlt HOd
      generalize hd : decide (0 ≤ sI) = db at *
      replace hd := hid hd
      generalize hz0 : Stp.sz0 sI = sz at *
      replace hz0 := hid hz0
      go_wp2_with fail
      go_at_call 54; refine (DM.out).mono ?_; rintro e w3 ⟨a3, n3, c3, X, f, rfl, hX, hp, b3⟩
      have hbw3 := bnext hbo b3
      by_cases hf : f = 0
      · subst hf
        have hXl := Stp.mend_len hp
        obtain rfl : n3 = n := by rw [← hX.dn, hXl.1, Stp.dataTo_length, HD.out]
        have hsz := Stp.mend_size HC2.out hp
        obtain ⟨z, hz, _⟩ := Stp.szI_of hsz
        rw [← hsI.out] at hz
        subst hz
        have hz1 := hz0.out
        rw [Stp.sz0_pos (by omega)] at hz1
        subst hz1
        have HX := hid hX.cnt
        have HX2 := hid hXl.2
        have hxle := hX.sl.le
        obtain ⟨xb, xoff, rfl, _⟩ := hX.sl.addr (by omega)
        have HP := hid hp
        clear hp hsz hXl DM
        go_wp2_with fail
        go_loopg [18, 19] D (fun gg s18 s19 wr => ∃ (k : Nat), gg = D - k ∧ k ≤ D ∧ s19 = .int .i64 (k : Int) ∧ s18 = .string ⟨((rwData X).take k).flatten.toArray⟩ ∧ w3 = wr)
        case atStart => exact ⟨0, rfl, by omega, rfl, rfl, rfl⟩
        case round =>
          obtain ⟨k, rfl, hk, rfl, rfl, rfl⟩ := hrel
          have hfl := Stp.flatten_le (X := (rwData X).take k) (fun r hr => HX2.out r (List.mem_of_mem_take hr))
          rw [List.length_take] at hfl
          have hfl2 : ((rwData X).take k).flatten.length ≤ 4800 := by
            have : min k (rwData X).length * 400 ≤ 12 * 400 := Nat.mul_le_mul_right _ (by omega)
            omega
          clear hfl
          by_cases hlt : k < D
          · have hkX : k < X.length := by rw [HX.out]; omega
            obtain ⟨x0, hb⟩ := hX.at k hkX
            have hs2 : Hid (((rwData X).take (k + 1)).flatten = ((rwData X).take k).flatten ++ X[k].l) := hid (by
              rw [List.take_add_one, List.flatten_append]
              simp [rwData, hkX])
            have hr4 : X[k].l.length ≤ 400 := HX2.out _ (by unfold rwData; exact List.mem_map_of_mem (List.getElem_mem _))
            generalize X[k] = r at *
            have i0 : (0 : Int) ≤ (k : Int) := by omega
            have i1 : (k : Int) < (D : Int) := by omega
            have i2 : (k : Int) < (n3 : Int) := by omega
            have q1 := Bt.str hb
            generalize ((rwData X).take k).flatten = F at *
            have hcs : IntKind.i64.max = 9223372036854775807 := rfl
            have hcat : ((⟨F.toArray⟩ : ByteArray) ++ (⟨r.l.toArray⟩ : ByteArray)) = ⟨(F ++ r.l).toArray⟩ := by
              apply ByteArray.ext
              simp [ByteArray.data_append]
            have hc1 : ¬ (9223372036854775807 : Int) < (F.length : Int) + (r.l.length : Int) := by omega
            have hc2 : (F.length : Int) + (r.l.length : Int) ≤ (9223372036854775807 : Int) := by omega
            have hc3 : ((F.length + r.l.length : Nat) : Int) ≤ (9223372036854775807 : Int) := by omega
            go_wp2_with fail
            go_roundg (D - (k + 1))
            case measure => omega
            case rel => exact ⟨k + 1, rfl, by omega, by go_num, by rw [hs2.out], rfl⟩
          · obtain rfl : D = k := by omega
            have hF : Hid (Stp.flat (rwData X) (D : Int) = ((rwData X).take D).flatten) := hid (by unfold Stp.flat; simp)
            generalize ((rwData X).take D).flatten = F at *
            have hr4 := hid (Stp.read_4 HC2.out HA2.out HP.out)
            have hr5 := hid (Stp.read_5 HC2.out HA2.out HP.out)
            rw [hF.out, ← hsI.out] at hr4 hr5
            by_cases c1 : F.length < z
            · have c1' : (F.length : Int) < (z : Int) := by omega
              replace hr4 := hid (hr4.out c1')
              go_wp2_with fail
              go_ret2
              exact ⟨_, _, _, [], 8, rfl, Bt.empty _, hr4.out, hbw3⟩
            · have c1' : (z : Int) ≤ (F.length : Int) := by omega
              replace hr5 := hid (hr5.out c1')
              have c2 : (0 : Int) ≤ (z : Int) := by omega
              have hex : (⟨F.toArray⟩ : ByteArray).extract 0 z = ⟨(F.take z).toArray⟩ := by
                apply ByteArray.ext
                simp [ByteArray.data_extract]
              have hzl : (F.take z).length = z := by rw [List.length_take]; omega
              obtain ⟨W, cp, hcv, hbW, hBt⟩ := conv_bt w3 (F.take z) (by rw [hzl]; unfold maxLen; omega)
              rw [hzl] at hcv hBt
              replace hzl := hid hzl
              go_wp2_with fail
              go_ret2
              exact ⟨_, _, _, F.take z, 0, rfl, hBt, by simpa using hr5.out, bnext hbw3 hbW⟩
      · have hr3 := hid (Stp.read_3 HC2.out HA2.out hp hf)
        have t1 : (f != 0) = true := bne_iff_ne.2 hf
        replace hf := hid hf
        clear hp
        go_wp2_with fail
        go_ret2
        exact ⟨_, _, _, [], _, rfl, Bt.empty _, hr3.out, hbw3⟩
set_option maxHeartbeats 1000000 in
theorem rRead_bad (a : Option Addr) (n cap : Nat) (L : List Rw) (g d : Int) (w : World) (hL : Ms w a n cap L) (hd : -9223372036854775808 ≤ d ∧ d ≤ 9223372036854775807) (hc : Mat.wrongC d ((n : Int) - d) ≠ 0) :
    Calls Try.prog 33 #[.slice a n cap, .int .i64 g, .int .i64 d] w (BtRes (Stp.ReadR (rwData L) g d) w) := by
  have hR := hid (Stp.read_1 (l := rwData L) (g := g) (d := d) (by rw [hL.dn]; exact hc))
  rw [hL.dn] at hR
  have hz := wrongC_wrap hL.maxN hd
  rw [← hz] at hc hR
  generalize hzz : IntKind.i64.wrap ((n : Int) - d) = z at *
  have u0 : (Mat.wrongC d z != 0) = true := bne_iff_ne.2 hc
  have DC := hid (rWrongCode_call d z w)
  generalize Mat.wrongC d z = E at *
  replace hc := hid hc
  replace hz := hid hz
  replace hd := hid hd
  go_enter Try.func33, Try.ntmps33
  go_wp2_with fail
  go_at_call 48; refine (DC.out).mono ?_; rintro e w1 ⟨rfl, rfl⟩
  go_wp2_with fail
  go_ret2
  exact ⟨_, _, _, [], _, rfl, Bt.empty _, hR.out, Below.refl _ _⟩
theorem rRead_call (a : Option Addr) (n cap : Nat) (L : List Rw) (g d : Int) (w : World) (hL : Ms w a n cap L) (hd : -9223372036854775808 ≤ d ∧ d ≤ 9223372036854775807) :
    Calls Try.prog 33 #[.slice a n cap, .int .i64 g, .int .i64 d] w (BtRes (Stp.ReadR (rwData L) g d) w) := by
  by_cases hc : Mat.wrongC d ((n : Int) - d) = 0
  · have hc2 := Mat.wrongC_ok hc
    obtain ⟨D, rfl⟩ := Int.eq_ofNat_of_zero_le (a := d) (by omega)
    exact rRead_ok a n cap L g D (n - D) w hL (by omega) (by omega) (by omega) (by omega)
  · exact rRead_bad a n cap L g d w hL hd hc

end Go.Proofs.Ytjdgfijpmljhiaa
