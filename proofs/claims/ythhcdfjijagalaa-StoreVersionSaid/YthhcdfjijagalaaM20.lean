/- Joined, and what is not used struck: StripeC. -/
import Derived.Test.YthhcdfjijagalaaM09
import Derived.Test.YthhcdfjijagalaaM19
import Derived.Test.YthhcdfjijagalaaM08
import Derived.Test.YthhcdfjijagalaaM16
namespace Go.Proofs.Ythhcdfjijagalaa
open Go.RowKit
set_option linter.unusedVariables false
set_option maxRecDepth 100000
theorem slice_dropB (ea : Option Addr) (en ec k : Nat) (hk : k ≤ en) (W : World) : (Instr.slice 88 (.slice ea en ec) (some (.int .i64 (k : Int))) none none).run Try.prog W = .ok (.slice (if ec = k then ea else ea.map (·.add (k * 1))) (en - k) (ec - k)) W := by
  have h0 : (0 : Int) ≤ (k : Int) := by omega
  have h1 : (k : Int) ≤ (en : Int) := by omega
  refine (run_slice_l (P := Try.prog) (w := W) (t := 88) (a := ea) (len := en) (cap := ec) Try.underlying88 .i64 (k : Int) h0 h1).trans ?_
  simp only [Int.toNat_natCast]
  rfl
theorem Bt.dropB {w : World} {a : Option Addr} {n cap : Nat} {l : List UInt8} (h : Bt w a n cap l) {k : Nat} (hk : k ≤ n) : Bt w (if cap = k then a else a.map (·.add (k * 1))) (n - k) (cap - k) (l.drop k) := by
  have := Bt.slice h hk (Nat.le_refl n)
  rwa [List.take_of_length_le (by rw [List.length_drop, Bt.n h]; exact Nat.le_refl _)] at this
theorem own_grown {w w' : World} {base : Nat} {e : TypeId} {sz : Nat} {v : Value} {n : Nat} {xs : List Value} {q : Option Nat} (h : w.ownsRow base e sz v n xs) (hg : w.grownBy w' q) (hne : ∀ k, q = some k → v.ownBlock ≠ some k) : w'.ownsRow base e sz v n xs := by
  refine ⟨h.1, ?_⟩
  rcases h.2 with h2 | ⟨g, cap, cur, rfl, hb, hh, r⟩
  · exact .inl h2
  · exact .inr ⟨g, cap, cur, rfl, hb, by rw [hg.block g (Array.getElem?_eq_some_iff.1 hh).1 (fun e => hne g e.symm rfl)]; exact hh, r⟩
theorem own_apart {w : World} {base base' : Nat} {e e' : TypeId} {sz sz' n n' : Nat} {v v' : Value} {xs xs' : List Value} (h : w.ownsRow base e sz v n xs) (h' : w.ownsRow base' e' sz' v' n' xs') (hne : e ≠ e') (k : Nat) (hk : v'.ownBlock = some k) : v.ownBlock ≠ some k := by
  rcases h'.2 with ⟨rfl, _⟩ | ⟨g, cap, cur, rfl, _, hh, _⟩
  · simp [Value.ownBlock] at hk
  · obtain rfl : g = k := by simpa [Value.ownBlock] using hk
    exact own_blk_ne h hh hne
/-- the rows of a matrix lie in rows of their own, and their slices too -/
def OwnM (w : World) (base : Nat) (a : Option Addr) (n cap : Nat) (R : List Rw) : Prop := w.ownsRow base 88 1 (.slice a n cap) n (rwCells R) ∧ ∀ r ∈ R, w.ownsRow base 5 1 r.v r.n (cb r.l)
theorem OwnM.nil (w : World) (base : Nat) : OwnM w base none 0 0 [] := ⟨World.ownsRow_nil _ _ _ _, fun r hr => by cases hr⟩
/-- as MRes, and all lies in new rows -/
def MResO (P : List (List UInt8) → Int → Prop) (w : World) (e : Ending) (w' : World) : Prop :=
  ∃ a n cap R err, e = .returned (.tuple #[.slice a n cap, .int .i64 err]) ∧ Ms w' a n cap R ∧ P (rwData R) err ∧ Below w.heap.size w w' ∧ OwnM w' w.heap.size a n cap R
set_option maxHeartbeats 4000000 in
theorem sLay_ok (a : Option Addr) (n cap : Nat) (b : List UInt8) (g d s : Nat) (w : World) (hb : Bt w a n cap b) (h1 : 1 ≤ d) (h2 : d ≤ 8) (h3 : s ≤ 4) (hg : g ≤ 39) (hz : n ≤ 400 * d) :
    Calls Try.prog 75 #[.slice a n cap, .int .i64 (g : Int), .int .i64 (d : Int), .int .i64 (s : Int)] w (MResO (Stp.LayR b (g : Int) (d : Int) (s : Int)) w) := by
  have hn := hid (Bt.n hb)
  have hle := hb.le
  have hmax := hb.max
  unfold maxLen at hmax
  have HC : Mat.wrongC (d : Int) (s : Int) = 0 := Mat.wrongC_of (by omega)
  have DC := hid (HC ▸ cWrong_call (d : Int) (s : Int) w)
  replace HC := hid HC
  obtain ⟨N, hN⟩ : ∃ N, N = Stp.wd n d := ⟨_, rfl⟩
  have hN1 : 1 ≤ N := by rw [hN]; exact Stp.wd_pos _ _
  have hN2 : N ≤ 400 := by rw [hN]; exact Stp.wd_le h1 hz
  have t0 : ¬ (g : Int) < 0 := by omega
  have t1 : ¬ (40 : Int) ≤ (g : Int) := by omega
  have t2 : ¬ (d : Int) * 400 < (n : Int) := by omega
  replace hN := hid hN
  go_enter Try.func75, Try.ntmps75
  go_wp2_with fail
  go_at_call 38; refine (DC.out).mono ?_; rintro e w1 ⟨rfl, rfl⟩
  have hq : (((n : Int) + (d : Int) - 1) / (d : Int)) = (((n + d - 1) / d : Nat) : Int) := by
    rw [Int.natCast_ediv]; congr 1; omega
  have hN3 : N = max ((n + d - 1) / d) 1 := by rw [hN.out]; rfl
  generalize (n + d - 1) / d = q at *
  go_upto_region 8 with (fail)
  go_cut [11] from 39 to 46 (fun c wx => c = .int .i64 (N : Int) ∧ w = wx)
  case first =>
    by_cases hq1 : 1 ≤ q
    · obtain rfl : N = q := by omega
      replace hN3 := hid hN3
      go_wp2_with fail
      go_meet
      exact ⟨rfl, rfl⟩
    · obtain rfl : q = 0 := by omega
      obtain rfl : N = 1 := by omega
      replace hN3 := hid hN3
      go_wp2_with fail
      go_meet
      exact ⟨rfl, rfl⟩
  case rest =>
    obtain ⟨rfl, rfl⟩ := hcut
    clear hq hN3
    have hw0 := Below.refl w.heap.size w
    go_wp2_with fail
    go_loopg [12, 48] d (fun gg s12 s48 wr => ∃ (k : Nat) (R : List Rw), gg = d - k ∧ k ≤ d ∧ s48 = .int .i64 (k : Int) ∧ Hid (R.length = k) ∧ Mb w wr none w.heap.size s12 R ∧ Hid (∀ i (hi : i < R.length), R[i].n = N ∧ R[i].l = Stp.chunk b N i))
    case atStart => exact ⟨0, [], rfl, by omega, rfl, hid rfl, Mb.nil _ _ (Below.refl _ _) _ (Nat.le_refl _), hid (fun i hi => absurd hi (by simp))⟩
    case round =>
      obtain ⟨k, R, rfl, hk, rfl, HL, hM, HD⟩ := hrel
      obtain ⟨wo, rfl⟩ : ∃ wo : World, wo = wr := ⟨_, rfl⟩
      have hbo := hM.own.belowOf (Nat.le_refl _) (fun k e => by cases e)
      have hszo := hbo.size
      by_cases hlt : k < d
      · go_upto_region 14 with (refine wpList_make_bytes rfl (.tmp 51) (.tmp 51) rfl N rfl rfl (by omega) ?_; intro w3 o3 b3 z3)
        have hP : k * N ≤ 3200 := Nat.le_trans (Nat.mul_le_mul (Nat.le_of_lt hlt) hN2) (by omega)
        obtain ⟨lo, hlo⟩ : ∃ lo, lo = min (k * N) n := ⟨_, rfl⟩
        have hSl := fun W => slice_dropB a n cap lo (by omega) W
        have hx := Bt.dropB (w := w3) (l := b) (k := lo) (Sl.below (Sl.below hb hbo) b3) (by omega)
        have hch := hid (Stp.chunk_copy (b := b) (N := N) (i := k) (lo := lo) (by rw [hn.out]; exact hlo))
        rw [hn.out] at hch
        have hPi : ((k : Int) * (N : Int)) = ((k * N : Nat) : Int) := by simp
        generalize k * N = P at *
        generalize (if cap = lo then a else a.map (·.add (lo * 1))) = da at *
        generalize hdn : n - lo = dn at *
        generalize cap - lo = dc at *
        replace hdn := hid hdn
        by_cases hPn : P ≤ n
        · obtain rfl : lo = P := by omega
          have i5 : (lo : Int) ≤ (n : Int) := by omega
          replace hlo := hid hlo
          replace hPn := hid hPn
          go_upto_region 15 with (refine wpList_copy_bytes rfl (.tmp 53) (.tmp 61) rfl wo.heap.size wo.heap.size N N (List.replicate N 0) (b.drop lo) rfl o3 da dn dc rfl hx wo.heap.size wo b3 (Nat.le_refl _) ?_; intro w4 r4 o4 b4; rw [hch.out] at o4)
          have M2 := hM.below b4
          have hszo4 := b4.size
          clear hSl hx o3 b3 z3
          go_wp2_with (refine wpList_append_row rfl (.tmp 63) (.tmp 65) 118 und_rowst rfl w.heap.size _ R rfl M2 ⟨some ⟨wo.heap.size, 0, none⟩, N, N, Stp.chunk b N k⟩ _ rfl rfl (own_bt o4) (apart_own M2.own.own o4 _) (by rw [HL.out]; omega) (by omega) ?_; intro v5 w5 M5 g5)
          go_roundg (d - (k + 1))
          case measure => omega
          case rel =>
            refine ⟨k + 1, R ++ [⟨some ⟨wo.heap.size, 0, none⟩, N, N, Stp.chunk b N k⟩], rfl, by omega, by go_num, hid (by simp [HL.out]), M5, hid (fun i hi => ?_)⟩
            by_cases e : i < R.length
            · rw [List.getElem_append_left e]; exact HD.out i e
            · have hi' : i < R.length + 1 := by simpa using hi
              have e2 : i = k := by have := HL.out; omega
              subst e2
              rw [List.getElem_append_right (by omega)]
              simp only [HL.out, Nat.sub_self, List.getElem_cons_zero]
              exact ⟨trivial, trivial⟩
        · obtain rfl : lo = n := by omega
          have i5 : ¬ (P : Int) ≤ (lo : Int) := by omega
          replace hlo := hid hlo
          replace hPn := hid hPn
          go_upto_region 15 with (refine wpList_copy_bytes rfl (.tmp 53) (.tmp 61) rfl wo.heap.size wo.heap.size N N (List.replicate N 0) (b.drop lo) rfl o3 da dn dc rfl hx wo.heap.size wo b3 (Nat.le_refl _) ?_; intro w4 r4 o4 b4; rw [hch.out] at o4)
          have M2 := hM.below b4
          have hszo4 := b4.size
          clear hSl hx o3 b3 z3
          go_wp2_with (refine wpList_append_row rfl (.tmp 63) (.tmp 65) 118 und_rowst rfl w.heap.size _ R rfl M2 ⟨some ⟨wo.heap.size, 0, none⟩, N, N, Stp.chunk b N k⟩ _ rfl rfl (own_bt o4) (apart_own M2.own.own o4 _) (by rw [HL.out]; omega) (by omega) ?_; intro v5 w5 M5 g5)
          go_roundg (d - (k + 1))
          case measure => omega
          case rel =>
            refine ⟨k + 1, R ++ [⟨some ⟨wo.heap.size, 0, none⟩, N, N, Stp.chunk b N k⟩], rfl, by omega, by go_num, hid (by simp [HL.out]), M5, hid (fun i hi => ?_)⟩
            by_cases e : i < R.length
            · rw [List.getElem_append_left e]; exact HD.out i e
            · have hi' : i < R.length + 1 := by simpa using hi
              have e2 : i = k := by have := HL.out; omega
              subst e2
              rw [List.getElem_append_right (by omega)]
              simp only [HL.out, Nat.sub_self, List.getElem_cons_zero]
              exact ⟨trivial, trivial⟩
      · obtain rfl : d = k := by omega
        have hRD := hid (show rwData R = Stp.rowsD b d from by
          apply List.ext_getElem
          · rw [rwData_length, HL.out, Stp.rowsD_length]
          · intro i k1 k2
            have hi : i < R.length := by rwa [rwData_length] at k1
            have := (HD.out i hi).2
            simp only [rwData, List.getElem_map, Stp.rowsD, List.getElem_range]
            rw [this, hN.out, hn.out])
        have hF := hid (Stp.rowsD_fine (b := b) h1 h2 (by rw [hn.out]; exact hz))
        obtain ⟨a', cap', rfl, hMs⟩ := hM.ms
        rw [HL.out] at hMs
        have DS := cSpare_callN a' d cap' R (s : Int) wo hMs
        rw [hRD.out] at DS
        replace DS := hid DS
        have hown := hid hM.own.own
        have HLo := HL.out
        rw [HLo]
        rw [HLo] at hown hM
        replace HLo := hid HLo
        go_wp2_with fail
        go_at_call 89; refine (DS.out).mono ?_; rintro e w1 ⟨a1, n1, c1, S, e1, rfl, hS, hp, b1, nw⟩
        obtain ⟨hrep, rfl⟩ := Mat.SpareR.ok hF.out h2 h3 hp
        obtain rfl : s = n1 := by rw [← hS.dn, hrep.rows]
        have HS := hid hS.cnt
        have HP := hid hp
        have M1 := hM.below b1
        have hbw1 := bnext hbo b1
        have hsz1 := hbw1.size
        have hlaid := hid (Stp.lay_4 (g := g) HC.out hg (by rw [hn.out]; exact hz) hp)
        have hsh : Hid (Mat.Shards (Stp.rowsD b d) (rwData S) d s (Stp.wd b.length d)) := hid ⟨hF.out, h2, h3, hrep⟩
        have MO := hid M1.own
        rw [← HLo.out] at MO
        have hsrc := Sl.src (P := Try.prog) hS.sl (tx := 118) (e' := 88) und_rowst (rwCells_one S)
        clear hp hrep DS DC
        go_upto_region 22 with (refine wpList_append_t rfl (.tmp 77) (.tmp 78) 118 118 rfl w.heap.size 88 1 24 (.slice none 0 0) und_rowst info_bytest rfl (by decide) _ R.length (rwCells R) (by rw [HLo.out]; rfl) MO.out (.slice a1 s c1) s (rwCells S) rfl hsrc (by unfold maxLen; rw [HLo.out]; omega) (by rw [HLo.out]; omega) hsz1 ?_; intro v2 w2 ho2 hg2; obtain ⟨at2, ct2, rfl, hT0⟩ := own_sl ho2.own)
        have hbt : ∀ r ∈ R ++ S, Bt w2 r.a r.n r.cap r.l := fun r hr => by
          rcases List.mem_append.1 hr with hr | hr
          · exact (M1.bt r hr).grown hg2 (by rw [HLo.out]; exact M1.apart r hr)
          · refine (hS.row r hr).grown hg2 (fun hn b off e e2 => ?_)
            have h1 := nw r hr hn b off e
            have h2 := (hown.out.lt b (by rw [← HLo.out]; exact e2)).2
            omega
        rw [← rwCells_append, HLo.out] at hT0
        have hT : Ms w2 at2 (d + s) ct2 (R ++ S) := ⟨hT0, hbt⟩
        have hTd := hid (show rwData (R ++ S) = Stp.rowsD b d ++ rwData S by rw [← hRD.out]; simp [rwData])
        have hb2 := ho2.belowOf (b := w.heap.size) (Nat.le_refl _) (fun k e => by cases e)
        have hsz2 := hb2.size
        have hle2 := hT0.le
        have hmax2 := hT0.max
        unfold maxLen at hmax2
        rw [HLo.out]
        clear hbt hT0 ho2 hg2 nw hS hsrc MO M1 b1 hown HL HD hRD hM hMs hlt hF
        generalize hTT : R ++ S = T at *
        replace hTT := hid hTT
        have HT := hid hT.cnt
        go_loopg [17, 81] (d + s) (fun gg s17 s81 wr => ∃ (k : Nat) (O : List Rw), gg = d + s - k ∧ k ≤ d + s ∧ s81 = .int .i64 (k : Int) ∧ Hid (O.length = k) ∧ Mb w2 wr none w2.heap.size s17 O ∧ Hid (∀ i (hi : i < O.length) (hi2 : i < T.length), O[i].l = Blk.bytes g i n T[i].l) ∧ Hid (∀ r ∈ O, wr.ownsRow w2.heap.size 5 1 r.v r.n (cb r.l)))
        case atStart => exact ⟨0, [], rfl, by omega, rfl, hid rfl, Mb.nil _ _ (Below.refl _ _) _ (Nat.le_refl _), hid (fun i hi => absurd hi (by simp)), hid (fun r hr => by cases hr)⟩
        case round =>
          obtain ⟨k, O, rfl, hk, rfl, HL, hM, HD, HO⟩ := hrel
          obtain ⟨wp, rfl⟩ : ∃ wp : World, wp = wr := ⟨_, rfl⟩
          have hbp := hM.own.belowOf (Nat.le_refl _) (fun k e => by cases e)
          have hszp := hbp.size
          by_cases hlt : k < d + s
          · have hkT : k < T.length := by rw [HT.out]; exact hlt
            obtain ⟨tb, toff, rfl, _⟩ := hT.sl.addr (by omega)
            obtain ⟨x0, hbk⟩ := (hT.below hbp).at k hkT
            have i0 : (0 : Int) ≤ (k : Int) := by omega
            have i1 : (k : Int) < (d : Int) + (s : Int) := by omega
            have hrl : T[k].l.length = Stp.wd b.length d := by
              have := hsh.out.row (i := k) hlt
              rw [← hTd.out, rwData_getD hkT] at this
              exact this
            have hrn := Bt.n hbk
            have hwr : Blk.wrong (g : Int) (k : Int) (n : Int) T[k].n = 0 := by
              have := hN.out
              rw [hn.out] at hrl
              unfold Blk.wrong
              rw [if_neg (by omega), if_neg (by omega)]
            have D := bBytes_call (g : Int) (k : Int) (n : Int) T[k].a T[k].n T[k].cap T[k].l wp hbk
            rw [hwr, if_pos rfl] at D
            simp only [Int.toNat_natCast] at D
            have hBl := Blk.bytes_length g k n T[k].l
            obtain ⟨B, hB⟩ : ∃ B, B = Blk.bytes g k n T[k].l := ⟨_, rfl⟩
            rw [← hB] at D hBl
            replace hB := hid hB
            generalize hTk : T[k] = r at *
            replace hTk := hid hTk
            replace D := hid D
            have hB0 : 0 < B.length := by omega
            replace hBl := hid hBl
            replace hrl := hid hrl
            replace hrn := hid hrn
            clear hwr
            go_wp2_with fail
            go_at_call 90; refine (D.out).mono ?_; rintro e w3 ⟨v3, rfl, b3, o3⟩
            obtain ⟨gb, gc, rfl, -, -, -, -⟩ := own_pos o3 hB0
            have M3 := hM.below b3
            have hsz3 := b3.size
            have HO3 := hid (fun r (hr : r ∈ O ++ [(⟨some ⟨gb, 0, none⟩, B.length, gc, B⟩ : Rw)]) => show w3.ownsRow w2.heap.size 5 1 r.v r.n (cb r.l) from by
              rcases List.mem_append.1 hr with hr | hr
              · exact own_below (HO.out r hr) b3
              · obtain rfl := List.mem_singleton.1 hr
                exact own_mono o3 hszp)
            go_wp2_with (refine wpList_append_row rfl (.tmp 99) (.tmp 101) 118 und_rowst rfl w2.heap.size _ O rfl M3 ⟨some ⟨gb, 0, none⟩, B.length, gc, B⟩ _ rfl rfl (own_bt o3) (apart_own M3.own.own o3 _) (by rw [HL.out]; omega) (by omega) ?_; intro v5 w5 M5 g5)
            go_roundg (d + s - (k + 1))
            case measure => omega
            case rel =>
              refine ⟨k + 1, O ++ [⟨some ⟨gb, 0, none⟩, B.length, gc, B⟩], rfl, by omega, by go_num, hid (by simp [HL.out]), M5, hid (fun i hi hi2 => ?_), ?_⟩
              · by_cases e : i < O.length
                · rw [List.getElem_append_left e]; exact HD.out i e hi2
                have hi' : i < O.length + 1 := by simpa using hi
                have e2 : i = k := by have := HL.out; omega
                subst e2
                rw [List.getElem_append_right (by omega)]
                simp only [HL.out, Nat.sub_self, List.getElem_cons_zero]
                rw [hB.out, hTk.out]
              · have hal : Below w3.heap.size w3 (w3.alloc (.cells #[.slice (some ⟨gb, 0, none⟩) B.length gc] 88)) := (Below.refl _ _).alloc (Nat.le_refl _) _
                exact hid (fun r hr => own_grown (own_below (HO3.out r hr) hal) g5 (fun k hk => own_apart (own_below (HO3.out r hr) hal) (own_below M3.own.own hal) (by decide) k hk))
          · obtain rfl : d + s = k := by omega
            have hOd : rwData O = Stp.blocks g b.length (Stp.rowsD b d ++ rwData S) := by
              rw [← hTd.out]
              apply List.ext_getElem
              · rw [rwData_length, HL.out, Stp.blocks_length, rwData_length, HT.out]
              · intro i k1 k2
                have hi : i < O.length := by rwa [rwData_length] at k1
                have hi2 : i < T.length := by have := HL.out; rw [HT.out]; omega
                have h5 := HD.out i hi hi2
                have h6 := Stp.blocks_get g b.length (rwData T) i (by rw [rwData_length]; exact hi2)
                rw [List.getElem?_eq_getElem k2] at h6
                rw [Option.some.inj h6, rwData_getD hi2, hn.out]
                simpa [rwData] using h5
            replace hOd := hid hOd
            obtain ⟨a3, c3, rfl, hMs⟩ := hM.ms
            have hbb := bnext hb2 hbp
            go_wp2_with fail
            go_ret2
            exact ⟨_, _, _, O, 0, rfl, hMs, by rw [hOd.out]; exact hlaid.out, hbb, own_mono hM.own.own hsz2, fun r hr => own_mono (HO.out r hr) hsz2⟩
set_option maxHeartbeats 1000000 in
theorem sLay_callO (a : Option Addr) (n cap : Nat) (b : List UInt8) (g d s : Int) (w : World) (hb : Bt w a n cap b) :
    Calls Try.prog 75 #[.slice a n cap, .int .i64 g, .int .i64 d, .int .i64 s] w (MResO (Stp.LayR b g d s) w) := by
  have hn := Bt.n hb
  have hle := hb.le
  have hmax := hb.max
  unfold maxLen at hmax
  by_cases hc : Mat.wrongC d s = 0
  · have hc2 := Mat.wrongC_ok hc
    obtain ⟨d', rfl⟩ := Int.eq_ofNat_of_zero_le (a := d) (by omega)
    obtain ⟨s', rfl⟩ := Int.eq_ofNat_of_zero_le (a := s) (by omega)
    have DC := hid (hc ▸ cWrong_call (d' : Int) (s' : Int) w)
    by_cases hg0 : g < 0
    · have hR := hid (Stp.lay_2 (b := b) hc (.inl hg0))
      replace hc := hid hc
      go_enter Try.func75, Try.ntmps75
      go_wp2_with fail
      go_at_call 38; refine (DC.out).mono ?_; rintro e w1 ⟨rfl, rfl⟩
      go_wp2_with fail
      go_ret2
      exact ⟨_, _, _, [], _, rfl, Ms.nil _, hR.out, Below.refl _ _, OwnM.nil _ _⟩
    by_cases hg1 : 40 ≤ g
    · have hR := hid (Stp.lay_2 (b := b) hc (.inr (show 39 < g by omega)))
      replace hc := hid hc
      go_enter Try.func75, Try.ntmps75
      go_wp2_with fail
      go_at_call 38; refine (DC.out).mono ?_; rintro e w1 ⟨rfl, rfl⟩
      go_wp2_with fail
      go_ret2
      exact ⟨_, _, _, [], _, rfl, Ms.nil _, hR.out, Below.refl _ _, OwnM.nil _ _⟩
    obtain ⟨g', rfl⟩ := Int.eq_ofNat_of_zero_le (a := g) (by omega)
    by_cases hz : (d' : Int) * 400 < (n : Int)
    · have hR := hid (Stp.lay_3 (b := b) (g := (g' : Int)) hc (by omega) (by omega))
      replace hc := hid hc
      go_enter Try.func75, Try.ntmps75
      go_wp2_with fail
      go_at_call 38; refine (DC.out).mono ?_; rintro e w1 ⟨rfl, rfl⟩
      go_wp2_with fail
      go_ret2
      exact ⟨_, _, _, [], _, rfl, Ms.nil _, hR.out, Below.refl _ _, OwnM.nil _ _⟩
    exact sLay_ok a n cap b g' d' s' w hb (by omega) (by omega) (by omega) (by omega) (by omega)
  · have u0 : (Mat.wrongC d s != 0) = true := bne_iff_ne.2 hc
    have DC := hid (cWrong_call d s w)
    have hR := hid (Stp.lay_1 (b := b) (g := g) hc)
    generalize Mat.wrongC d s = E at *
    replace hc := hid hc
    go_enter Try.func75, Try.ntmps75
    go_wp2_with fail
    go_at_call 38; refine (DC.out).mono ?_; rintro e w1 ⟨rfl, rfl⟩
    go_wp2_with fail
    go_ret2
    exact ⟨_, _, _, [], _, rfl, Ms.nil _, hR.out, Below.refl _ _, OwnM.nil _ _⟩
end Go.Proofs.Ythhcdfjijagalaa
