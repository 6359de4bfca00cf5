/- Joined, and what is not used struck: SpG, SoE, SpH. -/
import Derived.Test.YthhcdfjijagalaaM38
import Derived.Test.YthhcdfjijagalaaM11
import Derived.Test.YthhcdfjijagalaaM36
namespace Go.Proofs.Ythhcdfjijagalaa
open Go.RowKit Go.Maps
set_option linter.unusedVariables false
set_option linter.unusedSimpArgs false
set_option maxRecDepth 100000
def doVal (d : Sto.Do) (ea : Option Addr) (en ec : Nat) : Value := .agg #[.int .i64 d.kind, .int .i64 d.n, .int .i64 d.seg, .int .i64 d.t, .int .u8 (d.y.toNat : Int), .int .i64 d.b.c, .slice ea en ec, .string d.stream, .int .i64 d.ver]
def doObj (d : Sto.Do) (ea : Option Addr) (en ec : Nat) : Obj := .cells #[.int .i64 d.kind, .int .i64 d.n, .int .i64 d.seg, .int .i64 d.t, .int .u8 (d.y.toNat : Int), .int .i64 d.b.c, .slice ea en ec, .string d.stream, .int .i64 d.ver] 29
set_option maxHeartbeats 4000000 in
theorem answers8_call (d : Sto.Do) (ea : Option Addr) (en ec : Nat) (x : Am) (a : Option Addr) (n cap : Nat) (all : List Evt.Ev) (w : World) (hx : Es w x.ea x.evs.length x.ec x.evs) (hv : As w x.aa x.accs.length x.ac x.accs) (hE : Es w a n cap all) (hn : n ≤ 100000) (hs : d.stream.size ≤ maxLen) (h : Sto.Answers d x.an all) :
    Calls Try.prog 23 #[doVal d ea en ec, ansVal x.err x.n (.slice x.ea x.evs.length x.ec) x.u (.slice x.aa x.accs.length x.ac), .slice a n cap] w (Grew (.bool true) w) := by
  have HN := hid hE.n
  have HX := hid hx
  have HV := hid hv
  have HE := hid hE
  have HB := hid (((Below.refl w.heap.size w).alloc (Nat.le_refl _) (doObj d ea en ec)).alloc (by simp) (.cells #[.int .i64 x.err, .int .i64 x.n, .slice x.ea x.evs.length x.ec, .int .i64 x.u, .slice x.aa x.accs.length x.ac] 50))
  have B0 := blk_old (o' := .cells #[.int .i64 x.err, .int .i64 x.n, .slice x.ea x.evs.length x.ec, .int .i64 x.u, .slice x.aa x.accs.length x.ac] 50) (blk_new w (doObj d ea en ec))
  have B1 := blk_new (w.alloc (doObj d ea en ec)) (.cells #[.int .i64 x.err, .int .i64 x.n, .slice x.ea x.evs.length x.ec, .int .i64 x.u, .slice x.aa x.accs.length x.ac] 50)
  rw [World.size_alloc] at B1
  have HA := hid (show Sto.Answers d x.an all ↔ if d.kind = 3 then (if d.n < 0 ∨ (all.length : Int) < d.n then x.err = 3 else x.err = 0 ∧ x.n = all.length ∧ x.evs = all.drop d.n.toNat)
    else if d.kind = 2 then (if Evt.named (Evt.lst d.stream) = false then x.err = 7 else x.err = 0 ∧ x.n = (all.filter fun z => decide (z.s = d.stream)).length ∧ x.evs = all.filter fun z => decide (z.s = d.stream))
    else if d.kind = 4 then (Vw.fold Vw.none' all).err = 0 ∧ x.err = 0 ∧ x.n = all.length ∧ (⟨x.u, x.accs⟩ : Vw.Vi) = (Vw.fold Vw.none' all).v
    else True from Iff.rfl)
  have HH := hid (HA.out.1 h)
  clear h HA hx hv hE
  unfold doVal ansVal
  unfold doObj at HB B0 B1
  obtain ⟨V, hV⟩ : ∃ V, V = (w.alloc (.cells #[.int .i64 d.kind, .int .i64 d.n, .int .i64 d.seg, .int .i64 d.t, .int .u8 (d.y.toNat : Int), .int .i64 d.b.c, .slice ea en ec, .string d.stream, .int .i64 d.ver] 29)).alloc (.cells #[.int .i64 x.err, .int .i64 x.n, .slice x.ea x.evs.length x.ec, .int .i64 x.u, .slice x.aa x.accs.length x.ac] 50) := ⟨_, rfl⟩
  rw [← hV] at HB B0 B1
  have hsz := hid (show V.heap.size = w.heap.size + 2 by rw [hV]; simp)
  have HVV := hid hV
  have k0 : V.cell? ⟨w.heap.size, 0, none⟩ = some (.int .i64 d.kind) := blk_cell B0
  have k1 : V.cell? ⟨w.heap.size, 1, none⟩ = some (.int .i64 d.n) := blk_cell B0
  have k6 : V.cell? ⟨w.heap.size, 7, none⟩ = some (.string d.stream) := blk_cell B0
  have z0 : V.cell? ⟨w.heap.size + 1, 0, none⟩ = some (.int .i64 x.err) := blk_cell B1
  have z1 : V.cell? ⟨w.heap.size + 1, 1, none⟩ = some (.int .i64 x.n) := blk_cell B1
  have z2 : V.cell? ⟨w.heap.size + 1, 2, none⟩ = some (.slice x.ea x.evs.length x.ec) := blk_cell B1
  have z3 : V.cell? ⟨w.heap.size + 1, 3, none⟩ = some (.int .i64 x.u) := blk_cell B1
  have z4 : V.cell? ⟨w.heap.size + 1, 4, none⟩ = some (.slice x.aa x.accs.length x.ac) := blk_cell B1
  clear hV
  by_cases h3 : d.kind = 3
  · have t3 : (d.kind == 3) = true := by simp [h3]
    replace HH := hid (by have h := HH.out; rw [if_pos h3] at h; exact h)
    replace h3 := hid h3
    by_cases hr : d.n < 0 ∨ (all.length : Int) < d.n
    · have hxe : x.err = 3 := by have h := HH.out; rw [if_pos hr] at h; exact h
      have t4 : (x.err == 3) = true := by simp [hxe]
      replace hxe := hid hxe
      by_cases h0 : d.n < 0
      · have t5 : decide (d.n < 0) = true := decide_eq_true h0
        replace h0 := hid h0
        replace hr := hid hr
        go_enter Try.func23, Try.ntmps23
        go_upto_region 1 with (fail)
        rw [← HVV.out]
        go_wp2_with fail
        go_ret
        exact ⟨rfl, HB.out⟩
      · have h1 : (all.length : Int) < d.n := by omega
        rw [HN.out] at h1
        have h0' : 0 ≤ d.n := by omega
        replace hr := hid hr
        go_enter Try.func23, Try.ntmps23
        go_upto_region 1 with (fail)
        rw [← HVV.out]
        go_wp2_with fail
        go_ret
        exact ⟨rfl, HB.out⟩
    · obtain ⟨q, hq⟩ := Int.eq_ofNat_of_zero_le (a := d.n) (by omega)
      have hqn : q ≤ n := by rw [← HN.out]; omega
      have hxx : x.err = 0 ∧ x.n = all.length ∧ x.evs = all.drop d.n.toNat := by have h := HH.out; rw [if_neg hr] at h; exact h
      obtain ⟨e1, e2, e3⟩ := hxx
      rw [hq, Int.toNat_natCast] at e3
      rw [hq] at k1
      rw [e1] at z0
      rw [e2, HN.out] at z1
      have hlen : x.evs.length = n - q := by rw [e3, List.length_drop, HN.out]
      rw [hlen] at z2
      have hD := fun (W : World) (hW : Es W a n cap all) => Es.dropE hW.sl hqn
      have DS := hid (fun j => rSameEvents_same x.ea (if cap = q then a else a.map (·.add (q * 3))) (n - q) x.ec (n - q) (cap - q) x.evs (V.drewN j) (by have := (HX.out.below HB.out).drewN j; rwa [hlen] at this) ⟨by rw [e3]; exact hD _ ((HE.out.below HB.out).drewN j), fun e he => by rw [e3] at he; exact HE.out.ok e (List.mem_of_mem_drop he)⟩)
      have hsl := slice_dropE a n cap q hqn
      have i0 : ¬ (q : Int) < 0 := by omega
      have i1 : ¬ (n : Int) < (q : Int) := by omega
      replace hr := hid hr
      clear hlen e1 e2 e3 hq hD
      generalize (if cap = q then a else a.map (·.add (q * 3))) = a2 at *
      go_enter Try.func23, Try.ntmps23
      go_upto_region 1 with (fail)
      rw [← HVV.out]
      go_wp2_with fail
      go_quiet ((go_at_call 20; exact Calls.quiet_of (DS.out _)))
      go_wp2_with fail
      go_ret
      exact ⟨rfl, below_drewN HB.out _⟩
  · have t3 : (d.kind == 3) = false := beq_eq_false_iff_ne.2 h3
    replace HH := hid (by have h := HH.out; rw [if_neg h3] at h; exact h)
    replace h3 := hid h3
    by_cases h2 : d.kind = 2
    · have t2 : (d.kind == 2) = true := by simp [h2]
      replace HH := hid (by have h := HH.out; rw [if_pos h2] at h; exact h)
      replace h2 := hid h2
      have DN := hid (fun W => rNamed_call d.stream hs W)
      cases hnm : Evt.named (Evt.lst d.stream) with
      | false =>
        have hxe : x.err = 7 := by have h := HH.out; rw [if_pos hnm] at h; exact h
        have t4 : (x.err == 7) = true := by simp [hxe]
        rw [hnm] at DN
        replace hxe := hid hxe
        replace hnm := hid hnm
        go_enter Try.func23, Try.ntmps23
        go_upto_region 1 with (fail)
        rw [← HVV.out]
        go_wp2_with fail
        go_at_call 34; refine (DN.out _).mono ?_; rintro e w1 ⟨rfl, b1⟩
        have z0 : w1.cell? ⟨w.heap.size + 1, 0, none⟩ = some (.int .i64 x.err) := blk_cell (blk_below B1 b1)
        go_wp2_with fail
        go_ret
        exact ⟨rfl, bnext HB.out b1⟩
      | true =>
        obtain ⟨e1, e2, e3⟩ : x.err = 0 ∧ x.n = (all.filter fun z => decide (z.s = d.stream)).length ∧ x.evs = all.filter fun z => decide (z.s = d.stream) := by have h := HH.out; rw [if_neg (by rw [hnm]; decide)] at h; exact h
        rw [hnm] at DN
        replace hnm := hid hnm
        replace e1 := hid e1
        replace e2 := hid e2
        replace e3 := hid e3
        go_enter Try.func23, Try.ntmps23
        go_upto_region 1 with (fail)
        rw [← HVV.out]
        go_wp2_with fail
        go_at_call 34; refine (DN.out _).mono ?_; rintro e w1 ⟨rfl, b1⟩
        have B2 := hid (blk_below B1 b1)
        have B3 := hid (blk_below B0 b1)
        have bA := bnext HB.out b1
        clear b1 k0 k1 k6 z0 z1 z2 z3 z4
        obtain ⟨F, hF⟩ : ∃ F : List Evt.Ev → List Evt.Ev, F = fun l => l.filter fun z => decide (z.s = d.stream) := ⟨_, rfl⟩
        have HF0 := hid (show F [] = [] by rw [hF]; rfl)
        have HFS := hid (fun (k : Nat) (hk : k < all.length) => (show F (all.take (k + 1)) = if all[k].s = d.stream then F (all.take k) ++ [all[k]] else F (all.take k) by
          rw [hF, List.take_add_one, List.getElem?_eq_getElem hk]
          show List.filter _ (all.take k ++ [all[k]]) = _
          rw [List.filter_append, List.filter_cons]
          by_cases e : all[k].s = d.stream
          · simp [e]
          · simp [e]))
        have HFL := hid (fun (k : Nat) => (show (F (all.take k)).length ≤ n by rw [hF, ← HN.out]; exact Nat.le_trans (List.length_filter_le _ _) (by rw [List.length_take]; omega)))
        have HFO := hid (show ∀ e ∈ F all, e.s.size ≤ maxLen from fun e he => by rw [hF] at he; exact HE.out.ok e (List.mem_filter.1 he).1)
        have HFA := hid (show x.evs = F all by rw [hF]; exact e3.out)
        have HFN := hid (show x.n = ((F all).length : Int) by rw [hF]; exact e2.out)
        clear hF
        have HEW := hid (fun (W : World) (hW : Below w.heap.size w W) => HE.out.below hW)
        go_wp2_with fail
        go_loopg [7, 59] n (fun g s7 s59 wr => ∃ k : Nat, g = n - k ∧ k ≤ n ∧ s59 = .int .i64 (k : Int) ∧ OT w1 wr none w1.heap.size 32 3 s7 (F (all.take k)).length (evCells (F (all.take k))))
        case atStart => exact ⟨0, rfl, by omega, rfl, by rw [List.take_zero, HF0.out]; exact OT.fresh (World.ownsRow_nil _ _ _ _) (Below.refl _ _) (Nat.le_refl _)⟩
        case round =>
          obtain ⟨k, rfl, hk, rfl, hO⟩ := hrel
          obtain ⟨wo, rfl⟩ : ∃ wo : World, wo = wr := ⟨_, rfl⟩
          have hbo := hO.belowOf (b := w1.heap.size) (Nat.le_refl _) (fun k e => by cases e)
          have bW := bnext bA hbo
          have k6 : wo.cell? ⟨w.heap.size, 7, none⟩ = some (.string d.stream) := blk_cell (blk_below B3.out hbo)
          have hszo := hbo.size
          by_cases hlt : k < n
          · have hkl : k < all.length := by rw [HN.out]; exact hlt
            obtain ⟨b, off, rfl, -⟩ := HE.out.sl.addr (by omega)
            obtain ⟨q0, q1, q2⟩ := (HEW.out _ bW).at k hkl
            have hstep := HFS.out k hkl
            have hl := HFL.out k
            have i0 : (0 : Int) ≤ (k : Int) := by omega
            have i1 : (k : Int) < (n : Int) := by omega
            generalize all[k] = ev at *
            have O1 := hid (hO.alloc (.cells #[.string ev.s, .int .i64 ev.k, .int .i64 ev.n] 32))
            have k6' : (wo.alloc (.cells #[.string ev.s, .int .i64 ev.k, .int .i64 ev.n] 32)).cell? ⟨w.heap.size, 7, none⟩ = some (.string d.stream) := (cell_old (World.block_lt_of_cell? _ _ k6)).trans k6
            by_cases he : ev.s = d.stream
            · have t5 : (ev.s.toList == d.stream.toList) = true := by rw [str_list]; simp [he]
              rw [if_pos he] at hstep
              replace he := hid he
              have SS := Src.ofLit (P := Try.prog) (tx := 25) (wo.alloc (.cells #[.string ev.s, .int .i64 ev.k, .int .i64 ev.n] 32)) #[.string ev.s, .int .i64 ev.k, .int .i64 ev.n] 32 1 3 Try.underlying25 rfl (by simp [Value.oneCell'])
              rw [World.size_alloc] at SS
              replace SS := hid SS
              have OT1 := hid (O1.out.alloc (.cells #[.string ev.s, .int .i64 ev.k, .int .i64 ev.n] 32))
              replace hstep := hid hstep
              clear hO
              go_wp2_with (at_builtin; refine wpList_append_t rfl (.tmp 68) (.tmp 70) 25 25 rfl w1.heap.size 32 3 32 (.agg #[.string ⟨#[]⟩, .int .i64 0, .int .i64 0]) Try.underlying25 info_ev rfl (by decide) _ (F (all.take k)).length (evCells (F (all.take k))) rfl OT1.out _ 1 _ rfl SS.out (by unfold maxLen; omega) (by omega) (by simp; omega) ?_; intro v5 w5 o5 g5)
              go_roundg (n - (k + 1))
              case measure => omega
              case rel =>
                refine ⟨k + 1, rfl, by omega, by go_num, ?_⟩
                rw [hstep.out, List.length_append, evCells_append]
                exact o5
            · have t5 : (ev.s.toList == d.stream.toList) = false := by rw [str_list, decide_eq_false he]
              rw [if_neg he] at hstep
              replace he := hid he
              replace hstep := hid hstep
              clear hO
              go_wp2_with fail
              go_roundg (n - (k + 1))
              case measure => omega
              case rel => exact ⟨k + 1, rfl, by omega, by go_num, by rw [hstep.out]; exact O1.out⟩
          · obtain rfl : k = n := by omega
            have ee1 : all.take k = all := List.take_of_length_le (by rw [HN.out]; exact Nat.le_refl _)
            rw [ee1] at hO
            obtain ⟨a', c', rfl, hs'⟩ := own_sl hO.own
            have hEo : Es wo a' (F all).length c' (F all) := ⟨hs', HFO.out⟩
            have B4 := blk_below B2.out hbo
            have z0 : wo.cell? ⟨w.heap.size + 1, 0, none⟩ = some (.int .i64 0) := by rw [← e1.out]; exact blk_cell B4
            have z1 : wo.cell? ⟨w.heap.size + 1, 1, none⟩ = some (.int .i64 ((F all).length : Int)) := by rw [← HFN.out]; exact blk_cell B4
            have z2 : wo.cell? ⟨w.heap.size + 1, 2, none⟩ = some (.slice x.ea (F all).length x.ec) := by rw [← HFA.out]; exact blk_cell B4
            have DS := hid (rSameEvents_same x.ea a' (F all).length x.ec (F all).length c' (F all) wo (by have h := HX.out.below bW; rw [HFA.out] at h; exact h) hEo)
            clear hO hs' hEo
            go_wp2_with fail
            go_at_call 20; refine DS.out.mono ?_; rintro e w6 ⟨rfl, q, rfl⟩
            go_wp2_with fail
            go_ret
            exact ⟨rfl, below_drewN bW q⟩
    · have t2 : (d.kind == 2) = false := beq_eq_false_iff_ne.2 h2
      replace HH := hid (by have h := HH.out; rw [if_neg h2] at h; exact h)
      replace h2 := hid h2
      by_cases h4 : d.kind = 4
      · have t4 : (d.kind == 4) = true := by simp [h4]
        obtain ⟨f1, e1, e2, e3⟩ : (Vw.fold Vw.none' all).err = 0 ∧ x.err = 0 ∧ x.n = all.length ∧ (⟨x.u, x.accs⟩ : Vw.Vi) = (Vw.fold Vw.none' all).v := by have h := HH.out; rw [if_pos h4] at h; exact h
        replace h4 := hid h4
        have DF := hid (vFold_call 0 none 0 0 [] a n cap all V (As.nil V) (HE.out.below HB.out))
        have e3u : (Vw.fold Vw.none' all).v.upto = x.u := by rw [← e3]
        have e3a : (Vw.fold Vw.none' all).v.accs = x.accs := by rw [← e3]
        have hne : (⟨0, []⟩ : Vw.Vi) = Vw.none' := rfl
        rw [hne] at DF
        rw [HN.out] at e2
        replace f1 := hid f1
        replace e1 := hid e1
        replace e2 := hid e2
        replace e3u := hid e3u
        replace e3a := hid e3a
        clear e3 hne
        go_enter Try.func23, Try.ntmps23
        go_upto_region 1 with (fail)
        rw [← HVV.out]
        clear k0 k1 k6 z0 z1 z2 z3 z4
        have k0 : V.cell? ⟨w.heap.size, 0, none⟩ = some (.int .i64 d.kind) := blk_cell B0
        go_wp2_with fail
        go_at_call 27; refine DF.out.mono ?_; rintro e w1 ⟨va, vn, vc, rfl, hvA, b1⟩
        rw [e3u.out, e3a.out] at *
        have B2 := hid (blk_below B1 b1)
        have bA := bnext HB.out b1
        have f2 := f1.out
        generalize (Vw.fold Vw.none' all).err = E at *
        generalize (Vw.fold Vw.none' all).at_ = At at *
        have g0 : w1.cell? ⟨w.heap.size + 1, 0, none⟩ = some (.int .i64 0) := by rw [← e1.out]; exact blk_cell B2.out
        have g1 : w1.cell? ⟨w.heap.size + 1, 1, none⟩ = some (.int .i64 (n : Int)) := by rw [← e2.out]; exact blk_cell B2.out
        have g3 : w1.cell? ⟨w.heap.size + 1, 3, none⟩ = some (.int .i64 x.u) := blk_cell B2.out
        have g4 : w1.cell? ⟨w.heap.size + 1, 4, none⟩ = some (.slice x.aa x.accs.length x.ac) := blk_cell B2.out
        have y0 : ∀ o1 o2 : Obj, ((w1.alloc o1).alloc o2).cell? ⟨w.heap.size + 1, 0, none⟩ = some (.int .i64 0) := fun o1 o2 => calloc (calloc g0)
        have y1 : ∀ o1 o2 : Obj, ((w1.alloc o1).alloc o2).cell? ⟨w.heap.size + 1, 1, none⟩ = some (.int .i64 (n : Int)) := fun o1 o2 => calloc (calloc g1)
        have y3 : ∀ o1 o2 : Obj, ((w1.alloc o1).alloc o2).cell? ⟨w.heap.size + 1, 3, none⟩ = some (.int .i64 x.u) := fun o1 o2 => calloc (calloc g3)
        have y4 : ∀ o1 o2 : Obj, ((w1.alloc o1).alloc o2).cell? ⟨w.heap.size + 1, 4, none⟩ = some (.slice x.aa x.accs.length x.ac) := fun o1 o2 => calloc (calloc g4)
        subst f2
        have bC := (bA.alloc bA.size (.cells #[.int .i64 x.u, .slice va vn vc] 42)).alloc (by have := bA.size; simp; omega) (.cells #[.int .i64 0, .int .i64 At] 69)
        have DS := hid (rSameView_same x.u x.aa va x.accs.length x.ac vn vc x.accs ((w1.alloc (.cells #[.int .i64 x.u, .slice va vn vc] 42)).alloc (.cells #[.int .i64 0, .int .i64 At] 69)) (HV.out.below bC) (((hvA.below ((Below.refl _ _).alloc (Nat.le_refl _) _))).below ((Below.refl _ _).alloc (Nat.le_refl _) _)))
        have hBC := hid bC
        clear g0 g1 g3 g4 k0 bC b1 DF
        unfold viVal
        go_wp2_with fail
        go_at_call 28; refine DS.out.mono ?_; rintro e w2 ⟨rfl, b2⟩
        go_wp2_with fail
        go_ret
        exact ⟨rfl, bnext hBC.out b2⟩
      · have t4 : (d.kind == 4) = false := beq_eq_false_iff_ne.2 h4
        replace h4 := hid h4
        go_enter Try.func23, Try.ntmps23
        go_upto_region 1 with (fail)
        rw [← HVV.out]
        go_wp2_with fail
        go_ret
        exact ⟨rfl, HB.out⟩
end Go.Proofs.Ythhcdfjijagalaa
namespace Go.Proofs.Ythhcdfjijagalaa.Evt
set_option linter.unusedVariables false
theorem fb_all (l : List Ba) (h : ∀ b ∈ l, (wrongBa b).1 = 0) : ∀ i, (fb l i).1 = 0 := by
  induction l with
  | nil => intro i; rfl
  | cons b r ih =>
    intro i
    unfold fb
    rw [if_neg (by rw [h b (by simp)]; exact fun e => e rfl)]
    exact ih (fun x hx => h x (by simp [hx])) _
theorem evBytes_le {e : Ev} (h : wrongEv e = 0) : (evBytes e).length ≤ 15 := by
  have := (named_len (wrongEv_zero h).1).2
  unfold evBytes
  simp only [List.length_cons, List.length_append, three_length]
  omega
theorem baBytes_le {b : Ba} (h : (wrongBa b).1 = 0) (h2 : b.evs.length ≤ 2) : (baBytes b).length ≤ 34 := by
  have hw := (wrongBa_zero h).2.2.2.2
  have : ∀ l : List Ev, (∀ e ∈ l, wrongEv e = 0) → (l.flatMap evBytes).length ≤ 15 * l.length := by
    intro l hl
    induction l with
    | nil => simp
    | cons e r ih =>
      have h1 := evBytes_le (hl e (by simp))
      have h2 := ih (fun x hx => hl x (by simp [hx]))
      rw [List.flatMap_cons, List.length_append, List.length_cons]; omega
  have := this b.evs hw
  unfold baBytes
  rw [List.length_append, List.length_cons, three_length]
  omega
theorem bytes_le {l : List Ba} (h : ∀ b ∈ l, (wrongBa b).1 = 0 ∧ b.evs.length ≤ 2) : (bytes l).length ≤ 1 + 34 * l.length := by
  have : (l.flatMap baBytes).length ≤ 34 * l.length := by
    induction l with
    | nil => simp
    | cons e r ih =>
      have h1 := baBytes_le (h e (by simp)).1 (h e (by simp)).2
      have h2 := ih (fun x hx => h x (by simp [hx]))
      rw [List.flatMap_cons, List.length_append, List.length_cons]; omega
  unfold bytes
  rw [List.length_cons]; omega
end Go.Proofs.Ythhcdfjijagalaa.Evt
namespace Go.Proofs.Ythhcdfjijagalaa.Sto
set_option linter.unusedVariables false
theorem layF_ok {b : List UInt8} {g d s : Int} (h1 : Mat.wrongC d s = 0) (h2 : 0 ≤ g ∧ g ≤ 39) (h3 : (b.length : Int) ≤ 400 * d) : (Stp.layF b g d s).2 = 0 := by
  have h := Stp.layF_spec b g d s
  unfold Stp.LayR at h
  rw [if_neg (fun e => e h1), if_neg (by omega), if_neg (by omega)] at h
  obtain ⟨S, _, _, h⟩ := h
  exact h
theorem Ok.code {s : St} {K : Nat} (h : Ok s K) : Mat.wrongC s.data s.spare = 0 := by
  have := h.d; have := h.sp
  unfold Mat.wrongC
  rw [if_neg (by omega)]
theorem J.tail {s : St} {X : List Evt.Ba} {had : List (Int × Int)} {H : Nat → Prop} {K : Nat} (h : J s X had H K) : ∀ b ∈ s.tail, b ∈ X := fun b hb => by
  obtain ⟨G, L, _, ht⟩ := h.core
  rw [← ht]
  exact List.mem_append_right _ hb
theorem put_good {s : St} {X : List Evt.Ba} {had : List (Int × Int)} {H : Nat → Prop} {K : Nat} (h : J s X had H K) {d : Do} (hk : d.kind = 1) (hw : (Evt.wrongBa d.b).1 = 0) (hc : ∀ b ∈ X, b.c ≠ d.b.c) (hv : d.ver < 0) (hf : (Vw.fold s.snap d.b.evs).err = 0)
    (h2 : d.b.evs.length ≤ 2) (ht : ∀ b ∈ X, b.evs.length ≤ 2) (hs : s.segs ≤ 39) : (step s d).2.err = 0 ∧ newB s d = [d.b] := by
  have hns : ¬ d.b.c ∈ s.seen := fun hm => by
    obtain ⟨b, hb, e⟩ := (h.inv.seen _).1 hm
    exact hc b hb e
  have hall : ∀ b ∈ s.tail ++ [d.b], (Evt.wrongBa b).1 = 0 ∧ b.evs.length ≤ 2 := fun b hb => by
    rcases List.mem_append.1 hb with hb | hb
    · exact ⟨h.ok.te b hb, ht b (h.tail b hb)⟩
    · obtain rfl := List.mem_singleton.1 hb
      exact ⟨hw, h2⟩
  have htl := h.ok.t
  have hb10 := h.ok.b
  have hlen : (s.tail ++ [d.b]).length ≤ 10 := by rw [List.length_append]; simp only [List.length_cons, List.length_nil]; omega
  have hby : Evt.bytesR (s.tail ++ [d.b]) = ⟨Evt.bytes (s.tail ++ [d.b]), 0, 0⟩ := by
    unfold Evt.bytesR
    rw [if_neg (by omega), if_neg (by rw [Evt.fb_all _ (fun b hb => (hall b hb).1)]; exact fun e => e rfl)]
  have hbl := Evt.bytes_le hall
  have hd := h.ok.d
  have hlay : (Stp.layF (Evt.bytes (s.tail ++ [d.b])) (s.segs : Int) s.data s.spare).2 = 0 := layF_ok h.ok.code (by omega) (by omega)
  have hseal : (sealS { s with tail := s.tail ++ [d.b] }).2 = 0 := by
    unfold sealS
    rw [if_neg (show ¬ (Evt.bytesR (s.tail ++ [d.b])).err ≠ 0 by rw [hby]; exact fun e => e rfl), if_neg (show ¬ (Stp.layF (Evt.bytesR (s.tail ++ [d.b])).l (s.segs : Int) s.data s.spare).2 ≠ 0 by rw [hby]; exact fun e => e hlay)]
  have he : (put s d).2.err = 0 := by
    unfold put
    rw [if_neg (by rw [hw]; exact fun e => e rfl), if_neg hns, if_neg (by omega), if_neg (by rw [hf]; exact fun e => e rfl)]
    split
    · rw [if_neg (by rw [hseal]; exact fun e => e rfl)]; rfl
    · rfl
  refine ⟨by rw [step_put hk]; exact he, ?_⟩
  unfold newB
  rw [step_put hk, if_pos ⟨hk, he, hns⟩]
/-- how many batches there are -/
def Cnt (s : St) (X : List Evt.Ba) : Prop := (s.segs : Int) * s.batches + (s.tail.length : Int) = (X.length : Int)
theorem Cnt.start (d p b : Int) : Cnt (start d p b) [] := by
  show ((0 : Nat) : Int) * b + ((0 : Nat) : Int) = ((0 : Nat) : Int)
  simp
theorem step_batches (s : St) (d : Do) : (step s d).1.batches = s.batches ∧ (step s d).1.data = s.data := by
  by_cases h1 : d.kind = 1
  · rw [step_put h1]
    rcases put_cases s d with ⟨e1, _⟩ | ⟨_, _, e, _, e', _⟩
    · rw [e1]; exact ⟨rfl, rfl⟩
    · exact ⟨e', e⟩
  · by_cases h5 : d.kind = 5 ∨ d.kind = 6 ∨ d.kind = 7
    · rw [step_harm h5]
      rcases harm_cases s d with ⟨e1, _⟩ | ⟨_, _, _, ⟨_, e1⟩ | ⟨_, _, e1⟩ | ⟨_, _, _, _, _, _, e1⟩⟩ <;> rw [e1] <;> exact ⟨rfl, rfl⟩
    · by_cases h8 : d.kind = 8
      · rw [step_scrub h8]; exact ⟨rfl, rfl⟩
      · rw [step_other h1 h5 h8]; exact ⟨rfl, rfl⟩
theorem Cnt.step {s : St} {X : List Evt.Ba} (h : Cnt s X) (d : Do) : Cnt (step s d).1 (X ++ newB s d) := by
  unfold Cnt at *
  by_cases h1 : d.kind = 1
  · unfold newB
    rw [step_put h1]
    rcases put_cases s d with ⟨e1, e2⟩ | ⟨e1, e2, _, _, e5, e6⟩
    · rw [if_neg (by rintro ⟨_, h3, h4⟩; rcases e2 with h2 | h2; exact h2 h3; exact h4 h2), List.append_nil, e1]; exact h
    · rw [if_pos ⟨h1, e1, e2⟩, e5, List.length_append]
      rcases e6 with ⟨_, f2, f3, _⟩ | ⟨L', _, _, _, f2, f3, f4⟩
      · rw [f2, f3, List.length_append]
        simp only [List.length_cons, List.length_nil]
        omega
      · rw [f2, f3]
        simp only [List.length_cons, List.length_nil]
        have : ((s.segs + 1 : Nat) : Int) * s.batches = (s.segs : Int) * s.batches + s.batches := by
          rw [Int.natCast_add, Int.add_mul]; simp
        rw [this]
        omega
  · rw [newB_no h1, List.append_nil]
    by_cases h5 : d.kind = 5 ∨ d.kind = 6 ∨ d.kind = 7
    · rw [step_harm h5, (harm_rest s d).1, (harm_rest s d).2, ← step_harm h5, (step_batches s d).1]; exact h
    · by_cases h8 : d.kind = 8
      · rw [step_scrub h8]; exact h
      · rw [step_other h1 h5 h8]; exact h
theorem read_all {s : St} {X : List Evt.Ba} (ha : all s = (X, 0)) {d : Do} (h3 : d.kind = 3) (hn : d.n = 0) : (step s d).2 = ⟨0, (events X).length, events X, Vw.none'⟩ := by
  have : (step s d).2 = read s d := by unfold step; rw [if_neg (by omega), if_pos (.inr h3)]
  rw [this, read_of ha, if_pos h3, hn, if_neg (by omega)]
  rfl
/-- one event comes -/
theorem fold_one {v : Vw.Vi} {e : Evt.Ev} (hg : Vw.Good v) (h1 : Evt.wrongEv e = 0) (h2 : v.upto ≠ 150) (h3 : Vw.may (Vw.get v.accs e.s) e = true) :
    (Vw.fold v [e]).err = 0 ∧ (Vw.fold v [e]).v = ⟨v.upto + 1, Vw.ins (Vw.plus (Vw.get v.accs e.s) e) v.accs⟩ ∧ Vw.Good (Vw.fold v [e]).v := by
  have ha := Vw.apply_of hg h1 h2 h3
  have he : (Vw.fold v [e]).err = 0 := by
    rw [Vw.fold_of hg, Vw.fo_cons, ha]
    rfl
  have hv : (Vw.fold v [e]).v = ⟨v.upto + 1, Vw.ins (Vw.plus (Vw.get v.accs e.s) e) v.accs⟩ := by
    rw [Vw.fold_of hg, Vw.fo_cons, ha]
    rfl
  refine ⟨he, hv, ?_⟩
  rw [Vw.fold_of hg] at he ⊢
  exact (Vw.fo_good _ _ 0 hg he).1
def doPut (c : Int) (l : List Evt.Ev) : Do := ⟨1, 0, 0, 0, 0, ⟨c, l⟩, ⟨#[]⟩, -1⟩
def doOf (k n : Int) : Do := ⟨k, n, 0, 0, 0, ⟨0, []⟩, ⟨#[]⟩, 0⟩
def sa : ByteArray := ⟨#[97]⟩
def sb : ByteArray := ⟨#[98]⟩
theorem open_right (s : ByteArray) (h : s = sa ∨ s = sb) : Evt.wrongEv ⟨s, 1, 0⟩ = 0 := by
  rcases h with rfl | rfl <;> decide
theorem ba_right {c : Int} {l : List Evt.Ev} (h1 : 1 ≤ c) (h2 : c ≤ 1000000) (h3 : 1 ≤ l.length) (h4 : l.length ≤ 10) (h : ∀ e ∈ l, Evt.wrongEv e = 0) : (Evt.wrongBa ⟨c, l⟩).1 = 0 := by
  unfold Evt.wrongBa
  rw [if_neg (by show ¬ (c < 1 ∨ 1000000 < c); omega), if_neg (by show ¬ (l.length < 1 ∨ 10 < l.length); omega)]
  have : ∀ (l : List Evt.Ev), (∀ e ∈ l, Evt.wrongEv e = 0) → ∀ i, (Evt.fw l i).1 = 0 := by
    intro l hl
    induction l with
    | nil => intro i; rfl
    | cons e r ih =>
      intro i
      unfold Evt.fw
      rw [if_neg (by rw [hl e (by simp)]; exact fun e => e rfl)]
      exact ih (fun x hx => hl x (by simp [hx])) _
  exact this l h 0
theorem few_one : Few (fun i => (i : Int) = 0) 1 := fun U hn hs => by
  have := few_list (U := [0]) (n := 1) (by decide) U hn (fun u hu => by simp [hs u hu])
  exact this
section
variable {s : St} {X : List Evt.Ba} {had : List (Int × Int)} {H : Nat → Prop} {K : Nat}
theorem J.put (h : J s X had H K) {d : Do} (hd : d.kind = 1) : J (Sto.step s d).1 (X ++ newB s d) had H (K + 1) := by
  have := h.step d (fun e => absurd (hd.symm.trans e) (by decide))
  unfold hurtN hadN at this
  rwa [if_neg (show ¬ (d.kind = 5 ∨ d.kind = 6 ∨ d.kind = 7) by omega), if_neg (show ¬ d.kind = 8 by omega), if_neg (show ¬ (d.kind = 7 ∧ d.y ≠ 0) by omega)] at this
/-- a disk is harmed, or not -/
theorem J.harm (h : J s X had H K) {d : Do} (hd : d.kind = 5 ∨ d.kind = 6 ∨ (d.kind = 7 ∧ (d.n, d.seg) ∉ had)) : J (Sto.step s d).1 X (hadN had d) (fun i => H i ∨ (i : Int) = d.n) (K + 1) := by
  have h1 := h.step d (fun e _ => by rcases hd with hd | hd | hd; omega; omega; exact hd.2)
  rw [newB_no (by omega), List.append_nil] at h1
  refine h1.mono (fun i hi => ?_)
  unfold hurtN at hi
  rw [if_pos (by omega)] at hi
  split at hi
  · exact hi
  · exact .inl hi
end
theorem Few.mono {H H' : Nat → Prop} {n m : Int} (h : Few H n) (hh : ∀ i, H' i → H i) (hn : n ≤ m) : Few H' m := fun U hU hs => by
  have := h U hU (fun u hu => hh u (hs u hu))
  omega
/-- the closed fact of chapter 8's laws -/
theorem alive8_plain : ∃ s a1 a2 a3, play 2 1 1 [doPut 1 [⟨sa, 1, 0⟩], doOf 5 0, doOf 3 0] = (s, [a1, a2, a3], 0) ∧ s.segs = 1 ∧ a3.err = 0 ∧ a3.evs.length = 1 := by
  have hw : wrongS 2 1 1 = 0 := by decide
  have hj0 := J.start hw (fun _ => False)
  have hf : (Vw.fold (start 2 1 1).snap (doPut 1 [⟨sa, 1, 0⟩]).b.evs).err = 0 := (fold_one Vw.good_none (open_right sa (.inl rfl)) (by decide) (by decide)).1
  obtain ⟨e1, n1⟩ := put_good hj0 (d := doPut 1 [⟨sa, 1, 0⟩]) rfl (ba_right (by decide) (by decide) (by decide) (by decide) (fun e he => by obtain rfl := List.mem_singleton.1 he; exact open_right sa (.inl rfl))) (fun b hb => by cases hb) (by decide) hf (by decide) (fun b hb => by cases hb) (by decide)
  have hj1 := hj0.put (d := doPut 1 [⟨sa, 1, 0⟩]) rfl
  have hc1 := (Cnt.start 2 1 1).step (doPut 1 [⟨sa, 1, 0⟩])
  rw [n1] at hj1 hc1
  have hb1 := (step_batches (start 2 1 1) (doPut 1 [⟨sa, 1, 0⟩])).1
  have hs1 : (step (start 2 1 1) (doPut 1 [⟨sa, 1, 0⟩])).1.segs = 1 := by
    have ht := hj1.ok.t
    unfold Cnt at hc1
    rw [hb1] at hc1 ht
    have hb : (start 2 1 1).batches = 1 := rfl
    rw [hb] at hc1 ht
    have : (([] ++ [(doPut 1 [⟨sa, 1, 0⟩]).b] : List Evt.Ba).length : Int) = 1 := rfl
    rw [this] at hc1
    omega
  have hsp1 := step_spare (start 2 1 1) (doPut 1 [⟨sa, 1, 0⟩])
  have hsp0 : (start 2 1 1).spare = 1 := rfl
  have hu : play 2 1 1 [doPut 1 [⟨sa, 1, 0⟩], doOf 5 0, doOf 3 0] = _ := play_of hw (by decide)
  rw [run_cons, run_cons, run_cons] at hu
  generalize step (start 2 1 1) (doPut 1 [⟨sa, 1, 0⟩]) = r1 at *
  have hj2 := hj1.harm (d := doOf 5 0) (.inl rfl)
  have hsp2 := step_spare r1.1 (doOf 5 0)
  have hs2 : (step r1.1 (doOf 5 0)).1.segs = 1 := by rw [step_harm (.inl rfl), (harm_rest _ _).1, hs1]
  generalize step r1.1 (doOf 5 0) = r2 at *
  have ha := hj2.all_ok (few_one.mono (fun i hi => by rcases hi with h | h; exact absurd h (fun q => q); exact h) (by omega))
  have hr := read_all ha (d := doOf 3 0) rfl rfl
  have hst : (step r2.1 (doOf 3 0)).1 = r2.1 := step_other (by decide) (by decide) (by decide)
  rw [hst, hr] at hu
  exact ⟨_, _, _, _, hu, hs2, rfl, rfl⟩
end Go.Proofs.Ythhcdfjijagalaa.Sto
namespace Go.Proofs.Ythhcdfjijagalaa
open Go.RowKit Go.Maps
set_option linter.unusedVariables false
set_option linter.unusedSimpArgs false
set_option maxRecDepth 100000
/-- what is done, with its events' row -/
structure Dod where
  d : Sto.Do
  a : Option Addr
  n : Nat
  cap : Nat
def do9 (x : Dod) : List Value := [.int .i64 x.d.kind, .int .i64 x.d.n, .int .i64 x.d.seg, .int .i64 x.d.t, .int .u8 (x.d.y.toNat : Int), .int .i64 x.d.b.c, .slice x.a x.n x.cap, .string x.d.stream, .int .i64 x.d.ver]
theorem do9_len (x : Dod) : (do9 x).length = 9 := rfl
theorem dos_of {w : World} {a : Option Addr} {n cap : Nat} {X : List Dod} (h : Sl w 9 a n cap (rows do9 X)) (he : ∀ x ∈ X, Es w x.a x.n x.cap x.d.b.evs) (hs : ∀ x ∈ X, x.d.stream.size ≤ maxLen) : Dos w a n cap (X.map Dod.d) := by
  have hn : X.length = n := by have := h.len; rw [rows_length do9_len] at this; omega
  refine ⟨h.le, h.max, by rw [List.length_map]; exact hn, fun h0 => ?_⟩
  obtain ⟨b, off, e, hc⟩ := h.addr h0
  refine ⟨b, off, e, fun i hi => ?_⟩
  have hi' : i < X.length := by simpa using hi
  have g : ∀ j, j < 9 → w.cell? ⟨b, off + (i * 9 + j), none⟩ = (do9 X[i])[j]? := fun j hj => by
    have h1 := rows_get do9_len X i j hi' hj
    have hlt : j < (do9 X[i]).length := hj
    rw [List.getElem?_eq_getElem hlt] at h1 ⊢
    exact hc _ _ h1
  have hm := List.getElem_mem hi'
  rw [List.getElem_map]
  exact ⟨g 0 (by omega), g 1 (by omega), g 2 (by omega), g 3 (by omega), g 4 (by omega), g 5 (by omega), ⟨_, _, _, g 6 (by omega), he _ hm⟩, g 7 (by omega), g 8 (by omega), hs _ hm⟩
/-- the store as a value whose rows are slices -/
theorem StM.val {w : World} {base : Nat} {m : Mst} (h : StM w base m) : ∃ da dc ta tc sa sc aa ac, stVal m = .agg #[.int .i64 m.d, .int .i64 m.s, .int .i64 m.b, .slice da m.D.length dc, .int .i64 (m.g : Int), .slice ta m.T.length tc, .slice sa m.seen.length sc, .int .i64 m.u, .slice aa m.A.length ac] ∧
    m.dv = .slice da m.D.length dc ∧ m.tv = .slice ta m.T.length tc ∧ m.sv = .slice sa m.seen.length sc ∧ m.av = .slice aa m.A.length ac := by
  obtain ⟨da, dc, h1, -⟩ := own_sl h.dks
  obtain ⟨ta, tc, h2, -⟩ := own_sl h.tail
  obtain ⟨sa, sc, h3, -⟩ := own_sl h.seen
  obtain ⟨aa, ac, h4, -⟩ := own_sl h.accs
  exact ⟨da, dc, ta, tc, sa, sc, aa, ac, by unfold stVal; rw [h1, h2, h3, h4], h1, h2, h3, h4⟩
set_option maxHeartbeats 2000000 in
theorem put8_call (c : Int) (ea : Option Addr) (en ec : Nat) (evs : List Evt.Ev) (w : World) : Calls Try.prog 33 #[.int .i64 c, .slice ea en ec] w (Grew (doVal (Sto.doPut c evs) ea en ec) w) := by
  unfold doVal Sto.doPut
  simp only
  go_enter Try.func33, Try.ntmps33
  go_wp2_with fail
  have q := blk_new w (.cells #[.int .i64 1, .int .i64 0, .int .i64 0, .int .i64 0, .int .u8 0, .int .i64 c, .slice ea en ec, .string ⟨#[]⟩, .int .i64 (-1)] 29)
  have q0 := blk_cell (i := 0) q
  have q1 := blk_cell (i := 1) q
  have q2 := blk_cell (i := 2) q
  have q3 := blk_cell (i := 3) q
  have q4 := blk_cell (i := 4) q
  have q5 := blk_cell (i := 5) q
  have q6 := blk_cell (i := 6) q
  have q7 := blk_cell (i := 7) q
  have q8 := blk_cell (i := 8) q
  exact bodyPost_ret (v := .agg #[.int .i64 1, .int .i64 0, .int .i64 0, .int .i64 0, .int .u8 0, .int .i64 c, .slice ea en ec, .string ⟨#[]⟩, .int .i64 (-1)]) (by simp [results, Try.results33, go_sem, q0, q1, q2, q3, q4, q5, q6, q7, q8]) rfl ⟨rfl, (Below.refl _ _).alloc (Nat.le_refl _) _⟩
theorem own_one {w : World} {e : TypeId} {cs : Array Value} (n k : Nat) (hs : cs.size = n * k) (hm : n ≤ maxLen) : (w.alloc (.cells cs e)).ownsRow w.heap.size e k (.slice (some ⟨w.heap.size, 0, none⟩) n n) n cs.toList := World.ownsRow_lit w cs n (Nat.le_refl _) hm hs
set_option maxHeartbeats 2000000 in
theorem alive8_call (w : World) : Calls Try.prog 21 #[] w (Grew (.bool true) w) := by
  obtain ⟨s, a1, a2, a3, hP, hs1, he3, hl3⟩ := Sto.alive8_plain
  have H1 := own_sl (own_one (w := w) (e := 32) (cs := #[.string ⟨#[97]⟩, .int .i64 1, .int .i64 0]) 1 3 rfl (by decide))
  obtain ⟨ea, ec, e1, hsl⟩ := H1
  cases e1
  have HE := hid (show Es (w.alloc (.cells #[.string ⟨#[97]⟩, .int .i64 1, .int .i64 0] 32)) (some ⟨w.heap.size, 0, none⟩) 1 1 [⟨Sto.sa, 1, 0⟩] from ⟨hsl, fun e he => by obtain rfl := List.mem_singleton.1 he; decide⟩)
  have B1 := hid ((Below.refl w.heap.size w).alloc (Nat.le_refl _) (.cells #[.string ⟨#[97]⟩, .int .i64 1, .int .i64 0] 32))
  have DP := hid (put8_call 1 (some ⟨w.heap.size, 0, none⟩) 1 1 [⟨Sto.sa, 1, 0⟩] (w.alloc (.cells #[.string ⟨#[97]⟩, .int .i64 1, .int .i64 0] 32)))
  have HP := hid hP
  have HS1 := hid hs1
  have HE3 := hid he3
  have HL3 := hid hl3
  clear hP hs1 he3 hl3 hsl
  go_enter Try.func21, Try.ntmps21
  go_wp2_with fail
  go_at_call 33; refine DP.out.mono ?_; rintro e w1 ⟨rfl, b1⟩
  have bA := hid (bnext B1.out b1)
  have E1 := hid (HE.out.below b1)
  clear DP b1
  unfold doVal Sto.doPut
  simp only
  have h3 := own_sl (own_one (w := w1) (e := 29) (cs := (rows do9 [⟨Sto.doPut 1 [⟨Sto.sa, 1, 0⟩], some ⟨w.heap.size, 0, none⟩, 1, 1⟩, ⟨Sto.doOf 5 0, none, 0, 0⟩, ⟨Sto.doOf 3 0, none, 0, 0⟩]).toArray) 3 9 rfl (by decide))
  obtain ⟨da, dc, e3, hsl3⟩ := h3
  cases e3
  have DD := hid (dos_of hsl3 (fun x hx => by
    simp only [List.mem_cons, List.not_mem_nil, or_false] at hx
    rcases hx with rfl | rfl | rfl
    · exact E1.out.below ((Below.refl _ _).alloc (Nat.le_refl _) _)
    · exact ⟨Sl.none _ _, fun e he => by cases he⟩
    · exact ⟨Sl.none _ _, fun e he => by cases he⟩) (fun x hx => by
    simp only [List.mem_cons, List.not_mem_nil, or_false] at hx
    rcases hx with rfl | rfl | rfl <;> exact (by decide : (⟨#[]⟩ : ByteArray).size ≤ maxLen)))
  have DPL := hid (stPlay_call 2 1 1 _ _ _ _ _ DD.out)
  clear hsl3
  go_wp2_with fail
  go_at_call 19; refine DPL.out.mono ?_; rintro e w2 ⟨m, av, ac, L, er, rfl, hM, hA, hP2, b2⟩
  have hPP := HP.out.symm.trans hP2
  simp only [Prod.mk.injEq] at hPP
  obtain ⟨hp1, hp2, hp3⟩ := hPP
  subst hp3
  obtain ⟨x1, x2, x3, rfl⟩ : ∃ x1 x2 x3, L = [x1, x2, x3] := by
    have hl := congrArg List.length hp2
    rw [List.length_map] at hl
    rcases L with _ | ⟨x1, _ | ⟨x2, _ | ⟨x3, _ | ⟨x4, L⟩⟩⟩⟩ <;> simp at hl
    exact ⟨x1, x2, x3, rfl⟩
  simp only [List.map_cons, List.map_nil, List.cons.injEq, and_true] at hp2
  obtain ⟨-, -, hx3⟩ := hp2
  have hg : m.g = 1 := by have := HS1.out; rw [hp1] at this; exact this
  have hx3e : x3.err = 0 := by have := HE3.out; rw [hx3] at this; exact this
  have hx3l : x3.evs.length = 1 := by have := HL3.out; rw [hx3] at this; exact this
  obtain ⟨va, vc, ta, tc, sa, sc, aa, ac2, hv, -⟩ := hM.val
  obtain ⟨-, hAm⟩ := hA.amv
  obtain ⟨ab, aoff, rfl⟩ := hAm.free (show 0 < 3 by omega)
  obtain ⟨z0, -, z2, -, -⟩ := hAm.at 2 (show 2 < 3 by omega)
  have e2 : ([x1, x2, x3] : List Am)[2] = x3 := rfl
  rw [e2] at z0 z2
  rw [hx3e] at z0
  rw [hx3l] at z2
  rw [hg] at hv
  have bB := bnext (bA.out.alloc bA.out.size _) b2
  have y0 : ∀ o : Obj, (w2.alloc o).cell? ⟨ab, aoff + 2 * 5, none⟩ = some (.int .i64 0) := fun o => calloc z0
  have y2 : ∀ o : Obj, (w2.alloc o).cell? ⟨ab, aoff + 2 * 5 + 2, none⟩ = some (.slice x3.ea 1 x3.ec) := fun o => calloc z2
  simp only [Nat.reduceMul] at y0 y2
  rw [hv]
  clear hv z0 z2 hA hM hAm hP2 hp1 hx3 hx3e hx3l hg b2
  go_wp2_with fail
  go_ret
  exact ⟨rfl, bB.alloc bB.size _⟩
end Go.Proofs.Ythhcdfjijagalaa
