/- EventTells, walked: it returns true. -/
import Derived.Test.YtkngfobnfocpjaaEventL
import Derived.Test.YtkngfobnfocpjaaEventI
import Derived.Test.YtkngfobnfocpjaaEventG
namespace Go.Proofs.Ytkngfobnfocpjaa
open Go.RowKit
set_option linter.unusedVariables false

theorem beq_refl_ba2 (l : List UInt8) : ((⟨l.toArray⟩ : ByteArray) == ⟨l.toArray⟩) = true := by rw [str_eq]; simp
theorem evVal_ok (e : Evt.Ev) : evVal e = .agg #[.string e.s, .int .i64 e.k, .int .i64 e.n] := rfl
/-- what a call leaves of a box of three -/
def Kp3 (v : Value) (W : World) (b : Nat) (x y z : Value) (e : Ending) (w4 : World) : Prop := e = .returned v ∧ Below W.heap.size W w4 ∧ w4.cell? ⟨b, 0, none⟩ = some x ∧ w4.cell? ⟨b, 1, none⟩ = some y ∧ w4.cell? ⟨b, 2, none⟩ = some z
theorem kp3 {v : Value} {W W1 : World} {b : Nat} {x y z : Value} (hs : b < W.heap.size) (c0 : W.cell? ⟨b, 0, none⟩ = some x) (c1 : W.cell? ⟨b, 1, none⟩ = some y) (c2 : W.cell? ⟨b, 2, none⟩ = some z) (h1 : Below W.heap.size W W1) {e : Ending} {w4 : World} (h : Grew v W1 e w4) : Kp3 v W b x y z e w4 :=
  have kb := bnext h1 h.2
  ⟨h.1, kb, (kb.cell (p := ⟨b, 0, none⟩) hs).trans c0, (kb.cell (p := ⟨b, 1, none⟩) hs).trans c1, (kb.cell (p := ⟨b, 2, none⟩) hs).trans c2⟩
def Kp2 (v : Value) (W : World) (b : Nat) (x y : Value) (e : Ending) (w4 : World) : Prop := e = .returned v ∧ Below W.heap.size W w4 ∧ w4.cell? ⟨b, 0, none⟩ = some x ∧ w4.cell? ⟨b, 1, none⟩ = some y
theorem kp2 {v : Value} {W W1 : World} {b : Nat} {x y : Value} (hs : b < W.heap.size) (c0 : W.cell? ⟨b, 0, none⟩ = some x) (c1 : W.cell? ⟨b, 1, none⟩ = some y) (h1 : Below W.heap.size W W1) {e : Ending} {w4 : World} (h : Grew v W1 e w4) : Kp2 v W b x y e w4 :=
  have kb := bnext h1 h.2
  ⟨h.1, kb, (kb.cell (p := ⟨b, 0, none⟩) hs).trans c0, (kb.cell (p := ⟨b, 1, none⟩) hs).trans c1⟩
theorem Same.grew {v : Value} {w : World} {e : Ending} {w' : World} (h : Same v w e w') : Grew v w e w' := h.drew.grew
set_option maxRecDepth 100000 in
set_option maxHeartbeats 2000000 in
theorem EventTells_walk (la : Option Addr) (ln lc : Nat) (Rs : List Rb) (x : Evt.Ev) (hxs : x.s.size ≤ maxLen) (ba : Option Addr) (bn bc : Nat) (lb : List UInt8) (w : World) (hx : Bs w la ln lc Rs) (hb : Bt w ba bn bc lb) :
    Calls Try.prog 11 #[.slice la ln lc, evVal x, .slice ba bn bc] w (Grew (.bool true) w) := by
  obtain ⟨xs, xk, xn⟩ := x
  have hxs : xs.size ≤ maxLen := hxs
  have D1 := hid (fun W (h : Below w.heap.size w W) => eBytes_call la ln lc Rs W (hx.below h))
  have D2 := hid (fun W (h : Below w.heap.size w W) => rBytes_call la ln lc Rs W (hx.below h))
  have D3 := hid (fun W (h : Below w.heap.size w W) => eParse_call ba bn bc lb W (hb.below h))
  have D4 := hid (fun W (h : Below w.heap.size w W) => rParse_call ba bn bc lb W (hb.below h))
  have N1 := fun W => eNamed_call xs hxs W
  have N2 := fun W => rNamed_call xs hxs W
  have N3 := fun W => eWrong_call ⟨xs, xk, xn⟩ hxs W
  have N4 := fun W => rWrongEvent_call ⟨xs, xk, xn⟩ hxs W
  rw [evVal_ok] at N3 N4 ⊢
  simp only at N3 N4 ⊢
  generalize Evt.bytesR (Rs.map Rb.ba) = R at *
  obtain ⟨P, re, rat⟩ := R
  generalize Evt.parse lb = Y at *
  obtain ⟨yl, ye⟩ := Y
  generalize Evt.named (Evt.lst xs) = nm at *
  generalize Evt.wrongEv ⟨xs, xk, xn⟩ = we at *
  have HQ := hid (beq_refl_ba2 P)
  have hle := hx.sl.le
  have hmax := hx.sl.max
  unfold maxLen at hmax
  have HNR := hid hx.n
  have hbW : Below w.heap.size w (w.alloc (.cells #[.string xs, .int .i64 xk, .int .i64 xn] 47)) := (Below.refl _ _).alloc (Nat.le_refl _) _
  have c0 : (w.alloc (.cells #[.string xs, .int .i64 xk, .int .i64 xn] 47)).cell? ⟨w.heap.size, 0, none⟩ = some (.string xs) := by simp
  have c1 : (w.alloc (.cells #[.string xs, .int .i64 xk, .int .i64 xn] 47)).cell? ⟨w.heap.size, 1, none⟩ = some (.int .i64 xk) := by simp
  have c2 : (w.alloc (.cells #[.string xs, .int .i64 xk, .int .i64 xn] 47)).cell? ⟨w.heap.size, 2, none⟩ = some (.int .i64 xn) := by simp
  have hsz : w.heap.size < (w.alloc (.cells #[.string xs, .int .i64 xk, .int .i64 xn] 47)).heap.size := by simp
  go_enter Try.func11, Try.ntmps11
  go_upto_region 1 with (fail)
  generalize (w.alloc (.cells #[.string xs, .int .i64 xk, .int .i64 xn] 47)) = W at *
  have C1 := hid (show ∀ W1, Below W.heap.size W W1 → Calls Try.prog 32 #[.string xs] W1 (Kp3 (.bool nm) W w.heap.size (.string xs) (.int .i64 xk) (.int .i64 xn)) from fun W1 h1 => (N1 W1).mono fun e w4 h => kp3 hsz c0 c1 c2 h1 h.grew)
  have C2 := hid (show ∀ W1, Below W.heap.size W W1 → Calls Try.prog 33 #[.string xs] W1 (Kp3 (.bool nm) W w.heap.size (.string xs) (.int .i64 xk) (.int .i64 xn)) from fun W1 h1 => (N2 W1).mono fun e w4 h => kp3 hsz c0 c1 c2 h1 h)
  have C3 := hid (show ∀ W1, Below W.heap.size W W1 → Calls Try.prog 34 #[.agg #[.string xs, .int .i64 xk, .int .i64 xn]] W1 (Kp3 (.int .i64 we) W w.heap.size (.string xs) (.int .i64 xk) (.int .i64 xn)) from fun W1 h1 => (N3 W1).mono fun e w4 h => kp3 hsz c0 c1 c2 h1 h)
  have C4 := hid (show ∀ W1, Below W.heap.size W W1 → Calls Try.prog 35 #[.agg #[.string xs, .int .i64 xk, .int .i64 xn]] W1 (Kp3 (.int .i64 we) W w.heap.size (.string xs) (.int .i64 xk) (.int .i64 xn)) from fun W1 h1 => (N4 W1).mono fun e w4 h => kp3 hsz c0 c1 c2 h1 h)
  clear N1 N2 N3 N4
  go_cut [30] (fun s30 wc => s30 = .bool false ∧ Below W.heap.size W wc)
  case first =>
    go_region_held3 (fun w' => w'.cell? ⟨w.heap.size, 0, none⟩ = some (.string xs) ∧ w'.cell? ⟨w.heap.size, 1, none⟩ = some (.int .i64 xk) ∧ w'.cell? ⟨w.heap.size, 2, none⟩ = some (.int .i64 xn)) (first | exact ⟨c0, c1, c2⟩ | exact ⟨k0, k1, k2⟩ | go_keep)
      (first
        | (go_at_call 32; refine (C1.out _ ?_).mono ?_; (repeat (first | assumption | exact Below.refl _ _ | refine below_drewN ?_ _ | refine Below.drew ?_)); rintro e w4 ⟨rfl, kb, k0, k1, k2⟩)
        | (go_at_call 33; refine (C2.out _ ?_).mono ?_; (repeat (first | assumption | exact Below.refl _ _ | refine below_drewN ?_ _ | refine Below.drew ?_)); rintro e w4 ⟨rfl, kb, k0, k1, k2⟩)
        | (go_at_call 34; refine (C3.out _ ?_).mono ?_; (repeat (first | assumption | exact Below.refl _ _ | refine below_drewN ?_ _ | refine Below.drew ?_)); rintro e w4 ⟨rfl, kb, k0, k1, k2⟩)
        | (go_at_call 35; refine (C4.out _ ?_).mono ?_; (repeat (first | assumption | exact Below.refl _ _ | refine below_drewN ?_ _ | refine Below.drew ?_)); rintro e w4 ⟨rfl, kb, k0, k1, k2⟩))
    all_goals (go_wp2_with fail; go_meet)
    all_goals exact ⟨rfl, kb⟩
  case rest =>
    obtain ⟨rfl, kb⟩ := hcut
    have kw := hbW.trans (kb.mono hbW.size)
    clear C1 C2 C3 C4 c0 c1 c2 hbW
    go_wp2_with fail
    go_loopg [8, 33] ln (fun g s8 i wr => ∃ k : Nat, g = ln - k ∧ k ≤ ln ∧ i = .int .i64 (k : Int) ∧ Below w.heap.size w wr)
    case atStart => exact ⟨0, rfl, by omega, rfl, kw⟩
    case round =>
      obtain ⟨k, rfl, hk, rfl, hbr⟩ := hrel
      have hszr := hbr.size
      by_cases hlt : k < ln
      · have hkl : k < Rs.length := by rw [HNR.out]; exact hlt
        obtain ⟨b, off, rfl, _⟩ := hx.sl.addr (by omega)
        obtain ⟨q0, q1, hE⟩ := (hx.below hbr).at k hkl
        generalize Rs[k] = r at *
        obtain ⟨c, ea, en, ec, evs⟩ := r
        simp only at q0 q1 hE
        have M1' := fun W1 (h1 : Below wr.heap.size wr W1) => eWrongBatch_call c ea en ec evs W1 (hE.below h1)
        have M2' := fun W1 (h1 : Below wr.heap.size wr W1) => rWrongBatch_call c ea en ec evs W1 (hE.below h1)
        unfold fVal at M1' M2'
        generalize Evt.wrongBa ⟨c, evs⟩ = f at *
        obtain ⟨f1, f2⟩ := f
        simp only at M1' M2'
        have hbA : Below wr.heap.size wr (wr.alloc (.cells #[.int .i64 c, .slice ea en ec] 52)) := (Below.refl _ _).alloc (Nat.le_refl _) _
        have c0 : (wr.alloc (.cells #[.int .i64 c, .slice ea en ec] 52)).cell? ⟨wr.heap.size, 0, none⟩ = some (.int .i64 c) := by simp
        have c1 : (wr.alloc (.cells #[.int .i64 c, .slice ea en ec] 52)).cell? ⟨wr.heap.size, 1, none⟩ = some (.slice ea en ec) := by simp
        have hsz2 : wr.heap.size < (wr.alloc (.cells #[.int .i64 c, .slice ea en ec] 52)).heap.size := by simp
        go_upto_region 6 with (fail)
        generalize (wr.alloc (.cells #[.int .i64 c, .slice ea en ec] 52)) = V at *
        have C1 := hid (show ∀ W1, Below V.heap.size V W1 → Calls Try.prog 36 #[.agg #[.int .i64 c, .slice ea en ec]] W1 (Kp2 (.agg #[.int .i64 f1, .int .i64 f2]) V wr.heap.size (.int .i64 c) (.slice ea en ec)) from fun W1 h1 => (M1' W1 (hbA.trans (h1.mono hbA.size))).mono fun e w4 h => kp2 hsz2 c0 c1 h1 h)
        have C2 := hid (show ∀ W1, Below V.heap.size V W1 → Calls Try.prog 37 #[.agg #[.int .i64 c, .slice ea en ec]] W1 (Kp2 (.agg #[.int .i64 f1, .int .i64 f2]) V wr.heap.size (.int .i64 c) (.slice ea en ec)) from fun W1 h1 => (M2' W1 (hbA.trans (h1.mono hbA.size))).mono fun e w4 h => kp2 hsz2 c0 c1 h1 h)
        clear M1' M2'
        go_cut [41] (fun s41 wc => s41 = .bool false ∧ Below V.heap.size V wc)
        case first =>
          go_region_held3 (fun w' => w'.cell? ⟨wr.heap.size, 0, none⟩ = some (.int .i64 c) ∧ w'.cell? ⟨wr.heap.size, 1, none⟩ = some (.slice ea en ec)) (first | exact ⟨c0, c1⟩ | exact ⟨k0, k1⟩ | go_keep)
            (first
              | (go_at_call 36; refine (C1.out _ ?_).mono ?_; (repeat (first | assumption | exact Below.refl _ _ | refine below_drewN ?_ _ | refine Below.drew ?_)); rintro e w4 ⟨rfl, kb, k0, k1⟩)
              | (go_at_call 37; refine (C2.out _ ?_).mono ?_; (repeat (first | assumption | exact Below.refl _ _ | refine below_drewN ?_ _ | refine Below.drew ?_)); rintro e w4 ⟨rfl, kb, k0, k1⟩))
          all_goals (go_wp2_with fail; go_meet)
          all_goals exact ⟨rfl, kb⟩
        case rest =>
          obtain ⟨rfl, kb⟩ := hcut
          have hbn : Below w.heap.size w wc := bnext hbr (hbA.trans (kb.mono hbA.size))
          go_wp2_with fail
          go_roundg (ln - (k + 1))
          case measure => omega
          case rel => exact ⟨k + 1, rfl, by omega, by go_num, hbn⟩
      · obtain rfl : k = ln := by omega
        go_wp2_with fail
        go_at_call 38; refine (D1.out _ hbr).mono ?_; rintro e w1 ⟨v1, rfl, b1, o1⟩
        obtain ⟨a1, p1, rfl, s1⟩ := own_sl o1
        have bb1 := (bnext hbr b1).alloc (bnext hbr b1).size (.cells #[.int .i64 re, .int .i64 rat] 54)
        have z1 := b1.size
        go_wp2_with fail
        go_at_call 39; refine (D2.out _ bb1).mono ?_; rintro e w2 ⟨v2, rfl, b2, o2⟩
        obtain ⟨a2, p2, rfl, s2⟩ := own_sl o2
        have bb2 := (bnext bb1 b2).alloc (bnext bb1 b2).size (.cells #[.int .i64 re, .int .i64 rat] 54)
        have z2 := b2.size
        have e0 : w2.cell? ⟨w1.heap.size, 0, none⟩ = some (.int .i64 re) := box_cell b2 0
        have e1 : w2.cell? ⟨w1.heap.size, 1, none⟩ = some (.int .i64 rat) := box_cell b2 1
        have hlt1 : w1.heap.size < w2.heap.size := box_size b2
        have g0 : (w2.alloc (.cells #[.int .i64 re, .int .i64 rat] 54)).cell? ⟨w1.heap.size, 0, none⟩ = some (.int .i64 re) := (cell_old hlt1).trans e0
        have g1 : (w2.alloc (.cells #[.int .i64 re, .int .i64 rat] 54)).cell? ⟨w1.heap.size, 1, none⟩ = some (.int .i64 rat) := (cell_old hlt1).trans e1
        have q1 := Bt.str ((Sl.below s1 (box_below b2)).alloc (.cells #[.int .i64 re, .int .i64 rat] 54))
        have q2 := Bt.str (Sl.alloc s2 (.cells #[.int .i64 re, .int .i64 rat] 54))
        go_wp2_with fail
        go_at_call 40; refine (D3.out _ bb2).mono ?_; rintro e w3 ⟨a3, n3, c3, M3, rfl, hM3, hm3, b3⟩
        have bb3 := bnext bb2 b3
        have H3 := hid hm3
        clear hm3
        go_wp2_with fail
        go_at_call 41; refine (D4.out _ bb3).mono ?_; rintro e w4 ⟨a4, n4, c4, M4, rfl, hM4, hm4, b4⟩
        have bb4 := bnext bb3 b4
        have H4 := hid hm4
        clear hm4
        go_wp2_with fail
        go_at_call 42; refine (rSameBatches_same _ _ _ _ _ _ M3 M4 _ (hM3.below b4) hM4 (H3.out.trans H4.out.symm)).mono ?_; rintro e w5 ⟨rfl, j5, rfl⟩
        go_wp2_with fail
        go_ret
        exact ⟨rfl, below_drewN bb4 j5⟩

end Go.Proofs.Ytkngfobnfocpjaa
