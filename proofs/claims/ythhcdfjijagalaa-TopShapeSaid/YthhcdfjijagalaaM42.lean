/- Joined, and what is not used struck: SpL, SoH, SpM, SpN, OpenI. -/
import Derived.Test.YthhcdfjijagalaaM39
import Derived.Test.YthhcdfjijagalaaM41
import Derived.Test.YthhcdfjijagalaaM10
import Derived.Test.YthhcdfjijagalaaM04
import Derived.Test.YthhcdfjijagalaaM24
import Derived.Deep.Slices
import Derived.Deep.Fields
import Derived.SizedLaws
namespace Go.Proofs.Ythhcdfjijagalaa
open Go.RowKit Go.Maps
set_option linter.unusedVariables false
set_option linter.unusedSimpArgs false
set_option maxRecDepth 100000
theorem info_Do : (Try.prog.info? 29).map (fun i => (i.zero, i.size, i.bytes)) = some (some (.agg #[.int .i64 0, .int .i64 0, .int .i64 0, .int .i64 0, .int .u8 0, .int .i64 0, .slice none 0 0, .string ⟨#[]⟩, .int .i64 0]), 9, 96) := by kernel_rfl
/-- a row of its own of what is done, whose events lie elsewhere -/
structure DoO (w : World) (base : Nat) (v : Value) (X : List Dod) : Prop where
  own : w.ownsRow base 29 9 v X.length (rows do9 X)
  evs : ∀ x ∈ X, Es w x.a x.n x.cap x.d.b.evs
  ok : ∀ x ∈ X, x.d.stream.size ≤ maxLen
  off : ∀ x ∈ X, 0 < x.n → ∀ b o, x.a = some ⟨b, o, none⟩ → v.ownBlock ≠ some b
theorem DoO.below {w w' : World} {base : Nat} {v : Value} {X : List Dod} (h : DoO w base v X) (hb : Below w.heap.size w w') : DoO w' base v X :=
  ⟨own_below h.own hb, fun x hx => (h.evs x hx).below hb, h.ok, h.off⟩
/-- a row grew -/
theorem DoO.more {w w' : World} {base n' : Nat} {v v' : Value} {X Y : List Dod} (h : DoO w base v X) (o : OT w w' v.ownBlock base 29 9 v' n' (rows do9 X ++ rows do9 Y)) (hn : n' = X.length + Y.length) (hg : w.grownBy w' v.ownBlock)
    (he : ∀ x ∈ Y, Es w x.a x.n x.cap x.d.b.evs) (hs : ∀ x ∈ Y, x.d.stream.size ≤ maxLen) (ho : ∀ x ∈ Y, 0 < x.n → ∀ b o, x.a = some ⟨b, o, none⟩ → v.ownBlock ≠ some b) : DoO w' base v' (X ++ Y) := by
  subst hn
  have hall : ∀ x ∈ X ++ Y, Es w x.a x.n x.cap x.d.b.evs ∧ x.d.stream.size ≤ maxLen ∧ (0 < x.n → ∀ b o, x.a = some ⟨b, o, none⟩ → v.ownBlock ≠ some b) := fun x hx => by
    rcases List.mem_append.1 hx with hx | hx
    · exact ⟨h.evs x hx, h.ok x hx, h.off x hx⟩
    · exact ⟨he x hx, hs x hx, ho x hx⟩
  refine ⟨by rw [List.length_append, rows_append]; exact o.own, fun x hx => ?_, fun x hx => (hall x hx).2.1, fun x hx hn b off e => ?_⟩
  · obtain ⟨h1, _, h3⟩ := hall x hx
    exact ⟨h1.sl.grown hg (fun hn b off e => h3 hn b off e), h1.ok⟩
  · obtain ⟨h1, _, h3⟩ := hall x hx
    rcases o.lies with hl | hl
    · rw [hl]; exact h3 hn b off e
    · intro e2
      have h4 := hl b e2
      have h5 := h1.sl
      rw [e] at h5
      have := Sl.lt h5 hn (by decide)
      omega
theorem DoO.dos {w : World} {base : Nat} {v : Value} {X : List Dod} (h : DoO w base v X) : ∃ a cap, v = .slice a X.length cap ∧ Dos w a X.length cap (X.map Dod.d) := by
  obtain ⟨a, cap, e, hs⟩ := own_sl h.own
  exact ⟨a, cap, e, dos_of hs h.evs h.ok⟩
/-- a row grew by a literal -/
theorem lit_src {w : World} {Y : List Dod} {tx : TypeId} (hk : Try.prog.underlying tx = some (.slice 29)) : Src Try.prog 9 tx (.slice (some ⟨w.heap.size, 0, none⟩) Y.length Y.length) Y.length (rows do9 Y) (w.alloc (.cells (rows do9 Y).toArray 29)) := by
  have := Src.ofLit (P := Try.prog) w (rows do9 Y).toArray 29 Y.length 9 hk (by simp [rows_length do9_len]) (by simpa using rows_one do9_one Y)
  simpa using this
theorem Es.nil (w : World) : Es w none 0 0 [] := ⟨Sl.none _ _, fun e he => by cases he⟩
/-- events in a literal -/
theorem lit_es {w : World} {l : List Evt.Ev} (hl : l.length ≤ maxLen) (ho : ∀ e ∈ l, e.s.size ≤ maxLen) : Es (w.alloc (.cells (evCells l).toArray 32)) (some ⟨w.heap.size, 0, none⟩) l.length l.length l := by
  have := own_sl (own_one (w := w) (e := 32) (cs := (evCells l).toArray) l.length 3 (by simp [evCells_length]) hl)
  obtain ⟨a, c, e, h⟩ := this
  cases e
  exact ⟨by simpa using h, ho⟩
set_option maxHeartbeats 2000000 in
theorem openT_call (s : ByteArray) (w : World) : Calls Try.prog 17 #[.string s] w (Grew (.agg #[.string s, .int .i64 1, .int .i64 0]) w) := by
  go_enter Try.func17, Try.ntmps17
  go_wp2_with fail
  have q := blk_new w (.cells #[.string s, .int .i64 1, .int .i64 0] 32)
  have q0 := blk_cell (i := 0) q
  have q1 := blk_cell (i := 1) q
  have q2 := blk_cell (i := 2) q
  exact bodyPost_ret (v := .agg #[.string s, .int .i64 1, .int .i64 0]) (by simp [results, Try.results17, go_sem, q0, q1, q2]) rfl ⟨rfl, (Below.refl _ _).alloc (Nat.le_refl _) _⟩
set_option maxHeartbeats 2000000 in
theorem addT_call (s : ByteArray) (n : Int) (w : World) : Calls Try.prog 18 #[.string s, .int .i64 n] w (Grew (.agg #[.string s, .int .i64 2, .int .i64 n]) w) := by
  go_enter Try.func18, Try.ntmps18
  go_wp2_with fail
  have q := blk_new w (.cells #[.string s, .int .i64 2, .int .i64 n] 32)
  have q0 := blk_cell (i := 0) q
  have q1 := blk_cell (i := 1) q
  have q2 := blk_cell (i := 2) q
  exact bodyPost_ret (v := .agg #[.string s, .int .i64 2, .int .i64 n]) (by simp [results, Try.results18, go_sem, q0, q1, q2]) rfl ⟨rfl, (Below.refl _ _).alloc (Nat.le_refl _) _⟩
set_option maxHeartbeats 2000000 in
theorem putT_call (c : Int) (ea : Option Addr) (en ec : Nat) (w : World) : Calls Try.prog 16 #[.int .i64 c, .slice ea en ec] w (Grew (.agg #[.int .i64 1, .int .i64 0, .int .i64 0, .int .i64 0, .int .u8 0, .int .i64 c, .slice ea en ec, .string ⟨#[]⟩, .int .i64 (-1)]) w) := by
  go_enter Try.func16, Try.ntmps16
  go_wp2_with fail
  have q := blk_new w (.cells #[.int .i64 1, .int .i64 0, .int .i64 0, .int .i64 0, .int .u8 0, .int .i64 c, .slice ea en ec, .string ⟨#[]⟩, .int .i64 (-1)] 29)
  have q0 := blk_cell (i := 0) q
  have q1 := blk_cell (i := 1) q
  have q2 := blk_cell (i := 2) q
  have q3 := blk_cell (i := 3) q
  have q4 := blk_cell (i := 4) q
  have q5 := blk_cell (i := 5) q
  have q6 := blk_cell (i := 6) q
  have q7 := blk_cell (i := 7) q
  have q8 := blk_cell (i := 8) q
  exact bodyPost_ret (v := .agg #[.int .i64 1, .int .i64 0, .int .i64 0, .int .i64 0, .int .u8 0, .int .i64 c, .slice ea en ec, .string ⟨#[]⟩, .int .i64 (-1)]) (by simp [results, Try.results16, go_sem, q0, q1, q2, q3, q4, q5, q6, q7, q8]) rfl ⟨rfl, (Below.refl _ _).alloc (Nat.le_refl _) _⟩
def smallP (d s : Int) : Prop := 1 ≤ d ∧ d ≤ 8 ∧ 0 ≤ s ∧ s ≤ 4
instance (d s : Int) : Decidable (smallP d s) := by unfold smallP; exact inferInstance
set_option maxHeartbeats 2000000 in
theorem smallT_call (d s : Int) (w : World) : Calls Try.prog 15 #[.int .i64 d, .int .i64 s] w (Same (.bool (decide (smallP d s))) w) := by
  by_cases h1 : 1 ≤ d
  · by_cases h2 : d ≤ 8
    · by_cases h3 : 0 ≤ s
      · by_cases h4 : s ≤ 4
        · rw [decide_eq_true (show smallP d s from ⟨h1, h2, h3, h4⟩)]
          go_enter Try.func15, Try.ntmps15
          go_wp2_with fail
          go_ret
          exact ⟨rfl, rfl⟩
        · rw [decide_eq_false (show ¬ smallP d s from fun q => h4 q.2.2.2)]
          go_enter Try.func15, Try.ntmps15
          go_wp2_with fail
          go_ret
          exact ⟨rfl, rfl⟩
      · rw [decide_eq_false (show ¬ smallP d s from fun q => h3 q.2.2.1)]
        go_enter Try.func15, Try.ntmps15
        go_wp2_with fail
        go_ret
        exact ⟨rfl, rfl⟩
    · rw [decide_eq_false (show ¬ smallP d s from fun q => h2 q.2.1)]
      go_enter Try.func15, Try.ntmps15
      go_wp2_with fail
      go_ret
      exact ⟨rfl, rfl⟩
  · rw [decide_eq_false (show ¬ smallP d s from fun q => h1 q.1)]
    go_enter Try.func15, Try.ntmps15
    go_wp2_with fail
    go_ret
    exact ⟨rfl, rfl⟩
end Go.Proofs.Ythhcdfjijagalaa
namespace Go.Proofs.Ythhcdfjijagalaa.Sto
set_option linter.unusedVariables false
/-- two events come -/
theorem fold_pair {v : Vw.Vi} {e f : Evt.Ev} (h : (Vw.fold v [e]).err = 0) : (Vw.fold v [e, f]).err = (Vw.fold (Vw.fold v [e]).v [f]).err ∧ (Vw.fold v [e, f]).v = (Vw.fold (Vw.fold v [e]).v [f]).v := fold_two (X := [e]) (Y := [f]) h
def evs2 (n : Int) : List Evt.Ev := [⟨sa, 1, 0⟩, ⟨sa, 2, n⟩]
theorem evs2_right {n : Int} (h0 : 0 ≤ n) (hn : n ≤ 1000000) : ∀ e ∈ evs2 n, Evt.wrongEv e = 0 := by
  intro e he
  unfold evs2 at he
  simp only [List.mem_cons, List.not_mem_nil, or_false] at he
  rcases he with rfl | rfl
  · exact open_right sa (.inl rfl)
  · exact num_right sa (.inl rfl) 2 n (.inl rfl) h0 hn
theorem two_in {d p b n : Int} (hw : wrongS d p b = 0) (h0 : 0 ≤ n) (hn : n ≤ 1000000) :
    (step (start d p b) (doPut 1 (evs2 n))).2.err = 0 ∧ J (step (start d p b) (doPut 1 (evs2 n))).1 [⟨1, evs2 n⟩] [] (fun _ => False) 1 ∧ Cnt (step (start d p b) (doPut 1 (evs2 n))).1 [⟨1, evs2 n⟩] ∧ (Vw.get (step (start d p b) (doPut 1 (evs2 n))).1.snap.accs sa).sum = n := by
  have h := start_J hw
  have hc := Cnt.start d p b
  have hf1 := fold_one (v := (start d p b).snap) (e := ⟨sa, 1, 0⟩) h.good (open_right sa (.inl rfl)) (by show (0 : Int) ≠ 150; decide) rfl
  have hg1 : Vw.get (Vw.fold (start d p b).snap [⟨sa, 1, 0⟩]).v.accs sa = ⟨sa, 0, 1, true⟩ := by
    rw [hf1.2.1]; rfl
  have hf2 := fold_one (v := (Vw.fold (start d p b).snap [⟨sa, 1, 0⟩]).v) (e := ⟨sa, 2, n⟩) hf1.2.2 (num_right sa (.inl rfl) 2 n (.inl rfl) h0 hn) (by rw [hf1.2.1]; show (0 : Int) + 1 ≠ 150; decide) (by show Vw.may (Vw.get _ sa) _ = true; rw [hg1]; unfold Vw.may; rw [if_neg (show ¬ ((2 : Int) = 1) by decide), if_pos (.inl rfl)])
  have hfp := fold_pair (f := ⟨sa, 2, n⟩) hf1.1
  have hf : (Vw.fold (start d p b).snap (evs2 n)).err = 0 := hfp.1.trans hf2.1
  have hfv : (Vw.fold (start d p b).snap (evs2 n)).v = _ := hfp.2.trans hf2.2.1
  obtain ⟨e1, n1⟩ := put_good h (d := doPut 1 (evs2 n)) rfl (ba_right (by decide) (by decide) (by simp [evs2]) (by simp [evs2]) (evs2_right h0 hn)) (fun b hb => by cases hb) (show (-1 : Int) < 0 by decide) hf (by simp [doPut, evs2]) (fun b hb => by cases hb) (show 0 ≤ 39 by decide)
  have hj := h.put (d := doPut 1 (evs2 n)) rfl
  have hcn := hc.step (doPut 1 (evs2 n))
  rw [n1, List.nil_append] at hj hcn
  have hsnap : (step (start d p b) (doPut 1 (evs2 n))).1.snap = (Vw.fold (start d p b).snap (evs2 n)).v := by
    rw [step_put rfl]
    rcases put_view (start d p b) (doPut 1 (evs2 n)) with ⟨_, h3 | h3⟩ | ⟨_, _, _, h4, _⟩
    · rw [step_put rfl] at e1; exact absurd e1 h3
    · cases h3
    · exact h4
  refine ⟨e1, hj, hcn, ?_⟩
  rw [hsnap, hfv]
  have h5 := Vw.get_ins_same (Vw.plus (Vw.get (Vw.fold (start d p b).snap [⟨sa, 1, 0⟩]).v.accs sa) ⟨sa, 2, n⟩) (Vw.fold (start d p b).snap [⟨sa, 1, 0⟩]).v.accs
  rw [Vw.plus_s, Vw.get_s] at h5
  rw [h5, hg1]
  show (0 : Int) + n = n
  omega
theorem look_all {s : St} {X : List Evt.Ba} (hi : Inv s X) (ha : all s = (X, 0)) {d : Do} (h : d.kind = 4) : (step s d).2.err = 0 ∧ (step s d).2.view = s.snap := by
  have : (step s d).2 = look s := by unfold step; rw [if_neg (by omega), if_neg (by omega), if_pos h]
  rw [this]
  unfold look
  rw [ha, if_neg (show ¬ ((X, (0 : Int)).2 ≠ 0) from fun h => h rfl)]
  exact ⟨hi.err, hi.snap⟩
/-- the closed fact of the whole's laws -/
theorem aliveT_plain : ∃ s a1 a2, play 3 2 1 [doPut 1 (evs2 7), doOf 4 0] = (s, [a1, a2], 0) ∧ (Vw.get a2.view.accs sa).sum = 7 := by
  have hw : wrongS 3 2 1 = 0 := by decide
  obtain ⟨_, hj, _, hs⟩ := two_in hw (n := 7) (by decide) (by decide)
  have hsp := step_spare (start 3 2 1) (doPut 1 (evs2 7))
  have ha := hj.all_ok (few_none (by rw [hsp]; show (0 : Int) ≤ 2; decide))
  have hl := look_all hj.inv ha (d := doOf 4 0) rfl
  refine ⟨_, _, _, play_of hw (by decide), ?_⟩
  rw [hl.2]; exact hs
end Go.Proofs.Ythhcdfjijagalaa.Sto
namespace Go.Proofs.Ythhcdfjijagalaa
open Go.RowKit Go.Maps
set_option linter.unusedVariables false
set_option linter.unusedSimpArgs false
set_option maxRecDepth 100000
theorem field_sum (x : Vw.Acc) (W : World) : (Instr.field 65 (acVal x) 1).run Try.prog W = .ok (.int .i64 x.sum) W := by kernel_rfl
set_option maxHeartbeats 2000000 in
theorem aliveT_call (w : World) : Calls Try.prog 14 #[] w (Grew (.bool true) w) := by
  obtain ⟨s, a1, a2, hP, hsum⟩ := Sto.aliveT_plain
  have HP := hid hP
  have HS := hid hsum
  have DO := hid (fun W => openT_call Sto.sa W)
  have DA := hid (fun W => addT_call Sto.sa 7 W)
  unfold Sto.sa at DO DA
  clear hP hsum
  go_enter Try.func14, Try.ntmps14
  go_wp2_with fail
  go_at_call 17; refine (DO.out _).mono ?_; rintro e w1 ⟨rfl, b1⟩
  go_wp2_with fail
  go_at_call 18; refine (DA.out _).mono ?_; rintro e w2 ⟨rfl, b2⟩
  have bA := hid (bnext b1 b2)
  have HE := hid (lit_es (w := w2) (l := Sto.evs2 7) (by decide) (fun e he => by
    simp only [Sto.evs2, List.mem_cons, List.not_mem_nil, or_false] at he
    rcases he with rfl | rfl <;> decide))
  have DP := hid (fun W => putT_call 1 (some ⟨w2.heap.size, 0, none⟩) 2 2 W)
  have bB := hid (bA.out.alloc bA.out.size (.cells (evCells (Sto.evs2 7)).toArray 32))
  clear b1 b2 DO DA
  go_wp2_with fail
  go_at_call 16; refine (DP.out _).mono ?_; rintro e w3 ⟨rfl, b3⟩
  have bC := hid (bnext bB.out b3)
  have E1 := hid (HE.out.below b3)
  clear DP b3
  have h3 := own_sl (own_one (w := w3) (e := 29) (cs := (rows do9 [⟨Sto.doPut 1 (Sto.evs2 7), some ⟨w2.heap.size, 0, none⟩, 2, 2⟩, ⟨Sto.doOf 4 0, none, 0, 0⟩]).toArray) 2 9 rfl (by decide))
  obtain ⟨da, dc, e3, hsl3⟩ := h3
  cases e3
  have DD := hid (dos_of hsl3 (fun x hx => by
    simp only [List.mem_cons, List.not_mem_nil, or_false] at hx
    rcases hx with rfl | rfl
    · exact E1.out.below ((Below.refl _ _).alloc (Nat.le_refl _) _)
    · exact Es.nil _) (fun x hx => by
    simp only [List.mem_cons, List.not_mem_nil, or_false] at hx
    rcases hx with rfl | rfl <;> exact (by decide : (⟨#[]⟩ : ByteArray).size ≤ maxLen)))
  have DPL := hid (stPlay_call 3 2 1 _ _ _ _ _ DD.out)
  clear hsl3
  go_wp2_with fail
  go_at_call 19; refine DPL.out.mono ?_; rintro e w4 ⟨m, av, ac, L, er, rfl, hM, hA, hP2, b4⟩
  have hPP := HP.out.symm.trans hP2
  simp only [Prod.mk.injEq] at hPP
  obtain ⟨hp1, hp2, hp3⟩ := hPP
  subst hp3
  obtain ⟨x1, x2, rfl⟩ : ∃ x1 x2, L = [x1, x2] := by
    have hl := congrArg List.length hp2
    rw [List.length_map] at hl
    rcases L with _ | ⟨x1, _ | ⟨x2, _ | ⟨x3, L⟩⟩⟩ <;> simp at hl
    exact ⟨x1, x2, rfl⟩
  simp only [List.map_cons, List.map_nil, List.cons.injEq, and_true] at hp2
  obtain ⟨-, hx2⟩ := hp2
  have hsum : (Vw.get x2.accs ⟨#[97]⟩).sum = 7 := by have := HS.out; rw [hx2] at this; exact this
  obtain ⟨va, vc, ta, tc, sa, sc, aa, ac2, hv, -⟩ := hM.val
  obtain ⟨-, hAm⟩ := hA.amv
  obtain ⟨ab, aoff, rfl⟩ := hAm.free (show 0 < 2 by omega)
  obtain ⟨-, -, -, z3, z4⟩ := hAm.at 1 (show 1 < 2 by omega)
  have hac := hAm.accs x2 (by simp)
  have e2 : ([x1, x2] : List Am)[1] = x2 := rfl
  rw [e2] at z3 z4
  have bD := hid (bnext (bC.out.alloc bC.out.size _) b4)
  have y3 : ∀ o : Obj, (w4.alloc o).cell? ⟨ab, aoff + 1 * 5 + 3, none⟩ = some (.int .i64 x2.u) := fun o => calloc z3
  have y4 : ∀ o : Obj, (w4.alloc o).cell? ⟨ab, aoff + 1 * 5 + 4, none⟩ = some (.slice x2.aa x2.accs.length x2.ac) := fun o => calloc z4
  simp only [Nat.reduceMul] at y3 y4
  have bX := hid (bD.out.alloc bD.out.size (.cells #[.int .i64 m.d, .int .i64 m.s, .int .i64 m.b, .slice va m.D.length vc, .int .i64 (m.g : Int), .slice ta m.T.length tc, .slice sa m.seen.length sc, .int .i64 m.u, .slice aa m.A.length ac2] 44))
  have DG := hid (vGet_call x2.u x2.aa x2.accs.length x2.ac x2.accs ⟨#[97]⟩ _ (hac.below ((Below.refl _ _).alloc (Nat.le_refl _) (.cells #[.int .i64 m.d, .int .i64 m.s, .int .i64 m.b, .slice va m.D.length vc, .int .i64 (m.g : Int), .slice ta m.T.length tc, .slice sa m.seen.length sc, .int .i64 m.u, .slice aa m.A.length ac2] 44))))
  unfold viVal at DG
  rw [hv]
  have hfs := field_sum (Vw.get x2.accs ⟨#[97]⟩)
  rw [hsum] at hfs
  clear hv z3 z4 hA hM hAm hP2 hp1 hx2 hac b4 hsum
  generalize Vw.get x2.accs ⟨#[97]⟩ = X at *
  go_wp2_with fail
  go_at_call 26; refine DG.out.mono ?_; rintro e w5 ⟨rfl, b5⟩
  go_wp2_with fail
  go_ret
  exact ⟨rfl, bnext bX.out b5⟩
end Go.Proofs.Ythhcdfjijagalaa
namespace Go.Proofs.Ythhcdfjijagalaa
open Go.RowKit Go.Maps
set_option linter.unusedVariables false
set_option linter.unusedSimpArgs false
set_option maxRecDepth 100000
theorem DoO.lit {w : World} {base : Nat} (hb : base ≤ w.heap.size) (X : List Dod) (hX : X.length ≤ 100) (he : ∀ x ∈ X, Es w x.a x.n x.cap x.d.b.evs) (hs : ∀ x ∈ X, x.d.stream.size ≤ maxLen) :
    DoO (w.alloc (.cells (rows do9 X).toArray 29)) base (.slice (some ⟨w.heap.size, 0, none⟩) X.length X.length) X := by
  refine ⟨?_, fun x hx => (he x hx).alloc _, hs, fun x hx hn b o e e2 => ?_⟩
  · have := World.ownsRow_lit (e := 29) (base := base) (size := 9) w (rows do9 X).toArray X.length hb (by unfold maxLen; omega) (by simp [rows_length do9_len])
    simpa using this
  · have h1 := (he x hx).sl
    rw [e] at h1
    have := Sl.lt h1 hn (by decide)
    have e2 : some w.heap.size = some b := e2
    injection e2 with e2
    omega
def putX (c : Int) (l : List Evt.Ev) (B : Nat) : Dod := ⟨Sto.doPut c l, some ⟨B, 0, none⟩, l.length, l.length⟩
def opX (k n : Int) : Dod := ⟨Sto.doOf k n, none, 0, 0⟩
theorem opX_es (w : World) (k n : Int) : Es w (opX k n).a (opX k n).n (opX k n).cap (opX k n).d.b.evs := Es.nil w
theorem opX_ok (k n : Int) : (opX k n).d.stream.size ≤ maxLen := (by decide : (⟨#[]⟩ : ByteArray).size ≤ maxLen)
theorem putX_ok (c : Int) (l : List Evt.Ev) (B : Nat) : (putX c l B).d.stream.size ≤ maxLen := (by decide : (⟨#[]⟩ : ByteArray).size ≤ maxLen)
theorem sa_ok : Sto.sa.size ≤ maxLen := by decide
theorem Sto.addsD_snoc (l : List Int) (n : Int) : ∀ c, Sto.addsD (l ++ [n]) c = Sto.addsD l c ++ [Sto.doPut (c + l.length) [⟨Sto.sa, 2, n⟩]] := by
  induction l with
  | nil => intro c; show [Sto.doPut c _] = [Sto.doPut (c + ((0 : Nat) : Int)) _]; rw [show c + ((0 : Nat) : Int) = c by omega]
  | cons x r ih =>
    intro c
    show Sto.doPut c _ :: Sto.addsD (r ++ [n]) (c + 1) = Sto.doPut c _ :: (Sto.addsD r (c + 1) ++ _)
    rw [ih, List.length_cons, show c + 1 + (r.length : Int) = c + ((r.length + 1 : Nat) : Int) by omega]
/-- the row that a loop over numbers makes -/
structure Rowk (w wr : World) (v : Value) (zs : List Int) (k : Nat) (X : List Dod) : Prop where
  row : DoO wr w.heap.size v X
  eq : X.map Dod.d = Sto.opA :: Sto.addsD (zs.take k) 2
  below : Below w.heap.size w wr
  good : ∀ n ∈ zs.take k, 0 ≤ n ∧ n ≤ 1000000
theorem Rowk.len {w wr : World} {v : Value} {zs : List Int} {k : Nat} {X : List Dod} (h : Rowk w wr v zs k X) (hk : k ≤ zs.length) : X.length = k + 1 := by
  have := congrArg List.length h.eq
  rw [List.length_map, List.length_cons, Sto.addsD_len, List.length_take] at this
  omega
/-- one more -/
theorem Rowk.next {w wr W w5 : World} {v v5 : Value} {zs : List Int} {k n' : Nat} {X : List Dod} {B : Nat} (h : Rowk w wr v zs k X) (hk : k < zs.length) (hb : Below wr.heap.size wr W) (he : Es W (some ⟨B, 0, none⟩) 1 1 [⟨Sto.sa, 2, zs[k]⟩]) (hB : wr.heap.size ≤ B) (hg : 0 ≤ zs[k] ∧ zs[k] ≤ 1000000)
    (o : OT W w5 v.ownBlock w.heap.size 29 9 v5 n' (rows do9 X ++ rows do9 [putX (2 + (k : Int)) [⟨Sto.sa, 2, zs[k]⟩] B])) (hn : n' = X.length + 1) (hgr : W.grownBy w5 v.ownBlock) :
    Rowk w w5 v5 zs (k + 1) (X ++ [putX (2 + (k : Int)) [⟨Sto.sa, 2, zs[k]⟩] B]) := by
  have h1 := (h.row.below hb).more o hn hgr (fun x hx => by obtain rfl := List.mem_singleton.1 hx; exact he) (fun x hx => by obtain rfl := List.mem_singleton.1 hx; exact putX_ok _ _ _) (fun x hx hn b o e e2 => by
    obtain rfl := List.mem_singleton.1 hx
    have e : some (⟨B, 0, none⟩ : Addr) = some ⟨b, o, none⟩ := e
    cases e
    have := (h.row.own.lt _ e2).2
    omega)
  have hbw := bnext h.below hb
  refine ⟨h1, ?_, hbw.grown hgr hbw.size (fun q hq => (h.row.own.lt q hq).1), fun n hn => ?_⟩
  · rw [List.map_append, h.eq, List.take_add_one, List.getElem?_eq_getElem hk]
    show _ = Sto.opA :: Sto.addsD (zs.take k ++ [zs[k]]) 2
    rw [Sto.addsD_snoc, List.length_take, Nat.min_eq_left (by omega)]; rfl
  · rw [List.take_add_one, List.getElem?_eq_getElem hk] at hn
    rcases List.mem_append.1 hn with hn | hn
    · exact h.good n hn
    · have hn : n ∈ [zs[k]] := hn
      obtain rfl := List.mem_singleton.1 hn; exact hg
/-- an answer's cells, and what they hold -/
structure AnAt (w : World) (b off k : Nat) (y : Am) : Prop where
  c0 : w.cell? ⟨b, off + k * 5, none⟩ = some (.int .i64 y.err)
  c1 : w.cell? ⟨b, off + k * 5 + 1, none⟩ = some (.int .i64 y.n)
  c2 : w.cell? ⟨b, off + k * 5 + 2, none⟩ = some (.slice y.ea y.evs.length y.ec)
  c3 : w.cell? ⟨b, off + k * 5 + 3, none⟩ = some (.int .i64 y.u)
  c4 : w.cell? ⟨b, off + k * 5 + 4, none⟩ = some (.slice y.aa y.accs.length y.ac)
  evs : Es w y.ea y.evs.length y.ec y.evs
  accs : As w y.aa y.accs.length y.ac y.accs
theorem AnAt.below {w w' : World} {b off k : Nat} {y : Am} (h : AnAt w b off k y) (hb : Below w.heap.size w w') : AnAt w' b off k y :=
  have g : ∀ {q : Addr} {v : Value}, w.cell? q = some v → w'.cell? q = some v := fun e => (hb.cell (World.block_lt_of_cell? _ _ e)).trans e
  ⟨g h.c0, g h.c1, g h.c2, g h.c3, g h.c4, h.evs.below hb, h.accs.below hb⟩
theorem Ams.get {w : World} {base : Nat} {a : Option Addr} {n cap : Nat} {L : List Am} {A : List Sto.An} (h : Ams w base (.slice a n cap) L) (hA : A = L.map Am.an) {k : Nat} {x : Sto.An} (hx : A[k]? = some x) :
    ∃ b off y, a = some ⟨b, off, none⟩ ∧ k < L.length ∧ n = L.length ∧ Am.an y = x ∧ AnAt w b off k y := by
  subst hA
  obtain ⟨rfl, hv⟩ := h.amv
  have hk : k < L.length := by
    have := List.getElem?_eq_some_iff.1 hx
    simpa using this.1
  rw [List.getElem?_map, List.getElem?_eq_getElem hk] at hx
  obtain ⟨b, off, rfl⟩ := hv.free (by omega)
  obtain ⟨h0, h1, h2, h3, h4⟩ := hv.at k hk
  exact ⟨b, off, L[k], rfl, hk, rfl, by simpa using hx, h0, h1, h2, h3, h4, hv.evs _ (List.getElem_mem hk), hv.accs _ (List.getElem_mem hk)⟩
theorem wrong_small {d p b : Int} (h : smallP d p) (h1 : 1 ≤ b) (h2 : b ≤ 10) : Sto.wrongS d p b = 0 := by
  obtain ⟨h3, h4, h5, h6⟩ := h
  have e : Mat.wrongC d p = 0 := by unfold Mat.wrongC; rw [if_neg (by omega)]
  unfold Sto.wrongS
  rw [e, if_neg (by decide), if_neg (by omega)]
set_option maxHeartbeats 8000000 in
theorem TopShape_walk (d p b : Int) (za : Option Addr) (zn zc : Nat) (zs : List Int) (w : World) (hZ : Is w za zn zc zs) : Calls Try.prog 13 #[.int .i64 d, .int .i64 p, .int .i64 b, .slice za zn zc] w (Grew (.bool true) w) := by
  have HZ := hid hZ
  have HZN := hid (show zs.length = zn by have := hZ.len; simpa using this)
  have hle := hZ.le
  have hmax := hZ.max
  unfold maxLen at hmax
  clear hZ
  go_enter Try.func13, Try.ntmps13
  go_wp2_with fail
  go_at_call 14; refine (aliveT_call _).mono ?_; rintro e w1 ⟨rfl, b1⟩
  have bA := hid b1
  clear b1
  go_wp2_with fail
  go_at_call 15; refine (smallT_call d p w1).mono ?_; rintro e w1' ⟨rfl, rfl⟩
  by_cases hs : smallP d p
  · rw [decide_eq_true hs]
    have HS := hid hs
    have hs1 : 1 ≤ d ∧ d ≤ 8 ∧ 0 ≤ p ∧ p ≤ 4 := hs
    replace hs := hid hs
    by_cases hb1 : b < 1
    · go_wp2_with fail
      go_ret
      exact ⟨rfl, bA.out⟩
    by_cases hb2 : 10 < b
    · go_wp2_with fail
      go_ret
      exact ⟨rfl, bA.out⟩
    by_cases hz12 : 12 < zn
    · have hz12' : (12 : Int) < (zn : Int) := by omega
      go_wp2_with fail
      go_ret
      exact ⟨rfl, bA.out⟩
    have hz12' : ¬ (12 : Int) < (zn : Int) := by omega
    go_wp2_with fail
    go_at_call 17; refine (openT_call _ _).mono ?_; rintro e w2 ⟨rfl, b2⟩
    have bB := hid (bnext bA.out b2)
    have hE2 := hid (lit_es (w := w2) (l := [⟨Sto.sa, 1, 0⟩]) (by decide) (fun e he => by obtain rfl := List.mem_singleton.1 he; exact sa_ok))
    have bC := hid (bB.out.alloc bB.out.size (.cells (evCells [⟨Sto.sa, 1, 0⟩]).toArray 32))
    clear b2
    go_wp2_with fail
    go_at_call 16; refine (putT_call _ _ _ _ _).mono ?_; rintro e w3 ⟨rfl, b3⟩
    have bD := hid (bnext bC.out b3)
    have hX0 := hid (DoO.lit (w := w3) (base := w.heap.size) bD.out.size [putX 1 [⟨Sto.sa, 1, 0⟩] w2.heap.size] (by simp) (fun x hx => by obtain rfl := List.mem_singleton.1 hx; exact hE2.out.below b3) (fun x hx => by obtain rfl := List.mem_singleton.1 hx; exact putX_ok _ _ _))
    have bR := hid (bD.out.alloc bD.out.size (.cells (rows do9 [putX 1 [⟨Sto.sa, 1, 0⟩] w2.heap.size]).toArray 29))
    have R0 : Rowk w (w3.alloc (.cells (rows do9 [putX 1 [⟨Sto.sa, 1, 0⟩] w2.heap.size]).toArray 29)) (.slice (some ⟨w3.heap.size, 0, none⟩) 1 1) zs 0 [putX 1 [⟨Sto.sa, 1, 0⟩] w2.heap.size] := ⟨hX0.out, rfl, bR.out, fun n hn => by simp at hn⟩
    clear b3
    go_wp2_with fail
    go_loopg [9, 44] zn (fun g sv si wr => ∃ (k : Nat) (X : List Dod), g = zn - k ∧ k ≤ zn ∧ si = .int .i64 (k : Int) ∧ Rowk w wr sv zs k X)
    case atStart => exact ⟨0, _, rfl, by omega, rfl, R0⟩
    case round =>
      clear R0
      obtain ⟨k, X, rfl, hk, rfl, hR⟩ := hrel
      obtain ⟨wo, rfl⟩ : ∃ wo : World, wo = wr := ⟨_, rfl⟩
      have HR := hid hR
      have hXl := hR.len (by rw [HZN.out]; exact hk)
      obtain ⟨xa, xc, rfl, -⟩ := own_sl hR.row.own
      rw [hXl]
      have hsz := hR.below.size
      clear hR
      by_cases hlt : k < zn
      · have hkz : k < zs.length := by rw [HZN.out]; exact hlt
        obtain ⟨zb, zoff, rfl, hzc⟩ := HZ.out.addr (by omega)
        have hz0 := hzc k (.int .i64 zs[k]) (by simp [hkz])
        have z0 : wo.cell? ⟨zb, zoff + k, none⟩ = some (.int .i64 zs[k]) := (HR.out.below.cell (p := ⟨zb, _, none⟩) (World.block_lt_of_cell? _ _ hz0)).trans hz0
        have i0 : (0 : Int) ≤ (k : Int) := by omega
        have i1 : (k : Int) < (zn : Int) := by omega
        have HNX := hid (fun W w5 v5 n' B h1 h2 h3 h4 h5 h6 h7 => @Rowk.next w wo W w5 (.slice xa X.length xc) v5 zs k n' X B HR.out hkz h1 h2 h3 h4 h5 h6 h7)
        clear hz0 hzc
        generalize hzk : zs[k] = z at *
        replace hzk := hid hzk
        by_cases hz1 : z < 0
        · have u1 : decide (z < 0) = true := decide_eq_true hz1
          replace hz1 := hid hz1
          go_wp2_with fail
          go_ret
          exact ⟨rfl, HR.out.below⟩
        by_cases hz2 : 1000000 < z
        · have u2 : decide (1000000 < z) = true := decide_eq_true hz2
          have u1 : 0 ≤ z := by omega
          replace hz2 := hid hz2
          replace hz1 := hid hz1
          go_wp2_with fail
          go_ret
          exact ⟨rfl, HR.out.below⟩
        have u1 : 0 ≤ z := by omega
        have u2 : z ≤ 1000000 := by omega
        have hzz := hid (show 0 ≤ z ∧ z ≤ 1000000 from ⟨u1, u2⟩)
        replace hz1 := hid hz1
        replace hz2 := hid hz2
        have hwr2 : IntKind.i64.wrap ((k : Int) + 2) = (k : Int) + 2 := IntWalk.i64_in _ (by omega)
        go_wp2_with fail
        go_at_call 18; refine (addT_call _ _ _).mono ?_; rintro e w4 ⟨rfl, b4⟩
        have hE4 := hid (lit_es (w := w4) (l := [⟨Sto.sa, 2, z⟩]) (by simp [maxLen]) (fun e he => by obtain rfl := List.mem_singleton.1 he; exact sa_ok))
        have bE := hid (b4.alloc b4.size (.cells (evCells [⟨Sto.sa, 2, z⟩]).toArray 32))
        go_wp2_with fail
        go_at_call 16; refine (putT_call _ _ _ _ _).mono ?_; rintro e w5 ⟨rfl, b5⟩
        have bF := hid (bnext bE.out b5)
        have hb4 := b4.size
        have hb5 := b5.size
        rw [World.size_alloc] at hb5
        have hwl := w5.heap.size
        have SS := hid (lit_src (w := w5) (Y := [putX (2 + (k : Int)) [⟨Sto.sa, 2, z⟩] w4.heap.size]) (tx := 34) Try.underlying34)
        have BG := hid (bF.out.alloc bF.out.size (.cells (rows do9 [putX (2 + (k : Int)) [⟨Sto.sa, 2, z⟩] w4.heap.size]).toArray 29))
        have OT1 := hid (OT.start (HR.out.row.below BG.out).own)
        have hE6 := hid ((hE4.out.below b5).alloc (.cells (rows do9 [putX (2 + (k : Int)) [⟨Sto.sa, 2, z⟩] w4.heap.size]).toArray 29))
        rw [hXl] at OT1
        have hc2 : (k : Int) + 2 = 2 + (k : Int) := by omega
        rw [hc2]
        replace hc2 := hid hc2
        clear b4 b5 hwr2
        go_wp2_with (at_builtin; refine wpList_append_t rfl (.tmp 55) (.tmp 62) 34 34 rfl w.heap.size 29 9 96 (.agg #[.int .i64 0, .int .i64 0, .int .i64 0, .int .i64 0, .int .u8 0, .int .i64 0, .slice none 0 0, .string ⟨#[]⟩, .int .i64 0]) Try.underlying34 info_Do rfl (by decide) (.slice xa (k + 1) xc) (k + 1) (rows do9 X) rfl OT1.out _ 1 _ rfl SS.out (by unfold maxLen; omega) (by omega) (by simp; omega) ?_; intro v7 w7 o7 g7)
        have HR7 := HNX.out _ w7 v7 _ _ BG.out hE6.out (by omega) hzz.out (by rw [hXl]; exact o7) (by rw [hXl]) (by rw [hXl]; exact g7)
        go_roundg (zn - (k + 1))
        case measure => omega
        case rel => exact ⟨k + 1, _, rfl, by omega, by go_num, HR7⟩
      · have hkn : k = zn := by omega
        subst hkn
        have hkz : k = zs.length := HZN.out.symm
        have htk : zs.take k = zs := List.take_of_length_le (by omega)
        have hgd := HR.out.good
        have hxe := HR.out.eq
        rw [htk] at hgd hxe
        have hw0 : Sto.wrongS d p b = 0 := wrong_small HS.out (by omega) (by omega)
        obtain ⟨s1, a1, hp1, hl1, x1, hx1, he1, hv1⟩ := Sto.shape_plain hw0 zs hgd (by omega)
        obtain ⟨s2, a2, hp2, hl2, x2, hx2, he2, hv2⟩ := Sto.shape_plain (d := 1) (p := 0) (b := 1) (by decide) zs hgd (by omega)
        rw [← hkz] at hx1 hx2
        have P1 := hid hp1
        have P2 := hid hp2
        have Q1 := hid (And.intro hx1 (And.intro he1 hv1))
        have Q2 := hid (And.intro hx2 (And.intro he2 hv2))
        have hwl := wo.heap.size
        have SS := hid (lit_src (w := wo) (Y := [opX 3 0]) (tx := 34) Try.underlying34)
        have BL := hid ((Below.refl wo.heap.size wo).alloc (Nat.le_refl _) (.cells (rows do9 [opX 3 0]).toArray 29))
        have OT1 := hid (OT.start (HR.out.row.below BL.out).own)
        rw [hXl] at OT1
        have DX := hid (fun w7 v7 n' o hn hg => (HR.out.row.below BL.out).more (w' := w7) (v' := v7) (n' := n') (Y := [opX 3 0]) o hn hg (fun x hx => by obtain rfl := List.mem_singleton.1 hx; exact opX_es _ _ _) (fun x hx => by obtain rfl := List.mem_singleton.1 hx; exact opX_ok _ _) (fun x hx hn b o e e2 => by obtain rfl := List.mem_singleton.1 hx; cases hn))
        have HXE := hid (show (X ++ [opX 3 0]).map Dod.d = Sto.opA :: Sto.addsD zs 2 ++ [Sto.doOf 3 0] by rw [List.map_append, hxe]; rfl)
        replace hkz := hid hkz
        clear hp1 hp2 hx1 hx2 he1 he2 hv1 hv2 hgd hxe htk hl1 hl2
        go_wp2_with (at_builtin; refine wpList_append_t rfl (.tmp 65) (.tmp 67) 34 34 rfl w.heap.size 29 9 96 (.agg #[.int .i64 0, .int .i64 0, .int .i64 0, .int .i64 0, .int .u8 0, .int .i64 0, .slice none 0 0, .string ⟨#[]⟩, .int .i64 0]) Try.underlying34 info_Do rfl (by decide) (.slice xa (k + 1) xc) (k + 1) (rows do9 X) rfl OT1.out _ 1 _ rfl SS.out (by unfold maxLen; omega) (by omega) (by simp; omega) ?_; intro v7 w7 o7 g7)
        have HX := DX.out w7 v7 _ (by rw [hXl]; exact o7) (by rw [hXl]; rfl) (by rw [hXl]; exact g7)
        have b7 := hid ((bnext HR.out.below BL.out).grown g7 (bnext HR.out.below BL.out).size (fun q hq => (HR.out.row.own.lt q (by rw [hXl]; exact hq)).1))
        obtain ⟨da, dc, rfl, hD⟩ := HX.dos
        have hYl : (X ++ [opX 3 0]).length = k + 2 := by rw [List.length_append, hXl]; rfl
        rw [HXE.out, hYl] at hD
        rw [hYl]
        have D1 := hid (stPlay_call d p b _ _ _ _ w7 hD)
        have D2 := hid (fun W (hb : Below w7.heap.size w7 W) => stPlay_call 1 0 1 _ _ _ _ W (hD.below hb))
        clear hD HX o7 g7
        go_wp2_with fail
        go_at_call 19; refine D1.out.mono ?_; rintro e w8 ⟨m, av, ac, L, er, rfl, hM, hA, hP2, b8⟩
        have hPP := P1.out.symm.trans hP2
        simp only [Prod.mk.injEq] at hPP
        obtain ⟨-, hp1, rfl⟩ := hPP
        obtain ⟨ab1, ao1, y1, rfl, hk1, -, hy1, hat1⟩ := hA.get hp1 Q1.out.1
        obtain ⟨va, vc, ta, tc, sa, sc, aa, ac2, hv, -⟩ := hM.val
        rw [hv]
        have A1 := hid (fun W (hb : Below w8.heap.size w8 W) => hat1.below hb)
        have B8 := hid (b8.alloc b8.size (.cells #[.int .i64 m.d, .int .i64 m.s, .int .i64 m.b, .slice va m.D.length vc, .int .i64 (m.g : Int), .slice ta m.T.length tc, .slice sa m.seen.length sc, .int .i64 m.u, .slice aa m.A.length ac2] 44))
        have BC8 := hid ((Below.refl w8.heap.size w8).alloc (Nat.le_refl _) (.cells #[.int .i64 m.d, .int .i64 m.s, .int .i64 m.b, .slice va m.D.length vc, .int .i64 (m.g : Int), .slice ta m.T.length tc, .slice sa m.seen.length sc, .int .i64 m.u, .slice aa m.A.length ac2] 44))
        have e1 : y1.err = 0 := by have := congrArg Sto.An.err hy1; rw [Q1.out.2.1] at this; exact this
        have e2 : y1.evs = Sto.evA zs := by have := congrArg Sto.An.evs hy1; rw [Q1.out.2.2] at this; exact this
        replace e1 := hid e1
        replace e2 := hid e2
        clear hv hp1 hy1 hM hA hP2 hat1 b8
        go_wp2_with fail
        go_at_call 19; refine (D2.out _ B8.out).mono ?_; rintro e w9 ⟨m', av', ac', L', er', rfl, hM, hA, hP2, b9⟩
        have hPP := P2.out.symm.trans hP2
        simp only [Prod.mk.injEq] at hPP
        obtain ⟨-, hp1, rfl⟩ := hPP
        obtain ⟨ab2, ao2, y2, rfl, hk2, -, hy2, hat2⟩ := hA.get hp1 Q2.out.1
        obtain ⟨va', vc', ta', tc', sa', sc', aa', ac3, hv, -⟩ := hM.val
        rw [hv]
        have e3 : y2.err = 0 := by have := congrArg Sto.An.err hy2; rw [Q2.out.2.1] at this; exact this
        have e4 : y2.evs = Sto.evA zs := by have := congrArg Sto.An.evs hy2; rw [Q2.out.2.2] at this; exact this
        have B9 := hid (bnext (bnext b7.out B8.out) b9)
        have hel : (Sto.evA zs).length = k + 1 := by unfold Sto.evA; rw [List.length_cons, List.length_map, hkz.out]
        obtain ⟨W, hW⟩ : ∃ W, W = (w9.alloc (.cells #[.int .i64 m'.d, .int .i64 m'.s, .int .i64 m'.b, .slice va' m'.D.length vc', .int .i64 (m'.g : Int), .slice ta' m'.T.length tc', .slice sa' m'.seen.length sc', .int .i64 m'.u, .slice aa' m'.A.length ac3] 44)) := ⟨_, rfl⟩
        have T1 := A1.out W (by rw [hW]; exact (bnext BC8.out b9).alloc (bnext BC8.out b9).size _)
        have T2 := hat2.below (w' := W) (by rw [hW]; exact (Below.refl _ _).alloc (Nat.le_refl _) _)
        have g0 := T1.c0
        have g2 := T1.c2
        have j0 := T2.c0
        have j2 := T2.c2
        have Es1 := T1.evs
        have Es2 := T2.evs
        rw [e1.out] at g0
        rw [e2.out, hel] at g2 Es1
        rw [e3] at j0
        rw [e4, hel] at j2 Es2
        have DS := hid (fun j => rSameEvents_same y1.ea y2.ea (k + 1) y1.ec (k + 1) y2.ec (Sto.evA zs) (W.drewN j) (Es1.drewN j) (Es2.drewN j))
        have BW := hid (show Below w.heap.size w W by rw [hW]; exact B9.out.alloc B9.out.size _)
        replace e3 := hid e3
        replace e4 := hid e4
        replace hel := hid hel
        clear hv hp1 hy2 hM hA hP2 T1 T2 Es1 Es2 hat2
        go_wp2_with fail
        rw [← hW]
        replace hW := hid hW
        have h21 : (k : Int) + 2 - 1 = ((k + 1 : Nat) : Int) := by omega
        rw [h21]
        have HK := hid (show k + 1 ≤ 13 by omega)
        clear h21
        obtain ⟨K, hK⟩ : ∃ K, K = k + 1 := ⟨_, rfl⟩
        have u9 : ((K : Int) == (k : Int) + 1) = true := beq_iff_eq.2 (by omega)
        have u8 : IntKind.i64.wrap ((k : Int) + 1) = (k : Int) + 1 := IntWalk.i64_in _ (by omega)
        have i0 : (0 : Int) ≤ (K : Int) := by omega
        have i1 : (K : Int) < (L.length : Int) := by omega
        have i2 : (K : Int) < (L'.length : Int) := by omega
        rw [← hK] at g0 g2 j0 j2 DS ⊢
        replace hK := hid hK
        clear hk1 hk2
        go_quiet ((go_at_call 20; exact Calls.quiet_of (DS.out _)))
        go_wp2_with fail
        go_ret
        exact ⟨rfl, below_drewN BW.out _⟩
  · rw [decide_eq_false hs]
    replace hs := hid hs
    go_wp2_with fail
    go_ret
    exact ⟨rfl, bA.out⟩
end Go.Proofs.Ythhcdfjijagalaa
namespace Go.Proofs.Ythhcdfjijagalaa
open Go.ChangeShapes Go.WideShapes Go.ChangeAt Go.RowKit Go.Joins
set_option linter.unusedVariables false
theorem open_is {H : Type} {enc : TypeId × Value → H} {w : World} {base fuel : Nat} {spare : Nat → Bool} {held : Bool} {v : Value} {x : DataW H × List MemPlace}
    (h : DataW.trod enc Try.prog w base spare held fuel 22 [v] = some x) : ∃ a n cap zs, v = .slice a n cap ∧ Is w a n cap zs := by
  rcases open_ints Try.underlying22 Try.underlying3 (by kernel_rfl) h with ⟨hcs, _⟩ | ⟨a, n, cap, zs, hcs, _, hl, hm, hz, _, hc, hw⟩
  · obtain rfl : v = .slice none 0 0 := by simpa using hcs
    exact ⟨none, 0, 0, [], rfl, Sl.none _ _⟩
  · obtain rfl : v = .slice (some a) n cap := by simpa using hcs
    have hzn : n ≤ zs.length := by rw [hz]; split <;> omega
    refine ⟨some a, n, cap, zs.take n, rfl, hl, hm, (by simp; omega), (fun e => by cases e), fun hn => ?_⟩
    obtain ⟨b, off, rfl, hcell⟩ := ints_at hc (by omega)
    refine ⟨b, off, rfl, fun j u hj => ?_⟩
    have hj' : j < n := by
      have := (List.getElem?_eq_some_iff.1 hj).1
      simp at this; omega
    have hjl : j < zs.length := by omega
    simp [hj', hjl] at hj
    rw [hcell j hjl, ← hj]
    simp [List.getD, hjl]
end Go.Proofs.Ythhcdfjijagalaa
