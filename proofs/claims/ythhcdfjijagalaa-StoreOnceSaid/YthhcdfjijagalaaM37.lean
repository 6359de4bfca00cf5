/- Joined, and what is not used struck: SpE. -/
import Derived.Test.YthhcdfjijagalaaM35
import Derived.Test.YthhcdfjijagalaaM36
namespace Go.Proofs.Ythhcdfjijagalaa
open Go.RowKit
set_option linter.unusedVariables false
set_option linter.unusedSimpArgs false
set_option maxRecDepth 100000
/-- memory of a store that is a value -/
structure StM (w : World) (base : Nat) (m : Mst) : Prop where
  dks : w.ownsRow base 61 2 m.dv m.D.length (rows dm2 m.D)
  held : ∀ x ∈ m.D, w.ownsRow base 90 2 x.v x.H.length (rows hm2 x.H)
  bytes : ∀ x ∈ m.D, ∀ h ∈ x.H, w.ownsRow base 5 1 h.v h.b.length (cb h.b)
  tail : w.ownsRow base 27 2 m.tv m.T.length (rbCells m.T)
  evs : ∀ r ∈ m.T, w.ownsRow base 32 3 (.slice r.a r.n r.cap) r.n (evCells r.evs) ∧ ∀ e ∈ r.evs, e.s.size ≤ maxLen
  seen : w.ownsRow base 3 1 m.sv m.seen.length (m.seen.map (Value.int .i64))
  accs : w.ownsRow base 65 4 m.av m.A.length (acCells m.A)
  aok : ∀ e ∈ m.A, e.s.size ≤ maxLen
theorem StR.mem {w : World} {base p : Nat} {m : Mst} (h : StR w base p m) : StM w base m := ⟨h.dks, h.held, h.bytes, h.tail, h.evs, h.seen, h.accs, h.aok⟩
theorem StM.below {w w' : World} {base : Nat} {m : Mst} (h : StM w base m) (hb : Below w.heap.size w w') : StM w' base m :=
  ⟨own_below h.dks hb, fun x hx => own_below (h.held x hx) hb, fun x hx y hy => own_below (h.bytes x hx y hy) hb, own_below h.tail hb, fun r hr => ⟨own_below (h.evs r hr).1 hb, (h.evs r hr).2⟩, own_below h.seen hb, own_below h.accs hb, h.aok⟩
def mst0 : Mst := ⟨0, 0, 0, .slice none 0 0, [], 0, .slice none 0 0, [], .slice none 0 0, [], 0, .slice none 0 0, []⟩
theorem StM.zero (w : World) (base : Nat) : StM w base mst0 :=
  ⟨World.ownsRow_nil _ _ _ _, (fun x hx => by cases hx), (fun x hx => by cases hx), World.ownsRow_nil _ _ _ _, (fun x hx => by cases hx), World.ownsRow_nil _ _ _ _, World.ownsRow_nil _ _ _ _, (fun x hx => by cases hx)⟩
def PlayRes (P : Sto.St × List Sto.An × Int) (w : World) (e : Ending) (w' : World) : Prop :=
  ∃ m av ac L er, e = .returned (.tuple #[stVal m, .slice av L.length ac, .int .i64 er]) ∧ StM w' w.heap.size m ∧ Ams w' w.heap.size (.slice av L.length ac) L ∧ P = (m.st, L.map Am.an, er) ∧ Below w.heap.size w w'
theorem PlayRes.bad {P : Sto.St × List Sto.An × Int} {w w' : World} {er : Int} (hP : P = (Sto.nil, [], er)) (hb : Below w.heap.size w w') : PlayRes P w (.returned (.tuple #[stVal mst0, .slice none 0 0, .int .i64 er])) w' :=
  ⟨mst0, none, 0, [], er, rfl, StM.zero _ _, Ams.nil _ _, hP, hb⟩
theorem Sto.fold_len (v : Vw.Vi) (l : List Evt.Ev) : (Vw.fold v l).v.accs.length ≤ 150 := by
  by_cases h : (Vw.fold v l).err = 0
  · obtain ⟨hg, e1⟩ := Vw.fold_ok h
    rw [e1] at h ⊢
    have h2 := (Vw.fo_good l v 0 hg h).1
    have := h2.len
    have := h2.hi
    omega
  · rw [Vw.fold_bad h]; decide
theorem Sto.step_view_len (s : Sto.St) (d : Sto.Do) : (Sto.step s d).2.view.accs.length ≤ 150 := by
  have h0 : Vw.none'.accs.length ≤ 150 := by decide
  by_cases h1 : d.kind = 1
  · rw [Sto.step_put h1]
    unfold Sto.put
    split
    · exact h0
    · split
      · exact h0
      · split
        · exact h0
        · split
          · exact h0
          · split
            · split <;> exact h0
            · exact h0
  · by_cases h5 : d.kind = 5 ∨ d.kind = 6 ∨ d.kind = 7
    · rw [Sto.step_harm h5]
      unfold Sto.harm
      split
      · exact h0
      · split
        · exact h0
        · split
          · split <;> exact h0
          · split
            · exact h0
            · split <;> exact h0
    · by_cases h8 : d.kind = 8
      · rw [Sto.step_scrub h8]; exact h0
      · by_cases h2 : d.kind = 2 ∨ d.kind = 3
        · have : (Sto.step s d).2 = Sto.read s d := by unfold Sto.step; rw [if_neg h1, if_pos h2]
          rw [this]
          unfold Sto.read
          split
          · exact h0
          · split
            · split <;> exact h0
            · split <;> exact h0
        · by_cases h4 : d.kind = 4
          · have : (Sto.step s d).2 = Sto.look s := by unfold Sto.step; rw [if_neg h1, if_neg h2, if_pos h4]
            rw [this]
            unfold Sto.look
            split
            · exact h0
            · exact Sto.fold_len _ _
          · unfold Sto.step
            rw [if_neg h1, if_neg h2, if_neg h4, if_neg h5, if_neg h8]
            split <;> exact h0
theorem info_Answer : (Try.prog.info? 50).map (fun i => (i.zero, i.size, i.bytes)) = some (some (.agg #[.int .i64 0, .int .i64 0, .slice none 0 0, .int .i64 0, .slice none 0 0]), 5, 72) := by kernel_rfl
theorem info_Disk2 : (Try.prog.info? 61).map (fun i => (i.zero, i.size, i.bytes)) = some (some (.agg #[.bool false, .slice none 0 0]), 2, 32) := by kernel_rfl
/-- a store's cells, all nought -/
def st0 : Array Value := #[.int .i64 0, .int .i64 0, .int .i64 0, .slice none 0 0, .int .i64 0, .slice none 0 0, .slice none 0 0, .int .i64 0, .slice none 0 0]
theorem set9_facts {w w1 : World} {b : Nat} {x0 x1 x2 x3 x4 x5 x6 x7 x8 : Value} {t : TypeId} {B : Nat} (hb : Below B w w1) (hle : B ≤ b) (h : w1.heap[b]? = some (.cells #[x0, x1, x2, x3, x4, x5, x6, x7, x8] t (0, 0))) (v0 v1 v2 v3 v4 v5 v6 v7 v8 : Value) :
    ∃ W, (((((((((w1.setCell ⟨b, 0, none⟩ v0).setCell ⟨b, 1, none⟩ v1).setCell ⟨b, 2, none⟩ v2).setCell ⟨b, 3, none⟩ v3).setCell ⟨b, 4, none⟩ v4).setCell ⟨b, 5, none⟩ v5).setCell ⟨b, 6, none⟩ v6).setCell ⟨b, 7, none⟩ v7).setCell ⟨b, 8, none⟩ v8) = W ∧ W.heap[b]? = some (.cells #[v0, v1, v2, v3, v4, v5, v6, v7, v8] t (0, 0)) ∧ Below B w W ∧ Only w1 W [b] := by
  obtain ⟨w2, e2⟩ : ∃ W, W = w1.setCell ⟨b, 0, none⟩ v0 := ⟨_, rfl⟩
  have h0 : w2.heap[b]? = some (.cells #[v0, x1, x2, x3, x4, x5, x6, x7, x8] t (0, 0)) := by rw [e2]; exact bset (i := 0) h v0
  have b0 : Below B w w2 := by rw [e2]; exact hb.setCell (p := ⟨b, 0, none⟩) hle v0
  have o0 : Only w1 w2 [b] := by rw [e2]; exact (Only.refl w1 [b]).setCell (a := ⟨b, 0, none⟩) (.inl (by simp)) v0
  obtain ⟨w3, e3⟩ : ∃ W, W = w2.setCell ⟨b, 1, none⟩ v1 := ⟨_, rfl⟩
  have h1 : w3.heap[b]? = some (.cells #[v0, v1, x2, x3, x4, x5, x6, x7, x8] t (0, 0)) := by rw [e3]; exact bset (i := 1) h0 v1
  have b1 : Below B w w3 := by rw [e3]; exact b0.setCell (p := ⟨b, 1, none⟩) hle v1
  have o1 : Only w1 w3 [b] := by rw [e3]; exact (o0).setCell (a := ⟨b, 1, none⟩) (.inl (by simp)) v1
  obtain ⟨w4, e4⟩ : ∃ W, W = w3.setCell ⟨b, 2, none⟩ v2 := ⟨_, rfl⟩
  have h2 : w4.heap[b]? = some (.cells #[v0, v1, v2, x3, x4, x5, x6, x7, x8] t (0, 0)) := by rw [e4]; exact bset (i := 2) h1 v2
  have b2 : Below B w w4 := by rw [e4]; exact b1.setCell (p := ⟨b, 2, none⟩) hle v2
  have o2 : Only w1 w4 [b] := by rw [e4]; exact (o1).setCell (a := ⟨b, 2, none⟩) (.inl (by simp)) v2
  obtain ⟨w5, e5⟩ : ∃ W, W = w4.setCell ⟨b, 3, none⟩ v3 := ⟨_, rfl⟩
  have h3 : w5.heap[b]? = some (.cells #[v0, v1, v2, v3, x4, x5, x6, x7, x8] t (0, 0)) := by rw [e5]; exact bset (i := 3) h2 v3
  have b3 : Below B w w5 := by rw [e5]; exact b2.setCell (p := ⟨b, 3, none⟩) hle v3
  have o3 : Only w1 w5 [b] := by rw [e5]; exact (o2).setCell (a := ⟨b, 3, none⟩) (.inl (by simp)) v3
  obtain ⟨w6, e6⟩ : ∃ W, W = w5.setCell ⟨b, 4, none⟩ v4 := ⟨_, rfl⟩
  have h4 : w6.heap[b]? = some (.cells #[v0, v1, v2, v3, v4, x5, x6, x7, x8] t (0, 0)) := by rw [e6]; exact bset (i := 4) h3 v4
  have b4 : Below B w w6 := by rw [e6]; exact b3.setCell (p := ⟨b, 4, none⟩) hle v4
  have o4 : Only w1 w6 [b] := by rw [e6]; exact (o3).setCell (a := ⟨b, 4, none⟩) (.inl (by simp)) v4
  obtain ⟨w7, e7⟩ : ∃ W, W = w6.setCell ⟨b, 5, none⟩ v5 := ⟨_, rfl⟩
  have h5 : w7.heap[b]? = some (.cells #[v0, v1, v2, v3, v4, v5, x6, x7, x8] t (0, 0)) := by rw [e7]; exact bset (i := 5) h4 v5
  have b5 : Below B w w7 := by rw [e7]; exact b4.setCell (p := ⟨b, 5, none⟩) hle v5
  have o5 : Only w1 w7 [b] := by rw [e7]; exact (o4).setCell (a := ⟨b, 5, none⟩) (.inl (by simp)) v5
  obtain ⟨w8, e8⟩ : ∃ W, W = w7.setCell ⟨b, 6, none⟩ v6 := ⟨_, rfl⟩
  have h6 : w8.heap[b]? = some (.cells #[v0, v1, v2, v3, v4, v5, v6, x7, x8] t (0, 0)) := by rw [e8]; exact bset (i := 6) h5 v6
  have b6 : Below B w w8 := by rw [e8]; exact b5.setCell (p := ⟨b, 6, none⟩) hle v6
  have o6 : Only w1 w8 [b] := by rw [e8]; exact (o5).setCell (a := ⟨b, 6, none⟩) (.inl (by simp)) v6
  obtain ⟨w9, e9⟩ : ∃ W, W = w8.setCell ⟨b, 7, none⟩ v7 := ⟨_, rfl⟩
  have h7 : w9.heap[b]? = some (.cells #[v0, v1, v2, v3, v4, v5, v6, v7, x8] t (0, 0)) := by rw [e9]; exact bset (i := 7) h6 v7
  have b7 : Below B w w9 := by rw [e9]; exact b6.setCell (p := ⟨b, 7, none⟩) hle v7
  have o7 : Only w1 w9 [b] := by rw [e9]; exact (o6).setCell (a := ⟨b, 7, none⟩) (.inl (by simp)) v7
  obtain ⟨w10, e10⟩ : ∃ W, W = w9.setCell ⟨b, 8, none⟩ v8 := ⟨_, rfl⟩
  have h8 : w10.heap[b]? = some (.cells #[v0, v1, v2, v3, v4, v5, v6, v7, v8] t (0, 0)) := by rw [e10]; exact bset (i := 8) h7 v8
  have b8 : Below B w w10 := by rw [e10]; exact b7.setCell (p := ⟨b, 8, none⟩) hle v8
  have o8 : Only w1 w10 [b] := by rw [e10]; exact (o7).setCell (a := ⟨b, 8, none⟩) (.inl (by simp)) v8
  exact ⟨w10, by rw [e10, e9, e8, e7, e6, e5, e4, e3, e2], h8, b8, o8⟩
def dm0 : Dm := ⟨false, none, 0, []⟩
theorem made_disks (n : Nat) : (madeCells (Value.cells (.agg #[.bool false, .slice none 0 0])) (n * 2)).toList = rows dm2 (List.replicate n dm0) := by
  simp only [madeCells, Value.cells]
  apply List.ext_getElem
  · rw [rows_length dm2_len]; simp
  · intro i h1 h2
    have hi : i < n * 2 := by simpa using h1
    have h3 := rows_get dm2_len (List.replicate n dm0) (i / 2) (i % 2) (by rw [List.length_replicate]; omega) (by omega)
    rw [show i / 2 * 2 + i % 2 = i by omega, List.getElem_replicate] at h3
    rw [List.getElem?_eq_getElem h2] at h3
    rcases Nat.mod_two_eq_zero_or_one i with e | e
    · rw [e] at h3
      have h3 := Option.some.inj h3
      simp [e]; exact h3.symm
    · rw [e] at h3
      have h3 := Option.some.inj h3
      simp [e]; exact h3.symm
theorem run_disks (d s : Nat) (h : d + s ≤ 12) (W : World) : (Instr.makeSlice 38 (.int .i64 ((d : Int) + (s : Int))) (.int .i64 ((d : Int) + (s : Int)))).run Try.prog W = .ok (.slice (some ⟨W.heap.size, 0, none⟩) (d + s) (d + s)) (W.alloc (.cells (madeCells (Value.cells (.agg #[.bool false, .slice none 0 0])) ((d + s) * 2)) 61)) := by
  obtain ⟨i, hi, hz, h1, h2⟩ := info_parts1 info_Disk2
  have := run_makeSlice (P := Try.prog) W 38 61 i _ Try.underlying38 hi hz .i64 .i64 ((d : Int) + (s : Int)) ((d : Int) + (s : Int)) (by omega) (by omega) (by rw [h1]; omega) (by rw [h2]; omega) (by omega)
  rw [this, h1]
  have e : ((d : Int) + (s : Int)).toNat = d + s := by omega
  rw [e]
theorem play_start {w wb : World} {p d s : Nat} {b : Int} (h12 : d + s ≤ 12) (p2 : wb.heap[p]? = some (.cells #[.int .i64 0, .int .i64 0, .int .i64 0, .slice none 0 0, .int .i64 0, .slice none 0 0, .slice none 0 0, .int .i64 0, .slice none 0 0] 80 (0, 0))) (v2 : wb.heap[w.heap.size + 1]? = some (.cells st0 44 (0, 0))) (b2 : Below w.heap.size w wb) (hle : w.heap.size ≤ p) (hsz : wb.heap.size = p + 1) :
    ∃ D, (((((wb.setCell ⟨p, 0, none⟩ (.int .i64 (d : Int))).setCell ⟨p, 1, none⟩ (.int .i64 (s : Int))).setCell ⟨p, 2, none⟩ (.int .i64 b)).setCell ⟨p, 3, none⟩ (.slice (some ⟨p + 1, 0, none⟩) (d + s) (d + s))).alloc (.cells (madeCells #[.bool false, .slice none 0 0] ((d + s) * 2)) 61)).drew.heap[p]? = some (.cells #[.int .i64 (d : Int), .int .i64 (s : Int), .int .i64 b, .slice (some ⟨D, 0, none⟩) (d + s) (d + s), .int .i64 0, .slice none 0 0, .slice none 0 0, .int .i64 0, .slice none 0 0] 80 (0, 0)) ∧
      (((((wb.setCell ⟨p, 0, none⟩ (.int .i64 (d : Int))).setCell ⟨p, 1, none⟩ (.int .i64 (s : Int))).setCell ⟨p, 2, none⟩ (.int .i64 b)).setCell ⟨p, 3, none⟩ (.slice (some ⟨p + 1, 0, none⟩) (d + s) (d + s))).alloc (.cells (madeCells #[.bool false, .slice none 0 0] ((d + s) * 2)) 61)).drew.ownsRow w.heap.size 61 2 (.slice (some ⟨D, 0, none⟩) (d + s) (d + s)) (d + s) (rows dm2 (List.replicate (d + s) dm0)) ∧
      Below w.heap.size w (((((wb.setCell ⟨p, 0, none⟩ (.int .i64 (d : Int))).setCell ⟨p, 1, none⟩ (.int .i64 (s : Int))).setCell ⟨p, 2, none⟩ (.int .i64 b)).setCell ⟨p, 3, none⟩ (.slice (some ⟨p + 1, 0, none⟩) (d + s) (d + s))).alloc (.cells (madeCells #[.bool false, .slice none 0 0] ((d + s) * 2)) 61)).drew ∧
      (((((wb.setCell ⟨p, 0, none⟩ (.int .i64 (d : Int))).setCell ⟨p, 1, none⟩ (.int .i64 (s : Int))).setCell ⟨p, 2, none⟩ (.int .i64 b)).setCell ⟨p, 3, none⟩ (.slice (some ⟨p + 1, 0, none⟩) (d + s) (d + s))).alloc (.cells (madeCells #[.bool false, .slice none 0 0] ((d + s) * 2)) 61)).drew.heap[w.heap.size + 1]? = some (.cells st0 44 (0, 0)) := by
  obtain ⟨W, hW⟩ : ∃ W, W = (((wb.setCell ⟨p, 0, none⟩ (.int .i64 (d : Int))).setCell ⟨p, 1, none⟩ (.int .i64 (s : Int))).setCell ⟨p, 2, none⟩ (.int .i64 b)).setCell ⟨p, 3, none⟩ (.slice (some ⟨p + 1, 0, none⟩) (d + s) (d + s)) := ⟨_, rfl⟩
  have hO : Only wb W [p] := by rw [hW]; exact ((((Only.refl wb [p]).setCell (a := ⟨p, 0, none⟩) (.inl (by simp)) _).setCell (a := ⟨p, 1, none⟩) (.inl (by simp)) _).setCell (a := ⟨p, 2, none⟩) (.inl (by simp)) _).setCell (a := ⟨p, 3, none⟩) (.inl (by simp)) _
  have hB : Below w.heap.size w W := by rw [hW]; exact (((b2.setCell (p := ⟨p, 0, none⟩) hle _).setCell (p := ⟨p, 1, none⟩) hle _).setCell (p := ⟨p, 2, none⟩) hle _).setCell (p := ⟨p, 3, none⟩) hle _
  have hP : W.heap[p]? = some (.cells #[.int .i64 (d : Int), .int .i64 (s : Int), .int .i64 b, .slice (some ⟨p + 1, 0, none⟩) (d + s) (d + s), .int .i64 0, .slice none 0 0, .slice none 0 0, .int .i64 0, .slice none 0 0] 80 (0, 0)) := by
    have q0 := bset (i := 0) p2 (.int .i64 (d : Int))
    have q1 := bset (i := 1) q0 (.int .i64 (s : Int))
    have q2 := bset (i := 2) q1 (.int .i64 b)
    have q3 := bset (i := 3) q2 (.slice (some ⟨p + 1, 0, none⟩) (d + s) (d + s))
    rw [hW]; exact q3
  have hS : W.heap.size = p + 1 := by rw [hW, World.size_setCell, World.size_setCell, World.size_setCell, World.size_setCell, hsz]
  rw [← hW]
  have hne : p ≠ w.heap.size + 1 := heap_ne p2 v2 (by decide)
  have hV : W.heap[w.heap.size + 1]? = some (.cells st0 44 (0, 0)) := hO.blk v2 (by intro h; exact hne (by have := List.mem_singleton.1 h; exact this.symm))
  refine ⟨p + 1, blk_old hP, ?_, ?_, blk_old hV⟩
  · have h63 : d + s ≤ maxLen := by unfold maxLen; omega
    have := World.ownsRow_lit (e := 61) (base := w.heap.size) (size := 2) W (madeCells #[.bool false, .slice none 0 0] ((d + s) * 2)) (d + s) hB.size h63 (size_madeCells _ _)
    rw [hS] at this
    rw [← made_disks]
    exact this
  · exact Below.drew (hB.alloc hB.size _)
theorem ans_keep {w1 V5 : World} {base' sz n : Nat} {v : Value} {xs : List Value} (hv : w1.ownsRow base' 50 sz v n xs) (hO : Only w1 V5 v.ownBlock.toList) :
    (∀ {base : Nat} {e : TypeId} {sz n : Nat} {v : Value} {xs : List Value}, w1.ownsRow base e sz v n xs → e ≠ 50 → V5.ownsRow base e sz v n xs) ∧ (∀ (base p : Nat) (m : Mst), StR w1 base p m → StR V5 base p m) ∧
    ∀ (k : Nat) (cs : Array Value) (t : TypeId), w1.heap[k]? = some (.cells cs t (0, 0)) → t ≠ 50 → V5.heap[k]? = some (.cells cs t (0, 0)) := by
  cases hb : v.ownBlock with
  | none =>
    rw [hb] at hO
    have hB : Below w1.heap.size w1 V5 := hO.isBelow (Nat.le_refl _) (fun x hx => by simp at hx)
    exact ⟨fun h _ => own_below h hB, fun _ _ _ h => h.below hB, fun _ _ _ h _ => blk_below h hB⟩
  | some g =>
    rw [hb] at hO
    obtain ⟨cs, hg⟩ := own_kind hv hb
    have hO' : Only w1 V5 [g] := hO
    exact ⟨fun h hne => hO'.own h (fun x hx he => by
      obtain rfl : x = g := by simpa using hx
      exact own_blk_ne h hg (fun e => hne e) he), fun _ _ _ h => h.off hO' hg (by decide), fun k cs' t h hne => hO'.blk h (fun hm => by
      obtain rfl : k = g := by simpa using hm
      exact heap_ne h hg hne rfl)⟩
set_option maxHeartbeats 4000000 in
theorem stPlay_bad (d s b : Int) (a : Option Addr) (n cap : Nat) (l : List Sto.Do) (w : World) (hD : Dos w a n cap l) (hw : Sto.wrongS d s b ≠ 0 ∨ 80 < n) :
    Calls Try.prog 19 #[.agg #[.int .i64 d, .int .i64 s, .int .i64 b], .slice a n cap] w (PlayRes (Sto.play d s b l) w) := by
  have HN := hid hD.cnt
  have HV := hid (blk_new (w.alloc (.cells #[.int .i64 d, .int .i64 s, .int .i64 b] 37)) (.cells st0 44))
  have HW := hid (((Below.refl w.heap.size w).alloc (Nat.le_refl _) (.cells #[.int .i64 d, .int .i64 s, .int .i64 b] 37)).alloc (by simp) (.cells st0 44))
  rw [World.size_alloc] at HV
  unfold st0 at HV HW
  clear hD
  by_cases hE : Sto.wrongS d s b = 0
  · have hn : 80 < n := hw.resolve_left (fun e => e hE)
    have hP := hid (show Sto.play d s b l = (Sto.nil, [], 5) from by unfold Sto.play; rw [if_neg (fun e => e hE), if_pos (by rw [HN.out]; exact hn)])
    have DW := hid (fun W => stWrong_call d s b W)
    rw [hE] at DW
    have t1 : (80 : Int) < (n : Int) := by omega
    replace hE := hid hE
    clear hw
    go_enter Try.func19, Try.ntmps19
    go_wp2_with fail
    go_at_call 30; refine (DW.out _).mono ?_; rintro e w1 ⟨rfl, b1⟩
    have v1 := blk_below HV.out b1
    have bA := bnext HW.out b1
    clear b1
    have r0 : w1.cell? ⟨w.heap.size + 1, 0, none⟩ = some (.int .i64 0) := blk_cell v1
    have r1 : w1.cell? ⟨w.heap.size + 1, 1, none⟩ = some (.int .i64 0) := blk_cell v1
    have r2 : w1.cell? ⟨w.heap.size + 1, 2, none⟩ = some (.int .i64 0) := blk_cell v1
    have r3 : w1.cell? ⟨w.heap.size + 1, 3, none⟩ = some (.slice none 0 0) := blk_cell v1
    have r4 : w1.cell? ⟨w.heap.size + 1, 4, none⟩ = some (.int .i64 0) := blk_cell v1
    have r5 : w1.cell? ⟨w.heap.size + 1, 5, none⟩ = some (.slice none 0 0) := blk_cell v1
    have r6 : w1.cell? ⟨w.heap.size + 1, 6, none⟩ = some (.slice none 0 0) := blk_cell v1
    have r7 : w1.cell? ⟨w.heap.size + 1, 7, none⟩ = some (.int .i64 0) := blk_cell v1
    have r8 : w1.cell? ⟨w.heap.size + 1, 8, none⟩ = some (.slice none 0 0) := blk_cell v1
    have f0 : ∀ j, w1.frozen? ⟨w.heap.size + 1, j, none⟩ = false := fun j => blk_free v1
    go_wp2_with fail
    obtain ⟨W, hW, q, hBW, hOW⟩ := set9_facts (b := w.heap.size + 1) bA (Nat.le_succ _) v1 (.int .i64 0) (.int .i64 0) (.int .i64 0) (.slice none 0 0) (.int .i64 0) (.slice none 0 0) (.slice none 0 0) (.int .i64 0) (.slice none 0 0)
    rw [hW]
    have q0 := blk_cell (i := 0) q
    have q1 := blk_cell (i := 1) q
    have q2 := blk_cell (i := 2) q
    have q3 := blk_cell (i := 3) q
    have q4 := blk_cell (i := 4) q
    have q5 := blk_cell (i := 5) q
    have q6 := blk_cell (i := 6) q
    have q7 := blk_cell (i := 7) q
    have q8 := blk_cell (i := 8) q
    refine bodyPost_ret (v := .tuple #[stVal mst0, .slice none 0 0, .int .i64 5]) (by unfold stVal mst0; simp [results, Try.results19, go_sem, q0, q1, q2, q3, q4, q5, q6, q7, q8]) rfl (PlayRes.bad hP.out hBW)
  · have hP := hid (show Sto.play d s b l = (Sto.nil, [], Sto.wrongS d s b) from by unfold Sto.play; rw [if_pos hE])
    have DW := hid (fun W => stWrong_call d s b W)
    obtain ⟨E, hEE⟩ : ∃ E, E = Sto.wrongS d s b := ⟨_, rfl⟩
    rw [← hEE] at DW hP hE
    have t1 : (E != 0) = true := bne_iff_ne.2 hE
    replace hE := hid hE
    clear hw hEE
    go_enter Try.func19, Try.ntmps19
    go_wp2_with fail
    go_at_call 30; refine (DW.out _).mono ?_; rintro e w1 ⟨rfl, b1⟩
    have v1 := blk_below HV.out b1
    have bA := bnext HW.out b1
    clear b1
    have r0 : w1.cell? ⟨w.heap.size + 1, 0, none⟩ = some (.int .i64 0) := blk_cell v1
    have r1 : w1.cell? ⟨w.heap.size + 1, 1, none⟩ = some (.int .i64 0) := blk_cell v1
    have r2 : w1.cell? ⟨w.heap.size + 1, 2, none⟩ = some (.int .i64 0) := blk_cell v1
    have r3 : w1.cell? ⟨w.heap.size + 1, 3, none⟩ = some (.slice none 0 0) := blk_cell v1
    have r4 : w1.cell? ⟨w.heap.size + 1, 4, none⟩ = some (.int .i64 0) := blk_cell v1
    have r5 : w1.cell? ⟨w.heap.size + 1, 5, none⟩ = some (.slice none 0 0) := blk_cell v1
    have r6 : w1.cell? ⟨w.heap.size + 1, 6, none⟩ = some (.slice none 0 0) := blk_cell v1
    have r7 : w1.cell? ⟨w.heap.size + 1, 7, none⟩ = some (.int .i64 0) := blk_cell v1
    have r8 : w1.cell? ⟨w.heap.size + 1, 8, none⟩ = some (.slice none 0 0) := blk_cell v1
    have f0 : ∀ j, w1.frozen? ⟨w.heap.size + 1, j, none⟩ = false := fun j => blk_free v1
    go_wp2_with fail
    obtain ⟨W, hW, q, hBW, hOW⟩ := set9_facts (b := w.heap.size + 1) bA (Nat.le_succ _) v1 (.int .i64 0) (.int .i64 0) (.int .i64 0) (.slice none 0 0) (.int .i64 0) (.slice none 0 0) (.slice none 0 0) (.int .i64 0) (.slice none 0 0)
    rw [hW]
    have q0 := blk_cell (i := 0) q
    have q1 := blk_cell (i := 1) q
    have q2 := blk_cell (i := 2) q
    have q3 := blk_cell (i := 3) q
    have q4 := blk_cell (i := 4) q
    have q5 := blk_cell (i := 5) q
    have q6 := blk_cell (i := 6) q
    have q7 := blk_cell (i := 7) q
    have q8 := blk_cell (i := 8) q
    refine bodyPost_ret (v := .tuple #[stVal mst0, .slice none 0 0, .int .i64 E]) (by unfold stVal mst0; simp [results, Try.results19, go_sem, q0, q1, q2, q3, q4, q5, q6, q7, q8]) rfl (PlayRes.bad hP.out hBW)
set_option maxHeartbeats 4000000 in
theorem stPlay_ok (d s : Nat) (b : Int) (a : Option Addr) (n cap : Nat) (l : List Sto.Do) (w : World) (hD : Dos w a n cap l) (hw : Sto.wrongS d s b = 0) (hn : n ≤ 80) :
    Calls Try.prog 19 #[.agg #[.int .i64 (d : Int), .int .i64 (s : Int), .int .i64 b], .slice a n cap] w (PlayRes (Sto.play d s b l) w) := by
  have HN := hid hD.cnt
  have HV := hid (blk_new (w.alloc (.cells #[.int .i64 (d : Int), .int .i64 (s : Int), .int .i64 b] 37)) (.cells st0 44))
  have HW := hid (((Below.refl w.heap.size w).alloc (Nat.le_refl _) (.cells #[.int .i64 (d : Int), .int .i64 (s : Int), .int .i64 b] 37)).alloc (by simp) (.cells st0 44))
  have HU := hid (blk_old (o' := .cells st0 44) (blk_new w (.cells #[.int .i64 (d : Int), .int .i64 (s : Int), .int .i64 b] 37)))
  rw [World.size_alloc] at HV
  unfold st0 at HV HW HU
  have hok := Sto.Ok.start hw
  have h1 := hok.d
  have h2 := hok.sp
  have h1 : 1 ≤ (d : Int) ∧ (d : Int) ≤ 8 := h1
  have h2 : 0 ≤ (s : Int) ∧ (s : Int) ≤ 4 := h2
  have hOK := hid hok
  have hds : d + s ≤ 12 := by omega
  have hP := hid (Sto.play_of hw (l := l) (by rw [HN.out]; exact hn))
  have DW := hid (fun W => stWrong_call d s b W)
  rw [hw] at DW
  have t1 : ¬ (80 : Int) < (n : Int) := by omega
  replace hw := hid hw
  have HD := hid hD
  clear hD hok
  go_enter Try.func19, Try.ntmps19
  go_wp2_with fail
  go_at_call 30; refine (DW.out _).mono ?_; rintro e w1 ⟨rfl, b1⟩
  have v1 := blk_below HV.out b1
  have u1 := blk_below HU.out b1
  have bA := bnext HW.out b1
  clear b1 DW
  go_upto_region 7 with (fail)
  have v2 := blk_old (o' := .cells st0 80) v1
  have u2 := blk_old (o' := .cells st0 80) u1
  have p2 := blk_new w1 (.cells st0 80)
  have b2 := bA.alloc bA.size (.cells st0 80)
  unfold st0 at v2 u2 p2 b2
  obtain ⟨wb, hwb⟩ : ∃ wb, wb = w1.alloc (.cells #[.int .i64 0, .int .i64 0, .int .i64 0, .slice none 0 0, .int .i64 0, .slice none 0 0, .slice none 0 0, .int .i64 0, .slice none 0 0] 80) := ⟨_, rfl⟩
  rw [← hwb] at v2 u2 p2 b2 ⊢
  have hsz : wb.heap.size = w1.heap.size + 1 := by rw [hwb]; simp
  have hw1 := bA.size
  obtain ⟨p, hp⟩ : ∃ p, p = w1.heap.size := ⟨_, rfl⟩
  rw [← hp] at p2 hsz hw1 ⊢
  clear hwb hp
  have s0 : wb.cell? ⟨w.heap.size, 0, none⟩ = some (.int .i64 (d : Int)) := blk_cell u2
  have s1 : wb.cell? ⟨w.heap.size, 1, none⟩ = some (.int .i64 (s : Int)) := blk_cell u2
  have s2 : wb.cell? ⟨w.heap.size, 2, none⟩ = some (.int .i64 b) := blk_cell u2
  have RD := run_disks d s hds
  have hwr : IntKind.i64.wrap ((d : Int) + (s : Int)) = (d : Int) + (s : Int) := IntWalk.i64_in _ (by omega)
  have hne1 : p ≠ w.heap.size := heap_ne p2 u2 (by decide)
  have hne2 : w.heap.size ≠ p := fun e => hne1 e.symm
  have sf : ∀ j, wb.frozen? ⟨p, j, none⟩ = false := fun j => blk_free p2
  have x0 : wb.cell? ⟨p, 0, none⟩ = some (.int .i64 0) := blk_cell p2
  have x1 : wb.cell? ⟨p, 1, none⟩ = some (.int .i64 0) := blk_cell p2
  have x2 : wb.cell? ⟨p, 2, none⟩ = some (.int .i64 0) := blk_cell p2
  have x3 : wb.cell? ⟨p, 3, none⟩ = some (.slice none 0 0) := blk_cell p2
  have hpp : p < wb.heap.size := by omega
  have hwp : w.heap.size < wb.heap.size := by omega
  have k0 : ∀ o : Obj, (wb.alloc o).cell? ⟨w.heap.size, 0, none⟩ = some (.int .i64 (d : Int)) := fun o => (cell_old hwp).trans s0
  have k1 : ∀ o : Obj, (wb.alloc o).cell? ⟨w.heap.size, 1, none⟩ = some (.int .i64 (s : Int)) := fun o => (cell_old hwp).trans s1
  have k2 : ∀ o : Obj, (wb.alloc o).cell? ⟨w.heap.size, 2, none⟩ = some (.int .i64 b) := fun o => (cell_old hwp).trans s2
  have y0 : ∀ o : Obj, (wb.alloc o).cell? ⟨p, 0, none⟩ = some (.int .i64 0) := fun o => (cell_old hpp).trans x0
  have y1 : ∀ o : Obj, (wb.alloc o).cell? ⟨p, 1, none⟩ = some (.int .i64 0) := fun o => (cell_old hpp).trans x1
  have y2 : ∀ o : Obj, (wb.alloc o).cell? ⟨p, 2, none⟩ = some (.int .i64 0) := fun o => (cell_old hpp).trans x2
  have y3 : ∀ o : Obj, (wb.alloc o).cell? ⟨p, 3, none⟩ = some (.slice none 0 0) := fun o => (cell_old hpp).trans x3
  have yf : ∀ (o : Obj) (j : Nat), (wb.alloc o).frozen? ⟨p, j, none⟩ = false := fun o j => (frozen_old hpp).trans (sf j)
  go_cut [] from 24 to 38 (fun wx => ∃ D, wx.heap[p]? = some (.cells #[.int .i64 (d : Int), .int .i64 (s : Int), .int .i64 b, .slice (some ⟨D, 0, none⟩) (d + s) (d + s), .int .i64 0, .slice none 0 0, .slice none 0 0, .int .i64 0, .slice none 0 0] 80 (0, 0)) ∧ wx.ownsRow w.heap.size 61 2 (.slice (some ⟨D, 0, none⟩) (d + s) (d + s)) (d + s) (rows dm2 (List.replicate (d + s) dm0)) ∧ Below w.heap.size w wx ∧ wx.heap[w.heap.size + 1]? = some (.cells st0 44 (0, 0)))
  case first =>
    -- SLOW
    go_region_law (fail)
    all_goals (go_wp2_with fail; go_meet)
    all_goals exact play_start hds p2 v2 b2 hw1 hsz
    -- FAST sorry
  case rest =>
    obtain ⟨wD, rfl⟩ : ∃ wD : World, wD = wc := ⟨_, rfl⟩
    obtain ⟨D, c1, c2, c3, c4⟩ := hcut
    have hp1 : w.heap.size ≤ p := hw1
    clear k0 k1 k2 y0 y1 y2 y3 yf x0 x1 x2 x3 s0 s1 s2 sf u1 u2 v1 v2 p2 b2 bA RD
    obtain ⟨m0, hm0⟩ : ∃ m0 : Mst, m0 = ⟨d, s, b, .slice (some ⟨D, 0, none⟩) (d + s) (d + s), List.replicate (d + s) dm0, 0, .slice none 0 0, [], .slice none 0 0, [], 0, .slice none 0 0, []⟩ := ⟨_, rfl⟩
    have hS0 : StR wD w.heap.size p m0 := by
      rw [hm0]
      refine ⟨c1, hp1, ?_, fun x hx => ?_, fun x hx => ?_, ⟨fun x hx => ?_, fun i j x y k hij hi hj hk => ?_, fun i j x y k hij hi hj hk => ?_⟩, World.ownsRow_nil _ _ _ _, (fun r hr => by cases hr), World.ownsRow_nil _ _ _ _, World.ownsRow_nil _ _ _ _, (fun r hr => by cases hr)⟩
      · show wD.ownsRow w.heap.size 61 2 _ (List.replicate (d + s) dm0).length _
        rw [List.length_replicate]; exact c2
      · obtain ⟨_, rfl⟩ := List.mem_replicate.1 hx
        exact World.ownsRow_nil _ _ _ _
      · obtain ⟨_, rfl⟩ := List.mem_replicate.1 hx
        intro h hh; cases hh
      · obtain ⟨_, rfl⟩ := List.mem_replicate.1 hx
        exact List.nodup_nil
      · obtain ⟨_, rfl⟩ := List.mem_replicate.1 (List.mem_of_getElem? hi)
        cases hk
      · obtain ⟨_, rfl⟩ := List.mem_replicate.1 (List.mem_of_getElem? hi)
        cases hk
    have hst0 : m0.st = Sto.start d s b := by
      rw [hm0]
      unfold Mst.st Sto.start Vw.none'
      rw [List.map_replicate, show ((d : Int) + (s : Int)).toNat = d + s by omega]
      rfl
    have HS0 := hid hS0
    have HST0 := hid hst0
    have HC3 := hid c3
    have HC4 := hid c4
    clear hS0 hst0 c1 c2 c3 c4 hm0
    go_wp2_with fail
    go_loopg [9, 41] n (fun g s9 s41 wr => ∃ (k : Nat) (m : Mst) (L : List Am) (av : Option Addr) (ac : Nat), g = n - k ∧ k ≤ n ∧ s41 = .int .i64 (k : Int) ∧ s9 = .slice av L.length ac ∧ L.length = k ∧ StR wr w.heap.size p m ∧ m.st = Sto.stt (Sto.start d s b) l k ∧ L.map Am.an = (Sto.run (Sto.start d s b) (l.take k)).2 ∧ Ams wr w.heap.size (.slice av L.length ac) L ∧ Below w.heap.size w wr ∧ wr.heap[w.heap.size + 1]? = some (.cells st0 44 (0, 0)))
    case atStart => exact ⟨0, m0, [], none, 0, rfl, by omega, rfl, rfl, rfl, HS0.out, HST0.out, rfl, Ams.nil _ _, HC3.out, HC4.out⟩
    case round =>
      obtain ⟨k, m, L, av, ac, rfl, hk, rfl, rfl, hLk, hS, hst, hLa, hA, hB, hV⟩ := hrel
      have HS := hid hS
      have HST := hid hst
      have HLA := hid hLa
      have HA := hid hA
      have HB := hid hB
      have HV2 := hid hV
      have HLK := hid hLk
      have hL80 : L.length ≤ 80 := by omega
      clear hLk hS hst hLa hA hB hV
      have hsz := HB.out.size
      by_cases hlt : k < n
      · have hkl : k < l.length := by rw [HN.out]; exact hlt
        obtain ⟨db, off, rfl, hdo⟩ := HD.out.addr (by omega)
        have hDk := hid (fun (W : World) (hW : Below w.heap.size w W) => (hdo k hkl).below hW)
        have hOk : Sto.Ok m.st k := by
          rw [HST.out]
          have := hOK.out.run (l.take k)
          rw [List.length_take, Nat.zero_add, Nat.min_eq_left (by omega)] at this
          exact this
        have DO := hid (stdo_call w.heap.size p m k db (off + k * 9) l[k] wr HS.out hOk (by omega) (hDk.out wr HB.out) (fun W hW => hDk.out W (HB.out.trans hW)))
        have hvl := Sto.step_view_len m.st l[k]
        have i0 : (0 : Int) ≤ (k : Int) := by omega
        have i1 : (k : Int) < (n : Int) := by omega
        have hnx := hid (Sto.stt_succ (Sto.start d s b) l k hkl)
        have hla := hid (Sto.run_snoc' (Sto.start d s b) (l.take k) l[k])
        have htk := hid (Sto.take_snoc l k hkl)
        obtain ⟨an, han⟩ : ∃ an, an = (Sto.step m.st l[k]).2 := ⟨_, rfl⟩
        rw [← han] at hvl
        replace han := hid han
        clear hdo hDk hOk
        go_wp2_with fail
        go_at_call 31; refine DO.out.mono ?_; rintro e w1 ⟨v, m', rfl, hv, X1, hm1, K1, B1⟩
        rw [← han.out] at hv
        obtain ⟨ea, ec, aa, ac', rfl, hE, hAc⟩ := hv
        have XX := hid X1
        have KK := hid K1
        have BB := hid (HB.out.trans B1)
        have EE := hid hE
        have AA := hid hAc
        replace hm1 := hid hm1
        have h1sz := BB.out.size
        clear X1 K1 B1 hE hAc DO
        unfold ansVal
        have V1 := hid (KK.out.block _ _ 44 HV2.out (by decide))
        have DC := hid (cloneAcc_call aa an.view.accs.length ac' an.view.accs (w1.alloc (.cells #[.int .i64 an.err, .int .i64 an.n, .slice ea an.evs.length ec, .int .i64 an.view.upto, .slice aa an.view.accs.length ac'] 50)) (AA.out.as.below ((Below.refl _ _).alloc (Nat.le_refl _) _)) (by omega))
        have c4 : (w1.alloc (.cells #[.int .i64 an.err, .int .i64 an.n, .slice ea an.evs.length ec, .int .i64 an.view.upto, .slice aa an.view.accs.length ac'] 50)).cell? ⟨w1.heap.size, 4, none⟩ = some (.slice aa an.view.accs.length ac') := blk_cell (i := 4) (blk_new w1 _)
        go_wp2_with fail
        go_at_call 32; refine DC.out.mono ?_; rintro e w2 ⟨v2, rfl, b2, o2⟩
        obtain ⟨a2, c2, rfl, -⟩ := own_sl o2
        have B0 := blk_below (blk_new w1 (.cells #[.int .i64 an.err, .int .i64 an.n, .slice ea an.evs.length ec, .int .i64 an.view.upto, .slice aa an.view.accs.length ac'] 50)) b2
        have h2sz := b2.size
        rw [World.size_alloc] at h2sz
        have HO2 := hid (((Only.refl w1 (Value.slice av L.length ac).ownBlock.toList).alloc (.cells #[.int .i64 an.err, .int .i64 an.n, .slice ea an.evs.length ec, .int .i64 an.view.upto, .slice aa an.view.accs.length ac'] 50)).below b2)
        have OU := hid (KK.out.own HA.out.own (by decide))
        have OU3 := hid (ownsRow_setCell_other (own_below (OU.out.alloc (.cells #[.int .i64 an.err, .int .i64 an.n, .slice ea an.evs.length ec, .int .i64 an.view.upto, .slice aa an.view.accs.length ac'] 50)) b2) (fun e => Nat.lt_irrefl w1.heap.size (OU.out.lt _ e).2) (.slice a2 an.view.accs.length c2) (a := ⟨w1.heap.size, 4, none⟩))
        have r0 : w2.cell? ⟨w1.heap.size, 0, none⟩ = some (.int .i64 an.err) := blk_cell B0
        have r1 : w2.cell? ⟨w1.heap.size, 1, none⟩ = some (.int .i64 an.n) := blk_cell B0
        have r2 : w2.cell? ⟨w1.heap.size, 2, none⟩ = some (.slice ea an.evs.length ec) := blk_cell B0
        have r3 : w2.cell? ⟨w1.heap.size, 3, none⟩ = some (.int .i64 an.view.upto) := blk_cell B0
        have r4 : w2.cell? ⟨w1.heap.size, 4, none⟩ = some (.slice aa an.view.accs.length ac') := blk_cell B0
        have f0 : ∀ j, w2.frozen? ⟨w1.heap.size, j, none⟩ = false := fun j => blk_free B0
        have HB2 := hid b2
        have HO2' := hid o2
        have HB0 := hid B0
        clear B0 b2 o2 c4 DC
        have SS := Src.ofLit (P := Try.prog) (tx := 45) (w2.setCell ⟨w1.heap.size, 4, none⟩ (.slice a2 an.view.accs.length c2)) #[.int .i64 an.err, .int .i64 an.n, .slice ea an.evs.length ec, .int .i64 an.view.upto, .slice a2 an.view.accs.length c2] 50 1 5 Try.underlying45 rfl (by simp [Value.oneCell'])
        rw [World.size_setCell] at SS
        replace SS := hid SS
        have OT1 := hid (OT.start (OU3.out.alloc (.cells #[.int .i64 an.err, .int .i64 an.n, .slice ea an.evs.length ec, .int .i64 an.view.upto, .slice a2 an.view.accs.length c2] 50)))
        go_wp2_with (at_builtin; refine wpList_append_t rfl (.tmp 55) (.tmp 57) 45 45 rfl w.heap.size 50 5 72 (.agg #[.int .i64 0, .int .i64 0, .slice none 0 0, .int .i64 0, .slice none 0 0]) Try.underlying45 info_Answer rfl (by decide) (.slice av L.length ac) L.length (rows am5 L) rfl OT1.out _ 1 _ rfl SS.out (by unfold maxLen; omega) (by omega) (by simp; omega) ?_; intro v5 w5 o5 g5)
        have HO5 := hid (((HO2.out.setCell (a := ⟨w1.heap.size, 4, none⟩) (.inr (Nat.le_refl _)) (.slice a2 an.view.accs.length c2)).alloc (.cells #[.int .i64 an.err, .int .i64 an.n, .slice ea an.evs.length ec, .int .i64 an.view.upto, .slice a2 an.view.accs.length c2] 50)).more g5 (fun x hx => .inl (by rw [hx]; simp)))
        have GG := hid (ans_keep OU.out HO5.out)
        have o2a := ownsRow_setCell_other (a := ⟨w1.heap.size, 4, none⟩) HO2'.out (own_blk_ne HO2'.out HB0.out (by decide)) (.slice a2 an.view.accs.length c2)
        have o2b := o2a.alloc (.cells #[.int .i64 an.err, .int .i64 an.n, .slice ea an.evs.length ec, .int .i64 an.view.upto, .slice a2 an.view.accs.length c2] 50)
        have o2c := hid (own_grown o2b g5 (fun q hq e => own_part OT1.out.own o2b (by decide) hq e))
        obtain ⟨a5, c5, rfl, -⟩ := own_sl o5.own
        go_roundg (n - (k + 1))
        case measure => omega
        case rel =>
          refine ⟨k + 1, m', L ++ [⟨an.err, an.n, ea, ec, an.evs, an.view.upto, a2, c2, an.view.accs⟩], a5, c5, rfl, by omega, by go_num, ?_, ?_, GG.out.2.1 _ _ _ XX.out, ?_, ?_, ⟨?_, ?_, ?_⟩, ?_, GG.out.2.2 _ _ _ V1.out (by decide)⟩
          · rw [List.length_append]; rfl
          · rw [List.length_append, HLK.out]; rfl
          · rw [hm1.out, HST.out, hnx.out]
          · rw [List.map_append, HLA.out, htk.out, hla.out]
            show _ ++ [Am.an _] = _
            have : Am.an ⟨an.err, an.n, ea, ec, an.evs, an.view.upto, a2, c2, an.view.accs⟩ = an := rfl
            rw [this, han.out, HST.out]; rfl
          · rw [List.length_append, rows_append]
            exact o5.own
          · intro x hx
            rcases List.mem_append.1 hx with hx | hx
            · have h := (HA.out.kt KK.out).evs x hx
              exact ⟨GG.out.1 h.1 (by decide), h.2⟩
            · obtain rfl := List.mem_singleton.1 hx
              exact ⟨GG.out.1 EE.out.1 (by decide), EE.out.2⟩
          · intro x hx
            rcases List.mem_append.1 hx with hx | hx
            · have h := (HA.out.kt KK.out).accs x hx
              exact ⟨GG.out.1 h.1 (by decide), h.2⟩
            · obtain rfl := List.mem_singleton.1 hx
              exact ⟨own_mono o2c.out (by simp; omega), AA.out.2⟩
          · exact BB.out.trans (HO5.out.isBelow h1sz (fun x hx => by
              have := OU.out.lt x (by simpa using hx)
              exact this.1))
      · obtain rfl : k = n := by omega
        have e1 : l.take k = l := List.take_of_length_le (by rw [HN.out]; exact Nat.le_refl _)
        have r0 : wr.cell? ⟨w.heap.size + 1, 0, none⟩ = some (.int .i64 0) := blk_cell HV2.out
        have r1 : wr.cell? ⟨w.heap.size + 1, 1, none⟩ = some (.int .i64 0) := blk_cell HV2.out
        have r2 : wr.cell? ⟨w.heap.size + 1, 2, none⟩ = some (.int .i64 0) := blk_cell HV2.out
        have r3 : wr.cell? ⟨w.heap.size + 1, 3, none⟩ = some (.slice none 0 0) := blk_cell HV2.out
        have r4 : wr.cell? ⟨w.heap.size + 1, 4, none⟩ = some (.int .i64 0) := blk_cell HV2.out
        have r5 : wr.cell? ⟨w.heap.size + 1, 5, none⟩ = some (.slice none 0 0) := blk_cell HV2.out
        have r6 : wr.cell? ⟨w.heap.size + 1, 6, none⟩ = some (.slice none 0 0) := blk_cell HV2.out
        have r7 : wr.cell? ⟨w.heap.size + 1, 7, none⟩ = some (.int .i64 0) := blk_cell HV2.out
        have r8 : wr.cell? ⟨w.heap.size + 1, 8, none⟩ = some (.slice none 0 0) := blk_cell HV2.out
        have f0 : ∀ j, wr.frozen? ⟨w.heap.size + 1, j, none⟩ = false := fun j => blk_free HV2.out
        obtain ⟨da, dc, HDV, -⟩ := own_sl HS.out.dks
        replace HDV := hid HDV
        obtain ⟨ta, tc, HTV, -⟩ := own_sl HS.out.tail
        replace HTV := hid HTV
        obtain ⟨sa, sc, HSV, -⟩ := own_sl HS.out.seen
        replace HSV := hid HSV
        obtain ⟨aa, ac2, HAV, -⟩ := own_sl HS.out.accs
        replace HAV := hid HAV
        have x0 : wr.cell? ⟨p, 0, none⟩ = some (.int .i64 m.d) := blk_cell (i := 0) HS.out.box
        have x1 : wr.cell? ⟨p, 1, none⟩ = some (.int .i64 m.s) := blk_cell (i := 1) HS.out.box
        have x2 : wr.cell? ⟨p, 2, none⟩ = some (.int .i64 m.b) := blk_cell (i := 2) HS.out.box
        have x3 : wr.cell? ⟨p, 3, none⟩ = some (.slice da m.D.length dc) := by rw [← HDV.out]; exact blk_cell (i := 3) HS.out.box
        have x4 : wr.cell? ⟨p, 4, none⟩ = some (.int .i64 (m.g : Int)) := blk_cell (i := 4) HS.out.box
        have x5 : wr.cell? ⟨p, 5, none⟩ = some (.slice ta m.T.length tc) := by rw [← HTV.out]; exact blk_cell (i := 5) HS.out.box
        have x6 : wr.cell? ⟨p, 6, none⟩ = some (.slice sa m.seen.length sc) := by rw [← HSV.out]; exact blk_cell (i := 6) HS.out.box
        have x7 : wr.cell? ⟨p, 7, none⟩ = some (.int .i64 m.u) := blk_cell (i := 7) HS.out.box
        have x8 : wr.cell? ⟨p, 8, none⟩ = some (.slice aa m.A.length ac2) := by rw [← HAV.out]; exact blk_cell (i := 8) HS.out.box
        have hne3 : p ≠ w.heap.size + 1 := heap_ne HS.out.box HV2.out (by decide)
        have hne4 : w.heap.size + 1 ≠ p := fun e => hne3 e.symm
        go_wp2_with fail
        obtain ⟨W, hW, q, hBW, hOW⟩ := set9_facts (b := w.heap.size + 1) HB.out (Nat.le_succ _) HV2.out (.int .i64 m.d) (.int .i64 m.s) (.int .i64 m.b) (.slice da m.D.length dc) (.int .i64 (m.g : Int)) (.slice ta m.T.length tc) (.slice sa m.seen.length sc) (.int .i64 m.u) (.slice aa m.A.length ac2)
        rw [hW]
        have q0 := blk_cell (i := 0) q
        have q1 := blk_cell (i := 1) q
        have q2 := blk_cell (i := 2) q
        have q3 := blk_cell (i := 3) q
        have q4 := blk_cell (i := 4) q
        have q5 := blk_cell (i := 5) q
        have q6 := blk_cell (i := 6) q
        have q7 := blk_cell (i := 7) q
        have q8 := blk_cell (i := 8) q
        refine bodyPost_ret (v := .tuple #[stVal m, .slice av L.length ac, .int .i64 0]) (by unfold stVal; rw [HDV.out, HTV.out, HSV.out, HAV.out]; simp [results, Try.results19, go_sem, q0, q1, q2, q3, q4, q5, q6, q7, q8]) rfl ⟨m, av, ac, L, 0, rfl, (HS.out.off hOW HV2.out (by decide)).mem, ⟨?_, ?_, ?_⟩, ?_, hBW⟩
        · exact hOW.own HA.out.own (fun x hx => by
            obtain rfl : x = w.heap.size + 1 := by simpa using hx
            exact own_blk_ne HA.out.own HV2.out (by decide))
        · exact fun x hx => ⟨hOW.own (HA.out.evs x hx).1 (fun y hy => by
            obtain rfl : y = w.heap.size + 1 := by simpa using hy
            exact own_blk_ne (HA.out.evs x hx).1 HV2.out (by decide)), (HA.out.evs x hx).2⟩
        · exact fun x hx => ⟨hOW.own (HA.out.accs x hx).1 (fun y hy => by
            obtain rfl : y = w.heap.size + 1 := by simpa using hy
            exact own_blk_ne (HA.out.accs x hx).1 HV2.out (by decide)), (HA.out.accs x hx).2⟩
        · rw [hP.out, HST.out, HLA.out]
          unfold Sto.stt
          rw [e1]
theorem stPlay_call (d s b : Int) (a : Option Addr) (n cap : Nat) (l : List Sto.Do) (w : World) (hD : Dos w a n cap l) :
    Calls Try.prog 19 #[.agg #[.int .i64 d, .int .i64 s, .int .i64 b], .slice a n cap] w (PlayRes (Sto.play d s b l) w) := by
  by_cases hw : Sto.wrongS d s b = 0
  · by_cases hn : n ≤ 80
    · have hok := Sto.Ok.start hw
      have h1 := hok.d
      have h2 := hok.sp
      have h1 : 1 ≤ d ∧ d ≤ 8 := h1
      have h2 : 0 ≤ s ∧ s ≤ 4 := h2
      obtain ⟨d', rfl⟩ := Int.eq_ofNat_of_zero_le (a := d) (by omega)
      obtain ⟨s', rfl⟩ := Int.eq_ofNat_of_zero_le (a := s) (by omega)
      exact stPlay_ok d' s' b a n cap l w hD hw hn
    · exact stPlay_bad d s b a n cap l w hD (.inr (by omega))
  · exact stPlay_bad d s b a n cap l w hD (.inl hw)
end Go.Proofs.Ythhcdfjijagalaa
