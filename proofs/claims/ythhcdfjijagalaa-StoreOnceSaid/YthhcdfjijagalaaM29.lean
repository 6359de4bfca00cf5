/- Joined, and what is not used struck: StoT, StoU, StoX. -/
import Derived.Test.YthhcdfjijagalaaM28
namespace Go.Proofs.Ythhcdfjijagalaa
open Go.RowKit
set_option linter.unusedVariables false
set_option linter.unusedSimpArgs false
set_option maxRecDepth 100000
/-- what is done, as memory has it -/
structure DoR (w : World) (db off : Nat) (d : Sto.Do) : Prop where
  kind : w.cell? ⟨db, off, none⟩ = some (.int .i64 d.kind)
  n : w.cell? ⟨db, off + 1, none⟩ = some (.int .i64 d.n)
  seg : w.cell? ⟨db, off + 2, none⟩ = some (.int .i64 d.seg)
  t : w.cell? ⟨db, off + 3, none⟩ = some (.int .i64 d.t)
  y : w.cell? ⟨db, off + 4, none⟩ = some (.int .u8 (d.y.toNat : Int))
  c : w.cell? ⟨db, off + 5, none⟩ = some (.int .i64 d.b.c)
  evs : ∃ a n cap, w.cell? ⟨db, off + 6, none⟩ = some (.slice a n cap) ∧ Es w a n cap d.b.evs
  stream : w.cell? ⟨db, off + 7, none⟩ = some (.string d.stream)
  ver : w.cell? ⟨db, off + 8, none⟩ = some (.int .i64 d.ver)
  ok : d.stream.size ≤ maxLen
theorem DoR.lt {w : World} {db off : Nat} {d : Sto.Do} (h : DoR w db off d) : db < w.heap.size := World.block_lt_of_cell? _ _ h.kind
theorem DoR.below {w w' : World} {db off : Nat} {d : Sto.Do} (h : DoR w db off d) (hb : Below w.heap.size w w') : DoR w' db off d := by
  have c : ∀ {i u}, w.cell? ⟨db, i, none⟩ = some u → w'.cell? ⟨db, i, none⟩ = some u := fun hc => (hb.cell (p := ⟨db, _, none⟩) h.lt).trans hc
  obtain ⟨a, n, cap, h1, h2⟩ := h.evs
  exact ⟨c h.kind, c h.n, c h.seg, c h.t, c h.y, c h.c, ⟨a, n, cap, c h1, h2.below hb⟩, c h.stream, c h.ver, h.ok⟩
theorem slice_dropE (ea : Option Addr) (en ec k : Nat) (hk : k ≤ en) (W : World) : (Instr.slice 25 (.slice ea en ec) (some (.int .i64 (k : Int))) none none).run Try.prog W = .ok (.slice (if ec = k then ea else ea.map (·.add (k * 3))) (en - k) (ec - k)) W := by
  have h0 : (0 : Int) ≤ (k : Int) := by omega
  have h1 : (k : Int) ≤ (en : Int) := by omega
  refine (run_slice_l (P := Try.prog) (w := W) (t := 25) (a := ea) (len := en) (cap := ec) Try.underlying25 .i64 (k : Int) h0 h1).trans ?_
  simp only [Int.toNat_natCast]
  rfl
theorem evCells_drop (l : List Evt.Ev) (k : Nat) : evCells (l.drop k) = (evCells l).drop (k * 3) := rows_drop ev3_len l k
theorem Es.dropE {w : World} {a : Option Addr} {n cap : Nat} {l : List Evt.Ev} (h : Sl w 3 a n cap (evCells l)) {k : Nat} (hk : k ≤ n) : Sl w 3 (if cap = k then a else a.map (·.add (k * 3))) (n - k) (cap - k) (evCells (l.drop k)) := by
  have := Sl.slice h hk (Nat.le_refl n)
  rw [evCells_drop]
  rwa [List.take_of_length_le (by rw [List.length_drop, h.len, ← Nat.sub_mul]; exact Nat.le_refl _)] at this
set_option maxHeartbeats 8000000 in
theorem stread_call (base p : Nat) (m : Mst) (K : Nat) (db off : Nat) (d : Sto.Do) (w : World) (h : StR w base p m) (hk : Sto.Ok m.st K) (hd : DoR w db off d) :
    Calls Try.prog 40 #[.pointer (some ⟨p, 0, none⟩), .pointer (some ⟨db, off, none⟩)] w fun e w' => ∃ v, e = .returned v ∧ AnO w' base v (Sto.read m.st d) ∧ Below w.heap.size w w' := by
  have HS := (h.alloc (.cells #[.pointer (some ⟨db, off, none⟩)] 82)).alloc (.cells #[.int .i64 0, .int .i64 0, .slice none 0 0, .int .i64 0, .slice none 0 0] 50)
  have HP := hid (blk_old (o' := .cells #[.int .i64 0, .int .i64 0, .slice none 0 0, .int .i64 0, .slice none 0 0] 50) (blk_new w (.cells #[.pointer (some ⟨db, off, none⟩)] 82)))
  have HV := hid (blk_new (w.alloc (.cells #[.pointer (some ⟨db, off, none⟩)] 82)) (.cells #[.int .i64 0, .int .i64 0, .slice none 0 0, .int .i64 0, .slice none 0 0] 50))
  have HW := hid (((Below.refl w.heap.size w).alloc (Nat.le_refl _) (.cells #[.pointer (some ⟨db, off, none⟩)] 82)).alloc (by simp) (.cells #[.int .i64 0, .int .i64 0, .slice none 0 0, .int .i64 0, .slice none 0 0] 50))
  have hbase : base ≤ w.heap.size := Nat.le_trans h.le (Nat.le_of_lt h.lt)
  have DA := hid (stall_call base p m K _ HS hk)
  have HL := hid (show Sto.read m.st d = if (Sto.all m.st).2 ≠ 0 then Sto.anE (Sto.all m.st).2 else if d.kind = 3 then (if d.n < 0 ∨ ((Sto.events (Sto.all m.st).1).length : Int) < d.n then Sto.anE 3 else ⟨0, (Sto.events (Sto.all m.st).1).length, (Sto.events (Sto.all m.st).1).drop d.n.toNat, Vw.none'⟩) else if Evt.named (Evt.lst d.stream) = false then Sto.anE 7 else ⟨0, ((Sto.events (Sto.all m.st).1).filter fun x => decide (x.s = d.stream)).length, (Sto.events (Sto.all m.st).1).filter fun x => decide (x.s = d.stream), Vw.none'⟩ from rfl)
  have hdlt := hd.lt
  have HD := hid hd
  clear HS hk h hd
  go_enter Try.func40, Try.ntmps40
  go_wp2_with fail
  obtain ⟨wb, hwb⟩ : ∃ wb, wb = (w.alloc (.cells #[.pointer (some ⟨db, off, none⟩)] 82)).alloc (.cells #[.int .i64 0, .int .i64 0, .slice none 0 0, .int .i64 0, .slice none 0 0] 50) := ⟨_, rfl⟩
  rw [← hwb] at DA HP HV HW ⊢
  have hwB : w.heap.size + 1 < wb.heap.size := by rw [hwb]; simp
  simp only [World.size_alloc] at HV
  obtain ⟨B, hB⟩ : ∃ B, B = w.heap.size + 1 := ⟨_, rfl⟩
  rw [← hB] at HV hwB ⊢
  obtain ⟨P, hP⟩ : ∃ P, P = w.heap.size := ⟨_, rfl⟩
  rw [← hP] at HP ⊢
  clear hwb
  have hB' : w.heap.size ≤ B := by omega
  have hPB : P ≠ B := by omega
  have hBP : B ≠ P := by omega
  replace hB := hid hB
  replace hP := hid hP
  go_at_call 59; refine (DA.out).mono ?_; rintro e w1 ⟨a1, n1, c1, R1, e1, rfl, hB1, hA1, b1, hn1, hR1⟩
  rw [hA1] at HL
  have v1 := blk_below HV.out b1
  have P1 := blk_below HP.out b1
  replace b1 := bnext HW.out b1
  clear DA
  by_cases hz : e1 = 0
  · subst hz
    replace HL := hid (HL.out.trans (if_neg (fun e => e rfl)))
    have DE := hid (stevents_call a1 n1 c1 R1 w1 hB1 (by omega) (fun r hr => by have := hR1 r hr; omega))
    have hRl := rbEvs_len R1 10 hR1
    have hn11 := hB1.n
    rw [show Sto.events (List.map Rb.ba R1, (0 : Int)).1 = rbEvs R1 from (rbEvs_eq R1).symm] at HL
    clear hA1 hB1 hR1
    generalize rbEvs R1 = E at *
    have hEl : E.length ≤ 100000 := by omega
    clear hRl hn11
    go_wp2_with fail
    go_at_call 60; refine (DE.out).mono ?_; rintro e w2 ⟨a2, c2, rfl, hE2, b2⟩
    have v2 := blk_below v1 b2
    have P2 := blk_below P1 b2
    have hsz1 := b1.size
    have hsz2 := b2.size
    replace b2 := bnext b1 b2
    have D2 := hid (HD.out.below b2)
    clear DE v1 P1
    have p0 : w2.cell? ⟨P, 0, none⟩ = some (.pointer (some ⟨db, off, none⟩)) := blk_cell P2
    have k0 : w2.cell? ⟨db, off, none⟩ = some (.int .i64 d.kind) := D2.out.kind
    have k1 : w2.cell? ⟨db, off + 1, none⟩ = some (.int .i64 d.n) := D2.out.n
    have k7 : w2.cell? ⟨db, off + 7, none⟩ = some (.string d.stream) := D2.out.stream
    have r0 : w2.cell? ⟨B, 0, none⟩ = some (.int .i64 0) := blk_cell v2
    have r1 : w2.cell? ⟨B, 1, none⟩ = some (.int .i64 0) := blk_cell v2
    have r2 : w2.cell? ⟨B, 2, none⟩ = some (.slice none 0 0) := blk_cell v2
    have r3 : w2.cell? ⟨B, 3, none⟩ = some (.int .i64 0) := blk_cell v2
    have r4 : w2.cell? ⟨B, 4, none⟩ = some (.slice none 0 0) := blk_cell v2
    have f0 : ∀ j, w2.frozen? ⟨B, j, none⟩ = false := fun j => blk_free v2
    by_cases hkd : d.kind = 3
    · replace HL := hid (HL.out.trans (if_pos hkd))
      have t3 : (d.kind == 3) = true := by simpa using hkd
      replace hkd := hid hkd
      by_cases hbad : d.n < 0 ∨ (E.length : Int) < d.n
      · replace HL := hid (HL.out.trans (if_pos hbad))
        rcases Classical.em (d.n < 0) with hn0 | hn0
        · have hHE := hid hE2
          clear hbad hE2
          go_wp2_with fail
          obtain ⟨W, hW, q, hBW, -, hown⟩ := set5_facts b2 hB' v2 (.int .i64 (3)) (.int .i64 (0)) (.slice none 0 0) (.int .i64 (0)) (.slice none 0 0)
          rw [hW]
          have q0 := blk_cell (i := 0) q
          have q1 := blk_cell (i := 1) q
          have q2 := blk_cell (i := 2) q
          have q3 := blk_cell (i := 3) q
          have q4 := blk_cell (i := 4) q
          refine bodyPost_ret (v := ansVal (3) (0) (.slice none 0 0) (0) (.slice none 0 0)) (by unfold ansVal; simp [results, Try.results40, go_sem, q0, q1, q2, q3, q4]) rfl ⟨_, rfl, ?_, hBW⟩
          rw [HL.out]
          exact AnO.err _ _ _
        · have hn1' : (E.length : Int) < d.n := by rcases hbad with h | h; exact absurd h hn0; exact h
          have hHE := hid hE2
          clear hbad hE2
          go_wp2_with fail
          obtain ⟨W, hW, q, hBW, -, hown⟩ := set5_facts b2 hB' v2 (.int .i64 (3)) (.int .i64 (0)) (.slice none 0 0) (.int .i64 (0)) (.slice none 0 0)
          rw [hW]
          have q0 := blk_cell (i := 0) q
          have q1 := blk_cell (i := 1) q
          have q2 := blk_cell (i := 2) q
          have q3 := blk_cell (i := 3) q
          have q4 := blk_cell (i := 4) q
          refine bodyPost_ret (v := ansVal (3) (0) (.slice none 0 0) (0) (.slice none 0 0)) (by unfold ansVal; simp [results, Try.results40, go_sem, q0, q1, q2, q3, q4]) rfl ⟨_, rfl, ?_, hBW⟩
          rw [HL.out]
          exact AnO.err _ _ _
      · replace HL := hid (HL.out.trans (if_neg hbad))
        have hn0 : ¬ d.n < 0 := fun h => hbad (.inl h)
        have hn1' : ¬ (E.length : Int) < d.n := fun h => hbad (.inr h)
        obtain ⟨k, hke⟩ := Int.eq_ofNat_of_zero_le (a := d.n) (by omega)
        rw [hke] at k1 HL hn0 hn1'
        simp only [Int.toNat_natCast] at HL
        replace hke := hid hke
        have hkE : k ≤ E.length := by omega
        obtain ⟨a', cap', e', hsl⟩ := own_sl hE2.1
        cases e'
        have hSl := fun W => slice_dropE a2 E.length c2 k hkE W
        have hdr := Es.dropE hsl hkE
        have DC := hid (cloneEv_call _ _ _ _ w2 hdr (evCells_one _) (by omega))
        have hok := hid hE2.2
        clear hbad hE2 hsl hdr
        generalize (if c2 = k then a2 else a2.map (·.add (k * 3))) = da at *
        generalize hdn : E.length - k = dn at *
        generalize c2 - k = dc at *
        replace hdn := hid hdn
        go_wp2_with fail
        go_at_call 54; refine (DC.out).mono ?_; rintro e w3 ⟨v3, rfl, b3, o3⟩
        obtain ⟨a3, c3, rfl, -⟩ := own_sl o3
        have hdl := hid (show (E.drop k).length = dn by rw [List.length_drop, hdn.out])
        have vv := blk_below v2 b3
        have o3' := own_mono o3 (show base ≤ _ by omega)
        replace b3 := bnext b2 b3
        clear r0 r1 r2 r3 r4 f0 o3 v2 b2 DC hSl
        have r0 : w3.cell? ⟨B, 0, none⟩ = some (.int .i64 0) := blk_cell vv
        have r1 : w3.cell? ⟨B, 1, none⟩ = some (.int .i64 0) := blk_cell vv
        have r2 : w3.cell? ⟨B, 2, none⟩ = some (.slice none 0 0) := blk_cell vv
        have r3 : w3.cell? ⟨B, 3, none⟩ = some (.int .i64 0) := blk_cell vv
        have r4 : w3.cell? ⟨B, 4, none⟩ = some (.slice none 0 0) := blk_cell vv
        have f0 : ∀ j, w3.frozen? ⟨B, j, none⟩ = false := fun j => blk_free vv
        go_wp2_with fail
        obtain ⟨W, hW, q, hBW, -, hown⟩ := set5_facts b3 hB' vv (.int .i64 (0)) (.int .i64 ((E.length : Int))) (.slice a3 dn c3) (.int .i64 (0)) (.slice none 0 0)
        rw [hW]
        have q0 := blk_cell (i := 0) q
        have q1 := blk_cell (i := 1) q
        have q2 := blk_cell (i := 2) q
        have q3 := blk_cell (i := 3) q
        have q4 := blk_cell (i := 4) q
        refine bodyPost_ret (v := ansVal (0) ((E.length : Int)) (.slice a3 dn c3) (0) (.slice none 0 0)) (by unfold ansVal; simp [results, Try.results40, go_sem, q0, q1, q2, q3, q4]) rfl ⟨_, rfl, ?_, hBW⟩
        rw [HL.out]
        exact ⟨a3, c3, none, 0, by rw [hdl.out]; rfl, ⟨by rw [hdl.out]; exact hown o3' (by decide), fun e he => hok.out e (List.mem_of_mem_drop he)⟩, AO.nil _ _⟩
    · replace HL := hid (HL.out.trans (if_neg hkd))
      have t3 : (d.kind == 3) = false := by simpa using hkd
      replace hkd := hid hkd
      have DN := eNamed_call d.stream HD.out.ok w2
      by_cases hnm : Evt.named (Evt.lst d.stream) = false
      · replace HL := hid (HL.out.trans (if_pos hnm))
        rw [hnm] at DN
        replace DN := hid DN
        replace hnm := hid hnm
        have hHE := hid hE2
        clear hE2
        go_wp2_with fail
        go_at_call 45; refine (DN.out).mono ?_; rintro e w3 ⟨rfl, rfl⟩
        go_wp2_with fail
        obtain ⟨W, hW, q, hBW, -, hown⟩ := set5_facts b2 hB' v2 (.int .i64 (7)) (.int .i64 (0)) (.slice none 0 0) (.int .i64 (0)) (.slice none 0 0)
        rw [hW]
        have q0 := blk_cell (i := 0) q
        have q1 := blk_cell (i := 1) q
        have q2 := blk_cell (i := 2) q
        have q3 := blk_cell (i := 3) q
        have q4 := blk_cell (i := 4) q
        refine bodyPost_ret (v := ansVal (7) (0) (.slice none 0 0) (0) (.slice none 0 0)) (by unfold ansVal; simp [results, Try.results40, go_sem, q0, q1, q2, q3, q4]) rfl ⟨_, rfl, ?_, hBW⟩
        rw [HL.out]
        exact AnO.err _ _ _
      · replace HL := hid (HL.out.trans (if_neg hnm))
        have hnm : Evt.named (Evt.lst d.stream) = true := by simpa using hnm
        rw [hnm] at DN
        replace DN := hid DN
        replace hnm := hid hnm
        have DD := hid (deleteEv_call a2 _ c2 E P db off w1.heap.size d.stream w2 hE2.1 P2 k7 (by omega))
        have hHE := hid hE2
        clear hE2
        go_wp2_with fail
        go_at_call 45; refine (DN.out).mono ?_; rintro e w3 ⟨rfl, rfl⟩
        go_wp2_with fail
        go_at_call 61; refine (DD.out).mono ?_; rintro e w4 ⟨n4, rfl, o4, g4⟩
        have vv := grown_other hHE.out.1 g4 v2 (by decide)
        have b4 : Below w.heap.size w w4 := below_grown (own_mono hHE.out.1 hsz1) b2 b2.size g4
        have hln := hid (show (keepEv d.stream E).length = n4 from by have := o4.1; rw [evCells_length] at this; omega)
        have hok := hid hHE.out.2
        have o4' := own_mono o4 (show base ≤ _ by omega)
        clear r0 r1 r2 r3 r4 f0 o4 g4 v2 b2 DD hHE P2 p0 k0 k1 k7
        have r0 : w4.cell? ⟨B, 0, none⟩ = some (.int .i64 0) := blk_cell vv
        have r1 : w4.cell? ⟨B, 1, none⟩ = some (.int .i64 0) := blk_cell vv
        have r2 : w4.cell? ⟨B, 2, none⟩ = some (.slice none 0 0) := blk_cell vv
        have r3 : w4.cell? ⟨B, 3, none⟩ = some (.int .i64 0) := blk_cell vv
        have r4 : w4.cell? ⟨B, 4, none⟩ = some (.slice none 0 0) := blk_cell vv
        have f0 : ∀ j, w4.frozen? ⟨B, j, none⟩ = false := fun j => blk_free vv
        go_wp2_with fail
        obtain ⟨W, hW, q, hBW, -, hown⟩ := set5_facts b4 hB' vv (.int .i64 (0)) (.int .i64 ((n4 : Int))) (.slice a2 n4 c2) (.int .i64 (0)) (.slice none 0 0)
        rw [hW]
        have q0 := blk_cell (i := 0) q
        have q1 := blk_cell (i := 1) q
        have q2 := blk_cell (i := 2) q
        have q3 := blk_cell (i := 3) q
        have q4 := blk_cell (i := 4) q
        refine bodyPost_ret (v := ansVal (0) ((n4 : Int)) (.slice a2 n4 c2) (0) (.slice none 0 0)) (by unfold ansVal; simp [results, Try.results40, go_sem, q0, q1, q2, q3, q4]) rfl ⟨_, rfl, ?_, hBW⟩
        rw [HL.out]
        exact ⟨a2, c2, none, 0, by show _ = ansVal 0 ((keepEv d.stream E).length : Nat) (.slice a2 (keepEv d.stream E).length c2) 0 _; rw [hln.out]; rfl, ⟨by show World.ownsRow _ _ _ _ (.slice a2 (keepEv d.stream E).length c2) (keepEv d.stream E).length (evCells (keepEv d.stream E)); rw [hln.out]; exact hown o4' (by decide), fun e he => hok.out e (List.mem_filter.1 he).1⟩, AO.nil _ _⟩
  · have t0 : (e1 != 0) = true := bne_iff_ne.2 hz
    replace HL := hid (HL.out.trans (if_pos hz))
    have r0 : w1.cell? ⟨B, 0, none⟩ = some (.int .i64 0) := blk_cell v1
    have r1 : w1.cell? ⟨B, 1, none⟩ = some (.int .i64 0) := blk_cell v1
    have r2 : w1.cell? ⟨B, 2, none⟩ = some (.slice none 0 0) := blk_cell v1
    have r3 : w1.cell? ⟨B, 3, none⟩ = some (.int .i64 0) := blk_cell v1
    have r4 : w1.cell? ⟨B, 4, none⟩ = some (.slice none 0 0) := blk_cell v1
    have f0 : ∀ j, w1.frozen? ⟨B, j, none⟩ = false := fun j => blk_free v1
    replace hz := hid hz
    clear hA1 hB1 hR1
    go_wp2_with fail
    obtain ⟨W, hW, q, hBW, -, hown⟩ := set5_facts b1 hB' v1 (.int .i64 (e1)) (.int .i64 (0)) (.slice none 0 0) (.int .i64 (0)) (.slice none 0 0)
    rw [hW]
    have q0 := blk_cell (i := 0) q
    have q1 := blk_cell (i := 1) q
    have q2 := blk_cell (i := 2) q
    have q3 := blk_cell (i := 3) q
    have q4 := blk_cell (i := 4) q
    refine bodyPost_ret (v := ansVal (e1) (0) (.slice none 0 0) (0) (.slice none 0 0)) (by unfold ansVal; simp [results, Try.results40, go_sem, q0, q1, q2, q3, q4]) rfl ⟨_, rfl, ?_, hBW⟩
    rw [HL.out]
    exact AnO.err _ _ _
end Go.Proofs.Ythhcdfjijagalaa
namespace Go.Proofs.Ythhcdfjijagalaa
open Go.RowKit
set_option linter.unusedVariables false
set_option linter.unusedSimpArgs false
theorem insB_eq (H : List Hm) (k : Int) (y : Hm) (hy : y.s = k) : ∀ (a : Nat), a ≤ H.length → (∀ j (h : j < H.length), j < a → H[j].s < k) → (∀ h : a < H.length, ¬ H[a].s < k) → Sto.insB (H.map Hm.hd) k y.b = (H.take a ++ y :: H.drop a).map Hm.hd := by
  induction H with
  | nil =>
    intro a ha _ _
    have : a = 0 := by simpa using ha
    subst this
    show [(⟨k, y.b⟩ : Sto.Hd)] = [Hm.hd y]
    unfold Hm.hd
    rw [hy]
  | cons x H ih =>
    intro a ha h1 h2
    rw [List.map_cons]
    unfold Sto.insB
    cases a with
    | zero =>
      rw [if_neg (by exact h2 (by simp))]
      simp [Hm.hd, hy]
    | succ a =>
      rw [if_pos (by exact h1 0 (by simp) (by omega))]
      rw [ih a (by simpa using ha) (fun j hj hja => h1 (j + 1) (by simpa using hj) (by omega)) (fun h => h2 (by simpa using h))]
      simp
theorem setB_eq (H : List Hm) (k : Int) (y : Hm) : ∀ (a : Nat) (ha : a < H.length), H[a].s = k → y.s = k → (∀ j (h : j < H.length), j < a → H[j].s ≠ k) → Sto.setB (H.map Hm.hd) k y.b = (H.set a y).map Hm.hd := by
  induction H with
  | nil => intro a ha; exact absurd ha (by simp)
  | cons x H ih =>
    intro a ha h0 hy h1
    rw [List.map_cons]
    unfold Sto.setB
    cases a with
    | zero =>
      have h0 : x.s = k := h0
      rw [if_pos (by exact h0)]
      simp [Hm.hd, h0, hy]
    | succ a =>
      rw [if_neg (by exact h1 0 (by simp) (by omega))]
      rw [ih a (by simpa using ha) h0 hy (fun j hj hja => h1 (j + 1) (by simpa using hj) (by omega))]
      simp
theorem wrD_gone {x : Dm} {k : Int} {b : List UInt8} (h : x.g = true) : Sto.wrD x.dk k b = x.dk := by unfold Sto.wrD; rw [if_pos (by exact h)]
theorem wrD_set {x y : Dm} {k : Int} {b : List UInt8} (h : x.g = false) (hy : y.g = x.g) (hf : Sto.putB (x.H.map Hm.hd) k b = y.H.map Hm.hd) : Sto.wrD x.dk k b = y.dk := by
  unfold Sto.wrD
  rw [if_neg (by show ¬ x.g = true; rw [h]; decide)]
  show (⟨x.g, Sto.putB (x.H.map Hm.hd) k b⟩ : Sto.Dk) = ⟨y.g, y.H.map Hm.hd⟩
  rw [hf, hy]
theorem putB_some {H : List Hm} {k : Int} {b c : List UInt8} (h : Sto.find (H.map Hm.hd) k = some c) : Sto.putB (H.map Hm.hd) k b = Sto.setB (H.map Hm.hd) k b := by unfold Sto.putB; rw [h]
theorem putB_none {H : List Hm} {k : Int} {b : List UInt8} (h : Sto.find (H.map Hm.hd) k = none) : Sto.putB (H.map Hm.hd) k b = Sto.insB (H.map Hm.hd) k b := by unfold Sto.putB; rw [h]
theorem ins_set {α : Type} (H : List α) (a : Nat) (x y : α) (ha : a ≤ H.length) : (H.take a ++ x :: H.drop a).set a y = H.take a ++ y :: H.drop a := by
  rw [List.set_append_right _ _ (by rw [List.length_take]; omega), List.length_take, Nat.min_eq_left ha, Nat.sub_self, List.set_cons_zero]
theorem ins_at {α : Type} (H : List α) (a : Nat) (x : α) (ha : a ≤ H.length) (h : a < (H.take a ++ x :: H.drop a).length) : (H.take a ++ x :: H.drop a)[a] = x := by
  rw [List.getElem_append_right (by rw [List.length_take]; omega)]
  simp [List.length_take, Nat.min_eq_left ha]
end Go.Proofs.Ythhcdfjijagalaa
namespace Go.Proofs.Ythhcdfjijagalaa
open Go.RowKit
set_option linter.unusedVariables false
set_option linter.unusedSimpArgs false
/-- what write leaves as it was -/
def keepsD (t : TypeId) : Bool := t != 61 && t != 90
structure Kd (w w' : World) : Prop where
  os : w'.os = w.os
  tape : w'.tape = w.tape
  output : w'.output = w.output
  size : w.heap.size ≤ w'.heap.size
  block : ∀ (k : Nat) (cs : Array Value) (t : TypeId), w.heap[k]? = some (.cells cs t (0, 0)) → keepsD t = true → w'.heap[k]? = some (.cells cs t (0, 0))
theorem Kd.refl (w : World) : Kd w w := ⟨rfl, rfl, rfl, Nat.le_refl _, fun _ _ _ h _ => h⟩
theorem Kd.trans {a b c : World} (h : Kd a b) (k : Kd b c) : Kd a c := ⟨k.os.trans h.os, k.tape.trans h.tape, k.output.trans h.output, Nat.le_trans h.size k.size, fun i cs t hb ht => k.block i cs t (h.block i cs t hb ht) ht⟩
theorem Kd.below {a b : World} (h : Below a.heap.size a b) : Kd a b := ⟨h.os, h.tape, h.output, h.size, fun k cs t hb _ => blk_below hb h⟩
theorem Kd.only {a b : World} {S : List Nat} (h : Only a b S) (hS : ∀ k ∈ S, ∀ (cs : Array Value) (t : TypeId), a.heap[k]? = some (.cells cs t (0, 0)) → keepsD t = false) : Kd a b :=
  ⟨h.os, h.tape, h.output, h.size, fun k cs t hb ht => h.blk hb (fun hm => by rw [hS k hm cs t hb] at ht; cases ht)⟩
theorem Kd.own {w w' : World} (h : Kd w w') {base : Nat} {e : TypeId} {sz : Nat} {v : Value} {n : Nat} {xs : List Value} (ho : w.ownsRow base e sz v n xs) (he : keepsD e = true) : w'.ownsRow base e sz v n xs := by
  refine ⟨ho.1, ?_⟩
  rcases ho.2 with h2 | ⟨g, cap, cur, hv, hg, hh, r⟩
  · exact .inl h2
  · exact .inr ⟨g, cap, cur, hv, hg, h.block g cur e hh he, r⟩
theorem keepsD_of {t : TypeId} (h : keeps t = true) : keepsD t = true := by
  simp only [keeps, keepsD, Bool.and_eq_true] at h ⊢
  exact ⟨h.1.1.2, h.1.2⟩
theorem Kd.kt {w w' : World} (h : Kd w w') : Kt w w' := ⟨h.os, h.tape, h.output, h.size, fun k cs t hb ht => h.block k cs t hb (keepsD_of ht)⟩
section
variable {w w5 w' W V : World} {base p : Nat} {m : Mst}
theorem own_cell_set {e : TypeId} {g n cap sz : Nat} {xs ys : List Value} (h : w.ownsRow base e sz (.slice (some ⟨g, 0, none⟩) n cap) n xs) (j : Nat) (v : Value) (hxs : xs.set j v = ys) (hj : j < n * sz) : (w.setCell ⟨g, j, none⟩ v).ownsRow base e sz (.slice (some ⟨g, 0, none⟩) n cap) n ys := by
  obtain ⟨cur, hg, hb, hn, hc, hl, ht⟩ := own_known h
  have q := blk_set (i := j) hg v
  simp only [List.setIfInBounds_toArray] at q
  refine own_of_known q hb hn hc (by simp only [List.length_set]; exact hl) ?_
  rw [List.take_set, ht, hxs]
theorem StR.kinds (h : StR w base p m) {i : Nat} {x : Dm} (hx : m.D[i]? = some x) {k : Nat} (hk : m.dv.ownBlock = some k ∨ x.v.ownBlock = some k) (cs : Array Value) (t : TypeId) (hb : w.heap[k]? = some (.cells cs t (0, 0))) : keepsD t = false := by
  have hxm := List.mem_of_getElem? hx
  rcases hk with h1 | h1
  · obtain ⟨cs', hc⟩ := own_kind h.dks h1
    rw [hb] at hc
    injection hc with hc
    injection hc with _ ht
    subst ht; decide
  · obtain ⟨cs', hc⟩ := own_kind (h.held x hxm) h1
    rw [hb] at hc
    injection hc with hc
    injection hc with _ ht
    subst ht; decide
/-- a disk has one block more -/
theorem StR.ins (h : StR W base p m) (i a : Nat) (x : Dm) (k : Int) (hx : m.D[i]? = some x) (hV : Below W.heap.size W V) {v' : Value} (hO : OT V w5 x.v.ownBlock base 90 2 v' (x.H.length + 1) (rows hm2 (x.H.take a ++ ⟨k, none, 0, []⟩ :: x.H.drop a))) (ha : a ≤ x.H.length)
    (gd dc : Nat) (hdv : m.dv = .slice (some ⟨gd, 0, none⟩) m.D.length dc) :
    ∃ a' c', v' = .slice a' (x.H.length + 1) c' ∧ StR (w5.setCell ⟨gd, i * 2 + 1, none⟩ v') base p { m with D := m.D.set i ⟨x.g, a', c', x.H.take a ++ ⟨k, none, 0, []⟩ :: x.H.drop a⟩ } ∧ Kd W (w5.setCell ⟨gd, i * 2 + 1, none⟩ v') := by
  have hlt := (List.getElem?_eq_some_iff.1 hx).1
  have hxm := List.mem_of_getElem? hx
  obtain ⟨a', c', rfl, hsl⟩ := own_sl hO.own
  refine ⟨a', c', rfl, ?_⟩
  have hdo : m.dv.ownBlock = some gd := by rw [hdv]; rfl
  have hO5 : Only W w5 x.v.ownBlock.toList := by
    refine ⟨hO.grown.os.trans hV.os, hO.grown.tape.trans hV.tape, hO.grown.output.trans hV.output, Nat.le_trans hV.size hO.grown.size, fun k hk hn => ?_⟩
    rw [hO.grown.block k (Nat.lt_of_lt_of_le hk hV.size) (fun e => hn (by rw [← e]; simp)), hV.block k hk]
  have hmono : ∀ k, k ∈ x.v.ownBlock.toList → x.v.ownBlock = some k := fun k hk => by simpa using hk
  have hO6 : Only W (w5.setCell ⟨gd, i * 2 + 1, none⟩ (.slice a' (x.H.length + 1) c')) (gd :: x.v.ownBlock.toList) := by
    have h1 : Only W w5 (gd :: x.v.ownBlock.toList) := ⟨hO5.os, hO5.tape, hO5.output, hO5.size, fun k hk hn => hO5.block k hk (fun hm => hn (List.mem_cons_of_mem _ hm))⟩
    exact h1.setCell (.inl (by simp)) _
  have hlen : (x.H.take a ++ (⟨k, none, 0, []⟩ : Hm) :: x.H.drop a).length = x.H.length + 1 := by
    rw [List.length_append, List.length_cons, List.length_take, List.length_drop]; omega
  have hdks5 : w5.ownsRow base 61 2 m.dv m.D.length (rows dm2 m.D) := hO5.own h.dks (fun k hk e => own_part h.dks (h.held x hxm) (by decide) e (hmono k hk))
  have hkd : Kd W (w5.setCell ⟨gd, i * 2 + 1, none⟩ (.slice a' (x.H.length + 1) c')) := Kd.only hO6 (fun k hk cs t hb => h.kinds hx (by
    rcases List.mem_cons.1 hk with rfl | hk
    · exact .inl hdo
    · exact .inr (hmono k hk)) cs t hb)
  have hd := h.disk (w' := w5.setCell ⟨gd, i * 2 + 1, none⟩ (.slice a' (x.H.length + 1) c')) i x ⟨x.g, a', c', x.H.take a ++ ⟨k, none, 0, []⟩ :: x.H.drop a⟩ (gd :: x.v.ownBlock.toList) hx hO6 (fun k hk => by
      rcases List.mem_cons.1 hk with rfl | hk
      · exact .inl hdo
      · exact .inr (.inl (hmono k hk))) ?_ ?_ ?_ ?_ ?_ ?_
  · exact ⟨hd.1, hkd⟩
  · rw [hdv] at hdks5 ⊢
    refine own_cell_set hdks5 (i * 2 + 1) _ ?_ (by omega)
    refine rows_set dm2_len m.D _ _ 1 (by decide) i hlt ?_
    have : m.D[i] = x := by rw [List.getElem?_eq_getElem hlt] at hx; exact Option.some.inj hx
    rw [this]
    show [Value.bool x.g, _] = _
    unfold Dm.v
    rw [hlen]; rfl
  · show World.ownsRow _ base 90 2 (.slice a' (x.H.take a ++ (⟨k, none, 0, []⟩ : Hm) :: x.H.drop a).length c') _ _
    rw [hlen]
    exact ownsRow_setCell_other hO.own (fun e => own_part hdks5 hO.own (by decide) hdo e) _
  · intro z hz
    have hz' : z ∈ x.H ∨ z = ⟨k, none, 0, []⟩ := by
      rcases List.mem_append.1 hz with hz | hz
      · exact .inl (List.mem_of_mem_take hz)
      · rcases List.mem_cons.1 hz with hz | hz
        · exact .inr hz
        · exact .inl (List.mem_of_mem_drop hz)
    rcases hz' with hz | rfl
    · exact hkd.own (h.bytes x hxm z hz) (by decide)
    · exact World.ownsRow_nil _ _ _ _
  · exact bb_insert (h.sep.own x hxm) (fun k hk => by simp [Hm.v, Value.ownBlock] at hk)
  · show (Value.slice a' (x.H.take a ++ (⟨k, none, 0, []⟩ : Hm) :: x.H.drop a).length c').ownBlock = _ ∨ _
    rw [hlen]
    rcases hO.lies with h1 | h1
    · exact .inl h1
    · refine .inr (fun k hk => Nat.le_trans hV.size (h1 k ?_))
      have hk : (Value.slice a' (x.H.take a ++ (⟨_, none, 0, []⟩ : Hm) :: x.H.drop a).length c').ownBlock = some k := hk
      rw [hlen] at hk
      exact hk
  · intro k hk
    obtain ⟨z, hz, hk⟩ := List.mem_filterMap.1 hk
    rcases List.mem_append.1 hz with hz | hz
    · exact .inl (List.mem_filterMap.2 ⟨z, List.mem_of_mem_take hz, hk⟩)
    · rcases List.mem_cons.1 hz with rfl | hz
      · simp [Hm.v, Value.ownBlock] at hk
      · exact .inl (List.mem_filterMap.2 ⟨z, List.mem_of_mem_drop hz, hk⟩)
/-- a block has other bytes -/
theorem StR.putBytes (h : StR W base p m) (i a : Nat) (x : Dm) (hx : m.D[i]? = some x) (ha : a < x.H.length) (hV : Below W.heap.size W V) (ya : Option Addr) (yc : Nat) (L : List UInt8) (hy : V.ownsRow W.heap.size 5 1 (.slice ya L.length yc) L.length (cb L)) (hbase : base ≤ W.heap.size)
    (hb : Nat) (hxa : x.a = some ⟨hb, 0, none⟩) :
    StR (V.setCell ⟨hb, a * 2 + 1, none⟩ (.slice ya L.length yc)) base p { m with D := m.D.set i ⟨x.g, x.a, x.cap, x.H.set a ⟨x.H[a].s, ya, yc, L⟩⟩ } ∧ Kd W (V.setCell ⟨hb, a * 2 + 1, none⟩ (.slice ya L.length yc)) := by
  have hlt := (List.getElem?_eq_some_iff.1 hx).1
  have hxm := List.mem_of_getElem? hx
  have hxo : x.v.ownBlock = some hb := by unfold Dm.v; rw [hxa]; rfl
  have hO6 : Only W (V.setCell ⟨hb, a * 2 + 1, none⟩ (.slice ya L.length yc)) [hb] := ((Only.refl W [hb]).below hV).setCell (.inl (by simp)) _
  have hkd : Kd W (V.setCell ⟨hb, a * 2 + 1, none⟩ (.slice ya L.length yc)) := Kd.only hO6 (fun k hk cs t hb' => h.kinds hx (.inr (by
    obtain rfl : k = hb := by simpa using hk
    exact hxo)) cs t hb')
  have hheld : W.ownsRow base 90 2 (.slice (some ⟨hb, 0, none⟩) x.H.length x.cap) x.H.length (rows hm2 x.H) := by
    have := h.held x hxm
    unfold Dm.v at this
    rw [hxa] at this
    exact this
  have hne : ∀ k, (Value.slice ya L.length yc).ownBlock = some k → W.heap.size ≤ k := fun k hk => (hy.lt k hk).1
  have hbl : hb < W.heap.size := by
    obtain ⟨cs, hc⟩ := own_kind (h.held x hxm) hxo
    exact blk_lt hc
  have hd := h.disk (w' := V.setCell ⟨hb, a * 2 + 1, none⟩ (.slice ya L.length yc)) i x ⟨x.g, x.a, x.cap, x.H.set a ⟨x.H[a].s, ya, yc, L⟩⟩ [hb] hx hO6 (fun k hk => by
      obtain rfl : k = hb := by simpa using hk
      exact .inr (.inl hxo)) ?_ ?_ ?_ ?_ ?_ ?_
  · exact ⟨hd.1, hkd⟩
  · have e : m.D.set i ⟨x.g, x.a, x.cap, x.H.set a ⟨x.H[a].s, ya, yc, L⟩⟩ = m.D.set i ⟨x.g, x.a, x.cap, x.H.set a ⟨x.H[a].s, ya, yc, L⟩⟩ := rfl
    have hr : rows dm2 (m.D.set i ⟨x.g, x.a, x.cap, x.H.set a ⟨x.H[a].s, ya, yc, L⟩⟩) = rows dm2 m.D := by
      have hxi : m.D[i] = x := by rw [List.getElem?_eq_getElem hlt] at hx; exact Option.some.inj hx
      have h1 := rows_set dm2_len m.D ⟨x.g, x.a, x.cap, x.H.set a ⟨x.H[a].s, ya, yc, L⟩⟩ (.bool x.g) 0 (by decide) i hlt (by
        rw [hxi]
        show [Value.bool x.g, .slice x.a (x.H.set a _).length x.cap] = [Value.bool x.g, .slice x.a x.H.length x.cap]
        rw [List.length_set])
      rw [← h1]
      have h2 := rows_get dm2_len m.D i 0 hlt (by decide)
      rw [hxi] at h2
      refine List.ext_getElem? (fun j => ?_)
      rw [List.getElem?_set]
      split
      · next e =>
        subst e
        split
        · rw [h2]; rfl
        · next h3 => rw [List.getElem?_eq_none (by omega)]
      · rfl
    rw [hr]
    exact hO6.own h.dks (fun k hk e => by
      obtain rfl : k = hb := by simpa using hk
      exact own_part h.dks (h.held x hxm) (by decide) e hxo)
  · show World.ownsRow _ base 90 2 (.slice x.a (x.H.set a ⟨x.H[a].s, ya, yc, L⟩).length x.cap) _ _
    rw [List.length_set, hxa]
    refine own_cell_set (own_below hheld hV) (a * 2 + 1) _ ?_ (by omega)
    exact rows_set hm2_len x.H _ _ 1 (by decide) a ha rfl
  · intro z hz
    rcases List.mem_or_eq_of_mem_set hz with hz | rfl
    · exact hkd.own (h.bytes x hxm z hz) (by decide)
    · exact own_mono (ownsRow_setCell_other hy (fun e => absurd (hne _ e) (by show ¬ _ ≤ hb; omega)) _) hbase
  · refine bb_set (h.sep.own x hxm) ha (fun k hk => .inr (fun hm => ?_))
    have h1 := hne k hk
    have h2 := (h.bLt x hxm).2 k hm
    omega
  · exact .inl (by unfold Dm.v; simp only [List.length_set])
  · intro k hk
    obtain ⟨z, hz, hk⟩ := List.mem_filterMap.1 hk
    rcases List.mem_or_eq_of_mem_set hz with hz | rfl
    · exact .inl (List.mem_filterMap.2 ⟨z, hz, hk⟩)
    · exact .inr (hne k hk)
end
end Go.Proofs.Ythhcdfjijagalaa
namespace Go.Proofs.Ythhcdfjijagalaa
open Go.RowKit
set_option linter.unusedVariables false
set_option linter.unusedSimpArgs false
section
variable {w w' W : World} {base p : Nat} {m : Mst}
theorem rows_same {α : Type} {f : α → List Value} {k : Nat} (hf : ∀ x, (f x).length = k) (l : List α) (i : Nat) (y : α) (hi : i < l.length) (h : f y = f l[i]) : rows f (l.set i y) = rows f l := by
  have e : l = l.take i ++ l[i] :: l.drop (i + 1) := by rw [← List.drop_eq_getElem_cons hi, List.take_append_drop]
  rw [set_split l i y hi]
  conv => rhs; rw [e]
  rw [rows_append, rows_append, rows_cons, rows_cons, h]
theorem StR.at (h : StR W base p m) {i : Nat} {x : Dm} (hx : m.D[i]? = some x) : ∃ h : i < m.D.length, m.D[i] = x := by
  have hlt := (List.getElem?_eq_some_iff.1 hx).1
  exact ⟨hlt, by rw [List.getElem?_eq_getElem hlt] at hx; exact Option.some.inj hx⟩
theorem StR.empty (h : StR W base p m) (i : Nat) (x : Dm) (g : Bool) (hx : m.D[i]? = some x) (gd dc : Nat) (hdv : m.dv = .slice (some ⟨gd, 0, none⟩) m.D.length dc) :
    StR ((W.setCell ⟨gd, i * 2, none⟩ (.bool g)).setCell ⟨gd, i * 2 + 1, none⟩ (.slice none 0 0)) base p { m with D := m.D.set i ⟨g, none, 0, []⟩ } ∧ Kt W ((W.setCell ⟨gd, i * 2, none⟩ (.bool g)).setCell ⟨gd, i * 2 + 1, none⟩ (.slice none 0 0)) := by
  obtain ⟨hlt, hxi⟩ := h.at hx
  have hxm := List.mem_of_getElem? hx
  have hdo : m.dv.ownBlock = some gd := by rw [hdv]; rfl
  have hO : Only W ((W.setCell ⟨gd, i * 2, none⟩ (.bool g)).setCell ⟨gd, i * 2 + 1, none⟩ (.slice none 0 0)) [gd] := ((Only.refl W [gd]).setCell (a := ⟨gd, i * 2, none⟩) (.inl (by simp)) _).setCell (a := ⟨gd, i * 2 + 1, none⟩) (.inl (by simp)) _
  refine h.disk i x ⟨g, none, 0, []⟩ [gd] hx hO (fun k hk => ?_) ?_ (World.ownsRow_nil _ _ _ _) (fun z hz => by cases hz) List.nodup_nil (.inr (fun k hk => by simp [Dm.v, Value.ownBlock] at hk)) (fun k hk => by simp [Dm.bb] at hk)
  · obtain rfl : k = gd := by simpa using hk
    exact .inl hdo
  · have hd := h.dks
    rw [hdv] at hd ⊢
    have h1 := own_cell_set hd (i * 2) (.bool g) (rows_set dm2_len m.D ⟨g, x.a, x.cap, x.H⟩ (.bool g) 0 (by decide) i hlt (by rw [hxi]; rfl)) (by omega)
    exact own_cell_set h1 (i * 2 + 1) (.slice none 0 0) (by
      have := rows_set dm2_len (m.D.set i ⟨g, x.a, x.cap, x.H⟩) ⟨g, none, 0, []⟩ (.slice none 0 0) 1 (by decide) i (by simpa using hlt) (by rw [List.getElem_set_self]; rfl)
      rwa [List.set_set] at this) (by omega)
theorem cb_at (l : List UInt8) (i : Nat) (y : UInt8) : (cb l).set i (.int .u8 (y.toNat : Int)) = cb (l.set i y) := (cb_set l i y).symm
theorem StR.spoil (h : StR W base p m) (i a t : Nat) (x : Dm) (hx : m.D[i]? = some x) (ha : a < x.H.length) (bb : Nat) (hbb : x.H[a].a = some ⟨bb, 0, none⟩) (ht : t < x.H[a].b.length) (y : UInt8) :
    StR (W.setCell ⟨bb, t, none⟩ (.int .u8 (y.toNat : Int))) base p { m with D := m.D.set i ⟨x.g, x.a, x.cap, x.H.set a ⟨x.H[a].s, x.H[a].a, x.H[a].cap, x.H[a].b.set t y⟩⟩ } ∧ Kt W (W.setCell ⟨bb, t, none⟩ (.int .u8 (y.toNat : Int))) := by
  obtain ⟨hlt, hxi⟩ := h.at hx
  have hxm := List.mem_of_getElem? hx
  have ham := List.getElem_mem ha
  have hbo : x.H[a].v.ownBlock = some bb := by unfold Hm.v; rw [hbb]; rfl
  have hO : Only W (W.setCell ⟨bb, t, none⟩ (.int .u8 (y.toNat : Int))) [bb] := (Only.refl W [bb]).setCell (a := ⟨bb, t, none⟩) (.inl (by simp)) _
  have hmem : bb ∈ x.bb := List.mem_filterMap.2 ⟨_, ham, hbo⟩
  have hown := h.bytes x hxm _ ham
  have hk : ∀ {k}, k ∈ [bb] → k = bb := fun hk => by simpa using hk
  have hvb : (x.H.set a ⟨x.H[a].s, x.H[a].a, x.H[a].cap, x.H[a].b.set t y⟩).map (fun z => z.v.ownBlock) = x.H.map (fun z => z.v.ownBlock) := by
    rw [List.map_set]
    have e : ((⟨x.H[a].s, x.H[a].a, x.H[a].cap, x.H[a].b.set t y⟩ : Hm)).v.ownBlock = (x.H.map (fun z => z.v.ownBlock))[a]'(by simpa using ha) := by
      simp only [List.getElem_map, Hm.v, List.length_set]
    rw [e, List.set_getElem_self]
  have hbbs : (x.H.set a ⟨x.H[a].s, x.H[a].a, x.H[a].cap, x.H[a].b.set t y⟩).filterMap (fun z => z.v.ownBlock) = x.bb := by
    unfold Dm.bb
    have e1 : ∀ L : List Hm, L.filterMap (fun z => z.v.ownBlock) = (L.map (fun z => z.v.ownBlock)).filterMap id := fun L => by rw [List.filterMap_map]; rfl
    rw [e1, e1, hvb]
  refine h.disk i x ⟨x.g, x.a, x.cap, x.H.set a ⟨x.H[a].s, x.H[a].a, x.H[a].cap, x.H[a].b.set t y⟩⟩ [bb] hx hO (fun k h1 => .inr (.inr (by rw [hk h1]; exact hmem))) ?_ ?_ ?_ (by show List.Nodup (List.filterMap _ _); rw [hbbs]; exact h.sep.own x hxm) (.inl (by unfold Dm.v; simp only [List.length_set])) (fun k h1 => .inl (by
      have h1 : k ∈ List.filterMap _ _ := h1
      rw [hbbs] at h1; exact h1))
  · rw [rows_same dm2_len m.D i _ hlt (by rw [hxi]; show [Value.bool x.g, Value.slice x.a (List.length _) x.cap] = _; rw [List.length_set]; rfl)]
    exact hO.own h.dks (fun k h1 e => by rw [hk h1] at e; exact own_part h.dks hown (by decide) e hbo)
  · show World.ownsRow _ base 90 2 (.slice x.a (x.H.set a _).length x.cap) (x.H.set a _).length (rows hm2 (x.H.set a _))
    rw [rows_same hm2_len x.H a _ ha (by show [Value.int .i64 x.H[a].s, Value.slice x.H[a].a (List.length _) x.H[a].cap] = _; rw [List.length_set]; rfl), List.length_set]
    exact hO.own (h.held x hxm) (fun k h1 e => by rw [hk h1] at e; exact own_part (h.held x hxm) hown (by decide) e hbo)
  · intro z hz
    obtain ⟨j, hj⟩ := List.getElem?_of_mem hz
    by_cases e : j = a
    · subst e
      rw [List.getElem?_set_self ha] at hj
      obtain rfl := Option.some.inj hj
      show World.ownsRow _ base 5 1 (.slice x.H[j].a (x.H[j].b.set t y).length x.H[j].cap) (x.H[j].b.set t y).length (cb (x.H[j].b.set t y))
      unfold Hm.v at hown
      rw [List.length_set, hbb] at *
      exact own_cell_set hown t _ (cb_at _ t y) (by omega)
    · rw [List.getElem?_set_ne (fun e' => e e'.symm)] at hj
      exact hO.own (h.bytes x hxm z (List.mem_of_getElem? hj)) (fun k h1 h2 => by
        rw [hk h1] at h2
        exact bb_ne (h.sep.own x hxm) (List.getElem?_eq_getElem ha) hj (fun e' => e e'.symm) hbo h2)
end
end Go.Proofs.Ythhcdfjijagalaa
