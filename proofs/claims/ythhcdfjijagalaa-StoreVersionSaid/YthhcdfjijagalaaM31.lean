/- Joined, and what is not used struck: StoY. -/
import Derived.Test.YthhcdfjijagalaaM29
import Derived.Test.YthhcdfjijagalaaM30
namespace Go.Proofs.Ythhcdfjijagalaa
open Go.RowKit
set_option linter.unusedVariables false
set_option linter.unusedSimpArgs false
set_option maxRecDepth 100000
/-- a block of another type is written -/
def offT (t : TypeId) : Bool := t != 80 && t != 61 && t != 90 && t != 5 && t != 27 && t != 32 && t != 3 && t != 65
theorem StR.off {w w' : World} {base p b : Nat} {m : Mst} {cs : Array Value} {t : TypeId} (h : StR w base p m) (hO : Only w w' [b]) (hb : w.heap[b]? = some (.cells cs t (0, 0))) (ht : offT t = true) : StR w' base p m := by
  simp only [offT, Bool.and_eq_true, bne_iff_ne, ne_eq] at ht
  obtain ⟨⟨⟨⟨⟨⟨⟨t1, t2⟩, t3⟩, t4⟩, t5⟩, t6⟩, t7⟩, t8⟩ := ht
  have k : ∀ {base' : Nat} {e : TypeId} {sz n : Nat} {v : Value} {xs : List Value}, w.ownsRow base' e sz v n xs → ¬ t = e → w'.ownsRow base' e sz v n xs := fun ho hne => hO.own ho (fun x hx he => by
    obtain rfl : x = b := by simpa using hx
    exact own_blk_ne ho hb (fun e => hne e.symm) he)
  refine ⟨hO.blk h.box (fun hm => ?_), h.le, k h.dks t2, fun x hx => k (h.held x hx) t3, fun x hx y hy => k (h.bytes x hx y hy) t4, h.sep, k h.tail t5, fun r hr => ⟨k (h.evs r hr).1 t6, (h.evs r hr).2⟩, k h.seen t7, k h.accs t8, h.aok⟩
  obtain rfl : p = b := by simpa using hm
  exact heap_ne h.box hb (fun e => t1 e.symm) rfl
theorem Kt.off {w V W : World} {b : Nat} (h : Kt w V) (hO : Only V W [b]) (hb : w.heap.size ≤ b) : Kt w W :=
  ⟨hO.os.trans h.os, hO.tape.trans h.tape, hO.output.trans h.output, Nat.le_trans h.size hO.size, fun k cs t hk ht => hO.blk (h.block k cs t hk ht) (by
    have := blk_lt hk
    simp; omega)⟩
/-- an answer, and what the store is then -/
def MutRes (base p : Nat) (s' : Sto.St) (a : Sto.An) (w : World) (e : Ending) (w' : World) : Prop := ∃ v m', e = .returned v ∧ AnO w' base v a ∧ StR w' base p m' ∧ m'.st = s' ∧ Kt w w' ∧ Below base w w'
theorem AnO.nought (w : World) (base : Nat) : AnO w base (ansVal 0 0 (.slice none 0 0) 0 (.slice none 0 0)) Sto.an0 := ⟨none, 0, none, 0, rfl, EO.nil _ _, AO.nil _ _⟩
theorem harm_1 {s : Sto.St} {d : Sto.Do} (h : d.n < 0 ∨ (s.disks.length : Int) ≤ d.n) : Sto.harm s d = (s, Sto.anE 6) := by unfold Sto.harm; rw [if_pos h]
theorem harm_2 {s : Sto.St} {d : Sto.Do} (h : ¬ (d.n < 0 ∨ (s.disks.length : Int) ≤ d.n)) (h2 : d.kind = 6) : Sto.harm s d = ({ s with disks := s.disks.set d.n.toNat ⟨false, []⟩ }, Sto.an0) := by unfold Sto.harm; rw [if_neg h, if_pos h2]
theorem harm_3 {s : Sto.St} {d : Sto.Do} (h : ¬ (d.n < 0 ∨ (s.disks.length : Int) ≤ d.n)) (h2 : ¬ d.kind = 6) (h3 : d.kind = 5) : Sto.harm s d = if (s.disks.getD d.n.toNat ⟨false, []⟩).gone = true then (s, Sto.anE 8) else ({ s with disks := s.disks.set d.n.toNat ⟨true, []⟩ }, Sto.an0) := by unfold Sto.harm; rw [if_neg h, if_neg h2, if_pos h3]
theorem harm_4 {s : Sto.St} {d : Sto.Do} (h : ¬ (d.n < 0 ∨ (s.disks.length : Int) ≤ d.n)) (h2 : ¬ d.kind = 6) (h3 : ¬ d.kind = 5) (h4 : Sto.find (s.disks.getD d.n.toNat ⟨false, []⟩).bl d.seg = none) : Sto.harm s d = (s, Sto.anE 6) := by unfold Sto.harm; rw [if_neg h, if_neg h2, if_neg h3, h4]
theorem harm_5 {s : Sto.St} {d : Sto.Do} {b : List UInt8} (h : ¬ (d.n < 0 ∨ (s.disks.length : Int) ≤ d.n)) (h2 : ¬ d.kind = 6) (h3 : ¬ d.kind = 5) (h4 : Sto.find (s.disks.getD d.n.toNat ⟨false, []⟩).bl d.seg = some b) : Sto.harm s d = if d.t < 0 ∨ (b.length : Int) ≤ d.t then (s, Sto.anE 3)
      else ({ s with disks := s.disks.set d.n.toNat ⟨(s.disks.getD d.n.toNat ⟨false, []⟩).gone, Sto.setB (s.disks.getD d.n.toNat ⟨false, []⟩).bl d.seg (b.set d.t.toNat (b.getD d.t.toNat 0 ^^^ d.y))⟩ }, Sto.an0) := by unfold Sto.harm; rw [if_neg h, if_neg h2, if_neg h3, h4]
set_option maxHeartbeats 8000000 in
theorem stharm_call (base p : Nat) (m : Mst) (K : Nat) (db off : Nat) (d : Sto.Do) (w : World) (h : StR w base p m) (hk : Sto.Ok m.st K) (hd : DoR w db off d) :
    Calls Try.prog 42 #[.pointer (some ⟨p, 0, none⟩), .pointer (some ⟨db, off, none⟩)] w (MutRes base p (Sto.harm m.st d).1 (Sto.harm m.st d).2 w) := by
  have HS := hid ((h.alloc (.cells #[.pointer (some ⟨db, off, none⟩)] 82)).alloc (.cells #[.int .i64 0, .int .i64 0, .slice none 0 0, .int .i64 0, .slice none 0 0] 50))
  have HP := hid (blk_old (o' := .cells #[.int .i64 0, .int .i64 0, .slice none 0 0, .int .i64 0, .slice none 0 0] 50) (blk_new w (.cells #[.pointer (some ⟨db, off, none⟩)] 82)))
  have HV := hid (blk_new (w.alloc (.cells #[.pointer (some ⟨db, off, none⟩)] 82)) (.cells #[.int .i64 0, .int .i64 0, .slice none 0 0, .int .i64 0, .slice none 0 0] 50))
  have HW := hid (((Below.refl w.heap.size w).alloc (Nat.le_refl _) (.cells #[.pointer (some ⟨db, off, none⟩)] 82)).alloc (by simp) (.cells #[.int .i64 0, .int .i64 0, .slice none 0 0, .int .i64 0, .slice none 0 0] 50))
  have hbase : base ≤ w.heap.size := Nat.le_trans h.le (Nat.le_of_lt h.lt)
  have H1 := hid (@harm_1 m.st d)
  have H2 := hid (@harm_2 m.st d)
  have H3 := hid (@harm_3 m.st d)
  have H4 := hid (@harm_4 m.st d)
  have H5 := hid (fun (b : List UInt8) => @harm_5 m.st d b)
  have hLn := hid (show m.st.disks.length = m.D.length by simp [Mst.st])
  rw [hLn.out] at H1 H2 H3 H4 H5
  have hnd : m.D.length ≤ 12 := by have := hk.n12; simpa [Mst.st] using this
  have hnd1 : 1 ≤ m.D.length := by
    have h1 := hk.nd; have h2 := hk.d; have h3 := hk.sp
    rw [hLn.out] at h1
    omega
  obtain ⟨da, dc, hdv, -⟩ := own_sl h.dks
  obtain ⟨gd, cp, e', hg1, hg2, hg3, hg4⟩ := own_pos h.dks hnd1
  have HDV := hid e'
  clear hdv
  have hdlt := hd.lt
  have HD := hid (hd.below HW.out)
  clear h hd hk
  obtain ⟨N, hN⟩ : ∃ N, N = m.D.length := ⟨_, rfl⟩
  rw [← hN] at H1 H2 H3 H4 H5 hnd hnd1 HDV
  replace hN := hid hN
  go_enter Try.func42, Try.ntmps42
  go_wp2_with fail
  obtain ⟨wb, hwb⟩ : ∃ wb, wb = (w.alloc (.cells #[.pointer (some ⟨db, off, none⟩)] 82)).alloc (.cells #[.int .i64 0, .int .i64 0, .slice none 0 0, .int .i64 0, .slice none 0 0] 50) := ⟨_, rfl⟩
  rw [← hwb] at HS HP HV HW HD ⊢
  have hwB : w.heap.size + 1 < wb.heap.size := by rw [hwb]; simp
  simp only [World.size_alloc] at HV
  obtain ⟨B, hB⟩ : ∃ B, B = w.heap.size + 1 := ⟨_, rfl⟩
  rw [← hB] at HV hwB ⊢
  obtain ⟨P, hP⟩ : ∃ P, P = w.heap.size := ⟨_, rfl⟩
  rw [← hP] at HP ⊢
  clear hwb
  have hB' : w.heap.size ≤ B := by omega
  have hBb : base ≤ B := by omega
  have hPB : P ≠ B := by omega
  have hBP : B ≠ P := by omega
  have hgB : gd ≠ B := by omega
  have hBg : B ≠ gd := by omega
  have hgP : gd ≠ P := by omega
  have hPg : P ≠ gd := by omega
  replace hB := hid hB
  replace hP := hid hP
  have hbb := HW.out.mono hbase
  have KB := hid (Kt.below HW.out)
  have p0 : wb.cell? ⟨P, 0, none⟩ = some (.pointer (some ⟨db, off, none⟩)) := blk_cell HP.out
  have k1 : wb.cell? ⟨db, off + 1, none⟩ = some (.int .i64 d.n) := HD.out.n
  have c3 : wb.cell? ⟨p, 3, none⟩ = some (.slice (some ⟨gd, 0, none⟩) N cp) := by
    have := blk_cell (i := 3) HS.out.box
    change _ = some m.dv at this
    rw [this, HDV.out]
  have c3h := hid c3
  by_cases hbad : d.n < 0 ∨ (N : Int) ≤ d.n
  · have HL := hid (H1.out hbad)
    clear H1 H2 H3 H4 H5
    rcases Classical.em (d.n < 0) with hn0 | hn0
    · have t0 : decide (d.n < 0) = true := decide_eq_true hn0
      clear hbad
      replace hn0 := hid hn0
      go_wp2_with fail
      go_quiet (fail)
      generalize hwx : wb.drewN nq = wx
      have bx : Below wb.heap.size wb wx := hwx ▸ below_drewN (Below.refl _ _) _
      have vx := blk_below HV.out bx
      have Xx := hid (HS.out.below bx)
      have Kx := hid (KB.out.trans (Kt.below bx))
      have bbx := hbb.trans (bx.mono (by omega))
      clear hwx bx p0 k1 c3
      have r0 : wx.cell? ⟨B, 0, none⟩ = some (.int .i64 0) := blk_cell vx
      have r1 : wx.cell? ⟨B, 1, none⟩ = some (.int .i64 0) := blk_cell vx
      have r2 : wx.cell? ⟨B, 2, none⟩ = some (.slice none 0 0) := blk_cell vx
      have r3 : wx.cell? ⟨B, 3, none⟩ = some (.int .i64 0) := blk_cell vx
      have r4 : wx.cell? ⟨B, 4, none⟩ = some (.slice none 0 0) := blk_cell vx
      have f0 : ∀ j, wx.frozen? ⟨B, j, none⟩ = false := fun j => blk_free vx
      go_wp2_with fail
      obtain ⟨W, hW, q, hBW, hOW, hown⟩ := set5_facts bbx hBb vx (.int .i64 (6)) (.int .i64 (0)) (.slice none 0 0) (.int .i64 (0)) (.slice none 0 0)
      rw [hW]
      have q0 := blk_cell (i := 0) q
      have q1 := blk_cell (i := 1) q
      have q2 := blk_cell (i := 2) q
      have q3 := blk_cell (i := 3) q
      have q4 := blk_cell (i := 4) q
      refine bodyPost_ret (v := ansVal (6) (0) (.slice none 0 0) (0) (.slice none 0 0)) (by unfold ansVal; simp [results, Try.results42, go_sem, q0, q1, q2, q3, q4]) rfl ⟨_, m, rfl, ?_, (Xx.out).off hOW vx (by decide), ?_, (Kx.out).off hOW hB', hBW⟩
      · rw [HL.out]; exact AnO.err _ _ _
      · rw [HL.out]
    · have t0 : decide (d.n < 0) = false := decide_eq_false hn0
      have t1 : decide ((N : Int) ≤ d.n) = true := decide_eq_true (by rcases hbad with h | h; exact absurd h hn0; exact h)
      clear hbad
      replace hn0 := hid hn0
      go_wp2_with fail
      go_quiet (fail)
      generalize hwx : wb.drewN nq = wx
      have bx : Below wb.heap.size wb wx := hwx ▸ below_drewN (Below.refl _ _) _
      have vx := blk_below HV.out bx
      have Xx := hid (HS.out.below bx)
      have Kx := hid (KB.out.trans (Kt.below bx))
      have bbx := hbb.trans (bx.mono (by omega))
      clear hwx bx p0 k1 c3
      have r0 : wx.cell? ⟨B, 0, none⟩ = some (.int .i64 0) := blk_cell vx
      have r1 : wx.cell? ⟨B, 1, none⟩ = some (.int .i64 0) := blk_cell vx
      have r2 : wx.cell? ⟨B, 2, none⟩ = some (.slice none 0 0) := blk_cell vx
      have r3 : wx.cell? ⟨B, 3, none⟩ = some (.int .i64 0) := blk_cell vx
      have r4 : wx.cell? ⟨B, 4, none⟩ = some (.slice none 0 0) := blk_cell vx
      have f0 : ∀ j, wx.frozen? ⟨B, j, none⟩ = false := fun j => blk_free vx
      go_wp2_with fail
      obtain ⟨W, hW, q, hBW, hOW, hown⟩ := set5_facts bbx hBb vx (.int .i64 (6)) (.int .i64 (0)) (.slice none 0 0) (.int .i64 (0)) (.slice none 0 0)
      rw [hW]
      have q0 := blk_cell (i := 0) q
      have q1 := blk_cell (i := 1) q
      have q2 := blk_cell (i := 2) q
      have q3 := blk_cell (i := 3) q
      have q4 := blk_cell (i := 4) q
      refine bodyPost_ret (v := ansVal (6) (0) (.slice none 0 0) (0) (.slice none 0 0)) (by unfold ansVal; simp [results, Try.results42, go_sem, q0, q1, q2, q3, q4]) rfl ⟨_, m, rfl, ?_, (Xx.out).off hOW vx (by decide), ?_, (Kx.out).off hOW hB', hBW⟩
      · rw [HL.out]; exact AnO.err _ _ _
      · rw [HL.out]
  · have H2 := hid (H2.out hbad)
    have H3 := hid (H3.out hbad)
    have H4 := hid (H4.out hbad)
    have H5 := hid (fun (b : List UInt8) => H5.out b hbad)
    have hn0 : ¬ d.n < 0 := fun h => hbad (.inl h)
    have hn1 : ¬ (N : Int) ≤ d.n := fun h => hbad (.inr h)
    obtain ⟨k, hke⟩ := Int.eq_ofNat_of_zero_le (a := d.n) (by omega)
    rw [hke] at k1 hn0 hn1 H2 H3 H4 H5
    simp only [Int.toNat_natCast] at H2 H3 H4 H5
    have hkN : k < N := by omega
    have t0 : decide ((k : Int) < 0) = false := decide_eq_false hn0
    have t1 : decide ((N : Int) ≤ (k : Int)) = false := decide_eq_false hn1
    replace hke := hid hke
    clear hbad H1 hn0 hn1
    go_wp2_with fail
    go_quiet (fail)
    generalize hwx : wb.drewN nq = wx
    have bx : Below wb.heap.size wb wx := hwx ▸ below_drewN (Below.refl _ _) _
    have p1 := (bx.cell (p := ⟨P, 0, none⟩) (blk_lt HP.out)).trans p0
    have k2 := (bx.cell (p := ⟨db, off + 1, none⟩) HD.out.lt).trans k1
    have c4 := (bx.cell (p := ⟨p, 3, none⟩) HS.out.lt).trans c3
    have i0 : (0 : Int) ≤ (k : Int) := by omega
    have i1 : (k : Int) < (N : Int) := by omega
    clear hwx p0 k1 c3 t0 t1
    go_wp2_with fail
    go_quiet (fail)
    generalize hwy : wx.drewN nq = wy
    have bw := bnext bx (show Below wx.heap.size wx wy from hwy ▸ below_drewN (Below.refl _ _) _)
    clear hwy p1 k2 c4 bx
    have vy := blk_below HV.out bw
    have Xy := hid (HS.out.below bw)
    have Ky := hid (KB.out.trans (Kt.below bw))
    have bby := hbb.trans (bw.mono (by omega))
    have Dy := hid (HD.out.below bw)
    have Py := blk_below HP.out bw
    have hszy := bw.size
    have p2 : wy.cell? ⟨P, 0, none⟩ = some (.pointer (some ⟨db, off, none⟩)) := blk_cell Py
    have k0 : wy.cell? ⟨db, off, none⟩ = some (.int .i64 d.kind) := Dy.out.kind
    have k3 : wy.cell? ⟨db, off + 3, none⟩ = some (.int .i64 d.t) := Dy.out.t
    have hkD : k < m.D.length := by rw [← hN.out]; exact hkN
    have hdk := Xy.out.dks
    rw [HDV.out, ← hN.out] at hdk
    obtain ⟨a', cap', e'', hsD⟩ := own_sl hdk
    cases e''
    obtain ⟨curD, hgD, -⟩ := own_known hdk
    have fg : ∀ j, wy.frozen? ⟨gd, j, none⟩ = false := fun j => blk_free hgD
    rw [hN.out] at hsD
    obtain ⟨e0, e1⟩ := dm_at hsD k hkD
    simp only [Nat.zero_add] at e0 e1
    have hx : m.D[k]? = some m.D[k] := List.getElem?_eq_getElem hkD
    obtain ⟨x, hxe⟩ : ∃ x, x = m.D[k] := ⟨_, rfl⟩
    rw [← hxe] at e0 e1 hx
    have hgetx : m.st.disks.getD k ⟨false, []⟩ = x.dk := by
      rw [hxe]; simp [Mst.st, List.getD, hkD]
    rw [hgetx] at H3 H4 H5
    have HX := hid hx
    have hdv1 := hid (HDV.out.trans (show Value.slice (some ⟨gd, 0, none⟩) N cp = Value.slice (some ⟨gd, 0, none⟩) m.D.length cp by rw [hN.out]))
    have hHe := hid (Xy.out.held x (List.mem_of_getElem? hx))
    clear hsD hgD hdk hgetx hxe hx bw
    obtain ⟨g, xa, xc, H⟩ := x
    simp only at e0 e1
    have r0 : wy.cell? ⟨B, 0, none⟩ = some (.int .i64 0) := blk_cell vy
    have r1 : wy.cell? ⟨B, 1, none⟩ = some (.int .i64 0) := blk_cell vy
    have r2 : wy.cell? ⟨B, 2, none⟩ = some (.slice none 0 0) := blk_cell vy
    have r3 : wy.cell? ⟨B, 3, none⟩ = some (.int .i64 0) := blk_cell vy
    have r4 : wy.cell? ⟨B, 4, none⟩ = some (.slice none 0 0) := blk_cell vy
    have f0 : ∀ j, wy.frozen? ⟨B, j, none⟩ = false := fun j => blk_free vy
    by_cases h6 : d.kind = 6
    · have HL := hid (H2.out h6)
      have t6 : (d.kind == 6) = true := by simpa using h6
      replace h6 := hid h6
      clear H2 H3 H4 H5
      obtain ⟨XV, KV⟩ := Xy.out.empty k _ false HX.out gd cp hdv1.out
      have vV := bkeep (i := k * 2 + 1) (bkeep (i := k * 2) vy hBg (.bool false)) hBg (.slice none 0 0)
      have bV := (bby.setCell (p := ⟨gd, k * 2, none⟩) hg1 (.bool false)).setCell (p := ⟨gd, k * 2 + 1, none⟩) hg1 (.slice none 0 0)
      replace XV := hid XV
      replace KV := hid (Ky.out.trans KV)
      replace vV := hid vV
      replace bV := hid bV
      go_wp2_with fail
      obtain ⟨W, hW, q, hBW, hOW, hown⟩ := set5_facts bV.out hBb vV.out (.int .i64 (0)) (.int .i64 (0)) (.slice none 0 0) (.int .i64 (0)) (.slice none 0 0)
      rw [hW]
      have q0 := blk_cell (i := 0) q
      have q1 := blk_cell (i := 1) q
      have q2 := blk_cell (i := 2) q
      have q3 := blk_cell (i := 3) q
      have q4 := blk_cell (i := 4) q
      refine bodyPost_ret (v := ansVal (0) (0) (.slice none 0 0) (0) (.slice none 0 0)) (by unfold ansVal; simp [results, Try.results42, go_sem, q0, q1, q2, q3, q4]) rfl ⟨_, { m with D := m.D.set k ⟨false, none, 0, []⟩ }, rfl, ?_, (XV.out).off hOW vV.out (by decide), ?_, (KV.out).off hOW hB', hBW⟩
      · rw [HL.out]; exact AnO.nought _ _
      · rw [HL.out]; simp [Mst.st, List.map_set, Dm.dk]
    · have t6 : (d.kind == 6) = false := by simpa using h6
      by_cases h5 : d.kind = 5
      · have HL := hid (H3.out h6 h5)
        have t5 : (d.kind == 5) = true := by simpa using h5
        replace h6 := hid h6
        replace h5 := hid h5
        clear H2 H3 H4 H5
        cases g with
        | true =>
          replace HL := hid (HL.out.trans (if_pos rfl))
          go_wp2_with fail
          obtain ⟨W, hW, q, hBW, hOW, hown⟩ := set5_facts bby hBb vy (.int .i64 (8)) (.int .i64 (0)) (.slice none 0 0) (.int .i64 (0)) (.slice none 0 0)
          rw [hW]
          have q0 := blk_cell (i := 0) q
          have q1 := blk_cell (i := 1) q
          have q2 := blk_cell (i := 2) q
          have q3 := blk_cell (i := 3) q
          have q4 := blk_cell (i := 4) q
          refine bodyPost_ret (v := ansVal (8) (0) (.slice none 0 0) (0) (.slice none 0 0)) (by unfold ansVal; simp [results, Try.results42, go_sem, q0, q1, q2, q3, q4]) rfl ⟨_, m, rfl, ?_, (Xy.out).off hOW vy (by decide), ?_, (Ky.out).off hOW hB', hBW⟩
          · rw [HL.out]; exact AnO.err _ _ _
          · rw [HL.out]
        | false =>
          replace HL := hid (HL.out.trans (if_neg (show ¬ (false = true) from Bool.false_ne_true)))
          obtain ⟨XV, KV⟩ := Xy.out.empty k _ true HX.out gd cp hdv1.out
          have vV := bkeep (i := k * 2 + 1) (bkeep (i := k * 2) vy hBg (.bool true)) hBg (.slice none 0 0)
          have bV := (bby.setCell (p := ⟨gd, k * 2, none⟩) hg1 (.bool true)).setCell (p := ⟨gd, k * 2 + 1, none⟩) hg1 (.slice none 0 0)
          replace XV := hid XV
          replace KV := hid (Ky.out.trans KV)
          replace vV := hid vV
          replace bV := hid bV
          go_wp2_with fail
          obtain ⟨W, hW, q, hBW, hOW, hown⟩ := set5_facts bV.out hBb vV.out (.int .i64 (0)) (.int .i64 (0)) (.slice none 0 0) (.int .i64 (0)) (.slice none 0 0)
          rw [hW]
          have q0 := blk_cell (i := 0) q
          have q1 := blk_cell (i := 1) q
          have q2 := blk_cell (i := 2) q
          have q3 := blk_cell (i := 3) q
          have q4 := blk_cell (i := 4) q
          refine bodyPost_ret (v := ansVal (0) (0) (.slice none 0 0) (0) (.slice none 0 0)) (by unfold ansVal; simp [results, Try.results42, go_sem, q0, q1, q2, q3, q4]) rfl ⟨_, { m with D := m.D.set k ⟨true, none, 0, []⟩ }, rfl, ?_, (XV.out).off hOW vV.out (by decide), ?_, (KV.out).off hOW hB', hBW⟩
          · rw [HL.out]; exact AnO.nought _ _
          · rw [HL.out]; simp [Mst.st, List.map_set, Dm.dk]
      · have t5 : (d.kind == 5) = false := by simpa using h5
        replace H4 := hid (H4.out h6 h5)
        replace H5 := hid (fun b => H5.out b h6 h5)
        replace h6 := hid h6
        replace h5 := hid h5
        clear H2 H3
        obtain ⟨a', cap', e'', hsH⟩ := own_sl hHe.out
        simp only [Dm.v, Value.slice.injEq, true_and] at e''
        obtain ⟨rfl, rfl⟩ := e''
        change Sl wy 2 xa H.length xc (rows hm2 H) at hsH
        have DI := hid (idx_stharm1 xa H.length xc H P db off d.seg wy hsH (blk_cell Py) Dy.out.seg)
        clear hsH Py
        go_wp2_with fail
        go_at_call 63; refine (DI.out).mono ?_; rintro e w1 ⟨b1, hf⟩
        have v1 := blk_below vy b1
        have X1 := hid (Xy.out.below b1)
        have K1 := hid (Ky.out.trans (Kt.below b1))
        have bb1 := bby.trans (b1.mono (by omega))
        have D1 := hid (Dy.out.below b1)
        have p3 := (b1.cell (p := ⟨P, 0, none⟩) (World.block_lt_of_cell? _ _ p2)).trans p2
        have k4 : w1.cell? ⟨db, off + 3, none⟩ = some (.int .i64 d.t) := D1.out.t
        have k5 : w1.cell? ⟨db, off + 4, none⟩ = some (.int .u8 (d.y.toNat : Int)) := D1.out.y
        have e2 := (b1.cell (p := ⟨gd, k * 2 + 1, none⟩) (World.block_lt_of_cell? _ _ e1)).trans e1
        have hszw := b1.size
        clear r0 r1 r2 r3 r4 f0 fg p2 k0 k3 e0 e1 DI vy bby
        have r0 : w1.cell? ⟨B, 0, none⟩ = some (.int .i64 0) := blk_cell v1
        have r1 : w1.cell? ⟨B, 1, none⟩ = some (.int .i64 0) := blk_cell v1
        have r2 : w1.cell? ⟨B, 2, none⟩ = some (.slice none 0 0) := blk_cell v1
        have r3 : w1.cell? ⟨B, 3, none⟩ = some (.int .i64 0) := blk_cell v1
        have r4 : w1.cell? ⟨B, 4, none⟩ = some (.slice none 0 0) := blk_cell v1
        have f0 : ∀ j, w1.frozen? ⟨B, j, none⟩ = false := fun j => blk_free v1
        rcases hf with ⟨a, ha, rfl, ha1, ha2⟩ | ⟨rfl, hno⟩
        · have HF := hid (find_some ha ha1 ha2)
          have H5' := hid (H5.out _ HF.out)
          have hset := hid (fun (y : Hm) (hy : y.s = H[a].s) => setB_eq H d.seg y a ha ha1 (hy.trans ha1) ha2)
          replace ha1 := hid ha1
          replace ha2 := hid ha2
          have hHe1 := hid (own_below hHe.out b1)
          obtain ⟨a', cap', e'', hsH⟩ := own_sl hHe1.out
          simp only [Dm.v, Value.slice.injEq, true_and] at e''
          obtain ⟨rfl, rfl⟩ := e''
          change Sl w1 2 xa H.length xc (rows hm2 H) at hsH
          obtain ⟨hb, ho, rfl, -⟩ := hsH.addr (by omega)
          obtain ⟨y0, y1⟩ := hm_at hsH a ha
          have j0 : (0 : Int) ≤ (a : Int) := by omega
          have j1 : (a : Int) < (H.length : Int) := by omega
          have hBy := hid (X1.out.bytes _ (List.mem_of_getElem? HX.out) H[a] (List.getElem_mem ha))
          obtain ⟨z, hz⟩ : ∃ z, z = H[a] := ⟨_, rfl⟩
          rw [← hz] at y0 y1 hBy H5' hset
          have HZ := hid hz
          obtain ⟨zs, za, zc, zb⟩ := z
          simp only at y0 y1 H5' hset
          clear hsH y0 b1 hz
          by_cases htb : d.t < 0 ∨ (zb.length : Int) ≤ d.t
          · replace H5' := hid (H5'.out.trans (if_pos htb))
            rcases Classical.em (d.t < 0) with hn0 | hn0
            · clear htb
              go_wp2_with fail
              obtain ⟨W, hW, q, hBW, hOW, hown⟩ := set5_facts bb1 hBb v1 (.int .i64 (3)) (.int .i64 (0)) (.slice none 0 0) (.int .i64 (0)) (.slice none 0 0)
              rw [hW]
              have q0 := blk_cell (i := 0) q
              have q1 := blk_cell (i := 1) q
              have q2 := blk_cell (i := 2) q
              have q3 := blk_cell (i := 3) q
              have q4 := blk_cell (i := 4) q
              refine bodyPost_ret (v := ansVal (3) (0) (.slice none 0 0) (0) (.slice none 0 0)) (by unfold ansVal; simp [results, Try.results42, go_sem, q0, q1, q2, q3, q4]) rfl ⟨_, m, rfl, ?_, (X1.out).off hOW v1 (by decide), ?_, (K1.out).off hOW hB', hBW⟩
              · rw [H5'.out]; exact AnO.err _ _ _
              · rw [H5'.out]
            · have hn1 : (zb.length : Int) ≤ d.t := by rcases htb with h | h; exact absurd h hn0; exact h
              clear htb
              go_wp2_with fail
              obtain ⟨W, hW, q, hBW, hOW, hown⟩ := set5_facts bb1 hBb v1 (.int .i64 (3)) (.int .i64 (0)) (.slice none 0 0) (.int .i64 (0)) (.slice none 0 0)
              rw [hW]
              have q0 := blk_cell (i := 0) q
              have q1 := blk_cell (i := 1) q
              have q2 := blk_cell (i := 2) q
              have q3 := blk_cell (i := 3) q
              have q4 := blk_cell (i := 4) q
              refine bodyPost_ret (v := ansVal (3) (0) (.slice none 0 0) (0) (.slice none 0 0)) (by unfold ansVal; simp [results, Try.results42, go_sem, q0, q1, q2, q3, q4]) rfl ⟨_, m, rfl, ?_, (X1.out).off hOW v1 (by decide), ?_, (K1.out).off hOW hB', hBW⟩
              · rw [H5'.out]; exact AnO.err _ _ _
              · rw [H5'.out]
          · replace H5' := hid (H5'.out.trans (if_neg htb))
            have hn0 : ¬ d.t < 0 := fun h => htb (.inl h)
            have hn1 : ¬ (zb.length : Int) ≤ d.t := fun h => htb (.inr h)
            obtain ⟨t, hte⟩ := Int.eq_ofNat_of_zero_le (a := d.t) (by omega)
            rw [hte] at k4 hn0 hn1 H5'
            simp only [Int.toNat_natCast] at H5'
            have htl : t < zb.length := by omega
            obtain ⟨bb, bc, e'', -, -, -, -⟩ := own_pos hBy.out (by show 0 < zb.length; omega)
            simp only [Hm.v, Value.slice.injEq, true_and] at e''
            obtain ⟨rfl, rfl⟩ := e''
            have hby2 : w1.ownsRow base 5 1 (.slice (some ⟨bb, 0, none⟩) zb.length zc) zb.length (cb zb) := hBy.out
            have y2 := byte_at hby2 t htl
            have h8 := at8_lt zb t
            have hy8 : d.y.toNat < 256 := UInt8.toNat_lt d.y
            have hxx := u8_xor_nat (at8 zb t) d.y.toNat h8 hy8
            have hvx : (zb.getD t 0 ^^^ d.y).toNat = at8 zb t ^^^ d.y.toNat := UInt8.toNat_xor _ _
            clear hby2
            generalize at8 zb t = va at *
            obtain ⟨vy, hvy⟩ : ∃ vy, vy = d.y.toNat := ⟨_, rfl⟩
            rw [← hvy] at k5 hy8 hxx hvx
            generalize va ^^^ vy = vx at *
            replace hvx := hid hvx
            replace hvy := hid hvy
            have s0 : (0 : Int) ≤ (t : Int) := by omega
            have s1 : (t : Int) < (zb.length : Int) := by omega
            have ff : w1.frozen? ⟨bb, t, none⟩ = false := by
              obtain ⟨cur, hc, -⟩ := own_known hBy.out
              exact blk_free hc
            replace hte := hid hte
            clear htb
            go_wp2_with fail
            refine wp_region_still_tail 13 (by kernel_rfl) (by kernel_rfl) ?_
            change wpStill _ _ (World.drew _) _ _ _
            simp only [List.take_succ_cons, List.take_zero, List.drop_succ_cons, List.drop_zero]
            repeat still_step
            refine wpStill_nil ?_
            change wpList _ _ _ _ _ (World.drewN w1 1)
            go_upto_region 20 with (fail)
            have bz := below_drewN (Below.refl w1.heap.size w1) 1
            obtain ⟨XV, KV⟩ := (X1.out.below bz).spoil k a t _ HX.out ha bb (by show (H[a]'ha).a = _; rw [← HZ.out]) (by show t < (H[a]'ha).b.length; rw [← HZ.out]; exact htl) (zb.getD t 0 ^^^ d.y)
            rw [hvx.out] at XV KV
            have hbz1 : base ≤ bb := by
              have h1 := hBy.out.lt bb rfl
              exact h1.1
            have hBbb : B ≠ bb := by
              intro e
              subst e
              obtain ⟨cs, h1⟩ := own_kind hBy.out rfl
              exact heap_ne h1 v1 (by decide) rfl
            have vV := bkeep (i := t) (blk_below v1 bz) hBbb (.int .u8 (vx : Int))
            have bV := (bb1.trans (bz.mono (by omega))).setCell (p := ⟨bb, t, none⟩) hbz1 (.int .u8 (vx : Int))
            replace XV := hid XV
            replace KV := hid ((K1.out.trans (Kt.below bz)).trans KV)
            generalize (w1.drewN 1).setCell ⟨bb, t, none⟩ (.int .u8 (vx : Int)) = V at *
            clear r0 r1 r2 r3 r4 f0 bb1 v1 p3 k4 k5 e2 y1 y2 ff bz
            have r0 : V.cell? ⟨B, 0, none⟩ = some (.int .i64 0) := blk_cell vV
            have r1 : V.cell? ⟨B, 1, none⟩ = some (.int .i64 0) := blk_cell vV
            have r2 : V.cell? ⟨B, 2, none⟩ = some (.slice none 0 0) := blk_cell vV
            have r3 : V.cell? ⟨B, 3, none⟩ = some (.int .i64 0) := blk_cell vV
            have r4 : V.cell? ⟨B, 4, none⟩ = some (.slice none 0 0) := blk_cell vV
            have f0 : ∀ j, V.frozen? ⟨B, j, none⟩ = false := fun j => blk_free vV
            go_wp2_with fail
            obtain ⟨W, hW, q, hBW, hOW, hown⟩ := set5_facts bV hBb vV (.int .i64 (0)) (.int .i64 (0)) (.slice none 0 0) (.int .i64 (0)) (.slice none 0 0)
            rw [hW]
            have q0 := blk_cell (i := 0) q
            have q1 := blk_cell (i := 1) q
            have q2 := blk_cell (i := 2) q
            have q3 := blk_cell (i := 3) q
            have q4 := blk_cell (i := 4) q
            refine bodyPost_ret (v := ansVal (0) (0) (.slice none 0 0) (0) (.slice none 0 0)) (by unfold ansVal; simp [results, Try.results42, go_sem, q0, q1, q2, q3, q4]) rfl ⟨_, _, rfl, ?_, (XV.out).off hOW vV (by decide), ?_, (KV.out).off hOW hB', hBW⟩
            · rw [H5'.out]; exact AnO.nought _ _
            · rw [H5'.out]
              have hq : Sto.setB (H.map Hm.hd) d.seg (zb.set t (zb.getD t 0 ^^^ d.y)) = (H.set a ⟨zs, some ⟨bb, 0, none⟩, zc, zb.set t (zb.getD t 0 ^^^ d.y)⟩).map Hm.hd := hset.out ⟨zs, some ⟨bb, 0, none⟩, zc, zb.set t (zb.getD t 0 ^^^ d.y)⟩ rfl
              show Mst.st _ = ({ m.st with disks := m.st.disks.set k ⟨g, Sto.setB (H.map Hm.hd) d.seg (zb.set t (zb.getD t 0 ^^^ d.y))⟩ } : Sto.St)
              rw [hq]
              simp only [Mst.st, set_dk, ← HZ.out]
              rfl
        · have HL := hid (H4.out (find_none hno))
          replace hno := hid hno
          clear H4 H5
          go_wp2_with fail
          obtain ⟨W, hW, q, hBW, hOW, hown⟩ := set5_facts bb1 hBb v1 (.int .i64 (6)) (.int .i64 (0)) (.slice none 0 0) (.int .i64 (0)) (.slice none 0 0)
          rw [hW]
          have q0 := blk_cell (i := 0) q
          have q1 := blk_cell (i := 1) q
          have q2 := blk_cell (i := 2) q
          have q3 := blk_cell (i := 3) q
          have q4 := blk_cell (i := 4) q
          refine bodyPost_ret (v := ansVal (6) (0) (.slice none 0 0) (0) (.slice none 0 0)) (by unfold ansVal; simp [results, Try.results42, go_sem, q0, q1, q2, q3, q4]) rfl ⟨_, m, rfl, ?_, (X1.out).off hOW v1 (by decide), ?_, (K1.out).off hOW hB', hBW⟩
          · rw [HL.out]; exact AnO.err _ _ _
          · rw [HL.out]
end Go.Proofs.Ythhcdfjijagalaa
