/- Joined, and what is not used struck: SpB. -/
import Derived.Test.YthhcdfjijagalaaM32
namespace Go.Proofs.Ythhcdfjijagalaa
open Go.RowKit
set_option linter.unusedVariables false
set_option linter.unusedSimpArgs false
set_option maxRecDepth 100000
theorem put_1 {s : Sto.St} {d : Sto.Do} (h : (Evt.wrongBa d.b).1 ≠ 0) : Sto.put s d = (s, Sto.anE (Evt.wrongBa d.b).1) := by unfold Sto.put; rw [if_pos h]
theorem put_2 {s : Sto.St} {d : Sto.Do} (h : (Evt.wrongBa d.b).1 = 0) (h2 : d.b.c ∈ s.seen) : Sto.put s d = (s, Sto.anN s.snap.upto) := by unfold Sto.put; rw [if_neg (by rw [h]; exact fun e => e rfl), if_pos h2]
theorem put_3 {s : Sto.St} {d : Sto.Do} (h : (Evt.wrongBa d.b).1 = 0) (h2 : ¬ d.b.c ∈ s.seen) (h3 : 0 ≤ d.ver ∧ (Vw.get s.snap.accs d.stream).cnt ≠ d.ver) : Sto.put s d = (s, Sto.anE 11) := by
  unfold Sto.put; rw [if_neg (by rw [h]; exact fun e => e rfl), if_neg h2, if_pos h3]
theorem put_4 {s : Sto.St} {d : Sto.Do} (h : (Evt.wrongBa d.b).1 = 0) (h2 : ¬ d.b.c ∈ s.seen) (h3 : ¬ (0 ≤ d.ver ∧ (Vw.get s.snap.accs d.stream).cnt ≠ d.ver)) (h4 : (Vw.fold s.snap d.b.evs).err ≠ 0) : Sto.put s d = (s, Sto.anE (Vw.fold s.snap d.b.evs).err) := by
  unfold Sto.put; rw [if_neg (by rw [h]; exact fun e => e rfl), if_neg h2, if_neg h3, if_pos h4]
theorem put_5 {s : Sto.St} {d : Sto.Do} (h : (Evt.wrongBa d.b).1 = 0) (h2 : ¬ d.b.c ∈ s.seen) (h3 : ¬ (0 ≤ d.ver ∧ (Vw.get s.snap.accs d.stream).cnt ≠ d.ver)) (h4 : (Vw.fold s.snap d.b.evs).err = 0) :
    Sto.put s d = if ((s.tail ++ [d.b]).length : Int) = s.batches then
      (if (Sto.sealS { s with tail := s.tail ++ [d.b] }).2 ≠ 0 then (s, Sto.anE (Sto.sealS { s with tail := s.tail ++ [d.b] }).2)
      else ({ (Sto.sealS { s with tail := s.tail ++ [d.b] }).1 with seen := Sto.insS s.seen d.b.c, snap := (Vw.fold s.snap d.b.evs).v }, Sto.anN (Vw.fold s.snap d.b.evs).v.upto))
    else ({ s with tail := s.tail ++ [d.b], seen := Sto.insS s.seen d.b.c, snap := (Vw.fold s.snap d.b.evs).v }, Sto.anN (Vw.fold s.snap d.b.evs).v.upto) := by
  unfold Sto.put; rw [if_neg (by rw [h]; exact fun e => e rfl), if_neg h2, if_neg h3, if_neg (by rw [h4]; exact fun e => e rfl)]
theorem ac_fld2 (s : ByteArray) (m c : Int) (o : Bool) (w : World) : (Instr.field 65 (.agg #[.string s, .int .i64 m, .int .i64 c, .bool o]) 2).run Try.prog w = .ok (.int .i64 c) w := by kernel_rfl
theorem blk_at {w : World} {o : Obj} {b : Nat} (h : w.heap.size = b) : (w.alloc o).heap[b]? = some o := by subst h; exact blk_new w o
theorem own_alloc {w : World} {o : Obj} {base n sz : Nat} {e : TypeId} {v : Value} {xs : List Value} (h : w.ownsRow base e sz v n xs) : (w.alloc o).ownsRow base e sz v n xs := own_below h ((Below.refl _ _).alloc (Nat.le_refl _) _)
theorem own_setc {w : World} {g i base n sz : Nat} {u : Value} {e : TypeId} {v : Value} {xs : List Value} (h : w.ownsRow base e sz v n xs) (hne : v.ownBlock ≠ some g) : (w.setCell ⟨g, i, none⟩ u).ownsRow base e sz v n xs := ownsRow_setCell_other h hne u
theorem calloc {w : World} {o : Obj} {b i : Nat} {u : Value} (h : w.cell? ⟨b, i, none⟩ = some u) : (w.alloc o).cell? ⟨b, i, none⟩ = some u := (cell_old (World.block_lt_of_cell? _ _ h)).trans h
theorem ba_src (w : World) (c : Int) (a : Option Addr) (n cap lb : Nat) (hv : w.heap[lb]? = some (.cells #[.int .i64 c, .slice a n cap] 27 (0, 0))) : Src Try.prog 2 39 (.slice (some ⟨lb, 0, none⟩) 1 1) 1 [.int .i64 c, .slice a n cap] w :=
  Src.ofSlice w Try.underlying39 ⟨lb, 0, none⟩ 1 1 _ rfl (fun j u hj => by
    rw [add_off, Nat.zero_add, blk_cell hv]
    simpa using hj) (fun u hu => by
    simp only [List.mem_cons, List.not_mem_nil, or_false] at hu
    rcases hu with rfl | rfl <;> rfl)
/-- behind an append to a new row: what was there is as it was -/
theorem tail_fin {we V w6 : World} {p i : Nat} {u : Value} {b n sz : Nat} {e : TypeId} {o : Value} {xs : List Value} (hV : Below we.heap.size we V) (ho : V.ownsRow b e sz o n xs) (hb : we.heap.size ≤ b) (hg : V.grownBy w6 o.ownBlock) (hc : V.cell? ⟨p, i, none⟩ = some u) (hf : ∀ j, V.frozen? ⟨p, j, none⟩ = false) (hp : p < we.heap.size) :
    Below we.heap.size we w6 ∧ w6.cell? ⟨p, i, none⟩ = some u ∧ ∀ j, w6.frozen? ⟨p, j, none⟩ = false := by
  have h1 : Below we.heap.size V w6 := below_of_grown hg hV.size (fun k hk => Nat.le_trans hb (ho.lt k hk).1)
  exact ⟨hV.trans h1, (h1.cell (p := ⟨p, i, none⟩) hp).trans hc, fun j => (h1.frozen (p := ⟨p, j, none⟩) hp).trans (hf j)⟩
set_option maxHeartbeats 40000000 in
theorem stput_call (base p : Nat) (m : Mst) (K : Nat) (db off : Nat) (d : Sto.Do) (w : World) (h : StR w base p m) (hk : Sto.Ok m.st K) (hK : K ≤ 100) (hd : DoR w db off d) (hdB : ∀ W, Below base w W → DoR W db off d) :
    Calls Try.prog 39 #[.pointer (some ⟨p, 0, none⟩), .pointer (some ⟨db, off, none⟩)] w (MutRes base p (Sto.put m.st d).1 (Sto.put m.st d).2 w) := by
  have hbase : base ≤ w.heap.size := Nat.le_trans h.le (Nat.le_of_lt h.lt)
  have hOk := hid hk
  have hsup : ∀ i j (hi : i < m.seen.length) (hj : j < m.seen.length), i < j → m.seen[i] < m.seen[j] := fun i j hi hj hij => List.pairwise_iff_getElem.1 hk.sup i j hi hj hij
  have hsl : m.seen.length ≤ 100 := Nat.le_trans hk.seen hK
  replace hsup := hid hsup
  have P1 := hid (@put_1 m.st d)
  have P2 := hid (@put_2 m.st d)
  have P3 := hid (@put_3 m.st d)
  have P4 := hid (@put_4 m.st d)
  have P5 := hid (@put_5 m.st d)
  change Hid (_ → d.b.c ∈ m.seen → Sto.put m.st d = (m.st, Sto.anN m.u)) at P2
  change Hid (_ → ¬ d.b.c ∈ m.seen → (0 ≤ d.ver ∧ (Vw.get m.A d.stream).cnt ≠ d.ver) → _) at P3
  change Hid (_ → ¬ d.b.c ∈ m.seen → ¬ (0 ≤ d.ver ∧ (Vw.get m.A d.stream).cnt ≠ d.ver) → (Vw.fold ⟨m.u, m.A⟩ d.b.evs).err ≠ 0 → Sto.put m.st d = (m.st, Sto.anE (Vw.fold ⟨m.u, m.A⟩ d.b.evs).err)) at P4
  change Hid (_ → ¬ d.b.c ∈ m.seen → ¬ (0 ≤ d.ver ∧ (Vw.get m.A d.stream).cnt ≠ d.ver) → (Vw.fold ⟨m.u, m.A⟩ d.b.evs).err = 0 → Sto.put m.st d = if ((m.T.map Rb.ba ++ [d.b]).length : Int) = m.b then
      (if (Sto.sealS { m.st with tail := m.T.map Rb.ba ++ [d.b] }).2 ≠ 0 then (m.st, Sto.anE (Sto.sealS { m.st with tail := m.T.map Rb.ba ++ [d.b] }).2)
      else ({ (Sto.sealS { m.st with tail := m.T.map Rb.ba ++ [d.b] }).1 with seen := Sto.insS m.seen d.b.c, snap := (Vw.fold ⟨m.u, m.A⟩ d.b.evs).v }, Sto.anN (Vw.fold ⟨m.u, m.A⟩ d.b.evs).v.upto))
    else ({ m.st with tail := m.T.map Rb.ba ++ [d.b], seen := Sto.insS m.seen d.b.c, snap := (Vw.fold ⟨m.u, m.A⟩ d.b.evs).v }, Sto.anN (Vw.fold ⟨m.u, m.A⟩ d.b.evs).v.upto)) at P5
  have HS := hid h
  have HD := hid hd
  have HDB := hid hdB
  obtain ⟨ea, en, ec, hev, hEs⟩ := hd.evs
  have HEs := hid hEs
  obtain ⟨⟨⟩⟩ : True := trivial
  have hdlt := hd.lt
  have hplt := h.lt
  have c5 : (w.alloc (.cells #[.int .i64 0, .int .i64 0, .slice none 0 0, .int .i64 0, .slice none 0 0] 50)).cell? ⟨db, off + 5, none⟩ = some (.int .i64 d.b.c) := (hd.below ((Below.refl _ _).alloc (Nat.le_refl _) _)).c
  have c6 : (w.alloc (.cells #[.int .i64 0, .int .i64 0, .slice none 0 0, .int .i64 0, .slice none 0 0] 50)).cell? ⟨db, off + 6, none⟩ = some (.slice ea en ec) := (cell_old hdlt).trans hev
  have HEV := hid hev
  have HV := hid (blk_new w (.cells #[.int .i64 0, .int .i64 0, .slice none 0 0, .int .i64 0, .slice none 0 0] 50))
  have HW := hid ((Below.refl w.heap.size w).alloc (Nat.le_refl _) (.cells #[.int .i64 0, .int .i64 0, .slice none 0 0, .int .i64 0, .slice none 0 0] 50))
  clear h hk hd hdB hev hEs
  go_enter Try.func39, Try.ntmps39
  go_wp2_with fail
  obtain ⟨wb, hwb⟩ : ∃ wb, wb = w.alloc (.cells #[.int .i64 0, .int .i64 0, .slice none 0 0, .int .i64 0, .slice none 0 0] 50) := ⟨_, rfl⟩
  rw [← hwb] at HV HW c5 c6 ⊢
  have hwB : w.heap.size < wb.heap.size := by rw [hwb]; simp
  obtain ⟨B, hB⟩ : ∃ B, B = w.heap.size := ⟨_, rfl⟩
  rw [← hB] at HV ⊢
  have hB' := Nat.le_of_eq hB.symm
  have hBb : base ≤ B := by omega
  have hpB : p ≠ B := by omega
  have hBp : B ≠ p := by omega
  have hdB : db < B := by omega
  replace hB := hid hB
  clear hwb
  have DWr := hid (eWrongBatch_call d.b.c ea en ec d.b.evs wb (HEs.out.below HW.out))
  obtain ⟨We, hWe⟩ : ∃ We, We = Evt.wrongBa d.b := ⟨_, rfl⟩
  change Hid (Calls Try.prog 52 #[.agg #[.int .i64 d.b.c, .slice ea en ec]] wb (Grew (fVal (Evt.wrongBa d.b)) wb)) at DWr
  rw [← hWe] at DWr P1 P2 P3 P4 P5
  replace hWe := hid hWe
  obtain ⟨We1, We2⟩ := We
  unfold fVal at DWr
  simp only at DWr P1 P2 P3 P4 P5
  go_at_call 52; refine (DWr.out).mono ?_; rintro e w1 ⟨rfl, b1⟩
  have bA := (HW.out.trans (b1.mono (by omega))).alloc (by have := b1.size; omega) (.cells #[.int .i64 We1, .int .i64 We2] 69)
  have vA := blk_old (o' := .cells #[.int .i64 We1, .int .i64 We2] 69) (blk_below HV.out b1)
  clear DWr c5 c6
  by_cases hw1 : We1 = 0
  · subst hw1
    go_upto_region 4 with (fail)
    obtain ⟨wa, hwa⟩ : ∃ wa, wa = w1.alloc (.cells #[.int .i64 0, .int .i64 We2] 69) := ⟨_, rfl⟩
    rw [← hwa] at bA vA ⊢
    clear hwa b1
    have XA := hid (HS.out.below bA)
    have DA := hid (HD.out.below bA)
    obtain ⟨sa, sc, hsv, hsS⟩ := own_sl XA.out.seen
    have g6 : wa.cell? ⟨p, 6, none⟩ = some (.slice sa m.seen.length sc) := by
      have := blk_cell (i := 6) XA.out.box
      change _ = some m.sv at this
      rw [this, hsv]
    have g5 : wa.cell? ⟨db, off + 5, none⟩ = some (.int .i64 d.b.c) := DA.out.c
    have DS := hid (fun q => searchInt_same sa m.seen.length sc m.seen d.b.c (wa.drewN q) (hsS.drewN q) hsup.out (by omega))
    go_quiet ((go_at_call 53; exact Calls.quiet_of_same ((DS.out _).mono fun _ _ h => ⟨h.1, h.2.symm⟩)))
    generalize hwq : wa.drewN nq = wq
    have bq := bA.trans ((show Below wa.heap.size wa wq from hwq ▸ below_drewN (Below.refl _ _) _).mono (by have := bA.size; omega))
    have vq := blk_below vA (show Below wa.heap.size wa wq from hwq ▸ below_drewN (Below.refl _ _) _)
    clear hwq DS hsS g6 g5 vA bA XA DA hsv
    have XQ := hid (HS.out.below bq)
    have DQ := hid (HD.out.below bq)
    have KQ := hid (Kt.below bq)
    have bbq := bq.mono hbase
    have hszq := bq.size
    have g7 : wq.cell? ⟨p, 7, none⟩ = some (.int .i64 m.u) := blk_cell (i := 7) XQ.out.box
    by_cases hmem : d.b.c ∈ m.seen
    · have HL := hid (P2.out (by simp) hmem)
      have t1 : decide (d.b.c ∈ m.seen) = true := decide_eq_true hmem
      rw [t1]
      replace hmem := hid hmem
      clear P1 P2 P3 P4 P5
      have r0 : wq.cell? ⟨B, 0, none⟩ = some (.int .i64 0) := blk_cell vq
      have r1 : wq.cell? ⟨B, 1, none⟩ = some (.int .i64 0) := blk_cell vq
      have r2 : wq.cell? ⟨B, 2, none⟩ = some (.slice none 0 0) := blk_cell vq
      have r3 : wq.cell? ⟨B, 3, none⟩ = some (.int .i64 0) := blk_cell vq
      have r4 : wq.cell? ⟨B, 4, none⟩ = some (.slice none 0 0) := blk_cell vq
      have f0 : ∀ j, wq.frozen? ⟨B, j, none⟩ = false := fun j => blk_free vq
      go_wp2_with fail
      obtain ⟨W, hW, q, hBW, hOW, hown⟩ := set5_facts bbq hBb vq (.int .i64 (0)) (.int .i64 (m.u)) (.slice none 0 0) (.int .i64 (0)) (.slice none 0 0)
      rw [hW]
      have q0 := blk_cell (i := 0) q
      have q1 := blk_cell (i := 1) q
      have q2 := blk_cell (i := 2) q
      have q3 := blk_cell (i := 3) q
      have q4 := blk_cell (i := 4) q
      refine bodyPost_ret (v := ansVal (0) (m.u) (.slice none 0 0) (0) (.slice none 0 0)) (by unfold ansVal; simp [results, Try.results39, go_sem, q0, q1, q2, q3, q4]) rfl ⟨_, m, rfl, ?_, (XQ.out).off hOW vq (by decide), ?_, (KQ.out).off hOW hB', hBW⟩
      · rw [HL.out]; exact AnO.num _ _ _
      · rw [HL.out]
    · have t1 : decide (d.b.c ∈ m.seen) = false := decide_eq_false hmem
      rw [t1]
      replace P3 := hid (P3.out (by simp) hmem)
      replace P4 := hid (P4.out (by simp) hmem)
      replace P5 := hid (P5.out (by simp) hmem)
      replace hmem := hid hmem
      clear P1 P2
      obtain ⟨aa, ac, hav, hsA⟩ := own_sl XQ.out.accs
      have hAs := hid (show As wq aa m.A.length ac m.A from ⟨hsA, XQ.out.aok⟩)
      have g8 : wq.cell? ⟨p, 8, none⟩ = some (.slice aa m.A.length ac) := by
        have := blk_cell (i := 8) XQ.out.box
        change _ = some m.av at this
        rw [this, hav]
      have d7 : wq.cell? ⟨db, off + 7, none⟩ = some (.string d.stream) := DQ.out.stream
      have d8 : wq.cell? ⟨db, off + 8, none⟩ = some (.int .i64 d.ver) := DQ.out.ver
      have hplq : p < wq.heap.size := XQ.out.lt
      have hdlq : db < wq.heap.size := DQ.out.lt
      clear hsA hav
      have DG := hid (show ∀ V, Below wq.heap.size wq V → Calls Try.prog 26 #[.agg #[.int .i64 m.u, .slice aa m.A.length ac], .string d.stream] V (fun e w' => e = .returned (acVal (Vw.get m.A d.stream)) ∧ Below wq.heap.size wq w' ∧ w'.cell? ⟨p, 7, none⟩ = some (.int .i64 m.u) ∧ w'.cell? ⟨p, 8, none⟩ = some (.slice aa m.A.length ac) ∧ w'.cell? ⟨db, off + 7, none⟩ = some (.string d.stream) ∧ w'.cell? ⟨db, off + 8, none⟩ = some (.int .i64 d.ver)) from fun V hV =>
        (vGet_call m.u aa _ ac m.A d.stream V (hAs.out.below hV)).mono fun e w' ⟨h1, h2⟩ => by
          have hb := bnext hV h2
          exact ⟨h1, hb, (hb.cell (p := ⟨p, _, none⟩) hplq).trans g7, (hb.cell (p := ⟨p, _, none⟩) hplq).trans g8, (hb.cell (p := ⟨db, _, none⟩) hdlq).trans d7, (hb.cell (p := ⟨db, _, none⟩) hdlq).trans d8⟩)
      generalize Vw.get m.A d.stream = Gt at *
      obtain ⟨gs, gsum, gcnt, gop⟩ := Gt
      unfold acVal at DG
      simp only at DG P3 P4 P5
      go_upto_region 7 with (fail)
      go_cut [68] from 46 to 69 (fun s68 wc => s68 = .bool (decide (0 ≤ d.ver ∧ gcnt ≠ d.ver)) ∧ Below wq.heap.size wq wc)
      case first =>
        by_cases hv0 : 0 ≤ d.ver
        · have t2 : decide (0 ≤ d.ver) = true := decide_eq_true hv0
          have t3 : (gcnt != d.ver) = decide (0 ≤ d.ver ∧ gcnt ≠ d.ver) := by
            by_cases e : gcnt = d.ver
            · rw [decide_eq_false (fun h => h.2 e)]; simp [e]
            · rw [decide_eq_true ⟨hv0, e⟩]; simp [e]
          replace t3 := hid t3
          have hfl := fun W => ac_fld2 gs gsum gcnt gop W
          go_region_held3 (fun w' => w'.cell? ⟨p, 7, none⟩ = some (.int .i64 m.u) ∧ w'.cell? ⟨p, 8, none⟩ = some (.slice aa m.A.length ac) ∧ w'.cell? ⟨db, off + 7, none⟩ = some (.string d.stream) ∧ w'.cell? ⟨db, off + 8, none⟩ = some (.int .i64 d.ver)) (first | (with_reducible exact ⟨g7, g8, d7, d8⟩) | exact ⟨g7, g8, d7, d8⟩ | exact ⟨k7, k8, k9, k10⟩ | go_keep)
            (first
              | (go_at_call 26; refine (DG.out _ ?_).mono ?_; (repeat (first | assumption | exact Below.refl _ _ | refine below_drewN ?_ _ | refine Below.drew ?_)); rintro e w5 ⟨rfl, b5, k7, k8, k9, k10⟩))
          all_goals (go_wp2_with fail; go_meet; exact ⟨congrArg Value.bool t3.out, b5⟩)
        · have t2 : decide (0 ≤ d.ver) = false := decide_eq_false hv0
          have t3 : decide (0 ≤ d.ver ∧ gcnt ≠ d.ver) = false := decide_eq_false (fun h => hv0 h.1)
          replace t3 := hid t3
          go_quiet (fail)
          go_wp2_with fail
          go_meet
          exact ⟨congrArg Value.bool t3.out.symm, below_drewN (Below.refl _ _) _⟩
      case rest =>
        obtain ⟨rfl, bc⟩ := hcut
        obtain ⟨wC, rfl⟩ : ∃ wC : World, wC = wc := ⟨_, rfl⟩
        have vc := blk_below vq bc
        have bcw := bq.trans (bc.mono hszq)
        have XC := hid (HS.out.below bcw)
        have DC := hid (HD.out.below bcw)
        have KC := hid (Kt.below bcw)
        have bbc := bcw.mono hbase
        have hAsC := hid (hAs.out.below bc)
        have HEc := hid (HEs.out.below bcw)
        have g7c : wC.cell? ⟨p, 7, none⟩ = some (.int .i64 m.u) := blk_cell (i := 7) XC.out.box
        have g8c := (bc.cell (p := ⟨p, 8, none⟩) hplq).trans g8
        have hszc := bcw.size
        clear g7 g8 d7 d8 DG vq bq bbq XQ DQ KQ hAs bc
        by_cases hb3 : 0 ≤ d.ver ∧ gcnt ≠ d.ver
        · have HL := hid (P3.out hb3)
          rw [decide_eq_true hb3]
          replace hb3 := hid hb3
          clear P3 P4 P5
          have r0 : wC.cell? ⟨B, 0, none⟩ = some (.int .i64 0) := blk_cell vc
          have r1 : wC.cell? ⟨B, 1, none⟩ = some (.int .i64 0) := blk_cell vc
          have r2 : wC.cell? ⟨B, 2, none⟩ = some (.slice none 0 0) := blk_cell vc
          have r3 : wC.cell? ⟨B, 3, none⟩ = some (.int .i64 0) := blk_cell vc
          have r4 : wC.cell? ⟨B, 4, none⟩ = some (.slice none 0 0) := blk_cell vc
          have f0 : ∀ j, wC.frozen? ⟨B, j, none⟩ = false := fun j => blk_free vc
          go_wp2_with fail
          obtain ⟨W, hW, q, hBW, hOW, hown⟩ := set5_facts bbc hBb vc (.int .i64 (11)) (.int .i64 (0)) (.slice none 0 0) (.int .i64 (0)) (.slice none 0 0)
          rw [hW]
          have q0 := blk_cell (i := 0) q
          have q1 := blk_cell (i := 1) q
          have q2 := blk_cell (i := 2) q
          have q3 := blk_cell (i := 3) q
          have q4 := blk_cell (i := 4) q
          refine bodyPost_ret (v := ansVal (11) (0) (.slice none 0 0) (0) (.slice none 0 0)) (by unfold ansVal; simp [results, Try.results39, go_sem, q0, q1, q2, q3, q4]) rfl ⟨_, m, rfl, ?_, (XC.out).off hOW vc (by decide), ?_, (KC.out).off hOW hB', hBW⟩
          · rw [HL.out]; exact AnO.err _ _ _
          · rw [HL.out]
        · rw [decide_eq_false hb3]
          replace P4 := hid (P4.out hb3)
          replace P5 := hid (P5.out hb3)
          replace hb3 := hid hb3
          clear P3
          have d6c : wC.cell? ⟨db, off + 6, none⟩ = some (.slice ea en ec) := (bcw.cell (p := ⟨db, _, none⟩) hdlt).trans HEV.out
          have hplc : p < wC.heap.size := XC.out.lt
          have hdlc : db < wC.heap.size := DC.out.lt
          have DF := hid (show ∀ V, Below wC.heap.size wC V → Calls Try.prog 27 #[.agg #[.int .i64 m.u, .slice aa m.A.length ac], .slice ea en ec] V (fun e w' => ∃ a n cap, e = .returned (.tuple #[.agg #[.int .i64 (Vw.fold ⟨m.u, m.A⟩ d.b.evs).v.upto, .slice a n cap], .agg #[.int .i64 (Vw.fold ⟨m.u, m.A⟩ d.b.evs).err, .int .i64 (Vw.fold ⟨m.u, m.A⟩ d.b.evs).at_]]) ∧ As w' a n cap (Vw.fold ⟨m.u, m.A⟩ d.b.evs).v.accs ∧ Below wC.heap.size wC w' ∧ w'.ownsRow wC.heap.size 65 4 (.slice a n cap) n (acCells (Vw.fold ⟨m.u, m.A⟩ d.b.evs).v.accs) ∧ w'.cell? ⟨p, 7, none⟩ = some (.int .i64 m.u) ∧ w'.cell? ⟨p, 8, none⟩ = some (.slice aa m.A.length ac) ∧ w'.cell? ⟨db, off + 6, none⟩ = some (.slice ea en ec) ∧ (∀ (b : Nat) (o : Obj), V.heap[b]? = some o → w'.heap[b]? = some o) ∧ (∀ (b i : Nat), b < V.heap.size → w'.cell? ⟨b, i, none⟩ = V.cell? ⟨b, i, none⟩) ∧ (∀ (b i : Nat), b < V.heap.size → w'.frozen? ⟨b, i, none⟩ = V.frozen? ⟨b, i, none⟩) ∧ (∀ b : Nat, b < V.heap.size → b < w'.heap.size) ∧ (∀ b : Nat, b < V.heap.size → b ≠ w'.heap.size) ∧ (∀ b : Nat, b < V.heap.size → w'.heap.size ≠ b)) from fun V hV =>
            (vFold_callO m.u aa _ ac m.A ea en ec d.b.evs V (hAsC.out.below hV) (HEc.out.below hV)).mono fun e w' ⟨a, n, cap, h1, h2, h3, h4⟩ => by
              have hb := bnext hV h3
              exact ⟨a, n, cap, h1, h2, hb, own_mono h4 hV.size, (hb.cell (p := ⟨p, _, none⟩) hplc).trans g7c, (hb.cell (p := ⟨p, _, none⟩) hplc).trans g8c, (hb.cell (p := ⟨db, _, none⟩) hdlc).trans d6c, fun b o h => blk_below h h3, (bcell h3).1, (bcell h3).2, fun b h => Nat.lt_of_lt_of_le h h3.size, fun b h => Nat.ne_of_lt (Nat.lt_of_lt_of_le h h3.size), fun b h => Ne.symm (Nat.ne_of_lt (Nat.lt_of_lt_of_le h h3.size))⟩)
          generalize Vw.fold ⟨m.u, m.A⟩ d.b.evs = F at *
          obtain ⟨⟨Fu, FA⟩, Fe, Fa⟩ := F
          simp only at DF P4 P5
          have z01 : wC.heap.size ≠ wC.heap.size + 1 := by omega
          have z10 : wC.heap.size + 1 ≠ wC.heap.size := by omega
          have z02 : p ≠ wC.heap.size := by omega
          have z03 : p ≠ wC.heap.size + 1 := by omega
          have z04 : db ≠ wC.heap.size := by omega
          have z05 : db ≠ wC.heap.size + 1 := by omega
          go_upto_region 9 with (fail)
          go_cut [8, 9] from 70 to 84 (fun s8 s9 wd => ∃ b8 b9 a n cap, s8 = .pointer (some ⟨b8, 0, none⟩) ∧ s9 = .pointer (some ⟨b9, 0, none⟩) ∧ wd.heap[b8]? = some (.cells #[.int .i64 Fu, .slice a n cap] 42 (0, 0)) ∧ wd.heap[b9]? = some (.cells #[.int .i64 Fe, .int .i64 Fa] 69 (0, 0)) ∧ ((∀ e ∈ FA, e.s.size ≤ maxLen) ∧ FA.length = n) ∧ wd.ownsRow wC.heap.size 65 4 (.slice a n cap) n (acCells FA) ∧ Below wC.heap.size wC wd)
          case first =>
            clear P4 P5 XC DC KC bbc hAsC HEc HS HD HEs HEV HV HW hOk hsup hb3 hsl hK hmem hWe hB hbase bcw vc hB' hBb hwB hdB hBp hpB hszq hplq hdlq hszc
            go_region_law
              (first
                | (go_simp; go_at_call 27; refine (DF.out _ ?_).mono ?_; (repeat (first | assumption | exact Below.refl _ _ | refine below_drewN ?_ _ | refine Below.drew ?_ | refine Below.alloc ?_ (by first | exact Nat.le_refl _ | (simp; done) | (simp; omega)) _)); rintro e w5 ⟨a5, n5, c5, rfl, A5, b5, o5, k7, k8, k9, jj, jc, jf, jl, jn, jm⟩; replace jj := hid jj; have y5 := b5.size))
            all_goals (go_wp2_with fail; go_meet)
            all_goals
              refine ⟨_, _, a5, n5, c5, rfl, rfl, ?_, ?_, ⟨A5.ok, A5.cnt⟩, ?_, ?_⟩
              · (repeat (first | with_reducible exact blk_new _ _ | with_reducible refine res_blk (x := .int .i64 0) (y := .slice none 0 0) ?_ _ _ | with_reducible refine blk_keep ?_ (by first | omega | exact jn _ (by simp) | exact jm _ (by simp)) _ | (with_reducible refine blk_at ?_; simp; done) | with_reducible refine blk_old ?_)); all_goals (first | done | exact (jj.out _ _ (by first | with_reducible exact blk_new _ _ | with_reducible exact blk_old (blk_new _ _) | (refine blk_at ?_; simp; done) | (refine blk_old ?_; refine blk_at ?_; simp; done))))
              · (repeat (first | with_reducible exact blk_new _ _ | with_reducible refine res_blk (x := .int .i64 0) (y := .int .i64 0) ?_ _ _ | with_reducible refine blk_keep ?_ (by first | omega | exact jn _ (by simp) | exact jm _ (by simp)) _ | (with_reducible refine blk_at ?_; simp; done) | with_reducible refine blk_old ?_)); all_goals (first | done | exact (jj.out _ _ (by first | with_reducible exact blk_new _ _ | with_reducible exact blk_old (blk_new _ _) | (refine blk_at ?_; simp; done) | (refine blk_old ?_; refine blk_at ?_; simp; done))))
              · (repeat (first | with_reducible exact o5 | with_reducible refine own_alloc ?_ | with_reducible refine own_setc ?_ ?_)); all_goals (first | done | exact own_blk_ne o5 (jj.out _ _ (by first | with_reducible exact blk_new _ _ | with_reducible exact blk_old (blk_new _ _) | (refine blk_at ?_; simp; done) | (refine blk_old ?_; refine blk_at ?_; simp; done))) (by decide))
              · (repeat (first | with_reducible exact b5 | with_reducible refine Below.alloc ?_ ?_ _ | with_reducible refine Below.setCell ?_ ?_ _)); all_goals (first | done | exact Nat.le_refl _ | omega | (simp; done) | (simp; omega))
          case rest =>
            obtain ⟨b8, b9, a8, n8, c8, rfl, rfl, h8, h9, hA8, o8, b8c⟩ := hcut
            obtain ⟨wd, rfl⟩ : ∃ wd : World, wd = wc := ⟨_, rfl⟩
            have hn8 := hA8.2
            subst hn8
            have hok8 := hid hA8.1
            have bd := bcw.trans (b8c.mono hszc)
            have XD := hid (HS.out.below bd)
            have DD := hid (HD.out.below bd)
            have KD := hid (Kt.below bd)
            have vd := blk_below vc b8c
            have bbd := bd.mono hbase
            have hszd := bd.size
            have O8 := hid o8
            have hbc : base ≤ wC.heap.size := by omega
            have x9 : wd.cell? ⟨b9, 0, none⟩ = some (.int .i64 Fe) := blk_cell h9
            clear hA8 o8 g7c g8c d6c DF hAsC HEc XC DC KC bbc vc b8c
            by_cases hFe : Fe = 0
            · subst hFe
              replace P5 := hid (P5.out (by simp))
              have HEd := hid (HEs.out.below bd)
              have d5d : wd.cell? ⟨db, off + 5, none⟩ = some (.int .i64 d.b.c) := DD.out.c
              have d6d : wd.cell? ⟨db, off + 6, none⟩ = some (.slice ea en ec) := (bd.cell (p := ⟨db, _, none⟩) hdlt).trans HEV.out
              have hwz := Evt.wrongBa_zero (b := d.b) (by rw [← hWe.out])
              have hen : en ≤ 10 := by have h1 := HEs.out.n; have h2 := hwz.2.2.2.1; omega
              have hpld : p < wd.heap.size := XD.out.lt
              have hdld : db < wd.heap.size := DD.out.lt
              have H8 := hid h8
              have DC := hid (show ∀ V, Below wd.heap.size wd V → Calls Try.prog 54 #[.slice ea en ec] V (fun e w' => ∃ a cap, e = .returned (.slice a en cap) ∧ Below wd.heap.size wd w' ∧ w'.ownsRow wd.heap.size 32 3 (.slice a en cap) en (evCells d.b.evs) ∧ w'.cell? ⟨db, off + 5, none⟩ = some (.int .i64 d.b.c) ∧ w'.cell? ⟨db, off + 6, none⟩ = some (.slice ea en ec) ∧ ∀ (b : Nat) (o : Obj), V.heap[b]? = some o → w'.heap[b]? = some o) from fun V hV =>
                (cloneEv_call ea en ec (evCells d.b.evs) V (HEd.out.below hV).sl (evCells_one _) (by omega)).mono fun e w' ⟨v, h1, h2, h3⟩ => by
                  obtain ⟨a, c, rfl, -⟩ := own_sl h3
                  have hb := bnext hV h2
                  exact ⟨a, c, h1, hb, own_mono h3 hV.size, (hb.cell (p := ⟨db, _, none⟩) hdld).trans d5d, (hb.cell (p := ⟨db, _, none⟩) hdld).trans d6d, fun b o h => blk_below h h2⟩)
              clear hwz P4 h8
              have kD5 : ∀ o : Obj, (wd.alloc o).cell? ⟨db, off + 5, none⟩ = some (.int .i64 d.b.c) := fun o => calloc d5d
              have kD6 : ∀ o : Obj, (wd.alloc o).cell? ⟨db, off + 6, none⟩ = some (.slice ea en ec) := fun o => calloc d6d
              go_upto_region 12 with (fail)
              go_cut [10] from 90 to 102 (fun s10 we => ∃ b10 a cap, s10 = .pointer (some ⟨b10, 0, none⟩) ∧ we.heap[b10]? = some (.cells #[.int .i64 d.b.c, .slice a en cap] 27 (0, 0)) ∧ we.ownsRow wd.heap.size 32 3 (.slice a en cap) en (evCells d.b.evs) ∧ Below wd.heap.size wd we)
              case first =>
                clear P5 XD DD KD bbd HEd HS HD HEs HEV HV HW hOk hsup hb3 hsl hK hmem hWe hB hbase bcw bd vd hB' hBb hwB hdB hBp hpB hszq hplq hdlq hszc hszd O8 H8 h9 x9 hok8
                go_region_law
                  (first
                    | (go_simp; go_at_call 54; refine (DC.out _ ?_).mono ?_; (repeat (first | assumption | exact Below.refl _ _ | refine below_drewN ?_ _ | refine Below.drew ?_ | refine Below.alloc ?_ (by first | exact Nat.le_refl _ | (simp; done) | (simp; omega)) _)); rintro e w5 ⟨a5, c5, rfl, b5, o5, k5, k6, jj⟩; have kA5 : ∀ o : Obj, (w5.alloc o).cell? ⟨db, off + 5, none⟩ = some (.int .i64 d.b.c) := fun o => calloc k5; have kA6 : ∀ o : Obj, (w5.alloc o).cell? ⟨db, off + 6, none⟩ = some (.slice ea en ec) := fun o => calloc k6; (try have jA := jj wd.heap.size (.cells #[.int .i64 0, .slice none 0 0] 27 (0, 0)) (by first | exact blk_new _ _ | exact blk_at (by simp))); (try have jA0 := blk_cell (i := 0) jA); (try have jAf0 := blk_free (i := 0) jA); (try have jA1 := blk_cell (i := 1) jA); (try have jAf1 := blk_free (i := 1) jA); (try have jAz := Nat.ne_of_lt (blk_lt jA)); (try have jAw := Ne.symm jAz); replace jj := hid jj; have y5 := b5.size))
                all_goals (go_wp2_with fail; go_meet)
                all_goals
                  first
                    | exact ⟨w5.heap.size, a5, c5, rfl, blk_new w5 _, own_below o5 ((Below.refl _ _).alloc (Nat.le_refl _) _), b5.alloc b5.size _⟩
                    | exact ⟨wd.heap.size, a5, c5, rfl, res_blk jA _ _, ownsRow_setCell_other (ownsRow_setCell_other o5 (own_blk_ne o5 jA (by decide)) _) (own_blk_ne o5 jA (by decide)) _, (b5.setCell (Nat.le_refl _) _).setCell (Nat.le_refl _) _⟩
              case rest =>
                obtain ⟨b10, a10, c10, rfl, h10, o10, b10c⟩ := hcut
                obtain ⟨we, rfl⟩ : ∃ we : World, we = wc := ⟨_, rfl⟩
                have be := bd.trans (b10c.mono hszd)
                have XE := hid (HS.out.below be)
                have DE := hid (HD.out.below be)
                have KE := hid (Kt.below be)
                have ve := blk_below vd b10c
                have bbe := be.mono hbase
                have hsze := be.size
                have H8e := hid (blk_below H8.out b10c)
                have O8e := hid (own_mono (own_below O8.out b10c) hbc)
                have O10 := hid (own_mono o10 (show base ≤ _ by omega))
                have hple : p < we.heap.size := XE.out.lt
                obtain ⟨ta, tc, htv, hsT⟩ := own_sl XE.out.tail
                have HTV := hid htv
                have g5e : we.cell? ⟨p, 5, none⟩ = some (.slice ta m.T.length tc) := by
                  have := blk_cell (i := 5) XE.out.box
                  change _ = some m.tv at this
                  rw [this, htv]
                have y0 : we.cell? ⟨b10, 0, none⟩ = some (.int .i64 d.b.c) := blk_cell h10
                have y1 : we.cell? ⟨b10, 1, none⟩ = some (.slice a10 en c10) := blk_cell h10
                have hT10 : m.T.length ≤ 10 := by
                  have h1 := hOk.out.t; have h2 := hOk.out.b
                  simp only [Mst.st, List.length_map] at h1 h2
                  omega
                have hBX := hid XE.out.box
                have DT := hid (show ∀ V, Below we.heap.size we V → Calls Try.prog 55 #[.slice ta m.T.length tc] V (fun e w' => ∃ a cap, e = .returned (.slice a m.T.length cap) ∧ Below we.heap.size we w' ∧ w'.ownsRow V.heap.size 27 2 (.slice a m.T.length cap) m.T.length (rbCells m.T) ∧ we.heap.size ≤ V.heap.size ∧ w'.cell? ⟨p, 5, none⟩ = some (.slice ta m.T.length tc) ∧ (∀ j, w'.frozen? ⟨p, j, none⟩ = false) ∧ w'.cell? ⟨b10, 0, none⟩ = some (.int .i64 d.b.c) ∧ w'.cell? ⟨b10, 1, none⟩ = some (.slice a10 en c10) ∧ ∀ (b : Nat) (o : Obj), V.heap[b]? = some o → w'.heap[b]? = some o) from fun V hV =>
                  (cloneBa_call ta m.T.length tc (rbCells m.T) V (hsT.below hV) (rbCells_one _) (by omega)).mono fun e w' ⟨v, h1, h2, h3⟩ => by
                    obtain ⟨a, c, rfl, -⟩ := own_sl h3
                    have hb := bnext hV h2
                    have hbx := blk_below hBX.out hb
                    exact ⟨a, c, h1, hb, h3, hV.size, (hb.cell (p := ⟨p, _, none⟩) hple).trans g5e, fun j => blk_free hbx, (hb.cell (p := ⟨b10, _, none⟩) (blk_lt h10)).trans y0, (hb.cell (p := ⟨b10, _, none⟩) (blk_lt h10)).trans y1, fun b o h => blk_below h h2⟩)
                clear o10 b10c hsT htv h9 x9 d5d d6d DC HEd XD DD KD bbd vd O8 H8
                go_upto_region 14 with (fail)
                go_cut [] from 107 to 120 (fun wf => ∃ w6 ta' tc', wf = w6.setCell ⟨p, 5, none⟩ (.slice ta' (m.T.length + 1) tc') ∧ Below we.heap.size we w6 ∧ w6.ownsRow we.heap.size 27 2 (.slice ta' (m.T.length + 1) tc') (m.T.length + 1) (rbCells m.T ++ [.int .i64 d.b.c, .slice a10 en c10]))
                case first =>
                  clear P5 XE DE KE bbe HS HD HEs HEV HV HW hOk hsup hb3 hsl hK hmem hWe hB hbase bcw bd be ve hB' hBb hwB hdB hBp hpB hszq hplq hdlq hszc hszd hsze O8e H8e O10 hok8 HTV hBX h10
                  go_region_law
                    (first
                      | (go_simp; go_at_call 55; refine (DT.out _ ?_).mono ?_; (repeat (first | assumption | exact Below.refl _ _ | refine below_drewN ?_ _ | refine Below.drew ?_ | refine Below.alloc ?_ (by first | exact Nat.le_refl _ | (simp; done) | (simp; omega)) _)); rintro e w5 ⟨a5, c5, rfl, b5, o5, hVs, k5, kf, k0, k1, jj⟩; (try have jA := jj we.heap.size (.cells #[.int .i64 d.b.c, .slice a10 en c10] 27 (0, 0)) (by first | exact blk_new _ _ | exact blk_at (by simp))); (try have jAz := Nat.ne_of_lt (blk_lt jA)); (try have jAw := Ne.symm jAz); replace jj := hid jj; have y5 := b5.size; have k5' := calloc (o := .cells #[.int .i64 d.b.c, .slice a10 en c10] 27) k5; have kp5 : p < w5.heap.size := World.block_lt_of_cell? _ _ k5)
                      | (refine step_append_t rfl (.tmp 113) (.tmp 115) 39 39 rfl we.heap.size 27 2 32 (.agg #[.int .i64 0, .slice none 0 0]) Try.underlying39 info_ba rfl (by decide) (.slice a5 m.T.length c5) m.T.length (rbCells m.T) rfl (OT.start (own_mono (own_below o5 ((Below.refl _ _).alloc (Nat.le_refl _) _)) hVs)) (.slice (some ⟨w5.heap.size, 0, none⟩) 1 1) 1 [.int .i64 d.b.c, .slice a10 en c10] rfl (ba_src _ _ _ _ _ _ (blk_new w5 _)) (by unfold maxLen; omega) (by omega) (by simp; omega) ?_; intro v6 w6 o6 g6; obtain ⟨a6, c6, rfl, -⟩ := own_sl o6.own; obtain ⟨b6, k6, kf6⟩ := tail_fin (b5.alloc b5.size (.cells #[.int .i64 d.b.c, .slice a10 en c10] 27)) (own_below o5 ((Below.refl _ _).alloc (Nat.le_refl _) _)) hVs g6 k5' (fun j => (frozen_old kp5).trans (kf j)) hple)
                      | (refine step_append_t rfl (.tmp 113) (.tmp 115) 39 39 rfl we.heap.size 27 2 32 (.agg #[.int .i64 0, .slice none 0 0]) Try.underlying39 info_ba rfl (by decide) (.slice a5 m.T.length c5) m.T.length (rbCells m.T) rfl (OT.start (own_mono o5 hVs)) (.slice (some ⟨we.heap.size, 0, none⟩) 1 1) 1 [.int .i64 d.b.c, .slice a10 en c10] rfl (ba_src _ _ _ _ _ _ jA) (by unfold maxLen; omega) (by omega) (by omega) ?_; intro v6 w6 o6 g6; obtain ⟨a6, c6, rfl, -⟩ := own_sl o6.own; obtain ⟨b6, k6, kf6⟩ := tail_fin b5 o5 hVs g6 k5 kf hple))
                  all_goals (go_wp2_with fail; go_meet)
                  all_goals exact ⟨w6, a6, c6, rfl, b6, o6.own⟩
                case rest =>
                  obtain ⟨w6, ta2, tc2, hwf, b6, o6⟩ := hcut
                  have bf := be.trans (b6.mono hsze)
                  have X6 := HS.out.below bf
                  have hR : rbCells (m.T ++ [(⟨d.b.c, a10, en, c10, d.b.evs⟩ : Rb)]) = rbCells m.T ++ [.int .i64 d.b.c, .slice a10 en c10] := by rw [rbCells_append]; rfl
                  have o6' := own_mono o6 (show base ≤ we.heap.size by omega)
                  rw [← hR] at o6'
                  have XF := X6.setBox 5 (.slice ta2 (m.T.length + 1) tc2) { m with tv := .slice ta2 (m.T.length + 1) tc2, T := m.T ++ [⟨d.b.c, a10, en, c10, d.b.evs⟩] } rfl rfl rfl (by show World.ownsRow _ _ _ _ _ (m.T ++ [_]).length _; rw [List.length_append]; exact o6') (fun r hr => by
                    rcases List.mem_append.1 hr with hr | hr
                    · exact X6.evs r hr
                    · obtain rfl := List.mem_singleton.1 hr
                      exact ⟨own_below O10.out b6, HEs.out.ok⟩) X6.seen X6.accs X6.aok
                  have KF6 := (Kt.below b6).trans (Kt.setBox X6 5 (.slice ta2 (m.T.length + 1) tc2))
                  have BF := (bf.mono hbase).setCell (p := ⟨p, 5, none⟩) X6.le (.slice ta2 (m.T.length + 1) tc2)
                  rw [← hwf] at XF KF6 BF
                  obtain ⟨wf, rfl⟩ : ∃ wf : World, wf = wc := ⟨_, rfl⟩
                  have H8f := KF6.block b8 _ 42 H8e.out (by decide)
                  have O8f := KF6.own O8e.out (by decide)
                  have vf := KF6.block B _ 50 ve (by decide)
                  have KF := hid (KE.out.trans KF6)
                  have q5 : wf.cell? ⟨p, 5, none⟩ = some (.slice ta2 (m.T.length + 1) tc2) := blk_cell (i := 5) XF.box
                  have q2 : wf.cell? ⟨p, 2, none⟩ = some (.int .i64 m.b) := blk_cell (i := 2) XF.box
                  have XFh := hid XF
                  have BFh := hid BF
                  have H8h := hid H8f
                  have O8h := hid O8f
                  have vfh := hid vf
                  have hpf : p < wf.heap.size := XF.lt
                  have hTl : (m.T.map Rb.ba ++ [d.b]).length = m.T.length + 1 := by simp
                  rw [hTl] at P5
                  clear hwf b6 o6 o6' X6 XF KF6 BF H8f O8f vf bf y0 y1 g5e DT h10 hR
                  go_upto_region 15 with (fail)
                  go_quiet (fail)
                  generalize hwg : wf.drewN nq = wg
                  have bg : Below wf.heap.size wf wg := hwg ▸ below_drewN (Below.refl _ _) _
                  have XG := hid (XFh.out.below bg)
                  have KG := hid (KF.out.trans (Kt.below bg))
                  have hbwf : base ≤ wf.heap.size := by have := XFh.out.le; omega
                  have BG := hid (BFh.out.trans (bg.mono hbwf))
                  have H8g := blk_below H8h.out bg
                  have O8g := own_below O8h.out bg
                  have vg := blk_below vfh.out bg
                  clear hwg bg q5 q2 XFh KF BFh H8h O8h vfh
                  by_cases hfull : ((m.T.length + 1 : Nat) : Int) = m.b
                  · replace P5 := hid (P5.out.trans (if_pos hfull))
                    have t15 : ((m.T.length : Int) + 1 == m.b) = true := by simpa using hfull
                    have hDl : (m.D.length : Int) = m.d + m.s := by have := hOk.out.nd; simpa [Mst.st] using this
                    have DSl := hid (stseal_call base p _ wg XG.out hOk.out.d hOk.out.sp hDl hOk.out.g (fun x hx => by
                      have := hOk.out.len (x := x.dk) (List.mem_map.2 ⟨x, hx, rfl⟩)
                      simp only [Dm.dk, List.length_map] at this
                      omega))
                    replace hfull := hid hfull
                    clear hDl
                    have H8gh := hid H8g
                    have O8gh := hid O8g
                    have vgh := hid vg
                    clear H8g O8g vg
                    go_wp2_with fail
                    go_at_call 56; refine (DSl.out).mono ?_; rintro e wh hres
                    have hmst : (Mst.st { m with tv := .slice ta2 (m.T.length + 1) tc2, T := m.T ++ [⟨d.b.c, a10, en, c10, d.b.evs⟩] }) = { m.st with tail := m.T.map Rb.ba ++ [d.b] } := by simp [Mst.st, Rb.ba]
                    rcases hres with ⟨err, he0, rfl, hse, bh⟩ | ⟨D', rfl, XH, hse, KH, BH⟩
                    · rw [hmst] at hse
                      rw [hse] at P5
                      have HL := hid (P5.out.trans (if_pos he0))
                      have t16 : (err != 0) = true := bne_iff_ne.2 he0
                      have XI := XG.out.below bh
                      have hbwg : base ≤ wg.heap.size := by have := XG.out.le; have := XG.out.lt; omega
                      have BI := BG.out.trans (bh.mono hbwg)
                      have KI := KG.out.trans (Kt.below bh)
                      have vi := blk_below vgh.out bh
                      have r5 : wh.cell? ⟨p, 5, none⟩ = some (.slice ta2 (m.T.length + 1) tc2) := blk_cell (i := 5) XI.box
                      have rf : ∀ j, wh.frozen? ⟨p, j, none⟩ = false := fun j => blk_free XI.box
                      have XJ := hid (XI.setBox 5 (.slice ta m.T.length tc) m (by rw [← HTV.out]; rfl) rfl rfl (KI.own HS.out.tail (by decide)) (fun r hr => ⟨KI.own (HS.out.evs r hr).1 (by decide), (HS.out.evs r hr).2⟩) XI.seen XI.accs XI.aok)
                      have KJ := hid (KI.trans (Kt.setBox XI 5 (.slice ta m.T.length tc)))
                      have BJ := hid (BI.setCell (p := ⟨p, 5, none⟩) XI.le (.slice ta m.T.length tc))
                      have vJ := hid (bkeep (i := 5) vi hBp (.slice ta m.T.length tc))
                      have vIh := vi
                      replace he0 := hid he0
                      clear XI KI BI hse hmst bh
                      have r0 : wh.cell? ⟨B, 0, none⟩ = some (.int .i64 0) := blk_cell vIh
                      have r1 : wh.cell? ⟨B, 1, none⟩ = some (.int .i64 0) := blk_cell vIh
                      have r2 : wh.cell? ⟨B, 2, none⟩ = some (.slice none 0 0) := blk_cell vIh
                      have r3 : wh.cell? ⟨B, 3, none⟩ = some (.int .i64 0) := blk_cell vIh
                      have r4 : wh.cell? ⟨B, 4, none⟩ = some (.slice none 0 0) := blk_cell vIh
                      have f0 : ∀ j, wh.frozen? ⟨B, j, none⟩ = false := fun j => blk_free vIh
                      go_wp2_with fail
                      obtain ⟨W, hW, q, hBW, hOW, hown⟩ := set5_facts BJ.out hBb vJ.out (.int .i64 (err)) (.int .i64 (0)) (.slice none 0 0) (.int .i64 (0)) (.slice none 0 0)
                      rw [hW]
                      have q0 := blk_cell (i := 0) q
                      have q1 := blk_cell (i := 1) q
                      have q2 := blk_cell (i := 2) q
                      have q3 := blk_cell (i := 3) q
                      have q4 := blk_cell (i := 4) q
                      refine bodyPost_ret (v := ansVal (err) (0) (.slice none 0 0) (0) (.slice none 0 0)) (by unfold ansVal; simp [results, Try.results39, go_sem, q0, q1, q2, q3, q4]) rfl ⟨_, m, rfl, ?_, (XJ.out).off hOW vJ.out (by decide), ?_, (KJ.out).off hOW hB', hBW⟩
                      · rw [HL.out]; exact AnO.err _ _ _
                      · rw [HL.out]
                    · rw [hmst] at hse
                      rw [hse] at P5
                      have HL := hid (P5.out.trans (if_neg (fun h => h rfl)))
                      have XHh := hid XH
                      have KHh := hid (KG.out.trans KH)
                      have BHh := hid (BG.out.trans BH)
                      have H8i := KH.block b8 _ 42 H8gh.out (by decide)
                      have O8i := KH.own O8gh.out (by decide)
                      have vi := KH.block B _ 50 vgh.out (by decide)
                      clear XH KH BH hse hmst P5
                      have hsup2 := hsup.out
                      obtain ⟨sa2, sc2, hsv2, hsS2⟩ := own_sl XHh.out.seen
                      change Sl wh 1 sa2 m.seen.length sc2 (m.seen.map (Value.int .i64)) at hsS2
                      have s6 : wh.cell? ⟨p, 6, none⟩ = some (.slice sa2 m.seen.length sc2) := by
                        have := blk_cell (i := 6) XHh.out.box
                        change _ = some m.sv at this
                        have hsv2 : m.sv = .slice sa2 m.seen.length sc2 := hsv2
                        rw [this, hsv2]
                      have s5 : wh.cell? ⟨db, off + 5, none⟩ = some (.int .i64 d.b.c) := (HDB.out _ BHh.out).c
                      have hsp : p < wh.heap.size := XHh.out.lt
                      have hsd : db < wh.heap.size := World.block_lt_of_cell? _ _ s5
                      have hsBX := hid XHh.out.box
                      have hpos := posI_le d.b.c m.seen
                      have DCL := hid (show ∀ V, Below wh.heap.size wh V → Calls Try.prog 58 #[.slice sa2 m.seen.length sc2] V (fun e w' => ∃ a cap, e = .returned (.slice a m.seen.length cap) ∧ Below wh.heap.size wh w' ∧ w'.ownsRow V.heap.size 3 1 (.slice a m.seen.length cap) m.seen.length (rows i1 m.seen) ∧ wh.heap.size ≤ V.heap.size ∧ w'.cell? ⟨p, 6, none⟩ = some (.slice sa2 m.seen.length sc2) ∧ (∀ j, w'.frozen? ⟨p, j, none⟩ = false) ∧ w'.cell? ⟨db, off + 5, none⟩ = some (.int .i64 d.b.c) ∧ ∀ (b : Nat) (o : Obj), V.heap[b]? = some o → w'.heap[b]? = some o) from fun V hV =>
                        (cloneInt_call sa2 m.seen.length sc2 (m.seen.map (Value.int .i64)) V (hsS2.below hV) (by intro u hu; obtain ⟨z, _, rfl⟩ := List.mem_map.1 hu; rfl) (by omega)).mono fun e w' ⟨v, h1, h2, h3⟩ => by
                          obtain ⟨a, c, rfl, -⟩ := own_sl h3
                          have hb := bnext hV h2
                          have hbx := blk_below hsBX.out hb
                          rw [← rows_i1] at h3
                          exact ⟨a, c, h1, hb, h3, hV.size, (hb.cell (p := ⟨p, _, none⟩) hsp).trans s6, fun j => blk_free hbx, (hb.cell (p := ⟨db, _, none⟩) hsd).trans s5, fun b o h => blk_below h h2⟩)
                      have kW5 : ∀ o : Obj, (wh.alloc o).cell? ⟨db, off + 5, none⟩ = some (.int .i64 d.b.c) := fun o => calloc s5
                      have kW6 : ∀ o : Obj, (wh.alloc o).cell? ⟨p, 6, none⟩ = some (.slice sa2 m.seen.length sc2) := fun o => calloc s6
                      clear hsv2 hsS2
                      go_upto_region 20 with (fail)
                      try rw [t15]
                      go_cut [] from 144 to 162 (fun wx => ∃ w7 sa' sc', wx = w7.setCell ⟨p, 6, none⟩ (.slice sa' (m.seen.length + 1) sc') ∧ Below wh.heap.size wh w7 ∧ w7.ownsRow wh.heap.size 3 1 (.slice sa' (m.seen.length + 1) sc') (m.seen.length + 1) (rows i1 (Sto.insS m.seen d.b.c)))
                      case first =>
                        go_region_law
                          (first
                            | (go_simp; go_at_call 58; refine (DCL.out _ ?_).mono ?_; (repeat (first | assumption | exact Below.refl _ _ | refine below_drewN ?_ _ | refine Below.drew ?_ | refine Below.alloc ?_ (by first | exact Nat.le_refl _ | (simp; done) | (simp; omega)) _)); rintro e w5 ⟨a5, c5, rfl, b5, o5, hVs, k6, kf, k5, jj⟩; (try have jA := jj wh.heap.size (.cells #[.int .i64 d.b.c] 3 (0, 0)) (by first | exact blk_new _ _ | exact blk_at (by simp))); replace jj := hid jj; have y5 := b5.size; have kA5 : ∀ o : Obj, (w5.alloc o).cell? ⟨db, off + 5, none⟩ = some (.int .i64 d.b.c) := fun o => calloc k5; have kA6 : ∀ o : Obj, (w5.alloc o).cell? ⟨p, 6, none⟩ = some (.slice sa2 m.seen.length sc2) := fun o => calloc k6)
                            | (go_simp; go_at_call 57; (with_reducible refine (insertInt_call (.slice a5 m.seen.length c5) m.seen.length m.seen (posI d.b.c m.seen) d.b.c w5.heap.size wh.heap.size (w5.alloc (.cells #[.int .i64 d.b.c] 3)) ?i1 ?i2 ?i3 ?i4 ?i5 ?i6).mono ?_); (case i1 => exact own_mono (own_below o5 ((Below.refl _ _).alloc (Nat.le_refl _) _)) hVs); (case i2 => (simp; omega)); (case i3 => omega); (case i4 => exact hpos); (case i5 => exact (fun e => absurd (o5.lt _ e).2 (Nat.lt_irrefl _))); (case i6 => exact blk_new w5 _); rintro e w6 ⟨v6, rfl, o6⟩; obtain ⟨a6, c6, rfl, -⟩ := own_sl o6.own; obtain ⟨b6, k66, kf6⟩ := tail_fin (b5.alloc b5.size (.cells #[.int .i64 d.b.c] 3)) (own_below o5 ((Below.refl _ _).alloc (Nat.le_refl _) _)) hVs o6.grown (calloc k6) (fun j => (frozen_old (World.block_lt_of_cell? _ _ k6)).trans (kf j)) hsp)
                            | (go_simp; go_at_call 57; (with_reducible refine (insertInt_call (.slice a5 m.seen.length c5) m.seen.length m.seen (posI d.b.c m.seen) d.b.c wh.heap.size wh.heap.size w5 ?i1 ?i2 ?i3 ?i4 ?i5 ?i6).mono ?_); (case i1 => exact own_mono o5 hVs); (case i2 => exact b5.size); (case i3 => omega); (case i4 => exact hpos); (case i5 => (intro e; have h1 := o5.lt _ e; simp at h1; omega)); (case i6 => exact jA); rintro e w6 ⟨v6, rfl, o6⟩; obtain ⟨a6, c6, rfl, -⟩ := own_sl o6.own; obtain ⟨b6, k66, kf6⟩ := tail_fin b5 o5 hVs o6.grown k6 kf hsp))
                        all_goals (go_wp2_with fail; go_meet)
                        all_goals exact ⟨w6, a6, c6, rfl, b6, by rw [insS_eq]; exact o6.own⟩
                      case rest =>
                        obtain ⟨w7, sa3, sc3, hwx, b7, o7⟩ := hcut
                        have X7 := XHh.out.below b7
                        have hil : (Sto.insS m.seen d.b.c).length = m.seen.length + 1 := by rw [insS_eq, List.length_append, List.length_cons, List.length_take, List.length_drop]; omega
                        have o7' := own_mono o7 (show base ≤ _ by have := XHh.out.le; omega)
                        rw [rows_i1] at o7'
                        have X8 := X7.setBox 6 (.slice sa3 (m.seen.length + 1) sc3) { ({ m with D := D', g := m.g + 1, tv := .slice none 0 0, T := [] } : Mst) with sv := .slice sa3 (m.seen.length + 1) sc3, seen := Sto.insS m.seen d.b.c } rfl rfl rfl X7.tail X7.evs (by show World.ownsRow _ _ _ _ _ (Sto.insS m.seen d.b.c).length _; rw [hil]; exact o7') X7.accs X7.aok
                        have K8 := (Kt.below b7).trans (Kt.setBox X7 6 (.slice sa3 (m.seen.length + 1) sc3))
                        have B8 := (BHh.out.trans (b7.mono (Nat.le_trans XHh.out.le (Nat.le_of_lt XHh.out.lt)))).setCell (p := ⟨p, 6, none⟩) X7.le (.slice sa3 (m.seen.length + 1) sc3)
                        rw [← hwx] at X8 K8 B8
                        clear hwx o7 o7' X7
                        have h8x := K8.block b8 _ 42 H8i (by decide)
                        have o8x := K8.own O8i (by decide)
                        have vx := K8.block B _ 50 vi (by decide)
                        have hbp8 : b8 ≠ p := heap_ne h8x X8.box (by decide)
                        have hbp9 : p ≠ b8 := fun e => hbp8 e.symm
                        have x0 : wc.cell? ⟨b8, 0, none⟩ = some (.int .i64 Fu) := blk_cell h8x
                        have x1 : wc.cell? ⟨b8, 1, none⟩ = some (.slice a8 FA.length c8) := blk_cell h8x
                        have x7 : wc.cell? ⟨p, 7, none⟩ = some (.int .i64 m.u) := blk_cell (i := 7) X8.box
                        have x8 : wc.cell? ⟨p, 8, none⟩ = some m.av := blk_cell (i := 8) X8.box
                        have xf : ∀ j, wc.frozen? ⟨p, j, none⟩ = false := fun j => blk_free X8.box
                        have X9 := X8.setBox 7 (.int .i64 Fu) { ({ m with D := D', g := m.g + 1, tv := .slice none 0 0, T := [] } : Mst) with sv := .slice sa3 (m.seen.length + 1) sc3, seen := Sto.insS m.seen d.b.c, u := Fu } rfl rfl rfl X8.tail X8.evs X8.seen X8.accs X8.aok
                        have X10 := X9.setBox 8 (.slice a8 FA.length c8) { ({ m with D := D', g := m.g + 1, tv := .slice none 0 0, T := [] } : Mst) with sv := .slice sa3 (m.seen.length + 1) sc3, seen := Sto.insS m.seen d.b.c, u := Fu, av := .slice a8 FA.length c8, A := FA } rfl rfl rfl X9.tail X9.evs X9.seen (ownsRow_setCell_other o8x (X8.pOwn o8x (by decide)) _) hok8.out
                        have K10 := hid (KHh.out.trans (K8.trans ((Kt.setBox X8 7 (.int .i64 Fu)).trans (Kt.setBox X9 8 (.slice a8 FA.length c8)))))
                        have B10 := (B8.setCell (p := ⟨p, 7, none⟩) X8.le (.int .i64 Fu)).setCell (p := ⟨p, 8, none⟩) X8.le (.slice a8 FA.length c8)
                        have v10 := bkeep (i := 8) (bkeep (i := 7) vx hBp (.int .i64 Fu)) hBp (.slice a8 FA.length c8)
                        have X10h := hid X10
                        have v10h := hid v10
                        have B10h := hid B10
                        clear X8 X9 X10 K8 B8 B10 v10 o8x h8x
                        have r0 : wc.cell? ⟨B, 0, none⟩ = some (.int .i64 0) := blk_cell vx
                        have r1 : wc.cell? ⟨B, 1, none⟩ = some (.int .i64 0) := blk_cell vx
                        have r2 : wc.cell? ⟨B, 2, none⟩ = some (.slice none 0 0) := blk_cell vx
                        have r3 : wc.cell? ⟨B, 3, none⟩ = some (.int .i64 0) := blk_cell vx
                        have r4 : wc.cell? ⟨B, 4, none⟩ = some (.slice none 0 0) := blk_cell vx
                        have f0 : ∀ j, wc.frozen? ⟨B, j, none⟩ = false := fun j => blk_free vx
                        go_wp2_with fail
                        obtain ⟨W, hW, q, hBW, hOW, hown⟩ := set5_facts B10h.out hBb v10h.out (.int .i64 (0)) (.int .i64 (Fu)) (.slice none 0 0) (.int .i64 (0)) (.slice none 0 0)
                        rw [hW]
                        have q0 := blk_cell (i := 0) q
                        have q1 := blk_cell (i := 1) q
                        have q2 := blk_cell (i := 2) q
                        have q3 := blk_cell (i := 3) q
                        have q4 := blk_cell (i := 4) q
                        refine bodyPost_ret (v := ansVal (0) (Fu) (.slice none 0 0) (0) (.slice none 0 0)) (by unfold ansVal; simp [results, Try.results39, go_sem, q0, q1, q2, q3, q4]) rfl ⟨_, _, rfl, ?_, (X10h.out).off hOW v10h.out (by decide), ?_, (K10.out).off hOW hB', hBW⟩
                        · rw [HL.out]; exact AnO.num _ _ _
                        · rw [HL.out]; simp [Mst.st]
                  · have HL := hid (P5.out.trans (if_neg hfull))
                    have t15 : ((m.T.length : Int) + 1 == m.b) = false := by
                      refine beq_eq_false_iff_ne.2 (fun e => hfull ?_)
                      rw [← e]; omega
                    replace hfull := hid hfull
                    clear P5
                    have hsup2 := hsup.out
                    obtain ⟨sa2, sc2, hsv2, hsS2⟩ := own_sl XG.out.seen
                    change Sl wg 1 sa2 m.seen.length sc2 (m.seen.map (Value.int .i64)) at hsS2
                    have s6 : wg.cell? ⟨p, 6, none⟩ = some (.slice sa2 m.seen.length sc2) := by
                      have := blk_cell (i := 6) XG.out.box
                      change _ = some m.sv at this
                      have hsv2 : m.sv = .slice sa2 m.seen.length sc2 := hsv2
                      rw [this, hsv2]
                    have s5 : wg.cell? ⟨db, off + 5, none⟩ = some (.int .i64 d.b.c) := (HDB.out _ BG.out).c
                    have hsp : p < wg.heap.size := XG.out.lt
                    have hsd : db < wg.heap.size := World.block_lt_of_cell? _ _ s5
                    have hsBX := hid XG.out.box
                    have hpos := posI_le d.b.c m.seen
                    have DCL := hid (show ∀ V, Below wg.heap.size wg V → Calls Try.prog 58 #[.slice sa2 m.seen.length sc2] V (fun e w' => ∃ a cap, e = .returned (.slice a m.seen.length cap) ∧ Below wg.heap.size wg w' ∧ w'.ownsRow V.heap.size 3 1 (.slice a m.seen.length cap) m.seen.length (rows i1 m.seen) ∧ wg.heap.size ≤ V.heap.size ∧ w'.cell? ⟨p, 6, none⟩ = some (.slice sa2 m.seen.length sc2) ∧ (∀ j, w'.frozen? ⟨p, j, none⟩ = false) ∧ w'.cell? ⟨db, off + 5, none⟩ = some (.int .i64 d.b.c) ∧ ∀ (b : Nat) (o : Obj), V.heap[b]? = some o → w'.heap[b]? = some o) from fun V hV =>
                      (cloneInt_call sa2 m.seen.length sc2 (m.seen.map (Value.int .i64)) V (hsS2.below hV) (by intro u hu; obtain ⟨z, _, rfl⟩ := List.mem_map.1 hu; rfl) (by omega)).mono fun e w' ⟨v, h1, h2, h3⟩ => by
                        obtain ⟨a, c, rfl, -⟩ := own_sl h3
                        have hb := bnext hV h2
                        have hbx := blk_below hsBX.out hb
                        rw [← rows_i1] at h3
                        exact ⟨a, c, h1, hb, h3, hV.size, (hb.cell (p := ⟨p, _, none⟩) hsp).trans s6, fun j => blk_free hbx, (hb.cell (p := ⟨db, _, none⟩) hsd).trans s5, fun b o h => blk_below h h2⟩)
                    have kW5 : ∀ o : Obj, (wg.alloc o).cell? ⟨db, off + 5, none⟩ = some (.int .i64 d.b.c) := fun o => calloc s5
                    have kW6 : ∀ o : Obj, (wg.alloc o).cell? ⟨p, 6, none⟩ = some (.slice sa2 m.seen.length sc2) := fun o => calloc s6
                    clear hsv2 hsS2
                    go_upto_region 20 with (fail)
                    try rw [t15]
                    go_cut [] from 144 to 162 (fun wx => ∃ w7 sa' sc', wx = w7.setCell ⟨p, 6, none⟩ (.slice sa' (m.seen.length + 1) sc') ∧ Below wg.heap.size wg w7 ∧ w7.ownsRow wg.heap.size 3 1 (.slice sa' (m.seen.length + 1) sc') (m.seen.length + 1) (rows i1 (Sto.insS m.seen d.b.c)))
                    case first =>
                      go_region_law
                        (first
                          | (go_simp; go_at_call 58; refine (DCL.out _ ?_).mono ?_; (repeat (first | assumption | exact Below.refl _ _ | refine below_drewN ?_ _ | refine Below.drew ?_ | refine Below.alloc ?_ (by first | exact Nat.le_refl _ | (simp; done) | (simp; omega)) _)); rintro e w5 ⟨a5, c5, rfl, b5, o5, hVs, k6, kf, k5, jj⟩; (try have jA := jj wg.heap.size (.cells #[.int .i64 d.b.c] 3 (0, 0)) (by first | exact blk_new _ _ | exact blk_at (by simp))); replace jj := hid jj; have y5 := b5.size; have kA5 : ∀ o : Obj, (w5.alloc o).cell? ⟨db, off + 5, none⟩ = some (.int .i64 d.b.c) := fun o => calloc k5; have kA6 : ∀ o : Obj, (w5.alloc o).cell? ⟨p, 6, none⟩ = some (.slice sa2 m.seen.length sc2) := fun o => calloc k6)
                          | (go_simp; go_at_call 57; (with_reducible refine (insertInt_call (.slice a5 m.seen.length c5) m.seen.length m.seen (posI d.b.c m.seen) d.b.c w5.heap.size wg.heap.size (w5.alloc (.cells #[.int .i64 d.b.c] 3)) ?i1 ?i2 ?i3 ?i4 ?i5 ?i6).mono ?_); (case i1 => exact own_mono (own_below o5 ((Below.refl _ _).alloc (Nat.le_refl _) _)) hVs); (case i2 => (simp; omega)); (case i3 => omega); (case i4 => exact hpos); (case i5 => exact (fun e => absurd (o5.lt _ e).2 (Nat.lt_irrefl _))); (case i6 => exact blk_new w5 _); rintro e w6 ⟨v6, rfl, o6⟩; obtain ⟨a6, c6, rfl, -⟩ := own_sl o6.own; obtain ⟨b6, k66, kf6⟩ := tail_fin (b5.alloc b5.size (.cells #[.int .i64 d.b.c] 3)) (own_below o5 ((Below.refl _ _).alloc (Nat.le_refl _) _)) hVs o6.grown (calloc k6) (fun j => (frozen_old (World.block_lt_of_cell? _ _ k6)).trans (kf j)) hsp)
                          | (go_simp; go_at_call 57; (with_reducible refine (insertInt_call (.slice a5 m.seen.length c5) m.seen.length m.seen (posI d.b.c m.seen) d.b.c wg.heap.size wg.heap.size w5 ?i1 ?i2 ?i3 ?i4 ?i5 ?i6).mono ?_); (case i1 => exact own_mono o5 hVs); (case i2 => exact b5.size); (case i3 => omega); (case i4 => exact hpos); (case i5 => (intro e; have h1 := o5.lt _ e; simp at h1; omega)); (case i6 => exact jA); rintro e w6 ⟨v6, rfl, o6⟩; obtain ⟨a6, c6, rfl, -⟩ := own_sl o6.own; obtain ⟨b6, k66, kf6⟩ := tail_fin b5 o5 hVs o6.grown k6 kf hsp))
                      all_goals (go_wp2_with fail; go_meet)
                      all_goals exact ⟨w6, a6, c6, rfl, b6, by rw [insS_eq]; exact o6.own⟩
                    case rest =>
                      obtain ⟨w7, sa3, sc3, hwx, b7, o7⟩ := hcut
                      have X7 := XG.out.below b7
                      have hil : (Sto.insS m.seen d.b.c).length = m.seen.length + 1 := by rw [insS_eq, List.length_append, List.length_cons, List.length_take, List.length_drop]; omega
                      have o7' := own_mono o7 (show base ≤ _ by have := XG.out.le; omega)
                      rw [rows_i1] at o7'
                      have X8 := X7.setBox 6 (.slice sa3 (m.seen.length + 1) sc3) { ({ m with tv := .slice ta2 (m.T.length + 1) tc2, T := m.T ++ [⟨d.b.c, a10, en, c10, d.b.evs⟩] } : Mst) with sv := .slice sa3 (m.seen.length + 1) sc3, seen := Sto.insS m.seen d.b.c } rfl rfl rfl X7.tail X7.evs (by show World.ownsRow _ _ _ _ _ (Sto.insS m.seen d.b.c).length _; rw [hil]; exact o7') X7.accs X7.aok
                      have K8 := (Kt.below b7).trans (Kt.setBox X7 6 (.slice sa3 (m.seen.length + 1) sc3))
                      have B8 := (BG.out.trans (b7.mono (Nat.le_trans XG.out.le (Nat.le_of_lt XG.out.lt)))).setCell (p := ⟨p, 6, none⟩) X7.le (.slice sa3 (m.seen.length + 1) sc3)
                      rw [← hwx] at X8 K8 B8
                      clear hwx o7 o7' X7
                      have h8x := K8.block b8 _ 42 H8g (by decide)
                      have o8x := K8.own O8g (by decide)
                      have vx := K8.block B _ 50 vg (by decide)
                      have hbp8 : b8 ≠ p := heap_ne h8x X8.box (by decide)
                      have hbp9 : p ≠ b8 := fun e => hbp8 e.symm
                      have x0 : wc.cell? ⟨b8, 0, none⟩ = some (.int .i64 Fu) := blk_cell h8x
                      have x1 : wc.cell? ⟨b8, 1, none⟩ = some (.slice a8 FA.length c8) := blk_cell h8x
                      have x7 : wc.cell? ⟨p, 7, none⟩ = some (.int .i64 m.u) := blk_cell (i := 7) X8.box
                      have x8 : wc.cell? ⟨p, 8, none⟩ = some m.av := blk_cell (i := 8) X8.box
                      have xf : ∀ j, wc.frozen? ⟨p, j, none⟩ = false := fun j => blk_free X8.box
                      have X9 := X8.setBox 7 (.int .i64 Fu) { ({ m with tv := .slice ta2 (m.T.length + 1) tc2, T := m.T ++ [⟨d.b.c, a10, en, c10, d.b.evs⟩] } : Mst) with sv := .slice sa3 (m.seen.length + 1) sc3, seen := Sto.insS m.seen d.b.c, u := Fu } rfl rfl rfl X8.tail X8.evs X8.seen X8.accs X8.aok
                      have X10 := X9.setBox 8 (.slice a8 FA.length c8) { ({ m with tv := .slice ta2 (m.T.length + 1) tc2, T := m.T ++ [⟨d.b.c, a10, en, c10, d.b.evs⟩] } : Mst) with sv := .slice sa3 (m.seen.length + 1) sc3, seen := Sto.insS m.seen d.b.c, u := Fu, av := .slice a8 FA.length c8, A := FA } rfl rfl rfl X9.tail X9.evs X9.seen (ownsRow_setCell_other o8x (X8.pOwn o8x (by decide)) _) hok8.out
                      have K10 := hid (KG.out.trans (K8.trans ((Kt.setBox X8 7 (.int .i64 Fu)).trans (Kt.setBox X9 8 (.slice a8 FA.length c8)))))
                      have B10 := (B8.setCell (p := ⟨p, 7, none⟩) X8.le (.int .i64 Fu)).setCell (p := ⟨p, 8, none⟩) X8.le (.slice a8 FA.length c8)
                      have v10 := bkeep (i := 8) (bkeep (i := 7) vx hBp (.int .i64 Fu)) hBp (.slice a8 FA.length c8)
                      have X10h := hid X10
                      have v10h := hid v10
                      have B10h := hid B10
                      clear X8 X9 X10 K8 B8 B10 v10 o8x h8x
                      have r0 : wc.cell? ⟨B, 0, none⟩ = some (.int .i64 0) := blk_cell vx
                      have r1 : wc.cell? ⟨B, 1, none⟩ = some (.int .i64 0) := blk_cell vx
                      have r2 : wc.cell? ⟨B, 2, none⟩ = some (.slice none 0 0) := blk_cell vx
                      have r3 : wc.cell? ⟨B, 3, none⟩ = some (.int .i64 0) := blk_cell vx
                      have r4 : wc.cell? ⟨B, 4, none⟩ = some (.slice none 0 0) := blk_cell vx
                      have f0 : ∀ j, wc.frozen? ⟨B, j, none⟩ = false := fun j => blk_free vx
                      go_wp2_with fail
                      obtain ⟨W, hW, q, hBW, hOW, hown⟩ := set5_facts B10h.out hBb v10h.out (.int .i64 (0)) (.int .i64 (Fu)) (.slice none 0 0) (.int .i64 (0)) (.slice none 0 0)
                      rw [hW]
                      have q0 := blk_cell (i := 0) q
                      have q1 := blk_cell (i := 1) q
                      have q2 := blk_cell (i := 2) q
                      have q3 := blk_cell (i := 3) q
                      have q4 := blk_cell (i := 4) q
                      refine bodyPost_ret (v := ansVal (0) (Fu) (.slice none 0 0) (0) (.slice none 0 0)) (by unfold ansVal; simp [results, Try.results39, go_sem, q0, q1, q2, q3, q4]) rfl ⟨_, _, rfl, ?_, (X10h.out).off hOW v10h.out (by decide), ?_, (K10.out).off hOW hB', hBW⟩
                      · rw [HL.out]; exact AnO.num _ _ _
                      · rw [HL.out]; simp [Mst.st, Rb.ba]
            · have HL := hid (P4.out hFe)
              have t4 : (Fe != 0) = true := bne_iff_ne.2 hFe
              replace hFe := hid hFe
              clear P4 P5
              have r0 : wd.cell? ⟨B, 0, none⟩ = some (.int .i64 0) := blk_cell vd
              have r1 : wd.cell? ⟨B, 1, none⟩ = some (.int .i64 0) := blk_cell vd
              have r2 : wd.cell? ⟨B, 2, none⟩ = some (.slice none 0 0) := blk_cell vd
              have r3 : wd.cell? ⟨B, 3, none⟩ = some (.int .i64 0) := blk_cell vd
              have r4 : wd.cell? ⟨B, 4, none⟩ = some (.slice none 0 0) := blk_cell vd
              have f0 : ∀ j, wd.frozen? ⟨B, j, none⟩ = false := fun j => blk_free vd
              go_wp2_with fail
              obtain ⟨W, hW, q, hBW, hOW, hown⟩ := set5_facts bbd hBb vd (.int .i64 (Fe)) (.int .i64 (0)) (.slice none 0 0) (.int .i64 (0)) (.slice none 0 0)
              rw [hW]
              have q0 := blk_cell (i := 0) q
              have q1 := blk_cell (i := 1) q
              have q2 := blk_cell (i := 2) q
              have q3 := blk_cell (i := 3) q
              have q4 := blk_cell (i := 4) q
              refine bodyPost_ret (v := ansVal (Fe) (0) (.slice none 0 0) (0) (.slice none 0 0)) (by unfold ansVal; simp [results, Try.results39, go_sem, q0, q1, q2, q3, q4]) rfl ⟨_, m, rfl, ?_, (XD.out).off hOW vd (by decide), ?_, (KD.out).off hOW hB', hBW⟩
              · rw [HL.out]; exact AnO.err _ _ _
              · rw [HL.out]
  · have t0 : (We1 != 0) = true := bne_iff_ne.2 hw1
    have HL := hid (P1.out hw1)
    replace hw1 := hid hw1
    clear P1 P2 P3 P4 P5
    have XA := hid (HS.out.below bA)
    have KA := hid (Kt.below bA)
    have r0 : (w1.alloc (.cells #[.int .i64 We1, .int .i64 We2] 69)).cell? ⟨B, 0, none⟩ = some (.int .i64 0) := blk_cell vA
    have r1 : (w1.alloc (.cells #[.int .i64 We1, .int .i64 We2] 69)).cell? ⟨B, 1, none⟩ = some (.int .i64 0) := blk_cell vA
    have r2 : (w1.alloc (.cells #[.int .i64 We1, .int .i64 We2] 69)).cell? ⟨B, 2, none⟩ = some (.slice none 0 0) := blk_cell vA
    have r3 : (w1.alloc (.cells #[.int .i64 We1, .int .i64 We2] 69)).cell? ⟨B, 3, none⟩ = some (.int .i64 0) := blk_cell vA
    have r4 : (w1.alloc (.cells #[.int .i64 We1, .int .i64 We2] 69)).cell? ⟨B, 4, none⟩ = some (.slice none 0 0) := blk_cell vA
    have f0 : ∀ j, (w1.alloc (.cells #[.int .i64 We1, .int .i64 We2] 69)).frozen? ⟨B, j, none⟩ = false := fun j => blk_free vA
    have bb := bA.mono hbase
    go_wp2_with fail
    obtain ⟨W, hW, q, hBW, hOW, hown⟩ := set5_facts bb hBb vA (.int .i64 (We1)) (.int .i64 (0)) (.slice none 0 0) (.int .i64 (0)) (.slice none 0 0)
    rw [hW]
    have q0 := blk_cell (i := 0) q
    have q1 := blk_cell (i := 1) q
    have q2 := blk_cell (i := 2) q
    have q3 := blk_cell (i := 3) q
    have q4 := blk_cell (i := 4) q
    refine bodyPost_ret (v := ansVal (We1) (0) (.slice none 0 0) (0) (.slice none 0 0)) (by unfold ansVal; simp [results, Try.results39, go_sem, q0, q1, q2, q3, q4]) rfl ⟨_, m, rfl, ?_, (XA.out).off hOW vA (by decide), ?_, (KA.out).off hOW hB', hBW⟩
    · rw [HL.out]; exact AnO.err _ _ _
    · rw [HL.out]
end Go.Proofs.Ythhcdfjijagalaa
