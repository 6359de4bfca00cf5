/- Joined, and what is not used struck: StoR, StoS. -/
import Derived.Test.YthhcdfjijagalaaM25
import Derived.Test.YthhcdfjijagalaaM26
import Derived.Test.YthhcdfjijagalaaM27
namespace Go.Proofs.Ythhcdfjijagalaa
open Go.RowKit
set_option linter.unusedVariables false
set_option linter.unusedSimpArgs false
set_option maxRecDepth 100000
/-- accounts in a row of their own -/
def AO (w : World) (base : Nat) (a : Option Addr) (cap : Nat) (l : List Vw.Acc) : Prop := w.ownsRow base 65 4 (.slice a l.length cap) l.length (acCells l) ∧ ∀ e ∈ l, e.s.size ≤ maxLen
theorem AO.nil (w : World) (base : Nat) : AO w base none 0 [] := ⟨World.ownsRow_nil _ _ _ _, fun e he => by cases he⟩
theorem EO.nil (w : World) (base : Nat) : EO w base none 0 [] := ⟨World.ownsRow_nil _ _ _ _, fun e he => by cases he⟩
theorem AO.below {w w' : World} {base : Nat} {a : Option Addr} {cap : Nat} {l : List Vw.Acc} (h : AO w base a cap l) (hb : Below w.heap.size w w') : AO w' base a cap l := ⟨own_below h.1 hb, h.2⟩
theorem AO.as {w : World} {base : Nat} {a : Option Addr} {cap : Nat} {l : List Vw.Acc} (h : AO w base a cap l) : As w a l.length cap l := by
  obtain ⟨a', c', e, hs⟩ := own_sl h.1
  cases e
  exact ⟨hs, h.2⟩
/-- an answer as a value -/
def ansVal (err n : Int) (e : Value) (u : Int) (a : Value) : Value := .agg #[.int .i64 err, .int .i64 n, e, .int .i64 u, a]
/-- an answer whose rows are its own -/
def AnO (w : World) (base : Nat) (v : Value) (a : Sto.An) : Prop := ∃ ea ec aa ac, v = ansVal a.err a.n (.slice ea a.evs.length ec) a.view.upto (.slice aa a.view.accs.length ac) ∧ EO w base ea ec a.evs ∧ AO w base aa ac a.view.accs
theorem AnO.err (w : World) (base : Nat) (e : Int) : AnO w base (ansVal e 0 (.slice none 0 0) 0 (.slice none 0 0)) (Sto.anE e) := ⟨none, 0, none, 0, rfl, EO.nil _ _, AO.nil _ _⟩
theorem AnO.num (w : World) (base : Nat) (n : Int) : AnO w base (ansVal 0 n (.slice none 0 0) 0 (.slice none 0 0)) (Sto.anN n) := ⟨none, 0, none, 0, rfl, EO.nil _ _, AO.nil _ _⟩
theorem set5_facts {w w1 : World} {b : Nat} {x0 x1 x2 x3 x4 : Value} {t : TypeId} {B : Nat} (hb : Below B w w1) (hle : B ≤ b) (h : w1.heap[b]? = some (.cells #[x0, x1, x2, x3, x4] t (0, 0))) (v0 v1 v2 v3 v4 : Value) :
    ∃ W, (((((w1.setCell ⟨b, 0, none⟩ v0).setCell ⟨b, 1, none⟩ v1).setCell ⟨b, 2, none⟩ v2).setCell ⟨b, 3, none⟩ v3).setCell ⟨b, 4, none⟩ v4) = W ∧ W.heap[b]? = some (.cells #[v0, v1, v2, v3, v4] t (0, 0)) ∧ Below B w W ∧ Only w1 W [b] ∧
      ∀ {base sz n : Nat} {e : TypeId} {v : Value} {xs : List Value}, w1.ownsRow base e sz v n xs → e ≠ t → W.ownsRow base e sz v n xs := by
  have hO : Only w1 (((((w1.setCell ⟨b, 0, none⟩ v0).setCell ⟨b, 1, none⟩ v1).setCell ⟨b, 2, none⟩ v2).setCell ⟨b, 3, none⟩ v3).setCell ⟨b, 4, none⟩ v4) [b] :=
    (((((Only.refl w1 [b]).setCell (a := ⟨b, 0, none⟩) (.inl (by simp)) v0).setCell (a := ⟨b, 1, none⟩) (.inl (by simp)) v1).setCell (a := ⟨b, 2, none⟩) (.inl (by simp)) v2).setCell (a := ⟨b, 3, none⟩) (.inl (by simp)) v3).setCell (a := ⟨b, 4, none⟩) (.inl (by simp)) v4
  refine ⟨_, rfl, bset (i := 4) (bset (i := 3) (bset (i := 2) (bset (i := 1) (bset (i := 0) h v0) v1) v2) v3) v4, ?_, hO, fun {base sz n e v xs} ho hne => hO.own ho (fun k hk he => ?_)⟩
  · exact ((((hb.setCell (p := ⟨b, 0, none⟩) hle v0).setCell (p := ⟨b, 1, none⟩) hle v1).setCell (p := ⟨b, 2, none⟩) hle v2).setCell (p := ⟨b, 3, none⟩) hle v3).setCell (p := ⟨b, 4, none⟩) hle v4
  · obtain rfl : k = b := by simpa using hk
    exact own_blk_ne ho h hne he
set_option maxHeartbeats 2000000 in
theorem sthealth_call (base p : Nat) (m : Mst) (K : Nat) (w : World) (h : StR w base p m) (hk : Sto.Ok m.st K) :
    Calls Try.prog 44 #[.pointer (some ⟨p, 0, none⟩)] w fun e w' => ∃ v, e = .returned v ∧ AnO w' base v (Sto.anN (Sto.healthTo m.st.disks m.g)) ∧ Below w.heap.size w w' := by
  have hG : m.g ≤ 40 := hk.g
  have hnd : m.D.length ≤ 12 := by have := hk.n12; simpa [Mst.st] using this
  have HS := hid (h.alloc (.cells #[.int .i64 0, .int .i64 0, .slice none 0 0, .int .i64 0, .slice none 0 0] 50))
  have HV := hid (blk_new w (.cells #[.int .i64 0, .int .i64 0, .slice none 0 0, .int .i64 0, .slice none 0 0] 50))
  have b2 : (w.alloc (.cells #[.int .i64 0, .int .i64 0, .slice none 0 0, .int .i64 0, .slice none 0 0] 50)).cell? ⟨p, 4, none⟩ = some (.int .i64 (m.g : Int)) := blk_cell (i := 4) (h.alloc _).box
  have HW := hid ((Below.refl w.heap.size w).alloc (Nat.le_refl _) (.cells #[.int .i64 0, .int .i64 0, .slice none 0 0, .int .i64 0, .slice none 0 0] 50))
  have hn1 : Hid (∀ k : Nat, (Stp.badL (Sto.blocks m.st.disks (k : Int)) (k : Int) m.D.length).length ≤ 12) := hid fun k => Nat.le_trans (Stp.badL_le _ _ _) hnd
  have HL := hid (show m.st.disks.length = m.D.length by simp [Mst.st])
  obtain ⟨G, hGe⟩ : ∃ G, G = m.g := ⟨_, rfl⟩
  rw [← hGe] at hG b2 ⊢
  clear hGe hk h
  go_enter Try.func44, Try.ntmps44
  go_wp2_with fail
  obtain ⟨wb, hwb⟩ : ∃ wb, wb = w.alloc (.cells #[.int .i64 0, .int .i64 0, .slice none 0 0, .int .i64 0, .slice none 0 0] 50) := ⟨_, rfl⟩
  rw [← hwb] at HS HV HW b2 ⊢
  have hwB : w.heap.size < wb.heap.size := by rw [hwb]; simp
  obtain ⟨B, hB⟩ : ∃ B, B = w.heap.size := ⟨_, rfl⟩
  rw [← hB] at HV hwB ⊢
  clear hwb
  have hB' := Nat.le_of_eq hB.symm
  replace hB := hid hB
  go_loopg [3, 10] G (fun gg s3 s10 wr => ∃ (k : Nat) (n : Nat), gg = G - k ∧ k ≤ G ∧ s10 = .int .i64 (k : Int) ∧ s3 = .int .i64 (n : Int) ∧ Hid (n = Sto.healthTo m.st.disks k) ∧ n ≤ 12 * k ∧ Below wb.heap.size wb wr)
  case atStart => exact ⟨0, 0, rfl, by omega, rfl, rfl, hid rfl, by omega, Below.refl _ _⟩
  case round =>
    obtain ⟨k, n, rfl, hk, rfl, rfl, HN, hn, hbo⟩ := hrel
    obtain ⟨wo, rfl⟩ : ∃ wo : World, wo = wr := ⟨_, rfl⟩
    have hszo := hbo.size
    have HSo := hid (HS.out.below hbo)
    by_cases hlt : k < G
    · have hl12 := hn1.out k
      have HH := hid (show Sto.healthTo m.st.disks (k + 1) = Sto.healthTo m.st.disks k + (Stp.badL (Sto.blocks m.st.disks (k : Int)) (k : Int) m.D.length).length by rw [← HL.out]; rfl)
      have DB := hid (stblocks_call base p m (k : Int) wo HSo.out (by omega))
      go_wp2_with fail
      go_at_call 65; refine (DB.out).mono ?_; rintro e w1 ⟨a1, c1, R1, rfl, M1, e1, v1⟩
      have DD := sBad_call a1 _ c1 R1 (k : Int) w1 M1 (by omega)
      rw [e1] at DD
      change Calls _ _ _ _ (NRes (Stp.badL (Sto.blocks m.st.disks (k : Int)) (k : Int) m.D.length) w1) at DD
      generalize hU : Stp.badL (Sto.blocks m.st.disks (k : Int)) (k : Int) m.D.length = U at *
      replace DD := hid DD
      replace hU := hid hU
      clear e1 DB
      go_wp2_with fail
      go_at_call 66; refine (DD.out).mono ?_; rintro e w2 ⟨a2, c2, rfl, -, v2⟩
      go_wp2_with fail
      go_roundg (G - (k + 1))
      case measure => omega
      case rel => exact ⟨k + 1, n + U.length, rfl, by omega, by go_num, by go_num, hid (by rw [HH.out, ← HN.out, ← hU.out]), by omega, bnext hbo (bnext v1 v2)⟩
    · obtain rfl : k = G := by omega
      have v1 := blk_below HV.out hbo
      have r0 : wo.cell? ⟨B, 0, none⟩ = some (.int .i64 0) := blk_cell v1
      have r1 : wo.cell? ⟨B, 1, none⟩ = some (.int .i64 0) := blk_cell v1
      have r2 : wo.cell? ⟨B, 2, none⟩ = some (.slice none 0 0) := blk_cell v1
      have r3 : wo.cell? ⟨B, 3, none⟩ = some (.int .i64 0) := blk_cell v1
      have r4 : wo.cell? ⟨B, 4, none⟩ = some (.slice none 0 0) := blk_cell v1
      have f0 : ∀ j, wo.frozen? ⟨B, j, none⟩ = false := fun j => blk_free v1
      go_wp2_with fail
      obtain ⟨W, hW, q, hBW, -, -⟩ := set5_facts (bnext HW.out hbo) hB' v1 (.int .i64 0) (.int .i64 (n : Int)) (.slice none 0 0) (.int .i64 0) (.slice none 0 0)
      rw [hW]
      have q0 := blk_cell (i := 0) q
      have q1 := blk_cell (i := 1) q
      have q2 := blk_cell (i := 2) q
      have q3 := blk_cell (i := 3) q
      have q4 := blk_cell (i := 4) q
      refine bodyPost_ret (v := ansVal 0 n (.slice none 0 0) 0 (.slice none 0 0)) (by unfold ansVal; simp [results, Try.results44, go_sem, q0, q1, q2, q3, q4]) rfl ⟨_, rfl, ?_, hBW⟩
      rw [← HN.out]
      exact AnO.num _ _ _
set_option maxHeartbeats 4000000 in
theorem stlook_call (base p : Nat) (m : Mst) (K : Nat) (w : World) (h : StR w base p m) (hk : Sto.Ok m.st K) :
    Calls Try.prog 41 #[.pointer (some ⟨p, 0, none⟩)] w fun e w' => ∃ v, e = .returned v ∧ AnO w' base v (Sto.look m.st) ∧ Below w.heap.size w w' := by
  have HS := h.alloc (.cells #[.int .i64 0, .int .i64 0, .slice none 0 0, .int .i64 0, .slice none 0 0] 50)
  have HV := hid (blk_new w (.cells #[.int .i64 0, .int .i64 0, .slice none 0 0, .int .i64 0, .slice none 0 0] 50))
  have HW := hid ((Below.refl w.heap.size w).alloc (Nat.le_refl _) (.cells #[.int .i64 0, .int .i64 0, .slice none 0 0, .int .i64 0, .slice none 0 0] 50))
  have hbase : base ≤ w.heap.size := Nat.le_trans h.le (Nat.le_of_lt h.lt)
  have DA := hid (stall_call base p m K _ HS hk)
  have HL := hid (show Sto.look m.st = if (Sto.all m.st).2 ≠ 0 then Sto.anE (Sto.all m.st).2 else ⟨(Vw.fold Vw.none' (Sto.events (Sto.all m.st).1)).err, (Vw.fold Vw.none' (Sto.events (Sto.all m.st).1)).v.upto, [], (Vw.fold Vw.none' (Sto.events (Sto.all m.st).1)).v⟩ from rfl)
  clear HS hk h
  go_enter Try.func41, Try.ntmps41
  go_wp2_with fail
  obtain ⟨wb, hwb⟩ : ∃ wb, wb = w.alloc (.cells #[.int .i64 0, .int .i64 0, .slice none 0 0, .int .i64 0, .slice none 0 0] 50) := ⟨_, rfl⟩
  rw [← hwb] at DA HV HW ⊢
  have hwB : w.heap.size < wb.heap.size := by rw [hwb]; simp
  obtain ⟨B, hB⟩ : ∃ B, B = w.heap.size := ⟨_, rfl⟩
  rw [← hB] at HV hwB ⊢
  clear hwb
  have hB' := Nat.le_of_eq hB.symm
  replace hB := hid hB
  go_at_call 59; refine (DA.out).mono ?_; rintro e w1 ⟨a1, n1, c1, R1, e1, rfl, hB1, hA1, b1, hn1, hR1⟩
  rw [hA1] at HL
  have v1 := blk_below HV.out b1
  replace b1 := bnext HW.out b1
  clear DA
  by_cases hz : e1 = 0
  · subst hz
    replace HL := hid (HL.out.trans (if_neg (fun e => e rfl)))
    have DE := hid (stevents_call a1 n1 c1 R1 w1 hB1 (by omega) (fun r hr => by have := hR1 r hr; omega))
    clear hA1 hB1 hR1
    go_wp2_with fail
    go_at_call 60; refine (DE.out).mono ?_; rintro e w2 ⟨a2, c2, rfl, hE2, b2⟩
    have DF := vFold_callO 0 none 0 0 [] a2 _ c2 (rbEvs R1) w2 (As.nil _) hE2.es
    unfold viVal at DF
    change Calls _ _ _ _ (FAnsO (Vw.fold Vw.none' (rbEvs R1)) w2) at DF
    rw [show Sto.events (List.map Rb.ba R1, (0 : Int)).1 = rbEvs R1 from (rbEvs_eq R1).symm] at HL
    generalize Vw.fold Vw.none' (rbEvs R1) = F at *
    replace DF := hid DF
    have v2 := blk_below v1 b2
    replace b2 := bnext b1 b2
    clear DE hE2 v1 b1
    go_wp2_with fail
    go_at_call 27; refine (DF.out).mono ?_; rintro e w3 ⟨a3, n3, c3, rfl, hA3, b3, o3⟩
    have hn3 := hA3.cnt
    subst hn3
    have v3 := blk_below v2 b3
    have hsz2 := b2.size
    have hsz3 := b3.size
    have HO3 := hid (show AO w3 base a3 c3 F.v.accs from ⟨own_mono o3 (by omega), hA3.ok⟩)
    replace b3 := bnext b2 b3
    clear DF v2 b2 hA3 o3
    unfold viVal
    have vV := blk_old (o' := .cells #[.int .i64 F.err, .int .i64 F.at_] 69) (blk_old (o' := .cells #[.int .i64 F.v.upto, .slice a3 F.v.accs.length c3] 42) v3)
    have r0 : ((w3.alloc (.cells #[.int .i64 F.v.upto, .slice a3 F.v.accs.length c3] 42)).alloc (.cells #[.int .i64 F.err, .int .i64 F.at_] 69)).cell? ⟨B, 0, none⟩ = some (.int .i64 0) := blk_cell vV
    have r1 : ((w3.alloc (.cells #[.int .i64 F.v.upto, .slice a3 F.v.accs.length c3] 42)).alloc (.cells #[.int .i64 F.err, .int .i64 F.at_] 69)).cell? ⟨B, 1, none⟩ = some (.int .i64 0) := blk_cell vV
    have r2 : ((w3.alloc (.cells #[.int .i64 F.v.upto, .slice a3 F.v.accs.length c3] 42)).alloc (.cells #[.int .i64 F.err, .int .i64 F.at_] 69)).cell? ⟨B, 2, none⟩ = some (.slice none 0 0) := blk_cell vV
    have r3 : ((w3.alloc (.cells #[.int .i64 F.v.upto, .slice a3 F.v.accs.length c3] 42)).alloc (.cells #[.int .i64 F.err, .int .i64 F.at_] 69)).cell? ⟨B, 3, none⟩ = some (.int .i64 0) := blk_cell vV
    have r4 : ((w3.alloc (.cells #[.int .i64 F.v.upto, .slice a3 F.v.accs.length c3] 42)).alloc (.cells #[.int .i64 F.err, .int .i64 F.at_] 69)).cell? ⟨B, 4, none⟩ = some (.slice none 0 0) := blk_cell vV
    have f0 : ∀ j, ((w3.alloc (.cells #[.int .i64 F.v.upto, .slice a3 F.v.accs.length c3] 42)).alloc (.cells #[.int .i64 F.err, .int .i64 F.at_] 69)).frozen? ⟨B, j, none⟩ = false := fun j => blk_free vV
    have AV := hid ((HO3.out.below ((Below.refl _ _).alloc (Nat.le_refl _) (.cells #[.int .i64 F.v.upto, .slice a3 F.v.accs.length c3] 42))).below ((Below.refl _ _).alloc (Nat.le_refl _) (.cells #[.int .i64 F.err, .int .i64 F.at_] 69)))
    have bV := (b3.alloc b3.size (.cells #[.int .i64 F.v.upto, .slice a3 F.v.accs.length c3] 42)).alloc (by have := b3.size; simp; omega) (.cells #[.int .i64 F.err, .int .i64 F.at_] 69)
    clear v3 b3
    go_wp2_with fail
    obtain ⟨W, hW, q, hBW, -, hown⟩ := set5_facts bV hB' vV (.int .i64 F.err) (.int .i64 F.v.upto) (.slice none 0 0) (.int .i64 F.v.upto) (.slice a3 F.v.accs.length c3)
    rw [hW]
    have q0 := blk_cell (i := 0) q
    have q1 := blk_cell (i := 1) q
    have q2 := blk_cell (i := 2) q
    have q3 := blk_cell (i := 3) q
    have q4 := blk_cell (i := 4) q
    refine bodyPost_ret (v := ansVal F.err F.v.upto (.slice none 0 0) F.v.upto (.slice a3 F.v.accs.length c3)) (by unfold ansVal; simp [results, Try.results41, go_sem, q0, q1, q2, q3, q4]) rfl ⟨_, rfl, ?_, hBW⟩
    rw [HL.out]
    exact ⟨none, 0, a3, c3, rfl, EO.nil _ _, hown AV.out.1 (by decide), AV.out.2⟩
  · have t0 : (e1 != 0) = true := bne_iff_ne.2 hz
    replace HL := hid (HL.out.trans (if_pos hz))
    have r0 : w1.cell? ⟨B, 0, none⟩ = some (.int .i64 0) := blk_cell v1
    have r1 : w1.cell? ⟨B, 1, none⟩ = some (.int .i64 0) := blk_cell v1
    have r2 : w1.cell? ⟨B, 2, none⟩ = some (.slice none 0 0) := blk_cell v1
    have r3 : w1.cell? ⟨B, 3, none⟩ = some (.int .i64 0) := blk_cell v1
    have r4 : w1.cell? ⟨B, 4, none⟩ = some (.slice none 0 0) := blk_cell v1
    have f0 : ∀ j, w1.frozen? ⟨B, j, none⟩ = false := fun j => blk_free v1
    replace hz := hid hz
    clear hA1 hB1 hR1
    go_wp2_with fail
    obtain ⟨W, hW, q, hBW, -, -⟩ := set5_facts b1 hB' v1 (.int .i64 e1) (.int .i64 0) (.slice none 0 0) (.int .i64 0) (.slice none 0 0)
    rw [hW]
    have q0 := blk_cell (i := 0) q
    have q1 := blk_cell (i := 1) q
    have q2 := blk_cell (i := 2) q
    have q3 := blk_cell (i := 3) q
    have q4 := blk_cell (i := 4) q
    refine bodyPost_ret (v := ansVal e1 0 (.slice none 0 0) 0 (.slice none 0 0)) (by unfold ansVal; simp [results, Try.results41, go_sem, q0, q1, q2, q3, q4]) rfl ⟨_, rfl, ?_, hBW⟩
    rw [HL.out]
    exact AnO.err _ _ _
end Go.Proofs.Ythhcdfjijagalaa
namespace Go.Proofs.Ythhcdfjijagalaa
open Go.RowKit
set_option linter.unusedVariables false
set_option linter.unusedSimpArgs false
set_option maxRecDepth 100000
theorem run_clear_src {P : Program} (w : World) (n : Nat) (t e ty : TypeId) (z : Value) (ht : P.underlying t = some (.slice e)) (hv : ∀ w, (zeroValue e).run P w = .ok z w) (h1 : ∀ v ∈ (Builtin.zeroCells z.cells n).toList, v.oneCell' = true) (g off c : Nat) (hn : 0 < n)
    (cur : List Value) (tt : TypeId) (hg : w.heap[g]? = some (.cells cur.toArray tt (0, 0))) (hfit : off + (Builtin.zeroCells z.cells n).toList.length ≤ cur.length) :
    (Builtin.clear_ #[t] ty #[.slice (some ⟨g, off, none⟩) n c]).run P w = .ok (.tuple #[]) (w.setRow g (splice cur off (Builtin.zeroCells z.cells n).toList).toArray) := by
  have hst := run_storeCells_at P g off tt (Builtin.zeroCells z.cells n).toList 0 cur.toArray w hg (by simpa using hfit) h1
  simp only [Nat.add_zero] at hst
  obtain ⟨m, rfl⟩ : ∃ m, n = m + 1 := ⟨n - 1, by omega⟩
  simp [Builtin.clear_, run_underlying ht, hv, hst, splice]
theorem ev_at {w : World} {b off n cap : Nat} {l : List Evt.Ev} (h : Sl w 3 (some ⟨b, off, none⟩) n cap (evCells l)) (i : Nat) (hi : i < l.length) :
    w.cell? ⟨b, off + i * 3, none⟩ = some (.string l[i].s) ∧ w.cell? ⟨b, off + i * 3 + 1, none⟩ = some (.int .i64 l[i].k) ∧ w.cell? ⟨b, off + i * 3 + 2, none⟩ = some (.int .i64 l[i].n) := by
  have hl := h.len
  rw [evCells_length] at hl
  have hg := evCells_get l i hi
  exact ⟨h.cell (by omega) hg.1, h.cell (by omega) hg.2.1, h.cell (by omega) hg.2.2⟩
theorem evRows (l : List Evt.Ev) : evCells l = rows ev3 l := rfl
theorem ev3_len (e : Evt.Ev) : (ev3 e).length = 3 := rfl
theorem evCells_set (l : List Evt.Ev) (x : Evt.Ev) (i : Nat) (hi : i < l.length) : (((evCells l).set (i * 3) (.string x.s)).set (i * 3 + 1) (.int .i64 x.k)).set (i * 3 + 2) (.int .i64 x.n) = evCells (l.set i x) := by
  have h0 := rows_set ev3_len l ⟨x.s, l[i].k, l[i].n⟩ (.string x.s) 0 (by decide) i hi rfl
  have h1 := rows_set ev3_len (l.set i ⟨x.s, l[i].k, l[i].n⟩) ⟨x.s, x.k, l[i].n⟩ (.int .i64 x.k) 1 (by decide) i (by simpa using hi) (by rw [List.getElem_set_self]; rfl)
  have h2 := rows_set ev3_len ((l.set i ⟨x.s, l[i].k, l[i].n⟩).set i ⟨x.s, x.k, l[i].n⟩) x (.int .i64 x.n) 2 (by decide) i (by simpa using hi) (by rw [List.getElem_set_self]; rfl)
  simp only [List.set_set] at h1 h2
  rw [evRows, evRows]
  have h0' : (rows ev3 l).set (i * 3) (.string x.s) = rows ev3 (l.set i ⟨x.s, l[i].k, l[i].n⟩) := h0
  rw [h0', h1, h2]
theorem own_ev_set {w : World} {base g n cap : Nat} {l : List Evt.Ev} (h : w.ownsRow base 32 3 (.slice (some ⟨g, 0, none⟩) n cap) n (evCells l)) (i : Nat) (hi : i < l.length) (x : Evt.Ev) :
    (((w.setCell ⟨g, i * 3, none⟩ (.string x.s)).setCell ⟨g, i * 3 + 1, none⟩ (.int .i64 x.k)).setCell ⟨g, i * 3 + 2, none⟩ (.int .i64 x.n)).ownsRow base 32 3 (.slice (some ⟨g, 0, none⟩) n cap) n (evCells (l.set i x)) := by
  obtain ⟨cur, hg, hb, hn, hc, hl, ht⟩ := own_known h
  have q := blk_set (i := i * 3 + 2) (blk_set (i := i * 3 + 1) (blk_set (i := i * 3) hg (.string x.s)) (.int .i64 x.k)) (.int .i64 x.n)
  simp only [List.setIfInBounds_toArray] at q
  refine own_of_known q hb hn hc (by simp only [List.length_set]; exact hl) ?_
  rw [List.take_set, List.take_set, List.take_set, ht]
  exact evCells_set l x i hi
theorem Only.cell {w w' : World} {S : List Nat} {b i : Nat} {u : Value} (h : Only w w' S) (hc : w.cell? ⟨b, i, none⟩ = some u) (hS : b ∉ S) : w'.cell? ⟨b, i, none⟩ = some u := by
  have hb := World.block_lt_of_cell? _ _ hc
  have := h.block b hb hS
  unfold World.cell? at hc ⊢
  simp only at hc ⊢
  rw [this]
  exact hc
set_option maxHeartbeats 1000000 in
theorem stread1_call (x : Evt.Ev) (B db off : Nat) (s : ByteArray) (w : World) (hc : w.cell? ⟨B, 0, none⟩ = some (.pointer (some ⟨db, off, none⟩))) (hd : w.cell? ⟨db, off + 7, none⟩ = some (.string s)) : Calls Try.prog 62 #[evVal x, .pointer (some ⟨B, 0, none⟩)] w (Grew (.bool (!decide (x.s = s))) w) := by
  obtain ⟨t, k, n⟩ := x
  unfold evVal
  simp only
  have hB := World.block_lt_of_cell? _ _ hc
  have hB2 := World.block_lt_of_cell? _ _ hd
  have q := (cell_old (o := .cells #[.string t, .int .i64 k, .int .i64 n] 32) hB).trans hc
  have q2 := (cell_old (o := .cells #[.string t, .int .i64 k, .int .i64 n] 32) hB2).trans hd
  have e1 : (t == s) = decide (t = s) := ba_eq t s
  have e2 : (t.toList == s.toList) = decide (t = s) := str_list t s
  generalize decide (t = s) = d at *
  go_enter Try.func62, Try.ntmps62
  go_wp2_with fail
  go_quiet (fail)
  go_wp2_with fail
  go_ret
  exact ⟨rfl, below_drewN ((Below.refl _ _).alloc (Nat.le_refl _) _) _⟩
/-- the first event of another stream, or none -/
def FindEv (l : List Evt.Ev) (s : ByteArray) (w : World) (e : Ending) (w' : World) : Prop :=
  Below w.heap.size w w' ∧ ((∃ (i : Nat) (h : i < l.length), e = .returned (.int .i64 (i : Int)) ∧ l[i].s ≠ s ∧ ∀ j (h : j < l.length), j < i → l[j].s = s) ∨ (e = .returned (.int .i64 (-1)) ∧ ∀ j (h : j < l.length), l[j].s = s))
set_option maxHeartbeats 2000000 in
theorem idx_stread1 (a : Option Addr) (n cap : Nat) (l : List Evt.Ev) (B db off : Nat) (s : ByteArray) (w : World) (h : Sl w 3 a n cap (evCells l)) (hc : w.cell? ⟨B, 0, none⟩ = some (.pointer (some ⟨db, off, none⟩))) (hd : w.cell? ⟨db, off + 7, none⟩ = some (.string s)) :
    Calls Try.prog 80 #[.slice a n cap, .func (Fn.func 62) #[] #[.pointer (some ⟨B, 0, none⟩)]] w (FindEv l s w) := by
  have HN := hid (show l.length = n from by have := h.len; rw [evCells_length] at this; omega)
  have hle := h.le
  have hmax := h.max
  unfold maxLen at hmax
  have hB := World.block_lt_of_cell? _ _ hc
  have hB2 := World.block_lt_of_cell? _ _ hd
  have D0 := hid (fun W (hW : Below w.heap.size w W) x => stread1_call x B db off s W ((hW.cell (p := ⟨B, 0, none⟩) hB).trans hc) ((hW.cell (p := ⟨db, off + 7, none⟩) hB2).trans hd))
  clear hc hd hB hB2
  go_enter Try.func80, Try.ntmps80
  go_wp2_with fail
  go_loopg [8] n (fun g s8 wr => ∃ m : Nat, g = n - m ∧ m ≤ n ∧ s8 = .int .i64 (m : Int) ∧ Below w.heap.size w wr ∧ Hid (∀ j (h : j < l.length), j < m → l[j].s = s))
  case atStart => exact ⟨0, rfl, by omega, rfl, Below.refl _ _, hid (fun j _ hj => absurd hj (by omega))⟩
  case round =>
    obtain ⟨m, rfl, hm, rfl, hb, H0⟩ := hrel
    by_cases hlt : m < n
    · have hmR : m < l.length := by rw [HN.out]; exact hlt
      obtain ⟨b, o, rfl, -⟩ := h.addr (by omega)
      obtain ⟨e0, e1, e2⟩ := ev_at (h.below hb) m hmR
      have i0 : (0 : Int) ≤ (m : Int) := by omega
      have i1 : (m : Int) < (n : Int) := by omega
      have D := D0.out wr hb l[m]
      obtain ⟨z, hz⟩ : ∃ z, l[m] = z := ⟨_, rfl⟩
      rw [hz] at e0 e1 e2 D
      replace hz := hid hz
      obtain ⟨zs, zk, zn⟩ := z
      unfold evVal at D
      simp only at e0 e1 e2 D
      by_cases hz0 : zs = s
      · have t0 : (!decide (zs = s)) = false := by rw [decide_eq_true hz0]; rfl
        rw [t0] at D
        replace hz0 := hid hz0
        replace D := hid D
        go_wp2_with fail
        go_at_call 62; refine (D.out).mono ?_; rintro e w1 ⟨rfl, b1⟩
        go_wp2_with fail
        go_roundg (n - (m + 1))
        case measure => omega
        case rel =>
          refine ⟨m + 1, rfl, by omega, by go_num, bnext hb b1, hid (fun j hj hjk => ?_)⟩
          by_cases e : j = m
          · subst e; rw [hz.out]; exact hz0.out
          · exact H0.out j hj (by omega)
      · have t0 : (!decide (zs = s)) = true := by rw [decide_eq_false hz0]; rfl
        rw [t0] at D
        replace hz0 := hid hz0
        replace D := hid D
        go_wp2_with fail
        go_at_call 62; refine (D.out).mono ?_; rintro e w1 ⟨rfl, b1⟩
        go_wp2_with fail
        go_ret
        exact ⟨bnext hb b1, .inl ⟨m, hmR, rfl, by rw [hz.out]; exact hz0.out, H0.out⟩⟩
    · obtain rfl : m = n := by omega
      go_wp2_with fail
      go_ret
      exact ⟨hb, .inr ⟨rfl, fun j hj => H0.out j hj (by rw [← HN.out]; exact hj)⟩⟩
theorem run_zero_ev (w : World) : (zeroValue 32).run Try.prog w = .ok (.agg #[.string ⟨#[]⟩, .int .i64 0, .int .i64 0]) w := by
  obtain ⟨i, hi, hz, -, -⟩ := info_parts1 info_ev
  simp [zeroValue, typeInfo, hi, hz]
theorem zero_ev_one (k : Nat) : ∀ v ∈ (Builtin.zeroCells (Value.agg #[.string ⟨#[]⟩, .int .i64 0, .int .i64 0]).cells k).toList, v.oneCell' = true := by
  intro v hv
  obtain ⟨j, hj, rfl⟩ := List.getElem_of_mem hv
  have h3 : j % 3 = 0 ∨ j % 3 = 1 ∨ j % 3 = 2 := by omega
  have e : (Builtin.zeroCells (Value.agg #[.string ⟨#[]⟩, .int .i64 0, .int .i64 0]).cells k).toList[j] = (#[.string ⟨#[]⟩, .int .i64 0, .int .i64 0] : Array Value)[j % 3]! := by
    simp only [Builtin.zeroCells, Array.toList_map, List.getElem_map, Array.toList_range, List.getElem_range]
    rfl
  rw [e]
  rcases h3 with h3 | h3 | h3 <;> rw [h3] <;> rfl
def keepEv (s : ByteArray) (l : List Evt.Ev) : List Evt.Ev := l.filter fun x => decide (x.s = s)
theorem keep_all {s : ByteArray} {l : List Evt.Ev} (h : ∀ j (h : j < l.length), l[j].s = s) : keepEv s l = l := by
  unfold keepEv
  refine List.filter_eq_self.2 (fun x hx => ?_)
  obtain ⟨j, hj, rfl⟩ := List.getElem_of_mem hx
  exact decide_eq_true (h j hj)
theorem keep_first {s : ByteArray} {l : List Evt.Ev} {i : Nat} (hi : i < l.length) (h1 : l[i].s ≠ s) (h : ∀ j (h : j < l.length), j < i → l[j].s = s) : l.take i = keepEv s (l.take (i + 1)) := by
  rw [List.take_add_one, List.getElem?_eq_getElem hi]
  unfold keepEv
  rw [List.filter_append]
  have e1 : (l.take i).filter (fun x => decide (x.s = s)) = l.take i := keep_all (l := l.take i) (fun j hj => by
    rw [List.length_take] at hj
    rw [List.getElem_take]
    exact h j (by omega) (by omega))
  rw [e1]
  simp [h1]
theorem keep_no {s : ByteArray} {l : List Evt.Ev} {j : Nat} (hj : j < l.length) (h1 : l[j].s ≠ s) : keepEv s (l.take (j + 1)) = keepEv s (l.take j) := by
  rw [List.take_add_one, List.getElem?_eq_getElem hj]
  unfold keepEv
  rw [List.filter_append]
  simp [h1]
theorem keep_yes {s : ByteArray} {l : List Evt.Ev} {j : Nat} (hj : j < l.length) (h1 : l[j].s = s) : keepEv s (l.take (j + 1)) = keepEv s (l.take j) ++ [l[j]] := by
  rw [List.take_add_one, List.getElem?_eq_getElem hj]
  unfold keepEv
  rw [List.filter_append]
  simp [h1]
theorem take_set_snoc {α : Type} (X : List α) (i : Nat) (x : α) (hi : i < X.length) : (X.set i x).take (i + 1) = X.take i ++ [x] := by
  rw [List.take_add_one, List.getElem?_set_self hi, List.take_set_of_le (Nat.le_refl _)]; rfl
theorem drop_set_le {α : Type} (X : List α) (i j : Nat) (x : α) (hi : i < j) : (X.set i x).drop j = X.drop j := List.drop_set_of_lt hi
set_option maxHeartbeats 4000000 in
theorem deleteEv_call (a : Option Addr) (n cap : Nat) (l : List Evt.Ev) (B db off base : Nat) (s : ByteArray) (w : World) (h : w.ownsRow base 32 3 (.slice a n cap) n (evCells l)) (hc : w.heap[B]? = some (.cells #[.pointer (some ⟨db, off, none⟩)] 82 (0, 0))) (hd : w.cell? ⟨db, off + 7, none⟩ = some (.string s)) (hdb : db < base) :
    Calls Try.prog 61 #[.slice a n cap, .func (Fn.func 62) #[] #[.pointer (some ⟨B, 0, none⟩)]] w fun e w' => ∃ n', e = .returned (.slice a n' cap) ∧ w'.ownsRow base 32 3 (.slice a n' cap) n' (evCells (keepEv s l)) ∧ w.grownBy w' (Value.slice a n cap).ownBlock := by
  have HN := hid (show l.length = n from by have := h.1; rw [evCells_length] at this; omega)
  obtain ⟨a', cap', e', hsl⟩ := own_sl h
  cases e'
  have hle := hsl.le
  have hmax := hsl.max
  unfold maxLen at hmax
  have DI := hid (idx_stread1 a n cap l B db off s w hsl (blk_cell hc) hd)
  go_enter Try.func61, Try.ntmps61
  go_wp2_with fail
  go_at_call 80; refine (DI.out).mono ?_; rintro e w1 ⟨b1, hf⟩
  have h1 := own_below h b1
  have hc1 := blk_below hc b1
  have hd1 := (b1.cell (p := ⟨db, off + 7, none⟩) (World.block_lt_of_cell? _ _ hd)).trans hd
  rcases hf with ⟨i, hi, rfl, hi1, hi2⟩ | ⟨rfl, hno⟩
  · have hin : i < n := by rw [← HN.out]; exact hi
    obtain ⟨g, cp, e', hg1, hg2, hg3, hg4⟩ := own_pos h (by omega)
    cases e'
    have K0 := hid (keep_first hi hi1 hi2)
    replace hi1 := hid hi1
    replace hi2 := hid hi2
    have hgB : g ≠ B := fun e => own_blk_ne h hc (by decide) (by rw [e]; rfl)
    have hgdb : g ≠ db := by omega
    have HC := hid hc1
    have HD := hid hd1
    have BB := hid b1
    have OO := hid h
    have ne1 : ((i : Int) == -1) = false := beq_eq_false_iff_ne.2 (by omega)
    have hmi : IntKind.i64.wrap ((i : Int) + 1) = ((i + 1 : Nat) : Int) := by rw [IntWalk.i64_in _ (by omega)]; omega
    clear hsl DI hc hd hc1 hd1 b1 h
    go_wp2_with fail
    go_loopg [5, 6] (n - (i + 1)) (fun gg s5 s6 wr => ∃ (q j : Nat) (X : List Evt.Ev), gg = n - j ∧ q < j ∧ j ≤ n ∧ s5 = .int .i64 (q : Int) ∧ s6 = .int .i64 (j : Int) ∧ Hid (wr.ownsRow base 32 3 (.slice (some ⟨g, 0, none⟩) n cap) n (evCells X)) ∧ Hid (Only w1 wr [g]) ∧ Hid (X.length = n) ∧ Hid (X.take q = keepEv s (l.take j)) ∧ Hid (X.drop j = l.drop j))
    case atStart => exact ⟨i, i + 1, l, rfl, by omega, by omega, rfl, rfl, hid h1, hid (Only.refl _ _), HN, K0, hid rfl⟩
    case round =>
      clear h1
      obtain ⟨q, j, X, rfl, hqj, hjn, rfl, rfl, HO, HY, HX, HT, HR⟩ := hrel
      obtain ⟨wo, rfl⟩ : ∃ wo : World, wo = wr := ⟨_, rfl⟩
      obtain ⟨cur, hgb, -, -, -, hcl, hct⟩ := own_known HO.out
      by_cases hlt : j < n
      · have hjX : j < X.length := by rw [HX.out]; exact hlt
        have hjl : j < l.length := by rw [HN.out]; exact hlt
        have hqX : q < X.length := by omega
        have hXj := hid (show X[j] = l[j] from by
          have h1 := congrArg (fun (z : List Evt.Ev) => z[0]?) HR.out
          simp only [List.getElem?_drop, Nat.add_zero] at h1
          rw [List.getElem?_eq_getElem hjX, List.getElem?_eq_getElem hjl] at h1
          exact Option.some.inj h1)
        have HRn := hid (show X.drop (j + 1) = l.drop (j + 1) from by
          have h1 := congrArg (fun (z : List Evt.Ev) => z.drop 1) HR.out
          simpa [List.drop_drop] using h1)
        obtain ⟨a', cap', e', hs⟩ := own_sl HO.out
        cases e'
        obtain ⟨e0, e1, e2⟩ := ev_at hs j hjX
        simp only [Nat.zero_add] at e0 e1 e2
        have i0 : (0 : Int) ≤ (j : Int) := by omega
        have i1 : (j : Int) < (n : Int) := by omega
        have kB := HY.out.blk HC.out (by simpa using fun e => hgB e.symm)
        have kD := HY.out.cell HD.out (by simpa using fun e => hgdb e.symm)
        have hk1 := hid (@keep_no s l j hjl)
        have hk2 := hid (@keep_yes s l j hjl)
        obtain ⟨z, hz⟩ : ∃ z, X[j] = z := ⟨_, rfl⟩
        rw [← hXj.out, hz] at hk1 hk2
        rw [hz] at e0 e1 e2
        replace hz := hid hz
        obtain ⟨zs, zk, zn⟩ := z
        simp only at e0 e1 e2 hk1 hk2
        have D := hid (stread1_call ⟨zs, zk, zn⟩ B db off s _ (blk_cell (blk_old (o' := .cells #[.string zs, .int .i64 zk, .int .i64 zn] 32) kB)) ((cell_old (o := .cells #[.string zs, .int .i64 zk, .int .i64 zn] 32) (World.block_lt_of_cell? _ _ kD)).trans kD))
        unfold evVal at D
        simp only at D
        have HOa := hid (own_below HO.out ((Below.refl _ _).alloc (Nat.le_refl _) (.cells #[.string zs, .int .i64 zk, .int .i64 zn] 32)))
        have hYa := hid (HY.out.alloc (.cells #[.string zs, .int .i64 zk, .int .i64 zn] 32))
        have hV := blk_new wo (.cells #[.string zs, .int .i64 zk, .int .i64 zn] 32)
        have hmj : IntKind.i64.wrap ((j : Int) + 1) = ((j + 1 : Nat) : Int) := by rw [IntWalk.i64_in _ (by omega)]; omega
        have hmq : IntKind.i64.wrap ((q : Int) + 1) = ((q + 1 : Nat) : Int) := by rw [IntWalk.i64_in _ (by omega)]; omega
        by_cases hz0 : zs = s
        · have t0 : (!decide (zs = s)) = false := by rw [decide_eq_true hz0]; rfl
          rw [t0] at D
          have hk3 := hid (hk2.out hz0)
          replace hz0 := hid hz0
          clear hk1 hk2 kB kD hs hgb
          go_wp2_with fail
          go_at_call 62; refine (D.out).mono ?_; rintro e w2 ⟨rfl, b2⟩
          have v2 := blk_below hV b2
          have O2 := hid (own_below HOa.out b2)
          have Y2 := hid (hYa.out.below b2)
          obtain ⟨a', cap', e', hs2⟩ := own_sl O2.out
          cases e'
          obtain ⟨r0, r1, r2⟩ := ev_at hs2 q hqX
          simp only [Nat.zero_add] at r0 r1 r2
          obtain ⟨cur2, hgb2, -⟩ := own_known O2.out
          have f0 : ∀ j, w2.frozen? ⟨g, j, none⟩ = false := fun j => blk_free hgb2
          have x0 : w2.cell? ⟨wo.heap.size, 0, none⟩ = some (.string zs) := blk_cell v2
          have x1 : w2.cell? ⟨wo.heap.size, 1, none⟩ = some (.int .i64 zk) := blk_cell v2
          have x2 : w2.cell? ⟨wo.heap.size, 2, none⟩ = some (.int .i64 zn) := blk_cell v2
          have j0 : (0 : Int) ≤ (q : Int) := by omega
          have j1 : (q : Int) < (n : Int) := by omega
          clear hs2 hgb2 v2 hV b2 e0 e1 e2 D HOa hYa
          go_wp2_with fail
          go_roundg (n - (j + 1))
          case measure => omega
          case rel =>
            refine ⟨q + 1, j + 1, X.set q ⟨zs, zk, zn⟩, rfl, by omega, by omega, by go_num, by go_num, hid (own_ev_set O2.out q hqX ⟨zs, zk, zn⟩), hid (((Y2.out.setCell (a := ⟨g, q * 3, none⟩) (.inl (by simp)) _).setCell (a := ⟨g, q * 3 + 1, none⟩) (.inl (by simp)) _).setCell (a := ⟨g, q * 3 + 2, none⟩) (.inl (by simp)) _), hid (by rw [List.length_set]; exact HX.out), hid ?_, hid ?_⟩
            · rw [take_set_snoc X q _ hqX, HT.out, hk3.out]
            · rw [drop_set_le X q (j + 1) _ (by omega)]; exact HRn.out
        · have t0 : (!decide (zs = s)) = true := by rw [decide_eq_false hz0]; rfl
          rw [t0] at D
          have hk3 := hid (hk1.out hz0)
          replace hz0 := hid hz0
          clear hk1 hk2 kB kD hs hgb
          go_wp2_with fail
          go_at_call 62; refine (D.out).mono ?_; rintro e w2 ⟨rfl, b2⟩
          have O2 := hid (own_below HOa.out b2)
          have Y2 := hid (hYa.out.below b2)
          clear e0 e1 e2 D HOa hYa hV b2
          go_wp2_with fail
          go_roundg (n - (j + 1))
          case measure => omega
          case rel => exact ⟨q, j + 1, X, rfl, by omega, by omega, rfl, by go_num, O2, Y2, HX, hid (by rw [hk3.out]; exact HT.out), HRn⟩
      · obtain rfl : j = n := by omega
        have hzc : ((Builtin.zeroCells (Value.agg #[.string ⟨#[]⟩, .int .i64 0, .int .i64 0]).cells (j - q)).toList).length = (j - q) * 3 := by rw [Array.length_toList, size_zeroCells]; rfl
        have hclr : ∀ ty cc, (Builtin.clear_ #[25] ty #[.slice (some ⟨g, q * 3, none⟩) (j - q) cc]).run Try.prog wo = .ok (.tuple #[]) (wo.setRow g (splice cur (q * 3) (Builtin.zeroCells (Value.agg #[.string ⟨#[]⟩, .int .i64 0, .int .i64 0]).cells (j - q)).toList).toArray) := fun ty cc =>
          run_clear_src wo (j - q) 25 32 ty (.agg #[.string ⟨#[]⟩, .int .i64 0, .int .i64 0]) Try.underlying25 (fun w => run_zero_ev w) (zero_ev_one _) g (q * 3) cc (by omega) cur 32 hgb (by rw [hzc, hcl]; omega)
        have hb4 : ¬ (cap = q) := by omega
        have hq1 : (q : Int) ≤ (j : Int) := by omega
        have hq0 : (0 : Int) ≤ (q : Int) := by omega
        have hq2 : q ≤ cap := by omega
        have HF := hid hclr
        obtain ⟨Z, hZ⟩ : ∃ Z, Z = (Builtin.zeroCells (Value.agg #[.string ⟨#[]⟩, .int .i64 0, .int .i64 0]).cells (j - q)).toList := ⟨_, rfl⟩
        rw [← hZ] at hclr hzc
        have HZ := hid hzc
        clear HF hzc hZ
        go_wp2_with fail
        go_ret
        refine ⟨q, rfl, own_of_known (setRow_heap wo g cur.toArray (splice cur (q * 3) Z).toArray 32 (0, 0) hgb) hg1 hq2 hg4 ?_ ?_, ?_⟩
        · rw [length_splice _ _ _ (by rw [HZ.out, hcl]; omega), hcl]
        · unfold splice
          rw [List.take_append_of_le_length (by rw [List.length_take, hcl]; omega), List.take_take, Nat.min_self]
          have e1 : cur.take (q * 3) = (cur.take (j * 3)).take (q * 3) := by rw [List.take_take, Nat.min_eq_left (by omega)]
          rw [e1, hct, evRows, ← rows_take ev3_len, ← evRows, HT.out, List.take_of_length_le (by rw [HN.out]; exact Nat.le_refl _)]
        · have hY := ((Only.refl w [g]).below BB.out)
          have hY2 : Only w wo [g] := ⟨HY.out.os.trans hY.os, HY.out.tape.trans hY.tape, HY.out.output.trans hY.output, Nat.le_trans hY.size HY.out.size, fun k hk hn => (HY.out.block k (Nat.lt_of_lt_of_le hk hY.size) hn).trans (hY.block k hk hn)⟩
          refine ⟨hY2.os, hY2.tape, hY2.output, by simpa [World.setRow] using hY2.size, fun k hk hn => ?_⟩
          have hkg : k ≠ g := fun e => hn (by rw [e]; rfl)
          rw [setRow_other _ g k _ hkg]
          exact hY2.block k hk (by simpa using hkg)
  · have hk := hid (keep_all hno)
    replace hno := hid hno
    clear hsl DI hc1 hd1
    go_wp2_with fail
    go_ret
    exact ⟨n, rfl, by rw [hk.out]; exact h1, grown_of_below b1 _⟩
end Go.Proofs.Ythhcdfjijagalaa
