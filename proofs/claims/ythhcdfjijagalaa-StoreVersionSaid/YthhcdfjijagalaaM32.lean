/- Joined, and what is not used struck: StoQ, StoW, StoZ, SpA. -/
import Derived.Test.YthhcdfjijagalaaM25
import Derived.Test.YthhcdfjijagalaaM30
import Derived.Test.YthhcdfjijagalaaM31
namespace Go.Proofs.Ythhcdfjijagalaa.Stp
theorem mendF_spec (l : List (List UInt8)) (g d : Int) : MendS l g d (mendF l g d).1 (mendF l g d).2 := by
  refine ⟨(readF l g d).1, (readF l g d).2, readF_spec l g d, ?_⟩
  unfold mendF
  by_cases h : (readF l g d).2 ≠ 0
  · rw [if_pos h]; exact .inl ⟨h, rfl, rfl⟩
  · rw [if_neg h]; exact .inr ⟨Classical.not_not.1 h, layF_spec _ _ _ _⟩
theorem mendF_eq {l : List (List UInt8)} {g d : Int} {L : List (List UInt8)} {e : Int} (h : MendS l g d L e) : L = (mendF l g d).1 ∧ e = (mendF l g d).2 := h.uniq (mendF_spec l g d)
end Go.Proofs.Ythhcdfjijagalaa.Stp
namespace Go.Proofs.Ythhcdfjijagalaa.Sto
set_option linter.unusedVariables false
/-- a disk's blocks rise, and are of segments below g -/
def BlOk (g : Int) (x : Dk) : Prop := (x.bl.map Hd.seg).Pairwise (· < ·) ∧ ∀ h ∈ x.bl, 0 ≤ h.seg ∧ h.seg < g
theorem BlOk.mono {g g' : Int} {x : Dk} (h : BlOk g x) (hg : g ≤ g') : BlOk g' x := ⟨h.1, fun y hy => ⟨(h.2 y hy).1, by have := (h.2 y hy).2; omega⟩⟩
theorem BlOk.len {g : Int} {x : Dk} (h : BlOk g x) (hg : g ≤ 40) : x.bl.length ≤ 40 := by
  have := rise_len _ 0 g h.1 (fun y hy => by
    obtain ⟨z, hz, rfl⟩ := List.mem_map.1 hy
    exact h.2 z hz)
  rw [List.length_map] at this
  omega
theorem setB_segs (l : List Hd) (k : Int) (b : List UInt8) : (setB l k b).map Hd.seg = l.map Hd.seg := by
  induction l with
  | nil => rfl
  | cons h t ih => unfold setB; split <;> simp [ih]
theorem insB_segs (l : List Hd) (k : Int) (b : List UInt8) : ∀ x, x ∈ (insB l k b).map Hd.seg ↔ x = k ∨ x ∈ l.map Hd.seg := by
  induction l with
  | nil => intro x; simp [insB]
  | cons h t ih =>
    intro x
    unfold insB
    split
    · rw [List.map_cons, List.mem_cons, ih, List.map_cons, List.mem_cons]
      constructor
      · rintro (h | h | h) <;> simp [h]
      · rintro (h | h | h) <;> simp [h]
    · simp
theorem find_no {l : List Hd} {k : Int} (h : find l k = none) : ∀ x ∈ l, x.seg ≠ k := by
  induction l with
  | nil => intro x hx; cases hx
  | cons a t ih =>
    unfold find at h
    split at h
    · cases h
    · rename_i hne
      intro x hx
      rcases List.mem_cons.1 hx with rfl | hx
      · exact hne
      · exact ih h x hx
theorem insB_rise (l : List Hd) (k : Int) (b : List UInt8) (hp : (l.map Hd.seg).Pairwise (· < ·)) (hn : ∀ x ∈ l, x.seg ≠ k) : ((insB l k b).map Hd.seg).Pairwise (· < ·) := by
  induction l with
  | nil => simp [insB]
  | cons a t ih =>
    have hp' := List.pairwise_cons.1 (by simpa using hp : (a.seg :: t.map Hd.seg).Pairwise (· < ·))
    unfold insB
    split
    · rename_i hlt
      rw [List.map_cons]
      refine List.pairwise_cons.2 ⟨fun x hx => ?_, ih hp'.2 (fun x hx => hn x (by simp [hx]))⟩
      rcases (insB_segs t k b x).1 hx with rfl | hx
      · exact hlt
      · exact hp'.1 x hx
    · rename_i hge
      rw [List.map_cons, List.map_cons]
      refine List.pairwise_cons.2 ⟨fun x hx => ?_, by simpa using hp⟩
      have h1 := hn a (by simp)
      have h2 : k < a.seg := by omega
      rcases List.mem_cons.1 hx with rfl | hx
      · exact h2
      · have := hp'.1 x hx
        show k < x
        omega
theorem BlOk.put {g : Int} {x : Dk} (h : BlOk g x) {k : Int} (hk : 0 ≤ k ∧ k < g) (b : List UInt8) : BlOk g (wrD x k b) := by
  unfold wrD
  split
  · exact h
  · show BlOk g ⟨x.gone, putB x.bl k b⟩
    unfold putB
    split
    · rename_i hf
      refine ⟨insB_rise _ _ _ h.1 (find_no hf), fun y hy => ?_⟩
      have h1 : y.seg ∈ (insB x.bl k b).map Hd.seg := List.mem_map.2 ⟨y, hy, rfl⟩
      rcases (insB_segs x.bl k b _).1 h1 with e | e
      · rw [e]; exact hk
      · obtain ⟨z, hz, e⟩ := List.mem_map.1 e
        rw [← e]; exact h.2 z hz
    · refine ⟨by show ((setB x.bl k b).map Hd.seg).Pairwise _; rw [setB_segs]; exact h.1, fun y hy => ?_⟩
      have h1 : y.seg ∈ (setB x.bl k b).map Hd.seg := List.mem_map.2 ⟨y, hy, rfl⟩
      rw [setB_segs] at h1
      obtain ⟨z, hz, e⟩ := List.mem_map.1 h1
      rw [← e]; exact h.2 z hz
theorem write_mem {ds : List Dk} {k : Int} {L : List (List UInt8)} {x : Dk} (h : x ∈ write ds k L) : ∃ y ∈ ds, ∃ b, x = wrD y k b := by
  unfold write at h
  obtain ⟨i, hi, rfl⟩ := List.mem_map.1 h
  have hi : i < ds.length := List.mem_range.1 hi
  exact ⟨ds.getD i ⟨false, []⟩, by simp [List.getD, hi], _, rfl⟩
theorem write_length (ds : List Dk) (k : Int) (L : List (List UInt8)) : (write ds k L).length = ds.length := by simp [write]
theorem write_ok {ds : List Dk} {k g : Int} {L : List (List UInt8)} (h : ∀ x ∈ ds, BlOk g x) (hk : 0 ≤ k ∧ k < g) : ∀ x ∈ write ds k L, BlOk g x := by
  intro x hx
  obtain ⟨y, hy, b, rfl⟩ := write_mem hx
  exact (h y hy).put hk b
theorem blocks_len (ds : List Dk) (k : Int) : (blocks ds k).length = ds.length := by simp [blocks]
theorem scrub_1 {ds E : List Dk} {d : Int} {k : Nat} {c f : Int} (h : scrubTo ds d k = (E, c, f)) (h1 : Stp.badL (blocks E k) k E.length = []) : scrubTo ds d (k + 1) = (E, c, f) := by
  unfold scrubTo
  rw [h]
  simp only [blocks_len]
  rw [if_pos h1]
theorem scrub_2 {ds E : List Dk} {d : Int} {k : Nat} {c f : Int} (h : scrubTo ds d k = (E, c, f)) (h1 : Stp.badL (blocks E k) k E.length ≠ []) (h2 : (Stp.mendF (blocks E k) k d).2 ≠ 0) : scrubTo ds d (k + 1) = (E, c, if f = 0 then (Stp.mendF (blocks E k) k d).2 else f) := by
  unfold scrubTo
  rw [h]
  simp only [blocks_len]
  rw [if_neg h1, if_pos h2]
theorem scrub_3 {ds E : List Dk} {d : Int} {k : Nat} {c f : Int} (h : scrubTo ds d k = (E, c, f)) (h1 : Stp.badL (blocks E k) k E.length ≠ []) (h2 : (Stp.mendF (blocks E k) k d).2 = 0) :
    scrubTo ds d (k + 1) = (write E k (Stp.mendF (blocks E k) k d).1, c + ((Stp.badL (blocks E k) k E.length).filter fun i => !(E.getD i ⟨false, []⟩).gone).length, f) := by
  unfold scrubTo
  rw [h]
  simp only [blocks_len]
  rw [if_neg h1, if_neg (by rw [h2]; exact fun e => e rfl)]
end Go.Proofs.Ythhcdfjijagalaa.Sto
namespace Go.Proofs.Ythhcdfjijagalaa
namespace Stp
theorem Laid.size {b : List UInt8} {g d s : Nat} {S L : List (List UInt8)} (h : Laid b g d s S L) {r : List UInt8} (hr : r ∈ L) : r.length ≤ 411 := by
  obtain ⟨i, hi, rfl⟩ := List.getElem_of_mem hr
  have hi2 : i < d + s := by rw [← h.len]; exact hi
  have h1 := h.row hi2
  have h2 : L.getD i [] = L[i] := by simp [List.getD, hi]
  rw [← h2, h1, Blk.bytes_length]
  have h3 := h.sh.row hi2
  have h4 : (((rowsD b d ++ S)).getD i []).length = wd b.length d := h3
  rw [h4]
  have := wd_le (z := b.length) (d := d) h.n12.2 h.z
  omega
theorem LayR.fit {b : List UInt8} {g d s : Int} {L : List (List UInt8)} (h : LayR b g d s L 0) : (L.length : Int) = d + s ∧ g ≤ 39 ∧ ∀ r ∈ L, r.length ≤ 411 := by
  obtain ⟨g', d', s', S, rfl, rfl, rfl, hl⟩ := h.laid rfl
  refine ⟨by rw [hl.len]; omega, by have := hl.g39; omega, fun r hr => hl.size hr⟩
end Stp
open Go.RowKit
set_option linter.unusedVariables false
set_option linter.unusedSimpArgs false
set_option maxRecDepth 100000
/-- it has become one; or not, and all is as it was -/
def SealRes (base p : Nat) (m : Mst) (w : World) (e : Ending) (w' : World) : Prop :=
  (∃ err, err ≠ 0 ∧ e = .returned (.int .i64 err) ∧ Sto.sealS m.st = (m.st, err) ∧ Below w.heap.size w w') ∨
  ∃ D', e = .returned (.int .i64 0) ∧ StR w' base p { m with D := D', g := m.g + 1, tv := .slice none 0 0, T := [] } ∧ Sto.sealS m.st = (Mst.st { m with D := D', g := m.g + 1, tv := .slice none 0 0, T := [] }, 0) ∧ Kt w w' ∧ Below base w w'
theorem seal_1 {s : Sto.St} (h : (Evt.bytesR s.tail).err ≠ 0) : Sto.sealS s = (s, (Evt.bytesR s.tail).err) := by unfold Sto.sealS; rw [if_pos h]
theorem seal_2 {s : Sto.St} (h : (Evt.bytesR s.tail).err = 0) (h2 : (Stp.layF (Evt.bytesR s.tail).l s.segs s.data s.spare).2 ≠ 0) : Sto.sealS s = (s, (Stp.layF (Evt.bytesR s.tail).l s.segs s.data s.spare).2) := by
  unfold Sto.sealS; rw [if_neg (by rw [h]; exact fun e => e rfl), if_pos h2]
theorem seal_3 {s : Sto.St} (h : (Evt.bytesR s.tail).err = 0) (h2 : (Stp.layF (Evt.bytesR s.tail).l s.segs s.data s.spare).2 = 0) : Sto.sealS s = ({ s with disks := Sto.write s.disks s.segs (Stp.layF (Evt.bytesR s.tail).l s.segs s.data s.spare).1, segs := s.segs + 1, tail := [] }, 0) := by
  unfold Sto.sealS; rw [if_neg (by rw [h]; exact fun e => e rfl), if_neg (by rw [h2]; exact fun e => e rfl)]
set_option maxHeartbeats 4000000 in
theorem stseal_call (base p : Nat) (m : Mst) (w : World) (h : StR w base p m) (hd : 1 ≤ m.d ∧ m.d ≤ 8) (hs : 0 ≤ m.s ∧ m.s ≤ 4) (hD : (m.D.length : Int) = m.d + m.s) (hg : m.g ≤ 40) (hH : ∀ x ∈ m.D, x.H.length ≤ 1000) :
    Calls Try.prog 56 #[.pointer (some ⟨p, 0, none⟩)] w (SealRes base p m w) := by
  have hbase : base ≤ w.heap.size := Nat.le_trans h.le (Nat.le_of_lt h.lt)
  obtain ⟨ta, tc, htv, hTB⟩ := Ro.bs (show Ro w base m.T from h.evs) h.tail
  have DE := hid (eBytes_call ta _ tc m.T w hTB)
  have HS := hid h
  have b5 : w.cell? ⟨p, 5, none⟩ = some (.slice ta m.T.length tc) := by
    have := blk_cell (i := 5) h.box
    change _ = some m.tv at this
    rw [this, htv]
  have hp := h.lt
  have HH := hid hH
  have H1 := hid (@seal_1 m.st)
  have H2 := hid (@seal_2 m.st)
  have H3 := hid (@seal_3 m.st)
  change Hid ((Evt.bytesR (m.T.map Rb.ba)).err ≠ 0 → _) at H1
  change Hid ((Evt.bytesR (m.T.map Rb.ba)).err = 0 → (Stp.layF (Evt.bytesR (m.T.map Rb.ba)).l (m.g : Int) m.d m.s).2 ≠ 0 → _) at H2
  change Hid ((Evt.bytesR (m.T.map Rb.ba)).err = 0 → (Stp.layF (Evt.bytesR (m.T.map Rb.ba)).l (m.g : Int) m.d m.s).2 = 0 → _) at H3
  change Hid (_ → Sto.sealS m.st = (m.st, (Evt.bytesR (m.T.map Rb.ba)).err)) at H1
  change Hid (_ → _ → Sto.sealS m.st = (m.st, (Stp.layF (Evt.bytesR (m.T.map Rb.ba)).l (m.g : Int) m.d m.s).2)) at H2
  change Hid (_ → _ → Sto.sealS m.st = ({ m.st with disks := Sto.write (m.D.map Dm.dk) (m.g : Int) (Stp.layF (Evt.bytesR (m.T.map Rb.ba)).l (m.g : Int) m.d m.s).1, segs := m.g + 1, tail := [] }, 0)) at H3
  clear htv hTB h hH
  generalize Evt.bytesR (m.T.map Rb.ba) = R at *
  obtain ⟨Rl, Re, Ra⟩ := R
  simp only at DE H1 H2 H3
  obtain ⟨G, hG⟩ : ∃ G, G = m.g := ⟨_, rfl⟩
  obtain ⟨md, hmd⟩ : ∃ md, md = m.d := ⟨_, rfl⟩
  obtain ⟨ms, hms⟩ : ∃ ms, ms = m.s := ⟨_, rfl⟩
  rw [← hmd] at hd hD H2 H3
  rw [← hms] at hs hD H2 H3
  rw [← hG] at hg H2 H3
  replace hmd := hid hmd
  replace hms := hid hms
  replace hG := hid hG
  replace hD := hid hD
  go_enter Try.func56, Try.ntmps56
  go_wp2_with fail
  go_at_call 74; refine (DE.out).mono ?_; rintro e w1 ⟨v1, rfl, b1, o1⟩
  simp only at o1
  obtain ⟨a1, c1, rfl, hB1⟩ := own_sl o1
  have hB1 : Bt w1 a1 Rl.length c1 Rl := hB1
  have bA := b1.alloc b1.size (.cells #[.int .i64 Re, .int .i64 Ra] 69)
  clear DE b5 o1
  by_cases hz : Re = 0
  · subst hz
    have SA := hid (HS.out.below bA)
    have hBA := hid (hB1.alloc (.cells #[.int .i64 0, .int .i64 Ra] 69))
    have g4 : (w1.alloc (.cells #[.int .i64 0, .int .i64 Ra] 69)).cell? ⟨p, 4, none⟩ = some (.int .i64 (G : Int)) := by rw [hG.out]; exact blk_cell (i := 4) SA.out.box
    have g0 : (w1.alloc (.cells #[.int .i64 0, .int .i64 Ra] 69)).cell? ⟨p, 0, none⟩ = some (.int .i64 md) := by rw [hmd.out]; exact blk_cell (i := 0) SA.out.box
    have g1 : (w1.alloc (.cells #[.int .i64 0, .int .i64 Ra] 69)).cell? ⟨p, 1, none⟩ = some (.int .i64 ms) := by rw [hms.out]; exact blk_cell (i := 1) SA.out.box
    clear hB1 b1 H1
    go_wp2_with fail
    obtain ⟨wa, hwa⟩ : ∃ wa, wa = w1.alloc (.cells #[.int .i64 0, .int .i64 Ra] 69) := ⟨_, rfl⟩
    rw [← hwa] at SA hBA g4 g0 g1 bA ⊢
    clear hwa
    have DL := hid (show ∀ V, Below wa.heap.size wa V → Calls Try.prog 75 #[.slice a1 Rl.length c1, .int .i64 (G : Int), .int .i64 md, .int .i64 ms] V (fun e w' => ∃ a n cap R err, e = .returned (.tuple #[.slice a n cap, .int .i64 err]) ∧ Stp.LayR Rl (G : Int) md ms (rwData R) err ∧ Below wa.heap.size wa w' ∧ OwnM w' wa.heap.size a n cap R ∧ w'.cell? ⟨p, 4, none⟩ = some (.int .i64 (G : Int)) ∧ w'.cell? ⟨p, 0, none⟩ = some (.int .i64 md) ∧ w'.cell? ⟨p, 1, none⟩ = some (.int .i64 ms)) from fun V hV =>
      (sLay_callO a1 _ c1 Rl (G : Int) md ms V (Sl.below hBA.out hV)).mono fun e w' ⟨a, n, cap, R, err, h1, h2, h3, h4, h5⟩ => by
        have hb := bnext hV h4
        exact ⟨a, n, cap, R, err, h1, h3, hb, ⟨own_mono h5.1 hV.size, fun r hr => own_mono (h5.2 r hr) hV.size⟩, (hb.cell (p := ⟨p, _, none⟩) SA.out.lt).trans g4, (hb.cell (p := ⟨p, _, none⟩) SA.out.lt).trans g0, (hb.cell (p := ⟨p, _, none⟩) SA.out.lt).trans g1⟩)
    go_region_held3 (fun w' => w'.cell? ⟨p, 4, none⟩ = some (.int .i64 (G : Int)) ∧ w'.cell? ⟨p, 0, none⟩ = some (.int .i64 md) ∧ w'.cell? ⟨p, 1, none⟩ = some (.int .i64 ms)) (first | (with_reducible exact ⟨g4, g0, g1⟩) | exact ⟨g4, g0, g1⟩ | exact ⟨k4, k0, k1⟩ | go_keep)
      (first
        | (go_at_call 75; refine (DL.out _ ?_).mono ?_; (repeat (first | assumption | exact Below.refl _ _ | refine below_drewN ?_ _ | refine Below.drew ?_)); rintro e w2 ⟨a2, n2, c2, R2, f2, rfl, h2, b2, o2, k4, k0, k1⟩))
    all_goals
      have hL2 := Stp.layF_eq h2
      by_cases hf : f2 = 0
      · subst hf
        have hfit := h2.fit
        have hn2 : R2.length = n2 := by have := o2.1.1; rw [rwCells_length] at this; omega
        have S2 := hid (SA.out.below b2)
        have hDn : m.D.length = n2 := by
          have h5 := hfit.1
          rw [rwData_length, hn2] at h5
          have := hD.out
          omega
        have DW := hid (stwrite_call base p m (G : Int) w2 a2 n2 c2 wa.heap.size R2 S2.out o2 hDn (by have := hD.out; omega) (fun r hr => by
          have h5 := hfit.2.2 r.l (List.mem_map.2 ⟨r, hr, rfl⟩)
          have h6 : (Value.slice r.a r.n r.cap).cells.size = 1 := rfl
          obtain ⟨a', c', e', hb⟩ := own_sl (o2.2 r hr)
          simp only [Rw.v, Value.slice.injEq, true_and] at e'
          have := Bt.n hb
          omega) HH.out)
        have H3' := hid (H3.out (by simp) hL2.2.symm)
        rw [← hL2.1] at H3'
        have B2 := hid (bnext bA b2)
        have G39 := hfit.2.1
        clear hL2 hfit h2 b2 o2 DL hBA
        go_wp2_with fail
        go_at_call 68; refine (DW.out).mono ?_; rintro e w3 ⟨rfl, D3, S3, hD3, K3, B3⟩
        have t4 : w3.cell? ⟨p, 4, none⟩ = some (.int .i64 (G : Int)) := by rw [hG.out]; exact blk_cell (i := 4) S3.box
        have t5 : w3.cell? ⟨p, 5, none⟩ = some m.tv := blk_cell (i := 5) S3.box
        have u4 : ∀ j, w3.frozen? ⟨p, j, none⟩ = false := fun j => blk_free S3.box
        have hG1 : IntKind.i64.wrap ((G : Int) + 1) = ((G + 1 : Nat) : Int) := by rw [IntWalk.i64_in _ (by omega)]; omega
        have X1 := S3.setBox 4 (.int .i64 ((G + 1 : Nat) : Int)) { m with D := D3, g := G + 1 } (by rw [hG.out]; rfl) rfl rfl S3.tail S3.evs S3.seen S3.accs S3.aok
        have X2 := X1.setBox 5 (.slice none 0 0) { m with D := D3, g := G + 1, tv := .slice none 0 0, T := [] } rfl rfl rfl (World.ownsRow_nil _ _ _ _) (fun r hr => by cases hr) X1.seen X1.accs X1.aok
        have KX := hid (((Kt.below B2.out).trans K3.kt).trans ((Kt.setBox S3 4 (.int .i64 ((G + 1 : Nat) : Int))).trans (Kt.setBox X1 5 (.slice none 0 0))))
        have BX := hid ((((B2.out.mono hbase).trans B3).setCell (p := ⟨p, 4, none⟩) S3.le (.int .i64 ((G + 1 : Nat) : Int))).setCell (p := ⟨p, 5, none⟩) S3.le (.slice none 0 0))
        have XX := hid X2
        replace hD3 := hid hD3
        clear X1 X2 K3 B3 S3 k4 k0 k1 g4 g0 g1 DW
        go_wp2_with fail
        go_ret
        refine .inr ⟨D3, rfl, by rw [← hG.out]; exact XX.out, ?_, KX.out, BX.out⟩
        rw [H3'.out, ← hD3.out, ← hG.out]
        rfl
      · have H2' := hid (H2.out (by simp) (by rw [← hL2.2]; exact hf))
        rw [← hL2.2] at H2'
        have t0 : (f2 != 0) = true := bne_iff_ne.2 hf
        have HF := hid hf
        have B2 := bnext bA b2
        clear hf hL2 h2 b2 o2 DL hBA
        go_wp2_with fail
        go_ret
        exact .inl ⟨f2, HF.out, rfl, H2'.out, B2⟩
  · have t0 : (Re != 0) = true := bne_iff_ne.2 hz
    have HZ := hid hz
    have H1' := hid (H1.out hz)
    clear hz H1 H2 H3
    go_wp2_with fail
    go_ret
    exact .inl ⟨Re, HZ.out, rfl, H1'.out, bA⟩
end Go.Proofs.Ythhcdfjijagalaa
namespace Go.Proofs.Ythhcdfjijagalaa
open Go.RowKit
set_option linter.unusedVariables false
set_option linter.unusedSimpArgs false
set_option maxRecDepth 100000
theorem filt_snoc (U : List Nat) (f : Nat → Bool) (j : Nat) (hj : j < U.length) : ((U.take (j + 1)).filter f).length = ((U.take j).filter f).length + if f U[j] = true then 1 else 0 := by
  rw [List.take_add_one, List.getElem?_eq_getElem hj, List.filter_append, List.length_append]
  congr 1
  simp only [Option.toList_some, List.filter_cons, List.filter_nil]
  split <;> rfl
set_option maxHeartbeats 8000000 in
theorem stscrub_call (base p : Nat) (m : Mst) (K : Nat) (w : World) (h : StR w base p m) (hk : Sto.Ok m.st K) :
    Calls Try.prog 43 #[.pointer (some ⟨p, 0, none⟩)] w (MutRes base p (Sto.scrub m.st).1 (Sto.scrub m.st).2 w) := by
  have hG : m.g ≤ 40 := hk.g
  have hnd : m.D.length ≤ 12 := by have := hk.n12; simpa [Mst.st] using this
  have hd1 : 1 ≤ m.d ∧ m.d ≤ 8 := hk.d
  have hs1 : 0 ≤ m.s := hk.sp.1
  have hDl : (m.D.length : Int) = m.d + m.s := by have := hk.nd; simpa [Mst.st] using this
  have hBl := hid (show ∀ x ∈ m.D.map Dm.dk, Sto.BlOk (m.g : Int) x from hk.bl)
  have HS := hid (h.alloc (.cells #[.int .i64 0, .int .i64 0, .slice none 0 0, .int .i64 0, .slice none 0 0] 50))
  have HV := hid (blk_new w (.cells #[.int .i64 0, .int .i64 0, .slice none 0 0, .int .i64 0, .slice none 0 0] 50))
  have HW := hid ((Below.refl w.heap.size w).alloc (Nat.le_refl _) (.cells #[.int .i64 0, .int .i64 0, .slice none 0 0, .int .i64 0, .slice none 0 0] 50))
  have b4 : (w.alloc (.cells #[.int .i64 0, .int .i64 0, .slice none 0 0, .int .i64 0, .slice none 0 0] 50)).cell? ⟨p, 4, none⟩ = some (.int .i64 (m.g : Int)) := blk_cell (i := 4) (h.alloc _).box
  have hbase : base ≤ w.heap.size := Nat.le_trans h.le (Nat.le_of_lt h.lt)
  have HL := hid (show Sto.scrub m.st = ({ m.st with disks := (Sto.scrubTo (m.D.map Dm.dk) m.d m.g).1 }, ⟨(Sto.scrubTo (m.D.map Dm.dk) m.d m.g).2.2, (Sto.scrubTo (m.D.map Dm.dk) m.d m.g).2.1, [], Vw.none'⟩) from rfl)
  obtain ⟨gd, cp, e', hg1, hg2, hg3, hg4⟩ := own_pos h.dks (by omega)
  have HDV := hid e'
  obtain ⟨G, hGe⟩ : ∃ G, G = m.g := ⟨_, rfl⟩
  obtain ⟨md, hmd⟩ : ∃ md, md = m.d := ⟨_, rfl⟩
  obtain ⟨N, hN⟩ : ∃ N, N = m.D.length := ⟨_, rfl⟩
  rw [← hGe] at hG b4 HL hBl
  rw [← hmd] at hd1 HL hDl
  rw [← hN] at hnd HDV hDl
  replace hGe := hid hGe
  replace hmd := hid hmd
  replace hN := hid hN
  replace hDl := hid hDl
  clear h hk e' hg3
  go_enter Try.func43, Try.ntmps43
  go_wp2_with fail
  obtain ⟨wb, hwb⟩ : ∃ wb, wb = w.alloc (.cells #[.int .i64 0, .int .i64 0, .slice none 0 0, .int .i64 0, .slice none 0 0] 50) := ⟨_, rfl⟩
  rw [← hwb] at HS HV HW b4 ⊢
  have hwB : w.heap.size < wb.heap.size := by rw [hwb]; simp
  obtain ⟨B, hB⟩ : ∃ B, B = w.heap.size := ⟨_, rfl⟩
  rw [← hB] at HV ⊢
  have hB' := Nat.le_of_eq hB.symm
  have hBb : base ≤ B := by omega
  replace hB := hid hB
  clear hwb
  go_loopg [3, 4, 17] G (fun gg s3 s4 s17 wr => ∃ (k : Nat) (D : List Dm) (c : Nat) (f : Int), gg = G - k ∧ k ≤ G ∧ s17 = .int .i64 (k : Int) ∧ s3 = .int .i64 (c : Int) ∧ s4 = .int .i64 f ∧ c ≤ 12 * k ∧ Hid (StR wr base p { m with D := D }) ∧ Hid (Kt wb wr) ∧ Hid (Below base wb wr) ∧ Hid (D.length = N) ∧ Hid (∀ x ∈ D.map Dm.dk, Sto.BlOk (G : Int) x) ∧ Hid (Sto.scrubTo (m.D.map Dm.dk) md k = (D.map Dm.dk, (c : Int), f)))
  case atStart => exact ⟨0, m.D, 0, 0, rfl, by omega, rfl, rfl, rfl, by omega, HS, hid (Kt.refl _), hid (Below.refl _ _), hid hN.out.symm, hBl, hid rfl⟩
  case round =>
    obtain ⟨k, D, c, f, rfl, hk, rfl, rfl, rfl, hc, HX, HK, HBe, HDl, HBl, HSc⟩ := hrel
    obtain ⟨wo, rfl⟩ : ∃ wo : World, wo = wr := ⟨_, rfl⟩
    have hszo := HBe.out.size
    by_cases hlt : k < G
    · have hDl' := HDl.out
      have DB := hid (stblocks_call base p _ (k : Int) wo HX.out (by show D.length ≤ 1000; omega))
      go_wp2_with fail
      go_at_call 65; refine (DB.out).mono ?_; rintro e w1 ⟨a1, c1, R1, rfl, M1, e1, v1⟩
      change Ms w1 a1 D.length c1 R1 at M1
      change rwData R1 = Sto.blocks (D.map Dm.dk) (k : Int) at e1
      rw [hDl'] at M1 ⊢
      have DD := hid (sBad_call a1 N c1 R1 (k : Int) w1 M1 (by omega))
      have M1' := hid M1
      have E1 := hid e1
      clear DB M1 e1
      go_wp2_with fail
      go_at_call 66; refine (DD.out).mono ?_; rintro e w2 ⟨a2, c2, rfl, hU, v2⟩
      have hUl := Stp.badL_le (rwData R1) (k : Int) N
      have hUm : ∀ u ∈ Stp.badL (rwData R1) (k : Int) N, u < N := fun u hu => Stp.badL_lt hu
      have HUm := hid hUm
      have S1 := hid (show ∀ (E : List Sto.Dk) (hE : E = D.map Dm.dk), Stp.badL (Sto.blocks E k) k E.length = Stp.badL (rwData R1) (k : Int) N from fun E hE => by rw [hE, E1.out, List.length_map, HDl.out])
      generalize hUe : Stp.badL (rwData R1) (k : Int) N = U at *
      replace hUe := hid hUe
      have bw := bnext v1 v2
      have X2 := hid (HX.out.below bw)
      have K2 := hid (HK.out.trans (Kt.below bw))
      have hbwo : base ≤ wo.heap.size := by omega
      have B2 := hid (HBe.out.trans (bw.mono hbwo))
      have M2 := hid (M1'.out.below v2)
      have hsz2 := bw.size
      clear DD hUm v1
      by_cases hU0 : U.length = 0
      · have hUn : U = [] := List.eq_nil_of_length_eq_zero hU0
        have HN := hid (Sto.scrub_1 HSc.out (by rw [S1.out _ rfl]; exact hUn))
        have t0 : ((U.length : Int) == 0) = true := by simpa using hU0
        subst hUn
        clear hU0
        go_wp2_with fail
        go_roundg (G - (k + 1))
        case measure => omega
        case rel => exact ⟨k + 1, D, c, f, rfl, by omega, by go_num, rfl, rfl, by omega, X2, K2, B2, HDl, HBl, HN⟩
      · have t0 : ((U.length : Int) == 0) = false := by simpa using hU0
        have hUn : U ≠ [] := fun e => hU0 (by rw [e]; rfl)
        have c0 : w2.cell? ⟨p, 0, none⟩ = some (.int .i64 md) := by rw [hmd.out]; exact blk_cell (i := 0) X2.out.box
        have DM := hid (sMend_callO a1 N c1 R1 (k : Int) md w2 M2.out (by omega))
        have S2 := hid (Sto.scrub_2 HSc.out (by rw [S1.out _ rfl]; exact hUn))
        have S3 := hid (Sto.scrub_3 HSc.out (by rw [S1.out _ rfl]; exact hUn))
        replace hUn := hid hUn
        go_wp2_with fail
        go_at_call 67; refine (DM.out).mono ?_; rintro e w3 ⟨a3, n3, c3, R3, f3, rfl, -, p3, v3, o3⟩
        have hm3 := Stp.mendF_eq p3
        rw [E1.out] at hm3
        have X3 := hid (X2.out.below v3)
        have K3 := hid (K2.out.trans (Kt.below v3))
        have B3 := hid (B2.out.trans (v3.mono (by omega)))
        have hU3 := hU.below v3
        have hsz3 := v3.size
        clear DM c0
        by_cases hf : f3 = 0
        · subst hf
          obtain ⟨rb, rf, -, hl3⟩ := p3
          have hl3 : Stp.LayR rb (k : Int) md ((rwData R1).length - md) (rwData R3) 0 := by
            rcases hl3 with ⟨h1, _, h2⟩ | ⟨_, h2⟩
            · exact absurd h2.symm h1
            · exact h2
          have hfit := hl3.fit
          rw [E1.out, Sto.blocks_len, List.length_map, HDl.out] at hfit
          have hn3 : R3.length = n3 := by have := o3.1.1; rw [rwCells_length] at this; omega
          have hDn : D.length = n3 := by
            have h5 := hfit.1
            rw [rwData_length, hn3] at h5
            omega
          have HLe := hid (show ∀ r ∈ R3, r.n ≤ 1000000 from fun r hr => by
            have h5 := hfit.2.2 r.l (List.mem_map.2 ⟨r, hr, rfl⟩)
            obtain ⟨a', c', e', hb⟩ := own_sl (o3.2 r hr)
            simp only [Rw.v, Value.slice.injEq, true_and] at e'
            have := Bt.n hb
            omega)
          have HN := hid (S3.out hm3.2.symm)
          rw [← hm3.1, S1.out _ rfl] at HN
          clear S2 S3 hl3 hfit hm3
          obtain ⟨fn, hfn⟩ : ∃ fn : Nat → Bool, fn = fun i => !((D.map Dm.dk).getD i ⟨false, []⟩).gone := ⟨_, rfl⟩
          rw [← hfn] at HN
          have HFN := hid (show ∀ i (hi : i < D.length), fn i = !D[i].g from fun i hi => by rw [hfn]; simp [List.getD, hi, Dm.dk])
          clear hfn
          go_wp2_with fail
          go_loopg [3, 48] U.length (fun gg s3 s48 wr => ∃ j : Nat, gg = U.length - j ∧ j ≤ U.length ∧ s48 = .int .i64 (j : Int) ∧ s3 = .int .i64 ((c + ((U.take j).filter fn).length : Nat) : Int) ∧ w3 = wr)
          case atStart => exact ⟨0, rfl, by omega, rfl, by simp, rfl⟩
          case round =>
            obtain ⟨j, rfl, hj, rfl, rfl, rfl⟩ := hrel
            by_cases hjl : j < U.length
            · have hjU : j < U.length := hjl
              obtain ⟨ub, uo, rfl, -⟩ := hU3.addr (by omega)
              have u0 : w3.cell? ⟨ub, uo + j, none⟩ = some (.int .i64 ((U[j] : Nat) : Int)) := hU3.cell (by omega) (nCells_get hjU)
              have huN := HUm.out _ (List.getElem_mem hjU)
              have HFS := hid (filt_snoc U fn j hjU)
              have huD : U[j] < D.length := by rw [hDl']; exact huN
              have HG := HFN.out U[j] huD
              have hcnt : ((U.take j).filter fn).length ≤ 12 := by
                have := List.length_filter_le fn (U.take j)
                rw [List.length_take] at this
                omega
              have i0 : (0 : Int) ≤ (j : Int) := by omega
              have i1 : (j : Int) < (U.length : Int) := by omega
              have c3' : w3.cell? ⟨p, 3, none⟩ = some (.slice (some ⟨gd, 0, none⟩) N cp) := by
                have := blk_cell (i := 3) X3.out.box
                change _ = some m.dv at this
                rw [this, HDV.out]
              obtain ⟨a', cap', e'', hsD⟩ := own_sl X3.out.dks
              have e'' : m.dv = .slice a' D.length cap' := e''
              rw [HDV.out, hDl'] at e''
              cases e''
              change Sl w3 2 (some ⟨gd, 0, none⟩) D.length cp (rows dm2 D) at hsD
              obtain ⟨e0, -⟩ := dm_at hsD U[j] huD
              simp only [Nat.zero_add] at e0
              generalize hu : U[j] = u at *
              replace hu := hid hu
              have j0 : (0 : Int) ≤ (u : Int) := by omega
              have j1 : (u : Int) < (N : Int) := by omega
              clear hsD
              generalize ((U.take j).filter fn).length = q at *
              cases hg : D[u].g with
              | true =>
                rw [hg] at e0 HG
                replace HG := hid HG
                go_wp2_with fail
                go_roundg (U.length - (j + 1))
                case measure => omega
                case rel => exact ⟨j + 1, rfl, by omega, by go_num, by rw [HFS.out, HG.out]; simp, rfl⟩
              | false =>
                rw [hg] at e0 HG
                replace HG := hid HG
                go_wp2_with fail
                go_roundg (U.length - (j + 1))
                case measure => omega
                case rel => exact ⟨j + 1, rfl, by omega, by go_num, by rw [HFS.out, HG.out]; go_num, rfl⟩
            · obtain rfl : j = U.length := by omega
              rw [List.take_of_length_le (Nat.le_refl _)]
              have hq := List.length_filter_le fn U
              have HNB := hid (show ∀ x ∈ Sto.write (D.map Dm.dk) (k : Int) (rwData R3), Sto.BlOk (G : Int) x from Sto.write_ok HBl.out (by omega))
              have DW := hid (stwrite_call base p _ (k : Int) w3 a3 n3 c3 w2.heap.size R3 X3.out o3 hDn (by omega) HLe.out (fun x hx => by
                have := (HBl.out x.dk (List.mem_map.2 ⟨x, hx, rfl⟩)).len (by omega)
                simp only [Dm.dk, List.length_map] at this
                omega))
              generalize (U.filter fn).length = q at *
              clear o3 hU3
              go_wp2_with fail
              go_at_call 68; refine (DW.out).mono ?_; rintro e w4 ⟨rfl, D4, X4, hD4, K4, B4⟩
              have XX := hid X4
              have KK := hid (K3.out.trans K4.kt)
              have BB := hid (B3.out.trans B4)
              have HD4 := hid hD4
              clear X4 K4 B4 DW hD4
              go_wp2_with fail
              go_roundg (G - (k + 1))
              case measure => omega
              case rel =>
                refine ⟨k + 1, D4, c + q, f, rfl, by omega, by go_num, by go_num, rfl, by omega, XX, KK, BB, hid ?_, hid ?_, hid ?_⟩
                · have := congrArg List.length HD4.out
                  rw [List.length_map, Sto.write_length, List.length_map] at this
                  rw [this]; exact HDl.out
                · rw [HD4.out]; exact HNB.out
                · rw [HN.out]
                  show _ = (D4.map Dm.dk, _, _)
                  rw [HD4.out]
                  simp
        · have t1 : (f3 != 0) = true := bne_iff_ne.2 hf
          have HN := hid (S2.out (by rw [← hm3.2]; exact hf))
          rw [← hm3.2] at HN
          have HF := hid hf
          clear hf p3 hm3 o3 S2 S3 hU3
          by_cases hf0 : f = 0
          · subst hf0
            rw [if_pos rfl] at HN
            go_wp2_with fail
            go_roundg (G - (k + 1))
            case measure => omega
            case rel => exact ⟨k + 1, D, c, f3, rfl, by omega, by go_num, rfl, rfl, by omega, X3, K3, B3, HDl, HBl, HN⟩
          · rw [if_neg hf0] at HN
            have t2 : (f == 0) = false := by simpa using hf0
            replace hf0 := hid hf0
            go_wp2_with fail
            go_roundg (G - (k + 1))
            case measure => omega
            case rel => exact ⟨k + 1, D, c, f, rfl, by omega, by go_num, rfl, rfl, by omega, X3, K3, B3, HDl, HBl, HN⟩
    · obtain rfl : k = G := by omega
      have vx := HK.out.block B _ 50 HV.out (by decide)
      have bbx := (HW.out.mono hbase).trans HBe.out
      have Kx := hid ((Kt.below HW.out).trans HK.out)
      rw [HSc.out] at HL
      have r0 : wo.cell? ⟨B, 0, none⟩ = some (.int .i64 0) := blk_cell vx
      have r1 : wo.cell? ⟨B, 1, none⟩ = some (.int .i64 0) := blk_cell vx
      have r2 : wo.cell? ⟨B, 2, none⟩ = some (.slice none 0 0) := blk_cell vx
      have r3 : wo.cell? ⟨B, 3, none⟩ = some (.int .i64 0) := blk_cell vx
      have r4 : wo.cell? ⟨B, 4, none⟩ = some (.slice none 0 0) := blk_cell vx
      have f0 : ∀ j, wo.frozen? ⟨B, j, none⟩ = false := fun j => blk_free vx
      go_wp2_with fail
      obtain ⟨W, hW, q, hBW, hOW, hown⟩ := set5_facts bbx hBb vx (.int .i64 (f)) (.int .i64 ((c : Int))) (.slice none 0 0) (.int .i64 (0)) (.slice none 0 0)
      rw [hW]
      have q0 := blk_cell (i := 0) q
      have q1 := blk_cell (i := 1) q
      have q2 := blk_cell (i := 2) q
      have q3 := blk_cell (i := 3) q
      have q4 := blk_cell (i := 4) q
      refine bodyPost_ret (v := ansVal (f) ((c : Int)) (.slice none 0 0) (0) (.slice none 0 0)) (by unfold ansVal; simp [results, Try.results43, go_sem, q0, q1, q2, q3, q4]) rfl ⟨_, { m with D := D }, rfl, ?_, (HX.out).off hOW vx (by decide), ?_, (Kx.out).off hOW hB', hBW⟩
      · rw [HL.out]; exact ⟨none, 0, none, 0, rfl, EO.nil _ _, AO.nil _ _⟩
      · rw [HL.out]; rfl
end Go.Proofs.Ythhcdfjijagalaa
namespace Go.Proofs.Ythhcdfjijagalaa
open Go.RowKit
set_option linter.unusedVariables false
set_option linter.unusedSimpArgs false
set_option maxRecDepth 100000
def posI (c : Int) : List Int → Nat
  | [] => 0
  | x :: t => if x < c then posI c t + 1 else 0
theorem posI_le (c : Int) : ∀ l : List Int, posI c l ≤ l.length
  | [] => Nat.le_refl _
  | x :: t => by
    unfold posI
    have := posI_le c t
    split <;> simp <;> omega
theorem posI_lt (c : Int) : ∀ (l : List Int) (j : Nat) (h : j < l.length), j < posI c l → l[j] < c
  | [], j, h, _ => absurd h (by simp)
  | x :: t, j, h, hj => by
    unfold posI at hj
    split at hj
    · rename_i hx
      cases j with
      | zero => exact hx
      | succ j => exact posI_lt c t j (by simpa using h) (by omega)
    · omega
theorem posI_ge (c : Int) : ∀ (l : List Int) (h : posI c l < l.length), ¬ l[posI c l] < c
  | [], h => absurd h (by simp)
  | x :: t, h => by
    by_cases hx : x < c
    · have e : posI c (x :: t) = posI c t + 1 := by show (if x < c then _ else _) = _; rw [if_pos hx]
      have h' : posI c t < t.length := by rw [e] at h; simpa using h
      have := posI_ge c t h'
      simpa [e] using this
    · have e : posI c (x :: t) = 0 := by show (if x < c then _ else _) = _; rw [if_neg hx]
      simpa [e] using hx
theorem posI_uniq {c : Int} {l : List Int} {i : Nat} (hi : i ≤ l.length) (h1 : ∀ j (h : j < l.length), j < i → l[j] < c) (h2 : ∀ j (h : j < l.length), i ≤ j → c ≤ l[j]) : i = posI c l := by
  have hle := posI_le c l
  rcases Nat.lt_trichotomy i (posI c l) with h | h | h
  · have a := posI_lt c l i (by omega) h
    have b := h2 i (by omega) (Nat.le_refl _)
    omega
  · exact h
  · have a := posI_ge c l (by omega)
    have b := h1 (posI c l) (by omega) h
    exact absurd b a
theorem insS_eq (c : Int) : ∀ l : List Int, Sto.insS l c = l.take (posI c l) ++ c :: l.drop (posI c l)
  | [] => rfl
  | x :: t => by
    unfold Sto.insS posI
    split
    · rw [insS_eq c t]; rfl
    · rfl
theorem posI_mem {c : Int} {l : List Int} (hr : ∀ i j (hi : i < l.length) (hj : j < l.length), i < j → l[i] < l[j]) : l[posI c l]? = some c ↔ c ∈ l := by
  constructor
  · intro h; exact List.mem_of_getElem? h
  · intro h
    obtain ⟨j, hj, e⟩ := List.getElem_of_mem h
    have h1 : posI c l ≤ j := Nat.le_of_not_lt (fun hl => by have := posI_lt c l j hj hl; omega)
    rcases Nat.lt_or_eq_of_le h1 with h2 | h2
    · have h3 := hr _ _ (by omega) hj h2
      have h4 := posI_ge c l (by omega)
      rw [e] at h3
      exact absurd h3 h4
    · rw [h2, List.getElem?_eq_getElem hj, e]
theorem searchInt_same (a : Option Addr) (n cap : Nat) (l : List Int) (c : Int) (w : World) (h : Sl w 1 a n cap (l.map (Value.int .i64))) (hr : ∀ i j (hi : i < l.length) (hj : j < l.length), i < j → l[i] < l[j]) (hn : n ≤ 1000) :
    Calls Try.prog 53 #[.slice a n cap, .int .i64 c] w (Same (.tuple #[.int .i64 (posI c l : Int), .bool (decide (c ∈ l))]) w) :=
  (searchInt_call a n cap l c w h hr hn).mono fun e w' ⟨h1, i, h2, h3, h4, h5⟩ => by
    have hi := posI_uniq h2 h4 h5
    subst hi
    refine ⟨?_, h1.symm⟩
    rw [h3]
    have : decide (l[posI c l]? = some c) = decide (c ∈ l) := by
      by_cases hm : c ∈ l
      · rw [decide_eq_true hm, decide_eq_true ((posI_mem hr).2 hm)]
      · rw [decide_eq_false hm, decide_eq_false (fun h => hm ((posI_mem hr).1 h))]
    rw [this]
end Go.Proofs.Ythhcdfjijagalaa
