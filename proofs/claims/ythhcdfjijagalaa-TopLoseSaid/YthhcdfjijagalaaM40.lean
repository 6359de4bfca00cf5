/- Joined, and what is not used struck: SoH, SpM, SpN, SpO. -/
import Derived.Test.YthhcdfjijagalaaM39
namespace Go.Proofs.Ythhcdfjijagalaa.Sto
set_option linter.unusedVariables false
/-- two events come -/
theorem fold_pair {v : Vw.Vi} {e f : Evt.Ev} (h : (Vw.fold v [e]).err = 0) : (Vw.fold v [e, f]).err = (Vw.fold (Vw.fold v [e]).v [f]).err ∧ (Vw.fold v [e, f]).v = (Vw.fold (Vw.fold v [e]).v [f]).v := fold_two (X := [e]) (Y := [f]) h
def evs2 (n : Int) : List Evt.Ev := [⟨sa, 1, 0⟩, ⟨sa, 2, n⟩]
theorem evs2_right {n : Int} (h0 : 0 ≤ n) (hn : n ≤ 1000000) : ∀ e ∈ evs2 n, Evt.wrongEv e = 0 := by
  intro e he
  unfold evs2 at he
  simp only [List.mem_cons, List.not_mem_nil, or_false] at he
  rcases he with rfl | rfl
  · exact open_right sa (.inl rfl)
  · exact num_right sa (.inl rfl) 2 n (.inl rfl) h0 hn
theorem two_in {d p b n : Int} (hw : wrongS d p b = 0) (h0 : 0 ≤ n) (hn : n ≤ 1000000) :
    (step (start d p b) (doPut 1 (evs2 n))).2.err = 0 ∧ J (step (start d p b) (doPut 1 (evs2 n))).1 [⟨1, evs2 n⟩] [] (fun _ => False) 1 ∧ Cnt (step (start d p b) (doPut 1 (evs2 n))).1 [⟨1, evs2 n⟩] ∧ (Vw.get (step (start d p b) (doPut 1 (evs2 n))).1.snap.accs sa).sum = n := by
  have h := start_J hw
  have hc := Cnt.start d p b
  have hf1 := fold_one (v := (start d p b).snap) (e := ⟨sa, 1, 0⟩) h.good (open_right sa (.inl rfl)) (by show (0 : Int) ≠ 150; decide) rfl
  have hg1 : Vw.get (Vw.fold (start d p b).snap [⟨sa, 1, 0⟩]).v.accs sa = ⟨sa, 0, 1, true⟩ := by
    rw [hf1.2.1]; rfl
  have hf2 := fold_one (v := (Vw.fold (start d p b).snap [⟨sa, 1, 0⟩]).v) (e := ⟨sa, 2, n⟩) hf1.2.2 (num_right sa (.inl rfl) 2 n (.inl rfl) h0 hn) (by rw [hf1.2.1]; show (0 : Int) + 1 ≠ 150; decide) (by show Vw.may (Vw.get _ sa) _ = true; rw [hg1]; unfold Vw.may; rw [if_neg (show ¬ ((2 : Int) = 1) by decide), if_pos (.inl rfl)])
  have hfp := fold_pair (f := ⟨sa, 2, n⟩) hf1.1
  have hf : (Vw.fold (start d p b).snap (evs2 n)).err = 0 := hfp.1.trans hf2.1
  have hfv : (Vw.fold (start d p b).snap (evs2 n)).v = _ := hfp.2.trans hf2.2.1
  obtain ⟨e1, n1⟩ := put_good h (d := doPut 1 (evs2 n)) rfl (ba_right (by decide) (by decide) (by simp [evs2]) (by simp [evs2]) (evs2_right h0 hn)) (fun b hb => by cases hb) (show (-1 : Int) < 0 by decide) hf (by simp [doPut, evs2]) (fun b hb => by cases hb) (show 0 ≤ 39 by decide)
  have hj := h.put (d := doPut 1 (evs2 n)) rfl
  have hcn := hc.step (doPut 1 (evs2 n))
  rw [n1, List.nil_append] at hj hcn
  have hsnap : (step (start d p b) (doPut 1 (evs2 n))).1.snap = (Vw.fold (start d p b).snap (evs2 n)).v := by
    rw [step_put rfl]
    rcases put_view (start d p b) (doPut 1 (evs2 n)) with ⟨_, h3 | h3⟩ | ⟨_, _, _, h4, _⟩
    · rw [step_put rfl] at e1; exact absurd e1 h3
    · cases h3
    · exact h4
  refine ⟨e1, hj, hcn, ?_⟩
  rw [hsnap, hfv]
  have h5 := Vw.get_ins_same (Vw.plus (Vw.get (Vw.fold (start d p b).snap [⟨sa, 1, 0⟩]).v.accs sa) ⟨sa, 2, n⟩) (Vw.fold (start d p b).snap [⟨sa, 1, 0⟩]).v.accs
  rw [Vw.plus_s, Vw.get_s] at h5
  rw [h5, hg1]
  show (0 : Int) + n = n
  omega
theorem look_all {s : St} {X : List Evt.Ba} (hi : Inv s X) (ha : all s = (X, 0)) {d : Do} (h : d.kind = 4) : (step s d).2.err = 0 ∧ (step s d).2.view = s.snap := by
  have : (step s d).2 = look s := by unfold step; rw [if_neg (by omega), if_neg (by omega), if_pos h]
  rw [this]
  unfold look
  rw [ha, if_neg (show ¬ ((X, (0 : Int)).2 ≠ 0) from fun h => h rfl)]
  exact ⟨hi.err, hi.snap⟩
/-- the closed fact of the whole's laws -/
theorem aliveT_plain : ∃ s a1 a2, play 3 2 1 [doPut 1 (evs2 7), doOf 4 0] = (s, [a1, a2], 0) ∧ (Vw.get a2.view.accs sa).sum = 7 := by
  have hw : wrongS 3 2 1 = 0 := by decide
  obtain ⟨_, hj, _, hs⟩ := two_in hw (n := 7) (by decide) (by decide)
  have hsp := step_spare (start 3 2 1) (doPut 1 (evs2 7))
  have ha := hj.all_ok (few_none (by rw [hsp]; show (0 : Int) ≤ 2; decide))
  have hl := look_all hj.inv ha (d := doOf 4 0) rfl
  refine ⟨_, _, _, play_of hw (by decide), ?_⟩
  rw [hl.2]; exact hs
/-! ### bytes that are turned -/
def spoilD (t : Int) (y : UInt8) (U : List Int) : List Do := U.map fun u => ⟨7, u, 0, t, y, ⟨0, []⟩, ⟨#[]⟩, 0⟩
/-- what disks are while bytes are turned -/
structure Spo (s : St) (G : Nat → List Evt.Ba) (L : Nat → List (List UInt8)) (had : List (Int × Int)) (V : List Int) (K : Nat) (X : List Evt.Ba) : Prop where
  core : Core s G L had (fun i => (i : Int) ∈ V)
  ok : Ok s K
  inv : Inv s X
  one : s.segs = 1
  tot : tot s G = X
  had : ∀ q ∈ had, q.1 ∈ V
  there : ∀ x ∈ s.disks, x.gone = false
  diff : ∀ i : Nat, (i : Int) ∈ V → i < s.disks.length → (blocks s.disks ((0 : Nat) : Int)).getD i [] ≠ (L 0).getD i []
theorem blocks_congr {ds es : List Dk} {i : Nat} (h : ds[i]? = es[i]?) (k : Int) : (blocks ds k).getD i [] = (blocks es k).getD i [] := by
  unfold blocks
  rw [List.getD, List.getD, List.getElem?_map, List.getElem?_map, h]
theorem set_ne {l : List UInt8} {t : Nat} {y : UInt8} (ht : t < l.length) (hy : y ≠ 0) : l.set t (l.getD t 0 ^^^ y) ≠ l := by
  intro e
  have := congrArg (fun m : List UInt8 => m[t]?) e
  simp only [List.getElem?_set_self ht] at this
  rw [List.getElem?_eq_getElem ht] at this
  have := Option.some.inj this
  have h2 : l.getD t 0 = l[t] := by simp [List.getD, ht]
  rw [h2] at this
  exact xor_ne hy this
theorem Spo.step {s : St} {G : Nat → List Evt.Ba} {L : Nat → List (List UInt8)} {had : List (Int × Int)} {V : List Int} {K : Nat} {X : List Evt.Ba} (h : Spo s G L had V K X) {u t : Int} {y : UInt8} (hu : u ∉ V) (h0 : 0 ≤ u) (h1 : u < s.disks.length) (ht0 : 0 ≤ t) (ht : t ≤ 11) (hy : y ≠ 0) :
    Spo (Sto.step s ⟨7, u, 0, t, y, ⟨0, []⟩, ⟨#[]⟩, 0⟩).1 G L ((u, 0) :: had) (V ++ [u]) (K + 1) X ∧ (Sto.step s ⟨7, u, 0, t, y, ⟨0, []⟩, ⟨#[]⟩, 0⟩).1.disks.length = s.disks.length := by
  obtain ⟨d', hd'⟩ : ∃ d' : Do, d' = ⟨7, u, 0, t, y, ⟨0, []⟩, ⟨#[]⟩, 0⟩ := ⟨_, rfl⟩
  rw [← hd']
  have k7 : d'.kind = 7 := by rw [hd']
  have kn : d'.n = u := by rw [hd']
  have ks : d'.seg = 0 := by rw [hd']
  have kt : d'.t = t := by rw [hd']
  have ky : d'.y = y := by rw [hd']
  have hx := disk_at (s := s) h0 h1
  have hgx := h.there _ (List.mem_of_getElem? hx)
  have hlt : u.toNat < s.disks.length := by omega
  have hun : ((u.toNat : Nat) : Int) = u := by omega
  obtain ⟨_, hfind⟩ := h.core.safe u.toNat _ hx (by rw [hun]; exact hu)
  have hf0 := hfind 0 (by rw [h.one]; decide)
  obtain ⟨dd, ss, S, e1, e2, e3, hl⟩ := h.core.laid h.ok (k := 0) (by rw [h.one]; decide)
  have hlen : t.toNat < ((L 0).getD u.toNat []).length := by
    rw [hl.row (by omega), Blk.bytes_length, hl.sh.row (by omega)]
    have := hl.sh.fine.m1
    omega
  have hcore := h.core.harm h.ok d' (.inr (.inr k7)) (fun _ _ hm => by rw [kn] at hm; exact hu (h.had _ hm))
  have hharm : harm s d' = ({ s with disks := s.disks.set u.toNat ⟨(s.disks.getD u.toNat ⟨false, []⟩).gone, setB (s.disks.getD u.toNat ⟨false, []⟩).bl 0 (((L 0).getD u.toNat []).set t.toNat (((L 0).getD u.toNat []).getD t.toNat 0 ^^^ y))⟩ }, an0) := by
    unfold harm
    rw [kn, ks, kt, ky, k7, if_neg (by omega), if_neg (by decide), if_neg (by decide)]
    have hf0' : find (s.disks.getD u.toNat ⟨false, []⟩).bl 0 = some ((L 0).getD u.toNat []) := hf0
    rw [hf0']
    simp only
    rw [if_neg (by omega)]
  have hst : Sto.step s d' = harm s d' := step_harm (.inr (.inr k7))
  have herr : (Sto.step s d').2.err = 0 := by rw [hst, hharm]; rfl
  rw [← hst] at hcore
  have hhad : hadN had d' = (u, 0) :: had := by unfold hadN; rw [if_pos ⟨k7, by rw [ky]; exact hy⟩, kn, ks]
  rw [hhad] at hcore
  have hH : ∀ i, hurtN s d' (fun i => (i : Int) ∈ V) i → (i : Int) ∈ V ++ [u] := by
    intro i hi
    unfold hurtN at hi
    rw [if_pos (.inr (.inr k7)), if_pos herr, kn] at hi
    rcases hi with hi | hi
    · exact List.mem_append_left _ hi
    · rw [hi]; simp
  have hdl : (Sto.step s d').1.disks.length = s.disks.length := by rw [hst, hharm]; show (s.disks.set _ _).length = _; rw [List.length_set]
  have hrow : ∀ i, i ≠ u.toNat → (blocks (Sto.step s d').1.disks ((0 : Nat) : Int)).getD i [] = (blocks s.disks ((0 : Nat) : Int)).getD i [] := by
    intro i hi
    refine blocks_congr ?_ _
    rw [hst, hharm]
    show (s.disks.set u.toNat _)[i]? = _
    rw [List.getElem?_set_ne (fun e => hi e.symm)]
  refine ⟨⟨hcore.mono (fun _ e => e) hH, h.ok.step d', ?_, ?_, ?_, fun q hq => ?_, fun x hx2 => ?_, fun i hi hil => ?_⟩, hdl⟩
  · have := h.inv.step d'
    rwa [newB_no (by omega), List.append_nil] at this
  · rw [hst, (harm_rest s d').1]; exact h.one
  · rw [← h.tot]; unfold Sto.tot; rw [hst, (harm_rest s d').1, (harm_rest s d').2]
  · rcases List.mem_cons.1 hq with rfl | hq
    · simp
    · exact List.mem_append_left _ (h.had q hq)
  · rw [hst, hharm] at hx2
    rcases List.mem_or_eq_of_mem_set hx2 with hx2 | rfl
    · exact h.there x hx2
    · exact hgx
  · rw [hdl] at hil
    by_cases e : i = u.toNat
    · subst e
      have hx3 : (Sto.step s d').1.disks[u.toNat]? = some ⟨(s.disks.getD u.toNat ⟨false, []⟩).gone, setB (s.disks.getD u.toNat ⟨false, []⟩).bl 0 (((L 0).getD u.toNat []).set t.toNat (((L 0).getD u.toNat []).getD t.toNat 0 ^^^ y))⟩ := by
        rw [hst, hharm]
        show (s.disks.set _ _)[u.toNat]? = _
        rw [List.getElem?_set_self hlt]
      rw [blocks_row _ _ _ hx3]
      unfold blockOf
      rw [if_neg (by show ¬ (s.disks.getD u.toNat ⟨false, []⟩).gone = true; rw [hgx]; decide)]
      have hf1 := find_setB_same (((L 0).getD u.toNat []).set t.toNat (((L 0).getD u.toNat []).getD t.toNat 0 ^^^ y)) (show find (s.disks.getD u.toNat ⟨false, []⟩).bl 0 = some ((L 0).getD u.toNat []) from hf0)
      show (find (setB _ _ _) ((0 : Nat) : Int)).getD [] ≠ _
      rw [show ((0 : Nat) : Int) = 0 from rfl, hf1]
      show ((L 0).getD u.toNat []).set t.toNat _ ≠ _
      exact set_ne hlen hy
    · rw [hrow i e]
      refine h.diff i ?_ hil
      rcases List.mem_append.1 hi with hi | hi
      · exact hi
      · have := List.mem_singleton.1 hi; omega
theorem Spo.run {t : Int} {y : UInt8} (ht0 : 0 ≤ t) (ht : t ≤ 11) (hy : y ≠ 0) (U : List Int) : ∀ {s : St} {G : Nat → List Evt.Ba} {L : Nat → List (List UInt8)} {had : List (Int × Int)} {V : List Int} {K : Nat} {X : List Evt.Ba} (h : Spo s G L had V K X) (hn : (V ++ U).Nodup) (hr : ∀ u ∈ U, 0 ≤ u ∧ u < s.disks.length),
    ∃ had' K', Spo (Sto.run s (spoilD t y U)).1 G L had' (V ++ U) K' X ∧ (Sto.run s (spoilD t y U)).1.disks.length = s.disks.length := by
  induction U with
  | nil => intro s G L had V K X h _ _; exact ⟨had, K, by simpa [spoilD, Sto.run] using h, rfl⟩
  | cons u r ih =>
    intro s G L had V K X h hn hr
    have hu : u ∉ V := by
      rw [List.nodup_append] at hn
      intro hm
      exact hn.2.2 u hm u (by simp) rfl
    obtain ⟨h1, h2⟩ := h.step (t := t) (y := y) hu (hr u (by simp)).1 (hr u (by simp)).2 ht0 ht hy
    obtain ⟨had', K', h3, h4⟩ := ih h1 (by simpa using hn) (fun x hx => by rw [h2]; exact hr x (by simp [hx]))
    unfold spoilD at *
    rw [List.map_cons, run_cons]
    exact ⟨had', K', by simpa using h3, by rw [← h2]; exact h4⟩
theorem spoilD_len (t : Int) (y : UInt8) (U : List Int) : (spoilD t y U).length = U.length := by simp [spoilD]
/-- A BYTE HERE, A BYTE THERE -/
theorem spoilt_plain {d p : Int} (hw : wrongS d p 1 = 0) (t : Int) (y : UInt8) (ht0 : 0 ≤ t) (ht : t ≤ 11) (hy : y ≠ 0) (U : List Int) (hn : U.Nodup) (hU : (U.length : Int) = p) (rU : ∀ u ∈ U, 0 ≤ u ∧ u < d + p) :
    ∃ s a, play d p 1 ([doPut 1 (evs2 5)] ++ spoilD t y U ++ [doOf 9 0, doOf 3 0, doOf 8 0, doOf 9 0]) = (s, a, 0) ∧ a.length = U.length + 5 ∧ ∃ x1 x2 x3 x4, a[U.length + 1]? = some x1 ∧ a[U.length + 2]? = some x2 ∧ a[U.length + 3]? = some x3 ∧ a[U.length + 4]? = some x4 ∧
      x1.n = p ∧ x2.err = 0 ∧ x2.evs.length = 2 ∧ x3.n = p ∧ x4.n = 0 := by
  have hp := (start_J hw).ok.sp
  have hp : 0 ≤ p ∧ p ≤ 4 := hp
  obtain ⟨_, hj, hcn, _⟩ := two_in hw (n := 5) (by decide) (by decide)
  obtain ⟨G, L, hc, htot⟩ := hj.core
  have hone : (step (start d p 1) (doPut 1 (evs2 5))).1.segs = 1 := by
    have ht := hj.ok.t
    have hba := (step_batches (start d p 1) (doPut 1 (evs2 5))).1
    unfold Cnt at hcn
    rw [hba] at hcn ht
    have hb : (start d p 1).batches = 1 := rfl
    rw [hb] at hcn ht
    have : (([⟨1, evs2 5⟩] : List Evt.Ba).length : Int) = 1 := rfl
    rw [this] at hcn
    omega
  have hdk := start_disks hw [doPut 1 (evs2 5)]
  have hdk : ((step (start d p 1) (doPut 1 (evs2 5))).1.disks.length : Int) = d + p := hdk
  have hS : Spo (step (start d p 1) (doPut 1 (evs2 5))).1 G L [] [] 1 [⟨1, evs2 5⟩] :=
    ⟨hc.mono (fun _ e => e) (fun i hi => absurd hi (fun q => q)), hj.ok, hj.inv, hone, htot, (fun q hq => by cases hq), (fun x hx => by
      obtain ⟨i, hi⟩ := List.getElem?_of_mem hx
      exact (hc.safe i x hi (fun q => q)).1), (fun i hi => by cases hi)⟩
  obtain ⟨had, K, h1, hl1⟩ := Spo.run ht0 ht hy U hS (by simpa using hn) (fun u hu => by rw [hdk]; exact rU u hu)
  have hs1 : (run (step (start d p 1) (doPut 1 (evs2 5))).1 (spoilD t y U)).1.spare = p := by rw [run_spare, step_spare]; rfl
  have hrun : run (start d p 1) ([doPut 1 (evs2 5)] ++ spoilD t y U) = _ := rfl
  have hr1 : (run (start d p 1) ([doPut 1 (evs2 5)] ++ spoilD t y U)).1 = (run (step (start d p 1) (doPut 1 (evs2 5))).1 (spoilD t y U)).1 := (run_app (start d p 1) [doPut 1 (evs2 5)] (spoilD t y U)).2
  rw [← hr1] at h1 hl1 hs1
  rw [List.nil_append] at h1
  have hlen : ([doPut 1 (evs2 5)] ++ spoilD t y U).length = U.length + 1 := by rw [List.length_append, spoilD_len]; simp only [List.length_cons, List.length_nil]; omega
  have hm1 := run_mid (start d p 1) ([doPut 1 (evs2 5)] ++ spoilD t y U) (doOf 9 0) [doOf 3 0, doOf 8 0, doOf 9 0]
  have hm2 := run_mid (start d p 1) ([doPut 1 (evs2 5)] ++ spoilD t y U ++ [doOf 9 0]) (doOf 3 0) [doOf 8 0, doOf 9 0]
  have hm3 := run_mid (start d p 1) ([doPut 1 (evs2 5)] ++ spoilD t y U ++ [doOf 9 0, doOf 3 0]) (doOf 8 0) [doOf 9 0]
  have hm4 := run_mid (start d p 1) ([doPut 1 (evs2 5)] ++ spoilD t y U ++ [doOf 9 0, doOf 3 0, doOf 8 0]) (doOf 9 0) []
  rw [hlen] at hm1
  rw [List.append_assoc _ [doOf 9 0], List.length_append, hlen] at hm2
  rw [List.append_assoc _ [doOf 9 0, doOf 3 0], List.length_append, hlen] at hm3
  rw [List.append_assoc _ [doOf 9 0, doOf 3 0, doOf 8 0], List.length_append, hlen] at hm4
  have q9 : ∀ s : St, (step s (doOf 9 0)).1 = s := fun s => step_other (by decide) (by decide) (by decide)
  have q3 : ∀ s : St, (step s (doOf 3 0)).1 = s := fun s => step_other (by decide) (by decide) (by decide)
  rw [(run_app (start d p 1) ([doPut 1 (evs2 5)] ++ spoilD t y U) _).2, run_cons, q9] at hm2 hm3 hm4
  rw [run_cons, q3] at hm3 hm4
  rw [run_cons] at hm4
  have hdl : ((run (start d p 1) ([doPut 1 (evs2 5)] ++ spoilD t y U)).1.disks.length : Int) = d + p := by rw [hl1]; exact hdk
  clear hrun hr1 hl1 hS hc htot hone hdk
  generalize hs : (run (start d p 1) ([doPut 1 (evs2 5)] ++ spoilD t y U)).1 = s1 at *
  have hsg := h1.one
  -- what is wrong is what was turned
  have hwr : (wr s1.disks 0 (L 0)).length = U.length := by
    refine Nat.le_antisymm ?_ ?_
    · have := few_list (U := U) (n := U.length) (Int.le_refl _) (wr s1.disks 0 (L 0)) (List.nodup_range.filter _) (fun u hu => h1.core.wr_safe h1.ok (by rw [hsg]; decide) hu)
      omega
    · have := nodup_sub (U.map Int.toNat) (wr s1.disks 0 (L 0)) (by
        refine List.Pairwise.map _ (fun a b hab => ?_) (List.Pairwise.and_mem.1 hn)
        obtain ⟨ha, hb, hab⟩ := hab
        have := rU a ha
        have := rU b hb
        intro e; exact hab (by omega)) (fun x hx => by
        obtain ⟨u, hu, rfl⟩ := List.mem_map.1 hx
        have hru := rU u hu
        have hlt : u.toNat < s1.disks.length := by omega
        refine List.mem_filter.2 ⟨List.mem_range.2 (by rw [h1.core.len h1.ok (by rw [hsg]; decide)]; exact hlt), ?_⟩
        rw [decide_eq_false (h1.diff u.toNat (by rw [show ((u.toNat : Nat) : Int) = u by omega]; exact hu) hlt)]; rfl)
      rwa [List.length_map] at this
  have hbad : (Stp.badL (blocks s1.disks ((0 : Nat) : Int)) ((0 : Nat) : Int) s1.disks.length).length = U.length := by rw [h1.core.bad_len h1.ok (k := 0) (by rw [hsg]; decide), hwr]
  have hj1 : J s1 [⟨1, evs2 5⟩] had (fun i => (i : Int) ∈ U) K := ⟨h1.ok, h1.inv, G, L, h1.core, h1.tot⟩
  have hfew : Few (fun i => (i : Int) ∈ U) s1.spare := by rw [hs1]; exact few_list (by omega)
  have ha := hj1.all_ok hfew
  have hr3 := read_all ha (d := doOf 3 0) rfl rfl
  have hheal : healthTo s1.disks s1.segs = U.length := by
    rw [hsg]
    show healthTo s1.disks 0 + _ = _
    rw [hbad]
    exact Nat.zero_add _
  obtain ⟨h8, e8⟩ := hj1.scrub (d := doOf 8 0) rfl hfew
  have hno : ∀ i, ¬ isGone (step s1 (doOf 8 0)).1 i := fun i hg => by
    obtain ⟨x, hx, hgx⟩ := scrub_gone hj1 (d := doOf 8 0) rfl hg
    rw [h1.there x (List.mem_of_getElem? hx)] at hgx; cases hgx
  have hh4 := h8.healthy hno
  have hn3 : (step s1 (doOf 8 0)).2.n = p := by
    rw [step_scrub rfl]
    show (scrubTo s1.disks s1.data s1.segs).2.1 = p
    rw [hsg]
    have e0 : scrubTo s1.disks s1.data 0 = (s1.disks, 0, 0) := rfl
    by_cases hb0 : Stp.badL (blocks s1.disks ((0 : Nat) : Int)) ((0 : Nat) : Int) s1.disks.length = []
    · rw [scrub_1 e0 hb0]
      rw [hb0] at hbad
      simp only [List.length_nil] at hbad
      show (0 : Int) = p
      omega
    · have hm := h1.core.mend_ok h1.ok (k := 0) (by rw [hsg]; decide) (by rw [hwr]; omega)
      rw [scrub_3 e0 hb0 (by rw [hm])]
      show (0 : Int) + _ = p
      rw [List.filter_eq_self.2 (fun i hi => by
        have hi := List.mem_range.1 (List.mem_filter.1 hi).1
        have : (s1.disks.getD i ⟨false, []⟩) ∈ s1.disks := by simp [List.getD, hi]
        rw [h1.there _ this]; rfl), hbad]
      omega
  refine ⟨_, _, play_of hw (by rw [List.length_append, hlen]; simp only [List.length_cons, List.length_nil]; omega), by rw [run_len, List.length_append, hlen]; rfl, _, _, _, _, hm1, hm2, hm3, hm4, ?_, ?_, ?_, hn3, ?_⟩
  · rw [step_health rfl, hheal]; exact hU
  · show (step s1 (doOf 3 0)).2.err = 0; rw [hr3]
  · show (step s1 (doOf 3 0)).2.evs.length = 2; rw [hr3]; rfl
  · show (step (step s1 (doOf 8 0)).1 (doOf 9 0)).2.n = 0
    rw [step_health rfl, hh4]; rfl
end Go.Proofs.Ythhcdfjijagalaa.Sto
namespace Go.Proofs.Ythhcdfjijagalaa
open Go.RowKit Go.Maps
set_option linter.unusedVariables false
set_option linter.unusedSimpArgs false
set_option maxRecDepth 100000
theorem field_sum (x : Vw.Acc) (W : World) : (Instr.field 65 (acVal x) 1).run Try.prog W = .ok (.int .i64 x.sum) W := by kernel_rfl
set_option maxHeartbeats 2000000 in
theorem aliveT_call (w : World) : Calls Try.prog 14 #[] w (Grew (.bool true) w) := by
  obtain ⟨s, a1, a2, hP, hsum⟩ := Sto.aliveT_plain
  have HP := hid hP
  have HS := hid hsum
  have DO := hid (fun W => openT_call Sto.sa W)
  have DA := hid (fun W => addT_call Sto.sa 7 W)
  unfold Sto.sa at DO DA
  clear hP hsum
  go_enter Try.func14, Try.ntmps14
  go_wp2_with fail
  go_at_call 17; refine (DO.out _).mono ?_; rintro e w1 ⟨rfl, b1⟩
  go_wp2_with fail
  go_at_call 18; refine (DA.out _).mono ?_; rintro e w2 ⟨rfl, b2⟩
  have bA := hid (bnext b1 b2)
  have HE := hid (lit_es (w := w2) (l := Sto.evs2 7) (by decide) (fun e he => by
    simp only [Sto.evs2, List.mem_cons, List.not_mem_nil, or_false] at he
    rcases he with rfl | rfl <;> decide))
  have DP := hid (fun W => putT_call 1 (some ⟨w2.heap.size, 0, none⟩) 2 2 W)
  have bB := hid (bA.out.alloc bA.out.size (.cells (evCells (Sto.evs2 7)).toArray 32))
  clear b1 b2 DO DA
  go_wp2_with fail
  go_at_call 16; refine (DP.out _).mono ?_; rintro e w3 ⟨rfl, b3⟩
  have bC := hid (bnext bB.out b3)
  have E1 := hid (HE.out.below b3)
  clear DP b3
  have h3 := own_sl (own_one (w := w3) (e := 29) (cs := (rows do9 [⟨Sto.doPut 1 (Sto.evs2 7), some ⟨w2.heap.size, 0, none⟩, 2, 2⟩, ⟨Sto.doOf 4 0, none, 0, 0⟩]).toArray) 2 9 rfl (by decide))
  obtain ⟨da, dc, e3, hsl3⟩ := h3
  cases e3
  have DD := hid (dos_of hsl3 (fun x hx => by
    simp only [List.mem_cons, List.not_mem_nil, or_false] at hx
    rcases hx with rfl | rfl
    · exact E1.out.below ((Below.refl _ _).alloc (Nat.le_refl _) _)
    · exact Es.nil _) (fun x hx => by
    simp only [List.mem_cons, List.not_mem_nil, or_false] at hx
    rcases hx with rfl | rfl <;> exact (by decide : (⟨#[]⟩ : ByteArray).size ≤ maxLen)))
  have DPL := hid (stPlay_call 3 2 1 _ _ _ _ _ DD.out)
  clear hsl3
  go_wp2_with fail
  go_at_call 19; refine DPL.out.mono ?_; rintro e w4 ⟨m, av, ac, L, er, rfl, hM, hA, hP2, b4⟩
  have hPP := HP.out.symm.trans hP2
  simp only [Prod.mk.injEq] at hPP
  obtain ⟨hp1, hp2, hp3⟩ := hPP
  subst hp3
  obtain ⟨x1, x2, rfl⟩ : ∃ x1 x2, L = [x1, x2] := by
    have hl := congrArg List.length hp2
    rw [List.length_map] at hl
    rcases L with _ | ⟨x1, _ | ⟨x2, _ | ⟨x3, L⟩⟩⟩ <;> simp at hl
    exact ⟨x1, x2, rfl⟩
  simp only [List.map_cons, List.map_nil, List.cons.injEq, and_true] at hp2
  obtain ⟨-, hx2⟩ := hp2
  have hsum : (Vw.get x2.accs ⟨#[97]⟩).sum = 7 := by have := HS.out; rw [hx2] at this; exact this
  obtain ⟨va, vc, ta, tc, sa, sc, aa, ac2, hv, -⟩ := hM.val
  obtain ⟨-, hAm⟩ := hA.amv
  obtain ⟨ab, aoff, rfl⟩ := hAm.free (show 0 < 2 by omega)
  obtain ⟨-, -, -, z3, z4⟩ := hAm.at 1 (show 1 < 2 by omega)
  have hac := hAm.accs x2 (by simp)
  have e2 : ([x1, x2] : List Am)[1] = x2 := rfl
  rw [e2] at z3 z4
  have bD := hid (bnext (bC.out.alloc bC.out.size _) b4)
  have y3 : ∀ o : Obj, (w4.alloc o).cell? ⟨ab, aoff + 1 * 5 + 3, none⟩ = some (.int .i64 x2.u) := fun o => calloc z3
  have y4 : ∀ o : Obj, (w4.alloc o).cell? ⟨ab, aoff + 1 * 5 + 4, none⟩ = some (.slice x2.aa x2.accs.length x2.ac) := fun o => calloc z4
  simp only [Nat.reduceMul] at y3 y4
  have bX := hid (bD.out.alloc bD.out.size (.cells #[.int .i64 m.d, .int .i64 m.s, .int .i64 m.b, .slice va m.D.length vc, .int .i64 (m.g : Int), .slice ta m.T.length tc, .slice sa m.seen.length sc, .int .i64 m.u, .slice aa m.A.length ac2] 44))
  have DG := hid (vGet_call x2.u x2.aa x2.accs.length x2.ac x2.accs ⟨#[97]⟩ _ (hac.below ((Below.refl _ _).alloc (Nat.le_refl _) (.cells #[.int .i64 m.d, .int .i64 m.s, .int .i64 m.b, .slice va m.D.length vc, .int .i64 (m.g : Int), .slice ta m.T.length tc, .slice sa m.seen.length sc, .int .i64 m.u, .slice aa m.A.length ac2] 44))))
  unfold viVal at DG
  rw [hv]
  have hfs := field_sum (Vw.get x2.accs ⟨#[97]⟩)
  rw [hsum] at hfs
  clear hv z3 z4 hA hM hAm hP2 hp1 hx2 hac b4 hsum
  generalize Vw.get x2.accs ⟨#[97]⟩ = X at *
  go_wp2_with fail
  go_at_call 26; refine DG.out.mono ?_; rintro e w5 ⟨rfl, b5⟩
  go_wp2_with fail
  go_ret
  exact ⟨rfl, bnext bX.out b5⟩
end Go.Proofs.Ythhcdfjijagalaa
namespace Go.Proofs.Ythhcdfjijagalaa
open Go.RowKit Go.Maps
set_option linter.unusedVariables false
set_option linter.unusedSimpArgs false
set_option maxRecDepth 100000
theorem DoO.lit {w : World} {base : Nat} (hb : base ≤ w.heap.size) (X : List Dod) (hX : X.length ≤ 100) (he : ∀ x ∈ X, Es w x.a x.n x.cap x.d.b.evs) (hs : ∀ x ∈ X, x.d.stream.size ≤ maxLen) :
    DoO (w.alloc (.cells (rows do9 X).toArray 29)) base (.slice (some ⟨w.heap.size, 0, none⟩) X.length X.length) X := by
  refine ⟨?_, fun x hx => (he x hx).alloc _, hs, fun x hx hn b o e e2 => ?_⟩
  · have := World.ownsRow_lit (e := 29) (base := base) (size := 9) w (rows do9 X).toArray X.length hb (by unfold maxLen; omega) (by simp [rows_length do9_len])
    simpa using this
  · have h1 := (he x hx).sl
    rw [e] at h1
    have := Sl.lt h1 hn (by decide)
    have e2 : some w.heap.size = some b := e2
    injection e2 with e2
    omega
def putX (c : Int) (l : List Evt.Ev) (B : Nat) : Dod := ⟨Sto.doPut c l, some ⟨B, 0, none⟩, l.length, l.length⟩
theorem putX_ok (c : Int) (l : List Evt.Ev) (B : Nat) : (putX c l B).d.stream.size ≤ maxLen := (by decide : (⟨#[]⟩ : ByteArray).size ≤ maxLen)
theorem sa_ok : Sto.sa.size ≤ maxLen := by decide
theorem Sto.addsD_snoc (l : List Int) (n : Int) : ∀ c, Sto.addsD (l ++ [n]) c = Sto.addsD l c ++ [Sto.doPut (c + l.length) [⟨Sto.sa, 2, n⟩]] := by
  induction l with
  | nil => intro c; show [Sto.doPut c _] = [Sto.doPut (c + ((0 : Nat) : Int)) _]; rw [show c + ((0 : Nat) : Int) = c by omega]
  | cons x r ih =>
    intro c
    show Sto.doPut c _ :: Sto.addsD (r ++ [n]) (c + 1) = Sto.doPut c _ :: (Sto.addsD r (c + 1) ++ _)
    rw [ih, List.length_cons, show c + 1 + (r.length : Int) = c + ((r.length + 1 : Nat) : Int) by omega]
/-- an answer's cells, and what they hold -/
structure AnAt (w : World) (b off k : Nat) (y : Am) : Prop where
  c0 : w.cell? ⟨b, off + k * 5, none⟩ = some (.int .i64 y.err)
  c1 : w.cell? ⟨b, off + k * 5 + 1, none⟩ = some (.int .i64 y.n)
  c2 : w.cell? ⟨b, off + k * 5 + 2, none⟩ = some (.slice y.ea y.evs.length y.ec)
  c3 : w.cell? ⟨b, off + k * 5 + 3, none⟩ = some (.int .i64 y.u)
  c4 : w.cell? ⟨b, off + k * 5 + 4, none⟩ = some (.slice y.aa y.accs.length y.ac)
  evs : Es w y.ea y.evs.length y.ec y.evs
  accs : As w y.aa y.accs.length y.ac y.accs
theorem AnAt.below {w w' : World} {b off k : Nat} {y : Am} (h : AnAt w b off k y) (hb : Below w.heap.size w w') : AnAt w' b off k y :=
  have g : ∀ {q : Addr} {v : Value}, w.cell? q = some v → w'.cell? q = some v := fun e => (hb.cell (World.block_lt_of_cell? _ _ e)).trans e
  ⟨g h.c0, g h.c1, g h.c2, g h.c3, g h.c4, h.evs.below hb, h.accs.below hb⟩
theorem Ams.get {w : World} {base : Nat} {a : Option Addr} {n cap : Nat} {L : List Am} {A : List Sto.An} (h : Ams w base (.slice a n cap) L) (hA : A = L.map Am.an) {k : Nat} {x : Sto.An} (hx : A[k]? = some x) :
    ∃ b off y, a = some ⟨b, off, none⟩ ∧ k < L.length ∧ n = L.length ∧ Am.an y = x ∧ AnAt w b off k y := by
  subst hA
  obtain ⟨rfl, hv⟩ := h.amv
  have hk : k < L.length := by
    have := List.getElem?_eq_some_iff.1 hx
    simpa using this.1
  rw [List.getElem?_map, List.getElem?_eq_getElem hk] at hx
  obtain ⟨b, off, rfl⟩ := hv.free (by omega)
  obtain ⟨h0, h1, h2, h3, h4⟩ := hv.at k hk
  exact ⟨b, off, L[k], rfl, hk, rfl, by simpa using hx, h0, h1, h2, h3, h4, hv.evs _ (List.getElem_mem hk), hv.accs _ (List.getElem_mem hk)⟩
theorem wrong_small {d p b : Int} (h : smallP d p) (h1 : 1 ≤ b) (h2 : b ≤ 10) : Sto.wrongS d p b = 0 := by
  obtain ⟨h3, h4, h5, h6⟩ := h
  have e : Mat.wrongC d p = 0 := by unfold Mat.wrongC; rw [if_neg (by omega)]
  unfold Sto.wrongS
  rw [e, if_neg (by decide), if_neg (by omega)]
end Go.Proofs.Ythhcdfjijagalaa
namespace Go.Proofs.Ythhcdfjijagalaa
open Go.RowKit Go.Maps
set_option linter.unusedVariables false
set_option linter.unusedSimpArgs false
set_option maxRecDepth 100000
/-- a row of its own that is what is done -/
structure RowL (w wr : World) (v : Value) (l : List Sto.Do) (X : List Dod) : Prop where
  row : DoO wr w.heap.size v X
  eq : X.map Dod.d = l
  below : Below w.heap.size w wr
theorem RowL.len {w wr : World} {v : Value} {l : List Sto.Do} {X : List Dod} (h : RowL w wr v l X) : X.length = l.length := by rw [← h.eq, List.length_map]
theorem RowL.next {w wr W w5 : World} {v v5 : Value} {l : List Sto.Do} {n' : Nat} {X Y : List Dod} (h : RowL w wr v l X) (hb : Below wr.heap.size wr W)
    (o : OT W w5 v.ownBlock w.heap.size 29 9 v5 n' (rows do9 X ++ rows do9 Y)) (hn : n' = X.length + Y.length) (hgr : W.grownBy w5 v.ownBlock)
    (he : ∀ x ∈ Y, Es W x.a x.n x.cap x.d.b.evs) (hs : ∀ x ∈ Y, x.d.stream.size ≤ maxLen) (ho : ∀ x ∈ Y, 0 < x.n → ∀ b o, x.a = some ⟨b, o, none⟩ → wr.heap.size ≤ b) :
    RowL w w5 v5 (l ++ Y.map Dod.d) (X ++ Y) := by
  have hbw := bnext h.below hb
  refine ⟨(h.row.below hb).more o hn hgr he hs (fun x hx hn b o e e2 => ?_), by rw [List.map_append, h.eq], hbw.grown hgr hbw.size (fun q hq => (h.row.own.lt q hq).1)⟩
  have h1 := ho x hx hn b o e
  have := (h.row.own.lt _ e2).2
  omega
/-- what needs no events -/
def bareX (d : Sto.Do) : Dod := ⟨d, none, 0, 0⟩
def Sto.Bare (d : Sto.Do) : Prop := d.b.evs = [] ∧ d.stream = ⟨#[]⟩
theorem RowL.bare {w wr w5 : World} {v v5 : Value} {l m : List Sto.Do} {n' : Nat} {X : List Dod} {O : Obj} (h : RowL w wr v l X) (hm : ∀ d ∈ m, Sto.Bare d)
    (o : OT (wr.alloc O) w5 v.ownBlock w.heap.size 29 9 v5 n' (rows do9 X ++ rows do9 (m.map bareX))) (hn : n' = X.length + m.length) (hgr : (wr.alloc O).grownBy w5 v.ownBlock) :
    RowL w w5 v5 (l ++ m) (X ++ m.map bareX) := by
  have hall : ∀ x ∈ m.map bareX, x.a = none ∧ x.n = 0 ∧ x.cap = 0 ∧ Sto.Bare x.d := fun x hx => by
    obtain ⟨d, hd, rfl⟩ := List.mem_map.1 hx
    exact ⟨rfl, rfl, rfl, hm d hd⟩
  have e : (m.map bareX).map Dod.d = m := by
    rw [List.map_map]; exact List.map_id m
  have := h.next ((Below.refl wr.heap.size wr).alloc (Nat.le_refl _) O) o (by rw [List.length_map]; exact hn) hgr (fun x hx => by
    obtain ⟨h1, h2, h3, h4, _⟩ := hall x hx
    rw [h1, h2, h3, h4]; exact Es.nil _) (fun x hx => by
    obtain ⟨_, _, _, _, h5⟩ := hall x hx
    rw [h5]; exact (by decide : (⟨#[]⟩ : ByteArray).size ≤ maxLen)) (fun x hx hn => by
    obtain ⟨_, h2, _⟩ := hall x hx
    omega)
  rwa [e] at this
theorem RowL.dos {w wr : World} {v : Value} {l : List Sto.Do} {X : List Dod} (h : RowL w wr v l X) : ∃ a cap, v = .slice a l.length cap ∧ Dos wr a l.length cap l := by
  obtain ⟨a, cap, e, hd⟩ := h.row.dos
  rw [h.eq] at hd
  rw [h.len] at hd e
  exact ⟨a, cap, e, hd⟩
theorem bare_of (k n : Int) : Sto.Bare (Sto.doOf k n) := ⟨rfl, rfl⟩
theorem Ams.gets {w : World} {base : Nat} {a : Option Addr} {n cap : Nat} {L : List Am} {A : List Sto.An} (h : Ams w base (.slice a n cap) L) (hA : A = L.map Am.an) (hp : 0 < A.length) :
    ∃ b off, a = some ⟨b, off, none⟩ ∧ n = A.length ∧ L.length = A.length ∧ ∀ k x, A[k]? = some x → ∃ y, Am.an y = x ∧ k < A.length ∧ AnAt w b off k y := by
  subst hA
  obtain ⟨rfl, hv⟩ := h.amv
  rw [List.length_map] at hp ⊢
  obtain ⟨b, off, rfl⟩ := hv.free (by omega)
  refine ⟨b, off, rfl, rfl, rfl, fun k x hx => ?_⟩
  obtain ⟨b', off', y, e, h1, _, h2, h3⟩ := h.get rfl hx
  cases e
  exact ⟨y, h2, h1, h3⟩
/-! ### disks in turn -/
def turnU (F N : Int) (k : Nat) : List Int := (List.range k).map fun j : Nat => Int.tmod (F + (j : Int)) N
theorem turnU_len (F N : Int) (k : Nat) : (turnU F N k).length = k := by simp [turnU]
theorem turnU_succ (F N : Int) (k : Nat) : turnU F N (k + 1) = turnU F N k ++ [Int.tmod (F + (k : Int)) N] := by
  unfold turnU; rw [List.range_succ, List.map_append]; rfl
theorem tmod_two {x N : Int} (h0 : 0 ≤ x) (h1 : x < 2 * N) : Int.tmod x N = if x < N then x else x - N := by
  rw [Int.tmod_eq_emod_of_nonneg h0]
  split
  · next h => exact Int.emod_eq_of_lt h0 h
  · next h =>
    rw [← Int.sub_emod_right x N]
    exact Int.emod_eq_of_lt (by omega) (by omega)
theorem tmod_in {x N : Int} (h0 : 0 ≤ x) (hN : 0 < N) : 0 ≤ Int.tmod x N ∧ Int.tmod x N < N := by
  rw [Int.tmod_eq_emod_of_nonneg h0]
  exact ⟨Int.emod_nonneg _ (by omega), Int.emod_lt_of_pos _ hN⟩
theorem turnU_in {F N : Int} (hF : 0 ≤ F) (hN : 0 < N) (k : Nat) : ∀ u ∈ turnU F N k, 0 ≤ u ∧ u < N := fun u hu => by
  obtain ⟨j, _, rfl⟩ := List.mem_map.1 hu
  exact tmod_in (by omega) hN
theorem turnU_nodup {F N : Int} (hF : 0 ≤ F) (hF2 : F < N) {k : Nat} (hk : (k : Int) ≤ N) : (turnU F N k).Nodup := by
  unfold turnU List.Nodup
  rw [List.pairwise_map]
  refine List.Pairwise.imp_of_mem (R := fun a b => a ≠ b) (fun {a b} ha hb hab => ?_) (List.nodup_range)
  rw [List.mem_range] at ha hb
  rw [tmod_two (by omega) (by omega), tmod_two (by omega) (by omega)]
  split <;> split <;> omega
theorem Sto.hurtD_snoc (k : Int) (U : List Int) (u : Int) : Sto.hurtD k (U ++ [u]) = Sto.hurtD k U ++ [Sto.doOf k u] := by unfold Sto.hurtD; rw [List.map_append]; rfl
theorem Sto.spoilD_snoc (t : Int) (y : UInt8) (U : List Int) (u : Int) : Sto.spoilD t y (U ++ [u]) = Sto.spoilD t y U ++ [⟨7, u, 0, t, y, ⟨0, []⟩, ⟨#[]⟩, 0⟩] := by unfold Sto.spoilD; rw [List.map_append]; rfl
end Go.Proofs.Ythhcdfjijagalaa
