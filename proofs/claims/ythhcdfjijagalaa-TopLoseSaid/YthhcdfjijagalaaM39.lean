/- Joined, and what is not used struck: SoG, SpL. -/
import Derived.Test.YthhcdfjijagalaaM38
namespace Go.Proofs.Ythhcdfjijagalaa.Sto
set_option linter.unusedVariables false
theorem run_mid (s : St) (A : List Do) (d : Do) (B : List Do) : (run s (A ++ d :: B)).2[A.length]? = some (step (run s A).1 d).2 := by
  rw [(run_app s A (d :: B)).1, List.getElem?_append_right (by rw [run_len]; exact Nat.le_refl _), run_len, Nat.sub_self, run_cons]
  rfl
def opA : Do := doPut 1 [⟨sa, 1, 0⟩]
def evA (l : List Int) : List Evt.Ev := ⟨sa, 1, 0⟩ :: l.map fun n => ⟨sa, 2, n⟩
theorem events_opened (l : List Int) : events (⟨1, [⟨sa, 1, 0⟩]⟩ :: addsB l 2) = evA l := by
  show [(⟨sa, 1, 0⟩ : Evt.Ev)] ++ events (addsB l 2) = _
  rw [events_adds]; rfl
theorem few_none {n : Int} (hn : 0 ≤ n) : Few (fun _ => False) n := fun U _ hs => by
  cases U with
  | nil => simpa using hn
  | cons u r => exact absurd (hs u (by simp)) (fun h => h)
/-- disks are lost, all is read, they are swapped, all is scrubbed -/
def roundD (U : List Int) : List Do := hurtD 5 U ++ doOf 3 0 :: (hurtD 6 U ++ [doOf 8 0])
theorem hurtD_len (k : Int) (U : List Int) : (hurtD k U).length = U.length := by simp [hurtD]
theorem scrub_gone {s : St} {X : List Evt.Ba} {had : List (Int × Int)} {H : Nat → Prop} {K : Nat} (h : J s X had H K) {d : Do} (hd : d.kind = 8) {i : Nat} (hg : isGone (step s d).1 i) : isGone s i := by
  have := gone_step h d hg
  rwa [if_neg (by omega)] at this
theorem round_plain {s : St} {X : List Evt.Ba} {K : Nat} (h : J s X [] (fun _ => False) K) (U : List Int) (hU : (U.length : Int) ≤ s.spare) (hr : ∀ u ∈ U, 0 ≤ u ∧ u < s.disks.length) :
    (∃ K', J (run s (roundD U)).1 X [] (fun _ => False) K') ∧ ∃ x, (run s (roundD U)).2[U.length]? = some x ∧ x.err = 0 ∧ x.evs = events X := by
  have h1 := h.hurts 5 (.inl rfl) U
  have hs1 := run_spare s (hurtD 5 U)
  have hf : Few (fun i => False ∨ (i : Int) ∈ U) s.spare := (few_list hU).mono (fun i hi => by rcases hi with hi | hi; exact absurd hi (fun q => q); exact hi) (Int.le_refl _)
  have ha := h1.all_ok (by rw [hs1]; exact hf)
  have hr1 := read_all ha (d := doOf 3 0) rfl rfl
  have hst : (step (run s (hurtD 5 U)).1 (doOf 3 0)).1 = (run s (hurtD 5 U)).1 := step_other (by decide) (by decide) (by decide)
  have h2 := h1.hurts 6 (.inr rfl) U
  have hs2 := run_spare (run s (hurtD 5 U)).1 (hurtD 6 U)
  have hf2 : Few (fun i => (False ∨ (i : Int) ∈ U) ∨ (i : Int) ∈ U) s.spare := (few_list hU).mono (fun i hi => by
    rcases hi with (hi | hi) | hi
    · exact absurd hi (fun q => q)
    · exact hi
    · exact hi) (Int.le_refl _)
  obtain ⟨h3, e3⟩ := h2.scrub (d := doOf 8 0) rfl (by rw [hs2, hs1]; exact hf2)
  have hdl : (run s (hurtD 5 U)).1.disks.length = s.disks.length := by
    have a1 := h1.ok.nd
    have a2 := h.ok.nd
    have a3 := (run_batches s (hurtD 5 U)).2
    rw [a3, hs1] at a1
    omega
  have hno : ∀ i, ¬ isGone (step (run (run s (hurtD 5 U)).1 (hurtD 6 U)).1 (doOf 8 0)).1 i := fun i hg => by
    have g1 := scrub_gone h2 (d := doOf 8 0) rfl hg
    obtain ⟨g2, g3⟩ := swapped h1 U i g1
    rcases h1.gone g2 with g4 | g4
    · exact g4
    · have := g3 g4
      have := hr _ g4
      rw [hdl] at *
      omega
  refine ⟨⟨K + U.length + U.length + 1, ?_⟩, (step (run s (hurtD 5 U)).1 (doOf 3 0)).2, ?_, ?_⟩
  · unfold roundD
    rw [(run_app s (hurtD 5 U) _).2, run_cons, hst, (run_app _ (hurtD 6 U) _).2]
    exact h3.mono (fun i hi => hno i hi)
  · have := run_mid s (hurtD 5 U) (doOf 3 0) (hurtD 6 U ++ [doOf 8 0])
    rw [hurtD_len] at this
    exact this
  · rw [hr1]; exact ⟨rfl, rfl⟩
theorem round_len (U : List Int) : (roundD U).length = 2 * U.length + 2 := by
  unfold roundD
  rw [List.length_append, List.length_cons, List.length_append, hurtD_len, hurtD_len]; simp only [List.length_cons, List.length_nil]; omega
theorem start_disks {d p b : Int} (hw : wrongS d p b = 0) (l : List Do) : ((run (start d p b) l).1.disks.length : Int) = d + p := by
  have h1 := ((Ok.start hw).run l).nd
  rw [run_spare, (run_batches _ l).2] at h1
  exact h1
/-- LOSE ANY OF THEM -/
theorem lose_plain {d p : Int} (hw : wrongS d p 2 = 0) (l : List Int) (hl : ∀ n ∈ l, 0 ≤ n ∧ n ≤ 1000000) (hlen : l.length ≤ 30) (U V : List Int) (hU : (U.length : Int) = p) (hV : (V.length : Int) = p) (rU : ∀ u ∈ U, 0 ≤ u ∧ u < d + p) (rV : ∀ u ∈ V, 0 ≤ u ∧ u < d + p) :
    ∃ s a, play d p 2 (opA :: addsD l 2 ++ roundD U ++ roundD V ++ [doOf 3 0, doOf 9 0]) = (s, a, 0) ∧ a.length = l.length + 1 + (2 * U.length + 2) + (2 * V.length + 2) + 2 ∧
      (∃ x, a[l.length + 1 + U.length]? = some x ∧ x.err = 0 ∧ x.evs = evA l) ∧ (∃ x, a[l.length + 1 + (2 * U.length + 2) + V.length]? = some x ∧ x.err = 0 ∧ x.evs = evA l) ∧
      (∃ x, a[l.length + 1 + (2 * U.length + 2) + (2 * V.length + 2)]? = some x ∧ x.err = 0 ∧ x.evs = evA l) ∧ (∃ x, a[l.length + 1 + (2 * U.length + 2) + (2 * V.length + 2) + 1]? = some x ∧ x.n = 0) := by
  obtain ⟨K, S, h⟩ := opened hw l hl hlen
  have hp := (start_J hw).ok.sp
  have hp : 0 ≤ p ∧ p ≤ 4 := hp
  have hsp : ∀ m, (run (start d p 2) m).1.spare = p := fun m => run_spare _ m
  have hA : (opA :: addsD l 2).length = l.length + 1 := by rw [List.length_cons, addsD_len]
  have hj0 : J (run (start d p 2) (opA :: addsD l 2)).1 _ [] (fun _ => False) K := h.j
  obtain ⟨⟨K1, h1⟩, x1, hx1, hx2, hx3⟩ := round_plain hj0 U (by rw [hsp]; omega) (fun u hu => by rw [start_disks hw]; exact rU u hu)
  rw [← (run_app (start d p 2) (opA :: addsD l 2) (roundD U)).2] at h1
  obtain ⟨⟨K2, h2⟩, y1, hy1, hy2, hy3⟩ := round_plain h1 V (by rw [hsp]; omega) (fun u hu => by rw [start_disks hw]; exact rV u hu)
  rw [← (run_app (start d p 2) (opA :: addsD l 2 ++ roundD U) (roundD V)).2] at h2
  have ha := h2.all_ok (few_none (by rw [hsp]; exact hp.1))
  have hr := read_all ha (d := doOf 3 0) rfl rfl
  have hst : (step (run (start d p 2) (opA :: addsD l 2 ++ roundD U ++ roundD V)).1 (doOf 3 0)).1 = (run (start d p 2) (opA :: addsD l 2 ++ roundD U ++ roundD V)).1 := step_other (by decide) (by decide) (by decide)
  have hh := h2.healthy (fun i hi => hi)
  have hlenA : (opA :: addsD l 2 ++ roundD U).length = l.length + 1 + (2 * U.length + 2) := by rw [List.length_append, hA, round_len]
  have hlenB : (opA :: addsD l 2 ++ roundD U ++ roundD V).length = l.length + 1 + (2 * U.length + 2) + (2 * V.length + 2) := by rw [List.length_append, hlenA, round_len]
  have hU4 : U.length ≤ 4 := by omega
  have hV4 : V.length ≤ 4 := by omega
  have hfull : opA :: addsD l 2 ++ roundD U ++ roundD V ++ [doOf 3 0, doOf 9 0] = (opA :: addsD l 2 ++ roundD U ++ roundD V) ++ doOf 3 0 :: [doOf 9 0] := rfl
  have hfull2 : opA :: addsD l 2 ++ roundD U ++ roundD V ++ [doOf 3 0, doOf 9 0] = (opA :: addsD l 2 ++ roundD U ++ roundD V ++ [doOf 3 0]) ++ doOf 9 0 :: [] := by simp
  have hans := (run_app (start d p 2) (opA :: addsD l 2 ++ roundD U ++ roundD V) [doOf 3 0, doOf 9 0]).1
  have hans2 := (run_app (start d p 2) (opA :: addsD l 2 ++ roundD U) (roundD V)).1
  have hans3 := (run_app (start d p 2) (opA :: addsD l 2) (roundD U)).1
  have r1 : (run (start d p 2) (opA :: addsD l 2)).2.length = l.length + 1 := by rw [run_len, hA]
  have r2 : (run (start d p 2) (opA :: addsD l 2 ++ roundD U)).2.length = l.length + 1 + (2 * U.length + 2) := by rw [run_len, hlenA]
  have r3 : (run (start d p 2) (opA :: addsD l 2 ++ roundD U ++ roundD V)).2.length = l.length + 1 + (2 * U.length + 2) + (2 * V.length + 2) := by rw [run_len, hlenB]
  refine ⟨_, _, play_of hw (by rw [List.length_append, hlenB]; simp only [List.length_cons, List.length_nil]; omega), by rw [run_len, List.length_append, hlenB]; rfl, ⟨x1, ?_, hx2, by rw [hx3]; exact events_opened l⟩, ⟨y1, ?_, hy2, by rw [hy3]; exact events_opened l⟩, ⟨(step (run (start d p 2) (opA :: addsD l 2 ++ roundD U ++ roundD V)).1 (doOf 3 0)).2, ?_, ?_⟩, ⟨(step (run (start d p 2) (opA :: addsD l 2 ++ roundD U ++ roundD V ++ [doOf 3 0])).1 (doOf 9 0)).2, ?_, ?_⟩⟩
  · rw [hans, List.getElem?_append_left (by rw [r3]; omega), hans2, List.getElem?_append_left (by rw [r2]; omega), hans3, List.getElem?_append_right (by rw [r1]; omega), r1, show l.length + 1 + U.length - (l.length + 1) = U.length by omega]
    exact hx1
  · rw [hans, List.getElem?_append_left (by rw [r3]; omega), hans2, List.getElem?_append_right (by rw [r2]; omega), r2, show l.length + 1 + (2 * U.length + 2) + V.length - (l.length + 1 + (2 * U.length + 2)) = V.length by omega]
    exact hy1
  · have := run_mid (start d p 2) (opA :: addsD l 2 ++ roundD U ++ roundD V) (doOf 3 0) [doOf 9 0]
    rw [hlenB] at this
    exact this
  · rw [hr]; exact ⟨rfl, events_opened l⟩
  · have := run_mid (start d p 2) (opA :: addsD l 2 ++ roundD U ++ roundD V ++ [doOf 3 0]) (doOf 9 0) []
    rw [← hfull2, List.length_append, hlenB] at this
    exact this
  · rw [run_snoc', hst, step_health rfl, hh]; rfl
/-! ### too many are lost -/
theorem lose_gone {s : St} {n : Int} {i : Nat} (h : isGone s i ∨ ((i : Int) = n ∧ n < s.disks.length)) : isGone (step s (doOf 5 n)).1 i := by
  rw [step_harm (.inl rfl)]
  rcases harm_cases s (doOf 5 n) with ⟨e1, e2⟩ | ⟨e1, e2, e3, e4⟩
  · rw [e1]
    rcases h with h | ⟨h1, h2⟩
    · exact h
    · unfold harm at e2
      have hn : ¬ ((doOf 5 n).n < 0 ∨ (s.disks.length : Int) ≤ (doOf 5 n).n) := by show ¬ (n < 0 ∨ (s.disks.length : Int) ≤ n); omega
      have k6 : ¬ (doOf 5 n).kind = 6 := show ¬ (5 : Int) = 6 by decide
      have k5 : (doOf 5 n).kind = 5 := rfl
      rw [if_neg hn, if_neg k6, if_pos k5] at e2
      by_cases hg : (s.disks.getD (doOf 5 n).n.toNat ⟨false, []⟩).gone = true
      · have hx := disk_at (s := s) (n := n) (by omega) h2
        have : n.toNat = i := by omega
        rw [this] at hx
        refine ⟨_, hx, ?_⟩
        have hg : (s.disks.getD n.toNat ⟨false, []⟩).gone = true := hg
        rw [this] at hg; exact hg
      · rw [if_neg hg] at e2
        exact absurd rfl e2
  · rcases e4 with ⟨e4, _⟩ | ⟨_, _, e4⟩ | ⟨_, e4, _⟩
    · exact absurd e4 (show ¬ (5 : Int) = 6 by decide)
    · rw [e4]
      have e2 : 0 ≤ n := e2
      have e3 : n < s.disks.length := e3
      have hlt : n.toNat < s.disks.length := by omega
      show ∃ x, (s.disks.set n.toNat ⟨true, []⟩)[i]? = some x ∧ x.gone = true
      by_cases hi : n.toNat = i
      · subst hi
        exact ⟨_, List.getElem?_set_self hlt, rfl⟩
      · rw [List.getElem?_set_ne hi]
        rcases h with h | ⟨h1, _⟩
        · exact h
        · omega
    · exact absurd (show (5 : Int) = 5 from rfl) e4
theorem step5_len (s : St) (n : Int) : (step s (doOf 5 n)).1.disks.length = s.disks.length := by
  rw [step_harm (.inl rfl)]
  rcases harm_cases s (doOf 5 n) with ⟨e1, _⟩ | ⟨_, _, _, ⟨_, e1⟩ | ⟨_, _, e1⟩ | ⟨_, _, _, _, _, _, e1⟩⟩ <;> rw [e1]
  · show (s.disks.set _ _).length = _; rw [List.length_set]
  · show (s.disks.set _ _).length = _; rw [List.length_set]
  · show (s.disks.set _ _).length = _; rw [List.length_set]
theorem lost_gone (U : List Int) : ∀ (s : St) (i : Nat), (isGone s i ∨ ((i : Int) ∈ U ∧ i < s.disks.length)) → isGone (run s (hurtD 5 U)).1 i := by
  induction U with
  | nil => intro s i h; rcases h with h | ⟨h, _⟩; exact h; cases h
  | cons u r ih =>
    intro s i h
    unfold hurtD
    rw [List.map_cons, run_cons]
    refine ih _ i ?_
    rcases h with h | ⟨h1, h2⟩
    · exact .inl (lose_gone (.inl h))
    · rcases List.mem_cons.1 h1 with h1 | h1
      · exact .inl (lose_gone (.inr ⟨h1, by omega⟩))
      · exact .inr ⟨h1, by rw [step5_len]; exact h2⟩
/-- ONE MORE THAN THERE ARE SPARE -/
theorem more_lost {s : St} {X : List Evt.Ba} {K : Nat} (h : J s X [] (fun _ => False) K) (hs : 1 ≤ s.segs) (U : List Int) (hn : U.Nodup) (hU : (U.length : Int) = s.spare + 1) (hr : ∀ u ∈ U, 0 ≤ u ∧ u < s.disks.length) :
    (step (run s (hurtD 5 U)).1 (doOf 3 0)).2.err = 10 ∧ (step (run s (hurtD 5 U)).1 (doOf 8 0)).2.err = 10 := by
  have h1 := h.hurts 5 (.inl rfl) U
  have hsp := run_spare s (hurtD 5 U)
  have hdl : (run s (hurtD 5 U)).1.disks.length = s.disks.length := by
    have a1 := h1.ok.nd
    have a2 := h.ok.nd
    rw [(run_batches s (hurtD 5 U)).2, hsp] at a1
    omega
  have hsg : (run s (hurtD 5 U)).1.segs = s.segs := by
    have : ∀ (U : List Int) (s : St), (run s (hurtD 5 U)).1.segs = s.segs := by
      intro U
      induction U with
      | nil => intro s; rfl
      | cons u r ih =>
        intro s
        unfold hurtD at *
        rw [List.map_cons, run_cons]
        show (run _ _).1.segs = _
        rw [ih, step_harm (.inl rfl), (harm_rest _ _).1]
    exact this U s
  have hg := fun (u : Int) (hu : u ∈ U) => lost_gone U s u.toNat (.inr ⟨by have := hr u hu; rw [show ((u.toNat : Nat) : Int) = u by omega]; exact hu, by have := hr u hu; omega⟩)
  generalize (run s (hurtD 5 U)).1 = s1 at *
  have hcnt : U.length ≤ (gonePl s1.disks).length := by
    have := nodup_sub (U.map Int.toNat) (gonePl s1.disks) (by
      refine List.Pairwise.map _ (fun a b hab => ?_) (List.Pairwise.and_mem.1 hn)
      obtain ⟨ha, hb, hab⟩ := hab
      have := hr a ha
      have := hr b hb
      intro e; exact hab (by omega)) (fun x hx => by
      obtain ⟨u, hu, rfl⟩ := List.mem_map.1 hx
      exact mem_gonePl.2 (hg u hu))
    rwa [List.length_map] at this
  obtain ⟨G, L, hc, _⟩ := h1.core
  have hwr : (gonePl s1.disks).length ≤ (wr s1.disks 0 (L 0)).length := nodup_sub _ _ (List.nodup_range.filter _) (fun u hu => by
    obtain ⟨x, hx, hgx⟩ := mem_gonePl.1 hu
    have hlt := (List.getElem?_eq_some_iff.1 hx).1
    refine List.mem_filter.2 ⟨List.mem_range.2 (by rw [hc.len h1.ok (by omega)]; exact hlt), ?_⟩
    have hb : (blocks s1.disks ((0 : Nat) : Int)).getD u [] = [] := by
      rw [blocks_row _ _ _ hx]
      unfold blockOf
      rw [if_pos hgx]
    rw [hb]
    have := hc.ne h1.ok (k := 0) (by omega) hlt
    rw [decide_eq_false (fun e => this e.symm)]; rfl)
  refine ⟨?_, ?_⟩
  · have ha := hc.all_lost h1.ok (k := 0) (by omega) (by omega)
    have : (step s1 (doOf 3 0)).2 = read s1 (doOf 3 0) := by unfold step; rw [if_neg (by decide), if_pos (.inr rfl)]
    rw [this]
    unfold read
    rw [ha, if_pos (by decide)]; rfl
  · rw [step_scrub rfl]
    rcases h1.scrub_err with he | he
    · exfalso
      obtain ⟨⟨_, h2⟩, h3⟩ := clean_to (p := s1.spare) hc.gone h1.ok.nd s1.segs
      have h4 := h3 he 0 (by omega)
      rcases h4 with ⟨h4, _⟩ | ⟨b, L', _, h4, _⟩
      · rw [h2] at h4
        rw [h4] at hcnt
        simp only [List.length_nil] at hcnt
        have := h.ok.sp
        omega
      · rw [h2] at h4; omega
    · exact he
theorem more_plain {d p b : Int} (hw : wrongS d p b = 0) (hb : b = 1 ∨ b = 9) (U : List Int) (hn : U.Nodup) (hU : (U.length : Int) = p + 1) (rU : ∀ u ∈ U, 0 ≤ u ∧ u < d + p) :
    ∃ s a, play d p b ([opA, doPut 2 [⟨sa, 2, 5⟩]] ++ hurtD 5 U ++ [doOf 3 0, doOf 8 0]) = (s, a, 0) ∧ a.length = U.length + 4 ∧ ∃ x y, a[U.length + 2]? = some x ∧ a[U.length + 3]? = some y ∧ (b = 1 → x.err = 10 ∧ y.err = 10) ∧ (b = 9 → x.err = 0 ∧ x.evs.length = 2 ∧ y.err = 0) := by
  obtain ⟨K, S, h⟩ := opened hw [5] (by simp) (by simp)
  have e0 : (doPut 1 [⟨sa, 1, 0⟩] :: addsD [5] 2) = [opA, doPut 2 [⟨sa, 2, 5⟩]] := rfl
  rw [e0] at h
  have hp := (start_J hw).ok.sp
  have hp : 0 ≤ p ∧ p ≤ 4 := hp
  have hsp : (run (start d p b) [opA, doPut 2 [⟨sa, 2, 5⟩]]).1.spare = p := run_spare _ _
  have hba : (run (start d p b) [opA, doPut 2 [⟨sa, 2, 5⟩]]).1.batches = b := (run_batches _ _).1
  have hcn := h.cnt
  have ht := h.j.ok.t
  unfold Cnt at hcn
  have e2 : ((⟨1, [⟨sa, 1, 0⟩]⟩ :: addsB [5] 2 : List Evt.Ba).length : Int) = 2 := rfl
  rw [hba, e2] at hcn
  rw [hba] at ht
  have hdk := start_disks hw [opA, doPut 2 [⟨sa, 2, 5⟩]]
  have hlen : ([opA, doPut 2 [⟨sa, 2, 5⟩]] ++ hurtD 5 U).length = U.length + 2 := by rw [List.length_append, hurtD_len]; simp only [List.length_cons, List.length_nil]; omega
  have hm1 := run_mid (start d p b) ([opA, doPut 2 [⟨sa, 2, 5⟩]] ++ hurtD 5 U) (doOf 3 0) [doOf 8 0]
  have hm2 := run_mid (start d p b) ([opA, doPut 2 [⟨sa, 2, 5⟩]] ++ hurtD 5 U ++ [doOf 3 0]) (doOf 8 0) []
  rw [hlen] at hm1
  rw [List.append_assoc _ [doOf 3 0], List.length_append, hlen, run_snoc'] at hm2
  have hst : (step (run (start d p b) ([opA, doPut 2 [⟨sa, 2, 5⟩]] ++ hurtD 5 U)).1 (doOf 3 0)).1 = (run (start d p b) ([opA, doPut 2 [⟨sa, 2, 5⟩]] ++ hurtD 5 U)).1 := step_other (by decide) (by decide) (by decide)
  rw [hst] at hm2
  rw [(run_app (start d p b) [opA, doPut 2 [⟨sa, 2, 5⟩]] (hurtD 5 U)).2] at hm1 hm2
  refine ⟨_, _, play_of hw (by rw [List.length_append, hlen]; simp only [List.length_cons, List.length_nil]; omega), by rw [run_len, List.length_append, hlen]; rfl, _, _, hm1, hm2, fun hb1 => ?_, fun hb9 => ?_⟩
  · subst hb1
    exact more_lost h.j (by omega) U hn (by rw [hsp]; exact hU) (fun u hu => by rw [hdk]; exact rU u hu)
  · subst hb9
    have h1 := h.j.hurts 5 (.inl rfl) U
    have hsg : (run (run (start d p 9) [opA, doPut 2 [⟨sa, 2, 5⟩]]).1 (hurtD 5 U)).1.segs = 0 := by
      have : ∀ (U : List Int) (s : St), (run s (hurtD 5 U)).1.segs = s.segs := by
        intro U
        induction U with
        | nil => intro s; rfl
        | cons u r ih =>
          intro s
          unfold hurtD at *
          rw [List.map_cons, run_cons]
          show (run _ _).1.segs = _
          rw [ih, step_harm (.inl rfl), (harm_rest _ _).1]
      rw [this]; omega
    obtain ⟨G, L, hc, htot⟩ := h1.core
    have ha := hc.all_ok h1.ok (fun j hj => by omega)
    rw [htot] at ha
    have hr := read_all ha (d := doOf 3 0) rfl rfl
    refine ⟨by rw [hr], by rw [hr]; rfl, ?_⟩
    rw [step_scrub rfl]
    show (scrubTo _ _ _).2.2 = 0
    rw [hsg]; rfl
end Go.Proofs.Ythhcdfjijagalaa.Sto
namespace Go.Proofs.Ythhcdfjijagalaa
open Go.RowKit Go.Maps
set_option linter.unusedVariables false
set_option linter.unusedSimpArgs false
set_option maxRecDepth 100000
theorem info_Do : (Try.prog.info? 29).map (fun i => (i.zero, i.size, i.bytes)) = some (some (.agg #[.int .i64 0, .int .i64 0, .int .i64 0, .int .i64 0, .int .u8 0, .int .i64 0, .slice none 0 0, .string ⟨#[]⟩, .int .i64 0]), 9, 96) := by kernel_rfl
/-- a row of its own of what is done, whose events lie elsewhere -/
structure DoO (w : World) (base : Nat) (v : Value) (X : List Dod) : Prop where
  own : w.ownsRow base 29 9 v X.length (rows do9 X)
  evs : ∀ x ∈ X, Es w x.a x.n x.cap x.d.b.evs
  ok : ∀ x ∈ X, x.d.stream.size ≤ maxLen
  off : ∀ x ∈ X, 0 < x.n → ∀ b o, x.a = some ⟨b, o, none⟩ → v.ownBlock ≠ some b
theorem DoO.below {w w' : World} {base : Nat} {v : Value} {X : List Dod} (h : DoO w base v X) (hb : Below w.heap.size w w') : DoO w' base v X :=
  ⟨own_below h.own hb, fun x hx => (h.evs x hx).below hb, h.ok, h.off⟩
theorem DoO.alloc {w : World} {base : Nat} {v : Value} {X : List Dod} (h : DoO w base v X) (o : Obj) : DoO (w.alloc o) base v X := h.below ((Below.refl _ _).alloc (Nat.le_refl _) o)
/-- a row grew -/
theorem DoO.more {w w' : World} {base n' : Nat} {v v' : Value} {X Y : List Dod} (h : DoO w base v X) (o : OT w w' v.ownBlock base 29 9 v' n' (rows do9 X ++ rows do9 Y)) (hn : n' = X.length + Y.length) (hg : w.grownBy w' v.ownBlock)
    (he : ∀ x ∈ Y, Es w x.a x.n x.cap x.d.b.evs) (hs : ∀ x ∈ Y, x.d.stream.size ≤ maxLen) (ho : ∀ x ∈ Y, 0 < x.n → ∀ b o, x.a = some ⟨b, o, none⟩ → v.ownBlock ≠ some b) : DoO w' base v' (X ++ Y) := by
  subst hn
  have hall : ∀ x ∈ X ++ Y, Es w x.a x.n x.cap x.d.b.evs ∧ x.d.stream.size ≤ maxLen ∧ (0 < x.n → ∀ b o, x.a = some ⟨b, o, none⟩ → v.ownBlock ≠ some b) := fun x hx => by
    rcases List.mem_append.1 hx with hx | hx
    · exact ⟨h.evs x hx, h.ok x hx, h.off x hx⟩
    · exact ⟨he x hx, hs x hx, ho x hx⟩
  refine ⟨by rw [List.length_append, rows_append]; exact o.own, fun x hx => ?_, fun x hx => (hall x hx).2.1, fun x hx hn b off e => ?_⟩
  · obtain ⟨h1, _, h3⟩ := hall x hx
    exact ⟨h1.sl.grown hg (fun hn b off e => h3 hn b off e), h1.ok⟩
  · obtain ⟨h1, _, h3⟩ := hall x hx
    rcases o.lies with hl | hl
    · rw [hl]; exact h3 hn b off e
    · intro e2
      have h4 := hl b e2
      have h5 := h1.sl
      rw [e] at h5
      have := Sl.lt h5 hn (by decide)
      omega
theorem DoO.dos {w : World} {base : Nat} {v : Value} {X : List Dod} (h : DoO w base v X) : ∃ a cap, v = .slice a X.length cap ∧ Dos w a X.length cap (X.map Dod.d) := by
  obtain ⟨a, cap, e, hs⟩ := own_sl h.own
  exact ⟨a, cap, e, dos_of hs h.evs h.ok⟩
/-- a row grew by a literal -/
theorem lit_src {w : World} {Y : List Dod} {tx : TypeId} (hk : Try.prog.underlying tx = some (.slice 29)) : Src Try.prog 9 tx (.slice (some ⟨w.heap.size, 0, none⟩) Y.length Y.length) Y.length (rows do9 Y) (w.alloc (.cells (rows do9 Y).toArray 29)) := by
  have := Src.ofLit (P := Try.prog) w (rows do9 Y).toArray 29 Y.length 9 hk (by simp [rows_length do9_len]) (by simpa using rows_one do9_one Y)
  simpa using this
theorem Es.nil (w : World) : Es w none 0 0 [] := ⟨Sl.none _ _, fun e he => by cases he⟩
/-- events in a literal -/
theorem lit_es {w : World} {l : List Evt.Ev} (hl : l.length ≤ maxLen) (ho : ∀ e ∈ l, e.s.size ≤ maxLen) : Es (w.alloc (.cells (evCells l).toArray 32)) (some ⟨w.heap.size, 0, none⟩) l.length l.length l := by
  have := own_sl (own_one (w := w) (e := 32) (cs := (evCells l).toArray) l.length 3 (by simp [evCells_length]) hl)
  obtain ⟨a, c, e, h⟩ := this
  cases e
  exact ⟨by simpa using h, ho⟩
set_option maxHeartbeats 2000000 in
theorem openT_call (s : ByteArray) (w : World) : Calls Try.prog 17 #[.string s] w (Grew (.agg #[.string s, .int .i64 1, .int .i64 0]) w) := by
  go_enter Try.func17, Try.ntmps17
  go_wp2_with fail
  have q := blk_new w (.cells #[.string s, .int .i64 1, .int .i64 0] 32)
  have q0 := blk_cell (i := 0) q
  have q1 := blk_cell (i := 1) q
  have q2 := blk_cell (i := 2) q
  exact bodyPost_ret (v := .agg #[.string s, .int .i64 1, .int .i64 0]) (by simp [results, Try.results17, go_sem, q0, q1, q2]) rfl ⟨rfl, (Below.refl _ _).alloc (Nat.le_refl _) _⟩
set_option maxHeartbeats 2000000 in
theorem addT_call (s : ByteArray) (n : Int) (w : World) : Calls Try.prog 18 #[.string s, .int .i64 n] w (Grew (.agg #[.string s, .int .i64 2, .int .i64 n]) w) := by
  go_enter Try.func18, Try.ntmps18
  go_wp2_with fail
  have q := blk_new w (.cells #[.string s, .int .i64 2, .int .i64 n] 32)
  have q0 := blk_cell (i := 0) q
  have q1 := blk_cell (i := 1) q
  have q2 := blk_cell (i := 2) q
  exact bodyPost_ret (v := .agg #[.string s, .int .i64 2, .int .i64 n]) (by simp [results, Try.results18, go_sem, q0, q1, q2]) rfl ⟨rfl, (Below.refl _ _).alloc (Nat.le_refl _) _⟩
set_option maxHeartbeats 2000000 in
theorem putT_call (c : Int) (ea : Option Addr) (en ec : Nat) (w : World) : Calls Try.prog 16 #[.int .i64 c, .slice ea en ec] w (Grew (.agg #[.int .i64 1, .int .i64 0, .int .i64 0, .int .i64 0, .int .u8 0, .int .i64 c, .slice ea en ec, .string ⟨#[]⟩, .int .i64 (-1)]) w) := by
  go_enter Try.func16, Try.ntmps16
  go_wp2_with fail
  have q := blk_new w (.cells #[.int .i64 1, .int .i64 0, .int .i64 0, .int .i64 0, .int .u8 0, .int .i64 c, .slice ea en ec, .string ⟨#[]⟩, .int .i64 (-1)] 29)
  have q0 := blk_cell (i := 0) q
  have q1 := blk_cell (i := 1) q
  have q2 := blk_cell (i := 2) q
  have q3 := blk_cell (i := 3) q
  have q4 := blk_cell (i := 4) q
  have q5 := blk_cell (i := 5) q
  have q6 := blk_cell (i := 6) q
  have q7 := blk_cell (i := 7) q
  have q8 := blk_cell (i := 8) q
  exact bodyPost_ret (v := .agg #[.int .i64 1, .int .i64 0, .int .i64 0, .int .i64 0, .int .u8 0, .int .i64 c, .slice ea en ec, .string ⟨#[]⟩, .int .i64 (-1)]) (by simp [results, Try.results16, go_sem, q0, q1, q2, q3, q4, q5, q6, q7, q8]) rfl ⟨rfl, (Below.refl _ _).alloc (Nat.le_refl _) _⟩
def smallP (d s : Int) : Prop := 1 ≤ d ∧ d ≤ 8 ∧ 0 ≤ s ∧ s ≤ 4
instance (d s : Int) : Decidable (smallP d s) := by unfold smallP; exact inferInstance
set_option maxHeartbeats 2000000 in
theorem smallT_call (d s : Int) (w : World) : Calls Try.prog 15 #[.int .i64 d, .int .i64 s] w (Same (.bool (decide (smallP d s))) w) := by
  by_cases h1 : 1 ≤ d
  · by_cases h2 : d ≤ 8
    · by_cases h3 : 0 ≤ s
      · by_cases h4 : s ≤ 4
        · rw [decide_eq_true (show smallP d s from ⟨h1, h2, h3, h4⟩)]
          go_enter Try.func15, Try.ntmps15
          go_wp2_with fail
          go_ret
          exact ⟨rfl, rfl⟩
        · rw [decide_eq_false (show ¬ smallP d s from fun q => h4 q.2.2.2)]
          go_enter Try.func15, Try.ntmps15
          go_wp2_with fail
          go_ret
          exact ⟨rfl, rfl⟩
      · rw [decide_eq_false (show ¬ smallP d s from fun q => h3 q.2.2.1)]
        go_enter Try.func15, Try.ntmps15
        go_wp2_with fail
        go_ret
        exact ⟨rfl, rfl⟩
    · rw [decide_eq_false (show ¬ smallP d s from fun q => h2 q.2.1)]
      go_enter Try.func15, Try.ntmps15
      go_wp2_with fail
      go_ret
      exact ⟨rfl, rfl⟩
  · rw [decide_eq_false (show ¬ smallP d s from fun q => h1 q.1)]
    go_enter Try.func15, Try.ntmps15
    go_wp2_with fail
    go_ret
    exact ⟨rfl, rfl⟩
end Go.Proofs.Ythhcdfjijagalaa
