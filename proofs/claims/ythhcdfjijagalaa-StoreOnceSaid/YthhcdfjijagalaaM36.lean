/- Joined, and what is not used struck: SoB, StoV2, SoC, SoD. -/
import Derived.Test.YthhcdfjijagalaaM35
namespace Go.Proofs.Ythhcdfjijagalaa.Sto
set_option linter.unusedVariables false
section
variable {s : St} {K : Nat} {G : Nat → List Evt.Ba} {L : Nat → List (List UInt8)} {had : List (Int × Int)} {H : Nat → Prop}
theorem Core.bad_iff (h : Core s G L had H) (ho : Ok s K) {k : Nat} (hk : k < s.segs) {i : Nat} : i ∈ Stp.badL (blocks s.disks k) k s.disks.length ↔ i ∈ wr s.disks k (L k) := by
  obtain ⟨d', s', S, e1, e2, e3, hl⟩ := h.laid ho hk
  rw [← h.len ho hk]
  exact (h.hurt ho hk).bad hl
theorem Core.mend_ok (h : Core s G L had H) (ho : Ok s K) {k : Nat} (hk : k < s.segs) (hw : ((wr s.disks k (L k)).length : Int) ≤ s.spare) : Stp.mendF (blocks s.disks k) k s.data = (L k, 0) := by
  have h1 := h.read ho hk hw
  obtain ⟨h2, h3⟩ := Stp.layF_eq (h.fit k hk).2
  have hn := ho.nd
  unfold Stp.mendF
  rw [h1]
  simp only [ne_eq, not_true, if_false, blocks_len]
  rw [show (s.disks.length : Int) - s.data = s.spare by omega]
  exact Prod.ext h2.symm h3.symm
theorem Core.mend_lost (h : Core s G L had H) (ho : Ok s K) {k : Nat} (hk : k < s.segs) (hw : s.spare < ((wr s.disks k (L k)).length : Int)) : Stp.mendF (blocks s.disks k) k s.data = ([], 10) := by
  have h1 := h.lost ho hk hw
  unfold Stp.mendF
  rw [h1]
  rfl
/-- where a disk that is there has nothing wrong, it has what was laid -/
theorem Core.held (h : Core s G L had H) (ho : Ok s K) {k : Nat} (hk : k < s.segs) {i : Nat} {x : Dk} (hx : s.disks[i]? = some x) (hg : x.gone = false) (hw : i ∉ wr s.disks k (L k)) : find x.bl k = some ((L k).getD i []) := by
  have hi := (List.getElem?_eq_some_iff.1 hx).1
  have e : (blocks s.disks k).getD i [] = (L k).getD i [] := (h.hurt ho hk).no i hw
  have hne := h.ne ho hk hi
  rw [blocks_row _ _ _ hx] at e
  unfold blockOf at e
  rw [if_neg (by rw [hg]; decide)] at e
  cases hf : find x.bl k with
  | none => rw [hf] at e; exact absurd e.symm hne
  | some b => rw [hf] at e; exact congrArg some e
/-- scrubbing the first k segments -/
structure Scr (s : St) (K : Nat) (G : Nat → List Evt.Ba) (L : Nat → List (List UInt8)) (had : List (Int × Int)) (H : Nat → Prop) (k : Nat) (E : List Dk) (f : Int) : Prop where
  core : Core { s with disks := E } G L had H
  ok : Ok { s with disks := E } K
  gn : ∀ i : Nat, (E[i]?).map Dk.gone = (s.disks[i]?).map Dk.gone
  err : f = 0 ∨ f = 10
  few : Few H s.spare → f = 0
  done : f = 0 → ∀ j : Nat, j < k → ∀ (i : Nat) (x : Dk), E[i]? = some x → x.gone = false → find x.bl j = some ((L j).getD i [])
theorem Core.scr (h : Core s G L had H) (ho : Ok s K) : ∀ k, k ≤ s.segs → Scr s K G L had H k (scrubTo s.disks s.data k).1 (scrubTo s.disks s.data k).2.2
  | 0, _ => ⟨h, ho, fun _ => rfl, .inl rfl, fun _ => rfl, fun _ j hj => absurd hj (Nat.not_lt_zero _)⟩
  | k + 1, hk => by
    have ih := Core.scr h ho k (by omega)
    obtain ⟨E, c, f, e⟩ : ∃ E c f, scrubTo s.disks s.data k = (E, c, f) := ⟨_, _, _, rfl⟩
    rw [e] at ih
    simp only at ih
    have hk' : k < ({ s with disks := E } : St).segs := hk
    by_cases h1 : Stp.badL (blocks E k) k E.length = []
    · rw [scrub_1 e h1]
      refine ⟨ih.core, ih.ok, ih.gn, ih.err, ih.few, fun hf j hj i x hx hg => ?_⟩
      by_cases ej : j = k
      · subst ej
        refine ih.core.held ih.ok hk' hx hg (fun hu => ?_)
        have := (ih.core.bad_iff ih.ok hk').2 hu
        rw [show ({ s with disks := E } : St).disks = E from rfl, h1] at this
        cases this
      · exact ih.done hf j (by omega) i x hx hg
    · by_cases hw : ((wr E k (L k)).length : Int) ≤ s.spare
      · have hm := ih.core.mend_ok ih.ok hk' hw
        have hm' : Stp.mendF (blocks E k) k s.data = (L k, 0) := hm
        rw [scrub_3 e h1 (by rw [hm']), hm']
        refine ⟨ih.core.mend hk', ?_, fun i => ?_, ih.err, ih.few, fun hf j hj i y hy hg => ?_⟩
        · have h3 := ih.ok.disks (write E k (L k)) (write_length _ _ _) (write_ok ih.ok.bl ⟨by omega, by show (k : Int) < (s.segs : Int); omega⟩)
          exact h3
        · show (write E k (L k))[i]?.map Dk.gone = _
          rw [write_get, Option.map_map, ← ih.gn i]
          cases E[i]? with
          | none => rfl
          | some x => show some (wrD x k _).gone = some x.gone; rw [wrD_gone]
        · have hy : (write E k (L k))[i]? = some y := hy
          obtain ⟨x, hx, rfl⟩ := write_at hy
          rw [wrD_gone] at hg
          by_cases ej : j = k
          · subst ej; exact wrD_same hg _ _
          · rw [wrD_other _ _ (by omega)]
            exact ih.done hf j (by omega) i x hx hg
      · have hm := ih.core.mend_lost ih.ok hk' (by show s.spare < ((wr E k (L k)).length : Int); omega)
        have hm' : Stp.mendF (blocks E k) k s.data = ([], 10) := hm
        rw [scrub_2 e h1 (by rw [hm']; decide), hm']
        refine ⟨ih.core, ih.ok, ih.gn, ?_, fun hf => ?_, fun hf => ?_⟩
        · show (if f = 0 then (10 : Int) else f) = 0 ∨ (if f = 0 then (10 : Int) else f) = 10
          rcases ih.err with e | e
          · rw [if_pos e]; exact .inr rfl
          · rw [e, if_neg (by decide)]; exact .inr rfl
        · exact absurd (ih.core.few ih.ok hf k hk') hw
        · have hf : (if f = 0 then (10 : Int) else f) = 0 := hf
          split at hf
          · exact absurd hf (by decide)
          · rename_i hne; exact absurd hf hne
theorem put_cases (s : St) (d : Do) : ((put s d).1 = s ∧ ((put s d).2.err ≠ 0 ∨ d.b.c ∈ s.seen)) ∨
    ((put s d).2.err = 0 ∧ ¬ d.b.c ∈ s.seen ∧ (put s d).1.data = s.data ∧ (put s d).1.spare = s.spare ∧ (put s d).1.batches = s.batches ∧
      (((put s d).1.disks = s.disks ∧ (put s d).1.segs = s.segs ∧ (put s d).1.tail = s.tail ++ [d.b] ∧ ((s.tail.length : Int) + 1 ≠ s.batches)) ∨
       (∃ L', (Evt.bytesR (s.tail ++ [d.b])).err = 0 ∧ Stp.LayR (Evt.bytesR (s.tail ++ [d.b])).l (s.segs : Int) s.data s.spare L' 0 ∧ (put s d).1.disks = write s.disks s.segs L' ∧ (put s d).1.segs = s.segs + 1 ∧ (put s d).1.tail = [] ∧ ((s.tail.length : Int) + 1 = s.batches)))) := by
  unfold put
  split
  · rename_i h; exact .inl ⟨rfl, .inl h⟩
  · split
    · rename_i h; exact .inl ⟨rfl, .inr h⟩
    · rename_i hm
      split
      · exact .inl ⟨rfl, .inl (show (11 : Int) ≠ 0 by decide)⟩
      · split
        · rename_i h; exact .inl ⟨rfl, .inl h⟩
        · split
          · rename_i hlen
            have hlen : (s.tail.length : Int) + 1 = s.batches := by
              rw [List.length_append] at hlen
              simpa using hlen
            split
            · rename_i h; exact .inl ⟨rfl, .inl h⟩
            · rename_i hs
              have hs := Classical.not_not.1 hs
              refine .inr ⟨rfl, hm, ?_⟩
              by_cases e1 : (Evt.bytesR (s.tail ++ [d.b])).err ≠ 0
              · have : sealS { s with tail := s.tail ++ [d.b] } = ({ s with tail := s.tail ++ [d.b] }, (Evt.bytesR (s.tail ++ [d.b])).err) := by unfold sealS; rw [if_pos e1]
                rw [this] at hs
                exact absurd hs e1
              · by_cases e2 : (Stp.layF (Evt.bytesR (s.tail ++ [d.b])).l (s.segs : Int) s.data s.spare).2 ≠ 0
                · have : sealS { s with tail := s.tail ++ [d.b] } = ({ s with tail := s.tail ++ [d.b] }, (Stp.layF (Evt.bytesR (s.tail ++ [d.b])).l (s.segs : Int) s.data s.spare).2) := by unfold sealS; rw [if_neg e1, if_pos e2]
                  rw [this] at hs
                  exact absurd hs e2
                · have : sealS { s with tail := s.tail ++ [d.b] } = ({ s with disks := write s.disks s.segs (Stp.layF (Evt.bytesR (s.tail ++ [d.b])).l (s.segs : Int) s.data s.spare).1, segs := s.segs + 1, tail := [] }, 0) := by unfold sealS; rw [if_neg e1, if_neg e2]
                  rw [this]
                  have hl := Stp.layF_spec (Evt.bytesR (s.tail ++ [d.b])).l (s.segs : Int) s.data s.spare
                  rw [Classical.not_not.1 e2] at hl
                  exact ⟨rfl, rfl, rfl, .inr ⟨_, Classical.not_not.1 e1, hl, rfl, rfl, rfl, hlen⟩⟩
          · rename_i hlen
            have hlen : (s.tail.length : Int) + 1 ≠ s.batches := by
              rw [List.length_append] at hlen
              simpa using hlen
            exact .inr ⟨rfl, hm, rfl, rfl, rfl, .inl ⟨rfl, rfl, rfl, hlen⟩⟩
theorem flatMap_congr' {α : Type} {G G' : Nat → List α} {n : Nat} (h : ∀ k, k < n → G k = G' k) : (List.range n).flatMap G = (List.range n).flatMap G' := by
  induction n with
  | zero => rfl
  | succ n ih => rw [range_flat, range_flat, ih (fun k hk => h k (by omega)), h n (by omega)]
theorem Core.put (h : Core s G L had H) (ho : Ok s K) (d : Do) (hd : d.kind = 1) : ∃ G' L', Core (put s d).1 G' L' had H ∧ tot (put s d).1 G' = tot s G ++ newB s d := by
  unfold newB
  rw [step_put hd]
  rcases put_cases s d with ⟨h1, h2⟩ | ⟨h1, h2, h3, h4, h5, h6⟩
  · rw [if_neg (by rintro ⟨_, h3, h4⟩; rcases h2 with h2 | h2; exact h2 h3; exact h4 h2), List.append_nil, h1]
    exact ⟨G, L, h, rfl⟩
  · rw [if_pos ⟨hd, h1, h2⟩]
    rcases h6 with ⟨h6, h7, h8, _⟩ | ⟨L', h6, h7, h8, h9, h10, _⟩
    · refine ⟨G, L, h.congr h3 h4 h6 h7, ?_⟩
      unfold tot
      rw [h7, h8, List.append_assoc]
    · refine ⟨_, _, h.seal ho (s.tail ++ [d.b]) L' h6 h7 h3 h4 h8 h9, ?_⟩
      unfold tot
      rw [h9, h10, range_flat, List.append_nil, List.append_assoc]
      simp only [if_true]
      rw [flatMap_congr' (G' := G) (fun k hk => by rw [if_neg (by omega)])]
def isGone (s : St) (i : Nat) : Prop := ∃ x, s.disks[i]? = some x ∧ x.gone = true
/-- which disks are harmed then -/
noncomputable def hurtN (s : St) (d : Do) (H : Nat → Prop) : Nat → Prop :=
  if d.kind = 5 ∨ d.kind = 6 ∨ d.kind = 7 then (if (step s d).2.err = 0 then fun i => H i ∨ (i : Int) = d.n else H)
  else if d.kind = 8 then (if (step s d).2.err = 0 then isGone (step s d).1 else H) else H
/-- what was spoilt then -/
def hadN (had : List (Int × Int)) (d : Do) : List (Int × Int) := if d.kind = 7 ∧ d.y ≠ 0 then (d.n, d.seg) :: had else had
theorem hadN_sub (had : List (Int × Int)) (d : Do) : ∀ x ∈ had, x ∈ hadN had d := fun x hx => by
  unfold hadN; split
  · exact List.mem_cons_of_mem _ hx
  · exact hx
theorem step_harm {s : St} {d : Do} (h : d.kind = 5 ∨ d.kind = 6 ∨ d.kind = 7) : step s d = harm s d := by
  unfold step; rw [if_neg (by omega), if_neg (by omega), if_neg (by omega), if_pos h]
theorem step_scrub {s : St} {d : Do} (h : d.kind = 8) : step s d = scrub s := by
  unfold step; rw [if_neg (by omega), if_neg (by omega), if_neg (by omega), if_neg (by omega), if_pos h]
theorem step_other {s : St} {d : Do} (h1 : d.kind ≠ 1) (h2 : ¬ (d.kind = 5 ∨ d.kind = 6 ∨ d.kind = 7)) (h3 : d.kind ≠ 8) : (step s d).1 = s := by
  unfold step
  rw [if_neg h1]
  by_cases h4 : d.kind = 2 ∨ d.kind = 3
  · rw [if_pos h4]
  · rw [if_neg h4]
    by_cases h5 : d.kind = 4
    · rw [if_pos h5]
    · rw [if_neg h5, if_neg h2, if_neg h3]
      split <;> rfl
theorem disk_at {s : St} {n : Int} (h0 : 0 ≤ n) (h1 : n < s.disks.length) : s.disks[n.toNat]? = some (s.disks.getD n.toNat ⟨false, []⟩) := by
  have : n.toNat < s.disks.length := by omega
  simp [List.getD, this]
/-- what harming a disk can be -/
theorem harm_cases (s : St) (d : Do) : ((harm s d).1 = s ∧ (harm s d).2.err ≠ 0) ∨ ((harm s d).2.err = 0 ∧ 0 ≤ d.n ∧ d.n < s.disks.length ∧
    ((d.kind = 6 ∧ (harm s d).1 = { s with disks := s.disks.set d.n.toNat ⟨false, []⟩ }) ∨ (d.kind = 5 ∧ (s.disks.getD d.n.toNat ⟨false, []⟩).gone = false ∧ (harm s d).1 = { s with disks := s.disks.set d.n.toNat ⟨true, []⟩ }) ∨
     (d.kind ≠ 6 ∧ d.kind ≠ 5 ∧ ∃ b, find (s.disks.getD d.n.toNat ⟨false, []⟩).bl d.seg = some b ∧ 0 ≤ d.t ∧ d.t.toNat < b.length ∧
       (harm s d).1 = { s with disks := s.disks.set d.n.toNat ⟨(s.disks.getD d.n.toNat ⟨false, []⟩).gone, setB (s.disks.getD d.n.toNat ⟨false, []⟩).bl d.seg (b.set d.t.toNat (b.getD d.t.toNat 0 ^^^ d.y))⟩ }))) := by
  unfold harm
  split
  · exact .inl ⟨rfl, show (6 : Int) ≠ 0 by decide⟩
  · rename_i hn
    split
    · rename_i h6; exact .inr ⟨rfl, by omega, by omega, .inl ⟨h6, rfl⟩⟩
    · rename_i h6
      split
      · rename_i h5
        split
        · exact .inl ⟨rfl, show (8 : Int) ≠ 0 by decide⟩
        · rename_i hg; exact .inr ⟨rfl, by omega, by omega, .inr (.inl ⟨h5, by simpa using hg, rfl⟩)⟩
      · rename_i h5
        split
        · exact .inl ⟨rfl, show (6 : Int) ≠ 0 by decide⟩
        · rename_i b hb
          split
          · exact .inl ⟨rfl, show (3 : Int) ≠ 0 by decide⟩
          · rename_i ht; exact .inr ⟨rfl, by omega, by omega, .inr (.inr ⟨h6, h5, b, hb, by omega, by omega, rfl⟩)⟩
theorem Core.harm (h : Core s G L had H) (ho : Ok s K) (d : Do) (hd : d.kind = 5 ∨ d.kind = 6 ∨ d.kind = 7) (hy : d.kind = 7 → d.y ≠ 0 → (d.n, d.seg) ∉ had) : Core (harm s d).1 G L (hadN had d) (hurtN s d H) := by
  unfold hurtN
  rw [if_pos hd, step_harm hd]
  rcases harm_cases s d with ⟨h1, h2⟩ | ⟨h1, h2, h3, h4⟩
  · rw [h1, if_neg h2]
    exact h.mono (hadN_sub had d) (fun _ e => e)
  · rw [if_pos h1]
    have hx := disk_at h2 h3
    have en : ((d.n.toNat : Nat) : Int) = d.n := by omega
    rcases h4 with ⟨_, h4⟩ | ⟨_, _, h4⟩ | ⟨h5, h6, b, hb, ht0, ht, h4⟩
    · rw [h4]
      exact (h.fresh d.n.toNat false).mono (hadN_sub had d) (fun i e => e.imp id (fun e => by omega))
    · rw [h4]
      exact (h.fresh d.n.toNat true).mono (hadN_sub had d) (fun i e => e.imp id (fun e => by omega))
    · rw [h4]
      have h7 : d.kind = 7 := by omega
      refine (h.spoil ho hx hb ht (fun hy0 => by rw [en]; exact hy h7 hy0)).mono (fun x hx => ?_) (fun i e => e.imp id (fun e => by omega))
      unfold hadN
      by_cases hy0 : d.y ≠ 0
      · rw [if_pos hy0, en] at hx
        rw [if_pos ⟨h7, hy0⟩]; exact hx
      · rw [if_neg hy0] at hx
        rw [if_neg (fun e => hy0 e.2)]; exact hx
theorem Core.scrub (h : Core s G L had H) (ho : Ok s K) : Core (scrub s).1 G L had H := (h.scr ho s.segs (Nat.le_refl _)).core
theorem Core.scrubbed (h : Core s G L had H) (ho : Ok s K) (he : (Sto.scrub s).2.err = 0) : Core (Sto.scrub s).1 G L had (isGone (Sto.scrub s).1) := by
  have h1 := h.scr ho s.segs (Nat.le_refl _)
  refine ⟨h1.core.fit, h1.core.gone, h1.core.hold, fun i x hx hn => ?_⟩
  have hg : x.gone = false := by
    cases e : x.gone with
    | false => rfl
    | true => exact absurd ⟨x, hx, e⟩ hn
  exact ⟨hg, fun k hk => h1.done he k hk i x hx hg⟩
theorem newB_no {s : St} {d : Do} (h : d.kind ≠ 1) : newB s d = [] := by unfold newB; rw [if_neg (fun e => h e.1)]
theorem harm_rest (s : St) (d : Do) : (Sto.harm s d).1.segs = s.segs ∧ (Sto.harm s d).1.tail = s.tail := by
  rcases harm_cases s d with ⟨h1, _⟩ | ⟨_, _, _, ⟨_, h1⟩ | ⟨_, _, h1⟩ | ⟨_, _, _, _, _, _, h1⟩⟩ <;> rw [h1] <;> exact ⟨rfl, rfl⟩
theorem Core.step (h : Core s G L had H) (ho : Ok s K) (d : Do) (hy : d.kind = 7 → d.y ≠ 0 → (d.n, d.seg) ∉ had) : ∃ G' L', Core (step s d).1 G' L' (hadN had d) (hurtN s d H) ∧ tot (step s d).1 G' = tot s G ++ newB s d := by
  by_cases h1 : d.kind = 1
  · obtain ⟨G', L', h2, h3⟩ := h.put ho d h1
    refine ⟨G', L', ?_, by rw [step_put h1]; exact h3⟩
    rw [step_put h1]
    unfold hurtN
    rw [if_neg (by omega), if_neg (by omega)]
    exact h2.mono (hadN_sub had d) (fun _ e => e)
  · rw [newB_no h1, List.append_nil]
    by_cases h5 : d.kind = 5 ∨ d.kind = 6 ∨ d.kind = 7
    · have := h.harm ho d h5 hy
      rw [step_harm h5]
      refine ⟨G, L, this, ?_⟩
      unfold tot
      rw [(harm_rest s d).1, (harm_rest s d).2]
    · by_cases h8 : d.kind = 8
      · refine ⟨G, L, ?_, ?_⟩
        · unfold hurtN
          rw [if_neg h5, if_pos h8, step_scrub h8]
          split
          · rename_i he; exact (h.scrubbed ho he).mono (hadN_sub had d) (fun _ e => e)
          · exact (h.scrub ho).mono (hadN_sub had d) (fun _ e => e)
        · rw [step_scrub h8]; rfl
      · have := step_other (s := s) h1 h5 h8
        rw [this]
        refine ⟨G, L, ?_, rfl⟩
        unfold hurtN
        rw [if_neg h5, if_neg h8]
        exact h.mono (hadN_sub had d) (fun _ e => e)
end
/-- all that holds of a store: X was put in -/
structure J (s : St) (X : List Evt.Ba) (had : List (Int × Int)) (H : Nat → Prop) (K : Nat) : Prop where
  ok : Ok s K
  inv : Inv s X
  core : ∃ G L, Core s G L had H ∧ tot s G = X
theorem J.start {d p b : Int} (h : wrongS d p b = 0) (H : Nat → Prop) : J (start d p b) [] [] H 0 := ⟨Ok.start h, Inv.start d p b, fun _ => [], fun _ => [], Core.start d p b _ _ H, rfl⟩
theorem J.step {s : St} {X : List Evt.Ba} {had : List (Int × Int)} {H : Nat → Prop} {K : Nat} (h : J s X had H K) (d : Do) (hy : d.kind = 7 → d.y ≠ 0 → (d.n, d.seg) ∉ had) : J (step s d).1 (X ++ newB s d) (hadN had d) (hurtN s d H) (K + 1) := by
  obtain ⟨G, L, hc, ht⟩ := h.core
  obtain ⟨G', L', hc', ht'⟩ := hc.step h.ok d hy
  exact ⟨h.ok.step d, h.inv.step d, G', L', hc', by rw [ht', ht]⟩
theorem J.all_ok {s : St} {X : List Evt.Ba} {had : List (Int × Int)} {H : Nat → Prop} {K : Nat} (h : J s X had H K) (hf : Few H s.spare) : Sto.all s = (X, 0) := by
  obtain ⟨G, L, hc, ht⟩ := h.core
  rw [← ht]
  exact hc.all_ok h.ok (hc.few h.ok hf)
theorem J.mono {s : St} {X : List Evt.Ba} {had : List (Int × Int)} {H H' : Nat → Prop} {K : Nat} (h : J s X had H K) (hh : ∀ i, H i → H' i) : J s X had H' K := by
  obtain ⟨G, L, hc, ht⟩ := h.core
  exact ⟨h.ok, h.inv, G, L, hc.mono (fun _ e => e) hh, ht⟩
end Go.Proofs.Ythhcdfjijagalaa.Sto
namespace Go.Proofs.Ythhcdfjijagalaa.Sto
set_option linter.unusedVariables false
theorem fold_one_cnt {v : Vw.Vi} {e : Evt.Ev} (h : (Vw.fold v [e]).err = 0) : (Vw.get (Vw.fold v [e]).v.accs e.s).cnt = (Vw.get v.accs e.s).cnt + 1 := by
  obtain ⟨hg, e1⟩ := Vw.fold_ok h
  rw [e1] at h ⊢
  rw [Vw.fo_cons] at h ⊢
  by_cases ha : (Vw.apply v e).err = 0
  · rw [if_neg (fun k => k ha)] at h ⊢
    obtain ⟨_, _, _, _, hv⟩ := Vw.apply_ok ha
    show (Vw.get (Vw.apply v e).v.accs e.s).cnt = _
    rw [hv]
    show (Vw.get (Vw.ins (Vw.plus (Vw.get v.accs e.s) e) v.accs) e.s).cnt = _
    have hs : (Vw.plus (Vw.get v.accs e.s) e).s = e.s := by rw [Vw.plus_s, Vw.get_s]
    have := Vw.get_ins_same (Vw.plus (Vw.get v.accs e.s) e) v.accs
    rw [hs] at this
    rw [this, Vw.plus_cnt]
  · rw [if_pos ha] at h
    exact absurd h ha
theorem put_wrong {s : St} {d : Do} (h : (put s d).2.err = 0) (hm : ¬ d.b.c ∈ s.seen) : (Evt.wrongBa d.b).1 = 0 := by
  refine Classical.byContradiction fun hw => ?_
  unfold put at h
  rw [if_pos hw] at h
  exact hw h
/-- WHO COMES SECOND IS TOLD SO -/
theorem version_two {s : St} {X : List Evt.Ba} (hi : Inv s X) {a b : Do} (e : Evt.Ev) (he : e.s = a.stream) (ha : a.b.evs = [e]) (hb : b.b.evs = [e]) (hs : b.stream = a.stream) (hv : a.ver = (Vw.get s.snap.accs a.stream).cnt) (hv2 : b.ver = a.ver) (hc : b.b.c = a.b.c + 1) (h1 : 1 ≤ a.b.c) (h2 : a.b.c < 1000000)
    (n1 : ¬ a.b.c ∈ s.seen) (n2 : ¬ a.b.c + 1 ∈ s.seen) (h : (put s a).2.err = 0) : (put (put s a).1 b).2.err = 11 := by
  rcases put_view s a with ⟨_, h3 | h3⟩ | ⟨_, _, h3, h4, h5⟩
  · exact absurd h h3
  · exact absurd h3 n1
  have hw := put_wrong h n1
  have hwb : (Evt.wrongBa b.b).1 = 0 := by
    obtain ⟨w1, w2, w3, w4, w5⟩ := Evt.wrongBa_zero hw
    unfold Evt.wrongBa at hw ⊢
    rw [if_neg (by omega)] at hw
    rw [if_neg (by omega), hb, ← ha]
    rw [if_neg (by omega)] at hw ⊢
    exact hw
  have hg : Vw.Good s.snap := by
    obtain ⟨hg, e1⟩ := Vw.fold_ok hi.err
    rw [← hi.snap, e1]
    have := hi.err
    rw [e1] at this
    exact (Vw.fo_good _ _ 0 hg this).1
  have hpos := (hg.each.bounds a.stream hg.lo).1
  rw [ha] at h3 h4
  have hcnt := fold_one_cnt h3
  rw [he] at hcnt
  have hm : ¬ b.b.c ∈ (put s a).1.seen := by
    rw [h5, insS_mem, hc]
    rintro (h6 | h6)
    · omega
    · exact n2 h6
  generalize hs1 : (put s a).1 = s1 at *
  unfold put
  rw [if_neg (by rw [hwb]; exact fun k => k rfl)]
  rw [if_neg hm, if_pos]
  · rfl
  · rw [hv2, hs, h4]
    refine ⟨by omega, ?_⟩
    rw [hcnt]; omega
/-- SAID TWICE IS DONE ONCE -/
theorem once_twice {s : St} {X : List Evt.Ba} {d : Do} (hw : (Evt.wrongBa d.b).1 = 0) (hm : d.b.c ∈ s.seen) : put s d = (s, anN s.snap.upto) := by
  unfold put
  rw [if_neg (by rw [hw]; exact fun k => k rfl), if_pos hm]
/-- so many events there are -/
theorem Inv.upto {s : St} {X : List Evt.Ba} (hi : Inv s X) : s.snap.upto = ((events X).length : Int) := by
  obtain ⟨hg, e1⟩ := Vw.fold_ok hi.err
  have h := hi.err
  rw [e1] at h
  have := (Vw.fo_good _ _ 0 hg h).2
  rw [← hi.snap, e1, this]
  show (0 : Int) + _ = _
  omega
end Go.Proofs.Ythhcdfjijagalaa.Sto
namespace Go.Proofs.Ythhcdfjijagalaa.Sto
set_option linter.unusedVariables false
theorem run_snoc' (s : St) (l : List Do) (d : Do) : run s (l ++ [d]) = ((step (run s l).1 d).1, (run s l).2 ++ [(step (run s l).1 d).2]) := by
  induction l generalizing s with
  | nil => rfl
  | cons a l ih => show run s (a :: (l ++ [d])) = _; unfold run; rw [ih]; rfl
theorem run_len (s : St) (l : List Do) : (run s l).2.length = l.length := by
  induction l generalizing s with
  | nil => rfl
  | cons a l ih => show (run s (a :: l)).2.length = _; unfold run; simp [ih]
/-- the store behind the first k things -/
noncomputable def stt (s : St) (l : List Do) (k : Nat) : St := (run s (l.take k)).1
theorem take_snoc {α : Type} (l : List α) (k : Nat) (h : k < l.length) : l.take (k + 1) = l.take k ++ [l[k]] := by
  rw [List.take_add_one, List.getElem?_eq_getElem h]; rfl
theorem stt_succ (s : St) (l : List Do) (k : Nat) (h : k < l.length) : stt s l (k + 1) = (step (stt s l k) l[k]).1 := by
  unfold stt; rw [take_snoc l k h, run_snoc']
theorem run_cons (s : St) (d : Do) (l : List Do) : run s (d :: l) = ((run (step s d).1 l).1, (step s d).2 :: (run (step s d).1 l).2) := rfl
theorem run_app (s : St) (l m : List Do) : (run s (l ++ m)).2 = (run s l).2 ++ (run (run s l).1 m).2 ∧ (run s (l ++ m)).1 = (run (run s l).1 m).1 := by
  induction l generalizing s with
  | nil => exact ⟨rfl, rfl⟩
  | cons a l ih =>
    rw [List.cons_append, run_cons, run_cons, (ih _).1, (ih _).2]
    exact ⟨rfl, rfl⟩
theorem run_at (s : St) (l : List Do) (k : Nat) (h : k < l.length) : (run s l).2[k]? = some (step (stt s l k) l[k]).2 := by
  have e : l = l.take (k + 1) ++ l.drop (k + 1) := (List.take_append_drop _ _).symm
  have h1 := (run_app s (l.take (k + 1)) (l.drop (k + 1))).1
  rw [← e, take_snoc l k h, run_snoc'] at h1
  rw [h1]
  have hlen : (run s (l.take k)).2.length = k := by rw [run_len, List.length_take]; omega
  rw [List.append_assoc, List.getElem?_append_right (by rw [hlen]; exact Nat.le_refl _), hlen, Nat.sub_self]
  rfl
theorem toldS_snoc (s : St) (l : List Do) (d : Do) : toldS s (l ++ [d]) = toldS s l ++ newB (run s l).1 d := by
  induction l generalizing s with
  | nil => show newB s d ++ [] = [] ++ newB s d; simp
  | cons a l ih =>
    show newB s a ++ toldS (step s a).1 (l ++ [d]) = (newB s a ++ toldS (step s a).1 l) ++ newB (run s (a :: l)).1 d
    rw [ih, List.append_assoc]; rfl
theorem toldS_succ (s : St) (l : List Do) (k : Nat) (h : k < l.length) : toldS s (l.take (k + 1)) = toldS s (l.take k) ++ newB (stt s l k) l[k] := by
  rw [take_snoc l k h, toldS_snoc]; rfl
/-- what was told, as the laws tell it: commands, events -/
def toldTo (l : List Do) (a : List An) : Nat → List Int × List Evt.Ev
  | 0 => ([], [])
  | k + 1 => match l[k]?, a[k]? with
    | some d, some x => if d.kind = 1 ∧ x.err = 0 ∧ ¬ d.b.c ∈ (toldTo l a k).1 then ((toldTo l a k).1 ++ [d.b.c], (toldTo l a k).2 ++ d.b.evs) else toldTo l a k
    | _, _ => toldTo l a k
theorem toldTo_succ {l : List Do} {a : List An} {k : Nat} {d : Do} {x : An} (h1 : l[k]? = some d) (h2 : a[k]? = some x) :
    toldTo l a (k + 1) = if d.kind = 1 ∧ x.err = 0 ∧ ¬ d.b.c ∈ (toldTo l a k).1 then ((toldTo l a k).1 ++ [d.b.c], (toldTo l a k).2 ++ d.b.evs) else toldTo l a k := by
  show (match l[k]?, a[k]? with
    | some d, some x => if d.kind = 1 ∧ x.err = 0 ∧ ¬ d.b.c ∈ (toldTo l a k).1 then ((toldTo l a k).1 ++ [d.b.c], (toldTo l a k).2 ++ d.b.evs) else toldTo l a k
    | _, _ => toldTo l a k) = _
  rw [h1, h2]
theorem told_run (s : St) (hs : s.seen = []) (l : List Do) : ∀ k, k ≤ l.length → (toldTo l (run s l).2 k).2 = events (toldS s (l.take k)) ∧ ∀ c, c ∈ (toldTo l (run s l).2 k).1 ↔ c ∈ (stt s l k).seen
  | 0, _ => ⟨rfl, fun c => by show c ∈ ([] : List Int) ↔ c ∈ s.seen; rw [hs]⟩
  | k + 1, hk => by
    obtain ⟨h1, h2⟩ := told_run s hs l k (by omega)
    have hk' : k < l.length := by omega
    rw [toldTo_succ (List.getElem?_eq_getElem hk') (run_at s l k hk'), toldS_succ s l k hk', stt_succ s l k hk', events_app]
    generalize stt s l k = st at *
    generalize l[k] = d at *
    by_cases hd : d.kind = 1
    · rw [step_put hd]
      have hn : newB st d = if d.kind = 1 ∧ (put st d).2.err = 0 ∧ ¬ d.b.c ∈ st.seen then [d.b] else [] := by unfold newB; rw [step_put hd]
      rw [hn]
      rcases put_view st d with ⟨e1, e2⟩ | ⟨e1, e2, e3, e4, e5⟩
      · have hne : ¬ (d.kind = 1 ∧ (put st d).2.err = 0 ∧ ¬ d.b.c ∈ st.seen) := by rintro ⟨_, q1, q2⟩; rcases e2 with e2 | e2; exact e2 q1; exact q2 e2
        have hne' : ¬ (d.kind = 1 ∧ (put st d).2.err = 0 ∧ ¬ d.b.c ∈ (toldTo l (run s l).2 k).1) := by rw [h2]; exact hne
        rw [if_neg hne, if_neg hne', e1]
        exact ⟨by rw [h1]; simp [events], h2⟩
      · have hne : (d.kind = 1 ∧ (put st d).2.err = 0 ∧ ¬ d.b.c ∈ st.seen) := ⟨hd, e1, e2⟩
        have hne' : (d.kind = 1 ∧ (put st d).2.err = 0 ∧ ¬ d.b.c ∈ (toldTo l (run s l).2 k).1) := by rw [h2]; exact hne
        rw [if_pos hne, if_pos hne', e5]
        refine ⟨by rw [h1]; simp [events], fun c => ?_⟩
        rw [insS_mem, List.mem_append, h2, List.mem_singleton]
        constructor <;> (rintro (h | h) <;> simp [h])
    · rw [newB_no hd, if_neg (fun e => hd e.1), (step_keeps hd).1]
      exact ⟨by rw [h1]; simp [events], h2⟩
theorem read_of {s : St} {X : List Evt.Ba} (ha : all s = (X, 0)) (d : Do) : read s d = if d.kind = 3 then (if d.n < 0 ∨ ((events X).length : Int) < d.n then anE 3 else ⟨0, (events X).length, (events X).drop d.n.toNat, Vw.none'⟩)
    else if Evt.named (Evt.lst d.stream) = false then anE 7 else ⟨0, ((events X).filter fun x => decide (x.s = d.stream)).length, (events X).filter fun x => decide (x.s = d.stream), Vw.none'⟩ := by
  unfold read
  rw [ha, if_neg (show ¬ ((X, (0 : Int)).2 ≠ 0) from fun h => h rfl)]
theorem play_ok {d p b : Int} {l : List Do} {s : St} {a : List An} (h : play d p b l = (s, a, 0)) : wrongS d p b = 0 ∧ l.length ≤ 80 ∧ s = (run (start d p b) l).1 ∧ a = (run (start d p b) l).2 := by
  unfold play at h
  split at h
  · rename_i h1
    simp only [Prod.mk.injEq] at h
    exact absurd h.2.2 h1
  · rename_i h1
    split at h
    · simp only [Prod.mk.injEq] at h
      exact absurd h.2.2 (by decide)
    · rename_i h2
      simp only [Prod.mk.injEq] at h
      exact ⟨Classical.not_not.1 h1, by omega, h.1.symm, h.2.1.symm⟩
theorem play_of {d p b : Int} {l : List Do} (h1 : wrongS d p b = 0) (h2 : l.length ≤ 80) : play d p b l = ((run (start d p b) l).1, (run (start d p b) l).2, 0) := by
  unfold play
  rw [if_neg (by intro h; exact h h1), if_neg (by omega)]
theorem Inv.from (d p b : Int) (l : List Do) : Inv (Sto.run (Sto.start d p b) l).1 (toldS (Sto.start d p b) l) := by
  have := (Inv.start d p b).run l
  rwa [List.nil_append] at this
theorem seen_grows (s : St) (d : Do) (c : Int) (h : c ∈ s.seen) : c ∈ (step s d).1.seen := by
  by_cases hd : d.kind = 1
  · rw [step_put hd]
    rcases put_view s d with ⟨e1, _⟩ | ⟨_, _, _, _, e5⟩
    · rw [e1]; exact h
    · rw [e5, insS_mem]; exact .inr h
  · rw [(step_keeps hd).1]; exact h
theorem seen_run (s : St) (l : List Do) (c : Int) (h : c ∈ s.seen) : c ∈ (run s l).1.seen := by
  induction l generalizing s with
  | nil => exact h
  | cons a l ih => exact ih _ (seen_grows s a c h)
/-- SAID TWICE IS DONE ONCE -/
theorem once_law {d p b : Int} {l : List Do} {k : Nat} (hk : k < l.length) (h1 : l[k].kind = 1) {x : An} (hx : (run (start d p b) l).2[k]? = some x) (he : x.err = 0) (v : Int) :
    step (run (start d p b) l).1 { l[k] with ver := v } = ((run (start d p b) l).1, anN ((toldTo l (run (start d p b) l).2 l.length).2.length : Int)) := by
  rw [run_at _ _ _ hk] at hx
  injection hx with hx
  subst hx
  rw [step_put h1] at he
  have hi := Inv.from d p b l
  have hw : (Evt.wrongBa l[k].b).1 = 0 := by
    refine Classical.byContradiction fun hw => ?_
    unfold put at he
    rw [if_pos hw] at he
    exact hw he
  have hm : l[k].b.c ∈ (stt (start d p b) l (k + 1)).seen := by
    rw [stt_succ _ _ _ hk, step_put h1]
    rcases put_view (stt (start d p b) l k) l[k] with ⟨e1, e2⟩ | ⟨_, _, _, _, e5⟩
    · rw [e1]
      rcases e2 with e2 | e2
      · exact absurd he e2
      · exact e2
    · rw [e5, insS_mem]; exact .inl rfl
  have hm2 : l[k].b.c ∈ (run (start d p b) l).1.seen := by
    have e : l = l.take (k + 1) ++ l.drop (k + 1) := (List.take_append_drop _ _).symm
    have := (run_app (start d p b) (l.take (k + 1)) (l.drop (k + 1))).2
    rw [← e] at this
    rw [this]
    exact seen_run _ _ _ hm
  have hs : step (run (start d p b) l).1 { l[k] with ver := v } = put (run (start d p b) l).1 { l[k] with ver := v } := step_put h1
  rw [hs, once_twice (X := toldS (start d p b) l) (d := { l[k] with ver := v }) hw hm2, hi.upto, (told_run _ rfl l l.length (Nat.le_refl _)).1, List.take_length]
end Go.Proofs.Ythhcdfjijagalaa.Sto
namespace Go.Proofs.Ythhcdfjijagalaa.Sto
set_option linter.unusedVariables false
theorem step_spare (s : St) (d : Do) : (step s d).1.spare = s.spare := by
  by_cases h1 : d.kind = 1
  · rw [step_put h1]
    rcases put_cases s d with ⟨e1, _⟩ | ⟨_, _, _, e, _⟩
    · rw [e1]
    · exact e
  · by_cases h5 : d.kind = 5 ∨ d.kind = 6 ∨ d.kind = 7
    · rw [step_harm h5]
      rcases harm_cases s d with ⟨e1, _⟩ | ⟨_, _, _, ⟨_, e1⟩ | ⟨_, _, e1⟩ | ⟨_, _, _, _, _, _, e1⟩⟩ <;> rw [e1]
    · by_cases h8 : d.kind = 8
      · rw [step_scrub h8]; rfl
      · rw [step_other h1 h5 h8]
theorem few_list {U : List Int} {n : Int} (h : (U.length : Int) ≤ n) : Few (fun i => (i : Int) ∈ U) n := fun V hn hs => by
  have := nodup_sub (V.map fun v : Nat => (v : Int)) U (by
    refine List.Pairwise.map _ (fun a b hab => ?_) hn
    intro e; exact hab (by omega)) (fun u hu => by
    obtain ⟨v, hv, rfl⟩ := List.mem_map.1 hu
    exact hs v hv)
  rw [List.length_map] at this
  omega
theorem Ok.run {s : St} {K : Nat} (h : Ok s K) (l : List Do) : Ok (run s l).1 (K + l.length) := by
  induction l generalizing s K with
  | nil => exact h
  | cons a l ih =>
    have := ih (h.step a)
    rw [List.length_cons]
    rw [show K + (l.length + 1) = K + 1 + l.length by omega]
    exact this
section
variable {ds : List Dk} {d p : Int} {k : Nat}
end
end Go.Proofs.Ythhcdfjijagalaa.Sto
