/- Joined, and what is not used struck: SoB, SoC, SoD. -/
import Derived.Test.YthhcdfjijagalaaM35
namespace Go.Proofs.Ythhcdfjijagalaa.Sto
set_option linter.unusedVariables false
section
variable {s : St} {K : Nat} {G : Nat → List Evt.Ba} {L : Nat → List (List UInt8)} {had : List (Int × Int)} {H : Nat → Prop}
theorem Core.bad_iff (h : Core s G L had H) (ho : Ok s K) {k : Nat} (hk : k < s.segs) {i : Nat} : i ∈ Stp.badL (blocks s.disks k) k s.disks.length ↔ i ∈ wr s.disks k (L k) := by
  obtain ⟨d', s', S, e1, e2, e3, hl⟩ := h.laid ho hk
  rw [← h.len ho hk]
  exact (h.hurt ho hk).bad hl
theorem Core.mend_ok (h : Core s G L had H) (ho : Ok s K) {k : Nat} (hk : k < s.segs) (hw : ((wr s.disks k (L k)).length : Int) ≤ s.spare) : Stp.mendF (blocks s.disks k) k s.data = (L k, 0) := by
  have h1 := h.read ho hk hw
  obtain ⟨h2, h3⟩ := Stp.layF_eq (h.fit k hk).2
  have hn := ho.nd
  unfold Stp.mendF
  rw [h1]
  simp only [ne_eq, not_true, if_false, blocks_len]
  rw [show (s.disks.length : Int) - s.data = s.spare by omega]
  exact Prod.ext h2.symm h3.symm
theorem Core.mend_lost (h : Core s G L had H) (ho : Ok s K) {k : Nat} (hk : k < s.segs) (hw : s.spare < ((wr s.disks k (L k)).length : Int)) : Stp.mendF (blocks s.disks k) k s.data = ([], 10) := by
  have h1 := h.lost ho hk hw
  unfold Stp.mendF
  rw [h1]
  rfl
/-- where a disk that is there has nothing wrong, it has what was laid -/
theorem Core.held (h : Core s G L had H) (ho : Ok s K) {k : Nat} (hk : k < s.segs) {i : Nat} {x : Dk} (hx : s.disks[i]? = some x) (hg : x.gone = false) (hw : i ∉ wr s.disks k (L k)) : find x.bl k = some ((L k).getD i []) := by
  have hi := (List.getElem?_eq_some_iff.1 hx).1
  have e : (blocks s.disks k).getD i [] = (L k).getD i [] := (h.hurt ho hk).no i hw
  have hne := h.ne ho hk hi
  rw [blocks_row _ _ _ hx] at e
  unfold blockOf at e
  rw [if_neg (by rw [hg]; decide)] at e
  cases hf : find x.bl k with
  | none => rw [hf] at e; exact absurd e.symm hne
  | some b => rw [hf] at e; exact congrArg some e
/-- scrubbing the first k segments -/
structure Scr (s : St) (K : Nat) (G : Nat → List Evt.Ba) (L : Nat → List (List UInt8)) (had : List (Int × Int)) (H : Nat → Prop) (k : Nat) (E : List Dk) (f : Int) : Prop where
  core : Core { s with disks := E } G L had H
  ok : Ok { s with disks := E } K
  gn : ∀ i : Nat, (E[i]?).map Dk.gone = (s.disks[i]?).map Dk.gone
  err : f = 0 ∨ f = 10
  few : Few H s.spare → f = 0
  done : f = 0 → ∀ j : Nat, j < k → ∀ (i : Nat) (x : Dk), E[i]? = some x → x.gone = false → find x.bl j = some ((L j).getD i [])
theorem Core.scr (h : Core s G L had H) (ho : Ok s K) : ∀ k, k ≤ s.segs → Scr s K G L had H k (scrubTo s.disks s.data k).1 (scrubTo s.disks s.data k).2.2
  | 0, _ => ⟨h, ho, fun _ => rfl, .inl rfl, fun _ => rfl, fun _ j hj => absurd hj (Nat.not_lt_zero _)⟩
  | k + 1, hk => by
    have ih := Core.scr h ho k (by omega)
    obtain ⟨E, c, f, e⟩ : ∃ E c f, scrubTo s.disks s.data k = (E, c, f) := ⟨_, _, _, rfl⟩
    rw [e] at ih
    simp only at ih
    have hk' : k < ({ s with disks := E } : St).segs := hk
    by_cases h1 : Stp.badL (blocks E k) k E.length = []
    · rw [scrub_1 e h1]
      refine ⟨ih.core, ih.ok, ih.gn, ih.err, ih.few, fun hf j hj i x hx hg => ?_⟩
      by_cases ej : j = k
      · subst ej
        refine ih.core.held ih.ok hk' hx hg (fun hu => ?_)
        have := (ih.core.bad_iff ih.ok hk').2 hu
        rw [show ({ s with disks := E } : St).disks = E from rfl, h1] at this
        cases this
      · exact ih.done hf j (by omega) i x hx hg
    · by_cases hw : ((wr E k (L k)).length : Int) ≤ s.spare
      · have hm := ih.core.mend_ok ih.ok hk' hw
        have hm' : Stp.mendF (blocks E k) k s.data = (L k, 0) := hm
        rw [scrub_3 e h1 (by rw [hm']), hm']
        refine ⟨ih.core.mend hk', ?_, fun i => ?_, ih.err, ih.few, fun hf j hj i y hy hg => ?_⟩
        · have h3 := ih.ok.disks (write E k (L k)) (write_length _ _ _) (write_ok ih.ok.bl ⟨by omega, by show (k : Int) < (s.segs : Int); omega⟩)
          exact h3
        · show (write E k (L k))[i]?.map Dk.gone = _
          rw [write_get, Option.map_map, ← ih.gn i]
          cases E[i]? with
          | none => rfl
          | some x => show some (wrD x k _).gone = some x.gone; rw [wrD_gone]
        · have hy : (write E k (L k))[i]? = some y := hy
          obtain ⟨x, hx, rfl⟩ := write_at hy
          rw [wrD_gone] at hg
          by_cases ej : j = k
          · subst ej; exact wrD_same hg _ _
          · rw [wrD_other _ _ (by omega)]
            exact ih.done hf j (by omega) i x hx hg
      · have hm := ih.core.mend_lost ih.ok hk' (by show s.spare < ((wr E k (L k)).length : Int); omega)
        have hm' : Stp.mendF (blocks E k) k s.data = ([], 10) := hm
        rw [scrub_2 e h1 (by rw [hm']; decide), hm']
        refine ⟨ih.core, ih.ok, ih.gn, ?_, fun hf => ?_, fun hf => ?_⟩
        · show (if f = 0 then (10 : Int) else f) = 0 ∨ (if f = 0 then (10 : Int) else f) = 10
          rcases ih.err with e | e
          · rw [if_pos e]; exact .inr rfl
          · rw [e, if_neg (by decide)]; exact .inr rfl
        · exact absurd (ih.core.few ih.ok hf k hk') hw
        · have hf : (if f = 0 then (10 : Int) else f) = 0 := hf
          split at hf
          · exact absurd hf (by decide)
          · rename_i hne; exact absurd hf hne
theorem put_cases (s : St) (d : Do) : ((put s d).1 = s ∧ ((put s d).2.err ≠ 0 ∨ d.b.c ∈ s.seen)) ∨
    ((put s d).2.err = 0 ∧ ¬ d.b.c ∈ s.seen ∧ (put s d).1.data = s.data ∧ (put s d).1.spare = s.spare ∧ (put s d).1.batches = s.batches ∧
      (((put s d).1.disks = s.disks ∧ (put s d).1.segs = s.segs ∧ (put s d).1.tail = s.tail ++ [d.b] ∧ ((s.tail.length : Int) + 1 ≠ s.batches)) ∨
       (∃ L', (Evt.bytesR (s.tail ++ [d.b])).err = 0 ∧ Stp.LayR (Evt.bytesR (s.tail ++ [d.b])).l (s.segs : Int) s.data s.spare L' 0 ∧ (put s d).1.disks = write s.disks s.segs L' ∧ (put s d).1.segs = s.segs + 1 ∧ (put s d).1.tail = [] ∧ ((s.tail.length : Int) + 1 = s.batches)))) := by
  unfold put
  split
  · rename_i h; exact .inl ⟨rfl, .inl h⟩
  · split
    · rename_i h; exact .inl ⟨rfl, .inr h⟩
    · rename_i hm
      split
      · exact .inl ⟨rfl, .inl (show (11 : Int) ≠ 0 by decide)⟩
      · split
        · rename_i h; exact .inl ⟨rfl, .inl h⟩
        · split
          · rename_i hlen
            have hlen : (s.tail.length : Int) + 1 = s.batches := by
              rw [List.length_append] at hlen
              simpa using hlen
            split
            · rename_i h; exact .inl ⟨rfl, .inl h⟩
            · rename_i hs
              have hs := Classical.not_not.1 hs
              refine .inr ⟨rfl, hm, ?_⟩
              by_cases e1 : (Evt.bytesR (s.tail ++ [d.b])).err ≠ 0
              · have : sealS { s with tail := s.tail ++ [d.b] } = ({ s with tail := s.tail ++ [d.b] }, (Evt.bytesR (s.tail ++ [d.b])).err) := by unfold sealS; rw [if_pos e1]
                rw [this] at hs
                exact absurd hs e1
              · by_cases e2 : (Stp.layF (Evt.bytesR (s.tail ++ [d.b])).l (s.segs : Int) s.data s.spare).2 ≠ 0
                · have : sealS { s with tail := s.tail ++ [d.b] } = ({ s with tail := s.tail ++ [d.b] }, (Stp.layF (Evt.bytesR (s.tail ++ [d.b])).l (s.segs : Int) s.data s.spare).2) := by unfold sealS; rw [if_neg e1, if_pos e2]
                  rw [this] at hs
                  exact absurd hs e2
                · have : sealS { s with tail := s.tail ++ [d.b] } = ({ s with disks := write s.disks s.segs (Stp.layF (Evt.bytesR (s.tail ++ [d.b])).l (s.segs : Int) s.data s.spare).1, segs := s.segs + 1, tail := [] }, 0) := by unfold sealS; rw [if_neg e1, if_neg e2]
                  rw [this]
                  have hl := Stp.layF_spec (Evt.bytesR (s.tail ++ [d.b])).l (s.segs : Int) s.data s.spare
                  rw [Classical.not_not.1 e2] at hl
                  exact ⟨rfl, rfl, rfl, .inr ⟨_, Classical.not_not.1 e1, hl, rfl, rfl, rfl, hlen⟩⟩
          · rename_i hlen
            have hlen : (s.tail.length : Int) + 1 ≠ s.batches := by
              rw [List.length_append] at hlen
              simpa using hlen
            exact .inr ⟨rfl, hm, rfl, rfl, rfl, .inl ⟨rfl, rfl, rfl, hlen⟩⟩
theorem flatMap_congr' {α : Type} {G G' : Nat → List α} {n : Nat} (h : ∀ k, k < n → G k = G' k) : (List.range n).flatMap G = (List.range n).flatMap G' := by
  induction n with
  | zero => rfl
  | succ n ih => rw [range_flat, range_flat, ih (fun k hk => h k (by omega)), h n (by omega)]
theorem Core.put (h : Core s G L had H) (ho : Ok s K) (d : Do) (hd : d.kind = 1) : ∃ G' L', Core (put s d).1 G' L' had H ∧ tot (put s d).1 G' = tot s G ++ newB s d := by
  unfold newB
  rw [step_put hd]
  rcases put_cases s d with ⟨h1, h2⟩ | ⟨h1, h2, h3, h4, h5, h6⟩
  · rw [if_neg (by rintro ⟨_, h3, h4⟩; rcases h2 with h2 | h2; exact h2 h3; exact h4 h2), List.append_nil, h1]
    exact ⟨G, L, h, rfl⟩
  · rw [if_pos ⟨hd, h1, h2⟩]
    rcases h6 with ⟨h6, h7, h8, _⟩ | ⟨L', h6, h7, h8, h9, h10, _⟩
    · refine ⟨G, L, h.congr h3 h4 h6 h7, ?_⟩
      unfold tot
      rw [h7, h8, List.append_assoc]
    · refine ⟨_, _, h.seal ho (s.tail ++ [d.b]) L' h6 h7 h3 h4 h8 h9, ?_⟩
      unfold tot
      rw [h9, h10, range_flat, List.append_nil, List.append_assoc]
      simp only [if_true]
      rw [flatMap_congr' (G' := G) (fun k hk => by rw [if_neg (by omega)])]
def isGone (s : St) (i : Nat) : Prop := ∃ x, s.disks[i]? = some x ∧ x.gone = true
/-- which disks are harmed then -/
noncomputable def hurtN (s : St) (d : Do) (H : Nat → Prop) : Nat → Prop :=
  if d.kind = 5 ∨ d.kind = 6 ∨ d.kind = 7 then (if (step s d).2.err = 0 then fun i => H i ∨ (i : Int) = d.n else H)
  else if d.kind = 8 then (if (step s d).2.err = 0 then isGone (step s d).1 else H) else H
/-- what was spoilt then -/
def hadN (had : List (Int × Int)) (d : Do) : List (Int × Int) := if d.kind = 7 ∧ d.y ≠ 0 then (d.n, d.seg) :: had else had
theorem hadN_sub (had : List (Int × Int)) (d : Do) : ∀ x ∈ had, x ∈ hadN had d := fun x hx => by
  unfold hadN; split
  · exact List.mem_cons_of_mem _ hx
  · exact hx
theorem step_harm {s : St} {d : Do} (h : d.kind = 5 ∨ d.kind = 6 ∨ d.kind = 7) : step s d = harm s d := by
  unfold step; rw [if_neg (by omega), if_neg (by omega), if_neg (by omega), if_pos h]
theorem step_scrub {s : St} {d : Do} (h : d.kind = 8) : step s d = scrub s := by
  unfold step; rw [if_neg (by omega), if_neg (by omega), if_neg (by omega), if_neg (by omega), if_pos h]
theorem step_other {s : St} {d : Do} (h1 : d.kind ≠ 1) (h2 : ¬ (d.kind = 5 ∨ d.kind = 6 ∨ d.kind = 7)) (h3 : d.kind ≠ 8) : (step s d).1 = s := by
  unfold step
  rw [if_neg h1]
  by_cases h4 : d.kind = 2 ∨ d.kind = 3
  · rw [if_pos h4]
  · rw [if_neg h4]
    by_cases h5 : d.kind = 4
    · rw [if_pos h5]
    · rw [if_neg h5, if_neg h2, if_neg h3]
      split <;> rfl
theorem disk_at {s : St} {n : Int} (h0 : 0 ≤ n) (h1 : n < s.disks.length) : s.disks[n.toNat]? = some (s.disks.getD n.toNat ⟨false, []⟩) := by
  have : n.toNat < s.disks.length := by omega
  simp [List.getD, this]
/-- what harming a disk can be -/
theorem harm_cases (s : St) (d : Do) : ((harm s d).1 = s ∧ (harm s d).2.err ≠ 0) ∨ ((harm s d).2.err = 0 ∧ 0 ≤ d.n ∧ d.n < s.disks.length ∧
    ((d.kind = 6 ∧ (harm s d).1 = { s with disks := s.disks.set d.n.toNat ⟨false, []⟩ }) ∨ (d.kind = 5 ∧ (s.disks.getD d.n.toNat ⟨false, []⟩).gone = false ∧ (harm s d).1 = { s with disks := s.disks.set d.n.toNat ⟨true, []⟩ }) ∨
     (d.kind ≠ 6 ∧ d.kind ≠ 5 ∧ ∃ b, find (s.disks.getD d.n.toNat ⟨false, []⟩).bl d.seg = some b ∧ 0 ≤ d.t ∧ d.t.toNat < b.length ∧
       (harm s d).1 = { s with disks := s.disks.set d.n.toNat ⟨(s.disks.getD d.n.toNat ⟨false, []⟩).gone, setB (s.disks.getD d.n.toNat ⟨false, []⟩).bl d.seg (b.set d.t.toNat (b.getD d.t.toNat 0 ^^^ d.y))⟩ }))) := by
  unfold harm
  split
  · exact .inl ⟨rfl, show (6 : Int) ≠ 0 by decide⟩
  · rename_i hn
    split
    · rename_i h6; exact .inr ⟨rfl, by omega, by omega, .inl ⟨h6, rfl⟩⟩
    · rename_i h6
      split
      · rename_i h5
        split
        · exact .inl ⟨rfl, show (8 : Int) ≠ 0 by decide⟩
        · rename_i hg; exact .inr ⟨rfl, by omega, by omega, .inr (.inl ⟨h5, by simpa using hg, rfl⟩)⟩
      · rename_i h5
        split
        · exact .inl ⟨rfl, show (6 : Int) ≠ 0 by decide⟩
        · rename_i b hb
          split
          · exact .inl ⟨rfl, show (3 : Int) ≠ 0 by decide⟩
          · rename_i ht; exact .inr ⟨rfl, by omega, by omega, .inr (.inr ⟨h6, h5, b, hb, by omega, by omega, rfl⟩)⟩
theorem Core.harm (h : Core s G L had H) (ho : Ok s K) (d : Do) (hd : d.kind = 5 ∨ d.kind = 6 ∨ d.kind = 7) (hy : d.kind = 7 → d.y ≠ 0 → (d.n, d.seg) ∉ had) : Core (harm s d).1 G L (hadN had d) (hurtN s d H) := by
  unfold hurtN
  rw [if_pos hd, step_harm hd]
  rcases harm_cases s d with ⟨h1, h2⟩ | ⟨h1, h2, h3, h4⟩
  · rw [h1, if_neg h2]
    exact h.mono (hadN_sub had d) (fun _ e => e)
  · rw [if_pos h1]
    have hx := disk_at h2 h3
    have en : ((d.n.toNat : Nat) : Int) = d.n := by omega
    rcases h4 with ⟨_, h4⟩ | ⟨_, _, h4⟩ | ⟨h5, h6, b, hb, ht0, ht, h4⟩
    · rw [h4]
      exact (h.fresh d.n.toNat false).mono (hadN_sub had d) (fun i e => e.imp id (fun e => by omega))
    · rw [h4]
      exact (h.fresh d.n.toNat true).mono (hadN_sub had d) (fun i e => e.imp id (fun e => by omega))
    · rw [h4]
      have h7 : d.kind = 7 := by omega
      refine (h.spoil ho hx hb ht (fun hy0 => by rw [en]; exact hy h7 hy0)).mono (fun x hx => ?_) (fun i e => e.imp id (fun e => by omega))
      unfold hadN
      by_cases hy0 : d.y ≠ 0
      · rw [if_pos hy0, en] at hx
        rw [if_pos ⟨h7, hy0⟩]; exact hx
      · rw [if_neg hy0] at hx
        rw [if_neg (fun e => hy0 e.2)]; exact hx
theorem Core.scrub (h : Core s G L had H) (ho : Ok s K) : Core (scrub s).1 G L had H := (h.scr ho s.segs (Nat.le_refl _)).core
theorem Core.scrubbed (h : Core s G L had H) (ho : Ok s K) (he : (Sto.scrub s).2.err = 0) : Core (Sto.scrub s).1 G L had (isGone (Sto.scrub s).1) := by
  have h1 := h.scr ho s.segs (Nat.le_refl _)
  refine ⟨h1.core.fit, h1.core.gone, h1.core.hold, fun i x hx hn => ?_⟩
  have hg : x.gone = false := by
    cases e : x.gone with
    | false => rfl
    | true => exact absurd ⟨x, hx, e⟩ hn
  exact ⟨hg, fun k hk => h1.done he k hk i x hx hg⟩
theorem newB_no {s : St} {d : Do} (h : d.kind ≠ 1) : newB s d = [] := by unfold newB; rw [if_neg (fun e => h e.1)]
theorem harm_rest (s : St) (d : Do) : (Sto.harm s d).1.segs = s.segs ∧ (Sto.harm s d).1.tail = s.tail := by
  rcases harm_cases s d with ⟨h1, _⟩ | ⟨_, _, _, ⟨_, h1⟩ | ⟨_, _, h1⟩ | ⟨_, _, _, _, _, _, h1⟩⟩ <;> rw [h1] <;> exact ⟨rfl, rfl⟩
theorem Core.step (h : Core s G L had H) (ho : Ok s K) (d : Do) (hy : d.kind = 7 → d.y ≠ 0 → (d.n, d.seg) ∉ had) : ∃ G' L', Core (step s d).1 G' L' (hadN had d) (hurtN s d H) ∧ tot (step s d).1 G' = tot s G ++ newB s d := by
  by_cases h1 : d.kind = 1
  · obtain ⟨G', L', h2, h3⟩ := h.put ho d h1
    refine ⟨G', L', ?_, by rw [step_put h1]; exact h3⟩
    rw [step_put h1]
    unfold hurtN
    rw [if_neg (by omega), if_neg (by omega)]
    exact h2.mono (hadN_sub had d) (fun _ e => e)
  · rw [newB_no h1, List.append_nil]
    by_cases h5 : d.kind = 5 ∨ d.kind = 6 ∨ d.kind = 7
    · have := h.harm ho d h5 hy
      rw [step_harm h5]
      refine ⟨G, L, this, ?_⟩
      unfold tot
      rw [(harm_rest s d).1, (harm_rest s d).2]
    · by_cases h8 : d.kind = 8
      · refine ⟨G, L, ?_, ?_⟩
        · unfold hurtN
          rw [if_neg h5, if_pos h8, step_scrub h8]
          split
          · rename_i he; exact (h.scrubbed ho he).mono (hadN_sub had d) (fun _ e => e)
          · exact (h.scrub ho).mono (hadN_sub had d) (fun _ e => e)
        · rw [step_scrub h8]; rfl
      · have := step_other (s := s) h1 h5 h8
        rw [this]
        refine ⟨G, L, ?_, rfl⟩
        unfold hurtN
        rw [if_neg h5, if_neg h8]
        exact h.mono (hadN_sub had d) (fun _ e => e)
end
/-- all that holds of a store: X was put in -/
structure J (s : St) (X : List Evt.Ba) (had : List (Int × Int)) (H : Nat → Prop) (K : Nat) : Prop where
  ok : Ok s K
  inv : Inv s X
  core : ∃ G L, Core s G L had H ∧ tot s G = X
theorem J.start {d p b : Int} (h : wrongS d p b = 0) (H : Nat → Prop) : J (start d p b) [] [] H 0 := ⟨Ok.start h, Inv.start d p b, fun _ => [], fun _ => [], Core.start d p b _ _ H, rfl⟩
theorem J.step {s : St} {X : List Evt.Ba} {had : List (Int × Int)} {H : Nat → Prop} {K : Nat} (h : J s X had H K) (d : Do) (hy : d.kind = 7 → d.y ≠ 0 → (d.n, d.seg) ∉ had) : J (step s d).1 (X ++ newB s d) (hadN had d) (hurtN s d H) (K + 1) := by
  obtain ⟨G, L, hc, ht⟩ := h.core
  obtain ⟨G', L', hc', ht'⟩ := hc.step h.ok d hy
  exact ⟨h.ok.step d, h.inv.step d, G', L', hc', by rw [ht', ht]⟩
theorem J.all_ok {s : St} {X : List Evt.Ba} {had : List (Int × Int)} {H : Nat → Prop} {K : Nat} (h : J s X had H K) (hf : Few H s.spare) : Sto.all s = (X, 0) := by
  obtain ⟨G, L, hc, ht⟩ := h.core
  rw [← ht]
  exact hc.all_ok h.ok (hc.few h.ok hf)
theorem J.scrub_err {s : St} {X : List Evt.Ba} {had : List (Int × Int)} {H : Nat → Prop} {K : Nat} (h : J s X had H K) : (Sto.scrub s).2.err = 0 ∨ (Sto.scrub s).2.err = 10 := by
  obtain ⟨G, L, hc, ht⟩ := h.core
  exact (hc.scr h.ok s.segs (Nat.le_refl _)).err
theorem J.mono {s : St} {X : List Evt.Ba} {had : List (Int × Int)} {H H' : Nat → Prop} {K : Nat} (h : J s X had H K) (hh : ∀ i, H i → H' i) : J s X had H' K := by
  obtain ⟨G, L, hc, ht⟩ := h.core
  exact ⟨h.ok, h.inv, G, L, hc.mono (fun _ e => e) hh, ht⟩
end Go.Proofs.Ythhcdfjijagalaa.Sto
namespace Go.Proofs.Ythhcdfjijagalaa.Sto
set_option linter.unusedVariables false
theorem run_snoc' (s : St) (l : List Do) (d : Do) : run s (l ++ [d]) = ((step (run s l).1 d).1, (run s l).2 ++ [(step (run s l).1 d).2]) := by
  induction l generalizing s with
  | nil => rfl
  | cons a l ih => show run s (a :: (l ++ [d])) = _; unfold run; rw [ih]; rfl
theorem run_len (s : St) (l : List Do) : (run s l).2.length = l.length := by
  induction l generalizing s with
  | nil => rfl
  | cons a l ih => show (run s (a :: l)).2.length = _; unfold run; simp [ih]
/-- the store behind the first k things -/
noncomputable def stt (s : St) (l : List Do) (k : Nat) : St := (run s (l.take k)).1
theorem take_snoc {α : Type} (l : List α) (k : Nat) (h : k < l.length) : l.take (k + 1) = l.take k ++ [l[k]] := by
  rw [List.take_add_one, List.getElem?_eq_getElem h]; rfl
theorem stt_succ (s : St) (l : List Do) (k : Nat) (h : k < l.length) : stt s l (k + 1) = (step (stt s l k) l[k]).1 := by
  unfold stt; rw [take_snoc l k h, run_snoc']
theorem run_cons (s : St) (d : Do) (l : List Do) : run s (d :: l) = ((run (step s d).1 l).1, (step s d).2 :: (run (step s d).1 l).2) := rfl
theorem run_app (s : St) (l m : List Do) : (run s (l ++ m)).2 = (run s l).2 ++ (run (run s l).1 m).2 ∧ (run s (l ++ m)).1 = (run (run s l).1 m).1 := by
  induction l generalizing s with
  | nil => exact ⟨rfl, rfl⟩
  | cons a l ih =>
    rw [List.cons_append, run_cons, run_cons, (ih _).1, (ih _).2]
    exact ⟨rfl, rfl⟩
theorem stt_all (s : St) (l : List Do) : stt s l l.length = (run s l).1 := by unfold stt; rw [List.take_length]
theorem toldS_snoc (s : St) (l : List Do) (d : Do) : toldS s (l ++ [d]) = toldS s l ++ newB (run s l).1 d := by
  induction l generalizing s with
  | nil => show newB s d ++ [] = [] ++ newB s d; simp
  | cons a l ih =>
    show newB s a ++ toldS (step s a).1 (l ++ [d]) = (newB s a ++ toldS (step s a).1 l) ++ newB (run s (a :: l)).1 d
    rw [ih, List.append_assoc]; rfl
theorem toldS_succ (s : St) (l : List Do) (k : Nat) (h : k < l.length) : toldS s (l.take (k + 1)) = toldS s (l.take k) ++ newB (stt s l k) l[k] := by
  rw [take_snoc l k h, toldS_snoc]; rfl
/-- what was spoilt ahead of a place -/
def hadTo (l : List Do) : Nat → List (Int × Int)
  | 0 => []
  | k + 1 => match l[k]? with
    | some d => hadN (hadTo l k) d
    | none => hadTo l k
theorem hadTo_succ {l : List Do} {k : Nat} (h : k < l.length) : hadTo l (k + 1) = hadN (hadTo l k) l[k] := by
  show (match l[k]? with
    | some d => hadN (hadTo l k) d
    | none => hadTo l k) = _
  rw [List.getElem?_eq_getElem h]
/-- each block is spoilt once at most -/
def Once (l : List Do) : Prop := ∀ k (h : k < l.length), l[k].kind = 7 → l[k].y ≠ 0 → (l[k].n, l[k].seg) ∉ hadTo l k
theorem J.run {d p b : Int} (hw : wrongS d p b = 0) {l : List Do} (ho : Once l) : ∀ k, k ≤ l.length → J (stt (Sto.start d p b) l k) (toldS (Sto.start d p b) (l.take k)) (hadTo l k) (fun _ => True) k
  | 0, _ => J.start hw _
  | k + 1, hk => by
    have ih := J.run hw ho k (by omega)
    have hk' : k < l.length := by omega
    rw [stt_succ _ _ _ hk', toldS_succ _ _ _ hk', hadTo_succ hk']
    exact (ih.step l[k] (ho k hk')).mono (fun _ _ => trivial)
theorem read_of {s : St} {X : List Evt.Ba} (ha : all s = (X, 0)) (d : Do) : read s d = if d.kind = 3 then (if d.n < 0 ∨ ((events X).length : Int) < d.n then anE 3 else ⟨0, (events X).length, (events X).drop d.n.toNat, Vw.none'⟩)
    else if Evt.named (Evt.lst d.stream) = false then anE 7 else ⟨0, ((events X).filter fun x => decide (x.s = d.stream)).length, (events X).filter fun x => decide (x.s = d.stream), Vw.none'⟩ := by
  unfold read
  rw [ha, if_neg (show ¬ ((X, (0 : Int)).2 ≠ 0) from fun h => h rfl)]
theorem play_ok {d p b : Int} {l : List Do} {s : St} {a : List An} (h : play d p b l = (s, a, 0)) : wrongS d p b = 0 ∧ l.length ≤ 80 ∧ s = (run (start d p b) l).1 ∧ a = (run (start d p b) l).2 := by
  unfold play at h
  split at h
  · rename_i h1
    simp only [Prod.mk.injEq] at h
    exact absurd h.2.2 h1
  · rename_i h1
    split at h
    · simp only [Prod.mk.injEq] at h
      exact absurd h.2.2 (by decide)
    · rename_i h2
      simp only [Prod.mk.injEq] at h
      exact ⟨Classical.not_not.1 h1, by omega, h.1.symm, h.2.1.symm⟩
theorem play_of {d p b : Int} {l : List Do} (h1 : wrongS d p b = 0) (h2 : l.length ≤ 80) : play d p b l = ((run (start d p b) l).1, (run (start d p b) l).2, 0) := by
  unfold play
  rw [if_neg (by intro h; exact h h1), if_neg (by omega)]
end Go.Proofs.Ythhcdfjijagalaa.Sto
namespace Go.Proofs.Ythhcdfjijagalaa.Sto
set_option linter.unusedVariables false
theorem step_spare (s : St) (d : Do) : (step s d).1.spare = s.spare := by
  by_cases h1 : d.kind = 1
  · rw [step_put h1]
    rcases put_cases s d with ⟨e1, _⟩ | ⟨_, _, _, e, _⟩
    · rw [e1]
    · exact e
  · by_cases h5 : d.kind = 5 ∨ d.kind = 6 ∨ d.kind = 7
    · rw [step_harm h5]
      rcases harm_cases s d with ⟨e1, _⟩ | ⟨_, _, _, ⟨_, e1⟩ | ⟨_, _, e1⟩ | ⟨_, _, _, _, _, _, e1⟩⟩ <;> rw [e1]
    · by_cases h8 : d.kind = 8
      · rw [step_scrub h8]; rfl
      · rw [step_other h1 h5 h8]
theorem few_list {U : List Int} {n : Int} (h : (U.length : Int) ≤ n) : Few (fun i => (i : Int) ∈ U) n := fun V hn hs => by
  have := nodup_sub (V.map fun v : Nat => (v : Int)) U (by
    refine List.Pairwise.map _ (fun a b hab => ?_) hn
    intro e; exact hab (by omega)) (fun u hu => by
    obtain ⟨v, hv, rfl⟩ := List.mem_map.1 hu
    exact hs v hv)
  rw [List.length_map] at this
  omega
/-! ### scrubbed it is clean -/
def GoneOk (ds : List Dk) : Prop := ∀ x ∈ ds, x.gone = true → x.bl = []
theorem GoneOk.write {ds : List Dk} (h : GoneOk ds) (k : Int) (L : List (List UInt8)) : GoneOk (write ds k L) := fun x hx hg => by
  obtain ⟨y, hy, b, rfl⟩ := write_mem hx
  rw [wrD_gone] at hg
  rw [wrD_no hg]
  exact h y hy hg
theorem GoneOk.scrubTo {ds : List Dk} (h : GoneOk ds) (d : Int) : ∀ k, GoneOk (scrubTo ds d k).1
  | 0 => h
  | k + 1 => by
    have ih := GoneOk.scrubTo h d k
    unfold Sto.scrubTo
    simp only
    split
    · exact ih
    · split
      · exact ih
      · exact ih.write _ _
theorem GoneOk.step {s : St} (h : GoneOk s.disks) (d : Do) : GoneOk (step s d).1.disks := by
  by_cases h1 : d.kind = 1
  · rw [step_put h1]
    rcases put_cases s d with ⟨e1, _⟩ | ⟨_, _, _, _, _, e6⟩
    · rw [e1]; exact h
    · rcases e6 with ⟨e6, _⟩ | ⟨L', _, _, e6, _⟩
      · rw [e6]; exact h
      · rw [e6]; exact h.write _ _
  · by_cases h5 : d.kind = 5 ∨ d.kind = 6 ∨ d.kind = 7
    · rw [step_harm h5]
      rcases harm_cases s d with ⟨e1, _⟩ | ⟨_, e2, e3, ⟨_, e1⟩ | ⟨_, _, e1⟩ | ⟨_, _, b, hb, _, _, e1⟩⟩
      · rw [e1]; exact h
      · rw [e1]; exact fun x hx hg => by
          rcases List.mem_or_eq_of_mem_set hx with hx | rfl
          · exact h x hx hg
          · rfl
      · rw [e1]; exact fun x hx hg => by
          rcases List.mem_or_eq_of_mem_set hx with hx | rfl
          · exact h x hx hg
          · rfl
      · rw [e1]; exact fun x hx hg => by
          rcases List.mem_or_eq_of_mem_set hx with hx | rfl
          · exact h x hx hg
          · have hx0 := disk_at e2 e3
            have hbl := h _ (List.mem_of_getElem? hx0) hg
            rw [hbl] at hb; cases hb
    · by_cases h8 : d.kind = 8
      · rw [step_scrub h8]; exact GoneOk.scrubTo h _ _
      · rw [step_other h1 h5 h8]; exact h
theorem GoneOk.run {s : St} (h : GoneOk s.disks) (l : List Do) : GoneOk (run s l).1.disks := by
  induction l generalizing s with
  | nil => exact h
  | cons a l ih => exact ih (h.step a)
theorem GoneOk.start (d p b : Int) : GoneOk (start d p b).disks := fun x hx hg => by
  have hx : x ∈ List.replicate (d + p).toNat (⟨false, []⟩ : Dk) := hx
  obtain ⟨_, rfl⟩ := List.mem_replicate.1 hx
  rfl
theorem Ok.run {s : St} {K : Nat} (h : Ok s K) (l : List Do) : Ok (run s l).1 (K + l.length) := by
  induction l generalizing s K with
  | nil => exact h
  | cons a l ih =>
    have := ih (h.step a)
    rw [List.length_cons]
    rw [show K + (l.length + 1) = K + 1 + l.length by omega]
    exact this
/-- places of disks that are gone -/
def gonePl (ds : List Dk) : List Nat := (List.range ds.length).filter fun i => (ds.getD i ⟨false, []⟩).gone
theorem gonePl_len (ds : List Dk) : (gonePl ds).length = (ds.filter Dk.gone).length := by
  have e : (List.range ds.length).map (fun i => ds.getD i ⟨false, []⟩) = ds := by
    apply List.ext_getElem
    · simp
    · intro i h1 h2
      simp [List.getD, h2]
  have : (ds.filter Dk.gone).length = (((List.range ds.length).map (fun i => ds.getD i ⟨false, []⟩)).filter Dk.gone).length := by rw [e]
  rw [this, List.filter_map, List.length_map]
  rfl
theorem mem_gonePl {ds : List Dk} {i : Nat} : i ∈ gonePl ds ↔ ∃ x, ds[i]? = some x ∧ x.gone = true := by
  unfold gonePl
  rw [List.mem_filter, List.mem_range]
  constructor
  · rintro ⟨h1, h2⟩
    refine ⟨ds[i], List.getElem?_eq_getElem h1, ?_⟩
    simpa [List.getD, h1] using h2
  · rintro ⟨x, hx, hg⟩
    have h1 := (List.getElem?_eq_some_iff.1 hx).1
    refine ⟨h1, ?_⟩
    rw [List.getD, hx]; exact hg
/-- a segment whose blocks are right, but on disks that are gone -/
def Clean (ds : List Dk) (d p : Int) (k : Nat) : Prop :=
  (gonePl ds = [] ∧ Stp.badL (blocks ds k) k ds.length = []) ∨
  ∃ b L, Stp.LayR b (k : Int) d p L 0 ∧ ((gonePl ds).length : Int) ≤ p ∧ ∀ (i : Nat) (x : Dk), ds[i]? = some x → x.gone = false → find x.bl k = some (L.getD i [])
theorem blocks_write {ds : List Dk} {k : Int} {L : List (List UInt8)} {j : Int} (hj : j ≠ k) : blocks (write ds k L) j = blocks ds j := by
  apply List.ext_getElem?
  intro i
  unfold blocks
  rw [List.getElem?_map, List.getElem?_map, write_get, Option.map_map]
  cases ds[i]? with
  | none => rfl
  | some x =>
    show some (blockOf (wrD x k _) j) = some (blockOf x j)
    unfold blockOf
    rw [wrD_gone, wrD_other _ _ hj]
theorem gonePl_write (ds : List Dk) (k : Int) (L : List (List UInt8)) : gonePl (write ds k L) = gonePl ds := by
  unfold gonePl
  rw [write_length]
  refine List.filter_congr fun i hi => ?_
  have hi := List.mem_range.1 hi
  rw [List.getD, write_get, List.getD, List.getElem?_eq_getElem hi]
  show (wrD _ _ _).gone = _
  rw [wrD_gone]; simp [List.getD, hi]
theorem Clean.write {ds : List Dk} {d p : Int} {j : Nat} (h : Clean ds d p j) {k : Int} (L : List (List UInt8)) (hj : (j : Int) ≠ k) : Clean (write ds k L) d p j := by
  unfold Clean
  rw [gonePl_write, blocks_write hj, write_length]
  rcases h with h | ⟨b, L', h1, h2, h3⟩
  · exact .inl h
  · refine .inr ⟨b, L', h1, h2, fun i y hy hg => ?_⟩
    obtain ⟨x, hx, rfl⟩ := write_at hy
    rw [wrD_gone] at hg
    rw [wrD_other _ _ hj]
    exact h3 i x hx hg
theorem find_rise {x : Dk} {g : Nat} (hb : BlOk (g : Int) x) (hf : ∀ k : Nat, k < g → find x.bl k ≠ none) : x.bl.length = g := by
  have h1 := rise_len _ 0 g hb.1 (fun y hy => by
    obtain ⟨z, hz, rfl⟩ := List.mem_map.1 hy
    exact hb.2 z hz)
  rw [List.length_map] at h1
  have h2 := nodup_sub ((List.range g).map fun k : Nat => (k : Int)) (x.bl.map Hd.seg) (by
    refine List.Pairwise.map _ (fun a b hab => ?_) List.nodup_range
    intro e; exact hab (by omega)) (fun u hu => by
    obtain ⟨k, hk, rfl⟩ := List.mem_map.1 hu
    have hk := List.mem_range.1 hk
    cases h : find x.bl k with
    | none => exact absurd h (hf k hk)
    | some b =>
      obtain ⟨a, ha, e⟩ := find_mem h
      exact List.mem_map.2 ⟨a, ha, e⟩)
  rw [List.length_map, List.length_range, List.length_map] at h2
  omega
section
variable {ds : List Dk} {d p : Int} {k : Nat}
/-- what is read of a segment that is clean -/
theorem Clean.hurt (hg : GoneOk ds) (hn : (ds.length : Int) = d + p) {b : List UInt8} {L : List (List UInt8)} (h1 : Stp.LayR b (k : Int) d p L 0) (h3 : ∀ (i : Nat) (x : Dk), ds[i]? = some x → x.gone = false → find x.bl k = some (L.getD i [])) :
    ∃ d' p' S, d = ((d' : Nat) : Int) ∧ p = ((p' : Nat) : Int) ∧ Stp.Laid b k d' p' S L ∧ L.length = ds.length ∧ Stp.Hurt L (blocks ds k) (gonePl ds) := by
  obtain ⟨g', d', p', S, e1, e2, e3, hl⟩ := h1.laid rfl
  obtain rfl : k = g' := by omega
  have hlen : L.length = ds.length := by rw [hl.len]; omega
  refine ⟨d', p', S, e2, e3, hl, hlen, by rw [blocks_len, hlen], List.nodup_range.filter _, fun u hu => ?_, fun i hi => ?_, fun i hi => ?_⟩
  · rw [hlen]; exact List.mem_range.1 (List.mem_filter.1 hu).1
  · by_cases hlt : i < ds.length
    · have hx : ds[i]? = some ds[i] := List.getElem?_eq_getElem hlt
      have hgx : ds[i].gone = false := by
        cases e : ds[i].gone with
        | false => rfl
        | true => exact absurd (mem_gonePl.2 ⟨_, hx, e⟩) hi
      rw [blocks_row _ _ _ hx]
      unfold blockOf
      rw [if_neg (by rw [hgx]; decide), h3 i _ hx hgx]; rfl
    · rw [List.getD, List.getElem?_eq_none (by rw [blocks_len]; omega), List.getD, List.getElem?_eq_none (by omega)]
  · obtain ⟨x, hx, hgx⟩ := mem_gonePl.1 hi
    left
    rw [blocks_row _ _ _ hx]
    unfold blockOf
    rw [if_pos hgx]
theorem Clean.bad (h : Clean ds d p k) (hg : GoneOk ds) (hn : (ds.length : Int) = d + p) : (Stp.badL (blocks ds k) k ds.length).length = (gonePl ds).length ∧ ∀ i, i ∈ Stp.badL (blocks ds k) k ds.length → i ∈ gonePl ds := by
  rcases h with ⟨h1, h2⟩ | ⟨b, L, h1, h2, h3⟩
  · rw [h1, h2]; exact ⟨rfl, fun i hi => hi⟩
  · obtain ⟨d', p', S, e1, e2, hl, hlen, hh⟩ := Clean.hurt hg hn h1 h3
    rw [← hlen]
    exact ⟨hh.bad_len hl, fun i hi => (hh.bad hl).1 hi⟩
/-- a block that is there, where none is wrong -/
theorem Clean.found (h : Clean ds d p k) {i : Nat} {x : Dk} (hx : ds[i]? = some x) (hgx : x.gone = false) : find x.bl k ≠ none := by
  rcases h with ⟨h1, h2⟩ | ⟨b, L, h1, h2, h3⟩
  · intro hf
    have hi := (List.getElem?_eq_some_iff.1 hx).1
    have : i ∈ Stp.badL (blocks ds k) k ds.length := by
      unfold Stp.badL
      refine List.mem_filter.2 ⟨List.mem_range.2 hi, ?_⟩
      rw [blocks_row _ _ _ hx]
      unfold blockOf
      rw [if_neg (by rw [hgx]; decide), hf]
      show (!Stp.right [] _ _) = true
      rw [Stp.right_nil]; rfl
    rw [h2] at this; cases this
  · rw [h3 i x hx hgx]; intro e; cases e
/-- mended: it is clean -/
theorem clean_mend (hg : GoneOk ds) (hn : (ds.length : Int) = d + p) (h : (Stp.mendF (blocks ds k) k d).2 = 0) : Clean (write ds k (Stp.mendF (blocks ds k) k d).1) d p k := by
  have hr : (Stp.readF (blocks ds k) k d).2 = 0 := by
    refine Classical.byContradiction fun e => ?_
    unfold Stp.mendF at h
    rw [if_pos e] at h
    exact e h
  have hm : Stp.mendF (blocks ds k) k d = Stp.layF (Stp.readF (blocks ds k) k d).1 k d p := by
    unfold Stp.mendF
    rw [if_neg (by intro e; exact e hr), blocks_len]
    rw [show (ds.length : Int) - d = p by omega]
  have hl := Stp.layF_spec (Stp.readF (blocks ds k) k d).1 k d p
  rw [← hm, h] at hl
  right
  refine ⟨_, _, hl, ?_, fun i y hy hgy => ?_⟩
  · rw [gonePl_write]
    have hR := Stp.readF_spec (blocks ds k) k d
    rw [hr] at hR
    unfold Stp.ReadR at hR
    split at hR
    · rename_i hc; exact absurd hR.2.symm hc
    · rename_i hc
      split at hR
      · exact absurd hR.2 (by decide)
      · obtain ⟨X, f, hX, h3⟩ := hR
        have hf : f = 0 := by
          rcases h3 with ⟨e, _, e2⟩ | ⟨e, _⟩ | ⟨e, _⟩
          · exact absurd e2.symm e
          · exact e
          · exact e
        subst hf
        have hc' : Mat.wrongC d (((Stp.dataTo (blocks ds k) k (blocks ds k).length).length : Int) - d) = 0 := by
          rw [Stp.dataTo_length]; exact Classical.not_not.1 hc
        have hth : d ≤ ((Mat.there (Stp.dataTo (blocks ds k) k (blocks ds k).length)).length : Int) := by
          refine Classical.byContradiction fun hlt => ?_
          have := (hX.uniq (Mat.mend_few hc' (by omega))).2
          exact absurd this (by decide)
        have hsum := nodup_sub (gonePl ds ++ Mat.there (Stp.dataTo (blocks ds k) k (blocks ds k).length)) (List.range ds.length) (by
          rw [List.nodup_append]
          refine ⟨List.nodup_range.filter _, List.nodup_range.filter _, fun x hx y hy e => ?_⟩
          subst e
          obtain ⟨z, hz, hgz⟩ := mem_gonePl.1 hx
          have hy2 := (List.mem_filter.1 hy).2
          have hlt := (List.getElem?_eq_some_iff.1 hz).1
          rw [Stp.dataTo_get (by rw [blocks_len]; exact hlt), blocks_row _ _ _ hz] at hy2
          have : blockOf z (k : Int) = [] := by unfold blockOf; rw [if_pos hgz]
          rw [this, Stp.right_nil] at hy2
          simp at hy2) (fun u hu => by
          rcases List.mem_append.1 hu with hu | hu
          · exact (List.mem_filter.1 hu).1
          · have := List.mem_range.1 (List.mem_filter.1 hu).1
            rw [Stp.dataTo_length, blocks_len] at this
            exact List.mem_range.2 this)
        rw [List.length_append, List.length_range] at hsum
        omega
  · obtain ⟨x, hx, rfl⟩ := write_at hy
    rw [wrD_gone] at hgy
    exact wrD_same hgy _ _
end
theorem clean_to {ds : List Dk} {d p : Int} (hg : GoneOk ds) (hn : (ds.length : Int) = d + p) : ∀ k, ((scrubTo ds d k).1.length = ds.length ∧ gonePl (scrubTo ds d k).1 = gonePl ds) ∧ ((scrubTo ds d k).2.2 = 0 → ∀ j, j < k → Clean (scrubTo ds d k).1 d p j)
  | 0 => ⟨⟨rfl, rfl⟩, fun _ j hj => absurd hj (Nat.not_lt_zero _)⟩
  | k + 1 => by
    obtain ⟨⟨i1, i2⟩, ih⟩ := clean_to hg hn k
    have hgE := GoneOk.scrubTo hg d k
    obtain ⟨E, c, f, e⟩ : ∃ E c f, scrubTo ds d k = (E, c, f) := ⟨_, _, _, rfl⟩
    rw [e] at ih i1 i2 hgE
    simp only at ih i1 i2 hgE
    have hnE : (E.length : Int) = d + p := by rw [i1]; exact hn
    by_cases h1 : Stp.badL (blocks E k) k E.length = []
    · rw [scrub_1 e h1]
      refine ⟨⟨i1, i2⟩, fun hf j hj => ?_⟩
      by_cases ej : j = k
      · subst ej
        refine .inl ⟨?_, h1⟩
        refine List.eq_nil_iff_forall_not_mem.2 fun i hi => ?_
        obtain ⟨x, hx, hgx⟩ := mem_gonePl.1 hi
        have hlt := (List.getElem?_eq_some_iff.1 hx).1
        have : i ∈ Stp.badL (blocks E j) j E.length := by
          unfold Stp.badL
          refine List.mem_filter.2 ⟨List.mem_range.2 hlt, ?_⟩
          rw [blocks_row _ _ _ hx]
          unfold blockOf
          rw [if_pos hgx, Stp.right_nil]; rfl
        rw [h1] at this; cases this
      · exact ih hf j (by omega)
    · by_cases h2 : (Stp.mendF (blocks E k) k d).2 = 0
      · rw [scrub_3 e h1 h2]
        refine ⟨⟨by show (write E k _).length = _; rw [write_length]; exact i1, by show gonePl (write E k _) = _; rw [gonePl_write]; exact i2⟩, fun hf j hj => ?_⟩
        by_cases ej : j = k
        · subst ej; exact clean_mend hgE hnE h2
        · exact (ih hf j (by omega)).write _ (by omega)
      · rw [scrub_2 e h1 h2]
        refine ⟨⟨i1, i2⟩, fun hf => ?_⟩
        have hf : (if f = 0 then (Stp.mendF (blocks E k) k d).2 else f) = 0 := hf
        split at hf
        · exact absurd hf h2
        · rename_i hne; exact absurd hf hne
/-- a store that is clean is scrubbed without writing -/
theorem clean_again {ds : List Dk} {d p : Int} (hg : GoneOk ds) (hn : (ds.length : Int) = d + p) {g : Nat} (hc : ∀ j, j < g → Clean ds d p j) : ∀ k, k ≤ g → ∃ E, scrubTo ds d k = (E, 0, 0) ∧ GoneOk E ∧ E.length = ds.length ∧ gonePl E = gonePl ds ∧ ∀ j, j < g → Clean E d p j
  | 0, _ => ⟨ds, rfl, hg, rfl, rfl, hc⟩
  | k + 1, hk => by
    obtain ⟨E, e, hgE, hl, hp, hE⟩ := clean_again hg hn hc k (by omega)
    have hnE : (E.length : Int) = d + p := by rw [hl]; exact hn
    have hk' := hE k (by omega)
    obtain ⟨hb1, hb2⟩ := hk'.bad hgE hnE
    by_cases h1 : Stp.badL (blocks E k) k E.length = []
    · exact ⟨E, scrub_1 e h1, hgE, hl, hp, hE⟩
    · rcases id hk' with ⟨_, h⟩ | ⟨b, L, h2, h3, h4⟩
      · exact absurd h h1
      · obtain ⟨d', p', S, e1, e2, hl', hlen, hh⟩ := Clean.hurt hgE hnE h2 h4
        have hr : Stp.readF (blocks E k) k d = (b, 0) := by
          have h5 := Stp.readF_spec (blocks E k) k d
          rw [e1] at h5 ⊢
          obtain ⟨q1, q2⟩ := hh.read hl' (by omega) h5
          exact Prod.ext q1 q2
        have hm : Stp.mendF (blocks E k) k d = (L, 0) := by
          obtain ⟨q1, q2⟩ := Stp.layF_eq h2
          unfold Stp.mendF
          rw [hr]
          simp only [ne_eq, not_true, if_false, blocks_len]
          rw [show (E.length : Int) - d = p by omega]
          exact Prod.ext q1.symm q2.symm
        have h5 := scrub_3 e h1 (by rw [hm])
        rw [hm] at h5
        have hz : ((Stp.badL (blocks E k) k E.length).filter fun i => !(E.getD i ⟨false, []⟩).gone) = [] := by
          rw [List.filter_eq_nil_iff]
          intro i hi
          have := (List.mem_filter.1 (hb2 i hi)).2
          rw [this]; decide
        rw [hz] at h5
        refine ⟨_, h5, hgE.write _ _, by rw [write_length]; exact hl, by rw [gonePl_write]; exact hp, fun j hj => ?_⟩
        by_cases ej : j = k
        · subst ej
          refine .inr ⟨b, L, h2, by rw [gonePl_write]; exact h3, fun i y hy hgy => ?_⟩
          obtain ⟨x, hx, rfl⟩ := write_at hy
          rw [wrD_gone] at hgy
          exact wrD_same hgy _ _
        · exact (hE j hj).write _ (by omega)
theorem health_clean {ds : List Dk} {d p : Int} (hg : GoneOk ds) (hn : (ds.length : Int) = d + p) : ∀ k, (∀ j, j < k → Clean ds d p j) → healthTo ds k = (gonePl ds).length * k
  | 0, _ => rfl
  | k + 1, hc => by
    unfold healthTo
    rw [health_clean hg hn k (fun j hj => hc j (by omega)), ((hc k (by omega)).bad hg hn).1, Nat.mul_add, Nat.mul_one]
/-- SCRUBBED IT IS CLEAN -/
theorem scrubbed {s : St} {K : Nat} (ho : Ok s K) (hg : GoneOk s.disks) (he : (scrub s).2.err = 0) :
    (∀ x ∈ (scrub s).1.disks, x.gone = false → x.bl.length = s.segs) ∧ healthTo (scrub s).1.disks s.segs = ((scrub s).1.disks.filter Dk.gone).length * s.segs ∧ (scrub (scrub s).1).2.err = 0 ∧ (scrub (scrub s).1).2.n = 0 ∧
    (scrub (scrub s).1).1.segs = s.segs ∧ ((scrub (scrub s).1).1.disks.filter Dk.gone).length = ((scrub s).1.disks.filter Dk.gone).length ∧ (∀ x ∈ (scrub (scrub s).1).1.disks, x.gone = false → x.bl.length = s.segs) := by
  obtain ⟨⟨h1, h2⟩, h3⟩ := clean_to (p := s.spare) hg ho.nd s.segs
  have h3 := h3 he
  have hgE := GoneOk.scrubTo hg s.data s.segs
  have hnE : ((scrubTo s.disks s.data s.segs).1.length : Int) = s.data + s.spare := by rw [h1]; exact ho.nd
  have hok := ho.scrub
  obtain ⟨E2, e2, hg2, hl2, hp2, hc2⟩ := clean_again hgE hnE h3 s.segs (Nat.le_refl _)
  have hs2 : (scrub (scrub s).1) = ({ (scrub s).1 with disks := E2 }, ⟨0, 0, [], Vw.none'⟩) := by
    show (_, _) = _
    have : scrubTo (scrub s).1.disks (scrub s).1.data (scrub s).1.segs = (E2, 0, 0) := e2
    rw [this]
  have hok2 := hok.scrub
  rw [hs2] at hok2 ⊢
  refine ⟨fun x hx hgx => ?_, ?_, rfl, rfl, rfl, ?_, fun x hx hgx => ?_⟩
  · obtain ⟨i, hi⟩ := List.getElem?_of_mem hx
    exact find_rise (hok.bl x hx) (fun k hk => (h3 k hk).found hi hgx)
  · rw [← gonePl_len]; exact health_clean hgE hnE s.segs h3
  · show (E2.filter Dk.gone).length = _
    rw [← gonePl_len, hp2, gonePl_len]; rfl
  · obtain ⟨i, hi⟩ := List.getElem?_of_mem hx
    exact find_rise (hok2.bl x hx) (fun k hk => (hc2 k hk).found hi hgx)
end Go.Proofs.Ythhcdfjijagalaa.Sto
