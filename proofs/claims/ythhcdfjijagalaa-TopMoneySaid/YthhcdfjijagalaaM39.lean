/- Joined, and what is not used struck: SoI. -/
import Derived.Test.YthhcdfjijagalaaM38
namespace Go.Proofs.Ythhcdfjijagalaa.Sto
set_option linter.unusedVariables false
def moneyD (i : Nat) (n : Int) : Do := if 0 ≤ n then doPut ((i : Int) + 2) [⟨sa, 2, n⟩] else doPut ((i : Int) + 2) [⟨sb, 2, -n⟩, ⟨sa, 3, -n⟩]
def moneyH (h n : Int) : Int := if 0 ≤ h + n then h + n else h
/-- a store with both streams open -/
structure Tm (s : St) (X : List Evt.Ba) (K : Nat) (c S : Int) : Prop where
  tp : Tp s X (fun _ => False) K c S
  bop : (Vw.get s.snap.accs sb).opn = true
  pos : 0 ≤ S
theorem Tp.mono {s : St} {X : List Evt.Ba} {H : Nat → Prop} {K : Nat} {c c' S : Int} (h : Tp s X H K c S) (hc : c ≤ c') : Tp s X H K c' S :=
  ⟨h.j, h.cnt, h.small, fun b hb => by have := h.less b hb; omega, h.opn, h.sum⟩
theorem get_plus_other (v : Vw.Vi) (e : Evt.Ev) (s : ByteArray) (hs : e.s ≠ s) : Vw.get (Vw.ins (Vw.plus (Vw.get v.accs e.s) e) v.accs) s = Vw.get v.accs s :=
  Vw.get_ins_other _ _ _ (by rw [Vw.plus_s, Vw.get_s]; exact hs)
theorem get_plus_same (v : Vw.Vi) (e : Evt.Ev) : Vw.get (Vw.ins (Vw.plus (Vw.get v.accs e.s) e) v.accs) e.s = Vw.plus (Vw.get v.accs e.s) e := by
  have h5 := Vw.get_ins_same (Vw.plus (Vw.get v.accs e.s) e) v.accs
  rwa [Vw.plus_s, Vw.get_s] at h5
theorem put_not {s : St} {d : Do} (hk : d.kind = 1) (h1 : (Evt.wrongBa d.b).1 = 0) (h2 : ¬ d.b.c ∈ s.seen) (h3 : d.ver < 0) {e : Int} (h4 : (Vw.fold s.snap d.b.evs).err = e) (he : e ≠ 0) : step s d = (s, anE e) := by
  rw [step_put hk]
  unfold put
  rw [if_neg (by rw [h1]; exact fun e => e rfl), if_neg h2, if_neg (by omega), if_pos (by rw [h4]; exact he), h4]
theorem sab : sa ≠ sb := by decide
theorem Tm.next {s : St} {X : List Evt.Ba} {K : Nat} {c S : Int} (h : Tm s X K c S) (n : Int) (hn : -1000 ≤ n ∧ n ≤ 1000) (i : Nat) (hc : c ≤ (i : Int) + 2) (hi : i ≤ 30) (hX : X.length ≤ 38) :
    ∃ X' K', X'.length ≤ X.length + 1 ∧ Tm (step s (moneyD i n)).1 X' K' ((i : Int) + 3) (moneyH S n) ∧ (step s (moneyD i n)).2.err = if 0 ≤ S + n then 0 else 8 := by
  have hpos := h.pos
  have hu := h.tp.upto hX
  have e3 : (i : Int) + 2 + 1 = (i : Int) + 3 := by omega
  by_cases h0 : 0 ≤ n
  · have hs : 0 ≤ S + n := by omega
    unfold moneyD moneyH
    rw [if_pos h0, if_pos hs, if_pos hs]
    have hw := num_right sa (.inl rfl) 2 n (.inl rfl) h0 (by omega)
    have hf := fold_one (v := s.snap) (e := ⟨sa, 2, n⟩) h.tp.j.good hw (by omega) (by show Vw.may (Vw.get s.snap.accs sa) _ = true; unfold Vw.may; rw [if_neg (show ¬ ((2 : Int) = 1) by decide), if_pos (.inl rfl)]; exact h.tp.opn)
    obtain ⟨_, _, _, e4⟩ := put_right h.tp (l := [⟨sa, 2, n⟩]) hc (by omega) (by omega) (by simp) (by simp) (fun e he => by obtain rfl := List.mem_singleton.1 he; exact hw) hX hf.1
    obtain ⟨h1, h2⟩ := h.tp.add (n := n) (c' := (i : Int) + 2) h0 (by omega) hc (by omega) (by omega) hX
    rw [e3] at h1
    refine ⟨_, _, ?_, ⟨h1, ?_, hs⟩, h2⟩
    · rw [List.length_append]; exact Nat.le_refl _
    · rw [e4, hf.2.1]
      show (Vw.get (Vw.ins (Vw.plus (Vw.get s.snap.accs sa) ⟨sa, 2, n⟩) s.snap.accs) sb).opn = true
      rw [get_plus_other s.snap ⟨sa, 2, n⟩ sb sab]; exact h.bop
  · unfold moneyD
    rw [if_neg h0]
    obtain ⟨m, hm⟩ : ∃ m, m = -n := ⟨_, rfl⟩
    rw [← hm]
    have hw1 := num_right sb (.inr rfl) 2 m (.inl rfl) (by omega) (by omega)
    have hw2 := num_right sa (.inl rfl) 3 m (.inr rfl) (by omega) (by omega)
    have hww : ∀ e ∈ [(⟨sb, 2, m⟩ : Evt.Ev), ⟨sa, 3, m⟩], Evt.wrongEv e = 0 := fun e he => by
      simp only [List.mem_cons, List.not_mem_nil, or_false] at he
      rcases he with rfl | rfl
      · exact hw1
      · exact hw2
    have hf1 := fold_one (v := s.snap) (e := ⟨sb, 2, m⟩) h.tp.j.good hw1 (by omega) (by show Vw.may (Vw.get s.snap.accs sb) _ = true; unfold Vw.may; rw [if_neg (show ¬ ((2 : Int) = 1) by decide), if_pos (.inl rfl)]; exact h.bop)
    have hp := fold_pair (f := ⟨sa, 3, m⟩) hf1.1
    have hga : Vw.get (Vw.fold s.snap [⟨sb, 2, m⟩]).v.accs sa = Vw.get s.snap.accs sa := by
      rw [hf1.2.1]; exact get_plus_other s.snap ⟨sb, 2, m⟩ sa (fun e => sab e.symm)
    have hgb : Vw.get (Vw.fold s.snap [⟨sb, 2, m⟩]).v.accs sb = Vw.plus (Vw.get s.snap.accs sb) ⟨sb, 2, m⟩ := by
      rw [hf1.2.1]; exact get_plus_same s.snap ⟨sb, 2, m⟩
    have hup : (Vw.fold s.snap [⟨sb, 2, m⟩]).v.upto = s.snap.upto + 1 := by rw [hf1.2.1]
    by_cases hs : 0 ≤ S + n
    · unfold moneyH
      rw [if_pos hs, if_pos hs]
      have hf2 := fold_one (v := (Vw.fold s.snap [⟨sb, 2, m⟩]).v) (e := ⟨sa, 3, m⟩) hf1.2.2 hw2 (by rw [hup]; omega) (by
        show Vw.may (Vw.get _ sa) _ = true
        rw [hga]; unfold Vw.may
        rw [if_neg (show ¬ ((3 : Int) = 1) by decide), if_neg (show ¬ ((3 : Int) = 2 ∨ (3 : Int) = 4) by decide), if_pos rfl, h.tp.opn, h.tp.sum, decide_eq_true (show m ≤ S by omega)]; rfl)
      obtain ⟨e1, e2, e5, e4⟩ := put_right h.tp (l := [⟨sb, 2, m⟩, ⟨sa, 3, m⟩]) hc (by omega) (by omega) (by simp) (by simp) hww hX (hp.1.trans hf2.1)
      have hv : (step s (doPut ((i : Int) + 2) [⟨sb, 2, m⟩, ⟨sa, 3, m⟩])).1.snap = _ := e4.trans (hp.2.trans hf2.2.1)
      have ha : Vw.get (step s (doPut ((i : Int) + 2) [⟨sb, 2, m⟩, ⟨sa, 3, m⟩])).1.snap.accs sa = Vw.plus (Vw.get s.snap.accs sa) ⟨sa, 3, m⟩ := by
        rw [hv, ← hga]; exact get_plus_same _ ⟨sa, 3, m⟩
      have hb : Vw.get (step s (doPut ((i : Int) + 2) [⟨sb, 2, m⟩, ⟨sa, 3, m⟩])).1.snap.accs sb = Vw.plus (Vw.get s.snap.accs sb) ⟨sb, 2, m⟩ := by
        rw [hv, ← hgb]; exact get_plus_other _ ⟨sa, 3, m⟩ sb sab
      refine ⟨_, _, ?_, ⟨⟨e2, e5, fun b hb => ?_, fun b hb => ?_, ?_, ?_⟩, ?_, hs⟩, e1⟩
      · rw [List.length_append]; exact Nat.le_refl _
      · rcases List.mem_append.1 hb with hb | hb
        · exact h.tp.small b hb
        · obtain rfl := List.mem_singleton.1 hb; simp
      · rcases List.mem_append.1 hb with hb | hb
        · have := h.tp.less b hb; omega
        · obtain rfl := List.mem_singleton.1 hb; show (i : Int) + 2 < (i : Int) + 3; omega
      · rw [ha]; exact h.tp.opn
      · rw [ha]; show (Vw.get s.snap.accs sa).sum - m = S + n; rw [h.tp.sum]; omega
      · rw [hb]; exact h.bop
    · unfold moneyH
      rw [if_neg hs, if_neg hs]
      have hg := hf1.2.2
      have hap : Vw.apply (Vw.fold s.snap [⟨sb, 2, m⟩]).v ⟨sa, 3, m⟩ = ⟨Vw.none', 8⟩ := by
        unfold Vw.apply
        rw [if_neg (by rw [(Vw.wrongV_good _).2 hg]; exact fun e => e rfl), if_neg (by rw [hw2]; exact fun e => e rfl), if_neg (by rw [hup]; omega), if_pos]
        show Vw.may (Vw.get _ sa) _ = false
        rw [hga]; unfold Vw.may
        rw [if_neg (show ¬ ((3 : Int) = 1) by decide), if_neg (show ¬ ((3 : Int) = 2 ∨ (3 : Int) = 4) by decide), if_pos rfl, h.tp.sum, decide_eq_false (show ¬ m ≤ S by omega)]
        exact Bool.and_false _
      have hf2 : (Vw.fold (Vw.fold s.snap [⟨sb, 2, m⟩]).v [⟨sa, 3, m⟩]).err = 8 := by
        rw [Vw.fold_of hg, Vw.fo_cons, hap]; rfl
      have hf : (Vw.fold s.snap [⟨sb, 2, m⟩, ⟨sa, 3, m⟩]).err = 8 := hp.1.trans hf2
      have hst : step s (doPut ((i : Int) + 2) [⟨sb, 2, m⟩, ⟨sa, 3, m⟩]) = (s, anE 8) := by
        have hns : ¬ ((i : Int) + 2) ∈ s.seen := fun hm => by
          obtain ⟨b, hb, e⟩ := (h.tp.j.inv.seen _).1 hm
          have := h.tp.less b hb
          omega
        exact put_not rfl (ba_right (c := (i : Int) + 2) (by omega) (by omega) (by simp) (by simp) hww) hns (show (-1 : Int) < 0 by decide) hf (by decide)
      rw [hst]
      exact ⟨X, K, by omega, ⟨h.tp.mono (by omega), h.bop, hpos⟩, rfl⟩
def moneyDs : List Int → Nat → List Do
  | [], _ => []
  | n :: r, i => moneyD i n :: moneyDs r (i + 1)
def moneyHs : List Int → Int → Int
  | [], h => h
  | n :: r, h => moneyHs r (moneyH h n)
def moneyG : List Int → Int → List Bool
  | [], _ => []
  | n :: r, h => decide (0 ≤ h + n) :: moneyG r (moneyH h n)
theorem moneyDs_len (l : List Int) : ∀ i, (moneyDs l i).length = l.length := by
  induction l with
  | nil => intro i; rfl
  | cons n r ih => intro i; show (moneyDs r (i + 1)).length + 1 = _; rw [ih, List.length_cons]
theorem moneyG_len (l : List Int) : ∀ h, (moneyG l h).length = l.length := by
  induction l with
  | nil => intro i; rfl
  | cons n r ih => intro i; show (moneyG r _).length + 1 = _; rw [ih, List.length_cons]
theorem moneyDs_snoc (l : List Int) (n : Int) : ∀ i, moneyDs (l ++ [n]) i = moneyDs l i ++ [moneyD (i + l.length) n] := by
  induction l with
  | nil => intro i; rfl
  | cons x r ih => intro i; show moneyD i x :: moneyDs (r ++ [n]) (i + 1) = moneyD i x :: (moneyDs r (i + 1) ++ _); rw [ih, List.length_cons, show i + 1 + r.length = i + (r.length + 1) by omega]
theorem moneyHs_snoc (l : List Int) (n : Int) : ∀ h, moneyHs (l ++ [n]) h = moneyH (moneyHs l h) n := by
  induction l with
  | nil => intro i; rfl
  | cons x r ih => intro h; exact ih _
theorem moneyG_snoc (l : List Int) (n : Int) : ∀ h, moneyG (l ++ [n]) h = moneyG l h ++ [decide (0 ≤ moneyHs l h + n)] := by
  induction l with
  | nil => intro i; rfl
  | cons x r ih => intro h; show _ :: moneyG (r ++ [n]) _ = _ :: (moneyG r _ ++ _); rw [ih]; rfl
theorem moneyHs_in (l : List Int) (hl : ∀ n ∈ l, -1000 ≤ n ∧ n ≤ 1000) : ∀ h, 0 ≤ h → 0 ≤ moneyHs l h ∧ moneyHs l h ≤ h + 1000 * l.length := by
  induction l with
  | nil => intro h h0; exact ⟨h0, by show h ≤ h + 1000 * (0 : Int); omega⟩
  | cons n r ih =>
    intro h h0
    have hn := hl n (by simp)
    have hm : 0 ≤ moneyH h n ∧ moneyH h n ≤ h + 1000 := by
      unfold moneyH
      split <;> omega
    obtain ⟨h1, h2⟩ := ih (fun x hx => hl x (by simp [hx])) _ hm.1
    refine ⟨h1, ?_⟩
    show moneyHs r (moneyH h n) ≤ _
    rw [List.length_cons]
    omega
theorem Tm.all {s : St} {X : List Evt.Ba} {K : Nat} {S : Int} (l : List Int) (hl : ∀ n ∈ l, -1000 ≤ n ∧ n ≤ 1000) (i : Nat) (h : Tm s X K ((i : Int) + 2) S) (hi : i + l.length ≤ 30) (hX : X.length + l.length ≤ 38) :
    (∃ X' K' c, Tm (run s (moneyDs l i)).1 X' K' c (moneyHs l S)) ∧ ∀ j, j < l.length → ∃ x, (run s (moneyDs l i)).2[j]? = some x ∧ x.err = if (moneyG l S)[j]? = some true then 0 else 8 := by
  induction l generalizing s X K S i with
  | nil => exact ⟨⟨X, K, _, h⟩, fun j hj => absurd hj (Nat.not_lt_zero _)⟩
  | cons n r ih =>
    rw [List.length_cons] at hi hX
    obtain ⟨X', K', hl', h1, h2⟩ := h.next n (hl n (by simp)) i (Int.le_refl _) (by omega) (by omega)
    have e : (i : Int) + 3 = ((i + 1 : Nat) : Int) + 2 := by omega
    rw [e] at h1
    obtain ⟨h3, h4⟩ := ih (fun x hx => hl x (by simp [hx])) (i + 1) h1 (by omega) (by omega)
    refine ⟨h3, fun j hj => ?_⟩
    rcases j with _ | j
    · refine ⟨_, rfl, h2.trans ?_⟩
      show _ = if some (decide (0 ≤ S + n)) = some true then (0 : Int) else 8
      by_cases hs : 0 ≤ S + n
      · rw [if_pos hs, decide_eq_true hs, if_pos rfl]
      · rw [if_neg hs, decide_eq_false hs, if_neg (by decide)]
    · rw [List.length_cons] at hj
      exact h4 j (by omega)
theorem Tm.open' {d p b : Int} (hw : wrongS d p b = 0) : Tm (step (start d p b) (doPut 1 [⟨sa, 1, 0⟩, ⟨sb, 1, 0⟩])).1 [⟨1, [⟨sa, 1, 0⟩, ⟨sb, 1, 0⟩]⟩] 1 2 0 := by
  have h := start_J hw
  have hc := Cnt.start d p b
  have hww : ∀ e ∈ [(⟨sa, 1, 0⟩ : Evt.Ev), ⟨sb, 1, 0⟩], Evt.wrongEv e = 0 := fun e he => by
    simp only [List.mem_cons, List.not_mem_nil, or_false] at he
    rcases he with rfl | rfl
    · exact open_right sa (.inl rfl)
    · exact open_right sb (.inr rfl)
  have hf1 := fold_one (v := (start d p b).snap) (e := ⟨sa, 1, 0⟩) h.good (open_right sa (.inl rfl)) (by show (0 : Int) ≠ 150; decide) rfl
  have hga : Vw.get (Vw.fold (start d p b).snap [⟨sa, 1, 0⟩]).v.accs sa = ⟨sa, 0, 1, true⟩ := by rw [hf1.2.1]; rfl
  have hgb : Vw.get (Vw.fold (start d p b).snap [⟨sa, 1, 0⟩]).v.accs sb = Vw.new sb := by rw [hf1.2.1]; exact get_plus_other _ ⟨sa, 1, 0⟩ sb sab
  have hf2 := fold_one (v := (Vw.fold (start d p b).snap [⟨sa, 1, 0⟩]).v) (e := ⟨sb, 1, 0⟩) hf1.2.2 (open_right sb (.inr rfl)) (by rw [hf1.2.1]; show (0 : Int) + 1 ≠ 150; decide) (by show Vw.may (Vw.get _ sb) _ = true; rw [hgb]; rfl)
  have hfp := fold_pair (f := ⟨sb, 1, 0⟩) hf1.1
  obtain ⟨e1, n1⟩ := put_good h (d := doPut 1 [⟨sa, 1, 0⟩, ⟨sb, 1, 0⟩]) rfl (ba_right (by decide) (by decide) (by simp) (by simp) hww) (fun b hb => by cases hb) (show (-1 : Int) < 0 by decide) (hfp.1.trans hf2.1) (by simp [doPut]) (fun b hb => by cases hb) (show 0 ≤ 39 by decide)
  have hj := h.put (d := doPut 1 [⟨sa, 1, 0⟩, ⟨sb, 1, 0⟩]) rfl
  have hcn := hc.step (doPut 1 [⟨sa, 1, 0⟩, ⟨sb, 1, 0⟩])
  rw [n1, List.nil_append] at hj hcn
  have hsnap : (step (start d p b) (doPut 1 [⟨sa, 1, 0⟩, ⟨sb, 1, 0⟩])).1.snap = (Vw.fold (start d p b).snap [⟨sa, 1, 0⟩, ⟨sb, 1, 0⟩]).v := by
    rw [step_put rfl]
    rcases put_view (start d p b) (doPut 1 [⟨sa, 1, 0⟩, ⟨sb, 1, 0⟩]) with ⟨_, h3 | h3⟩ | ⟨_, _, _, h4, _⟩
    · rw [step_put rfl] at e1; exact absurd e1 h3
    · cases h3
    · exact h4
  have hv := hsnap.trans (hfp.2.trans hf2.2.1)
  have ha : Vw.get (step (start d p b) (doPut 1 [⟨sa, 1, 0⟩, ⟨sb, 1, 0⟩])).1.snap.accs sa = ⟨sa, 0, 1, true⟩ := by
    rw [hv, ← hga]; exact get_plus_other _ ⟨sb, 1, 0⟩ sa (fun e => sab e.symm)
  have hb : Vw.get (step (start d p b) (doPut 1 [⟨sa, 1, 0⟩, ⟨sb, 1, 0⟩])).1.snap.accs sb = Vw.plus (Vw.new sb) ⟨sb, 1, 0⟩ := by
    rw [hv, ← hgb]; exact get_plus_same _ ⟨sb, 1, 0⟩
  refine ⟨⟨hj, hcn, fun b hb => ?_, fun b hb => ?_, ?_, ?_⟩, ?_, Int.le_refl _⟩
  · obtain rfl := List.mem_singleton.1 hb; simp
  · obtain rfl := List.mem_singleton.1 hb; show (1 : Int) < 2; decide
  · rw [ha]
  · rw [ha]
  · rw [hb]; rfl
def opAB : Do := doPut 1 [⟨sa, 1, 0⟩, ⟨sb, 1, 0⟩]
/-- NOBODY TAKES WHAT IS NOT THERE -/
theorem money_plain (l : List Int) (hl : ∀ n ∈ l, -1000 ≤ n ∧ n ≤ 1000) (hlen : l.length ≤ 30) :
    ∃ s a, play 2 1 3 (opAB :: moneyDs l 0) = (s, a, 0) ∧ a.length = l.length + 1 ∧ (∀ j, j < l.length → ∃ x, a[j + 1]? = some x ∧ x.err = if (moneyG l 0)[j]? = some true then 0 else 8) ∧ (Vw.get s.snap.accs sa).sum = moneyHs l 0 := by
  have hw : wrongS 2 1 3 = 0 := by decide
  obtain ⟨⟨X, K, c, h1⟩, h2⟩ := Tm.all l hl 0 (Tm.open' hw) (by omega) (by simp only [List.length_cons, List.length_nil]; omega)
  have hl1 : (opAB :: moneyDs l 0).length = l.length + 1 := by rw [List.length_cons, moneyDs_len]
  refine ⟨_, _, play_of hw (by rw [hl1]; omega), by rw [run_len, hl1], fun j hj => ?_, ?_⟩
  · obtain ⟨x, hx, he⟩ := h2 j hj
    exact ⟨x, hx, he⟩
  · rw [run_cons]; exact h1.tp.sum
end Go.Proofs.Ythhcdfjijagalaa.Sto
