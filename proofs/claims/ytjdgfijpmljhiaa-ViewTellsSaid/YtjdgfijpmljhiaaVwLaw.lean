/- Plain laws of views: a right view, what an event does to it, part by part, what is not of a stream. No program in sight. -/
import Derived.Test.YtjdgfijpmljhiaaVw
namespace Go.Proofs.Ytjdgfijpmljhiaa.Vw
set_option linter.unusedVariables false
theorem lst_inj {a b : ByteArray} (h : Evt.lst a = Evt.lst b) : a = b := by
  cases a with | mk a => cases b with | mk b =>
  unfold Evt.lst at h
  have : a = b := Array.toList_inj.1 h
  rw [this]
theorem key_eq {a b : Acc} : key a = key b ↔ a.s = b.s := ⟨lst_inj, fun h => by unfold key; rw [h]⟩
theorem lt_irr (a : List UInt8) : ¬ a < a := List.lt_irrefl a
theorem lt_tr {a b c : List UInt8} (h : a < b) (k : b < c) : a < c := List.lt_trans h k
def sums (l : List Acc) : Int := (l.map Acc.cnt).sum
theorem sums_nil : sums [] = 0 := rfl
theorem sums_cons (a : Acc) (l : List Acc) : sums (a :: l) = a.cnt + sums l := by simp [sums]
/-- each is behind those ahead of it -/
def Up : Option (List UInt8) → List Acc → Prop
  | _, [] => True
  | p, a :: r => (∀ q, p = some q → q < key a) ∧ Up (some (key a)) r
/-- a right view's accounts -/
def Each (u : Int) (l : List Acc) : Prop := ∀ a ∈ l, Evt.named (key a) = true ∧ ¬ badRange u a
theorem Each.pos {u : Int} {l : List Acc} (h : Each u l) : 0 ≤ sums l ∧ (l.length : Int) ≤ sums l := by
  induction l with
  | nil => exact ⟨Int.le_refl _, Int.le_refl _⟩
  | cons a l ih =>
    have h1 := ih (fun x hx => h x (List.mem_cons_of_mem _ hx))
    have h2 := (h a (List.mem_cons_self ..)).2
    unfold badRange at h2
    rw [sums_cons, List.length_cons]
    constructor <;> omega
theorem wl_zero (u : Int) (l : List Acc) : ∀ (i : Nat) (c : Int) (p : Option (List UInt8)), (wl u i c p l).1 = 0 ↔ Each u l ∧ Up p l ∧ c + sums l = u := by
  induction l with
  | nil =>
    intro i c p
    unfold wl
    rw [sums_nil]
    by_cases h : c = u
    · rw [if_neg (fun k => k h)]
      exact ⟨fun _ => ⟨fun a ha => by (cases ha), trivial, by omega⟩, fun _ => rfl⟩
    · rw [if_pos h]
      exact ⟨fun k => by (cases k), fun k => by omega⟩
  | cons a l ih =>
    intro i c p
    have hr : rises p a ↔ ∀ q, p = some q → q < key a := by
      cases p with
      | none => exact ⟨fun _ q e => by (cases e), fun _ => trivial⟩
      | some q => exact ⟨fun h q' e => by cases e; exact h, fun h => h q rfl⟩
    unfold wl
    by_cases h1 : Evt.named (key a) = false
    · rw [if_pos h1]
      exact ⟨fun k => by (cases k), fun k => by have := (k.1 a (List.mem_cons_self ..)).1; rw [h1] at this; cases this⟩
    · rw [if_neg h1]
      by_cases h2 : badRange u a
      · rw [if_pos h2]
        exact ⟨fun k => by (cases k), fun k => absurd h2 (k.1 a (List.mem_cons_self ..)).2⟩
      · rw [if_neg h2]
        by_cases h3 : rises p a
        · rw [if_neg (fun k => k h3)]
          by_cases h4 : u < c + a.cnt
          · rw [if_pos h4]
            refine ⟨fun k => by (cases k), fun k => ?_⟩
            have hp := Each.pos (u := u) (l := l) (fun x hx => k.1 x (List.mem_cons_of_mem _ hx))
            have := k.2.2
            rw [sums_cons] at this
            omega
          · rw [if_neg h4, ih, sums_cons]
            constructor
            · rintro ⟨k1, k2, k3⟩
              refine ⟨fun x hx => ?_, ⟨hr.1 h3, k2⟩, by omega⟩
              rcases List.mem_cons.1 hx with rfl | hx
              · exact ⟨by simpa using h1, h2⟩
              · exact k1 x hx
            · rintro ⟨k1, k2, k3⟩
              exact ⟨fun x hx => k1 x (List.mem_cons_of_mem _ hx), k2.2, by omega⟩
        · rw [if_pos h3]
          exact ⟨fun k => by (cases k), fun k => absurd (hr.2 k.2.1.1) h3⟩
structure Good (v : Vi) : Prop where
  lo : 0 ≤ v.upto
  hi : v.upto ≤ 150
  each : Each v.upto v.accs
  up : Up none v.accs
  sum : sums v.accs = v.upto
theorem wrongV_good (v : Vi) : (wrongV v).1 = 0 ↔ Good v := by
  unfold wrongV
  by_cases h : v.upto < 0 ∨ 150 < v.upto
  · rw [if_pos h]
    exact ⟨fun k => by (cases k), fun k => by have := k.lo; have := k.hi; omega⟩
  · rw [if_neg h, wl_zero]
    exact ⟨fun k => ⟨by omega, by omega, k.1, k.2.1, by have := k.2.2; omega⟩, fun k => ⟨k.each, k.up, by rw [k.sum]; omega⟩⟩
theorem Good.len {v : Vi} (h : Good v) : (v.accs.length : Int) ≤ v.upto := by have := h.each.pos; rw [h.sum] at this; exact this.2
/-! ### rising -/
theorem Up.all {l : List Acc} : ∀ {p : List UInt8}, Up (some p) l → ∀ a ∈ l, p < key a := by
  induction l with
  | nil => intro p _ a ha; cases ha
  | cons x l ih =>
    intro p h a ha
    rcases List.mem_cons.1 ha with rfl | ha
    · exact h.1 p rfl
    · exact lt_tr (h.1 p rfl) (ih h.2 a ha)
theorem Up.none {l : List Acc} {p : Option (List UInt8)} (h : Up p l) : Up Option.none l := by
  cases l with
  | nil => trivial
  | cons a l => exact ⟨fun q e => by (cases e), h.2⟩
theorem Up.get {l : List Acc} : ∀ {p : Option (List UInt8)}, Up p l → ∀ i j (hi : i < l.length) (hj : j < l.length), i < j → key l[i] < key l[j] := by
  induction l with
  | nil => intro p _ i j hi; exact absurd hi (by simp)
  | cons a l ih =>
    intro p h i j hi hj hij
    cases i with
    | zero =>
      cases j with
      | zero => exact absurd hij (by omega)
      | succ j => exact Up.all h.2 _ (List.getElem_mem _)
    | succ i =>
      cases j with
      | zero => exact absurd hij (by omega)
      | succ j => exact ih h.2 i j (by simpa using hi) (by simpa using hj) (by omega)
/-! ### putting in its place -/
theorem ins_found (a : Acc) : ∀ (l : List Acc) (i : Nat) (h : i < l.length), (∀ j (hj : j < l.length), j < i → key l[j] < key a) → key l[i] = key a → ins a l = l.set i a := by
  intro l
  induction l with
  | nil => intro i h; exact absurd h (by simp)
  | cons x l ih =>
    intro i h h1 h2
    unfold ins
    cases i with
    | zero =>
      have h2 : key x = key a := h2
      rw [if_neg (by rw [h2]; exact lt_irr _), if_pos (key_eq.1 h2)]
      rfl
    | succ i =>
      have h0 : key x < key a := h1 0 (by simp) (by omega)
      rw [if_pos h0, ih i (by simpa using h) (fun j hj hji => h1 (j + 1) (by simpa using hj) (by omega)) h2]
      rfl
theorem ins_new (a : Acc) : ∀ (l : List Acc) (i : Nat), i ≤ l.length → (∀ j (hj : j < l.length), j < i → key l[j] < key a) → (∀ (h : i < l.length), ¬ key l[i] < key a ∧ key l[i] ≠ key a) → ins a l = l.take i ++ a :: l.drop i := by
  intro l
  induction l with
  | nil => intro i h _ _; simp [ins]
  | cons x l ih =>
    intro i h h1 h2
    unfold ins
    cases i with
    | zero =>
      have : ¬ key x < key a ∧ key x ≠ key a := h2 (by simp)
      rw [if_neg this.1, if_neg (fun e => this.2 (key_eq.2 e))]
      rfl
    | succ i =>
      have h0 : key x < key a := h1 0 (by simp) (by omega)
      rw [if_pos h0, ih i (by simpa using h) (fun j hj hji => h1 (j + 1) (by simpa using hj) (by omega)) (fun hh => h2 (by simpa using hh))]
      rfl
/-! ### an account of a list -/
theorem get_s (l : List Acc) (s : ByteArray) : (get l s).s = s := by
  induction l with
  | nil => rfl
  | cons a l ih =>
    unfold get
    by_cases h : a.s = s
    · rw [if_pos h]; exact h
    · rw [if_neg h]; exact ih
theorem get_mem (l : List Acc) (s : ByteArray) : get l s ∈ l ∨ (get l s = new s ∧ ∀ a ∈ l, a.s ≠ s) := by
  induction l with
  | nil => exact .inr ⟨rfl, fun a ha => by (cases ha)⟩
  | cons a l ih =>
    unfold get
    by_cases h : a.s = s
    · rw [if_pos h]; exact .inl (List.mem_cons_self ..)
    · rw [if_neg h]
      rcases ih with ih | ⟨ih, k⟩
      · exact .inl (List.mem_cons_of_mem _ ih)
      · refine .inr ⟨ih, fun x hx => ?_⟩
        rcases List.mem_cons.1 hx with rfl | hx
        · exact h
        · exact k x hx
theorem get_ins_same (a : Acc) (l : List Acc) : get (ins a l) a.s = a := by
  induction l with
  | nil => unfold ins get; rw [if_pos rfl]
  | cons x l ih =>
    unfold ins
    by_cases h : key x < key a
    · rw [if_pos h]
      unfold get
      rw [if_neg (fun e => by rw [key_eq.2 e] at h; exact lt_irr _ h)]
      exact ih
    · rw [if_neg h]
      by_cases h2 : x.s = a.s
      · rw [if_pos h2]; unfold get; rw [if_pos rfl]
      · rw [if_neg h2]; unfold get; rw [if_pos rfl]
theorem get_ins_other (a : Acc) (l : List Acc) (s : ByteArray) (hs : a.s ≠ s) : get (ins a l) s = get l s := by
  induction l with
  | nil => unfold ins get; rw [if_neg hs]; rfl
  | cons x l ih =>
    unfold ins
    by_cases h : key x < key a
    · rw [if_pos h]
      unfold get
      rw [ih]
    · rw [if_neg h]
      by_cases h2 : x.s = a.s
      · rw [if_pos h2]; unfold get; rw [if_neg hs, if_neg (by rw [h2]; exact hs)]
      · rw [if_neg h2]
        conv => lhs; unfold get
        rw [if_neg hs]
/-! ### an event -/
theorem Each.bounds {u : Int} {l : List Acc} (h : Each u l) (s : ByteArray) (hu : 0 ≤ u) : 0 ≤ (get l s).cnt ∧ (get l s).cnt ≤ u ∧ -1000000 * (get l s).cnt ≤ (get l s).sum ∧ (get l s).sum ≤ 1000000 * (get l s).cnt := by
  rcases get_mem l s with hm | ⟨hm, _⟩
  · have := (h _ hm).2
    unfold badRange at this
    omega
  · rw [hm]
    unfold new
    simp only
    omega
theorem plus_s (a : Acc) (e : Evt.Ev) : (plus a e).s = a.s := by
  unfold plus
  split
  · rfl
  · split <;> rfl
theorem plus_cnt (a : Acc) (e : Evt.Ev) : (plus a e).cnt = a.cnt + 1 := by
  unfold plus
  split
  · rfl
  · split <;> rfl
theorem sums_ins (a : Acc) (l : List Acc) (h : Up none l) : sums (ins a l) = sums l + a.cnt - (get l a.s).cnt := by
  induction l with
  | nil => show sums [a] = _; rw [sums_cons, sums_nil]; unfold get new; simp only; omega
  | cons x l ih =>
    unfold ins
    by_cases h1 : key x < key a
    · rw [if_pos h1, sums_cons, ih h.2.none, sums_cons]
      have : get (x :: l) a.s = get l a.s := by
        conv => lhs; unfold get
        rw [if_neg (fun e => by rw [key_eq.2 e] at h1; exact lt_irr _ h1)]
      rw [this]
      omega
    · rw [if_neg h1]
      by_cases h2 : x.s = a.s
      · rw [if_pos h2, sums_cons, sums_cons]
        unfold get
        rw [if_pos h2]
        omega
      · rw [if_neg h2, sums_cons]
        have hn : get (x :: l) a.s = new a.s := by
          rcases get_mem (x :: l) a.s with hm | ⟨hm, _⟩
          · exfalso
            have hs := get_s (x :: l) a.s
            rcases List.mem_cons.1 hm with he | hm
            · rw [he] at hs; exact h2 hs
            · have := Up.all h.2 _ hm
              rw [show key (get (x :: l) a.s) = key a from key_eq.2 hs] at this
              exact h1 this
          · exact hm
        rw [hn]
        unfold new
        simp only
        omega
theorem up_ins (a : Acc) (l : List Acc) : ∀ (p : Option (List UInt8)), (∀ q, p = some q → q < key a) → Up p l → Up p (ins a l) := by
  induction l with
  | nil => intro p hp _; exact ⟨hp, trivial⟩
  | cons x l ih =>
    intro p hp h
    unfold ins
    by_cases h1 : key x < key a
    · rw [if_pos h1]
      exact ⟨h.1, ih _ (fun q e => by cases e; exact h1) h.2⟩
    · rw [if_neg h1]
      by_cases h2 : x.s = a.s
      · rw [if_pos h2]
        have hk := key_eq.2 h2
        refine ⟨hp, ?_⟩
        rw [← hk]
        exact h.2
      · rw [if_neg h2]
        have hlt : key a < key x := by
          rcases Classical.em (key a < key x) with h3 | h3
          · exact h3
          · exact absurd (key_eq.1 (List.le_antisymm (List.not_lt.1 h3) (List.not_lt.1 h1))) h2
        exact ⟨hp, fun q e => by cases e; exact hlt, h.2⟩
theorem mem_ins {a x : Acc} {l : List Acc} (h : x ∈ ins a l) : x = a ∨ x ∈ l := by
  induction l with
  | nil => exact .inl (by simpa [ins] using h)
  | cons y l ih =>
    unfold ins at h
    split at h
    · rcases List.mem_cons.1 h with rfl | h
      · exact .inr (List.mem_cons_self ..)
      · rcases ih h with h | h
        · exact .inl h
        · exact .inr (List.mem_cons_of_mem _ h)
    · split at h
      · rcases List.mem_cons.1 h with rfl | h
        · exact .inl rfl
        · exact .inr (List.mem_cons_of_mem _ h)
      · rcases List.mem_cons.1 h with rfl | h
        · exact .inl rfl
        · exact .inr h
/-- when an event comes, all of what is asked holds -/
theorem apply_ok {v : Vi} {e : Evt.Ev} (h : (apply v e).err = 0) : Good v ∧ Evt.wrongEv e = 0 ∧ v.upto ≠ 150 ∧ may (get v.accs e.s) e = true ∧ (apply v e).v = ⟨v.upto + 1, ins (plus (get v.accs e.s) e) v.accs⟩ := by
  unfold apply at *
  by_cases h1 : (wrongV v).1 ≠ 0
  · rw [if_pos h1] at h; exact absurd h h1
  · rw [if_neg h1] at h ⊢
    by_cases h2 : Evt.wrongEv e ≠ 0
    · rw [if_pos h2] at h; exact absurd h h2
    · rw [if_neg h2] at h ⊢
      by_cases h3 : v.upto = 150
      · rw [if_pos h3] at h; cases h
      · rw [if_neg h3] at h ⊢
        by_cases h4 : may (get v.accs e.s) e = false
        · rw [if_pos h4] at h; cases h
        · rw [if_neg h4]
          exact ⟨(wrongV_good v).1 (Classical.byContradiction h1), Classical.byContradiction h2, h3, by simpa using h4, rfl⟩
theorem apply_of {v : Vi} {e : Evt.Ev} (h1 : Good v) (h2 : Evt.wrongEv e = 0) (h3 : v.upto ≠ 150) (h4 : may (get v.accs e.s) e = true) : apply v e = ⟨⟨v.upto + 1, ins (plus (get v.accs e.s) e) v.accs⟩, 0⟩ := by
  unfold apply
  rw [if_neg (fun k => k ((wrongV_good v).2 h1)), if_neg (fun k => k h2), if_neg h3, if_neg (by rw [h4]; decide)]
theorem apply_bad {v : Vi} {e : Evt.Ev} (h : (apply v e).err ≠ 0) : (apply v e).v = none' := by
  unfold apply at *
  split
  · rfl
  · split
    · rfl
    · split
      · rfl
      · split
        · rfl
        · rename_i h1 h2 h3 h4
          rw [if_neg h1, if_neg h2, if_neg h3, if_neg h4] at h
          exact absurd rfl h
theorem plus_range {u : Int} {a : Acc} {e : Evt.Ev} (hc0 : 0 ≤ a.cnt) (hc : a.cnt ≤ u) (h1 : -1000000 * a.cnt ≤ a.sum) (h2 : a.sum ≤ 1000000 * a.cnt) (he : Evt.wrongEv e = 0) : ¬ badRange (u + 1) (plus a e) := by
  obtain ⟨_, _, _, e1, e2⟩ := Evt.wrongEv_zero he
  unfold badRange plus
  split
  · simp only; omega
  · split
    · simp only; omega
    · simp only; omega
theorem apply_good {v : Vi} {e : Evt.Ev} (h : (apply v e).err = 0) : Good (apply v e).v ∧ (apply v e).v.upto = v.upto + 1 := by
  obtain ⟨h1, h2, h3, h4, h5⟩ := apply_ok h
  rw [h5]
  have hb := h1.each.bounds e.s h1.lo
  have hlo := h1.lo
  have hhi := h1.hi
  have hs := plus_s (get v.accs e.s) e
  rw [get_s] at hs
  refine ⟨⟨by simp only; omega, by simp only; omega, ?_, up_ins _ _ none (fun q k => by (cases k)) h1.up, ?_⟩, rfl⟩
  · intro a ha
    rcases mem_ins ha with rfl | ha
    · refine ⟨?_, plus_range hb.1 hb.2.1 hb.2.2.1 hb.2.2.2 h2⟩
      unfold key
      rw [hs]
      exact (Evt.wrongEv_zero h2).1
    · have := h1.each a ha
      refine ⟨this.1, fun k => this.2 ?_⟩
      unfold badRange at k ⊢
      have hx := h1.each.pos
      simp only at k
      rcases k with k | k | k | k
      · exact .inl k
      · exact .inr (.inl (by omega))
      · exact .inr (.inr (.inl k))
      · exact .inr (.inr (.inr k))
  · rw [sums_ins _ _ h1.up, h1.sum, hs, plus_cnt]
    simp only
    omega
/-! ### events -/
theorem fo_cons (v : Vi) (e : Evt.Ev) (l : List Evt.Ev) (i : Nat) : fo v (e :: l) i = if (apply v e).err ≠ 0 then ⟨none', (apply v e).err, (i : Int)⟩ else fo (apply v e).v l (i + 1) := rfl
theorem fo_app (l1 : List Evt.Ev) : ∀ (v : Vi) (l2 : List Evt.Ev) (i : Nat), fo v (l1 ++ l2) i = if (fo v l1 i).err ≠ 0 then fo v l1 i else fo (fo v l1 i).v l2 (i + l1.length) := by
  induction l1 with
  | nil => intro v l2 i; simp [fo]
  | cons e l ih =>
    intro v l2 i
    rw [List.cons_append, fo_cons, fo_cons]
    by_cases h : (apply v e).err ≠ 0
    · rw [if_pos h, if_pos h, if_pos h]
    · rw [if_neg h, if_neg h, ih, List.length_cons, show i + 1 + l.length = i + (l.length + 1) by omega]
theorem fo_at (l : List Evt.Ev) : ∀ (v : Vi) (i : Nat), (fo v l i).err = 0 → (fo v l i).at_ = 0 := by
  induction l with
  | nil => intro v i _; rfl
  | cons e l ih =>
    intro v i h
    rw [fo_cons] at h ⊢
    split at h
    · rename_i h1; exact absurd h h1
    · rename_i h1; rw [if_neg h1]; exact ih _ _ h
theorem fo_shift (l : List Evt.Ev) : ∀ (v : Vi) (i j : Nat), (fo v l i).v = (fo v l j).v ∧ (fo v l i).err = (fo v l j).err := by
  induction l with
  | nil => intro v i j; exact ⟨rfl, rfl⟩
  | cons e l ih =>
    intro v i j
    rw [fo_cons, fo_cons]
    split
    · exact ⟨rfl, rfl⟩
    · exact ih _ _ _
theorem fo_bad (l : List Evt.Ev) : ∀ (v : Vi) (i : Nat), (fo v l i).err ≠ 0 → (fo v l i).v = none' := by
  induction l with
  | nil => intro v i h; exact absurd rfl h
  | cons e l ih =>
    intro v i h
    rw [fo_cons] at h ⊢
    split
    · rfl
    · rename_i h1; rw [if_neg h1] at h; exact ih _ _ h
theorem fo_good (l : List Evt.Ev) : ∀ (v : Vi) (i : Nat), Good v → (fo v l i).err = 0 → Good (fo v l i).v ∧ (fo v l i).v.upto = v.upto + l.length := by
  induction l with
  | nil => intro v i h _; exact ⟨h, by simp [fo]⟩
  | cons e l ih =>
    intro v i h h0
    rw [fo_cons] at h0 ⊢
    split at h0
    · rename_i h1; exact absurd h0 h1
    · rename_i h1
      rw [if_neg h1]
      have h1 : (apply v e).err = 0 := Classical.byContradiction h1
      have g := apply_good h1
      have := ih _ _ g.1 h0
      refine ⟨this.1, ?_⟩
      rw [this.2, g.2, List.length_cons]
      omega
theorem fold_ok {v : Vi} {l : List Evt.Ev} (h : (fold v l).err = 0) : Good v ∧ fold v l = fo v l 0 := by
  unfold fold at *
  by_cases h1 : (wrongV v).1 ≠ 0
  · rw [if_pos h1] at h; exact absurd h h1
  · rw [if_neg h1]
    exact ⟨(wrongV_good v).1 (Classical.byContradiction h1), rfl⟩
theorem fold_of {v : Vi} (h : Good v) (l : List Evt.Ev) : fold v l = fo v l 0 := by
  unfold fold
  rw [if_neg (fun k => k ((wrongV_good v).2 h))]
theorem fold_bad {v : Vi} {l : List Evt.Ev} (h : (fold v l).err ≠ 0) : (fold v l).v = none' := by
  unfold fold at *
  split
  · rfl
  · rename_i h1; rw [if_neg h1] at h; exact fo_bad _ _ _ h
/-- PART BY PART. -/
theorem fold_parts {v : Vi} {l : List Evt.Ev} (h : (fold v l).err = 0) (k : Nat) : (fold v (l.take k)).err = 0 ∧ (fold (fold v (l.take k)).v (l.drop k)).err = 0 ∧ (fold (fold v (l.take k)).v (l.drop k)).v = (fold v l).v := by
  obtain ⟨hg, he⟩ := fold_ok h
  rw [he] at h ⊢
  rw [fold_of hg]
  have hap := fo_app (l.take k) v (l.drop k) 0
  rw [List.take_append_drop] at hap
  by_cases h1 : (fo v (l.take k) 0).err ≠ 0
  · rw [if_pos h1] at hap
    rw [hap] at h
    exact absurd h h1
  · have h1' : (fo v (l.take k) 0).err = 0 := Classical.byContradiction h1
    rw [if_neg h1] at hap
    have g2 := (fo_good _ _ _ hg h1').1
    rw [fold_of g2]
    have := fo_shift (l.drop k) (fo v (l.take k) 0).v 0 (0 + (l.take k).length)
    rw [hap] at h ⊢
    exact ⟨h1', this.2.trans h, this.1⟩
/-- NO STREAM HAS LESS THAN NOTHING. -/
theorem may_sum {a : Acc} {e : Evt.Ev} (he : Evt.wrongEv e = 0) (h : may a e = true) (h0 : 0 ≤ a.sum) : 0 ≤ (plus a e).sum := by
  obtain ⟨_, _, _, e1, e2⟩ := Evt.wrongEv_zero he
  unfold plus
  by_cases h2 : e.k = 2
  · rw [if_pos h2]; simp only; omega
  · rw [if_neg h2]
    by_cases h3 : e.k = 3
    · rw [if_pos h3]
      unfold may at h
      rw [if_neg (by omega), if_neg (by omega), if_pos h3] at h
      simp only [Bool.and_eq_true, decide_eq_true_eq] at h
      simp only; omega
    · rw [if_neg h3]; exact h0
theorem fo_sum (l : List Evt.Ev) : ∀ (v : Vi) (i : Nat), Good v → (fo v l i).err = 0 → (∀ a ∈ v.accs, 0 ≤ a.sum) → ∀ a ∈ (fo v l i).v.accs, 0 ≤ a.sum := by
  induction l with
  | nil => intro v i _ _ h; exact h
  | cons e l ih =>
    intro v i h h0 hs
    rw [fo_cons] at h0 ⊢
    split at h0
    · rename_i h1; exact absurd h0 h1
    · rename_i h1
      rw [if_neg h1]
      have h1 : (apply v e).err = 0 := Classical.byContradiction h1
      have g := apply_good h1
      obtain ⟨_, k2, k3, k4, k5⟩ := apply_ok h1
      refine ih _ _ g.1 h0 (fun a ha => ?_)
      rw [k5] at ha
      rcases mem_ins ha with rfl | ha
      · refine may_sum k2 k4 ?_
        rcases get_mem v.accs e.s with hm | ⟨hm, _⟩
        · exact hs _ hm
        · rw [hm]; exact Int.le_refl _
      · exact hs a ha
/-- WHAT IS NOT OF IT IS NO MATTER. -/
theorem fo_own (s : ByteArray) (l : List Evt.Ev) : ∀ (v v' : Vi) (i j : Nat), Good v → Good v' → v'.upto ≤ v.upto → get v.accs s = get v'.accs s → (fo v l i).err = 0 →
    (fo v' (l.filter (fun e => e.s = s)) j).err = 0 ∧ get (fo v l i).v.accs s = get (fo v' (l.filter (fun e => e.s = s)) j).v.accs s ∧ (get (fo v l i).v.accs s).cnt = (get v.accs s).cnt + (l.filter (fun e => e.s = s)).length := by
  induction l with
  | nil => intro v v' i j _ _ _ h _; exact ⟨rfl, h, by simp [fo]⟩
  | cons e l ih =>
    intro v v' i j hv hv' hu hg h0
    rw [fo_cons] at h0
    split at h0
    · rename_i h1; exact absurd h0 h1
    · rename_i h1
      have hfo : fo v (e :: l) i = fo (apply v e).v l (i + 1) := by
        rw [fo_cons, if_neg h1]
      rw [hfo]
      have h1 : (apply v e).err = 0 := Classical.byContradiction h1
      have g := apply_good h1
      obtain ⟨_, k2, k3, k4, k5⟩ := apply_ok h1
      have hhi := hv.hi
      have hps := plus_s (get v.accs e.s) e
      rw [get_s] at hps
      by_cases hs : e.s = s
      · rw [List.filter_cons_of_pos (by simpa using hs)]
        have ha : apply v' e = ⟨⟨v'.upto + 1, ins (plus (get v'.accs e.s) e) v'.accs⟩, 0⟩ := apply_of hv' k2 (by omega) (by rw [hs, ← hg, ← hs]; exact k4)
        have h1' : (apply v' e).err = 0 := by rw [ha]
        have g' := apply_good h1'
        have hfo' : fo v' (e :: l.filter (fun e => e.s = s)) j = fo (apply v' e).v (l.filter (fun e => e.s = s)) (j + 1) := by
          rw [fo_cons, if_neg (fun k => k h1')]
        rw [hfo']
        have e1 : get (apply v e).v.accs s = plus (get v.accs s) e := by
          rw [k5]
          have := get_ins_same (plus (get v.accs e.s) e) v.accs
          rw [hps, hs] at this
          simp only
          rw [hs]
          exact this
        have e2 : get (apply v' e).v.accs s = plus (get v.accs s) e := by
          rw [ha]
          have := get_ins_same (plus (get v'.accs e.s) e) v'.accs
          rw [plus_s, get_s, hs, ← hg] at this
          simp only
          rw [hs, ← hg]
          exact this
        obtain ⟨r1, r2, r3⟩ := ih (apply v e).v (apply v' e).v (i + 1) (j + 1) g.1 g'.1 (by rw [g.2, g'.2]; omega) (e1.trans e2.symm) h0
        refine ⟨r1, r2, ?_⟩
        rw [r3, e1, plus_cnt, List.length_cons]
        omega
      · rw [List.filter_cons_of_neg (by simpa using hs)]
        have e1 : get (apply v e).v.accs s = get v.accs s := by
          rw [k5]
          exact get_ins_other _ _ _ (by rw [hps]; exact hs)
        obtain ⟨r1, r2, r3⟩ := ih (apply v e).v v' (i + 1) j g.1 hv' (by rw [g.2]; omega) (e1.trans hg) h0
        exact ⟨r1, r2, by rw [r3, e1]⟩
theorem good_none : Good none' := ⟨by decide, by decide, fun a ha => by (cases ha), trivial, rfl⟩
theorem fold_own {l : List Evt.Ev} (s : ByteArray) (h : (fold none' l).err = 0) : (fold none' (l.filter (fun e => e.s = s))).err = 0 ∧ get (fold none' l).v.accs s = get (fold none' (l.filter (fun e => e.s = s))).v.accs s ∧ (get (fold none' l).v.accs s).cnt = (l.filter (fun e => e.s = s)).length := by
  rw [fold_of good_none] at h
  rw [fold_of good_none, fold_of good_none]
  have := fo_own s l none' none' 0 0 good_none good_none (Int.le_refl _) rfl h
  refine ⟨this.1, this.2.1, ?_⟩
  rw [this.2.2]
  show (0 : Int) + _ = _
  omega
end Go.Proofs.Ytjdgfijpmljhiaa.Vw
