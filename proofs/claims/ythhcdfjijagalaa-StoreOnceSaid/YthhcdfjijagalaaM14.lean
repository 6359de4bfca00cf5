/- Joined, and what is not used struck: VwLaw, ViewE. -/
import Derived.Test.YthhcdfjijagalaaM10
import Derived.Test.YthhcdfjijagalaaM12
import Derived.Test.YthhcdfjijagalaaM13
namespace Go.Proofs.Ythhcdfjijagalaa.Vw
set_option linter.unusedVariables false
theorem lst_inj {a b : ByteArray} (h : Evt.lst a = Evt.lst b) : a = b := by
  cases a with | mk a => cases b with | mk b =>
  unfold Evt.lst at h
  have : a = b := Array.toList_inj.1 h
  rw [this]
theorem key_eq {a b : Acc} : key a = key b ↔ a.s = b.s := ⟨lst_inj, fun h => by unfold key; rw [h]⟩
theorem lt_irr (a : List UInt8) : ¬ a < a := List.lt_irrefl a
theorem lt_tr {a b c : List UInt8} (h : a < b) (k : b < c) : a < c := List.lt_trans h k
def sums (l : List Acc) : Int := (l.map Acc.cnt).sum
theorem sums_nil : sums [] = 0 := rfl
theorem sums_cons (a : Acc) (l : List Acc) : sums (a :: l) = a.cnt + sums l := by simp [sums]
/-- each is behind those ahead of it -/
def Up : Option (List UInt8) → List Acc → Prop
  | _, [] => True
  | p, a :: r => (∀ q, p = some q → q < key a) ∧ Up (some (key a)) r
/-- a right view's accounts -/
def Each (u : Int) (l : List Acc) : Prop := ∀ a ∈ l, Evt.named (key a) = true ∧ ¬ badRange u a
theorem Each.pos {u : Int} {l : List Acc} (h : Each u l) : 0 ≤ sums l ∧ (l.length : Int) ≤ sums l := by
  induction l with
  | nil => exact ⟨Int.le_refl _, Int.le_refl _⟩
  | cons a l ih =>
    have h1 := ih (fun x hx => h x (List.mem_cons_of_mem _ hx))
    have h2 := (h a (List.mem_cons_self ..)).2
    unfold badRange at h2
    rw [sums_cons, List.length_cons]
    constructor <;> omega
theorem wl_zero (u : Int) (l : List Acc) : ∀ (i : Nat) (c : Int) (p : Option (List UInt8)), (wl u i c p l).1 = 0 ↔ Each u l ∧ Up p l ∧ c + sums l = u := by
  induction l with
  | nil =>
    intro i c p
    unfold wl
    rw [sums_nil]
    by_cases h : c = u
    · rw [if_neg (fun k => k h)]
      exact ⟨fun _ => ⟨fun a ha => by (cases ha), trivial, by omega⟩, fun _ => rfl⟩
    · rw [if_pos h]
      exact ⟨fun k => by (cases k), fun k => by omega⟩
  | cons a l ih =>
    intro i c p
    have hr : rises p a ↔ ∀ q, p = some q → q < key a := by
      cases p with
      | none => exact ⟨fun _ q e => by (cases e), fun _ => trivial⟩
      | some q => exact ⟨fun h q' e => by cases e; exact h, fun h => h q rfl⟩
    unfold wl
    by_cases h1 : Evt.named (key a) = false
    · rw [if_pos h1]
      exact ⟨fun k => by (cases k), fun k => by have := (k.1 a (List.mem_cons_self ..)).1; rw [h1] at this; cases this⟩
    · rw [if_neg h1]
      by_cases h2 : badRange u a
      · rw [if_pos h2]
        exact ⟨fun k => by (cases k), fun k => absurd h2 (k.1 a (List.mem_cons_self ..)).2⟩
      · rw [if_neg h2]
        by_cases h3 : rises p a
        · rw [if_neg (fun k => k h3)]
          by_cases h4 : u < c + a.cnt
          · rw [if_pos h4]
            refine ⟨fun k => by (cases k), fun k => ?_⟩
            have hp := Each.pos (u := u) (l := l) (fun x hx => k.1 x (List.mem_cons_of_mem _ hx))
            have := k.2.2
            rw [sums_cons] at this
            omega
          · rw [if_neg h4, ih, sums_cons]
            constructor
            · rintro ⟨k1, k2, k3⟩
              refine ⟨fun x hx => ?_, ⟨hr.1 h3, k2⟩, by omega⟩
              rcases List.mem_cons.1 hx with rfl | hx
              · exact ⟨by simpa using h1, h2⟩
              · exact k1 x hx
            · rintro ⟨k1, k2, k3⟩
              exact ⟨fun x hx => k1 x (List.mem_cons_of_mem _ hx), k2.2, by omega⟩
        · rw [if_pos h3]
          exact ⟨fun k => by (cases k), fun k => absurd (hr.2 k.2.1.1) h3⟩
structure Good (v : Vi) : Prop where
  lo : 0 ≤ v.upto
  hi : v.upto ≤ 150
  each : Each v.upto v.accs
  up : Up none v.accs
  sum : sums v.accs = v.upto
theorem wrongV_good (v : Vi) : (wrongV v).1 = 0 ↔ Good v := by
  unfold wrongV
  by_cases h : v.upto < 0 ∨ 150 < v.upto
  · rw [if_pos h]
    exact ⟨fun k => by (cases k), fun k => by have := k.lo; have := k.hi; omega⟩
  · rw [if_neg h, wl_zero]
    exact ⟨fun k => ⟨by omega, by omega, k.1, k.2.1, by have := k.2.2; omega⟩, fun k => ⟨k.each, k.up, by rw [k.sum]; omega⟩⟩
theorem Good.len {v : Vi} (h : Good v) : (v.accs.length : Int) ≤ v.upto := by have := h.each.pos; rw [h.sum] at this; exact this.2
/-! ### rising -/
theorem Up.all {l : List Acc} : ∀ {p : List UInt8}, Up (some p) l → ∀ a ∈ l, p < key a := by
  induction l with
  | nil => intro p _ a ha; cases ha
  | cons x l ih =>
    intro p h a ha
    rcases List.mem_cons.1 ha with rfl | ha
    · exact h.1 p rfl
    · exact lt_tr (h.1 p rfl) (ih h.2 a ha)
theorem Up.none {l : List Acc} {p : Option (List UInt8)} (h : Up p l) : Up Option.none l := by
  cases l with
  | nil => trivial
  | cons a l => exact ⟨fun q e => by (cases e), h.2⟩
theorem Up.get {l : List Acc} : ∀ {p : Option (List UInt8)}, Up p l → ∀ i j (hi : i < l.length) (hj : j < l.length), i < j → key l[i] < key l[j] := by
  induction l with
  | nil => intro p _ i j hi; exact absurd hi (by simp)
  | cons a l ih =>
    intro p h i j hi hj hij
    cases i with
    | zero =>
      cases j with
      | zero => exact absurd hij (by omega)
      | succ j => exact Up.all h.2 _ (List.getElem_mem _)
    | succ i =>
      cases j with
      | zero => exact absurd hij (by omega)
      | succ j => exact ih h.2 i j (by simpa using hi) (by simpa using hj) (by omega)
/-! ### putting in its place -/
theorem ins_found (a : Acc) : ∀ (l : List Acc) (i : Nat) (h : i < l.length), (∀ j (hj : j < l.length), j < i → key l[j] < key a) → key l[i] = key a → ins a l = l.set i a := by
  intro l
  induction l with
  | nil => intro i h; exact absurd h (by simp)
  | cons x l ih =>
    intro i h h1 h2
    unfold ins
    cases i with
    | zero =>
      have h2 : key x = key a := h2
      rw [if_neg (by rw [h2]; exact lt_irr _), if_pos (key_eq.1 h2)]
      rfl
    | succ i =>
      have h0 : key x < key a := h1 0 (by simp) (by omega)
      rw [if_pos h0, ih i (by simpa using h) (fun j hj hji => h1 (j + 1) (by simpa using hj) (by omega)) h2]
      rfl
theorem ins_new (a : Acc) : ∀ (l : List Acc) (i : Nat), i ≤ l.length → (∀ j (hj : j < l.length), j < i → key l[j] < key a) → (∀ (h : i < l.length), ¬ key l[i] < key a ∧ key l[i] ≠ key a) → ins a l = l.take i ++ a :: l.drop i := by
  intro l
  induction l with
  | nil => intro i h _ _; simp [ins]
  | cons x l ih =>
    intro i h h1 h2
    unfold ins
    cases i with
    | zero =>
      have : ¬ key x < key a ∧ key x ≠ key a := h2 (by simp)
      rw [if_neg this.1, if_neg (fun e => this.2 (key_eq.2 e))]
      rfl
    | succ i =>
      have h0 : key x < key a := h1 0 (by simp) (by omega)
      rw [if_pos h0, ih i (by simpa using h) (fun j hj hji => h1 (j + 1) (by simpa using hj) (by omega)) (fun hh => h2 (by simpa using hh))]
      rfl
/-! ### an account of a list -/
theorem get_s (l : List Acc) (s : ByteArray) : (get l s).s = s := by
  induction l with
  | nil => rfl
  | cons a l ih =>
    unfold get
    by_cases h : a.s = s
    · rw [if_pos h]; exact h
    · rw [if_neg h]; exact ih
theorem get_mem (l : List Acc) (s : ByteArray) : get l s ∈ l ∨ (get l s = new s ∧ ∀ a ∈ l, a.s ≠ s) := by
  induction l with
  | nil => exact .inr ⟨rfl, fun a ha => by (cases ha)⟩
  | cons a l ih =>
    unfold get
    by_cases h : a.s = s
    · rw [if_pos h]; exact .inl (List.mem_cons_self ..)
    · rw [if_neg h]
      rcases ih with ih | ⟨ih, k⟩
      · exact .inl (List.mem_cons_of_mem _ ih)
      · refine .inr ⟨ih, fun x hx => ?_⟩
        rcases List.mem_cons.1 hx with rfl | hx
        · exact h
        · exact k x hx
theorem get_ins_same (a : Acc) (l : List Acc) : get (ins a l) a.s = a := by
  induction l with
  | nil => unfold ins get; rw [if_pos rfl]
  | cons x l ih =>
    unfold ins
    by_cases h : key x < key a
    · rw [if_pos h]
      unfold get
      rw [if_neg (fun e => by rw [key_eq.2 e] at h; exact lt_irr _ h)]
      exact ih
    · rw [if_neg h]
      by_cases h2 : x.s = a.s
      · rw [if_pos h2]; unfold get; rw [if_pos rfl]
      · rw [if_neg h2]; unfold get; rw [if_pos rfl]
/-! ### an event -/
theorem Each.bounds {u : Int} {l : List Acc} (h : Each u l) (s : ByteArray) (hu : 0 ≤ u) : 0 ≤ (get l s).cnt ∧ (get l s).cnt ≤ u ∧ -1000000 * (get l s).cnt ≤ (get l s).sum ∧ (get l s).sum ≤ 1000000 * (get l s).cnt := by
  rcases get_mem l s with hm | ⟨hm, _⟩
  · have := (h _ hm).2
    unfold badRange at this
    omega
  · rw [hm]
    unfold new
    simp only
    omega
theorem plus_s (a : Acc) (e : Evt.Ev) : (plus a e).s = a.s := by
  unfold plus
  split
  · rfl
  · split <;> rfl
theorem plus_cnt (a : Acc) (e : Evt.Ev) : (plus a e).cnt = a.cnt + 1 := by
  unfold plus
  split
  · rfl
  · split <;> rfl
theorem sums_ins (a : Acc) (l : List Acc) (h : Up none l) : sums (ins a l) = sums l + a.cnt - (get l a.s).cnt := by
  induction l with
  | nil => show sums [a] = _; rw [sums_cons, sums_nil]; unfold get new; simp only; omega
  | cons x l ih =>
    unfold ins
    by_cases h1 : key x < key a
    · rw [if_pos h1, sums_cons, ih h.2.none, sums_cons]
      have : get (x :: l) a.s = get l a.s := by
        conv => lhs; unfold get
        rw [if_neg (fun e => by rw [key_eq.2 e] at h1; exact lt_irr _ h1)]
      rw [this]
      omega
    · rw [if_neg h1]
      by_cases h2 : x.s = a.s
      · rw [if_pos h2, sums_cons, sums_cons]
        unfold get
        rw [if_pos h2]
        omega
      · rw [if_neg h2, sums_cons]
        have hn : get (x :: l) a.s = new a.s := by
          rcases get_mem (x :: l) a.s with hm | ⟨hm, _⟩
          · exfalso
            have hs := get_s (x :: l) a.s
            rcases List.mem_cons.1 hm with he | hm
            · rw [he] at hs; exact h2 hs
            · have := Up.all h.2 _ hm
              rw [show key (get (x :: l) a.s) = key a from key_eq.2 hs] at this
              exact h1 this
          · exact hm
        rw [hn]
        unfold new
        simp only
        omega
theorem up_ins (a : Acc) (l : List Acc) : ∀ (p : Option (List UInt8)), (∀ q, p = some q → q < key a) → Up p l → Up p (ins a l) := by
  induction l with
  | nil => intro p hp _; exact ⟨hp, trivial⟩
  | cons x l ih =>
    intro p hp h
    unfold ins
    by_cases h1 : key x < key a
    · rw [if_pos h1]
      exact ⟨h.1, ih _ (fun q e => by cases e; exact h1) h.2⟩
    · rw [if_neg h1]
      by_cases h2 : x.s = a.s
      · rw [if_pos h2]
        have hk := key_eq.2 h2
        refine ⟨hp, ?_⟩
        rw [← hk]
        exact h.2
      · rw [if_neg h2]
        have hlt : key a < key x := by
          rcases Classical.em (key a < key x) with h3 | h3
          · exact h3
          · exact absurd (key_eq.1 (List.le_antisymm (List.not_lt.1 h3) (List.not_lt.1 h1))) h2
        exact ⟨hp, fun q e => by cases e; exact hlt, h.2⟩
theorem mem_ins {a x : Acc} {l : List Acc} (h : x ∈ ins a l) : x = a ∨ x ∈ l := by
  induction l with
  | nil => exact .inl (by simpa [ins] using h)
  | cons y l ih =>
    unfold ins at h
    split at h
    · rcases List.mem_cons.1 h with rfl | h
      · exact .inr (List.mem_cons_self ..)
      · rcases ih h with h | h
        · exact .inl h
        · exact .inr (List.mem_cons_of_mem _ h)
    · split at h
      · rcases List.mem_cons.1 h with rfl | h
        · exact .inl rfl
        · exact .inr (List.mem_cons_of_mem _ h)
      · rcases List.mem_cons.1 h with rfl | h
        · exact .inl rfl
        · exact .inr h
/-- when an event comes, all of what is asked holds -/
theorem apply_ok {v : Vi} {e : Evt.Ev} (h : (apply v e).err = 0) : Good v ∧ Evt.wrongEv e = 0 ∧ v.upto ≠ 150 ∧ may (get v.accs e.s) e = true ∧ (apply v e).v = ⟨v.upto + 1, ins (plus (get v.accs e.s) e) v.accs⟩ := by
  unfold apply at *
  by_cases h1 : (wrongV v).1 ≠ 0
  · rw [if_pos h1] at h; exact absurd h h1
  · rw [if_neg h1] at h ⊢
    by_cases h2 : Evt.wrongEv e ≠ 0
    · rw [if_pos h2] at h; exact absurd h h2
    · rw [if_neg h2] at h ⊢
      by_cases h3 : v.upto = 150
      · rw [if_pos h3] at h; cases h
      · rw [if_neg h3] at h ⊢
        by_cases h4 : may (get v.accs e.s) e = false
        · rw [if_pos h4] at h; cases h
        · rw [if_neg h4]
          exact ⟨(wrongV_good v).1 (Classical.byContradiction h1), Classical.byContradiction h2, h3, by simpa using h4, rfl⟩
theorem apply_of {v : Vi} {e : Evt.Ev} (h1 : Good v) (h2 : Evt.wrongEv e = 0) (h3 : v.upto ≠ 150) (h4 : may (get v.accs e.s) e = true) : apply v e = ⟨⟨v.upto + 1, ins (plus (get v.accs e.s) e) v.accs⟩, 0⟩ := by
  unfold apply
  rw [if_neg (fun k => k ((wrongV_good v).2 h1)), if_neg (fun k => k h2), if_neg h3, if_neg (by rw [h4]; decide)]
theorem plus_range {u : Int} {a : Acc} {e : Evt.Ev} (hc0 : 0 ≤ a.cnt) (hc : a.cnt ≤ u) (h1 : -1000000 * a.cnt ≤ a.sum) (h2 : a.sum ≤ 1000000 * a.cnt) (he : Evt.wrongEv e = 0) : ¬ badRange (u + 1) (plus a e) := by
  obtain ⟨_, _, _, e1, e2⟩ := Evt.wrongEv_zero he
  unfold badRange plus
  split
  · simp only; omega
  · split
    · simp only; omega
    · simp only; omega
theorem apply_good {v : Vi} {e : Evt.Ev} (h : (apply v e).err = 0) : Good (apply v e).v ∧ (apply v e).v.upto = v.upto + 1 := by
  obtain ⟨h1, h2, h3, h4, h5⟩ := apply_ok h
  rw [h5]
  have hb := h1.each.bounds e.s h1.lo
  have hlo := h1.lo
  have hhi := h1.hi
  have hs := plus_s (get v.accs e.s) e
  rw [get_s] at hs
  refine ⟨⟨by simp only; omega, by simp only; omega, ?_, up_ins _ _ none (fun q k => by (cases k)) h1.up, ?_⟩, rfl⟩
  · intro a ha
    rcases mem_ins ha with rfl | ha
    · refine ⟨?_, plus_range hb.1 hb.2.1 hb.2.2.1 hb.2.2.2 h2⟩
      unfold key
      rw [hs]
      exact (Evt.wrongEv_zero h2).1
    · have := h1.each a ha
      refine ⟨this.1, fun k => this.2 ?_⟩
      unfold badRange at k ⊢
      have hx := h1.each.pos
      simp only at k
      rcases k with k | k | k | k
      · exact .inl k
      · exact .inr (.inl (by omega))
      · exact .inr (.inr (.inl k))
      · exact .inr (.inr (.inr k))
  · rw [sums_ins _ _ h1.up, h1.sum, hs, plus_cnt]
    simp only
    omega
/-! ### events -/
theorem fo_cons (v : Vi) (e : Evt.Ev) (l : List Evt.Ev) (i : Nat) : fo v (e :: l) i = if (apply v e).err ≠ 0 then ⟨none', (apply v e).err, (i : Int)⟩ else fo (apply v e).v l (i + 1) := rfl
theorem fo_app (l1 : List Evt.Ev) : ∀ (v : Vi) (l2 : List Evt.Ev) (i : Nat), fo v (l1 ++ l2) i = if (fo v l1 i).err ≠ 0 then fo v l1 i else fo (fo v l1 i).v l2 (i + l1.length) := by
  induction l1 with
  | nil => intro v l2 i; simp [fo]
  | cons e l ih =>
    intro v l2 i
    rw [List.cons_append, fo_cons, fo_cons]
    by_cases h : (apply v e).err ≠ 0
    · rw [if_pos h, if_pos h, if_pos h]
    · rw [if_neg h, if_neg h, ih, List.length_cons, show i + 1 + l.length = i + (l.length + 1) by omega]
theorem fo_shift (l : List Evt.Ev) : ∀ (v : Vi) (i j : Nat), (fo v l i).v = (fo v l j).v ∧ (fo v l i).err = (fo v l j).err := by
  induction l with
  | nil => intro v i j; exact ⟨rfl, rfl⟩
  | cons e l ih =>
    intro v i j
    rw [fo_cons, fo_cons]
    split
    · exact ⟨rfl, rfl⟩
    · exact ih _ _ _
theorem fo_bad (l : List Evt.Ev) : ∀ (v : Vi) (i : Nat), (fo v l i).err ≠ 0 → (fo v l i).v = none' := by
  induction l with
  | nil => intro v i h; exact absurd rfl h
  | cons e l ih =>
    intro v i h
    rw [fo_cons] at h ⊢
    split
    · rfl
    · rename_i h1; rw [if_neg h1] at h; exact ih _ _ h
theorem fo_good (l : List Evt.Ev) : ∀ (v : Vi) (i : Nat), Good v → (fo v l i).err = 0 → Good (fo v l i).v ∧ (fo v l i).v.upto = v.upto + l.length := by
  induction l with
  | nil => intro v i h _; exact ⟨h, by simp [fo]⟩
  | cons e l ih =>
    intro v i h h0
    rw [fo_cons] at h0 ⊢
    split at h0
    · rename_i h1; exact absurd h0 h1
    · rename_i h1
      rw [if_neg h1]
      have h1 : (apply v e).err = 0 := Classical.byContradiction h1
      have g := apply_good h1
      have := ih _ _ g.1 h0
      refine ⟨this.1, ?_⟩
      rw [this.2, g.2, List.length_cons]
      omega
theorem fold_ok {v : Vi} {l : List Evt.Ev} (h : (fold v l).err = 0) : Good v ∧ fold v l = fo v l 0 := by
  unfold fold at *
  by_cases h1 : (wrongV v).1 ≠ 0
  · rw [if_pos h1] at h; exact absurd h h1
  · rw [if_neg h1]
    exact ⟨(wrongV_good v).1 (Classical.byContradiction h1), rfl⟩
theorem fold_of {v : Vi} (h : Good v) (l : List Evt.Ev) : fold v l = fo v l 0 := by
  unfold fold
  rw [if_neg (fun k => k ((wrongV_good v).2 h))]
theorem fold_bad {v : Vi} {l : List Evt.Ev} (h : (fold v l).err ≠ 0) : (fold v l).v = none' := by
  unfold fold at *
  split
  · rfl
  · rename_i h1; rw [if_neg h1] at h; exact fo_bad _ _ _ h
theorem good_none : Good none' := ⟨by decide, by decide, fun a ha => by (cases ha), trivial, rfl⟩
end Go.Proofs.Ythhcdfjijagalaa.Vw
namespace Go.Proofs.Ythhcdfjijagalaa
open Go.RowKit
set_option linter.unusedVariables false
/-- .. and the accounts lie in a row of their own that is new -/
def VAnsO (r : Vw.St) (w : World) (e : Ending) (w' : World) : Prop := ∃ a n cap, e = .returned (.tuple #[viVal r.v.upto a n cap, .int .i64 r.err]) ∧ As w' a n cap r.v.accs ∧ Below w.heap.size w w' ∧ w'.ownsRow w.heap.size 65 4 (.slice a n cap) n (acCells r.v.accs)
theorem vans_badO {w w' : World} {E : Int} (hb : Below w.heap.size w w') : VAnsO ⟨Vw.none', E⟩ w (.returned (.tuple #[.agg #[.int .i64 0, .slice none 0 0], .int .i64 E])) w' := ⟨none, 0, 0, rfl, As.nil _, hb, World.ownsRow_nil _ _ _ _⟩
theorem three_blk (w : World) (o1 o2 o3 : Obj) (w1 : World) (hb : Below (((w.alloc o1).alloc o2).alloc o3).heap.size (((w.alloc o1).alloc o2).alloc o3) w1) :
    w1.heap[w.heap.size]? = some o1 ∧ w1.heap[w.heap.size + 1]? = some o2 ∧ w1.heap[w.heap.size + 1 + 1]? = some o3 ∧ w.heap.size + 1 + 1 < w1.heap.size ∧ Below w.heap.size w w1 := by
  have hs := hb.size
  simp only [World.size_alloc] at hs
  have n1 := blk_new w o1
  have n2 := blk_new (w.alloc o1) o2
  have n3 := blk_new ((w.alloc o1).alloc o2) o3
  simp only [World.size_alloc] at n2 n3
  have n1' := blk_old (o' := o3) (blk_old (o' := o2) n1)
  have n2' := blk_old (o' := o3) n2
  refine ⟨?_, ?_, ?_, by omega, ?_⟩
  · rw [hb.block _ (by simp only [World.size_alloc]; omega)]; exact n1'
  · rw [hb.block _ (by simp only [World.size_alloc]; omega)]; exact n2'
  · rw [hb.block _ (by simp only [World.size_alloc]; omega)]; exact n3
  · exact bnext ((((Below.refl _ _).alloc (Nat.le_refl _) _).alloc (by simp) _).alloc (by simp; omega) _) hb
theorem blk_set {w : World} {b i : Nat} {cs : Array Value} {t : TypeId} (h : w.heap[b]? = some (.cells cs t (0, 0))) (v : Value) : (w.setCell ⟨b, i, none⟩ v).heap[b]? = some (.cells (cs.setIfInBounds i v) t (0, 0)) := by
  exact heap_setCell_same w b i cs t v h
/-- the result's cells -/
theorem res_blk {w : World} {b : Nat} {x y : Value} {t : TypeId} (h : w.heap[b]? = some (.cells #[x, y] t (0, 0))) (v0 v1 : Value) : ((w.setCell ⟨b, 0, none⟩ v0).setCell ⟨b, 1, none⟩ v1).heap[b]? = some (.cells #[v0, v1] t (0, 0)) := blk_set (i := 1) (blk_set (i := 0) h v0) v1
theorem res_two {w w1 : World} {b : Nat} {x y : Value} {t : TypeId} (hb : Below w.heap.size w w1) (hle : w.heap.size ≤ b) (h : w1.heap[b]? = some (.cells #[x, y] t (0, 0))) (v0 v1 : Value) :
    ((w1.setCell ⟨b, 0, none⟩ v0).setCell ⟨b, 1, none⟩ v1).cell? ⟨b, 0, none⟩ = some v0 ∧ ((w1.setCell ⟨b, 0, none⟩ v0).setCell ⟨b, 1, none⟩ v1).cell? ⟨b, 1, none⟩ = some v1 ∧ Below w.heap.size w ((w1.setCell ⟨b, 0, none⟩ v0).setCell ⟨b, 1, none⟩ v1) :=
  have q := res_blk h v0 v1
  ⟨blk_cell (i := 0) q, blk_cell (i := 1) q, (hb.setCell (p := ⟨b, 0, none⟩) hle v0).setCell (p := ⟨b, 1, none⟩) hle v1⟩
theorem res_twoD {w w1 : World} {b : Nat} {x y : Value} {t : TypeId} (hb : Below w.heap.size w w1) (hle : w.heap.size ≤ b) (h : w1.heap[b]? = some (.cells #[x, y] t (0, 0))) (v0 v1 : Value) (o : Obj) :
    (((w1.setCell ⟨b, 0, none⟩ v0).setCell ⟨b, 1, none⟩ v1).alloc o).drew.cell? ⟨b, 0, none⟩ = some v0 ∧ (((w1.setCell ⟨b, 0, none⟩ v0).setCell ⟨b, 1, none⟩ v1).alloc o).drew.cell? ⟨b, 1, none⟩ = some v1 ∧ Below w.heap.size w (((w1.setCell ⟨b, 0, none⟩ v0).setCell ⟨b, 1, none⟩ v1).alloc o).drew :=
  have q := res_two hb hle h v0 v1
  ⟨(cell_old (World.block_lt_of_cell? _ _ q.1)).trans q.1, (cell_old (World.block_lt_of_cell? _ _ q.2.1)).trans q.2.1, below_drewN (q.2.2.alloc q.2.2.size o) 1⟩
set_option maxHeartbeats 2000000 in
theorem vApply_a (u : Int) (a : Option Addr) (n cap : Nat) (l : List Vw.Acc) (e : Evt.Ev) (w : World) (h : As w a n cap l) (h1 : (Vw.wrongV ⟨u, l⟩).1 ≠ 0) :
    Calls Try.prog 37 #[viVal u a n cap, evVal e] w (VAnsO ⟨Vw.none', (Vw.wrongV ⟨u, l⟩).1⟩ w) := by
  have D := hid (fun W (hW : As W a n cap l) => vWrong_call u a n cap l W hW)
  obtain ⟨s, k, m⟩ := e
  obtain ⟨E, hE⟩ : ∃ E, E = Vw.wrongV ⟨u, l⟩ := ⟨_, rfl⟩
  rw [← hE] at h1 ⊢
  rw [← hE] at D
  clear hE
  obtain ⟨E1, E2⟩ := E
  unfold viVal evVal
  unfold viVal fVal' at D
  simp only at h1 D ⊢
  have t0 : (E1 != 0) = true := bne_iff_ne.2 h1
  replace h1 := hid h1
  go_enter Try.func37, Try.ntmps37
  go_wp2_with fail
  go_at_call 36; refine (D.out _ (((h.alloc _).alloc _).alloc _)).mono ?_; rintro e w1 ⟨rfl, b1⟩
  obtain ⟨v1, v2, v3, hs1, hb⟩ := three_blk w _ _ _ w1 b1
  have z1 : w.heap.size + 1 + 1 ≠ w1.heap.size := by omega
  have z2 : w1.heap.size ≠ w.heap.size + 1 + 1 := by omega
  have r0 : w1.cell? ⟨w.heap.size + 1 + 1, 0, none⟩ = some (.int .i64 0) := blk_cell v3
  have r1 : w1.cell? ⟨w.heap.size + 1 + 1, 1, none⟩ = some (.slice none 0 0) := blk_cell v3
  have f0 : w1.frozen? ⟨w.heap.size + 1 + 1, 0, none⟩ = false := blk_free v3
  have f1 : w1.frozen? ⟨w.heap.size + 1 + 1, 1, none⟩ = false := blk_free v3
  clear b1
  go_wp2_with fail
  go_region
  go_wp2_with fail
  obtain ⟨q0, q1, q2⟩ := res_twoD hb (by omega) v3 (.int .i64 0) (.slice none 0 0) (.cells #[.int .i64 E1, .int .i64 E2] 69)
  exact bodyPost_ret (v := .tuple #[.agg #[.int .i64 0, .slice none 0 0], .int .i64 E1]) (by simp [results, Try.results37, go_sem, q0, q1]) rfl (vans_badO q2)
theorem call_blk {W W' : World} {b : Nat} {o o' : Obj} (h : W.heap[b]? = some o) (hb : Below (W.alloc o').heap.size (W.alloc o') W') : W'.heap[b]? = some o := blk_below (blk_old h) hb
theorem call_below {w W W' : World} {o' : Obj} (h : Below w.heap.size w W) (hb : Below (W.alloc o').heap.size (W.alloc o') W') : Below w.heap.size w W' := bnext (h.alloc h.size o') hb
set_option maxHeartbeats 2000000 in
theorem vApply_b (u : Int) (a : Option Addr) (n cap : Nat) (l : List Vw.Acc) (e : Evt.Ev) (w : World) (h : As w a n cap l) (he : e.s.size ≤ maxLen) (h1 : (Vw.wrongV ⟨u, l⟩).1 = 0) (h2 : Evt.wrongEv e ≠ 0) :
    Calls Try.prog 37 #[viVal u a n cap, evVal e] w (VAnsO ⟨Vw.none', Evt.wrongEv e⟩ w) := by
  have D := hid (fun W (hW : As W a n cap l) => vWrong_call u a n cap l W hW)
  have D2 := hid (fun W => eWrong_call e he W)
  obtain ⟨s, k, m⟩ := e
  obtain ⟨E, hE⟩ : ∃ E, E = Vw.wrongV ⟨u, l⟩ := ⟨_, rfl⟩
  rw [← hE] at h1 D
  clear hE
  obtain ⟨E1, E2⟩ := E
  obtain ⟨K, hK⟩ : ∃ K, K = Evt.wrongEv ⟨s, k, m⟩ := ⟨_, rfl⟩
  rw [← hK] at h2 D2 ⊢
  replace hK := hid hK
  have h1 : E1 = 0 := h1
  subst h1
  unfold viVal evVal
  unfold viVal fVal' at D
  unfold evVal at D2
  simp only at D D2 ⊢
  have t0 : (K != 0) = true := bne_iff_ne.2 h2
  replace h2 := hid h2
  go_enter Try.func37, Try.ntmps37
  go_wp2_with fail
  go_at_call 36; refine (D.out _ (((h.alloc _).alloc _).alloc _)).mono ?_; rintro e w1 ⟨rfl, b1⟩
  obtain ⟨v1, v2, v3, hs1, hb⟩ := three_blk w _ _ _ w1 b1
  clear b1
  have r0 : (w1.alloc (.cells #[.int .i64 0, .int .i64 E2] 69)).cell? ⟨w.heap.size + 1, 0, none⟩ = some (.string s) := blk_cell (blk_old v2)
  have r1 : (w1.alloc (.cells #[.int .i64 0, .int .i64 E2] 69)).cell? ⟨w.heap.size + 1, 1, none⟩ = some (.int .i64 k) := blk_cell (blk_old v2)
  have r2 : (w1.alloc (.cells #[.int .i64 0, .int .i64 E2] 69)).cell? ⟨w.heap.size + 1, 2, none⟩ = some (.int .i64 m) := blk_cell (blk_old v2)
  go_wp2_with fail
  go_at_call 46; refine (D2.out _).mono ?_; rintro e w2 ⟨rfl, b2⟩
  replace v3 := call_blk v3 b2
  replace hb := call_below hb b2
  clear b2 r0 r1 r2 v1 v2
  have q0 : w2.cell? ⟨w.heap.size + 1 + 1, 0, none⟩ = some (.int .i64 0) := blk_cell v3
  have q1 : w2.cell? ⟨w.heap.size + 1 + 1, 1, none⟩ = some (.slice none 0 0) := blk_cell v3
  have f0 : w2.frozen? ⟨w.heap.size + 1 + 1, 0, none⟩ = false := blk_free v3
  have f1 : w2.frozen? ⟨w.heap.size + 1 + 1, 1, none⟩ = false := blk_free v3
  go_wp2_with fail
  obtain ⟨q0, q1, q2⟩ := res_two hb (by omega) v3 (.int .i64 0) (.slice none 0 0)
  exact bodyPost_ret (v := .tuple #[.agg #[.int .i64 0, .slice none 0 0], .int .i64 K]) (by simp [results, Try.results37, go_sem, q0, q1]) rfl (vans_badO q2)
set_option maxHeartbeats 2000000 in
theorem vApply_c (a : Option Addr) (n cap : Nat) (l : List Vw.Acc) (e : Evt.Ev) (w : World) (h : As w a n cap l) (he : e.s.size ≤ maxLen) (h1 : (Vw.wrongV ⟨150, l⟩).1 = 0) (h2 : Evt.wrongEv e = 0) :
    Calls Try.prog 37 #[viVal 150 a n cap, evVal e] w (VAnsO ⟨Vw.none', 5⟩ w) := by
  have D := hid (fun W (hW : As W a n cap l) => vWrong_call 150 a n cap l W hW)
  have D2 := hid (fun W => eWrong_call e he W)
  rw [h2] at D2
  replace h2 := hid h2
  obtain ⟨s, k, m⟩ := e
  obtain ⟨E, hE⟩ : ∃ E, E = Vw.wrongV ⟨150, l⟩ := ⟨_, rfl⟩
  rw [← hE] at h1 D
  clear hE
  obtain ⟨E1, E2⟩ := E
  have h1 : E1 = 0 := h1
  subst h1
  unfold viVal evVal
  unfold viVal fVal' at D
  unfold evVal at D2
  simp only at D D2 ⊢
  go_enter Try.func37, Try.ntmps37
  go_wp2_with fail
  go_at_call 36; refine (D.out _ (((h.alloc _).alloc _).alloc _)).mono ?_; rintro e w1 ⟨rfl, b1⟩
  obtain ⟨v1, v2, v3, hs1, hb⟩ := three_blk w _ _ _ w1 b1
  clear b1
  have r0 : (w1.alloc (.cells #[.int .i64 0, .int .i64 E2] 69)).cell? ⟨w.heap.size + 1, 0, none⟩ = some (.string s) := blk_cell (blk_old v2)
  have r1 : (w1.alloc (.cells #[.int .i64 0, .int .i64 E2] 69)).cell? ⟨w.heap.size + 1, 1, none⟩ = some (.int .i64 k) := blk_cell (blk_old v2)
  have r2 : (w1.alloc (.cells #[.int .i64 0, .int .i64 E2] 69)).cell? ⟨w.heap.size + 1, 2, none⟩ = some (.int .i64 m) := blk_cell (blk_old v2)
  go_wp2_with fail
  go_at_call 46; refine (D2.out _).mono ?_; rintro e w2 ⟨rfl, b2⟩
  replace v1 := call_blk v1 b2
  replace v3 := call_blk v3 b2
  replace hb := call_below hb b2
  clear b2 r0 r1 r2 v2
  have p0 : w2.cell? ⟨w.heap.size, 0, none⟩ = some (.int .i64 150) := blk_cell v1
  have q0 : w2.cell? ⟨w.heap.size + 1 + 1, 0, none⟩ = some (.int .i64 0) := blk_cell v3
  have q1 : w2.cell? ⟨w.heap.size + 1 + 1, 1, none⟩ = some (.slice none 0 0) := blk_cell v3
  have f0 : w2.frozen? ⟨w.heap.size + 1 + 1, 0, none⟩ = false := blk_free v3
  have f1 : w2.frozen? ⟨w.heap.size + 1 + 1, 1, none⟩ = false := blk_free v3
  go_wp2_with fail
  obtain ⟨q0, q1, q2⟩ := res_two hb (by omega) v3 (.int .i64 0) (.slice none 0 0)
  exact bodyPost_ret (v := .tuple #[.agg #[.int .i64 0, .slice none 0 0], .int .i64 5]) (by simp [results, Try.results37, go_sem, q0, q1]) rfl (vans_badO q2)
set_option maxHeartbeats 2000000 in
theorem vApply_d (u : Int) (a : Option Addr) (n cap : Nat) (l : List Vw.Acc) (e : Evt.Ev) (w : World) (h : As w a n cap l) (he : e.s.size ≤ maxLen) (h1 : (Vw.wrongV ⟨u, l⟩).1 = 0) (h2 : Evt.wrongEv e = 0) (h3 : u ≠ 150) (h4 : Vw.may (Vw.get l e.s) e = false) :
    Calls Try.prog 37 #[viVal u a n cap, evVal e] w (VAnsO ⟨Vw.none', 8⟩ w) := by
  have D := hid (fun W (hW : As W a n cap l) => vWrong_call u a n cap l W hW)
  have D2 := hid (fun W => eWrong_call e he W)
  have D3 := hid (fun W (hW : As W a n cap l) => vGet_call u a n cap l e.s W hW)
  have D4 := hid (fun W => vMay_call (Vw.get l e.s) e W)
  rw [h2] at D2
  rw [h4] at D4
  replace h2 := hid h2
  replace h4 := hid h4
  obtain ⟨s, k, m⟩ := e
  simp only at D3 D4
  obtain ⟨A, hA⟩ : ∃ A, A = Vw.get l s := ⟨_, rfl⟩
  rw [← hA] at D3 D4
  replace hA := hid hA
  obtain ⟨As', Am, Ac, Ao⟩ := A
  obtain ⟨E, hE⟩ : ∃ E, E = Vw.wrongV ⟨u, l⟩ := ⟨_, rfl⟩
  rw [← hE] at h1 D
  clear hE
  obtain ⟨E1, E2⟩ := E
  have h1 : E1 = 0 := h1
  subst h1
  unfold viVal evVal
  unfold viVal fVal' at D
  unfold evVal at D2 D4
  unfold acVal at D3 D4
  unfold viVal at D3
  simp only at D D2 D3 D4 ⊢
  have t0 : (u == 150) = false := beq_eq_false_iff_ne.2 h3
  replace h3 := hid h3
  go_enter Try.func37, Try.ntmps37
  go_wp2_with fail
  go_at_call 36; refine (D.out _ (((h.alloc _).alloc _).alloc _)).mono ?_; rintro e w1 ⟨rfl, b1⟩
  obtain ⟨v1, v2, v3, hs1, hb⟩ := three_blk w _ _ _ w1 b1
  clear b1
  have r0 : (w1.alloc (.cells #[.int .i64 0, .int .i64 E2] 69)).cell? ⟨w.heap.size + 1, 0, none⟩ = some (.string s) := blk_cell (blk_old v2)
  have r1 : (w1.alloc (.cells #[.int .i64 0, .int .i64 E2] 69)).cell? ⟨w.heap.size + 1, 1, none⟩ = some (.int .i64 k) := blk_cell (blk_old v2)
  have r2 : (w1.alloc (.cells #[.int .i64 0, .int .i64 E2] 69)).cell? ⟨w.heap.size + 1, 2, none⟩ = some (.int .i64 m) := blk_cell (blk_old v2)
  go_wp2_with fail
  go_at_call 46; refine (D2.out _).mono ?_; rintro e w2 ⟨rfl, b2⟩
  replace v1 := call_blk v1 b2
  replace v2 := call_blk v2 b2
  replace v3 := call_blk v3 b2
  replace hb := call_below hb b2
  clear b2 r0 r1 r2
  have p0 : w2.cell? ⟨w.heap.size, 0, none⟩ = some (.int .i64 u) := blk_cell v1
  have p1 : w2.cell? ⟨w.heap.size, 1, none⟩ = some (.slice a n cap) := blk_cell v1
  have p2 : w2.cell? ⟨w.heap.size + 1, 0, none⟩ = some (.string s) := blk_cell v2
  go_wp2_with fail
  go_at_call 26; refine (D3.out _ (h.below hb)).mono ?_; rintro e w3 ⟨rfl, b3⟩
  replace v2 := blk_below v2 b3
  replace v3 := blk_below v3 b3
  replace hb := bnext hb b3
  clear b3 p0 p1 p2
  have r0 : (w3.alloc (.cells #[.string As', .int .i64 Am, .int .i64 Ac, .bool Ao] 65)).cell? ⟨w.heap.size + 1, 0, none⟩ = some (.string s) := blk_cell (blk_old v2)
  have r1 : (w3.alloc (.cells #[.string As', .int .i64 Am, .int .i64 Ac, .bool Ao] 65)).cell? ⟨w.heap.size + 1, 1, none⟩ = some (.int .i64 k) := blk_cell (blk_old v2)
  have r2 : (w3.alloc (.cells #[.string As', .int .i64 Am, .int .i64 Ac, .bool Ao] 65)).cell? ⟨w.heap.size + 1, 2, none⟩ = some (.int .i64 m) := blk_cell (blk_old v2)
  go_wp2_with fail
  go_at_call 47; refine (D4.out _).mono ?_; rintro e w4 ⟨rfl, b4⟩
  replace v3 := call_blk v3 b4
  replace hb := call_below hb b4
  clear b4 r0 r1 r2 v2
  have q0 : w4.cell? ⟨w.heap.size + 1 + 1, 0, none⟩ = some (.int .i64 0) := blk_cell v3
  have q1 : w4.cell? ⟨w.heap.size + 1 + 1, 1, none⟩ = some (.slice none 0 0) := blk_cell v3
  have f0 : w4.frozen? ⟨w.heap.size + 1 + 1, 0, none⟩ = false := blk_free v3
  have f1 : w4.frozen? ⟨w.heap.size + 1 + 1, 1, none⟩ = false := blk_free v3
  go_wp2_with fail
  obtain ⟨q0, q1, q2⟩ := res_two hb (by omega) v3 (.int .i64 0) (.slice none 0 0)
  exact bodyPost_ret (v := .tuple #[.agg #[.int .i64 0, .slice none 0 0], .int .i64 8]) (by simp [results, Try.results37, go_sem, q0, q1]) rfl (vans_badO q2)
end Go.Proofs.Ythhcdfjijagalaa
