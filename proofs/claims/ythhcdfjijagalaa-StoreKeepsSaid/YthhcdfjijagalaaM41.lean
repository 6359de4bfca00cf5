/- Joined, and what is not used struck: SpU. -/
import Derived.Test.YthhcdfjijagalaaM38
import Derived.Maps.RangeWalk
namespace Go.Proofs.Ythhcdfjijagalaa
open Go.RowKit Go.Maps
set_option linter.unusedVariables false
set_option linter.unusedSimpArgs false
set_option linter.unusedSectionVars false
set_option maxRecDepth 100000
theorem intK : Keyed Try.prog 3 := int_keyed Try.underlying3
/-- block b is a set: the numbers of U, each once -/
structure HU (w : World) (b n : Nat) (U : List Int) (D : DataW Unit) : Prop where
  hg : Hg 3 mkI w b n (fun u => decide (u ∈ U)) D
  has : ∀ u l, keyOf Try.prog 3 (mkI u) = some l → Go.Maps.has D l = decide (u ∈ U)
  size : Go.Maps.size D = U.length
section
variable {w w' : World} {b n n' : Nat} {U V : List Int} {D : DataW Unit}
theorem HU.start (w : World) : HU (w.alloc (.map #[] 0)) w.heap.size 0 [] (.map []) := ⟨(Hg.start w).congr (fun u => by simp), fun u l _ => by simp [has_eq], rfl⟩
theorem HU.put (h : HU w b n U D) {u : Int} {l : Lit} (hk : keyOf Try.prog 3 (mkI u) = some l) (ho : w'.ownsMap Try.prog 3 (plainElem (H := Unit) Try.prog 4) b n' (D.put l (.lit (.bool true)))) :
    HU w' b n' (if u ∈ U then U else U ++ [u]) (D.put l (.lit (.bool true))) := by
  refine ⟨(h.hg.put intK mkI_inj hk ho).congr (fun v => ?_), fun v l' hl' => ?_, ?_⟩
  · by_cases e : v = u
    · subst e
      rw [if_pos rfl]
      by_cases hm : v ∈ U <;> simp [hm]
    · rw [if_neg e]
      by_cases hm : u ∈ U <;> simp [hm, e]
  · by_cases e : v = u
    · subst e
      rw [hk] at hl'
      injection hl' with hl'
      subst hl'
      rw [has_put_same h.hg.own.isMap (intK.key hk)]
      by_cases hm : v ∈ U <;> simp [hm]
    · have hne : l' ≠ l := fun e2 => by
        subst e2
        exact e (mkI_inj _ _ (intK.inj hl' hk))
      rw [has_put_other hne, h.has v l' hl']
      by_cases hm : u ∈ U <;> simp [hm, e]
  · rw [size_put (h.hg.own.tidy intK), h.has u l hk, h.size]
    by_cases e : u ∈ U <;> simp [e]
theorem HU.kept {q : Option Nat} (h : HU w b n U D) (hg : w.grownBy w' q) (hq : some b ≠ q) : HU w' b n U D := ⟨h.hg.kept hg hq, h.has, h.size⟩
theorem HU.below (h : HU w b n U D) (hb : Below w.heap.size w w') : HU w' b n U D := ⟨h.hg.below hb, h.has, h.size⟩
theorem HU.alloc (h : HU w b n U D) (o : Obj) : HU (w.alloc o) b n U D := ⟨h.hg.alloc o, h.has, h.size⟩
theorem HU.lt (h : HU w b n U D) : b < w.heap.size := h.hg.own.lt
theorem HU.congr (h : HU w b n V D) (hV : V.Nodup) (hU : U.Nodup) (e : ∀ u, u ∈ V ↔ u ∈ U) : HU w b n U D :=
  ⟨h.hg.congr (fun u => by simp [e u]), fun u l hl => by rw [h.has u l hl]; simp [e u], by rw [h.size]; exact List.Perm.length_eq ((List.perm_ext_iff_of_nodup hV hU).2 e)⟩
end
theorem wpList_len_hu {w : World} {ops : Array Oper} {rest : List Oper} {o : Oper} {a : Act} {Q : Exit → Act → World → Prop} (hg : o.guard = none) (m : Operand)
    (hop : o.op = Op.call { callee := Callee.builtin Builtin.len, args := #[m], argTypes := #[58] }) {b n q : Nat} {U : List Int} {D : DataW Unit} (hm : a.eval m = .map (some b)) (h : HU w b n U D) (hq : U.length = q)
    (hK : wpList Try.prog ops Q rest (a.put o.dst (.int .i64 (q : Int))) w) : wpList Try.prog ops Q (o :: rest) a w :=
  wpList_len_own w hg m 58 hop 3 4 Try.underlying58 (plainElem (H := Unit) Try.prog 4) b n D hm h.hg.own (by rw [h.size, hq]; exact hK)
/-- what has come of a set's own set of those that are gone, so far -/
structure Sofar (U V : List Int) (G : Int → Bool) (left : Lit → Bool) : Prop where
  nd : V.Nodup
  mem : ∀ u, u ∈ V ↔ u ∈ U ∧ G u = true ∧ left (.int .i64 u) = false
theorem Sofar.start {w : World} {b n : Nat} {U : List Int} {D : DataW Unit} {G : Int → Bool} (h : HU w b n U D) (hU : ∀ u ∈ U, -9223372036854775808 ≤ u ∧ u ≤ 9223372036854775807) : Sofar U [] G (Go.Maps.has D) :=
  ⟨List.nodup_nil, fun u => by
    constructor
    · intro h; cases h
    · rintro ⟨h1, _, h3⟩
      rw [h.has u _ (key_int (hU u h1)), decide_eq_true h1] at h3
      cases h3⟩
theorem sameKey_int (u x : Int) : Lit.sameKey (.int .i64 u) (.int .i64 x) = decide (u = x) := by
  by_cases e : u = x
  · subst e
    rw [decide_eq_true rfl]; exact WideAt.sameKey_self trivial
  · rw [decide_eq_false e]
    exact sameKey_ne (fun e2 => e (by injection e2))
theorem Sofar.next {U V : List Int} {G : Int → Bool} {left : Lit → Bool} (h : Sofar U V G left) {x : Int} (hx : x ∈ U) (hl : left (.int .i64 x) = true) :
    (G x = true → x ∉ V ∧ Sofar U (V ++ [x]) G (fun z => left z && !z.sameKey (.int .i64 x))) ∧ (G x = false → Sofar U V G (fun z => left z && !z.sameKey (.int .i64 x))) := by
  have hn : x ∉ V := fun hm => by
    have := ((h.mem x).1 hm).2.2
    rw [hl] at this; cases this
  refine ⟨fun hg => ⟨hn, ⟨?_, fun u => ?_⟩⟩, fun hg => ⟨h.nd, fun u => ?_⟩⟩
  · rw [List.nodup_append]
    refine ⟨h.nd, List.nodup_cons.2 ⟨(by simp), List.nodup_nil⟩, fun a ha b hb => ?_⟩
    obtain rfl := List.mem_singleton.1 hb
    exact fun e => hn (e ▸ ha)
  · rw [List.mem_append, List.mem_singleton, h.mem u, sameKey_int]
    by_cases e : u = x
    · subst e; simp [hx, hg]
    · simp [e]
  · rw [h.mem u, sameKey_int]
    by_cases e : u = x
    · subst e; simp [hg]
    · simp [e]
theorem Sofar.done {U V : List Int} {G : Int → Bool} {left : Lit → Bool} (h : Sofar U V G left) (h0 : ∀ l, left l = false) (u : Int) : u ∈ V ↔ u ∈ U.filter G := by
  rw [h.mem u, List.mem_filter]; simp [h0]
/-! ### what is counted fits -/
theorem Sto.keepTo_in (l : List Sto.Do) (a : List Sto.An) (hF : ∀ d ∈ l, Fits d) : ∀ k, (∀ u ∈ (Sto.keepTo l a k).1, -9223372036854775808 ≤ u ∧ u ≤ 9223372036854775807) ∧ (Sto.keepTo l a k).1.Nodup
  | 0 => ⟨(fun u hu => by cases hu), List.nodup_nil⟩
  | k + 1 => by
    have ih := Sto.keepTo_in l a hF k
    cases h1 : l[k]? with
    | none =>
      have : Sto.keepTo l a (k + 1) = Sto.keepTo l a k := by
        show (match l[k]?, a[k]? with
          | .some d, .some x => Sto.keepN (Sto.keepTo l a k) d x.err
          | _, _ => Sto.keepTo l a k) = _
        rw [h1]
      rw [this]; exact ih
    | some d =>
      cases h2 : a[k]? with
      | none =>
        have : Sto.keepTo l a (k + 1) = Sto.keepTo l a k := by
          show (match l[k]?, a[k]? with
            | .some d, .some x => Sto.keepN (Sto.keepTo l a k) d x.err
            | _, _ => Sto.keepTo l a k) = _
          rw [h1, h2]
        rw [this]; exact ih
      | some x =>
        rw [Sto.keepTo_succ h1 h2]
        have hd := hF d (List.mem_of_getElem? h1)
        refine ⟨fun u hu => ?_, Sto.keepN_len ih.2⟩
        unfold Sto.keepN at hu
        split at hu
        · split at hu
          · have hu : u ∈ (if d.n ∈ (Sto.keepTo l a k).1 then (Sto.keepTo l a k).1 else (Sto.keepTo l a k).1 ++ [d.n]) := hu
            split at hu
            · exact ih.1 u hu
            · rcases List.mem_append.1 hu with hu | hu
              · exact ih.1 u hu
              · obtain rfl := List.mem_singleton.1 hu
                exact hd.n
          · exact ih.1 u hu
        · split at hu
          · exact ih.1 u (List.mem_filter.1 hu).1
          · exact ih.1 u hu
end Go.Proofs.Ythhcdfjijagalaa
