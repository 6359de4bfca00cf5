/- Joined, and what is not used struck: StoM, Sum, BlockA. -/
import Derived.Test.YthhcdfjijagalaaM10
import Derived.Test.YthhcdfjijagalaaM15
import Derived.Test.YthhcdfjijagalaaM01
import Derived.Test.YthhcdfjijagalaaM06
import Derived.Test.YthhcdfjijagalaaProg
import Derived.WalkSpells
namespace Go.Proofs.Ythhcdfjijagalaa
open Go.RowKit
set_option linter.unusedVariables false
section
variable {α : Type} {f : α → List Value} {k : Nat}
def rows (f : α → List Value) (l : List α) : List Value := l.flatMap f
theorem rows_cons (x : α) (l : List α) : rows f (x :: l) = f x ++ rows f l := by simp [rows]
theorem rows_append (l m : List α) : rows f (l ++ m) = rows f l ++ rows f m := by simp [rows]
theorem rows_length (hf : ∀ x, (f x).length = k) (l : List α) : (rows f l).length = l.length * k := by
  induction l with
  | nil => simp [rows]
  | cons x l ih => rw [rows_cons, List.length_append, ih, hf, List.length_cons, Nat.add_mul]; omega
theorem rows_get (hf : ∀ x, (f x).length = k) (l : List α) : ∀ (i j : Nat) (hi : i < l.length), j < k → (rows f l)[i * k + j]? = (f l[i])[j]? := by
  induction l with
  | nil => intro i j hi; exact absurd hi (by simp)
  | cons x l ih =>
    intro i j hi hj
    rw [rows_cons]
    cases i with
    | zero => rw [Nat.zero_mul, Nat.zero_add, List.getElem?_append_left (by rw [hf]; exact hj)]; rfl
    | succ i =>
      have e : (i + 1) * k + j = k + (i * k + j) := by rw [Nat.add_mul]; omega
      rw [e, List.getElem?_append_right (by rw [hf]; omega), hf, Nat.add_sub_cancel_left]
      exact ih i j (by simpa using hi) hj
theorem rows_set (hf : ∀ x, (f x).length = k) (l : List α) (y : α) (v : Value) (j : Nat) (hj : j < k) : ∀ (i : Nat) (hi : i < l.length), f y = (f l[i]).set j v → (rows f l).set (i * k + j) v = rows f (l.set i y) := by
  induction l with
  | nil => intro i hi; exact absurd hi (by simp)
  | cons x l ih =>
    intro i hi he
    cases i with
    | zero =>
      rw [rows_cons, List.set_cons_zero, rows_cons, Nat.zero_mul, Nat.zero_add, List.set_append_left _ _ (by rw [hf]; exact hj)]
      have he : f y = (f x).set j v := he
      rw [he]
    | succ i =>
      have e : (i + 1) * k + j = k + (i * k + j) := by rw [Nat.add_mul]; omega
      rw [rows_cons, List.set_cons_succ, rows_cons, e, List.set_append_right _ _ (by rw [hf]; omega), hf, Nat.add_sub_cancel_left]
      rw [ih i (by simpa using hi) he]
theorem rows_one (h1 : ∀ x, ∀ u ∈ f x, u.oneCell' = true) (l : List α) : ∀ u ∈ rows f l, u.oneCell' = true := by
  intro u hu
  obtain ⟨x, _, h⟩ := List.mem_flatMap.1 hu
  exact h1 x u h
theorem rows_drop (hf : ∀ x, (f x).length = k) (l : List α) : ∀ i, rows f (l.drop i) = (rows f l).drop (i * k) := by
  induction l with
  | nil => intro i; simp [rows]
  | cons a l ih =>
    intro i
    cases i with
    | zero => simp
    | succ i =>
      rw [List.drop_succ_cons, ih i, rows_cons, List.drop_append, List.drop_of_length_le (l := f a) (by rw [hf, Nat.add_mul]; omega), hf, List.nil_append]
      congr 1
      rw [Nat.add_mul]; omega
theorem rows_take (hf : ∀ x, (f x).length = k) (l : List α) : ∀ i, rows f (l.take i) = (rows f l).take (i * k) := by
  induction l with
  | nil => intro i; simp [rows]
  | cons a l ih =>
    intro i
    cases i with
    | zero => simp [rows]
    | succ i =>
      rw [List.take_succ_cons, rows_cons, rows_cons, ih i, List.take_append, List.take_of_length_le (l := f a) (by rw [hf, Nat.add_mul]; omega), hf]
      congr 2
      rw [Nat.add_mul]; omega
end
/-- a block that a disk holds, as memory has it -/
structure Hm where
  s : Int
  a : Option Addr
  cap : Nat
  b : List UInt8
def Hm.v (h : Hm) : Value := .slice h.a h.b.length h.cap
/-- a disk -/
structure Dm where
  g : Bool
  a : Option Addr
  cap : Nat
  H : List Hm
def Dm.v (d : Dm) : Value := .slice d.a d.H.length d.cap
def Hm.hd (h : Hm) : Sto.Hd := ⟨h.s, h.b⟩
def Dm.dk (d : Dm) : Sto.Dk := ⟨d.g, d.H.map Hm.hd⟩
def hm2 (h : Hm) : List Value := [.int .i64 h.s, h.v]
def dm2 (d : Dm) : List Value := [.bool d.g, d.v]
theorem hm2_one (h : Hm) : ∀ u ∈ hm2 h, u.oneCell' = true := by
  intro u hu
  simp only [hm2, List.mem_cons, List.not_mem_nil, or_false] at hu
  rcases hu with rfl | rfl <;> rfl
theorem hm2_len (h : Hm) : (hm2 h).length = 2 := rfl
theorem dm2_len (d : Dm) : (dm2 d).length = 2 := rfl
/-- the blocks of memory in which what a disk holds lies -/
def Dm.bb (d : Dm) : List Nat := d.H.filterMap fun h => h.v.ownBlock
/-- No two lie in one block. -/
structure Sep (D : List Dm) : Prop where
  own : ∀ x ∈ D, x.bb.Nodup
  held : ∀ (i j : Nat) (x y : Dm) (k : Nat), i ≠ j → D[i]? = some x → D[j]? = some y → x.v.ownBlock = some k → y.v.ownBlock ≠ some k
  bytes : ∀ (i j : Nat) (x y : Dm) (k : Nat), i ≠ j → D[i]? = some x → D[j]? = some y → k ∈ x.bb → k ∉ y.bb
theorem Sep.set {D : List Dm} (h : Sep D) (i : Nat) (x y : Dm) (B : Nat) (hx : D[i]? = some x) (hn : y.bb.Nodup) (hv : y.v.ownBlock = x.v.ownBlock ∨ ∀ k, y.v.ownBlock = some k → B ≤ k) (hb : ∀ k ∈ y.bb, k ∈ x.bb ∨ B ≤ k)
    (hB : ∀ z ∈ D, (∀ k, z.v.ownBlock = some k → k < B) ∧ ∀ k ∈ z.bb, k < B) : Sep (D.set i y) := by
  have hlt := (List.getElem?_eq_some_iff.1 hx).1
  have get : ∀ j z, (D.set i y)[j]? = some z → (j = i ∧ z = y) ∨ (j ≠ i ∧ D[j]? = some z) := by
    intro j z hz
    by_cases e : j = i
    · subst e
      rw [List.getElem?_set_self hlt] at hz
      exact .inl ⟨rfl, (Option.some.inj hz).symm⟩
    · rw [List.getElem?_set_ne (fun e' => e e'.symm)] at hz
      exact .inr ⟨e, hz⟩
  refine ⟨fun z hz => ?_, fun a b z u k hab hz hu hk => ?_, fun a b z u k hab hz hu hk => ?_⟩
  · rcases List.mem_or_eq_of_mem_set hz with h1 | rfl
    · exact h.own z h1
    · exact hn
  · rcases get a z hz with ⟨rfl, rfl⟩ | ⟨ha, hz'⟩ <;> rcases get b u hu with ⟨rfl, rfl⟩ | ⟨hb', hu'⟩
    · exact absurd rfl hab
    · rcases hv with hv | hv
      · rw [hv] at hk; exact h.held a b x u k hab hx hu' hk
      · intro e
        have := (hB u (List.mem_of_getElem? hu')).1 k e
        have := hv k hk
        omega
    · intro e
      rcases hv with hv | hv
      · rw [hv] at e
        exact h.held a b z x k hab hz' hx hk e
      · have := (hB z (List.mem_of_getElem? hz')).1 k hk
        have := hv k e
        omega
    · exact h.held a b z u k hab hz' hu' hk
  · rcases get a z hz with ⟨rfl, rfl⟩ | ⟨ha, hz'⟩ <;> rcases get b u hu with ⟨rfl, rfl⟩ | ⟨hb', hu'⟩
    · exact absurd rfl hab
    · rcases hb k hk with h1 | h1
      · exact h.bytes a b x u k hab hx hu' h1
      · intro e
        have := (hB u (List.mem_of_getElem? hu')).2 k e
        omega
    · intro e
      rcases hb k e with h1 | h1
      · exact h.bytes a b z x k hab hz' hx hk h1
      · have := (hB z (List.mem_of_getElem? hz')).2 k hk
        omega
    · exact h.bytes a b z u k hab hz' hu' hk
/-- in one disk, two lie not in one block -/
theorem bb_ne {H : List Hm} (hn : (H.filterMap fun h => h.v.ownBlock).Nodup) : ∀ {i j : Nat} {a b : Hm} {k : Nat}, H[i]? = some a → H[j]? = some b → i ≠ j → a.v.ownBlock = some k → b.v.ownBlock ≠ some k := by
  induction H with
  | nil => intro i j a b k hi; simp at hi
  | cons x H ih =>
    intro i j a b k hi hj hij ha hb
    have hn' : (H.filterMap fun h => h.v.ownBlock).Nodup := by
      rw [List.filterMap_cons] at hn
      split at hn
      · exact hn
      · exact (List.nodup_cons.1 hn).2
    have hx : ∀ q, x.v.ownBlock = some q → q ∉ H.filterMap fun h => h.v.ownBlock := by
      intro q hq
      rw [List.filterMap_cons, hq] at hn
      exact (List.nodup_cons.1 hn).1
    cases i with
    | zero =>
      cases j with
      | zero => exact hij rfl
      | succ j =>
        simp only [List.getElem?_cons_zero, Option.some.injEq] at hi
        subst hi
        rw [List.getElem?_cons_succ] at hj
        exact hx k ha (List.mem_filterMap.2 ⟨b, List.mem_of_getElem? hj, hb⟩)
    | succ i =>
      rw [List.getElem?_cons_succ] at hi
      cases j with
      | zero =>
        simp only [List.getElem?_cons_zero, Option.some.injEq] at hj
        subst hj
        exact hx k hb (List.mem_filterMap.2 ⟨a, List.mem_of_getElem? hi, ha⟩)
      | succ j =>
        rw [List.getElem?_cons_succ] at hj
        exact ih hn' hi hj (by omega) ha hb
theorem bb_insert {H : List Hm} {y : Hm} {i : Nat} (hn : (H.filterMap fun h => h.v.ownBlock).Nodup) (hy : ∀ k, y.v.ownBlock = some k → k ∉ H.filterMap fun h => h.v.ownBlock) : ((H.take i ++ y :: H.drop i).filterMap fun h => h.v.ownBlock).Nodup := by
  have hp : ((H.take i ++ y :: H.drop i).filterMap fun h => h.v.ownBlock).Perm ((y :: H).filterMap fun h => h.v.ownBlock) := by
    refine List.Perm.filterMap _ ?_
    have : (H.take i ++ y :: H.drop i).Perm (y :: (H.take i ++ H.drop i)) := List.perm_middle
    rwa [List.take_append_drop] at this
  refine (hp.nodup_iff).2 ?_
  rw [List.filterMap_cons]
  split
  · exact hn
  · exact List.nodup_cons.2 ⟨hy _ (by assumption), hn⟩
theorem set_split {α : Type} (H : List α) (i : Nat) (y : α) (hi : i < H.length) : H.set i y = H.take i ++ y :: H.drop (i + 1) := by
  rw [List.set_eq_take_append_cons_drop, if_pos hi]
theorem bb_set {H : List Hm} {y : Hm} {i : Nat} (hn : (H.filterMap fun h => h.v.ownBlock).Nodup) (hi : i < H.length) (hy : ∀ k, y.v.ownBlock = some k → H[i].v.ownBlock = some k ∨ k ∉ H.filterMap fun h => h.v.ownBlock) : ((H.set i y).filterMap fun h => h.v.ownBlock).Nodup := by
  have hs : H = H.take i ++ H[i] :: H.drop (i + 1) := by rw [← List.drop_eq_getElem_cons hi, List.take_append_drop]
  have hp : (H.filterMap fun h => h.v.ownBlock).Perm ((H[i] :: (H.take i ++ H.drop (i + 1))).filterMap fun h => h.v.ownBlock) := by
    refine List.Perm.filterMap _ ?_
    have : (H.take i ++ H[i] :: H.drop (i + 1)).Perm (H[i] :: (H.take i ++ H.drop (i + 1))) := List.perm_middle
    rwa [← hs] at this
  have hn2 := (hp.nodup_iff).1 hn
  have hmem : ∀ k, k ∈ ((H[i] :: (H.take i ++ H.drop (i + 1))).filterMap fun h => h.v.ownBlock) → k ∈ (H.filterMap fun h => h.v.ownBlock) := fun k hk => (hp.mem_iff).2 hk
  rw [set_split H i y hi]
  have hp2 : ((H.take i ++ y :: H.drop (i + 1)).filterMap fun h => h.v.ownBlock).Perm ((y :: (H.take i ++ H.drop (i + 1))).filterMap fun h => h.v.ownBlock) := List.Perm.filterMap _ List.perm_middle
  refine (hp2.nodup_iff).2 ?_
  rw [List.filterMap_cons] at hn2 hmem ⊢
  have hrest : ((H.take i ++ H.drop (i + 1)).filterMap fun h => h.v.ownBlock).Nodup := by
    split at hn2
    · exact hn2
    · exact (List.nodup_cons.1 hn2).2
  split
  · exact hrest
  · next k hk =>
    refine List.nodup_cons.2 ⟨fun hm => ?_, hrest⟩
    rcases hy k hk with h1 | h1
    · rw [h1] at hn2
      exact (List.nodup_cons.1 hn2).1 hm
    · refine h1 (hmem k ?_)
      split
      · exact hm
      · exact List.mem_cons_of_mem _ hm
end Go.Proofs.Ythhcdfjijagalaa
namespace Go.Proofs.Ythhcdfjijagalaa
open Go.RowKit
set_option linter.unusedVariables false
/-- memory's own of a store -/
structure Mst where
  d : Int
  s : Int
  b : Int
  dv : Value
  D : List Dm
  g : Nat
  tv : Value
  T : List Rb
  sv : Value
  seen : List Int
  u : Int
  av : Value
  A : List Vw.Acc
def Mst.st (m : Mst) : Sto.St := ⟨m.d, m.s, m.b, m.D.map Dm.dk, m.g, m.T.map Rb.ba, m.seen, ⟨m.u, m.A⟩⟩
def Mst.box (m : Mst) : Array Value := #[.int .i64 m.d, .int .i64 m.s, .int .i64 m.b, m.dv, .int .i64 (m.g : Int), m.tv, m.sv, .int .i64 m.u, m.av]
/-- what is written in place: the store's box, its disks, what they hold, bytes -/
def keeps (t : TypeId) : Bool := t != 80 && t != 61 && t != 90 && t != 5
/-- Blocks that are never written in place are as they were. -/
structure Kt (w w' : World) : Prop where
  os : w'.os = w.os
  tape : w'.tape = w.tape
  output : w'.output = w.output
  size : w.heap.size ≤ w'.heap.size
  block : ∀ (k : Nat) (cs : Array Value) (t : TypeId), w.heap[k]? = some (.cells cs t (0, 0)) → keeps t = true → w'.heap[k]? = some (.cells cs t (0, 0))
theorem Kt.refl (w : World) : Kt w w := ⟨rfl, rfl, rfl, Nat.le_refl _, fun _ _ _ h _ => h⟩
theorem Kt.trans {a b c : World} (h : Kt a b) (k : Kt b c) : Kt a c := ⟨k.os.trans h.os, k.tape.trans h.tape, k.output.trans h.output, Nat.le_trans h.size k.size, fun i cs t hb ht => k.block i cs t (h.block i cs t hb ht) ht⟩
theorem Kt.below {a b : World} (h : Below a.heap.size a b) : Kt a b := ⟨h.os, h.tape, h.output, h.size, fun k cs t hb _ => blk_below hb h⟩
theorem Kt.only {a b : World} {S : List Nat} (h : Only a b S) (hS : ∀ k ∈ S, ∀ (cs : Array Value) (t : TypeId), a.heap[k]? = some (.cells cs t (0, 0)) → keeps t = false) : Kt a b :=
  ⟨h.os, h.tape, h.output, h.size, fun k cs t hb ht => h.blk hb (fun hm => by rw [hS k hm cs t hb] at ht; cases ht)⟩
theorem Kt.own {w w' : World} (h : Kt w w') {base : Nat} {e : TypeId} {sz : Nat} {v : Value} {n : Nat} {xs : List Value} (ho : w.ownsRow base e sz v n xs) (he : keeps e = true) : w'.ownsRow base e sz v n xs := by
  refine ⟨ho.1, ?_⟩
  rcases ho.2 with h2 | ⟨g, cap, cur, hv, hg, hh, r⟩
  · exact .inl h2
  · exact .inr ⟨g, cap, cur, hv, hg, h.block g cur e hh he, r⟩
structure StR (w : World) (base p : Nat) (m : Mst) : Prop where
  box : w.heap[p]? = some (.cells m.box 80 (0, 0))
  le : base ≤ p
  dks : w.ownsRow base 61 2 m.dv m.D.length (rows dm2 m.D)
  held : ∀ x ∈ m.D, w.ownsRow base 90 2 x.v x.H.length (rows hm2 x.H)
  bytes : ∀ x ∈ m.D, ∀ h ∈ x.H, w.ownsRow base 5 1 h.v h.b.length (cb h.b)
  sep : Sep m.D
  tail : w.ownsRow base 27 2 m.tv m.T.length (rbCells m.T)
  evs : ∀ r ∈ m.T, w.ownsRow base 32 3 (.slice r.a r.n r.cap) r.n (evCells r.evs) ∧ ∀ e ∈ r.evs, e.s.size ≤ maxLen
  seen : w.ownsRow base 3 1 m.sv m.seen.length (m.seen.map (Value.int .i64))
  accs : w.ownsRow base 65 4 m.av m.A.length (acCells m.A)
  aok : ∀ e ∈ m.A, e.s.size ≤ maxLen
section
variable {w w' : World} {base p : Nat} {m : Mst}
theorem StR.below (h : StR w base p m) (hb : Below w.heap.size w w') : StR w' base p m :=
  ⟨blk_below h.box hb, h.le, own_below h.dks hb, fun x hx => own_below (h.held x hx) hb, fun x hx y hy => own_below (h.bytes x hx y hy) hb, h.sep, own_below h.tail hb, fun r hr => ⟨own_below (h.evs r hr).1 hb, (h.evs r hr).2⟩, own_below h.seen hb, own_below h.accs hb, h.aok⟩
theorem StR.alloc (h : StR w base p m) (o : Obj) : StR (w.alloc o) base p m := h.below ((Below.refl _ _).alloc (Nat.le_refl _) o)
theorem StR.lt (h : StR w base p m) : p < w.heap.size := blk_lt h.box
theorem StR.bLt (h : StR w base p m) : ∀ z ∈ m.D, (∀ k, z.v.ownBlock = some k → k < w.heap.size) ∧ ∀ k ∈ z.bb, k < w.heap.size := fun z hz =>
  ⟨fun k hk => ((h.held z hz).lt k hk).2, fun k hk => by
    obtain ⟨y, hy, hk⟩ := List.mem_filterMap.1 hk
    exact ((h.bytes z hz y hy).lt k hk).2⟩
theorem own_kind {e : TypeId} {sz n : Nat} {v : Value} {xs : List Value} (h : w.ownsRow base e sz v n xs) {k : Nat} (hk : v.ownBlock = some k) : ∃ cs, w.heap[k]? = some (Obj.cells cs e (0, 0)) := by
  rcases h.2 with ⟨rfl, _⟩ | ⟨g, cap, cur, rfl, _, hg, _⟩
  · simp [Value.ownBlock] at hk
  · have : g = k := by simpa [Value.ownBlock] using hk
    subst this
    exact ⟨cur, hg⟩
/-- rows of different types lie in different blocks -/
theorem own_part {e e' : TypeId} {sz sz' n n' base' : Nat} {v v' : Value} {xs xs' : List Value} (h : w.ownsRow base e sz v n xs) (h' : w.ownsRow base' e' sz' v' n' xs') (hne : e ≠ e') {k : Nat} (hk : v.ownBlock = some k) : v'.ownBlock ≠ some k := fun hk' => by
  obtain ⟨cs, h1⟩ := own_kind h hk
  obtain ⟨cs', h2⟩ := own_kind h' hk'
  exact heap_ne h1 h2 hne rfl
theorem StR.pOwn (h : StR w base p m) {e : TypeId} {sz n base' : Nat} {v : Value} {xs : List Value} (ho : w.ownsRow base' e sz v n xs) (hne : e ≠ 80) : v.ownBlock ≠ some p := own_blk_ne ho h.box hne
/-- a cell of the box is set -/
theorem StR.setBox (h : StR w base p m) (i : Nat) (v : Value) (m' : Mst) (hbox : m'.box = m.box.setIfInBounds i v) (hD : m'.D = m.D) (hdv : m'.dv = m.dv)
    (tail : w.ownsRow base 27 2 m'.tv m'.T.length (rbCells m'.T)) (evs : ∀ r ∈ m'.T, w.ownsRow base 32 3 (.slice r.a r.n r.cap) r.n (evCells r.evs) ∧ ∀ e ∈ r.evs, e.s.size ≤ maxLen)
    (seen : w.ownsRow base 3 1 m'.sv m'.seen.length (m'.seen.map (Value.int .i64))) (accs : w.ownsRow base 65 4 m'.av m'.A.length (acCells m'.A)) (aok : ∀ e ∈ m'.A, e.s.size ≤ maxLen) : StR (w.setCell ⟨p, i, none⟩ v) base p m' := by
  have hp : ∀ {e : TypeId} {sz n base' : Nat} {u : Value} {xs : List Value}, w.ownsRow base' e sz u n xs → e ≠ 80 → (w.setCell ⟨p, i, none⟩ v).ownsRow base' e sz u n xs := fun ho hne => ownsRow_setCell_other ho (h.pOwn ho hne) v
  refine ⟨by rw [hbox]; exact blk_set h.box v, h.le, ?_, ?_, ?_, by rw [hD]; exact h.sep, hp tail (by decide), fun r hr => ⟨hp (evs r hr).1 (by decide), (evs r hr).2⟩, hp seen (by decide), hp accs (by decide), aok⟩
  · rw [hD, hdv]; exact hp h.dks (by decide)
  · rw [hD]; exact fun x hx => hp (h.held x hx) (by decide)
  · rw [hD]; exact fun x hx y hy => hp (h.bytes x hx y hy) (by decide)
theorem Kt.setBox (h : StR w base p m) (i : Nat) (v : Value) : Kt w (w.setCell ⟨p, i, none⟩ v) :=
  Kt.only ((Only.refl w [p]).setCell (.inl (by simp)) v) (fun k hk cs t hb => by
    obtain rfl : k = p := by simpa using hk
    rw [h.box] at hb
    injection hb with hb
    injection hb with _ ht
    rw [← ht]; rfl)
/-- a disk is another one -/
theorem StR.disk (h : StR w base p m) (i : Nat) (x y : Dm) (S : List Nat) (hx : m.D[i]? = some x) (ho : Only w w' S)
    (hS : ∀ k ∈ S, m.dv.ownBlock = some k ∨ x.v.ownBlock = some k ∨ k ∈ x.bb)
    (dks : w'.ownsRow base 61 2 m.dv m.D.length (rows dm2 (m.D.set i y))) (held : w'.ownsRow base 90 2 y.v y.H.length (rows hm2 y.H)) (bytes : ∀ z ∈ y.H, w'.ownsRow base 5 1 z.v z.b.length (cb z.b))
    (hn : y.bb.Nodup) (hv : y.v.ownBlock = x.v.ownBlock ∨ ∀ k, y.v.ownBlock = some k → w.heap.size ≤ k) (hb : ∀ k ∈ y.bb, k ∈ x.bb ∨ w.heap.size ≤ k) : StR w' base p { m with D := m.D.set i y } ∧ Kt w w' := by
  have hlt := (List.getElem?_eq_some_iff.1 hx).1
  have hxm := List.mem_of_getElem? hx
  have hkind : ∀ k ∈ S, ∃ cs t, w.heap[k]? = some (.cells cs t (0, 0)) ∧ (t = 61 ∨ t = 90 ∨ t = 5) := by
    intro k hk
    rcases hS k hk with h1 | h1 | h1
    · obtain ⟨cs, hc⟩ := own_kind h.dks h1; exact ⟨cs, _, hc, .inl rfl⟩
    · obtain ⟨cs, hc⟩ := own_kind (h.held x hxm) h1; exact ⟨cs, _, hc, .inr (.inl rfl)⟩
    · obtain ⟨z, hz, hk⟩ := List.mem_filterMap.1 h1
      obtain ⟨cs, hc⟩ := own_kind (h.bytes x hxm z hz) hk
      exact ⟨cs, _, hc, .inr (.inr rfl)⟩
  have hkt : Kt w w' := Kt.only ho (fun k hk cs t hb => by
    obtain ⟨cs', t', h1, h2⟩ := hkind k hk
    rw [hb] at h1
    injection h1 with h1
    injection h1 with _ ht
    subst ht
    rcases h2 with rfl | rfl | rfl <;> decide)
  have hother : ∀ z ∈ m.D.set i y, z = y ∨ ∃ j, j ≠ i ∧ m.D[j]? = some z := by
    intro z hz
    obtain ⟨j, hj⟩ := List.getElem?_of_mem hz
    by_cases e : j = i
    · subst e
      rw [List.getElem?_set_self hlt] at hj
      exact .inl (Option.some.inj hj).symm
    · rw [List.getElem?_set_ne (fun e' => e e'.symm)] at hj
      exact .inr ⟨j, e, hj⟩
  refine ⟨⟨?_, h.le, ?_, ?_, ?_, ?_, hkt.own h.tail (by decide), fun r hr => ⟨hkt.own (h.evs r hr).1 (by decide), (h.evs r hr).2⟩, hkt.own h.seen (by decide), hkt.own h.accs (by decide), h.aok⟩, hkt⟩
  · refine ho.blk h.box (fun hm => ?_)
    obtain ⟨cs', t', h1, h2⟩ := hkind p hm
    rw [h.box] at h1
    injection h1 with h1
    injection h1 with _ ht
    subst ht
    rcases h2 with h2 | h2 | h2 <;> exact absurd h2 (by decide)
  · show w'.ownsRow base 61 2 m.dv (m.D.set i y).length _
    rw [List.length_set]; exact dks
  · intro z hz
    rcases hother z hz with rfl | ⟨j, hj, hz⟩
    · exact held
    · have hzm := List.mem_of_getElem? hz
      refine ho.own (h.held z hzm) (fun k hk e => ?_)
      rcases hS k hk with h1 | h1 | h1
      · exact own_part h.dks (h.held z hzm) (by decide) h1 e
      · exact h.sep.held i j x z k (fun e => hj e.symm) hx hz h1 e
      · obtain ⟨q, hq, hk⟩ := List.mem_filterMap.1 h1
        exact own_part (h.bytes x hxm q hq) (h.held z hzm) (by decide) hk e
  · intro z hz q hq
    rcases hother z hz with rfl | ⟨j, hj, hz⟩
    · exact bytes q hq
    · have hzm := List.mem_of_getElem? hz
      refine ho.own (h.bytes z hzm q hq) (fun k hk e => ?_)
      rcases hS k hk with h1 | h1 | h1
      · exact own_part h.dks (h.bytes z hzm q hq) (by decide) h1 e
      · exact own_part (h.held x hxm) (h.bytes z hzm q hq) (by decide) h1 e
      · exact h.sep.bytes i j x z k (fun e => hj e.symm) hx hz h1 (List.mem_filterMap.2 ⟨q, hq, e⟩)
  · exact h.sep.set i x y w.heap.size hx hn hv hb h.bLt
end
end Go.Proofs.Ythhcdfjijagalaa
namespace Go.Proofs.Ythhcdfjijagalaa
open Go.RowKit
set_option linter.unusedVariables false
/-- j bits -/
def ones : Nat → Nat → Nat
  | 0, c => c
  | j + 1, c => Crc.one (ones j c)
theorem and1_or (n : Nat) : n &&& 1 = 0 ∨ n &&& 1 = 1 := by rw [Nat.and_one_is_mod]; omega
theorem ones_lt (c : Nat) (h : c < 2 ^ 32) : ∀ j, ones j c < 2 ^ 32
  | 0 => h
  | j + 1 => Crc.one_lt _ (ones_lt c h j)
theorem at8_take (l : List UInt8) (k : Nat) (h : k < l.length) (c : Nat) : Crc.run (l.take (k + 1)) c = Crc.step (Crc.run (l.take k) c) (at8 l k) := by
  unfold Crc.run
  rw [List.take_succ_eq_append_getElem h, List.foldl_append]
  simp [at8, List.getD, h]
theorem half (e : Nat) : (e : Int) / (2 : Int) = ((e >>> 1 : Nat) : Int) := by rw [Nat.shiftRight_eq_div_pow]; simp
theorem u32_poly (e : Nat) (h : e < 2 ^ 32) : bits .xor .u32 ((e : Int) / (2 : Int)) 2197175160 = ((e >>> 1 ^^^ 2197175160 : Nat) : Int) := by
  rw [half]
  have hs32 : e >>> 1 < 4294967296 := by rw [Nat.shiftRight_eq_div_pow]; omega
  exact u32_xor_nat (e >>> 1) 2197175160 hs32 (by decide)
theorem u32_not (c : Nat) (h : c < 2 ^ 32) : bits .xor .u32 IntKind.u32.max (c : Int) = ((c ^^^ 4294967295 : Nat) : Int) := by
  rw [Nat.xor_comm]; exact u32_xor_nat 4294967295 c (by decide) h
set_option maxRecDepth 100000 in
set_option maxHeartbeats 1000000 in
theorem Sum_call (a : Option Addr) (n cap : Nat) (l : List UInt8) (w : World) (h : Bt w a n cap l) :
    Calls Try.prog 103 #[.slice a n cap] w (Same (.int .u32 (Crc.sum l)) w) := by
  have hn := Bt.n h
  have hmax := h.max
  have hle := h.le
  unfold maxLen at hmax
  have HN := hid hn
  clear hn
  go_enter Try.func103, Try.ntmps103
  go_wp2
  go_loopg [3, 8] n (fun g c i wr => w = wr ∧ ∃ k : Nat, g = n - k ∧ k ≤ n ∧ i = .int .i64 k ∧ c = .int .u32 (Crc.run (l.take k) 4294967295 : Nat))
  case atStart => exact ⟨rfl, 0, rfl, by omega, rfl, rfl⟩
  case round =>
    obtain ⟨rfl, k, rfl, hk, rfl, rfl⟩ := hrel
    by_cases hlt : k < n
    · obtain ⟨b, off, rfl, _⟩ := h.addr (by omega)
      have hc := Bt.at h k hlt
      have h8 := at8_lt l k
      have HR := hid (Crc.run_lt (l.take k) 4294967295 (by decide))
      have hx := u32_xor_nat (Crc.run (l.take k) 4294967295) (at8 l k) HR.out (by omega)
      have hd : Crc.run (l.take k) 4294967295 ^^^ at8 l k < 2 ^ 32 := Nat.xor_lt_two_pow HR.out (by omega)
      have HS := hid (at8_take l k (by rw [HN.out]; exact hlt) 4294967295)
      generalize hD : Crc.run (l.take k) 4294967295 ^^^ at8 l k = d at *
      have HD := hid hD
      clear hD
      go_wp2
      go_loopg [3, 16] 8 (fun g c i wr => w = wr ∧ ∃ j : Nat, g = 8 - j ∧ j ≤ 8 ∧ i = .int .i64 j ∧ c = .int .u32 (ones j d : Nat))
      case atStart => exact ⟨rfl, 0, rfl, by omega, rfl, rfl⟩
      case round =>
        obtain ⟨rfl, j, rfl, hj, rfl, rfl⟩ := hrel
        by_cases hj8 : j < 8
        · have ho := ones_lt d hd j
          have hb : bits .and .u32 ((ones j d : Nat) : Int) 1 = ((ones j d &&& 1 : Nat) : Int) := u32_and_nat (ones j d) 1 ho (by decide)
          have HO := hid (show ones (j + 1) d = if ones j d &&& 1 = 1 then (ones j d >>> 1) ^^^ 2197175160 else ones j d >>> 1 from rfl)
          generalize ones j d = e at *
          rcases and1_or e with h1 | h1
          all_goals
            rw [h1] at hb
            have H1 := hid h1
            clear h1
            go_wp2
            go_roundg (8 - (j + 1))
            case measure => omega
          case rel => exact ⟨rfl, j + 1, rfl, by omega, by go_num, by rw [HO.out, H1.out, half]; rfl⟩
          case rel => exact ⟨rfl, j + 1, rfl, by omega, by go_num, by rw [HO.out, H1.out, u32_poly e ho]; rfl⟩
        · obtain rfl : j = 8 := by omega
          go_wp2
          go_roundg (n - (k + 1))
          case measure => omega
          case rel =>
            refine ⟨rfl, k + 1, rfl, by omega, by go_num, ?_⟩
            rw [HS.out, ← HD.out]; rfl
    · obtain rfl : k = n := by omega
      have HT := hid (show l.take k = l by rw [← HN.out]; exact List.take_length)
      rw [HT.out]
      go_wp2
      go_ret
      exact ⟨by rw [u32_not _ (Crc.run_lt l 4294967295 (by decide))]; rfl, rfl⟩
end Go.Proofs.Ythhcdfjijagalaa
namespace Go.Proofs.Ythhcdfjijagalaa
open Go.RowKit
set_option linter.unusedVariables false
set_option maxHeartbeats 1000000 in
theorem bWrong_call (g s z : Int) (a : Option Addr) (n cap : Nat) (hn : n ≤ cap) (hc : cap ≤ maxLen) (w : World) :
    Calls Try.prog 102 #[.agg #[.int .i64 g, .int .i64 s, .int .i64 z, .slice a n cap]] w (Grew (.int .i64 (Blk.wrong g s z n)) w) := by
  unfold maxLen at hc
  go_enter Try.func102, Try.ntmps102
  go_wp2
  all_goals go_ret
  all_goals refine ⟨ret_int ?_, (Below.refl _ _).alloc (Nat.le_refl _) _⟩
  all_goals unfold Blk.wrong
  all_goals first
    | rw [if_pos (by omega)]
    | (rw [if_neg (by omega)]; rw [if_pos (by omega)])
    | (rw [if_neg (by omega)]; rw [if_neg (by omega)])
set_option maxHeartbeats 1000000 in
theorem bBytes_call (g s z : Int) (a : Option Addr) (n cap : Nat) (l : List UInt8) (w : World) (h : Bt w a n cap l) :
    Calls Try.prog 90 #[.agg #[.int .i64 g, .int .i64 s, .int .i64 z, .slice a n cap]] w (BRes (if Blk.wrong g s z n = 0 then Blk.bytes g.toNat s.toNat z.toNat l else []) (Blk.wrong g s z n) w) := by
  have hle := h.le
  have hmax := h.max
  have hW := bWrong_call g s z a n cap hle hmax
  unfold maxLen at hmax
  by_cases hz : Blk.wrong g s z n = 0
  · have HZ := hid hz
    rw [if_pos hz]
    rw [hz] at hW
    obtain ⟨hw1, hw2⟩ := Blk.wrong_zero hz
    clear hz
    obtain ⟨g, rfl⟩ := Int.eq_ofNat_of_zero_le (a := g) (by omega)
    obtain ⟨s, rfl⟩ := Int.eq_ofNat_of_zero_le (a := s) (by omega)
    obtain ⟨z, rfl⟩ := Int.eq_ofNat_of_zero_le (a := z) (by omega)
    have HW := hid hW
    clear hW
    have HN := hid (Bt.n h)
    go_enter Try.func90, Try.ntmps90
    go_wp2_with (first | (go_at_call 102; refine (HW.out _).mono ?_; rintro e w1 ⟨rfl, hb⟩; have c0 : w1.cell? ⟨w.heap.size, 0, none⟩ = some (.int .i64 g) := box_cell hb 0; have c1 : w1.cell? ⟨w.heap.size, 1, none⟩ = some (.int .i64 s) := box_cell hb 1; have c2 : w1.cell? ⟨w.heap.size, 2, none⟩ = some (.int .i64 z) := box_cell hb 2; have c3 : w1.cell? ⟨w.heap.size, 3, none⟩ = some (.slice a n cap) := box_cell hb 3; have hb1 := box_below hb; have s1 := box_size hb; clear hb; have h1 := h.below hb1) | (at_builtin; (refine wpList_append_bytes rfl (.tmp 34) (.tmp 36) rfl w.heap.size (.slice (some ⟨w1.heap.size, 0, none⟩) 7 7) (Blk.hdr g s z n) l rfl (own_lit w1 w.heap.size (by omega) _ (Blk.hdr g s z n) (Blk.hdr_fits g s z n) (cb_ints _ (Blk.hdr_cells g s z n (by omega) (by omega) (by omega) (by omega))).symm) a n cap rfl (h1.alloc _) ?c1 ?c2 ?_); (case c1 => rw [Blk.hdr_length, HN.out]; omega); (case c2 => simp; omega); intro v1 w2 ho1 hg1; (obtain ⟨B, hB⟩ : ∃ B, Blk.hdr g s z n ++ l = B := ⟨_, rfl⟩); (have hBl : B.length ≤ 407 := by rw [← hB, List.length_append, Blk.hdr_length, HN.out]; omega); rw [hB] at ho1; have HB := hid hB; clear hB) | (go_at_call 103; obtain ⟨a1, cp1, rfl, hs1⟩ := own_sl ho1; refine (Sum_call _ _ _ _ _ hs1).mono ?_; rintro e w3 ⟨rfl, rfl⟩) | (at_builtin; (refine wpList_append_bytes rfl (.tmp 40) (.tmp 52) rfl w.heap.size (.slice a1 B.length cp1) B (Blk.le4 (Crc.sum B)) rfl (ho1.alloc _) (some ⟨w2.heap.size, 0, none⟩) 4 4 rfl (lit_bt w2 _ (Blk.le4 (Crc.sum B)) (Blk.le4_fits _) (cb_ints _ (Blk.le4_cells _ (Crc.sum_lt _))).symm) ?d1 ?d2 ?_); (case d1 => rw [Blk.le4_length]; omega); (case d2 => have := hg1.size; simp at this ⊢; omega); intro v2 w4 ho2 hg2))
    go_ret2
    have b1 : Below w.heap.size w w2 := below_grown1 (hb1.alloc hb1.size _) (by have := hb1.size; simp; omega) hg1 hb1.size
    refine ⟨v2, by rw [HZ.out]; rfl, below_grown (ho1.alloc _) (b1.alloc b1.size _) (by have := b1.size; simp; omega) hg2, ?_⟩
    rw [Int.toNat_natCast, Int.toNat_natCast, Int.toNat_natCast, Blk.bytes_of g s z n l B HN.out HB.out]
    exact ho2
  · rw [if_neg hz]
    have hz0 : (Blk.wrong g s z n != 0) = true := by rw [bne_iff_ne]; exact hz
    generalize Blk.wrong g s z n = e at *
    clear hz
    have HW := hid hW
    clear hW
    go_enter Try.func90, Try.ntmps90
    go_wp2_with (go_at_call 102; refine (HW.out _).mono ?_; rintro e w1 ⟨rfl, hb⟩)
    go_ret2
    exact ⟨_, rfl, box_below hb, World.ownsRow_nil _ _ _ _⟩
end Go.Proofs.Ythhcdfjijagalaa
