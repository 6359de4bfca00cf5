/- How memory reads: slices that are only read ('Sl'), rows that the call owns ('ownsRow' of the library), and appending to such a row whatever may be appended. -/
import Derived.Test.YtjdgfijpmljhiaaProg
import Derived.Test.YtjdgfijpmljhiaaKit
import Derived.Deep.AppendSrc
namespace Go.Proofs.Ytjdgfijpmljhiaa
open Go.RowKit
set_option linter.unusedVariables false

theorem add_off (b off j : Nat) : (⟨b, off, none⟩ : Addr).add j = ⟨b, off + j, none⟩ := by
  unfold Addr.add; split
  · simp_all
  · rfl

/-- The slice (a, n, cap) has n elements of sz cells each: the cells cs. -/
structure Sl (w : World) (sz : Nat) (a : Option Addr) (n cap : Nat) (cs : List Value) : Prop where
  le : n ≤ cap
  max : cap ≤ maxLen
  len : cs.length = n * sz
  nil : a = none → cap = 0
  addr : 0 < n → ∃ b off, a = some ⟨b, off, none⟩ ∧ ∀ j u, cs[j]? = some u → w.cell? ⟨b, off + j, none⟩ = some u

theorem Sl.below {w w' : World} {sz : Nat} {a : Option Addr} {n cap : Nat} {cs : List Value} (h : Sl w sz a n cap cs) (hb : Below w.heap.size w w') : Sl w' sz a n cap cs :=
  ⟨h.le, h.max, h.len, h.nil, fun hn => by
    obtain ⟨b, off, e, hc⟩ := h.addr hn
    exact ⟨b, off, e, fun j u hj => by
      have := hc j u hj
      have hlt := World.block_lt_of_cell? _ _ this
      exact (hb.cell (p := ⟨b, off + j, none⟩) hlt).trans this⟩⟩
theorem Sl.drewN {w : World} {sz : Nat} {a : Option Addr} {n cap : Nat} {cs : List Value} (h : Sl w sz a n cap cs) (k : Nat) : Sl (w.drewN k) sz a n cap cs := h.below ⟨rfl, rfl, rfl, Nat.le_refl _, fun _ _ => rfl⟩
theorem Sl.alloc {w : World} {sz : Nat} {a : Option Addr} {n cap : Nat} {cs : List Value} (h : Sl w sz a n cap cs) (o : Obj) : Sl (w.alloc o) sz a n cap cs := h.below ((Below.refl _ _).alloc (Nat.le_refl _) _)
theorem Sl.lt {w : World} {sz : Nat} {b off n cap : Nat} {cs : List Value} (h : Sl w sz (some ⟨b, off, none⟩) n cap cs) (hn : 0 < n) (hs : 0 < sz) : b < w.heap.size := by
  obtain ⟨b', off', e, hc⟩ := h.addr hn
  cases e
  have hl : 0 < cs.length := by rw [h.len]; exact Nat.mul_pos hn hs
  exact World.block_lt_of_cell? _ _ (hc 0 cs[0] (by rw [List.getElem?_eq_getElem hl]))
theorem Sl.cell {w : World} {sz : Nat} {b off n cap : Nat} {cs : List Value} (h : Sl w sz (some ⟨b, off, none⟩) n cap cs) (hn : 0 < n) {j : Nat} {u : Value} (hj : cs[j]? = some u) : w.cell? ⟨b, off + j, none⟩ = some u := by
  obtain ⟨b', off', e, hc⟩ := h.addr hn
  cases e
  exact hc j u hj
theorem Sl.none (w : World) (sz : Nat) : Sl w sz none 0 0 [] := ⟨Nat.le_refl _, by simp [maxLen], by simp, fun _ => rfl, fun h => absurd h (by omega)⟩
theorem Sl.take {w : World} {sz : Nat} {a : Option Addr} {n cap : Nat} {cs : List Value} (h : Sl w sz a n cap cs) {k : Nat} (hk : k ≤ n) : Sl w sz a k cap (cs.take (k * sz)) :=
  ⟨Nat.le_trans hk h.le, h.max, by rw [List.length_take, h.len, Nat.min_eq_left (Nat.mul_le_mul_right _ hk)], h.nil, fun hn => by
    obtain ⟨b, off, e, hc⟩ := h.addr (Nat.lt_of_lt_of_le hn hk)
    exact ⟨b, off, e, fun j u hj => hc j u (by rw [List.getElem?_take] at hj; split at hj; exact hj; cases hj)⟩⟩
/-- 'x[lo:hi]' -/
theorem Sl.slice {w : World} {sz : Nat} {a : Option Addr} {n cap : Nat} {cs : List Value} (h : Sl w sz a n cap cs) {lo hi : Nat} (h1 : lo ≤ hi) (h2 : hi ≤ n) :
    Sl w sz (if cap = lo then a else a.map (·.add (lo * sz))) (hi - lo) (cap - lo) ((cs.drop (lo * sz)).take ((hi - lo) * sz)) := by
  have hle := h.le
  have hmax := h.max
  refine ⟨by omega, by omega, ?_, ?_, fun hn => ?_⟩
  · rw [List.length_take, List.length_drop, h.len, ← Nat.sub_mul]
    exact Nat.min_eq_left (Nat.mul_le_mul_right _ (by omega))
  · intro e
    split at e
    · omega
    · have := h.nil (by cases a <;> simp_all); omega
  · obtain ⟨b, off, rfl, hc⟩ := h.addr (by omega)
    rw [if_neg (by omega)]
    refine ⟨b, off + lo * sz, ?_, fun j u hj => ?_⟩
    · simp [add_off]
    · have := hc (lo * sz + j) u (by
        rw [List.getElem?_take] at hj
        split at hj
        · rw [List.getElem?_drop] at hj; exact hj
        · cases hj)
      rw [Nat.add_assoc]; exact this

/-- an owned row, read -/
theorem own_sl {w : World} {base : Nat} {e : TypeId} {sz : Nat} {v : Value} {n : Nat} {xs : List Value} (h : w.ownsRow base e sz v n xs) : ∃ a cap, v = .slice a n cap ∧ Sl w sz a n cap xs := by
  rcases h.2 with ⟨rfl, rfl⟩ | ⟨g, cap, cur, rfl, hb, hg, hn, hm, hs, ht⟩
  · have : xs = [] := List.eq_nil_of_length_eq_zero (by simpa using h.1)
    subst this
    exact ⟨none, 0, rfl, Sl.none w sz⟩
  · refine ⟨some ⟨g, 0, none⟩, cap, rfl, hn, hm, h.1, (fun e => by cases e), fun _ => ⟨g, 0, rfl, fun j u hj => ?_⟩⟩
    have := h.cells (g := g) rfl j u hj
    rw [add_off] at this
    exact this
theorem own_below {w w' : World} {base : Nat} {e : TypeId} {sz : Nat} {v : Value} {n : Nat} {xs : List Value} (h : w.ownsRow base e sz v n xs) (hb : Below w.heap.size w w') : w'.ownsRow base e sz v n xs := by
  refine ⟨h.1, ?_⟩
  rcases h.2 with h2 | ⟨g, cap, cur, hv, hg, hh, r⟩
  · exact .inl h2
  · exact .inr ⟨g, cap, cur, hv, hg, by rw [hb.block g (Array.getElem?_eq_some_iff.1 hh).1]; exact hh, r⟩
theorem own_mono {w : World} {base base' : Nat} {e : TypeId} {sz : Nat} {v : Value} {n : Nat} {xs : List Value} (h : w.ownsRow base e sz v n xs) (hb : base' ≤ base) : w.ownsRow base' e sz v n xs := by
  refine ⟨h.1, ?_⟩
  rcases h.2 with h2 | ⟨g, cap, cur, hv, hg, r⟩
  · exact .inl h2
  · exact .inr ⟨g, cap, cur, hv, Nat.le_trans hb hg, r⟩
/-- behind an append: below the owned base nothing has turned -/
theorem below_grown {w w0 w' : World} {base : Nat} {e : TypeId} {sz : Nat} {v : Value} {n : Nat} {xs : List Value} (h : w.ownsRow base e sz v n xs) (hb : Below base w0 w) (hB : base ≤ w.heap.size) (hg : w.grownBy w' v.ownBlock) : Below base w0 w' :=
  hb.grown hg hB fun k hk => by
    rcases h.2 with ⟨rfl, _⟩ | ⟨g, cap, cur, rfl, hbg, r⟩
    · cases hk
    · cases hk; exact hbg

theorem below_grown1 {w w0 w' : World} {base k : Nat} (hb : Below base w0 w) (hB : base ≤ w.heap.size) (hg : w.grownBy w' (some k)) (hk : base ≤ k) : Below base w0 w' :=
  hb.grown hg hB fun j hj => by cases hj; exact hk

section
variable {P : Program} (w : World)
/-- 'append(s, x...)' to an owned row, whatever x is. -/
theorem run_append_own_src (base : Nat) (t tx ty e : TypeId) (i : TypeInfo) (z : Value) (size bytes : Nat) (ht : P.underlying t = some (.slice e)) (hi : P.info? e = some i) (hz : i.zero = some z)
    (hsize : i.size = size) (hby : i.bytes = bytes) (hzs : z.cells.size = size) (hsz : 0 < size)
    (v : Value) (n : Nat) (xs : List Value) (hown : w.ownsRow base e size v n xs)
    (x : Value) (m : Nat) (news : List Value) (hx : Src P size tx x m news w)
    (h63 : n + m ≤ maxLen) (hbytes : (n + m) * bytes ≤ 140737488355328) (hbase : base ≤ w.heap.size) :
    ∃ v' w', (Builtin.append_ #[t, tx] ty #[v, x]).run P w = .ok v' w' ∧ w'.ownsRow base e size v' (n + m) (xs ++ news) ∧ w.grownBy w' v.ownBlock := by
  subst hsize
  subst hby
  have hsmall : n + m ≤ 9223372036854775807 := by simp only [maxLen] at h63; omega
  have hl := hx.newsLen
  have hlen : (xs ++ news).length = (n + m) * i.size := by rw [List.length_append, hown.1, hl, Nat.add_mul]
  have grown : ∀ (old : Nat), old < n + m → ∀ (row : Option Nat),
      (w.drew.alloc (.cells ((xs ++ news).toArray ++ Builtin.zeroCells z.cells (grownCap w (n + m) old e - (n + m))) e)).ownsRow base e i.size
        (.slice (some ⟨w.heap.size, 0, none⟩) (n + m) (grownCap w (n + m) old e)) (n + m) (xs ++ news) ∧
      w.grownBy (w.drew.alloc (.cells ((xs ++ news).toArray ++ Builtin.zeroCells z.cells (grownCap w (n + m) old e - (n + m))) e)) row := by
    intro old ho row
    have hge := grownCap_ge w (n + m) old e
    have hcm : grownCap w (n + m) old e ≤ maxLen := grownCap_le_maxLen w (n + m) old e h63
    refine ⟨⟨hlen, .inr ⟨w.heap.size, _, _, rfl, hbase, heap_alloc_new w.drew _, hge, hcm, ?_, ?_⟩⟩, ⟨rfl, rfl, rfl, by simp, fun k hk _ => heap_alloc_old w.drew _ hk⟩⟩
    · rw [Array.size_append, List.size_toArray, size_zeroCells, hzs, hlen, ← Nat.add_mul]
      congr 1
      omega
    · rw [Array.toList_append, ← hlen]
      exact List.take_left
  rcases hown.2 with ⟨rfl, rfl⟩ | ⟨g, cap, cur, rfl, hbg, hg, hnc, hcm, hcs, htake⟩
  · have hx0 : xs = [] := List.eq_nil_of_length_eq_zero (by simpa using hown.1)
    subst hx0
    by_cases hm : m = 0
    · subst hm
      have hn : news = [] := List.eq_nil_of_length_eq_zero (by simpa using hl)
      subst hn
      refine ⟨.slice none 0 0, w, ?_, World.ownsRow_nil w base e i.size, ⟨rfl, rfl, rfl, Nat.le_refl _, fun _ _ _ => rfl⟩⟩
      have hc := hx.cells
      have hle := hx.len
      rcases hx.kind with ⟨e', hk⟩ | hk <;> simp [Builtin.append_, run_underlying ht, run_underlying hk, sizeOf, typeInfo, hi, hle, hc]
    · have hr := run_append_grow_src (P := P) w t tx ty e i z ht hi hz none 0 0 [] (run_firstCells_none w.drew i.size 0 0 0) x m news hx (by omega) (by omega) (growslice_fits (by omega) hbytes)
      have hgr := grown 0 (by omega) (Value.ownBlock (.slice none 0 0))
      simp only [Nat.zero_add, List.nil_append] at hgr hr ⊢
      exact ⟨_, _, hr, hgr.1, hgr.2⟩
  · by_cases hroom : n + m ≤ cap
    · have hfit : n * i.size + news.length ≤ cur.size := by rw [hl, hcs, ← Nat.add_mul]; exact Nat.mul_le_mul_right _ hroom
      have hst := run_storeCells_at P g (n * i.size) e news 0 cur w hg (by simpa using hfit) hx.one
      simp only [Nat.add_zero] at hst
      have hc := hx.cells
      have hle := hx.len
      have hr : (Builtin.append_ #[t, tx] ty #[.slice (some ⟨g, 0, none⟩) n cap, x]).run P w = .ok (.slice (some ⟨g, 0, none⟩) (n + m) cap) (w.setRow g (cur.toList.take (n * i.size) ++ news ++ cur.toList.drop (n * i.size + news.length)).toArray) := by
        rcases hx.kind with ⟨e', hk⟩ | hk <;> simp [Builtin.append_, run_underlying ht, run_underlying hk, sizeOf, typeInfo, hi, hle, hroom, hc, Addr.add_lit, hst]
      refine ⟨_, _, hr, ⟨hlen, .inr ⟨g, cap, _, rfl, hbg, setRow_heap w g cur _ e _ hg, hroom, hcm, ?_, ?_⟩⟩, ⟨rfl, rfl, rfl, by simp, fun k _ hk => setRow_other w g k _ (fun e => hk (by simp [Value.ownBlock, e]))⟩⟩
      · simp only [List.size_toArray, List.length_append, List.length_take, List.length_drop, Array.length_toList]
        omega
      · rw [htake, ← hlen]
        exact List.take_left
    · have holds : ∀ j u, xs[j]? = some u → w.drew.cell? ((⟨g, 0, none⟩ : Addr).add j) = some u := fun j u hj => hown.cells (g := g) rfl j u hj
      have hold := run_firstCells_some (P := P) w.drew i.size n ⟨g, 0, none⟩ n cap xs hown.1 holds
      have hr := run_append_grow_src (P := P) w t tx ty e i z ht hi hz (some ⟨g, 0, none⟩) n cap xs hold x m news hx (by omega) (by omega) (growslice_fits (by omega) hbytes)
      have hgr := grown cap (by omega) (Value.ownBlock (.slice (some ⟨g, 0, none⟩) n cap))
      exact ⟨_, _, hr, hgr.1, hgr.2⟩

/-- What a slice that is read yields. -/
theorem Sl.src {w : World} {sz : Nat} {a : Option Addr} {n cap : Nat} {cs : List Value} (h : Sl w sz a n cap cs) {tx e' : TypeId} (hk : P.underlying tx = some (.slice e')) (h1 : ∀ u ∈ cs, u.oneCell' = true) : Src P sz tx (.slice a n cap) n cs w := by
  cases a with
  | none =>
    have h0 := h.nil rfl
    have hle := h.le
    obtain rfl : n = 0 := by omega
    have : cs = [] := List.eq_nil_of_length_eq_zero (by simpa using h.len)
    subst this
    exact Src.ofNil w hk cap
  | some p =>
    refine Src.ofSlice w hk p n cap cs h.len (fun j u hj => ?_) h1
    have hl : j < cs.length := by
      rcases Nat.lt_or_ge j cs.length with h | h
      · exact h
      · rw [List.getElem?_eq_none h] at hj; cases hj
    have hn : 0 < n := by
      rcases Nat.eq_zero_or_pos n with h0 | h0
      · rw [h.len, h0] at hl; omega
      · exact h0
    obtain ⟨b, off, e, hc⟩ := h.addr hn
    cases e
    have := hc j u hj
    rw [add_off]; exact this

theorem wpList_append_src {ops : Array Oper} {rest : List Oper} {o : Oper} {a : Act} {Q : Exit → Act → World → Prop} (hgd : o.guard = none) (s xo : Operand) (t tx : TypeId)
    (ho : o.op = .call { callee := .builtin .append, args := #[s, xo], argTypes := #[t, tx] })
    (base : Nat) (e : TypeId) (i : TypeInfo) (z : Value) (size bytes : Nat) (ht : P.underlying t = some (.slice e)) (hi : P.info? e = some i) (hz : i.zero = some z)
    (hsize : i.size = size) (hby : i.bytes = bytes) (hzs : z.cells.size = size) (hsz : 0 < size)
    (v : Value) (n : Nat) (xs : List Value) (hs : a.eval s = v) (hown : w.ownsRow base e size v n xs)
    (x : Value) (m : Nat) (news : List Value) (hxe : a.eval xo = x) (hx : Src P size tx x m news w)
    (h63 : n + m ≤ maxLen) (hbytes : (n + m) * bytes ≤ 140737488355328) (hbase : base ≤ w.heap.size)
    (h : ∀ v' w', w'.ownsRow base e size v' (n + m) (xs ++ news) → w.grownBy w' v.ownBlock → wpList P ops Q rest (a.put o.dst v') w') : wpList P ops Q (o :: rest) a w := by
  obtain ⟨v', w', hr, h2, h3⟩ := run_append_own_src (P := P) w base t tx o.type e i z size bytes ht hi hz hsize hby hzs hsz v n xs hown x m news hx h63 hbytes hbase
  refine wpList_value hgd ?_ (h v' w' h2 h3)
  unfold execOp
  simp only [ho, resolve, invoke, builtin, Sem.run_bind, Sem.run_pure, Result.andThen_ok, List.map_toArray, List.map_cons, List.map_nil, hs, hxe, hr]
end

/-- An owned row, or an empty slice without room (as slices.Clone hands one on). -/
def OwnE (w : World) (base : Nat) (e : TypeId) (sz : Nat) (v : Value) (n : Nat) (xs : List Value) : Prop :=
  w.ownsRow base e sz v n xs ∨ (∃ a, v = .slice a 0 0 ∧ n = 0 ∧ xs = [])
theorem OwnE.sl {w : World} {base : Nat} {e : TypeId} {sz : Nat} {v : Value} {n : Nat} {xs : List Value} (h : OwnE w base e sz v n xs) : ∃ a cap, v = .slice a n cap ∧ Sl w sz a n cap xs := by
  rcases h with h | ⟨a, rfl, rfl, rfl⟩
  · exact own_sl h
  · exact ⟨a, 0, rfl, Nat.le_refl _, by simp [maxLen], by simp, fun _ => rfl, fun h => absurd h (by omega)⟩
theorem OwnE.below {w w' : World} {base : Nat} {e : TypeId} {sz : Nat} {v : Value} {n : Nat} {xs : List Value} (h : OwnE w base e sz v n xs) (hb : Below w.heap.size w w') : OwnE w' base e sz v n xs := by
  rcases h with h | h
  · exact .inl (own_below h hb)
  · exact .inr h
theorem OwnE.alloc {w : World} {base : Nat} {e : TypeId} {sz : Nat} {v : Value} {n : Nat} {xs : List Value} (h : OwnE w base e sz v n xs) (o : Obj) : OwnE (w.alloc o) base e sz v n xs := h.below ((Below.refl _ _).alloc (Nat.le_refl _) _)
theorem OwnE.mono {w : World} {base base' : Nat} {e : TypeId} {sz : Nat} {v : Value} {n : Nat} {xs : List Value} (h : OwnE w base e sz v n xs) (hb : base' ≤ base) : OwnE w base' e sz v n xs := by
  rcases h with h | h
  · exact .inl (own_mono h hb)
  · exact .inr h

section
variable {P : Program} (w : World)
theorem run_append_ownE_src (base : Nat) (t tx ty e : TypeId) (i : TypeInfo) (z : Value) (size bytes : Nat) (ht : P.underlying t = some (.slice e)) (hi : P.info? e = some i) (hz : i.zero = some z)
    (hsize : i.size = size) (hby : i.bytes = bytes) (hzs : z.cells.size = size) (hsz : 0 < size)
    (v : Value) (n : Nat) (xs : List Value) (hown : OwnE w base e size v n xs)
    (x : Value) (m : Nat) (news : List Value) (hx : Src P size tx x m news w)
    (h63 : n + m ≤ maxLen) (hbytes : (n + m) * bytes ≤ 140737488355328) (hbase : base ≤ w.heap.size) :
    ∃ v' w', (Builtin.append_ #[t, tx] ty #[v, x]).run P w = .ok v' w' ∧ OwnE w' base e size v' (n + m) (xs ++ news) ∧ (∀ b0 w0, Below b0 w0 w → b0 ≤ base → Below b0 w0 w') ∧ (0 < m → w'.ownsRow base e size v' (n + m) (xs ++ news)) := by
  rcases hown with h | ⟨a, rfl, rfl, rfl⟩
  · obtain ⟨v', w', h1, h2, h3⟩ := run_append_own_src (P := P) w base t tx ty e i z size bytes ht hi hz hsize hby hzs hsz v n xs h x m news hx h63 hbytes hbase
    exact ⟨v', w', h1, .inl h2, fun b0 w0 hb hle => below_grown (own_mono h hle) hb (by omega) h3, fun _ => h2⟩
  · subst hsize
    subst hby
    by_cases hm : m = 0
    · subst hm
      have hn : news = [] := List.eq_nil_of_length_eq_zero (by simpa using hx.newsLen)
      subst hn
      refine ⟨.slice a 0 0, w, ?_, .inr ⟨a, rfl, rfl, rfl⟩, fun b0 w0 hb _ => hb, fun h => absurd h (by omega)⟩
      have hc := hx.cells
      have hle := hx.len
      cases a with
      | none => rcases hx.kind with ⟨e', hk⟩ | hk <;> simp [Builtin.append_, run_underlying ht, run_underlying hk, sizeOf, typeInfo, hi, hle, hc]
      | some p => rcases hx.kind with ⟨e', hk⟩ | hk <;> simp [Builtin.append_, run_underlying ht, run_underlying hk, sizeOf, typeInfo, hi, hle, hc, storeCells]
    · have hl := hx.newsLen
      have hold : (Builtin.firstCells i.size 0 (.slice a 0 0)).run P w.drew = .ok ([] : List Value).toArray w.drew := by
        cases a with
        | none => exact run_firstCells_none w.drew i.size 0 0 0
        | some p => exact run_firstCells_some (P := P) w.drew i.size 0 p 0 0 [] (by simp) (fun j u hj => by cases hj)
      have hr := run_append_grow_src (P := P) w t tx ty e i z ht hi hz a 0 0 [] hold x m news hx (by omega) (by unfold maxLen at h63; omega) (growslice_fits (by omega) hbytes)
      simp only [Nat.zero_add, List.nil_append] at hr ⊢
      have hge := grownCap_ge w m 0 e
      have hcm : grownCap w m 0 e ≤ maxLen := grownCap_le_maxLen w m 0 e (by omega)
      have ho : (w.drew.alloc (.cells (news.toArray ++ Builtin.zeroCells z.cells (grownCap w m 0 e - m)) e)).ownsRow base e i.size (.slice (some ⟨w.heap.size, 0, none⟩) m (grownCap w m 0 e)) m news := by
        refine ⟨hl, .inr ⟨w.heap.size, _, _, rfl, hbase, heap_alloc_new w.drew _, hge, hcm, ?_, ?_⟩⟩
        · rw [Array.size_append, List.size_toArray, size_zeroCells, hzs, hl, ← Nat.add_mul]
          congr 1
          omega
        · rw [Array.toList_append, ← hl]
          exact List.take_left
      exact ⟨_, _, hr, .inl ho, fun b0 w0 hb hle => (hb.drew).alloc (by simp; omega) _, fun _ => ho⟩

theorem wpList_append_e {ops : Array Oper} {rest : List Oper} {o : Oper} {a : Act} {Q : Exit → Act → World → Prop} (hgd : o.guard = none) (s xo : Operand) (t tx : TypeId)
    (ho : o.op = .call { callee := .builtin .append, args := #[s, xo], argTypes := #[t, tx] })
    (base : Nat) (e : TypeId) (size bytes : Nat) (z : Value) (ht : P.underlying t = some (.slice e)) (hinfo : (P.info? e).map (fun i => (i.zero, i.size, i.bytes)) = some (some z, size, bytes)) (hzs : z.cells.size = size) (hsz : 0 < size)
    (v : Value) (n : Nat) (xs : List Value) (hs : a.eval s = v) (hown : OwnE w base e size v n xs)
    (x : Value) (m : Nat) (news : List Value) (hxe : a.eval xo = x) (hx : Src P size tx x m news w)
    (h63 : n + m ≤ maxLen) (hbytes : (n + m) * bytes ≤ 140737488355328) (hbase : base ≤ w.heap.size)
    (h : ∀ v' w', OwnE w' base e size v' (n + m) (xs ++ news) → (∀ b0 w0, Below b0 w0 w → b0 ≤ base → Below b0 w0 w') → (0 < m → w'.ownsRow base e size v' (n + m) (xs ++ news)) → wpList P ops Q rest (a.put o.dst v') w') : wpList P ops Q (o :: rest) a w := by
  have hi2 : ∃ i, P.info? e = some i ∧ i.zero = some z ∧ i.size = size ∧ i.bytes = bytes := by
    cases hi : P.info? e with
    | none => rw [hi] at hinfo; cases hinfo
    | some i => rw [hi] at hinfo; simp at hinfo; exact ⟨i, rfl, hinfo.1, hinfo.2.1, hinfo.2.2⟩
  obtain ⟨i, hi, hz, h1, h2⟩ := hi2
  obtain ⟨v', w', hr, h3, h4, h5⟩ := run_append_ownE_src (P := P) w base t tx o.type e i z size bytes ht hi hz h1 h2 hzs hsz v n xs hown x m news hx h63 hbytes hbase
  refine wpList_value hgd ?_ (h v' w' h3 h4 h5)
  unfold execOp
  simp only [ho, resolve, invoke, builtin, Sem.run_bind, Sem.run_pure, Result.andThen_ok, List.map_toArray, List.map_cons, List.map_nil, hs, hxe, hr]
end

/-! ### Bytes -/
/-- A byte, as a number. -/
def at8 (l : List UInt8) (i : Nat) : Nat := (l.getD i 0).toNat
theorem at8_lt (l : List UInt8) (i : Nat) : at8 l i < 256 := UInt8.toNat_lt _
def cb (l : List UInt8) : List Value := l.map fun x => .int .u8 (x.toNat : Int)
theorem cb_ints (l : List UInt8) {zs : List Int} (h : l.map (fun x => (x.toNat : Int)) = zs) : cb l = zs.map (Value.int .u8) := by
  rw [← h, List.map_map]; rfl
theorem cb_length (l : List UInt8) : (cb l).length = l.length := by simp [cb]
theorem cb_get (l : List UInt8) (i : Nat) (h : i < l.length) : (cb l)[i]? = some (.int .u8 (at8 l i)) := by
  simp [cb, at8, h, List.getD]
theorem cb_append (l m : List UInt8) : cb (l ++ m) = cb l ++ cb m := by simp [cb]
theorem cb_one (l : List UInt8) : ∀ u ∈ cb l, u.oneCell' = true := by
  intro u hu
  obtain ⟨x, _, rfl⟩ := List.mem_map.1 hu
  rfl
/-- The slice (a, n, cap) reads as the bytes l. -/
abbrev Bt (w : World) (a : Option Addr) (n cap : Nat) (l : List UInt8) : Prop := Sl w 1 a n cap (cb l)
theorem Bt.n {w : World} {a : Option Addr} {n cap : Nat} {l : List UInt8} (h : Bt w a n cap l) : l.length = n := by
  have := h.len; rw [cb_length] at this; omega
theorem Bt.at {w : World} {b off n cap : Nat} {l : List UInt8} (h : Bt w (some ⟨b, off, none⟩) n cap l) (i : Nat) (hi : i < n) : w.cell? ⟨b, off + i, none⟩ = some (.int .u8 (at8 l i)) :=
  Sl.cell h (by omega) (cb_get l i (by rw [Bt.n h]; exact hi))
theorem Bt.take {w : World} {a : Option Addr} {n cap : Nat} {l : List UInt8} (h : Bt w a n cap l) {k : Nat} (hk : k ≤ n) : Bt w a k cap (l.take k) := by
  have := Sl.take h hk
  unfold Bt cb
  rw [List.map_take]
  simpa [cb] using this
theorem Bt.slice {w : World} {a : Option Addr} {n cap : Nat} {l : List UInt8} (h : Bt w a n cap l) {lo hi : Nat} (h1 : lo ≤ hi) (h2 : hi ≤ n) :
    Bt w (if cap = lo then a else a.map (·.add (lo * 1))) (hi - lo) (cap - lo) ((l.drop lo).take (hi - lo)) := by
  have := Sl.slice h h1 h2
  unfold Bt cb
  rw [List.map_take, List.map_drop]
  simpa [cb] using this

/-- It returns the bytes R, in memory of its own, and an error's number. -/
def BRes (R : List UInt8) (err : Int) (w : World) (e : Ending) (w' : World) : Prop :=
  ∃ v, e = .returned (.tuple #[v, .int .i64 err]) ∧ Below w.heap.size w w' ∧ w'.ownsRow w.heap.size 5 1 v R.length (cb R)
theorem info_parts1 {P : Program} {t : TypeId} {z : Value} {sz by_ : Nat} (h : (P.info? t).map (fun i => (i.zero, i.size, i.bytes)) = some (some z, sz, by_)) :
    ∃ i, P.info? t = some i ∧ i.zero = some z ∧ i.size = sz ∧ i.bytes = by_ := by
  cases hi : P.info? t with
  | none => rw [hi] at h; cases h
  | some i => rw [hi] at h; simp at h; exact ⟨i, rfl, h.1, h.2.1, h.2.2⟩
theorem info_u8 : (Try.prog.info? 5).map (fun i => (i.zero, i.size, i.bytes)) = some (some (.int .u8 0), 1, 1) := by kernel_rfl
theorem own_lit (w : World) (base : Nat) (hb : base ≤ w.heap.size) (cs : Array Value) (l : List UInt8) (hl : l.length ≤ maxLen) (h : cs.toList = cb l) :
    (w.alloc (.cells cs 5)).ownsRow base 5 1 (.slice (some ⟨w.heap.size, 0, none⟩) l.length l.length) l.length (cb l) := by
  rw [← h]
  exact World.ownsRow_lit w cs l.length hb hl (by rw [← Array.length_toList, h, cb_length]; omega)
theorem lit_bt (w : World) (cs : Array Value) (l : List UInt8) (hl : l.length ≤ maxLen) (h : cs.toList = cb l) :
    Bt (w.alloc (.cells cs 5)) (some ⟨w.heap.size, 0, none⟩) l.length l.length l := by
  obtain ⟨a, cap, e, hs⟩ := own_sl (own_lit w w.heap.size (Nat.le_refl _) cs l hl h)
  cases e
  exact hs
/-- 'append(s, x...)' of bytes. -/
theorem wpList_append_bytes {ops : Array Oper} {rest : List Oper} {o : Oper} {a : Act} {Q : Exit → Act → World → Prop} {w : World} (hgd : o.guard = none) (s xo : Operand)
    (ho : o.op = .call { callee := .builtin .append, args := #[s, xo], argTypes := #[48, 48] })
    (base : Nat) (v : Value) (l m : List UInt8) (hs : a.eval s = v) (hown : w.ownsRow base 5 1 v l.length (cb l))
    (xa : Option Addr) (xn xc : Nat) (hxe : a.eval xo = .slice xa xn xc) (hx : Bt w xa xn xc m)
    (hlen : l.length + m.length ≤ 140737488355328) (hbase : base ≤ w.heap.size)
    (h : ∀ v' w', w'.ownsRow base 5 1 v' (l ++ m).length (cb (l ++ m)) → w.grownBy w' v.ownBlock → wpList Try.prog ops Q rest (a.put o.dst v') w') : wpList Try.prog ops Q (o :: rest) a w := by
  obtain ⟨i, hi, hz, h1, h2⟩ := info_parts1 info_u8
  have hn := Bt.n hx
  refine wpList_append_src w hgd s xo 48 48 ho base 5 i (.int .u8 0) 1 1 Try.underlying48 hi hz h1 h2 rfl (by decide) v l.length (cb l) hs hown (.slice xa xn xc) xn (cb m) hxe
    (Sl.src hx Try.underlying48 (cb_one m)) (by unfold maxLen; omega) (by omega) hbase ?_
  intro v' w' ho' hg
  refine h v' w' ?_ hg
  rw [List.length_append, cb_append, hn]
  exact ho'
end Go.Proofs.Ytjdgfijpmljhiaa
