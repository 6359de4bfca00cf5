/- Joined, and what is not used struck: Kit2, Kit3, Only. -/
import Derived.Test.YthhcdfjijagalaaM01
import Derived.Laws.CopyOwn
import Derived.Deep.AppendLies
namespace Go.Proofs.Ythhcdfjijagalaa
open Go.RowKit
set_option linter.unusedVariables false
theorem bcell {W w1 : World} (hb : Below W.heap.size W w1) : (∀ b o, b < W.heap.size → w1.cell? ⟨b, o, none⟩ = W.cell? ⟨b, o, none⟩) ∧ (∀ b o, b < W.heap.size → w1.frozen? ⟨b, o, none⟩ = W.frozen? ⟨b, o, none⟩) :=
  ⟨fun b o h => hb.cell (p := ⟨b, o, none⟩) h, fun b o h => hb.frozen (p := ⟨b, o, none⟩) h⟩
theorem cell_new (w : World) (cs : Array Value) (t : TypeId) (i : Nat) : (w.alloc (.cells cs t)).cell? ⟨w.heap.size, i, none⟩ = cs[i]? := by simp
theorem cell_old {w : World} {o : Obj} {b i : Nat} (h : b < w.heap.size) : (w.alloc o).cell? ⟨b, i, none⟩ = w.cell? ⟨b, i, none⟩ := (((Below.refl w.heap.size w).alloc (Nat.le_refl _) o).cell (p := ⟨b, i, none⟩) h)
theorem frozen_old {w : World} {o : Obj} {b i : Nat} (h : b < w.heap.size) : (w.alloc o).frozen? ⟨b, i, none⟩ = w.frozen? ⟨b, i, none⟩ := (((Below.refl w.heap.size w).alloc (Nat.le_refl _) o).frozen (p := ⟨b, i, none⟩) h)
theorem own_pos {w : World} {base : Nat} {e : TypeId} {sz : Nat} {v : Value} {n : Nat} {xs : List Value} (h : w.ownsRow base e sz v n xs) (hn : 0 < n) : ∃ g cap, v = .slice (some ⟨g, 0, none⟩) n cap ∧ base ≤ g ∧ g < w.heap.size ∧ n ≤ cap ∧ cap ≤ maxLen := by
  rcases h.2 with ⟨rfl, rfl⟩ | ⟨g, cap, cur, rfl, hb, hg, hn, hm, hs, ht⟩
  · omega
  · exact ⟨g, cap, rfl, hb, (Array.getElem?_eq_some_iff.1 hg).1, hn, hm⟩
theorem cb_set (l : List UInt8) (i : Nat) (y : UInt8) : cb (l.set i y) = (cb l).set i (.int .u8 (y.toNat : Int)) := by simp [cb, List.map_set]
/-- 'make([]byte, n)' -/
theorem wpList_make_bytes {ops : Array Oper} {rest : List Oper} {o : Oper} {a : Act} {Q : Exit → Act → World → Prop} {w : World} (hg : o.guard = none) (l c : Operand) (hop : o.op = Op.makeSlice 88 l c)
    (n : Nat) (hl : a.eval l = .int .i64 (n : Int)) (hc : a.eval c = .int .i64 (n : Int)) (hn : n ≤ 140737488355328)
    (hK : ∀ w', w'.ownsRow w.heap.size 5 1 (.slice (some ⟨w.heap.size, 0, none⟩) n n) n (cb (List.replicate n 0)) → Below w.heap.size w w' → w.heap.size < w'.heap.size → wpList Try.prog ops Q rest (a.put o.dst (.slice (some ⟨w.heap.size, 0, none⟩) n n)) w') :
    wpList Try.prog ops Q (o :: rest) a w := by
  obtain ⟨i, hi, hz, h1, h2⟩ := info_parts1 info_u8
  refine wpList_make_full w hg l c 88 hop w.heap.size 5 i (.int .u8 0) 1 Try.underlying88 hi hz h1 .i64 .i64 n n n hl hc rfl rfl (by rw [h2]; omega) (by unfold maxLen; omega) (Nat.le_refl _) ?_
  intro w' ho hgr
  have hlt := (ho.lt _ rfl).2
  refine hK w' ?_ (Below.grown (Below.refl _ _) hgr (Nat.le_refl _) (by intro k hk; cases hk)) hlt
  have e : (madeCells (Value.cells (.int .u8 0)) (n * 1)).toList = cb (List.replicate n 0) := by
    simp only [madeCells, Value.cells, cb, Nat.mul_one, List.map_replicate]
    apply List.ext_getElem
    · simp
    · intro i h1 h2
      simp [Nat.mod_one]
  rw [← e]; exact ho
theorem own_row {w : World} {base : Nat} {e : TypeId} {g n cap : Nat} {xs : List Value} (h : w.ownsRow base e 1 (.slice (some ⟨g, 0, none⟩) n cap) n xs) :
    ∃ cur : List Value, w.heap[g]? = some (.cells cur.toArray e (0, 0)) ∧ base ≤ g ∧ n ≤ cap ∧ cap ≤ maxLen ∧ cur.length = cap ∧ cur.take n = xs := by
  rcases h.2 with ⟨h', _⟩ | ⟨g', cap', cur, h', hb, hg, hnc, hcm, hcs, ht⟩
  · simp at h'
  · simp only [Value.slice.injEq, Option.some.injEq, Addr.mk.injEq, and_true, true_and] at h'
    obtain ⟨rfl, rfl⟩ := h'
    exact ⟨cur.toList, by simpa using hg, hb, hnc, hcm, by simpa using hcs, by simpa using ht⟩
theorem own_of_row {w : World} {base : Nat} {e : TypeId} {g n cap : Nat} {xs : List Value} {cur : List Value} (hg : w.heap[g]? = some (.cells cur.toArray e (0, 0))) (hb : base ≤ g) (hn : n ≤ cap) (hc : cap ≤ maxLen) (hl : cur.length = cap) (ht : cur.take n = xs) :
    w.ownsRow base e 1 (.slice (some ⟨g, 0, none⟩) n cap) n xs :=
  ⟨by rw [← ht, List.length_take]; omega, .inr ⟨g, cap, cur.toArray, rfl, hb, hg, hn, hc, by simpa using hl, by simpa using ht⟩⟩
/-- 'copy(s, x)' of bytes. -/
theorem wpList_copy_bytes {ops : Array Oper} {rest : List Oper} {o : Oper} {a : Act} {Q : Exit → Act → World → Prop} {w : World} (hgd : o.guard = none) (d s : Operand)
    (ho : o.op = .call { callee := .builtin .copy, args := #[d, s], argTypes := #[88, 88] })
    (base g n cap : Nat) (l m : List UInt8) (hd : a.eval d = .slice (some ⟨g, 0, none⟩) n cap) (hown : w.ownsRow base 5 1 (.slice (some ⟨g, 0, none⟩) n cap) n (cb l))
    (xa : Option Addr) (xn xc : Nat) (hs : a.eval s = .slice xa xn xc) (hx : Bt w xa xn xc m) (b0 : Nat) (w0 : World) (hb0 : Below b0 w0 w) (hle : b0 ≤ base)
    (h : ∀ w' r, w'.ownsRow base 5 1 (.slice (some ⟨g, 0, none⟩) n cap) n (cb (m.take n ++ l.drop xn)) → Below b0 w0 w' → wpList Try.prog ops Q rest (a.put o.dst r) w') : wpList Try.prog ops Q (o :: rest) a w := by
  obtain ⟨cur, hg, hbg, hnc, hcm, hcl, hct⟩ := own_row hown
  have hmn := Bt.n hx
  have hln : l.length = n := by have := hown.1; simpa [cb] using this
  refine wpList_copy_splice hgd d s 88 88 ho 5 Try.underlying88 (by kernel_rfl) (some ⟨g, 0, none⟩) xa n cap xn xc hd hs g 0 cur 5 hg (cb (m.take n)) (by rw [cb_length, List.length_take, hmn]; exact Nat.min_comm _ _) (fun hp => ?_)
    (by rw [cb_length, List.length_take]; omega) (cb_one _) b0 w0 hb0 (by omega) ?_
  · refine ⟨rfl, ?_⟩
    rw [cb_length, List.length_take] at hp
    obtain ⟨b, off, rfl, hc⟩ := hx.addr (by omega)
    refine ⟨_, rfl, fun j v hj => ?_⟩
    rw [add_off]
    refine hc j v ?_
    have : cb (m.take n) = (cb m).take n := by simp [cb, List.map_take]
    rw [this, List.getElem?_take] at hj
    split at hj
    · exact hj
    · cases hj
  · intro w' hw' hB
    have hw' : w'.heap[g]? = some (.cells (splice cur 0 (cb (m.take n))).toArray 5 (0, 0)) := hw'
    have hlen : (splice cur 0 (cb (m.take n))).length = cap := by
      unfold splice
      simp only [List.take_zero, List.nil_append, List.length_append, cb_length, List.length_take, List.length_drop]
      omega
    refine h w' _ (own_of_row hw' hbg hnc hcm hlen ?_) hB
    unfold splice
    simp only [List.take_zero, List.nil_append, Nat.zero_add]
    rw [List.take_append, List.take_of_length_le (by rw [cb_length, List.length_take]; omega), cb_append]
    congr 1
    have e1 : (cb (m.take n)).length = min n xn := by rw [cb_length, List.length_take, hmn]
    rw [e1]
    have e2 : cb (l.drop xn) = (cb l).drop xn := by simp [cb, List.map_drop]
    rw [e2, ← hct]
    by_cases hh : xn ≤ n
    · rw [Nat.min_eq_right hh, List.drop_take]
    · rw [Nat.min_eq_left (by omega), Nat.sub_self, List.take_zero, List.drop_eq_nil_of_le (by rw [List.length_take]; omega)]
end Go.Proofs.Ythhcdfjijagalaa
namespace Go.Proofs.Ythhcdfjijagalaa
open Go.RowKit
set_option linter.unusedVariables false
section
variable {P : Program} (w : World)
theorem run_append_lies_src (base : Nat) (t tx ty e : TypeId) (i : TypeInfo) (z : Value) (size bytes : Nat) (ht : P.underlying t = some (.slice e)) (hi : P.info? e = some i) (hz : i.zero = some z)
    (hsize : i.size = size) (hby : i.bytes = bytes) (hzs : z.cells.size = size) (hsz : 0 < size)
    (v : Value) (n : Nat) (xs : List Value) (hown : w.ownsRow base e size v n xs)
    (x : Value) (m : Nat) (news : List Value) (hx : Src P size tx x m news w)
    (h63 : n + m ≤ maxLen) (hbytes : (n + m) * bytes ≤ 140737488355328) (hbase : base ≤ w.heap.size) :
    ∃ v' w', (Builtin.append_ #[t, tx] ty #[v, x]).run P w = .ok v' w' ∧ w'.ownsRow base e size v' (n + m) (xs ++ news) ∧ w.grownBy w' v.ownBlock ∧ (v'.ownBlock = v.ownBlock ∨ v'.ownBlock = some w.heap.size) := by
  subst hsize
  subst hby
  have hsmall : n + m ≤ 9223372036854775807 := by simp only [maxLen] at h63; omega
  have hl := hx.newsLen
  have hlen : (xs ++ news).length = (n + m) * i.size := by rw [List.length_append, hown.1, hl, Nat.add_mul]
  have grown : ∀ (old : Nat), old < n + m → ∀ (row : Option Nat),
      (w.drew.alloc (.cells ((xs ++ news).toArray ++ Builtin.zeroCells z.cells (grownCap w (n + m) old e - (n + m))) e)).ownsRow base e i.size
        (.slice (some ⟨w.heap.size, 0, none⟩) (n + m) (grownCap w (n + m) old e)) (n + m) (xs ++ news) ∧
      w.grownBy (w.drew.alloc (.cells ((xs ++ news).toArray ++ Builtin.zeroCells z.cells (grownCap w (n + m) old e - (n + m))) e)) row := by
    intro old ho row
    have hge := grownCap_ge w (n + m) old e
    have hcm : grownCap w (n + m) old e ≤ maxLen := grownCap_le_maxLen w (n + m) old e h63
    refine ⟨⟨hlen, .inr ⟨w.heap.size, _, _, rfl, hbase, heap_alloc_new w.drew _, hge, hcm, ?_, ?_⟩⟩, ⟨rfl, rfl, rfl, by simp, fun k hk _ => heap_alloc_old w.drew _ hk⟩⟩
    · rw [Array.size_append, List.size_toArray, size_zeroCells, hzs, hlen, ← Nat.add_mul]
      congr 1
      omega
    · rw [Array.toList_append, ← hlen]
      exact List.take_left
  rcases hown.2 with ⟨rfl, rfl⟩ | ⟨g, cap, cur, rfl, hbg, hg, hnc, hcm, hcs, htake⟩
  · have hx0 : xs = [] := List.eq_nil_of_length_eq_zero (by simpa using hown.1)
    subst hx0
    by_cases hm : m = 0
    · subst hm
      have hn : news = [] := List.eq_nil_of_length_eq_zero (by simpa using hl)
      subst hn
      refine ⟨.slice none 0 0, w, ?_, World.ownsRow_nil w base e i.size, ⟨rfl, rfl, rfl, Nat.le_refl _, fun _ _ _ => rfl⟩, .inl rfl⟩
      have hc := hx.cells
      have hle := hx.len
      rcases hx.kind with ⟨e', hk⟩ | hk <;> simp [Builtin.append_, run_underlying ht, run_underlying hk, sizeOf, typeInfo, hi, hle, hc]
    · have hr := run_append_grow_src (P := P) w t tx ty e i z ht hi hz none 0 0 [] (run_firstCells_none w.drew i.size 0 0 0) x m news hx (by omega) (by omega) (growslice_fits (by omega) hbytes)
      have hgr := grown 0 (by omega) (Value.ownBlock (.slice none 0 0))
      simp only [Nat.zero_add, List.nil_append] at hgr hr ⊢
      exact ⟨_, _, hr, hgr.1, hgr.2, .inr rfl⟩
  · by_cases hroom : n + m ≤ cap
    · have hfit : n * i.size + news.length ≤ cur.size := by rw [hl, hcs, ← Nat.add_mul]; exact Nat.mul_le_mul_right _ hroom
      have hst := run_storeCells_at P g (n * i.size) e news 0 cur w hg (by simpa using hfit) hx.one
      simp only [Nat.add_zero] at hst
      have hc := hx.cells
      have hle := hx.len
      have hr : (Builtin.append_ #[t, tx] ty #[.slice (some ⟨g, 0, none⟩) n cap, x]).run P w = .ok (.slice (some ⟨g, 0, none⟩) (n + m) cap) (w.setRow g (cur.toList.take (n * i.size) ++ news ++ cur.toList.drop (n * i.size + news.length)).toArray) := by
        rcases hx.kind with ⟨e', hk⟩ | hk <;> simp [Builtin.append_, run_underlying ht, run_underlying hk, sizeOf, typeInfo, hi, hle, hroom, hc, Addr.add_lit, hst]
      refine ⟨_, _, hr, ⟨hlen, .inr ⟨g, cap, _, rfl, hbg, setRow_heap w g cur _ e _ hg, hroom, hcm, ?_, ?_⟩⟩, ⟨rfl, rfl, rfl, by simp, fun k _ hk => setRow_other w g k _ (fun e => hk (by simp [Value.ownBlock, e]))⟩, .inl rfl⟩
      · simp only [List.size_toArray, List.length_append, List.length_take, List.length_drop, Array.length_toList]
        omega
      · rw [htake, ← hlen]
        exact List.take_left
    · have holds : ∀ j u, xs[j]? = some u → w.drew.cell? ((⟨g, 0, none⟩ : Addr).add j) = some u := fun j u hj => hown.cells (g := g) rfl j u hj
      have hold := run_firstCells_some (P := P) w.drew i.size n ⟨g, 0, none⟩ n cap xs hown.1 holds
      have hr := run_append_grow_src (P := P) w t tx ty e i z ht hi hz (some ⟨g, 0, none⟩) n cap xs hold x m news hx (by omega) (by omega) (growslice_fits (by omega) hbytes)
      have hgr := grown cap (by omega) (Value.ownBlock (.slice (some ⟨g, 0, none⟩) n cap))
      exact ⟨_, _, hr, hgr.1, hgr.2, .inr rfl⟩
end
theorem gtrans {a b c : World} {r q : Option Nat} (h : a.grownBy b r) (k : b.grownBy c q) (hq : q = r ∨ ∀ x, q = some x → a.heap.size ≤ x) : a.grownBy c r :=
  ⟨k.os.trans h.os, k.tape.trans h.tape, k.output.trans h.output, Nat.le_trans h.size k.size, fun i hi hne => by
    refine (k.block i (Nat.lt_of_lt_of_le hi h.size) (fun e => ?_)).trans (h.block i hi hne)
    rcases hq with hq | hq
    · exact hne (e.trans hq)
    · have := hq i e.symm; omega⟩
theorem grown_of_below {w w' : World} (hb : Below w.heap.size w w') (r : Option Nat) : w.grownBy w' r := ⟨hb.os, hb.tape, hb.output, hb.size, fun i hi _ => hb.block i hi⟩
theorem below_of_grown {w w' : World} {r : Option Nat} {b : Nat} (h : w.grownBy w' r) (hb : b ≤ w.heap.size) (hr : ∀ k, r = some k → b ≤ k) : Below b w w' :=
  ⟨h.os, h.tape, h.output, h.size, fun k hk => h.block k (by omega) (fun e => by have := hr k e.symm; omega)⟩
/-- In w the value o owns the row xs; since w0 nothing has turned but new blocks and the row 'row'; o lies in that row or in a new block. -/
structure OT (w0 w : World) (row : Option Nat) (base : Nat) (e : TypeId) (sz : Nat) (o : Value) (n : Nat) (xs : List Value) : Prop where
  own : w.ownsRow base e sz o n xs
  grown : w0.grownBy w row
  lies : o.ownBlock = row ∨ ∀ k, o.ownBlock = some k → w0.heap.size ≤ k
theorem OT.start {w : World} {base : Nat} {e : TypeId} {sz : Nat} {o : Value} {n : Nat} {xs : List Value} (h : w.ownsRow base e sz o n xs) : OT w w o.ownBlock base e sz o n xs :=
  ⟨h, ⟨rfl, rfl, rfl, Nat.le_refl _, fun _ _ _ => rfl⟩, .inl rfl⟩
theorem OT.fresh {w0 w : World} {base : Nat} {e : TypeId} {sz : Nat} {o : Value} {n : Nat} {xs : List Value} (h : w.ownsRow base e sz o n xs) (hb : Below w0.heap.size w0 w) (hle : w0.heap.size ≤ base) : OT w0 w none base e sz o n xs :=
  ⟨h, grown_of_below hb _, .inr fun k hk => Nat.le_trans hle (h.lt k hk).1⟩
theorem OT.step {w0 w w' : World} {row q : Option Nat} {base : Nat} {e : TypeId} {sz : Nat} {o : Value} {n : Nat} {xs : List Value} (h : OT w0 w row base e sz o n xs) (hg : w.grownBy w' q) (hq : q = none ∨ ∀ x, q = some x → w0.heap.size ≤ x ∧ o.ownBlock ≠ some x) : OT w0 w' row base e sz o n xs :=
  ⟨h.own.kept hg (by
      rcases hq with rfl | hq
      · cases o.ownBlock <;> simp
      · cases hqq : q with
        | none => cases o.ownBlock <;> simp
        | some x => exact .inr (hq x hqq).2),
   gtrans h.grown hg (.inr fun x hx => by rcases hq with rfl | hq; cases hx; exact (hq x hx).1), h.lies⟩
theorem OT.alloc {w0 w : World} {row : Option Nat} {base : Nat} {e : TypeId} {sz : Nat} {o : Value} {n : Nat} {xs : List Value} (h : OT w0 w row base e sz o n xs) (x : Obj) : OT w0 (w.alloc x) row base e sz o n xs := h.step (World.grownBy_alloc w x none) (.inl rfl)
theorem OT.below {w0 w w' : World} {row : Option Nat} {base : Nat} {e : TypeId} {sz : Nat} {o : Value} {n : Nat} {xs : List Value} (h : OT w0 w row base e sz o n xs) (hb : Below w.heap.size w w') : OT w0 w' row base e sz o n xs := h.step (grown_of_below hb none) (.inl rfl)
theorem OT.drewN {w0 w : World} {row : Option Nat} {base : Nat} {e : TypeId} {sz : Nat} {o : Value} {n : Nat} {xs : List Value} (h : OT w0 w row base e sz o n xs) (k : Nat) : OT w0 (w.drewN k) row base e sz o n xs := h.below ⟨rfl, rfl, rfl, Nat.le_refl _, fun _ _ => rfl⟩
theorem OT.drew {w0 w : World} {row : Option Nat} {base : Nat} {e : TypeId} {sz : Nat} {o : Value} {n : Nat} {xs : List Value} (h : OT w0 w row base e sz o n xs) : OT w0 w.drew row base e sz o n xs := h.drewN 1
theorem OT.more {w0 w w' : World} {row : Option Nat} {base n' : Nat} {e : TypeId} {sz : Nat} {o o' : Value} {n : Nat} {xs xs' : List Value} (h : OT w0 w row base e sz o n xs) (h2 : w'.ownsRow base e sz o' n' xs') (h3 : w.grownBy w' o.ownBlock) (h4 : o'.ownBlock = o.ownBlock ∨ ∀ k, o'.ownBlock = some k → w.heap.size ≤ k) : OT w0 w' row base e sz o' n' xs' :=
  ⟨h2, gtrans h.grown h3 h.lies, by
    rcases h4 with h4 | h4
    · rw [h4]; exact h.lies
    · exact .inr fun k hk => Nat.le_trans h.grown.size (h4 k hk)⟩
theorem OT.belowOf {w0 w : World} {row : Option Nat} {base b : Nat} {e : TypeId} {sz : Nat} {o : Value} {n : Nat} {xs : List Value} (h : OT w0 w row base e sz o n xs) (hb : b ≤ w0.heap.size) (hr : ∀ k, row = some k → b ≤ k) : Below b w0 w := below_of_grown h.grown hb hr
section
variable {P : Program}
theorem wp_append_t {o : Oper} {a : Act} {K : Act → World → Prop} {Q : Exit → Act → World → Prop} {w : World} (s xo : Operand) (t tx : TypeId)
    (ho : o.op = .call { callee := .builtin .append, args := #[s, xo], argTypes := #[t, tx] })
    {w0 : World} {row : Option Nat} (base : Nat) (e : TypeId) (size bytes : Nat) (z : Value) (ht : P.underlying t = some (.slice e)) (hinfo : (P.info? e).map (fun i => (i.zero, i.size, i.bytes)) = some (some z, size, bytes)) (hzs : z.cells.size = size) (hsz : 0 < size)
    (v : Value) (n : Nat) (xs : List Value) (hs : a.eval s = v) (hown : OT w0 w row base e size v n xs)
    (x : Value) (m : Nat) (news : List Value) (hxe : a.eval xo = x) (hx : Src P size tx x m news w)
    (h63 : n + m ≤ maxLen) (hbytes : (n + m) * bytes ≤ 140737488355328) (hbase : base ≤ w.heap.size)
    (h : ∀ v' w', OT w0 w' row base e size v' (n + m) (xs ++ news) → w.grownBy w' v.ownBlock → K (a.put o.dst v') w') : o.wp P a w K Q := by
  obtain ⟨i, hi, hz, h1, h2⟩ := info_parts1 hinfo
  obtain ⟨v', w', hr, h3, h4, h5⟩ := run_append_lies_src (P := P) w base t tx o.type e i z size bytes ht hi hz h1 h2 hzs hsz v n xs hown.own x m news hx h63 hbytes hbase
  unfold Oper.wp execOp
  simp only [ho, resolve, invoke, builtin, Sem.run_bind, Sem.run_pure, Result.andThen_ok, List.map_toArray, List.map_cons, List.map_nil, hs, hxe, hr]
  exact h v' w' (hown.more h3 h4 (by
    rcases h5 with h5 | h5
    · exact .inl h5
    · exact .inr fun k hk => by rw [h5] at hk; cases hk; exact Nat.le_refl _)) h4
theorem wpList_append_t {ops : Array Oper} {rest : List Oper} {o : Oper} {a : Act} {Q : Exit → Act → World → Prop} {w : World} (hgd : o.guard = none) (s xo : Operand) (t tx : TypeId)
    (ho : o.op = .call { callee := .builtin .append, args := #[s, xo], argTypes := #[t, tx] })
    {w0 : World} {row : Option Nat} (base : Nat) (e : TypeId) (size bytes : Nat) (z : Value) (ht : P.underlying t = some (.slice e)) (hinfo : (P.info? e).map (fun i => (i.zero, i.size, i.bytes)) = some (some z, size, bytes)) (hzs : z.cells.size = size) (hsz : 0 < size)
    (v : Value) (n : Nat) (xs : List Value) (hs : a.eval s = v) (hown : OT w0 w row base e size v n xs)
    (x : Value) (m : Nat) (news : List Value) (hxe : a.eval xo = x) (hx : Src P size tx x m news w)
    (h63 : n + m ≤ maxLen) (hbytes : (n + m) * bytes ≤ 140737488355328) (hbase : base ≤ w.heap.size)
    (h : ∀ v' w', OT w0 w' row base e size v' (n + m) (xs ++ news) → w.grownBy w' v.ownBlock → wpList P ops Q rest (a.put o.dst v') w') : wpList P ops Q (o :: rest) a w :=
  wpList_plain hgd fun K hK => wp_append_t s xo t tx ho base e size bytes z ht hinfo hzs hsz v n xs hs hown x m news hxe hx h63 hbytes hbase fun v' w' h2 h3 => hK _ _ (h v' w' h2 h3)
theorem step_append_t {ops : Array Oper} {o : Oper} {a : Act} {K : Act → World → Prop} {Q : Exit → Act → World → Prop} {E : Prop} {w : World} (hgd : o.guard = none) (s xo : Operand) (t tx : TypeId)
    (ho : o.op = .call { callee := .builtin .append, args := #[s, xo], argTypes := #[t, tx] })
    {w0 : World} {row : Option Nat} (base : Nat) (e : TypeId) (size bytes : Nat) (z : Value) (ht : P.underlying t = some (.slice e)) (hinfo : (P.info? e).map (fun i => (i.zero, i.size, i.bytes)) = some (some z, size, bytes)) (hzs : z.cells.size = size) (hsz : 0 < size)
    (v : Value) (n : Nat) (xs : List Value) (hs : a.eval s = v) (hown : OT w0 w row base e size v n xs)
    (x : Value) (m : Nat) (news : List Value) (hxe : a.eval xo = x) (hx : Src P size tx x m news w)
    (h63 : n + m ≤ maxLen) (hbytes : (n + m) * bytes ≤ 140737488355328) (hbase : base ≤ w.heap.size)
    (h : ∀ v' w', OT w0 w' row base e size v' (n + m) (xs ++ news) → w.grownBy w' v.ownBlock → K (a.put o.dst v') w') :
    if Region.wanted o (yielded ops a.tmps) = true then Oper.wp P o a w K Q else E := by
  have hw : Region.wanted o (yielded ops a.tmps) = true := by simp [Region.wanted, hgd]
  rw [if_pos hw]
  exact wp_append_t s xo t tx ho base e size bytes z ht hinfo hzs hsz v n xs hs hown x m news hxe hx h63 hbytes hbase h
end
/-- Bytes: an owned row of bytes since w0. -/
abbrev OB (w0 w : World) (row : Option Nat) (base : Nat) (o : Value) (l : List UInt8) : Prop := OT w0 w row base 5 1 o l.length (cb l)
theorem OB.lit {w W : World} (hb : Below w.heap.size w W) (cs : Array Value) (L : List UInt8) (hl : L.length ≤ maxLen) (h : cs.toList = cb L) : OB w (W.alloc (.cells cs 5)) none w.heap.size (.slice (some ⟨W.heap.size, 0, none⟩) L.length L.length) L :=
  OT.fresh (own_lit W w.heap.size hb.size cs L hl h) (hb.alloc hb.size _) (Nat.le_refl _)
theorem OB.sl {w0 w : World} {row : Option Nat} {base : Nat} {o : Value} {l : List UInt8} (h : OB w0 w row base o l) : ∃ a cap, o = .slice a l.length cap ∧ Bt w a l.length cap l := own_sl h.own
section
variable {ops : Array Oper} {rest : List Oper} {o : Oper} {a : Act} {Q : Exit → Act → World → Prop} {K : Act → World → Prop} {E : Prop} {w w0 : World} {row : Option Nat}
/-- 'append(s, x...)' of bytes, x a slice -/
theorem wpList_append_ob (hgd : o.guard = none) (s xo : Operand) (ho : o.op = .call { callee := .builtin .append, args := #[s, xo], argTypes := #[88, 88] })
    (base : Nat) (v : Value) (l m : List UInt8) (hs : a.eval s = v) (hown : OB w0 w row base v l) (xa : Option Addr) (xn xc : Nat) (hxe : a.eval xo = .slice xa xn xc) (hx : Bt w xa xn xc m)
    (hlen : l.length + m.length ≤ 140737488355328) (hbase : base ≤ w.heap.size)
    (h : ∀ v' w', OB w0 w' row base v' (l ++ m) → w.grownBy w' v.ownBlock → wpList Try.prog ops Q rest (a.put o.dst v') w') : wpList Try.prog ops Q (o :: rest) a w := by
  have hn := Bt.n hx
  refine wpList_append_t hgd s xo 88 88 ho base 5 1 1 (.int .u8 0) Try.underlying88 info_u8 rfl (by decide) v l.length (cb l) hs hown (.slice xa xn xc) xn (cb m) hxe (Sl.src hx Try.underlying88 (cb_one m)) (by unfold maxLen; omega) (by omega) hbase ?_
  intro v' w' h1 h2
  refine h v' w' ?_ h2
  unfold OB; rw [List.length_append, cb_append, hn]; exact h1
theorem step_append_ob (hgd : o.guard = none) (s xo : Operand) (ho : o.op = .call { callee := .builtin .append, args := #[s, xo], argTypes := #[88, 88] })
    (base : Nat) (v : Value) (l m : List UInt8) (hs : a.eval s = v) (hown : OB w0 w row base v l) (xa : Option Addr) (xn xc : Nat) (hxe : a.eval xo = .slice xa xn xc) (hx : Bt w xa xn xc m)
    (hlen : l.length + m.length ≤ 140737488355328) (hbase : base ≤ w.heap.size)
    (h : ∀ v' w', OB w0 w' row base v' (l ++ m) → w.grownBy w' v.ownBlock → K (a.put o.dst v') w') : if Region.wanted o (yielded ops a.tmps) = true then Oper.wp Try.prog o a w K Q else E := by
  have hn := Bt.n hx
  refine step_append_t hgd s xo 88 88 ho base 5 1 1 (.int .u8 0) Try.underlying88 info_u8 rfl (by decide) v l.length (cb l) hs hown (.slice xa xn xc) xn (cb m) hxe (Sl.src hx Try.underlying88 (cb_one m)) (by unfold maxLen; omega) (by omega) hbase ?_
  intro v' w' h1 h2
  refine h v' w' ?_ h2
  unfold OB; rw [List.length_append, cb_append, hn]; exact h1
theorem byteCells_cb (x : ByteArray) : byteCells x = cb x.data.toList := rfl
/-- .. x a string -/
theorem step_append_os (hgd : o.guard = none) (s xo : Operand) (ho : o.op = .call { callee := .builtin .append, args := #[s, xo], argTypes := #[88, 9] })
    (base : Nat) (v : Value) (l : List UInt8) (hs : a.eval s = v) (hown : OB w0 w row base v l) (x : ByteArray) (hxe : a.eval xo = .string x)
    (hlen : l.length + x.size ≤ 140737488355328) (hbase : base ≤ w.heap.size)
    (h : ∀ v' w', OB w0 w' row base v' (l ++ x.data.toList) → w.grownBy w' v.ownBlock → K (a.put o.dst v') w') : if Region.wanted o (yielded ops a.tmps) = true then Oper.wp Try.prog o a w K Q else E := by
  refine step_append_t hgd s xo 88 9 ho base 5 1 1 (.int .u8 0) Try.underlying88 info_u8 rfl (by decide) v l.length (cb l) hs hown (.string x) x.size (byteCells x) hxe (Src.ofString w Try.underlying9 x) (by unfold maxLen; omega) (by omega) hbase ?_
  intro v' w' h1 h2
  refine h v' w' ?_ h2
  unfold OB; rw [List.length_append, cb_append, ← byteCells_cb]
  have e : x.data.toList.length = x.size := by simp
  rw [e]; exact h1
end
/-- A block that holds a value of another type than the row is as it was. -/
theorem grown_other {w w' : World} {base : Nat} {e t : TypeId} {sz n b : Nat} {o : Value} {xs : List Value} {cs : Array Value} {fr : Nat × Nat} (hown : w.ownsRow base e sz o n xs) (hg : w.grownBy w' o.ownBlock) (hb : w.heap[b]? = some (.cells cs t fr)) (hne : e ≠ t) : w'.heap[b]? = some (.cells cs t fr) := by
  rw [hg.block b (Array.getElem?_eq_some_iff.1 hb).1 (fun he => ?_)]
  · exact hb
  · rcases hown.2 with ⟨rfl, _⟩ | ⟨g, cap, cur, rfl, _, hh, _⟩
    · simp [Value.ownBlock] at he
    · have : b = g := by simpa [Value.ownBlock] using he
      subst this
      rw [hb] at hh
      injection hh with hh
      injection hh with _ ht
      exact hne ht.symm
theorem own_blk_ne {w : World} {base : Nat} {e t : TypeId} {sz n b : Nat} {o : Value} {xs : List Value} {cs : Array Value} {fr : Nat × Nat} (hown : w.ownsRow base e sz o n xs) (hb : w.heap[b]? = some (.cells cs t fr)) (hne : e ≠ t) : o.ownBlock ≠ some b := by
  intro he
  rcases hown.2 with ⟨rfl, _⟩ | ⟨g, cap, cur, rfl, _, hh, _⟩
  · simp [Value.ownBlock] at he
  · have : g = b := by simpa [Value.ownBlock] using he
    subst this
    rw [hb] at hh
    injection hh with hh
    injection hh with _ ht
    exact hne ht.symm
theorem blk_below {w w' : World} {b : Nat} {o : Obj} (hb : w.heap[b]? = some o) (h : Below w.heap.size w w') : w'.heap[b]? = some o := by
  rw [h.block b (Array.getElem?_eq_some_iff.1 hb).1]; exact hb
theorem blk_cell {w : World} {b i : Nat} {cs : Array Value} {t : TypeId} {fr : Nat × Nat} (hb : w.heap[b]? = some (.cells cs t fr)) : w.cell? ⟨b, i, none⟩ = cs[i]? := by simp [World.cell?, hb]
theorem blk_free {w : World} {b i : Nat} {cs : Array Value} {t : TypeId} (hb : w.heap[b]? = some (.cells cs t (0, 0))) : w.frozen? ⟨b, i, none⟩ = false := by simp [World.frozen?, hb]
theorem cell_at {w : World} {b : Nat} (h : w.heap.size = b) (cs : Array Value) (t : TypeId) (i : Nat) : (w.alloc (.cells cs t)).cell? ⟨b, i, none⟩ = cs[i]? := by subst h; exact cell_new w cs t i
theorem cell_atD {w : World} {b : Nat} (h : w.heap.size = b) (cs : Array Value) (t : TypeId) (i : Nat) : (w.alloc (.cells cs t)).drew.cell? ⟨b, i, none⟩ = cs[i]? := cell_at h cs t i
theorem blk_new (w : World) (o : Obj) : (w.alloc o).heap[w.heap.size]? = some o := heap_alloc_new w o
theorem blk_old {w : World} {b : Nat} {o o' : Obj} (hb : w.heap[b]? = some o) : (w.alloc o').heap[b]? = some o := by rw [heap_alloc_old w o' (Array.getElem?_eq_some_iff.1 hb).1]; exact hb
theorem blk_lt {w : World} {b : Nat} {o : Obj} (hb : w.heap[b]? = some o) : b < w.heap.size := (Array.getElem?_eq_some_iff.1 hb).1
end Go.Proofs.Ythhcdfjijagalaa
namespace Go.Proofs.Ythhcdfjijagalaa
open Go.RowKit
set_option linter.unusedVariables false
/-- Since w nothing has turned but the blocks in S and new ones. -/
structure Only (w w' : World) (S : List Nat) : Prop where
  os : w'.os = w.os
  tape : w'.tape = w.tape
  output : w'.output = w.output
  size : w.heap.size ≤ w'.heap.size
  block : ∀ k, k < w.heap.size → k ∉ S → w'.heap[k]? = w.heap[k]?
theorem Only.refl (w : World) (S : List Nat) : Only w w S := ⟨rfl, rfl, rfl, Nat.le_refl _, fun _ _ _ => rfl⟩
theorem Only.more {w0 w w' : World} {S : List Nat} {q : Option Nat} (h : Only w0 w S) (k : w.grownBy w' q) (hq : ∀ x, q = some x → x ∈ S ∨ w0.heap.size ≤ x) : Only w0 w' S :=
  ⟨k.os.trans h.os, k.tape.trans h.tape, k.output.trans h.output, Nat.le_trans h.size k.size, fun i hi hne => by
    refine (k.block i (Nat.lt_of_lt_of_le hi h.size) (fun e => ?_)).trans (h.block i hi hne)
    rcases hq i e.symm with h1 | h1
    · exact hne h1
    · omega⟩
theorem Only.alloc {w0 w : World} {S : List Nat} (h : Only w0 w S) (o : Obj) : Only w0 (w.alloc o) S := h.more (World.grownBy_alloc w o none) (fun x e => by cases e)
theorem Only.below {w0 w w' : World} {S : List Nat} (h : Only w0 w S) (hb : Below w.heap.size w w') : Only w0 w' S := h.more (grown_of_below hb none) (fun x e => by cases e)
theorem Only.setCell {w0 w : World} {S : List Nat} (h : Only w0 w S) {a : Addr} (ha : a.block ∈ S ∨ w0.heap.size ≤ a.block) (v : Value) : Only w0 (w.setCell a v) S :=
  ⟨h.os, h.tape, h.output, by simpa using h.size, fun k hk hn => by
    rw [Below.heap_setCell _ _ _ _ (fun e => ?_)]
    · exact h.block k hk hn
    · rcases ha with h1 | h1
      · exact hn (e ▸ h1)
      · omega⟩
theorem Only.isBelow {w w' : World} {S : List Nat} {b : Nat} (h : Only w w' S) (hb : b ≤ w.heap.size) (hS : ∀ x ∈ S, b ≤ x) : Below b w w' :=
  ⟨h.os, h.tape, h.output, h.size, fun k hk => h.block k (by omega) (fun hm => by have := hS k hm; omega)⟩
theorem Only.own {w w' : World} {S : List Nat} {base : Nat} {e : TypeId} {sz : Nat} {o : Value} {n : Nat} {xs : List Value} (h : Only w w' S) (ho : w.ownsRow base e sz o n xs) (hS : ∀ x ∈ S, o.ownBlock ≠ some x) : w'.ownsRow base e sz o n xs := by
  refine ⟨ho.1, ?_⟩
  rcases ho.2 with h2 | ⟨g, cap, cur, rfl, hg, hh, r⟩
  · exact .inl h2
  · exact .inr ⟨g, cap, cur, rfl, hg, by rw [h.block g (Array.getElem?_eq_some_iff.1 hh).1 (fun hm => hS g hm rfl)]; exact hh, r⟩
theorem Only.blk {w w' : World} {S : List Nat} {b : Nat} {o : Obj} (h : Only w w' S) (hb : w.heap[b]? = some o) (hS : b ∉ S) : w'.heap[b]? = some o := by
  rw [h.block b (Array.getElem?_eq_some_iff.1 hb).1 hS]; exact hb
theorem Only.grown {w w' : World} {r : Nat} (h : Only w w' [r]) : w.grownBy w' (some r) := ⟨h.os, h.tape, h.output, h.size, fun k hk hne => h.block k hk (by simpa using fun e => hne (by rw [e]))⟩
theorem heap_ne {w : World} {a b : Nat} {cs cs' : Array Value} {t t' : TypeId} {fr fr' : Nat × Nat} (ha : w.heap[a]? = some (.cells cs t fr)) (hb : w.heap[b]? = some (.cells cs' t' fr')) (hne : t ≠ t') : a ≠ b := by
  rintro rfl
  rw [ha] at hb
  injection hb with hb
  injection hb with _ ht
  exact hne ht
theorem Src.ofLit {P : Program} (W : World) (cs : Array Value) (t : TypeId) (m sz : Nat) {tx e' : TypeId} (hk : P.underlying tx = some (.slice e')) (hs : cs.size = m * sz) (h1 : ∀ u ∈ cs.toList, u.oneCell' = true) :
    Src P sz tx (.slice (some ⟨W.heap.size, 0, none⟩) m m) m cs.toList (W.alloc (.cells cs t)) :=
  Src.ofSlice _ hk _ m m cs.toList (by simpa using hs) (fun j u hj => by rw [add_off, Nat.zero_add, cell_new]; simpa using hj) h1
end Go.Proofs.Ythhcdfjijagalaa
