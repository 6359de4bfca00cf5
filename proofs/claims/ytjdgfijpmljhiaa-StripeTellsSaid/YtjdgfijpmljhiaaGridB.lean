/- Making and building matrices: make, append of a row; rows of bytes that are written. -/
import Derived.Test.YtjdgfijpmljhiaaGridA
namespace Go.Proofs.Ytjdgfijpmljhiaa
open Go.RowKit
set_option linter.unusedVariables false
theorem info_bytest : (Try.prog.info? 48).map (fun i => (i.zero, i.size, i.bytes)) = some (some (.slice none 0 0), 1, 24) := by kernel_rfl
theorem und_Matrix : Try.prog.underlying 88 = some (.slice 48) := Try.underlying88
theorem und_rowst : Try.prog.underlying 50 = some (.slice 48) := Try.underlying50
theorem madeCells_nil (n : Nat) : (madeCells (Value.cells (.slice none 0 0)) (n * 1)).toList = List.replicate n (.slice none 0 0) := by
  simp only [madeCells, Value.cells, Nat.mul_one]
  apply List.ext_getElem
  · simp
  · intro i h1 h2
    simp [Nat.mod_one]
/-- 'make([][]byte, n)' -/
theorem wpList_make_mat {ops : Array Oper} {rest : List Oper} {o : Oper} {a : Act} {Q : Exit → Act → World → Prop} {w : World} (hg : o.guard = none) (l c : Operand) (tt : TypeId) (htt : Try.prog.underlying tt = some (.slice 48)) (hop : o.op = Op.makeSlice tt l c)
    (n : Nat) (hl : a.eval l = .int .i64 (n : Int)) (hc : a.eval c = .int .i64 (n : Int)) (hn : n ≤ 65536)
    (hK : ∀ w', Mo w' w.heap.size w.heap.size n n [] → Below w.heap.size w w' → w.heap.size < w'.heap.size → wpList Try.prog ops Q rest (a.put o.dst (.slice (some ⟨w.heap.size, 0, none⟩) n n)) w') :
    wpList Try.prog ops Q (o :: rest) a w := by
  obtain ⟨i, hi, hz, h1, h2⟩ := info_parts1 info_bytest
  refine wpList_make_full w hg l c tt hop w.heap.size 48 i (.slice none 0 0) 1 htt hi hz h1 .i64 .i64 n n n hl hc rfl rfl (by rw [h2]; omega) (by unfold maxLen; omega) (Nat.le_refl _) ?_
  intro w' ho hgr
  have hlt := (ho.lt _ rfl).2
  refine hK w' ⟨Nat.zero_le _, ?_, (fun r hr => by cases hr), List.nodup_nil⟩ (Below.grown (Below.refl _ _) hgr (Nat.le_refl _) (by intro k hk; cases hk)) hlt
  rw [madeCells_nil] at ho
  simpa using ho
/-! ### matrices that are built row by row, to be read -/
/-- Row r lies not in the block of v. -/
def Apart (v : Value) (r : Rw) : Prop := 0 < r.n → ∀ b off, r.a = some ⟨b, off, none⟩ → v.ownBlock ≠ some b
structure Mb (w0 w : World) (row : Option Nat) (base : Nat) (v : Value) (R : List Rw) : Prop where
  own : OT w0 w row base 48 1 v R.length (rwCells R)
  bt : ∀ r ∈ R, Bt w r.a r.n r.cap r.l
  apart : ∀ r ∈ R, Apart v r
theorem Bt.lt' {w : World} {b off n cap : Nat} {l : List UInt8} (h : Bt w (some ⟨b, off, none⟩) n cap l) (hn : 0 < n) : b < w.heap.size := Sl.lt h hn (by decide)
/-- bytes in a block that has not turned -/
theorem Sl.grown {w w' : World} {sz : Nat} {a : Option Addr} {n cap : Nat} {cs : List Value} (h : Sl w sz a n cap cs) {q : Option Nat} (hg : w.grownBy w' q) (hne : 0 < n → ∀ b off, a = some ⟨b, off, Option.none⟩ → q ≠ some b) : Sl w' sz a n cap cs :=
  ⟨h.le, h.max, h.len, h.nil, fun hn => by
    obtain ⟨b, off, e, hc⟩ := h.addr hn
    refine ⟨b, off, e, fun j u hj => ?_⟩
    have h1 := hc j u hj
    have hlt := World.block_lt_of_cell? _ _ h1
    rw [World.cell?_of_block (w := w) (hg.block b hlt (fun e2 => hne hn b off e e2.symm))]
    exact h1⟩
theorem Mb.nil (w0 w : World) (hb : Below w0.heap.size w0 w) (base : Nat) (hle : w0.heap.size ≤ base) : Mb w0 w none base (.slice none 0 0) [] := ⟨OT.fresh (World.ownsRow_nil _ _ _ _) hb hle, (fun r hr => by cases hr), (fun r hr => by cases hr)⟩
theorem Mb.below {w0 w w' : World} {row : Option Nat} {base : Nat} {v : Value} {R : List Rw} (h : Mb w0 w row base v R) (hb : Below w.heap.size w w') : Mb w0 w' row base v R := ⟨h.own.below hb, fun r hr => (h.bt r hr).below hb, h.apart⟩
theorem Mb.alloc {w0 w : World} {row : Option Nat} {base : Nat} {v : Value} {R : List Rw} (h : Mb w0 w row base v R) (o : Obj) : Mb w0 (w.alloc o) row base v R := h.below ((Below.refl _ _).alloc (Nat.le_refl _) o)
theorem Mb.ms {w0 w : World} {row : Option Nat} {base : Nat} {v : Value} {R : List Rw} (h : Mb w0 w row base v R) : ∃ a cap, v = .slice a R.length cap ∧ Ms w a R.length cap R := by
  obtain ⟨a, cap, e, hs⟩ := own_sl h.own.own
  exact ⟨a, cap, e, hs, h.bt⟩
theorem Mb.grown {w0 w w' : World} {row q : Option Nat} {base : Nat} {v : Value} {R : List Rw} (h : Mb w0 w row base v R) (hg : w.grownBy w' q) (hq : ∀ x, q = some x → w0.heap.size ≤ x ∧ v.ownBlock ≠ some x ∧ ∀ r ∈ R, 0 < r.n → ∀ b off, r.a = some ⟨b, off, none⟩ → b ≠ x) : Mb w0 w' row base v R :=
  ⟨h.own.step hg (.inr fun x hx => ⟨(hq x hx).1, (hq x hx).2.1⟩), fun r hr => (h.bt r hr).grown hg (fun hn b off e e2 => (hq b e2).2.2 r hr hn b off e rfl), h.apart⟩
/-- a row that lies below the base, or is own, is apart -/
theorem apart_old {w : World} {base n : Nat} {v : Value} {xs : List Value} {t : TypeId} (h : w.ownsRow base t 1 v n xs) {r : Rw} (hr : 0 < r.n → ∀ b off, r.a = some ⟨b, off, none⟩ → b < base) : Apart v r := fun hn b off e e2 => by
  have h1 := hr hn b off e
  have h2 := (h.lt b e2).1
  omega
theorem apart_own {w : World} {base base' n m g cap : Nat} {v : Value} {xs ys : List Value} (h : w.ownsRow base 48 1 v n xs) (hr : w.ownsRow base' 5 1 (.slice (some ⟨g, 0, none⟩) m cap) m ys) (l : List UInt8) : Apart v ⟨some ⟨g, 0, none⟩, m, cap, l⟩ := fun hn b off e => by
  cases e
  obtain ⟨cur, hg, _⟩ := own_row hr
  exact own_blk_ne h hg (by decide)
theorem Mb.more {w0 w w' : World} {row : Option Nat} {base : Nat} {v v' : Value} {R : List Rw} {r : Rw} (h : Mb w0 w row base v R) (ho : OT w0 w' row base 48 1 v' (R.length + 1) (rwCells R ++ [r.v])) (hg : w.grownBy w' v.ownBlock) (hl : v'.ownBlock = v.ownBlock ∨ ∀ k, v'.ownBlock = some k → w.heap.size ≤ k)
    (hb : Bt w r.a r.n r.cap r.l) (ha : Apart v r) : Mb w0 w' row base v' (R ++ [r]) := by
  have hbt : ∀ q ∈ R ++ [r], Bt w q.a q.n q.cap q.l ∧ Apart v q := fun q hq => by
    rcases List.mem_append.1 hq with hq | hq
    · exact ⟨h.bt q hq, h.apart q hq⟩
    · obtain rfl := List.mem_singleton.1 hq
      exact ⟨hb, ha⟩
  refine ⟨?_, fun q hq => (hbt q hq).1.grown hg (hbt q hq).2, fun q hq => ?_⟩
  · have e : rwCells (R ++ [r]) = rwCells R ++ [r.v] := by simp [rwCells]
    rw [e, List.length_append]
    exact ho
  · rcases hl with hl | hl
    · intro hn b off e
      rw [hl]; exact (hbt q hq).2 hn b off e
    · intro hn b off e e2
      have h1 := hl b e2
      have h2 := Bt.lt' (e ▸ (hbt q hq).1) hn
      omega
/-- 'append(out, r)' -/
theorem wpList_append_row {ops : Array Oper} {rest : List Oper} {o : Oper} {a : Act} {Q : Exit → Act → World → Prop} {W : World} (hgd : o.guard = none) (s xo : Operand) (tt : TypeId) (htt : Try.prog.underlying tt = some (.slice 48))
    (ho : o.op = .call { callee := .builtin .append, args := #[s, xo], argTypes := #[tt, tt] })
    {w0 : World} {row : Option Nat} (base : Nat) (v : Value) (R : List Rw) (hs : a.eval s = v) (h : Mb w0 W row base v R) (r : Rw) (b : Nat) (hbs : W.heap.size = b) (hxe : a.eval xo = .slice (some ⟨b, 0, none⟩) 1 1)
    (hb : Bt W r.a r.n r.cap r.l) (ha : Apart v r) (hlen : R.length ≤ 65536) (hbase : base ≤ W.heap.size)
    (K : ∀ v' w', Mb w0 w' row base v' (R ++ [r]) → (W.alloc (.cells #[.slice r.a r.n r.cap] 48)).grownBy w' v.ownBlock → wpList Try.prog ops Q rest (a.put o.dst v') w') : wpList Try.prog ops Q (o :: rest) a (W.alloc (.cells #[.slice r.a r.n r.cap] 48)) := by
  subst hbs
  have h1 := h.alloc (.cells #[.slice r.a r.n r.cap] 48)
  obtain ⟨i, hi, hz, e1, e2⟩ := info_parts1 info_bytest
  have hsrc : Src Try.prog 1 tt (.slice (some ⟨W.heap.size, 0, none⟩) 1 1) 1 [.slice r.a r.n r.cap] (W.alloc (.cells #[.slice r.a r.n r.cap] 48)) := Src.ofLit W #[.slice r.a r.n r.cap] 48 1 1 htt rfl (by simp [Value.oneCell'])
  obtain ⟨v', w', hr, h3, h4, h5⟩ := run_append_lies_src (P := Try.prog) (W.alloc (.cells #[.slice r.a r.n r.cap] 48)) base tt tt o.type 48 i (.slice none 0 0) 1 24 htt hi hz e1 e2 rfl (by decide) v R.length (rwCells R) h1.own.own _ 1 _ hsrc (by unfold maxLen; omega) (by omega) (by simp; omega)
  have h5' : v'.ownBlock = v.ownBlock ∨ ∀ k, v'.ownBlock = some k → (W.alloc (.cells #[.slice r.a r.n r.cap] 48)).heap.size ≤ k := by
    rcases h5 with h5 | h5
    · exact .inl h5
    · exact .inr fun k hk => by rw [h5] at hk; cases hk; exact Nat.le_refl _
  refine wpList_value hgd ?_ (K v' w' (h1.more (h1.own.more h3 h4 h5') h4 h5' (hb.alloc _) ha) h4)
  unfold execOp
  simp only [ho, resolve, invoke, builtin, Sem.run_bind, Sem.run_pure, Result.andThen_ok, List.map_toArray, List.map_cons, List.map_nil, hs, hxe, hr]
/-! ### one row of bytes, written -/
theorem byte_len {w : World} {base g n cap : Nat} {m : List UInt8} (h : w.ownsRow base 5 1 (.slice (some ⟨g, 0, none⟩) n cap) n (cb m)) : m.length = n := by
  have := h.1; simpa [cb] using this
theorem own_bt {w : World} {base g n cap : Nat} {m : List UInt8} (h : w.ownsRow base 5 1 (.slice (some ⟨g, 0, none⟩) n cap) n (cb m)) : Bt w (some ⟨g, 0, none⟩) n cap m := by
  obtain ⟨a, c, e, hs⟩ := own_sl h
  cases e
  exact hs
theorem byte_at {w : World} {base g n cap : Nat} {m : List UInt8} (h : w.ownsRow base 5 1 (.slice (some ⟨g, 0, none⟩) n cap) n (cb m)) (k : Nat) (hk : k < n) : w.cell? ⟨g, k, none⟩ = some (.int .u8 (at8 m k)) := by
  rw [h.cellAt k (by omega)]
  exact cb_get m k (by rw [byte_len h]; exact hk)
theorem byte_free {w : World} {base g n cap : Nat} {m : List UInt8} (h : w.ownsRow base 5 1 (.slice (some ⟨g, 0, none⟩) n cap) n (cb m)) (k : Nat) : w.frozen? ⟨g, k, none⟩ = false := h.frozenAt k
theorem byte_set {w : World} {base g n cap : Nat} {m : List UInt8} (h : w.ownsRow base 5 1 (.slice (some ⟨g, 0, none⟩) n cap) n (cb m)) (k v : Nat) (y : UInt8) (hy : y.toNat = v) :
    (w.setCell ⟨g, k, none⟩ (.int .u8 (v : Int))).ownsRow base 5 1 (.slice (some ⟨g, 0, none⟩) n cap) n (cb (m.set k y)) := by
  rw [cb_set, hy]
  exact (World.ownsRow.stored h k _).1
theorem getD_set {m : List UInt8} {k : Nat} (hk : k < m.length) (y : UInt8) (j : Nat) : (m.set k y).getD j 0 = if j = k then y else m.getD j 0 := by
  by_cases e : j = k
  · subst e; simp [List.getD, hk]
  · rw [if_neg e]; simp [List.getD, List.getElem?_set_ne (Ne.symm e)]
theorem getD_app (l m : List UInt8) {j : Nat} (h : j < l.length) : (l ++ m).getD j 0 = l.getD j 0 := by simp [List.getD, List.getElem?_append_left h]
theorem getD_end (l : List UInt8) (y : UInt8) {j : Nat} (h : l.length = j) : (l ++ [y]).getD j 0 = y := by subst h; simp [List.getD]
theorem rwData_at {R : List Rw} {i : Nat} (hi : i < (rwData R).length) : (rwData R)[i] = (R[i]'(by simpa [rwData] using hi)).l := by simp [rwData]
theorem at8_getD (m : List UInt8) (k : Nat) : at8 m k = (m.getD k 0).toNat := rfl
/-- A row of the call's own has come to be f's; nothing else has turned. -/
def RowRes (base g n cap : Nat) (f : Nat → UInt8) (w : World) (e : Ending) (w' : World) : Prop :=
  e = .returned (.tuple #[]) ∧ ∃ m, w'.ownsRow base 5 1 (.slice (some ⟨g, 0, none⟩) n cap) n (cb m) ∧ (∀ j, j < n → m.getD j 0 = f j) ∧ Only w w' [g]
end Go.Proofs.Ytjdgfijpmljhiaa
