/- More small laws that walks share: what a call leaves of memory, as rules; an owned row that is not empty. -/
import Derived.Test.YtjdgfijpmljhiaaMem
import Derived.Laws.CopyOwn
namespace Go.Proofs.Ytjdgfijpmljhiaa
open Go.RowKit
set_option linter.unusedVariables false
theorem bcell {W w1 : World} (hb : Below W.heap.size W w1) : (∀ b o, b < W.heap.size → w1.cell? ⟨b, o, none⟩ = W.cell? ⟨b, o, none⟩) ∧ (∀ b o, b < W.heap.size → w1.frozen? ⟨b, o, none⟩ = W.frozen? ⟨b, o, none⟩) :=
  ⟨fun b o h => hb.cell (p := ⟨b, o, none⟩) h, fun b o h => hb.frozen (p := ⟨b, o, none⟩) h⟩
theorem cell_new (w : World) (cs : Array Value) (t : TypeId) (i : Nat) : (w.alloc (.cells cs t)).cell? ⟨w.heap.size, i, none⟩ = cs[i]? := by simp
theorem cell_old {w : World} {o : Obj} {b i : Nat} (h : b < w.heap.size) : (w.alloc o).cell? ⟨b, i, none⟩ = w.cell? ⟨b, i, none⟩ := (((Below.refl w.heap.size w).alloc (Nat.le_refl _) o).cell (p := ⟨b, i, none⟩) h)
theorem frozen_old {w : World} {o : Obj} {b i : Nat} (h : b < w.heap.size) : (w.alloc o).frozen? ⟨b, i, none⟩ = w.frozen? ⟨b, i, none⟩ := (((Below.refl w.heap.size w).alloc (Nat.le_refl _) o).frozen (p := ⟨b, i, none⟩) h)
theorem own_pos {w : World} {base : Nat} {e : TypeId} {sz : Nat} {v : Value} {n : Nat} {xs : List Value} (h : w.ownsRow base e sz v n xs) (hn : 0 < n) : ∃ g cap, v = .slice (some ⟨g, 0, none⟩) n cap ∧ base ≤ g ∧ g < w.heap.size ∧ n ≤ cap ∧ cap ≤ maxLen := by
  rcases h.2 with ⟨rfl, rfl⟩ | ⟨g, cap, cur, rfl, hb, hg, hn, hm, hs, ht⟩
  · omega
  · exact ⟨g, cap, rfl, hb, (Array.getElem?_eq_some_iff.1 hg).1, hn, hm⟩
theorem cb_set (l : List UInt8) (i : Nat) (y : UInt8) : cb (l.set i y) = (cb l).set i (.int .u8 (y.toNat : Int)) := by simp [cb, List.map_set]
theorem u8_xor (a b : Nat) (ha : a < 256) (hb : b < 256) : (UInt8.ofNat (a ^^^ b)).toNat = a ^^^ b := by
  have : a ^^^ b < 2 ^ 8 := Nat.xor_lt_two_pow ha hb
  rw [UInt8.toNat_ofNat']; exact Nat.mod_eq_of_lt this
theorem xor_ne (a b : Nat) (h : b ≠ 0) : a ^^^ b ≠ a := by
  intro e
  apply h
  have : a ^^^ (a ^^^ b) = a ^^^ a := by rw [e]
  rwa [← Nat.xor_assoc, Nat.xor_self, Nat.zero_xor] at this
/-- 'make([]byte, n)' -/
theorem wpList_make_bytes {ops : Array Oper} {rest : List Oper} {o : Oper} {a : Act} {Q : Exit → Act → World → Prop} {w : World} (hg : o.guard = none) (l c : Operand) (hop : o.op = Op.makeSlice 48 l c)
    (n : Nat) (hl : a.eval l = .int .i64 (n : Int)) (hc : a.eval c = .int .i64 (n : Int)) (hn : n ≤ 140737488355328)
    (hK : ∀ w', w'.ownsRow w.heap.size 5 1 (.slice (some ⟨w.heap.size, 0, none⟩) n n) n (cb (List.replicate n 0)) → Below w.heap.size w w' → w.heap.size < w'.heap.size → wpList Try.prog ops Q rest (a.put o.dst (.slice (some ⟨w.heap.size, 0, none⟩) n n)) w') :
    wpList Try.prog ops Q (o :: rest) a w := by
  obtain ⟨i, hi, hz, h1, h2⟩ := info_parts1 info_u8
  refine wpList_make_full w hg l c 48 hop w.heap.size 5 i (.int .u8 0) 1 Try.underlying48 hi hz h1 .i64 .i64 n n n hl hc rfl rfl (by rw [h2]; omega) (by unfold maxLen; omega) (Nat.le_refl _) ?_
  intro w' ho hgr
  have hlt := (ho.lt _ rfl).2
  refine hK w' ?_ (Below.grown (Below.refl _ _) hgr (Nat.le_refl _) (by intro k hk; cases hk)) hlt
  have e : (madeCells (Value.cells (.int .u8 0)) (n * 1)).toList = cb (List.replicate n 0) := by
    simp only [madeCells, Value.cells, cb, Nat.mul_one, List.map_replicate]
    apply List.ext_getElem
    · simp
    · intro i h1 h2
      simp [Nat.mod_one]
  rw [← e]; exact ho
theorem own_row {w : World} {base : Nat} {e : TypeId} {g n cap : Nat} {xs : List Value} (h : w.ownsRow base e 1 (.slice (some ⟨g, 0, none⟩) n cap) n xs) :
    ∃ cur : List Value, w.heap[g]? = some (.cells cur.toArray e (0, 0)) ∧ base ≤ g ∧ n ≤ cap ∧ cap ≤ maxLen ∧ cur.length = cap ∧ cur.take n = xs := by
  rcases h.2 with ⟨h', _⟩ | ⟨g', cap', cur, h', hb, hg, hnc, hcm, hcs, ht⟩
  · simp at h'
  · simp only [Value.slice.injEq, Option.some.injEq, Addr.mk.injEq, and_true, true_and] at h'
    obtain ⟨rfl, rfl⟩ := h'
    exact ⟨cur.toList, by simpa using hg, hb, hnc, hcm, by simpa using hcs, by simpa using ht⟩
theorem own_of_row {w : World} {base : Nat} {e : TypeId} {g n cap : Nat} {xs : List Value} {cur : List Value} (hg : w.heap[g]? = some (.cells cur.toArray e (0, 0))) (hb : base ≤ g) (hn : n ≤ cap) (hc : cap ≤ maxLen) (hl : cur.length = cap) (ht : cur.take n = xs) :
    w.ownsRow base e 1 (.slice (some ⟨g, 0, none⟩) n cap) n xs :=
  ⟨by rw [← ht, List.length_take]; omega, .inr ⟨g, cap, cur.toArray, rfl, hb, hg, hn, hc, by simpa using hl, by simpa using ht⟩⟩
/-- 'copy(s, x)' of bytes. -/
theorem wpList_copy_bytes {ops : Array Oper} {rest : List Oper} {o : Oper} {a : Act} {Q : Exit → Act → World → Prop} {w : World} (hgd : o.guard = none) (d s : Operand)
    (ho : o.op = .call { callee := .builtin .copy, args := #[d, s], argTypes := #[48, 48] })
    (base g n cap : Nat) (l m : List UInt8) (hd : a.eval d = .slice (some ⟨g, 0, none⟩) n cap) (hown : w.ownsRow base 5 1 (.slice (some ⟨g, 0, none⟩) n cap) n (cb l))
    (xa : Option Addr) (xn xc : Nat) (hs : a.eval s = .slice xa xn xc) (hx : Bt w xa xn xc m) (b0 : Nat) (w0 : World) (hb0 : Below b0 w0 w) (hle : b0 ≤ base)
    (h : ∀ w' r, w'.ownsRow base 5 1 (.slice (some ⟨g, 0, none⟩) n cap) n (cb (m.take n ++ l.drop xn)) → Below b0 w0 w' → wpList Try.prog ops Q rest (a.put o.dst r) w') : wpList Try.prog ops Q (o :: rest) a w := by
  obtain ⟨cur, hg, hbg, hnc, hcm, hcl, hct⟩ := own_row hown
  have hmn := Bt.n hx
  have hln : l.length = n := by have := hown.1; simpa [cb] using this
  refine wpList_copy_splice hgd d s 48 48 ho 5 Try.underlying48 (by kernel_rfl) (some ⟨g, 0, none⟩) xa n cap xn xc hd hs g 0 cur 5 hg (cb (m.take n)) (by rw [cb_length, List.length_take, hmn]; exact Nat.min_comm _ _) (fun hp => ?_)
    (by rw [cb_length, List.length_take]; omega) (cb_one _) b0 w0 hb0 (by omega) ?_
  · refine ⟨rfl, ?_⟩
    rw [cb_length, List.length_take] at hp
    obtain ⟨b, off, rfl, hc⟩ := hx.addr (by omega)
    refine ⟨_, rfl, fun j v hj => ?_⟩
    rw [add_off]
    refine hc j v ?_
    have : cb (m.take n) = (cb m).take n := by simp [cb, List.map_take]
    rw [this, List.getElem?_take] at hj
    split at hj
    · exact hj
    · cases hj
  · intro w' hw' hB
    have hw' : w'.heap[g]? = some (.cells (splice cur 0 (cb (m.take n))).toArray 5 (0, 0)) := hw'
    have hlen : (splice cur 0 (cb (m.take n))).length = cap := by
      unfold splice
      simp only [List.take_zero, List.nil_append, List.length_append, cb_length, List.length_take, List.length_drop]
      omega
    refine h w' _ (own_of_row hw' hbg hnc hcm hlen ?_) hB
    unfold splice
    simp only [List.take_zero, List.nil_append, Nat.zero_add]
    rw [List.take_append, List.take_of_length_le (by rw [cb_length, List.length_take]; omega), cb_append]
    congr 1
    have e1 : (cb (m.take n)).length = min n xn := by rw [cb_length, List.length_take, hmn]
    rw [e1]
    have e2 : cb (l.drop xn) = (cb l).drop xn := by simp [cb, List.map_drop]
    rw [e2, ← hct]
    by_cases hh : xn ≤ n
    · rw [Nat.min_eq_right hh, List.drop_take]
    · rw [Nat.min_eq_left (by omega), Nat.sub_self, List.take_zero, List.drop_eq_nil_of_le (by rw [List.length_take]; omega)]
end Go.Proofs.Ytjdgfijpmljhiaa
