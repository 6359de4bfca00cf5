/- Small laws that all walks of this claim share: facts kept from the walk, one operation run by an equation, bytes and integers as natural numbers. -/
import Derived.WalkKit
import Derived.Deep.QuietTactic
import Derived.BigQuiet
import Derived.WalkLawsBesides
import Derived.WalkSmall
import Derived.Deep.LoopGhost
import Derived.Deep.OwnRows
import Derived.KernelRfl
import Derived.Deep.Cut
import Derived.Deep.CutRange
import Derived.Deep.Light
import Derived.Deep.RegionWith
import Derived.StillTailTactics
import Derived.Deep.RegionHeld3
import Derived.Deep.DeepCutAuto
namespace Go.Proofs.Ytjdgfijpmljhiaa
open Go.RowKit
set_option linter.unusedVariables false

theorem hid {p : Prop} (h : p) : Hid p := h

theorem ret_int {k : IntKind} {a b : Int} (h : a = b) : Ending.returned (.int k a) = .returned (.int k b) := by rw [h]
theorem ret_bool {a b : Bool} (h : a = b) : Ending.returned (.bool a) = .returned (.bool b) := by rw [h]
/-- It returns v; what was there is as it was. -/
def Grew (v : Value) (w : World) (e : Ending) (w' : World) : Prop := e = .returned v ∧ Below w.heap.size w w'
/-- It returns v; nothing has turned but the count of draws. -/
def Drew (v : Value) (w : World) (e : Ending) (w' : World) : Prop := e = .returned v ∧ ∃ n, w' = w.drewN n
/-- It returns v, and the world is the same. -/
def Same (v : Value) (w : World) (e : Ending) (w' : World) : Prop := e = .returned v ∧ w = w'
theorem Same.drew {v : Value} {w : World} {e : Ending} {w' : World} (h : Same v w e w') : Drew v w e w' := ⟨h.1, 0, h.2 ▸ rfl⟩
theorem Drew.grew {v : Value} {w : World} {e : Ending} {w' : World} (h : Drew v w e w') : Grew v w e w' := by
  obtain ⟨h1, n, rfl⟩ := h
  exact ⟨h1, rfl, rfl, rfl, Nat.le_refl _, fun _ _ => rfl⟩

theorem bnext {w w1 w2 : World} (h : Below w.heap.size w w1) (k : Below w1.heap.size w1 w2) : Below w.heap.size w w2 := h.trans (k.mono h.size)

/-- A box that was laid ahead of a call reads behind it as it did. -/
theorem box_cell {w w1 : World} {cs : Array Value} {t : TypeId} (hb : Below (w.alloc (.cells cs t)).heap.size (w.alloc (.cells cs t)) w1) (i : Nat) : w1.cell? ⟨w.heap.size, i, none⟩ = cs[i]? := by
  have h1 := hb.cell (p := ⟨w.heap.size, i, none⟩) (by simp)
  rw [h1]; simp
theorem box_frozen {w w1 : World} {cs : Array Value} {t : TypeId} (hb : Below (w.alloc (.cells cs t)).heap.size (w.alloc (.cells cs t)) w1) (i : Nat) : w1.frozen? ⟨w.heap.size, i, none⟩ = false := by
  have h1 := hb.frozen (p := ⟨w.heap.size, i, none⟩) (by simp)
  rw [h1]; simp
theorem box_below {w w1 : World} {o : Obj} (hb : Below (w.alloc o).heap.size (w.alloc o) w1) : Below w.heap.size w w1 := bnext ((Below.refl _ _).alloc (Nat.le_refl _) _) hb

theorem cell_other_block {w : World} {p : Addr} {v : Value} (q : Addr) (h : p.block ≠ q.block) : (w.setCell p v).cell? q = w.cell? q := World.cell?_setCell_other _ _ _ _ (fun e => h (by rw [e]))
theorem box_size {w w1 : World} {o : Obj} (hb : Below (w.alloc o).heap.size (w.alloc o) w1) : w.heap.size < w1.heap.size := by have := hb.size; simp at this; omega

theorem wpList_value {P : Program} {ops : Array Oper} {rest : List Oper} {o : Oper} {a : Act} {Q : Exit → Act → World → Prop} {w w' : World} {v : Value} (hgd : o.guard = none)
    (hr : (execOp a.eval o).run P w = .ok (.value v) w') (h : wpList P ops Q rest (a.put o.dst v) w') : wpList P ops Q (o :: rest) a w :=
  wpList_plain hgd fun K hK => by unfold Oper.wp; rw [hr]; exact hK _ _ h

theorem below_drewN {B : Nat} {a w : World} (h : Below B a w) (n : Nat) : Below B a (w.drewN n) := h.trans ⟨rfl, rfl, rfl, Nat.le_refl _, fun _ _ => rfl⟩

theorem wrap_i64_nat (n : Int) (h0 : 0 ≤ n) (h : n < 2 ^ 62) : IntKind.i64.wrap n = n := IntWalk.i64_in n (by omega)
theorem i64_xor_nat (a b : Nat) (ha : a < 2 ^ 62) (hb : b < 2 ^ 62) : bits .xor .i64 (a : Int) (b : Int) = ((a ^^^ b : Nat) : Int) := by
  have ha' : a % 2 ^ 64 = a := Nat.mod_eq_of_lt (by omega)
  have hb' : b % 2 ^ 64 = b := Nat.mod_eq_of_lt (by omega)
  have hx := Nat.xor_lt_two_pow ha hb
  show IntKind.i64.wrap ((BitVec.ofInt 64 (a : Int) ^^^ BitVec.ofInt 64 (b : Int)).toNat : Int) = _
  simp only [BitVec.ofInt_natCast, BitVec.toNat_xor, BitVec.toNat_ofNat, ha', hb']
  exact wrap_i64_nat _ (by omega) (by omega)
theorem i64_and_nat (a b : Nat) (ha : a < 2 ^ 62) (hb : b < 2 ^ 62) : bits .and .i64 (a : Int) (b : Int) = ((a &&& b : Nat) : Int) :=
  (bits_nat .i64 62 (by decide) wrap_i64_nat a b ha hb).1
theorem i64_or_nat (a b : Nat) (ha : a < 2 ^ 62) (hb : b < 2 ^ 62) : bits .or .i64 (a : Int) (b : Int) = ((a ||| b : Nat) : Int) :=
  (bits_nat .i64 62 (by decide) wrap_i64_nat a b ha hb).2
theorem or_shift (a b k : Nat) (ha : a < 2 ^ k) : a ||| (b * 2 ^ k) = a + b * 2 ^ k := by
  rw [Nat.or_comm, ← Nat.shiftLeft_eq, ← Nat.shiftLeft_add_eq_or_of_lt ha, Nat.shiftLeft_eq, Nat.add_comm]
theorem i64_or8 (x y : Nat) (hx : x < 256) (hy : y < 256) : bits .or .i64 ((x : Int) * 256) (y : Int) = ((256 * x + y : Nat) : Int) := by
  have h := i64_or_nat (x * 256) y (by omega) (by omega)
  rw [Nat.or_comm, or_shift y x 8 hy] at h
  rw [show ((x * 256 : Nat) : Int) = (x : Int) * 256 by simp] at h
  rw [h]; congr 1; omega
/-- four bytes joined, the lowest one first, as a walk has them -/
theorem u32_join (x0 x1 x2 x3 : Nat) (h0 : x0 < 256) (h1 : x1 < 256) (h2 : x2 < 256) (h3 : x3 < 256) : ∃ p1 p2 R : Nat, bits .or .u32 (x0 : Int) ((x1 : Int) * 256) = (p1 : Int) ∧ bits .or .u32 (p1 : Int) ((x2 : Int) * 65536) = (p2 : Int) ∧
    bits .or .u32 (p2 : Int) ((x3 : Int) * 16777216) = (R : Int) ∧ R = x0 + 256 * x1 + 65536 * x2 + 16777216 * x3 := by
  refine ⟨x0 + x1 * 2 ^ 8, x0 + x1 * 2 ^ 8 + x2 * 2 ^ 16, x0 + x1 * 2 ^ 8 + x2 * 2 ^ 16 + x3 * 2 ^ 24, ?_, ?_, ?_, by omega⟩
  · have := u32_or_nat x0 (x1 * 2 ^ 8) (by omega) (by omega)
    rw [or_shift x0 x1 8 h0] at this; simpa using this
  · have := u32_or_nat (x0 + x1 * 2 ^ 8) (x2 * 2 ^ 16) (by omega) (by omega)
    rw [or_shift _ x2 16 (by omega)] at this; simpa using this
  · have := u32_or_nat (x0 + x1 * 2 ^ 8 + x2 * 2 ^ 16) (x3 * 2 ^ 24) (by omega) (by omega)
    rw [or_shift _ x3 24 (by omega)] at this; simpa using this
theorem u32_or_at (k : Nat) (x y : Nat) (hx : x < 2 ^ k) (hy : y * 2 ^ k < 2 ^ 32) (hk : k ≤ 32) : bits .or .u32 (x : Int) ((y * 2 ^ k : Nat) : Int) = ((x + y * 2 ^ k : Nat) : Int) := by
  have h := u32_or_nat x (y * 2 ^ k) (Nat.lt_of_lt_of_le hx (Nat.pow_le_pow_right (by decide) hk)) hy
  rw [or_shift x y k hx] at h
  exact h
end Go.Proofs.Ytjdgfijpmljhiaa
