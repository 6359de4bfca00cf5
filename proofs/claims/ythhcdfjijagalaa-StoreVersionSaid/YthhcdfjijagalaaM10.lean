/- Joined, and what is not used struck: OpA, Vw, Sto, VwMem. -/
import Derived.Test.YthhcdfjijagalaaM01
import Derived.Test.YthhcdfjijagalaaM03
import Derived.Test.YthhcdfjijagalaaM09
import Derived.Test.YthhcdfjijagalaaRows
import Derived.ProofKit
import Derived.OpenShut
import Derived.Carry
import Derived.Lib.SmallJoins
import Derived.Deep.Slices
import Derived.Deep.Fields
namespace Go.Proofs.Ythhcdfjijagalaa
open Go.ChangeShapes Go.WideShapes Go.ChangeAt Go.RowKit
set_option linter.unusedVariables false
theorem knobs : ownKnob Try.prog.godebug = none := by kernel_rfl
theorem laidOut : laidOutB Try.prog = true := by kernel_rfl
theorem trodAll_below {H : Type} {enc : TypeId × Value → H} {P : Program} (hl : laidOutB P = true) {W W' : World} (hb : Below W.heap.size W W') : ∀ (ts : List TypeId) (vs : List Value) (ds : List (DataW H)) (ps : List MemPlace),
    (ts.all fun t => P.readableRec t && decide (t < P.types.size)) = true → (∀ x ∈ ps, x.block < W.heap.size) →
    DataW.TrodAll enc P W 0 (fun _ => true) true ts vs ds ps → DataW.TrodAll enc P W' 0 (fun b => decide (b < W.heap.size)) true ts vs ds ps := by
  intro ts
  induction ts with
  | nil =>
    intro vs ds ps _ _ h
    cases vs <;> cases ds <;> first | exact h | exact h.elim
  | cons t ts ih =>
    intro vs ds ps hr hlt h
    cases vs with
    | nil => exact h.elim
    | cons v vs =>
      cases ds with
      | nil => exact h.elim
      | cons d ds =>
        obtain ⟨p, q, h1, h2, e⟩ := h
        simp only [List.all_cons, Bool.and_eq_true, decide_eq_true_eq] at hr
        exact ⟨p, q, Below.trod hl hr.1.1 hr.1.2 h1 hb (fun x hx => hlt x (by rw [e]; exact List.mem_append_left _ hx)),
          ih vs ds q hr.2 (fun x hx => hlt x (by rw [e]; exact List.mem_append_right _ hx)) h2, e⟩
/-- A law's row, of one call. -/
theorem law_contract {H : Type} {enc : TypeId × Value → H} {f : FuncId} {fn : Func} {s : ChangeSpec} {tb : TypeId} (hvars : s.vars = []) (hrt : fn.resultTypes = #[tb]) (hub : Try.prog.underlying tb = some .bool)
    (hread : (fn.params.toList.all fun t => Try.prog.readableRec t && decide (t < Try.prog.types.size)) = true)
    {W : World} {args : Array Value} {ds gs : List (DataW H)} {before : List MemPlace} (hs : s.fn H (ds ++ gs) = { results := [.lit (.bool true)], args := ds })
    (hW : DataW.Whole enc Try.prog fn.params.toList s.vars false W args.toList ds gs before)
    (h : Calls Try.prog f args W (Grew (.bool true) W)) :
    Calls Try.prog f args W fun e W' => ∃ v, e = .returned v ∧ s.post enc Try.prog fn false true false false W args v W' := by
  refine h.mono fun e W' ⟨he, hb⟩ => ⟨_, he, ?_⟩
  have hlt := hW.lt
  have hW' := hW
  obtain ⟨p, q, hA, hV, rfl, _, _⟩ := hW'
  rw [hvars] at hV
  obtain ⟨rfl, rfl⟩ := trodVars_none hV
  refine ⟨ds, [], p ++ [], [], p, [], hW, ?_, ?_, ?_, ?_, fun h => by cases h⟩
  · rw [hrt, hs]
    exact trodAll_cons_mk (shut_bool hub _) trodAll_mk0
  · rw [hs]
    exact trodAll_below laidOut hb _ _ _ _ hread (fun x hx => hlt x (by simpa using hx)) hA
  · rw [hvars]
    have : (s.fn H (ds ++ [])).vars = [] := by rw [hs]
    rw [this]; rfl
  · exact hb.frame _
end Go.Proofs.Ythhcdfjijagalaa
namespace Go.Proofs.Ythhcdfjijagalaa
open Go.ChangeShapes Go.WideShapes Go.ChangeAt Go.RowKit Go.Joins
set_option linter.unusedVariables false
theorem i64_bounds' {a : Int} (h : (Lit.int .i64 a).wf = true) : -9223372036854775808 ≤ a ∧ a ≤ 9223372036854775807 := by
  simpa [Lit.wf, IntKind.min, IntKind.max, IntKind.signed, IntKind.bits] using h
theorem u8_bounds {a : Int} (h : (Lit.int .u8 a).wf = true) : 0 ≤ a ∧ a ≤ 255 := by
  simpa [Lit.wf, IntKind.min, IntKind.max, IntKind.signed, IntKind.bits] using h
theorem i64_bounds {a : Int} (h : (Lit.int .i64 a).wf = true) : -9223372036854775808 ≤ a ∧ a ≤ 9223372036854775807 := i64_bounds' h
end Go.Proofs.Ythhcdfjijagalaa
namespace Go.Proofs.Ythhcdfjijagalaa.Evt
set_option linter.unusedVariables false
structure Ev where
  s : ByteArray
  k : Int
  n : Int
structure Ba where
  c : Int
  evs : List Ev
def lst (s : ByteArray) : List UInt8 := s.data.toList
def okc (c : UInt8) : Bool := (decide (97 ≤ c.toNat) && decide (c.toNat ≤ 122)) || (decide (48 ≤ c.toNat) && decide (c.toNat ≤ 57))
def named (l : List UInt8) : Bool := decide (0 < l.length) && decide (l.length ≤ 10) && l.all okc
def wrongEv (e : Ev) : Int := if named (lst e.s) = false then 7 else if e.k < 1 ∨ 4 < e.k then 1 else if e.n < 0 ∨ 1000000 < e.n ∨ ((e.k = 1 ∨ e.k = 4) ∧ e.n ≠ 0) then 3 else 0
def fw : List Ev → Nat → Int × Int
  | [], _ => (0, 0)
  | e :: r, i => if wrongEv e ≠ 0 then (wrongEv e, (i : Int)) else fw r (i + 1)
def wrongBa (b : Ba) : Int × Int := if b.c < 1 ∨ 1000000 < b.c then (3, 0) else if b.evs.length < 1 ∨ 10 < b.evs.length then (5, 0) else fw b.evs 0
def fb : List Ba → Nat → Int × Int
  | [], _ => (0, 0)
  | b :: r, i => if (wrongBa b).1 ≠ 0 then ((wrongBa b).1, (i : Int)) else fb r (i + 1)
def three (n : Nat) : List UInt8 := [.ofNat (n / 65536), .ofNat (n / 256), .ofNat n]
def evBytes (e : Ev) : List UInt8 := UInt8.ofNat (lst e.s).length :: (lst e.s ++ UInt8.ofNat e.k.toNat :: three e.n.toNat)
def baBytes (b : Ba) : List UInt8 := three b.c.toNat ++ UInt8.ofNat b.evs.length :: b.evs.flatMap evBytes
def bytes (bs : List Ba) : List UInt8 := UInt8.ofNat bs.length :: bs.flatMap baBytes
/-- bytes, an error's number, and where -/
structure R where
  l : List UInt8
  err : Int
  at_ : Int
def bytesR (bs : List Ba) : R := if 150 < bs.length then ⟨[], 5, 0⟩ else if (fb bs 0).1 ≠ 0 then ⟨[], (fb bs 0).1, (fb bs 0).2⟩ else ⟨bytes bs, 0, 0⟩
/-- a reader: what is left, and whether all was there -/
structure St where
  l : List UInt8
  ok : Bool
def be (l : List UInt8) : Nat := l.foldl (fun n c => n * 256 + c.toNat) 0
def take (k : Nat) (t : St) : List UInt8 × St := if t.l.length < k then (List.replicate k 0, ⟨t.l, false⟩) else (t.l.take k, ⟨t.l.drop k, t.ok⟩)
def num (k : Nat) (t : St) : Nat × St := (be (take k t).1, (take k t).2)
def event (t : St) : Ev × St :=
  let a := num 1 t
  let s := take a.1 a.2
  let k := num 1 s.2
  let n := num 3 k.2
  (⟨⟨s.1.toArray⟩, k.1, n.1⟩, n.2)
def events : Nat → St → List Ev × St
  | 0, t => ([], t)
  | k + 1, t => if t.ok then let e := event t; let r := events k e.2; (e.1 :: r.1, r.2) else ([], t)
def batch (t : St) : Ba × St :=
  let c := num 3 t
  let k := num 1 c.2
  let es := events k.1 k.2
  (⟨c.1, es.1⟩, es.2)
def batches : Nat → St → List Ba × St
  | 0, t => ([], t)
  | k + 1, t => if t.ok then let b := batch t; let r := batches k b.2; (b.1 :: r.1, r.2) else ([], t)
structure PR where
  l : List Ba
  err : Int
def parse (l : List UInt8) : PR :=
  let n := num 1 ⟨l, true⟩
  let b := batches n.1 n.2
  if b.2.ok = false ∨ b.2.l ≠ [] then ⟨[], 2⟩ else if 150 < b.1.length then ⟨[], 5⟩ else if (fb b.1 0).1 ≠ 0 then ⟨[], (fb b.1 0).1⟩ else ⟨b.1, 0⟩
/-! ### what is wrong -/
theorem fw_zero (l : List Ev) : ∀ i, (fw l i).1 = 0 → ∀ e ∈ l, wrongEv e = 0 := by
  induction l with
  | nil => intro i _ e he; cases he
  | cons a l ih =>
    intro i h e he
    unfold fw at h
    split at h
    · rename_i h1; exact absurd h h1
    · rename_i h1
      rcases List.mem_cons.1 he with rfl | he
      · exact Classical.byContradiction h1
      · exact ih _ h e he
theorem fb_zero (l : List Ba) : ∀ i, (fb l i).1 = 0 → ∀ b ∈ l, (wrongBa b).1 = 0 := by
  induction l with
  | nil => intro i _ e he; cases he
  | cons a l ih =>
    intro i h e he
    unfold fb at h
    split at h
    · rename_i h1; exact absurd h h1
    · rename_i h1
      rcases List.mem_cons.1 he with rfl | he
      · exact Classical.byContradiction h1
      · exact ih _ h e he
theorem wrongEv_zero {e : Ev} (h : wrongEv e = 0) : named (lst e.s) = true ∧ 1 ≤ e.k ∧ e.k ≤ 4 ∧ 0 ≤ e.n ∧ e.n ≤ 1000000 := by
  unfold wrongEv at h
  split at h
  · cases h
  · rename_i h1
    split at h
    · cases h
    · split at h
      · cases h
      · exact ⟨by simpa using h1, by omega, by omega, by omega, by omega⟩
theorem named_len {l : List UInt8} (h : named l = true) : 0 < l.length ∧ l.length ≤ 10 := by
  unfold named at h
  simp only [Bool.and_eq_true, decide_eq_true_eq] at h
  exact h.1
theorem wrongBa_zero {b : Ba} (h : (wrongBa b).1 = 0) : 1 ≤ b.c ∧ b.c ≤ 1000000 ∧ 1 ≤ b.evs.length ∧ b.evs.length ≤ 10 ∧ ∀ e ∈ b.evs, wrongEv e = 0 := by
  unfold wrongBa at h
  split at h
  · cases h
  · split at h
    · cases h
    · exact ⟨by omega, by omega, by omega, by omega, fw_zero _ _ h⟩
/-! ### reading -/
theorem ofNat8 (n : Nat) : (UInt8.ofNat n).toNat = n % 256 := UInt8.toNat_ofNat'
theorem be1 (a : UInt8) : be [a] = a.toNat := by simp [be]
theorem be3 (a b c : UInt8) : be [a, b, c] = a.toNat * 65536 + b.toNat * 256 + c.toNat := by simp [be]; omega
theorem three_length (n : Nat) : (three n).length = 3 := rfl
theorem be_three (n : Nat) (h : n < 16777216) : be (three n) = n := by
  unfold three; rw [be3, ofNat8, ofNat8, ofNat8]; omega
theorem take_app (a r : List UInt8) (k : Nat) (ok : Bool) (h : a.length = k) : take k ⟨a ++ r, ok⟩ = (a, ⟨r, ok⟩) := by
  unfold take
  rw [if_neg (by rw [List.length_append]; omega)]
  simp only
  rw [List.take_left' h, List.drop_left' h]
theorem num1 (a : UInt8) (r : List UInt8) (ok : Bool) : num 1 ⟨a :: r, ok⟩ = (a.toNat, ⟨r, ok⟩) := by
  have := take_app [a] r 1 ok rfl
  unfold num
  rw [show a :: r = [a] ++ r from rfl, this, be1]
theorem num3 (n : Nat) (r : List UInt8) (ok : Bool) (h : n < 16777216) : num 3 ⟨three n ++ r, ok⟩ = (n, ⟨r, ok⟩) := by
  have := take_app (three n) r 3 ok rfl
  unfold num
  rw [this, be_three n h]
theorem event_bytes (e : Ev) (r : List UInt8) (ok : Bool) (h : wrongEv e = 0) : event ⟨evBytes e ++ r, ok⟩ = (e, ⟨r, ok⟩) := by
  obtain ⟨h1, h2, h3, h4, h5⟩ := wrongEv_zero h
  have h6 := named_len h1
  obtain ⟨s, k, n⟩ := e
  obtain ⟨k, rfl⟩ := Int.eq_ofNat_of_zero_le (a := k) (by simp at h2; omega)
  obtain ⟨n, rfl⟩ := Int.eq_ofNat_of_zero_le h4
  simp only at h2 h3 h5 h6
  unfold event evBytes
  simp only [List.cons_append, List.append_assoc, num1, ofNat8, Int.toNat_natCast]
  rw [show (lst s).length % 256 = (lst s).length by omega, take_app _ _ _ _ rfl]
  simp only [num1, ofNat8]
  rw [num3 n r ok (by omega)]
  simp only [show k % 256 = k by omega, Prod.mk.injEq, Ev.mk.injEq, and_true]
  unfold lst; simp
theorem events_bytes (es : List Ev) (r : List UInt8) (h : ∀ e ∈ es, wrongEv e = 0) : events es.length ⟨es.flatMap evBytes ++ r, true⟩ = (es, ⟨r, true⟩) := by
  induction es with
  | nil => rfl
  | cons e es ih =>
    simp only [List.length_cons, events, List.flatMap_cons, List.append_assoc, if_true]
    rw [event_bytes e _ true (h e (List.mem_cons_self ..))]
    simp only
    rw [ih (fun x hx => h x (List.mem_cons_of_mem _ hx))]
theorem batch_bytes (b : Ba) (r : List UInt8) (h : (wrongBa b).1 = 0) : batch ⟨baBytes b ++ r, true⟩ = (b, ⟨r, true⟩) := by
  obtain ⟨h1, h2, h3, h4, h5⟩ := wrongBa_zero h
  obtain ⟨c, es⟩ := b
  obtain ⟨c, rfl⟩ := Int.eq_ofNat_of_zero_le (a := c) (by simp at h1; omega)
  simp only at h2 h3 h4 h5
  unfold batch baBytes
  simp only [List.append_assoc, Int.toNat_natCast, List.cons_append]
  rw [num3 c _ _ (by omega)]
  simp only [num1, ofNat8]
  rw [show es.length % 256 = es.length by omega, events_bytes es r h5]
theorem batches_bytes (bs : List Ba) (r : List UInt8) (h : ∀ b ∈ bs, (wrongBa b).1 = 0) : batches bs.length ⟨bs.flatMap baBytes ++ r, true⟩ = (bs, ⟨r, true⟩) := by
  induction bs with
  | nil => rfl
  | cons e es ih =>
    simp only [List.length_cons, batches, List.flatMap_cons, List.append_assoc, if_true]
    rw [batch_bytes e _ (h e (List.mem_cons_self ..))]
    simp only
    rw [ih (fun x hx => h x (List.mem_cons_of_mem _ hx))]
/-- WHAT IS WRITTEN IS READ. -/
theorem parse_bytes (bs : List Ba) (h : (bytesR bs).err = 0) : parse (bytesR bs).l = ⟨bs, 0⟩ := by
  unfold bytesR at *
  split at h
  · cases h
  · rename_i h1
    rw [if_neg h1]
    split at h
    · rename_i h2; exact absurd h h2
    · rename_i h2
      rw [if_neg h2]
      have h2 : (fb bs 0).1 = 0 := Classical.byContradiction h2
      simp only
      unfold parse bytes
      simp only [num1, ofNat8]
      have := batches_bytes bs [] (fb_zero bs 0 h2)
      rw [List.append_nil] at this
      rw [show bs.length % 256 = bs.length by omega, this]
      simp only
      rw [if_neg (by simp), if_neg h1, if_neg (fun h => h h2)]
end Go.Proofs.Ythhcdfjijagalaa.Evt
namespace Go.Proofs.Ythhcdfjijagalaa
open Go.RowKit
set_option linter.unusedVariables false
/-- an event, as a value -/
def evVal (e : Evt.Ev) : Value := .agg #[.string e.s, .int .i64 e.k, .int .i64 e.n]
def ev3 (e : Evt.Ev) : List Value := [.string e.s, .int .i64 e.k, .int .i64 e.n]
def evCells (l : List Evt.Ev) : List Value := l.flatMap ev3
theorem evCells_length (l : List Evt.Ev) : (evCells l).length = l.length * 3 := by
  induction l with
  | nil => rfl
  | cons e l ih => unfold evCells at *; rw [List.flatMap_cons, List.length_append, ih]; simp [ev3]; omega
theorem evCells_append (l m : List Evt.Ev) : evCells (l ++ m) = evCells l ++ evCells m := by unfold evCells; simp
theorem evCells_get (l : List Evt.Ev) : ∀ (i : Nat) (h : i < l.length), (evCells l)[i * 3]? = some (.string l[i].s) ∧ (evCells l)[i * 3 + 1]? = some (.int .i64 l[i].k) ∧ (evCells l)[i * 3 + 2]? = some (.int .i64 l[i].n) := by
  induction l with
  | nil => intro i h; exact absurd h (by simp)
  | cons e l ih =>
    intro i h
    have e0 : evCells (e :: l) = ev3 e ++ evCells l := rfl
    rw [e0]
    match i with
    | 0 => exact ⟨rfl, rfl, rfl⟩
    | i + 1 =>
      have := ih i (by simpa using h)
      have g : ∀ j, (ev3 e ++ evCells l)[(i + 1) * 3 + j]? = (evCells l)[i * 3 + j]? := by
        intro j
        rw [List.getElem?_append_right (by simp [ev3]; omega)]
        congr 1
        simp [ev3]; omega
      exact ⟨(g 0).trans this.1, (g 1).trans this.2.1, (g 2).trans this.2.2⟩
/-- The slice (a, n, cap) reads as these events. -/
structure Es (w : World) (a : Option Addr) (n cap : Nat) (l : List Evt.Ev) : Prop where
  sl : Sl w 3 a n cap (evCells l)
  ok : ∀ e ∈ l, e.s.size ≤ maxLen
theorem Es.n {w : World} {a : Option Addr} {n cap : Nat} {l : List Evt.Ev} (h : Es w a n cap l) : l.length = n := by
  have := h.sl.len; rw [evCells_length] at this; omega
theorem Es.below {w w' : World} {a : Option Addr} {n cap : Nat} {l : List Evt.Ev} (h : Es w a n cap l) (hb : Below w.heap.size w w') : Es w' a n cap l := ⟨h.sl.below hb, h.ok⟩
theorem Es.alloc {w : World} {a : Option Addr} {n cap : Nat} {l : List Evt.Ev} (h : Es w a n cap l) (o : Obj) : Es (w.alloc o) a n cap l := ⟨h.sl.alloc o, h.ok⟩
theorem Es.at {w : World} {b off n cap : Nat} {l : List Evt.Ev} (h : Es w (some ⟨b, off, none⟩) n cap l) (i : Nat) (hi : i < l.length) :
    w.cell? ⟨b, off + i * 3, none⟩ = some (.string l[i].s) ∧ w.cell? ⟨b, off + i * 3 + 1, none⟩ = some (.int .i64 l[i].k) ∧ w.cell? ⟨b, off + i * 3 + 2, none⟩ = some (.int .i64 l[i].n) := by
  have hn := h.n
  have hg := evCells_get l i hi
  exact ⟨h.sl.cell (by omega) hg.1, h.sl.cell (by omega) hg.2.1, h.sl.cell (by omega) hg.2.2⟩
/-- a batch as memory has it -/
structure Rb where
  c : Int
  a : Option Addr
  n : Nat
  cap : Nat
  evs : List Evt.Ev
def Rb.ba (r : Rb) : Evt.Ba := ⟨r.c, r.evs⟩
def rb2 (r : Rb) : List Value := [.int .i64 r.c, .slice r.a r.n r.cap]
def rbCells (l : List Rb) : List Value := l.flatMap rb2
theorem rbCells_length (l : List Rb) : (rbCells l).length = l.length * 2 := by
  induction l with
  | nil => rfl
  | cons e l ih => unfold rbCells at *; rw [List.flatMap_cons, List.length_append, ih]; simp [rb2]; omega
theorem rbCells_append (l m : List Rb) : rbCells (l ++ m) = rbCells l ++ rbCells m := by unfold rbCells; simp
theorem rbCells_get (l : List Rb) : ∀ (i : Nat) (h : i < l.length), (rbCells l)[i * 2]? = some (.int .i64 l[i].c) ∧ (rbCells l)[i * 2 + 1]? = some (.slice l[i].a l[i].n l[i].cap) := by
  induction l with
  | nil => intro i h; exact absurd h (by simp)
  | cons e l ih =>
    intro i h
    have e0 : rbCells (e :: l) = rb2 e ++ rbCells l := rfl
    rw [e0]
    match i with
    | 0 => exact ⟨rfl, rfl⟩
    | i + 1 =>
      have := ih i (by simpa using h)
      have g : ∀ j, (rb2 e ++ rbCells l)[(i + 1) * 2 + j]? = (rbCells l)[i * 2 + j]? := by
        intro j
        rw [List.getElem?_append_right (by simp [rb2]; omega)]
        congr 1
        simp [rb2]; omega
      exact ⟨(g 0).trans this.1, (g 1).trans this.2⟩
/-- The slice (a, n, cap) reads as these batches. -/
structure Bs (w : World) (a : Option Addr) (n cap : Nat) (l : List Rb) : Prop where
  sl : Sl w 2 a n cap (rbCells l)
  ev : ∀ r ∈ l, Es w r.a r.n r.cap r.evs
theorem Bs.n {w : World} {a : Option Addr} {n cap : Nat} {l : List Rb} (h : Bs w a n cap l) : l.length = n := by
  have := h.sl.len; rw [rbCells_length] at this; omega
theorem Bs.below {w w' : World} {a : Option Addr} {n cap : Nat} {l : List Rb} (h : Bs w a n cap l) (hb : Below w.heap.size w w') : Bs w' a n cap l := ⟨h.sl.below hb, fun r hr => (h.ev r hr).below hb⟩
theorem Bs.at {w : World} {b off n cap : Nat} {l : List Rb} (h : Bs w (some ⟨b, off, none⟩) n cap l) (i : Nat) (hi : i < l.length) :
    w.cell? ⟨b, off + i * 2, none⟩ = some (.int .i64 l[i].c) ∧ w.cell? ⟨b, off + i * 2 + 1, none⟩ = some (.slice l[i].a l[i].n l[i].cap) ∧ Es w l[i].a l[i].n l[i].cap l[i].evs := by
  have hn := h.n
  have hg := rbCells_get l i hi
  exact ⟨h.sl.cell (by omega) hg.1, h.sl.cell (by omega) hg.2, h.ev _ (List.getElem_mem _)⟩
end Go.Proofs.Ythhcdfjijagalaa
namespace Go.Proofs.Ythhcdfjijagalaa
open Go.ChangeShapes Go.WideShapes Go.ChangeAt Go.RowKit Go.Joins Go.Deep
set_option linter.unusedVariables false
section
variable {H : Type} {enc : TypeId × Value → H} {w : World} {base : Nat} {spare : Nat → Bool} {held : Bool}
/-- A slice of structs whose fields take a cell each: the cells of each element, field by field. -/
theorem open_elems {t e : TypeId} {fs : Array Field} {fuel : Nat} {v : Value} {x : DataW H × List MemPlace} (ht : Try.prog.underlying t = some (.slice e)) (he : Try.prog.underlying e = some (.struct fs)) (hone : oneCellFields Try.prog fs = true) (hC : Try.prog.cellsOf e = fs.size)
    (h : DataW.trod enc Try.prog w base spare held fuel t [v] = some x) :
    v = .slice none 0 0 ∨ ∃ (a : Addr) (n cap : Nat), v = .slice (some a) n cap ∧ n ≤ cap ∧ cap ≤ maxLen ∧ ∀ i, i < n → ∀ (j : Nat) (f : Field), fs[j]? = some f → ∃ (u : Value) (y : DataW H × List MemPlace) (k : Nat), w.cell? (a.add (i * fs.size + j)) = some u ∧ DataW.trod enc Try.prog w base spare held k f.type [u] = some y := by
  rcases open_slice ht h with ⟨h0, _⟩ | ⟨a, n, cap, m, k, D, Pl, hcs, _, hl, hm, hmm, _, hi⟩
  · left; simpa using h0
  · right
    refine ⟨a, n, cap, by simpa using hcs, hl, hm, fun i hin j f hf => ?_⟩
    have him : i < m := by rw [hmm]; split <;> omega
    obtain ⟨cs', h1, h2⟩ := hi i him
    rw [hC] at h1
    obtain ⟨_, hlen, hat⟩ := World.cells?_some h1
    obtain ⟨ys, k', _, _, _, hyl, hfs⟩ := DataW.trod_struct he h2
    have hj := (Array.getElem?_eq_some_iff.1 hf).1
    obtain ⟨ho, hk⟩ := hone_of hone j f hf
    have hd := hfs j f hf
    rw [ho, hk, List.drop_eq_getElem_cons (by omega)] at hd
    have hy : ys[j]? = some (ys[j]'(by omega)) := List.getElem?_eq_getElem (by omega)
    refine ⟨cs'[j]'(by omega), _, k', ?_, hd.trans hy⟩
    have := hat j hj
    rw [← Go.Deep.add_add, this, List.getElem?_eq_getElem (by omega)]
theorem off_of {w : World} {a : Addr} {u : Value} {k : Nat} (h : w.cell? (a.add (0 * k + 0)) = some u) : ∃ b off, a = ⟨b, off, none⟩ := by
  rw [Nat.zero_mul] at h
  obtain ⟨b, off, spot⟩ := a
  have hspot : spot = none := by
    have := World.cell?_spot h
    unfold Addr.add at this
    simpa using this
  exact ⟨b, off, by rw [hspot]⟩
theorem evs_of {w : World} {b off n cap : Nat} (V : Nat → Evt.Ev) (hl : n ≤ cap) (hm : cap ≤ maxLen)
    (hc : ∀ i, i < n → (w.cell? ⟨b, off + i * 3, none⟩ = some (.string (V i).s) ∧ w.cell? ⟨b, off + (i * 3 + 1), none⟩ = some (.int .i64 (V i).k) ∧ w.cell? ⟨b, off + (i * 3 + 2), none⟩ = some (.int .i64 (V i).n)) ∧ (V i).s.size ≤ maxLen) :
    Es w (some ⟨b, off, none⟩) n cap ((List.range n).map V) := by
  refine ⟨⟨hl, hm, by rw [evCells_length]; simp, (fun e => by cases e), fun hn => ⟨b, off, rfl, fun j u hj => ?_⟩⟩, fun e he => ?_⟩
  · have hjl : j < n * 3 := by
      have := (List.getElem?_eq_some_iff.1 hj).1
      rw [evCells_length] at this; simpa using this
    have hi : j / 3 < n := by omega
    obtain ⟨g0, g1, g2⟩ := evCells_get ((List.range n).map V) (j / 3) (by simpa using hi)
    obtain ⟨⟨c0, c1, c2⟩, _⟩ := hc (j / 3) hi
    simp only [List.getElem_map, List.getElem_range] at g0 g1 g2
    have h3 : j % 3 = 0 ∨ j % 3 = 1 ∨ j % 3 = 2 := by omega
    rcases h3 with h3 | h3 | h3
    · have e : j = j / 3 * 3 := by omega
      rw [e, g0] at hj; rw [e, c0, hj]
    · have e : j = j / 3 * 3 + 1 := by omega
      rw [e, g1] at hj; rw [e, c1, hj]
    · have e : j = j / 3 * 3 + 2 := by omega
      rw [e, g2] at hj; rw [e, c2, hj]
  · obtain ⟨i, hi, rfl⟩ := List.mem_map.1 he
    exact (hc i (List.mem_range.1 hi)).2
set_option maxRecDepth 100000 in
theorem open_events {fuel : Nat} {v : Value} {x : DataW H × List MemPlace} (h : DataW.trod enc Try.prog w base spare held fuel 25 [v] = some x) : ∃ a n cap l, v = .slice a n cap ∧ Es w a n cap l := by
  rcases open_elems Try.underlying25 Try.underlying32 (by kernel_rfl) (by kernel_rfl) h with rfl | ⟨a, n, cap, rfl, hl, hm, hf⟩
  · exact ⟨none, 0, 0, [], rfl, Sl.none _ _, fun e he => by cases he⟩
  · rcases Nat.eq_zero_or_pos n with h0 | h0
    · subst h0
      exact ⟨some a, 0, cap, [], rfl, ⟨hl, hm, rfl, (fun e => by cases e), fun h => absurd h (by omega)⟩, fun e he => by cases he⟩
    · obtain ⟨u, y, k, hu, _⟩ := hf 0 h0 0 _ rfl
      obtain ⟨b, off, rfl⟩ := off_of hu
      have hp : ∀ i, i < n → ∃ e : Evt.Ev, (w.cell? ⟨b, off + i * 3, none⟩ = some (.string e.s) ∧ w.cell? ⟨b, off + (i * 3 + 1), none⟩ = some (.int .i64 e.k) ∧ w.cell? ⟨b, off + (i * 3 + 2), none⟩ = some (.int .i64 e.n)) ∧ e.s.size ≤ maxLen := by
        intro i hi
        obtain ⟨u0, y0, k0, h0, t0⟩ := hf i hi 0 _ rfl
        obtain ⟨u1, y1, k1, h1, t1⟩ := hf i hi 1 _ rfl
        obtain ⟨u2, y2, k2, h2, t2⟩ := hf i hi 2 _ rfl
        obtain ⟨s, e0, _, hs⟩ := DataW.trod_string Try.underlying9 t0
        obtain ⟨g1, e1, _, _⟩ := DataW.trod_int Try.underlying3 t1
        obtain ⟨g2, e2, _, _⟩ := DataW.trod_int Try.underlying3 t2
        simp at e0 e1 e2
        subst e0 e1 e2
        rw [add_off] at h0 h1 h2
        exact ⟨⟨s, g1, g2⟩, ⟨h0, h1, h2⟩, hs⟩
      have : Inhabited Evt.Ev := ⟨⟨⟨#[]⟩, 0, 0⟩⟩
      obtain ⟨V, hV⟩ := choose_lt (α := Evt.Ev) hp
      exact ⟨_, n, cap, _, rfl, evs_of V hl hm hV⟩
end
end Go.Proofs.Ythhcdfjijagalaa
namespace Go.Proofs.Ythhcdfjijagalaa.Vw
set_option linter.unusedVariables false
structure Acc where
  s : ByteArray
  sum : Int
  cnt : Int
  opn : Bool
structure Vi where
  upto : Int
  accs : List Acc
def key (a : Acc) : List UInt8 := Evt.lst a.s
def badRange (u : Int) (a : Acc) : Prop := a.cnt < 1 ∨ u < a.cnt ∨ a.sum < -1000000 * a.cnt ∨ 1000000 * a.cnt < a.sum
instance (u : Int) (a : Acc) : Decidable (badRange u a) := by unfold badRange; exact inferInstance
/-- is it behind what stood ahead of it? -/
def rises : Option (List UInt8) → Acc → Prop
  | none, _ => True
  | some q, a => q < key a
instance (p : Option (List UInt8)) (a : Acc) : Decidable (rises p a) := by cases p <;> unfold rises <;> exact inferInstance
def wl (u : Int) : Nat → Int → Option (List UInt8) → List Acc → Int × Int
  | i, c, _, [] => if c ≠ u then (8, (i : Int)) else (0, 0)
  | i, c, p, a :: r => if Evt.named (key a) = false then (7, (i : Int)) else if badRange u a then (3, (i : Int)) else if ¬ rises p a then (2, (i : Int)) else if u < c + a.cnt then (8, (i : Int)) else wl u (i + 1) (c + a.cnt) (some (key a)) r
def wrongV (v : Vi) : Int × Int := if v.upto < 0 ∨ 150 < v.upto then (3, 0) else wl v.upto 0 0 none v.accs
/-! ### accounts -/
def new (s : ByteArray) : Acc := ⟨s, 0, 0, false⟩
def get (l : List Acc) (s : ByteArray) : Acc := match l with
  | [] => new s
  | a :: r => if a.s = s then a else get r s
def may (a : Acc) (e : Evt.Ev) : Bool := if e.k = 1 then !a.opn else if e.k = 2 ∨ e.k = 4 then a.opn else if e.k = 3 then a.opn && decide (e.n ≤ a.sum) else false
def plus (a : Acc) (e : Evt.Ev) : Acc := if e.k = 2 then ⟨a.s, a.sum + e.n, a.cnt + 1, a.opn⟩ else if e.k = 3 then ⟨a.s, a.sum - e.n, a.cnt + 1, a.opn⟩ else ⟨a.s, a.sum, a.cnt + 1, decide (e.k = 1)⟩
/-- put in its place -/
def ins (a : Acc) : List Acc → List Acc
  | [] => [a]
  | x :: r => if key x < key a then x :: ins a r else if x.s = a.s then a :: r else a :: x :: r
structure St where
  v : Vi
  err : Int
def none' : Vi := ⟨0, []⟩
def apply (v : Vi) (e : Evt.Ev) : St :=
  if (wrongV v).1 ≠ 0 then ⟨none', (wrongV v).1⟩ else if Evt.wrongEv e ≠ 0 then ⟨none', Evt.wrongEv e⟩ else if v.upto = 150 then ⟨none', 5⟩
  else if may (get v.accs e.s) e = false then ⟨none', 8⟩ else ⟨⟨v.upto + 1, ins (plus (get v.accs e.s) e) v.accs⟩, 0⟩
structure Fo where
  v : Vi
  err : Int
  at_ : Int
def fo : Vi → List Evt.Ev → Nat → Fo
  | v, [], _ => ⟨v, 0, 0⟩
  | v, e :: r, i => if (apply v e).err ≠ 0 then ⟨none', (apply v e).err, (i : Int)⟩ else fo (apply v e).v r (i + 1)
def fold (v : Vi) (l : List Evt.Ev) : Fo := if (wrongV v).1 ≠ 0 then ⟨none', (wrongV v).1, 0⟩ else fo v l 0
end Go.Proofs.Ythhcdfjijagalaa.Vw
namespace Go.Proofs.Ythhcdfjijagalaa.Stp
set_option linter.unusedVariables false
noncomputable def readF (l : List (List UInt8)) (g d : Int) : List UInt8 × Int := (Classical.choose (read_exists l g d), Classical.choose (Classical.choose_spec (read_exists l g d)))
theorem readF_spec (l : List (List UInt8)) (g d : Int) : ReadR l g d (readF l g d).1 (readF l g d).2 := Classical.choose_spec (Classical.choose_spec (read_exists l g d))
theorem readF_eq {l : List (List UInt8)} {g d : Int} {R : List UInt8} {e : Int} (h : ReadR l g d R e) : R = (readF l g d).1 ∧ e = (readF l g d).2 := h.uniq (readF_spec l g d)
noncomputable def layF (b : List UInt8) (g d s : Int) : List (List UInt8) × Int := (Classical.choose (lay_exists b g d s), Classical.choose (Classical.choose_spec (lay_exists b g d s)))
theorem layF_spec (b : List UInt8) (g d s : Int) : LayR b g d s (layF b g d s).1 (layF b g d s).2 := Classical.choose_spec (Classical.choose_spec (lay_exists b g d s))
theorem layF_eq {b : List UInt8} {g d s : Int} {L : List (List UInt8)} {e : Int} (h : LayR b g d s L e) : L = (layF b g d s).1 ∧ e = (layF b g d s).2 := h.uniq (layF_spec b g d s)
noncomputable def mendF (l : List (List UInt8)) (g d : Int) : List (List UInt8) × Int := if (readF l g d).2 ≠ 0 then ([], (readF l g d).2) else layF (readF l g d).1 g d ((l.length : Int) - d)
end Go.Proofs.Ythhcdfjijagalaa.Stp
namespace Go.Proofs.Ythhcdfjijagalaa.Sto
set_option linter.unusedVariables false
/-- a block that a disk has -/
structure Hd where
  seg : Int
  b : List UInt8
structure Dk where
  gone : Bool
  bl : List Hd
structure St where
  data : Int
  spare : Int
  batches : Int
  disks : List Dk
  segs : Nat
  tail : List Evt.Ba
  seen : List Int
  snap : Vw.Vi
/-- what is done -/
structure Do where
  kind : Int
  n : Int
  seg : Int
  t : Int
  y : UInt8
  b : Evt.Ba
  stream : ByteArray
  ver : Int
/-- what is answered -/
structure An where
  err : Int
  n : Int
  evs : List Evt.Ev
  view : Vw.Vi
def an0 : An := ⟨0, 0, [], Vw.none'⟩
def anE (e : Int) : An := ⟨e, 0, [], Vw.none'⟩
def anN (n : Int) : An := ⟨0, n, [], Vw.none'⟩
def wrongS (d s b : Int) : Int := if Mat.wrongC d s ≠ 0 then Mat.wrongC d s else if b < 1 ∨ 10 < b then 3 else 0
/-- a disk's block of a segment -/
def find (l : List Hd) (k : Int) : Option (List UInt8) := match l with
  | [] => none
  | h :: t => if h.seg = k then some h.b else find t k
def blockOf (d : Dk) (k : Int) : List UInt8 := if d.gone = true then [] else (find d.bl k).getD []
def blocks (ds : List Dk) (k : Int) : List (List UInt8) := ds.map fun d => blockOf d k
def setB (l : List Hd) (k : Int) (x : List UInt8) : List Hd := match l with
  | [] => []
  | h :: t => if h.seg = k then ⟨h.seg, x⟩ :: t else h :: setB t k x
def insB (l : List Hd) (k : Int) (x : List UInt8) : List Hd := match l with
  | [] => [⟨k, x⟩]
  | h :: t => if h.seg < k then h :: insB t k x else ⟨k, x⟩ :: h :: t
def putB (l : List Hd) (k : Int) (x : List UInt8) : List Hd := match find l k with
  | none => insB l k x
  | some _ => setB l k x
def wrD (d : Dk) (k : Int) (x : List UInt8) : Dk := if d.gone = true then d else ⟨d.gone, putB d.bl k x⟩
def write (ds : List Dk) (k : Int) (L : List (List UInt8)) : List Dk := (List.range ds.length).map fun i => wrD (ds.getD i ⟨false, []⟩) k (L.getD i [])
/-- batches of the first k segments -/
noncomputable def allTo (ds : List Dk) (d : Int) : Nat → List Evt.Ba × Int
  | 0 => ([], 0)
  | k + 1 => if (allTo ds d k).2 ≠ 0 then ([], (allTo ds d k).2) else if (Stp.readF (blocks ds k) k d).2 ≠ 0 then ([], (Stp.readF (blocks ds k) k d).2)
    else if (Evt.parse (Stp.readF (blocks ds k) k d).1).err ≠ 0 then ([], (Evt.parse (Stp.readF (blocks ds k) k d).1).err) else ((allTo ds d k).1 ++ (Evt.parse (Stp.readF (blocks ds k) k d).1).l, 0)
noncomputable def all (s : St) : List Evt.Ba × Int := if (allTo s.disks s.data s.segs).2 ≠ 0 then ([], (allTo s.disks s.data s.segs).2) else ((allTo s.disks s.data s.segs).1 ++ s.tail, 0)
def events (l : List Evt.Ba) : List Evt.Ev := l.flatMap Evt.Ba.evs
/-- the tail becomes a segment -/
noncomputable def sealS (s : St) : St × Int :=
  if (Evt.bytesR s.tail).err ≠ 0 then (s, (Evt.bytesR s.tail).err)
  else if (Stp.layF (Evt.bytesR s.tail).l s.segs s.data s.spare).2 ≠ 0 then (s, (Stp.layF (Evt.bytesR s.tail).l s.segs s.data s.spare).2)
  else ({ s with disks := write s.disks s.segs (Stp.layF (Evt.bytesR s.tail).l s.segs s.data s.spare).1, segs := s.segs + 1, tail := [] }, 0)
def insS (l : List Int) (c : Int) : List Int := match l with
  | [] => [c]
  | x :: t => if x < c then x :: insS t c else c :: x :: t
noncomputable def put (s : St) (d : Do) : St × An :=
  if (Evt.wrongBa d.b).1 ≠ 0 then (s, anE (Evt.wrongBa d.b).1)
  else if d.b.c ∈ s.seen then (s, anN s.snap.upto)
  else if 0 ≤ d.ver ∧ (Vw.get s.snap.accs d.stream).cnt ≠ d.ver then (s, anE 11)
  else if (Vw.fold s.snap d.b.evs).err ≠ 0 then (s, anE (Vw.fold s.snap d.b.evs).err)
  else if ((s.tail ++ [d.b]).length : Int) = s.batches then
    if (sealS { s with tail := s.tail ++ [d.b] }).2 ≠ 0 then (s, anE (sealS { s with tail := s.tail ++ [d.b] }).2)
    else ({ (sealS { s with tail := s.tail ++ [d.b] }).1 with seen := insS s.seen d.b.c, snap := (Vw.fold s.snap d.b.evs).v }, anN (Vw.fold s.snap d.b.evs).v.upto)
  else ({ s with tail := s.tail ++ [d.b], seen := insS s.seen d.b.c, snap := (Vw.fold s.snap d.b.evs).v }, anN (Vw.fold s.snap d.b.evs).v.upto)
noncomputable def read (s : St) (d : Do) : An :=
  if (all s).2 ≠ 0 then anE (all s).2
  else if d.kind = 3 then
    if d.n < 0 ∨ ((events (all s).1).length : Int) < d.n then anE 3 else ⟨0, (events (all s).1).length, (events (all s).1).drop d.n.toNat, Vw.none'⟩
  else if Evt.named (Evt.lst d.stream) = false then anE 7
  else ⟨0, ((events (all s).1).filter fun x => decide (x.s = d.stream)).length, (events (all s).1).filter fun x => decide (x.s = d.stream), Vw.none'⟩
noncomputable def look (s : St) : An :=
  if (all s).2 ≠ 0 then anE (all s).2 else ⟨(Vw.fold Vw.none' (events (all s).1)).err, (Vw.fold Vw.none' (events (all s).1)).v.upto, [], (Vw.fold Vw.none' (events (all s).1)).v⟩
def harm (s : St) (d : Do) : St × An :=
  if d.n < 0 ∨ (s.disks.length : Int) ≤ d.n then (s, anE 6)
  else if d.kind = 6 then ({ s with disks := s.disks.set d.n.toNat ⟨false, []⟩ }, an0)
  else if d.kind = 5 then
    if (s.disks.getD d.n.toNat ⟨false, []⟩).gone = true then (s, anE 8) else ({ s with disks := s.disks.set d.n.toNat ⟨true, []⟩ }, an0)
  else match find (s.disks.getD d.n.toNat ⟨false, []⟩).bl d.seg with
    | none => (s, anE 6)
    | some b => if d.t < 0 ∨ (b.length : Int) ≤ d.t then (s, anE 3)
      else ({ s with disks := s.disks.set d.n.toNat ⟨(s.disks.getD d.n.toNat ⟨false, []⟩).gone, setB (s.disks.getD d.n.toNat ⟨false, []⟩).bl d.seg (b.set d.t.toNat (b.getD d.t.toNat 0 ^^^ d.y))⟩ }, an0)
/-- mending the first k segments: disks, how many blocks were written, the first error -/
noncomputable def scrubTo (ds : List Dk) (d : Int) : Nat → List Dk × Int × Int
  | 0 => (ds, 0, 0)
  | k + 1 =>
    let p := scrubTo ds d k
    let l := blocks p.1 k
    if Stp.badL l k l.length = [] then p
    else if (Stp.mendF l k d).2 ≠ 0 then (p.1, p.2.1, if p.2.2 = 0 then (Stp.mendF l k d).2 else p.2.2)
    else (write p.1 k (Stp.mendF l k d).1, p.2.1 + ((Stp.badL l k l.length).filter fun i => !(p.1.getD i ⟨false, []⟩).gone).length, p.2.2)
noncomputable def scrub (s : St) : St × An := ({ s with disks := (scrubTo s.disks s.data s.segs).1 }, ⟨(scrubTo s.disks s.data s.segs).2.2, (scrubTo s.disks s.data s.segs).2.1, [], Vw.none'⟩)
noncomputable def healthTo (ds : List Dk) : Nat → Nat
  | 0 => 0
  | k + 1 => healthTo ds k + (Stp.badL (blocks ds k) k ds.length).length
noncomputable def step (s : St) (d : Do) : St × An :=
  if d.kind = 1 then put s d else if d.kind = 2 ∨ d.kind = 3 then (s, read s d) else if d.kind = 4 then (s, look s)
  else if d.kind = 5 ∨ d.kind = 6 ∨ d.kind = 7 then harm s d else if d.kind = 8 then scrub s else if d.kind = 9 then (s, anN (healthTo s.disks s.segs)) else (s, anE 1)
noncomputable def run (s : St) : List Do → St × List An
  | [] => (s, [])
  | d :: l => ((run (step s d).1 l).1, (step s d).2 :: (run (step s d).1 l).2)
def start (d s b : Int) : St := ⟨d, s, b, List.replicate (d + s).toNat ⟨false, []⟩, 0, [], [], Vw.none'⟩
def nil : St := ⟨0, 0, 0, [], 0, [], [], Vw.none'⟩
/-- Play: the store, the answers, the error's number -/
noncomputable def play (d s b : Int) (l : List Do) : St × List An × Int :=
  if wrongS d s b ≠ 0 then (nil, [], wrongS d s b) else if 80 < l.length then (nil, [], 5) else ((run (start d s b) l).1, (run (start d s b) l).2, 0)
end Go.Proofs.Ythhcdfjijagalaa.Sto
namespace Go.Proofs.Ythhcdfjijagalaa
open Go.RowKit
set_option linter.unusedVariables false
def acVal (a : Vw.Acc) : Value := .agg #[.string a.s, .int .i64 a.sum, .int .i64 a.cnt, .bool a.opn]
def ac4 (a : Vw.Acc) : List Value := [.string a.s, .int .i64 a.sum, .int .i64 a.cnt, .bool a.opn]
def acCells (l : List Vw.Acc) : List Value := l.flatMap ac4
theorem acCells_length (l : List Vw.Acc) : (acCells l).length = l.length * 4 := by
  induction l with
  | nil => rfl
  | cons e l ih => unfold acCells at *; rw [List.flatMap_cons, List.length_append, ih]; simp [ac4]; omega
theorem acCells_append (l m : List Vw.Acc) : acCells (l ++ m) = acCells l ++ acCells m := by unfold acCells; simp
theorem acCells_one (l : List Vw.Acc) : ∀ u ∈ acCells l, u.oneCell' = true := by
  intro u hu
  unfold acCells at hu
  obtain ⟨a, _, h⟩ := List.mem_flatMap.1 hu
  simp only [ac4, List.mem_cons, List.not_mem_nil, or_false] at h
  rcases h with rfl | rfl | rfl | rfl <;> rfl
theorem acCells_get (l : List Vw.Acc) : ∀ (i : Nat) (h : i < l.length), (acCells l)[i * 4]? = some (.string l[i].s) ∧ (acCells l)[i * 4 + 1]? = some (.int .i64 l[i].sum) ∧ (acCells l)[i * 4 + 2]? = some (.int .i64 l[i].cnt) ∧ (acCells l)[i * 4 + 3]? = some (.bool l[i].opn) := by
  induction l with
  | nil => intro i h; exact absurd h (by simp)
  | cons e l ih =>
    intro i h
    have e0 : acCells (e :: l) = ac4 e ++ acCells l := rfl
    rw [e0]
    match i with
    | 0 => exact ⟨rfl, rfl, rfl, rfl⟩
    | i + 1 =>
      have := ih i (by simpa using h)
      have g : ∀ j, (ac4 e ++ acCells l)[(i + 1) * 4 + j]? = (acCells l)[i * 4 + j]? := by
        intro j
        rw [List.getElem?_append_right (by simp [ac4]; omega)]
        congr 1
        simp [ac4]; omega
      exact ⟨(g 0).trans this.1, (g 1).trans this.2.1, (g 2).trans this.2.2.1, (g 3).trans this.2.2.2⟩
/-- The slice (a, n, cap) reads as these accounts. -/
structure As (w : World) (a : Option Addr) (n cap : Nat) (l : List Vw.Acc) : Prop where
  sl : Sl w 4 a n cap (acCells l)
  ok : ∀ e ∈ l, e.s.size ≤ maxLen
section
variable {w w' : World} {a : Option Addr} {n cap : Nat} {l : List Vw.Acc}
theorem As.cnt (h : As w a n cap l) : l.length = n := by
  have := h.sl.len; rw [acCells_length] at this; omega
theorem As.below (h : As w a n cap l) (hb : Below w.heap.size w w') : As w' a n cap l := ⟨h.sl.below hb, h.ok⟩
theorem As.alloc (h : As w a n cap l) (o : Obj) : As (w.alloc o) a n cap l := ⟨h.sl.alloc o, h.ok⟩
theorem As.nil (w : World) : As w none 0 0 [] := ⟨Sl.none w 4, fun r hr => by cases hr⟩
theorem As.at {b off : Nat} (h : As w (some ⟨b, off, none⟩) n cap l) (i : Nat) (hi : i < l.length) :
    w.cell? ⟨b, off + i * 4, none⟩ = some (.string l[i].s) ∧ w.cell? ⟨b, off + i * 4 + 1, none⟩ = some (.int .i64 l[i].sum) ∧ w.cell? ⟨b, off + i * 4 + 2, none⟩ = some (.int .i64 l[i].cnt) ∧ w.cell? ⟨b, off + i * 4 + 3, none⟩ = some (.bool l[i].opn) := by
  have hn := h.cnt
  have hg := acCells_get l i hi
  exact ⟨h.sl.cell (by omega) hg.1, h.sl.cell (by omega) hg.2.1, h.sl.cell (by omega) hg.2.2.1, h.sl.cell (by omega) hg.2.2.2⟩
end
end Go.Proofs.Ythhcdfjijagalaa
