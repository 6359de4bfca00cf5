/- Plain laws of views: what is wrong with one, what a stream has, what comes of events. No program in sight. -/
import Derived.Test.YtjdgfijpmljhiaaEvt
namespace Go.Proofs.Ytjdgfijpmljhiaa.Vw
set_option linter.unusedVariables false
structure Acc where
  s : ByteArray
  sum : Int
  cnt : Int
  opn : Bool
structure Vi where
  upto : Int
  accs : List Acc
def key (a : Acc) : List UInt8 := Evt.lst a.s
def badRange (u : Int) (a : Acc) : Prop := a.cnt < 1 ∨ u < a.cnt ∨ a.sum < -1000000 * a.cnt ∨ 1000000 * a.cnt < a.sum
instance (u : Int) (a : Acc) : Decidable (badRange u a) := by unfold badRange; exact inferInstance
/-- is it behind what stood ahead of it? -/
def rises : Option (List UInt8) → Acc → Prop
  | none, _ => True
  | some q, a => q < key a
instance (p : Option (List UInt8)) (a : Acc) : Decidable (rises p a) := by cases p <;> unfold rises <;> exact inferInstance
def wl (u : Int) : Nat → Int → Option (List UInt8) → List Acc → Int × Int
  | i, c, _, [] => if c ≠ u then (8, (i : Int)) else (0, 0)
  | i, c, p, a :: r => if Evt.named (key a) = false then (7, (i : Int)) else if badRange u a then (3, (i : Int)) else if ¬ rises p a then (2, (i : Int)) else if u < c + a.cnt then (8, (i : Int)) else wl u (i + 1) (c + a.cnt) (some (key a)) r
def wrongV (v : Vi) : Int × Int := if v.upto < 0 ∨ 150 < v.upto then (3, 0) else wl v.upto 0 0 none v.accs
/-! ### accounts -/
def new (s : ByteArray) : Acc := ⟨s, 0, 0, false⟩
def get (l : List Acc) (s : ByteArray) : Acc := match l with
  | [] => new s
  | a :: r => if a.s = s then a else get r s
def may (a : Acc) (e : Evt.Ev) : Bool := if e.k = 1 then !a.opn else if e.k = 2 ∨ e.k = 4 then a.opn else if e.k = 3 then a.opn && decide (e.n ≤ a.sum) else false
def plus (a : Acc) (e : Evt.Ev) : Acc := if e.k = 2 then ⟨a.s, a.sum + e.n, a.cnt + 1, a.opn⟩ else if e.k = 3 then ⟨a.s, a.sum - e.n, a.cnt + 1, a.opn⟩ else ⟨a.s, a.sum, a.cnt + 1, decide (e.k = 1)⟩
/-- put in its place -/
def ins (a : Acc) : List Acc → List Acc
  | [] => [a]
  | x :: r => if key x < key a then x :: ins a r else if x.s = a.s then a :: r else a :: x :: r
structure St where
  v : Vi
  err : Int
def none' : Vi := ⟨0, []⟩
def apply (v : Vi) (e : Evt.Ev) : St :=
  if (wrongV v).1 ≠ 0 then ⟨none', (wrongV v).1⟩ else if Evt.wrongEv e ≠ 0 then ⟨none', Evt.wrongEv e⟩ else if v.upto = 150 then ⟨none', 5⟩
  else if may (get v.accs e.s) e = false then ⟨none', 8⟩ else ⟨⟨v.upto + 1, ins (plus (get v.accs e.s) e) v.accs⟩, 0⟩
structure Fo where
  v : Vi
  err : Int
  at_ : Int
def fo : Vi → List Evt.Ev → Nat → Fo
  | v, [], _ => ⟨v, 0, 0⟩
  | v, e :: r, i => if (apply v e).err ≠ 0 then ⟨none', (apply v e).err, (i : Int)⟩ else fo (apply v e).v r (i + 1)
def fold (v : Vi) (l : List Evt.Ev) : Fo := if (wrongV v).1 ≠ 0 then ⟨none', (wrongV v).1, 0⟩ else fo v l 0
end Go.Proofs.Ytjdgfijpmljhiaa.Vw
