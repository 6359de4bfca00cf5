/-
  No cell of these rows narrows 'for every input' (looked for: loops, veiled, ifaces, maps, wideKeys, modest, calm, conditions, laid).
  DERIVED. THE GIVEN ROWS OF THIS SEAT. 11 by the template 'for every input the law returns true; each argument reads behind the call as it read before'; 0 by the template 'total and deterministic' (their statements: YthhcdfjijagalaaTotals.lean).
  GIVEN WITH THE SEED: the statements are not yours to turn. If you find one false, say at which input.
  Laid BY PROGRAM, IN A SANDBOX (cutbox-rows.mjs): the forced cells as the released guide's own fill.sh prints them over the translation a07b90c2dc6cc02e… (all of the seat's roots in one cut). By AI agents, Wed Nov 11 2026. No macro, syntax, notation, axiom, sorry.
-/
import Derived.Test.YthhcdfjijagalaaChecked
import GoSem.Claim
import GoSem.ClaimJoined
import GoSem.ClaimMapViews
import Derived.JoinedTies
import Derived.KernelRfl
namespace Go.Proofs.Ythhcdfjijagalaa
/- THE CELL 'sum', in the pinned program and in every row, IS THE sha256 OF THE DUMP (.gsa) THAT YthhcdfjijagalaaProg.lean LOADS. Nothing in Lean hashes anything: it is a label: what it is worth is what the hold of that sum in a sandbox is worth. -/
noncomputable def Try.pinned : Pinned := { name := "ythhcdfjijagalaa", sum := "a07b90c2dc6cc02e747f31060a4845e9a7cb980060f605fcf74d09d89ed8d5e4", checked := Try.checked }
namespace Rows
def none {H : Type} : Left H := { results := [], args := [] }

/-- 'sparetop.TopLose': WHATEVER THE INPUT: true; the input reads as it did. -/
def topLoseSpec : ChangeSpec := { name := "topLose", fn := fun _ => fun
  | [d1, d2, d3, d4, d5] => { results := [.lit (.bool true)], args := [d1, d2, d3, d4, d5] }
  | _ => none }
def topLoseRow : OpenClaim := { program := "ythhcdfjijagalaa", sum := "a07b90c2dc6cc02e747f31060a4845e9a7cb980060f605fcf74d09d89ed8d5e4", func := "spareparts/sparetop.TopLose", spec := "topLose", inPlace := ["slices.overlaps[spareparts/api.Account]", "slices.overlaps[spareparts/api.Held]", "slices.overlaps[int]"], unfollowed := true, recurses := true, plainKeys := false, apart := false }
def TopLoseSaid : Prop := topLoseRow.holds Try.pinned (OpenSpec.ofChange topLoseSpec)

/-- ITS FALSE NEIGHBOUR: 'it returns false'. Refute it at one input. -/
def topLoseWrong : ChangeSpec := { name := "topLose", fn := fun _ => fun
  | [d1, d2, d3, d4, d5] => { results := [.lit (.bool false)], args := [d1, d2, d3, d4, d5] }
  | _ => none }
def TopLoseWrongFalsely : Prop := topLoseRow.holds Try.pinned (OpenSpec.ofChange topLoseWrong)

/-- 'sparetop.TopMore': WHATEVER THE INPUT: true; the input reads as it did. -/
def topMoreSpec : ChangeSpec := { name := "topMore", fn := fun _ => fun
  | [d1, d2, d3] => { results := [.lit (.bool true)], args := [d1, d2, d3] }
  | _ => none }
def topMoreRow : OpenClaim := { program := "ythhcdfjijagalaa", sum := "a07b90c2dc6cc02e747f31060a4845e9a7cb980060f605fcf74d09d89ed8d5e4", func := "spareparts/sparetop.TopMore", spec := "topMore", inPlace := ["slices.overlaps[spareparts/api.Account]", "slices.overlaps[spareparts/api.Held]", "slices.overlaps[int]"], unfollowed := true, recurses := true, plainKeys := false, apart := false }
def TopMoreSaid : Prop := topMoreRow.holds Try.pinned (OpenSpec.ofChange topMoreSpec)

/-- ITS FALSE NEIGHBOUR: 'it returns false'. Refute it at one input. -/
def topMoreWrong : ChangeSpec := { name := "topMore", fn := fun _ => fun
  | [d1, d2, d3] => { results := [.lit (.bool false)], args := [d1, d2, d3] }
  | _ => none }
def TopMoreWrongFalsely : Prop := topMoreRow.holds Try.pinned (OpenSpec.ofChange topMoreWrong)

/-- 'sparelaw8.StoreTruth': WHATEVER THE INPUT: true; the input reads as it did. -/
def storeTruthSpec : ChangeSpec := { name := "storeTruth", fn := fun _ => fun
  | [d1, d2] => { results := [.lit (.bool true)], args := [d1, d2] }
  | _ => none }
def storeTruthRow : OpenClaim := { program := "ythhcdfjijagalaa", sum := "a07b90c2dc6cc02e747f31060a4845e9a7cb980060f605fcf74d09d89ed8d5e4", func := "spareparts/sparelaw8.StoreTruth", spec := "storeTruth", inPlace := ["slices.overlaps[spareparts/api.Account]", "slices.overlaps[spareparts/api.Held]", "slices.overlaps[int]"], unfollowed := true, recurses := true, plainKeys := false, apart := false }
def StoreTruthSaid : Prop := storeTruthRow.holds Try.pinned (OpenSpec.ofChange storeTruthSpec)

/-- ITS FALSE NEIGHBOUR: 'it returns false'. Refute it at one input. -/
def storeTruthWrong : ChangeSpec := { name := "storeTruth", fn := fun _ => fun
  | [d1, d2] => { results := [.lit (.bool false)], args := [d1, d2] }
  | _ => none }
def StoreTruthWrongFalsely : Prop := storeTruthRow.holds Try.pinned (OpenSpec.ofChange storeTruthWrong)

/-- 'sparelaw8.StoreKeeps': WHATEVER THE INPUT: true; the input reads as it did. -/
def storeKeepsSpec : ChangeSpec := { name := "storeKeeps", fn := fun _ => fun
  | [d1, d2] => { results := [.lit (.bool true)], args := [d1, d2] }
  | _ => none }
def storeKeepsRow : OpenClaim := { program := "ythhcdfjijagalaa", sum := "a07b90c2dc6cc02e747f31060a4845e9a7cb980060f605fcf74d09d89ed8d5e4", func := "spareparts/sparelaw8.StoreKeeps", spec := "storeKeeps", inPlace := ["slices.overlaps[spareparts/api.Account]", "slices.overlaps[spareparts/api.Held]", "slices.overlaps[int]"], unfollowed := true, recurses := true, plainKeys := false, apart := false }
def StoreKeepsSaid : Prop := storeKeepsRow.holds Try.pinned (OpenSpec.ofChange storeKeepsSpec)

/-- ITS FALSE NEIGHBOUR: 'it returns false'. Refute it at one input. -/
def storeKeepsWrong : ChangeSpec := { name := "storeKeeps", fn := fun _ => fun
  | [d1, d2] => { results := [.lit (.bool false)], args := [d1, d2] }
  | _ => none }
def StoreKeepsWrongFalsely : Prop := storeKeepsRow.holds Try.pinned (OpenSpec.ofChange storeKeepsWrong)

/-- 'sparelaw8.StoreScrubs': WHATEVER THE INPUT: true; the input reads as it did. -/
def storeScrubsSpec : ChangeSpec := { name := "storeScrubs", fn := fun _ => fun
  | [d1, d2] => { results := [.lit (.bool true)], args := [d1, d2] }
  | _ => none }
def storeScrubsRow : OpenClaim := { program := "ythhcdfjijagalaa", sum := "a07b90c2dc6cc02e747f31060a4845e9a7cb980060f605fcf74d09d89ed8d5e4", func := "spareparts/sparelaw8.StoreScrubs", spec := "storeScrubs", inPlace := ["slices.overlaps[spareparts/api.Account]", "slices.overlaps[spareparts/api.Held]", "slices.overlaps[int]"], unfollowed := true, recurses := true, plainKeys := false, apart := false }
def StoreScrubsSaid : Prop := storeScrubsRow.holds Try.pinned (OpenSpec.ofChange storeScrubsSpec)

/-- ITS FALSE NEIGHBOUR: 'it returns false'. Refute it at one input. -/
def storeScrubsWrong : ChangeSpec := { name := "storeScrubs", fn := fun _ => fun
  | [d1, d2] => { results := [.lit (.bool false)], args := [d1, d2] }
  | _ => none }
def StoreScrubsWrongFalsely : Prop := storeScrubsRow.holds Try.pinned (OpenSpec.ofChange storeScrubsWrong)

/-- 'sparelaw8.StoreOnce': WHATEVER THE INPUT: true; the input reads as it did. -/
def storeOnceSpec : ChangeSpec := { name := "storeOnce", fn := fun _ => fun
  | [d1, d2, d3] => { results := [.lit (.bool true)], args := [d1, d2, d3] }
  | _ => none }
def storeOnceRow : OpenClaim := { program := "ythhcdfjijagalaa", sum := "a07b90c2dc6cc02e747f31060a4845e9a7cb980060f605fcf74d09d89ed8d5e4", func := "spareparts/sparelaw8.StoreOnce", spec := "storeOnce", inPlace := ["slices.overlaps[spareparts/api.Account]", "slices.overlaps[spareparts/api.Held]", "slices.overlaps[int]"], unfollowed := true, recurses := true, plainKeys := false, apart := false }
def StoreOnceSaid : Prop := storeOnceRow.holds Try.pinned (OpenSpec.ofChange storeOnceSpec)

/-- ITS FALSE NEIGHBOUR: 'it returns false'. Refute it at one input. -/
def storeOnceWrong : ChangeSpec := { name := "storeOnce", fn := fun _ => fun
  | [d1, d2, d3] => { results := [.lit (.bool false)], args := [d1, d2, d3] }
  | _ => none }
def StoreOnceWrongFalsely : Prop := storeOnceRow.holds Try.pinned (OpenSpec.ofChange storeOnceWrong)

/-- 'sparelaw8.StoreVersion': WHATEVER THE INPUT: true; the input reads as it did. -/
def storeVersionSpec : ChangeSpec := { name := "storeVersion", fn := fun _ => fun
  | [d1, d2, d3, d4] => { results := [.lit (.bool true)], args := [d1, d2, d3, d4] }
  | _ => none }
def storeVersionRow : OpenClaim := { program := "ythhcdfjijagalaa", sum := "a07b90c2dc6cc02e747f31060a4845e9a7cb980060f605fcf74d09d89ed8d5e4", func := "spareparts/sparelaw8.StoreVersion", spec := "storeVersion", inPlace := ["slices.overlaps[spareparts/api.Account]", "slices.overlaps[spareparts/api.Held]", "slices.overlaps[int]"], unfollowed := true, recurses := true, plainKeys := false, apart := false }
def StoreVersionSaid : Prop := storeVersionRow.holds Try.pinned (OpenSpec.ofChange storeVersionSpec)

/-- ITS FALSE NEIGHBOUR: 'it returns false'. Refute it at one input. -/
def storeVersionWrong : ChangeSpec := { name := "storeVersion", fn := fun _ => fun
  | [d1, d2, d3, d4] => { results := [.lit (.bool false)], args := [d1, d2, d3, d4] }
  | _ => none }
def StoreVersionWrongFalsely : Prop := storeVersionRow.holds Try.pinned (OpenSpec.ofChange storeVersionWrong)

/-- 'sparelaw8.StoreSnap': WHATEVER THE INPUT: true; the input reads as it did. -/
def storeSnapSpec : ChangeSpec := { name := "storeSnap", fn := fun _ => fun
  | [d1, d2] => { results := [.lit (.bool true)], args := [d1, d2] }
  | _ => none }
def storeSnapRow : OpenClaim := { program := "ythhcdfjijagalaa", sum := "a07b90c2dc6cc02e747f31060a4845e9a7cb980060f605fcf74d09d89ed8d5e4", func := "spareparts/sparelaw8.StoreSnap", spec := "storeSnap", inPlace := ["slices.overlaps[spareparts/api.Account]", "slices.overlaps[spareparts/api.Held]", "slices.overlaps[int]"], unfollowed := true, recurses := true, plainKeys := false, apart := false }
def StoreSnapSaid : Prop := storeSnapRow.holds Try.pinned (OpenSpec.ofChange storeSnapSpec)

/-- ITS FALSE NEIGHBOUR: 'it returns false'. Refute it at one input. -/
def storeSnapWrong : ChangeSpec := { name := "storeSnap", fn := fun _ => fun
  | [d1, d2] => { results := [.lit (.bool false)], args := [d1, d2] }
  | _ => none }
def StoreSnapWrongFalsely : Prop := storeSnapRow.holds Try.pinned (OpenSpec.ofChange storeSnapWrong)

/-- 'sparetop.TopSpoilt': WHATEVER THE INPUT: true; the input reads as it did. -/
def topSpoiltSpec : ChangeSpec := { name := "topSpoilt", fn := fun _ => fun
  | [d1, d2, d3, d4, d5] => { results := [.lit (.bool true)], args := [d1, d2, d3, d4, d5] }
  | _ => none }
def topSpoiltRow : OpenClaim := { program := "ythhcdfjijagalaa", sum := "a07b90c2dc6cc02e747f31060a4845e9a7cb980060f605fcf74d09d89ed8d5e4", func := "spareparts/sparetop.TopSpoilt", spec := "topSpoilt", inPlace := ["slices.overlaps[spareparts/api.Account]", "slices.overlaps[spareparts/api.Held]", "slices.overlaps[int]"], unfollowed := true, recurses := true, plainKeys := false, apart := false }
def TopSpoiltSaid : Prop := topSpoiltRow.holds Try.pinned (OpenSpec.ofChange topSpoiltSpec)

/-- ITS FALSE NEIGHBOUR: 'it returns false'. Refute it at one input. -/
def topSpoiltWrong : ChangeSpec := { name := "topSpoilt", fn := fun _ => fun
  | [d1, d2, d3, d4, d5] => { results := [.lit (.bool false)], args := [d1, d2, d3, d4, d5] }
  | _ => none }
def TopSpoiltWrongFalsely : Prop := topSpoiltRow.holds Try.pinned (OpenSpec.ofChange topSpoiltWrong)

/-- 'sparetop.TopMoney': WHATEVER THE INPUT: true; the input reads as it did. -/
def topMoneySpec : ChangeSpec := { name := "topMoney", fn := fun _ => fun
  | [d] => { results := [.lit (.bool true)], args := [d] }
  | _ => none }
def topMoneyRow : OpenClaim := { program := "ythhcdfjijagalaa", sum := "a07b90c2dc6cc02e747f31060a4845e9a7cb980060f605fcf74d09d89ed8d5e4", func := "spareparts/sparetop.TopMoney", spec := "topMoney", inPlace := ["slices.overlaps[spareparts/api.Account]", "slices.overlaps[spareparts/api.Held]", "slices.overlaps[int]"], unfollowed := true, recurses := true, plainKeys := false, apart := false }
def TopMoneySaid : Prop := topMoneyRow.holds Try.pinned (OpenSpec.ofChange topMoneySpec)

/-- ITS FALSE NEIGHBOUR: 'it returns false'. Refute it at one input. -/
def topMoneyWrong : ChangeSpec := { name := "topMoney", fn := fun _ => fun
  | [d] => { results := [.lit (.bool false)], args := [d] }
  | _ => none }
def TopMoneyWrongFalsely : Prop := topMoneyRow.holds Try.pinned (OpenSpec.ofChange topMoneyWrong)

/-- 'sparetop.TopShape': WHATEVER THE INPUT: true; the input reads as it did. -/
def topShapeSpec : ChangeSpec := { name := "topShape", fn := fun _ => fun
  | [d1, d2, d3, d4] => { results := [.lit (.bool true)], args := [d1, d2, d3, d4] }
  | _ => none }
def topShapeRow : OpenClaim := { program := "ythhcdfjijagalaa", sum := "a07b90c2dc6cc02e747f31060a4845e9a7cb980060f605fcf74d09d89ed8d5e4", func := "spareparts/sparetop.TopShape", spec := "topShape", inPlace := ["slices.overlaps[spareparts/api.Account]", "slices.overlaps[spareparts/api.Held]", "slices.overlaps[int]"], unfollowed := true, recurses := true, plainKeys := false, apart := false }
def TopShapeSaid : Prop := topShapeRow.holds Try.pinned (OpenSpec.ofChange topShapeSpec)

/-- ITS FALSE NEIGHBOUR: 'it returns false'. Refute it at one input. -/
def topShapeWrong : ChangeSpec := { name := "topShape", fn := fun _ => fun
  | [d1, d2, d3, d4] => { results := [.lit (.bool false)], args := [d1, d2, d3, d4] }
  | _ => none }
def TopShapeWrongFalsely : Prop := topShapeRow.holds Try.pinned (OpenSpec.ofChange topShapeWrong)

/- THE SECOND FORM. 'bulk': how many values and letters a reading holds, each counted each time it is reached (what is shared counts as often as it is met; a slice's spare places count too). A statement '..UptoSaid' is the law's where the arguments, and the package variables that the reading takes, are together of bulk at most 1048576: NARROWER than '..Said'. Prove '..Said' where nothing that the law and all that it calls make is longer than what came in: it says more and counts as full. Else prove '..UptoSaid'. A law counts once. -/
mutual
def uptoBulk {H : Type} : DataW H → Nat
  | .lit (.string bytes) => bytes.length + 1
  | .lit _ => 1
  | .nil => 1
  | .ptr d => uptoBulk d + 1
  | .slice elems spare => uptoBulkAll elems + uptoBulkAll spare + 1
  | .agg parts => uptoBulkAll parts + 1
  | .iface _ d => uptoBulk d + 1
  | .map entries => uptoBulkEntries entries + 1
  | .held _ => 1
def uptoBulkAll {H : Type} : List (DataW H) → Nat
  | [] => 0
  | d :: r => uptoBulk d + uptoBulkAll r
def uptoBulkEntries {H : Type} : List (Lit × DataW H) → Nat
  | [] => 0
  | x :: r => uptoBulkEntry x + uptoBulkEntries r
def uptoBulkEntry {H : Type} : Lit × DataW H → Nat
  | (.string bytes, d) => bytes.length + uptoBulk d + 1
  | (_, d) => uptoBulk d + 1
 end
def uptoSmall : (H : Type) → List (DataW H) → Bool := fun _ ds => decide (uptoBulkAll ds ≤ 1048576)
def OpenSpec.upto (s : _root_.Go.ChangeSpec) : _root_.Go.OpenSpec := { _root_.Go.OpenSpec.ofChange s with cond := some uptoSmall }

/-- 'sparetop.TopLose', WHERE WHAT IT READS IS OF BULK AT MOST 1048576: true; the input reads as it did. -/
def topLoseUptoRow : OpenClaim := { program := "ythhcdfjijagalaa", sum := "a07b90c2dc6cc02e747f31060a4845e9a7cb980060f605fcf74d09d89ed8d5e4", func := "spareparts/sparetop.TopLose", spec := "topLose", inPlace := ["slices.overlaps[spareparts/api.Account]", "slices.overlaps[spareparts/api.Held]", "slices.overlaps[int]"], unfollowed := true, recurses := true, plainKeys := false, apart := false, narrowed := true }
def TopLoseUptoSaid : Prop := topLoseUptoRow.holds Try.pinned (OpenSpec.upto topLoseSpec)

/-- 'sparetop.TopMore', WHERE WHAT IT READS IS OF BULK AT MOST 1048576: true; the input reads as it did. -/
def topMoreUptoRow : OpenClaim := { program := "ythhcdfjijagalaa", sum := "a07b90c2dc6cc02e747f31060a4845e9a7cb980060f605fcf74d09d89ed8d5e4", func := "spareparts/sparetop.TopMore", spec := "topMore", inPlace := ["slices.overlaps[spareparts/api.Account]", "slices.overlaps[spareparts/api.Held]", "slices.overlaps[int]"], unfollowed := true, recurses := true, plainKeys := false, apart := false, narrowed := true }
def TopMoreUptoSaid : Prop := topMoreUptoRow.holds Try.pinned (OpenSpec.upto topMoreSpec)

/-- 'sparelaw8.StoreTruth', WHERE WHAT IT READS IS OF BULK AT MOST 1048576: true; the input reads as it did. -/
def storeTruthUptoRow : OpenClaim := { program := "ythhcdfjijagalaa", sum := "a07b90c2dc6cc02e747f31060a4845e9a7cb980060f605fcf74d09d89ed8d5e4", func := "spareparts/sparelaw8.StoreTruth", spec := "storeTruth", inPlace := ["slices.overlaps[spareparts/api.Account]", "slices.overlaps[spareparts/api.Held]", "slices.overlaps[int]"], unfollowed := true, recurses := true, plainKeys := false, apart := false, narrowed := true }
def StoreTruthUptoSaid : Prop := storeTruthUptoRow.holds Try.pinned (OpenSpec.upto storeTruthSpec)

/-- 'sparelaw8.StoreKeeps', WHERE WHAT IT READS IS OF BULK AT MOST 1048576: true; the input reads as it did. -/
def storeKeepsUptoRow : OpenClaim := { program := "ythhcdfjijagalaa", sum := "a07b90c2dc6cc02e747f31060a4845e9a7cb980060f605fcf74d09d89ed8d5e4", func := "spareparts/sparelaw8.StoreKeeps", spec := "storeKeeps", inPlace := ["slices.overlaps[spareparts/api.Account]", "slices.overlaps[spareparts/api.Held]", "slices.overlaps[int]"], unfollowed := true, recurses := true, plainKeys := false, apart := false, narrowed := true }
def StoreKeepsUptoSaid : Prop := storeKeepsUptoRow.holds Try.pinned (OpenSpec.upto storeKeepsSpec)

/-- 'sparelaw8.StoreScrubs', WHERE WHAT IT READS IS OF BULK AT MOST 1048576: true; the input reads as it did. -/
def storeScrubsUptoRow : OpenClaim := { program := "ythhcdfjijagalaa", sum := "a07b90c2dc6cc02e747f31060a4845e9a7cb980060f605fcf74d09d89ed8d5e4", func := "spareparts/sparelaw8.StoreScrubs", spec := "storeScrubs", inPlace := ["slices.overlaps[spareparts/api.Account]", "slices.overlaps[spareparts/api.Held]", "slices.overlaps[int]"], unfollowed := true, recurses := true, plainKeys := false, apart := false, narrowed := true }
def StoreScrubsUptoSaid : Prop := storeScrubsUptoRow.holds Try.pinned (OpenSpec.upto storeScrubsSpec)

/-- 'sparelaw8.StoreOnce', WHERE WHAT IT READS IS OF BULK AT MOST 1048576: true; the input reads as it did. -/
def storeOnceUptoRow : OpenClaim := { program := "ythhcdfjijagalaa", sum := "a07b90c2dc6cc02e747f31060a4845e9a7cb980060f605fcf74d09d89ed8d5e4", func := "spareparts/sparelaw8.StoreOnce", spec := "storeOnce", inPlace := ["slices.overlaps[spareparts/api.Account]", "slices.overlaps[spareparts/api.Held]", "slices.overlaps[int]"], unfollowed := true, recurses := true, plainKeys := false, apart := false, narrowed := true }
def StoreOnceUptoSaid : Prop := storeOnceUptoRow.holds Try.pinned (OpenSpec.upto storeOnceSpec)

/-- 'sparelaw8.StoreVersion', WHERE WHAT IT READS IS OF BULK AT MOST 1048576: true; the input reads as it did. -/
def storeVersionUptoRow : OpenClaim := { program := "ythhcdfjijagalaa", sum := "a07b90c2dc6cc02e747f31060a4845e9a7cb980060f605fcf74d09d89ed8d5e4", func := "spareparts/sparelaw8.StoreVersion", spec := "storeVersion", inPlace := ["slices.overlaps[spareparts/api.Account]", "slices.overlaps[spareparts/api.Held]", "slices.overlaps[int]"], unfollowed := true, recurses := true, plainKeys := false, apart := false, narrowed := true }
def StoreVersionUptoSaid : Prop := storeVersionUptoRow.holds Try.pinned (OpenSpec.upto storeVersionSpec)

/-- 'sparelaw8.StoreSnap', WHERE WHAT IT READS IS OF BULK AT MOST 1048576: true; the input reads as it did. -/
def storeSnapUptoRow : OpenClaim := { program := "ythhcdfjijagalaa", sum := "a07b90c2dc6cc02e747f31060a4845e9a7cb980060f605fcf74d09d89ed8d5e4", func := "spareparts/sparelaw8.StoreSnap", spec := "storeSnap", inPlace := ["slices.overlaps[spareparts/api.Account]", "slices.overlaps[spareparts/api.Held]", "slices.overlaps[int]"], unfollowed := true, recurses := true, plainKeys := false, apart := false, narrowed := true }
def StoreSnapUptoSaid : Prop := storeSnapUptoRow.holds Try.pinned (OpenSpec.upto storeSnapSpec)

/-- 'sparetop.TopSpoilt', WHERE WHAT IT READS IS OF BULK AT MOST 1048576: true; the input reads as it did. -/
def topSpoiltUptoRow : OpenClaim := { program := "ythhcdfjijagalaa", sum := "a07b90c2dc6cc02e747f31060a4845e9a7cb980060f605fcf74d09d89ed8d5e4", func := "spareparts/sparetop.TopSpoilt", spec := "topSpoilt", inPlace := ["slices.overlaps[spareparts/api.Account]", "slices.overlaps[spareparts/api.Held]", "slices.overlaps[int]"], unfollowed := true, recurses := true, plainKeys := false, apart := false, narrowed := true }
def TopSpoiltUptoSaid : Prop := topSpoiltUptoRow.holds Try.pinned (OpenSpec.upto topSpoiltSpec)

/-- 'sparetop.TopMoney', WHERE WHAT IT READS IS OF BULK AT MOST 1048576: true; the input reads as it did. -/
def topMoneyUptoRow : OpenClaim := { program := "ythhcdfjijagalaa", sum := "a07b90c2dc6cc02e747f31060a4845e9a7cb980060f605fcf74d09d89ed8d5e4", func := "spareparts/sparetop.TopMoney", spec := "topMoney", inPlace := ["slices.overlaps[spareparts/api.Account]", "slices.overlaps[spareparts/api.Held]", "slices.overlaps[int]"], unfollowed := true, recurses := true, plainKeys := false, apart := false, narrowed := true }
def TopMoneyUptoSaid : Prop := topMoneyUptoRow.holds Try.pinned (OpenSpec.upto topMoneySpec)

/-- 'sparetop.TopShape', WHERE WHAT IT READS IS OF BULK AT MOST 1048576: true; the input reads as it did. -/
def topShapeUptoRow : OpenClaim := { program := "ythhcdfjijagalaa", sum := "a07b90c2dc6cc02e747f31060a4845e9a7cb980060f605fcf74d09d89ed8d5e4", func := "spareparts/sparetop.TopShape", spec := "topShape", inPlace := ["slices.overlaps[spareparts/api.Account]", "slices.overlaps[spareparts/api.Held]", "slices.overlaps[int]"], unfollowed := true, recurses := true, plainKeys := false, apart := false, narrowed := true }
def TopShapeUptoSaid : Prop := topShapeUptoRow.holds Try.pinned (OpenSpec.upto topShapeSpec)

end Rows
end Go.Proofs.Ythhcdfjijagalaa
