/-
  No cell of these rows narrows 'for every input' (looked for: loops, veiled, ifaces, maps, wideKeys, modest, calm, conditions, laid).
  DERIVED. THE GIVEN ROWS OF THIS SEAT. 8 by the template 'for every input the law returns true; each argument reads behind the call as it read before'; 0 by the template 'total and deterministic' (their statements: YtjdgfijpmljhiaaTotals.lean).
  GIVEN WITH THE SEED: the statements are not yours to turn. If you find one false, say at which input.
  Laid BY PROGRAM, IN A SANDBOX (cutbox-rows.mjs): the forced cells as the released guide's own fill.sh prints them over the translation 4b99afe4cc8b67c9… (all of the seat's roots in one cut). By AI agents, Wed Nov 11 2026. No macro, syntax, notation, axiom, sorry.
-/
import Derived.Test.YtjdgfijpmljhiaaChecked
import GoSem.Claim
import GoSem.ClaimJoined
import GoSem.ClaimMapViews
import Derived.JoinedTies
import Derived.KernelRfl
namespace Go.Proofs.Ytjdgfijpmljhiaa
/- THE CELL 'sum', in the pinned program and in every row, IS THE sha256 OF THE DUMP (.gsa) THAT YtjdgfijpmljhiaaProg.lean LOADS. Nothing in Lean hashes anything: it is a label: what it is worth is what the hold of that sum in a sandbox is worth. -/
noncomputable def Try.pinned : Pinned := { name := "ytjdgfijpmljhiaa", sum := "4b99afe4cc8b67c9f92427fea2a6dda09024db21894775b33e3d1e0de8cb85f5", checked := Try.checked }
namespace Rows
def none {H : Type} : Left H := { results := [], args := [] }

/-- 'sparelaw7.ViewTells': WHATEVER THE INPUT: true; the input reads as it did. -/
def viewTellsSpec : ChangeSpec := { name := "viewTells", fn := fun _ => fun
  | [d1, d2, d3] => { results := [.lit (.bool true)], args := [d1, d2, d3] }
  | _ => none }
def viewTellsRow : OpenClaim := { program := "ytjdgfijpmljhiaa", sum := "4b99afe4cc8b67c9f92427fea2a6dda09024db21894775b33e3d1e0de8cb85f5", func := "spareparts/sparelaw7.ViewTells", spec := "viewTells", inPlace := ["slices.overlaps[spareparts/api.Account]"], unfollowed := true, recurses := true, apart := false }
def ViewTellsSaid : Prop := viewTellsRow.holds Try.pinned (OpenSpec.ofChange viewTellsSpec)

/-- ITS FALSE NEIGHBOUR: 'it returns false'. Refute it at one input. -/
def viewTellsWrong : ChangeSpec := { name := "viewTells", fn := fun _ => fun
  | [d1, d2, d3] => { results := [.lit (.bool false)], args := [d1, d2, d3] }
  | _ => none }
def ViewTellsWrongFalsely : Prop := viewTellsRow.holds Try.pinned (OpenSpec.ofChange viewTellsWrong)

/-- 'sparelaw7.ViewParts': WHATEVER THE INPUT: true; the input reads as it did. -/
def viewPartsSpec : ChangeSpec := { name := "viewParts", fn := fun _ => fun
  | [d1, d2, d3] => { results := [.lit (.bool true)], args := [d1, d2, d3] }
  | _ => none }
def viewPartsRow : OpenClaim := { program := "ytjdgfijpmljhiaa", sum := "4b99afe4cc8b67c9f92427fea2a6dda09024db21894775b33e3d1e0de8cb85f5", func := "spareparts/sparelaw7.ViewParts", spec := "viewParts", inPlace := ["slices.overlaps[spareparts/api.Account]"], unfollowed := true, recurses := true, apart := false }
def ViewPartsSaid : Prop := viewPartsRow.holds Try.pinned (OpenSpec.ofChange viewPartsSpec)

/-- ITS FALSE NEIGHBOUR: 'it returns false'. Refute it at one input. -/
def viewPartsWrong : ChangeSpec := { name := "viewParts", fn := fun _ => fun
  | [d1, d2, d3] => { results := [.lit (.bool false)], args := [d1, d2, d3] }
  | _ => none }
def ViewPartsWrongFalsely : Prop := viewPartsRow.holds Try.pinned (OpenSpec.ofChange viewPartsWrong)

/-- 'sparelaw7.ViewRight': WHATEVER THE INPUT: true; the input reads as it did. -/
def viewRightSpec : ChangeSpec := { name := "viewRight", fn := fun _ => fun
  | [d1, d2] => { results := [.lit (.bool true)], args := [d1, d2] }
  | _ => none }
def viewRightRow : OpenClaim := { program := "ytjdgfijpmljhiaa", sum := "4b99afe4cc8b67c9f92427fea2a6dda09024db21894775b33e3d1e0de8cb85f5", func := "spareparts/sparelaw7.ViewRight", spec := "viewRight", inPlace := ["slices.overlaps[spareparts/api.Account]"], unfollowed := true, recurses := true, apart := false }
def ViewRightSaid : Prop := viewRightRow.holds Try.pinned (OpenSpec.ofChange viewRightSpec)

/-- ITS FALSE NEIGHBOUR: 'it returns false'. Refute it at one input. -/
def viewRightWrong : ChangeSpec := { name := "viewRight", fn := fun _ => fun
  | [d1, d2] => { results := [.lit (.bool false)], args := [d1, d2] }
  | _ => none }
def ViewRightWrongFalsely : Prop := viewRightRow.holds Try.pinned (OpenSpec.ofChange viewRightWrong)

/-- 'sparelaw7.ViewOthers': WHATEVER THE INPUT: true; the input reads as it did. -/
def viewOthersSpec : ChangeSpec := { name := "viewOthers", fn := fun _ => fun
  | [d1, d2] => { results := [.lit (.bool true)], args := [d1, d2] }
  | _ => none }
def viewOthersRow : OpenClaim := { program := "ytjdgfijpmljhiaa", sum := "4b99afe4cc8b67c9f92427fea2a6dda09024db21894775b33e3d1e0de8cb85f5", func := "spareparts/sparelaw7.ViewOthers", spec := "viewOthers", inPlace := ["slices.overlaps[spareparts/api.Account]"], unfollowed := true, recurses := true, apart := false }
def ViewOthersSaid : Prop := viewOthersRow.holds Try.pinned (OpenSpec.ofChange viewOthersSpec)

/-- ITS FALSE NEIGHBOUR: 'it returns false'. Refute it at one input. -/
def viewOthersWrong : ChangeSpec := { name := "viewOthers", fn := fun _ => fun
  | [d1, d2] => { results := [.lit (.bool false)], args := [d1, d2] }
  | _ => none }
def ViewOthersWrongFalsely : Prop := viewOthersRow.holds Try.pinned (OpenSpec.ofChange viewOthersWrong)

/-- 'sparelaw6.StripeBad': WHATEVER THE INPUT: true; the input reads as it did. -/
def stripeBadSpec : ChangeSpec := { name := "stripeBad", fn := fun _ => fun
  | [d1, d2, d3, d4, d5] => { results := [.lit (.bool true)], args := [d1, d2, d3, d4, d5] }
  | _ => none }
def stripeBadRow : OpenClaim := { program := "ytjdgfijpmljhiaa", sum := "4b99afe4cc8b67c9f92427fea2a6dda09024db21894775b33e3d1e0de8cb85f5", func := "spareparts/sparelaw6.StripeBad", spec := "stripeBad", unfollowed := true, recurses := true, apart := false }
def StripeBadSaid : Prop := stripeBadRow.holds Try.pinned (OpenSpec.ofChange stripeBadSpec)

/-- ITS FALSE NEIGHBOUR: 'it returns false'. Refute it at one input. -/
def stripeBadWrong : ChangeSpec := { name := "stripeBad", fn := fun _ => fun
  | [d1, d2, d3, d4, d5] => { results := [.lit (.bool false)], args := [d1, d2, d3, d4, d5] }
  | _ => none }
def StripeBadWrongFalsely : Prop := stripeBadRow.holds Try.pinned (OpenSpec.ofChange stripeBadWrong)

/-- 'sparelaw6.StripePlace': WHATEVER THE INPUT: true; the input reads as it did. -/
def stripePlaceSpec : ChangeSpec := { name := "stripePlace", fn := fun _ => fun
  | [d1, d2, d3, d4, d5] => { results := [.lit (.bool true)], args := [d1, d2, d3, d4, d5] }
  | _ => none }
def stripePlaceRow : OpenClaim := { program := "ytjdgfijpmljhiaa", sum := "4b99afe4cc8b67c9f92427fea2a6dda09024db21894775b33e3d1e0de8cb85f5", func := "spareparts/sparelaw6.StripePlace", spec := "stripePlace", unfollowed := true, recurses := true, apart := false }
def StripePlaceSaid : Prop := stripePlaceRow.holds Try.pinned (OpenSpec.ofChange stripePlaceSpec)

/-- ITS FALSE NEIGHBOUR: 'it returns false'. Refute it at one input. -/
def stripePlaceWrong : ChangeSpec := { name := "stripePlace", fn := fun _ => fun
  | [d1, d2, d3, d4, d5] => { results := [.lit (.bool false)], args := [d1, d2, d3, d4, d5] }
  | _ => none }
def StripePlaceWrongFalsely : Prop := stripePlaceRow.holds Try.pinned (OpenSpec.ofChange stripePlaceWrong)

/-- 'sparelaw6.StripeTells': WHATEVER THE INPUT: true; the input reads as it did. -/
def stripeTellsSpec : ChangeSpec := { name := "stripeTells", fn := fun _ => fun
  | [d1, d2, d3, d4, d5] => { results := [.lit (.bool true)], args := [d1, d2, d3, d4, d5] }
  | _ => none }
def stripeTellsRow : OpenClaim := { program := "ytjdgfijpmljhiaa", sum := "4b99afe4cc8b67c9f92427fea2a6dda09024db21894775b33e3d1e0de8cb85f5", func := "spareparts/sparelaw6.StripeTells", spec := "stripeTells", unfollowed := true, recurses := true, apart := false }
def StripeTellsSaid : Prop := stripeTellsRow.holds Try.pinned (OpenSpec.ofChange stripeTellsSpec)

/-- ITS FALSE NEIGHBOUR: 'it returns false'. Refute it at one input. -/
def stripeTellsWrong : ChangeSpec := { name := "stripeTells", fn := fun _ => fun
  | [d1, d2, d3, d4, d5] => { results := [.lit (.bool false)], args := [d1, d2, d3, d4, d5] }
  | _ => none }
def StripeTellsWrongFalsely : Prop := stripeTellsRow.holds Try.pinned (OpenSpec.ofChange stripeTellsWrong)

/-- 'sparelaw6.StripeMends': WHATEVER THE INPUT: true; the input reads as it did. -/
def stripeMendsSpec : ChangeSpec := { name := "stripeMends", fn := fun _ => fun
  | [d1, d2, d3, d4, d5] => { results := [.lit (.bool true)], args := [d1, d2, d3, d4, d5] }
  | _ => none }
def stripeMendsRow : OpenClaim := { program := "ytjdgfijpmljhiaa", sum := "4b99afe4cc8b67c9f92427fea2a6dda09024db21894775b33e3d1e0de8cb85f5", func := "spareparts/sparelaw6.StripeMends", spec := "stripeMends", unfollowed := true, recurses := true, apart := false }
def StripeMendsSaid : Prop := stripeMendsRow.holds Try.pinned (OpenSpec.ofChange stripeMendsSpec)

/-- ITS FALSE NEIGHBOUR: 'it returns false'. Refute it at one input. -/
def stripeMendsWrong : ChangeSpec := { name := "stripeMends", fn := fun _ => fun
  | [d1, d2, d3, d4, d5] => { results := [.lit (.bool false)], args := [d1, d2, d3, d4, d5] }
  | _ => none }
def StripeMendsWrongFalsely : Prop := stripeMendsRow.holds Try.pinned (OpenSpec.ofChange stripeMendsWrong)

/- THE SECOND FORM. 'bulk': how many values and letters a reading holds, each counted each time it is reached (what is shared counts as often as it is met; a slice's spare places count too). A statement '..UptoSaid' is the law's where the arguments, and the package variables that the reading takes, are together of bulk at most 1048576: NARROWER than '..Said'. Prove '..Said' where nothing that the law and all that it calls make is longer than what came in: it says more and counts as full. Else prove '..UptoSaid'. A law counts once. -/
mutual
def uptoBulk {H : Type} : DataW H → Nat
  | .lit (.string bytes) => bytes.length + 1
  | .lit _ => 1
  | .nil => 1
  | .ptr d => uptoBulk d + 1
  | .slice elems spare => uptoBulkAll elems + uptoBulkAll spare + 1
  | .agg parts => uptoBulkAll parts + 1
  | .iface _ d => uptoBulk d + 1
  | .map entries => uptoBulkEntries entries + 1
  | .held _ => 1
def uptoBulkAll {H : Type} : List (DataW H) → Nat
  | [] => 0
  | d :: r => uptoBulk d + uptoBulkAll r
def uptoBulkEntries {H : Type} : List (Lit × DataW H) → Nat
  | [] => 0
  | x :: r => uptoBulkEntry x + uptoBulkEntries r
def uptoBulkEntry {H : Type} : Lit × DataW H → Nat
  | (.string bytes, d) => bytes.length + uptoBulk d + 1
  | (_, d) => uptoBulk d + 1
 end
def uptoSmall : (H : Type) → List (DataW H) → Bool := fun _ ds => decide (uptoBulkAll ds ≤ 1048576)
def OpenSpec.upto (s : _root_.Go.ChangeSpec) : _root_.Go.OpenSpec := { _root_.Go.OpenSpec.ofChange s with cond := some uptoSmall }

/-- 'sparelaw7.ViewTells', WHERE WHAT IT READS IS OF BULK AT MOST 1048576: true; the input reads as it did. -/
def viewTellsUptoRow : OpenClaim := { program := "ytjdgfijpmljhiaa", sum := "4b99afe4cc8b67c9f92427fea2a6dda09024db21894775b33e3d1e0de8cb85f5", func := "spareparts/sparelaw7.ViewTells", spec := "viewTells", inPlace := ["slices.overlaps[spareparts/api.Account]"], unfollowed := true, recurses := true, apart := false, narrowed := true }
def ViewTellsUptoSaid : Prop := viewTellsUptoRow.holds Try.pinned (OpenSpec.upto viewTellsSpec)

/-- 'sparelaw7.ViewParts', WHERE WHAT IT READS IS OF BULK AT MOST 1048576: true; the input reads as it did. -/
def viewPartsUptoRow : OpenClaim := { program := "ytjdgfijpmljhiaa", sum := "4b99afe4cc8b67c9f92427fea2a6dda09024db21894775b33e3d1e0de8cb85f5", func := "spareparts/sparelaw7.ViewParts", spec := "viewParts", inPlace := ["slices.overlaps[spareparts/api.Account]"], unfollowed := true, recurses := true, apart := false, narrowed := true }
def ViewPartsUptoSaid : Prop := viewPartsUptoRow.holds Try.pinned (OpenSpec.upto viewPartsSpec)

/-- 'sparelaw7.ViewRight', WHERE WHAT IT READS IS OF BULK AT MOST 1048576: true; the input reads as it did. -/
def viewRightUptoRow : OpenClaim := { program := "ytjdgfijpmljhiaa", sum := "4b99afe4cc8b67c9f92427fea2a6dda09024db21894775b33e3d1e0de8cb85f5", func := "spareparts/sparelaw7.ViewRight", spec := "viewRight", inPlace := ["slices.overlaps[spareparts/api.Account]"], unfollowed := true, recurses := true, apart := false, narrowed := true }
def ViewRightUptoSaid : Prop := viewRightUptoRow.holds Try.pinned (OpenSpec.upto viewRightSpec)

/-- 'sparelaw7.ViewOthers', WHERE WHAT IT READS IS OF BULK AT MOST 1048576: true; the input reads as it did. -/
def viewOthersUptoRow : OpenClaim := { program := "ytjdgfijpmljhiaa", sum := "4b99afe4cc8b67c9f92427fea2a6dda09024db21894775b33e3d1e0de8cb85f5", func := "spareparts/sparelaw7.ViewOthers", spec := "viewOthers", inPlace := ["slices.overlaps[spareparts/api.Account]"], unfollowed := true, recurses := true, apart := false, narrowed := true }
def ViewOthersUptoSaid : Prop := viewOthersUptoRow.holds Try.pinned (OpenSpec.upto viewOthersSpec)

/-- 'sparelaw6.StripeBad', WHERE WHAT IT READS IS OF BULK AT MOST 1048576: true; the input reads as it did. -/
def stripeBadUptoRow : OpenClaim := { program := "ytjdgfijpmljhiaa", sum := "4b99afe4cc8b67c9f92427fea2a6dda09024db21894775b33e3d1e0de8cb85f5", func := "spareparts/sparelaw6.StripeBad", spec := "stripeBad", unfollowed := true, recurses := true, apart := false, narrowed := true }
def StripeBadUptoSaid : Prop := stripeBadUptoRow.holds Try.pinned (OpenSpec.upto stripeBadSpec)

/-- 'sparelaw6.StripePlace', WHERE WHAT IT READS IS OF BULK AT MOST 1048576: true; the input reads as it did. -/
def stripePlaceUptoRow : OpenClaim := { program := "ytjdgfijpmljhiaa", sum := "4b99afe4cc8b67c9f92427fea2a6dda09024db21894775b33e3d1e0de8cb85f5", func := "spareparts/sparelaw6.StripePlace", spec := "stripePlace", unfollowed := true, recurses := true, apart := false, narrowed := true }
def StripePlaceUptoSaid : Prop := stripePlaceUptoRow.holds Try.pinned (OpenSpec.upto stripePlaceSpec)

/-- 'sparelaw6.StripeTells', WHERE WHAT IT READS IS OF BULK AT MOST 1048576: true; the input reads as it did. -/
def stripeTellsUptoRow : OpenClaim := { program := "ytjdgfijpmljhiaa", sum := "4b99afe4cc8b67c9f92427fea2a6dda09024db21894775b33e3d1e0de8cb85f5", func := "spareparts/sparelaw6.StripeTells", spec := "stripeTells", unfollowed := true, recurses := true, apart := false, narrowed := true }
def StripeTellsUptoSaid : Prop := stripeTellsUptoRow.holds Try.pinned (OpenSpec.upto stripeTellsSpec)

/-- 'sparelaw6.StripeMends', WHERE WHAT IT READS IS OF BULK AT MOST 1048576: true; the input reads as it did. -/
def stripeMendsUptoRow : OpenClaim := { program := "ytjdgfijpmljhiaa", sum := "4b99afe4cc8b67c9f92427fea2a6dda09024db21894775b33e3d1e0de8cb85f5", func := "spareparts/sparelaw6.StripeMends", spec := "stripeMends", unfollowed := true, recurses := true, apart := false, narrowed := true }
def StripeMendsUptoSaid : Prop := stripeMendsUptoRow.holds Try.pinned (OpenSpec.upto stripeMendsSpec)

end Rows
end Go.Proofs.Ytjdgfijpmljhiaa
