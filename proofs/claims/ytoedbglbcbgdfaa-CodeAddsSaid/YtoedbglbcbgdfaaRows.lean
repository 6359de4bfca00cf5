/-
  No cell of these rows narrows 'for every input' (looked for: loops, veiled, ifaces, maps, wideKeys, modest, calm, conditions, laid).
  DERIVED. THE GIVEN ROWS OF THIS SEAT. 10 by the template 'for every input the law returns true; each argument reads behind the call as it read before'; 0 by the template 'total and deterministic' (their statements: YtoedbglbcbgdfaaTotals.lean).
  GIVEN WITH THE SEED: the statements are not yours to turn. If you find one false, say at which input.
  Laid BY PROGRAM, IN A SANDBOX (cutbox-rows.mjs): the forced cells as the released guide's own fill.sh prints them over the translation 0a99a3e6e7d7363c… (all of the seat's roots in one cut). By AI agents, Wed Nov 11 2026. No macro, syntax, notation, axiom, sorry.
-/
import Derived.Test.YtoedbglbcbgdfaaChecked
import GoSem.Claim
import GoSem.ClaimJoined
import GoSem.ClaimMapViews
import Derived.JoinedTies
import Derived.KernelRfl
namespace Go.Proofs.Ytoedbglbcbgdfaa
/- THE CELL 'sum', in the pinned program and in every row, IS THE sha256 OF THE DUMP (.gsa) THAT YtoedbglbcbgdfaaProg.lean LOADS. Nothing in Lean hashes anything: it is a label: what it is worth is what the hold of that sum in a sandbox is worth. -/
noncomputable def Try.pinned : Pinned := { name := "ytoedbglbcbgdfaa", sum := "0a99a3e6e7d7363c36c1c2d702029e4142997f70538702008c0c02f32e645a1d", checked := Try.checked }
namespace Rows
def none {H : Type} : Left H := { results := [], args := [] }

/-- 'sparelaw2.GridTwice': WHATEVER THE INPUT: true; the input reads as it did. -/
def gridTwiceSpec : ChangeSpec := { name := "gridTwice", fn := fun _ => fun
  | [d1, d2, d3] => { results := [.lit (.bool true)], args := [d1, d2, d3] }
  | _ => none }
def gridTwiceRow : OpenClaim := { program := "ytoedbglbcbgdfaa", sum := "0a99a3e6e7d7363c36c1c2d702029e4142997f70538702008c0c02f32e645a1d", func := "spareparts/sparelaw2.GridTwice", spec := "gridTwice", unfollowed := true, recurses := true, apart := false }
def GridTwiceSaid : Prop := gridTwiceRow.holds Try.pinned (OpenSpec.ofChange gridTwiceSpec)

/-- ITS FALSE NEIGHBOUR: 'it returns false'. Refute it at one input. -/
def gridTwiceWrong : ChangeSpec := { name := "gridTwice", fn := fun _ => fun
  | [d1, d2, d3] => { results := [.lit (.bool false)], args := [d1, d2, d3] }
  | _ => none }
def GridTwiceWrongFalsely : Prop := gridTwiceRow.holds Try.pinned (OpenSpec.ofChange gridTwiceWrong)

/-- 'sparelaw2.GridTells': WHATEVER THE INPUT: true; the input reads as it did. -/
def gridTellsSpec : ChangeSpec := { name := "gridTells", fn := fun _ => fun
  | [d1, d2, d3] => { results := [.lit (.bool true)], args := [d1, d2, d3] }
  | _ => none }
def gridTellsRow : OpenClaim := { program := "ytoedbglbcbgdfaa", sum := "0a99a3e6e7d7363c36c1c2d702029e4142997f70538702008c0c02f32e645a1d", func := "spareparts/sparelaw2.GridTells", spec := "gridTells", unfollowed := true, recurses := true, apart := false }
def GridTellsSaid : Prop := gridTellsRow.holds Try.pinned (OpenSpec.ofChange gridTellsSpec)

/-- ITS FALSE NEIGHBOUR: 'it returns false'. Refute it at one input. -/
def gridTellsWrong : ChangeSpec := { name := "gridTells", fn := fun _ => fun
  | [d1, d2, d3] => { results := [.lit (.bool false)], args := [d1, d2, d3] }
  | _ => none }
def GridTellsWrongFalsely : Prop := gridTellsRow.holds Try.pinned (OpenSpec.ofChange gridTellsWrong)

/-- 'sparelaw2.GridOne': WHATEVER THE INPUT: true; the input reads as it did. -/
def gridOneSpec : ChangeSpec := { name := "gridOne", fn := fun _ => fun
  | [d] => { results := [.lit (.bool true)], args := [d] }
  | _ => none }
def gridOneRow : OpenClaim := { program := "ytoedbglbcbgdfaa", sum := "0a99a3e6e7d7363c36c1c2d702029e4142997f70538702008c0c02f32e645a1d", func := "spareparts/sparelaw2.GridOne", spec := "gridOne", unfollowed := true, recurses := true, apart := false }
def GridOneSaid : Prop := gridOneRow.holds Try.pinned (OpenSpec.ofChange gridOneSpec)

/-- ITS FALSE NEIGHBOUR: 'it returns false'. Refute it at one input. -/
def gridOneWrong : ChangeSpec := { name := "gridOne", fn := fun _ => fun
  | [d] => { results := [.lit (.bool false)], args := [d] }
  | _ => none }
def GridOneWrongFalsely : Prop := gridOneRow.holds Try.pinned (OpenSpec.ofChange gridOneWrong)

/-- 'sparelaw2.GridThree': WHATEVER THE INPUT: true; the input reads as it did. -/
def gridThreeSpec : ChangeSpec := { name := "gridThree", fn := fun _ => fun
  | [d1, d2, d3] => { results := [.lit (.bool true)], args := [d1, d2, d3] }
  | _ => none }
def gridThreeRow : OpenClaim := { program := "ytoedbglbcbgdfaa", sum := "0a99a3e6e7d7363c36c1c2d702029e4142997f70538702008c0c02f32e645a1d", func := "spareparts/sparelaw2.GridThree", spec := "gridThree", unfollowed := true, recurses := true, apart := false }
def GridThreeSaid : Prop := gridThreeRow.holds Try.pinned (OpenSpec.ofChange gridThreeSpec)

/-- ITS FALSE NEIGHBOUR: 'it returns false'. Refute it at one input. -/
def gridThreeWrong : ChangeSpec := { name := "gridThree", fn := fun _ => fun
  | [d1, d2, d3] => { results := [.lit (.bool false)], args := [d1, d2, d3] }
  | _ => none }
def GridThreeWrongFalsely : Prop := gridThreeRow.holds Try.pinned (OpenSpec.ofChange gridThreeWrong)

/-- 'sparelaw2.GridBack': WHATEVER THE INPUT: true; the input reads as it did. -/
def gridBackSpec : ChangeSpec := { name := "gridBack", fn := fun _ => fun
  | [d] => { results := [.lit (.bool true)], args := [d] }
  | _ => none }
def gridBackRow : OpenClaim := { program := "ytoedbglbcbgdfaa", sum := "0a99a3e6e7d7363c36c1c2d702029e4142997f70538702008c0c02f32e645a1d", func := "spareparts/sparelaw2.GridBack", spec := "gridBack", unfollowed := true, recurses := true, apart := false }
def GridBackSaid : Prop := gridBackRow.holds Try.pinned (OpenSpec.ofChange gridBackSpec)

/-- ITS FALSE NEIGHBOUR: 'it returns false'. Refute it at one input. -/
def gridBackWrong : ChangeSpec := { name := "gridBack", fn := fun _ => fun
  | [d] => { results := [.lit (.bool false)], args := [d] }
  | _ => none }
def GridBackWrongFalsely : Prop := gridBackRow.holds Try.pinned (OpenSpec.ofChange gridBackWrong)

/-- 'sparelaw3.CodeTells': WHATEVER THE INPUT: true; the input reads as it did. -/
def codeTellsSpec : ChangeSpec := { name := "codeTells", fn := fun _ => fun
  | [d1, d2, d3] => { results := [.lit (.bool true)], args := [d1, d2, d3] }
  | _ => none }
def codeTellsRow : OpenClaim := { program := "ytoedbglbcbgdfaa", sum := "0a99a3e6e7d7363c36c1c2d702029e4142997f70538702008c0c02f32e645a1d", func := "spareparts/sparelaw3.CodeTells", spec := "codeTells", unfollowed := true, recurses := true, apart := false }
def CodeTellsSaid : Prop := codeTellsRow.holds Try.pinned (OpenSpec.ofChange codeTellsSpec)

/-- ITS FALSE NEIGHBOUR: 'it returns false'. Refute it at one input. -/
def codeTellsWrong : ChangeSpec := { name := "codeTells", fn := fun _ => fun
  | [d1, d2, d3] => { results := [.lit (.bool false)], args := [d1, d2, d3] }
  | _ => none }
def CodeTellsWrongFalsely : Prop := codeTellsRow.holds Try.pinned (OpenSpec.ofChange codeTellsWrong)

/-- 'sparelaw3.CodeMends': WHATEVER THE INPUT: true; the input reads as it did. -/
def codeMendsSpec : ChangeSpec := { name := "codeMends", fn := fun _ => fun
  | [d1, d2, d3] => { results := [.lit (.bool true)], args := [d1, d2, d3] }
  | _ => none }
def codeMendsRow : OpenClaim := { program := "ytoedbglbcbgdfaa", sum := "0a99a3e6e7d7363c36c1c2d702029e4142997f70538702008c0c02f32e645a1d", func := "spareparts/sparelaw3.CodeMends", spec := "codeMends", unfollowed := true, recurses := true, apart := false }
def CodeMendsSaid : Prop := codeMendsRow.holds Try.pinned (OpenSpec.ofChange codeMendsSpec)

/-- ITS FALSE NEIGHBOUR: 'it returns false'. Refute it at one input. -/
def codeMendsWrong : ChangeSpec := { name := "codeMends", fn := fun _ => fun
  | [d1, d2, d3] => { results := [.lit (.bool false)], args := [d1, d2, d3] }
  | _ => none }
def CodeMendsWrongFalsely : Prop := codeMendsRow.holds Try.pinned (OpenSpec.ofChange codeMendsWrong)

/-- 'sparelaw3.CodeGood': WHATEVER THE INPUT: true; the input reads as it did. -/
def codeGoodSpec : ChangeSpec := { name := "codeGood", fn := fun _ => fun
  | [d1, d2, d3, d4, d5] => { results := [.lit (.bool true)], args := [d1, d2, d3, d4, d5] }
  | _ => none }
def codeGoodRow : OpenClaim := { program := "ytoedbglbcbgdfaa", sum := "0a99a3e6e7d7363c36c1c2d702029e4142997f70538702008c0c02f32e645a1d", func := "spareparts/sparelaw3.CodeGood", spec := "codeGood", unfollowed := true, recurses := true, apart := false }
def CodeGoodSaid : Prop := codeGoodRow.holds Try.pinned (OpenSpec.ofChange codeGoodSpec)

/-- ITS FALSE NEIGHBOUR: 'it returns false'. Refute it at one input. -/
def codeGoodWrong : ChangeSpec := { name := "codeGood", fn := fun _ => fun
  | [d1, d2, d3, d4, d5] => { results := [.lit (.bool false)], args := [d1, d2, d3, d4, d5] }
  | _ => none }
def CodeGoodWrongFalsely : Prop := codeGoodRow.holds Try.pinned (OpenSpec.ofChange codeGoodWrong)

/-- 'sparelaw3.CodeAdds': WHATEVER THE INPUT: true; the input reads as it did. -/
def codeAddsSpec : ChangeSpec := { name := "codeAdds", fn := fun _ => fun
  | [d1, d2, d3] => { results := [.lit (.bool true)], args := [d1, d2, d3] }
  | _ => none }
def codeAddsRow : OpenClaim := { program := "ytoedbglbcbgdfaa", sum := "0a99a3e6e7d7363c36c1c2d702029e4142997f70538702008c0c02f32e645a1d", func := "spareparts/sparelaw3.CodeAdds", spec := "codeAdds", unfollowed := true, recurses := true, apart := false }
def CodeAddsSaid : Prop := codeAddsRow.holds Try.pinned (OpenSpec.ofChange codeAddsSpec)

/-- ITS FALSE NEIGHBOUR: 'it returns false'. Refute it at one input. -/
def codeAddsWrong : ChangeSpec := { name := "codeAdds", fn := fun _ => fun
  | [d1, d2, d3] => { results := [.lit (.bool false)], args := [d1, d2, d3] }
  | _ => none }
def CodeAddsWrongFalsely : Prop := codeAddsRow.holds Try.pinned (OpenSpec.ofChange codeAddsWrong)

/-- 'sparelaw3.CodeRows': WHATEVER THE INPUT: true; the input reads as it did. -/
def codeRowsSpec : ChangeSpec := { name := "codeRows", fn := fun _ => fun
  | [d1, d2, d3] => { results := [.lit (.bool true)], args := [d1, d2, d3] }
  | _ => none }
def codeRowsRow : OpenClaim := { program := "ytoedbglbcbgdfaa", sum := "0a99a3e6e7d7363c36c1c2d702029e4142997f70538702008c0c02f32e645a1d", func := "spareparts/sparelaw3.CodeRows", spec := "codeRows", unfollowed := true, recurses := true, apart := false }
def CodeRowsSaid : Prop := codeRowsRow.holds Try.pinned (OpenSpec.ofChange codeRowsSpec)

/-- ITS FALSE NEIGHBOUR: 'it returns false'. Refute it at one input. -/
def codeRowsWrong : ChangeSpec := { name := "codeRows", fn := fun _ => fun
  | [d1, d2, d3] => { results := [.lit (.bool false)], args := [d1, d2, d3] }
  | _ => none }
def CodeRowsWrongFalsely : Prop := codeRowsRow.holds Try.pinned (OpenSpec.ofChange codeRowsWrong)

/- THE SECOND FORM. 'bulk': how many values and letters a reading holds, each counted each time it is reached (what is shared counts as often as it is met; a slice's spare places count too). A statement '..UptoSaid' is the law's where the arguments, and the package variables that the reading takes, are together of bulk at most 1048576: NARROWER than '..Said'. Prove '..Said' where nothing that the law and all that it calls make is longer than what came in: it says more and counts as full. Else prove '..UptoSaid'. A law counts once. -/
mutual
def uptoBulk {H : Type} : DataW H → Nat
  | .lit (.string bytes) => bytes.length + 1
  | .lit _ => 1
  | .nil => 1
  | .ptr d => uptoBulk d + 1
  | .slice elems spare => uptoBulkAll elems + uptoBulkAll spare + 1
  | .agg parts => uptoBulkAll parts + 1
  | .iface _ d => uptoBulk d + 1
  | .map entries => uptoBulkEntries entries + 1
  | .held _ => 1
def uptoBulkAll {H : Type} : List (DataW H) → Nat
  | [] => 0
  | d :: r => uptoBulk d + uptoBulkAll r
def uptoBulkEntries {H : Type} : List (Lit × DataW H) → Nat
  | [] => 0
  | x :: r => uptoBulkEntry x + uptoBulkEntries r
def uptoBulkEntry {H : Type} : Lit × DataW H → Nat
  | (.string bytes, d) => bytes.length + uptoBulk d + 1
  | (_, d) => uptoBulk d + 1
 end
def uptoSmall : (H : Type) → List (DataW H) → Bool := fun _ ds => decide (uptoBulkAll ds ≤ 1048576)
def OpenSpec.upto (s : _root_.Go.ChangeSpec) : _root_.Go.OpenSpec := { _root_.Go.OpenSpec.ofChange s with cond := some uptoSmall }

/-- 'sparelaw2.GridTwice', WHERE WHAT IT READS IS OF BULK AT MOST 1048576: true; the input reads as it did. -/
def gridTwiceUptoRow : OpenClaim := { program := "ytoedbglbcbgdfaa", sum := "0a99a3e6e7d7363c36c1c2d702029e4142997f70538702008c0c02f32e645a1d", func := "spareparts/sparelaw2.GridTwice", spec := "gridTwice", unfollowed := true, recurses := true, apart := false, narrowed := true }
def GridTwiceUptoSaid : Prop := gridTwiceUptoRow.holds Try.pinned (OpenSpec.upto gridTwiceSpec)

/-- 'sparelaw2.GridTells', WHERE WHAT IT READS IS OF BULK AT MOST 1048576: true; the input reads as it did. -/
def gridTellsUptoRow : OpenClaim := { program := "ytoedbglbcbgdfaa", sum := "0a99a3e6e7d7363c36c1c2d702029e4142997f70538702008c0c02f32e645a1d", func := "spareparts/sparelaw2.GridTells", spec := "gridTells", unfollowed := true, recurses := true, apart := false, narrowed := true }
def GridTellsUptoSaid : Prop := gridTellsUptoRow.holds Try.pinned (OpenSpec.upto gridTellsSpec)

/-- 'sparelaw2.GridOne', WHERE WHAT IT READS IS OF BULK AT MOST 1048576: true; the input reads as it did. -/
def gridOneUptoRow : OpenClaim := { program := "ytoedbglbcbgdfaa", sum := "0a99a3e6e7d7363c36c1c2d702029e4142997f70538702008c0c02f32e645a1d", func := "spareparts/sparelaw2.GridOne", spec := "gridOne", unfollowed := true, recurses := true, apart := false, narrowed := true }
def GridOneUptoSaid : Prop := gridOneUptoRow.holds Try.pinned (OpenSpec.upto gridOneSpec)

/-- 'sparelaw2.GridThree', WHERE WHAT IT READS IS OF BULK AT MOST 1048576: true; the input reads as it did. -/
def gridThreeUptoRow : OpenClaim := { program := "ytoedbglbcbgdfaa", sum := "0a99a3e6e7d7363c36c1c2d702029e4142997f70538702008c0c02f32e645a1d", func := "spareparts/sparelaw2.GridThree", spec := "gridThree", unfollowed := true, recurses := true, apart := false, narrowed := true }
def GridThreeUptoSaid : Prop := gridThreeUptoRow.holds Try.pinned (OpenSpec.upto gridThreeSpec)

/-- 'sparelaw2.GridBack', WHERE WHAT IT READS IS OF BULK AT MOST 1048576: true; the input reads as it did. -/
def gridBackUptoRow : OpenClaim := { program := "ytoedbglbcbgdfaa", sum := "0a99a3e6e7d7363c36c1c2d702029e4142997f70538702008c0c02f32e645a1d", func := "spareparts/sparelaw2.GridBack", spec := "gridBack", unfollowed := true, recurses := true, apart := false, narrowed := true }
def GridBackUptoSaid : Prop := gridBackUptoRow.holds Try.pinned (OpenSpec.upto gridBackSpec)

/-- 'sparelaw3.CodeTells', WHERE WHAT IT READS IS OF BULK AT MOST 1048576: true; the input reads as it did. -/
def codeTellsUptoRow : OpenClaim := { program := "ytoedbglbcbgdfaa", sum := "0a99a3e6e7d7363c36c1c2d702029e4142997f70538702008c0c02f32e645a1d", func := "spareparts/sparelaw3.CodeTells", spec := "codeTells", unfollowed := true, recurses := true, apart := false, narrowed := true }
def CodeTellsUptoSaid : Prop := codeTellsUptoRow.holds Try.pinned (OpenSpec.upto codeTellsSpec)

/-- 'sparelaw3.CodeMends', WHERE WHAT IT READS IS OF BULK AT MOST 1048576: true; the input reads as it did. -/
def codeMendsUptoRow : OpenClaim := { program := "ytoedbglbcbgdfaa", sum := "0a99a3e6e7d7363c36c1c2d702029e4142997f70538702008c0c02f32e645a1d", func := "spareparts/sparelaw3.CodeMends", spec := "codeMends", unfollowed := true, recurses := true, apart := false, narrowed := true }
def CodeMendsUptoSaid : Prop := codeMendsUptoRow.holds Try.pinned (OpenSpec.upto codeMendsSpec)

/-- 'sparelaw3.CodeGood', WHERE WHAT IT READS IS OF BULK AT MOST 1048576: true; the input reads as it did. -/
def codeGoodUptoRow : OpenClaim := { program := "ytoedbglbcbgdfaa", sum := "0a99a3e6e7d7363c36c1c2d702029e4142997f70538702008c0c02f32e645a1d", func := "spareparts/sparelaw3.CodeGood", spec := "codeGood", unfollowed := true, recurses := true, apart := false, narrowed := true }
def CodeGoodUptoSaid : Prop := codeGoodUptoRow.holds Try.pinned (OpenSpec.upto codeGoodSpec)

/-- 'sparelaw3.CodeAdds', WHERE WHAT IT READS IS OF BULK AT MOST 1048576: true; the input reads as it did. -/
def codeAddsUptoRow : OpenClaim := { program := "ytoedbglbcbgdfaa", sum := "0a99a3e6e7d7363c36c1c2d702029e4142997f70538702008c0c02f32e645a1d", func := "spareparts/sparelaw3.CodeAdds", spec := "codeAdds", unfollowed := true, recurses := true, apart := false, narrowed := true }
def CodeAddsUptoSaid : Prop := codeAddsUptoRow.holds Try.pinned (OpenSpec.upto codeAddsSpec)

/-- 'sparelaw3.CodeRows', WHERE WHAT IT READS IS OF BULK AT MOST 1048576: true; the input reads as it did. -/
def codeRowsUptoRow : OpenClaim := { program := "ytoedbglbcbgdfaa", sum := "0a99a3e6e7d7363c36c1c2d702029e4142997f70538702008c0c02f32e645a1d", func := "spareparts/sparelaw3.CodeRows", spec := "codeRows", unfollowed := true, recurses := true, apart := false, narrowed := true }
def CodeRowsUptoSaid : Prop := codeRowsUptoRow.holds Try.pinned (OpenSpec.upto codeRowsSpec)

end Rows
end Go.Proofs.Ytoedbglbcbgdfaa
