/-
  No cell of these rows narrows 'for every input' (looked for: loops, veiled, ifaces, maps, wideKeys, modest, calm, conditions, laid).
  DERIVED. THE GIVEN ROWS OF THIS SEAT. 12 by the template 'for every input the law returns true; each argument reads behind the call as it read before'; 0 by the template 'total and deterministic' (their statements: YtkngfobnfocpjaaTotals.lean).
  GIVEN WITH THE SEED: the statements are not yours to turn. If you find one false, say at which input.
  Laid BY PROGRAM, IN A SANDBOX (cutbox-rows.mjs): the forced cells as the released guide's own fill.sh prints them over the translation 17eb74fdb33b6eff… (all of the seat's roots in one cut). By AI agents, Wed Nov 11 2026. No macro, syntax, notation, axiom, sorry.
-/
import Derived.Test.YtkngfobnfocpjaaChecked
import GoSem.Claim
import GoSem.ClaimJoined
import GoSem.ClaimMapViews
import Derived.JoinedTies
import Derived.KernelRfl
namespace Go.Proofs.Ytkngfobnfocpjaa
/- THE CELL 'sum', in the pinned program and in every row, IS THE sha256 OF THE DUMP (.gsa) THAT YtkngfobnfocpjaaProg.lean LOADS. Nothing in Lean hashes anything: it is a label: what it is worth is what the hold of that sum in a sandbox is worth. -/
noncomputable def Try.pinned : Pinned := { name := "ytkngfobnfocpjaa", sum := "17eb74fdb33b6eff2cbf17740ea428a41c6dfe4685b375c2cb81cbe4cc1f9120", checked := Try.checked }
namespace Rows
def none {H : Type} : Left H := { results := [], args := [] }

/-- 'sparelaw1.FieldTells': WHATEVER THE INPUT: true; the input reads as it did. -/
def fieldTellsSpec : ChangeSpec := { name := "fieldTells", fn := fun _ => fun
  | [d1, d2, d3] => { results := [.lit (.bool true)], args := [d1, d2, d3] }
  | _ => none }
def fieldTellsRow : OpenClaim := { program := "ytkngfobnfocpjaa", sum := "17eb74fdb33b6eff2cbf17740ea428a41c6dfe4685b375c2cb81cbe4cc1f9120", func := "spareparts/sparelaw1.FieldTells", spec := "fieldTells", apart := false }
def FieldTellsSaid : Prop := fieldTellsRow.holds Try.pinned (OpenSpec.ofChange fieldTellsSpec)

/-- ITS FALSE NEIGHBOUR: 'it returns false'. Refute it at one input. -/
def fieldTellsWrong : ChangeSpec := { name := "fieldTells", fn := fun _ => fun
  | [d1, d2, d3] => { results := [.lit (.bool false)], args := [d1, d2, d3] }
  | _ => none }
def FieldTellsWrongFalsely : Prop := fieldTellsRow.holds Try.pinned (OpenSpec.ofChange fieldTellsWrong)

/-- 'sparelaw1.FieldLaws': WHATEVER THE INPUT: true; the input reads as it did. -/
def fieldLawsSpec : ChangeSpec := { name := "fieldLaws", fn := fun _ => fun
  | [d1, d2, d3] => { results := [.lit (.bool true)], args := [d1, d2, d3] }
  | _ => none }
def fieldLawsRow : OpenClaim := { program := "ytkngfobnfocpjaa", sum := "17eb74fdb33b6eff2cbf17740ea428a41c6dfe4685b375c2cb81cbe4cc1f9120", func := "spareparts/sparelaw1.FieldLaws", spec := "fieldLaws", apart := false }
def FieldLawsSaid : Prop := fieldLawsRow.holds Try.pinned (OpenSpec.ofChange fieldLawsSpec)

/-- ITS FALSE NEIGHBOUR: 'it returns false'. Refute it at one input. -/
def fieldLawsWrong : ChangeSpec := { name := "fieldLaws", fn := fun _ => fun
  | [d1, d2, d3] => { results := [.lit (.bool false)], args := [d1, d2, d3] }
  | _ => none }
def FieldLawsWrongFalsely : Prop := fieldLawsRow.holds Try.pinned (OpenSpec.ofChange fieldLawsWrong)

/-- 'sparelaw1.FieldBack': WHATEVER THE INPUT: true; the input reads as it did. -/
def fieldBackSpec : ChangeSpec := { name := "fieldBack", fn := fun _ => fun
  | [d1, d2] => { results := [.lit (.bool true)], args := [d1, d2] }
  | _ => none }
def fieldBackRow : OpenClaim := { program := "ytkngfobnfocpjaa", sum := "17eb74fdb33b6eff2cbf17740ea428a41c6dfe4685b375c2cb81cbe4cc1f9120", func := "spareparts/sparelaw1.FieldBack", spec := "fieldBack", apart := false }
def FieldBackSaid : Prop := fieldBackRow.holds Try.pinned (OpenSpec.ofChange fieldBackSpec)

/-- ITS FALSE NEIGHBOUR: 'it returns false'. Refute it at one input. -/
def fieldBackWrong : ChangeSpec := { name := "fieldBack", fn := fun _ => fun
  | [d1, d2] => { results := [.lit (.bool false)], args := [d1, d2] }
  | _ => none }
def FieldBackWrongFalsely : Prop := fieldBackRow.holds Try.pinned (OpenSpec.ofChange fieldBackWrong)

/-- 'sparelaw1.FieldPowers': WHATEVER THE INPUT: true; the input reads as it did. -/
def fieldPowersSpec : ChangeSpec := { name := "fieldPowers", fn := fun _ => fun
  | [d1, d2, d3] => { results := [.lit (.bool true)], args := [d1, d2, d3] }
  | _ => none }
def fieldPowersRow : OpenClaim := { program := "ytkngfobnfocpjaa", sum := "17eb74fdb33b6eff2cbf17740ea428a41c6dfe4685b375c2cb81cbe4cc1f9120", func := "spareparts/sparelaw1.FieldPowers", spec := "fieldPowers", apart := false }
def FieldPowersSaid : Prop := fieldPowersRow.holds Try.pinned (OpenSpec.ofChange fieldPowersSpec)

/-- ITS FALSE NEIGHBOUR: 'it returns false'. Refute it at one input. -/
def fieldPowersWrong : ChangeSpec := { name := "fieldPowers", fn := fun _ => fun
  | [d1, d2, d3] => { results := [.lit (.bool false)], args := [d1, d2, d3] }
  | _ => none }
def FieldPowersWrongFalsely : Prop := fieldPowersRow.holds Try.pinned (OpenSpec.ofChange fieldPowersWrong)

/-- 'sparelaw4.BlockTells': WHATEVER THE INPUT: true; the input reads as it did. -/
def blockTellsSpec : ChangeSpec := { name := "blockTells", fn := fun _ => fun
  | [d1, d2] => { results := [.lit (.bool true)], args := [d1, d2] }
  | _ => none }
def blockTellsRow : OpenClaim := { program := "ytkngfobnfocpjaa", sum := "17eb74fdb33b6eff2cbf17740ea428a41c6dfe4685b375c2cb81cbe4cc1f9120", func := "spareparts/sparelaw4.BlockTells", spec := "blockTells", apart := false }
def BlockTellsSaid : Prop := blockTellsRow.holds Try.pinned (OpenSpec.ofChange blockTellsSpec)

/-- ITS FALSE NEIGHBOUR: 'it returns false'. Refute it at one input. -/
def blockTellsWrong : ChangeSpec := { name := "blockTells", fn := fun _ => fun
  | [d1, d2] => { results := [.lit (.bool false)], args := [d1, d2] }
  | _ => none }
def BlockTellsWrongFalsely : Prop := blockTellsRow.holds Try.pinned (OpenSpec.ofChange blockTellsWrong)

/-- 'sparelaw4.BlockTurns': WHATEVER THE INPUT: true; the input reads as it did. -/
def blockTurnsSpec : ChangeSpec := { name := "blockTurns", fn := fun _ => fun
  | [d1, d2] => { results := [.lit (.bool true)], args := [d1, d2] }
  | _ => none }
def blockTurnsRow : OpenClaim := { program := "ytkngfobnfocpjaa", sum := "17eb74fdb33b6eff2cbf17740ea428a41c6dfe4685b375c2cb81cbe4cc1f9120", func := "spareparts/sparelaw4.BlockTurns", spec := "blockTurns", apart := false }
def BlockTurnsSaid : Prop := blockTurnsRow.holds Try.pinned (OpenSpec.ofChange blockTurnsSpec)

/-- ITS FALSE NEIGHBOUR: 'it returns false'. Refute it at one input. -/
def blockTurnsWrong : ChangeSpec := { name := "blockTurns", fn := fun _ => fun
  | [d1, d2] => { results := [.lit (.bool false)], args := [d1, d2] }
  | _ => none }
def BlockTurnsWrongFalsely : Prop := blockTurnsRow.holds Try.pinned (OpenSpec.ofChange blockTurnsWrong)

/-- 'sparelaw4.BlockSpoilt': WHATEVER THE INPUT: true; the input reads as it did. -/
def blockSpoiltSpec : ChangeSpec := { name := "blockSpoilt", fn := fun _ => fun
  | [d1, d2, d3] => { results := [.lit (.bool true)], args := [d1, d2, d3] }
  | _ => none }
def blockSpoiltRow : OpenClaim := { program := "ytkngfobnfocpjaa", sum := "17eb74fdb33b6eff2cbf17740ea428a41c6dfe4685b375c2cb81cbe4cc1f9120", func := "spareparts/sparelaw4.BlockSpoilt", spec := "blockSpoilt", apart := false }
def BlockSpoiltSaid : Prop := blockSpoiltRow.holds Try.pinned (OpenSpec.ofChange blockSpoiltSpec)

/-- ITS FALSE NEIGHBOUR: 'it returns false'. Refute it at one input. -/
def blockSpoiltWrong : ChangeSpec := { name := "blockSpoilt", fn := fun _ => fun
  | [d1, d2, d3] => { results := [.lit (.bool false)], args := [d1, d2, d3] }
  | _ => none }
def BlockSpoiltWrongFalsely : Prop := blockSpoiltRow.holds Try.pinned (OpenSpec.ofChange blockSpoiltWrong)

/-- 'sparelaw4.BlockCut': WHATEVER THE INPUT: true; the input reads as it did. -/
def blockCutSpec : ChangeSpec := { name := "blockCut", fn := fun _ => fun
  | [d1, d2] => { results := [.lit (.bool true)], args := [d1, d2] }
  | _ => none }
def blockCutRow : OpenClaim := { program := "ytkngfobnfocpjaa", sum := "17eb74fdb33b6eff2cbf17740ea428a41c6dfe4685b375c2cb81cbe4cc1f9120", func := "spareparts/sparelaw4.BlockCut", spec := "blockCut", apart := false }
def BlockCutSaid : Prop := blockCutRow.holds Try.pinned (OpenSpec.ofChange blockCutSpec)

/-- ITS FALSE NEIGHBOUR: 'it returns false'. Refute it at one input. -/
def blockCutWrong : ChangeSpec := { name := "blockCut", fn := fun _ => fun
  | [d1, d2] => { results := [.lit (.bool false)], args := [d1, d2] }
  | _ => none }
def BlockCutWrongFalsely : Prop := blockCutRow.holds Try.pinned (OpenSpec.ofChange blockCutWrong)

/-- 'sparelaw5.EventTells': WHATEVER THE INPUT: true; the input reads as it did. -/
def eventTellsSpec : ChangeSpec := { name := "eventTells", fn := fun _ => fun
  | [d1, d2, d3] => { results := [.lit (.bool true)], args := [d1, d2, d3] }
  | _ => none }
def eventTellsRow : OpenClaim := { program := "ytkngfobnfocpjaa", sum := "17eb74fdb33b6eff2cbf17740ea428a41c6dfe4685b375c2cb81cbe4cc1f9120", func := "spareparts/sparelaw5.EventTells", spec := "eventTells", unfollowed := true, recurses := true, apart := false }
def EventTellsSaid : Prop := eventTellsRow.holds Try.pinned (OpenSpec.ofChange eventTellsSpec)

/-- ITS FALSE NEIGHBOUR: 'it returns false'. Refute it at one input. -/
def eventTellsWrong : ChangeSpec := { name := "eventTells", fn := fun _ => fun
  | [d1, d2, d3] => { results := [.lit (.bool false)], args := [d1, d2, d3] }
  | _ => none }
def EventTellsWrongFalsely : Prop := eventTellsRow.holds Try.pinned (OpenSpec.ofChange eventTellsWrong)

/-- 'sparelaw5.EventTurns': WHATEVER THE INPUT: true; the input reads as it did. -/
def eventTurnsSpec : ChangeSpec := { name := "eventTurns", fn := fun _ => fun
  | [d1, d2] => { results := [.lit (.bool true)], args := [d1, d2] }
  | _ => none }
def eventTurnsRow : OpenClaim := { program := "ytkngfobnfocpjaa", sum := "17eb74fdb33b6eff2cbf17740ea428a41c6dfe4685b375c2cb81cbe4cc1f9120", func := "spareparts/sparelaw5.EventTurns", spec := "eventTurns", apart := false }
def EventTurnsSaid : Prop := eventTurnsRow.holds Try.pinned (OpenSpec.ofChange eventTurnsSpec)

/-- ITS FALSE NEIGHBOUR: 'it returns false'. Refute it at one input. -/
def eventTurnsWrong : ChangeSpec := { name := "eventTurns", fn := fun _ => fun
  | [d1, d2] => { results := [.lit (.bool false)], args := [d1, d2] }
  | _ => none }
def EventTurnsWrongFalsely : Prop := eventTurnsRow.holds Try.pinned (OpenSpec.ofChange eventTurnsWrong)

/-- 'sparetop.Names': WHATEVER THE INPUT: true; the input reads as it did. -/
def namesSpec : ChangeSpec := { name := "names", fn := fun _ => fun
  | [] => { results := [.lit (.bool true)], args := [] }
  | _ => none }
def namesRow : OpenClaim := { program := "ytkngfobnfocpjaa", sum := "17eb74fdb33b6eff2cbf17740ea428a41c6dfe4685b375c2cb81cbe4cc1f9120", func := "spareparts/sparetop.Names", spec := "names", apart := false }
def NamesSaid : Prop := namesRow.holds Try.pinned (OpenSpec.ofChange namesSpec)

/-- ITS FALSE NEIGHBOUR: 'it returns false'. Refute it at one input. -/
def namesWrong : ChangeSpec := { name := "names", fn := fun _ => fun
  | [] => { results := [.lit (.bool false)], args := [] }
  | _ => none }
def NamesWrongFalsely : Prop := namesRow.holds Try.pinned (OpenSpec.ofChange namesWrong)

/-- 'sparelaw5.EventJoined': WHATEVER THE INPUT: true; the input reads as it did. -/
def eventJoinedSpec : ChangeSpec := { name := "eventJoined", fn := fun _ => fun
  | [d1, d2] => { results := [.lit (.bool true)], args := [d1, d2] }
  | _ => none }
def eventJoinedRow : OpenClaim := { program := "ytkngfobnfocpjaa", sum := "17eb74fdb33b6eff2cbf17740ea428a41c6dfe4685b375c2cb81cbe4cc1f9120", func := "spareparts/sparelaw5.EventJoined", spec := "eventJoined", apart := false }
def EventJoinedSaid : Prop := eventJoinedRow.holds Try.pinned (OpenSpec.ofChange eventJoinedSpec)

/-- ITS FALSE NEIGHBOUR: 'it returns false'. Refute it at one input. -/
def eventJoinedWrong : ChangeSpec := { name := "eventJoined", fn := fun _ => fun
  | [d1, d2] => { results := [.lit (.bool false)], args := [d1, d2] }
  | _ => none }
def EventJoinedWrongFalsely : Prop := eventJoinedRow.holds Try.pinned (OpenSpec.ofChange eventJoinedWrong)

/- THE SECOND FORM. 'bulk': how many values and letters a reading holds, each counted each time it is reached (what is shared counts as often as it is met; a slice's spare places count too). A statement '..UptoSaid' is the law's where the arguments, and the package variables that the reading takes, are together of bulk at most 1048576: NARROWER than '..Said'. Prove '..Said' where nothing that the law and all that it calls make is longer than what came in: it says more and counts as full. Else prove '..UptoSaid'. A law counts once. -/
mutual
def uptoBulk {H : Type} : DataW H → Nat
  | .lit (.string bytes) => bytes.length + 1
  | .lit _ => 1
  | .nil => 1
  | .ptr d => uptoBulk d + 1
  | .slice elems spare => uptoBulkAll elems + uptoBulkAll spare + 1
  | .agg parts => uptoBulkAll parts + 1
  | .iface _ d => uptoBulk d + 1
  | .map entries => uptoBulkEntries entries + 1
  | .held _ => 1
def uptoBulkAll {H : Type} : List (DataW H) → Nat
  | [] => 0
  | d :: r => uptoBulk d + uptoBulkAll r
def uptoBulkEntries {H : Type} : List (Lit × DataW H) → Nat
  | [] => 0
  | x :: r => uptoBulkEntry x + uptoBulkEntries r
def uptoBulkEntry {H : Type} : Lit × DataW H → Nat
  | (.string bytes, d) => bytes.length + uptoBulk d + 1
  | (_, d) => uptoBulk d + 1
 end
def uptoSmall : (H : Type) → List (DataW H) → Bool := fun _ ds => decide (uptoBulkAll ds ≤ 1048576)
def OpenSpec.upto (s : _root_.Go.ChangeSpec) : _root_.Go.OpenSpec := { _root_.Go.OpenSpec.ofChange s with cond := some uptoSmall }

/-- 'sparelaw1.FieldTells', WHERE WHAT IT READS IS OF BULK AT MOST 1048576: true; the input reads as it did. -/
def fieldTellsUptoRow : OpenClaim := { program := "ytkngfobnfocpjaa", sum := "17eb74fdb33b6eff2cbf17740ea428a41c6dfe4685b375c2cb81cbe4cc1f9120", func := "spareparts/sparelaw1.FieldTells", spec := "fieldTells", apart := false, narrowed := true }
def FieldTellsUptoSaid : Prop := fieldTellsUptoRow.holds Try.pinned (OpenSpec.upto fieldTellsSpec)

/-- 'sparelaw1.FieldLaws', WHERE WHAT IT READS IS OF BULK AT MOST 1048576: true; the input reads as it did. -/
def fieldLawsUptoRow : OpenClaim := { program := "ytkngfobnfocpjaa", sum := "17eb74fdb33b6eff2cbf17740ea428a41c6dfe4685b375c2cb81cbe4cc1f9120", func := "spareparts/sparelaw1.FieldLaws", spec := "fieldLaws", apart := false, narrowed := true }
def FieldLawsUptoSaid : Prop := fieldLawsUptoRow.holds Try.pinned (OpenSpec.upto fieldLawsSpec)

/-- 'sparelaw1.FieldBack', WHERE WHAT IT READS IS OF BULK AT MOST 1048576: true; the input reads as it did. -/
def fieldBackUptoRow : OpenClaim := { program := "ytkngfobnfocpjaa", sum := "17eb74fdb33b6eff2cbf17740ea428a41c6dfe4685b375c2cb81cbe4cc1f9120", func := "spareparts/sparelaw1.FieldBack", spec := "fieldBack", apart := false, narrowed := true }
def FieldBackUptoSaid : Prop := fieldBackUptoRow.holds Try.pinned (OpenSpec.upto fieldBackSpec)

/-- 'sparelaw1.FieldPowers', WHERE WHAT IT READS IS OF BULK AT MOST 1048576: true; the input reads as it did. -/
def fieldPowersUptoRow : OpenClaim := { program := "ytkngfobnfocpjaa", sum := "17eb74fdb33b6eff2cbf17740ea428a41c6dfe4685b375c2cb81cbe4cc1f9120", func := "spareparts/sparelaw1.FieldPowers", spec := "fieldPowers", apart := false, narrowed := true }
def FieldPowersUptoSaid : Prop := fieldPowersUptoRow.holds Try.pinned (OpenSpec.upto fieldPowersSpec)

/-- 'sparelaw4.BlockTells', WHERE WHAT IT READS IS OF BULK AT MOST 1048576: true; the input reads as it did. -/
def blockTellsUptoRow : OpenClaim := { program := "ytkngfobnfocpjaa", sum := "17eb74fdb33b6eff2cbf17740ea428a41c6dfe4685b375c2cb81cbe4cc1f9120", func := "spareparts/sparelaw4.BlockTells", spec := "blockTells", apart := false, narrowed := true }
def BlockTellsUptoSaid : Prop := blockTellsUptoRow.holds Try.pinned (OpenSpec.upto blockTellsSpec)

/-- 'sparelaw4.BlockTurns', WHERE WHAT IT READS IS OF BULK AT MOST 1048576: true; the input reads as it did. -/
def blockTurnsUptoRow : OpenClaim := { program := "ytkngfobnfocpjaa", sum := "17eb74fdb33b6eff2cbf17740ea428a41c6dfe4685b375c2cb81cbe4cc1f9120", func := "spareparts/sparelaw4.BlockTurns", spec := "blockTurns", apart := false, narrowed := true }
def BlockTurnsUptoSaid : Prop := blockTurnsUptoRow.holds Try.pinned (OpenSpec.upto blockTurnsSpec)

/-- 'sparelaw4.BlockSpoilt', WHERE WHAT IT READS IS OF BULK AT MOST 1048576: true; the input reads as it did. -/
def blockSpoiltUptoRow : OpenClaim := { program := "ytkngfobnfocpjaa", sum := "17eb74fdb33b6eff2cbf17740ea428a41c6dfe4685b375c2cb81cbe4cc1f9120", func := "spareparts/sparelaw4.BlockSpoilt", spec := "blockSpoilt", apart := false, narrowed := true }
def BlockSpoiltUptoSaid : Prop := blockSpoiltUptoRow.holds Try.pinned (OpenSpec.upto blockSpoiltSpec)

/-- 'sparelaw4.BlockCut', WHERE WHAT IT READS IS OF BULK AT MOST 1048576: true; the input reads as it did. -/
def blockCutUptoRow : OpenClaim := { program := "ytkngfobnfocpjaa", sum := "17eb74fdb33b6eff2cbf17740ea428a41c6dfe4685b375c2cb81cbe4cc1f9120", func := "spareparts/sparelaw4.BlockCut", spec := "blockCut", apart := false, narrowed := true }
def BlockCutUptoSaid : Prop := blockCutUptoRow.holds Try.pinned (OpenSpec.upto blockCutSpec)

/-- 'sparelaw5.EventTells', WHERE WHAT IT READS IS OF BULK AT MOST 1048576: true; the input reads as it did. -/
def eventTellsUptoRow : OpenClaim := { program := "ytkngfobnfocpjaa", sum := "17eb74fdb33b6eff2cbf17740ea428a41c6dfe4685b375c2cb81cbe4cc1f9120", func := "spareparts/sparelaw5.EventTells", spec := "eventTells", unfollowed := true, recurses := true, apart := false, narrowed := true }
def EventTellsUptoSaid : Prop := eventTellsUptoRow.holds Try.pinned (OpenSpec.upto eventTellsSpec)

/-- 'sparelaw5.EventTurns', WHERE WHAT IT READS IS OF BULK AT MOST 1048576: true; the input reads as it did. -/
def eventTurnsUptoRow : OpenClaim := { program := "ytkngfobnfocpjaa", sum := "17eb74fdb33b6eff2cbf17740ea428a41c6dfe4685b375c2cb81cbe4cc1f9120", func := "spareparts/sparelaw5.EventTurns", spec := "eventTurns", apart := false, narrowed := true }
def EventTurnsUptoSaid : Prop := eventTurnsUptoRow.holds Try.pinned (OpenSpec.upto eventTurnsSpec)

/-- 'sparetop.Names', WHERE WHAT IT READS IS OF BULK AT MOST 1048576: true; the input reads as it did. -/
def namesUptoRow : OpenClaim := { program := "ytkngfobnfocpjaa", sum := "17eb74fdb33b6eff2cbf17740ea428a41c6dfe4685b375c2cb81cbe4cc1f9120", func := "spareparts/sparetop.Names", spec := "names", apart := false, narrowed := true }
def NamesUptoSaid : Prop := namesUptoRow.holds Try.pinned (OpenSpec.upto namesSpec)

/-- 'sparelaw5.EventJoined', WHERE WHAT IT READS IS OF BULK AT MOST 1048576: true; the input reads as it did. -/
def eventJoinedUptoRow : OpenClaim := { program := "ytkngfobnfocpjaa", sum := "17eb74fdb33b6eff2cbf17740ea428a41c6dfe4685b375c2cb81cbe4cc1f9120", func := "spareparts/sparelaw5.EventJoined", spec := "eventJoined", apart := false, narrowed := true }
def EventJoinedUptoSaid : Prop := eventJoinedUptoRow.holds Try.pinned (OpenSpec.upto eventJoinedSpec)

end Rows
end Go.Proofs.Ytkngfobnfocpjaa
