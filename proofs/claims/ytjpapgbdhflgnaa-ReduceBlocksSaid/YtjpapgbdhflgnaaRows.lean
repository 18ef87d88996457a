/-
  NARROWER THAN 'FOR EVERY INPUT', by the rows' own cells (each row's printed sentence says how): ReduceBlocks: loops.
  DERIVED. THE GIVEN ROWS OF THIS SEAT. 3 by the template 'for every input the law returns true; each argument reads behind the call as it read before'; 0 by the template 'total and deterministic' (their statements: YtjpapgbdhflgnaaTotals.lean).
  GIVEN WITH THE SEED: the statements are not yours to turn. If you find one false, say at which input.
  Laid BY PROGRAM, IN A SANDBOX (cutbox-rows.mjs): the forced cells as the released guide's own fill.sh prints them over the translation 8926fc86ee752a73… (all of the seat's roots in one cut). By AI agents, Wed Nov 11 2026. No macro, syntax, notation, axiom, sorry.
-/
import Derived.Test.YtjpapgbdhflgnaaChecked
import GoSem.Claim
import GoSem.ClaimJoined
import GoSem.ClaimMapViews
import Derived.JoinedTies
import Derived.KernelRfl
namespace Go.Proofs.Ytjpapgbdhflgnaa
/- THE CELL 'sum', in the pinned program and in every row, IS THE sha256 OF THE DUMP (.gsa) THAT YtjpapgbdhflgnaaProg.lean LOADS. Nothing in Lean hashes anything: it is a label: what it is worth is what the hold of that sum in a sandbox is worth. -/
noncomputable def Try.pinned : Pinned := { name := "ytjpapgbdhflgnaa", sum := "8926fc86ee752a7382ab25160e6457a8a92ac84dde23db6c8a140e4d470e07a2", checked := Try.checked }
namespace Rows
def none {H : Type} : Left H := { results := [], args := [] }

/-- 'tokenhallkeep.ReduceBlocks': WHATEVER THE INPUT: true; the input reads as it did. -/
def reduceBlocksSpec : ChangeSpec := { name := "reduceBlocks", fn := fun _ => fun
  | [d] => { results := [.lit (.bool true)], args := [d] }
  | _ => none }
def reduceBlocksRow : OpenClaim := { program := "ytjpapgbdhflgnaa", sum := "8926fc86ee752a7382ab25160e6457a8a92ac84dde23db6c8a140e4d470e07a2", func := "tokenhall/tokenhallkeep.ReduceBlocks", spec := "reduceBlocks", unfollowed := true, recurses := true, loops := true, plainKeys := false, apart := false }
def ReduceBlocksSaid : Prop := reduceBlocksRow.holds Try.pinned (OpenSpec.ofChange reduceBlocksSpec)

/-- ITS FALSE NEIGHBOUR: 'it returns false'. Refute it at one input. -/
def reduceBlocksWrong : ChangeSpec := { name := "reduceBlocks", fn := fun _ => fun
  | [d] => { results := [.lit (.bool false)], args := [d] }
  | _ => none }
def ReduceBlocksWrongFalsely : Prop := reduceBlocksRow.holds Try.pinned (OpenSpec.ofChange reduceBlocksWrong)

/-- 'tokenhallkeep.ReduceShape': WHATEVER THE INPUT: true; the input reads as it did. -/
def reduceShapeSpec : ChangeSpec := { name := "reduceShape", fn := fun _ => fun
  | [d1, d2, d3] => { results := [.lit (.bool true)], args := [d1, d2, d3] }
  | _ => none }
def reduceShapeRow : OpenClaim := { program := "ytjpapgbdhflgnaa", sum := "8926fc86ee752a7382ab25160e6457a8a92ac84dde23db6c8a140e4d470e07a2", func := "tokenhall/tokenhallkeep.ReduceShape", spec := "reduceShape", unfollowed := true, recurses := true, plainKeys := false, apart := false }
def ReduceShapeSaid : Prop := reduceShapeRow.holds Try.pinned (OpenSpec.ofChange reduceShapeSpec)

/-- ITS FALSE NEIGHBOUR: 'it returns false'. Refute it at one input. -/
def reduceShapeWrong : ChangeSpec := { name := "reduceShape", fn := fun _ => fun
  | [d1, d2, d3] => { results := [.lit (.bool false)], args := [d1, d2, d3] }
  | _ => none }
def ReduceShapeWrongFalsely : Prop := reduceShapeRow.holds Try.pinned (OpenSpec.ofChange reduceShapeWrong)

/-- 'tokenhallkeep.ReduceSound': WHATEVER THE INPUT: true; the input reads as it did. -/
def reduceSoundSpec : ChangeSpec := { name := "reduceSound", fn := fun _ => fun
  | [d1, d2, d3, d4] => { results := [.lit (.bool true)], args := [d1, d2, d3, d4] }
  | _ => none }
def reduceSoundRow : OpenClaim := { program := "ytjpapgbdhflgnaa", sum := "8926fc86ee752a7382ab25160e6457a8a92ac84dde23db6c8a140e4d470e07a2", func := "tokenhall/tokenhallkeep.ReduceSound", spec := "reduceSound", unfollowed := true, recurses := true, plainKeys := false, apart := false }
def ReduceSoundSaid : Prop := reduceSoundRow.holds Try.pinned (OpenSpec.ofChange reduceSoundSpec)

/-- ITS FALSE NEIGHBOUR: 'it returns false'. Refute it at one input. -/
def reduceSoundWrong : ChangeSpec := { name := "reduceSound", fn := fun _ => fun
  | [d1, d2, d3, d4] => { results := [.lit (.bool false)], args := [d1, d2, d3, d4] }
  | _ => none }
def ReduceSoundWrongFalsely : Prop := reduceSoundRow.holds Try.pinned (OpenSpec.ofChange reduceSoundWrong)

/- THE SECOND FORM. 'bulk': how many values and letters a reading holds, each counted each time it is reached (what is shared counts as often as it is met; a slice's spare places count too). A statement '..UptoSaid' is the law's where the arguments, and the package variables that the reading takes, are together of bulk at most 1048576: NARROWER than '..Said'. Prove '..Said' where nothing that the law and all that it calls make is longer than what came in: it says more and counts as full. Else prove '..UptoSaid'. A law counts once. -/
mutual
def uptoBulk {H : Type} : DataW H → Nat
  | .lit (.string bytes) => bytes.length + 1
  | .lit _ => 1
  | .nil => 1
  | .ptr d => uptoBulk d + 1
  | .slice elems spare => uptoBulkAll elems + uptoBulkAll spare + 1
  | .agg parts => uptoBulkAll parts + 1
  | .iface _ d => uptoBulk d + 1
  | .map entries => uptoBulkEntries entries + 1
  | .held _ => 1
def uptoBulkAll {H : Type} : List (DataW H) → Nat
  | [] => 0
  | d :: r => uptoBulk d + uptoBulkAll r
def uptoBulkEntries {H : Type} : List (Lit × DataW H) → Nat
  | [] => 0
  | x :: r => uptoBulkEntry x + uptoBulkEntries r
def uptoBulkEntry {H : Type} : Lit × DataW H → Nat
  | (.string bytes, d) => bytes.length + uptoBulk d + 1
  | (_, d) => uptoBulk d + 1
 end
def uptoSmall : (H : Type) → List (DataW H) → Bool := fun _ ds => decide (uptoBulkAll ds ≤ 1048576)
def OpenSpec.upto (s : _root_.Go.ChangeSpec) : _root_.Go.OpenSpec := { _root_.Go.OpenSpec.ofChange s with cond := some uptoSmall }

/-- 'tokenhallkeep.ReduceBlocks', WHERE WHAT IT READS IS OF BULK AT MOST 1048576: true; the input reads as it did. -/
def reduceBlocksUptoRow : OpenClaim := { program := "ytjpapgbdhflgnaa", sum := "8926fc86ee752a7382ab25160e6457a8a92ac84dde23db6c8a140e4d470e07a2", func := "tokenhall/tokenhallkeep.ReduceBlocks", spec := "reduceBlocks", unfollowed := true, recurses := true, loops := true, plainKeys := false, apart := false, narrowed := true }
def ReduceBlocksUptoSaid : Prop := reduceBlocksUptoRow.holds Try.pinned (OpenSpec.upto reduceBlocksSpec)

/-- 'tokenhallkeep.ReduceShape', WHERE WHAT IT READS IS OF BULK AT MOST 1048576: true; the input reads as it did. -/
def reduceShapeUptoRow : OpenClaim := { program := "ytjpapgbdhflgnaa", sum := "8926fc86ee752a7382ab25160e6457a8a92ac84dde23db6c8a140e4d470e07a2", func := "tokenhall/tokenhallkeep.ReduceShape", spec := "reduceShape", unfollowed := true, recurses := true, plainKeys := false, apart := false, narrowed := true }
def ReduceShapeUptoSaid : Prop := reduceShapeUptoRow.holds Try.pinned (OpenSpec.upto reduceShapeSpec)

/-- 'tokenhallkeep.ReduceSound', WHERE WHAT IT READS IS OF BULK AT MOST 1048576: true; the input reads as it did. -/
def reduceSoundUptoRow : OpenClaim := { program := "ytjpapgbdhflgnaa", sum := "8926fc86ee752a7382ab25160e6457a8a92ac84dde23db6c8a140e4d470e07a2", func := "tokenhall/tokenhallkeep.ReduceSound", spec := "reduceSound", unfollowed := true, recurses := true, plainKeys := false, apart := false, narrowed := true }
def ReduceSoundUptoSaid : Prop := reduceSoundUptoRow.holds Try.pinned (OpenSpec.upto reduceSoundSpec)

end Rows
end Go.Proofs.Ytjpapgbdhflgnaa
