/-
  NARROWER THAN 'FOR EVERY INPUT', by the rows' own cells (each row's printed sentence says how): GrowFree: loops · GrowSafe: loops · ReduceBlocks: loops · GrowSound: loops · ChoiceBlocks: loops.
  DERIVED. THE GIVEN ROWS OF THIS SEAT. 9 by the template 'for every input the law returns true; each argument reads behind the call as it read before'; 0 by the template 'total and deterministic' (their statements: YtajmccjnoejmfaaTotals.lean).
  GIVEN WITH THE SEED: the statements are not yours to turn. If you find one false, say at which input.
  Laid BY PROGRAM, IN A SANDBOX (cutbox-rows.mjs): the forced cells as the released guide's own fill.sh prints them over the translation 38b232657158b4d8… (all of the seat's roots in one cut). By AI agents, Wed Nov 11 2026. No macro, syntax, notation, axiom, sorry.
-/
import Derived.Test.YtajmccjnoejmfaaChecked
import GoSem.Claim
import GoSem.ClaimJoined
import GoSem.ClaimMapViews
import Derived.JoinedTies
import Derived.KernelRfl
namespace Go.Proofs.Ytajmccjnoejmfaa
/- THE CELL 'sum', in the pinned program and in every row, IS THE sha256 OF THE DUMP (.gsa) THAT YtajmccjnoejmfaaProg.lean LOADS. Nothing in Lean hashes anything: it is a label: what it is worth is what the hold of that sum in a sandbox is worth. -/
noncomputable def Try.pinned : Pinned := { name := "ytajmccjnoejmfaa", sum := "38b232657158b4d8d5fdcc8e13cbecc2675a0522fd6976e2bb99b36614b812f6", checked := Try.checked }
namespace Rows
def none {H : Type} : Left H := { results := [], args := [] }

/-- 'tokenhallkeep.GrowFree': WHATEVER THE INPUT: true; the input reads as it did. -/
def growFreeSpec : ChangeSpec := { name := "growFree", fn := fun _ => fun
  | [d] => { results := [.lit (.bool true)], args := [d] }
  | _ => none }
def growFreeRow : OpenClaim := { program := "ytajmccjnoejmfaa", sum := "38b232657158b4d8d5fdcc8e13cbecc2675a0522fd6976e2bb99b36614b812f6", func := "tokenhall/tokenhallkeep.GrowFree", spec := "growFree", unfollowed := true, recurses := true, loops := true, plainKeys := false, apart := false }
def GrowFreeSaid : Prop := growFreeRow.holds Try.pinned (OpenSpec.ofChange growFreeSpec)

/-- ITS FALSE NEIGHBOUR: 'it returns false'. Refute it at one input. -/
def growFreeWrong : ChangeSpec := { name := "growFree", fn := fun _ => fun
  | [d] => { results := [.lit (.bool false)], args := [d] }
  | _ => none }
def GrowFreeWrongFalsely : Prop := growFreeRow.holds Try.pinned (OpenSpec.ofChange growFreeWrong)

/-- 'tokenhallkeep.GrowSafe': WHATEVER THE INPUT: true; the input reads as it did. -/
def growSafeSpec : ChangeSpec := { name := "growSafe", fn := fun _ => fun
  | [d1, d2] => { results := [.lit (.bool true)], args := [d1, d2] }
  | _ => none }
def growSafeRow : OpenClaim := { program := "ytajmccjnoejmfaa", sum := "38b232657158b4d8d5fdcc8e13cbecc2675a0522fd6976e2bb99b36614b812f6", func := "tokenhall/tokenhallkeep.GrowSafe", spec := "growSafe", unfollowed := true, recurses := true, loops := true, plainKeys := false, apart := false }
def GrowSafeSaid : Prop := growSafeRow.holds Try.pinned (OpenSpec.ofChange growSafeSpec)

/-- ITS FALSE NEIGHBOUR: 'it returns false'. Refute it at one input. -/
def growSafeWrong : ChangeSpec := { name := "growSafe", fn := fun _ => fun
  | [d1, d2] => { results := [.lit (.bool false)], args := [d1, d2] }
  | _ => none }
def GrowSafeWrongFalsely : Prop := growSafeRow.holds Try.pinned (OpenSpec.ofChange growSafeWrong)

/-- 'tokenhallkeep.ReduceBlocks': WHATEVER THE INPUT: true; the input reads as it did. -/
def reduceBlocksSpec : ChangeSpec := { name := "reduceBlocks", fn := fun _ => fun
  | [d] => { results := [.lit (.bool true)], args := [d] }
  | _ => none }
def reduceBlocksRow : OpenClaim := { program := "ytajmccjnoejmfaa", sum := "38b232657158b4d8d5fdcc8e13cbecc2675a0522fd6976e2bb99b36614b812f6", func := "tokenhall/tokenhallkeep.ReduceBlocks", spec := "reduceBlocks", unfollowed := true, recurses := true, loops := true, plainKeys := false, apart := false }
def ReduceBlocksSaid : Prop := reduceBlocksRow.holds Try.pinned (OpenSpec.ofChange reduceBlocksSpec)

/-- ITS FALSE NEIGHBOUR: 'it returns false'. Refute it at one input. -/
def reduceBlocksWrong : ChangeSpec := { name := "reduceBlocks", fn := fun _ => fun
  | [d] => { results := [.lit (.bool false)], args := [d] }
  | _ => none }
def ReduceBlocksWrongFalsely : Prop := reduceBlocksRow.holds Try.pinned (OpenSpec.ofChange reduceBlocksWrong)

/-- 'tokenhallkeep.ReduceShape': WHATEVER THE INPUT: true; the input reads as it did. -/
def reduceShapeSpec : ChangeSpec := { name := "reduceShape", fn := fun _ => fun
  | [d1, d2, d3] => { results := [.lit (.bool true)], args := [d1, d2, d3] }
  | _ => none }
def reduceShapeRow : OpenClaim := { program := "ytajmccjnoejmfaa", sum := "38b232657158b4d8d5fdcc8e13cbecc2675a0522fd6976e2bb99b36614b812f6", func := "tokenhall/tokenhallkeep.ReduceShape", spec := "reduceShape", unfollowed := true, recurses := true, plainKeys := false, apart := false }
def ReduceShapeSaid : Prop := reduceShapeRow.holds Try.pinned (OpenSpec.ofChange reduceShapeSpec)

/-- ITS FALSE NEIGHBOUR: 'it returns false'. Refute it at one input. -/
def reduceShapeWrong : ChangeSpec := { name := "reduceShape", fn := fun _ => fun
  | [d1, d2, d3] => { results := [.lit (.bool false)], args := [d1, d2, d3] }
  | _ => none }
def ReduceShapeWrongFalsely : Prop := reduceShapeRow.holds Try.pinned (OpenSpec.ofChange reduceShapeWrong)

/-- 'tokenhallkeep.GrowSound': WHATEVER THE INPUT: true; the input reads as it did. -/
def growSoundSpec : ChangeSpec := { name := "growSound", fn := fun _ => fun
  | [d] => { results := [.lit (.bool true)], args := [d] }
  | _ => none }
def growSoundRow : OpenClaim := { program := "ytajmccjnoejmfaa", sum := "38b232657158b4d8d5fdcc8e13cbecc2675a0522fd6976e2bb99b36614b812f6", func := "tokenhall/tokenhallkeep.GrowSound", spec := "growSound", unfollowed := true, recurses := true, loops := true, plainKeys := false, apart := false }
def GrowSoundSaid : Prop := growSoundRow.holds Try.pinned (OpenSpec.ofChange growSoundSpec)

/-- ITS FALSE NEIGHBOUR: 'it returns false'. Refute it at one input. -/
def growSoundWrong : ChangeSpec := { name := "growSound", fn := fun _ => fun
  | [d] => { results := [.lit (.bool false)], args := [d] }
  | _ => none }
def GrowSoundWrongFalsely : Prop := growSoundRow.holds Try.pinned (OpenSpec.ofChange growSoundWrong)

/-- 'tokenhallkeep.ReduceSound': WHATEVER THE INPUT: true; the input reads as it did. -/
def reduceSoundSpec : ChangeSpec := { name := "reduceSound", fn := fun _ => fun
  | [d1, d2, d3, d4] => { results := [.lit (.bool true)], args := [d1, d2, d3, d4] }
  | _ => none }
def reduceSoundRow : OpenClaim := { program := "ytajmccjnoejmfaa", sum := "38b232657158b4d8d5fdcc8e13cbecc2675a0522fd6976e2bb99b36614b812f6", func := "tokenhall/tokenhallkeep.ReduceSound", spec := "reduceSound", unfollowed := true, recurses := true, plainKeys := false, apart := false }
def ReduceSoundSaid : Prop := reduceSoundRow.holds Try.pinned (OpenSpec.ofChange reduceSoundSpec)

/-- ITS FALSE NEIGHBOUR: 'it returns false'. Refute it at one input. -/
def reduceSoundWrong : ChangeSpec := { name := "reduceSound", fn := fun _ => fun
  | [d1, d2, d3, d4] => { results := [.lit (.bool false)], args := [d1, d2, d3, d4] }
  | _ => none }
def ReduceSoundWrongFalsely : Prop := reduceSoundRow.holds Try.pinned (OpenSpec.ofChange reduceSoundWrong)

/-- 'tokenhallkeep.ChoiceBlocks': WHATEVER THE INPUT: true; the input reads as it did. -/
def choiceBlocksSpec : ChangeSpec := { name := "choiceBlocks", fn := fun _ => fun
  | [d] => { results := [.lit (.bool true)], args := [d] }
  | _ => none }
def choiceBlocksRow : OpenClaim := { program := "ytajmccjnoejmfaa", sum := "38b232657158b4d8d5fdcc8e13cbecc2675a0522fd6976e2bb99b36614b812f6", func := "tokenhall/tokenhallkeep.ChoiceBlocks", spec := "choiceBlocks", unfollowed := true, recurses := true, loops := true, plainKeys := false, apart := false }
def ChoiceBlocksSaid : Prop := choiceBlocksRow.holds Try.pinned (OpenSpec.ofChange choiceBlocksSpec)

/-- ITS FALSE NEIGHBOUR: 'it returns false'. Refute it at one input. -/
def choiceBlocksWrong : ChangeSpec := { name := "choiceBlocks", fn := fun _ => fun
  | [d] => { results := [.lit (.bool false)], args := [d] }
  | _ => none }
def ChoiceBlocksWrongFalsely : Prop := choiceBlocksRow.holds Try.pinned (OpenSpec.ofChange choiceBlocksWrong)

/-- 'tokenhallkeep.TongueShort': WHATEVER THE INPUT: true; the input reads as it did. -/
def tongueShortSpec : ChangeSpec := { name := "tongueShort", fn := fun _ => fun
  | [d1, d2, d3, d4, d5] => { results := [.lit (.bool true)], args := [d1, d2, d3, d4, d5] }
  | _ => none }
def tongueShortRow : OpenClaim := { program := "ytajmccjnoejmfaa", sum := "38b232657158b4d8d5fdcc8e13cbecc2675a0522fd6976e2bb99b36614b812f6", func := "tokenhall/tokenhallkeep.TongueShort", spec := "tongueShort", unfollowed := true, recurses := true, plainKeys := false, apart := false }
def TongueShortSaid : Prop := tongueShortRow.holds Try.pinned (OpenSpec.ofChange tongueShortSpec)

/-- ITS FALSE NEIGHBOUR: 'it returns false'. Refute it at one input. -/
def tongueShortWrong : ChangeSpec := { name := "tongueShort", fn := fun _ => fun
  | [d1, d2, d3, d4, d5] => { results := [.lit (.bool false)], args := [d1, d2, d3, d4, d5] }
  | _ => none }
def TongueShortWrongFalsely : Prop := tongueShortRow.holds Try.pinned (OpenSpec.ofChange tongueShortWrong)

/-- 'tokenhallkeep.TongueRuns': WHATEVER THE INPUT: true; the input reads as it did. -/
def tongueRunsSpec : ChangeSpec := { name := "tongueRuns", fn := fun _ => fun
  | [d1, d2, d3, d4] => { results := [.lit (.bool true)], args := [d1, d2, d3, d4] }
  | _ => none }
def tongueRunsRow : OpenClaim := { program := "ytajmccjnoejmfaa", sum := "38b232657158b4d8d5fdcc8e13cbecc2675a0522fd6976e2bb99b36614b812f6", func := "tokenhall/tokenhallkeep.TongueRuns", spec := "tongueRuns", unfollowed := true, recurses := true, plainKeys := false, apart := false }
def TongueRunsSaid : Prop := tongueRunsRow.holds Try.pinned (OpenSpec.ofChange tongueRunsSpec)

/-- ITS FALSE NEIGHBOUR: 'it returns false'. Refute it at one input. -/
def tongueRunsWrong : ChangeSpec := { name := "tongueRuns", fn := fun _ => fun
  | [d1, d2, d3, d4] => { results := [.lit (.bool false)], args := [d1, d2, d3, d4] }
  | _ => none }
def TongueRunsWrongFalsely : Prop := tongueRunsRow.holds Try.pinned (OpenSpec.ofChange tongueRunsWrong)

/- THE SECOND FORM. 'bulk': how many values and letters a reading holds, each counted each time it is reached (what is shared counts as often as it is met; a slice's spare places count too). A statement '..UptoSaid' is the law's where the arguments, and the package variables that the reading takes, are together of bulk at most 1048576: NARROWER than '..Said'. Prove '..Said' where nothing that the law and all that it calls make is longer than what came in: it says more and counts as full. Else prove '..UptoSaid'. A law counts once. -/
mutual
def uptoBulk {H : Type} : DataW H → Nat
  | .lit (.string bytes) => bytes.length + 1
  | .lit _ => 1
  | .nil => 1
  | .ptr d => uptoBulk d + 1
  | .slice elems spare => uptoBulkAll elems + uptoBulkAll spare + 1
  | .agg parts => uptoBulkAll parts + 1
  | .iface _ d => uptoBulk d + 1
  | .map entries => uptoBulkEntries entries + 1
  | .held _ => 1
def uptoBulkAll {H : Type} : List (DataW H) → Nat
  | [] => 0
  | d :: r => uptoBulk d + uptoBulkAll r
def uptoBulkEntries {H : Type} : List (Lit × DataW H) → Nat
  | [] => 0
  | x :: r => uptoBulkEntry x + uptoBulkEntries r
def uptoBulkEntry {H : Type} : Lit × DataW H → Nat
  | (.string bytes, d) => bytes.length + uptoBulk d + 1
  | (_, d) => uptoBulk d + 1
 end
def uptoSmall : (H : Type) → List (DataW H) → Bool := fun _ ds => decide (uptoBulkAll ds ≤ 1048576)
def OpenSpec.upto (s : _root_.Go.ChangeSpec) : _root_.Go.OpenSpec := { _root_.Go.OpenSpec.ofChange s with cond := some uptoSmall }

/-- 'tokenhallkeep.GrowFree', WHERE WHAT IT READS IS OF BULK AT MOST 1048576: true; the input reads as it did. -/
def growFreeUptoRow : OpenClaim := { program := "ytajmccjnoejmfaa", sum := "38b232657158b4d8d5fdcc8e13cbecc2675a0522fd6976e2bb99b36614b812f6", func := "tokenhall/tokenhallkeep.GrowFree", spec := "growFree", unfollowed := true, recurses := true, loops := true, plainKeys := false, apart := false, narrowed := true }
def GrowFreeUptoSaid : Prop := growFreeUptoRow.holds Try.pinned (OpenSpec.upto growFreeSpec)

/-- 'tokenhallkeep.GrowSafe', WHERE WHAT IT READS IS OF BULK AT MOST 1048576: true; the input reads as it did. -/
def growSafeUptoRow : OpenClaim := { program := "ytajmccjnoejmfaa", sum := "38b232657158b4d8d5fdcc8e13cbecc2675a0522fd6976e2bb99b36614b812f6", func := "tokenhall/tokenhallkeep.GrowSafe", spec := "growSafe", unfollowed := true, recurses := true, loops := true, plainKeys := false, apart := false, narrowed := true }
def GrowSafeUptoSaid : Prop := growSafeUptoRow.holds Try.pinned (OpenSpec.upto growSafeSpec)

/-- 'tokenhallkeep.ReduceBlocks', WHERE WHAT IT READS IS OF BULK AT MOST 1048576: true; the input reads as it did. -/
def reduceBlocksUptoRow : OpenClaim := { program := "ytajmccjnoejmfaa", sum := "38b232657158b4d8d5fdcc8e13cbecc2675a0522fd6976e2bb99b36614b812f6", func := "tokenhall/tokenhallkeep.ReduceBlocks", spec := "reduceBlocks", unfollowed := true, recurses := true, loops := true, plainKeys := false, apart := false, narrowed := true }
def ReduceBlocksUptoSaid : Prop := reduceBlocksUptoRow.holds Try.pinned (OpenSpec.upto reduceBlocksSpec)

/-- 'tokenhallkeep.ReduceShape', WHERE WHAT IT READS IS OF BULK AT MOST 1048576: true; the input reads as it did. -/
def reduceShapeUptoRow : OpenClaim := { program := "ytajmccjnoejmfaa", sum := "38b232657158b4d8d5fdcc8e13cbecc2675a0522fd6976e2bb99b36614b812f6", func := "tokenhall/tokenhallkeep.ReduceShape", spec := "reduceShape", unfollowed := true, recurses := true, plainKeys := false, apart := false, narrowed := true }
def ReduceShapeUptoSaid : Prop := reduceShapeUptoRow.holds Try.pinned (OpenSpec.upto reduceShapeSpec)

/-- 'tokenhallkeep.GrowSound', WHERE WHAT IT READS IS OF BULK AT MOST 1048576: true; the input reads as it did. -/
def growSoundUptoRow : OpenClaim := { program := "ytajmccjnoejmfaa", sum := "38b232657158b4d8d5fdcc8e13cbecc2675a0522fd6976e2bb99b36614b812f6", func := "tokenhall/tokenhallkeep.GrowSound", spec := "growSound", unfollowed := true, recurses := true, loops := true, plainKeys := false, apart := false, narrowed := true }
def GrowSoundUptoSaid : Prop := growSoundUptoRow.holds Try.pinned (OpenSpec.upto growSoundSpec)

/-- 'tokenhallkeep.ReduceSound', WHERE WHAT IT READS IS OF BULK AT MOST 1048576: true; the input reads as it did. -/
def reduceSoundUptoRow : OpenClaim := { program := "ytajmccjnoejmfaa", sum := "38b232657158b4d8d5fdcc8e13cbecc2675a0522fd6976e2bb99b36614b812f6", func := "tokenhall/tokenhallkeep.ReduceSound", spec := "reduceSound", unfollowed := true, recurses := true, plainKeys := false, apart := false, narrowed := true }
def ReduceSoundUptoSaid : Prop := reduceSoundUptoRow.holds Try.pinned (OpenSpec.upto reduceSoundSpec)

/-- 'tokenhallkeep.ChoiceBlocks', WHERE WHAT IT READS IS OF BULK AT MOST 1048576: true; the input reads as it did. -/
def choiceBlocksUptoRow : OpenClaim := { program := "ytajmccjnoejmfaa", sum := "38b232657158b4d8d5fdcc8e13cbecc2675a0522fd6976e2bb99b36614b812f6", func := "tokenhall/tokenhallkeep.ChoiceBlocks", spec := "choiceBlocks", unfollowed := true, recurses := true, loops := true, plainKeys := false, apart := false, narrowed := true }
def ChoiceBlocksUptoSaid : Prop := choiceBlocksUptoRow.holds Try.pinned (OpenSpec.upto choiceBlocksSpec)

/-- 'tokenhallkeep.TongueShort', WHERE WHAT IT READS IS OF BULK AT MOST 1048576: true; the input reads as it did. -/
def tongueShortUptoRow : OpenClaim := { program := "ytajmccjnoejmfaa", sum := "38b232657158b4d8d5fdcc8e13cbecc2675a0522fd6976e2bb99b36614b812f6", func := "tokenhall/tokenhallkeep.TongueShort", spec := "tongueShort", unfollowed := true, recurses := true, plainKeys := false, apart := false, narrowed := true }
def TongueShortUptoSaid : Prop := tongueShortUptoRow.holds Try.pinned (OpenSpec.upto tongueShortSpec)

/-- 'tokenhallkeep.TongueRuns', WHERE WHAT IT READS IS OF BULK AT MOST 1048576: true; the input reads as it did. -/
def tongueRunsUptoRow : OpenClaim := { program := "ytajmccjnoejmfaa", sum := "38b232657158b4d8d5fdcc8e13cbecc2675a0522fd6976e2bb99b36614b812f6", func := "tokenhall/tokenhallkeep.TongueRuns", spec := "tongueRuns", unfollowed := true, recurses := true, plainKeys := false, apart := false, narrowed := true }
def TongueRunsUptoSaid : Prop := tongueRunsUptoRow.holds Try.pinned (OpenSpec.upto tongueRunsSpec)

end Rows
end Go.Proofs.Ytajmccjnoejmfaa
