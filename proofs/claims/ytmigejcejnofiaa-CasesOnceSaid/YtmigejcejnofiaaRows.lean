/-
  No cell of these rows narrows 'for every input' (looked for: loops, veiled, ifaces, maps, wideKeys, modest, calm, conditions, laid).
  DERIVED. THE GIVEN ROWS OF THIS SEAT. 14 by the template 'for every input the law returns true; each argument reads behind the call as it read before'; 0 by the template 'total and deterministic' (their statements: YtmigejcejnofiaaTotals.lean).
  GIVEN WITH THE SEED: the statements are not yours to turn. If you find one false, say at which input.
  Laid BY PROGRAM, IN A SANDBOX (cutbox-rows.mjs): the forced cells as the released guide's own fill.sh prints them over the translation c2977018f3e76396… (all of the seat's roots in one cut). By AI agents, Wed Nov 11 2026. No macro, syntax, notation, axiom, sorry.
-/
import Derived.Test.YtmigejcejnofiaaChecked
import GoSem.Claim
import GoSem.ClaimJoined
import GoSem.ClaimMapViews
import Derived.JoinedTies
import Derived.KernelRfl
namespace Go.Proofs.Ytmigejcejnofiaa
/- THE CELL 'sum', in the pinned program and in every row, IS THE sha256 OF THE DUMP (.gsa) THAT YtmigejcejnofiaaProg.lean LOADS. Nothing in Lean hashes anything: it is a label: what it is worth is what the hold of that sum in a sandbox is worth. -/
noncomputable def Try.pinned : Pinned := { name := "ytmigejcejnofiaa", sum := "c2977018f3e7639653eb43c785fcaf7a199230f874358f585db270e5ffbfd1ae", checked := Try.checked }
namespace Rows
def none {H : Type} : Left H := { results := [], args := [] }

/-- 'tokenhallkeep.ShapeTurned': WHATEVER THE INPUT: true; the input reads as it did. -/
def shapeTurnedSpec : ChangeSpec := { name := "shapeTurned", fn := fun _ => fun
  | [d1, d2, d3] => { results := [.lit (.bool true)], args := [d1, d2, d3] }
  | _ => none }
def shapeTurnedRow : OpenClaim := { program := "ytmigejcejnofiaa", sum := "c2977018f3e7639653eb43c785fcaf7a199230f874358f585db270e5ffbfd1ae", func := "tokenhall/tokenhallkeep.ShapeTurned", spec := "shapeTurned", unfollowed := true, recurses := true, plainKeys := false, apart := false }
def ShapeTurnedSaid : Prop := shapeTurnedRow.holds Try.pinned (OpenSpec.ofChange shapeTurnedSpec)

/-- ITS FALSE NEIGHBOUR: 'it returns false'. Refute it at one input. -/
def shapeTurnedWrong : ChangeSpec := { name := "shapeTurned", fn := fun _ => fun
  | [d1, d2, d3] => { results := [.lit (.bool false)], args := [d1, d2, d3] }
  | _ => none }
def ShapeTurnedWrongFalsely : Prop := shapeTurnedRow.holds Try.pinned (OpenSpec.ofChange shapeTurnedWrong)

/-- 'tokenhallkeep.ReplaySum': WHATEVER THE INPUT: true; the input reads as it did. -/
def replaySumSpec : ChangeSpec := { name := "replaySum", fn := fun _ => fun
  | [d1, d2, d3, d4] => { results := [.lit (.bool true)], args := [d1, d2, d3, d4] }
  | _ => none }
def replaySumRow : OpenClaim := { program := "ytmigejcejnofiaa", sum := "c2977018f3e7639653eb43c785fcaf7a199230f874358f585db270e5ffbfd1ae", func := "tokenhall/tokenhallkeep.ReplaySum", spec := "replaySum", unfollowed := true, recurses := true, plainKeys := false, apart := false }
def ReplaySumSaid : Prop := replaySumRow.holds Try.pinned (OpenSpec.ofChange replaySumSpec)

/-- ITS FALSE NEIGHBOUR: 'it returns false'. Refute it at one input. -/
def replaySumWrong : ChangeSpec := { name := "replaySum", fn := fun _ => fun
  | [d1, d2, d3, d4] => { results := [.lit (.bool false)], args := [d1, d2, d3, d4] }
  | _ => none }
def ReplaySumWrongFalsely : Prop := replaySumRow.holds Try.pinned (OpenSpec.ofChange replaySumWrong)

/-- 'tokenhallkeep.SiphonUnion': WHATEVER THE INPUT: true; the input reads as it did. -/
def siphonUnionSpec : ChangeSpec := { name := "siphonUnion", fn := fun _ => fun
  | [d1, d2, d3] => { results := [.lit (.bool true)], args := [d1, d2, d3] }
  | _ => none }
def siphonUnionRow : OpenClaim := { program := "ytmigejcejnofiaa", sum := "c2977018f3e7639653eb43c785fcaf7a199230f874358f585db270e5ffbfd1ae", func := "tokenhall/tokenhallkeep.SiphonUnion", spec := "siphonUnion", unfollowed := true, recurses := true, plainKeys := false, apart := false }
def SiphonUnionSaid : Prop := siphonUnionRow.holds Try.pinned (OpenSpec.ofChange siphonUnionSpec)

/-- ITS FALSE NEIGHBOUR: 'it returns false'. Refute it at one input. -/
def siphonUnionWrong : ChangeSpec := { name := "siphonUnion", fn := fun _ => fun
  | [d1, d2, d3] => { results := [.lit (.bool false)], args := [d1, d2, d3] }
  | _ => none }
def SiphonUnionWrongFalsely : Prop := siphonUnionRow.holds Try.pinned (OpenSpec.ofChange siphonUnionWrong)

/-- 'tokenhallkeep.LiveStuck': WHATEVER THE INPUT: true; the input reads as it did. -/
def liveStuckSpec : ChangeSpec := { name := "liveStuck", fn := fun _ => fun
  | [d1, d2] => { results := [.lit (.bool true)], args := [d1, d2] }
  | _ => none }
def liveStuckRow : OpenClaim := { program := "ytmigejcejnofiaa", sum := "c2977018f3e7639653eb43c785fcaf7a199230f874358f585db270e5ffbfd1ae", func := "tokenhall/tokenhallkeep.LiveStuck", spec := "liveStuck", unfollowed := true, recurses := true, plainKeys := false, apart := false }
def LiveStuckSaid : Prop := liveStuckRow.holds Try.pinned (OpenSpec.ofChange liveStuckSpec)

/-- ITS FALSE NEIGHBOUR: 'it returns false'. Refute it at one input. -/
def liveStuckWrong : ChangeSpec := { name := "liveStuck", fn := fun _ => fun
  | [d1, d2] => { results := [.lit (.bool false)], args := [d1, d2] }
  | _ => none }
def LiveStuckWrongFalsely : Prop := liveStuckRow.holds Try.pinned (OpenSpec.ofChange liveStuckWrong)

/-- 'tokenhallkeep.SiphonEmpty': WHATEVER THE INPUT: true; the input reads as it did. -/
def siphonEmptySpec : ChangeSpec := { name := "siphonEmpty", fn := fun _ => fun
  | [d1, d2, d3, d4] => { results := [.lit (.bool true)], args := [d1, d2, d3, d4] }
  | _ => none }
def siphonEmptyRow : OpenClaim := { program := "ytmigejcejnofiaa", sum := "c2977018f3e7639653eb43c785fcaf7a199230f874358f585db270e5ffbfd1ae", func := "tokenhall/tokenhallkeep.SiphonEmpty", spec := "siphonEmpty", unfollowed := true, recurses := true, plainKeys := false, apart := false }
def SiphonEmptySaid : Prop := siphonEmptyRow.holds Try.pinned (OpenSpec.ofChange siphonEmptySpec)

/-- ITS FALSE NEIGHBOUR: 'it returns false'. Refute it at one input. -/
def siphonEmptyWrong : ChangeSpec := { name := "siphonEmpty", fn := fun _ => fun
  | [d1, d2, d3, d4] => { results := [.lit (.bool false)], args := [d1, d2, d3, d4] }
  | _ => none }
def SiphonEmptyWrongFalsely : Prop := siphonEmptyRow.holds Try.pinned (OpenSpec.ofChange siphonEmptyWrong)

/-- 'tokenhallkeep.SiphonTrap': WHATEVER THE INPUT: true; the input reads as it did. -/
def siphonTrapSpec : ChangeSpec := { name := "siphonTrap", fn := fun _ => fun
  | [d1, d2, d3, d4] => { results := [.lit (.bool true)], args := [d1, d2, d3, d4] }
  | _ => none }
def siphonTrapRow : OpenClaim := { program := "ytmigejcejnofiaa", sum := "c2977018f3e7639653eb43c785fcaf7a199230f874358f585db270e5ffbfd1ae", func := "tokenhall/tokenhallkeep.SiphonTrap", spec := "siphonTrap", unfollowed := true, recurses := true, plainKeys := false, apart := false }
def SiphonTrapSaid : Prop := siphonTrapRow.holds Try.pinned (OpenSpec.ofChange siphonTrapSpec)

/-- ITS FALSE NEIGHBOUR: 'it returns false'. Refute it at one input. -/
def siphonTrapWrong : ChangeSpec := { name := "siphonTrap", fn := fun _ => fun
  | [d1, d2, d3, d4] => { results := [.lit (.bool false)], args := [d1, d2, d3, d4] }
  | _ => none }
def SiphonTrapWrongFalsely : Prop := siphonTrapRow.holds Try.pinned (OpenSpec.ofChange siphonTrapWrong)

/-- 'tokenhallkeep.SiphonDead': WHATEVER THE INPUT: true; the input reads as it did. -/
def siphonDeadSpec : ChangeSpec := { name := "siphonDead", fn := fun _ => fun
  | [d1, d2] => { results := [.lit (.bool true)], args := [d1, d2] }
  | _ => none }
def siphonDeadRow : OpenClaim := { program := "ytmigejcejnofiaa", sum := "c2977018f3e7639653eb43c785fcaf7a199230f874358f585db270e5ffbfd1ae", func := "tokenhall/tokenhallkeep.SiphonDead", spec := "siphonDead", unfollowed := true, recurses := true, plainKeys := false, apart := false }
def SiphonDeadSaid : Prop := siphonDeadRow.holds Try.pinned (OpenSpec.ofChange siphonDeadSpec)

/-- ITS FALSE NEIGHBOUR: 'it returns false'. Refute it at one input. -/
def siphonDeadWrong : ChangeSpec := { name := "siphonDead", fn := fun _ => fun
  | [d1, d2] => { results := [.lit (.bool false)], args := [d1, d2] }
  | _ => none }
def SiphonDeadWrongFalsely : Prop := siphonDeadRow.holds Try.pinned (OpenSpec.ofChange siphonDeadWrong)

/-- 'tokenhallkeep.ShapeEnd': WHATEVER THE INPUT: true; the input reads as it did. -/
def shapeEndSpec : ChangeSpec := { name := "shapeEnd", fn := fun _ => fun
  | [d1, d2, d3, d4] => { results := [.lit (.bool true)], args := [d1, d2, d3, d4] }
  | _ => none }
def shapeEndRow : OpenClaim := { program := "ytmigejcejnofiaa", sum := "c2977018f3e7639653eb43c785fcaf7a199230f874358f585db270e5ffbfd1ae", func := "tokenhall/tokenhallkeep.ShapeEnd", spec := "shapeEnd", unfollowed := true, recurses := true, plainKeys := false, apart := false }
def ShapeEndSaid : Prop := shapeEndRow.holds Try.pinned (OpenSpec.ofChange shapeEndSpec)

/-- ITS FALSE NEIGHBOUR: 'it returns false'. Refute it at one input. -/
def shapeEndWrong : ChangeSpec := { name := "shapeEnd", fn := fun _ => fun
  | [d1, d2, d3, d4] => { results := [.lit (.bool false)], args := [d1, d2, d3, d4] }
  | _ => none }
def ShapeEndWrongFalsely : Prop := shapeEndRow.holds Try.pinned (OpenSpec.ofChange shapeEndWrong)

/-- 'tokenhallkeep.ShapeRound': WHATEVER THE INPUT: true; the input reads as it did. -/
def shapeRoundSpec : ChangeSpec := { name := "shapeRound", fn := fun _ => fun
  | [d1, d2, d3, d4] => { results := [.lit (.bool true)], args := [d1, d2, d3, d4] }
  | _ => none }
def shapeRoundRow : OpenClaim := { program := "ytmigejcejnofiaa", sum := "c2977018f3e7639653eb43c785fcaf7a199230f874358f585db270e5ffbfd1ae", func := "tokenhall/tokenhallkeep.ShapeRound", spec := "shapeRound", unfollowed := true, recurses := true, plainKeys := false, apart := false }
def ShapeRoundSaid : Prop := shapeRoundRow.holds Try.pinned (OpenSpec.ofChange shapeRoundSpec)

/-- ITS FALSE NEIGHBOUR: 'it returns false'. Refute it at one input. -/
def shapeRoundWrong : ChangeSpec := { name := "shapeRound", fn := fun _ => fun
  | [d1, d2, d3, d4] => { results := [.lit (.bool false)], args := [d1, d2, d3, d4] }
  | _ => none }
def ShapeRoundWrongFalsely : Prop := shapeRoundRow.holds Try.pinned (OpenSpec.ofChange shapeRoundWrong)

/-- 'tokenhallkeep.CasesUndo': WHATEVER THE INPUT: true; the input reads as it did. -/
def casesUndoSpec : ChangeSpec := { name := "casesUndo", fn := fun _ => fun
  | [d1, d2, d3] => { results := [.lit (.bool true)], args := [d1, d2, d3] }
  | _ => none }
def casesUndoRow : OpenClaim := { program := "ytmigejcejnofiaa", sum := "c2977018f3e7639653eb43c785fcaf7a199230f874358f585db270e5ffbfd1ae", func := "tokenhall/tokenhallkeep.CasesUndo", spec := "casesUndo", unfollowed := true, recurses := true, plainKeys := false, apart := false }
def CasesUndoSaid : Prop := casesUndoRow.holds Try.pinned (OpenSpec.ofChange casesUndoSpec)

/-- ITS FALSE NEIGHBOUR: 'it returns false'. Refute it at one input. -/
def casesUndoWrong : ChangeSpec := { name := "casesUndo", fn := fun _ => fun
  | [d1, d2, d3] => { results := [.lit (.bool false)], args := [d1, d2, d3] }
  | _ => none }
def CasesUndoWrongFalsely : Prop := casesUndoRow.holds Try.pinned (OpenSpec.ofChange casesUndoWrong)

/-- 'tokenhallkeep.CasesOnce': WHATEVER THE INPUT: true; the input reads as it did. -/
def casesOnceSpec : ChangeSpec := { name := "casesOnce", fn := fun _ => fun
  | [d1, d2, d3] => { results := [.lit (.bool true)], args := [d1, d2, d3] }
  | _ => none }
def casesOnceRow : OpenClaim := { program := "ytmigejcejnofiaa", sum := "c2977018f3e7639653eb43c785fcaf7a199230f874358f585db270e5ffbfd1ae", func := "tokenhall/tokenhallkeep.CasesOnce", spec := "casesOnce", unfollowed := true, recurses := true, plainKeys := false, apart := false }
def CasesOnceSaid : Prop := casesOnceRow.holds Try.pinned (OpenSpec.ofChange casesOnceSpec)

/-- ITS FALSE NEIGHBOUR: 'it returns false'. Refute it at one input. -/
def casesOnceWrong : ChangeSpec := { name := "casesOnce", fn := fun _ => fun
  | [d1, d2, d3] => { results := [.lit (.bool false)], args := [d1, d2, d3] }
  | _ => none }
def CasesOnceWrongFalsely : Prop := casesOnceRow.holds Try.pinned (OpenSpec.ofChange casesOnceWrong)

/-- 'tokenhallkeep.ReplayRun': WHATEVER THE INPUT: true; the input reads as it did. -/
def replayRunSpec : ChangeSpec := { name := "replayRun", fn := fun _ => fun
  | [d1, d2, d3, d4] => { results := [.lit (.bool true)], args := [d1, d2, d3, d4] }
  | _ => none }
def replayRunRow : OpenClaim := { program := "ytmigejcejnofiaa", sum := "c2977018f3e7639653eb43c785fcaf7a199230f874358f585db270e5ffbfd1ae", func := "tokenhall/tokenhallkeep.ReplayRun", spec := "replayRun", unfollowed := true, recurses := true, plainKeys := false, apart := false }
def ReplayRunSaid : Prop := replayRunRow.holds Try.pinned (OpenSpec.ofChange replayRunSpec)

/-- ITS FALSE NEIGHBOUR: 'it returns false'. Refute it at one input. -/
def replayRunWrong : ChangeSpec := { name := "replayRun", fn := fun _ => fun
  | [d1, d2, d3, d4] => { results := [.lit (.bool false)], args := [d1, d2, d3, d4] }
  | _ => none }
def ReplayRunWrongFalsely : Prop := replayRunRow.holds Try.pinned (OpenSpec.ofChange replayRunWrong)

/-- 'tokenhallkeep.CasesNet': WHATEVER THE INPUT: true; the input reads as it did. -/
def casesNetSpec : ChangeSpec := { name := "casesNet", fn := fun _ => fun
  | [d1, d2, d3] => { results := [.lit (.bool true)], args := [d1, d2, d3] }
  | _ => none }
def casesNetRow : OpenClaim := { program := "ytmigejcejnofiaa", sum := "c2977018f3e7639653eb43c785fcaf7a199230f874358f585db270e5ffbfd1ae", func := "tokenhall/tokenhallkeep.CasesNet", spec := "casesNet", unfollowed := true, recurses := true, plainKeys := false, apart := false }
def CasesNetSaid : Prop := casesNetRow.holds Try.pinned (OpenSpec.ofChange casesNetSpec)

/-- ITS FALSE NEIGHBOUR: 'it returns false'. Refute it at one input. -/
def casesNetWrong : ChangeSpec := { name := "casesNet", fn := fun _ => fun
  | [d1, d2, d3] => { results := [.lit (.bool false)], args := [d1, d2, d3] }
  | _ => none }
def CasesNetWrongFalsely : Prop := casesNetRow.holds Try.pinned (OpenSpec.ofChange casesNetWrong)

/-- 'tokenhallkeep.SiphonCommoner': WHATEVER THE INPUT: true; the input reads as it did. -/
def siphonCommonerSpec : ChangeSpec := { name := "siphonCommoner", fn := fun _ => fun
  | [d1, d2, d3] => { results := [.lit (.bool true)], args := [d1, d2, d3] }
  | _ => none }
def siphonCommonerRow : OpenClaim := { program := "ytmigejcejnofiaa", sum := "c2977018f3e7639653eb43c785fcaf7a199230f874358f585db270e5ffbfd1ae", func := "tokenhall/tokenhallkeep.SiphonCommoner", spec := "siphonCommoner", unfollowed := true, recurses := true, plainKeys := false, apart := false }
def SiphonCommonerSaid : Prop := siphonCommonerRow.holds Try.pinned (OpenSpec.ofChange siphonCommonerSpec)

/-- ITS FALSE NEIGHBOUR: 'it returns false'. Refute it at one input. -/
def siphonCommonerWrong : ChangeSpec := { name := "siphonCommoner", fn := fun _ => fun
  | [d1, d2, d3] => { results := [.lit (.bool false)], args := [d1, d2, d3] }
  | _ => none }
def SiphonCommonerWrongFalsely : Prop := siphonCommonerRow.holds Try.pinned (OpenSpec.ofChange siphonCommonerWrong)

/- THE SECOND FORM. 'bulk': how many values and letters a reading holds, each counted each time it is reached (what is shared counts as often as it is met; a slice's spare places count too). A statement '..UptoSaid' is the law's where the arguments, and the package variables that the reading takes, are together of bulk at most 1048576: NARROWER than '..Said'. Prove '..Said' where nothing that the law and all that it calls make is longer than what came in: it says more and counts as full. Else prove '..UptoSaid'. A law counts once. -/
mutual
def uptoBulk {H : Type} : DataW H → Nat
  | .lit (.string bytes) => bytes.length + 1
  | .lit _ => 1
  | .nil => 1
  | .ptr d => uptoBulk d + 1
  | .slice elems spare => uptoBulkAll elems + uptoBulkAll spare + 1
  | .agg parts => uptoBulkAll parts + 1
  | .iface _ d => uptoBulk d + 1
  | .map entries => uptoBulkEntries entries + 1
  | .held _ => 1
def uptoBulkAll {H : Type} : List (DataW H) → Nat
  | [] => 0
  | d :: r => uptoBulk d + uptoBulkAll r
def uptoBulkEntries {H : Type} : List (Lit × DataW H) → Nat
  | [] => 0
  | x :: r => uptoBulkEntry x + uptoBulkEntries r
def uptoBulkEntry {H : Type} : Lit × DataW H → Nat
  | (.string bytes, d) => bytes.length + uptoBulk d + 1
  | (_, d) => uptoBulk d + 1
 end
def uptoSmall : (H : Type) → List (DataW H) → Bool := fun _ ds => decide (uptoBulkAll ds ≤ 1048576)
def OpenSpec.upto (s : _root_.Go.ChangeSpec) : _root_.Go.OpenSpec := { _root_.Go.OpenSpec.ofChange s with cond := some uptoSmall }

/-- 'tokenhallkeep.ShapeTurned', WHERE WHAT IT READS IS OF BULK AT MOST 1048576: true; the input reads as it did. -/
def shapeTurnedUptoRow : OpenClaim := { program := "ytmigejcejnofiaa", sum := "c2977018f3e7639653eb43c785fcaf7a199230f874358f585db270e5ffbfd1ae", func := "tokenhall/tokenhallkeep.ShapeTurned", spec := "shapeTurned", unfollowed := true, recurses := true, plainKeys := false, apart := false, narrowed := true }
def ShapeTurnedUptoSaid : Prop := shapeTurnedUptoRow.holds Try.pinned (OpenSpec.upto shapeTurnedSpec)

/-- 'tokenhallkeep.ReplaySum', WHERE WHAT IT READS IS OF BULK AT MOST 1048576: true; the input reads as it did. -/
def replaySumUptoRow : OpenClaim := { program := "ytmigejcejnofiaa", sum := "c2977018f3e7639653eb43c785fcaf7a199230f874358f585db270e5ffbfd1ae", func := "tokenhall/tokenhallkeep.ReplaySum", spec := "replaySum", unfollowed := true, recurses := true, plainKeys := false, apart := false, narrowed := true }
def ReplaySumUptoSaid : Prop := replaySumUptoRow.holds Try.pinned (OpenSpec.upto replaySumSpec)

/-- 'tokenhallkeep.SiphonUnion', WHERE WHAT IT READS IS OF BULK AT MOST 1048576: true; the input reads as it did. -/
def siphonUnionUptoRow : OpenClaim := { program := "ytmigejcejnofiaa", sum := "c2977018f3e7639653eb43c785fcaf7a199230f874358f585db270e5ffbfd1ae", func := "tokenhall/tokenhallkeep.SiphonUnion", spec := "siphonUnion", unfollowed := true, recurses := true, plainKeys := false, apart := false, narrowed := true }
def SiphonUnionUptoSaid : Prop := siphonUnionUptoRow.holds Try.pinned (OpenSpec.upto siphonUnionSpec)

/-- 'tokenhallkeep.LiveStuck', WHERE WHAT IT READS IS OF BULK AT MOST 1048576: true; the input reads as it did. -/
def liveStuckUptoRow : OpenClaim := { program := "ytmigejcejnofiaa", sum := "c2977018f3e7639653eb43c785fcaf7a199230f874358f585db270e5ffbfd1ae", func := "tokenhall/tokenhallkeep.LiveStuck", spec := "liveStuck", unfollowed := true, recurses := true, plainKeys := false, apart := false, narrowed := true }
def LiveStuckUptoSaid : Prop := liveStuckUptoRow.holds Try.pinned (OpenSpec.upto liveStuckSpec)

/-- 'tokenhallkeep.SiphonEmpty', WHERE WHAT IT READS IS OF BULK AT MOST 1048576: true; the input reads as it did. -/
def siphonEmptyUptoRow : OpenClaim := { program := "ytmigejcejnofiaa", sum := "c2977018f3e7639653eb43c785fcaf7a199230f874358f585db270e5ffbfd1ae", func := "tokenhall/tokenhallkeep.SiphonEmpty", spec := "siphonEmpty", unfollowed := true, recurses := true, plainKeys := false, apart := false, narrowed := true }
def SiphonEmptyUptoSaid : Prop := siphonEmptyUptoRow.holds Try.pinned (OpenSpec.upto siphonEmptySpec)

/-- 'tokenhallkeep.SiphonTrap', WHERE WHAT IT READS IS OF BULK AT MOST 1048576: true; the input reads as it did. -/
def siphonTrapUptoRow : OpenClaim := { program := "ytmigejcejnofiaa", sum := "c2977018f3e7639653eb43c785fcaf7a199230f874358f585db270e5ffbfd1ae", func := "tokenhall/tokenhallkeep.SiphonTrap", spec := "siphonTrap", unfollowed := true, recurses := true, plainKeys := false, apart := false, narrowed := true }
def SiphonTrapUptoSaid : Prop := siphonTrapUptoRow.holds Try.pinned (OpenSpec.upto siphonTrapSpec)

/-- 'tokenhallkeep.SiphonDead', WHERE WHAT IT READS IS OF BULK AT MOST 1048576: true; the input reads as it did. -/
def siphonDeadUptoRow : OpenClaim := { program := "ytmigejcejnofiaa", sum := "c2977018f3e7639653eb43c785fcaf7a199230f874358f585db270e5ffbfd1ae", func := "tokenhall/tokenhallkeep.SiphonDead", spec := "siphonDead", unfollowed := true, recurses := true, plainKeys := false, apart := false, narrowed := true }
def SiphonDeadUptoSaid : Prop := siphonDeadUptoRow.holds Try.pinned (OpenSpec.upto siphonDeadSpec)

/-- 'tokenhallkeep.ShapeEnd', WHERE WHAT IT READS IS OF BULK AT MOST 1048576: true; the input reads as it did. -/
def shapeEndUptoRow : OpenClaim := { program := "ytmigejcejnofiaa", sum := "c2977018f3e7639653eb43c785fcaf7a199230f874358f585db270e5ffbfd1ae", func := "tokenhall/tokenhallkeep.ShapeEnd", spec := "shapeEnd", unfollowed := true, recurses := true, plainKeys := false, apart := false, narrowed := true }
def ShapeEndUptoSaid : Prop := shapeEndUptoRow.holds Try.pinned (OpenSpec.upto shapeEndSpec)

/-- 'tokenhallkeep.ShapeRound', WHERE WHAT IT READS IS OF BULK AT MOST 1048576: true; the input reads as it did. -/
def shapeRoundUptoRow : OpenClaim := { program := "ytmigejcejnofiaa", sum := "c2977018f3e7639653eb43c785fcaf7a199230f874358f585db270e5ffbfd1ae", func := "tokenhall/tokenhallkeep.ShapeRound", spec := "shapeRound", unfollowed := true, recurses := true, plainKeys := false, apart := false, narrowed := true }
def ShapeRoundUptoSaid : Prop := shapeRoundUptoRow.holds Try.pinned (OpenSpec.upto shapeRoundSpec)

/-- 'tokenhallkeep.CasesUndo', WHERE WHAT IT READS IS OF BULK AT MOST 1048576: true; the input reads as it did. -/
def casesUndoUptoRow : OpenClaim := { program := "ytmigejcejnofiaa", sum := "c2977018f3e7639653eb43c785fcaf7a199230f874358f585db270e5ffbfd1ae", func := "tokenhall/tokenhallkeep.CasesUndo", spec := "casesUndo", unfollowed := true, recurses := true, plainKeys := false, apart := false, narrowed := true }
def CasesUndoUptoSaid : Prop := casesUndoUptoRow.holds Try.pinned (OpenSpec.upto casesUndoSpec)

/-- 'tokenhallkeep.CasesOnce', WHERE WHAT IT READS IS OF BULK AT MOST 1048576: true; the input reads as it did. -/
def casesOnceUptoRow : OpenClaim := { program := "ytmigejcejnofiaa", sum := "c2977018f3e7639653eb43c785fcaf7a199230f874358f585db270e5ffbfd1ae", func := "tokenhall/tokenhallkeep.CasesOnce", spec := "casesOnce", unfollowed := true, recurses := true, plainKeys := false, apart := false, narrowed := true }
def CasesOnceUptoSaid : Prop := casesOnceUptoRow.holds Try.pinned (OpenSpec.upto casesOnceSpec)

/-- 'tokenhallkeep.ReplayRun', WHERE WHAT IT READS IS OF BULK AT MOST 1048576: true; the input reads as it did. -/
def replayRunUptoRow : OpenClaim := { program := "ytmigejcejnofiaa", sum := "c2977018f3e7639653eb43c785fcaf7a199230f874358f585db270e5ffbfd1ae", func := "tokenhall/tokenhallkeep.ReplayRun", spec := "replayRun", unfollowed := true, recurses := true, plainKeys := false, apart := false, narrowed := true }
def ReplayRunUptoSaid : Prop := replayRunUptoRow.holds Try.pinned (OpenSpec.upto replayRunSpec)

/-- 'tokenhallkeep.CasesNet', WHERE WHAT IT READS IS OF BULK AT MOST 1048576: true; the input reads as it did. -/
def casesNetUptoRow : OpenClaim := { program := "ytmigejcejnofiaa", sum := "c2977018f3e7639653eb43c785fcaf7a199230f874358f585db270e5ffbfd1ae", func := "tokenhall/tokenhallkeep.CasesNet", spec := "casesNet", unfollowed := true, recurses := true, plainKeys := false, apart := false, narrowed := true }
def CasesNetUptoSaid : Prop := casesNetUptoRow.holds Try.pinned (OpenSpec.upto casesNetSpec)

/-- 'tokenhallkeep.SiphonCommoner', WHERE WHAT IT READS IS OF BULK AT MOST 1048576: true; the input reads as it did. -/
def siphonCommonerUptoRow : OpenClaim := { program := "ytmigejcejnofiaa", sum := "c2977018f3e7639653eb43c785fcaf7a199230f874358f585db270e5ffbfd1ae", func := "tokenhall/tokenhallkeep.SiphonCommoner", spec := "siphonCommoner", unfollowed := true, recurses := true, plainKeys := false, apart := false, narrowed := true }
def SiphonCommonerUptoSaid : Prop := siphonCommonerUptoRow.holds Try.pinned (OpenSpec.upto siphonCommonerSpec)

end Rows
end Go.Proofs.Ytmigejcejnofiaa
