/-
  No cell of these rows narrows 'for every input' (looked for: loops, veiled, ifaces, maps, wideKeys, modest, calm, conditions, laid).
  DERIVED. THE GIVEN ROWS OF THIS SEAT. 14 by the template 'for every input the law returns true; each argument reads behind the call as it read before'; 0 by the template 'total and deterministic' (their statements: YtbopachnkbjmfaaTotals.lean).
  GIVEN WITH THE SEED: the statements are not yours to turn. If you find one false, say at which input.
  Laid BY PROGRAM, IN A SANDBOX (cutbox-rows.mjs): the forced cells as the released guide's own fill.sh prints them over the translation 53f51dcc8afa2d19… (all of the seat's roots in one cut). By AI agents, Wed Nov 11 2026. No macro, syntax, notation, axiom, sorry.
-/
import Derived.Test.YtbopachnkbjmfaaChecked
import GoSem.Claim
import GoSem.ClaimJoined
import GoSem.ClaimMapViews
import Derived.JoinedTies
import Derived.KernelRfl
namespace Go.Proofs.Ytbopachnkbjmfaa
/- THE CELL 'sum', in the pinned program and in every row, IS THE sha256 OF THE DUMP (.gsa) THAT YtbopachnkbjmfaaProg.lean LOADS. Nothing in Lean hashes anything: it is a label: what it is worth is what the hold of that sum in a sandbox is worth. -/
noncomputable def Try.pinned : Pinned := { name := "ytbopachnkbjmfaa", sum := "53f51dcc8afa2d19624bd79423f4f7d98167dbb6fb69150f607c332c6eb4f734", checked := Try.checked }
namespace Rows
def none {H : Type} : Left H := { results := [], args := [] }

/-- 'tokenhallkeep.CoverAll': WHATEVER THE INPUT: true; the input reads as it did. -/
def coverAllSpec : ChangeSpec := { name := "coverAll", fn := fun _ => fun
  | [d1, d2, d3, d4] => { results := [.lit (.bool true)], args := [d1, d2, d3, d4] }
  | _ => none }
def coverAllRow : OpenClaim := { program := "ytbopachnkbjmfaa", sum := "53f51dcc8afa2d19624bd79423f4f7d98167dbb6fb69150f607c332c6eb4f734", func := "tokenhall/tokenhallkeep.CoverAll", spec := "coverAll", unfollowed := true, recurses := true, plainKeys := false, apart := false }
def CoverAllSaid : Prop := coverAllRow.holds Try.pinned (OpenSpec.ofChange coverAllSpec)

/-- ITS FALSE NEIGHBOUR: 'it returns false'. Refute it at one input. -/
def coverAllWrong : ChangeSpec := { name := "coverAll", fn := fun _ => fun
  | [d1, d2, d3, d4] => { results := [.lit (.bool false)], args := [d1, d2, d3, d4] }
  | _ => none }
def CoverAllWrongFalsely : Prop := coverAllRow.holds Try.pinned (OpenSpec.ofChange coverAllWrong)

/-- 'tokenhallkeep.CoverLimit': WHATEVER THE INPUT: true; the input reads as it did. -/
def coverLimitSpec : ChangeSpec := { name := "coverLimit", fn := fun _ => fun
  | [d1, d2, d3, d4, d5] => { results := [.lit (.bool true)], args := [d1, d2, d3, d4, d5] }
  | _ => none }
def coverLimitRow : OpenClaim := { program := "ytbopachnkbjmfaa", sum := "53f51dcc8afa2d19624bd79423f4f7d98167dbb6fb69150f607c332c6eb4f734", func := "tokenhall/tokenhallkeep.CoverLimit", spec := "coverLimit", unfollowed := true, recurses := true, plainKeys := false, apart := false }
def CoverLimitSaid : Prop := coverLimitRow.holds Try.pinned (OpenSpec.ofChange coverLimitSpec)

/-- ITS FALSE NEIGHBOUR: 'it returns false'. Refute it at one input. -/
def coverLimitWrong : ChangeSpec := { name := "coverLimit", fn := fun _ => fun
  | [d1, d2, d3, d4, d5] => { results := [.lit (.bool false)], args := [d1, d2, d3, d4, d5] }
  | _ => none }
def CoverLimitWrongFalsely : Prop := coverLimitRow.holds Try.pinned (OpenSpec.ofChange coverLimitWrong)

/-- 'tokenhallkeep.DeskRole': WHATEVER THE INPUT: true; the input reads as it did. -/
def deskRoleSpec : ChangeSpec := { name := "deskRole", fn := fun _ => fun
  | [d1, d2, d3, d4] => { results := [.lit (.bool true)], args := [d1, d2, d3, d4] }
  | _ => none }
def deskRoleRow : OpenClaim := { program := "ytbopachnkbjmfaa", sum := "53f51dcc8afa2d19624bd79423f4f7d98167dbb6fb69150f607c332c6eb4f734", func := "tokenhall/tokenhallkeep.DeskRole", spec := "deskRole", unfollowed := true, recurses := true, plainKeys := false, apart := false }
def DeskRoleSaid : Prop := deskRoleRow.holds Try.pinned (OpenSpec.ofChange deskRoleSpec)

/-- ITS FALSE NEIGHBOUR: 'it returns false'. Refute it at one input. -/
def deskRoleWrong : ChangeSpec := { name := "deskRole", fn := fun _ => fun
  | [d1, d2, d3, d4] => { results := [.lit (.bool false)], args := [d1, d2, d3, d4] }
  | _ => none }
def DeskRoleWrongFalsely : Prop := deskRoleRow.holds Try.pinned (OpenSpec.ofChange deskRoleWrong)

/-- 'tokenhallkeep.DeskBusy': WHATEVER THE INPUT: true; the input reads as it did. -/
def deskBusySpec : ChangeSpec := { name := "deskBusy", fn := fun _ => fun
  | [d1, d2, d3, d4] => { results := [.lit (.bool true)], args := [d1, d2, d3, d4] }
  | _ => none }
def deskBusyRow : OpenClaim := { program := "ytbopachnkbjmfaa", sum := "53f51dcc8afa2d19624bd79423f4f7d98167dbb6fb69150f607c332c6eb4f734", func := "tokenhall/tokenhallkeep.DeskBusy", spec := "deskBusy", unfollowed := true, recurses := true, plainKeys := false, apart := false }
def DeskBusySaid : Prop := deskBusyRow.holds Try.pinned (OpenSpec.ofChange deskBusySpec)

/-- ITS FALSE NEIGHBOUR: 'it returns false'. Refute it at one input. -/
def deskBusyWrong : ChangeSpec := { name := "deskBusy", fn := fun _ => fun
  | [d1, d2, d3, d4] => { results := [.lit (.bool false)], args := [d1, d2, d3, d4] }
  | _ => none }
def DeskBusyWrongFalsely : Prop := deskBusyRow.holds Try.pinned (OpenSpec.ofChange deskBusyWrong)

/-- 'tokenhallkeep.DeskRefused': WHATEVER THE INPUT: true; the input reads as it did. -/
def deskRefusedSpec : ChangeSpec := { name := "deskRefused", fn := fun _ => fun
  | [d1, d2, d3, d4] => { results := [.lit (.bool true)], args := [d1, d2, d3, d4] }
  | _ => none }
def deskRefusedRow : OpenClaim := { program := "ytbopachnkbjmfaa", sum := "53f51dcc8afa2d19624bd79423f4f7d98167dbb6fb69150f607c332c6eb4f734", func := "tokenhall/tokenhallkeep.DeskRefused", spec := "deskRefused", unfollowed := true, recurses := true, plainKeys := false, apart := false }
def DeskRefusedSaid : Prop := deskRefusedRow.holds Try.pinned (OpenSpec.ofChange deskRefusedSpec)

/-- ITS FALSE NEIGHBOUR: 'it returns false'. Refute it at one input. -/
def deskRefusedWrong : ChangeSpec := { name := "deskRefused", fn := fun _ => fun
  | [d1, d2, d3, d4] => { results := [.lit (.bool false)], args := [d1, d2, d3, d4] }
  | _ => none }
def DeskRefusedWrongFalsely : Prop := deskRefusedRow.holds Try.pinned (OpenSpec.ofChange deskRefusedWrong)

/-- 'tokenhallkeep.DeskCase': WHATEVER THE INPUT: true; the input reads as it did. -/
def deskCaseSpec : ChangeSpec := { name := "deskCase", fn := fun _ => fun
  | [d1, d2, d3, d4] => { results := [.lit (.bool true)], args := [d1, d2, d3, d4] }
  | _ => none }
def deskCaseRow : OpenClaim := { program := "ytbopachnkbjmfaa", sum := "53f51dcc8afa2d19624bd79423f4f7d98167dbb6fb69150f607c332c6eb4f734", func := "tokenhall/tokenhallkeep.DeskCase", spec := "deskCase", unfollowed := true, recurses := true, plainKeys := false, apart := false }
def DeskCaseSaid : Prop := deskCaseRow.holds Try.pinned (OpenSpec.ofChange deskCaseSpec)

/-- ITS FALSE NEIGHBOUR: 'it returns false'. Refute it at one input. -/
def deskCaseWrong : ChangeSpec := { name := "deskCase", fn := fun _ => fun
  | [d1, d2, d3, d4] => { results := [.lit (.bool false)], args := [d1, d2, d3, d4] }
  | _ => none }
def DeskCaseWrongFalsely : Prop := deskCaseRow.holds Try.pinned (OpenSpec.ofChange deskCaseWrong)

/-- 'tokenhallkeep.CoverMany': WHATEVER THE INPUT: true; the input reads as it did. -/
def coverManySpec : ChangeSpec := { name := "coverMany", fn := fun _ => fun
  | [d1, d2, d3] => { results := [.lit (.bool true)], args := [d1, d2, d3] }
  | _ => none }
def coverManyRow : OpenClaim := { program := "ytbopachnkbjmfaa", sum := "53f51dcc8afa2d19624bd79423f4f7d98167dbb6fb69150f607c332c6eb4f734", func := "tokenhall/tokenhallkeep.CoverMany", spec := "coverMany", unfollowed := true, recurses := true, plainKeys := false, apart := false }
def CoverManySaid : Prop := coverManyRow.holds Try.pinned (OpenSpec.ofChange coverManySpec)

/-- ITS FALSE NEIGHBOUR: 'it returns false'. Refute it at one input. -/
def coverManyWrong : ChangeSpec := { name := "coverMany", fn := fun _ => fun
  | [d1, d2, d3] => { results := [.lit (.bool false)], args := [d1, d2, d3] }
  | _ => none }
def CoverManyWrongFalsely : Prop := coverManyRow.holds Try.pinned (OpenSpec.ofChange coverManyWrong)

/-- 'tokenhallkeep.CoverBounded': WHATEVER THE INPUT: true; the input reads as it did. -/
def coverBoundedSpec : ChangeSpec := { name := "coverBounded", fn := fun _ => fun
  | [d1, d2, d3] => { results := [.lit (.bool true)], args := [d1, d2, d3] }
  | _ => none }
def coverBoundedRow : OpenClaim := { program := "ytbopachnkbjmfaa", sum := "53f51dcc8afa2d19624bd79423f4f7d98167dbb6fb69150f607c332c6eb4f734", func := "tokenhall/tokenhallkeep.CoverBounded", spec := "coverBounded", unfollowed := true, recurses := true, plainKeys := false, apart := false }
def CoverBoundedSaid : Prop := coverBoundedRow.holds Try.pinned (OpenSpec.ofChange coverBoundedSpec)

/-- ITS FALSE NEIGHBOUR: 'it returns false'. Refute it at one input. -/
def coverBoundedWrong : ChangeSpec := { name := "coverBounded", fn := fun _ => fun
  | [d1, d2, d3] => { results := [.lit (.bool false)], args := [d1, d2, d3] }
  | _ => none }
def CoverBoundedWrongFalsely : Prop := coverBoundedRow.holds Try.pinned (OpenSpec.ofChange coverBoundedWrong)

/-- 'tokenhallkeep.SoundRoom': WHATEVER THE INPUT: true; the input reads as it did. -/
def soundRoomSpec : ChangeSpec := { name := "soundRoom", fn := fun _ => fun
  | [d1, d2, d3, d4, d5] => { results := [.lit (.bool true)], args := [d1, d2, d3, d4, d5] }
  | _ => none }
def soundRoomRow : OpenClaim := { program := "ytbopachnkbjmfaa", sum := "53f51dcc8afa2d19624bd79423f4f7d98167dbb6fb69150f607c332c6eb4f734", func := "tokenhall/tokenhallkeep.SoundRoom", spec := "soundRoom", unfollowed := true, recurses := true, plainKeys := false, apart := false }
def SoundRoomSaid : Prop := soundRoomRow.holds Try.pinned (OpenSpec.ofChange soundRoomSpec)

/-- ITS FALSE NEIGHBOUR: 'it returns false'. Refute it at one input. -/
def soundRoomWrong : ChangeSpec := { name := "soundRoom", fn := fun _ => fun
  | [d1, d2, d3, d4, d5] => { results := [.lit (.bool false)], args := [d1, d2, d3, d4, d5] }
  | _ => none }
def SoundRoomWrongFalsely : Prop := soundRoomRow.holds Try.pinned (OpenSpec.ofChange soundRoomWrong)

/-- 'tokenhallkeep.LiveRuns': WHATEVER THE INPUT: true; the input reads as it did. -/
def liveRunsSpec : ChangeSpec := { name := "liveRuns", fn := fun _ => fun
  | [d1, d2, d3, d4] => { results := [.lit (.bool true)], args := [d1, d2, d3, d4] }
  | _ => none }
def liveRunsRow : OpenClaim := { program := "ytbopachnkbjmfaa", sum := "53f51dcc8afa2d19624bd79423f4f7d98167dbb6fb69150f607c332c6eb4f734", func := "tokenhall/tokenhallkeep.LiveRuns", spec := "liveRuns", unfollowed := true, recurses := true, plainKeys := false, apart := false }
def LiveRunsSaid : Prop := liveRunsRow.holds Try.pinned (OpenSpec.ofChange liveRunsSpec)

/-- ITS FALSE NEIGHBOUR: 'it returns false'. Refute it at one input. -/
def liveRunsWrong : ChangeSpec := { name := "liveRuns", fn := fun _ => fun
  | [d1, d2, d3, d4] => { results := [.lit (.bool false)], args := [d1, d2, d3, d4] }
  | _ => none }
def LiveRunsWrongFalsely : Prop := liveRunsRow.holds Try.pinned (OpenSpec.ofChange liveRunsWrong)

/-- 'tokenhallkeep.LiveDead': WHATEVER THE INPUT: true; the input reads as it did. -/
def liveDeadSpec : ChangeSpec := { name := "liveDead", fn := fun _ => fun
  | [d1, d2, d3] => { results := [.lit (.bool true)], args := [d1, d2, d3] }
  | _ => none }
def liveDeadRow : OpenClaim := { program := "ytbopachnkbjmfaa", sum := "53f51dcc8afa2d19624bd79423f4f7d98167dbb6fb69150f607c332c6eb4f734", func := "tokenhall/tokenhallkeep.LiveDead", spec := "liveDead", unfollowed := true, recurses := true, plainKeys := false, apart := false }
def LiveDeadSaid : Prop := liveDeadRow.holds Try.pinned (OpenSpec.ofChange liveDeadSpec)

/-- ITS FALSE NEIGHBOUR: 'it returns false'. Refute it at one input. -/
def liveDeadWrong : ChangeSpec := { name := "liveDead", fn := fun _ => fun
  | [d1, d2, d3] => { results := [.lit (.bool false)], args := [d1, d2, d3] }
  | _ => none }
def LiveDeadWrongFalsely : Prop := liveDeadRow.holds Try.pinned (OpenSpec.ofChange liveDeadWrong)

/-- 'tokenhallkeep.SoundMeans': WHATEVER THE INPUT: true; the input reads as it did. -/
def soundMeansSpec : ChangeSpec := { name := "soundMeans", fn := fun _ => fun
  | [d1, d2, d3, d4, d5] => { results := [.lit (.bool true)], args := [d1, d2, d3, d4, d5] }
  | _ => none }
def soundMeansRow : OpenClaim := { program := "ytbopachnkbjmfaa", sum := "53f51dcc8afa2d19624bd79423f4f7d98167dbb6fb69150f607c332c6eb4f734", func := "tokenhall/tokenhallkeep.SoundMeans", spec := "soundMeans", unfollowed := true, recurses := true, plainKeys := false, apart := false }
def SoundMeansSaid : Prop := soundMeansRow.holds Try.pinned (OpenSpec.ofChange soundMeansSpec)

/-- ITS FALSE NEIGHBOUR: 'it returns false'. Refute it at one input. -/
def soundMeansWrong : ChangeSpec := { name := "soundMeans", fn := fun _ => fun
  | [d1, d2, d3, d4, d5] => { results := [.lit (.bool false)], args := [d1, d2, d3, d4, d5] }
  | _ => none }
def SoundMeansWrongFalsely : Prop := soundMeansRow.holds Try.pinned (OpenSpec.ofChange soundMeansWrong)

/-- 'tokenhallkeep.SoundClosed': WHATEVER THE INPUT: true; the input reads as it did. -/
def soundClosedSpec : ChangeSpec := { name := "soundClosed", fn := fun _ => fun
  | [d1, d2, d3, d4] => { results := [.lit (.bool true)], args := [d1, d2, d3, d4] }
  | _ => none }
def soundClosedRow : OpenClaim := { program := "ytbopachnkbjmfaa", sum := "53f51dcc8afa2d19624bd79423f4f7d98167dbb6fb69150f607c332c6eb4f734", func := "tokenhall/tokenhallkeep.SoundClosed", spec := "soundClosed", unfollowed := true, recurses := true, plainKeys := false, apart := false }
def SoundClosedSaid : Prop := soundClosedRow.holds Try.pinned (OpenSpec.ofChange soundClosedSpec)

/-- ITS FALSE NEIGHBOUR: 'it returns false'. Refute it at one input. -/
def soundClosedWrong : ChangeSpec := { name := "soundClosed", fn := fun _ => fun
  | [d1, d2, d3, d4] => { results := [.lit (.bool false)], args := [d1, d2, d3, d4] }
  | _ => none }
def SoundClosedWrongFalsely : Prop := soundClosedRow.holds Try.pinned (OpenSpec.ofChange soundClosedWrong)

/-- 'tokenhallkeep.SoundWitness': WHATEVER THE INPUT: true; the input reads as it did. -/
def soundWitnessSpec : ChangeSpec := { name := "soundWitness", fn := fun _ => fun
  | [d1, d2, d3, d4, d5] => { results := [.lit (.bool true)], args := [d1, d2, d3, d4, d5] }
  | _ => none }
def soundWitnessRow : OpenClaim := { program := "ytbopachnkbjmfaa", sum := "53f51dcc8afa2d19624bd79423f4f7d98167dbb6fb69150f607c332c6eb4f734", func := "tokenhall/tokenhallkeep.SoundWitness", spec := "soundWitness", unfollowed := true, recurses := true, plainKeys := false, apart := false }
def SoundWitnessSaid : Prop := soundWitnessRow.holds Try.pinned (OpenSpec.ofChange soundWitnessSpec)

/-- ITS FALSE NEIGHBOUR: 'it returns false'. Refute it at one input. -/
def soundWitnessWrong : ChangeSpec := { name := "soundWitness", fn := fun _ => fun
  | [d1, d2, d3, d4, d5] => { results := [.lit (.bool false)], args := [d1, d2, d3, d4, d5] }
  | _ => none }
def SoundWitnessWrongFalsely : Prop := soundWitnessRow.holds Try.pinned (OpenSpec.ofChange soundWitnessWrong)

/- THE SECOND FORM. 'bulk': how many values and letters a reading holds, each counted each time it is reached (what is shared counts as often as it is met; a slice's spare places count too). A statement '..UptoSaid' is the law's where the arguments, and the package variables that the reading takes, are together of bulk at most 1048576: NARROWER than '..Said'. Prove '..Said' where nothing that the law and all that it calls make is longer than what came in: it says more and counts as full. Else prove '..UptoSaid'. A law counts once. -/
mutual
def uptoBulk {H : Type} : DataW H → Nat
  | .lit (.string bytes) => bytes.length + 1
  | .lit _ => 1
  | .nil => 1
  | .ptr d => uptoBulk d + 1
  | .slice elems spare => uptoBulkAll elems + uptoBulkAll spare + 1
  | .agg parts => uptoBulkAll parts + 1
  | .iface _ d => uptoBulk d + 1
  | .map entries => uptoBulkEntries entries + 1
  | .held _ => 1
def uptoBulkAll {H : Type} : List (DataW H) → Nat
  | [] => 0
  | d :: r => uptoBulk d + uptoBulkAll r
def uptoBulkEntries {H : Type} : List (Lit × DataW H) → Nat
  | [] => 0
  | x :: r => uptoBulkEntry x + uptoBulkEntries r
def uptoBulkEntry {H : Type} : Lit × DataW H → Nat
  | (.string bytes, d) => bytes.length + uptoBulk d + 1
  | (_, d) => uptoBulk d + 1
 end
def uptoSmall : (H : Type) → List (DataW H) → Bool := fun _ ds => decide (uptoBulkAll ds ≤ 1048576)
def OpenSpec.upto (s : _root_.Go.ChangeSpec) : _root_.Go.OpenSpec := { _root_.Go.OpenSpec.ofChange s with cond := some uptoSmall }

/-- 'tokenhallkeep.CoverAll', WHERE WHAT IT READS IS OF BULK AT MOST 1048576: true; the input reads as it did. -/
def coverAllUptoRow : OpenClaim := { program := "ytbopachnkbjmfaa", sum := "53f51dcc8afa2d19624bd79423f4f7d98167dbb6fb69150f607c332c6eb4f734", func := "tokenhall/tokenhallkeep.CoverAll", spec := "coverAll", unfollowed := true, recurses := true, plainKeys := false, apart := false, narrowed := true }
def CoverAllUptoSaid : Prop := coverAllUptoRow.holds Try.pinned (OpenSpec.upto coverAllSpec)

/-- 'tokenhallkeep.CoverLimit', WHERE WHAT IT READS IS OF BULK AT MOST 1048576: true; the input reads as it did. -/
def coverLimitUptoRow : OpenClaim := { program := "ytbopachnkbjmfaa", sum := "53f51dcc8afa2d19624bd79423f4f7d98167dbb6fb69150f607c332c6eb4f734", func := "tokenhall/tokenhallkeep.CoverLimit", spec := "coverLimit", unfollowed := true, recurses := true, plainKeys := false, apart := false, narrowed := true }
def CoverLimitUptoSaid : Prop := coverLimitUptoRow.holds Try.pinned (OpenSpec.upto coverLimitSpec)

/-- 'tokenhallkeep.DeskRole', WHERE WHAT IT READS IS OF BULK AT MOST 1048576: true; the input reads as it did. -/
def deskRoleUptoRow : OpenClaim := { program := "ytbopachnkbjmfaa", sum := "53f51dcc8afa2d19624bd79423f4f7d98167dbb6fb69150f607c332c6eb4f734", func := "tokenhall/tokenhallkeep.DeskRole", spec := "deskRole", unfollowed := true, recurses := true, plainKeys := false, apart := false, narrowed := true }
def DeskRoleUptoSaid : Prop := deskRoleUptoRow.holds Try.pinned (OpenSpec.upto deskRoleSpec)

/-- 'tokenhallkeep.DeskBusy', WHERE WHAT IT READS IS OF BULK AT MOST 1048576: true; the input reads as it did. -/
def deskBusyUptoRow : OpenClaim := { program := "ytbopachnkbjmfaa", sum := "53f51dcc8afa2d19624bd79423f4f7d98167dbb6fb69150f607c332c6eb4f734", func := "tokenhall/tokenhallkeep.DeskBusy", spec := "deskBusy", unfollowed := true, recurses := true, plainKeys := false, apart := false, narrowed := true }
def DeskBusyUptoSaid : Prop := deskBusyUptoRow.holds Try.pinned (OpenSpec.upto deskBusySpec)

/-- 'tokenhallkeep.DeskRefused', WHERE WHAT IT READS IS OF BULK AT MOST 1048576: true; the input reads as it did. -/
def deskRefusedUptoRow : OpenClaim := { program := "ytbopachnkbjmfaa", sum := "53f51dcc8afa2d19624bd79423f4f7d98167dbb6fb69150f607c332c6eb4f734", func := "tokenhall/tokenhallkeep.DeskRefused", spec := "deskRefused", unfollowed := true, recurses := true, plainKeys := false, apart := false, narrowed := true }
def DeskRefusedUptoSaid : Prop := deskRefusedUptoRow.holds Try.pinned (OpenSpec.upto deskRefusedSpec)

/-- 'tokenhallkeep.DeskCase', WHERE WHAT IT READS IS OF BULK AT MOST 1048576: true; the input reads as it did. -/
def deskCaseUptoRow : OpenClaim := { program := "ytbopachnkbjmfaa", sum := "53f51dcc8afa2d19624bd79423f4f7d98167dbb6fb69150f607c332c6eb4f734", func := "tokenhall/tokenhallkeep.DeskCase", spec := "deskCase", unfollowed := true, recurses := true, plainKeys := false, apart := false, narrowed := true }
def DeskCaseUptoSaid : Prop := deskCaseUptoRow.holds Try.pinned (OpenSpec.upto deskCaseSpec)

/-- 'tokenhallkeep.CoverMany', WHERE WHAT IT READS IS OF BULK AT MOST 1048576: true; the input reads as it did. -/
def coverManyUptoRow : OpenClaim := { program := "ytbopachnkbjmfaa", sum := "53f51dcc8afa2d19624bd79423f4f7d98167dbb6fb69150f607c332c6eb4f734", func := "tokenhall/tokenhallkeep.CoverMany", spec := "coverMany", unfollowed := true, recurses := true, plainKeys := false, apart := false, narrowed := true }
def CoverManyUptoSaid : Prop := coverManyUptoRow.holds Try.pinned (OpenSpec.upto coverManySpec)

/-- 'tokenhallkeep.CoverBounded', WHERE WHAT IT READS IS OF BULK AT MOST 1048576: true; the input reads as it did. -/
def coverBoundedUptoRow : OpenClaim := { program := "ytbopachnkbjmfaa", sum := "53f51dcc8afa2d19624bd79423f4f7d98167dbb6fb69150f607c332c6eb4f734", func := "tokenhall/tokenhallkeep.CoverBounded", spec := "coverBounded", unfollowed := true, recurses := true, plainKeys := false, apart := false, narrowed := true }
def CoverBoundedUptoSaid : Prop := coverBoundedUptoRow.holds Try.pinned (OpenSpec.upto coverBoundedSpec)

/-- 'tokenhallkeep.SoundRoom', WHERE WHAT IT READS IS OF BULK AT MOST 1048576: true; the input reads as it did. -/
def soundRoomUptoRow : OpenClaim := { program := "ytbopachnkbjmfaa", sum := "53f51dcc8afa2d19624bd79423f4f7d98167dbb6fb69150f607c332c6eb4f734", func := "tokenhall/tokenhallkeep.SoundRoom", spec := "soundRoom", unfollowed := true, recurses := true, plainKeys := false, apart := false, narrowed := true }
def SoundRoomUptoSaid : Prop := soundRoomUptoRow.holds Try.pinned (OpenSpec.upto soundRoomSpec)

/-- 'tokenhallkeep.LiveRuns', WHERE WHAT IT READS IS OF BULK AT MOST 1048576: true; the input reads as it did. -/
def liveRunsUptoRow : OpenClaim := { program := "ytbopachnkbjmfaa", sum := "53f51dcc8afa2d19624bd79423f4f7d98167dbb6fb69150f607c332c6eb4f734", func := "tokenhall/tokenhallkeep.LiveRuns", spec := "liveRuns", unfollowed := true, recurses := true, plainKeys := false, apart := false, narrowed := true }
def LiveRunsUptoSaid : Prop := liveRunsUptoRow.holds Try.pinned (OpenSpec.upto liveRunsSpec)

/-- 'tokenhallkeep.LiveDead', WHERE WHAT IT READS IS OF BULK AT MOST 1048576: true; the input reads as it did. -/
def liveDeadUptoRow : OpenClaim := { program := "ytbopachnkbjmfaa", sum := "53f51dcc8afa2d19624bd79423f4f7d98167dbb6fb69150f607c332c6eb4f734", func := "tokenhall/tokenhallkeep.LiveDead", spec := "liveDead", unfollowed := true, recurses := true, plainKeys := false, apart := false, narrowed := true }
def LiveDeadUptoSaid : Prop := liveDeadUptoRow.holds Try.pinned (OpenSpec.upto liveDeadSpec)

/-- 'tokenhallkeep.SoundMeans', WHERE WHAT IT READS IS OF BULK AT MOST 1048576: true; the input reads as it did. -/
def soundMeansUptoRow : OpenClaim := { program := "ytbopachnkbjmfaa", sum := "53f51dcc8afa2d19624bd79423f4f7d98167dbb6fb69150f607c332c6eb4f734", func := "tokenhall/tokenhallkeep.SoundMeans", spec := "soundMeans", unfollowed := true, recurses := true, plainKeys := false, apart := false, narrowed := true }
def SoundMeansUptoSaid : Prop := soundMeansUptoRow.holds Try.pinned (OpenSpec.upto soundMeansSpec)

/-- 'tokenhallkeep.SoundClosed', WHERE WHAT IT READS IS OF BULK AT MOST 1048576: true; the input reads as it did. -/
def soundClosedUptoRow : OpenClaim := { program := "ytbopachnkbjmfaa", sum := "53f51dcc8afa2d19624bd79423f4f7d98167dbb6fb69150f607c332c6eb4f734", func := "tokenhall/tokenhallkeep.SoundClosed", spec := "soundClosed", unfollowed := true, recurses := true, plainKeys := false, apart := false, narrowed := true }
def SoundClosedUptoSaid : Prop := soundClosedUptoRow.holds Try.pinned (OpenSpec.upto soundClosedSpec)

/-- 'tokenhallkeep.SoundWitness', WHERE WHAT IT READS IS OF BULK AT MOST 1048576: true; the input reads as it did. -/
def soundWitnessUptoRow : OpenClaim := { program := "ytbopachnkbjmfaa", sum := "53f51dcc8afa2d19624bd79423f4f7d98167dbb6fb69150f607c332c6eb4f734", func := "tokenhall/tokenhallkeep.SoundWitness", spec := "soundWitness", unfollowed := true, recurses := true, plainKeys := false, apart := false, narrowed := true }
def SoundWitnessUptoSaid : Prop := soundWitnessUptoRow.holds Try.pinned (OpenSpec.upto soundWitnessSpec)

end Rows
end Go.Proofs.Ytbopachnkbjmfaa
