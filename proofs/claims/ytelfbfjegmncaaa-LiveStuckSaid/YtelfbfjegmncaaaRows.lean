/-
  NARROWER THAN 'FOR EVERY INPUT', by the rows' own cells (each row's printed sentence says how): GrowFree: loops · GrowSafe: loops.
  DERIVED. THE GIVEN ROWS OF THIS SEAT. 14 by the template 'for every input the law returns true; each argument reads behind the call as it read before'; 0 by the template 'total and deterministic' (their statements: YtelfbfjegmncaaaTotals.lean).
  GIVEN WITH THE SEED: the statements are not yours to turn. If you find one false, say at which input.
  Laid BY PROGRAM, IN A SANDBOX (cutbox-rows.mjs): the forced cells as the released guide's own fill.sh prints them over the translation 586678562bb103c6… (all of the seat's roots in one cut). By AI agents, Wed Nov 11 2026. No macro, syntax, notation, axiom, sorry.
-/
import Derived.Test.YtelfbfjegmncaaaChecked
import GoSem.Claim
import GoSem.ClaimJoined
import GoSem.ClaimMapViews
import Derived.JoinedTies
import Derived.KernelRfl
namespace Go.Proofs.Ytelfbfjegmncaaa
/- THE CELL 'sum', in the pinned program and in every row, IS THE sha256 OF THE DUMP (.gsa) THAT YtelfbfjegmncaaaProg.lean LOADS. Nothing in Lean hashes anything: it is a label: what it is worth is what the hold of that sum in a sandbox is worth. -/
noncomputable def Try.pinned : Pinned := { name := "ytelfbfjegmncaaa", sum := "586678562bb103c69aaa5d1e206c9457f212d589e9ec84212133ab40230107ef", checked := Try.checked }
namespace Rows
def none {H : Type} : Left H := { results := [], args := [] }

/-- 'tokenhallkeep.GrowFree': WHATEVER THE INPUT: true; the input reads as it did. -/
def growFreeSpec : ChangeSpec := { name := "growFree", fn := fun _ => fun
  | [d] => { results := [.lit (.bool true)], args := [d] }
  | _ => none }
def growFreeRow : OpenClaim := { program := "ytelfbfjegmncaaa", sum := "586678562bb103c69aaa5d1e206c9457f212d589e9ec84212133ab40230107ef", func := "tokenhall/tokenhallkeep.GrowFree", spec := "growFree", unfollowed := true, recurses := true, loops := true, apart := false }
def GrowFreeSaid : Prop := growFreeRow.holds Try.pinned (OpenSpec.ofChange growFreeSpec)

/-- ITS FALSE NEIGHBOUR: 'it returns false'. Refute it at one input. -/
def growFreeWrong : ChangeSpec := { name := "growFree", fn := fun _ => fun
  | [d] => { results := [.lit (.bool false)], args := [d] }
  | _ => none }
def GrowFreeWrongFalsely : Prop := growFreeRow.holds Try.pinned (OpenSpec.ofChange growFreeWrong)

/-- 'tokenhallkeep.LiveStuck': WHATEVER THE INPUT: true; the input reads as it did. -/
def liveStuckSpec : ChangeSpec := { name := "liveStuck", fn := fun _ => fun
  | [d1, d2] => { results := [.lit (.bool true)], args := [d1, d2] }
  | _ => none }
def liveStuckRow : OpenClaim := { program := "ytelfbfjegmncaaa", sum := "586678562bb103c69aaa5d1e206c9457f212d589e9ec84212133ab40230107ef", func := "tokenhall/tokenhallkeep.LiveStuck", spec := "liveStuck", unfollowed := true, recurses := true, apart := false }
def LiveStuckSaid : Prop := liveStuckRow.holds Try.pinned (OpenSpec.ofChange liveStuckSpec)

/-- ITS FALSE NEIGHBOUR: 'it returns false'. Refute it at one input. -/
def liveStuckWrong : ChangeSpec := { name := "liveStuck", fn := fun _ => fun
  | [d1, d2] => { results := [.lit (.bool false)], args := [d1, d2] }
  | _ => none }
def LiveStuckWrongFalsely : Prop := liveStuckRow.holds Try.pinned (OpenSpec.ofChange liveStuckWrong)

/-- 'tokenhallkeep.ReachRoom': WHATEVER THE INPUT: true; the input reads as it did. -/
def reachRoomSpec : ChangeSpec := { name := "reachRoom", fn := fun _ => fun
  | [d1, d2, d3, d4] => { results := [.lit (.bool true)], args := [d1, d2, d3, d4] }
  | _ => none }
def reachRoomRow : OpenClaim := { program := "ytelfbfjegmncaaa", sum := "586678562bb103c69aaa5d1e206c9457f212d589e9ec84212133ab40230107ef", func := "tokenhall/tokenhallkeep.ReachRoom", spec := "reachRoom", unfollowed := true, recurses := true, apart := false }
def ReachRoomSaid : Prop := reachRoomRow.holds Try.pinned (OpenSpec.ofChange reachRoomSpec)

/-- ITS FALSE NEIGHBOUR: 'it returns false'. Refute it at one input. -/
def reachRoomWrong : ChangeSpec := { name := "reachRoom", fn := fun _ => fun
  | [d1, d2, d3, d4] => { results := [.lit (.bool false)], args := [d1, d2, d3, d4] }
  | _ => none }
def ReachRoomWrongFalsely : Prop := reachRoomRow.holds Try.pinned (OpenSpec.ofChange reachRoomWrong)

/-- 'tokenhallkeep.ReachClosed': WHATEVER THE INPUT: true; the input reads as it did. -/
def reachClosedSpec : ChangeSpec := { name := "reachClosed", fn := fun _ => fun
  | [d1, d2, d3, d4] => { results := [.lit (.bool true)], args := [d1, d2, d3, d4] }
  | _ => none }
def reachClosedRow : OpenClaim := { program := "ytelfbfjegmncaaa", sum := "586678562bb103c69aaa5d1e206c9457f212d589e9ec84212133ab40230107ef", func := "tokenhall/tokenhallkeep.ReachClosed", spec := "reachClosed", unfollowed := true, recurses := true, apart := false }
def ReachClosedSaid : Prop := reachClosedRow.holds Try.pinned (OpenSpec.ofChange reachClosedSpec)

/-- ITS FALSE NEIGHBOUR: 'it returns false'. Refute it at one input. -/
def reachClosedWrong : ChangeSpec := { name := "reachClosed", fn := fun _ => fun
  | [d1, d2, d3, d4] => { results := [.lit (.bool false)], args := [d1, d2, d3, d4] }
  | _ => none }
def ReachClosedWrongFalsely : Prop := reachClosedRow.holds Try.pinned (OpenSpec.ofChange reachClosedWrong)

/-- 'tokenhallkeep.ReachTrue': WHATEVER THE INPUT: true; the input reads as it did. -/
def reachTrueSpec : ChangeSpec := { name := "reachTrue", fn := fun _ => fun
  | [d1, d2, d3, d4, d5] => { results := [.lit (.bool true)], args := [d1, d2, d3, d4, d5] }
  | _ => none }
def reachTrueRow : OpenClaim := { program := "ytelfbfjegmncaaa", sum := "586678562bb103c69aaa5d1e206c9457f212d589e9ec84212133ab40230107ef", func := "tokenhall/tokenhallkeep.ReachTrue", spec := "reachTrue", unfollowed := true, recurses := true, apart := false }
def ReachTrueSaid : Prop := reachTrueRow.holds Try.pinned (OpenSpec.ofChange reachTrueSpec)

/-- ITS FALSE NEIGHBOUR: 'it returns false'. Refute it at one input. -/
def reachTrueWrong : ChangeSpec := { name := "reachTrue", fn := fun _ => fun
  | [d1, d2, d3, d4, d5] => { results := [.lit (.bool false)], args := [d1, d2, d3, d4, d5] }
  | _ => none }
def ReachTrueWrongFalsely : Prop := reachTrueRow.holds Try.pinned (OpenSpec.ofChange reachTrueWrong)

/-- 'tokenhallkeep.GrowSafe': WHATEVER THE INPUT: true; the input reads as it did. -/
def growSafeSpec : ChangeSpec := { name := "growSafe", fn := fun _ => fun
  | [d1, d2] => { results := [.lit (.bool true)], args := [d1, d2] }
  | _ => none }
def growSafeRow : OpenClaim := { program := "ytelfbfjegmncaaa", sum := "586678562bb103c69aaa5d1e206c9457f212d589e9ec84212133ab40230107ef", func := "tokenhall/tokenhallkeep.GrowSafe", spec := "growSafe", unfollowed := true, recurses := true, loops := true, apart := false }
def GrowSafeSaid : Prop := growSafeRow.holds Try.pinned (OpenSpec.ofChange growSafeSpec)

/-- ITS FALSE NEIGHBOUR: 'it returns false'. Refute it at one input. -/
def growSafeWrong : ChangeSpec := { name := "growSafe", fn := fun _ => fun
  | [d1, d2] => { results := [.lit (.bool false)], args := [d1, d2] }
  | _ => none }
def GrowSafeWrongFalsely : Prop := growSafeRow.holds Try.pinned (OpenSpec.ofChange growSafeWrong)

/-- 'tokenhallkeep.CoverAll': WHATEVER THE INPUT: true; the input reads as it did. -/
def coverAllSpec : ChangeSpec := { name := "coverAll", fn := fun _ => fun
  | [d1, d2, d3, d4] => { results := [.lit (.bool true)], args := [d1, d2, d3, d4] }
  | _ => none }
def coverAllRow : OpenClaim := { program := "ytelfbfjegmncaaa", sum := "586678562bb103c69aaa5d1e206c9457f212d589e9ec84212133ab40230107ef", func := "tokenhall/tokenhallkeep.CoverAll", spec := "coverAll", unfollowed := true, recurses := true, apart := false }
def CoverAllSaid : Prop := coverAllRow.holds Try.pinned (OpenSpec.ofChange coverAllSpec)

/-- ITS FALSE NEIGHBOUR: 'it returns false'. Refute it at one input. -/
def coverAllWrong : ChangeSpec := { name := "coverAll", fn := fun _ => fun
  | [d1, d2, d3, d4] => { results := [.lit (.bool false)], args := [d1, d2, d3, d4] }
  | _ => none }
def CoverAllWrongFalsely : Prop := coverAllRow.holds Try.pinned (OpenSpec.ofChange coverAllWrong)

/-- 'tokenhallkeep.CoverLimit': WHATEVER THE INPUT: true; the input reads as it did. -/
def coverLimitSpec : ChangeSpec := { name := "coverLimit", fn := fun _ => fun
  | [d1, d2, d3, d4, d5] => { results := [.lit (.bool true)], args := [d1, d2, d3, d4, d5] }
  | _ => none }
def coverLimitRow : OpenClaim := { program := "ytelfbfjegmncaaa", sum := "586678562bb103c69aaa5d1e206c9457f212d589e9ec84212133ab40230107ef", func := "tokenhall/tokenhallkeep.CoverLimit", spec := "coverLimit", unfollowed := true, recurses := true, apart := false }
def CoverLimitSaid : Prop := coverLimitRow.holds Try.pinned (OpenSpec.ofChange coverLimitSpec)

/-- ITS FALSE NEIGHBOUR: 'it returns false'. Refute it at one input. -/
def coverLimitWrong : ChangeSpec := { name := "coverLimit", fn := fun _ => fun
  | [d1, d2, d3, d4, d5] => { results := [.lit (.bool false)], args := [d1, d2, d3, d4, d5] }
  | _ => none }
def CoverLimitWrongFalsely : Prop := coverLimitRow.holds Try.pinned (OpenSpec.ofChange coverLimitWrong)

/-- 'tokenhallkeep.CasesNet': WHATEVER THE INPUT: true; the input reads as it did. -/
def casesNetSpec : ChangeSpec := { name := "casesNet", fn := fun _ => fun
  | [d1, d2, d3] => { results := [.lit (.bool true)], args := [d1, d2, d3] }
  | _ => none }
def casesNetRow : OpenClaim := { program := "ytelfbfjegmncaaa", sum := "586678562bb103c69aaa5d1e206c9457f212d589e9ec84212133ab40230107ef", func := "tokenhall/tokenhallkeep.CasesNet", spec := "casesNet", unfollowed := true, recurses := true, apart := false }
def CasesNetSaid : Prop := casesNetRow.holds Try.pinned (OpenSpec.ofChange casesNetSpec)

/-- ITS FALSE NEIGHBOUR: 'it returns false'. Refute it at one input. -/
def casesNetWrong : ChangeSpec := { name := "casesNet", fn := fun _ => fun
  | [d1, d2, d3] => { results := [.lit (.bool false)], args := [d1, d2, d3] }
  | _ => none }
def CasesNetWrongFalsely : Prop := casesNetRow.holds Try.pinned (OpenSpec.ofChange casesNetWrong)

/-- 'tokenhallkeep.DeskRole': WHATEVER THE INPUT: true; the input reads as it did. -/
def deskRoleSpec : ChangeSpec := { name := "deskRole", fn := fun _ => fun
  | [d1, d2, d3, d4] => { results := [.lit (.bool true)], args := [d1, d2, d3, d4] }
  | _ => none }
def deskRoleRow : OpenClaim := { program := "ytelfbfjegmncaaa", sum := "586678562bb103c69aaa5d1e206c9457f212d589e9ec84212133ab40230107ef", func := "tokenhall/tokenhallkeep.DeskRole", spec := "deskRole", unfollowed := true, recurses := true, apart := false }
def DeskRoleSaid : Prop := deskRoleRow.holds Try.pinned (OpenSpec.ofChange deskRoleSpec)

/-- ITS FALSE NEIGHBOUR: 'it returns false'. Refute it at one input. -/
def deskRoleWrong : ChangeSpec := { name := "deskRole", fn := fun _ => fun
  | [d1, d2, d3, d4] => { results := [.lit (.bool false)], args := [d1, d2, d3, d4] }
  | _ => none }
def DeskRoleWrongFalsely : Prop := deskRoleRow.holds Try.pinned (OpenSpec.ofChange deskRoleWrong)

/-- 'tokenhallkeep.DeskBusy': WHATEVER THE INPUT: true; the input reads as it did. -/
def deskBusySpec : ChangeSpec := { name := "deskBusy", fn := fun _ => fun
  | [d1, d2, d3, d4] => { results := [.lit (.bool true)], args := [d1, d2, d3, d4] }
  | _ => none }
def deskBusyRow : OpenClaim := { program := "ytelfbfjegmncaaa", sum := "586678562bb103c69aaa5d1e206c9457f212d589e9ec84212133ab40230107ef", func := "tokenhall/tokenhallkeep.DeskBusy", spec := "deskBusy", unfollowed := true, recurses := true, apart := false }
def DeskBusySaid : Prop := deskBusyRow.holds Try.pinned (OpenSpec.ofChange deskBusySpec)

/-- ITS FALSE NEIGHBOUR: 'it returns false'. Refute it at one input. -/
def deskBusyWrong : ChangeSpec := { name := "deskBusy", fn := fun _ => fun
  | [d1, d2, d3, d4] => { results := [.lit (.bool false)], args := [d1, d2, d3, d4] }
  | _ => none }
def DeskBusyWrongFalsely : Prop := deskBusyRow.holds Try.pinned (OpenSpec.ofChange deskBusyWrong)

/-- 'tokenhallkeep.DeskRefused': WHATEVER THE INPUT: true; the input reads as it did. -/
def deskRefusedSpec : ChangeSpec := { name := "deskRefused", fn := fun _ => fun
  | [d1, d2, d3, d4] => { results := [.lit (.bool true)], args := [d1, d2, d3, d4] }
  | _ => none }
def deskRefusedRow : OpenClaim := { program := "ytelfbfjegmncaaa", sum := "586678562bb103c69aaa5d1e206c9457f212d589e9ec84212133ab40230107ef", func := "tokenhall/tokenhallkeep.DeskRefused", spec := "deskRefused", unfollowed := true, recurses := true, apart := false }
def DeskRefusedSaid : Prop := deskRefusedRow.holds Try.pinned (OpenSpec.ofChange deskRefusedSpec)

/-- ITS FALSE NEIGHBOUR: 'it returns false'. Refute it at one input. -/
def deskRefusedWrong : ChangeSpec := { name := "deskRefused", fn := fun _ => fun
  | [d1, d2, d3, d4] => { results := [.lit (.bool false)], args := [d1, d2, d3, d4] }
  | _ => none }
def DeskRefusedWrongFalsely : Prop := deskRefusedRow.holds Try.pinned (OpenSpec.ofChange deskRefusedWrong)

/-- 'tokenhallkeep.DeskCase': WHATEVER THE INPUT: true; the input reads as it did. -/
def deskCaseSpec : ChangeSpec := { name := "deskCase", fn := fun _ => fun
  | [d1, d2, d3, d4] => { results := [.lit (.bool true)], args := [d1, d2, d3, d4] }
  | _ => none }
def deskCaseRow : OpenClaim := { program := "ytelfbfjegmncaaa", sum := "586678562bb103c69aaa5d1e206c9457f212d589e9ec84212133ab40230107ef", func := "tokenhall/tokenhallkeep.DeskCase", spec := "deskCase", unfollowed := true, recurses := true, apart := false }
def DeskCaseSaid : Prop := deskCaseRow.holds Try.pinned (OpenSpec.ofChange deskCaseSpec)

/-- ITS FALSE NEIGHBOUR: 'it returns false'. Refute it at one input. -/
def deskCaseWrong : ChangeSpec := { name := "deskCase", fn := fun _ => fun
  | [d1, d2, d3, d4] => { results := [.lit (.bool false)], args := [d1, d2, d3, d4] }
  | _ => none }
def DeskCaseWrongFalsely : Prop := deskCaseRow.holds Try.pinned (OpenSpec.ofChange deskCaseWrong)

/-- 'tokenhallkeep.CoverMany': WHATEVER THE INPUT: true; the input reads as it did. -/
def coverManySpec : ChangeSpec := { name := "coverMany", fn := fun _ => fun
  | [d1, d2, d3] => { results := [.lit (.bool true)], args := [d1, d2, d3] }
  | _ => none }
def coverManyRow : OpenClaim := { program := "ytelfbfjegmncaaa", sum := "586678562bb103c69aaa5d1e206c9457f212d589e9ec84212133ab40230107ef", func := "tokenhall/tokenhallkeep.CoverMany", spec := "coverMany", unfollowed := true, recurses := true, apart := false }
def CoverManySaid : Prop := coverManyRow.holds Try.pinned (OpenSpec.ofChange coverManySpec)

/-- ITS FALSE NEIGHBOUR: 'it returns false'. Refute it at one input. -/
def coverManyWrong : ChangeSpec := { name := "coverMany", fn := fun _ => fun
  | [d1, d2, d3] => { results := [.lit (.bool false)], args := [d1, d2, d3] }
  | _ => none }
def CoverManyWrongFalsely : Prop := coverManyRow.holds Try.pinned (OpenSpec.ofChange coverManyWrong)

/- THE SECOND FORM. 'bulk': how many values and letters a reading holds, each counted each time it is reached (what is shared counts as often as it is met; a slice's spare places count too). A statement '..UptoSaid' is the law's where the arguments, and the package variables that the reading takes, are together of bulk at most 1048576: NARROWER than '..Said'. Prove '..Said' where nothing that the law and all that it calls make is longer than what came in: it says more and counts as full. Else prove '..UptoSaid'. A law counts once. -/
mutual
def uptoBulk {H : Type} : DataW H → Nat
  | .lit (.string bytes) => bytes.length + 1
  | .lit _ => 1
  | .nil => 1
  | .ptr d => uptoBulk d + 1
  | .slice elems spare => uptoBulkAll elems + uptoBulkAll spare + 1
  | .agg parts => uptoBulkAll parts + 1
  | .iface _ d => uptoBulk d + 1
  | .map entries => uptoBulkEntries entries + 1
  | .held _ => 1
def uptoBulkAll {H : Type} : List (DataW H) → Nat
  | [] => 0
  | d :: r => uptoBulk d + uptoBulkAll r
def uptoBulkEntries {H : Type} : List (Lit × DataW H) → Nat
  | [] => 0
  | x :: r => uptoBulkEntry x + uptoBulkEntries r
def uptoBulkEntry {H : Type} : Lit × DataW H → Nat
  | (.string bytes, d) => bytes.length + uptoBulk d + 1
  | (_, d) => uptoBulk d + 1
 end
def uptoSmall : (H : Type) → List (DataW H) → Bool := fun _ ds => decide (uptoBulkAll ds ≤ 1048576)
def OpenSpec.upto (s : _root_.Go.ChangeSpec) : _root_.Go.OpenSpec := { _root_.Go.OpenSpec.ofChange s with cond := some uptoSmall }

/-- 'tokenhallkeep.GrowFree', WHERE WHAT IT READS IS OF BULK AT MOST 1048576: true; the input reads as it did. -/
def growFreeUptoRow : OpenClaim := { program := "ytelfbfjegmncaaa", sum := "586678562bb103c69aaa5d1e206c9457f212d589e9ec84212133ab40230107ef", func := "tokenhall/tokenhallkeep.GrowFree", spec := "growFree", unfollowed := true, recurses := true, loops := true, apart := false, narrowed := true }
def GrowFreeUptoSaid : Prop := growFreeUptoRow.holds Try.pinned (OpenSpec.upto growFreeSpec)

/-- 'tokenhallkeep.LiveStuck', WHERE WHAT IT READS IS OF BULK AT MOST 1048576: true; the input reads as it did. -/
def liveStuckUptoRow : OpenClaim := { program := "ytelfbfjegmncaaa", sum := "586678562bb103c69aaa5d1e206c9457f212d589e9ec84212133ab40230107ef", func := "tokenhall/tokenhallkeep.LiveStuck", spec := "liveStuck", unfollowed := true, recurses := true, apart := false, narrowed := true }
def LiveStuckUptoSaid : Prop := liveStuckUptoRow.holds Try.pinned (OpenSpec.upto liveStuckSpec)

/-- 'tokenhallkeep.ReachRoom', WHERE WHAT IT READS IS OF BULK AT MOST 1048576: true; the input reads as it did. -/
def reachRoomUptoRow : OpenClaim := { program := "ytelfbfjegmncaaa", sum := "586678562bb103c69aaa5d1e206c9457f212d589e9ec84212133ab40230107ef", func := "tokenhall/tokenhallkeep.ReachRoom", spec := "reachRoom", unfollowed := true, recurses := true, apart := false, narrowed := true }
def ReachRoomUptoSaid : Prop := reachRoomUptoRow.holds Try.pinned (OpenSpec.upto reachRoomSpec)

/-- 'tokenhallkeep.ReachClosed', WHERE WHAT IT READS IS OF BULK AT MOST 1048576: true; the input reads as it did. -/
def reachClosedUptoRow : OpenClaim := { program := "ytelfbfjegmncaaa", sum := "586678562bb103c69aaa5d1e206c9457f212d589e9ec84212133ab40230107ef", func := "tokenhall/tokenhallkeep.ReachClosed", spec := "reachClosed", unfollowed := true, recurses := true, apart := false, narrowed := true }
def ReachClosedUptoSaid : Prop := reachClosedUptoRow.holds Try.pinned (OpenSpec.upto reachClosedSpec)

/-- 'tokenhallkeep.ReachTrue', WHERE WHAT IT READS IS OF BULK AT MOST 1048576: true; the input reads as it did. -/
def reachTrueUptoRow : OpenClaim := { program := "ytelfbfjegmncaaa", sum := "586678562bb103c69aaa5d1e206c9457f212d589e9ec84212133ab40230107ef", func := "tokenhall/tokenhallkeep.ReachTrue", spec := "reachTrue", unfollowed := true, recurses := true, apart := false, narrowed := true }
def ReachTrueUptoSaid : Prop := reachTrueUptoRow.holds Try.pinned (OpenSpec.upto reachTrueSpec)

/-- 'tokenhallkeep.GrowSafe', WHERE WHAT IT READS IS OF BULK AT MOST 1048576: true; the input reads as it did. -/
def growSafeUptoRow : OpenClaim := { program := "ytelfbfjegmncaaa", sum := "586678562bb103c69aaa5d1e206c9457f212d589e9ec84212133ab40230107ef", func := "tokenhall/tokenhallkeep.GrowSafe", spec := "growSafe", unfollowed := true, recurses := true, loops := true, apart := false, narrowed := true }
def GrowSafeUptoSaid : Prop := growSafeUptoRow.holds Try.pinned (OpenSpec.upto growSafeSpec)

/-- 'tokenhallkeep.CoverAll', WHERE WHAT IT READS IS OF BULK AT MOST 1048576: true; the input reads as it did. -/
def coverAllUptoRow : OpenClaim := { program := "ytelfbfjegmncaaa", sum := "586678562bb103c69aaa5d1e206c9457f212d589e9ec84212133ab40230107ef", func := "tokenhall/tokenhallkeep.CoverAll", spec := "coverAll", unfollowed := true, recurses := true, apart := false, narrowed := true }
def CoverAllUptoSaid : Prop := coverAllUptoRow.holds Try.pinned (OpenSpec.upto coverAllSpec)

/-- 'tokenhallkeep.CoverLimit', WHERE WHAT IT READS IS OF BULK AT MOST 1048576: true; the input reads as it did. -/
def coverLimitUptoRow : OpenClaim := { program := "ytelfbfjegmncaaa", sum := "586678562bb103c69aaa5d1e206c9457f212d589e9ec84212133ab40230107ef", func := "tokenhall/tokenhallkeep.CoverLimit", spec := "coverLimit", unfollowed := true, recurses := true, apart := false, narrowed := true }
def CoverLimitUptoSaid : Prop := coverLimitUptoRow.holds Try.pinned (OpenSpec.upto coverLimitSpec)

/-- 'tokenhallkeep.CasesNet', WHERE WHAT IT READS IS OF BULK AT MOST 1048576: true; the input reads as it did. -/
def casesNetUptoRow : OpenClaim := { program := "ytelfbfjegmncaaa", sum := "586678562bb103c69aaa5d1e206c9457f212d589e9ec84212133ab40230107ef", func := "tokenhall/tokenhallkeep.CasesNet", spec := "casesNet", unfollowed := true, recurses := true, apart := false, narrowed := true }
def CasesNetUptoSaid : Prop := casesNetUptoRow.holds Try.pinned (OpenSpec.upto casesNetSpec)

/-- 'tokenhallkeep.DeskRole', WHERE WHAT IT READS IS OF BULK AT MOST 1048576: true; the input reads as it did. -/
def deskRoleUptoRow : OpenClaim := { program := "ytelfbfjegmncaaa", sum := "586678562bb103c69aaa5d1e206c9457f212d589e9ec84212133ab40230107ef", func := "tokenhall/tokenhallkeep.DeskRole", spec := "deskRole", unfollowed := true, recurses := true, apart := false, narrowed := true }
def DeskRoleUptoSaid : Prop := deskRoleUptoRow.holds Try.pinned (OpenSpec.upto deskRoleSpec)

/-- 'tokenhallkeep.DeskBusy', WHERE WHAT IT READS IS OF BULK AT MOST 1048576: true; the input reads as it did. -/
def deskBusyUptoRow : OpenClaim := { program := "ytelfbfjegmncaaa", sum := "586678562bb103c69aaa5d1e206c9457f212d589e9ec84212133ab40230107ef", func := "tokenhall/tokenhallkeep.DeskBusy", spec := "deskBusy", unfollowed := true, recurses := true, apart := false, narrowed := true }
def DeskBusyUptoSaid : Prop := deskBusyUptoRow.holds Try.pinned (OpenSpec.upto deskBusySpec)

/-- 'tokenhallkeep.DeskRefused', WHERE WHAT IT READS IS OF BULK AT MOST 1048576: true; the input reads as it did. -/
def deskRefusedUptoRow : OpenClaim := { program := "ytelfbfjegmncaaa", sum := "586678562bb103c69aaa5d1e206c9457f212d589e9ec84212133ab40230107ef", func := "tokenhall/tokenhallkeep.DeskRefused", spec := "deskRefused", unfollowed := true, recurses := true, apart := false, narrowed := true }
def DeskRefusedUptoSaid : Prop := deskRefusedUptoRow.holds Try.pinned (OpenSpec.upto deskRefusedSpec)

/-- 'tokenhallkeep.DeskCase', WHERE WHAT IT READS IS OF BULK AT MOST 1048576: true; the input reads as it did. -/
def deskCaseUptoRow : OpenClaim := { program := "ytelfbfjegmncaaa", sum := "586678562bb103c69aaa5d1e206c9457f212d589e9ec84212133ab40230107ef", func := "tokenhall/tokenhallkeep.DeskCase", spec := "deskCase", unfollowed := true, recurses := true, apart := false, narrowed := true }
def DeskCaseUptoSaid : Prop := deskCaseUptoRow.holds Try.pinned (OpenSpec.upto deskCaseSpec)

/-- 'tokenhallkeep.CoverMany', WHERE WHAT IT READS IS OF BULK AT MOST 1048576: true; the input reads as it did. -/
def coverManyUptoRow : OpenClaim := { program := "ytelfbfjegmncaaa", sum := "586678562bb103c69aaa5d1e206c9457f212d589e9ec84212133ab40230107ef", func := "tokenhall/tokenhallkeep.CoverMany", spec := "coverMany", unfollowed := true, recurses := true, apart := false, narrowed := true }
def CoverManyUptoSaid : Prop := coverManyUptoRow.holds Try.pinned (OpenSpec.upto coverManySpec)

end Rows
end Go.Proofs.Ytelfbfjegmncaaa
