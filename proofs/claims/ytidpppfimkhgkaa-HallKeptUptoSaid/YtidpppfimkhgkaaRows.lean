/-
  NARROWER THAN 'FOR EVERY INPUT', by the rows' own cells (each row's printed sentence says how): GrowFree: loops · GrowSafe: loops · GrowSound: loops.
  DERIVED. THE GIVEN ROWS OF THIS SEAT. 13 by the template 'for every input the law returns true; each argument reads behind the call as it read before'; 0 by the template 'total and deterministic' (their statements: YtidpppfimkhgkaaTotals.lean).
  GIVEN WITH THE SEED: the statements are not yours to turn. If you find one false, say at which input.
  Laid BY PROGRAM, IN A SANDBOX (cutbox-rows.mjs): the forced cells as the released guide's own fill.sh prints them over the translation c32e70132dc1b2aa… (all of the seat's roots in one cut). By AI agents, Wed Nov 11 2026. No macro, syntax, notation, axiom, sorry.
-/
import Derived.Test.YtidpppfimkhgkaaChecked
import GoSem.Claim
import GoSem.ClaimJoined
import GoSem.ClaimMapViews
import Derived.JoinedTies
import Derived.KernelRfl
namespace Go.Proofs.Ytidpppfimkhgkaa
/- THE CELL 'sum', in the pinned program and in every row, IS THE sha256 OF THE DUMP (.gsa) THAT YtidpppfimkhgkaaProg.lean LOADS. Nothing in Lean hashes anything: it is a label: what it is worth is what the hold of that sum in a sandbox is worth. -/
noncomputable def Try.pinned : Pinned := { name := "ytidpppfimkhgkaa", sum := "c32e70132dc1b2aae43a82b64ad5c2bbd8c4adf91a02dfc922335c77ebd80753", checked := Try.checked }
namespace Rows
def none {H : Type} : Left H := { results := [], args := [] }

/-- 'tokenhallkeep.GrowFree': WHATEVER THE INPUT: true; the input reads as it did. -/
def growFreeSpec : ChangeSpec := { name := "growFree", fn := fun _ => fun
  | [d] => { results := [.lit (.bool true)], args := [d] }
  | _ => none }
def growFreeRow : OpenClaim := { program := "ytidpppfimkhgkaa", sum := "c32e70132dc1b2aae43a82b64ad5c2bbd8c4adf91a02dfc922335c77ebd80753", func := "tokenhall/tokenhallkeep.GrowFree", spec := "growFree", unfollowed := true, recurses := true, loops := true, plainKeys := false, apart := false }
def GrowFreeSaid : Prop := growFreeRow.holds Try.pinned (OpenSpec.ofChange growFreeSpec)

/-- ITS FALSE NEIGHBOUR: 'it returns false'. Refute it at one input. -/
def growFreeWrong : ChangeSpec := { name := "growFree", fn := fun _ => fun
  | [d] => { results := [.lit (.bool false)], args := [d] }
  | _ => none }
def GrowFreeWrongFalsely : Prop := growFreeRow.holds Try.pinned (OpenSpec.ofChange growFreeWrong)

/-- 'tokenhallkeep.GrowSafe': WHATEVER THE INPUT: true; the input reads as it did. -/
def growSafeSpec : ChangeSpec := { name := "growSafe", fn := fun _ => fun
  | [d1, d2] => { results := [.lit (.bool true)], args := [d1, d2] }
  | _ => none }
def growSafeRow : OpenClaim := { program := "ytidpppfimkhgkaa", sum := "c32e70132dc1b2aae43a82b64ad5c2bbd8c4adf91a02dfc922335c77ebd80753", func := "tokenhall/tokenhallkeep.GrowSafe", spec := "growSafe", unfollowed := true, recurses := true, loops := true, plainKeys := false, apart := false }
def GrowSafeSaid : Prop := growSafeRow.holds Try.pinned (OpenSpec.ofChange growSafeSpec)

/-- ITS FALSE NEIGHBOUR: 'it returns false'. Refute it at one input. -/
def growSafeWrong : ChangeSpec := { name := "growSafe", fn := fun _ => fun
  | [d1, d2] => { results := [.lit (.bool false)], args := [d1, d2] }
  | _ => none }
def GrowSafeWrongFalsely : Prop := growSafeRow.holds Try.pinned (OpenSpec.ofChange growSafeWrong)

/-- 'tokenhallkeep.ReduceShape': WHATEVER THE INPUT: true; the input reads as it did. -/
def reduceShapeSpec : ChangeSpec := { name := "reduceShape", fn := fun _ => fun
  | [d1, d2, d3] => { results := [.lit (.bool true)], args := [d1, d2, d3] }
  | _ => none }
def reduceShapeRow : OpenClaim := { program := "ytidpppfimkhgkaa", sum := "c32e70132dc1b2aae43a82b64ad5c2bbd8c4adf91a02dfc922335c77ebd80753", func := "tokenhall/tokenhallkeep.ReduceShape", spec := "reduceShape", unfollowed := true, recurses := true, plainKeys := false, apart := false }
def ReduceShapeSaid : Prop := reduceShapeRow.holds Try.pinned (OpenSpec.ofChange reduceShapeSpec)

/-- ITS FALSE NEIGHBOUR: 'it returns false'. Refute it at one input. -/
def reduceShapeWrong : ChangeSpec := { name := "reduceShape", fn := fun _ => fun
  | [d1, d2, d3] => { results := [.lit (.bool false)], args := [d1, d2, d3] }
  | _ => none }
def ReduceShapeWrongFalsely : Prop := reduceShapeRow.holds Try.pinned (OpenSpec.ofChange reduceShapeWrong)

/-- 'tokenhallkeep.AlignTrue': WHATEVER THE INPUT: true; the input reads as it did. -/
def alignTrueSpec : ChangeSpec := { name := "alignTrue", fn := fun _ => fun
  | [d1, d2, d3, d4] => { results := [.lit (.bool true)], args := [d1, d2, d3, d4] }
  | _ => none }
def alignTrueRow : OpenClaim := { program := "ytidpppfimkhgkaa", sum := "c32e70132dc1b2aae43a82b64ad5c2bbd8c4adf91a02dfc922335c77ebd80753", func := "tokenhall/tokenhallkeep.AlignTrue", spec := "alignTrue", unfollowed := true, recurses := true, plainKeys := false, apart := false }
def AlignTrueSaid : Prop := alignTrueRow.holds Try.pinned (OpenSpec.ofChange alignTrueSpec)

/-- ITS FALSE NEIGHBOUR: 'it returns false'. Refute it at one input. -/
def alignTrueWrong : ChangeSpec := { name := "alignTrue", fn := fun _ => fun
  | [d1, d2, d3, d4] => { results := [.lit (.bool false)], args := [d1, d2, d3, d4] }
  | _ => none }
def AlignTrueWrongFalsely : Prop := alignTrueRow.holds Try.pinned (OpenSpec.ofChange alignTrueWrong)

/-- 'tokenhallkeep.HallTwice': WHATEVER THE INPUT: true; the input reads as it did. -/
def hallTwiceSpec : ChangeSpec := { name := "hallTwice", fn := fun _ => fun
  | [d1, d2, d3, d4, d5, d6] => { results := [.lit (.bool true)], args := [d1, d2, d3, d4, d5, d6] }
  | _ => none }
def hallTwiceRow : OpenClaim := { program := "ytidpppfimkhgkaa", sum := "c32e70132dc1b2aae43a82b64ad5c2bbd8c4adf91a02dfc922335c77ebd80753", func := "tokenhall/tokenhallkeep.HallTwice", spec := "hallTwice", unfollowed := true, recurses := true, plainKeys := false, apart := false }
def HallTwiceSaid : Prop := hallTwiceRow.holds Try.pinned (OpenSpec.ofChange hallTwiceSpec)

/-- ITS FALSE NEIGHBOUR: 'it returns false'. Refute it at one input. -/
def hallTwiceWrong : ChangeSpec := { name := "hallTwice", fn := fun _ => fun
  | [d1, d2, d3, d4, d5, d6] => { results := [.lit (.bool false)], args := [d1, d2, d3, d4, d5, d6] }
  | _ => none }
def HallTwiceWrongFalsely : Prop := hallTwiceRow.holds Try.pinned (OpenSpec.ofChange hallTwiceWrong)

/-- 'tokenhallkeep.HallSame': WHATEVER THE INPUT: true; the input reads as it did. -/
def hallSameSpec : ChangeSpec := { name := "hallSame", fn := fun _ => fun
  | [d1, d2, d3, d4] => { results := [.lit (.bool true)], args := [d1, d2, d3, d4] }
  | _ => none }
def hallSameRow : OpenClaim := { program := "ytidpppfimkhgkaa", sum := "c32e70132dc1b2aae43a82b64ad5c2bbd8c4adf91a02dfc922335c77ebd80753", func := "tokenhall/tokenhallkeep.HallSame", spec := "hallSame", unfollowed := true, recurses := true, plainKeys := false, apart := false }
def HallSameSaid : Prop := hallSameRow.holds Try.pinned (OpenSpec.ofChange hallSameSpec)

/-- ITS FALSE NEIGHBOUR: 'it returns false'. Refute it at one input. -/
def hallSameWrong : ChangeSpec := { name := "hallSame", fn := fun _ => fun
  | [d1, d2, d3, d4] => { results := [.lit (.bool false)], args := [d1, d2, d3, d4] }
  | _ => none }
def HallSameWrongFalsely : Prop := hallSameRow.holds Try.pinned (OpenSpec.ofChange hallSameWrong)

/-- 'tokenhallkeep.ReplayFits': WHATEVER THE INPUT: true; the input reads as it did. -/
def replayFitsSpec : ChangeSpec := { name := "replayFits", fn := fun _ => fun
  | [d1, d2, d3, d4] => { results := [.lit (.bool true)], args := [d1, d2, d3, d4] }
  | _ => none }
def replayFitsRow : OpenClaim := { program := "ytidpppfimkhgkaa", sum := "c32e70132dc1b2aae43a82b64ad5c2bbd8c4adf91a02dfc922335c77ebd80753", func := "tokenhall/tokenhallkeep.ReplayFits", spec := "replayFits", unfollowed := true, recurses := true, plainKeys := false, apart := false }
def ReplayFitsSaid : Prop := replayFitsRow.holds Try.pinned (OpenSpec.ofChange replayFitsSpec)

/-- ITS FALSE NEIGHBOUR: 'it returns false'. Refute it at one input. -/
def replayFitsWrong : ChangeSpec := { name := "replayFits", fn := fun _ => fun
  | [d1, d2, d3, d4] => { results := [.lit (.bool false)], args := [d1, d2, d3, d4] }
  | _ => none }
def ReplayFitsWrongFalsely : Prop := replayFitsRow.holds Try.pinned (OpenSpec.ofChange replayFitsWrong)

/-- 'tokenhallkeep.HallKept': WHATEVER THE INPUT: true; the input reads as it did. -/
def hallKeptSpec : ChangeSpec := { name := "hallKept", fn := fun _ => fun
  | [d1, d2, d3, d4, d5, d6] => { results := [.lit (.bool true)], args := [d1, d2, d3, d4, d5, d6] }
  | _ => none }
def hallKeptRow : OpenClaim := { program := "ytidpppfimkhgkaa", sum := "c32e70132dc1b2aae43a82b64ad5c2bbd8c4adf91a02dfc922335c77ebd80753", func := "tokenhall/tokenhallkeep.HallKept", spec := "hallKept", unfollowed := true, recurses := true, plainKeys := false, apart := false }
def HallKeptSaid : Prop := hallKeptRow.holds Try.pinned (OpenSpec.ofChange hallKeptSpec)

/-- ITS FALSE NEIGHBOUR: 'it returns false'. Refute it at one input. -/
def hallKeptWrong : ChangeSpec := { name := "hallKept", fn := fun _ => fun
  | [d1, d2, d3, d4, d5, d6] => { results := [.lit (.bool false)], args := [d1, d2, d3, d4, d5, d6] }
  | _ => none }
def HallKeptWrongFalsely : Prop := hallKeptRow.holds Try.pinned (OpenSpec.ofChange hallKeptWrong)

/-- 'tokenhallkeep.AlignFits': WHATEVER THE INPUT: true; the input reads as it did. -/
def alignFitsSpec : ChangeSpec := { name := "alignFits", fn := fun _ => fun
  | [d1, d2, d3, d4] => { results := [.lit (.bool true)], args := [d1, d2, d3, d4] }
  | _ => none }
def alignFitsRow : OpenClaim := { program := "ytidpppfimkhgkaa", sum := "c32e70132dc1b2aae43a82b64ad5c2bbd8c4adf91a02dfc922335c77ebd80753", func := "tokenhall/tokenhallkeep.AlignFits", spec := "alignFits", unfollowed := true, recurses := true, plainKeys := false, apart := false }
def AlignFitsSaid : Prop := alignFitsRow.holds Try.pinned (OpenSpec.ofChange alignFitsSpec)

/-- ITS FALSE NEIGHBOUR: 'it returns false'. Refute it at one input. -/
def alignFitsWrong : ChangeSpec := { name := "alignFits", fn := fun _ => fun
  | [d1, d2, d3, d4] => { results := [.lit (.bool false)], args := [d1, d2, d3, d4] }
  | _ => none }
def AlignFitsWrongFalsely : Prop := alignFitsRow.holds Try.pinned (OpenSpec.ofChange alignFitsWrong)

/-- 'tokenhallkeep.AlignNone': WHATEVER THE INPUT: true; the input reads as it did. -/
def alignNoneSpec : ChangeSpec := { name := "alignNone", fn := fun _ => fun
  | [d1, d2, d3, d4, d5] => { results := [.lit (.bool true)], args := [d1, d2, d3, d4, d5] }
  | _ => none }
def alignNoneRow : OpenClaim := { program := "ytidpppfimkhgkaa", sum := "c32e70132dc1b2aae43a82b64ad5c2bbd8c4adf91a02dfc922335c77ebd80753", func := "tokenhall/tokenhallkeep.AlignNone", spec := "alignNone", unfollowed := true, recurses := true, plainKeys := false, apart := false }
def AlignNoneSaid : Prop := alignNoneRow.holds Try.pinned (OpenSpec.ofChange alignNoneSpec)

/-- ITS FALSE NEIGHBOUR: 'it returns false'. Refute it at one input. -/
def alignNoneWrong : ChangeSpec := { name := "alignNone", fn := fun _ => fun
  | [d1, d2, d3, d4, d5] => { results := [.lit (.bool false)], args := [d1, d2, d3, d4, d5] }
  | _ => none }
def AlignNoneWrongFalsely : Prop := alignNoneRow.holds Try.pinned (OpenSpec.ofChange alignNoneWrong)

/-- 'tokenhallkeep.GrowSound': WHATEVER THE INPUT: true; the input reads as it did. -/
def growSoundSpec : ChangeSpec := { name := "growSound", fn := fun _ => fun
  | [d] => { results := [.lit (.bool true)], args := [d] }
  | _ => none }
def growSoundRow : OpenClaim := { program := "ytidpppfimkhgkaa", sum := "c32e70132dc1b2aae43a82b64ad5c2bbd8c4adf91a02dfc922335c77ebd80753", func := "tokenhall/tokenhallkeep.GrowSound", spec := "growSound", unfollowed := true, recurses := true, loops := true, plainKeys := false, apart := false }
def GrowSoundSaid : Prop := growSoundRow.holds Try.pinned (OpenSpec.ofChange growSoundSpec)

/-- ITS FALSE NEIGHBOUR: 'it returns false'. Refute it at one input. -/
def growSoundWrong : ChangeSpec := { name := "growSound", fn := fun _ => fun
  | [d] => { results := [.lit (.bool false)], args := [d] }
  | _ => none }
def GrowSoundWrongFalsely : Prop := growSoundRow.holds Try.pinned (OpenSpec.ofChange growSoundWrong)

/-- 'tokenhallkeep.CasesSaid': WHATEVER THE INPUT: true; the input reads as it did. -/
def casesSaidSpec : ChangeSpec := { name := "casesSaid", fn := fun _ => fun
  | [d1, d2, d3, d4] => { results := [.lit (.bool true)], args := [d1, d2, d3, d4] }
  | _ => none }
def casesSaidRow : OpenClaim := { program := "ytidpppfimkhgkaa", sum := "c32e70132dc1b2aae43a82b64ad5c2bbd8c4adf91a02dfc922335c77ebd80753", func := "tokenhall/tokenhallkeep.CasesSaid", spec := "casesSaid", unfollowed := true, recurses := true, plainKeys := false, apart := false }
def CasesSaidSaid : Prop := casesSaidRow.holds Try.pinned (OpenSpec.ofChange casesSaidSpec)

/-- ITS FALSE NEIGHBOUR: 'it returns false'. Refute it at one input. -/
def casesSaidWrong : ChangeSpec := { name := "casesSaid", fn := fun _ => fun
  | [d1, d2, d3, d4] => { results := [.lit (.bool false)], args := [d1, d2, d3, d4] }
  | _ => none }
def CasesSaidWrongFalsely : Prop := casesSaidRow.holds Try.pinned (OpenSpec.ofChange casesSaidWrong)

/-- 'tokenhallkeep.TongueRuns': WHATEVER THE INPUT: true; the input reads as it did. -/
def tongueRunsSpec : ChangeSpec := { name := "tongueRuns", fn := fun _ => fun
  | [d1, d2, d3, d4] => { results := [.lit (.bool true)], args := [d1, d2, d3, d4] }
  | _ => none }
def tongueRunsRow : OpenClaim := { program := "ytidpppfimkhgkaa", sum := "c32e70132dc1b2aae43a82b64ad5c2bbd8c4adf91a02dfc922335c77ebd80753", func := "tokenhall/tokenhallkeep.TongueRuns", spec := "tongueRuns", unfollowed := true, recurses := true, plainKeys := false, apart := false }
def TongueRunsSaid : Prop := tongueRunsRow.holds Try.pinned (OpenSpec.ofChange tongueRunsSpec)

/-- ITS FALSE NEIGHBOUR: 'it returns false'. Refute it at one input. -/
def tongueRunsWrong : ChangeSpec := { name := "tongueRuns", fn := fun _ => fun
  | [d1, d2, d3, d4] => { results := [.lit (.bool false)], args := [d1, d2, d3, d4] }
  | _ => none }
def TongueRunsWrongFalsely : Prop := tongueRunsRow.holds Try.pinned (OpenSpec.ofChange tongueRunsWrong)

/- THE SECOND FORM. 'bulk': how many values and letters a reading holds, each counted each time it is reached (what is shared counts as often as it is met; a slice's spare places count too). A statement '..UptoSaid' is the law's where the arguments, and the package variables that the reading takes, are together of bulk at most 1048576: NARROWER than '..Said'. Prove '..Said' where nothing that the law and all that it calls make is longer than what came in: it says more and counts as full. Else prove '..UptoSaid'. A law counts once. -/
mutual
def uptoBulk {H : Type} : DataW H → Nat
  | .lit (.string bytes) => bytes.length + 1
  | .lit _ => 1
  | .nil => 1
  | .ptr d => uptoBulk d + 1
  | .slice elems spare => uptoBulkAll elems + uptoBulkAll spare + 1
  | .agg parts => uptoBulkAll parts + 1
  | .iface _ d => uptoBulk d + 1
  | .map entries => uptoBulkEntries entries + 1
  | .held _ => 1
def uptoBulkAll {H : Type} : List (DataW H) → Nat
  | [] => 0
  | d :: r => uptoBulk d + uptoBulkAll r
def uptoBulkEntries {H : Type} : List (Lit × DataW H) → Nat
  | [] => 0
  | x :: r => uptoBulkEntry x + uptoBulkEntries r
def uptoBulkEntry {H : Type} : Lit × DataW H → Nat
  | (.string bytes, d) => bytes.length + uptoBulk d + 1
  | (_, d) => uptoBulk d + 1
 end
def uptoSmall : (H : Type) → List (DataW H) → Bool := fun _ ds => decide (uptoBulkAll ds ≤ 1048576)
def OpenSpec.upto (s : _root_.Go.ChangeSpec) : _root_.Go.OpenSpec := { _root_.Go.OpenSpec.ofChange s with cond := some uptoSmall }

/-- 'tokenhallkeep.GrowFree', WHERE WHAT IT READS IS OF BULK AT MOST 1048576: true; the input reads as it did. -/
def growFreeUptoRow : OpenClaim := { program := "ytidpppfimkhgkaa", sum := "c32e70132dc1b2aae43a82b64ad5c2bbd8c4adf91a02dfc922335c77ebd80753", func := "tokenhall/tokenhallkeep.GrowFree", spec := "growFree", unfollowed := true, recurses := true, loops := true, plainKeys := false, apart := false, narrowed := true }
def GrowFreeUptoSaid : Prop := growFreeUptoRow.holds Try.pinned (OpenSpec.upto growFreeSpec)

/-- 'tokenhallkeep.GrowSafe', WHERE WHAT IT READS IS OF BULK AT MOST 1048576: true; the input reads as it did. -/
def growSafeUptoRow : OpenClaim := { program := "ytidpppfimkhgkaa", sum := "c32e70132dc1b2aae43a82b64ad5c2bbd8c4adf91a02dfc922335c77ebd80753", func := "tokenhall/tokenhallkeep.GrowSafe", spec := "growSafe", unfollowed := true, recurses := true, loops := true, plainKeys := false, apart := false, narrowed := true }
def GrowSafeUptoSaid : Prop := growSafeUptoRow.holds Try.pinned (OpenSpec.upto growSafeSpec)

/-- 'tokenhallkeep.ReduceShape', WHERE WHAT IT READS IS OF BULK AT MOST 1048576: true; the input reads as it did. -/
def reduceShapeUptoRow : OpenClaim := { program := "ytidpppfimkhgkaa", sum := "c32e70132dc1b2aae43a82b64ad5c2bbd8c4adf91a02dfc922335c77ebd80753", func := "tokenhall/tokenhallkeep.ReduceShape", spec := "reduceShape", unfollowed := true, recurses := true, plainKeys := false, apart := false, narrowed := true }
def ReduceShapeUptoSaid : Prop := reduceShapeUptoRow.holds Try.pinned (OpenSpec.upto reduceShapeSpec)

/-- 'tokenhallkeep.AlignTrue', WHERE WHAT IT READS IS OF BULK AT MOST 1048576: true; the input reads as it did. -/
def alignTrueUptoRow : OpenClaim := { program := "ytidpppfimkhgkaa", sum := "c32e70132dc1b2aae43a82b64ad5c2bbd8c4adf91a02dfc922335c77ebd80753", func := "tokenhall/tokenhallkeep.AlignTrue", spec := "alignTrue", unfollowed := true, recurses := true, plainKeys := false, apart := false, narrowed := true }
def AlignTrueUptoSaid : Prop := alignTrueUptoRow.holds Try.pinned (OpenSpec.upto alignTrueSpec)

/-- 'tokenhallkeep.HallTwice', WHERE WHAT IT READS IS OF BULK AT MOST 1048576: true; the input reads as it did. -/
def hallTwiceUptoRow : OpenClaim := { program := "ytidpppfimkhgkaa", sum := "c32e70132dc1b2aae43a82b64ad5c2bbd8c4adf91a02dfc922335c77ebd80753", func := "tokenhall/tokenhallkeep.HallTwice", spec := "hallTwice", unfollowed := true, recurses := true, plainKeys := false, apart := false, narrowed := true }
def HallTwiceUptoSaid : Prop := hallTwiceUptoRow.holds Try.pinned (OpenSpec.upto hallTwiceSpec)

/-- 'tokenhallkeep.HallSame', WHERE WHAT IT READS IS OF BULK AT MOST 1048576: true; the input reads as it did. -/
def hallSameUptoRow : OpenClaim := { program := "ytidpppfimkhgkaa", sum := "c32e70132dc1b2aae43a82b64ad5c2bbd8c4adf91a02dfc922335c77ebd80753", func := "tokenhall/tokenhallkeep.HallSame", spec := "hallSame", unfollowed := true, recurses := true, plainKeys := false, apart := false, narrowed := true }
def HallSameUptoSaid : Prop := hallSameUptoRow.holds Try.pinned (OpenSpec.upto hallSameSpec)

/-- 'tokenhallkeep.ReplayFits', WHERE WHAT IT READS IS OF BULK AT MOST 1048576: true; the input reads as it did. -/
def replayFitsUptoRow : OpenClaim := { program := "ytidpppfimkhgkaa", sum := "c32e70132dc1b2aae43a82b64ad5c2bbd8c4adf91a02dfc922335c77ebd80753", func := "tokenhall/tokenhallkeep.ReplayFits", spec := "replayFits", unfollowed := true, recurses := true, plainKeys := false, apart := false, narrowed := true }
def ReplayFitsUptoSaid : Prop := replayFitsUptoRow.holds Try.pinned (OpenSpec.upto replayFitsSpec)

/-- 'tokenhallkeep.HallKept', WHERE WHAT IT READS IS OF BULK AT MOST 1048576: true; the input reads as it did. -/
def hallKeptUptoRow : OpenClaim := { program := "ytidpppfimkhgkaa", sum := "c32e70132dc1b2aae43a82b64ad5c2bbd8c4adf91a02dfc922335c77ebd80753", func := "tokenhall/tokenhallkeep.HallKept", spec := "hallKept", unfollowed := true, recurses := true, plainKeys := false, apart := false, narrowed := true }
def HallKeptUptoSaid : Prop := hallKeptUptoRow.holds Try.pinned (OpenSpec.upto hallKeptSpec)

/-- 'tokenhallkeep.AlignFits', WHERE WHAT IT READS IS OF BULK AT MOST 1048576: true; the input reads as it did. -/
def alignFitsUptoRow : OpenClaim := { program := "ytidpppfimkhgkaa", sum := "c32e70132dc1b2aae43a82b64ad5c2bbd8c4adf91a02dfc922335c77ebd80753", func := "tokenhall/tokenhallkeep.AlignFits", spec := "alignFits", unfollowed := true, recurses := true, plainKeys := false, apart := false, narrowed := true }
def AlignFitsUptoSaid : Prop := alignFitsUptoRow.holds Try.pinned (OpenSpec.upto alignFitsSpec)

/-- 'tokenhallkeep.AlignNone', WHERE WHAT IT READS IS OF BULK AT MOST 1048576: true; the input reads as it did. -/
def alignNoneUptoRow : OpenClaim := { program := "ytidpppfimkhgkaa", sum := "c32e70132dc1b2aae43a82b64ad5c2bbd8c4adf91a02dfc922335c77ebd80753", func := "tokenhall/tokenhallkeep.AlignNone", spec := "alignNone", unfollowed := true, recurses := true, plainKeys := false, apart := false, narrowed := true }
def AlignNoneUptoSaid : Prop := alignNoneUptoRow.holds Try.pinned (OpenSpec.upto alignNoneSpec)

/-- 'tokenhallkeep.GrowSound', WHERE WHAT IT READS IS OF BULK AT MOST 1048576: true; the input reads as it did. -/
def growSoundUptoRow : OpenClaim := { program := "ytidpppfimkhgkaa", sum := "c32e70132dc1b2aae43a82b64ad5c2bbd8c4adf91a02dfc922335c77ebd80753", func := "tokenhall/tokenhallkeep.GrowSound", spec := "growSound", unfollowed := true, recurses := true, loops := true, plainKeys := false, apart := false, narrowed := true }
def GrowSoundUptoSaid : Prop := growSoundUptoRow.holds Try.pinned (OpenSpec.upto growSoundSpec)

/-- 'tokenhallkeep.CasesSaid', WHERE WHAT IT READS IS OF BULK AT MOST 1048576: true; the input reads as it did. -/
def casesSaidUptoRow : OpenClaim := { program := "ytidpppfimkhgkaa", sum := "c32e70132dc1b2aae43a82b64ad5c2bbd8c4adf91a02dfc922335c77ebd80753", func := "tokenhall/tokenhallkeep.CasesSaid", spec := "casesSaid", unfollowed := true, recurses := true, plainKeys := false, apart := false, narrowed := true }
def CasesSaidUptoSaid : Prop := casesSaidUptoRow.holds Try.pinned (OpenSpec.upto casesSaidSpec)

/-- 'tokenhallkeep.TongueRuns', WHERE WHAT IT READS IS OF BULK AT MOST 1048576: true; the input reads as it did. -/
def tongueRunsUptoRow : OpenClaim := { program := "ytidpppfimkhgkaa", sum := "c32e70132dc1b2aae43a82b64ad5c2bbd8c4adf91a02dfc922335c77ebd80753", func := "tokenhall/tokenhallkeep.TongueRuns", spec := "tongueRuns", unfollowed := true, recurses := true, plainKeys := false, apart := false, narrowed := true }
def TongueRunsUptoSaid : Prop := tongueRunsUptoRow.holds Try.pinned (OpenSpec.upto tongueRunsSpec)

end Rows
end Go.Proofs.Ytidpppfimkhgkaa
