/-
  No cell of these rows narrows 'for every input' (looked for: loops, veiled, ifaces, maps, wideKeys, modest, calm, conditions, laid).
  DERIVED. THE GIVEN ROWS OF THIS SEAT. 13 by the template 'for every input the law returns true; each argument reads behind the call as it read before'; 0 by the template 'total and deterministic' (their statements: YtkekamffmmokmaaTotals.lean).
  GIVEN WITH THE SEED: the statements are not yours to turn. If you find one false, say at which input.
  Laid BY PROGRAM, IN A SANDBOX (cutbox-rows.mjs): the forced cells as the released guide's own fill.sh prints them over the translation 5a76dfbcfd9d9ffb… (all of the seat's roots in one cut). By AI agents, Wed Nov 11 2026. No macro, syntax, notation, axiom, sorry.
-/
import Derived.Test.YtkekamffmmokmaaChecked
import GoSem.Claim
import GoSem.ClaimJoined
import GoSem.ClaimMapViews
import Derived.JoinedTies
import Derived.KernelRfl
namespace Go.Proofs.Ytkekamffmmokmaa
/- THE CELL 'sum', in the pinned program and in every row, IS THE sha256 OF THE DUMP (.gsa) THAT YtkekamffmmokmaaProg.lean LOADS. Nothing in Lean hashes anything: it is a label: what it is worth is what the hold of that sum in a sandbox is worth. -/
noncomputable def Try.pinned : Pinned := { name := "ytkekamffmmokmaa", sum := "5a76dfbcfd9d9ffb34213fa799258f3efb034e8b83f17ba5054feba8adb612f9", checked := Try.checked }
namespace Rows
def none {H : Type} : Left H := { results := [], args := [] }

/-- 'tokenhallkeep.CoverAll': WHATEVER THE INPUT: true; the input reads as it did. -/
def coverAllSpec : ChangeSpec := { name := "coverAll", fn := fun _ => fun
  | [d1, d2, d3, d4] => { results := [.lit (.bool true)], args := [d1, d2, d3, d4] }
  | _ => none }
def coverAllRow : OpenClaim := { program := "ytkekamffmmokmaa", sum := "5a76dfbcfd9d9ffb34213fa799258f3efb034e8b83f17ba5054feba8adb612f9", func := "tokenhall/tokenhallkeep.CoverAll", spec := "coverAll", unfollowed := true, recurses := true, plainKeys := false, apart := false }
def CoverAllSaid : Prop := coverAllRow.holds Try.pinned (OpenSpec.ofChange coverAllSpec)

/-- ITS FALSE NEIGHBOUR: 'it returns false'. Refute it at one input. -/
def coverAllWrong : ChangeSpec := { name := "coverAll", fn := fun _ => fun
  | [d1, d2, d3, d4] => { results := [.lit (.bool false)], args := [d1, d2, d3, d4] }
  | _ => none }
def CoverAllWrongFalsely : Prop := coverAllRow.holds Try.pinned (OpenSpec.ofChange coverAllWrong)

/-- 'tokenhallkeep.CoverLimit': WHATEVER THE INPUT: true; the input reads as it did. -/
def coverLimitSpec : ChangeSpec := { name := "coverLimit", fn := fun _ => fun
  | [d1, d2, d3, d4, d5] => { results := [.lit (.bool true)], args := [d1, d2, d3, d4, d5] }
  | _ => none }
def coverLimitRow : OpenClaim := { program := "ytkekamffmmokmaa", sum := "5a76dfbcfd9d9ffb34213fa799258f3efb034e8b83f17ba5054feba8adb612f9", func := "tokenhall/tokenhallkeep.CoverLimit", spec := "coverLimit", unfollowed := true, recurses := true, plainKeys := false, apart := false }
def CoverLimitSaid : Prop := coverLimitRow.holds Try.pinned (OpenSpec.ofChange coverLimitSpec)

/-- ITS FALSE NEIGHBOUR: 'it returns false'. Refute it at one input. -/
def coverLimitWrong : ChangeSpec := { name := "coverLimit", fn := fun _ => fun
  | [d1, d2, d3, d4, d5] => { results := [.lit (.bool false)], args := [d1, d2, d3, d4, d5] }
  | _ => none }
def CoverLimitWrongFalsely : Prop := coverLimitRow.holds Try.pinned (OpenSpec.ofChange coverLimitWrong)

/-- 'tokenhallkeep.CoverMany': WHATEVER THE INPUT: true; the input reads as it did. -/
def coverManySpec : ChangeSpec := { name := "coverMany", fn := fun _ => fun
  | [d1, d2, d3] => { results := [.lit (.bool true)], args := [d1, d2, d3] }
  | _ => none }
def coverManyRow : OpenClaim := { program := "ytkekamffmmokmaa", sum := "5a76dfbcfd9d9ffb34213fa799258f3efb034e8b83f17ba5054feba8adb612f9", func := "tokenhall/tokenhallkeep.CoverMany", spec := "coverMany", unfollowed := true, recurses := true, plainKeys := false, apart := false }
def CoverManySaid : Prop := coverManyRow.holds Try.pinned (OpenSpec.ofChange coverManySpec)

/-- ITS FALSE NEIGHBOUR: 'it returns false'. Refute it at one input. -/
def coverManyWrong : ChangeSpec := { name := "coverMany", fn := fun _ => fun
  | [d1, d2, d3] => { results := [.lit (.bool false)], args := [d1, d2, d3] }
  | _ => none }
def CoverManyWrongFalsely : Prop := coverManyRow.holds Try.pinned (OpenSpec.ofChange coverManyWrong)

/-- 'tokenhallkeep.CoverBounded': WHATEVER THE INPUT: true; the input reads as it did. -/
def coverBoundedSpec : ChangeSpec := { name := "coverBounded", fn := fun _ => fun
  | [d1, d2, d3] => { results := [.lit (.bool true)], args := [d1, d2, d3] }
  | _ => none }
def coverBoundedRow : OpenClaim := { program := "ytkekamffmmokmaa", sum := "5a76dfbcfd9d9ffb34213fa799258f3efb034e8b83f17ba5054feba8adb612f9", func := "tokenhall/tokenhallkeep.CoverBounded", spec := "coverBounded", unfollowed := true, recurses := true, plainKeys := false, apart := false }
def CoverBoundedSaid : Prop := coverBoundedRow.holds Try.pinned (OpenSpec.ofChange coverBoundedSpec)

/-- ITS FALSE NEIGHBOUR: 'it returns false'. Refute it at one input. -/
def coverBoundedWrong : ChangeSpec := { name := "coverBounded", fn := fun _ => fun
  | [d1, d2, d3] => { results := [.lit (.bool false)], args := [d1, d2, d3] }
  | _ => none }
def CoverBoundedWrongFalsely : Prop := coverBoundedRow.holds Try.pinned (OpenSpec.ofChange coverBoundedWrong)

/-- 'tokenhallkeep.AlignTrue': WHATEVER THE INPUT: true; the input reads as it did. -/
def alignTrueSpec : ChangeSpec := { name := "alignTrue", fn := fun _ => fun
  | [d1, d2, d3, d4] => { results := [.lit (.bool true)], args := [d1, d2, d3, d4] }
  | _ => none }
def alignTrueRow : OpenClaim := { program := "ytkekamffmmokmaa", sum := "5a76dfbcfd9d9ffb34213fa799258f3efb034e8b83f17ba5054feba8adb612f9", func := "tokenhall/tokenhallkeep.AlignTrue", spec := "alignTrue", unfollowed := true, recurses := true, plainKeys := false, apart := false }
def AlignTrueSaid : Prop := alignTrueRow.holds Try.pinned (OpenSpec.ofChange alignTrueSpec)

/-- ITS FALSE NEIGHBOUR: 'it returns false'. Refute it at one input. -/
def alignTrueWrong : ChangeSpec := { name := "alignTrue", fn := fun _ => fun
  | [d1, d2, d3, d4] => { results := [.lit (.bool false)], args := [d1, d2, d3, d4] }
  | _ => none }
def AlignTrueWrongFalsely : Prop := alignTrueRow.holds Try.pinned (OpenSpec.ofChange alignTrueWrong)

/-- 'tokenhallkeep.AlignFits': WHATEVER THE INPUT: true; the input reads as it did. -/
def alignFitsSpec : ChangeSpec := { name := "alignFits", fn := fun _ => fun
  | [d1, d2, d3, d4] => { results := [.lit (.bool true)], args := [d1, d2, d3, d4] }
  | _ => none }
def alignFitsRow : OpenClaim := { program := "ytkekamffmmokmaa", sum := "5a76dfbcfd9d9ffb34213fa799258f3efb034e8b83f17ba5054feba8adb612f9", func := "tokenhall/tokenhallkeep.AlignFits", spec := "alignFits", unfollowed := true, recurses := true, plainKeys := false, apart := false }
def AlignFitsSaid : Prop := alignFitsRow.holds Try.pinned (OpenSpec.ofChange alignFitsSpec)

/-- ITS FALSE NEIGHBOUR: 'it returns false'. Refute it at one input. -/
def alignFitsWrong : ChangeSpec := { name := "alignFits", fn := fun _ => fun
  | [d1, d2, d3, d4] => { results := [.lit (.bool false)], args := [d1, d2, d3, d4] }
  | _ => none }
def AlignFitsWrongFalsely : Prop := alignFitsRow.holds Try.pinned (OpenSpec.ofChange alignFitsWrong)

/-- 'tokenhallkeep.AlignNone': WHATEVER THE INPUT: true; the input reads as it did. -/
def alignNoneSpec : ChangeSpec := { name := "alignNone", fn := fun _ => fun
  | [d1, d2, d3, d4, d5] => { results := [.lit (.bool true)], args := [d1, d2, d3, d4, d5] }
  | _ => none }
def alignNoneRow : OpenClaim := { program := "ytkekamffmmokmaa", sum := "5a76dfbcfd9d9ffb34213fa799258f3efb034e8b83f17ba5054feba8adb612f9", func := "tokenhall/tokenhallkeep.AlignNone", spec := "alignNone", unfollowed := true, recurses := true, plainKeys := false, apart := false }
def AlignNoneSaid : Prop := alignNoneRow.holds Try.pinned (OpenSpec.ofChange alignNoneSpec)

/-- ITS FALSE NEIGHBOUR: 'it returns false'. Refute it at one input. -/
def alignNoneWrong : ChangeSpec := { name := "alignNone", fn := fun _ => fun
  | [d1, d2, d3, d4, d5] => { results := [.lit (.bool false)], args := [d1, d2, d3, d4, d5] }
  | _ => none }
def AlignNoneWrongFalsely : Prop := alignNoneRow.holds Try.pinned (OpenSpec.ofChange alignNoneWrong)

/-- 'tokenhallkeep.TracksWalk': WHATEVER THE INPUT: true; the input reads as it did. -/
def tracksWalkSpec : ChangeSpec := { name := "tracksWalk", fn := fun _ => fun
  | [d1, d2] => { results := [.lit (.bool true)], args := [d1, d2] }
  | _ => none }
def tracksWalkRow : OpenClaim := { program := "ytkekamffmmokmaa", sum := "5a76dfbcfd9d9ffb34213fa799258f3efb034e8b83f17ba5054feba8adb612f9", func := "tokenhall/tokenhallkeep.TracksWalk", spec := "tracksWalk", unfollowed := true, recurses := true, plainKeys := false, apart := false }
def TracksWalkSaid : Prop := tracksWalkRow.holds Try.pinned (OpenSpec.ofChange tracksWalkSpec)

/-- ITS FALSE NEIGHBOUR: 'it returns false'. Refute it at one input. -/
def tracksWalkWrong : ChangeSpec := { name := "tracksWalk", fn := fun _ => fun
  | [d1, d2] => { results := [.lit (.bool false)], args := [d1, d2] }
  | _ => none }
def TracksWalkWrongFalsely : Prop := tracksWalkRow.holds Try.pinned (OpenSpec.ofChange tracksWalkWrong)

/-- 'tokenhallkeep.TracksOnto': WHATEVER THE INPUT: true; the input reads as it did. -/
def tracksOntoSpec : ChangeSpec := { name := "tracksOnto", fn := fun _ => fun
  | [d1, d2, d3] => { results := [.lit (.bool true)], args := [d1, d2, d3] }
  | _ => none }
def tracksOntoRow : OpenClaim := { program := "ytkekamffmmokmaa", sum := "5a76dfbcfd9d9ffb34213fa799258f3efb034e8b83f17ba5054feba8adb612f9", func := "tokenhall/tokenhallkeep.TracksOnto", spec := "tracksOnto", unfollowed := true, recurses := true, plainKeys := false, apart := false }
def TracksOntoSaid : Prop := tracksOntoRow.holds Try.pinned (OpenSpec.ofChange tracksOntoSpec)

/-- ITS FALSE NEIGHBOUR: 'it returns false'. Refute it at one input. -/
def tracksOntoWrong : ChangeSpec := { name := "tracksOnto", fn := fun _ => fun
  | [d1, d2, d3] => { results := [.lit (.bool false)], args := [d1, d2, d3] }
  | _ => none }
def TracksOntoWrongFalsely : Prop := tracksOntoRow.holds Try.pinned (OpenSpec.ofChange tracksOntoWrong)

/-- 'tokenhallkeep.ChoiceParts': WHATEVER THE INPUT: true; the input reads as it did. -/
def choicePartsSpec : ChangeSpec := { name := "choiceParts", fn := fun _ => fun
  | [d1, d2, d3] => { results := [.lit (.bool true)], args := [d1, d2, d3] }
  | _ => none }
def choicePartsRow : OpenClaim := { program := "ytkekamffmmokmaa", sum := "5a76dfbcfd9d9ffb34213fa799258f3efb034e8b83f17ba5054feba8adb612f9", func := "tokenhall/tokenhallkeep.ChoiceParts", spec := "choiceParts", unfollowed := true, recurses := true, plainKeys := false, apart := false }
def ChoicePartsSaid : Prop := choicePartsRow.holds Try.pinned (OpenSpec.ofChange choicePartsSpec)

/-- ITS FALSE NEIGHBOUR: 'it returns false'. Refute it at one input. -/
def choicePartsWrong : ChangeSpec := { name := "choiceParts", fn := fun _ => fun
  | [d1, d2, d3] => { results := [.lit (.bool false)], args := [d1, d2, d3] }
  | _ => none }
def ChoicePartsWrongFalsely : Prop := choicePartsRow.holds Try.pinned (OpenSpec.ofChange choicePartsWrong)

/-- 'tokenhallkeep.ChoiceSame': WHATEVER THE INPUT: true; the input reads as it did. -/
def choiceSameSpec : ChangeSpec := { name := "choiceSame", fn := fun _ => fun
  | [d1, d2] => { results := [.lit (.bool true)], args := [d1, d2] }
  | _ => none }
def choiceSameRow : OpenClaim := { program := "ytkekamffmmokmaa", sum := "5a76dfbcfd9d9ffb34213fa799258f3efb034e8b83f17ba5054feba8adb612f9", func := "tokenhall/tokenhallkeep.ChoiceSame", spec := "choiceSame", unfollowed := true, recurses := true, plainKeys := false, apart := false }
def ChoiceSameSaid : Prop := choiceSameRow.holds Try.pinned (OpenSpec.ofChange choiceSameSpec)

/-- ITS FALSE NEIGHBOUR: 'it returns false'. Refute it at one input. -/
def choiceSameWrong : ChangeSpec := { name := "choiceSame", fn := fun _ => fun
  | [d1, d2] => { results := [.lit (.bool false)], args := [d1, d2] }
  | _ => none }
def ChoiceSameWrongFalsely : Prop := choiceSameRow.holds Try.pinned (OpenSpec.ofChange choiceSameWrong)

/-- 'tokenhallkeep.TracksSum': WHATEVER THE INPUT: true; the input reads as it did. -/
def tracksSumSpec : ChangeSpec := { name := "tracksSum", fn := fun _ => fun
  | [d1, d2] => { results := [.lit (.bool true)], args := [d1, d2] }
  | _ => none }
def tracksSumRow : OpenClaim := { program := "ytkekamffmmokmaa", sum := "5a76dfbcfd9d9ffb34213fa799258f3efb034e8b83f17ba5054feba8adb612f9", func := "tokenhall/tokenhallkeep.TracksSum", spec := "tracksSum", unfollowed := true, recurses := true, plainKeys := false, apart := false }
def TracksSumSaid : Prop := tracksSumRow.holds Try.pinned (OpenSpec.ofChange tracksSumSpec)

/-- ITS FALSE NEIGHBOUR: 'it returns false'. Refute it at one input. -/
def tracksSumWrong : ChangeSpec := { name := "tracksSum", fn := fun _ => fun
  | [d1, d2] => { results := [.lit (.bool false)], args := [d1, d2] }
  | _ => none }
def TracksSumWrongFalsely : Prop := tracksSumRow.holds Try.pinned (OpenSpec.ofChange tracksSumWrong)

/-- 'tokenhallkeep.ChoiceApart': WHATEVER THE INPUT: true; the input reads as it did. -/
def choiceApartSpec : ChangeSpec := { name := "choiceApart", fn := fun _ => fun
  | [d1, d2, d3] => { results := [.lit (.bool true)], args := [d1, d2, d3] }
  | _ => none }
def choiceApartRow : OpenClaim := { program := "ytkekamffmmokmaa", sum := "5a76dfbcfd9d9ffb34213fa799258f3efb034e8b83f17ba5054feba8adb612f9", func := "tokenhall/tokenhallkeep.ChoiceApart", spec := "choiceApart", unfollowed := true, recurses := true, plainKeys := false, apart := false }
def ChoiceApartSaid : Prop := choiceApartRow.holds Try.pinned (OpenSpec.ofChange choiceApartSpec)

/-- ITS FALSE NEIGHBOUR: 'it returns false'. Refute it at one input. -/
def choiceApartWrong : ChangeSpec := { name := "choiceApart", fn := fun _ => fun
  | [d1, d2, d3] => { results := [.lit (.bool false)], args := [d1, d2, d3] }
  | _ => none }
def ChoiceApartWrongFalsely : Prop := choiceApartRow.holds Try.pinned (OpenSpec.ofChange choiceApartWrong)

/- THE SECOND FORM. 'bulk': how many values and letters a reading holds, each counted each time it is reached (what is shared counts as often as it is met; a slice's spare places count too). A statement '..UptoSaid' is the law's where the arguments, and the package variables that the reading takes, are together of bulk at most 1048576: NARROWER than '..Said'. Prove '..Said' where nothing that the law and all that it calls make is longer than what came in: it says more and counts as full. Else prove '..UptoSaid'. A law counts once. -/
mutual
def uptoBulk {H : Type} : DataW H → Nat
  | .lit (.string bytes) => bytes.length + 1
  | .lit _ => 1
  | .nil => 1
  | .ptr d => uptoBulk d + 1
  | .slice elems spare => uptoBulkAll elems + uptoBulkAll spare + 1
  | .agg parts => uptoBulkAll parts + 1
  | .iface _ d => uptoBulk d + 1
  | .map entries => uptoBulkEntries entries + 1
  | .held _ => 1
def uptoBulkAll {H : Type} : List (DataW H) → Nat
  | [] => 0
  | d :: r => uptoBulk d + uptoBulkAll r
def uptoBulkEntries {H : Type} : List (Lit × DataW H) → Nat
  | [] => 0
  | x :: r => uptoBulkEntry x + uptoBulkEntries r
def uptoBulkEntry {H : Type} : Lit × DataW H → Nat
  | (.string bytes, d) => bytes.length + uptoBulk d + 1
  | (_, d) => uptoBulk d + 1
 end
def uptoSmall : (H : Type) → List (DataW H) → Bool := fun _ ds => decide (uptoBulkAll ds ≤ 1048576)
def OpenSpec.upto (s : _root_.Go.ChangeSpec) : _root_.Go.OpenSpec := { _root_.Go.OpenSpec.ofChange s with cond := some uptoSmall }

/-- 'tokenhallkeep.CoverAll', WHERE WHAT IT READS IS OF BULK AT MOST 1048576: true; the input reads as it did. -/
def coverAllUptoRow : OpenClaim := { program := "ytkekamffmmokmaa", sum := "5a76dfbcfd9d9ffb34213fa799258f3efb034e8b83f17ba5054feba8adb612f9", func := "tokenhall/tokenhallkeep.CoverAll", spec := "coverAll", unfollowed := true, recurses := true, plainKeys := false, apart := false, narrowed := true }
def CoverAllUptoSaid : Prop := coverAllUptoRow.holds Try.pinned (OpenSpec.upto coverAllSpec)

/-- 'tokenhallkeep.CoverLimit', WHERE WHAT IT READS IS OF BULK AT MOST 1048576: true; the input reads as it did. -/
def coverLimitUptoRow : OpenClaim := { program := "ytkekamffmmokmaa", sum := "5a76dfbcfd9d9ffb34213fa799258f3efb034e8b83f17ba5054feba8adb612f9", func := "tokenhall/tokenhallkeep.CoverLimit", spec := "coverLimit", unfollowed := true, recurses := true, plainKeys := false, apart := false, narrowed := true }
def CoverLimitUptoSaid : Prop := coverLimitUptoRow.holds Try.pinned (OpenSpec.upto coverLimitSpec)

/-- 'tokenhallkeep.CoverMany', WHERE WHAT IT READS IS OF BULK AT MOST 1048576: true; the input reads as it did. -/
def coverManyUptoRow : OpenClaim := { program := "ytkekamffmmokmaa", sum := "5a76dfbcfd9d9ffb34213fa799258f3efb034e8b83f17ba5054feba8adb612f9", func := "tokenhall/tokenhallkeep.CoverMany", spec := "coverMany", unfollowed := true, recurses := true, plainKeys := false, apart := false, narrowed := true }
def CoverManyUptoSaid : Prop := coverManyUptoRow.holds Try.pinned (OpenSpec.upto coverManySpec)

/-- 'tokenhallkeep.CoverBounded', WHERE WHAT IT READS IS OF BULK AT MOST 1048576: true; the input reads as it did. -/
def coverBoundedUptoRow : OpenClaim := { program := "ytkekamffmmokmaa", sum := "5a76dfbcfd9d9ffb34213fa799258f3efb034e8b83f17ba5054feba8adb612f9", func := "tokenhall/tokenhallkeep.CoverBounded", spec := "coverBounded", unfollowed := true, recurses := true, plainKeys := false, apart := false, narrowed := true }
def CoverBoundedUptoSaid : Prop := coverBoundedUptoRow.holds Try.pinned (OpenSpec.upto coverBoundedSpec)

/-- 'tokenhallkeep.AlignTrue', WHERE WHAT IT READS IS OF BULK AT MOST 1048576: true; the input reads as it did. -/
def alignTrueUptoRow : OpenClaim := { program := "ytkekamffmmokmaa", sum := "5a76dfbcfd9d9ffb34213fa799258f3efb034e8b83f17ba5054feba8adb612f9", func := "tokenhall/tokenhallkeep.AlignTrue", spec := "alignTrue", unfollowed := true, recurses := true, plainKeys := false, apart := false, narrowed := true }
def AlignTrueUptoSaid : Prop := alignTrueUptoRow.holds Try.pinned (OpenSpec.upto alignTrueSpec)

/-- 'tokenhallkeep.AlignFits', WHERE WHAT IT READS IS OF BULK AT MOST 1048576: true; the input reads as it did. -/
def alignFitsUptoRow : OpenClaim := { program := "ytkekamffmmokmaa", sum := "5a76dfbcfd9d9ffb34213fa799258f3efb034e8b83f17ba5054feba8adb612f9", func := "tokenhall/tokenhallkeep.AlignFits", spec := "alignFits", unfollowed := true, recurses := true, plainKeys := false, apart := false, narrowed := true }
def AlignFitsUptoSaid : Prop := alignFitsUptoRow.holds Try.pinned (OpenSpec.upto alignFitsSpec)

/-- 'tokenhallkeep.AlignNone', WHERE WHAT IT READS IS OF BULK AT MOST 1048576: true; the input reads as it did. -/
def alignNoneUptoRow : OpenClaim := { program := "ytkekamffmmokmaa", sum := "5a76dfbcfd9d9ffb34213fa799258f3efb034e8b83f17ba5054feba8adb612f9", func := "tokenhall/tokenhallkeep.AlignNone", spec := "alignNone", unfollowed := true, recurses := true, plainKeys := false, apart := false, narrowed := true }
def AlignNoneUptoSaid : Prop := alignNoneUptoRow.holds Try.pinned (OpenSpec.upto alignNoneSpec)

/-- 'tokenhallkeep.TracksWalk', WHERE WHAT IT READS IS OF BULK AT MOST 1048576: true; the input reads as it did. -/
def tracksWalkUptoRow : OpenClaim := { program := "ytkekamffmmokmaa", sum := "5a76dfbcfd9d9ffb34213fa799258f3efb034e8b83f17ba5054feba8adb612f9", func := "tokenhall/tokenhallkeep.TracksWalk", spec := "tracksWalk", unfollowed := true, recurses := true, plainKeys := false, apart := false, narrowed := true }
def TracksWalkUptoSaid : Prop := tracksWalkUptoRow.holds Try.pinned (OpenSpec.upto tracksWalkSpec)

/-- 'tokenhallkeep.TracksOnto', WHERE WHAT IT READS IS OF BULK AT MOST 1048576: true; the input reads as it did. -/
def tracksOntoUptoRow : OpenClaim := { program := "ytkekamffmmokmaa", sum := "5a76dfbcfd9d9ffb34213fa799258f3efb034e8b83f17ba5054feba8adb612f9", func := "tokenhall/tokenhallkeep.TracksOnto", spec := "tracksOnto", unfollowed := true, recurses := true, plainKeys := false, apart := false, narrowed := true }
def TracksOntoUptoSaid : Prop := tracksOntoUptoRow.holds Try.pinned (OpenSpec.upto tracksOntoSpec)

/-- 'tokenhallkeep.ChoiceParts', WHERE WHAT IT READS IS OF BULK AT MOST 1048576: true; the input reads as it did. -/
def choicePartsUptoRow : OpenClaim := { program := "ytkekamffmmokmaa", sum := "5a76dfbcfd9d9ffb34213fa799258f3efb034e8b83f17ba5054feba8adb612f9", func := "tokenhall/tokenhallkeep.ChoiceParts", spec := "choiceParts", unfollowed := true, recurses := true, plainKeys := false, apart := false, narrowed := true }
def ChoicePartsUptoSaid : Prop := choicePartsUptoRow.holds Try.pinned (OpenSpec.upto choicePartsSpec)

/-- 'tokenhallkeep.ChoiceSame', WHERE WHAT IT READS IS OF BULK AT MOST 1048576: true; the input reads as it did. -/
def choiceSameUptoRow : OpenClaim := { program := "ytkekamffmmokmaa", sum := "5a76dfbcfd9d9ffb34213fa799258f3efb034e8b83f17ba5054feba8adb612f9", func := "tokenhall/tokenhallkeep.ChoiceSame", spec := "choiceSame", unfollowed := true, recurses := true, plainKeys := false, apart := false, narrowed := true }
def ChoiceSameUptoSaid : Prop := choiceSameUptoRow.holds Try.pinned (OpenSpec.upto choiceSameSpec)

/-- 'tokenhallkeep.TracksSum', WHERE WHAT IT READS IS OF BULK AT MOST 1048576: true; the input reads as it did. -/
def tracksSumUptoRow : OpenClaim := { program := "ytkekamffmmokmaa", sum := "5a76dfbcfd9d9ffb34213fa799258f3efb034e8b83f17ba5054feba8adb612f9", func := "tokenhall/tokenhallkeep.TracksSum", spec := "tracksSum", unfollowed := true, recurses := true, plainKeys := false, apart := false, narrowed := true }
def TracksSumUptoSaid : Prop := tracksSumUptoRow.holds Try.pinned (OpenSpec.upto tracksSumSpec)

/-- 'tokenhallkeep.ChoiceApart', WHERE WHAT IT READS IS OF BULK AT MOST 1048576: true; the input reads as it did. -/
def choiceApartUptoRow : OpenClaim := { program := "ytkekamffmmokmaa", sum := "5a76dfbcfd9d9ffb34213fa799258f3efb034e8b83f17ba5054feba8adb612f9", func := "tokenhall/tokenhallkeep.ChoiceApart", spec := "choiceApart", unfollowed := true, recurses := true, plainKeys := false, apart := false, narrowed := true }
def ChoiceApartUptoSaid : Prop := choiceApartUptoRow.holds Try.pinned (OpenSpec.upto choiceApartSpec)

end Rows
end Go.Proofs.Ytkekamffmmokmaa
