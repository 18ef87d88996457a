/-
  No cell of these rows narrows 'for every input' (looked for: loops, veiled, ifaces, maps, wideKeys, modest, calm, conditions, laid).
  DERIVED. THE GIVEN ROWS OF THIS SEAT. 14 by the template 'for every input the law returns true; each argument reads behind the call as it read before'; 0 by the template 'total and deterministic' (their statements: YtkpbhkfpkoiilaaTotals.lean).
  GIVEN WITH THE SEED: the statements are not yours to turn. If you find one false, say at which input.
  Laid BY PROGRAM, IN A SANDBOX (cutbox-rows.mjs): the forced cells as the released guide's own fill.sh prints them over the translation c189f6d6147a8ec4… (all of the seat's roots in one cut). By AI agents, Wed Nov 11 2026. No macro, syntax, notation, axiom, sorry.
-/
import Derived.Test.YtkpbhkfpkoiilaaChecked
import GoSem.Claim
import GoSem.ClaimJoined
import GoSem.ClaimMapViews
import Derived.JoinedTies
import Derived.KernelRfl
namespace Go.Proofs.Ytkpbhkfpkoiilaa
/- THE CELL 'sum', in the pinned program and in every row, IS THE sha256 OF THE DUMP (.gsa) THAT YtkpbhkfpkoiilaaProg.lean LOADS. Nothing in Lean hashes anything: it is a label: what it is worth is what the hold of that sum in a sandbox is worth. -/
noncomputable def Try.pinned : Pinned := { name := "ytkpbhkfpkoiilaa", sum := "c189f6d6147a8ec4ab39a0c7c1b1ef23191661ff322c4332a9a249712ebe2922", checked := Try.checked }
namespace Rows
def none {H : Type} : Left H := { results := [], args := [] }

/-- 'tokenhallkeep.JournalOnly': WHATEVER THE INPUT: true; the input reads as it did. -/
def journalOnlySpec : ChangeSpec := { name := "journalOnly", fn := fun _ => fun
  | [d] => { results := [.lit (.bool true)], args := [d] }
  | _ => none }
def journalOnlyRow : OpenClaim := { program := "ytkpbhkfpkoiilaa", sum := "c189f6d6147a8ec4ab39a0c7c1b1ef23191661ff322c4332a9a249712ebe2922", func := "tokenhall/tokenhallkeep.JournalOnly", spec := "journalOnly", apart := false }
def JournalOnlySaid : Prop := journalOnlyRow.holds Try.pinned (OpenSpec.ofChange journalOnlySpec)

/-- ITS FALSE NEIGHBOUR: 'it returns false'. Refute it at one input. -/
def journalOnlyWrong : ChangeSpec := { name := "journalOnly", fn := fun _ => fun
  | [d] => { results := [.lit (.bool false)], args := [d] }
  | _ => none }
def JournalOnlyWrongFalsely : Prop := journalOnlyRow.holds Try.pinned (OpenSpec.ofChange journalOnlyWrong)

/-- 'tokenhallkeep.JournalBack': WHATEVER THE INPUT: true; the input reads as it did. -/
def journalBackSpec : ChangeSpec := { name := "journalBack", fn := fun _ => fun
  | [d1, d2] => { results := [.lit (.bool true)], args := [d1, d2] }
  | _ => none }
def journalBackRow : OpenClaim := { program := "ytkpbhkfpkoiilaa", sum := "c189f6d6147a8ec4ab39a0c7c1b1ef23191661ff322c4332a9a249712ebe2922", func := "tokenhall/tokenhallkeep.JournalBack", spec := "journalBack", apart := false }
def JournalBackSaid : Prop := journalBackRow.holds Try.pinned (OpenSpec.ofChange journalBackSpec)

/-- ITS FALSE NEIGHBOUR: 'it returns false'. Refute it at one input. -/
def journalBackWrong : ChangeSpec := { name := "journalBack", fn := fun _ => fun
  | [d1, d2] => { results := [.lit (.bool false)], args := [d1, d2] }
  | _ => none }
def JournalBackWrongFalsely : Prop := journalBackRow.holds Try.pinned (OpenSpec.ofChange journalBackWrong)

/-- 'tokenhallkeep.JournalSpoilt': WHATEVER THE INPUT: true; the input reads as it did. -/
def journalSpoiltSpec : ChangeSpec := { name := "journalSpoilt", fn := fun _ => fun
  | [d1, d2, d3] => { results := [.lit (.bool true)], args := [d1, d2, d3] }
  | _ => none }
def journalSpoiltRow : OpenClaim := { program := "ytkpbhkfpkoiilaa", sum := "c189f6d6147a8ec4ab39a0c7c1b1ef23191661ff322c4332a9a249712ebe2922", func := "tokenhall/tokenhallkeep.JournalSpoilt", spec := "journalSpoilt", apart := false }
def JournalSpoiltSaid : Prop := journalSpoiltRow.holds Try.pinned (OpenSpec.ofChange journalSpoiltSpec)

/-- ITS FALSE NEIGHBOUR: 'it returns false'. Refute it at one input. -/
def journalSpoiltWrong : ChangeSpec := { name := "journalSpoilt", fn := fun _ => fun
  | [d1, d2, d3] => { results := [.lit (.bool false)], args := [d1, d2, d3] }
  | _ => none }
def JournalSpoiltWrongFalsely : Prop := journalSpoiltRow.holds Try.pinned (OpenSpec.ofChange journalSpoiltWrong)

/-- 'tokenhallkeep.MarkSums': WHATEVER THE INPUT: true; the input reads as it did. -/
def markSumsSpec : ChangeSpec := { name := "markSums", fn := fun _ => fun
  | [d1, d2, d3] => { results := [.lit (.bool true)], args := [d1, d2, d3] }
  | _ => none }
def markSumsRow : OpenClaim := { program := "ytkpbhkfpkoiilaa", sum := "c189f6d6147a8ec4ab39a0c7c1b1ef23191661ff322c4332a9a249712ebe2922", func := "tokenhall/tokenhallkeep.MarkSums", spec := "markSums", unfollowed := true, recurses := true, apart := false }
def MarkSumsSaid : Prop := markSumsRow.holds Try.pinned (OpenSpec.ofChange markSumsSpec)

/-- ITS FALSE NEIGHBOUR: 'it returns false'. Refute it at one input. -/
def markSumsWrong : ChangeSpec := { name := "markSums", fn := fun _ => fun
  | [d1, d2, d3] => { results := [.lit (.bool false)], args := [d1, d2, d3] }
  | _ => none }
def MarkSumsWrongFalsely : Prop := markSumsRow.holds Try.pinned (OpenSpec.ofChange markSumsWrong)

/-- 'tokenhallkeep.MarkOrder': WHATEVER THE INPUT: true; the input reads as it did. -/
def markOrderSpec : ChangeSpec := { name := "markOrder", fn := fun _ => fun
  | [d1, d2, d3] => { results := [.lit (.bool true)], args := [d1, d2, d3] }
  | _ => none }
def markOrderRow : OpenClaim := { program := "ytkpbhkfpkoiilaa", sum := "c189f6d6147a8ec4ab39a0c7c1b1ef23191661ff322c4332a9a249712ebe2922", func := "tokenhall/tokenhallkeep.MarkOrder", spec := "markOrder", unfollowed := true, recurses := true, apart := false }
def MarkOrderSaid : Prop := markOrderRow.holds Try.pinned (OpenSpec.ofChange markOrderSpec)

/-- ITS FALSE NEIGHBOUR: 'it returns false'. Refute it at one input. -/
def markOrderWrong : ChangeSpec := { name := "markOrder", fn := fun _ => fun
  | [d1, d2, d3] => { results := [.lit (.bool false)], args := [d1, d2, d3] }
  | _ => none }
def MarkOrderWrongFalsely : Prop := markOrderRow.holds Try.pinned (OpenSpec.ofChange markOrderWrong)

/-- 'tokenhallkeep.FlowSums': WHATEVER THE INPUT: true; the input reads as it did. -/
def flowSumsSpec : ChangeSpec := { name := "flowSums", fn := fun _ => fun
  | [d1, d2, d3] => { results := [.lit (.bool true)], args := [d1, d2, d3] }
  | _ => none }
def flowSumsRow : OpenClaim := { program := "ytkpbhkfpkoiilaa", sum := "c189f6d6147a8ec4ab39a0c7c1b1ef23191661ff322c4332a9a249712ebe2922", func := "tokenhall/tokenhallkeep.FlowSums", spec := "flowSums", unfollowed := true, recurses := true, apart := false }
def FlowSumsSaid : Prop := flowSumsRow.holds Try.pinned (OpenSpec.ofChange flowSumsSpec)

/-- ITS FALSE NEIGHBOUR: 'it returns false'. Refute it at one input. -/
def flowSumsWrong : ChangeSpec := { name := "flowSums", fn := fun _ => fun
  | [d1, d2, d3] => { results := [.lit (.bool false)], args := [d1, d2, d3] }
  | _ => none }
def FlowSumsWrongFalsely : Prop := flowSumsRow.holds Try.pinned (OpenSpec.ofChange flowSumsWrong)

/-- 'tokenhallkeep.NetMore': WHATEVER THE INPUT: true; the input reads as it did. -/
def netMoreSpec : ChangeSpec := { name := "netMore", fn := fun _ => fun
  | [d1, d2, d3, d4] => { results := [.lit (.bool true)], args := [d1, d2, d3, d4] }
  | _ => none }
def netMoreRow : OpenClaim := { program := "ytkpbhkfpkoiilaa", sum := "c189f6d6147a8ec4ab39a0c7c1b1ef23191661ff322c4332a9a249712ebe2922", func := "tokenhall/tokenhallkeep.NetMore", spec := "netMore", unfollowed := true, recurses := true, apart := false }
def NetMoreSaid : Prop := netMoreRow.holds Try.pinned (OpenSpec.ofChange netMoreSpec)

/-- ITS FALSE NEIGHBOUR: 'it returns false'. Refute it at one input. -/
def netMoreWrong : ChangeSpec := { name := "netMore", fn := fun _ => fun
  | [d1, d2, d3, d4] => { results := [.lit (.bool false)], args := [d1, d2, d3, d4] }
  | _ => none }
def NetMoreWrongFalsely : Prop := netMoreRow.holds Try.pinned (OpenSpec.ofChange netMoreWrong)

/-- 'tokenhallkeep.NetSwap': WHATEVER THE INPUT: true; the input reads as it did. -/
def netSwapSpec : ChangeSpec := { name := "netSwap", fn := fun _ => fun
  | [d1, d2, d3, d4] => { results := [.lit (.bool true)], args := [d1, d2, d3, d4] }
  | _ => none }
def netSwapRow : OpenClaim := { program := "ytkpbhkfpkoiilaa", sum := "c189f6d6147a8ec4ab39a0c7c1b1ef23191661ff322c4332a9a249712ebe2922", func := "tokenhall/tokenhallkeep.NetSwap", spec := "netSwap", unfollowed := true, recurses := true, apart := false }
def NetSwapSaid : Prop := netSwapRow.holds Try.pinned (OpenSpec.ofChange netSwapSpec)

/-- ITS FALSE NEIGHBOUR: 'it returns false'. Refute it at one input. -/
def netSwapWrong : ChangeSpec := { name := "netSwap", fn := fun _ => fun
  | [d1, d2, d3, d4] => { results := [.lit (.bool false)], args := [d1, d2, d3, d4] }
  | _ => none }
def NetSwapWrongFalsely : Prop := netSwapRow.holds Try.pinned (OpenSpec.ofChange netSwapWrong)

/-- 'tokenhallkeep.NetBack': WHATEVER THE INPUT: true; the input reads as it did. -/
def netBackSpec : ChangeSpec := { name := "netBack", fn := fun _ => fun
  | [d1, d2, d3] => { results := [.lit (.bool true)], args := [d1, d2, d3] }
  | _ => none }
def netBackRow : OpenClaim := { program := "ytkpbhkfpkoiilaa", sum := "c189f6d6147a8ec4ab39a0c7c1b1ef23191661ff322c4332a9a249712ebe2922", func := "tokenhall/tokenhallkeep.NetBack", spec := "netBack", unfollowed := true, recurses := true, apart := false }
def NetBackSaid : Prop := netBackRow.holds Try.pinned (OpenSpec.ofChange netBackSpec)

/-- ITS FALSE NEIGHBOUR: 'it returns false'. Refute it at one input. -/
def netBackWrong : ChangeSpec := { name := "netBack", fn := fun _ => fun
  | [d1, d2, d3] => { results := [.lit (.bool false)], args := [d1, d2, d3] }
  | _ => none }
def NetBackWrongFalsely : Prop := netBackRow.holds Try.pinned (OpenSpec.ofChange netBackWrong)

/-- 'tokenhallkeep.FlowEquation': WHATEVER THE INPUT: true; the input reads as it did. -/
def flowEquationSpec : ChangeSpec := { name := "flowEquation", fn := fun _ => fun
  | [d1, d2, d3] => { results := [.lit (.bool true)], args := [d1, d2, d3] }
  | _ => none }
def flowEquationRow : OpenClaim := { program := "ytkpbhkfpkoiilaa", sum := "c189f6d6147a8ec4ab39a0c7c1b1ef23191661ff322c4332a9a249712ebe2922", func := "tokenhall/tokenhallkeep.FlowEquation", spec := "flowEquation", unfollowed := true, recurses := true, apart := false }
def FlowEquationSaid : Prop := flowEquationRow.holds Try.pinned (OpenSpec.ofChange flowEquationSpec)

/-- ITS FALSE NEIGHBOUR: 'it returns false'. Refute it at one input. -/
def flowEquationWrong : ChangeSpec := { name := "flowEquation", fn := fun _ => fun
  | [d1, d2, d3] => { results := [.lit (.bool false)], args := [d1, d2, d3] }
  | _ => none }
def FlowEquationWrongFalsely : Prop := flowEquationRow.holds Try.pinned (OpenSpec.ofChange flowEquationWrong)

/-- 'tokenhallkeep.FlowKept': WHATEVER THE INPUT: true; the input reads as it did. -/
def flowKeptSpec : ChangeSpec := { name := "flowKept", fn := fun _ => fun
  | [d1, d2, d3, d4] => { results := [.lit (.bool true)], args := [d1, d2, d3, d4] }
  | _ => none }
def flowKeptRow : OpenClaim := { program := "ytkpbhkfpkoiilaa", sum := "c189f6d6147a8ec4ab39a0c7c1b1ef23191661ff322c4332a9a249712ebe2922", func := "tokenhall/tokenhallkeep.FlowKept", spec := "flowKept", unfollowed := true, recurses := true, apart := false }
def FlowKeptSaid : Prop := flowKeptRow.holds Try.pinned (OpenSpec.ofChange flowKeptSpec)

/-- ITS FALSE NEIGHBOUR: 'it returns false'. Refute it at one input. -/
def flowKeptWrong : ChangeSpec := { name := "flowKept", fn := fun _ => fun
  | [d1, d2, d3, d4] => { results := [.lit (.bool false)], args := [d1, d2, d3, d4] }
  | _ => none }
def FlowKeptWrongFalsely : Prop := flowKeptRow.holds Try.pinned (OpenSpec.ofChange flowKeptWrong)

/-- 'tokenhallkeep.FlowBound': WHATEVER THE INPUT: true; the input reads as it did. -/
def flowBoundSpec : ChangeSpec := { name := "flowBound", fn := fun _ => fun
  | [d1, d2, d3, d4, d5] => { results := [.lit (.bool true)], args := [d1, d2, d3, d4, d5] }
  | _ => none }
def flowBoundRow : OpenClaim := { program := "ytkpbhkfpkoiilaa", sum := "c189f6d6147a8ec4ab39a0c7c1b1ef23191661ff322c4332a9a249712ebe2922", func := "tokenhall/tokenhallkeep.FlowBound", spec := "flowBound", unfollowed := true, recurses := true, apart := false }
def FlowBoundSaid : Prop := flowBoundRow.holds Try.pinned (OpenSpec.ofChange flowBoundSpec)

/-- ITS FALSE NEIGHBOUR: 'it returns false'. Refute it at one input. -/
def flowBoundWrong : ChangeSpec := { name := "flowBound", fn := fun _ => fun
  | [d1, d2, d3, d4, d5] => { results := [.lit (.bool false)], args := [d1, d2, d3, d4, d5] }
  | _ => none }
def FlowBoundWrongFalsely : Prop := flowBoundRow.holds Try.pinned (OpenSpec.ofChange flowBoundWrong)

/-- 'tokenhallkeep.FlowRound': WHATEVER THE INPUT: true; the input reads as it did. -/
def flowRoundSpec : ChangeSpec := { name := "flowRound", fn := fun _ => fun
  | [d1, d2, d3] => { results := [.lit (.bool true)], args := [d1, d2, d3] }
  | _ => none }
def flowRoundRow : OpenClaim := { program := "ytkpbhkfpkoiilaa", sum := "c189f6d6147a8ec4ab39a0c7c1b1ef23191661ff322c4332a9a249712ebe2922", func := "tokenhall/tokenhallkeep.FlowRound", spec := "flowRound", unfollowed := true, recurses := true, apart := false }
def FlowRoundSaid : Prop := flowRoundRow.holds Try.pinned (OpenSpec.ofChange flowRoundSpec)

/-- ITS FALSE NEIGHBOUR: 'it returns false'. Refute it at one input. -/
def flowRoundWrong : ChangeSpec := { name := "flowRound", fn := fun _ => fun
  | [d1, d2, d3] => { results := [.lit (.bool false)], args := [d1, d2, d3] }
  | _ => none }
def FlowRoundWrongFalsely : Prop := flowRoundRow.holds Try.pinned (OpenSpec.ofChange flowRoundWrong)

/-- 'tokenhallkeep.NetParts': WHATEVER THE INPUT: true; the input reads as it did. -/
def netPartsSpec : ChangeSpec := { name := "netParts", fn := fun _ => fun
  | [d1, d2, d3, d4, d5] => { results := [.lit (.bool true)], args := [d1, d2, d3, d4, d5] }
  | _ => none }
def netPartsRow : OpenClaim := { program := "ytkpbhkfpkoiilaa", sum := "c189f6d6147a8ec4ab39a0c7c1b1ef23191661ff322c4332a9a249712ebe2922", func := "tokenhall/tokenhallkeep.NetParts", spec := "netParts", unfollowed := true, recurses := true, apart := false }
def NetPartsSaid : Prop := netPartsRow.holds Try.pinned (OpenSpec.ofChange netPartsSpec)

/-- ITS FALSE NEIGHBOUR: 'it returns false'. Refute it at one input. -/
def netPartsWrong : ChangeSpec := { name := "netParts", fn := fun _ => fun
  | [d1, d2, d3, d4, d5] => { results := [.lit (.bool false)], args := [d1, d2, d3, d4, d5] }
  | _ => none }
def NetPartsWrongFalsely : Prop := netPartsRow.holds Try.pinned (OpenSpec.ofChange netPartsWrong)

/- THE SECOND FORM. 'bulk': how many values and letters a reading holds, each counted each time it is reached (what is shared counts as often as it is met; a slice's spare places count too). A statement '..UptoSaid' is the law's where the arguments, and the package variables that the reading takes, are together of bulk at most 1048576: NARROWER than '..Said'. Prove '..Said' where nothing that the law and all that it calls make is longer than what came in: it says more and counts as full. Else prove '..UptoSaid'. A law counts once. -/
mutual
def uptoBulk {H : Type} : DataW H → Nat
  | .lit (.string bytes) => bytes.length + 1
  | .lit _ => 1
  | .nil => 1
  | .ptr d => uptoBulk d + 1
  | .slice elems spare => uptoBulkAll elems + uptoBulkAll spare + 1
  | .agg parts => uptoBulkAll parts + 1
  | .iface _ d => uptoBulk d + 1
  | .map entries => uptoBulkEntries entries + 1
  | .held _ => 1
def uptoBulkAll {H : Type} : List (DataW H) → Nat
  | [] => 0
  | d :: r => uptoBulk d + uptoBulkAll r
def uptoBulkEntries {H : Type} : List (Lit × DataW H) → Nat
  | [] => 0
  | x :: r => uptoBulkEntry x + uptoBulkEntries r
def uptoBulkEntry {H : Type} : Lit × DataW H → Nat
  | (.string bytes, d) => bytes.length + uptoBulk d + 1
  | (_, d) => uptoBulk d + 1
 end
def uptoSmall : (H : Type) → List (DataW H) → Bool := fun _ ds => decide (uptoBulkAll ds ≤ 1048576)
def OpenSpec.upto (s : _root_.Go.ChangeSpec) : _root_.Go.OpenSpec := { _root_.Go.OpenSpec.ofChange s with cond := some uptoSmall }

/-- 'tokenhallkeep.JournalOnly', WHERE WHAT IT READS IS OF BULK AT MOST 1048576: true; the input reads as it did. -/
def journalOnlyUptoRow : OpenClaim := { program := "ytkpbhkfpkoiilaa", sum := "c189f6d6147a8ec4ab39a0c7c1b1ef23191661ff322c4332a9a249712ebe2922", func := "tokenhall/tokenhallkeep.JournalOnly", spec := "journalOnly", apart := false, narrowed := true }
def JournalOnlyUptoSaid : Prop := journalOnlyUptoRow.holds Try.pinned (OpenSpec.upto journalOnlySpec)

/-- 'tokenhallkeep.JournalBack', WHERE WHAT IT READS IS OF BULK AT MOST 1048576: true; the input reads as it did. -/
def journalBackUptoRow : OpenClaim := { program := "ytkpbhkfpkoiilaa", sum := "c189f6d6147a8ec4ab39a0c7c1b1ef23191661ff322c4332a9a249712ebe2922", func := "tokenhall/tokenhallkeep.JournalBack", spec := "journalBack", apart := false, narrowed := true }
def JournalBackUptoSaid : Prop := journalBackUptoRow.holds Try.pinned (OpenSpec.upto journalBackSpec)

/-- 'tokenhallkeep.JournalSpoilt', WHERE WHAT IT READS IS OF BULK AT MOST 1048576: true; the input reads as it did. -/
def journalSpoiltUptoRow : OpenClaim := { program := "ytkpbhkfpkoiilaa", sum := "c189f6d6147a8ec4ab39a0c7c1b1ef23191661ff322c4332a9a249712ebe2922", func := "tokenhall/tokenhallkeep.JournalSpoilt", spec := "journalSpoilt", apart := false, narrowed := true }
def JournalSpoiltUptoSaid : Prop := journalSpoiltUptoRow.holds Try.pinned (OpenSpec.upto journalSpoiltSpec)

/-- 'tokenhallkeep.MarkSums', WHERE WHAT IT READS IS OF BULK AT MOST 1048576: true; the input reads as it did. -/
def markSumsUptoRow : OpenClaim := { program := "ytkpbhkfpkoiilaa", sum := "c189f6d6147a8ec4ab39a0c7c1b1ef23191661ff322c4332a9a249712ebe2922", func := "tokenhall/tokenhallkeep.MarkSums", spec := "markSums", unfollowed := true, recurses := true, apart := false, narrowed := true }
def MarkSumsUptoSaid : Prop := markSumsUptoRow.holds Try.pinned (OpenSpec.upto markSumsSpec)

/-- 'tokenhallkeep.MarkOrder', WHERE WHAT IT READS IS OF BULK AT MOST 1048576: true; the input reads as it did. -/
def markOrderUptoRow : OpenClaim := { program := "ytkpbhkfpkoiilaa", sum := "c189f6d6147a8ec4ab39a0c7c1b1ef23191661ff322c4332a9a249712ebe2922", func := "tokenhall/tokenhallkeep.MarkOrder", spec := "markOrder", unfollowed := true, recurses := true, apart := false, narrowed := true }
def MarkOrderUptoSaid : Prop := markOrderUptoRow.holds Try.pinned (OpenSpec.upto markOrderSpec)

/-- 'tokenhallkeep.FlowSums', WHERE WHAT IT READS IS OF BULK AT MOST 1048576: true; the input reads as it did. -/
def flowSumsUptoRow : OpenClaim := { program := "ytkpbhkfpkoiilaa", sum := "c189f6d6147a8ec4ab39a0c7c1b1ef23191661ff322c4332a9a249712ebe2922", func := "tokenhall/tokenhallkeep.FlowSums", spec := "flowSums", unfollowed := true, recurses := true, apart := false, narrowed := true }
def FlowSumsUptoSaid : Prop := flowSumsUptoRow.holds Try.pinned (OpenSpec.upto flowSumsSpec)

/-- 'tokenhallkeep.NetMore', WHERE WHAT IT READS IS OF BULK AT MOST 1048576: true; the input reads as it did. -/
def netMoreUptoRow : OpenClaim := { program := "ytkpbhkfpkoiilaa", sum := "c189f6d6147a8ec4ab39a0c7c1b1ef23191661ff322c4332a9a249712ebe2922", func := "tokenhall/tokenhallkeep.NetMore", spec := "netMore", unfollowed := true, recurses := true, apart := false, narrowed := true }
def NetMoreUptoSaid : Prop := netMoreUptoRow.holds Try.pinned (OpenSpec.upto netMoreSpec)

/-- 'tokenhallkeep.NetSwap', WHERE WHAT IT READS IS OF BULK AT MOST 1048576: true; the input reads as it did. -/
def netSwapUptoRow : OpenClaim := { program := "ytkpbhkfpkoiilaa", sum := "c189f6d6147a8ec4ab39a0c7c1b1ef23191661ff322c4332a9a249712ebe2922", func := "tokenhall/tokenhallkeep.NetSwap", spec := "netSwap", unfollowed := true, recurses := true, apart := false, narrowed := true }
def NetSwapUptoSaid : Prop := netSwapUptoRow.holds Try.pinned (OpenSpec.upto netSwapSpec)

/-- 'tokenhallkeep.NetBack', WHERE WHAT IT READS IS OF BULK AT MOST 1048576: true; the input reads as it did. -/
def netBackUptoRow : OpenClaim := { program := "ytkpbhkfpkoiilaa", sum := "c189f6d6147a8ec4ab39a0c7c1b1ef23191661ff322c4332a9a249712ebe2922", func := "tokenhall/tokenhallkeep.NetBack", spec := "netBack", unfollowed := true, recurses := true, apart := false, narrowed := true }
def NetBackUptoSaid : Prop := netBackUptoRow.holds Try.pinned (OpenSpec.upto netBackSpec)

/-- 'tokenhallkeep.FlowEquation', WHERE WHAT IT READS IS OF BULK AT MOST 1048576: true; the input reads as it did. -/
def flowEquationUptoRow : OpenClaim := { program := "ytkpbhkfpkoiilaa", sum := "c189f6d6147a8ec4ab39a0c7c1b1ef23191661ff322c4332a9a249712ebe2922", func := "tokenhall/tokenhallkeep.FlowEquation", spec := "flowEquation", unfollowed := true, recurses := true, apart := false, narrowed := true }
def FlowEquationUptoSaid : Prop := flowEquationUptoRow.holds Try.pinned (OpenSpec.upto flowEquationSpec)

/-- 'tokenhallkeep.FlowKept', WHERE WHAT IT READS IS OF BULK AT MOST 1048576: true; the input reads as it did. -/
def flowKeptUptoRow : OpenClaim := { program := "ytkpbhkfpkoiilaa", sum := "c189f6d6147a8ec4ab39a0c7c1b1ef23191661ff322c4332a9a249712ebe2922", func := "tokenhall/tokenhallkeep.FlowKept", spec := "flowKept", unfollowed := true, recurses := true, apart := false, narrowed := true }
def FlowKeptUptoSaid : Prop := flowKeptUptoRow.holds Try.pinned (OpenSpec.upto flowKeptSpec)

/-- 'tokenhallkeep.FlowBound', WHERE WHAT IT READS IS OF BULK AT MOST 1048576: true; the input reads as it did. -/
def flowBoundUptoRow : OpenClaim := { program := "ytkpbhkfpkoiilaa", sum := "c189f6d6147a8ec4ab39a0c7c1b1ef23191661ff322c4332a9a249712ebe2922", func := "tokenhall/tokenhallkeep.FlowBound", spec := "flowBound", unfollowed := true, recurses := true, apart := false, narrowed := true }
def FlowBoundUptoSaid : Prop := flowBoundUptoRow.holds Try.pinned (OpenSpec.upto flowBoundSpec)

/-- 'tokenhallkeep.FlowRound', WHERE WHAT IT READS IS OF BULK AT MOST 1048576: true; the input reads as it did. -/
def flowRoundUptoRow : OpenClaim := { program := "ytkpbhkfpkoiilaa", sum := "c189f6d6147a8ec4ab39a0c7c1b1ef23191661ff322c4332a9a249712ebe2922", func := "tokenhall/tokenhallkeep.FlowRound", spec := "flowRound", unfollowed := true, recurses := true, apart := false, narrowed := true }
def FlowRoundUptoSaid : Prop := flowRoundUptoRow.holds Try.pinned (OpenSpec.upto flowRoundSpec)

/-- 'tokenhallkeep.NetParts', WHERE WHAT IT READS IS OF BULK AT MOST 1048576: true; the input reads as it did. -/
def netPartsUptoRow : OpenClaim := { program := "ytkpbhkfpkoiilaa", sum := "c189f6d6147a8ec4ab39a0c7c1b1ef23191661ff322c4332a9a249712ebe2922", func := "tokenhall/tokenhallkeep.NetParts", spec := "netParts", unfollowed := true, recurses := true, apart := false, narrowed := true }
def NetPartsUptoSaid : Prop := netPartsUptoRow.holds Try.pinned (OpenSpec.upto netPartsSpec)

end Rows
end Go.Proofs.Ytkpbhkfpkoiilaa
