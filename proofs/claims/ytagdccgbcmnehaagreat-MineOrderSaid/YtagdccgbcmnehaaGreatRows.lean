/-
  NARROWER THAN 'FOR EVERY INPUT', by the rows' own cells (each row's printed sentence says how): BenchOne: loops.
  DERIVED. THE GIVEN ROWS OF THIS SEAT. 6 by the template 'for every input the law returns true; each argument reads behind the call as it read before'; 0 by the template 'total and deterministic' (their statements: YtagdccgbcmnehaaGreatTotals.lean).
  GIVEN WITH THE SEED: the statements are not yours to turn. If you find one false, say at which input.
  Laid BY PROGRAM, IN A SANDBOX (cutbox-rows.mjs): the forced cells as the released guide's own fill.sh prints them over the translation e5ecd1acf6cef83a… (all of the seat's roots in one cut). By AI agents, Wed Nov 11 2026. No macro, syntax, notation, axiom, sorry.
-/
import Derived.Test.YtagdccgbcmnehaaGreatChecked
import GoSem.Claim
import GoSem.ClaimJoined
import GoSem.ClaimMapViews
import Derived.JoinedTies
import Derived.KernelRfl
namespace Go.Proofs.YtagdccgbcmnehaaGreat
/- THE CELL 'sum', in the pinned program and in every row, IS THE sha256 OF THE DUMP (.gsa) THAT YtagdccgbcmnehaaGreatProg.lean LOADS. Nothing in Lean hashes anything: it is a label: what it is worth is what the hold of that sum in a sandbox is worth. -/
noncomputable def Tryz.pinned : Pinned := { name := "ytagdccgbcmnehaagreat", sum := "e5ecd1acf6cef83ac947a3cc34ff54c5afba9d54ccd243117ef6d97bfd2f8117", checked := Tryz.checked }
namespace Rows
def none {H : Type} : Left H := { results := [], args := [] }

/-- 'tokenhalltop.TopFound': WHATEVER THE INPUT: true; the input reads as it did. -/
def topFoundSpec : ChangeSpec := { name := "topFound", fn := fun _ => fun
  | [d] => { results := [.lit (.bool true)], args := [d] }
  | _ => none }
def topFoundRow : OpenClaim := { program := "ytagdccgbcmnehaagreat", sum := "e5ecd1acf6cef83ac947a3cc34ff54c5afba9d54ccd243117ef6d97bfd2f8117", func := "tokenhall/tokenhalltop.TopFound", spec := "topFound", inPlace := ["internal/bytealg.IndexByteString", "internal/bytealg.IndexString", "internal/abi.NoEscape", "internal/bytealg.MakeNoZero"], unfollowed := true, recurses := true, named := ["internal/bytealg.MaxLen"], plainKeys := false, apart := false }
def TopFoundSaid : Prop := topFoundRow.holds Tryz.pinned (OpenSpec.ofChange topFoundSpec)

/-- ITS FALSE NEIGHBOUR: 'it returns false'. Refute it at one input. -/
def topFoundWrong : ChangeSpec := { name := "topFound", fn := fun _ => fun
  | [d] => { results := [.lit (.bool false)], args := [d] }
  | _ => none }
def TopFoundWrongFalsely : Prop := topFoundRow.holds Tryz.pinned (OpenSpec.ofChange topFoundWrong)

/-- 'tokenhalltop.TopEnd': WHATEVER THE INPUT: true; the input reads as it did. -/
def topEndSpec : ChangeSpec := { name := "topEnd", fn := fun _ => fun
  | [d1, d2, d3, d4, d5] => { results := [.lit (.bool true)], args := [d1, d2, d3, d4, d5] }
  | _ => none }
def topEndRow : OpenClaim := { program := "ytagdccgbcmnehaagreat", sum := "e5ecd1acf6cef83ac947a3cc34ff54c5afba9d54ccd243117ef6d97bfd2f8117", func := "tokenhall/tokenhalltop.TopEnd", spec := "topEnd", inPlace := ["internal/bytealg.IndexByteString", "internal/bytealg.IndexString", "internal/abi.NoEscape", "internal/bytealg.MakeNoZero"], unfollowed := true, recurses := true, named := ["internal/bytealg.MaxLen"], plainKeys := false, apart := false }
def TopEndSaid : Prop := topEndRow.holds Tryz.pinned (OpenSpec.ofChange topEndSpec)

/-- ITS FALSE NEIGHBOUR: 'it returns false'. Refute it at one input. -/
def topEndWrong : ChangeSpec := { name := "topEnd", fn := fun _ => fun
  | [d1, d2, d3, d4, d5] => { results := [.lit (.bool false)], args := [d1, d2, d3, d4, d5] }
  | _ => none }
def TopEndWrongFalsely : Prop := topEndRow.holds Tryz.pinned (OpenSpec.ofChange topEndWrong)

/-- 'tokenhallkeep.MineOnce': WHATEVER THE INPUT: true; the input reads as it did. -/
def mineOnceSpec : ChangeSpec := { name := "mineOnce", fn := fun _ => fun
  | [d] => { results := [.lit (.bool true)], args := [d] }
  | _ => none }
def mineOnceRow : OpenClaim := { program := "ytagdccgbcmnehaagreat", sum := "e5ecd1acf6cef83ac947a3cc34ff54c5afba9d54ccd243117ef6d97bfd2f8117", func := "tokenhall/tokenhallkeep.MineOnce", spec := "mineOnce", unfollowed := true, recurses := true, plainKeys := false, apart := false }
def MineOnceSaid : Prop := mineOnceRow.holds Tryz.pinned (OpenSpec.ofChange mineOnceSpec)

/-- ITS FALSE NEIGHBOUR: 'it returns false'. Refute it at one input. -/
def mineOnceWrong : ChangeSpec := { name := "mineOnce", fn := fun _ => fun
  | [d] => { results := [.lit (.bool false)], args := [d] }
  | _ => none }
def MineOnceWrongFalsely : Prop := mineOnceRow.holds Tryz.pinned (OpenSpec.ofChange mineOnceWrong)

/-- 'tokenhallkeep.MineOrder': WHATEVER THE INPUT: true; the input reads as it did. -/
def mineOrderSpec : ChangeSpec := { name := "mineOrder", fn := fun _ => fun
  | [d] => { results := [.lit (.bool true)], args := [d] }
  | _ => none }
def mineOrderRow : OpenClaim := { program := "ytagdccgbcmnehaagreat", sum := "e5ecd1acf6cef83ac947a3cc34ff54c5afba9d54ccd243117ef6d97bfd2f8117", func := "tokenhall/tokenhallkeep.MineOrder", spec := "mineOrder", unfollowed := true, recurses := true, plainKeys := false, apart := false }
def MineOrderSaid : Prop := mineOrderRow.holds Tryz.pinned (OpenSpec.ofChange mineOrderSpec)

/-- ITS FALSE NEIGHBOUR: 'it returns false'. Refute it at one input. -/
def mineOrderWrong : ChangeSpec := { name := "mineOrder", fn := fun _ => fun
  | [d] => { results := [.lit (.bool false)], args := [d] }
  | _ => none }
def MineOrderWrongFalsely : Prop := mineOrderRow.holds Tryz.pinned (OpenSpec.ofChange mineOrderWrong)

/-- 'tokenhallkeep.BenchOne': WHATEVER THE INPUT: true; the input reads as it did. -/
def benchOneSpec : ChangeSpec := { name := "benchOne", fn := fun _ => fun
  | [d1, d2] => { results := [.lit (.bool true)], args := [d1, d2] }
  | _ => none }
def benchOneRow : OpenClaim := { program := "ytagdccgbcmnehaagreat", sum := "e5ecd1acf6cef83ac947a3cc34ff54c5afba9d54ccd243117ef6d97bfd2f8117", func := "tokenhall/tokenhallkeep.BenchOne", spec := "benchOne", inPlace := ["internal/bytealg.IndexByteString", "internal/bytealg.IndexString", "internal/abi.NoEscape", "internal/bytealg.MakeNoZero"], unfollowed := true, recurses := true, named := ["internal/bytealg.MaxLen"], loops := true, plainKeys := false, apart := false }
def BenchOneSaid : Prop := benchOneRow.holds Tryz.pinned (OpenSpec.ofChange benchOneSpec)

/-- ITS FALSE NEIGHBOUR: 'it returns false'. Refute it at one input. -/
def benchOneWrong : ChangeSpec := { name := "benchOne", fn := fun _ => fun
  | [d1, d2] => { results := [.lit (.bool false)], args := [d1, d2] }
  | _ => none }
def BenchOneWrongFalsely : Prop := benchOneRow.holds Tryz.pinned (OpenSpec.ofChange benchOneWrong)

/-- 'tokenhallkeep.BenchLog': WHATEVER THE INPUT: true; the input reads as it did. -/
def benchLogSpec : ChangeSpec := { name := "benchLog", fn := fun _ => fun
  | [d1, d2] => { results := [.lit (.bool true)], args := [d1, d2] }
  | _ => none }
def benchLogRow : OpenClaim := { program := "ytagdccgbcmnehaagreat", sum := "e5ecd1acf6cef83ac947a3cc34ff54c5afba9d54ccd243117ef6d97bfd2f8117", func := "tokenhall/tokenhallkeep.BenchLog", spec := "benchLog", inPlace := ["internal/bytealg.IndexByteString", "internal/bytealg.IndexString", "internal/abi.NoEscape", "internal/bytealg.MakeNoZero", "internal/bytealg.CountString"], unfollowed := true, recurses := true, named := ["internal/bytealg.MaxLen"], plainKeys := false, apart := false }
def BenchLogSaid : Prop := benchLogRow.holds Tryz.pinned (OpenSpec.ofChange benchLogSpec)

/-- ITS FALSE NEIGHBOUR: 'it returns false'. Refute it at one input. -/
def benchLogWrong : ChangeSpec := { name := "benchLog", fn := fun _ => fun
  | [d1, d2] => { results := [.lit (.bool false)], args := [d1, d2] }
  | _ => none }
def BenchLogWrongFalsely : Prop := benchLogRow.holds Tryz.pinned (OpenSpec.ofChange benchLogWrong)

/- THE SECOND FORM. 'bulk': how many values and letters a reading holds, each counted each time it is reached (what is shared counts as often as it is met; a slice's spare places count too). A statement '..UptoSaid' is the law's where the arguments, and the package variables that the reading takes, are together of bulk at most 1048576: NARROWER than '..Said'. Prove '..Said' where nothing that the law and all that it calls make is longer than what came in: it says more and counts as full. Else prove '..UptoSaid'. A law counts once. -/
mutual
def uptoBulk {H : Type} : DataW H → Nat
  | .lit (.string bytes) => bytes.length + 1
  | .lit _ => 1
  | .nil => 1
  | .ptr d => uptoBulk d + 1
  | .slice elems spare => uptoBulkAll elems + uptoBulkAll spare + 1
  | .agg parts => uptoBulkAll parts + 1
  | .iface _ d => uptoBulk d + 1
  | .map entries => uptoBulkEntries entries + 1
  | .held _ => 1
def uptoBulkAll {H : Type} : List (DataW H) → Nat
  | [] => 0
  | d :: r => uptoBulk d + uptoBulkAll r
def uptoBulkEntries {H : Type} : List (Lit × DataW H) → Nat
  | [] => 0
  | x :: r => uptoBulkEntry x + uptoBulkEntries r
def uptoBulkEntry {H : Type} : Lit × DataW H → Nat
  | (.string bytes, d) => bytes.length + uptoBulk d + 1
  | (_, d) => uptoBulk d + 1
 end
def uptoSmall : (H : Type) → List (DataW H) → Bool := fun _ ds => decide (uptoBulkAll ds ≤ 1048576)
def OpenSpec.upto (s : _root_.Go.ChangeSpec) : _root_.Go.OpenSpec := { _root_.Go.OpenSpec.ofChange s with cond := some uptoSmall }

/-- 'tokenhalltop.TopFound', WHERE WHAT IT READS IS OF BULK AT MOST 1048576: true; the input reads as it did. -/
def topFoundUptoRow : OpenClaim := { program := "ytagdccgbcmnehaagreat", sum := "e5ecd1acf6cef83ac947a3cc34ff54c5afba9d54ccd243117ef6d97bfd2f8117", func := "tokenhall/tokenhalltop.TopFound", spec := "topFound", inPlace := ["internal/bytealg.IndexByteString", "internal/bytealg.IndexString", "internal/abi.NoEscape", "internal/bytealg.MakeNoZero"], unfollowed := true, recurses := true, named := ["internal/bytealg.MaxLen"], plainKeys := false, apart := false, narrowed := true }
def TopFoundUptoSaid : Prop := topFoundUptoRow.holds Tryz.pinned (OpenSpec.upto topFoundSpec)

/-- 'tokenhalltop.TopEnd', WHERE WHAT IT READS IS OF BULK AT MOST 1048576: true; the input reads as it did. -/
def topEndUptoRow : OpenClaim := { program := "ytagdccgbcmnehaagreat", sum := "e5ecd1acf6cef83ac947a3cc34ff54c5afba9d54ccd243117ef6d97bfd2f8117", func := "tokenhall/tokenhalltop.TopEnd", spec := "topEnd", inPlace := ["internal/bytealg.IndexByteString", "internal/bytealg.IndexString", "internal/abi.NoEscape", "internal/bytealg.MakeNoZero"], unfollowed := true, recurses := true, named := ["internal/bytealg.MaxLen"], plainKeys := false, apart := false, narrowed := true }
def TopEndUptoSaid : Prop := topEndUptoRow.holds Tryz.pinned (OpenSpec.upto topEndSpec)

/-- 'tokenhallkeep.MineOnce', WHERE WHAT IT READS IS OF BULK AT MOST 1048576: true; the input reads as it did. -/
def mineOnceUptoRow : OpenClaim := { program := "ytagdccgbcmnehaagreat", sum := "e5ecd1acf6cef83ac947a3cc34ff54c5afba9d54ccd243117ef6d97bfd2f8117", func := "tokenhall/tokenhallkeep.MineOnce", spec := "mineOnce", unfollowed := true, recurses := true, plainKeys := false, apart := false, narrowed := true }
def MineOnceUptoSaid : Prop := mineOnceUptoRow.holds Tryz.pinned (OpenSpec.upto mineOnceSpec)

/-- 'tokenhallkeep.MineOrder', WHERE WHAT IT READS IS OF BULK AT MOST 1048576: true; the input reads as it did. -/
def mineOrderUptoRow : OpenClaim := { program := "ytagdccgbcmnehaagreat", sum := "e5ecd1acf6cef83ac947a3cc34ff54c5afba9d54ccd243117ef6d97bfd2f8117", func := "tokenhall/tokenhallkeep.MineOrder", spec := "mineOrder", unfollowed := true, recurses := true, plainKeys := false, apart := false, narrowed := true }
def MineOrderUptoSaid : Prop := mineOrderUptoRow.holds Tryz.pinned (OpenSpec.upto mineOrderSpec)

/-- 'tokenhallkeep.BenchOne', WHERE WHAT IT READS IS OF BULK AT MOST 1048576: true; the input reads as it did. -/
def benchOneUptoRow : OpenClaim := { program := "ytagdccgbcmnehaagreat", sum := "e5ecd1acf6cef83ac947a3cc34ff54c5afba9d54ccd243117ef6d97bfd2f8117", func := "tokenhall/tokenhallkeep.BenchOne", spec := "benchOne", inPlace := ["internal/bytealg.IndexByteString", "internal/bytealg.IndexString", "internal/abi.NoEscape", "internal/bytealg.MakeNoZero"], unfollowed := true, recurses := true, named := ["internal/bytealg.MaxLen"], loops := true, plainKeys := false, apart := false, narrowed := true }
def BenchOneUptoSaid : Prop := benchOneUptoRow.holds Tryz.pinned (OpenSpec.upto benchOneSpec)

/-- 'tokenhallkeep.BenchLog', WHERE WHAT IT READS IS OF BULK AT MOST 1048576: true; the input reads as it did. -/
def benchLogUptoRow : OpenClaim := { program := "ytagdccgbcmnehaagreat", sum := "e5ecd1acf6cef83ac947a3cc34ff54c5afba9d54ccd243117ef6d97bfd2f8117", func := "tokenhall/tokenhallkeep.BenchLog", spec := "benchLog", inPlace := ["internal/bytealg.IndexByteString", "internal/bytealg.IndexString", "internal/abi.NoEscape", "internal/bytealg.MakeNoZero", "internal/bytealg.CountString"], unfollowed := true, recurses := true, named := ["internal/bytealg.MaxLen"], plainKeys := false, apart := false, narrowed := true }
def BenchLogUptoSaid : Prop := benchLogUptoRow.holds Tryz.pinned (OpenSpec.upto benchLogSpec)

end Rows
end Go.Proofs.YtagdccgbcmnehaaGreat
