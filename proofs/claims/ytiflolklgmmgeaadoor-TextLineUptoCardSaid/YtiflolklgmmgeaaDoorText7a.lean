import Derived.Test.YtiflolklgmmgeaaDoorTextLaw3
namespace Go.Tok
open Go.RowKit
def textA : List UInt8 := [110, 101, 116, 32, 51, 10, 98, 32, 58, 32, 48, 32, 50, 42, 50, 32, 62, 32, 49, 10, 45, 32, 58, 32, 62, 32, 48, 10]
def textB : List UInt8 := [110, 101, 116, 32, 51, 10, 98, 32, 58, 32, 48, 32, 50, 42, 50, 32, 62, 32, 51, 10]
def netA : NetD := ⟨3, [⟨2, [1, 0, 2], [0, 1, 0]⟩, ⟨0, [0, 0, 0], [1, 0, 0]⟩]⟩
theorem parseB : parseF textB = (⟨0, []⟩, 1, 1) := by decide +kernel
theorem printA : printF netA = (textA, 0) := by decide +kernel
theorem parseA : parseF textA = (netA, 0, 0) := by decide +kernel
end Go.Tok
