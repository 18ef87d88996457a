/- Bytes turned into a string. No program is in sight here. -/
import Derived.Test.YtkpbhkfpkoiilaaJourLaw
import Derived.Laws.BytesArg
namespace Go.Tok
open Go.RowKit
set_option linter.unusedVariables false

/-- the string of bytes -/
def strOf (xs : List Nat) : ByteArray := strOfNums (xs.map fun (x : Nat) => (x : Int))
theorem Rd.str {P : Program} {w : World} {a : Option Addr} {n cap : Nat} {xs : List Nat} (h : Rd byteK w (.slice a n cap) xs) {src e : TypeId} (hs : P.underlying src = some (.slice e)) (he : P.underlying e = some (.int .u8)) {dst : TypeId} (hd : P.underlying dst = some .string) :
    (convert src dst (.slice a n cap)).run P w = .ok (.string (strOf xs)) w := by
  rcases h.form with ⟨h1, rfl⟩ | ⟨ad, cap', h1, _, _⟩
  · simp only [Value.slice.injEq] at h1
    obtain ⟨rfl, rfl, rfl⟩ := h1
    exact run_convert_bytes_nil w src e hs he 0 0 dst hd
  · simp only [Value.slice.injEq] at h1
    obtain ⟨rfl, rfl, rfl⟩ := h1
    by_cases h0 : 0 < xs.length
    · obtain ⟨b, o, hb, _⟩ := h.byte h0
      cases hb
      refine run_convert_bytes_arg w src e hs he b o xs.length cap (xs.map fun (x : Nat) => (x : Int)) (by simp) (fun i hi => ?_) dst hd
      obtain ⟨b', o', hb', hc, _⟩ := h.byte hi
      cases hb'
      rw [hc, ix_lt hi]
      simp [hi]
    · have hx : xs = [] := List.eq_nil_of_length_eq_zero (by omega)
      subst hx
      obtain ⟨b, o, s⟩ := ad
      rw [run_convert_bytes_string w src dst e _ _ cap hs he hd]
      simp [Conv.bytesToString, strOf, strOfNums]
      rfl
attribute [irreducible] strOf
end Go.Tok
