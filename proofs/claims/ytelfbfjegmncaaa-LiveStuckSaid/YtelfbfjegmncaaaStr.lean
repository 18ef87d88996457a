/- Bytes turned into a string. No program is in sight here. -/
import Derived.Test.YtelfbfjegmncaaaJourLaw
import Derived.Laws.BytesArg
namespace Go.Tok
open Go.RowKit
set_option linter.unusedVariables false

/-- the string of bytes -/
def strOf (xs : List Nat) : ByteArray := strOfNums (xs.map fun (x : Nat) => (x : Int))
theorem Rd.str {P : Program} {w : World} {a : Option Addr} {n cap : Nat} {xs : List Nat} (h : Rd byteK w (.slice a n cap) xs) {src e : TypeId} (hs : P.underlying src = some (.slice e)) (he : P.underlying e = some (.int .u8)) {dst : TypeId} (hd : P.underlying dst = some .string) :
    (convert src dst (.slice a n cap)).run P w = .ok (.string (strOf xs)) w := by
  rcases h.form with ⟨h1, rfl⟩ | ⟨ad, cap', h1, _, _⟩
  · simp only [Value.slice.injEq] at h1
    obtain ⟨rfl, rfl, rfl⟩ := h1
    exact run_convert_bytes_nil w src e hs he 0 0 dst hd
  · simp only [Value.slice.injEq] at h1
    obtain ⟨rfl, rfl, rfl⟩ := h1
    by_cases h0 : 0 < xs.length
    · obtain ⟨b, o, hb, _⟩ := h.byte h0
      cases hb
      refine run_convert_bytes_arg w src e hs he b o xs.length cap (xs.map fun (x : Nat) => (x : Int)) (by simp) (fun i hi => ?_) dst hd
      obtain ⟨b', o', hb', hc, _⟩ := h.byte hi
      cases hb'
      rw [hc, ix_lt hi]
      simp [hi]
    · have hx : xs = [] := List.eq_nil_of_length_eq_zero (by omega)
      subst hx
      obtain ⟨b, o, s⟩ := ad
      rw [run_convert_bytes_string w src dst e _ _ cap hs he hd]
      simp [Conv.bytesToString, strOf, strOfNums]
      rfl
theorem strOf_size (xs : List Nat) : (strOf xs).size = xs.length := by unfold strOf; rw [strOfNums_size, List.length_map]
theorem strOf_inj {xs ys : List Nat} (hx : ∀ x ∈ xs, x < 256) (hy : ∀ y ∈ ys, y < 256) (h : strOf xs = strOf ys) : xs = ys := by
  have h1 : (strOf xs).data.toList = (strOf ys).data.toList := by rw [h]
  unfold strOf at h1
  rw [strOfNums_data, strOfNums_data, List.map_map, List.map_map] at h1
  clear h
  induction xs generalizing ys with
  | nil => cases ys with
    | nil => rfl
    | cons y r => simp at h1
  | cons x r ih =>
    cases ys with
    | nil => simp at h1
    | cons y r' =>
      simp only [List.map_cons, List.cons.injEq, Function.comp_def, Int.toNat_natCast] at h1
      have hxy : x = y := by
        have h2 := congrArg UInt8.toNat h1.1
        have := hx x (by simp)
        have := hy y (by simp)
        simp [UInt8.toNat_ofNat'] at h2
        omega
      rw [hxy, ih (ys := r') (fun z hz => hx z (by simp [hz])) (fun z hz => hy z (by simp [hz])) (by simpa [Function.comp_def] using h1.2)]
attribute [irreducible] strOf
end Go.Tok
