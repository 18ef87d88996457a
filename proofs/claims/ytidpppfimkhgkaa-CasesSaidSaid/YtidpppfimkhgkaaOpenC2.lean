/- The form of a list of operations on a case that comes in as an argument. -/
import Derived.Test.YtidpppfimkhgkaaPD
import Derived.Test.YtidpppfimkhgkaaCases6
import Derived.Test.YtidpppfimkhgkaaOpen
import Derived.Test.YtidpppfimkhgkaaOpenC
namespace Go.Tok
open Go.RowKit Go.ChangeShapes Go.WideShapes Go.ChangeAt
set_option linter.unusedVariables false
section
variable {H : Type} {enc : TypeId × Value → H} {P : Program}
theorem two_trod {tt el : TypeId} {fs : Array Field} (ht : P.underlying tt = some (.struct fs)) (hel : P.underlying el = some (.int .i64)) (hce : P.cellsOf el = 1) (hct : P.cellsOf tt = 2)
    (hfs : ∃ f0 f1, fs = #[f0, f1] ∧ f0.offset = 0 ∧ f1.offset = 1 ∧ f0.type = el ∧ f1.type = el)
    {W : World} {n : Nat} {cs : List Value} {y : DataW H × List MemPlace} (h : DataW.trod enc P W 0 (fun _ => true) true n tt cs = some y) : ∃ z, copK.R W cs z ∧ True := by
  obtain ⟨xs, m, _, hx, hl, hxl, hat⟩ := DataW.trod_struct ht h
  obtain ⟨f0, f1, rfl, o0, o1, t0, t1⟩ := hfs
  rw [hct] at hl
  match cs, hl with
  | [c0, c1], _ =>
    have h0 := hat 0 f0 rfl
    have h1 := hat 1 f1 rfl
    rw [o0, t0, hce] at h0
    rw [o1, t1, hce] at h1
    simp only [List.drop_zero, List.take_succ_cons, List.take_zero, List.drop_succ_cons] at h0 h1
    match xs, hxl with
    | [y0, y1], _ =>
      simp only [List.getElem?_cons_zero, List.getElem?_cons_succ] at h0 h1
      obtain ⟨n0, e0, r0, w0⟩ := DataW.trod_int hel h0
      obtain ⟨n1, e1, r1, w1⟩ := DataW.trod_int hel h1
      cases e0; cases e1
      exact ⟨⟨n0, n1⟩, ⟨rfl, bounds_i64 w0, bounds_i64 w1⟩, trivial⟩
end
end Go.Tok
namespace Go.Proofs.Ytidpppfimkhgkaa
open Go.RowKit Go.Tok Go.ChangeShapes Go.WideShapes Go.ChangeAt
set_option linter.unusedVariables false
section
variable {H : Type} {enc : TypeId × Value → H}
set_option maxRecDepth 100000 in
theorem cops_arg (W : World) {base : Nat} {v : Value} {d : DataW H} {ps : List MemPlace} (hval : Value.okWide Try.prog W .any base 99 v) (hd : DataW.Trod enc Try.prog W 0 (fun _ => true) true 99 v d ps)
    (hw : ∀ n ∈ d.weights Try.prog 99, n ≤ reachBytes) : ∃ xs, Rd copK W v xs ∧ xs.length ≤ 8796093022208 := by
  obtain ⟨xs, h1, h2⟩ := rd_open (K := copK) (D := fun _ _ => True) Try.underlying99 (by kernel_rfl) (by decide) (fun n cs y h => two_trod Try.underlying105 Try.underlying3 (by kernel_rfl) (by kernel_rfl) ⟨_, _, rfl, rfl, rfl, rfl, rfl⟩ h) hval hd
  have := h2.lenOf.reachB (k := 16) Try.underlying99 (by kernel_rfl) hw
  exact ⟨xs, h1, by omega⟩
end
end Go.Proofs.Ytidpppfimkhgkaa
