/- The form of a case that comes in as an argument: both rows read. -/
import Derived.Test.YtidpppfimkhgkaaOpen
import Derived.Test.YtidpppfimkhgkaaCaseLaw
namespace Go.Proofs.Ytidpppfimkhgkaa
open Go.RowKit Go.Tok Go.ChangeShapes Go.WideShapes Go.ChangeAt
set_option linter.unusedVariables false
section
variable {H : Type} {enc : TypeId × Value → H}
theorem case_open {P : Program} {tn sl el : TypeId} {fn : Array Field} (hnet : P.underlying tn = some (.struct fn)) (hf2 : ∃ f0 f1, fn = #[f0, f1] ∧ f0.offset = 0 ∧ f1.offset = 1 ∧ f0.type = sl ∧ f1.type = sl) (uSl : P.underlying sl = some (.slice el)) (uEl : P.underlying el = some (.int .i64)) (cEl : P.cellsOf el = 1) (cSl : P.cellsOf sl = 1) (cTn : P.cellsOf tn = 2)
    {W : World} {base : Nat} {v : Value} {d : DataW H} {ps : List MemPlace} (hval : Value.okWide P W .any base tn v)
    (hd : DataW.Trod enc P W 0 (fun _ => true) true tn v d ps) : ∃ c, CaseR W v c := by
  obtain ⟨cs, rfl, hsz⟩ := okWide_struct hnet hval
  obtain ⟨fuel, hf⟩ := hd
  obtain ⟨xs, n, _, hx, hl, hxl, hat⟩ := DataW.trod_struct hnet hf
  obtain ⟨f0, f1, rfl, o0, o1, t0, t1⟩ := hf2
  rw [cTn] at hl hsz
  obtain ⟨l⟩ := cs
  match l, hsz with
  | [c0, c1], _ =>
    have h0 := hat 0 f0 rfl
    have h1 := hat 1 f1 rfl
    rw [o0, t0, cSl] at h0
    rw [o1, t1, cSl] at h1
    simp only [Value.cells, List.drop_zero, List.take_succ_cons, List.take_zero, List.drop_succ_cons] at h0 h1
    match xs, hxl with
    | [y0, y1], _ =>
      simp only [List.getElem?_cons_zero, List.getElem?_cons_succ] at h0 h1
      obtain ⟨l0, hi0, _⟩ := ints_trod uSl uEl cEl h0
      obtain ⟨l1, hi1, _⟩ := ints_trod uSl uEl cEl h1
      exact ⟨⟨l0, l1⟩, CaseR.mk_ (c := ⟨l0, l1⟩) hi0 hi1⟩
set_option maxRecDepth 100000 in
theorem case_arg (W : World) {base : Nat} {v : Value} {d : DataW H} {ps : List MemPlace} (hval : Value.okWide Try.prog W .any base 63 v) (hd : DataW.Trod enc Try.prog W 0 (fun _ => true) true 63 v d ps)
    (hw : ∀ n ∈ d.weights Try.prog 63, n ≤ reachBytes) : ∃ c, CaseR W v c :=
  case_open Try.underlying63 ⟨_, _, rfl, rfl, rfl, rfl, rfl⟩ Try.underlying32 Try.underlying3 (by kernel_rfl) (by kernel_rfl) (by kernel_rfl) hval hd
end
end Go.Proofs.Ytidpppfimkhgkaa
