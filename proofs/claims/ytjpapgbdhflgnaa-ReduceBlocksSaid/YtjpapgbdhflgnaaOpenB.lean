/- The form of a block that comes in as an argument: block within block. -/
import Derived.Test.YtjpapgbdhflgnaaPD
import Derived.Test.YtjpapgbdhflgnaaOpen
import Derived.Test.YtjpapgbdhflgnaaBlockLaw
namespace Go.Proofs.Ytjpapgbdhflgnaa
open Go.RowKit Go.Tok Go.ChangeShapes Go.WideShapes Go.ChangeAt
set_option linter.unusedVariables false
section
variable {H : Type} {enc : TypeId × Value → H}
theorem block_fields {P : Program} {tb tk el : TypeId} {fs : Array Field} (hb : P.underlying tb = some (.struct fs)) (hfs : ∃ f0 f1 f2, fs = #[f0, f1, f2] ∧ f0.offset = 0 ∧ f1.offset = 1 ∧ f2.offset = 2 ∧ f0.type = el ∧ f1.type = el ∧ f2.type = tk)
    (uk : P.underlying tk = some (.slice tb)) (uel : P.underlying el = some (.int .i64)) (cel : P.cellsOf el = 1) (ck : P.cellsOf tk = 1) (cb : P.cellsOf tb = 3) {W : World} :
    ∀ (N fuel : Nat) (cs : List Value) (x : DataW H × List MemPlace), fuel ≤ N → DataW.trod enc P W 0 (fun _ => true) true fuel tb cs = some x → ∃ b, (blkK N).R W cs b ∧ True := by
  intro N
  induction N with
  | zero =>
    intro fuel cs x hle hf
    obtain ⟨xs, n, e, _⟩ := DataW.trod_struct hb hf
    omega
  | succ N ih =>
    intro fuel cs x hle hf
    obtain ⟨xs, n, e, hx, hl, hxl, hat⟩ := DataW.trod_struct hb hf
    obtain ⟨f0, f1, f2, rfl, o0, o1, o2, t0, t1, t2⟩ := hfs
    rw [cb] at hl
    match cs, hl with
    | [c0, c1, c2], _ =>
      have h0 := hat 0 f0 rfl
      have h1 := hat 1 f1 rfl
      have h2 := hat 2 f2 rfl
      rw [o0, t0, cel] at h0
      rw [o1, t1, cel] at h1
      rw [o2, t2, ck] at h2
      simp only [List.drop_zero, List.take_succ_cons, List.take_zero, List.drop_succ_cons] at h0 h1 h2
      match xs, hxl with
      | [y0, y1, y2], _ =>
        simp only [List.getElem?_cons_zero, List.getElem?_cons_succ] at h0 h1 h2
        obtain ⟨n0, e0, r0, w0⟩ := DataW.trod_int uel h0
        obtain ⟨n1, e1, r1, w1⟩ := DataW.trod_int uel h1
        cases e0; cases e1
        obtain ⟨ks, hk, _⟩ := rd_trod (K := blkK N) (D := fun _ _ => True) uk (by rw [cb, blkK_size]) (by rw [blkK_size]; omega) (fun m cs y hm h => ih m cs y (by omega) h) h2
        exact ⟨⟨n0, n1, ks⟩, ⟨c2, rfl, bounds_i64 w0, bounds_i64 w1, hk⟩, trivial⟩
set_option maxRecDepth 100000 in
theorem block_arg (W : World) {base : Nat} {v : Value} {d : DataW H} {ps : List MemPlace} (hval : Value.okWide Try.prog W .any base 24 v) (hd : DataW.Trod enc Try.prog W 0 (fun _ => true) true 24 v d ps)
    (hw : ∀ n ∈ d.weights Try.prog 24, n ≤ reachBytes) : ∃ x : Nat × BlockD, BlockR x.1 W v x.2 := by
  obtain ⟨cs, rfl, hsz⟩ := okWide_struct Try.underlying24 hval
  obtain ⟨fuel, hf⟩ := hd
  obtain ⟨b, h, _⟩ := block_fields Try.underlying24 ⟨_, _, _, rfl, rfl, rfl, rfl, rfl, rfl, rfl⟩ Try.underlying22 Try.underlying3 (by kernel_rfl) (by kernel_rfl) (by kernel_rfl) (fuel + 1) fuel _ _ (by omega) hf
  obtain ⟨s, h1, h2, h3, h4⟩ := h
  refine ⟨(fuel, b), s, ?_, h2, h3, h4⟩
  have : cs = #[.int .i64 b.kind, .int .i64 b.label, s] := by
    obtain ⟨l⟩ := cs
    simp only [Value.cells] at h1
    rw [h1]
  rw [this]
end
end Go.Proofs.Ytjpapgbdhflgnaa
