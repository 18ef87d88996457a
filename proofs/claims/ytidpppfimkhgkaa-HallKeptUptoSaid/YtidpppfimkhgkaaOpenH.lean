/- The hall's arguments' types, opened. -/
import Derived.Test.YtidpppfimkhgkaaBulk
import Derived.Test.YtidpppfimkhgkaaPD
import Derived.Test.YtidpppfimkhgkaaHallLaw
namespace Go.Tok
open Go.RowKit Go.ChangeShapes Go.WideShapes Go.ChangeAt
section
variable {H : Type} {enc : TypeId × Value → H} {P : Program}
theorem hop_trod {tt td el : TypeId} {fs fd : Array Field} (ht : P.underlying tt = some (.struct fs)) (htd : P.underlying td = some (.struct fd)) (hel : P.underlying el = some (.int .i64)) (hce : P.cellsOf el = 1) (hct : P.cellsOf tt = 7) (hcd : P.cellsOf td = 5)
    (hfs : ∃ f0 f1 f2, fs = #[f0, f1, f2] ∧ f0.offset = 0 ∧ f1.offset = 1 ∧ f2.offset = 2 ∧ f0.type = el ∧ f1.type = el ∧ f2.type = td)
    (hfd : ∃ f0 f1 f2 f3 f4, fd = #[f0, f1, f2, f3, f4] ∧ f0.offset = 0 ∧ f1.offset = 1 ∧ f2.offset = 2 ∧ f3.offset = 3 ∧ f4.offset = 4 ∧ f0.type = el ∧ f1.type = el ∧ f2.type = el ∧ f3.type = el ∧ f4.type = el)
    {W : World} {n : Nat} {cs : List Value} {y : DataW H × List MemPlace} (h : DataW.trod enc P W 0 (fun _ => true) true n tt cs = some y) : ∃ z, hopK.R W cs z ∧ True := by
  obtain ⟨xs, m, _, hx, hl, hxl, hat⟩ := DataW.trod_struct ht h
  obtain ⟨f0, f1, f2, rfl, o0, o1, o2, t0, t1, t2⟩ := hfs
  rw [hct] at hl
  match cs, hl with
  | [c0, c1, c2, c3, c4, c5, c6], _ =>
    have h0 := hat 0 f0 rfl
    have h1 := hat 1 f1 rfl
    have h2 := hat 2 f2 rfl
    rw [o0, t0, hce] at h0
    rw [o1, t1, hce] at h1
    rw [o2, t2, hcd] at h2
    simp only [List.drop_zero, List.take_succ_cons, List.take_zero, List.drop_succ_cons] at h0 h1 h2
    match xs, hxl with
    | [y0, y1, y2], _ =>
      simp only [List.getElem?_cons_zero, List.getElem?_cons_succ] at h0 h1 h2
      obtain ⟨n0, e0, r0, w0⟩ := DataW.trod_int hel h0
      obtain ⟨n1, e1, r1, w1⟩ := DataW.trod_int hel h1
      obtain ⟨z, ⟨hz, hzI⟩, _⟩ := five_trod htd hel hce hcd hfd h2
      cases e0; cases e1
      obtain ⟨k, u, t, i, o⟩ := z
      simp only [opCells, List.cons.injEq, and_true] at hz
      obtain ⟨rfl, rfl, rfl, rfl, rfl⟩ := hz
      exact ⟨⟨n0, n1, ⟨k, u, t, i, o⟩⟩, ⟨rfl, bounds_i64 w0, bounds_i64 w1, hzI⟩, trivial⟩
end
end Go.Tok
namespace Go.Proofs.Ytidpppfimkhgkaa
open Go.RowKit Go.Tok Go.ChangeShapes Go.WideShapes Go.ChangeAt
set_option linter.unusedVariables false
section
variable {H : Type} {enc : TypeId × Value → H}
set_option maxRecDepth 100000 in
theorem ops_argU (W : World) {base : Nat} {v : Value} {d : DataW H} {ps : List MemPlace} (hval : Value.okWide Try.prog W .any base 72 v) (hd : DataW.Trod enc Try.prog W 0 (fun _ => true) true 72 v d ps)
    (hb : Rows.uptoBulk d ≤ 1048576) : ∃ xs, Rd opK W v xs ∧ xs.length ≤ 1048576 := by
  obtain ⟨xs, h1, h2⟩ := rd_open (K := opK) (D := fun _ _ => True) Try.underlying72 (by kernel_rfl) (by decide) (fun n cs y h => five_trod Try.underlying59 Try.underlying3 (by kernel_rfl) (by kernel_rfl) ⟨_, _, _, _, _, rfl, rfl, rfl, rfl, rfl, rfl, rfl, rfl, rfl, rfl, rfl⟩ h) hval hd
  exact ⟨xs, h1, by have := LenOf.bulk h2.lenOf; omega⟩
set_option maxRecDepth 100000 in
theorem hops_argU (W : World) {base : Nat} {v : Value} {d : DataW H} {ps : List MemPlace} (hval : Value.okWide Try.prog W .any base 56 v) (hd : DataW.Trod enc Try.prog W 0 (fun _ => true) true 56 v d ps)
    (hb : Rows.uptoBulk d ≤ 1048576) : ∃ xs, Rd hopK W v xs ∧ xs.length ≤ 1048576 := by
  obtain ⟨xs, h1, h2⟩ := rd_open (K := hopK) (D := fun _ _ => True) Try.underlying56 (by kernel_rfl) (by decide) (fun n cs y h => hop_trod Try.underlying61 Try.underlying59 Try.underlying3 (by kernel_rfl) (by kernel_rfl) (by kernel_rfl) ⟨_, _, _, rfl, rfl, rfl, rfl, rfl, rfl, rfl⟩ ⟨_, _, _, _, _, rfl, rfl, rfl, rfl, rfl, rfl, rfl, rfl, rfl, rfl, rfl⟩ h) hval hd
  exact ⟨xs, h1, by have := LenOf.bulk h2.lenOf; omega⟩
set_option maxRecDepth 100000 in
theorem mat_argU (W : World) {base : Nat} {v : Value} {d : DataW H} {ps : List MemPlace} (hval : Value.okWide Try.prog W .any base 55 v) (hd : DataW.Trod enc Try.prog W 0 (fun _ => true) true 55 v d ps)
    (hb : Rows.uptoBulk d ≤ 1048576) : ∃ xs, Rd rowK W v xs ∧ xs.length ≤ 1048576 := by
  obtain ⟨xs, h1, h2⟩ := rd_open (K := rowK) (D := fun e z => LenOf e z.length) Try.underlying55 (by kernel_rfl) (by decide) (fun n cs y h => row_trod Try.underlying32 Try.underlying3 (by kernel_rfl) h) hval hd
  exact ⟨xs, h1, by have := LenOf.bulk h2.lenOf; omega⟩
end
end Go.Proofs.Ytidpppfimkhgkaa
