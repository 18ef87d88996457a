/- The forms of a space, and of rows of ints, that come in as arguments. -/
import Derived.Test.YtelfbfjegmncaaaArgGen
import Derived.Test.YtelfbfjegmncaaaOpen
import Derived.Test.YtelfbfjegmncaaaReach5
namespace Go.Tok
open Go.RowKit Go.ChangeShapes Go.WideShapes Go.ChangeAt
set_option linter.unusedVariables false
section
variable {H : Type} {enc : TypeId × Value → H} {P : Program}
theorem row_trod {tt el : TypeId} (ht : P.underlying tt = some (.slice el)) (he : P.underlying el = some (.int .i64)) (hc : P.cellsOf el = 1) {W : World} {n : Nat} {cs : List Value} {y : DataW H × List MemPlace} (h : DataW.trod enc P W 0 (fun _ => true) true n tt cs = some y) : ∃ z, rowK.R W cs z ∧ LenOf y.1 z.length := by
  have hv : ∃ v, cs = [v] := by
    rcases DataW.trod_slice ht h with ⟨hcs, _⟩ | ⟨a, len, cap, elems, rest, m, _, hcs, _⟩
    · exact ⟨_, hcs⟩
    · exact ⟨_, hcs⟩
  obtain ⟨v, rfl⟩ := hv
  obtain ⟨xs, h1, h2⟩ := ints_trod ht he hc h
  exact ⟨xs, ⟨v, rfl, h1⟩, h2⟩
theorem arc_trod {tt el : TypeId} {fs : Array Field} (ht : P.underlying tt = some (.struct fs)) (hel : P.underlying el = some (.int .i64)) (hce : P.cellsOf el = 1) (hct : P.cellsOf tt = 3)
    (hfs : ∃ f0 f1 f2, fs = #[f0, f1, f2] ∧ f0.offset = 0 ∧ f1.offset = 1 ∧ f2.offset = 2 ∧ f0.type = el ∧ f1.type = el ∧ f2.type = el)
    {W : World} {n : Nat} {cs : List Value} {y : DataW H × List MemPlace} (h : DataW.trod enc P W 0 (fun _ => true) true n tt cs = some y) : ∃ z, arcK.R W cs z ∧ True := by
  obtain ⟨xs, m, _, hx, hl, hxl, hat⟩ := DataW.trod_struct ht h
  obtain ⟨f0, f1, f2, rfl, o0, o1, o2, t0, t1, t2⟩ := hfs
  rw [hct] at hl
  match cs, hl with
  | [c0, c1, c2], _ =>
    have h0 := hat 0 f0 rfl
    have h1 := hat 1 f1 rfl
    have h2 := hat 2 f2 rfl
    rw [o0, t0, hce] at h0
    rw [o1, t1, hce] at h1
    rw [o2, t2, hce] at h2
    simp only [List.drop_zero, List.take_succ_cons, List.take_zero, List.drop_succ_cons] at h0 h1 h2
    match xs, hxl with
    | [y0, y1, y2], _ =>
      simp only [List.getElem?_cons_zero, List.getElem?_cons_succ] at h0 h1 h2
      obtain ⟨n0, e0, r0, w0⟩ := DataW.trod_int hel h0
      obtain ⟨n1, e1, r1, w1⟩ := DataW.trod_int hel h1
      obtain ⟨n2, e2, r2, w2⟩ := DataW.trod_int hel h2
      cases e0; cases e1; cases e2
      exact ⟨⟨n0, n1, n2⟩, ⟨rfl, bounds_i64 w0, bounds_i64 w1, bounds_i64 w2⟩, trivial⟩
theorem space_open {tn tm ta tr sl el : TypeId} {fn fa : Array Field} (hsp : P.underlying tn = some (.struct fn)) (hf2 : ∃ f0 f1, fn = #[f0, f1] ∧ f0.offset = 0 ∧ f1.offset = 1 ∧ f0.type = tm ∧ f1.type = ta)
    (um : P.underlying tm = some (.slice sl)) (usl : P.underlying sl = some (.slice el)) (uel : P.underlying el = some (.int .i64)) (ua : P.underlying ta = some (.slice tr)) (utr : P.underlying tr = some (.struct fa))
    (hfa : ∃ f0 f1 f2, fa = #[f0, f1, f2] ∧ f0.offset = 0 ∧ f1.offset = 1 ∧ f2.offset = 2 ∧ f0.type = el ∧ f1.type = el ∧ f2.type = el)
    (cel : P.cellsOf el = 1) (csl : P.cellsOf sl = 1) (cm : P.cellsOf tm = 1) (ca : P.cellsOf ta = 1) (ctr : P.cellsOf tr = 3) (cn : P.cellsOf tn = 2)
    {W : World} {base : Nat} {v : Value} {d : DataW H} {ps : List MemPlace} (hval : Value.okWide P W .any base tn v)
    (hd : DataW.Trod enc P W 0 (fun _ => true) true tn v d ps) : ∃ S d0 d1, SpaceR W v S ∧ d = .agg [d0, d1] ∧ LenOf d0 S.marks.length ∧ LenOf d1 S.arcs.length := by
  obtain ⟨cs, rfl, hsz⟩ := okWide_struct hsp hval
  obtain ⟨fuel, hf⟩ := hd
  obtain ⟨xs, n, _, hx, hl, hxl, hat⟩ := DataW.trod_struct hsp hf
  obtain ⟨f0, f1, rfl, o0, o1, t0, t1⟩ := hf2
  rw [cn] at hl hsz
  obtain ⟨l⟩ := cs
  match l, hsz with
  | [c0, c1], _ =>
    have h0 := hat 0 f0 rfl
    have h1 := hat 1 f1 rfl
    rw [o0, t0, cm] at h0
    rw [o1, t1, ca] at h1
    simp only [Value.cells, List.drop_zero, List.take_succ_cons, List.take_zero, List.drop_succ_cons] at h0 h1
    match xs, hxl with
    | [y0, y1], _ =>
      simp only [List.getElem?_cons_zero, List.getElem?_cons_succ] at h0 h1
      obtain ⟨ms, hm1, hm2⟩ := rd_trod (K := rowK) (D := fun e z => LenOf e z.length) um csl (by decide) (fun n cs y _ h => row_trod usl uel cel h) h0
      obtain ⟨asx, ha1, ha2⟩ := rd_trod (K := arcK) (D := fun _ _ => True) ua ctr (by decide) (fun n cs y _ h => arc_trod utr uel cel ctr hfa h) h1
      simp only [Prod.mk.injEq] at hx
      exact ⟨⟨ms, asx⟩, y0.1, y1.1, SpaceR.mk_ hm1 ha1, hx.1, hm2.lenOf, ha2.lenOf⟩
end
end Go.Tok
namespace Go.Proofs.Ytelfbfjegmncaaa
open Go.RowKit Go.Tok Go.ChangeShapes Go.WideShapes Go.ChangeAt
set_option linter.unusedVariables false
section
variable {H : Type} {enc : TypeId × Value → H}
set_option maxRecDepth 100000 in
theorem space_arg (W : World) {base : Nat} {v : Value} {d : DataW H} {ps : List MemPlace} (hval : Value.okWide Try.prog W .any base 40 v) (hd : DataW.Trod enc Try.prog W 0 (fun _ => true) true 40 v d ps)
    (hw : ∀ n ∈ d.weights Try.prog 40, n ≤ reachBytes) : ∃ S, SpaceR W v S ∧ S.marks.length ≤ 5864062014805 ∧ S.arcs.length ≤ 5864062014805 := by
  obtain ⟨S, d0, d1, h1, rfl, h2, h3⟩ := space_open Try.underlying40 ⟨_, _, rfl, rfl, rfl, rfl, rfl⟩ Try.underlying37 Try.underlying32 Try.underlying3 Try.underlying38 Try.underlying56 ⟨_, _, _, rfl, rfl, rfl, rfl, rfl, rfl, rfl⟩ (by kernel_rfl) (by kernel_rfl) (by kernel_rfl) (by kernel_rfl) (by kernel_rfl) (by kernel_rfl) hval hd
  have w0 : ∀ n ∈ d0.weights Try.prog 37, n ≤ reachBytes := fun n hn => hw n (by simp [DataW.weights, Try.underlying40, DataW.weightsEach, hn])
  have w1 : ∀ n ∈ d1.weights Try.prog 38, n ≤ reachBytes := fun n hn => hw n (by simp [DataW.weights, Try.underlying40, DataW.weightsEach, hn])
  have l0 := h2.reachB (k := 24) Try.underlying37 (by kernel_rfl) w0
  have l1 := h3.reachB (k := 24) Try.underlying38 (by kernel_rfl) w1
  exact ⟨S, h1, by omega, by omega⟩
end
end Go.Proofs.Ytelfbfjegmncaaa
