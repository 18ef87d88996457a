/- Rows of whatever kind among the arguments of a call, opened. No program is in sight here. -/
import Derived.Test.YtelfbfjegmncaaaNetArg
import Derived.Test.YtelfbfjegmncaaaJourLaw
namespace Go.Tok
open Go.RowKit Go.ChangeShapes Go.WideShapes Go.ChangeAt
set_option linter.unusedVariables false

section
variable {H : Type} {enc : TypeId × Value → H} {P : Program}

/-- what the reading of a row says of its elements -/
def RowOf {α : Type} [Inhabited α] (D : DataW H → α → Prop) (d : DataW H) (ys : List α) : Prop :=
  (d = .nil ∧ ys = []) ∨ ∃ es sp, d = .slice es sp ∧ es.length = ys.length ∧ ∀ i, i < ys.length → ∃ e, es[i]? = some e ∧ D e (ix ys i)
theorem RowOf.lenOf {α : Type} [Inhabited α] {D : DataW H → α → Prop} {d : DataW H} {ys : List α} (h : RowOf D d ys) : LenOf d ys.length := by
  rcases h with ⟨h1, rfl⟩ | ⟨es, sp, h1, h2, _⟩
  · exact .inl ⟨h1, rfl⟩
  · exact .inr ⟨es, sp, h1, h2⟩

theorem rd_trod {α : Type} [Inhabited α] {K : Kind α} {D : DataW H → α → Prop} {ts tt : TypeId} (hs : P.underlying ts = some (.slice tt)) (hc : P.cellsOf tt = K.size) (hp : 0 < K.size) {W : World} {fuel : Nat} {v : Value} {x : DataW H × List MemPlace}
    (helem : ∀ n cs y, n < fuel → DataW.trod enc P W 0 (fun _ => true) true n tt cs = some y → ∃ z, K.R W cs z ∧ D y.1 z)
    (hf : DataW.trod enc P W 0 (fun _ => true) true fuel ts [v] = some x) : ∃ ys, Rd K W v ys ∧ RowOf D x.1 ys := by
  rcases DataW.trod_slice hs hf with ⟨hcs, hx⟩ | ⟨a, len, cap, elems, rest, n, hfn, hcs, hx, _, hl, hm, hel, hat, _, _⟩
  · cases hcs
    exact ⟨[], Rd.nil W, .inl ⟨by rw [hx], rfl⟩⟩
  · cases hcs
    have each : ∀ i, i < len → ∃ z : α, ∃ (b o : Nat) (vs : List Value) (e : DataW H), a = ⟨b, o, none⟩ ∧ K.R W vs z ∧ (∀ j u, vs[j]? = some u → W.cell? ⟨b, o + i * K.size + j, none⟩ = some u) ∧ (elems.map (·.1))[i]? = some e ∧ D e z := by
      intro i hi
      have h1 := hat i hi
      rw [hc] at h1
      have h2 : elems[i]? = some (elems[i]'(by omega)) := List.getElem?_eq_getElem (by omega)
      rw [h2] at h1
      obtain ⟨cs, hcc, ht⟩ := Option.bind_eq_some_iff.1 h1
      obtain ⟨_, hcl, hcell⟩ := World.cells?_some hcc
      obtain ⟨z, hz, hd⟩ := helem n cs _ (by omega) ht
      have first : ∃ b o, a = ⟨b, o, none⟩ := by
        have h1 := hat 0 (by omega)
        rw [hc] at h1
        have h2 : elems[0]? = some (elems[0]'(by omega)) := List.getElem?_eq_getElem (by omega)
        rw [h2] at h1
        obtain ⟨cs, hc', ht⟩ := Option.bind_eq_some_iff.1 h1
        obtain ⟨_, hcl, hcell⟩ := World.cells?_some hc'
        have h3 := hcell 0 hp
        rw [List.getElem?_eq_getElem (by omega)] at h3
        simp only [Nat.zero_mul] at h3
        have h4 : (a.add 0).add 0 = a.add 0 := by simp [Addr.add]
        rw [h4] at h3
        exact spot_none h3
      obtain ⟨b, o, rfl⟩ := first
      refine ⟨z, b, o, cs, _, rfl, hz, fun j u hj => ?_, by rw [List.getElem?_map, h2, Option.map_some], hd⟩
      have hj' : j < K.size := by rw [← hcl]; exact (List.getElem?_eq_some_iff.1 hj).1
      have h3 := hcell j hj'
      rw [add_none, add_none] at h3
      rw [h3]; exact hj
    obtain ⟨l, hll, hp'⟩ := choose_list len each
    refine ⟨l, ?_, .inr ⟨elems.map (·.1), _, by rw [hx], by simp [hel, hll], fun i hi => ?_⟩⟩
    · refine rd_mk (a := some a) (cap := cap) (by rw [hll]) (by omega) hm (fun h => by cases h) fun i hi => ?_
      obtain ⟨b, o, vs, e, rfl, h1, h2, _⟩ := hp' i (by omega)
      exact ⟨b, o, vs, rfl, by rw [ix_def]; exact h1, h2⟩
    · obtain ⟨b, o, vs, e, rfl, h1, h2, h3, h4⟩ := hp' i (by omega)
      exact ⟨e, h3, by rw [ix_def]; exact h4⟩

theorem byte_trod {tt : TypeId} (ht : P.underlying tt = some (.int .u8)) {W : World} {n : Nat} {cs : List Value} {y : DataW H × List MemPlace} (h : DataW.trod enc P W 0 (fun _ => true) true n tt cs = some y) : ∃ z, byteK.R W cs z ∧ True := by
  obtain ⟨m, rfl, _, hw⟩ := DataW.trod_int ht h
  have hb : 0 ≤ m ∧ m < 256 := by
    simp [Lit.wf, IntKind.min, IntKind.max, IntKind.bits, IntKind.signed] at hw
    omega
  obtain ⟨q, rfl⟩ := Int.eq_ofNat_of_zero_le hb.1
  exact ⟨q, ⟨rfl, by omega⟩, trivial⟩

/-- a struct of ints -/
theorem five_trod {tt el : TypeId} {fs : Array Field} (ht : P.underlying tt = some (.struct fs)) (hel : P.underlying el = some (.int .i64)) (hce : P.cellsOf el = 1) (hct : P.cellsOf tt = 5)
    (hfs : ∃ f0 f1 f2 f3 f4, fs = #[f0, f1, f2, f3, f4] ∧ f0.offset = 0 ∧ f1.offset = 1 ∧ f2.offset = 2 ∧ f3.offset = 3 ∧ f4.offset = 4 ∧ f0.type = el ∧ f1.type = el ∧ f2.type = el ∧ f3.type = el ∧ f4.type = el)
    {W : World} {n : Nat} {cs : List Value} {y : DataW H × List MemPlace} (h : DataW.trod enc P W 0 (fun _ => true) true n tt cs = some y) : ∃ z, opK.R W cs z ∧ True := by
  obtain ⟨xs, m, _, hx, hl, hxl, hat⟩ := DataW.trod_struct ht h
  obtain ⟨f0, f1, f2, f3, f4, rfl, o0, o1, o2, o3, o4, t0, t1, t2, t3, t4⟩ := hfs
  rw [hct] at hl
  match cs, hl with
  | [c0, c1, c2, c3, c4], _ =>
    have h0 := hat 0 f0 rfl
    have h1 := hat 1 f1 rfl
    have h2 := hat 2 f2 rfl
    have h3 := hat 3 f3 rfl
    have h4 := hat 4 f4 rfl
    rw [o0, t0, hce] at h0
    rw [o1, t1, hce] at h1
    rw [o2, t2, hce] at h2
    rw [o3, t3, hce] at h3
    rw [o4, t4, hce] at h4
    simp only [List.drop_zero, List.take_succ_cons, List.take_zero, List.drop_succ_cons] at h0 h1 h2 h3 h4
    match xs, hxl with
    | [y0, y1, y2, y3, y4], _ =>
      simp only [List.getElem?_cons_zero, List.getElem?_cons_succ] at h0 h1 h2 h3 h4
      obtain ⟨n0, e0, r0, w0⟩ := DataW.trod_int hel h0
      obtain ⟨n1, e1, r1, w1⟩ := DataW.trod_int hel h1
      obtain ⟨n2, e2, r2, w2⟩ := DataW.trod_int hel h2
      obtain ⟨n3, e3, r3, w3⟩ := DataW.trod_int hel h3
      obtain ⟨n4, e4, r4, w4⟩ := DataW.trod_int hel h4
      cases e0; cases e1; cases e2; cases e3; cases e4
      exact ⟨⟨n0, n1, n2, n3, n4⟩, ⟨rfl, bounds_i64 w0, bounds_i64 w1, bounds_i64 w2, bounds_i64 w3, bounds_i64 w4⟩, trivial⟩
theorem rd_open {α : Type} [Inhabited α] {K : Kind α} {D : DataW H → α → Prop} {ts tt : TypeId} (hs : P.underlying ts = some (.slice tt)) (hc : P.cellsOf tt = K.size) (hp : 0 < K.size) {W : World} {base : Nat} {v : Value} {d : DataW H} {ps : List MemPlace}
    (helem : ∀ n cs y, DataW.trod enc P W 0 (fun _ => true) true n tt cs = some y → ∃ z, K.R W cs z ∧ D y.1 z)
    (hval : Value.okWide P W .any base ts v) (hd : DataW.Trod enc P W 0 (fun _ => true) true ts v d ps) : ∃ ys, Rd K W v ys ∧ RowOf D d ys := by
  obtain ⟨a, len, cap, rfl⟩ := okWide_slice hs hval
  obtain ⟨fuel, hf⟩ := hd
  exact rd_trod hs hc hp (fun n cs y _ h => helem n cs y h) hf
/-- the form's own reach bounds a length -/
theorem LenOf.reachB {d : DataW H} {n k : Nat} {t e : TypeId} (h : LenOf d n) (ht : P.underlying t = some (.slice e)) (hby : P.bytesOf e = k) (hw : ∀ m ∈ d.weights P t, m ≤ reachBytes) : n * k ≤ 140737488351232 := by
  rcases h with ⟨rfl, rfl⟩ | ⟨es, sp, rfl, rfl⟩
  · omega
  · have := hw ((es.length + sp.length) * P.bytesOf e) (by simp [DataW.weights, ht])
    rw [hby, Nat.add_mul] at this
    have h2 : reachBytes = 140737488351232 := by decide
    omega
end
end Go.Tok
