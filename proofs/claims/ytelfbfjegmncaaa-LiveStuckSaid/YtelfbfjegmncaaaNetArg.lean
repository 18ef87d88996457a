/- A net among the arguments of a call, opened. No program is in sight here. -/
import Derived.Test.YtelfbfjegmncaaaWrap
import Derived.Test.YtelfbfjegmncaaaNetLit
namespace Go.Tok
open Go.RowKit Go.ChangeShapes Go.WideShapes Go.ChangeAt

theorem choose_list {α : Type} [Inhabited α] {p : Nat → α → Prop} : ∀ n, (∀ i, i < n → ∃ x, p i x) → ∃ l : List α, l.length = n ∧ ∀ i, i < n → p i (l.getD i default)
  | 0, _ => ⟨[], rfl, fun i hi => by omega⟩
  | n + 1, h => by
    obtain ⟨l, hl, hp⟩ := choose_list n fun i hi => h i (by omega)
    obtain ⟨x, hx⟩ := h n (by omega)
    refine ⟨l ++ [x], by simp [hl], fun i hi => ?_⟩
    by_cases h1 : i < n
    · have : (l ++ [x]).getD i default = l.getD i default := by
        simp only [List.getD_eq_getElem?_getD]
        rw [List.getElem?_append_left (by omega)]
      rw [this]; exact hp i h1
    · have h2 : i = n := by omega
      subst h2
      have : (l ++ [x]).getD i default = x := by
        simp only [List.getD_eq_getElem?_getD]
        rw [List.getElem?_append_right (by omega), hl]; simp
      rw [this]; exact hx

section
variable {H : Type} {enc : TypeId × Value → H} {P : Program}

/-- the types of a net -/
structure NetTy (P : Program) (tn ts tt sl el : TypeId) (fn ft : Array Field) : Prop where
  net : P.underlying tn = some (.struct fn)
  nets : ∃ f0 f1, fn = #[f0, f1] ∧ f0.offset = 0 ∧ f1.offset = 1 ∧ f0.type = el ∧ f1.type = ts
  trans : P.underlying ts = some (.slice tt)
  tran : P.underlying tt = some (.struct ft)
  trs : ∃ f0 f1 f2, ft = #[f0, f1, f2] ∧ f0.offset = 0 ∧ f1.offset = 1 ∧ f2.offset = 2 ∧ f0.type = el ∧ f1.type = sl ∧ f2.type = sl
  uSl : P.underlying sl = some (.slice el)
  uEl : P.underlying el = some (.int .i64)
  cEl : P.cellsOf el = 1
  cSl : P.cellsOf sl = 1
  cTs : P.cellsOf ts = 1
  cTt : P.cellsOf tt = 3
  cTn : P.cellsOf tn = 2

theorem tran_trod {tn ts tt sl el : TypeId} {fn ft : Array Field} (T : NetTy P tn ts tt sl el fn ft) {W : World} {fuel : Nat} {cs : List Value} {x : DataW H × List MemPlace} (hf : DataW.trod enc P W 0 (fun _ => true) true fuel tt cs = some x) :
    ∃ (t : TranD) (vp vq : Value) (d0 d1 d2 : DataW H), cs = [.int .i64 t.label, vp, vq] ∧ I64 t.label ∧ Ints W vp t.pre ∧ Ints W vq t.post ∧ x.1 = .agg [d0, d1, d2] ∧ LenOf d1 t.pre.length ∧ LenOf d2 t.post.length := by
  obtain ⟨xs, n, _, hx, hl, hxl, hat⟩ := DataW.trod_struct T.tran hf
  obtain ⟨f0, f1, f2, rfl, o0, o1, o2, t0, t1, t2⟩ := T.trs
  rw [T.cTt] at hl
  match cs, hl with
  | [c0, c1, c2], _ =>
    have h0 := hat 0 f0 rfl
    have h1 := hat 1 f1 rfl
    have h2 := hat 2 f2 rfl
    rw [o0, t0, T.cEl] at h0
    rw [o1, t1, T.cSl] at h1
    rw [o2, t2, T.cSl] at h2
    simp only [List.drop_zero, List.take_succ_cons, List.take_zero, List.drop_succ_cons] at h0 h1 h2
    match xs, hxl with
    | [y0, y1, y2], _ =>
      simp only [List.getElem?_cons_zero, List.getElem?_cons_succ] at h0 h1 h2
      obtain ⟨n0, e0, r0, w0⟩ := DataW.trod_int T.uEl h0
      cases e0
      obtain ⟨p, hp, lp⟩ := ints_trod T.uSl T.uEl T.cEl h1
      obtain ⟨q, hq, lq⟩ := ints_trod T.uSl T.uEl T.cEl h2
      exact ⟨⟨n0, p, q⟩, c1, c2, y0.1, y1.1, y2.1, rfl, bounds_i64 w0, hp, hq, by rw [hx]; rfl, lp, lq⟩

theorem trans_trod {tn ts tt sl el : TypeId} {fn ft : Array Field} (T : NetTy P tn ts tt sl el fn ft) {W : World} {fuel : Nat} {v : Value} {x : DataW H × List MemPlace} (hf : DataW.trod enc P W 0 (fun _ => true) true fuel ts [v] = some x) :
    ∃ l, TransR W v l ∧ ((x.1 = .nil ∧ l = []) ∨ ∃ es sp, x.1 = .slice es sp ∧ es.length = l.length ∧ ∀ i, i < l.length → ∃ d0 d1 d2, es[i]? = some (.agg [d0, d1, d2]) ∧ LenOf d1 (l.getD i default).pre.length ∧ LenOf d2 (l.getD i default).post.length) := by
  rcases DataW.trod_slice T.trans hf with ⟨hcs, hx⟩ | ⟨a, len, cap, elems, rest, n, _, hcs, hx, _, hl, hm, hel, hat, _, _⟩
  · cases hcs
    exact ⟨[], TransR.nil W, .inl ⟨by rw [hx], rfl⟩⟩
  · cases hcs
    have each : ∀ i, i < len → ∃ t : TranD, ∃ (b o : Nat) (vp vq : Value) (d0 d1 d2 : DataW H), a = ⟨b, o, none⟩ ∧ W.cell? ⟨b, o + i * 3, none⟩ = some (.int .i64 t.label) ∧ W.cell? ⟨b, o + i * 3 + 1, none⟩ = some vp ∧ W.cell? ⟨b, o + i * 3 + 2, none⟩ = some vq ∧
        I64 t.label ∧ Ints W vp t.pre ∧ Ints W vq t.post ∧ (elems.map (·.1))[i]? = some (.agg [d0, d1, d2]) ∧ LenOf d1 t.pre.length ∧ LenOf d2 t.post.length := by
      intro i hi
      have first : ∃ b o, a = ⟨b, o, none⟩ := by
        have h1 := hat 0 (by omega)
        rw [T.cTt] at h1
        have h2 : elems[0]? = some (elems[0]'(by omega)) := List.getElem?_eq_getElem (by omega)
        rw [h2] at h1
        obtain ⟨cs, hc, ht⟩ := Option.bind_eq_some_iff.1 h1
        obtain ⟨_, hcl, hcell⟩ := World.cells?_some hc
        have h3 := hcell 0 (by omega)
        rw [List.getElem?_eq_getElem (by omega)] at h3
        simp only [Nat.zero_mul] at h3
        have h4 : (a.add 0).add 0 = a.add 0 := by simp [Addr.add]
        rw [h4] at h3
        exact spot_none h3
      obtain ⟨b, o, rfl⟩ := first
      have h1 := hat i hi
      rw [T.cTt] at h1
      have h2 : elems[i]? = some (elems[i]'(by omega)) := List.getElem?_eq_getElem (by omega)
      rw [h2] at h1
      obtain ⟨cs, hc, ht⟩ := Option.bind_eq_some_iff.1 h1
      obtain ⟨t, vp, vq, d0, d1, d2, rfl, hlab, hp, hq, hd, l1, l2⟩ := tran_trod T ht
      obtain ⟨_, hcl, hcell⟩ := World.cells?_some hc
      have e : ∀ j, (⟨b, o, none⟩ : Addr).add (i * 3) = ⟨b, o + i * 3, none⟩ ∧ (⟨b, o + i * 3, none⟩ : Addr).add j = ⟨b, o + i * 3 + j, none⟩ := fun j => ⟨add_plain _ _ _, add_plain _ _ _⟩
      have c0 := hcell 0 (by omega)
      have c1 := hcell 1 (by omega)
      have c2 := hcell 2 (by omega)
      rw [(e 0).1, (e 0).2] at c0
      rw [(e 1).1, (e 1).2] at c1
      rw [(e 2).1, (e 2).2] at c2
      refine ⟨t, b, o, vp, vq, d0, d1, d2, rfl, c0, c1, c2, hlab, hp, hq, ?_, l1, l2⟩
      rw [List.getElem?_map, h2, Option.map_some, hd]
    obtain ⟨l, hll, hp⟩ := choose_list len each
    refine ⟨l, TransR.intro (a := some a) (cap := cap) (by rw [hll]) (by omega) hm fun i hi => ?_, .inr ⟨elems.map (·.1), _, by rw [hx], by simp [hel, hll], fun i hi => ?_⟩⟩
    · obtain ⟨b, o, vp, vq, d0, d1, d2, rfl, c0, c1, c2, hlab, h1, h2, _⟩ := hp i (by omega)
      exact ⟨b, o, vp, vq, rfl, c0, c1, c2, hlab, h1, h2⟩
    · obtain ⟨b, o, vp, vq, d0, d1, d2, rfl, c0, c1, c2, hlab, h1, h2, h3, h4, h5⟩ := hp i (by omega)
      exact ⟨d0, d1, d2, h3, h4, h5⟩

/-- what the reading of a net says of its sizes -/
def NetLen (d : DataW H) (N : NetD) : Prop := ∃ d0 d1, d = .agg [d0, d1] ∧ ((d1 = .nil ∧ N.trans = []) ∨ ∃ es sp, d1 = .slice es sp ∧ es.length = N.trans.length ∧ ∀ i, i < N.trans.length → ∃ e0 e1 e2, es[i]? = some (.agg [e0, e1, e2]) ∧ LenOf e1 (N.tr i).pre.length ∧ LenOf e2 (N.tr i).post.length)

theorem net_open {tn ts tt sl el : TypeId} {fn ft : Array Field} (T : NetTy P tn ts tt sl el fn ft) {W : World} {base : Nat} {v : Value} {d : DataW H} {ps : List MemPlace} (hval : Value.okWide P W .any base tn v)
    (hd : DataW.Trod enc P W 0 (fun _ => true) true tn v d ps) : ∃ N, NetR W v N ∧ NetLen d N := by
  obtain ⟨cs, rfl, hsz⟩ := okWide_struct T.net hval
  obtain ⟨fuel, hf⟩ := hd
  obtain ⟨xs, n, _, hx, hl, hxl, hat⟩ := DataW.trod_struct T.net hf
  obtain ⟨f0, f1, rfl, o0, o1, t0, t1⟩ := T.nets
  rw [T.cTn] at hl hsz
  obtain ⟨l⟩ := cs
  match l, hsz with
  | [c0, c1], _ =>
    have h0 := hat 0 f0 rfl
    have h1 := hat 1 f1 rfl
    rw [o0, t0, T.cEl] at h0
    rw [o1, t1, T.cTs] at h1
    simp only [Value.cells, List.drop_zero, List.take_succ_cons, List.take_zero, List.drop_succ_cons] at h0 h1
    match xs, hxl with
    | [y0, y1], _ =>
      simp only [List.getElem?_cons_zero, List.getElem?_cons_succ] at h0 h1
      obtain ⟨n0, e0, r0, w0⟩ := DataW.trod_int T.uEl h0
      cases e0
      obtain ⟨l, hT, hlen⟩ := trans_trod T h1
      simp only [Prod.mk.injEq] at hx
      refine ⟨⟨n0, l⟩, NetR.mk_ (N := ⟨n0, l⟩) hT (bounds_i64 w0), y0.1, y1.1, hx.1, ?_⟩
      rcases hlen with h2 | ⟨es, sp, h2, h3, h4⟩
      · exact .inl h2
      · refine .inr ⟨es, sp, h2, h3, fun i hi => ?_⟩
        obtain ⟨e0, e1, e2, k1, k2, k3⟩ := h4 i hi
        refine ⟨e0, e1, e2, k1, ?_, ?_⟩
        · unfold NetD.tr; exact k2
        · unfold NetD.tr; exact k3
end
end Go.Tok
