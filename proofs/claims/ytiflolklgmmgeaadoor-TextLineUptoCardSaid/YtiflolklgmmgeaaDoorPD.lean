/- What every law's last step wants: the arguments of a call read as data; behind a call that turned nothing that lay there, they read as before. No program is in sight here. -/
import Derived.Test.YtiflolklgmmgeaaDoorPA
import Derived.ProofKit
import Derived.OpenShut
import Derived.ChangeOld
import Derived.SizedLaws
import Derived.JoinedCond
import Derived.Deep.CondSized
import Derived.Test.YtiflolklgmmgeaaDoorPB
namespace Go.Tok
open Go.RowKit Go.ChangeShapes Go.WideShapes Go.ChangeAt

section
variable {H : Type} {enc : TypeId × Value → H} {P : Program}

theorem trodAll_gr (hl : laidOutB P = true) {W W' : World} (hb : Below W.heap.size W W') : ∀ {ts : List TypeId} {vs : List Value} {ds : List (DataW H)} {ps : List MemPlace},
    (∀ t ∈ ts, P.readableRec t = true ∧ t < P.types.size) → DataW.TrodAll enc P W 0 (fun _ => true) true ts vs ds ps → (∀ x ∈ ps, x.block < W.heap.size) →
    DataW.TrodAll enc P W' 0 (fun b => decide (b < W.heap.size)) true ts vs ds ps
  | [], _, _, _, _, h, _ => by
    obtain ⟨rfl, rfl, rfl⟩ := trodAll_nil h
    exact trodAll_mk0
  | t :: ts, _, _, _, hr, h, hlt => by
    obtain ⟨v, vs, d, ds, p, q, rfl, rfl, rfl, h1, h2⟩ := trodAll_cons h
    obtain ⟨hr1, hr2⟩ := hr t (by simp)
    exact ⟨p, q, Below.trod hl hr1 hr2 h1 hb fun x hx => hlt x (List.mem_append_left _ hx), trodAll_gr hl hb (fun t ht => hr t (List.mem_cons_of_mem _ ht)) h2 fun x hx => hlt x (List.mem_append_right _ hx), rfl⟩

/-- THE LAST STEP OF EVERY LAW: it returned true, and nothing that lay there has turned. -/
theorem law_post (hl : laidOutB P = true) {f : Func} {s : ChangeSpec} {W W' : World} {args : Array Value} {ds gs : List (DataW H)} {before : List MemPlace}
    (hp : ∀ t ∈ f.params.toList, P.readableRec t = true ∧ t < P.types.size) {tb : TypeId} (htb : P.underlying tb = some .bool) (hres : f.resultTypes = #[tb]) (hvars : s.vars = [])
    (hs : s.fn H ds = { results := [.lit (.bool true)], args := ds })
    (hW : DataW.Whole enc P f.params.toList s.vars false W args.toList ds gs before) (hg : Gr W W') :
    s.post enc P f false true false false W args (.bool true) W' := by
  have hlt : ∀ p ∈ before, p.block < W.heap.size := fun p hp => hW.lt p hp
  have hW' := hW
  obtain ⟨p, q, hA, hV, rfl, _, _⟩ := hW'
  rw [hvars] at hV
  obtain ⟨rfl, rfl⟩ := trodVars_none hV
  rw [List.append_nil] at hW hlt
  refine ⟨ds, [], p, [], p, [], hW, ?_, ?_, ?_, hg.below.frame _, fun h => by cases h⟩
  · rw [List.append_nil, hs, hres]
    exact trodAll_cons_mk (shut_bool htb _) trodAll_mk0
  · rw [List.append_nil, hs]
    exact trodAll_gr hl hg.below hp hA hlt
  · rw [List.append_nil, hs, hvars]
    rfl

/-- an int among the arguments -/
theorem int_open {W : World} {base : Nat} {t : TypeId} {v : Value} {d : DataW H} {ps : List MemPlace} (ht : P.underlying t = some (.int .i64)) (hval : Value.okWide P W .any base t v)
    (hd : DataW.Trod enc P W 0 (fun _ => true) true t v d ps) : ∃ n, v = .int .i64 n ∧ I64 n := by
  obtain ⟨n, rfl, _, _, hw⟩ := open_int ht hval hd
  exact ⟨n, rfl, bounds_i64 hw⟩

theorem spot_none {a : Addr} {w : World} {v : Value} (h : w.cell? (a.add 0) = some v) : ∃ b o, a = ⟨b, o, none⟩ := by
  obtain ⟨b, o, s⟩ := a
  have hs := World.cell?_spot h
  simp [Addr.add] at hs
  subst hs
  exact ⟨b, o, rfl⟩

/-- what the reading of a '[]int' says of its length -/
def LenOf (d : DataW H) (n : Nat) : Prop := (d = .nil ∧ n = 0) ∨ ∃ es sp, d = .slice es sp ∧ es.length = n

theorem ints_trod {W : World} {t e : TypeId} {v : Value} {fuel : Nat} {x : DataW H × List MemPlace} (ht : P.underlying t = some (.slice e)) (he : P.underlying e = some (.int .i64)) (hc : P.cellsOf e = 1)
    (hf : DataW.trod enc P W 0 (fun _ => true) true fuel t [v] = some x) : ∃ xs, Ints W v xs ∧ LenOf x.1 xs.length := by
  rcases open_ints ht he hc hf with ⟨hcs, hx⟩ | ⟨a', len', cap', zs, hcs, _, hl, hm, hz, hx, hcell, hwz⟩
  · cases hcs
    exact ⟨[], Ints.nil W, .inl ⟨by rw [hx], rfl⟩⟩
  · cases hcs
    simp at hz
    have hlen : (zs.take len').length = len' := by rw [List.length_take]; omega
    refine ⟨zs.take len', ?_, .inr ⟨_, _, by rw [hx], by simp [lits]⟩⟩
    refine Ints.intro (a := some a') (cap := cap') (by rw [hlen]) (by rw [hlen]; exact hl) hm (fun x hx => bounds_i64 (hwz x (List.mem_of_mem_take hx))) (fun h => by cases h) fun i hi => ?_
    rw [hlen] at hi
    obtain ⟨b, o, rfl⟩ := spot_none (hcell 0 (by omega))
    refine ⟨b, o, rfl, ?_⟩
    rw [nth_take hi, ← hcell i (by omega), add_plain]

theorem ints_open {W : World} {base : Nat} {t e : TypeId} {v : Value} {d : DataW H} {ps : List MemPlace} (ht : P.underlying t = some (.slice e)) (he : P.underlying e = some (.int .i64)) (hc : P.cellsOf e = 1)
    (hval : Value.okWide P W .any base t v) (hd : DataW.Trod enc P W 0 (fun _ => true) true t v d ps) : ∃ xs, Ints W v xs ∧ LenOf d xs.length := by
  obtain ⟨a, len, cap, rfl⟩ := okWide_slice ht hval
  obtain ⟨fuel, hf⟩ := hd
  exact ints_trod ht he hc hf
/-- the form's own reach bounds a length -/
theorem LenOf.reach {d : DataW H} {n : Nat} {t e : TypeId} (h : LenOf d n) (ht : P.underlying t = some (.slice e)) (hby : P.bytesOf e = 8) (hw : ∀ k ∈ d.weights P t, k ≤ reachBytes) : n ≤ 17592186043904 := by
  rcases h with ⟨rfl, rfl⟩ | ⟨es, sp, rfl, rfl⟩
  · omega
  · have := hw ((es.length + sp.length) * P.bytesOf e) (by simp [DataW.weights, ht])
    rw [hby] at this
    have h2 : reachBytes = 140737488351232 := by decide
    omega
end
end Go.Tok

/- A net among the arguments of a call, opened. No program is in sight here. -/
namespace Go.Tok
open Go.RowKit Go.ChangeShapes Go.WideShapes Go.ChangeAt

theorem choose_list {α : Type} [Inhabited α] {p : Nat → α → Prop} : ∀ n, (∀ i, i < n → ∃ x, p i x) → ∃ l : List α, l.length = n ∧ ∀ i, i < n → p i (l.getD i default)
  | 0, _ => ⟨[], rfl, fun i hi => by omega⟩
  | n + 1, h => by
    obtain ⟨l, hl, hp⟩ := choose_list n fun i hi => h i (by omega)
    obtain ⟨x, hx⟩ := h n (by omega)
    refine ⟨l ++ [x], by simp [hl], fun i hi => ?_⟩
    by_cases h1 : i < n
    · have : (l ++ [x]).getD i default = l.getD i default := by
        simp only [List.getD_eq_getElem?_getD]
        rw [List.getElem?_append_left (by omega)]
      rw [this]; exact hp i h1
    · have h2 : i = n := by omega
      subst h2
      have : (l ++ [x]).getD i default = x := by
        simp only [List.getD_eq_getElem?_getD]
        rw [List.getElem?_append_right (by omega), hl]; simp
      rw [this]; exact hx

section
variable {H : Type} {enc : TypeId × Value → H} {P : Program}

/-- the types of a net -/
structure NetTy (P : Program) (tn ts tt sl el : TypeId) (fn ft : Array Field) : Prop where
  net : P.underlying tn = some (.struct fn)
  nets : ∃ f0 f1, fn = #[f0, f1] ∧ f0.offset = 0 ∧ f1.offset = 1 ∧ f0.type = el ∧ f1.type = ts
  trans : P.underlying ts = some (.slice tt)
  tran : P.underlying tt = some (.struct ft)
  trs : ∃ f0 f1 f2, ft = #[f0, f1, f2] ∧ f0.offset = 0 ∧ f1.offset = 1 ∧ f2.offset = 2 ∧ f0.type = el ∧ f1.type = sl ∧ f2.type = sl
  uSl : P.underlying sl = some (.slice el)
  uEl : P.underlying el = some (.int .i64)
  cEl : P.cellsOf el = 1
  cSl : P.cellsOf sl = 1
  cTs : P.cellsOf ts = 1
  cTt : P.cellsOf tt = 3
  cTn : P.cellsOf tn = 2

theorem tran_trod {tn ts tt sl el : TypeId} {fn ft : Array Field} (T : NetTy P tn ts tt sl el fn ft) {W : World} {fuel : Nat} {cs : List Value} {x : DataW H × List MemPlace} (hf : DataW.trod enc P W 0 (fun _ => true) true fuel tt cs = some x) :
    ∃ (t : TranD) (vp vq : Value) (d0 d1 d2 : DataW H), cs = [.int .i64 t.label, vp, vq] ∧ I64 t.label ∧ Ints W vp t.pre ∧ Ints W vq t.post ∧ x.1 = .agg [d0, d1, d2] ∧ LenOf d1 t.pre.length ∧ LenOf d2 t.post.length := by
  obtain ⟨xs, n, _, hx, hl, hxl, hat⟩ := DataW.trod_struct T.tran hf
  obtain ⟨f0, f1, f2, rfl, o0, o1, o2, t0, t1, t2⟩ := T.trs
  rw [T.cTt] at hl
  match cs, hl with
  | [c0, c1, c2], _ =>
    have h0 := hat 0 f0 rfl
    have h1 := hat 1 f1 rfl
    have h2 := hat 2 f2 rfl
    rw [o0, t0, T.cEl] at h0
    rw [o1, t1, T.cSl] at h1
    rw [o2, t2, T.cSl] at h2
    simp only [List.drop_zero, List.take_succ_cons, List.take_zero, List.drop_succ_cons] at h0 h1 h2
    match xs, hxl with
    | [y0, y1, y2], _ =>
      simp only [List.getElem?_cons_zero, List.getElem?_cons_succ] at h0 h1 h2
      obtain ⟨n0, e0, r0, w0⟩ := DataW.trod_int T.uEl h0
      cases e0
      obtain ⟨p, hp, lp⟩ := ints_trod T.uSl T.uEl T.cEl h1
      obtain ⟨q, hq, lq⟩ := ints_trod T.uSl T.uEl T.cEl h2
      exact ⟨⟨n0, p, q⟩, c1, c2, y0.1, y1.1, y2.1, rfl, bounds_i64 w0, hp, hq, by rw [hx]; rfl, lp, lq⟩

theorem trans_trod {tn ts tt sl el : TypeId} {fn ft : Array Field} (T : NetTy P tn ts tt sl el fn ft) {W : World} {fuel : Nat} {v : Value} {x : DataW H × List MemPlace} (hf : DataW.trod enc P W 0 (fun _ => true) true fuel ts [v] = some x) :
    ∃ l, TransR W v l ∧ ((x.1 = .nil ∧ l = []) ∨ ∃ es sp, x.1 = .slice es sp ∧ es.length = l.length ∧ ∀ i, i < l.length → ∃ d0 d1 d2, es[i]? = some (.agg [d0, d1, d2]) ∧ LenOf d1 (l.getD i default).pre.length ∧ LenOf d2 (l.getD i default).post.length) := by
  rcases DataW.trod_slice T.trans hf with ⟨hcs, hx⟩ | ⟨a, len, cap, elems, rest, n, _, hcs, hx, _, hl, hm, hel, hat, _, _⟩
  · cases hcs
    exact ⟨[], TransR.nil W, .inl ⟨by rw [hx], rfl⟩⟩
  · cases hcs
    have each : ∀ i, i < len → ∃ t : TranD, ∃ (b o : Nat) (vp vq : Value) (d0 d1 d2 : DataW H), a = ⟨b, o, none⟩ ∧ W.cell? ⟨b, o + i * 3, none⟩ = some (.int .i64 t.label) ∧ W.cell? ⟨b, o + i * 3 + 1, none⟩ = some vp ∧ W.cell? ⟨b, o + i * 3 + 2, none⟩ = some vq ∧
        I64 t.label ∧ Ints W vp t.pre ∧ Ints W vq t.post ∧ (elems.map (·.1))[i]? = some (.agg [d0, d1, d2]) ∧ LenOf d1 t.pre.length ∧ LenOf d2 t.post.length := by
      intro i hi
      have first : ∃ b o, a = ⟨b, o, none⟩ := by
        have h1 := hat 0 (by omega)
        rw [T.cTt] at h1
        have h2 : elems[0]? = some (elems[0]'(by omega)) := List.getElem?_eq_getElem (by omega)
        rw [h2] at h1
        obtain ⟨cs, hc, ht⟩ := Option.bind_eq_some_iff.1 h1
        obtain ⟨_, hcl, hcell⟩ := World.cells?_some hc
        have h3 := hcell 0 (by omega)
        rw [List.getElem?_eq_getElem (by omega)] at h3
        simp only [Nat.zero_mul] at h3
        have h4 : (a.add 0).add 0 = a.add 0 := by simp [Addr.add]
        rw [h4] at h3
        exact spot_none h3
      obtain ⟨b, o, rfl⟩ := first
      have h1 := hat i hi
      rw [T.cTt] at h1
      have h2 : elems[i]? = some (elems[i]'(by omega)) := List.getElem?_eq_getElem (by omega)
      rw [h2] at h1
      obtain ⟨cs, hc, ht⟩ := Option.bind_eq_some_iff.1 h1
      obtain ⟨t, vp, vq, d0, d1, d2, rfl, hlab, hp, hq, hd, l1, l2⟩ := tran_trod T ht
      obtain ⟨_, hcl, hcell⟩ := World.cells?_some hc
      have e : ∀ j, (⟨b, o, none⟩ : Addr).add (i * 3) = ⟨b, o + i * 3, none⟩ ∧ (⟨b, o + i * 3, none⟩ : Addr).add j = ⟨b, o + i * 3 + j, none⟩ := fun j => ⟨add_plain _ _ _, add_plain _ _ _⟩
      have c0 := hcell 0 (by omega)
      have c1 := hcell 1 (by omega)
      have c2 := hcell 2 (by omega)
      rw [(e 0).1, (e 0).2] at c0
      rw [(e 1).1, (e 1).2] at c1
      rw [(e 2).1, (e 2).2] at c2
      refine ⟨t, b, o, vp, vq, d0, d1, d2, rfl, c0, c1, c2, hlab, hp, hq, ?_, l1, l2⟩
      rw [List.getElem?_map, h2, Option.map_some, hd]
    obtain ⟨l, hll, hp⟩ := choose_list len each
    refine ⟨l, TransR.intro (a := some a) (cap := cap) (by rw [hll]) (by omega) hm fun i hi => ?_, .inr ⟨elems.map (·.1), _, by rw [hx], by simp [hel, hll], fun i hi => ?_⟩⟩
    · obtain ⟨b, o, vp, vq, d0, d1, d2, rfl, c0, c1, c2, hlab, h1, h2, _⟩ := hp i (by omega)
      exact ⟨b, o, vp, vq, rfl, c0, c1, c2, hlab, h1, h2⟩
    · obtain ⟨b, o, vp, vq, d0, d1, d2, rfl, c0, c1, c2, hlab, h1, h2, h3, h4, h5⟩ := hp i (by omega)
      exact ⟨d0, d1, d2, h3, h4, h5⟩

/-- what the reading of a net says of its sizes -/
def NetLen (d : DataW H) (N : NetD) : Prop := ∃ d0 d1, d = .agg [d0, d1] ∧ ((d1 = .nil ∧ N.trans = []) ∨ ∃ es sp, d1 = .slice es sp ∧ es.length = N.trans.length ∧ ∀ i, i < N.trans.length → ∃ e0 e1 e2, es[i]? = some (.agg [e0, e1, e2]) ∧ LenOf e1 (N.tr i).pre.length ∧ LenOf e2 (N.tr i).post.length)

theorem net_open {tn ts tt sl el : TypeId} {fn ft : Array Field} (T : NetTy P tn ts tt sl el fn ft) {W : World} {base : Nat} {v : Value} {d : DataW H} {ps : List MemPlace} (hval : Value.okWide P W .any base tn v)
    (hd : DataW.Trod enc P W 0 (fun _ => true) true tn v d ps) : ∃ N, NetR W v N ∧ NetLen d N := by
  obtain ⟨cs, rfl, hsz⟩ := okWide_struct T.net hval
  obtain ⟨fuel, hf⟩ := hd
  obtain ⟨xs, n, _, hx, hl, hxl, hat⟩ := DataW.trod_struct T.net hf
  obtain ⟨f0, f1, rfl, o0, o1, t0, t1⟩ := T.nets
  rw [T.cTn] at hl hsz
  obtain ⟨l⟩ := cs
  match l, hsz with
  | [c0, c1], _ =>
    have h0 := hat 0 f0 rfl
    have h1 := hat 1 f1 rfl
    rw [o0, t0, T.cEl] at h0
    rw [o1, t1, T.cTs] at h1
    simp only [Value.cells, List.drop_zero, List.take_succ_cons, List.take_zero, List.drop_succ_cons] at h0 h1
    match xs, hxl with
    | [y0, y1], _ =>
      simp only [List.getElem?_cons_zero, List.getElem?_cons_succ] at h0 h1
      obtain ⟨n0, e0, r0, w0⟩ := DataW.trod_int T.uEl h0
      cases e0
      obtain ⟨l, hT, hlen⟩ := trans_trod T h1
      simp only [Prod.mk.injEq] at hx
      refine ⟨⟨n0, l⟩, NetR.mk_ (N := ⟨n0, l⟩) hT (bounds_i64 w0), y0.1, y1.1, hx.1, ?_⟩
      rcases hlen with h2 | ⟨es, sp, h2, h3, h4⟩
      · exact .inl h2
      · refine .inr ⟨es, sp, h2, h3, fun i hi => ?_⟩
        obtain ⟨e0, e1, e2, k1, k2, k3⟩ := h4 i hi
        refine ⟨e0, e1, e2, k1, ?_, ?_⟩
        · unfold NetD.tr; exact k2
        · unfold NetD.tr; exact k3
end
end Go.Tok

/- Rows of whatever kind among the arguments of a call, opened. No program is in sight here. -/
namespace Go.Tok
open Go.RowKit Go.ChangeShapes Go.WideShapes Go.ChangeAt
set_option linter.unusedVariables false

section
variable {H : Type} {enc : TypeId × Value → H} {P : Program}

/-- what the reading of a row says of its elements -/
def RowOf {α : Type} [Inhabited α] (D : DataW H → α → Prop) (d : DataW H) (ys : List α) : Prop :=
  (d = .nil ∧ ys = []) ∨ ∃ es sp, d = .slice es sp ∧ es.length = ys.length ∧ ∀ i, i < ys.length → ∃ e, es[i]? = some e ∧ D e (ix ys i)
theorem RowOf.lenOf {α : Type} [Inhabited α] {D : DataW H → α → Prop} {d : DataW H} {ys : List α} (h : RowOf D d ys) : LenOf d ys.length := by
  rcases h with ⟨h1, rfl⟩ | ⟨es, sp, h1, h2, _⟩
  · exact .inl ⟨h1, rfl⟩
  · exact .inr ⟨es, sp, h1, h2⟩

theorem rd_trod {α : Type} [Inhabited α] {K : Kind α} {D : DataW H → α → Prop} {ts tt : TypeId} (hs : P.underlying ts = some (.slice tt)) (hc : P.cellsOf tt = K.size) (hp : 0 < K.size) {W : World} {fuel : Nat} {v : Value} {x : DataW H × List MemPlace}
    (helem : ∀ n cs y, n < fuel → DataW.trod enc P W 0 (fun _ => true) true n tt cs = some y → ∃ z, K.R W cs z ∧ D y.1 z)
    (hf : DataW.trod enc P W 0 (fun _ => true) true fuel ts [v] = some x) : ∃ ys, Rd K W v ys ∧ RowOf D x.1 ys := by
  rcases DataW.trod_slice hs hf with ⟨hcs, hx⟩ | ⟨a, len, cap, elems, rest, n, hfn, hcs, hx, _, hl, hm, hel, hat, _, _⟩
  · cases hcs
    exact ⟨[], Rd.nil W, .inl ⟨by rw [hx], rfl⟩⟩
  · cases hcs
    have each : ∀ i, i < len → ∃ z : α, ∃ (b o : Nat) (vs : List Value) (e : DataW H), a = ⟨b, o, none⟩ ∧ K.R W vs z ∧ (∀ j u, vs[j]? = some u → W.cell? ⟨b, o + i * K.size + j, none⟩ = some u) ∧ (elems.map (·.1))[i]? = some e ∧ D e z := by
      intro i hi
      have h1 := hat i hi
      rw [hc] at h1
      have h2 : elems[i]? = some (elems[i]'(by omega)) := List.getElem?_eq_getElem (by omega)
      rw [h2] at h1
      obtain ⟨cs, hcc, ht⟩ := Option.bind_eq_some_iff.1 h1
      obtain ⟨_, hcl, hcell⟩ := World.cells?_some hcc
      obtain ⟨z, hz, hd⟩ := helem n cs _ (by omega) ht
      have first : ∃ b o, a = ⟨b, o, none⟩ := by
        have h1 := hat 0 (by omega)
        rw [hc] at h1
        have h2 : elems[0]? = some (elems[0]'(by omega)) := List.getElem?_eq_getElem (by omega)
        rw [h2] at h1
        obtain ⟨cs, hc', ht⟩ := Option.bind_eq_some_iff.1 h1
        obtain ⟨_, hcl, hcell⟩ := World.cells?_some hc'
        have h3 := hcell 0 hp
        rw [List.getElem?_eq_getElem (by omega)] at h3
        simp only [Nat.zero_mul] at h3
        have h4 : (a.add 0).add 0 = a.add 0 := by simp [Addr.add]
        rw [h4] at h3
        exact spot_none h3
      obtain ⟨b, o, rfl⟩ := first
      refine ⟨z, b, o, cs, _, rfl, hz, fun j u hj => ?_, by rw [List.getElem?_map, h2, Option.map_some], hd⟩
      have hj' : j < K.size := by rw [← hcl]; exact (List.getElem?_eq_some_iff.1 hj).1
      have h3 := hcell j hj'
      rw [add_none, add_none] at h3
      rw [h3]; exact hj
    obtain ⟨l, hll, hp'⟩ := choose_list len each
    refine ⟨l, ?_, .inr ⟨elems.map (·.1), _, by rw [hx], by simp [hel, hll], fun i hi => ?_⟩⟩
    · refine rd_mk (a := some a) (cap := cap) (by rw [hll]) (by omega) hm (fun h => by cases h) fun i hi => ?_
      obtain ⟨b, o, vs, e, rfl, h1, h2, _⟩ := hp' i (by omega)
      exact ⟨b, o, vs, rfl, by rw [ix_def]; exact h1, h2⟩
    · obtain ⟨b, o, vs, e, rfl, h1, h2, h3, h4⟩ := hp' i (by omega)
      exact ⟨e, h3, by rw [ix_def]; exact h4⟩

theorem row_trod {tt el : TypeId} (ht : P.underlying tt = some (.slice el)) (he : P.underlying el = some (.int .i64)) (hc : P.cellsOf el = 1) {W : World} {n : Nat} {cs : List Value} {y : DataW H × List MemPlace} (h : DataW.trod enc P W 0 (fun _ => true) true n tt cs = some y) : ∃ z, rowK.R W cs z ∧ LenOf y.1 z.length := by
  have hv : ∃ v, cs = [v] := by
    rcases DataW.trod_slice ht h with ⟨hcs, _⟩ | ⟨a, len, cap, elems, rest, m, _, hcs, _⟩
    · exact ⟨_, hcs⟩
    · exact ⟨_, hcs⟩
  obtain ⟨v, rfl⟩ := hv
  obtain ⟨xs, h1, h2⟩ := ints_trod ht he hc h
  exact ⟨xs, ⟨v, rfl, h1⟩, h2⟩
theorem byte_trod {tt : TypeId} (ht : P.underlying tt = some (.int .u8)) {W : World} {n : Nat} {cs : List Value} {y : DataW H × List MemPlace} (h : DataW.trod enc P W 0 (fun _ => true) true n tt cs = some y) : ∃ z, byteK.R W cs z ∧ True := by
  obtain ⟨m, rfl, _, hw⟩ := DataW.trod_int ht h
  have hb : 0 ≤ m ∧ m < 256 := by
    simp [Lit.wf, IntKind.min, IntKind.max, IntKind.bits, IntKind.signed] at hw
    omega
  obtain ⟨q, rfl⟩ := Int.eq_ofNat_of_zero_le hb.1
  exact ⟨q, ⟨rfl, by omega⟩, trivial⟩

/-- a struct of ints -/
theorem five_trod {tt el : TypeId} {fs : Array Field} (ht : P.underlying tt = some (.struct fs)) (hel : P.underlying el = some (.int .i64)) (hce : P.cellsOf el = 1) (hct : P.cellsOf tt = 5)
    (hfs : ∃ f0 f1 f2 f3 f4, fs = #[f0, f1, f2, f3, f4] ∧ f0.offset = 0 ∧ f1.offset = 1 ∧ f2.offset = 2 ∧ f3.offset = 3 ∧ f4.offset = 4 ∧ f0.type = el ∧ f1.type = el ∧ f2.type = el ∧ f3.type = el ∧ f4.type = el)
    {W : World} {n : Nat} {cs : List Value} {y : DataW H × List MemPlace} (h : DataW.trod enc P W 0 (fun _ => true) true n tt cs = some y) : ∃ z, opK.R W cs z ∧ True := by
  obtain ⟨xs, m, _, hx, hl, hxl, hat⟩ := DataW.trod_struct ht h
  obtain ⟨f0, f1, f2, f3, f4, rfl, o0, o1, o2, o3, o4, t0, t1, t2, t3, t4⟩ := hfs
  rw [hct] at hl
  match cs, hl with
  | [c0, c1, c2, c3, c4], _ =>
    have h0 := hat 0 f0 rfl
    have h1 := hat 1 f1 rfl
    have h2 := hat 2 f2 rfl
    have h3 := hat 3 f3 rfl
    have h4 := hat 4 f4 rfl
    rw [o0, t0, hce] at h0
    rw [o1, t1, hce] at h1
    rw [o2, t2, hce] at h2
    rw [o3, t3, hce] at h3
    rw [o4, t4, hce] at h4
    simp only [List.drop_zero, List.take_succ_cons, List.take_zero, List.drop_succ_cons] at h0 h1 h2 h3 h4
    match xs, hxl with
    | [y0, y1, y2, y3, y4], _ =>
      simp only [List.getElem?_cons_zero, List.getElem?_cons_succ] at h0 h1 h2 h3 h4
      obtain ⟨n0, e0, r0, w0⟩ := DataW.trod_int hel h0
      obtain ⟨n1, e1, r1, w1⟩ := DataW.trod_int hel h1
      obtain ⟨n2, e2, r2, w2⟩ := DataW.trod_int hel h2
      obtain ⟨n3, e3, r3, w3⟩ := DataW.trod_int hel h3
      obtain ⟨n4, e4, r4, w4⟩ := DataW.trod_int hel h4
      cases e0; cases e1; cases e2; cases e3; cases e4
      exact ⟨⟨n0, n1, n2, n3, n4⟩, ⟨rfl, bounds_i64 w0, bounds_i64 w1, bounds_i64 w2, bounds_i64 w3, bounds_i64 w4⟩, trivial⟩
theorem rd_open {α : Type} [Inhabited α] {K : Kind α} {D : DataW H → α → Prop} {ts tt : TypeId} (hs : P.underlying ts = some (.slice tt)) (hc : P.cellsOf tt = K.size) (hp : 0 < K.size) {W : World} {base : Nat} {v : Value} {d : DataW H} {ps : List MemPlace}
    (helem : ∀ n cs y, DataW.trod enc P W 0 (fun _ => true) true n tt cs = some y → ∃ z, K.R W cs z ∧ D y.1 z)
    (hval : Value.okWide P W .any base ts v) (hd : DataW.Trod enc P W 0 (fun _ => true) true ts v d ps) : ∃ ys, Rd K W v ys ∧ RowOf D d ys := by
  obtain ⟨a, len, cap, rfl⟩ := okWide_slice hs hval
  obtain ⟨fuel, hf⟩ := hd
  exact rd_trod hs hc hp (fun n cs y _ h => helem n cs y h) hf
/-- the form's own reach bounds a length -/
theorem LenOf.reachB {d : DataW H} {n k : Nat} {t e : TypeId} (h : LenOf d n) (ht : P.underlying t = some (.slice e)) (hby : P.bytesOf e = k) (hw : ∀ m ∈ d.weights P t, m ≤ reachBytes) : n * k ≤ 140737488351232 := by
  rcases h with ⟨rfl, rfl⟩ | ⟨es, sp, rfl, rfl⟩
  · omega
  · have := hw ((es.length + sp.length) * P.bytesOf e) (by simp [DataW.weights, ht])
    rw [hby, Nat.add_mul] at this
    have h2 : reachBytes = 140737488351232 := by decide
    omega
end
end Go.Tok
