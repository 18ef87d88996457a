/- A drawn region whose last operation waits for all the others: the others are walked under a held condition that need not outlive them, then the last is run. -/
import Derived.Deep.RegionHeld3
import Derived.Test.YtjpapgbdhflgnaaPA
namespace Go.Proofs.Ytjpapgbdhflgnaa
open Go.RowKit Go.Tok
set_option linter.unusedVariables false

section
variable {P : Program} {Q : Exit → Act → World → Prop} {ops : Array Oper} {o : Oper}

/-- Every operation but the last is waited for by a later one; each waits for and is guarded by earlier ones alone. -/
def ChainsB (md : Region.Mode) (ops : Array Oper) (o : Oper) : Bool :=
  ((List.range ops.size).all fun i => (List.range (ops.size + 1)).any fun j => decide (i < j) && (((ops.push o)[j]?).map fun x => x.after.any fun e => Region.binds md e && e.on == i).getD false) &&
  ((List.range ops.size).all fun i => ((ops[i]?).map fun x => (x.after.all fun e => !Region.binds md e || decide (e.on < i)) && (match x.guard with | none => true | some (g, _) => decide (g < i))).getD false) &&
  (o.after.all fun e => !Region.binds md e || decide (e.on < ops.size))

theorem chains_out {md : Region.Mode} (h : ChainsB md ops o = true) :
    (∀ i, i < ops.size → ∃ j x, i < j ∧ j ≤ ops.size ∧ (ops.push o)[j]? = some x ∧ ∃ e ∈ x.after, Region.binds md e = true ∧ e.on = i) ∧
    (∀ i x, ops[i]? = some x → (∀ e ∈ x.after, Region.binds md e = true → e.on < i) ∧ (∀ g b, x.guard = some (g, b) → g < i)) ∧
    (∀ e ∈ o.after, Region.binds md e = true → e.on < ops.size) := by
  unfold ChainsB at h
  simp only [Bool.and_eq_true, List.all_eq_true, List.mem_range, List.any_eq_true] at h
  obtain ⟨⟨h1, h2⟩, h3⟩ := h
  refine ⟨fun i hi => ?_, fun i x hx => ?_, fun e he hb => ?_⟩
  · obtain ⟨j, hj, hij, hm⟩ := h1 i hi
    cases hx : (ops.push o)[j]? with
    | none => rw [hx] at hm; simp at hm
    | some x =>
      rw [hx] at hm
      simp only [Option.map_some, Option.getD_some] at hm
      obtain ⟨e, he, hb⟩ := Array.any_eq_true'.1 hm
      simp only [Bool.and_eq_true, beq_iff_eq] at hb
      exact ⟨j, x, by simpa using hij, by omega, hx, e, he, hb.1, hb.2⟩
  · have hlt : i < ops.size := (Array.getElem?_eq_some_iff.1 hx).1
    have h := h2 i hlt
    rw [hx] at h
    simp only [Option.map_some, Option.getD_some, Bool.and_eq_true] at h
    refine ⟨fun e he hb => ?_, fun g b hg => ?_⟩
    · have := (Array.all_eq_true_iff_forall_mem.1 h.1) e he
      simpa [hb] using this
    · have := h.2
      rw [hg] at this
      simpa using this
  · have := (Array.all_eq_true_iff_forall_mem.1 h3) e he
    simpa [hb] using this

theorem getD_push_false {l : Array Bool} (j : Nat) : (l.push false).getD j false = l.getD j false := by
  simp only [Array.getD_eq_getD_getElem?, Array.getElem?_push]
  by_cases h : j = l.size
  · subst h; simp
  · simp [h]

theorem getD_push_true {l : Array Bool} {j : Nat} (h : j < l.size) : (l.push false).getD j true = l.getD j true := by
  simp only [Array.getD_eq_getD_getElem?, Array.getElem?_push]
  rw [if_neg (by omega)]

theorem push_lt {i : Nat} (h : i < ops.size) : (ops.push o)[i]? = ops[i]? := by
  rw [Array.getElem?_push]; rw [if_neg (by omega)]

/-- What is listed has all that it waits for listed. -/
def Shutd (md : Region.Mode) (ops : Array Oper) (l : Array Bool) : Prop := ∀ i x, ops[i]? = some x → l.getD i false = true → ∀ e ∈ x.after, Region.binds md e = true → l.getD e.on false = true

theorem ready_push {md : Region.Mode} {l : Array Bool} (hl : l.size = ops.size) {i : Nat} (hi : i < ops.size) :
    i ∈ Region.ready md (ops.push o) (l.push false) ↔ i ∈ Region.ready md ops l := by
  rw [mem_ready, mem_ready, push_lt hi, getD_push_true (by omega)]
  simp only [getD_push_false]

theorem all_listed_of_last {md : Region.Mode} (hc : ChainsB md ops o = true) {l : Array Bool} (hl : l.size = ops.size) (hs : Shutd md ops l)
    (h : ops.size ∈ Region.ready md (ops.push o) (l.push false)) : ∀ i, i < ops.size → l.getD i false = true := by
  obtain ⟨c1, c2, c3⟩ := chains_out hc
  obtain ⟨_, x, hx, hall⟩ := mem_ready.1 h
  have hxo : x = o := by simpa using hx.symm
  subst hxo
  have key : ∀ d i, i < ops.size → ops.size - i ≤ d → l.getD i false = true := by
    intro d
    induction d with
    | zero => intro i hi hd; omega
    | succ d ih =>
      intro i hi hd
      obtain ⟨j, y, hij, hj, hy, e, he, hb, heq⟩ := c1 i hi
      by_cases hjn : j = ops.size
      · subst hjn
        have hyo : y = x := by simpa using hy.symm
        subst hyo
        have := hall e he hb
        rw [getD_push_false, heq] at this
        exact this
      · have hjlt : j < ops.size := by omega
        rw [push_lt hjlt] at hy
        have := hs j y hy (ih j hjlt (by omega)) e he hb
        rw [heq] at this
        exact this
  exact fun i hi => key _ i hi (Nat.le_refl _)

theorem all_listed_of_none {md : Region.Mode} (hc : ChainsB md ops o = true) {l : Array Bool} (hl : l.size = ops.size)
    (h : Region.ready md ops l = []) : ∀ i, i < ops.size → l.getD i false = true := by
  obtain ⟨c1, c2, c3⟩ := chains_out hc
  intro i
  induction i using Nat.strongRecOn with
  | ind i ih =>
    intro hi
    have hx : ops[i]? = some ops[i] := Array.getElem?_eq_getElem hi
    cases hli : l.getD i false with
    | true => rfl
    | false =>
      exfalso
      have hm : i ∈ Region.ready md ops l := by
        rw [mem_ready]
        refine ⟨?_, ops[i], hx, fun e he hb => ih e.on ((c2 i _ hx).1 e he hb) (Nat.lt_trans ((c2 i _ hx).1 e he hb) hi)⟩
        have : i < l.size := by omega
        simp only [Array.getD_eq_getD_getElem?, Array.getElem?_eq_getElem this, Option.getD_some] at hli ⊢
        exact hli
      rw [h] at hm
      cases hm

/-- What follows the others: the last operation is run, then Q. -/
def cutPost (P : Program) (ops : Array Oper) (o : Oper) (Q : Exit → Act → World → Prop) : Exit → Act → World → Prop
  | .normal, a, w => wpOp P (ops.push o) Q ops.size (Q .normal) a w
  | e, a, w => Q e a w

theorem wp_cut {x : Oper} {a : Act} {w : World} {K K' : Act → World → Prop} (hK : ∀ a w, K' a w → K a w) (h : x.wp P a w K' (cutPost P ops o Q)) : x.wp P a w K Q := by
  unfold Oper.wp at *
  generalize (execOp a.eval x).run P w = r at *
  cases r with
  | ok n w' =>
    cases n <;> simp only [Oper.upon] at h ⊢
    case value u => exact hK _ _ h
    case skip => exact hK _ _ h
    case defer d => exact hK _ _ h
    case enter f args =>
      refine Calls.mono h fun e w'' he => ?_
      cases e with
      | returned u => exact hK _ _ he
      | panicked c => exact he
      | outgrown => exact he
    case row row args => exact Rows.mono h fun u w'' he => hK _ _ he
  | halt x w' =>
    cases x <;> simp only [Oper.upon] at h ⊢
    case panic u => exact h

theorem wpOp_cut {i : Nat} (hi : i < ops.size) (hg : ∀ x g b, ops[i]? = some x → x.guard = some (g, b) → g < ops.size) {a : Act} {w : World} {K K' : Act → World → Prop}
    (hK : ∀ a w, K' a w → K a w) (h : wpOp P ops (cutPost P ops o Q) i K' a w) : wpOp P (ops.push o) Q i K a w := by
  unfold wpOp at *
  rw [push_lt hi]
  have hx : ops[i]? = some ops[i] := Array.getElem?_eq_getElem hi
  rw [hx] at h ⊢
  have hw : Region.wanted ops[i] (yielded (ops.push o) a.tmps) = Region.wanted ops[i] (yielded ops a.tmps) := by
    unfold Region.wanted
    cases hgu : ops[i].guard with
    | none => rfl
    | some gb =>
      obtain ⟨g, b⟩ := gb
      have := hg _ g b hx hgu
      simp only [yielded, push_lt this]
  simp only [hw]
  simp only at h
  split
  · rename_i hw; simp only [hw, if_true] at h; exact h.imp (wp_cut hK) id
  · rename_i hw; simp only [hw] at h; exact hK _ _ h

theorem shutd_set {md : Region.Mode} {l : Array Bool} (hl : l.size = ops.size) (hs : Shutd md ops l) {i : Nat} (hi : i ∈ Region.ready md ops l) : Shutd md ops (l.setIfInBounds i true) := by
  intro j x hx hj e he hb
  by_cases hij : i = j
  · subst hij
    obtain ⟨_, y, hy, hall⟩ := mem_ready.1 hi
    rw [hx] at hy
    obtain rfl := Option.some.inj hy
    exact getD_set_true (hall e he hb)
  · rw [getD_set_ne false hij] at hj
    exact getD_set_true (hs j x hx hj e he hb)

theorem wpAny_cut {md : Region.Mode} (hc : ChainsB md ops o = true) : ∀ (fuel : Nat) (l : Array Bool) (a : Act) (w : World), l.size = ops.size → Shutd md ops l →
    wpAny P md ops (cutPost P ops o Q) fuel l a w → wpAny P md (ops.push o) Q (fuel + 1) (l.push false) a w := by
  have C := chains_out hc
  have c3 := C.2.2
  have last : ∀ (l : Array Bool), l.size = ops.size → Region.ready md ops l = [] → ops.size ∈ Region.ready md (ops.push o) (l.push false) := by
    intro l hl hr
    rw [mem_ready]
    refine ⟨by simp [← hl], o, by simp, fun e he hb => ?_⟩
    rw [getD_push_false]
    exact all_listed_of_none hc hl hr _ (c3 e he hb)
  have behind : ∀ (l : Array Bool), l.size = ops.size → (∀ i, i < ops.size → l.getD i false = true) → Region.ready md (ops.push o) ((l.push false).setIfInBounds ops.size true) = [] := by
    intro l hl hall
    refine List.eq_nil_iff_forall_not_mem.2 fun j hj => ?_
    obtain ⟨h0, x, hx, _⟩ := mem_ready.1 hj
    have hjn : j < ops.size + 1 := by have := (Array.getElem?_eq_some_iff.1 hx).1; simpa using this
    by_cases hjl : j = ops.size
    · subst hjl
      have : ((l.push false).setIfInBounds ops.size true).getD ops.size true = true := by simp [← hl]
      rw [this] at h0; cases h0
    · have hlt : j < ops.size := by omega
      rw [getD_set_ne true (Ne.symm hjl), getD_push_true (by omega)] at h0
      have := hall j hlt
      have hl' : j < l.size := by omega
      simp only [Array.getD_eq_getD_getElem?, Array.getElem?_eq_getElem hl', Option.getD_some] at h0 this
      rw [h0] at this; cases this
  have isLast : ∀ (l : Array Bool) (a : Act) (w : World) (f : Nat), l.size = ops.size → (∀ i, i < ops.size → l.getD i false = true) → cutPost P ops o Q .normal a w →
      wpOp P (ops.push o) Q ops.size (wpAny P md (ops.push o) Q f ((l.push false).setIfInBounds ops.size true)) a w := by
    intro l a w f hl hall h
    exact wpOp_mono (fun a' w' hq => wpAny_done (behind l hl hall) hq f) h
  intro fuel
  induction fuel with
  | zero =>
    intro l a w hl hs h
    obtain ⟨hr, hq⟩ := h
    refine ⟨fun h0 => (by have := last l hl hr; rw [h0] at this; cases this), fun i hi => ?_⟩
    have hin : i < ops.size + 1 := by obtain ⟨_, x, hx, _⟩ := mem_ready.1 hi; have := (Array.getElem?_eq_some_iff.1 hx).1; simpa using this
    by_cases hil : i = ops.size
    · subst hil; exact isLast l a w 0 hl (all_listed_of_none hc hl hr) hq
    · have := (ready_push (o := o) (md := md) hl (by omega)).1 hi
      rw [hr] at this; cases this
  | succ fuel ih =>
    intro l a w hl hs h
    obtain ⟨hq, hst⟩ := h
    refine ⟨fun h0 => ?_, fun i hi => ?_⟩
    · exfalso
      have hr : Region.ready md ops l = [] := List.eq_nil_iff_forall_not_mem.2 fun j hj => by
        have hjl : j < ops.size := by obtain ⟨_, x, hx, _⟩ := mem_ready.1 hj; exact (Array.getElem?_eq_some_iff.1 hx).1
        have := (ready_push (o := o) (md := md) hl hjl).2 hj
        rw [h0] at this; cases this
      have := last l hl hr
      rw [h0] at this; cases this
    have hin : i < ops.size + 1 := by obtain ⟨_, x, hx, _⟩ := mem_ready.1 hi; have := (Array.getElem?_eq_some_iff.1 hx).1; simpa using this
    by_cases hil : i = ops.size
    · subst hil
      have hall := all_listed_of_last hc hl hs hi
      have hr : Region.ready md ops l = [] := List.eq_nil_iff_forall_not_mem.2 fun j hj => by
        obtain ⟨h0, x, hx, _⟩ := mem_ready.1 hj
        have hjl : j < ops.size := (Array.getElem?_eq_some_iff.1 hx).1
        have := hall j hjl
        have hl' : j < l.size := by omega
        simp only [Array.getD_eq_getD_getElem?, Array.getElem?_eq_getElem hl', Option.getD_some] at h0 this
        rw [h0] at this; cases this
      exact isLast l a w (fuel + 1) hl hall (hq hr)
    · have hlt : i < ops.size := by omega
      have hi' := (ready_push (o := o) (md := md) hl hlt).1 hi
      refine wpOp_cut hlt (fun x g b hx hg => Nat.lt_trans ((C.2.1 i x hx).2 g b hg) hlt) (fun a' w' h' => ?_) (hst i hi')
      have := ih (l.setIfInBounds i true) a' w' (by simpa using hl) (shutd_set hl hs hi') h'
      have he : (l.setIfInBounds i true).push false = (l.push false).setIfInBounds i true := by
        apply Array.ext_getElem?
        intro k
        simp only [Array.getElem?_push, Array.getElem?_setIfInBounds, Array.size_setIfInBounds]
        by_cases hk : k = l.size <;> by_cases hik : i = k <;> simp_all <;> omega
      rw [he] at this
      exact this

/-- THE BEGINNING of a region whose last operation waits for all the others. -/
theorem wp_region_cut {S : World → Prop} {all : Array Oper} {id : Nat} {a : Act} {w : World} (ops : Array Oper) (o : Oper) (he : all = ops.push o) (hm : P.follows .mixedOrders = true) (hc : ChainsB .any ops o = true) (hS : S w.drew)
    (h : S w.drew → wpAnyH P .any ops (cutPost P ops o Q) S ops.size (Array.replicate ops.size false) a w.drew) : (Code.region id all true).wp P Q a w := by
  subst he
  refine wp_region_any hm ?_
  have := wpAny_cut (Q := Q) hc ops.size (Array.replicate ops.size false) a w.drew (by simp) (fun i x hx hj => by
    have hlt := (Array.getElem?_eq_some_iff.1 hx).1
    simp [hlt] at hj) (wpAny_of_held _ _ _ _ (h hS))
  have e : (Array.replicate ops.size false).push false = Array.replicate (ops.push o).size false := by simp [Array.replicate_succ]
  rw [e] at this
  simpa using this

theorem hold0 {S : World → Prop} {md : Region.Mode} {o0 : Oper} {rest : List Oper} {v : Value} {fuel : Nat} {listed : Array Bool} {a : Act} {w : World}
    (hs : Region.noSelect (List.toArray (o0 :: rest)) = true) (hf : Region.free md (List.toArray (o0 :: rest)) listed 0 = true) (hr : (Region.ready md (List.toArray (o0 :: rest)) listed).contains 0 = true)
    (hQ : ∀ c a w, Q (.panic c) (a.put o0.dst v) w → Q (.panic c) a w) (hw : Region.wanted o0 (yielded (List.toArray (o0 :: rest)) a.tmps) = true) (hy : ∀ w, S w → (execOp a.eval o0).run P w = .ok (.value v) w) (hS : S w)
    (h : wpAnyH P md (List.toArray (o0 :: rest)) Q S fuel (listed.setIfInBounds 0 true) (a.put o0.dst v) w) : wpAnyH P md (List.toArray (o0 :: rest)) Q S (fuel + 1) listed a w :=
  wpAnyH_take (i := 0) rfl hs hf hr hQ (.inl ⟨hw, hy⟩) hS h
theorem next0 {S : World → Prop} {md : Region.Mode} {o0 : Oper} {rest : List Oper} {fuel : Nat} {listed : Array Bool} {a : Act} {w : World}
    (hr : Region.ready md (List.toArray (o0 :: rest)) listed = [0])
    (h : ∀ K' : Act → World → Prop, Shut (∀ a w, S w → (S w → wpAnyH P md (List.toArray (o0 :: rest)) Q S fuel (listed.setIfInBounds 0 true) a w) → K' a w) → if Region.wanted o0 (yielded (List.toArray (o0 :: rest)) a.tmps) = true then Oper.wp P o0 a w K' Q else K' (a.put o0.dst undef) w) : wpAnyH P md (List.toArray (o0 :: rest)) Q S (fuel + 1) listed a w :=
  wpAnyH_ready hr (by simp) (AllReadyH.cons (o := o0) rfl h AllReadyH.nil)

theorem hold1 {S : World → Prop} {md : Region.Mode} {o0 o1 : Oper} {rest : List Oper} {v : Value} {fuel : Nat} {listed : Array Bool} {a : Act} {w : World}
    (hs : Region.noSelect (List.toArray (o0 :: o1 :: rest)) = true) (hf : Region.free md (List.toArray (o0 :: o1 :: rest)) listed 1 = true) (hr : (Region.ready md (List.toArray (o0 :: o1 :: rest)) listed).contains 1 = true)
    (hQ : ∀ c a w, Q (.panic c) (a.put o1.dst v) w → Q (.panic c) a w) (hw : Region.wanted o1 (yielded (List.toArray (o0 :: o1 :: rest)) a.tmps) = true) (hy : ∀ w, S w → (execOp a.eval o1).run P w = .ok (.value v) w) (hS : S w)
    (h : wpAnyH P md (List.toArray (o0 :: o1 :: rest)) Q S fuel (listed.setIfInBounds 1 true) (a.put o1.dst v) w) : wpAnyH P md (List.toArray (o0 :: o1 :: rest)) Q S (fuel + 1) listed a w :=
  wpAnyH_take (i := 1) rfl hs hf hr hQ (.inl ⟨hw, hy⟩) hS h
theorem next1 {S : World → Prop} {md : Region.Mode} {o0 o1 : Oper} {rest : List Oper} {fuel : Nat} {listed : Array Bool} {a : Act} {w : World}
    (hr : Region.ready md (List.toArray (o0 :: o1 :: rest)) listed = [1])
    (h : ∀ K' : Act → World → Prop, Shut (∀ a w, S w → (S w → wpAnyH P md (List.toArray (o0 :: o1 :: rest)) Q S fuel (listed.setIfInBounds 1 true) a w) → K' a w) → if Region.wanted o1 (yielded (List.toArray (o0 :: o1 :: rest)) a.tmps) = true then Oper.wp P o1 a w K' Q else K' (a.put o1.dst undef) w) : wpAnyH P md (List.toArray (o0 :: o1 :: rest)) Q S (fuel + 1) listed a w :=
  wpAnyH_ready hr (by simp) (AllReadyH.cons (o := o1) rfl h AllReadyH.nil)

theorem cut1 {S : World → Prop} {o0 o1 : Oper} {id : Nat} {a : Act} {w : World} (hm : P.follows .mixedOrders = true) (hc : ChainsB .any (List.toArray [o0]) o1 = true) (hS : S w.drew)
    (h : S w.drew → wpAnyH P .any (List.toArray [o0]) (cutPost P (List.toArray [o0]) o1 Q) S 1 (Array.replicate 1 false) a w.drew) : (Code.region id (List.toArray [o0, o1]) true).wp P Q a w :=
  wp_region_cut (List.toArray [o0]) o1 rfl hm hc hS h
theorem ends1 {S : World → Prop} {o0 o1 : Oper} {fuel : Nat} {listed : Array Bool} {a : Act} {w : World} (hr : Region.ready .any (List.toArray [o0]) listed = [])
    (h : ∀ K' : Act → World → Prop, Shut (∀ a w, Q .normal a w → K' a w) → if Region.wanted o1 (yielded (List.toArray [o0, o1]) a.tmps) = true then Oper.wp P o1 a w K' Q else K' (a.put o1.dst undef) w) : wpAnyH P .any (List.toArray [o0]) (cutPost P (List.toArray [o0]) o1 Q) S fuel listed a w :=
  wpAnyH_done hr (show wpOp P ((List.toArray [o0]).push o1) Q 1 (Q .normal) a w from wpOp_step (ops := (List.toArray [o0]).push o1) (o := o1) rfl (fun K hK => h K hK)) _

theorem hold2 {S : World → Prop} {md : Region.Mode} {o0 o1 o2 : Oper} {rest : List Oper} {v : Value} {fuel : Nat} {listed : Array Bool} {a : Act} {w : World}
    (hs : Region.noSelect (List.toArray (o0 :: o1 :: o2 :: rest)) = true) (hf : Region.free md (List.toArray (o0 :: o1 :: o2 :: rest)) listed 2 = true) (hr : (Region.ready md (List.toArray (o0 :: o1 :: o2 :: rest)) listed).contains 2 = true)
    (hQ : ∀ c a w, Q (.panic c) (a.put o2.dst v) w → Q (.panic c) a w) (hw : Region.wanted o2 (yielded (List.toArray (o0 :: o1 :: o2 :: rest)) a.tmps) = true) (hy : ∀ w, S w → (execOp a.eval o2).run P w = .ok (.value v) w) (hS : S w)
    (h : wpAnyH P md (List.toArray (o0 :: o1 :: o2 :: rest)) Q S fuel (listed.setIfInBounds 2 true) (a.put o2.dst v) w) : wpAnyH P md (List.toArray (o0 :: o1 :: o2 :: rest)) Q S (fuel + 1) listed a w :=
  wpAnyH_take (i := 2) rfl hs hf hr hQ (.inl ⟨hw, hy⟩) hS h
theorem next2 {S : World → Prop} {md : Region.Mode} {o0 o1 o2 : Oper} {rest : List Oper} {fuel : Nat} {listed : Array Bool} {a : Act} {w : World}
    (hr : Region.ready md (List.toArray (o0 :: o1 :: o2 :: rest)) listed = [2])
    (h : ∀ K' : Act → World → Prop, Shut (∀ a w, S w → (S w → wpAnyH P md (List.toArray (o0 :: o1 :: o2 :: rest)) Q S fuel (listed.setIfInBounds 2 true) a w) → K' a w) → if Region.wanted o2 (yielded (List.toArray (o0 :: o1 :: o2 :: rest)) a.tmps) = true then Oper.wp P o2 a w K' Q else K' (a.put o2.dst undef) w) : wpAnyH P md (List.toArray (o0 :: o1 :: o2 :: rest)) Q S (fuel + 1) listed a w :=
  wpAnyH_ready hr (by simp) (AllReadyH.cons (o := o2) rfl h AllReadyH.nil)

theorem cut2 {S : World → Prop} {o0 o1 o2 : Oper} {id : Nat} {a : Act} {w : World} (hm : P.follows .mixedOrders = true) (hc : ChainsB .any (List.toArray [o0, o1]) o2 = true) (hS : S w.drew)
    (h : S w.drew → wpAnyH P .any (List.toArray [o0, o1]) (cutPost P (List.toArray [o0, o1]) o2 Q) S 2 (Array.replicate 2 false) a w.drew) : (Code.region id (List.toArray [o0, o1, o2]) true).wp P Q a w :=
  wp_region_cut (List.toArray [o0, o1]) o2 rfl hm hc hS h
theorem ends2 {S : World → Prop} {o0 o1 o2 : Oper} {fuel : Nat} {listed : Array Bool} {a : Act} {w : World} (hr : Region.ready .any (List.toArray [o0, o1]) listed = [])
    (h : ∀ K' : Act → World → Prop, Shut (∀ a w, Q .normal a w → K' a w) → if Region.wanted o2 (yielded (List.toArray [o0, o1, o2]) a.tmps) = true then Oper.wp P o2 a w K' Q else K' (a.put o2.dst undef) w) : wpAnyH P .any (List.toArray [o0, o1]) (cutPost P (List.toArray [o0, o1]) o2 Q) S fuel listed a w :=
  wpAnyH_done hr (show wpOp P ((List.toArray [o0, o1]).push o2) Q 2 (Q .normal) a w from wpOp_step (ops := (List.toArray [o0, o1]).push o2) (o := o2) rfl (fun K hK => h K hK)) _

theorem hold3 {S : World → Prop} {md : Region.Mode} {o0 o1 o2 o3 : Oper} {rest : List Oper} {v : Value} {fuel : Nat} {listed : Array Bool} {a : Act} {w : World}
    (hs : Region.noSelect (List.toArray (o0 :: o1 :: o2 :: o3 :: rest)) = true) (hf : Region.free md (List.toArray (o0 :: o1 :: o2 :: o3 :: rest)) listed 3 = true) (hr : (Region.ready md (List.toArray (o0 :: o1 :: o2 :: o3 :: rest)) listed).contains 3 = true)
    (hQ : ∀ c a w, Q (.panic c) (a.put o3.dst v) w → Q (.panic c) a w) (hw : Region.wanted o3 (yielded (List.toArray (o0 :: o1 :: o2 :: o3 :: rest)) a.tmps) = true) (hy : ∀ w, S w → (execOp a.eval o3).run P w = .ok (.value v) w) (hS : S w)
    (h : wpAnyH P md (List.toArray (o0 :: o1 :: o2 :: o3 :: rest)) Q S fuel (listed.setIfInBounds 3 true) (a.put o3.dst v) w) : wpAnyH P md (List.toArray (o0 :: o1 :: o2 :: o3 :: rest)) Q S (fuel + 1) listed a w :=
  wpAnyH_take (i := 3) rfl hs hf hr hQ (.inl ⟨hw, hy⟩) hS h
theorem next3 {S : World → Prop} {md : Region.Mode} {o0 o1 o2 o3 : Oper} {rest : List Oper} {fuel : Nat} {listed : Array Bool} {a : Act} {w : World}
    (hr : Region.ready md (List.toArray (o0 :: o1 :: o2 :: o3 :: rest)) listed = [3])
    (h : ∀ K' : Act → World → Prop, Shut (∀ a w, S w → (S w → wpAnyH P md (List.toArray (o0 :: o1 :: o2 :: o3 :: rest)) Q S fuel (listed.setIfInBounds 3 true) a w) → K' a w) → if Region.wanted o3 (yielded (List.toArray (o0 :: o1 :: o2 :: o3 :: rest)) a.tmps) = true then Oper.wp P o3 a w K' Q else K' (a.put o3.dst undef) w) : wpAnyH P md (List.toArray (o0 :: o1 :: o2 :: o3 :: rest)) Q S (fuel + 1) listed a w :=
  wpAnyH_ready hr (by simp) (AllReadyH.cons (o := o3) rfl h AllReadyH.nil)

theorem cut3 {S : World → Prop} {o0 o1 o2 o3 : Oper} {id : Nat} {a : Act} {w : World} (hm : P.follows .mixedOrders = true) (hc : ChainsB .any (List.toArray [o0, o1, o2]) o3 = true) (hS : S w.drew)
    (h : S w.drew → wpAnyH P .any (List.toArray [o0, o1, o2]) (cutPost P (List.toArray [o0, o1, o2]) o3 Q) S 3 (Array.replicate 3 false) a w.drew) : (Code.region id (List.toArray [o0, o1, o2, o3]) true).wp P Q a w :=
  wp_region_cut (List.toArray [o0, o1, o2]) o3 rfl hm hc hS h
theorem ends3 {S : World → Prop} {o0 o1 o2 o3 : Oper} {fuel : Nat} {listed : Array Bool} {a : Act} {w : World} (hr : Region.ready .any (List.toArray [o0, o1, o2]) listed = [])
    (h : ∀ K' : Act → World → Prop, Shut (∀ a w, Q .normal a w → K' a w) → if Region.wanted o3 (yielded (List.toArray [o0, o1, o2, o3]) a.tmps) = true then Oper.wp P o3 a w K' Q else K' (a.put o3.dst undef) w) : wpAnyH P .any (List.toArray [o0, o1, o2]) (cutPost P (List.toArray [o0, o1, o2]) o3 Q) S fuel listed a w :=
  wpAnyH_done hr (show wpOp P ((List.toArray [o0, o1, o2]).push o3) Q 3 (Q .normal) a w from wpOp_step (ops := (List.toArray [o0, o1, o2]).push o3) (o := o3) rfl (fun K hK => h K hK)) _

theorem hold4 {S : World → Prop} {md : Region.Mode} {o0 o1 o2 o3 o4 : Oper} {rest : List Oper} {v : Value} {fuel : Nat} {listed : Array Bool} {a : Act} {w : World}
    (hs : Region.noSelect (List.toArray (o0 :: o1 :: o2 :: o3 :: o4 :: rest)) = true) (hf : Region.free md (List.toArray (o0 :: o1 :: o2 :: o3 :: o4 :: rest)) listed 4 = true) (hr : (Region.ready md (List.toArray (o0 :: o1 :: o2 :: o3 :: o4 :: rest)) listed).contains 4 = true)
    (hQ : ∀ c a w, Q (.panic c) (a.put o4.dst v) w → Q (.panic c) a w) (hw : Region.wanted o4 (yielded (List.toArray (o0 :: o1 :: o2 :: o3 :: o4 :: rest)) a.tmps) = true) (hy : ∀ w, S w → (execOp a.eval o4).run P w = .ok (.value v) w) (hS : S w)
    (h : wpAnyH P md (List.toArray (o0 :: o1 :: o2 :: o3 :: o4 :: rest)) Q S fuel (listed.setIfInBounds 4 true) (a.put o4.dst v) w) : wpAnyH P md (List.toArray (o0 :: o1 :: o2 :: o3 :: o4 :: rest)) Q S (fuel + 1) listed a w :=
  wpAnyH_take (i := 4) rfl hs hf hr hQ (.inl ⟨hw, hy⟩) hS h
theorem next4 {S : World → Prop} {md : Region.Mode} {o0 o1 o2 o3 o4 : Oper} {rest : List Oper} {fuel : Nat} {listed : Array Bool} {a : Act} {w : World}
    (hr : Region.ready md (List.toArray (o0 :: o1 :: o2 :: o3 :: o4 :: rest)) listed = [4])
    (h : ∀ K' : Act → World → Prop, Shut (∀ a w, S w → (S w → wpAnyH P md (List.toArray (o0 :: o1 :: o2 :: o3 :: o4 :: rest)) Q S fuel (listed.setIfInBounds 4 true) a w) → K' a w) → if Region.wanted o4 (yielded (List.toArray (o0 :: o1 :: o2 :: o3 :: o4 :: rest)) a.tmps) = true then Oper.wp P o4 a w K' Q else K' (a.put o4.dst undef) w) : wpAnyH P md (List.toArray (o0 :: o1 :: o2 :: o3 :: o4 :: rest)) Q S (fuel + 1) listed a w :=
  wpAnyH_ready hr (by simp) (AllReadyH.cons (o := o4) rfl h AllReadyH.nil)

theorem cut4 {S : World → Prop} {o0 o1 o2 o3 o4 : Oper} {id : Nat} {a : Act} {w : World} (hm : P.follows .mixedOrders = true) (hc : ChainsB .any (List.toArray [o0, o1, o2, o3]) o4 = true) (hS : S w.drew)
    (h : S w.drew → wpAnyH P .any (List.toArray [o0, o1, o2, o3]) (cutPost P (List.toArray [o0, o1, o2, o3]) o4 Q) S 4 (Array.replicate 4 false) a w.drew) : (Code.region id (List.toArray [o0, o1, o2, o3, o4]) true).wp P Q a w :=
  wp_region_cut (List.toArray [o0, o1, o2, o3]) o4 rfl hm hc hS h
theorem ends4 {S : World → Prop} {o0 o1 o2 o3 o4 : Oper} {fuel : Nat} {listed : Array Bool} {a : Act} {w : World} (hr : Region.ready .any (List.toArray [o0, o1, o2, o3]) listed = [])
    (h : ∀ K' : Act → World → Prop, Shut (∀ a w, Q .normal a w → K' a w) → if Region.wanted o4 (yielded (List.toArray [o0, o1, o2, o3, o4]) a.tmps) = true then Oper.wp P o4 a w K' Q else K' (a.put o4.dst undef) w) : wpAnyH P .any (List.toArray [o0, o1, o2, o3]) (cutPost P (List.toArray [o0, o1, o2, o3]) o4 Q) S fuel listed a w :=
  wpAnyH_done hr (show wpOp P ((List.toArray [o0, o1, o2, o3]).push o4) Q 4 (Q .normal) a w from wpOp_step (ops := (List.toArray [o0, o1, o2, o3]).push o4) (o := o4) rfl (fun K hK => h K hK)) _

theorem hold5 {S : World → Prop} {md : Region.Mode} {o0 o1 o2 o3 o4 o5 : Oper} {rest : List Oper} {v : Value} {fuel : Nat} {listed : Array Bool} {a : Act} {w : World}
    (hs : Region.noSelect (List.toArray (o0 :: o1 :: o2 :: o3 :: o4 :: o5 :: rest)) = true) (hf : Region.free md (List.toArray (o0 :: o1 :: o2 :: o3 :: o4 :: o5 :: rest)) listed 5 = true) (hr : (Region.ready md (List.toArray (o0 :: o1 :: o2 :: o3 :: o4 :: o5 :: rest)) listed).contains 5 = true)
    (hQ : ∀ c a w, Q (.panic c) (a.put o5.dst v) w → Q (.panic c) a w) (hw : Region.wanted o5 (yielded (List.toArray (o0 :: o1 :: o2 :: o3 :: o4 :: o5 :: rest)) a.tmps) = true) (hy : ∀ w, S w → (execOp a.eval o5).run P w = .ok (.value v) w) (hS : S w)
    (h : wpAnyH P md (List.toArray (o0 :: o1 :: o2 :: o3 :: o4 :: o5 :: rest)) Q S fuel (listed.setIfInBounds 5 true) (a.put o5.dst v) w) : wpAnyH P md (List.toArray (o0 :: o1 :: o2 :: o3 :: o4 :: o5 :: rest)) Q S (fuel + 1) listed a w :=
  wpAnyH_take (i := 5) rfl hs hf hr hQ (.inl ⟨hw, hy⟩) hS h
theorem next5 {S : World → Prop} {md : Region.Mode} {o0 o1 o2 o3 o4 o5 : Oper} {rest : List Oper} {fuel : Nat} {listed : Array Bool} {a : Act} {w : World}
    (hr : Region.ready md (List.toArray (o0 :: o1 :: o2 :: o3 :: o4 :: o5 :: rest)) listed = [5])
    (h : ∀ K' : Act → World → Prop, Shut (∀ a w, S w → (S w → wpAnyH P md (List.toArray (o0 :: o1 :: o2 :: o3 :: o4 :: o5 :: rest)) Q S fuel (listed.setIfInBounds 5 true) a w) → K' a w) → if Region.wanted o5 (yielded (List.toArray (o0 :: o1 :: o2 :: o3 :: o4 :: o5 :: rest)) a.tmps) = true then Oper.wp P o5 a w K' Q else K' (a.put o5.dst undef) w) : wpAnyH P md (List.toArray (o0 :: o1 :: o2 :: o3 :: o4 :: o5 :: rest)) Q S (fuel + 1) listed a w :=
  wpAnyH_ready hr (by simp) (AllReadyH.cons (o := o5) rfl h AllReadyH.nil)

theorem cut5 {S : World → Prop} {o0 o1 o2 o3 o4 o5 : Oper} {id : Nat} {a : Act} {w : World} (hm : P.follows .mixedOrders = true) (hc : ChainsB .any (List.toArray [o0, o1, o2, o3, o4]) o5 = true) (hS : S w.drew)
    (h : S w.drew → wpAnyH P .any (List.toArray [o0, o1, o2, o3, o4]) (cutPost P (List.toArray [o0, o1, o2, o3, o4]) o5 Q) S 5 (Array.replicate 5 false) a w.drew) : (Code.region id (List.toArray [o0, o1, o2, o3, o4, o5]) true).wp P Q a w :=
  wp_region_cut (List.toArray [o0, o1, o2, o3, o4]) o5 rfl hm hc hS h
theorem ends5 {S : World → Prop} {o0 o1 o2 o3 o4 o5 : Oper} {fuel : Nat} {listed : Array Bool} {a : Act} {w : World} (hr : Region.ready .any (List.toArray [o0, o1, o2, o3, o4]) listed = [])
    (h : ∀ K' : Act → World → Prop, Shut (∀ a w, Q .normal a w → K' a w) → if Region.wanted o5 (yielded (List.toArray [o0, o1, o2, o3, o4, o5]) a.tmps) = true then Oper.wp P o5 a w K' Q else K' (a.put o5.dst undef) w) : wpAnyH P .any (List.toArray [o0, o1, o2, o3, o4]) (cutPost P (List.toArray [o0, o1, o2, o3, o4]) o5 Q) S fuel listed a w :=
  wpAnyH_done hr (show wpOp P ((List.toArray [o0, o1, o2, o3, o4]).push o5) Q 5 (Q .normal) a w from wpOp_step (ops := (List.toArray [o0, o1, o2, o3, o4]).push o5) (o := o5) rfl (fun K hK => h K hK)) _

theorem hold6 {S : World → Prop} {md : Region.Mode} {o0 o1 o2 o3 o4 o5 o6 : Oper} {rest : List Oper} {v : Value} {fuel : Nat} {listed : Array Bool} {a : Act} {w : World}
    (hs : Region.noSelect (List.toArray (o0 :: o1 :: o2 :: o3 :: o4 :: o5 :: o6 :: rest)) = true) (hf : Region.free md (List.toArray (o0 :: o1 :: o2 :: o3 :: o4 :: o5 :: o6 :: rest)) listed 6 = true) (hr : (Region.ready md (List.toArray (o0 :: o1 :: o2 :: o3 :: o4 :: o5 :: o6 :: rest)) listed).contains 6 = true)
    (hQ : ∀ c a w, Q (.panic c) (a.put o6.dst v) w → Q (.panic c) a w) (hw : Region.wanted o6 (yielded (List.toArray (o0 :: o1 :: o2 :: o3 :: o4 :: o5 :: o6 :: rest)) a.tmps) = true) (hy : ∀ w, S w → (execOp a.eval o6).run P w = .ok (.value v) w) (hS : S w)
    (h : wpAnyH P md (List.toArray (o0 :: o1 :: o2 :: o3 :: o4 :: o5 :: o6 :: rest)) Q S fuel (listed.setIfInBounds 6 true) (a.put o6.dst v) w) : wpAnyH P md (List.toArray (o0 :: o1 :: o2 :: o3 :: o4 :: o5 :: o6 :: rest)) Q S (fuel + 1) listed a w :=
  wpAnyH_take (i := 6) rfl hs hf hr hQ (.inl ⟨hw, hy⟩) hS h
theorem next6 {S : World → Prop} {md : Region.Mode} {o0 o1 o2 o3 o4 o5 o6 : Oper} {rest : List Oper} {fuel : Nat} {listed : Array Bool} {a : Act} {w : World}
    (hr : Region.ready md (List.toArray (o0 :: o1 :: o2 :: o3 :: o4 :: o5 :: o6 :: rest)) listed = [6])
    (h : ∀ K' : Act → World → Prop, Shut (∀ a w, S w → (S w → wpAnyH P md (List.toArray (o0 :: o1 :: o2 :: o3 :: o4 :: o5 :: o6 :: rest)) Q S fuel (listed.setIfInBounds 6 true) a w) → K' a w) → if Region.wanted o6 (yielded (List.toArray (o0 :: o1 :: o2 :: o3 :: o4 :: o5 :: o6 :: rest)) a.tmps) = true then Oper.wp P o6 a w K' Q else K' (a.put o6.dst undef) w) : wpAnyH P md (List.toArray (o0 :: o1 :: o2 :: o3 :: o4 :: o5 :: o6 :: rest)) Q S (fuel + 1) listed a w :=
  wpAnyH_ready hr (by simp) (AllReadyH.cons (o := o6) rfl h AllReadyH.nil)

theorem cut6 {S : World → Prop} {o0 o1 o2 o3 o4 o5 o6 : Oper} {id : Nat} {a : Act} {w : World} (hm : P.follows .mixedOrders = true) (hc : ChainsB .any (List.toArray [o0, o1, o2, o3, o4, o5]) o6 = true) (hS : S w.drew)
    (h : S w.drew → wpAnyH P .any (List.toArray [o0, o1, o2, o3, o4, o5]) (cutPost P (List.toArray [o0, o1, o2, o3, o4, o5]) o6 Q) S 6 (Array.replicate 6 false) a w.drew) : (Code.region id (List.toArray [o0, o1, o2, o3, o4, o5, o6]) true).wp P Q a w :=
  wp_region_cut (List.toArray [o0, o1, o2, o3, o4, o5]) o6 rfl hm hc hS h
theorem ends6 {S : World → Prop} {o0 o1 o2 o3 o4 o5 o6 : Oper} {fuel : Nat} {listed : Array Bool} {a : Act} {w : World} (hr : Region.ready .any (List.toArray [o0, o1, o2, o3, o4, o5]) listed = [])
    (h : ∀ K' : Act → World → Prop, Shut (∀ a w, Q .normal a w → K' a w) → if Region.wanted o6 (yielded (List.toArray [o0, o1, o2, o3, o4, o5, o6]) a.tmps) = true then Oper.wp P o6 a w K' Q else K' (a.put o6.dst undef) w) : wpAnyH P .any (List.toArray [o0, o1, o2, o3, o4, o5]) (cutPost P (List.toArray [o0, o1, o2, o3, o4, o5]) o6 Q) S fuel listed a w :=
  wpAnyH_done hr (show wpOp P ((List.toArray [o0, o1, o2, o3, o4, o5]).push o6) Q 6 (Q .normal) a w from wpOp_step (ops := (List.toArray [o0, o1, o2, o3, o4, o5]).push o6) (o := o6) rfl (fun K hK => h K hK)) _

theorem hold7 {S : World → Prop} {md : Region.Mode} {o0 o1 o2 o3 o4 o5 o6 o7 : Oper} {rest : List Oper} {v : Value} {fuel : Nat} {listed : Array Bool} {a : Act} {w : World}
    (hs : Region.noSelect (List.toArray (o0 :: o1 :: o2 :: o3 :: o4 :: o5 :: o6 :: o7 :: rest)) = true) (hf : Region.free md (List.toArray (o0 :: o1 :: o2 :: o3 :: o4 :: o5 :: o6 :: o7 :: rest)) listed 7 = true) (hr : (Region.ready md (List.toArray (o0 :: o1 :: o2 :: o3 :: o4 :: o5 :: o6 :: o7 :: rest)) listed).contains 7 = true)
    (hQ : ∀ c a w, Q (.panic c) (a.put o7.dst v) w → Q (.panic c) a w) (hw : Region.wanted o7 (yielded (List.toArray (o0 :: o1 :: o2 :: o3 :: o4 :: o5 :: o6 :: o7 :: rest)) a.tmps) = true) (hy : ∀ w, S w → (execOp a.eval o7).run P w = .ok (.value v) w) (hS : S w)
    (h : wpAnyH P md (List.toArray (o0 :: o1 :: o2 :: o3 :: o4 :: o5 :: o6 :: o7 :: rest)) Q S fuel (listed.setIfInBounds 7 true) (a.put o7.dst v) w) : wpAnyH P md (List.toArray (o0 :: o1 :: o2 :: o3 :: o4 :: o5 :: o6 :: o7 :: rest)) Q S (fuel + 1) listed a w :=
  wpAnyH_take (i := 7) rfl hs hf hr hQ (.inl ⟨hw, hy⟩) hS h
theorem next7 {S : World → Prop} {md : Region.Mode} {o0 o1 o2 o3 o4 o5 o6 o7 : Oper} {rest : List Oper} {fuel : Nat} {listed : Array Bool} {a : Act} {w : World}
    (hr : Region.ready md (List.toArray (o0 :: o1 :: o2 :: o3 :: o4 :: o5 :: o6 :: o7 :: rest)) listed = [7])
    (h : ∀ K' : Act → World → Prop, Shut (∀ a w, S w → (S w → wpAnyH P md (List.toArray (o0 :: o1 :: o2 :: o3 :: o4 :: o5 :: o6 :: o7 :: rest)) Q S fuel (listed.setIfInBounds 7 true) a w) → K' a w) → if Region.wanted o7 (yielded (List.toArray (o0 :: o1 :: o2 :: o3 :: o4 :: o5 :: o6 :: o7 :: rest)) a.tmps) = true then Oper.wp P o7 a w K' Q else K' (a.put o7.dst undef) w) : wpAnyH P md (List.toArray (o0 :: o1 :: o2 :: o3 :: o4 :: o5 :: o6 :: o7 :: rest)) Q S (fuel + 1) listed a w :=
  wpAnyH_ready hr (by simp) (AllReadyH.cons (o := o7) rfl h AllReadyH.nil)

theorem cut7 {S : World → Prop} {o0 o1 o2 o3 o4 o5 o6 o7 : Oper} {id : Nat} {a : Act} {w : World} (hm : P.follows .mixedOrders = true) (hc : ChainsB .any (List.toArray [o0, o1, o2, o3, o4, o5, o6]) o7 = true) (hS : S w.drew)
    (h : S w.drew → wpAnyH P .any (List.toArray [o0, o1, o2, o3, o4, o5, o6]) (cutPost P (List.toArray [o0, o1, o2, o3, o4, o5, o6]) o7 Q) S 7 (Array.replicate 7 false) a w.drew) : (Code.region id (List.toArray [o0, o1, o2, o3, o4, o5, o6, o7]) true).wp P Q a w :=
  wp_region_cut (List.toArray [o0, o1, o2, o3, o4, o5, o6]) o7 rfl hm hc hS h
theorem ends7 {S : World → Prop} {o0 o1 o2 o3 o4 o5 o6 o7 : Oper} {fuel : Nat} {listed : Array Bool} {a : Act} {w : World} (hr : Region.ready .any (List.toArray [o0, o1, o2, o3, o4, o5, o6]) listed = [])
    (h : ∀ K' : Act → World → Prop, Shut (∀ a w, Q .normal a w → K' a w) → if Region.wanted o7 (yielded (List.toArray [o0, o1, o2, o3, o4, o5, o6, o7]) a.tmps) = true then Oper.wp P o7 a w K' Q else K' (a.put o7.dst undef) w) : wpAnyH P .any (List.toArray [o0, o1, o2, o3, o4, o5, o6]) (cutPost P (List.toArray [o0, o1, o2, o3, o4, o5, o6]) o7 Q) S fuel listed a w :=
  wpAnyH_done hr (show wpOp P ((List.toArray [o0, o1, o2, o3, o4, o5, o6]).push o7) Q 7 (Q .normal) a w from wpOp_step (ops := (List.toArray [o0, o1, o2, o3, o4, o5, o6]).push o7) (o := o7) rfl (fun K hK => h K hK)) _

theorem hold8 {S : World → Prop} {md : Region.Mode} {o0 o1 o2 o3 o4 o5 o6 o7 o8 : Oper} {rest : List Oper} {v : Value} {fuel : Nat} {listed : Array Bool} {a : Act} {w : World}
    (hs : Region.noSelect (List.toArray (o0 :: o1 :: o2 :: o3 :: o4 :: o5 :: o6 :: o7 :: o8 :: rest)) = true) (hf : Region.free md (List.toArray (o0 :: o1 :: o2 :: o3 :: o4 :: o5 :: o6 :: o7 :: o8 :: rest)) listed 8 = true) (hr : (Region.ready md (List.toArray (o0 :: o1 :: o2 :: o3 :: o4 :: o5 :: o6 :: o7 :: o8 :: rest)) listed).contains 8 = true)
    (hQ : ∀ c a w, Q (.panic c) (a.put o8.dst v) w → Q (.panic c) a w) (hw : Region.wanted o8 (yielded (List.toArray (o0 :: o1 :: o2 :: o3 :: o4 :: o5 :: o6 :: o7 :: o8 :: rest)) a.tmps) = true) (hy : ∀ w, S w → (execOp a.eval o8).run P w = .ok (.value v) w) (hS : S w)
    (h : wpAnyH P md (List.toArray (o0 :: o1 :: o2 :: o3 :: o4 :: o5 :: o6 :: o7 :: o8 :: rest)) Q S fuel (listed.setIfInBounds 8 true) (a.put o8.dst v) w) : wpAnyH P md (List.toArray (o0 :: o1 :: o2 :: o3 :: o4 :: o5 :: o6 :: o7 :: o8 :: rest)) Q S (fuel + 1) listed a w :=
  wpAnyH_take (i := 8) rfl hs hf hr hQ (.inl ⟨hw, hy⟩) hS h
theorem next8 {S : World → Prop} {md : Region.Mode} {o0 o1 o2 o3 o4 o5 o6 o7 o8 : Oper} {rest : List Oper} {fuel : Nat} {listed : Array Bool} {a : Act} {w : World}
    (hr : Region.ready md (List.toArray (o0 :: o1 :: o2 :: o3 :: o4 :: o5 :: o6 :: o7 :: o8 :: rest)) listed = [8])
    (h : ∀ K' : Act → World → Prop, Shut (∀ a w, S w → (S w → wpAnyH P md (List.toArray (o0 :: o1 :: o2 :: o3 :: o4 :: o5 :: o6 :: o7 :: o8 :: rest)) Q S fuel (listed.setIfInBounds 8 true) a w) → K' a w) → if Region.wanted o8 (yielded (List.toArray (o0 :: o1 :: o2 :: o3 :: o4 :: o5 :: o6 :: o7 :: o8 :: rest)) a.tmps) = true then Oper.wp P o8 a w K' Q else K' (a.put o8.dst undef) w) : wpAnyH P md (List.toArray (o0 :: o1 :: o2 :: o3 :: o4 :: o5 :: o6 :: o7 :: o8 :: rest)) Q S (fuel + 1) listed a w :=
  wpAnyH_ready hr (by simp) (AllReadyH.cons (o := o8) rfl h AllReadyH.nil)

theorem cut8 {S : World → Prop} {o0 o1 o2 o3 o4 o5 o6 o7 o8 : Oper} {id : Nat} {a : Act} {w : World} (hm : P.follows .mixedOrders = true) (hc : ChainsB .any (List.toArray [o0, o1, o2, o3, o4, o5, o6, o7]) o8 = true) (hS : S w.drew)
    (h : S w.drew → wpAnyH P .any (List.toArray [o0, o1, o2, o3, o4, o5, o6, o7]) (cutPost P (List.toArray [o0, o1, o2, o3, o4, o5, o6, o7]) o8 Q) S 8 (Array.replicate 8 false) a w.drew) : (Code.region id (List.toArray [o0, o1, o2, o3, o4, o5, o6, o7, o8]) true).wp P Q a w :=
  wp_region_cut (List.toArray [o0, o1, o2, o3, o4, o5, o6, o7]) o8 rfl hm hc hS h
theorem ends8 {S : World → Prop} {o0 o1 o2 o3 o4 o5 o6 o7 o8 : Oper} {fuel : Nat} {listed : Array Bool} {a : Act} {w : World} (hr : Region.ready .any (List.toArray [o0, o1, o2, o3, o4, o5, o6, o7]) listed = [])
    (h : ∀ K' : Act → World → Prop, Shut (∀ a w, Q .normal a w → K' a w) → if Region.wanted o8 (yielded (List.toArray [o0, o1, o2, o3, o4, o5, o6, o7, o8]) a.tmps) = true then Oper.wp P o8 a w K' Q else K' (a.put o8.dst undef) w) : wpAnyH P .any (List.toArray [o0, o1, o2, o3, o4, o5, o6, o7]) (cutPost P (List.toArray [o0, o1, o2, o3, o4, o5, o6, o7]) o8 Q) S fuel listed a w :=
  wpAnyH_done hr (show wpOp P ((List.toArray [o0, o1, o2, o3, o4, o5, o6, o7]).push o8) Q 8 (Q .normal) a w from wpOp_step (ops := (List.toArray [o0, o1, o2, o3, o4, o5, o6, o7]).push o8) (o := o8) rfl (fun K hK => h K hK)) _

theorem hold9 {S : World → Prop} {md : Region.Mode} {o0 o1 o2 o3 o4 o5 o6 o7 o8 o9 : Oper} {rest : List Oper} {v : Value} {fuel : Nat} {listed : Array Bool} {a : Act} {w : World}
    (hs : Region.noSelect (List.toArray (o0 :: o1 :: o2 :: o3 :: o4 :: o5 :: o6 :: o7 :: o8 :: o9 :: rest)) = true) (hf : Region.free md (List.toArray (o0 :: o1 :: o2 :: o3 :: o4 :: o5 :: o6 :: o7 :: o8 :: o9 :: rest)) listed 9 = true) (hr : (Region.ready md (List.toArray (o0 :: o1 :: o2 :: o3 :: o4 :: o5 :: o6 :: o7 :: o8 :: o9 :: rest)) listed).contains 9 = true)
    (hQ : ∀ c a w, Q (.panic c) (a.put o9.dst v) w → Q (.panic c) a w) (hw : Region.wanted o9 (yielded (List.toArray (o0 :: o1 :: o2 :: o3 :: o4 :: o5 :: o6 :: o7 :: o8 :: o9 :: rest)) a.tmps) = true) (hy : ∀ w, S w → (execOp a.eval o9).run P w = .ok (.value v) w) (hS : S w)
    (h : wpAnyH P md (List.toArray (o0 :: o1 :: o2 :: o3 :: o4 :: o5 :: o6 :: o7 :: o8 :: o9 :: rest)) Q S fuel (listed.setIfInBounds 9 true) (a.put o9.dst v) w) : wpAnyH P md (List.toArray (o0 :: o1 :: o2 :: o3 :: o4 :: o5 :: o6 :: o7 :: o8 :: o9 :: rest)) Q S (fuel + 1) listed a w :=
  wpAnyH_take (i := 9) rfl hs hf hr hQ (.inl ⟨hw, hy⟩) hS h
theorem next9 {S : World → Prop} {md : Region.Mode} {o0 o1 o2 o3 o4 o5 o6 o7 o8 o9 : Oper} {rest : List Oper} {fuel : Nat} {listed : Array Bool} {a : Act} {w : World}
    (hr : Region.ready md (List.toArray (o0 :: o1 :: o2 :: o3 :: o4 :: o5 :: o6 :: o7 :: o8 :: o9 :: rest)) listed = [9])
    (h : ∀ K' : Act → World → Prop, Shut (∀ a w, S w → (S w → wpAnyH P md (List.toArray (o0 :: o1 :: o2 :: o3 :: o4 :: o5 :: o6 :: o7 :: o8 :: o9 :: rest)) Q S fuel (listed.setIfInBounds 9 true) a w) → K' a w) → if Region.wanted o9 (yielded (List.toArray (o0 :: o1 :: o2 :: o3 :: o4 :: o5 :: o6 :: o7 :: o8 :: o9 :: rest)) a.tmps) = true then Oper.wp P o9 a w K' Q else K' (a.put o9.dst undef) w) : wpAnyH P md (List.toArray (o0 :: o1 :: o2 :: o3 :: o4 :: o5 :: o6 :: o7 :: o8 :: o9 :: rest)) Q S (fuel + 1) listed a w :=
  wpAnyH_ready hr (by simp) (AllReadyH.cons (o := o9) rfl h AllReadyH.nil)

theorem cut9 {S : World → Prop} {o0 o1 o2 o3 o4 o5 o6 o7 o8 o9 : Oper} {id : Nat} {a : Act} {w : World} (hm : P.follows .mixedOrders = true) (hc : ChainsB .any (List.toArray [o0, o1, o2, o3, o4, o5, o6, o7, o8]) o9 = true) (hS : S w.drew)
    (h : S w.drew → wpAnyH P .any (List.toArray [o0, o1, o2, o3, o4, o5, o6, o7, o8]) (cutPost P (List.toArray [o0, o1, o2, o3, o4, o5, o6, o7, o8]) o9 Q) S 9 (Array.replicate 9 false) a w.drew) : (Code.region id (List.toArray [o0, o1, o2, o3, o4, o5, o6, o7, o8, o9]) true).wp P Q a w :=
  wp_region_cut (List.toArray [o0, o1, o2, o3, o4, o5, o6, o7, o8]) o9 rfl hm hc hS h
theorem ends9 {S : World → Prop} {o0 o1 o2 o3 o4 o5 o6 o7 o8 o9 : Oper} {fuel : Nat} {listed : Array Bool} {a : Act} {w : World} (hr : Region.ready .any (List.toArray [o0, o1, o2, o3, o4, o5, o6, o7, o8]) listed = [])
    (h : ∀ K' : Act → World → Prop, Shut (∀ a w, Q .normal a w → K' a w) → if Region.wanted o9 (yielded (List.toArray [o0, o1, o2, o3, o4, o5, o6, o7, o8, o9]) a.tmps) = true then Oper.wp P o9 a w K' Q else K' (a.put o9.dst undef) w) : wpAnyH P .any (List.toArray [o0, o1, o2, o3, o4, o5, o6, o7, o8]) (cutPost P (List.toArray [o0, o1, o2, o3, o4, o5, o6, o7, o8]) o9 Q) S fuel listed a w :=
  wpAnyH_done hr (show wpOp P ((List.toArray [o0, o1, o2, o3, o4, o5, o6, o7, o8]).push o9) Q 9 (Q .normal) a w from wpOp_step (ops := (List.toArray [o0, o1, o2, o3, o4, o5, o6, o7, o8]).push o9) (o := o9) rfl (fun K hK => h K hK)) _

theorem hold10 {S : World → Prop} {md : Region.Mode} {o0 o1 o2 o3 o4 o5 o6 o7 o8 o9 o10 : Oper} {rest : List Oper} {v : Value} {fuel : Nat} {listed : Array Bool} {a : Act} {w : World}
    (hs : Region.noSelect (List.toArray (o0 :: o1 :: o2 :: o3 :: o4 :: o5 :: o6 :: o7 :: o8 :: o9 :: o10 :: rest)) = true) (hf : Region.free md (List.toArray (o0 :: o1 :: o2 :: o3 :: o4 :: o5 :: o6 :: o7 :: o8 :: o9 :: o10 :: rest)) listed 10 = true) (hr : (Region.ready md (List.toArray (o0 :: o1 :: o2 :: o3 :: o4 :: o5 :: o6 :: o7 :: o8 :: o9 :: o10 :: rest)) listed).contains 10 = true)
    (hQ : ∀ c a w, Q (.panic c) (a.put o10.dst v) w → Q (.panic c) a w) (hw : Region.wanted o10 (yielded (List.toArray (o0 :: o1 :: o2 :: o3 :: o4 :: o5 :: o6 :: o7 :: o8 :: o9 :: o10 :: rest)) a.tmps) = true) (hy : ∀ w, S w → (execOp a.eval o10).run P w = .ok (.value v) w) (hS : S w)
    (h : wpAnyH P md (List.toArray (o0 :: o1 :: o2 :: o3 :: o4 :: o5 :: o6 :: o7 :: o8 :: o9 :: o10 :: rest)) Q S fuel (listed.setIfInBounds 10 true) (a.put o10.dst v) w) : wpAnyH P md (List.toArray (o0 :: o1 :: o2 :: o3 :: o4 :: o5 :: o6 :: o7 :: o8 :: o9 :: o10 :: rest)) Q S (fuel + 1) listed a w :=
  wpAnyH_take (i := 10) rfl hs hf hr hQ (.inl ⟨hw, hy⟩) hS h
theorem next10 {S : World → Prop} {md : Region.Mode} {o0 o1 o2 o3 o4 o5 o6 o7 o8 o9 o10 : Oper} {rest : List Oper} {fuel : Nat} {listed : Array Bool} {a : Act} {w : World}
    (hr : Region.ready md (List.toArray (o0 :: o1 :: o2 :: o3 :: o4 :: o5 :: o6 :: o7 :: o8 :: o9 :: o10 :: rest)) listed = [10])
    (h : ∀ K' : Act → World → Prop, Shut (∀ a w, S w → (S w → wpAnyH P md (List.toArray (o0 :: o1 :: o2 :: o3 :: o4 :: o5 :: o6 :: o7 :: o8 :: o9 :: o10 :: rest)) Q S fuel (listed.setIfInBounds 10 true) a w) → K' a w) → if Region.wanted o10 (yielded (List.toArray (o0 :: o1 :: o2 :: o3 :: o4 :: o5 :: o6 :: o7 :: o8 :: o9 :: o10 :: rest)) a.tmps) = true then Oper.wp P o10 a w K' Q else K' (a.put o10.dst undef) w) : wpAnyH P md (List.toArray (o0 :: o1 :: o2 :: o3 :: o4 :: o5 :: o6 :: o7 :: o8 :: o9 :: o10 :: rest)) Q S (fuel + 1) listed a w :=
  wpAnyH_ready hr (by simp) (AllReadyH.cons (o := o10) rfl h AllReadyH.nil)

theorem cut10 {S : World → Prop} {o0 o1 o2 o3 o4 o5 o6 o7 o8 o9 o10 : Oper} {id : Nat} {a : Act} {w : World} (hm : P.follows .mixedOrders = true) (hc : ChainsB .any (List.toArray [o0, o1, o2, o3, o4, o5, o6, o7, o8, o9]) o10 = true) (hS : S w.drew)
    (h : S w.drew → wpAnyH P .any (List.toArray [o0, o1, o2, o3, o4, o5, o6, o7, o8, o9]) (cutPost P (List.toArray [o0, o1, o2, o3, o4, o5, o6, o7, o8, o9]) o10 Q) S 10 (Array.replicate 10 false) a w.drew) : (Code.region id (List.toArray [o0, o1, o2, o3, o4, o5, o6, o7, o8, o9, o10]) true).wp P Q a w :=
  wp_region_cut (List.toArray [o0, o1, o2, o3, o4, o5, o6, o7, o8, o9]) o10 rfl hm hc hS h
theorem ends10 {S : World → Prop} {o0 o1 o2 o3 o4 o5 o6 o7 o8 o9 o10 : Oper} {fuel : Nat} {listed : Array Bool} {a : Act} {w : World} (hr : Region.ready .any (List.toArray [o0, o1, o2, o3, o4, o5, o6, o7, o8, o9]) listed = [])
    (h : ∀ K' : Act → World → Prop, Shut (∀ a w, Q .normal a w → K' a w) → if Region.wanted o10 (yielded (List.toArray [o0, o1, o2, o3, o4, o5, o6, o7, o8, o9, o10]) a.tmps) = true then Oper.wp P o10 a w K' Q else K' (a.put o10.dst undef) w) : wpAnyH P .any (List.toArray [o0, o1, o2, o3, o4, o5, o6, o7, o8, o9]) (cutPost P (List.toArray [o0, o1, o2, o3, o4, o5, o6, o7, o8, o9]) o10 Q) S fuel listed a w :=
  wpAnyH_done hr (show wpOp P ((List.toArray [o0, o1, o2, o3, o4, o5, o6, o7, o8, o9]).push o10) Q 10 (Q .normal) a w from wpOp_step (ops := (List.toArray [o0, o1, o2, o3, o4, o5, o6, o7, o8, o9]).push o10) (o := o10) rfl (fun K hK => h K hK)) _

theorem hold11 {S : World → Prop} {md : Region.Mode} {o0 o1 o2 o3 o4 o5 o6 o7 o8 o9 o10 o11 : Oper} {rest : List Oper} {v : Value} {fuel : Nat} {listed : Array Bool} {a : Act} {w : World}
    (hs : Region.noSelect (List.toArray (o0 :: o1 :: o2 :: o3 :: o4 :: o5 :: o6 :: o7 :: o8 :: o9 :: o10 :: o11 :: rest)) = true) (hf : Region.free md (List.toArray (o0 :: o1 :: o2 :: o3 :: o4 :: o5 :: o6 :: o7 :: o8 :: o9 :: o10 :: o11 :: rest)) listed 11 = true) (hr : (Region.ready md (List.toArray (o0 :: o1 :: o2 :: o3 :: o4 :: o5 :: o6 :: o7 :: o8 :: o9 :: o10 :: o11 :: rest)) listed).contains 11 = true)
    (hQ : ∀ c a w, Q (.panic c) (a.put o11.dst v) w → Q (.panic c) a w) (hw : Region.wanted o11 (yielded (List.toArray (o0 :: o1 :: o2 :: o3 :: o4 :: o5 :: o6 :: o7 :: o8 :: o9 :: o10 :: o11 :: rest)) a.tmps) = true) (hy : ∀ w, S w → (execOp a.eval o11).run P w = .ok (.value v) w) (hS : S w)
    (h : wpAnyH P md (List.toArray (o0 :: o1 :: o2 :: o3 :: o4 :: o5 :: o6 :: o7 :: o8 :: o9 :: o10 :: o11 :: rest)) Q S fuel (listed.setIfInBounds 11 true) (a.put o11.dst v) w) : wpAnyH P md (List.toArray (o0 :: o1 :: o2 :: o3 :: o4 :: o5 :: o6 :: o7 :: o8 :: o9 :: o10 :: o11 :: rest)) Q S (fuel + 1) listed a w :=
  wpAnyH_take (i := 11) rfl hs hf hr hQ (.inl ⟨hw, hy⟩) hS h
theorem next11 {S : World → Prop} {md : Region.Mode} {o0 o1 o2 o3 o4 o5 o6 o7 o8 o9 o10 o11 : Oper} {rest : List Oper} {fuel : Nat} {listed : Array Bool} {a : Act} {w : World}
    (hr : Region.ready md (List.toArray (o0 :: o1 :: o2 :: o3 :: o4 :: o5 :: o6 :: o7 :: o8 :: o9 :: o10 :: o11 :: rest)) listed = [11])
    (h : ∀ K' : Act → World → Prop, Shut (∀ a w, S w → (S w → wpAnyH P md (List.toArray (o0 :: o1 :: o2 :: o3 :: o4 :: o5 :: o6 :: o7 :: o8 :: o9 :: o10 :: o11 :: rest)) Q S fuel (listed.setIfInBounds 11 true) a w) → K' a w) → if Region.wanted o11 (yielded (List.toArray (o0 :: o1 :: o2 :: o3 :: o4 :: o5 :: o6 :: o7 :: o8 :: o9 :: o10 :: o11 :: rest)) a.tmps) = true then Oper.wp P o11 a w K' Q else K' (a.put o11.dst undef) w) : wpAnyH P md (List.toArray (o0 :: o1 :: o2 :: o3 :: o4 :: o5 :: o6 :: o7 :: o8 :: o9 :: o10 :: o11 :: rest)) Q S (fuel + 1) listed a w :=
  wpAnyH_ready hr (by simp) (AllReadyH.cons (o := o11) rfl h AllReadyH.nil)

theorem cut11 {S : World → Prop} {o0 o1 o2 o3 o4 o5 o6 o7 o8 o9 o10 o11 : Oper} {id : Nat} {a : Act} {w : World} (hm : P.follows .mixedOrders = true) (hc : ChainsB .any (List.toArray [o0, o1, o2, o3, o4, o5, o6, o7, o8, o9, o10]) o11 = true) (hS : S w.drew)
    (h : S w.drew → wpAnyH P .any (List.toArray [o0, o1, o2, o3, o4, o5, o6, o7, o8, o9, o10]) (cutPost P (List.toArray [o0, o1, o2, o3, o4, o5, o6, o7, o8, o9, o10]) o11 Q) S 11 (Array.replicate 11 false) a w.drew) : (Code.region id (List.toArray [o0, o1, o2, o3, o4, o5, o6, o7, o8, o9, o10, o11]) true).wp P Q a w :=
  wp_region_cut (List.toArray [o0, o1, o2, o3, o4, o5, o6, o7, o8, o9, o10]) o11 rfl hm hc hS h
theorem ends11 {S : World → Prop} {o0 o1 o2 o3 o4 o5 o6 o7 o8 o9 o10 o11 : Oper} {fuel : Nat} {listed : Array Bool} {a : Act} {w : World} (hr : Region.ready .any (List.toArray [o0, o1, o2, o3, o4, o5, o6, o7, o8, o9, o10]) listed = [])
    (h : ∀ K' : Act → World → Prop, Shut (∀ a w, Q .normal a w → K' a w) → if Region.wanted o11 (yielded (List.toArray [o0, o1, o2, o3, o4, o5, o6, o7, o8, o9, o10, o11]) a.tmps) = true then Oper.wp P o11 a w K' Q else K' (a.put o11.dst undef) w) : wpAnyH P .any (List.toArray [o0, o1, o2, o3, o4, o5, o6, o7, o8, o9, o10]) (cutPost P (List.toArray [o0, o1, o2, o3, o4, o5, o6, o7, o8, o9, o10]) o11 Q) S fuel listed a w :=
  wpAnyH_done hr (show wpOp P ((List.toArray [o0, o1, o2, o3, o4, o5, o6, o7, o8, o9, o10]).push o11) Q 11 (Q .normal) a w from wpOp_step (ops := (List.toArray [o0, o1, o2, o3, o4, o5, o6, o7, o8, o9, o10]).push o11) (o := o11) rfl (fun K hK => h K hK)) _

theorem hold12 {S : World → Prop} {md : Region.Mode} {o0 o1 o2 o3 o4 o5 o6 o7 o8 o9 o10 o11 o12 : Oper} {rest : List Oper} {v : Value} {fuel : Nat} {listed : Array Bool} {a : Act} {w : World}
    (hs : Region.noSelect (List.toArray (o0 :: o1 :: o2 :: o3 :: o4 :: o5 :: o6 :: o7 :: o8 :: o9 :: o10 :: o11 :: o12 :: rest)) = true) (hf : Region.free md (List.toArray (o0 :: o1 :: o2 :: o3 :: o4 :: o5 :: o6 :: o7 :: o8 :: o9 :: o10 :: o11 :: o12 :: rest)) listed 12 = true) (hr : (Region.ready md (List.toArray (o0 :: o1 :: o2 :: o3 :: o4 :: o5 :: o6 :: o7 :: o8 :: o9 :: o10 :: o11 :: o12 :: rest)) listed).contains 12 = true)
    (hQ : ∀ c a w, Q (.panic c) (a.put o12.dst v) w → Q (.panic c) a w) (hw : Region.wanted o12 (yielded (List.toArray (o0 :: o1 :: o2 :: o3 :: o4 :: o5 :: o6 :: o7 :: o8 :: o9 :: o10 :: o11 :: o12 :: rest)) a.tmps) = true) (hy : ∀ w, S w → (execOp a.eval o12).run P w = .ok (.value v) w) (hS : S w)
    (h : wpAnyH P md (List.toArray (o0 :: o1 :: o2 :: o3 :: o4 :: o5 :: o6 :: o7 :: o8 :: o9 :: o10 :: o11 :: o12 :: rest)) Q S fuel (listed.setIfInBounds 12 true) (a.put o12.dst v) w) : wpAnyH P md (List.toArray (o0 :: o1 :: o2 :: o3 :: o4 :: o5 :: o6 :: o7 :: o8 :: o9 :: o10 :: o11 :: o12 :: rest)) Q S (fuel + 1) listed a w :=
  wpAnyH_take (i := 12) rfl hs hf hr hQ (.inl ⟨hw, hy⟩) hS h
theorem next12 {S : World → Prop} {md : Region.Mode} {o0 o1 o2 o3 o4 o5 o6 o7 o8 o9 o10 o11 o12 : Oper} {rest : List Oper} {fuel : Nat} {listed : Array Bool} {a : Act} {w : World}
    (hr : Region.ready md (List.toArray (o0 :: o1 :: o2 :: o3 :: o4 :: o5 :: o6 :: o7 :: o8 :: o9 :: o10 :: o11 :: o12 :: rest)) listed = [12])
    (h : ∀ K' : Act → World → Prop, Shut (∀ a w, S w → (S w → wpAnyH P md (List.toArray (o0 :: o1 :: o2 :: o3 :: o4 :: o5 :: o6 :: o7 :: o8 :: o9 :: o10 :: o11 :: o12 :: rest)) Q S fuel (listed.setIfInBounds 12 true) a w) → K' a w) → if Region.wanted o12 (yielded (List.toArray (o0 :: o1 :: o2 :: o3 :: o4 :: o5 :: o6 :: o7 :: o8 :: o9 :: o10 :: o11 :: o12 :: rest)) a.tmps) = true then Oper.wp P o12 a w K' Q else K' (a.put o12.dst undef) w) : wpAnyH P md (List.toArray (o0 :: o1 :: o2 :: o3 :: o4 :: o5 :: o6 :: o7 :: o8 :: o9 :: o10 :: o11 :: o12 :: rest)) Q S (fuel + 1) listed a w :=
  wpAnyH_ready hr (by simp) (AllReadyH.cons (o := o12) rfl h AllReadyH.nil)

theorem cut12 {S : World → Prop} {o0 o1 o2 o3 o4 o5 o6 o7 o8 o9 o10 o11 o12 : Oper} {id : Nat} {a : Act} {w : World} (hm : P.follows .mixedOrders = true) (hc : ChainsB .any (List.toArray [o0, o1, o2, o3, o4, o5, o6, o7, o8, o9, o10, o11]) o12 = true) (hS : S w.drew)
    (h : S w.drew → wpAnyH P .any (List.toArray [o0, o1, o2, o3, o4, o5, o6, o7, o8, o9, o10, o11]) (cutPost P (List.toArray [o0, o1, o2, o3, o4, o5, o6, o7, o8, o9, o10, o11]) o12 Q) S 12 (Array.replicate 12 false) a w.drew) : (Code.region id (List.toArray [o0, o1, o2, o3, o4, o5, o6, o7, o8, o9, o10, o11, o12]) true).wp P Q a w :=
  wp_region_cut (List.toArray [o0, o1, o2, o3, o4, o5, o6, o7, o8, o9, o10, o11]) o12 rfl hm hc hS h
theorem ends12 {S : World → Prop} {o0 o1 o2 o3 o4 o5 o6 o7 o8 o9 o10 o11 o12 : Oper} {fuel : Nat} {listed : Array Bool} {a : Act} {w : World} (hr : Region.ready .any (List.toArray [o0, o1, o2, o3, o4, o5, o6, o7, o8, o9, o10, o11]) listed = [])
    (h : ∀ K' : Act → World → Prop, Shut (∀ a w, Q .normal a w → K' a w) → if Region.wanted o12 (yielded (List.toArray [o0, o1, o2, o3, o4, o5, o6, o7, o8, o9, o10, o11, o12]) a.tmps) = true then Oper.wp P o12 a w K' Q else K' (a.put o12.dst undef) w) : wpAnyH P .any (List.toArray [o0, o1, o2, o3, o4, o5, o6, o7, o8, o9, o10, o11]) (cutPost P (List.toArray [o0, o1, o2, o3, o4, o5, o6, o7, o8, o9, o10, o11]) o12 Q) S fuel listed a w :=
  wpAnyH_done hr (show wpOp P ((List.toArray [o0, o1, o2, o3, o4, o5, o6, o7, o8, o9, o10, o11]).push o12) Q 12 (Q .normal) a w from wpOp_step (ops := (List.toArray [o0, o1, o2, o3, o4, o5, o6, o7, o8, o9, o10, o11]).push o12) (o := o12) rfl (fun K hK => h K hK)) _

theorem hold13 {S : World → Prop} {md : Region.Mode} {o0 o1 o2 o3 o4 o5 o6 o7 o8 o9 o10 o11 o12 o13 : Oper} {rest : List Oper} {v : Value} {fuel : Nat} {listed : Array Bool} {a : Act} {w : World}
    (hs : Region.noSelect (List.toArray (o0 :: o1 :: o2 :: o3 :: o4 :: o5 :: o6 :: o7 :: o8 :: o9 :: o10 :: o11 :: o12 :: o13 :: rest)) = true) (hf : Region.free md (List.toArray (o0 :: o1 :: o2 :: o3 :: o4 :: o5 :: o6 :: o7 :: o8 :: o9 :: o10 :: o11 :: o12 :: o13 :: rest)) listed 13 = true) (hr : (Region.ready md (List.toArray (o0 :: o1 :: o2 :: o3 :: o4 :: o5 :: o6 :: o7 :: o8 :: o9 :: o10 :: o11 :: o12 :: o13 :: rest)) listed).contains 13 = true)
    (hQ : ∀ c a w, Q (.panic c) (a.put o13.dst v) w → Q (.panic c) a w) (hw : Region.wanted o13 (yielded (List.toArray (o0 :: o1 :: o2 :: o3 :: o4 :: o5 :: o6 :: o7 :: o8 :: o9 :: o10 :: o11 :: o12 :: o13 :: rest)) a.tmps) = true) (hy : ∀ w, S w → (execOp a.eval o13).run P w = .ok (.value v) w) (hS : S w)
    (h : wpAnyH P md (List.toArray (o0 :: o1 :: o2 :: o3 :: o4 :: o5 :: o6 :: o7 :: o8 :: o9 :: o10 :: o11 :: o12 :: o13 :: rest)) Q S fuel (listed.setIfInBounds 13 true) (a.put o13.dst v) w) : wpAnyH P md (List.toArray (o0 :: o1 :: o2 :: o3 :: o4 :: o5 :: o6 :: o7 :: o8 :: o9 :: o10 :: o11 :: o12 :: o13 :: rest)) Q S (fuel + 1) listed a w :=
  wpAnyH_take (i := 13) rfl hs hf hr hQ (.inl ⟨hw, hy⟩) hS h
theorem next13 {S : World → Prop} {md : Region.Mode} {o0 o1 o2 o3 o4 o5 o6 o7 o8 o9 o10 o11 o12 o13 : Oper} {rest : List Oper} {fuel : Nat} {listed : Array Bool} {a : Act} {w : World}
    (hr : Region.ready md (List.toArray (o0 :: o1 :: o2 :: o3 :: o4 :: o5 :: o6 :: o7 :: o8 :: o9 :: o10 :: o11 :: o12 :: o13 :: rest)) listed = [13])
    (h : ∀ K' : Act → World → Prop, Shut (∀ a w, S w → (S w → wpAnyH P md (List.toArray (o0 :: o1 :: o2 :: o3 :: o4 :: o5 :: o6 :: o7 :: o8 :: o9 :: o10 :: o11 :: o12 :: o13 :: rest)) Q S fuel (listed.setIfInBounds 13 true) a w) → K' a w) → if Region.wanted o13 (yielded (List.toArray (o0 :: o1 :: o2 :: o3 :: o4 :: o5 :: o6 :: o7 :: o8 :: o9 :: o10 :: o11 :: o12 :: o13 :: rest)) a.tmps) = true then Oper.wp P o13 a w K' Q else K' (a.put o13.dst undef) w) : wpAnyH P md (List.toArray (o0 :: o1 :: o2 :: o3 :: o4 :: o5 :: o6 :: o7 :: o8 :: o9 :: o10 :: o11 :: o12 :: o13 :: rest)) Q S (fuel + 1) listed a w :=
  wpAnyH_ready hr (by simp) (AllReadyH.cons (o := o13) rfl h AllReadyH.nil)

theorem cut13 {S : World → Prop} {o0 o1 o2 o3 o4 o5 o6 o7 o8 o9 o10 o11 o12 o13 : Oper} {id : Nat} {a : Act} {w : World} (hm : P.follows .mixedOrders = true) (hc : ChainsB .any (List.toArray [o0, o1, o2, o3, o4, o5, o6, o7, o8, o9, o10, o11, o12]) o13 = true) (hS : S w.drew)
    (h : S w.drew → wpAnyH P .any (List.toArray [o0, o1, o2, o3, o4, o5, o6, o7, o8, o9, o10, o11, o12]) (cutPost P (List.toArray [o0, o1, o2, o3, o4, o5, o6, o7, o8, o9, o10, o11, o12]) o13 Q) S 13 (Array.replicate 13 false) a w.drew) : (Code.region id (List.toArray [o0, o1, o2, o3, o4, o5, o6, o7, o8, o9, o10, o11, o12, o13]) true).wp P Q a w :=
  wp_region_cut (List.toArray [o0, o1, o2, o3, o4, o5, o6, o7, o8, o9, o10, o11, o12]) o13 rfl hm hc hS h
theorem ends13 {S : World → Prop} {o0 o1 o2 o3 o4 o5 o6 o7 o8 o9 o10 o11 o12 o13 : Oper} {fuel : Nat} {listed : Array Bool} {a : Act} {w : World} (hr : Region.ready .any (List.toArray [o0, o1, o2, o3, o4, o5, o6, o7, o8, o9, o10, o11, o12]) listed = [])
    (h : ∀ K' : Act → World → Prop, Shut (∀ a w, Q .normal a w → K' a w) → if Region.wanted o13 (yielded (List.toArray [o0, o1, o2, o3, o4, o5, o6, o7, o8, o9, o10, o11, o12, o13]) a.tmps) = true then Oper.wp P o13 a w K' Q else K' (a.put o13.dst undef) w) : wpAnyH P .any (List.toArray [o0, o1, o2, o3, o4, o5, o6, o7, o8, o9, o10, o11, o12]) (cutPost P (List.toArray [o0, o1, o2, o3, o4, o5, o6, o7, o8, o9, o10, o11, o12]) o13 Q) S fuel listed a w :=
  wpAnyH_done hr (show wpOp P ((List.toArray [o0, o1, o2, o3, o4, o5, o6, o7, o8, o9, o10, o11, o12]).push o13) Q 13 (Q .normal) a w from wpOp_step (ops := (List.toArray [o0, o1, o2, o3, o4, o5, o6, o7, o8, o9, o10, o11, o12]).push o13) (o := o13) rfl (fun K hK => h K hK)) _

theorem hold14 {S : World → Prop} {md : Region.Mode} {o0 o1 o2 o3 o4 o5 o6 o7 o8 o9 o10 o11 o12 o13 o14 : Oper} {rest : List Oper} {v : Value} {fuel : Nat} {listed : Array Bool} {a : Act} {w : World}
    (hs : Region.noSelect (List.toArray (o0 :: o1 :: o2 :: o3 :: o4 :: o5 :: o6 :: o7 :: o8 :: o9 :: o10 :: o11 :: o12 :: o13 :: o14 :: rest)) = true) (hf : Region.free md (List.toArray (o0 :: o1 :: o2 :: o3 :: o4 :: o5 :: o6 :: o7 :: o8 :: o9 :: o10 :: o11 :: o12 :: o13 :: o14 :: rest)) listed 14 = true) (hr : (Region.ready md (List.toArray (o0 :: o1 :: o2 :: o3 :: o4 :: o5 :: o6 :: o7 :: o8 :: o9 :: o10 :: o11 :: o12 :: o13 :: o14 :: rest)) listed).contains 14 = true)
    (hQ : ∀ c a w, Q (.panic c) (a.put o14.dst v) w → Q (.panic c) a w) (hw : Region.wanted o14 (yielded (List.toArray (o0 :: o1 :: o2 :: o3 :: o4 :: o5 :: o6 :: o7 :: o8 :: o9 :: o10 :: o11 :: o12 :: o13 :: o14 :: rest)) a.tmps) = true) (hy : ∀ w, S w → (execOp a.eval o14).run P w = .ok (.value v) w) (hS : S w)
    (h : wpAnyH P md (List.toArray (o0 :: o1 :: o2 :: o3 :: o4 :: o5 :: o6 :: o7 :: o8 :: o9 :: o10 :: o11 :: o12 :: o13 :: o14 :: rest)) Q S fuel (listed.setIfInBounds 14 true) (a.put o14.dst v) w) : wpAnyH P md (List.toArray (o0 :: o1 :: o2 :: o3 :: o4 :: o5 :: o6 :: o7 :: o8 :: o9 :: o10 :: o11 :: o12 :: o13 :: o14 :: rest)) Q S (fuel + 1) listed a w :=
  wpAnyH_take (i := 14) rfl hs hf hr hQ (.inl ⟨hw, hy⟩) hS h
theorem next14 {S : World → Prop} {md : Region.Mode} {o0 o1 o2 o3 o4 o5 o6 o7 o8 o9 o10 o11 o12 o13 o14 : Oper} {rest : List Oper} {fuel : Nat} {listed : Array Bool} {a : Act} {w : World}
    (hr : Region.ready md (List.toArray (o0 :: o1 :: o2 :: o3 :: o4 :: o5 :: o6 :: o7 :: o8 :: o9 :: o10 :: o11 :: o12 :: o13 :: o14 :: rest)) listed = [14])
    (h : ∀ K' : Act → World → Prop, Shut (∀ a w, S w → (S w → wpAnyH P md (List.toArray (o0 :: o1 :: o2 :: o3 :: o4 :: o5 :: o6 :: o7 :: o8 :: o9 :: o10 :: o11 :: o12 :: o13 :: o14 :: rest)) Q S fuel (listed.setIfInBounds 14 true) a w) → K' a w) → if Region.wanted o14 (yielded (List.toArray (o0 :: o1 :: o2 :: o3 :: o4 :: o5 :: o6 :: o7 :: o8 :: o9 :: o10 :: o11 :: o12 :: o13 :: o14 :: rest)) a.tmps) = true then Oper.wp P o14 a w K' Q else K' (a.put o14.dst undef) w) : wpAnyH P md (List.toArray (o0 :: o1 :: o2 :: o3 :: o4 :: o5 :: o6 :: o7 :: o8 :: o9 :: o10 :: o11 :: o12 :: o13 :: o14 :: rest)) Q S (fuel + 1) listed a w :=
  wpAnyH_ready hr (by simp) (AllReadyH.cons (o := o14) rfl h AllReadyH.nil)

theorem cut14 {S : World → Prop} {o0 o1 o2 o3 o4 o5 o6 o7 o8 o9 o10 o11 o12 o13 o14 : Oper} {id : Nat} {a : Act} {w : World} (hm : P.follows .mixedOrders = true) (hc : ChainsB .any (List.toArray [o0, o1, o2, o3, o4, o5, o6, o7, o8, o9, o10, o11, o12, o13]) o14 = true) (hS : S w.drew)
    (h : S w.drew → wpAnyH P .any (List.toArray [o0, o1, o2, o3, o4, o5, o6, o7, o8, o9, o10, o11, o12, o13]) (cutPost P (List.toArray [o0, o1, o2, o3, o4, o5, o6, o7, o8, o9, o10, o11, o12, o13]) o14 Q) S 14 (Array.replicate 14 false) a w.drew) : (Code.region id (List.toArray [o0, o1, o2, o3, o4, o5, o6, o7, o8, o9, o10, o11, o12, o13, o14]) true).wp P Q a w :=
  wp_region_cut (List.toArray [o0, o1, o2, o3, o4, o5, o6, o7, o8, o9, o10, o11, o12, o13]) o14 rfl hm hc hS h
theorem ends14 {S : World → Prop} {o0 o1 o2 o3 o4 o5 o6 o7 o8 o9 o10 o11 o12 o13 o14 : Oper} {fuel : Nat} {listed : Array Bool} {a : Act} {w : World} (hr : Region.ready .any (List.toArray [o0, o1, o2, o3, o4, o5, o6, o7, o8, o9, o10, o11, o12, o13]) listed = [])
    (h : ∀ K' : Act → World → Prop, Shut (∀ a w, Q .normal a w → K' a w) → if Region.wanted o14 (yielded (List.toArray [o0, o1, o2, o3, o4, o5, o6, o7, o8, o9, o10, o11, o12, o13, o14]) a.tmps) = true then Oper.wp P o14 a w K' Q else K' (a.put o14.dst undef) w) : wpAnyH P .any (List.toArray [o0, o1, o2, o3, o4, o5, o6, o7, o8, o9, o10, o11, o12, o13]) (cutPost P (List.toArray [o0, o1, o2, o3, o4, o5, o6, o7, o8, o9, o10, o11, o12, o13]) o14 Q) S fuel listed a w :=
  wpAnyH_done hr (show wpOp P ((List.toArray [o0, o1, o2, o3, o4, o5, o6, o7, o8, o9, o10, o11, o12, o13]).push o14) Q 14 (Q .normal) a w from wpOp_step (ops := (List.toArray [o0, o1, o2, o3, o4, o5, o6, o7, o8, o9, o10, o11, o12, o13]).push o14) (o := o14) rfl (fun K hK => h K hK)) _

theorem hold15 {S : World → Prop} {md : Region.Mode} {o0 o1 o2 o3 o4 o5 o6 o7 o8 o9 o10 o11 o12 o13 o14 o15 : Oper} {rest : List Oper} {v : Value} {fuel : Nat} {listed : Array Bool} {a : Act} {w : World}
    (hs : Region.noSelect (List.toArray (o0 :: o1 :: o2 :: o3 :: o4 :: o5 :: o6 :: o7 :: o8 :: o9 :: o10 :: o11 :: o12 :: o13 :: o14 :: o15 :: rest)) = true) (hf : Region.free md (List.toArray (o0 :: o1 :: o2 :: o3 :: o4 :: o5 :: o6 :: o7 :: o8 :: o9 :: o10 :: o11 :: o12 :: o13 :: o14 :: o15 :: rest)) listed 15 = true) (hr : (Region.ready md (List.toArray (o0 :: o1 :: o2 :: o3 :: o4 :: o5 :: o6 :: o7 :: o8 :: o9 :: o10 :: o11 :: o12 :: o13 :: o14 :: o15 :: rest)) listed).contains 15 = true)
    (hQ : ∀ c a w, Q (.panic c) (a.put o15.dst v) w → Q (.panic c) a w) (hw : Region.wanted o15 (yielded (List.toArray (o0 :: o1 :: o2 :: o3 :: o4 :: o5 :: o6 :: o7 :: o8 :: o9 :: o10 :: o11 :: o12 :: o13 :: o14 :: o15 :: rest)) a.tmps) = true) (hy : ∀ w, S w → (execOp a.eval o15).run P w = .ok (.value v) w) (hS : S w)
    (h : wpAnyH P md (List.toArray (o0 :: o1 :: o2 :: o3 :: o4 :: o5 :: o6 :: o7 :: o8 :: o9 :: o10 :: o11 :: o12 :: o13 :: o14 :: o15 :: rest)) Q S fuel (listed.setIfInBounds 15 true) (a.put o15.dst v) w) : wpAnyH P md (List.toArray (o0 :: o1 :: o2 :: o3 :: o4 :: o5 :: o6 :: o7 :: o8 :: o9 :: o10 :: o11 :: o12 :: o13 :: o14 :: o15 :: rest)) Q S (fuel + 1) listed a w :=
  wpAnyH_take (i := 15) rfl hs hf hr hQ (.inl ⟨hw, hy⟩) hS h
theorem next15 {S : World → Prop} {md : Region.Mode} {o0 o1 o2 o3 o4 o5 o6 o7 o8 o9 o10 o11 o12 o13 o14 o15 : Oper} {rest : List Oper} {fuel : Nat} {listed : Array Bool} {a : Act} {w : World}
    (hr : Region.ready md (List.toArray (o0 :: o1 :: o2 :: o3 :: o4 :: o5 :: o6 :: o7 :: o8 :: o9 :: o10 :: o11 :: o12 :: o13 :: o14 :: o15 :: rest)) listed = [15])
    (h : ∀ K' : Act → World → Prop, Shut (∀ a w, S w → (S w → wpAnyH P md (List.toArray (o0 :: o1 :: o2 :: o3 :: o4 :: o5 :: o6 :: o7 :: o8 :: o9 :: o10 :: o11 :: o12 :: o13 :: o14 :: o15 :: rest)) Q S fuel (listed.setIfInBounds 15 true) a w) → K' a w) → if Region.wanted o15 (yielded (List.toArray (o0 :: o1 :: o2 :: o3 :: o4 :: o5 :: o6 :: o7 :: o8 :: o9 :: o10 :: o11 :: o12 :: o13 :: o14 :: o15 :: rest)) a.tmps) = true then Oper.wp P o15 a w K' Q else K' (a.put o15.dst undef) w) : wpAnyH P md (List.toArray (o0 :: o1 :: o2 :: o3 :: o4 :: o5 :: o6 :: o7 :: o8 :: o9 :: o10 :: o11 :: o12 :: o13 :: o14 :: o15 :: rest)) Q S (fuel + 1) listed a w :=
  wpAnyH_ready hr (by simp) (AllReadyH.cons (o := o15) rfl h AllReadyH.nil)

theorem cut15 {S : World → Prop} {o0 o1 o2 o3 o4 o5 o6 o7 o8 o9 o10 o11 o12 o13 o14 o15 : Oper} {id : Nat} {a : Act} {w : World} (hm : P.follows .mixedOrders = true) (hc : ChainsB .any (List.toArray [o0, o1, o2, o3, o4, o5, o6, o7, o8, o9, o10, o11, o12, o13, o14]) o15 = true) (hS : S w.drew)
    (h : S w.drew → wpAnyH P .any (List.toArray [o0, o1, o2, o3, o4, o5, o6, o7, o8, o9, o10, o11, o12, o13, o14]) (cutPost P (List.toArray [o0, o1, o2, o3, o4, o5, o6, o7, o8, o9, o10, o11, o12, o13, o14]) o15 Q) S 15 (Array.replicate 15 false) a w.drew) : (Code.region id (List.toArray [o0, o1, o2, o3, o4, o5, o6, o7, o8, o9, o10, o11, o12, o13, o14, o15]) true).wp P Q a w :=
  wp_region_cut (List.toArray [o0, o1, o2, o3, o4, o5, o6, o7, o8, o9, o10, o11, o12, o13, o14]) o15 rfl hm hc hS h
theorem ends15 {S : World → Prop} {o0 o1 o2 o3 o4 o5 o6 o7 o8 o9 o10 o11 o12 o13 o14 o15 : Oper} {fuel : Nat} {listed : Array Bool} {a : Act} {w : World} (hr : Region.ready .any (List.toArray [o0, o1, o2, o3, o4, o5, o6, o7, o8, o9, o10, o11, o12, o13, o14]) listed = [])
    (h : ∀ K' : Act → World → Prop, Shut (∀ a w, Q .normal a w → K' a w) → if Region.wanted o15 (yielded (List.toArray [o0, o1, o2, o3, o4, o5, o6, o7, o8, o9, o10, o11, o12, o13, o14, o15]) a.tmps) = true then Oper.wp P o15 a w K' Q else K' (a.put o15.dst undef) w) : wpAnyH P .any (List.toArray [o0, o1, o2, o3, o4, o5, o6, o7, o8, o9, o10, o11, o12, o13, o14]) (cutPost P (List.toArray [o0, o1, o2, o3, o4, o5, o6, o7, o8, o9, o10, o11, o12, o13, o14]) o15 Q) S fuel listed a w :=
  wpAnyH_done hr (show wpOp P ((List.toArray [o0, o1, o2, o3, o4, o5, o6, o7, o8, o9, o10, o11, o12, o13, o14]).push o15) Q 15 (Q .normal) a w from wpOp_step (ops := (List.toArray [o0, o1, o2, o3, o4, o5, o6, o7, o8, o9, o10, o11, o12, o13, o14]).push o15) (o := o15) rfl (fun K hK => h K hK)) _

theorem hold16 {S : World → Prop} {md : Region.Mode} {o0 o1 o2 o3 o4 o5 o6 o7 o8 o9 o10 o11 o12 o13 o14 o15 o16 : Oper} {rest : List Oper} {v : Value} {fuel : Nat} {listed : Array Bool} {a : Act} {w : World}
    (hs : Region.noSelect (List.toArray (o0 :: o1 :: o2 :: o3 :: o4 :: o5 :: o6 :: o7 :: o8 :: o9 :: o10 :: o11 :: o12 :: o13 :: o14 :: o15 :: o16 :: rest)) = true) (hf : Region.free md (List.toArray (o0 :: o1 :: o2 :: o3 :: o4 :: o5 :: o6 :: o7 :: o8 :: o9 :: o10 :: o11 :: o12 :: o13 :: o14 :: o15 :: o16 :: rest)) listed 16 = true) (hr : (Region.ready md (List.toArray (o0 :: o1 :: o2 :: o3 :: o4 :: o5 :: o6 :: o7 :: o8 :: o9 :: o10 :: o11 :: o12 :: o13 :: o14 :: o15 :: o16 :: rest)) listed).contains 16 = true)
    (hQ : ∀ c a w, Q (.panic c) (a.put o16.dst v) w → Q (.panic c) a w) (hw : Region.wanted o16 (yielded (List.toArray (o0 :: o1 :: o2 :: o3 :: o4 :: o5 :: o6 :: o7 :: o8 :: o9 :: o10 :: o11 :: o12 :: o13 :: o14 :: o15 :: o16 :: rest)) a.tmps) = true) (hy : ∀ w, S w → (execOp a.eval o16).run P w = .ok (.value v) w) (hS : S w)
    (h : wpAnyH P md (List.toArray (o0 :: o1 :: o2 :: o3 :: o4 :: o5 :: o6 :: o7 :: o8 :: o9 :: o10 :: o11 :: o12 :: o13 :: o14 :: o15 :: o16 :: rest)) Q S fuel (listed.setIfInBounds 16 true) (a.put o16.dst v) w) : wpAnyH P md (List.toArray (o0 :: o1 :: o2 :: o3 :: o4 :: o5 :: o6 :: o7 :: o8 :: o9 :: o10 :: o11 :: o12 :: o13 :: o14 :: o15 :: o16 :: rest)) Q S (fuel + 1) listed a w :=
  wpAnyH_take (i := 16) rfl hs hf hr hQ (.inl ⟨hw, hy⟩) hS h
theorem next16 {S : World → Prop} {md : Region.Mode} {o0 o1 o2 o3 o4 o5 o6 o7 o8 o9 o10 o11 o12 o13 o14 o15 o16 : Oper} {rest : List Oper} {fuel : Nat} {listed : Array Bool} {a : Act} {w : World}
    (hr : Region.ready md (List.toArray (o0 :: o1 :: o2 :: o3 :: o4 :: o5 :: o6 :: o7 :: o8 :: o9 :: o10 :: o11 :: o12 :: o13 :: o14 :: o15 :: o16 :: rest)) listed = [16])
    (h : ∀ K' : Act → World → Prop, Shut (∀ a w, S w → (S w → wpAnyH P md (List.toArray (o0 :: o1 :: o2 :: o3 :: o4 :: o5 :: o6 :: o7 :: o8 :: o9 :: o10 :: o11 :: o12 :: o13 :: o14 :: o15 :: o16 :: rest)) Q S fuel (listed.setIfInBounds 16 true) a w) → K' a w) → if Region.wanted o16 (yielded (List.toArray (o0 :: o1 :: o2 :: o3 :: o4 :: o5 :: o6 :: o7 :: o8 :: o9 :: o10 :: o11 :: o12 :: o13 :: o14 :: o15 :: o16 :: rest)) a.tmps) = true then Oper.wp P o16 a w K' Q else K' (a.put o16.dst undef) w) : wpAnyH P md (List.toArray (o0 :: o1 :: o2 :: o3 :: o4 :: o5 :: o6 :: o7 :: o8 :: o9 :: o10 :: o11 :: o12 :: o13 :: o14 :: o15 :: o16 :: rest)) Q S (fuel + 1) listed a w :=
  wpAnyH_ready hr (by simp) (AllReadyH.cons (o := o16) rfl h AllReadyH.nil)

theorem cut16 {S : World → Prop} {o0 o1 o2 o3 o4 o5 o6 o7 o8 o9 o10 o11 o12 o13 o14 o15 o16 : Oper} {id : Nat} {a : Act} {w : World} (hm : P.follows .mixedOrders = true) (hc : ChainsB .any (List.toArray [o0, o1, o2, o3, o4, o5, o6, o7, o8, o9, o10, o11, o12, o13, o14, o15]) o16 = true) (hS : S w.drew)
    (h : S w.drew → wpAnyH P .any (List.toArray [o0, o1, o2, o3, o4, o5, o6, o7, o8, o9, o10, o11, o12, o13, o14, o15]) (cutPost P (List.toArray [o0, o1, o2, o3, o4, o5, o6, o7, o8, o9, o10, o11, o12, o13, o14, o15]) o16 Q) S 16 (Array.replicate 16 false) a w.drew) : (Code.region id (List.toArray [o0, o1, o2, o3, o4, o5, o6, o7, o8, o9, o10, o11, o12, o13, o14, o15, o16]) true).wp P Q a w :=
  wp_region_cut (List.toArray [o0, o1, o2, o3, o4, o5, o6, o7, o8, o9, o10, o11, o12, o13, o14, o15]) o16 rfl hm hc hS h
theorem ends16 {S : World → Prop} {o0 o1 o2 o3 o4 o5 o6 o7 o8 o9 o10 o11 o12 o13 o14 o15 o16 : Oper} {fuel : Nat} {listed : Array Bool} {a : Act} {w : World} (hr : Region.ready .any (List.toArray [o0, o1, o2, o3, o4, o5, o6, o7, o8, o9, o10, o11, o12, o13, o14, o15]) listed = [])
    (h : ∀ K' : Act → World → Prop, Shut (∀ a w, Q .normal a w → K' a w) → if Region.wanted o16 (yielded (List.toArray [o0, o1, o2, o3, o4, o5, o6, o7, o8, o9, o10, o11, o12, o13, o14, o15, o16]) a.tmps) = true then Oper.wp P o16 a w K' Q else K' (a.put o16.dst undef) w) : wpAnyH P .any (List.toArray [o0, o1, o2, o3, o4, o5, o6, o7, o8, o9, o10, o11, o12, o13, o14, o15]) (cutPost P (List.toArray [o0, o1, o2, o3, o4, o5, o6, o7, o8, o9, o10, o11, o12, o13, o14, o15]) o16 Q) S fuel listed a w :=
  wpAnyH_done hr (show wpOp P ((List.toArray [o0, o1, o2, o3, o4, o5, o6, o7, o8, o9, o10, o11, o12, o13, o14, o15]).push o16) Q 16 (Q .normal) a w from wpOp_step (ops := (List.toArray [o0, o1, o2, o3, o4, o5, o6, o7, o8, o9, o10, o11, o12, o13, o14, o15]).push o16) (o := o16) rfl (fun K hK => h K hK)) _

theorem hold17 {S : World → Prop} {md : Region.Mode} {o0 o1 o2 o3 o4 o5 o6 o7 o8 o9 o10 o11 o12 o13 o14 o15 o16 o17 : Oper} {rest : List Oper} {v : Value} {fuel : Nat} {listed : Array Bool} {a : Act} {w : World}
    (hs : Region.noSelect (List.toArray (o0 :: o1 :: o2 :: o3 :: o4 :: o5 :: o6 :: o7 :: o8 :: o9 :: o10 :: o11 :: o12 :: o13 :: o14 :: o15 :: o16 :: o17 :: rest)) = true) (hf : Region.free md (List.toArray (o0 :: o1 :: o2 :: o3 :: o4 :: o5 :: o6 :: o7 :: o8 :: o9 :: o10 :: o11 :: o12 :: o13 :: o14 :: o15 :: o16 :: o17 :: rest)) listed 17 = true) (hr : (Region.ready md (List.toArray (o0 :: o1 :: o2 :: o3 :: o4 :: o5 :: o6 :: o7 :: o8 :: o9 :: o10 :: o11 :: o12 :: o13 :: o14 :: o15 :: o16 :: o17 :: rest)) listed).contains 17 = true)
    (hQ : ∀ c a w, Q (.panic c) (a.put o17.dst v) w → Q (.panic c) a w) (hw : Region.wanted o17 (yielded (List.toArray (o0 :: o1 :: o2 :: o3 :: o4 :: o5 :: o6 :: o7 :: o8 :: o9 :: o10 :: o11 :: o12 :: o13 :: o14 :: o15 :: o16 :: o17 :: rest)) a.tmps) = true) (hy : ∀ w, S w → (execOp a.eval o17).run P w = .ok (.value v) w) (hS : S w)
    (h : wpAnyH P md (List.toArray (o0 :: o1 :: o2 :: o3 :: o4 :: o5 :: o6 :: o7 :: o8 :: o9 :: o10 :: o11 :: o12 :: o13 :: o14 :: o15 :: o16 :: o17 :: rest)) Q S fuel (listed.setIfInBounds 17 true) (a.put o17.dst v) w) : wpAnyH P md (List.toArray (o0 :: o1 :: o2 :: o3 :: o4 :: o5 :: o6 :: o7 :: o8 :: o9 :: o10 :: o11 :: o12 :: o13 :: o14 :: o15 :: o16 :: o17 :: rest)) Q S (fuel + 1) listed a w :=
  wpAnyH_take (i := 17) rfl hs hf hr hQ (.inl ⟨hw, hy⟩) hS h
theorem next17 {S : World → Prop} {md : Region.Mode} {o0 o1 o2 o3 o4 o5 o6 o7 o8 o9 o10 o11 o12 o13 o14 o15 o16 o17 : Oper} {rest : List Oper} {fuel : Nat} {listed : Array Bool} {a : Act} {w : World}
    (hr : Region.ready md (List.toArray (o0 :: o1 :: o2 :: o3 :: o4 :: o5 :: o6 :: o7 :: o8 :: o9 :: o10 :: o11 :: o12 :: o13 :: o14 :: o15 :: o16 :: o17 :: rest)) listed = [17])
    (h : ∀ K' : Act → World → Prop, Shut (∀ a w, S w → (S w → wpAnyH P md (List.toArray (o0 :: o1 :: o2 :: o3 :: o4 :: o5 :: o6 :: o7 :: o8 :: o9 :: o10 :: o11 :: o12 :: o13 :: o14 :: o15 :: o16 :: o17 :: rest)) Q S fuel (listed.setIfInBounds 17 true) a w) → K' a w) → if Region.wanted o17 (yielded (List.toArray (o0 :: o1 :: o2 :: o3 :: o4 :: o5 :: o6 :: o7 :: o8 :: o9 :: o10 :: o11 :: o12 :: o13 :: o14 :: o15 :: o16 :: o17 :: rest)) a.tmps) = true then Oper.wp P o17 a w K' Q else K' (a.put o17.dst undef) w) : wpAnyH P md (List.toArray (o0 :: o1 :: o2 :: o3 :: o4 :: o5 :: o6 :: o7 :: o8 :: o9 :: o10 :: o11 :: o12 :: o13 :: o14 :: o15 :: o16 :: o17 :: rest)) Q S (fuel + 1) listed a w :=
  wpAnyH_ready hr (by simp) (AllReadyH.cons (o := o17) rfl h AllReadyH.nil)

theorem cut17 {S : World → Prop} {o0 o1 o2 o3 o4 o5 o6 o7 o8 o9 o10 o11 o12 o13 o14 o15 o16 o17 : Oper} {id : Nat} {a : Act} {w : World} (hm : P.follows .mixedOrders = true) (hc : ChainsB .any (List.toArray [o0, o1, o2, o3, o4, o5, o6, o7, o8, o9, o10, o11, o12, o13, o14, o15, o16]) o17 = true) (hS : S w.drew)
    (h : S w.drew → wpAnyH P .any (List.toArray [o0, o1, o2, o3, o4, o5, o6, o7, o8, o9, o10, o11, o12, o13, o14, o15, o16]) (cutPost P (List.toArray [o0, o1, o2, o3, o4, o5, o6, o7, o8, o9, o10, o11, o12, o13, o14, o15, o16]) o17 Q) S 17 (Array.replicate 17 false) a w.drew) : (Code.region id (List.toArray [o0, o1, o2, o3, o4, o5, o6, o7, o8, o9, o10, o11, o12, o13, o14, o15, o16, o17]) true).wp P Q a w :=
  wp_region_cut (List.toArray [o0, o1, o2, o3, o4, o5, o6, o7, o8, o9, o10, o11, o12, o13, o14, o15, o16]) o17 rfl hm hc hS h
theorem ends17 {S : World → Prop} {o0 o1 o2 o3 o4 o5 o6 o7 o8 o9 o10 o11 o12 o13 o14 o15 o16 o17 : Oper} {fuel : Nat} {listed : Array Bool} {a : Act} {w : World} (hr : Region.ready .any (List.toArray [o0, o1, o2, o3, o4, o5, o6, o7, o8, o9, o10, o11, o12, o13, o14, o15, o16]) listed = [])
    (h : ∀ K' : Act → World → Prop, Shut (∀ a w, Q .normal a w → K' a w) → if Region.wanted o17 (yielded (List.toArray [o0, o1, o2, o3, o4, o5, o6, o7, o8, o9, o10, o11, o12, o13, o14, o15, o16, o17]) a.tmps) = true then Oper.wp P o17 a w K' Q else K' (a.put o17.dst undef) w) : wpAnyH P .any (List.toArray [o0, o1, o2, o3, o4, o5, o6, o7, o8, o9, o10, o11, o12, o13, o14, o15, o16]) (cutPost P (List.toArray [o0, o1, o2, o3, o4, o5, o6, o7, o8, o9, o10, o11, o12, o13, o14, o15, o16]) o17 Q) S fuel listed a w :=
  wpAnyH_done hr (show wpOp P ((List.toArray [o0, o1, o2, o3, o4, o5, o6, o7, o8, o9, o10, o11, o12, o13, o14, o15, o16]).push o17) Q 17 (Q .normal) a w from wpOp_step (ops := (List.toArray [o0, o1, o2, o3, o4, o5, o6, o7, o8, o9, o10, o11, o12, o13, o14, o15, o16]).push o17) (o := o17) rfl (fun K hK => h K hK)) _

theorem hold18 {S : World → Prop} {md : Region.Mode} {o0 o1 o2 o3 o4 o5 o6 o7 o8 o9 o10 o11 o12 o13 o14 o15 o16 o17 o18 : Oper} {rest : List Oper} {v : Value} {fuel : Nat} {listed : Array Bool} {a : Act} {w : World}
    (hs : Region.noSelect (List.toArray (o0 :: o1 :: o2 :: o3 :: o4 :: o5 :: o6 :: o7 :: o8 :: o9 :: o10 :: o11 :: o12 :: o13 :: o14 :: o15 :: o16 :: o17 :: o18 :: rest)) = true) (hf : Region.free md (List.toArray (o0 :: o1 :: o2 :: o3 :: o4 :: o5 :: o6 :: o7 :: o8 :: o9 :: o10 :: o11 :: o12 :: o13 :: o14 :: o15 :: o16 :: o17 :: o18 :: rest)) listed 18 = true) (hr : (Region.ready md (List.toArray (o0 :: o1 :: o2 :: o3 :: o4 :: o5 :: o6 :: o7 :: o8 :: o9 :: o10 :: o11 :: o12 :: o13 :: o14 :: o15 :: o16 :: o17 :: o18 :: rest)) listed).contains 18 = true)
    (hQ : ∀ c a w, Q (.panic c) (a.put o18.dst v) w → Q (.panic c) a w) (hw : Region.wanted o18 (yielded (List.toArray (o0 :: o1 :: o2 :: o3 :: o4 :: o5 :: o6 :: o7 :: o8 :: o9 :: o10 :: o11 :: o12 :: o13 :: o14 :: o15 :: o16 :: o17 :: o18 :: rest)) a.tmps) = true) (hy : ∀ w, S w → (execOp a.eval o18).run P w = .ok (.value v) w) (hS : S w)
    (h : wpAnyH P md (List.toArray (o0 :: o1 :: o2 :: o3 :: o4 :: o5 :: o6 :: o7 :: o8 :: o9 :: o10 :: o11 :: o12 :: o13 :: o14 :: o15 :: o16 :: o17 :: o18 :: rest)) Q S fuel (listed.setIfInBounds 18 true) (a.put o18.dst v) w) : wpAnyH P md (List.toArray (o0 :: o1 :: o2 :: o3 :: o4 :: o5 :: o6 :: o7 :: o8 :: o9 :: o10 :: o11 :: o12 :: o13 :: o14 :: o15 :: o16 :: o17 :: o18 :: rest)) Q S (fuel + 1) listed a w :=
  wpAnyH_take (i := 18) rfl hs hf hr hQ (.inl ⟨hw, hy⟩) hS h
theorem next18 {S : World → Prop} {md : Region.Mode} {o0 o1 o2 o3 o4 o5 o6 o7 o8 o9 o10 o11 o12 o13 o14 o15 o16 o17 o18 : Oper} {rest : List Oper} {fuel : Nat} {listed : Array Bool} {a : Act} {w : World}
    (hr : Region.ready md (List.toArray (o0 :: o1 :: o2 :: o3 :: o4 :: o5 :: o6 :: o7 :: o8 :: o9 :: o10 :: o11 :: o12 :: o13 :: o14 :: o15 :: o16 :: o17 :: o18 :: rest)) listed = [18])
    (h : ∀ K' : Act → World → Prop, Shut (∀ a w, S w → (S w → wpAnyH P md (List.toArray (o0 :: o1 :: o2 :: o3 :: o4 :: o5 :: o6 :: o7 :: o8 :: o9 :: o10 :: o11 :: o12 :: o13 :: o14 :: o15 :: o16 :: o17 :: o18 :: rest)) Q S fuel (listed.setIfInBounds 18 true) a w) → K' a w) → if Region.wanted o18 (yielded (List.toArray (o0 :: o1 :: o2 :: o3 :: o4 :: o5 :: o6 :: o7 :: o8 :: o9 :: o10 :: o11 :: o12 :: o13 :: o14 :: o15 :: o16 :: o17 :: o18 :: rest)) a.tmps) = true then Oper.wp P o18 a w K' Q else K' (a.put o18.dst undef) w) : wpAnyH P md (List.toArray (o0 :: o1 :: o2 :: o3 :: o4 :: o5 :: o6 :: o7 :: o8 :: o9 :: o10 :: o11 :: o12 :: o13 :: o14 :: o15 :: o16 :: o17 :: o18 :: rest)) Q S (fuel + 1) listed a w :=
  wpAnyH_ready hr (by simp) (AllReadyH.cons (o := o18) rfl h AllReadyH.nil)

theorem cut18 {S : World → Prop} {o0 o1 o2 o3 o4 o5 o6 o7 o8 o9 o10 o11 o12 o13 o14 o15 o16 o17 o18 : Oper} {id : Nat} {a : Act} {w : World} (hm : P.follows .mixedOrders = true) (hc : ChainsB .any (List.toArray [o0, o1, o2, o3, o4, o5, o6, o7, o8, o9, o10, o11, o12, o13, o14, o15, o16, o17]) o18 = true) (hS : S w.drew)
    (h : S w.drew → wpAnyH P .any (List.toArray [o0, o1, o2, o3, o4, o5, o6, o7, o8, o9, o10, o11, o12, o13, o14, o15, o16, o17]) (cutPost P (List.toArray [o0, o1, o2, o3, o4, o5, o6, o7, o8, o9, o10, o11, o12, o13, o14, o15, o16, o17]) o18 Q) S 18 (Array.replicate 18 false) a w.drew) : (Code.region id (List.toArray [o0, o1, o2, o3, o4, o5, o6, o7, o8, o9, o10, o11, o12, o13, o14, o15, o16, o17, o18]) true).wp P Q a w :=
  wp_region_cut (List.toArray [o0, o1, o2, o3, o4, o5, o6, o7, o8, o9, o10, o11, o12, o13, o14, o15, o16, o17]) o18 rfl hm hc hS h
theorem ends18 {S : World → Prop} {o0 o1 o2 o3 o4 o5 o6 o7 o8 o9 o10 o11 o12 o13 o14 o15 o16 o17 o18 : Oper} {fuel : Nat} {listed : Array Bool} {a : Act} {w : World} (hr : Region.ready .any (List.toArray [o0, o1, o2, o3, o4, o5, o6, o7, o8, o9, o10, o11, o12, o13, o14, o15, o16, o17]) listed = [])
    (h : ∀ K' : Act → World → Prop, Shut (∀ a w, Q .normal a w → K' a w) → if Region.wanted o18 (yielded (List.toArray [o0, o1, o2, o3, o4, o5, o6, o7, o8, o9, o10, o11, o12, o13, o14, o15, o16, o17, o18]) a.tmps) = true then Oper.wp P o18 a w K' Q else K' (a.put o18.dst undef) w) : wpAnyH P .any (List.toArray [o0, o1, o2, o3, o4, o5, o6, o7, o8, o9, o10, o11, o12, o13, o14, o15, o16, o17]) (cutPost P (List.toArray [o0, o1, o2, o3, o4, o5, o6, o7, o8, o9, o10, o11, o12, o13, o14, o15, o16, o17]) o18 Q) S fuel listed a w :=
  wpAnyH_done hr (show wpOp P ((List.toArray [o0, o1, o2, o3, o4, o5, o6, o7, o8, o9, o10, o11, o12, o13, o14, o15, o16, o17]).push o18) Q 18 (Q .normal) a w from wpOp_step (ops := (List.toArray [o0, o1, o2, o3, o4, o5, o6, o7, o8, o9, o10, o11, o12, o13, o14, o15, o16, o17]).push o18) (o := o18) rfl (fun K hK => h K hK)) _

theorem hold19 {S : World → Prop} {md : Region.Mode} {o0 o1 o2 o3 o4 o5 o6 o7 o8 o9 o10 o11 o12 o13 o14 o15 o16 o17 o18 o19 : Oper} {rest : List Oper} {v : Value} {fuel : Nat} {listed : Array Bool} {a : Act} {w : World}
    (hs : Region.noSelect (List.toArray (o0 :: o1 :: o2 :: o3 :: o4 :: o5 :: o6 :: o7 :: o8 :: o9 :: o10 :: o11 :: o12 :: o13 :: o14 :: o15 :: o16 :: o17 :: o18 :: o19 :: rest)) = true) (hf : Region.free md (List.toArray (o0 :: o1 :: o2 :: o3 :: o4 :: o5 :: o6 :: o7 :: o8 :: o9 :: o10 :: o11 :: o12 :: o13 :: o14 :: o15 :: o16 :: o17 :: o18 :: o19 :: rest)) listed 19 = true) (hr : (Region.ready md (List.toArray (o0 :: o1 :: o2 :: o3 :: o4 :: o5 :: o6 :: o7 :: o8 :: o9 :: o10 :: o11 :: o12 :: o13 :: o14 :: o15 :: o16 :: o17 :: o18 :: o19 :: rest)) listed).contains 19 = true)
    (hQ : ∀ c a w, Q (.panic c) (a.put o19.dst v) w → Q (.panic c) a w) (hw : Region.wanted o19 (yielded (List.toArray (o0 :: o1 :: o2 :: o3 :: o4 :: o5 :: o6 :: o7 :: o8 :: o9 :: o10 :: o11 :: o12 :: o13 :: o14 :: o15 :: o16 :: o17 :: o18 :: o19 :: rest)) a.tmps) = true) (hy : ∀ w, S w → (execOp a.eval o19).run P w = .ok (.value v) w) (hS : S w)
    (h : wpAnyH P md (List.toArray (o0 :: o1 :: o2 :: o3 :: o4 :: o5 :: o6 :: o7 :: o8 :: o9 :: o10 :: o11 :: o12 :: o13 :: o14 :: o15 :: o16 :: o17 :: o18 :: o19 :: rest)) Q S fuel (listed.setIfInBounds 19 true) (a.put o19.dst v) w) : wpAnyH P md (List.toArray (o0 :: o1 :: o2 :: o3 :: o4 :: o5 :: o6 :: o7 :: o8 :: o9 :: o10 :: o11 :: o12 :: o13 :: o14 :: o15 :: o16 :: o17 :: o18 :: o19 :: rest)) Q S (fuel + 1) listed a w :=
  wpAnyH_take (i := 19) rfl hs hf hr hQ (.inl ⟨hw, hy⟩) hS h
theorem next19 {S : World → Prop} {md : Region.Mode} {o0 o1 o2 o3 o4 o5 o6 o7 o8 o9 o10 o11 o12 o13 o14 o15 o16 o17 o18 o19 : Oper} {rest : List Oper} {fuel : Nat} {listed : Array Bool} {a : Act} {w : World}
    (hr : Region.ready md (List.toArray (o0 :: o1 :: o2 :: o3 :: o4 :: o5 :: o6 :: o7 :: o8 :: o9 :: o10 :: o11 :: o12 :: o13 :: o14 :: o15 :: o16 :: o17 :: o18 :: o19 :: rest)) listed = [19])
    (h : ∀ K' : Act → World → Prop, Shut (∀ a w, S w → (S w → wpAnyH P md (List.toArray (o0 :: o1 :: o2 :: o3 :: o4 :: o5 :: o6 :: o7 :: o8 :: o9 :: o10 :: o11 :: o12 :: o13 :: o14 :: o15 :: o16 :: o17 :: o18 :: o19 :: rest)) Q S fuel (listed.setIfInBounds 19 true) a w) → K' a w) → if Region.wanted o19 (yielded (List.toArray (o0 :: o1 :: o2 :: o3 :: o4 :: o5 :: o6 :: o7 :: o8 :: o9 :: o10 :: o11 :: o12 :: o13 :: o14 :: o15 :: o16 :: o17 :: o18 :: o19 :: rest)) a.tmps) = true then Oper.wp P o19 a w K' Q else K' (a.put o19.dst undef) w) : wpAnyH P md (List.toArray (o0 :: o1 :: o2 :: o3 :: o4 :: o5 :: o6 :: o7 :: o8 :: o9 :: o10 :: o11 :: o12 :: o13 :: o14 :: o15 :: o16 :: o17 :: o18 :: o19 :: rest)) Q S (fuel + 1) listed a w :=
  wpAnyH_ready hr (by simp) (AllReadyH.cons (o := o19) rfl h AllReadyH.nil)

theorem cut19 {S : World → Prop} {o0 o1 o2 o3 o4 o5 o6 o7 o8 o9 o10 o11 o12 o13 o14 o15 o16 o17 o18 o19 : Oper} {id : Nat} {a : Act} {w : World} (hm : P.follows .mixedOrders = true) (hc : ChainsB .any (List.toArray [o0, o1, o2, o3, o4, o5, o6, o7, o8, o9, o10, o11, o12, o13, o14, o15, o16, o17, o18]) o19 = true) (hS : S w.drew)
    (h : S w.drew → wpAnyH P .any (List.toArray [o0, o1, o2, o3, o4, o5, o6, o7, o8, o9, o10, o11, o12, o13, o14, o15, o16, o17, o18]) (cutPost P (List.toArray [o0, o1, o2, o3, o4, o5, o6, o7, o8, o9, o10, o11, o12, o13, o14, o15, o16, o17, o18]) o19 Q) S 19 (Array.replicate 19 false) a w.drew) : (Code.region id (List.toArray [o0, o1, o2, o3, o4, o5, o6, o7, o8, o9, o10, o11, o12, o13, o14, o15, o16, o17, o18, o19]) true).wp P Q a w :=
  wp_region_cut (List.toArray [o0, o1, o2, o3, o4, o5, o6, o7, o8, o9, o10, o11, o12, o13, o14, o15, o16, o17, o18]) o19 rfl hm hc hS h
theorem ends19 {S : World → Prop} {o0 o1 o2 o3 o4 o5 o6 o7 o8 o9 o10 o11 o12 o13 o14 o15 o16 o17 o18 o19 : Oper} {fuel : Nat} {listed : Array Bool} {a : Act} {w : World} (hr : Region.ready .any (List.toArray [o0, o1, o2, o3, o4, o5, o6, o7, o8, o9, o10, o11, o12, o13, o14, o15, o16, o17, o18]) listed = [])
    (h : ∀ K' : Act → World → Prop, Shut (∀ a w, Q .normal a w → K' a w) → if Region.wanted o19 (yielded (List.toArray [o0, o1, o2, o3, o4, o5, o6, o7, o8, o9, o10, o11, o12, o13, o14, o15, o16, o17, o18, o19]) a.tmps) = true then Oper.wp P o19 a w K' Q else K' (a.put o19.dst undef) w) : wpAnyH P .any (List.toArray [o0, o1, o2, o3, o4, o5, o6, o7, o8, o9, o10, o11, o12, o13, o14, o15, o16, o17, o18]) (cutPost P (List.toArray [o0, o1, o2, o3, o4, o5, o6, o7, o8, o9, o10, o11, o12, o13, o14, o15, o16, o17, o18]) o19 Q) S fuel listed a w :=
  wpAnyH_done hr (show wpOp P ((List.toArray [o0, o1, o2, o3, o4, o5, o6, o7, o8, o9, o10, o11, o12, o13, o14, o15, o16, o17, o18]).push o19) Q 19 (Q .normal) a w from wpOp_step (ops := (List.toArray [o0, o1, o2, o3, o4, o5, o6, o7, o8, o9, o10, o11, o12, o13, o14, o15, o16, o17, o18]).push o19) (o := o19) rfl (fun K hK => h K hK)) _

theorem hold20 {S : World → Prop} {md : Region.Mode} {o0 o1 o2 o3 o4 o5 o6 o7 o8 o9 o10 o11 o12 o13 o14 o15 o16 o17 o18 o19 o20 : Oper} {rest : List Oper} {v : Value} {fuel : Nat} {listed : Array Bool} {a : Act} {w : World}
    (hs : Region.noSelect (List.toArray (o0 :: o1 :: o2 :: o3 :: o4 :: o5 :: o6 :: o7 :: o8 :: o9 :: o10 :: o11 :: o12 :: o13 :: o14 :: o15 :: o16 :: o17 :: o18 :: o19 :: o20 :: rest)) = true) (hf : Region.free md (List.toArray (o0 :: o1 :: o2 :: o3 :: o4 :: o5 :: o6 :: o7 :: o8 :: o9 :: o10 :: o11 :: o12 :: o13 :: o14 :: o15 :: o16 :: o17 :: o18 :: o19 :: o20 :: rest)) listed 20 = true) (hr : (Region.ready md (List.toArray (o0 :: o1 :: o2 :: o3 :: o4 :: o5 :: o6 :: o7 :: o8 :: o9 :: o10 :: o11 :: o12 :: o13 :: o14 :: o15 :: o16 :: o17 :: o18 :: o19 :: o20 :: rest)) listed).contains 20 = true)
    (hQ : ∀ c a w, Q (.panic c) (a.put o20.dst v) w → Q (.panic c) a w) (hw : Region.wanted o20 (yielded (List.toArray (o0 :: o1 :: o2 :: o3 :: o4 :: o5 :: o6 :: o7 :: o8 :: o9 :: o10 :: o11 :: o12 :: o13 :: o14 :: o15 :: o16 :: o17 :: o18 :: o19 :: o20 :: rest)) a.tmps) = true) (hy : ∀ w, S w → (execOp a.eval o20).run P w = .ok (.value v) w) (hS : S w)
    (h : wpAnyH P md (List.toArray (o0 :: o1 :: o2 :: o3 :: o4 :: o5 :: o6 :: o7 :: o8 :: o9 :: o10 :: o11 :: o12 :: o13 :: o14 :: o15 :: o16 :: o17 :: o18 :: o19 :: o20 :: rest)) Q S fuel (listed.setIfInBounds 20 true) (a.put o20.dst v) w) : wpAnyH P md (List.toArray (o0 :: o1 :: o2 :: o3 :: o4 :: o5 :: o6 :: o7 :: o8 :: o9 :: o10 :: o11 :: o12 :: o13 :: o14 :: o15 :: o16 :: o17 :: o18 :: o19 :: o20 :: rest)) Q S (fuel + 1) listed a w :=
  wpAnyH_take (i := 20) rfl hs hf hr hQ (.inl ⟨hw, hy⟩) hS h
theorem next20 {S : World → Prop} {md : Region.Mode} {o0 o1 o2 o3 o4 o5 o6 o7 o8 o9 o10 o11 o12 o13 o14 o15 o16 o17 o18 o19 o20 : Oper} {rest : List Oper} {fuel : Nat} {listed : Array Bool} {a : Act} {w : World}
    (hr : Region.ready md (List.toArray (o0 :: o1 :: o2 :: o3 :: o4 :: o5 :: o6 :: o7 :: o8 :: o9 :: o10 :: o11 :: o12 :: o13 :: o14 :: o15 :: o16 :: o17 :: o18 :: o19 :: o20 :: rest)) listed = [20])
    (h : ∀ K' : Act → World → Prop, Shut (∀ a w, S w → (S w → wpAnyH P md (List.toArray (o0 :: o1 :: o2 :: o3 :: o4 :: o5 :: o6 :: o7 :: o8 :: o9 :: o10 :: o11 :: o12 :: o13 :: o14 :: o15 :: o16 :: o17 :: o18 :: o19 :: o20 :: rest)) Q S fuel (listed.setIfInBounds 20 true) a w) → K' a w) → if Region.wanted o20 (yielded (List.toArray (o0 :: o1 :: o2 :: o3 :: o4 :: o5 :: o6 :: o7 :: o8 :: o9 :: o10 :: o11 :: o12 :: o13 :: o14 :: o15 :: o16 :: o17 :: o18 :: o19 :: o20 :: rest)) a.tmps) = true then Oper.wp P o20 a w K' Q else K' (a.put o20.dst undef) w) : wpAnyH P md (List.toArray (o0 :: o1 :: o2 :: o3 :: o4 :: o5 :: o6 :: o7 :: o8 :: o9 :: o10 :: o11 :: o12 :: o13 :: o14 :: o15 :: o16 :: o17 :: o18 :: o19 :: o20 :: rest)) Q S (fuel + 1) listed a w :=
  wpAnyH_ready hr (by simp) (AllReadyH.cons (o := o20) rfl h AllReadyH.nil)

theorem cut20 {S : World → Prop} {o0 o1 o2 o3 o4 o5 o6 o7 o8 o9 o10 o11 o12 o13 o14 o15 o16 o17 o18 o19 o20 : Oper} {id : Nat} {a : Act} {w : World} (hm : P.follows .mixedOrders = true) (hc : ChainsB .any (List.toArray [o0, o1, o2, o3, o4, o5, o6, o7, o8, o9, o10, o11, o12, o13, o14, o15, o16, o17, o18, o19]) o20 = true) (hS : S w.drew)
    (h : S w.drew → wpAnyH P .any (List.toArray [o0, o1, o2, o3, o4, o5, o6, o7, o8, o9, o10, o11, o12, o13, o14, o15, o16, o17, o18, o19]) (cutPost P (List.toArray [o0, o1, o2, o3, o4, o5, o6, o7, o8, o9, o10, o11, o12, o13, o14, o15, o16, o17, o18, o19]) o20 Q) S 20 (Array.replicate 20 false) a w.drew) : (Code.region id (List.toArray [o0, o1, o2, o3, o4, o5, o6, o7, o8, o9, o10, o11, o12, o13, o14, o15, o16, o17, o18, o19, o20]) true).wp P Q a w :=
  wp_region_cut (List.toArray [o0, o1, o2, o3, o4, o5, o6, o7, o8, o9, o10, o11, o12, o13, o14, o15, o16, o17, o18, o19]) o20 rfl hm hc hS h
theorem ends20 {S : World → Prop} {o0 o1 o2 o3 o4 o5 o6 o7 o8 o9 o10 o11 o12 o13 o14 o15 o16 o17 o18 o19 o20 : Oper} {fuel : Nat} {listed : Array Bool} {a : Act} {w : World} (hr : Region.ready .any (List.toArray [o0, o1, o2, o3, o4, o5, o6, o7, o8, o9, o10, o11, o12, o13, o14, o15, o16, o17, o18, o19]) listed = [])
    (h : ∀ K' : Act → World → Prop, Shut (∀ a w, Q .normal a w → K' a w) → if Region.wanted o20 (yielded (List.toArray [o0, o1, o2, o3, o4, o5, o6, o7, o8, o9, o10, o11, o12, o13, o14, o15, o16, o17, o18, o19, o20]) a.tmps) = true then Oper.wp P o20 a w K' Q else K' (a.put o20.dst undef) w) : wpAnyH P .any (List.toArray [o0, o1, o2, o3, o4, o5, o6, o7, o8, o9, o10, o11, o12, o13, o14, o15, o16, o17, o18, o19]) (cutPost P (List.toArray [o0, o1, o2, o3, o4, o5, o6, o7, o8, o9, o10, o11, o12, o13, o14, o15, o16, o17, o18, o19]) o20 Q) S fuel listed a w :=
  wpAnyH_done hr (show wpOp P ((List.toArray [o0, o1, o2, o3, o4, o5, o6, o7, o8, o9, o10, o11, o12, o13, o14, o15, o16, o17, o18, o19]).push o20) Q 20 (Q .normal) a w from wpOp_step (ops := (List.toArray [o0, o1, o2, o3, o4, o5, o6, o7, o8, o9, o10, o11, o12, o13, o14, o15, o16, o17, o18, o19]).push o20) (o := o20) rfl (fun K hK => h K hK)) _

theorem hold21 {S : World → Prop} {md : Region.Mode} {o0 o1 o2 o3 o4 o5 o6 o7 o8 o9 o10 o11 o12 o13 o14 o15 o16 o17 o18 o19 o20 o21 : Oper} {rest : List Oper} {v : Value} {fuel : Nat} {listed : Array Bool} {a : Act} {w : World}
    (hs : Region.noSelect (List.toArray (o0 :: o1 :: o2 :: o3 :: o4 :: o5 :: o6 :: o7 :: o8 :: o9 :: o10 :: o11 :: o12 :: o13 :: o14 :: o15 :: o16 :: o17 :: o18 :: o19 :: o20 :: o21 :: rest)) = true) (hf : Region.free md (List.toArray (o0 :: o1 :: o2 :: o3 :: o4 :: o5 :: o6 :: o7 :: o8 :: o9 :: o10 :: o11 :: o12 :: o13 :: o14 :: o15 :: o16 :: o17 :: o18 :: o19 :: o20 :: o21 :: rest)) listed 21 = true) (hr : (Region.ready md (List.toArray (o0 :: o1 :: o2 :: o3 :: o4 :: o5 :: o6 :: o7 :: o8 :: o9 :: o10 :: o11 :: o12 :: o13 :: o14 :: o15 :: o16 :: o17 :: o18 :: o19 :: o20 :: o21 :: rest)) listed).contains 21 = true)
    (hQ : ∀ c a w, Q (.panic c) (a.put o21.dst v) w → Q (.panic c) a w) (hw : Region.wanted o21 (yielded (List.toArray (o0 :: o1 :: o2 :: o3 :: o4 :: o5 :: o6 :: o7 :: o8 :: o9 :: o10 :: o11 :: o12 :: o13 :: o14 :: o15 :: o16 :: o17 :: o18 :: o19 :: o20 :: o21 :: rest)) a.tmps) = true) (hy : ∀ w, S w → (execOp a.eval o21).run P w = .ok (.value v) w) (hS : S w)
    (h : wpAnyH P md (List.toArray (o0 :: o1 :: o2 :: o3 :: o4 :: o5 :: o6 :: o7 :: o8 :: o9 :: o10 :: o11 :: o12 :: o13 :: o14 :: o15 :: o16 :: o17 :: o18 :: o19 :: o20 :: o21 :: rest)) Q S fuel (listed.setIfInBounds 21 true) (a.put o21.dst v) w) : wpAnyH P md (List.toArray (o0 :: o1 :: o2 :: o3 :: o4 :: o5 :: o6 :: o7 :: o8 :: o9 :: o10 :: o11 :: o12 :: o13 :: o14 :: o15 :: o16 :: o17 :: o18 :: o19 :: o20 :: o21 :: rest)) Q S (fuel + 1) listed a w :=
  wpAnyH_take (i := 21) rfl hs hf hr hQ (.inl ⟨hw, hy⟩) hS h
theorem next21 {S : World → Prop} {md : Region.Mode} {o0 o1 o2 o3 o4 o5 o6 o7 o8 o9 o10 o11 o12 o13 o14 o15 o16 o17 o18 o19 o20 o21 : Oper} {rest : List Oper} {fuel : Nat} {listed : Array Bool} {a : Act} {w : World}
    (hr : Region.ready md (List.toArray (o0 :: o1 :: o2 :: o3 :: o4 :: o5 :: o6 :: o7 :: o8 :: o9 :: o10 :: o11 :: o12 :: o13 :: o14 :: o15 :: o16 :: o17 :: o18 :: o19 :: o20 :: o21 :: rest)) listed = [21])
    (h : ∀ K' : Act → World → Prop, Shut (∀ a w, S w → (S w → wpAnyH P md (List.toArray (o0 :: o1 :: o2 :: o3 :: o4 :: o5 :: o6 :: o7 :: o8 :: o9 :: o10 :: o11 :: o12 :: o13 :: o14 :: o15 :: o16 :: o17 :: o18 :: o19 :: o20 :: o21 :: rest)) Q S fuel (listed.setIfInBounds 21 true) a w) → K' a w) → if Region.wanted o21 (yielded (List.toArray (o0 :: o1 :: o2 :: o3 :: o4 :: o5 :: o6 :: o7 :: o8 :: o9 :: o10 :: o11 :: o12 :: o13 :: o14 :: o15 :: o16 :: o17 :: o18 :: o19 :: o20 :: o21 :: rest)) a.tmps) = true then Oper.wp P o21 a w K' Q else K' (a.put o21.dst undef) w) : wpAnyH P md (List.toArray (o0 :: o1 :: o2 :: o3 :: o4 :: o5 :: o6 :: o7 :: o8 :: o9 :: o10 :: o11 :: o12 :: o13 :: o14 :: o15 :: o16 :: o17 :: o18 :: o19 :: o20 :: o21 :: rest)) Q S (fuel + 1) listed a w :=
  wpAnyH_ready hr (by simp) (AllReadyH.cons (o := o21) rfl h AllReadyH.nil)

theorem cut21 {S : World → Prop} {o0 o1 o2 o3 o4 o5 o6 o7 o8 o9 o10 o11 o12 o13 o14 o15 o16 o17 o18 o19 o20 o21 : Oper} {id : Nat} {a : Act} {w : World} (hm : P.follows .mixedOrders = true) (hc : ChainsB .any (List.toArray [o0, o1, o2, o3, o4, o5, o6, o7, o8, o9, o10, o11, o12, o13, o14, o15, o16, o17, o18, o19, o20]) o21 = true) (hS : S w.drew)
    (h : S w.drew → wpAnyH P .any (List.toArray [o0, o1, o2, o3, o4, o5, o6, o7, o8, o9, o10, o11, o12, o13, o14, o15, o16, o17, o18, o19, o20]) (cutPost P (List.toArray [o0, o1, o2, o3, o4, o5, o6, o7, o8, o9, o10, o11, o12, o13, o14, o15, o16, o17, o18, o19, o20]) o21 Q) S 21 (Array.replicate 21 false) a w.drew) : (Code.region id (List.toArray [o0, o1, o2, o3, o4, o5, o6, o7, o8, o9, o10, o11, o12, o13, o14, o15, o16, o17, o18, o19, o20, o21]) true).wp P Q a w :=
  wp_region_cut (List.toArray [o0, o1, o2, o3, o4, o5, o6, o7, o8, o9, o10, o11, o12, o13, o14, o15, o16, o17, o18, o19, o20]) o21 rfl hm hc hS h
theorem ends21 {S : World → Prop} {o0 o1 o2 o3 o4 o5 o6 o7 o8 o9 o10 o11 o12 o13 o14 o15 o16 o17 o18 o19 o20 o21 : Oper} {fuel : Nat} {listed : Array Bool} {a : Act} {w : World} (hr : Region.ready .any (List.toArray [o0, o1, o2, o3, o4, o5, o6, o7, o8, o9, o10, o11, o12, o13, o14, o15, o16, o17, o18, o19, o20]) listed = [])
    (h : ∀ K' : Act → World → Prop, Shut (∀ a w, Q .normal a w → K' a w) → if Region.wanted o21 (yielded (List.toArray [o0, o1, o2, o3, o4, o5, o6, o7, o8, o9, o10, o11, o12, o13, o14, o15, o16, o17, o18, o19, o20, o21]) a.tmps) = true then Oper.wp P o21 a w K' Q else K' (a.put o21.dst undef) w) : wpAnyH P .any (List.toArray [o0, o1, o2, o3, o4, o5, o6, o7, o8, o9, o10, o11, o12, o13, o14, o15, o16, o17, o18, o19, o20]) (cutPost P (List.toArray [o0, o1, o2, o3, o4, o5, o6, o7, o8, o9, o10, o11, o12, o13, o14, o15, o16, o17, o18, o19, o20]) o21 Q) S fuel listed a w :=
  wpAnyH_done hr (show wpOp P ((List.toArray [o0, o1, o2, o3, o4, o5, o6, o7, o8, o9, o10, o11, o12, o13, o14, o15, o16, o17, o18, o19, o20]).push o21) Q 21 (Q .normal) a w from wpOp_step (ops := (List.toArray [o0, o1, o2, o3, o4, o5, o6, o7, o8, o9, o10, o11, o12, o13, o14, o15, o16, o17, o18, o19, o20]).push o21) (o := o21) rfl (fun K hK => h K hK)) _

theorem hold22 {S : World → Prop} {md : Region.Mode} {o0 o1 o2 o3 o4 o5 o6 o7 o8 o9 o10 o11 o12 o13 o14 o15 o16 o17 o18 o19 o20 o21 o22 : Oper} {rest : List Oper} {v : Value} {fuel : Nat} {listed : Array Bool} {a : Act} {w : World}
    (hs : Region.noSelect (List.toArray (o0 :: o1 :: o2 :: o3 :: o4 :: o5 :: o6 :: o7 :: o8 :: o9 :: o10 :: o11 :: o12 :: o13 :: o14 :: o15 :: o16 :: o17 :: o18 :: o19 :: o20 :: o21 :: o22 :: rest)) = true) (hf : Region.free md (List.toArray (o0 :: o1 :: o2 :: o3 :: o4 :: o5 :: o6 :: o7 :: o8 :: o9 :: o10 :: o11 :: o12 :: o13 :: o14 :: o15 :: o16 :: o17 :: o18 :: o19 :: o20 :: o21 :: o22 :: rest)) listed 22 = true) (hr : (Region.ready md (List.toArray (o0 :: o1 :: o2 :: o3 :: o4 :: o5 :: o6 :: o7 :: o8 :: o9 :: o10 :: o11 :: o12 :: o13 :: o14 :: o15 :: o16 :: o17 :: o18 :: o19 :: o20 :: o21 :: o22 :: rest)) listed).contains 22 = true)
    (hQ : ∀ c a w, Q (.panic c) (a.put o22.dst v) w → Q (.panic c) a w) (hw : Region.wanted o22 (yielded (List.toArray (o0 :: o1 :: o2 :: o3 :: o4 :: o5 :: o6 :: o7 :: o8 :: o9 :: o10 :: o11 :: o12 :: o13 :: o14 :: o15 :: o16 :: o17 :: o18 :: o19 :: o20 :: o21 :: o22 :: rest)) a.tmps) = true) (hy : ∀ w, S w → (execOp a.eval o22).run P w = .ok (.value v) w) (hS : S w)
    (h : wpAnyH P md (List.toArray (o0 :: o1 :: o2 :: o3 :: o4 :: o5 :: o6 :: o7 :: o8 :: o9 :: o10 :: o11 :: o12 :: o13 :: o14 :: o15 :: o16 :: o17 :: o18 :: o19 :: o20 :: o21 :: o22 :: rest)) Q S fuel (listed.setIfInBounds 22 true) (a.put o22.dst v) w) : wpAnyH P md (List.toArray (o0 :: o1 :: o2 :: o3 :: o4 :: o5 :: o6 :: o7 :: o8 :: o9 :: o10 :: o11 :: o12 :: o13 :: o14 :: o15 :: o16 :: o17 :: o18 :: o19 :: o20 :: o21 :: o22 :: rest)) Q S (fuel + 1) listed a w :=
  wpAnyH_take (i := 22) rfl hs hf hr hQ (.inl ⟨hw, hy⟩) hS h
theorem next22 {S : World → Prop} {md : Region.Mode} {o0 o1 o2 o3 o4 o5 o6 o7 o8 o9 o10 o11 o12 o13 o14 o15 o16 o17 o18 o19 o20 o21 o22 : Oper} {rest : List Oper} {fuel : Nat} {listed : Array Bool} {a : Act} {w : World}
    (hr : Region.ready md (List.toArray (o0 :: o1 :: o2 :: o3 :: o4 :: o5 :: o6 :: o7 :: o8 :: o9 :: o10 :: o11 :: o12 :: o13 :: o14 :: o15 :: o16 :: o17 :: o18 :: o19 :: o20 :: o21 :: o22 :: rest)) listed = [22])
    (h : ∀ K' : Act → World → Prop, Shut (∀ a w, S w → (S w → wpAnyH P md (List.toArray (o0 :: o1 :: o2 :: o3 :: o4 :: o5 :: o6 :: o7 :: o8 :: o9 :: o10 :: o11 :: o12 :: o13 :: o14 :: o15 :: o16 :: o17 :: o18 :: o19 :: o20 :: o21 :: o22 :: rest)) Q S fuel (listed.setIfInBounds 22 true) a w) → K' a w) → if Region.wanted o22 (yielded (List.toArray (o0 :: o1 :: o2 :: o3 :: o4 :: o5 :: o6 :: o7 :: o8 :: o9 :: o10 :: o11 :: o12 :: o13 :: o14 :: o15 :: o16 :: o17 :: o18 :: o19 :: o20 :: o21 :: o22 :: rest)) a.tmps) = true then Oper.wp P o22 a w K' Q else K' (a.put o22.dst undef) w) : wpAnyH P md (List.toArray (o0 :: o1 :: o2 :: o3 :: o4 :: o5 :: o6 :: o7 :: o8 :: o9 :: o10 :: o11 :: o12 :: o13 :: o14 :: o15 :: o16 :: o17 :: o18 :: o19 :: o20 :: o21 :: o22 :: rest)) Q S (fuel + 1) listed a w :=
  wpAnyH_ready hr (by simp) (AllReadyH.cons (o := o22) rfl h AllReadyH.nil)

theorem cut22 {S : World → Prop} {o0 o1 o2 o3 o4 o5 o6 o7 o8 o9 o10 o11 o12 o13 o14 o15 o16 o17 o18 o19 o20 o21 o22 : Oper} {id : Nat} {a : Act} {w : World} (hm : P.follows .mixedOrders = true) (hc : ChainsB .any (List.toArray [o0, o1, o2, o3, o4, o5, o6, o7, o8, o9, o10, o11, o12, o13, o14, o15, o16, o17, o18, o19, o20, o21]) o22 = true) (hS : S w.drew)
    (h : S w.drew → wpAnyH P .any (List.toArray [o0, o1, o2, o3, o4, o5, o6, o7, o8, o9, o10, o11, o12, o13, o14, o15, o16, o17, o18, o19, o20, o21]) (cutPost P (List.toArray [o0, o1, o2, o3, o4, o5, o6, o7, o8, o9, o10, o11, o12, o13, o14, o15, o16, o17, o18, o19, o20, o21]) o22 Q) S 22 (Array.replicate 22 false) a w.drew) : (Code.region id (List.toArray [o0, o1, o2, o3, o4, o5, o6, o7, o8, o9, o10, o11, o12, o13, o14, o15, o16, o17, o18, o19, o20, o21, o22]) true).wp P Q a w :=
  wp_region_cut (List.toArray [o0, o1, o2, o3, o4, o5, o6, o7, o8, o9, o10, o11, o12, o13, o14, o15, o16, o17, o18, o19, o20, o21]) o22 rfl hm hc hS h
theorem ends22 {S : World → Prop} {o0 o1 o2 o3 o4 o5 o6 o7 o8 o9 o10 o11 o12 o13 o14 o15 o16 o17 o18 o19 o20 o21 o22 : Oper} {fuel : Nat} {listed : Array Bool} {a : Act} {w : World} (hr : Region.ready .any (List.toArray [o0, o1, o2, o3, o4, o5, o6, o7, o8, o9, o10, o11, o12, o13, o14, o15, o16, o17, o18, o19, o20, o21]) listed = [])
    (h : ∀ K' : Act → World → Prop, Shut (∀ a w, Q .normal a w → K' a w) → if Region.wanted o22 (yielded (List.toArray [o0, o1, o2, o3, o4, o5, o6, o7, o8, o9, o10, o11, o12, o13, o14, o15, o16, o17, o18, o19, o20, o21, o22]) a.tmps) = true then Oper.wp P o22 a w K' Q else K' (a.put o22.dst undef) w) : wpAnyH P .any (List.toArray [o0, o1, o2, o3, o4, o5, o6, o7, o8, o9, o10, o11, o12, o13, o14, o15, o16, o17, o18, o19, o20, o21]) (cutPost P (List.toArray [o0, o1, o2, o3, o4, o5, o6, o7, o8, o9, o10, o11, o12, o13, o14, o15, o16, o17, o18, o19, o20, o21]) o22 Q) S fuel listed a w :=
  wpAnyH_done hr (show wpOp P ((List.toArray [o0, o1, o2, o3, o4, o5, o6, o7, o8, o9, o10, o11, o12, o13, o14, o15, o16, o17, o18, o19, o20, o21]).push o22) Q 22 (Q .normal) a w from wpOp_step (ops := (List.toArray [o0, o1, o2, o3, o4, o5, o6, o7, o8, o9, o10, o11, o12, o13, o14, o15, o16, o17, o18, o19, o20, o21]).push o22) (o := o22) rfl (fun K hK => h K hK)) _

theorem hold23 {S : World → Prop} {md : Region.Mode} {o0 o1 o2 o3 o4 o5 o6 o7 o8 o9 o10 o11 o12 o13 o14 o15 o16 o17 o18 o19 o20 o21 o22 o23 : Oper} {rest : List Oper} {v : Value} {fuel : Nat} {listed : Array Bool} {a : Act} {w : World}
    (hs : Region.noSelect (List.toArray (o0 :: o1 :: o2 :: o3 :: o4 :: o5 :: o6 :: o7 :: o8 :: o9 :: o10 :: o11 :: o12 :: o13 :: o14 :: o15 :: o16 :: o17 :: o18 :: o19 :: o20 :: o21 :: o22 :: o23 :: rest)) = true) (hf : Region.free md (List.toArray (o0 :: o1 :: o2 :: o3 :: o4 :: o5 :: o6 :: o7 :: o8 :: o9 :: o10 :: o11 :: o12 :: o13 :: o14 :: o15 :: o16 :: o17 :: o18 :: o19 :: o20 :: o21 :: o22 :: o23 :: rest)) listed 23 = true) (hr : (Region.ready md (List.toArray (o0 :: o1 :: o2 :: o3 :: o4 :: o5 :: o6 :: o7 :: o8 :: o9 :: o10 :: o11 :: o12 :: o13 :: o14 :: o15 :: o16 :: o17 :: o18 :: o19 :: o20 :: o21 :: o22 :: o23 :: rest)) listed).contains 23 = true)
    (hQ : ∀ c a w, Q (.panic c) (a.put o23.dst v) w → Q (.panic c) a w) (hw : Region.wanted o23 (yielded (List.toArray (o0 :: o1 :: o2 :: o3 :: o4 :: o5 :: o6 :: o7 :: o8 :: o9 :: o10 :: o11 :: o12 :: o13 :: o14 :: o15 :: o16 :: o17 :: o18 :: o19 :: o20 :: o21 :: o22 :: o23 :: rest)) a.tmps) = true) (hy : ∀ w, S w → (execOp a.eval o23).run P w = .ok (.value v) w) (hS : S w)
    (h : wpAnyH P md (List.toArray (o0 :: o1 :: o2 :: o3 :: o4 :: o5 :: o6 :: o7 :: o8 :: o9 :: o10 :: o11 :: o12 :: o13 :: o14 :: o15 :: o16 :: o17 :: o18 :: o19 :: o20 :: o21 :: o22 :: o23 :: rest)) Q S fuel (listed.setIfInBounds 23 true) (a.put o23.dst v) w) : wpAnyH P md (List.toArray (o0 :: o1 :: o2 :: o3 :: o4 :: o5 :: o6 :: o7 :: o8 :: o9 :: o10 :: o11 :: o12 :: o13 :: o14 :: o15 :: o16 :: o17 :: o18 :: o19 :: o20 :: o21 :: o22 :: o23 :: rest)) Q S (fuel + 1) listed a w :=
  wpAnyH_take (i := 23) rfl hs hf hr hQ (.inl ⟨hw, hy⟩) hS h
theorem next23 {S : World → Prop} {md : Region.Mode} {o0 o1 o2 o3 o4 o5 o6 o7 o8 o9 o10 o11 o12 o13 o14 o15 o16 o17 o18 o19 o20 o21 o22 o23 : Oper} {rest : List Oper} {fuel : Nat} {listed : Array Bool} {a : Act} {w : World}
    (hr : Region.ready md (List.toArray (o0 :: o1 :: o2 :: o3 :: o4 :: o5 :: o6 :: o7 :: o8 :: o9 :: o10 :: o11 :: o12 :: o13 :: o14 :: o15 :: o16 :: o17 :: o18 :: o19 :: o20 :: o21 :: o22 :: o23 :: rest)) listed = [23])
    (h : ∀ K' : Act → World → Prop, Shut (∀ a w, S w → (S w → wpAnyH P md (List.toArray (o0 :: o1 :: o2 :: o3 :: o4 :: o5 :: o6 :: o7 :: o8 :: o9 :: o10 :: o11 :: o12 :: o13 :: o14 :: o15 :: o16 :: o17 :: o18 :: o19 :: o20 :: o21 :: o22 :: o23 :: rest)) Q S fuel (listed.setIfInBounds 23 true) a w) → K' a w) → if Region.wanted o23 (yielded (List.toArray (o0 :: o1 :: o2 :: o3 :: o4 :: o5 :: o6 :: o7 :: o8 :: o9 :: o10 :: o11 :: o12 :: o13 :: o14 :: o15 :: o16 :: o17 :: o18 :: o19 :: o20 :: o21 :: o22 :: o23 :: rest)) a.tmps) = true then Oper.wp P o23 a w K' Q else K' (a.put o23.dst undef) w) : wpAnyH P md (List.toArray (o0 :: o1 :: o2 :: o3 :: o4 :: o5 :: o6 :: o7 :: o8 :: o9 :: o10 :: o11 :: o12 :: o13 :: o14 :: o15 :: o16 :: o17 :: o18 :: o19 :: o20 :: o21 :: o22 :: o23 :: rest)) Q S (fuel + 1) listed a w :=
  wpAnyH_ready hr (by simp) (AllReadyH.cons (o := o23) rfl h AllReadyH.nil)

theorem cut23 {S : World → Prop} {o0 o1 o2 o3 o4 o5 o6 o7 o8 o9 o10 o11 o12 o13 o14 o15 o16 o17 o18 o19 o20 o21 o22 o23 : Oper} {id : Nat} {a : Act} {w : World} (hm : P.follows .mixedOrders = true) (hc : ChainsB .any (List.toArray [o0, o1, o2, o3, o4, o5, o6, o7, o8, o9, o10, o11, o12, o13, o14, o15, o16, o17, o18, o19, o20, o21, o22]) o23 = true) (hS : S w.drew)
    (h : S w.drew → wpAnyH P .any (List.toArray [o0, o1, o2, o3, o4, o5, o6, o7, o8, o9, o10, o11, o12, o13, o14, o15, o16, o17, o18, o19, o20, o21, o22]) (cutPost P (List.toArray [o0, o1, o2, o3, o4, o5, o6, o7, o8, o9, o10, o11, o12, o13, o14, o15, o16, o17, o18, o19, o20, o21, o22]) o23 Q) S 23 (Array.replicate 23 false) a w.drew) : (Code.region id (List.toArray [o0, o1, o2, o3, o4, o5, o6, o7, o8, o9, o10, o11, o12, o13, o14, o15, o16, o17, o18, o19, o20, o21, o22, o23]) true).wp P Q a w :=
  wp_region_cut (List.toArray [o0, o1, o2, o3, o4, o5, o6, o7, o8, o9, o10, o11, o12, o13, o14, o15, o16, o17, o18, o19, o20, o21, o22]) o23 rfl hm hc hS h
theorem ends23 {S : World → Prop} {o0 o1 o2 o3 o4 o5 o6 o7 o8 o9 o10 o11 o12 o13 o14 o15 o16 o17 o18 o19 o20 o21 o22 o23 : Oper} {fuel : Nat} {listed : Array Bool} {a : Act} {w : World} (hr : Region.ready .any (List.toArray [o0, o1, o2, o3, o4, o5, o6, o7, o8, o9, o10, o11, o12, o13, o14, o15, o16, o17, o18, o19, o20, o21, o22]) listed = [])
    (h : ∀ K' : Act → World → Prop, Shut (∀ a w, Q .normal a w → K' a w) → if Region.wanted o23 (yielded (List.toArray [o0, o1, o2, o3, o4, o5, o6, o7, o8, o9, o10, o11, o12, o13, o14, o15, o16, o17, o18, o19, o20, o21, o22, o23]) a.tmps) = true then Oper.wp P o23 a w K' Q else K' (a.put o23.dst undef) w) : wpAnyH P .any (List.toArray [o0, o1, o2, o3, o4, o5, o6, o7, o8, o9, o10, o11, o12, o13, o14, o15, o16, o17, o18, o19, o20, o21, o22]) (cutPost P (List.toArray [o0, o1, o2, o3, o4, o5, o6, o7, o8, o9, o10, o11, o12, o13, o14, o15, o16, o17, o18, o19, o20, o21, o22]) o23 Q) S fuel listed a w :=
  wpAnyH_done hr (show wpOp P ((List.toArray [o0, o1, o2, o3, o4, o5, o6, o7, o8, o9, o10, o11, o12, o13, o14, o15, o16, o17, o18, o19, o20, o21, o22]).push o23) Q 23 (Q .normal) a w from wpOp_step (ops := (List.toArray [o0, o1, o2, o3, o4, o5, o6, o7, o8, o9, o10, o11, o12, o13, o14, o15, o16, o17, o18, o19, o20, o21, o22]).push o23) (o := o23) rfl (fun K hK => h K hK)) _

end
end Go.Proofs.Ytjpapgbdhflgnaa

/- Operations of a drawn region whose guard fails: they yield nothing, and are passed over. -/
namespace Go.Proofs.Ytjpapgbdhflgnaa
open Go.RowKit Go.Tok
set_option linter.unusedVariables false

section
variable {P : Program} {Q : Exit → Act → World → Prop}

theorem skip0 {S : World → Prop} {md : Region.Mode} {o0 : Oper} {rest : List Oper} {fuel : Nat} {listed : Array Bool} {a : Act} {w : World}
    (hs : Region.noSelect (List.toArray (o0 :: rest)) = true) (hf : Region.free md (List.toArray (o0 :: rest)) listed 0 = true) (hr : (Region.ready md (List.toArray (o0 :: rest)) listed).contains 0 = true)
    (hQ : ∀ c a w, Q (.panic c) (a.put o0.dst undef) w → Q (.panic c) a w) (hw : Region.wanted o0 (yielded (List.toArray (o0 :: rest)) a.tmps) = false) (hS : S w)
    (h : wpAnyH P md (List.toArray (o0 :: rest)) Q S fuel (listed.setIfInBounds 0 true) (a.put o0.dst undef) w) : wpAnyH P md (List.toArray (o0 :: rest)) Q S (fuel + 1) listed a w :=
  wpAnyH_take (i := 0) rfl hs hf hr hQ (.inr ⟨hw, rfl⟩) hS h

theorem skip1 {S : World → Prop} {md : Region.Mode} {o0 o1 : Oper} {rest : List Oper} {fuel : Nat} {listed : Array Bool} {a : Act} {w : World}
    (hs : Region.noSelect (List.toArray (o0 :: o1 :: rest)) = true) (hf : Region.free md (List.toArray (o0 :: o1 :: rest)) listed 1 = true) (hr : (Region.ready md (List.toArray (o0 :: o1 :: rest)) listed).contains 1 = true)
    (hQ : ∀ c a w, Q (.panic c) (a.put o1.dst undef) w → Q (.panic c) a w) (hw : Region.wanted o1 (yielded (List.toArray (o0 :: o1 :: rest)) a.tmps) = false) (hS : S w)
    (h : wpAnyH P md (List.toArray (o0 :: o1 :: rest)) Q S fuel (listed.setIfInBounds 1 true) (a.put o1.dst undef) w) : wpAnyH P md (List.toArray (o0 :: o1 :: rest)) Q S (fuel + 1) listed a w :=
  wpAnyH_take (i := 1) rfl hs hf hr hQ (.inr ⟨hw, rfl⟩) hS h

theorem skip2 {S : World → Prop} {md : Region.Mode} {o0 o1 o2 : Oper} {rest : List Oper} {fuel : Nat} {listed : Array Bool} {a : Act} {w : World}
    (hs : Region.noSelect (List.toArray (o0 :: o1 :: o2 :: rest)) = true) (hf : Region.free md (List.toArray (o0 :: o1 :: o2 :: rest)) listed 2 = true) (hr : (Region.ready md (List.toArray (o0 :: o1 :: o2 :: rest)) listed).contains 2 = true)
    (hQ : ∀ c a w, Q (.panic c) (a.put o2.dst undef) w → Q (.panic c) a w) (hw : Region.wanted o2 (yielded (List.toArray (o0 :: o1 :: o2 :: rest)) a.tmps) = false) (hS : S w)
    (h : wpAnyH P md (List.toArray (o0 :: o1 :: o2 :: rest)) Q S fuel (listed.setIfInBounds 2 true) (a.put o2.dst undef) w) : wpAnyH P md (List.toArray (o0 :: o1 :: o2 :: rest)) Q S (fuel + 1) listed a w :=
  wpAnyH_take (i := 2) rfl hs hf hr hQ (.inr ⟨hw, rfl⟩) hS h

theorem skip3 {S : World → Prop} {md : Region.Mode} {o0 o1 o2 o3 : Oper} {rest : List Oper} {fuel : Nat} {listed : Array Bool} {a : Act} {w : World}
    (hs : Region.noSelect (List.toArray (o0 :: o1 :: o2 :: o3 :: rest)) = true) (hf : Region.free md (List.toArray (o0 :: o1 :: o2 :: o3 :: rest)) listed 3 = true) (hr : (Region.ready md (List.toArray (o0 :: o1 :: o2 :: o3 :: rest)) listed).contains 3 = true)
    (hQ : ∀ c a w, Q (.panic c) (a.put o3.dst undef) w → Q (.panic c) a w) (hw : Region.wanted o3 (yielded (List.toArray (o0 :: o1 :: o2 :: o3 :: rest)) a.tmps) = false) (hS : S w)
    (h : wpAnyH P md (List.toArray (o0 :: o1 :: o2 :: o3 :: rest)) Q S fuel (listed.setIfInBounds 3 true) (a.put o3.dst undef) w) : wpAnyH P md (List.toArray (o0 :: o1 :: o2 :: o3 :: rest)) Q S (fuel + 1) listed a w :=
  wpAnyH_take (i := 3) rfl hs hf hr hQ (.inr ⟨hw, rfl⟩) hS h

theorem skip4 {S : World → Prop} {md : Region.Mode} {o0 o1 o2 o3 o4 : Oper} {rest : List Oper} {fuel : Nat} {listed : Array Bool} {a : Act} {w : World}
    (hs : Region.noSelect (List.toArray (o0 :: o1 :: o2 :: o3 :: o4 :: rest)) = true) (hf : Region.free md (List.toArray (o0 :: o1 :: o2 :: o3 :: o4 :: rest)) listed 4 = true) (hr : (Region.ready md (List.toArray (o0 :: o1 :: o2 :: o3 :: o4 :: rest)) listed).contains 4 = true)
    (hQ : ∀ c a w, Q (.panic c) (a.put o4.dst undef) w → Q (.panic c) a w) (hw : Region.wanted o4 (yielded (List.toArray (o0 :: o1 :: o2 :: o3 :: o4 :: rest)) a.tmps) = false) (hS : S w)
    (h : wpAnyH P md (List.toArray (o0 :: o1 :: o2 :: o3 :: o4 :: rest)) Q S fuel (listed.setIfInBounds 4 true) (a.put o4.dst undef) w) : wpAnyH P md (List.toArray (o0 :: o1 :: o2 :: o3 :: o4 :: rest)) Q S (fuel + 1) listed a w :=
  wpAnyH_take (i := 4) rfl hs hf hr hQ (.inr ⟨hw, rfl⟩) hS h

theorem skip5 {S : World → Prop} {md : Region.Mode} {o0 o1 o2 o3 o4 o5 : Oper} {rest : List Oper} {fuel : Nat} {listed : Array Bool} {a : Act} {w : World}
    (hs : Region.noSelect (List.toArray (o0 :: o1 :: o2 :: o3 :: o4 :: o5 :: rest)) = true) (hf : Region.free md (List.toArray (o0 :: o1 :: o2 :: o3 :: o4 :: o5 :: rest)) listed 5 = true) (hr : (Region.ready md (List.toArray (o0 :: o1 :: o2 :: o3 :: o4 :: o5 :: rest)) listed).contains 5 = true)
    (hQ : ∀ c a w, Q (.panic c) (a.put o5.dst undef) w → Q (.panic c) a w) (hw : Region.wanted o5 (yielded (List.toArray (o0 :: o1 :: o2 :: o3 :: o4 :: o5 :: rest)) a.tmps) = false) (hS : S w)
    (h : wpAnyH P md (List.toArray (o0 :: o1 :: o2 :: o3 :: o4 :: o5 :: rest)) Q S fuel (listed.setIfInBounds 5 true) (a.put o5.dst undef) w) : wpAnyH P md (List.toArray (o0 :: o1 :: o2 :: o3 :: o4 :: o5 :: rest)) Q S (fuel + 1) listed a w :=
  wpAnyH_take (i := 5) rfl hs hf hr hQ (.inr ⟨hw, rfl⟩) hS h

theorem skip6 {S : World → Prop} {md : Region.Mode} {o0 o1 o2 o3 o4 o5 o6 : Oper} {rest : List Oper} {fuel : Nat} {listed : Array Bool} {a : Act} {w : World}
    (hs : Region.noSelect (List.toArray (o0 :: o1 :: o2 :: o3 :: o4 :: o5 :: o6 :: rest)) = true) (hf : Region.free md (List.toArray (o0 :: o1 :: o2 :: o3 :: o4 :: o5 :: o6 :: rest)) listed 6 = true) (hr : (Region.ready md (List.toArray (o0 :: o1 :: o2 :: o3 :: o4 :: o5 :: o6 :: rest)) listed).contains 6 = true)
    (hQ : ∀ c a w, Q (.panic c) (a.put o6.dst undef) w → Q (.panic c) a w) (hw : Region.wanted o6 (yielded (List.toArray (o0 :: o1 :: o2 :: o3 :: o4 :: o5 :: o6 :: rest)) a.tmps) = false) (hS : S w)
    (h : wpAnyH P md (List.toArray (o0 :: o1 :: o2 :: o3 :: o4 :: o5 :: o6 :: rest)) Q S fuel (listed.setIfInBounds 6 true) (a.put o6.dst undef) w) : wpAnyH P md (List.toArray (o0 :: o1 :: o2 :: o3 :: o4 :: o5 :: o6 :: rest)) Q S (fuel + 1) listed a w :=
  wpAnyH_take (i := 6) rfl hs hf hr hQ (.inr ⟨hw, rfl⟩) hS h

theorem skip7 {S : World → Prop} {md : Region.Mode} {o0 o1 o2 o3 o4 o5 o6 o7 : Oper} {rest : List Oper} {fuel : Nat} {listed : Array Bool} {a : Act} {w : World}
    (hs : Region.noSelect (List.toArray (o0 :: o1 :: o2 :: o3 :: o4 :: o5 :: o6 :: o7 :: rest)) = true) (hf : Region.free md (List.toArray (o0 :: o1 :: o2 :: o3 :: o4 :: o5 :: o6 :: o7 :: rest)) listed 7 = true) (hr : (Region.ready md (List.toArray (o0 :: o1 :: o2 :: o3 :: o4 :: o5 :: o6 :: o7 :: rest)) listed).contains 7 = true)
    (hQ : ∀ c a w, Q (.panic c) (a.put o7.dst undef) w → Q (.panic c) a w) (hw : Region.wanted o7 (yielded (List.toArray (o0 :: o1 :: o2 :: o3 :: o4 :: o5 :: o6 :: o7 :: rest)) a.tmps) = false) (hS : S w)
    (h : wpAnyH P md (List.toArray (o0 :: o1 :: o2 :: o3 :: o4 :: o5 :: o6 :: o7 :: rest)) Q S fuel (listed.setIfInBounds 7 true) (a.put o7.dst undef) w) : wpAnyH P md (List.toArray (o0 :: o1 :: o2 :: o3 :: o4 :: o5 :: o6 :: o7 :: rest)) Q S (fuel + 1) listed a w :=
  wpAnyH_take (i := 7) rfl hs hf hr hQ (.inr ⟨hw, rfl⟩) hS h

theorem skip8 {S : World → Prop} {md : Region.Mode} {o0 o1 o2 o3 o4 o5 o6 o7 o8 : Oper} {rest : List Oper} {fuel : Nat} {listed : Array Bool} {a : Act} {w : World}
    (hs : Region.noSelect (List.toArray (o0 :: o1 :: o2 :: o3 :: o4 :: o5 :: o6 :: o7 :: o8 :: rest)) = true) (hf : Region.free md (List.toArray (o0 :: o1 :: o2 :: o3 :: o4 :: o5 :: o6 :: o7 :: o8 :: rest)) listed 8 = true) (hr : (Region.ready md (List.toArray (o0 :: o1 :: o2 :: o3 :: o4 :: o5 :: o6 :: o7 :: o8 :: rest)) listed).contains 8 = true)
    (hQ : ∀ c a w, Q (.panic c) (a.put o8.dst undef) w → Q (.panic c) a w) (hw : Region.wanted o8 (yielded (List.toArray (o0 :: o1 :: o2 :: o3 :: o4 :: o5 :: o6 :: o7 :: o8 :: rest)) a.tmps) = false) (hS : S w)
    (h : wpAnyH P md (List.toArray (o0 :: o1 :: o2 :: o3 :: o4 :: o5 :: o6 :: o7 :: o8 :: rest)) Q S fuel (listed.setIfInBounds 8 true) (a.put o8.dst undef) w) : wpAnyH P md (List.toArray (o0 :: o1 :: o2 :: o3 :: o4 :: o5 :: o6 :: o7 :: o8 :: rest)) Q S (fuel + 1) listed a w :=
  wpAnyH_take (i := 8) rfl hs hf hr hQ (.inr ⟨hw, rfl⟩) hS h

theorem skip9 {S : World → Prop} {md : Region.Mode} {o0 o1 o2 o3 o4 o5 o6 o7 o8 o9 : Oper} {rest : List Oper} {fuel : Nat} {listed : Array Bool} {a : Act} {w : World}
    (hs : Region.noSelect (List.toArray (o0 :: o1 :: o2 :: o3 :: o4 :: o5 :: o6 :: o7 :: o8 :: o9 :: rest)) = true) (hf : Region.free md (List.toArray (o0 :: o1 :: o2 :: o3 :: o4 :: o5 :: o6 :: o7 :: o8 :: o9 :: rest)) listed 9 = true) (hr : (Region.ready md (List.toArray (o0 :: o1 :: o2 :: o3 :: o4 :: o5 :: o6 :: o7 :: o8 :: o9 :: rest)) listed).contains 9 = true)
    (hQ : ∀ c a w, Q (.panic c) (a.put o9.dst undef) w → Q (.panic c) a w) (hw : Region.wanted o9 (yielded (List.toArray (o0 :: o1 :: o2 :: o3 :: o4 :: o5 :: o6 :: o7 :: o8 :: o9 :: rest)) a.tmps) = false) (hS : S w)
    (h : wpAnyH P md (List.toArray (o0 :: o1 :: o2 :: o3 :: o4 :: o5 :: o6 :: o7 :: o8 :: o9 :: rest)) Q S fuel (listed.setIfInBounds 9 true) (a.put o9.dst undef) w) : wpAnyH P md (List.toArray (o0 :: o1 :: o2 :: o3 :: o4 :: o5 :: o6 :: o7 :: o8 :: o9 :: rest)) Q S (fuel + 1) listed a w :=
  wpAnyH_take (i := 9) rfl hs hf hr hQ (.inr ⟨hw, rfl⟩) hS h

theorem skip10 {S : World → Prop} {md : Region.Mode} {o0 o1 o2 o3 o4 o5 o6 o7 o8 o9 o10 : Oper} {rest : List Oper} {fuel : Nat} {listed : Array Bool} {a : Act} {w : World}
    (hs : Region.noSelect (List.toArray (o0 :: o1 :: o2 :: o3 :: o4 :: o5 :: o6 :: o7 :: o8 :: o9 :: o10 :: rest)) = true) (hf : Region.free md (List.toArray (o0 :: o1 :: o2 :: o3 :: o4 :: o5 :: o6 :: o7 :: o8 :: o9 :: o10 :: rest)) listed 10 = true) (hr : (Region.ready md (List.toArray (o0 :: o1 :: o2 :: o3 :: o4 :: o5 :: o6 :: o7 :: o8 :: o9 :: o10 :: rest)) listed).contains 10 = true)
    (hQ : ∀ c a w, Q (.panic c) (a.put o10.dst undef) w → Q (.panic c) a w) (hw : Region.wanted o10 (yielded (List.toArray (o0 :: o1 :: o2 :: o3 :: o4 :: o5 :: o6 :: o7 :: o8 :: o9 :: o10 :: rest)) a.tmps) = false) (hS : S w)
    (h : wpAnyH P md (List.toArray (o0 :: o1 :: o2 :: o3 :: o4 :: o5 :: o6 :: o7 :: o8 :: o9 :: o10 :: rest)) Q S fuel (listed.setIfInBounds 10 true) (a.put o10.dst undef) w) : wpAnyH P md (List.toArray (o0 :: o1 :: o2 :: o3 :: o4 :: o5 :: o6 :: o7 :: o8 :: o9 :: o10 :: rest)) Q S (fuel + 1) listed a w :=
  wpAnyH_take (i := 10) rfl hs hf hr hQ (.inr ⟨hw, rfl⟩) hS h

theorem skip11 {S : World → Prop} {md : Region.Mode} {o0 o1 o2 o3 o4 o5 o6 o7 o8 o9 o10 o11 : Oper} {rest : List Oper} {fuel : Nat} {listed : Array Bool} {a : Act} {w : World}
    (hs : Region.noSelect (List.toArray (o0 :: o1 :: o2 :: o3 :: o4 :: o5 :: o6 :: o7 :: o8 :: o9 :: o10 :: o11 :: rest)) = true) (hf : Region.free md (List.toArray (o0 :: o1 :: o2 :: o3 :: o4 :: o5 :: o6 :: o7 :: o8 :: o9 :: o10 :: o11 :: rest)) listed 11 = true) (hr : (Region.ready md (List.toArray (o0 :: o1 :: o2 :: o3 :: o4 :: o5 :: o6 :: o7 :: o8 :: o9 :: o10 :: o11 :: rest)) listed).contains 11 = true)
    (hQ : ∀ c a w, Q (.panic c) (a.put o11.dst undef) w → Q (.panic c) a w) (hw : Region.wanted o11 (yielded (List.toArray (o0 :: o1 :: o2 :: o3 :: o4 :: o5 :: o6 :: o7 :: o8 :: o9 :: o10 :: o11 :: rest)) a.tmps) = false) (hS : S w)
    (h : wpAnyH P md (List.toArray (o0 :: o1 :: o2 :: o3 :: o4 :: o5 :: o6 :: o7 :: o8 :: o9 :: o10 :: o11 :: rest)) Q S fuel (listed.setIfInBounds 11 true) (a.put o11.dst undef) w) : wpAnyH P md (List.toArray (o0 :: o1 :: o2 :: o3 :: o4 :: o5 :: o6 :: o7 :: o8 :: o9 :: o10 :: o11 :: rest)) Q S (fuel + 1) listed a w :=
  wpAnyH_take (i := 11) rfl hs hf hr hQ (.inr ⟨hw, rfl⟩) hS h

theorem skip12 {S : World → Prop} {md : Region.Mode} {o0 o1 o2 o3 o4 o5 o6 o7 o8 o9 o10 o11 o12 : Oper} {rest : List Oper} {fuel : Nat} {listed : Array Bool} {a : Act} {w : World}
    (hs : Region.noSelect (List.toArray (o0 :: o1 :: o2 :: o3 :: o4 :: o5 :: o6 :: o7 :: o8 :: o9 :: o10 :: o11 :: o12 :: rest)) = true) (hf : Region.free md (List.toArray (o0 :: o1 :: o2 :: o3 :: o4 :: o5 :: o6 :: o7 :: o8 :: o9 :: o10 :: o11 :: o12 :: rest)) listed 12 = true) (hr : (Region.ready md (List.toArray (o0 :: o1 :: o2 :: o3 :: o4 :: o5 :: o6 :: o7 :: o8 :: o9 :: o10 :: o11 :: o12 :: rest)) listed).contains 12 = true)
    (hQ : ∀ c a w, Q (.panic c) (a.put o12.dst undef) w → Q (.panic c) a w) (hw : Region.wanted o12 (yielded (List.toArray (o0 :: o1 :: o2 :: o3 :: o4 :: o5 :: o6 :: o7 :: o8 :: o9 :: o10 :: o11 :: o12 :: rest)) a.tmps) = false) (hS : S w)
    (h : wpAnyH P md (List.toArray (o0 :: o1 :: o2 :: o3 :: o4 :: o5 :: o6 :: o7 :: o8 :: o9 :: o10 :: o11 :: o12 :: rest)) Q S fuel (listed.setIfInBounds 12 true) (a.put o12.dst undef) w) : wpAnyH P md (List.toArray (o0 :: o1 :: o2 :: o3 :: o4 :: o5 :: o6 :: o7 :: o8 :: o9 :: o10 :: o11 :: o12 :: rest)) Q S (fuel + 1) listed a w :=
  wpAnyH_take (i := 12) rfl hs hf hr hQ (.inr ⟨hw, rfl⟩) hS h

theorem skip13 {S : World → Prop} {md : Region.Mode} {o0 o1 o2 o3 o4 o5 o6 o7 o8 o9 o10 o11 o12 o13 : Oper} {rest : List Oper} {fuel : Nat} {listed : Array Bool} {a : Act} {w : World}
    (hs : Region.noSelect (List.toArray (o0 :: o1 :: o2 :: o3 :: o4 :: o5 :: o6 :: o7 :: o8 :: o9 :: o10 :: o11 :: o12 :: o13 :: rest)) = true) (hf : Region.free md (List.toArray (o0 :: o1 :: o2 :: o3 :: o4 :: o5 :: o6 :: o7 :: o8 :: o9 :: o10 :: o11 :: o12 :: o13 :: rest)) listed 13 = true) (hr : (Region.ready md (List.toArray (o0 :: o1 :: o2 :: o3 :: o4 :: o5 :: o6 :: o7 :: o8 :: o9 :: o10 :: o11 :: o12 :: o13 :: rest)) listed).contains 13 = true)
    (hQ : ∀ c a w, Q (.panic c) (a.put o13.dst undef) w → Q (.panic c) a w) (hw : Region.wanted o13 (yielded (List.toArray (o0 :: o1 :: o2 :: o3 :: o4 :: o5 :: o6 :: o7 :: o8 :: o9 :: o10 :: o11 :: o12 :: o13 :: rest)) a.tmps) = false) (hS : S w)
    (h : wpAnyH P md (List.toArray (o0 :: o1 :: o2 :: o3 :: o4 :: o5 :: o6 :: o7 :: o8 :: o9 :: o10 :: o11 :: o12 :: o13 :: rest)) Q S fuel (listed.setIfInBounds 13 true) (a.put o13.dst undef) w) : wpAnyH P md (List.toArray (o0 :: o1 :: o2 :: o3 :: o4 :: o5 :: o6 :: o7 :: o8 :: o9 :: o10 :: o11 :: o12 :: o13 :: rest)) Q S (fuel + 1) listed a w :=
  wpAnyH_take (i := 13) rfl hs hf hr hQ (.inr ⟨hw, rfl⟩) hS h

theorem skip14 {S : World → Prop} {md : Region.Mode} {o0 o1 o2 o3 o4 o5 o6 o7 o8 o9 o10 o11 o12 o13 o14 : Oper} {rest : List Oper} {fuel : Nat} {listed : Array Bool} {a : Act} {w : World}
    (hs : Region.noSelect (List.toArray (o0 :: o1 :: o2 :: o3 :: o4 :: o5 :: o6 :: o7 :: o8 :: o9 :: o10 :: o11 :: o12 :: o13 :: o14 :: rest)) = true) (hf : Region.free md (List.toArray (o0 :: o1 :: o2 :: o3 :: o4 :: o5 :: o6 :: o7 :: o8 :: o9 :: o10 :: o11 :: o12 :: o13 :: o14 :: rest)) listed 14 = true) (hr : (Region.ready md (List.toArray (o0 :: o1 :: o2 :: o3 :: o4 :: o5 :: o6 :: o7 :: o8 :: o9 :: o10 :: o11 :: o12 :: o13 :: o14 :: rest)) listed).contains 14 = true)
    (hQ : ∀ c a w, Q (.panic c) (a.put o14.dst undef) w → Q (.panic c) a w) (hw : Region.wanted o14 (yielded (List.toArray (o0 :: o1 :: o2 :: o3 :: o4 :: o5 :: o6 :: o7 :: o8 :: o9 :: o10 :: o11 :: o12 :: o13 :: o14 :: rest)) a.tmps) = false) (hS : S w)
    (h : wpAnyH P md (List.toArray (o0 :: o1 :: o2 :: o3 :: o4 :: o5 :: o6 :: o7 :: o8 :: o9 :: o10 :: o11 :: o12 :: o13 :: o14 :: rest)) Q S fuel (listed.setIfInBounds 14 true) (a.put o14.dst undef) w) : wpAnyH P md (List.toArray (o0 :: o1 :: o2 :: o3 :: o4 :: o5 :: o6 :: o7 :: o8 :: o9 :: o10 :: o11 :: o12 :: o13 :: o14 :: rest)) Q S (fuel + 1) listed a w :=
  wpAnyH_take (i := 14) rfl hs hf hr hQ (.inr ⟨hw, rfl⟩) hS h

theorem skip15 {S : World → Prop} {md : Region.Mode} {o0 o1 o2 o3 o4 o5 o6 o7 o8 o9 o10 o11 o12 o13 o14 o15 : Oper} {rest : List Oper} {fuel : Nat} {listed : Array Bool} {a : Act} {w : World}
    (hs : Region.noSelect (List.toArray (o0 :: o1 :: o2 :: o3 :: o4 :: o5 :: o6 :: o7 :: o8 :: o9 :: o10 :: o11 :: o12 :: o13 :: o14 :: o15 :: rest)) = true) (hf : Region.free md (List.toArray (o0 :: o1 :: o2 :: o3 :: o4 :: o5 :: o6 :: o7 :: o8 :: o9 :: o10 :: o11 :: o12 :: o13 :: o14 :: o15 :: rest)) listed 15 = true) (hr : (Region.ready md (List.toArray (o0 :: o1 :: o2 :: o3 :: o4 :: o5 :: o6 :: o7 :: o8 :: o9 :: o10 :: o11 :: o12 :: o13 :: o14 :: o15 :: rest)) listed).contains 15 = true)
    (hQ : ∀ c a w, Q (.panic c) (a.put o15.dst undef) w → Q (.panic c) a w) (hw : Region.wanted o15 (yielded (List.toArray (o0 :: o1 :: o2 :: o3 :: o4 :: o5 :: o6 :: o7 :: o8 :: o9 :: o10 :: o11 :: o12 :: o13 :: o14 :: o15 :: rest)) a.tmps) = false) (hS : S w)
    (h : wpAnyH P md (List.toArray (o0 :: o1 :: o2 :: o3 :: o4 :: o5 :: o6 :: o7 :: o8 :: o9 :: o10 :: o11 :: o12 :: o13 :: o14 :: o15 :: rest)) Q S fuel (listed.setIfInBounds 15 true) (a.put o15.dst undef) w) : wpAnyH P md (List.toArray (o0 :: o1 :: o2 :: o3 :: o4 :: o5 :: o6 :: o7 :: o8 :: o9 :: o10 :: o11 :: o12 :: o13 :: o14 :: o15 :: rest)) Q S (fuel + 1) listed a w :=
  wpAnyH_take (i := 15) rfl hs hf hr hQ (.inr ⟨hw, rfl⟩) hS h

theorem skip16 {S : World → Prop} {md : Region.Mode} {o0 o1 o2 o3 o4 o5 o6 o7 o8 o9 o10 o11 o12 o13 o14 o15 o16 : Oper} {rest : List Oper} {fuel : Nat} {listed : Array Bool} {a : Act} {w : World}
    (hs : Region.noSelect (List.toArray (o0 :: o1 :: o2 :: o3 :: o4 :: o5 :: o6 :: o7 :: o8 :: o9 :: o10 :: o11 :: o12 :: o13 :: o14 :: o15 :: o16 :: rest)) = true) (hf : Region.free md (List.toArray (o0 :: o1 :: o2 :: o3 :: o4 :: o5 :: o6 :: o7 :: o8 :: o9 :: o10 :: o11 :: o12 :: o13 :: o14 :: o15 :: o16 :: rest)) listed 16 = true) (hr : (Region.ready md (List.toArray (o0 :: o1 :: o2 :: o3 :: o4 :: o5 :: o6 :: o7 :: o8 :: o9 :: o10 :: o11 :: o12 :: o13 :: o14 :: o15 :: o16 :: rest)) listed).contains 16 = true)
    (hQ : ∀ c a w, Q (.panic c) (a.put o16.dst undef) w → Q (.panic c) a w) (hw : Region.wanted o16 (yielded (List.toArray (o0 :: o1 :: o2 :: o3 :: o4 :: o5 :: o6 :: o7 :: o8 :: o9 :: o10 :: o11 :: o12 :: o13 :: o14 :: o15 :: o16 :: rest)) a.tmps) = false) (hS : S w)
    (h : wpAnyH P md (List.toArray (o0 :: o1 :: o2 :: o3 :: o4 :: o5 :: o6 :: o7 :: o8 :: o9 :: o10 :: o11 :: o12 :: o13 :: o14 :: o15 :: o16 :: rest)) Q S fuel (listed.setIfInBounds 16 true) (a.put o16.dst undef) w) : wpAnyH P md (List.toArray (o0 :: o1 :: o2 :: o3 :: o4 :: o5 :: o6 :: o7 :: o8 :: o9 :: o10 :: o11 :: o12 :: o13 :: o14 :: o15 :: o16 :: rest)) Q S (fuel + 1) listed a w :=
  wpAnyH_take (i := 16) rfl hs hf hr hQ (.inr ⟨hw, rfl⟩) hS h

theorem skip17 {S : World → Prop} {md : Region.Mode} {o0 o1 o2 o3 o4 o5 o6 o7 o8 o9 o10 o11 o12 o13 o14 o15 o16 o17 : Oper} {rest : List Oper} {fuel : Nat} {listed : Array Bool} {a : Act} {w : World}
    (hs : Region.noSelect (List.toArray (o0 :: o1 :: o2 :: o3 :: o4 :: o5 :: o6 :: o7 :: o8 :: o9 :: o10 :: o11 :: o12 :: o13 :: o14 :: o15 :: o16 :: o17 :: rest)) = true) (hf : Region.free md (List.toArray (o0 :: o1 :: o2 :: o3 :: o4 :: o5 :: o6 :: o7 :: o8 :: o9 :: o10 :: o11 :: o12 :: o13 :: o14 :: o15 :: o16 :: o17 :: rest)) listed 17 = true) (hr : (Region.ready md (List.toArray (o0 :: o1 :: o2 :: o3 :: o4 :: o5 :: o6 :: o7 :: o8 :: o9 :: o10 :: o11 :: o12 :: o13 :: o14 :: o15 :: o16 :: o17 :: rest)) listed).contains 17 = true)
    (hQ : ∀ c a w, Q (.panic c) (a.put o17.dst undef) w → Q (.panic c) a w) (hw : Region.wanted o17 (yielded (List.toArray (o0 :: o1 :: o2 :: o3 :: o4 :: o5 :: o6 :: o7 :: o8 :: o9 :: o10 :: o11 :: o12 :: o13 :: o14 :: o15 :: o16 :: o17 :: rest)) a.tmps) = false) (hS : S w)
    (h : wpAnyH P md (List.toArray (o0 :: o1 :: o2 :: o3 :: o4 :: o5 :: o6 :: o7 :: o8 :: o9 :: o10 :: o11 :: o12 :: o13 :: o14 :: o15 :: o16 :: o17 :: rest)) Q S fuel (listed.setIfInBounds 17 true) (a.put o17.dst undef) w) : wpAnyH P md (List.toArray (o0 :: o1 :: o2 :: o3 :: o4 :: o5 :: o6 :: o7 :: o8 :: o9 :: o10 :: o11 :: o12 :: o13 :: o14 :: o15 :: o16 :: o17 :: rest)) Q S (fuel + 1) listed a w :=
  wpAnyH_take (i := 17) rfl hs hf hr hQ (.inr ⟨hw, rfl⟩) hS h

theorem skip18 {S : World → Prop} {md : Region.Mode} {o0 o1 o2 o3 o4 o5 o6 o7 o8 o9 o10 o11 o12 o13 o14 o15 o16 o17 o18 : Oper} {rest : List Oper} {fuel : Nat} {listed : Array Bool} {a : Act} {w : World}
    (hs : Region.noSelect (List.toArray (o0 :: o1 :: o2 :: o3 :: o4 :: o5 :: o6 :: o7 :: o8 :: o9 :: o10 :: o11 :: o12 :: o13 :: o14 :: o15 :: o16 :: o17 :: o18 :: rest)) = true) (hf : Region.free md (List.toArray (o0 :: o1 :: o2 :: o3 :: o4 :: o5 :: o6 :: o7 :: o8 :: o9 :: o10 :: o11 :: o12 :: o13 :: o14 :: o15 :: o16 :: o17 :: o18 :: rest)) listed 18 = true) (hr : (Region.ready md (List.toArray (o0 :: o1 :: o2 :: o3 :: o4 :: o5 :: o6 :: o7 :: o8 :: o9 :: o10 :: o11 :: o12 :: o13 :: o14 :: o15 :: o16 :: o17 :: o18 :: rest)) listed).contains 18 = true)
    (hQ : ∀ c a w, Q (.panic c) (a.put o18.dst undef) w → Q (.panic c) a w) (hw : Region.wanted o18 (yielded (List.toArray (o0 :: o1 :: o2 :: o3 :: o4 :: o5 :: o6 :: o7 :: o8 :: o9 :: o10 :: o11 :: o12 :: o13 :: o14 :: o15 :: o16 :: o17 :: o18 :: rest)) a.tmps) = false) (hS : S w)
    (h : wpAnyH P md (List.toArray (o0 :: o1 :: o2 :: o3 :: o4 :: o5 :: o6 :: o7 :: o8 :: o9 :: o10 :: o11 :: o12 :: o13 :: o14 :: o15 :: o16 :: o17 :: o18 :: rest)) Q S fuel (listed.setIfInBounds 18 true) (a.put o18.dst undef) w) : wpAnyH P md (List.toArray (o0 :: o1 :: o2 :: o3 :: o4 :: o5 :: o6 :: o7 :: o8 :: o9 :: o10 :: o11 :: o12 :: o13 :: o14 :: o15 :: o16 :: o17 :: o18 :: rest)) Q S (fuel + 1) listed a w :=
  wpAnyH_take (i := 18) rfl hs hf hr hQ (.inr ⟨hw, rfl⟩) hS h

theorem skip19 {S : World → Prop} {md : Region.Mode} {o0 o1 o2 o3 o4 o5 o6 o7 o8 o9 o10 o11 o12 o13 o14 o15 o16 o17 o18 o19 : Oper} {rest : List Oper} {fuel : Nat} {listed : Array Bool} {a : Act} {w : World}
    (hs : Region.noSelect (List.toArray (o0 :: o1 :: o2 :: o3 :: o4 :: o5 :: o6 :: o7 :: o8 :: o9 :: o10 :: o11 :: o12 :: o13 :: o14 :: o15 :: o16 :: o17 :: o18 :: o19 :: rest)) = true) (hf : Region.free md (List.toArray (o0 :: o1 :: o2 :: o3 :: o4 :: o5 :: o6 :: o7 :: o8 :: o9 :: o10 :: o11 :: o12 :: o13 :: o14 :: o15 :: o16 :: o17 :: o18 :: o19 :: rest)) listed 19 = true) (hr : (Region.ready md (List.toArray (o0 :: o1 :: o2 :: o3 :: o4 :: o5 :: o6 :: o7 :: o8 :: o9 :: o10 :: o11 :: o12 :: o13 :: o14 :: o15 :: o16 :: o17 :: o18 :: o19 :: rest)) listed).contains 19 = true)
    (hQ : ∀ c a w, Q (.panic c) (a.put o19.dst undef) w → Q (.panic c) a w) (hw : Region.wanted o19 (yielded (List.toArray (o0 :: o1 :: o2 :: o3 :: o4 :: o5 :: o6 :: o7 :: o8 :: o9 :: o10 :: o11 :: o12 :: o13 :: o14 :: o15 :: o16 :: o17 :: o18 :: o19 :: rest)) a.tmps) = false) (hS : S w)
    (h : wpAnyH P md (List.toArray (o0 :: o1 :: o2 :: o3 :: o4 :: o5 :: o6 :: o7 :: o8 :: o9 :: o10 :: o11 :: o12 :: o13 :: o14 :: o15 :: o16 :: o17 :: o18 :: o19 :: rest)) Q S fuel (listed.setIfInBounds 19 true) (a.put o19.dst undef) w) : wpAnyH P md (List.toArray (o0 :: o1 :: o2 :: o3 :: o4 :: o5 :: o6 :: o7 :: o8 :: o9 :: o10 :: o11 :: o12 :: o13 :: o14 :: o15 :: o16 :: o17 :: o18 :: o19 :: rest)) Q S (fuel + 1) listed a w :=
  wpAnyH_take (i := 19) rfl hs hf hr hQ (.inr ⟨hw, rfl⟩) hS h

theorem skip20 {S : World → Prop} {md : Region.Mode} {o0 o1 o2 o3 o4 o5 o6 o7 o8 o9 o10 o11 o12 o13 o14 o15 o16 o17 o18 o19 o20 : Oper} {rest : List Oper} {fuel : Nat} {listed : Array Bool} {a : Act} {w : World}
    (hs : Region.noSelect (List.toArray (o0 :: o1 :: o2 :: o3 :: o4 :: o5 :: o6 :: o7 :: o8 :: o9 :: o10 :: o11 :: o12 :: o13 :: o14 :: o15 :: o16 :: o17 :: o18 :: o19 :: o20 :: rest)) = true) (hf : Region.free md (List.toArray (o0 :: o1 :: o2 :: o3 :: o4 :: o5 :: o6 :: o7 :: o8 :: o9 :: o10 :: o11 :: o12 :: o13 :: o14 :: o15 :: o16 :: o17 :: o18 :: o19 :: o20 :: rest)) listed 20 = true) (hr : (Region.ready md (List.toArray (o0 :: o1 :: o2 :: o3 :: o4 :: o5 :: o6 :: o7 :: o8 :: o9 :: o10 :: o11 :: o12 :: o13 :: o14 :: o15 :: o16 :: o17 :: o18 :: o19 :: o20 :: rest)) listed).contains 20 = true)
    (hQ : ∀ c a w, Q (.panic c) (a.put o20.dst undef) w → Q (.panic c) a w) (hw : Region.wanted o20 (yielded (List.toArray (o0 :: o1 :: o2 :: o3 :: o4 :: o5 :: o6 :: o7 :: o8 :: o9 :: o10 :: o11 :: o12 :: o13 :: o14 :: o15 :: o16 :: o17 :: o18 :: o19 :: o20 :: rest)) a.tmps) = false) (hS : S w)
    (h : wpAnyH P md (List.toArray (o0 :: o1 :: o2 :: o3 :: o4 :: o5 :: o6 :: o7 :: o8 :: o9 :: o10 :: o11 :: o12 :: o13 :: o14 :: o15 :: o16 :: o17 :: o18 :: o19 :: o20 :: rest)) Q S fuel (listed.setIfInBounds 20 true) (a.put o20.dst undef) w) : wpAnyH P md (List.toArray (o0 :: o1 :: o2 :: o3 :: o4 :: o5 :: o6 :: o7 :: o8 :: o9 :: o10 :: o11 :: o12 :: o13 :: o14 :: o15 :: o16 :: o17 :: o18 :: o19 :: o20 :: rest)) Q S (fuel + 1) listed a w :=
  wpAnyH_take (i := 20) rfl hs hf hr hQ (.inr ⟨hw, rfl⟩) hS h

theorem skip21 {S : World → Prop} {md : Region.Mode} {o0 o1 o2 o3 o4 o5 o6 o7 o8 o9 o10 o11 o12 o13 o14 o15 o16 o17 o18 o19 o20 o21 : Oper} {rest : List Oper} {fuel : Nat} {listed : Array Bool} {a : Act} {w : World}
    (hs : Region.noSelect (List.toArray (o0 :: o1 :: o2 :: o3 :: o4 :: o5 :: o6 :: o7 :: o8 :: o9 :: o10 :: o11 :: o12 :: o13 :: o14 :: o15 :: o16 :: o17 :: o18 :: o19 :: o20 :: o21 :: rest)) = true) (hf : Region.free md (List.toArray (o0 :: o1 :: o2 :: o3 :: o4 :: o5 :: o6 :: o7 :: o8 :: o9 :: o10 :: o11 :: o12 :: o13 :: o14 :: o15 :: o16 :: o17 :: o18 :: o19 :: o20 :: o21 :: rest)) listed 21 = true) (hr : (Region.ready md (List.toArray (o0 :: o1 :: o2 :: o3 :: o4 :: o5 :: o6 :: o7 :: o8 :: o9 :: o10 :: o11 :: o12 :: o13 :: o14 :: o15 :: o16 :: o17 :: o18 :: o19 :: o20 :: o21 :: rest)) listed).contains 21 = true)
    (hQ : ∀ c a w, Q (.panic c) (a.put o21.dst undef) w → Q (.panic c) a w) (hw : Region.wanted o21 (yielded (List.toArray (o0 :: o1 :: o2 :: o3 :: o4 :: o5 :: o6 :: o7 :: o8 :: o9 :: o10 :: o11 :: o12 :: o13 :: o14 :: o15 :: o16 :: o17 :: o18 :: o19 :: o20 :: o21 :: rest)) a.tmps) = false) (hS : S w)
    (h : wpAnyH P md (List.toArray (o0 :: o1 :: o2 :: o3 :: o4 :: o5 :: o6 :: o7 :: o8 :: o9 :: o10 :: o11 :: o12 :: o13 :: o14 :: o15 :: o16 :: o17 :: o18 :: o19 :: o20 :: o21 :: rest)) Q S fuel (listed.setIfInBounds 21 true) (a.put o21.dst undef) w) : wpAnyH P md (List.toArray (o0 :: o1 :: o2 :: o3 :: o4 :: o5 :: o6 :: o7 :: o8 :: o9 :: o10 :: o11 :: o12 :: o13 :: o14 :: o15 :: o16 :: o17 :: o18 :: o19 :: o20 :: o21 :: rest)) Q S (fuel + 1) listed a w :=
  wpAnyH_take (i := 21) rfl hs hf hr hQ (.inr ⟨hw, rfl⟩) hS h

theorem skip22 {S : World → Prop} {md : Region.Mode} {o0 o1 o2 o3 o4 o5 o6 o7 o8 o9 o10 o11 o12 o13 o14 o15 o16 o17 o18 o19 o20 o21 o22 : Oper} {rest : List Oper} {fuel : Nat} {listed : Array Bool} {a : Act} {w : World}
    (hs : Region.noSelect (List.toArray (o0 :: o1 :: o2 :: o3 :: o4 :: o5 :: o6 :: o7 :: o8 :: o9 :: o10 :: o11 :: o12 :: o13 :: o14 :: o15 :: o16 :: o17 :: o18 :: o19 :: o20 :: o21 :: o22 :: rest)) = true) (hf : Region.free md (List.toArray (o0 :: o1 :: o2 :: o3 :: o4 :: o5 :: o6 :: o7 :: o8 :: o9 :: o10 :: o11 :: o12 :: o13 :: o14 :: o15 :: o16 :: o17 :: o18 :: o19 :: o20 :: o21 :: o22 :: rest)) listed 22 = true) (hr : (Region.ready md (List.toArray (o0 :: o1 :: o2 :: o3 :: o4 :: o5 :: o6 :: o7 :: o8 :: o9 :: o10 :: o11 :: o12 :: o13 :: o14 :: o15 :: o16 :: o17 :: o18 :: o19 :: o20 :: o21 :: o22 :: rest)) listed).contains 22 = true)
    (hQ : ∀ c a w, Q (.panic c) (a.put o22.dst undef) w → Q (.panic c) a w) (hw : Region.wanted o22 (yielded (List.toArray (o0 :: o1 :: o2 :: o3 :: o4 :: o5 :: o6 :: o7 :: o8 :: o9 :: o10 :: o11 :: o12 :: o13 :: o14 :: o15 :: o16 :: o17 :: o18 :: o19 :: o20 :: o21 :: o22 :: rest)) a.tmps) = false) (hS : S w)
    (h : wpAnyH P md (List.toArray (o0 :: o1 :: o2 :: o3 :: o4 :: o5 :: o6 :: o7 :: o8 :: o9 :: o10 :: o11 :: o12 :: o13 :: o14 :: o15 :: o16 :: o17 :: o18 :: o19 :: o20 :: o21 :: o22 :: rest)) Q S fuel (listed.setIfInBounds 22 true) (a.put o22.dst undef) w) : wpAnyH P md (List.toArray (o0 :: o1 :: o2 :: o3 :: o4 :: o5 :: o6 :: o7 :: o8 :: o9 :: o10 :: o11 :: o12 :: o13 :: o14 :: o15 :: o16 :: o17 :: o18 :: o19 :: o20 :: o21 :: o22 :: rest)) Q S (fuel + 1) listed a w :=
  wpAnyH_take (i := 22) rfl hs hf hr hQ (.inr ⟨hw, rfl⟩) hS h

theorem skip23 {S : World → Prop} {md : Region.Mode} {o0 o1 o2 o3 o4 o5 o6 o7 o8 o9 o10 o11 o12 o13 o14 o15 o16 o17 o18 o19 o20 o21 o22 o23 : Oper} {rest : List Oper} {fuel : Nat} {listed : Array Bool} {a : Act} {w : World}
    (hs : Region.noSelect (List.toArray (o0 :: o1 :: o2 :: o3 :: o4 :: o5 :: o6 :: o7 :: o8 :: o9 :: o10 :: o11 :: o12 :: o13 :: o14 :: o15 :: o16 :: o17 :: o18 :: o19 :: o20 :: o21 :: o22 :: o23 :: rest)) = true) (hf : Region.free md (List.toArray (o0 :: o1 :: o2 :: o3 :: o4 :: o5 :: o6 :: o7 :: o8 :: o9 :: o10 :: o11 :: o12 :: o13 :: o14 :: o15 :: o16 :: o17 :: o18 :: o19 :: o20 :: o21 :: o22 :: o23 :: rest)) listed 23 = true) (hr : (Region.ready md (List.toArray (o0 :: o1 :: o2 :: o3 :: o4 :: o5 :: o6 :: o7 :: o8 :: o9 :: o10 :: o11 :: o12 :: o13 :: o14 :: o15 :: o16 :: o17 :: o18 :: o19 :: o20 :: o21 :: o22 :: o23 :: rest)) listed).contains 23 = true)
    (hQ : ∀ c a w, Q (.panic c) (a.put o23.dst undef) w → Q (.panic c) a w) (hw : Region.wanted o23 (yielded (List.toArray (o0 :: o1 :: o2 :: o3 :: o4 :: o5 :: o6 :: o7 :: o8 :: o9 :: o10 :: o11 :: o12 :: o13 :: o14 :: o15 :: o16 :: o17 :: o18 :: o19 :: o20 :: o21 :: o22 :: o23 :: rest)) a.tmps) = false) (hS : S w)
    (h : wpAnyH P md (List.toArray (o0 :: o1 :: o2 :: o3 :: o4 :: o5 :: o6 :: o7 :: o8 :: o9 :: o10 :: o11 :: o12 :: o13 :: o14 :: o15 :: o16 :: o17 :: o18 :: o19 :: o20 :: o21 :: o22 :: o23 :: rest)) Q S fuel (listed.setIfInBounds 23 true) (a.put o23.dst undef) w) : wpAnyH P md (List.toArray (o0 :: o1 :: o2 :: o3 :: o4 :: o5 :: o6 :: o7 :: o8 :: o9 :: o10 :: o11 :: o12 :: o13 :: o14 :: o15 :: o16 :: o17 :: o18 :: o19 :: o20 :: o21 :: o22 :: o23 :: rest)) Q S (fuel + 1) listed a w :=
  wpAnyH_take (i := 23) rfl hs hf hr hQ (.inr ⟨hw, rfl⟩) hS h

end
end Go.Proofs.Ytjpapgbdhflgnaa

/- 'make([]int, n)' as an operation alone, in a region that draws its order. No program is in sight here. -/
namespace Go.Tok
open Go.RowKit
set_option linter.unusedVariables false

theorem step_mk_ints {P : Program} {t e : TypeId} (T : IntTy P t e) {ops : Array Oper} {o : Oper} {a : Act} {w : World} {K : Act → World → Prop} {Q : Exit → Act → World → Prop} {E : Prop} (hgd : o.guard = none) (l c : Operand)
    (ho : o.op = Op.makeSlice t l c) (base n : Nat) (L C : Int) (hl : a.eval l = .int .i64 L) (hc : a.eval c = .int .i64 C) (hL : L = (n : Int)) (hC : C = (n : Int)) (hn : n ≤ 35184372088832) (hbase : base ≤ w.heap.size)
    (hK : ∀ w', OwnI e base w' (.slice (some ⟨w.heap.size, 0, none⟩) n n) (List.replicate n 0) → Gr w w' → w.heap.size < w'.heap.size → K (a.put o.dst (.slice (some ⟨w.heap.size, 0, none⟩) n n)) w') :
    if Region.wanted o (yielded ops a.tmps) = true then Oper.wp P o a w K Q else E := by
  have hw : Region.wanted o (yielded ops a.tmps) = true := by simp [Region.wanted, hgd]
  rw [if_pos hw]
  obtain ⟨i, hi, hz, hs, hb⟩ := info_parts T.info
  obtain ⟨w', hrun, r1, r2⟩ := run_make_full (P := P) w base t e i _ 1 T.und hi hz hs .i64 .i64 n (by rw [hb]; omega) (by unfold maxLen; omega) hbase
  subst hL
  subst hC
  unfold Oper.wp
  simp [execOp, ho, hl, hc, hrun, Result.andThen]
  refine hK w' ?_ ?_ ?_
  · unfold OwnI
    refine ⟨?_, replicate_i64 n⟩
    simp only [Value.cells, Nat.mul_one, toList_madeCells_one] at r1
    simpa using r1
  · unfold Gr
    exact ⟨r2.os, r2.tape, r2.output, r2.size, fun k hk => r2.block k hk (by simp)⟩
  · exact (r1.lt w.heap.size rfl).2
/-- 'make([]int, n)' as an equation of its run, for a region that draws its order -/
theorem run_mk_ints {P : Program} {t e : TypeId} (T : IntTy P t e) (n : Nat) (hn : n ≤ 35184372088832) : ∃ f : World → World, ∀ w,
    (Instr.makeSlice t (.int .i64 (n : Int)) (.int .i64 (n : Int))).run P w = .ok (.slice (some ⟨w.heap.size, 0, none⟩) n n) (f w) ∧
      OwnI e w.heap.size (f w) (.slice (some ⟨w.heap.size, 0, none⟩) n n) (List.replicate n 0) ∧ Gr w (f w) ∧ w.heap.size < (f w).heap.size := by
  have h : ∀ w : World, ∃ w', (Instr.makeSlice t (.int .i64 (n : Int)) (.int .i64 (n : Int))).run P w = .ok (.slice (some ⟨w.heap.size, 0, none⟩) n n) w' ∧
      OwnI e w.heap.size w' (.slice (some ⟨w.heap.size, 0, none⟩) n n) (List.replicate n 0) ∧ Gr w w' ∧ w.heap.size < w'.heap.size := by
    intro w
    obtain ⟨i, hi, hz, hs, hb⟩ := info_parts T.info
    obtain ⟨w', hrun, r1, r2⟩ := run_make_full (P := P) w w.heap.size t e i _ 1 T.und hi hz hs .i64 .i64 n (by rw [hb]; omega) (by unfold maxLen; omega) (Nat.le_refl _)
    refine ⟨w', hrun, ?_, ?_, (r1.lt w.heap.size rfl).2⟩
    · unfold OwnI
      refine ⟨?_, replicate_i64 n⟩
      simp only [Value.cells, Nat.mul_one, toList_madeCells_one] at r1
      simpa using r1
    · unfold Gr
      exact ⟨r2.os, r2.tape, r2.output, r2.size, fun k hk => r2.block k hk (by simp)⟩
  exact ⟨fun w => Classical.choose (h w), fun w => Classical.choose_spec (h w)⟩
end Go.Tok
namespace Go.Proofs.Ytjpapgbdhflgnaa
open Go.RowKit Go.Tok
/-- two operations are ready: either may be the next one -/
theorem fork {P : Program} {Q : Exit → Act → World → Prop} {S : World → Prop} {md : Region.Mode} {ops : Array Oper} {i j : Nat} {oi oj : Oper} {fuel : Nat} {listed : Array Bool} {a : Act} {w : World} (hi : ops[i]? = some oi) (hj : ops[j]? = some oj) (hr : Region.ready md ops listed = [i, j])
    (h1 : ∀ K' : Act → World → Prop, Shut (∀ a w, S w → (S w → wpAnyH P md ops Q S fuel (listed.setIfInBounds i true) a w) → K' a w) → if Region.wanted oi (yielded ops a.tmps) = true then Oper.wp P oi a w K' Q else K' (a.put oi.dst undef) w)
    (h2 : ∀ K' : Act → World → Prop, Shut (∀ a w, S w → (S w → wpAnyH P md ops Q S fuel (listed.setIfInBounds j true) a w) → K' a w) → if Region.wanted oj (yielded ops a.tmps) = true then Oper.wp P oj a w K' Q else K' (a.put oj.dst undef) w) :
    wpAnyH P md ops Q S (fuel + 1) listed a w :=
  wpAnyH_ready hr (by simp) (AllReadyH.cons (o := oi) hi h1 (AllReadyH.cons (o := oj) hj h2 AllReadyH.nil))
theorem fork_2_6 {P : Program} {Q : Exit → Act → World → Prop} {S : World → Prop} {md : Region.Mode} {o0 o1 o2 o3 o4 o5 o6 : Oper} {rest : List Oper} {fuel : Nat} {listed : Array Bool} {a : Act} {w : World}
    (hr : Region.ready md (List.toArray (o0 :: o1 :: o2 :: o3 :: o4 :: o5 :: o6 :: rest)) listed = [2, 6])
    (h2 : ∀ K' : Act → World → Prop, Shut (∀ a w, S w → (S w → wpAnyH P md (List.toArray (o0 :: o1 :: o2 :: o3 :: o4 :: o5 :: o6 :: rest)) Q S fuel (listed.setIfInBounds 2 true) a w) → K' a w) → if Region.wanted o2 (yielded (List.toArray (o0 :: o1 :: o2 :: o3 :: o4 :: o5 :: o6 :: rest)) a.tmps) = true then Oper.wp P o2 a w K' Q else K' (a.put o2.dst undef) w)
    (h6 : ∀ K' : Act → World → Prop, Shut (∀ a w, S w → (S w → wpAnyH P md (List.toArray (o0 :: o1 :: o2 :: o3 :: o4 :: o5 :: o6 :: rest)) Q S fuel (listed.setIfInBounds 6 true) a w) → K' a w) → if Region.wanted o6 (yielded (List.toArray (o0 :: o1 :: o2 :: o3 :: o4 :: o5 :: o6 :: rest)) a.tmps) = true then Oper.wp P o6 a w K' Q else K' (a.put o6.dst undef) w) : wpAnyH P md (List.toArray (o0 :: o1 :: o2 :: o3 :: o4 :: o5 :: o6 :: rest)) Q S (fuel + 1) listed a w := fork (i := 2) (j := 6) rfl rfl hr h2 h6
end Go.Proofs.Ytjpapgbdhflgnaa
