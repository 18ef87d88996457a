/- The words of a net, by ways through the graph of its marks. No program is in sight here. -/
import Derived.Test.YtkanaoebpajbfaaPB
import Derived.Test.YtkanaoebpajbfaaPA
import Derived.Test.YtkanaoebpajbfaaGS
namespace Go.Tok
open Go.Proofs.Ytkanaoebpajbfaa
set_option linter.unusedVariables false
section
variable {lab : List Int} {arcs : List ArcD} {i k n : Nat} {w : List Int} {a : Int}
/-- a way through the graph of marks, and what is seen of it -/
inductive Way (lab : List Int) (arcs : List ArcD) (i : Nat) : List Int → Nat → Prop
  | here : Way lab arcs i [] i
  | quiet {w : List Int} {j t k : Nat} (h : Way lab arcs i w j) (ha : (⟨(j : Int), (t : Int), (k : Int)⟩ : ArcD) ∈ arcs) (hl : nth lab t = 0) : Way lab arcs i w k
  | heard {w : List Int} {j t k : Nat} (h : Way lab arcs i w j) (ha : (⟨(j : Int), (t : Int), (k : Int)⟩ : ArcD) ∈ arcs) (hl : 0 < nth lab t) : Way lab arcs i (w ++ [nth lab t]) k
/-- what is reached from some marks by what nobody sees -/
inductive Quiet (lab : List Int) (arcs : List ArcD) (A : Nat → Prop) : Nat → Prop
  | base {k : Nat} (h : A k) : Quiet lab arcs A k
  | step {j t k : Nat} (h : Quiet lab arcs A j) (ha : (⟨(j : Int), (t : Int), (k : Int)⟩ : ArcD) ∈ arcs) (hl : nth lab t = 0) : Quiet lab arcs A k
theorem Quiet.imp {A B : Nat → Prop} (h : Quiet lab arcs A k) (hAB : ∀ k, A k → B k) : Quiet lab arcs B k := by
  induction h with
  | base h => exact .base (hAB _ h)
  | step _ ha hl ih => exact .step ih ha hl
theorem way_nil : Way lab arcs i [] k ↔ Quiet lab arcs (fun j => j = i) k := by
  constructor
  · intro h
    generalize hw : ([] : List Int) = u at h
    induction h with
    | here => exact .base rfl
    | quiet _ ha hl ih => exact .step (ih hw) ha hl
    | heard _ ha hl ih => simp at hw
  · intro h
    induction h with
    | base h => subst h; exact .here
    | step _ ha hl ih => exact .quiet ih ha hl
def Heard (lab : List Int) (arcs : List ArcD) (S : Nat → Prop) (a : Int) (k : Nat) : Prop := 0 < a ∧ ∃ j t : Nat, S j ∧ (⟨(j : Int), (t : Int), (k : Int)⟩ : ArcD) ∈ arcs ∧ nth lab t = a
theorem way_snoc : Way lab arcs i (w ++ [a]) k ↔ Quiet lab arcs (Heard lab arcs (Way lab arcs i w) a) k := by
  constructor
  · intro h
    generalize hw : w ++ [a] = u at h
    induction h with
    | here => simp at hw
    | quiet _ ha hl ih => exact .step (ih hw) ha hl
    | heard h ha hl ih =>
      obtain ⟨h1, h2⟩ := List.append_inj' hw rfl
      subst h1
      simp only [List.cons.injEq, and_true] at h2
      subst h2
      exact .base ⟨hl, _, _, h, ha, rfl⟩
  · intro h
    induction h with
    | base h =>
      obtain ⟨h0, j, t, h1, h2, h3⟩ := h
      subst h3
      exact .heard h1 h2 h0
    | step _ ha hl ih => exact .quiet ih ha hl
theorem way_prefix {u : List Int} (h : Way lab arcs i u k) : ∀ r, u = w ++ r → ∃ j, Way lab arcs i w j := by
  induction h with
  | here =>
    intro r hr
    have : w = [] := by
      cases w with
      | nil => rfl
      | cons x y => simp at hr
    subst this
    exact ⟨i, .here⟩
  | quiet _ _ _ ih => exact ih
  | heard h ha hl ih =>
    intro r hr
    rcases List.eq_nil_or_concat r with rfl | ⟨r', x, rfl⟩
    · rw [List.append_nil] at hr
      rw [← hr]
      exact ⟨_, .heard h ha hl⟩
    · rw [List.concat_eq_append, ← List.append_assoc] at hr
      obtain ⟨h1, _⟩ := List.append_inj' hr rfl
      exact ih _ h1
/-- the arcs go from mark to mark -/
def ArcsOk (n m : Nat) (arcs : List ArcD) : Prop := ∀ x ∈ arcs, ∃ j t k : Nat, x = ⟨(j : Int), (t : Int), (k : Int)⟩ ∧ j < n ∧ t < m ∧ k < n
theorem ArcsOk.of {m : Nat} (h : ArcsOk n m arcs) {j t k : Nat} (ha : (⟨(j : Int), (t : Int), (k : Int)⟩ : ArcD) ∈ arcs) : j < n ∧ t < m ∧ k < n := by
  obtain ⟨j', t', k', he, h1, h2, h3⟩ := h _ ha
  simp only [ArcD.mk.injEq] at he
  omega
theorem ArcsOk.at_ {m q : Nat} (h : ArcsOk n m arcs) (hq : q < arcs.length) : ∃ j t k : Nat, ix arcs q = ⟨(j : Int), (t : Int), (k : Int)⟩ ∧ j < n ∧ t < m ∧ k < n := h _ (ix_mem hq)
theorem way_lt {m : Nat} (ho : ArcsOk n m arcs) (hi : i < n) (h : Way lab arcs i w k) : k < n := by
  cases h with
  | here => exact hi
  | quiet _ ha _ => exact (ho.of ha).2.2
  | heard _ ha _ => exact (ho.of ha).2.2

/-! ### how all is found that is reached -/
def falsesB (xs : List Bool) : Nat := (xs.filter (fun b => !b)).length
theorem falses_le (xs : List Bool) : falsesB xs ≤ xs.length := List.length_filter_le _ _
theorem falses_set : ∀ (xs : List Bool) (k : Nat), k < xs.length → ix xs k = false → falsesB (xs.set k true) + 1 = falsesB xs
  | [], k, h, _ => by simp at h
  | x :: xs, 0, h, h0 => by
    rw [ix_zero] at h0
    subst h0
    simp [falsesB]
  | x :: xs, k + 1, h, h0 => by
    rw [ix_succ] at h0
    have := falses_set xs k (by simpa using h) h0
    unfold falsesB at *
    rw [List.set_cons_succ]
    cases x <;> simp at this ⊢ <;> omega
theorem ix_setB {xs : List Bool} {k j : Nat} (hk : k < xs.length) (hj : j < xs.length) (b : Bool) : ix (xs.set k b) j = if j = k then b else ix xs j := by
  rw [ix_lt (by simpa using hj), ix_lt hj, List.getElem_set]
  by_cases h : k = j
  · rw [if_pos h, if_pos h.symm]
  · rw [if_neg h, if_neg (fun e => h e.symm)]
def InS (n : Nat) (xs : List Bool) (k : Nat) : Prop := k < n ∧ ix xs k = true
structure SprI (n : Nat) (lab : List Int) (arcs : List ArcD) (xs cur : List Bool) : Prop where
  len : cur.length = n
  up : ∀ k, k < n → ix xs k = true → ix cur k = true
  sound : ∀ k, k < n → ix cur k = true → Quiet lab arcs (InS n xs) k
variable {xs cur : List Bool}
theorem SprI.zero (h : xs.length = n) : SprI n lab arcs xs xs := ⟨h, fun _ _ h => h, fun k h1 h2 => .base ⟨h1, h2⟩⟩
theorem SprI.set {j t : Nat} (h : SprI n lab arcs xs cur) (ha : (⟨(j : Int), (t : Int), (k : Int)⟩ : ArcD) ∈ arcs) (hl : nth lab t = 0) (hj : j < n) (hk : k < n) (hc : ix cur j = true) : SprI n lab arcs xs (cur.set k true) := by
  have hlen := h.len
  refine ⟨by rw [List.length_set]; exact hlen, fun p hp hx => ?_, fun p hp hx => ?_⟩
  · rw [ix_setB (by omega) (by omega)]
    split
    · rfl
    · exact h.up p hp hx
  · rw [ix_setB (by omega) (by omega)] at hx
    by_cases e : p = k
    · subst e; exact .step (h.sound j hj hc) ha hl
    · rw [if_neg e] at hx; exact h.sound p hp hx
def ClosedTo (lab : List Int) (arcs : List ArcD) (q : Nat) (cur : List Bool) : Prop := ∀ q', q' < q → ∀ j t k : Nat, ix arcs q' = ⟨(j : Int), (t : Int), (k : Int)⟩ → nth lab t = 0 → ix cur j = true → ix cur k = true
theorem ClosedTo.zero (lab : List Int) (arcs : List ArcD) (cur : List Bool) : ClosedTo lab arcs 0 cur := fun q' h => absurd h (Nat.not_lt_zero _)
theorem ClosedTo.succ {q j t k : Nat} (h : ClosedTo lab arcs q cur) (hq : ix arcs q = ⟨(j : Int), (t : Int), (k : Int)⟩) (hc : nth lab t = 0 → ix cur j = true → ix cur k = true) : ClosedTo lab arcs (q + 1) cur := by
  intro q' hq' j' t' k' he hl hx
  by_cases e : q' = q
  · subst e
    rw [hq] at he
    simp only [ArcD.mk.injEq] at he
    obtain ⟨e1, e2, e3⟩ := he
    obtain rfl : j = j' := by omega
    obtain rfl : t = t' := by omega
    obtain rfl : k = k' := by omega
    exact hc hl hx
  · exact h q' (by omega) j' t' k' he hl hx
/-- so far: nothing was found in this turn, and all before is done; or something was found -/
def TurnI (lab : List Int) (arcs : List ArcD) (q f : Nat) (cur : List Bool) (again : Bool) : Prop := (again = false ∧ ClosedTo lab arcs q cur ∧ falsesB cur = f) ∨ (again = true ∧ falsesB cur < f)
theorem SprI.done {m : Nat} (h : SprI n lab arcs xs cur) (ho : ArcsOk n m arcs) (hc : ClosedTo lab arcs arcs.length cur) (hk : k < n) : ix cur k = true ↔ Quiet lab arcs (InS n xs) k := by
  constructor
  · exact h.sound k hk
  · intro hq
    induction hq with
    | base hb => exact h.up _ hb.1 hb.2
    | step _ ha hl ih =>
      obtain ⟨h1, _, _⟩ := ho.of ha
      obtain ⟨q, hq, he⟩ := List.getElem_of_mem ha
      exact hc q hq _ _ _ (by rw [ix_lt hq]; exact he) hl (ih h1)
/-- what is heard among the first arcs -/
structure HearI (n : Nat) (lab : List Int) (arcs : List ArcD) (s : List Bool) (a : Int) (q : Nat) (out : List Bool) (some : Bool) : Prop where
  len : out.length = n
  set : ∀ k, k < n → (ix out k = true ↔ ∃ q', q' < q ∧ ∃ j t : Nat, ix arcs q' = ⟨(j : Int), (t : Int), (k : Int)⟩ ∧ nth lab t = a ∧ 0 < a ∧ ix s j = true)
  any : some = true ↔ ∃ k, k < n ∧ ix out k = true
theorem ix_repF {n k : Nat} (h : k < n) : ix (List.replicate n false) k = false := by rw [ix_lt (by simpa using h)]; simp
theorem HearI.zero (n : Nat) (lab : List Int) (arcs : List ArcD) (s : List Bool) (a : Int) : HearI n lab arcs s a 0 (List.replicate n false) false :=
  ⟨by simp, fun k hk => by rw [ix_repF hk]; exact ⟨fun h => (by cases h), fun ⟨q, h, _⟩ => absurd h (Nat.not_lt_zero _)⟩, ⟨fun h => (by cases h), fun ⟨k, hk, h⟩ => by rw [ix_repF hk] at h; cases h⟩⟩
variable {s out ys : List Bool} {some : Bool}
theorem HearI.no {q j t k : Nat} (h : HearI n lab arcs s a q out some) (hq : ix arcs q = ⟨(j : Int), (t : Int), (k : Int)⟩) (hc : ¬ (nth lab t = a ∧ 0 < a ∧ ix s j = true)) : HearI n lab arcs s a (q + 1) out some := by
  refine ⟨h.len, fun p hp => ?_, h.any⟩
  rw [h.set p hp]
  constructor
  · rintro ⟨q', h1, h2⟩; exact ⟨q', by omega, h2⟩
  · rintro ⟨q', h1, j', t', h2, h3⟩
    by_cases e : q' = q
    · subst e
      rw [hq] at h2
      simp only [ArcD.mk.injEq] at h2
      obtain ⟨e1, e2, e3⟩ := h2
      obtain rfl : j = j' := by omega
      obtain rfl : t = t' := by omega
      exact absurd h3 hc
    · exact ⟨q', by omega, j', t', h2, h3⟩
theorem HearI.yes {q j t k : Nat} (h : HearI n lab arcs s a q out some) (hq : ix arcs q = ⟨(j : Int), (t : Int), (k : Int)⟩) (hk : k < n) (h1 : nth lab t = a) (h2 : 0 < a) (h3 : ix s j = true) : HearI n lab arcs s a (q + 1) (out.set k true) true := by
  have hlen := h.len
  refine ⟨by rw [List.length_set]; exact hlen, fun p hp => ?_, ⟨fun _ => ⟨k, hk, by rw [ix_setB (by omega) (by omega), if_pos rfl]⟩, fun _ => rfl⟩⟩
  rw [ix_setB (by omega) (by omega)]
  by_cases e : p = k
  · subst e
    rw [if_pos rfl]
    exact ⟨fun _ => ⟨q, by omega, j, t, hq, h1, h2, h3⟩, fun _ => rfl⟩
  · rw [if_neg e, h.set p hp]
    constructor
    · rintro ⟨q', h4, h5⟩; exact ⟨q', by omega, h5⟩
    · rintro ⟨q', h4, j', t', h5, h6⟩
      by_cases e' : q' = q
      · subst e'
        rw [hq] at h5
        simp only [ArcD.mk.injEq] at h5
        omega
      · exact ⟨q', by omega, j', t', h5, h6⟩
/-- the marks behind a word -/
def Behind (n : Nat) (lab : List Int) (arcs : List ArcD) (w : List Int) (s : List Bool) : Prop := s.length = n ∧ ∀ k, k < n → (ix s k = true ↔ Way lab arcs 0 w k)
/-- what a letter comes to -/
def HearR (n : Nat) (lab : List Int) (arcs : List ArcD) (s : List Bool) (a : Int) (ys : List Bool) (some : Bool) : Prop := ys.length = n ∧ (∀ k, k < n → (ix ys k = true ↔ Quiet lab arcs (Heard lab arcs (InS n s) a) k)) ∧ (some = true ↔ ∃ k, k < n ∧ Heard lab arcs (InS n s) a k)
theorem HearI.done {m : Nat} (h : HearI n lab arcs s a arcs.length out some) (ho : ArcsOk n m arcs) (hl : ys.length = n) (hy : ∀ k, k < n → (ix ys k = true ↔ Quiet lab arcs (InS n out) k)) : HearR n lab arcs s a ys some := by
  have key : ∀ k, k < n → (ix out k = true ↔ Heard lab arcs (InS n s) a k) := by
    intro k hk
    rw [h.set k hk]
    constructor
    · rintro ⟨q, h1, j, t, h2, h3, h4, h5⟩
      have hm : (⟨(j : Int), (t : Int), (k : Int)⟩ : ArcD) ∈ arcs := by rw [← h2]; exact ix_mem h1
      exact ⟨h4, j, t, ⟨(ho.of hm).1, h5⟩, hm, h3⟩
    · rintro ⟨h4, j, t, h5, hm, h3⟩
      obtain ⟨q, hq, he⟩ := List.getElem_of_mem hm
      exact ⟨q, hq, j, t, by rw [ix_lt hq]; exact he, h3, h4, h5.2⟩
  refine ⟨hl, fun k hk => ?_, ?_⟩
  · rw [hy k hk]
    constructor
    · intro hq; exact hq.imp fun p hp => (key p hp.1).1 hp.2
    · intro hq
      refine hq.imp fun p hp => ?_
      obtain ⟨_, j, t, _, hm, _⟩ := id hp
      exact ⟨(ho.of hm).2.2, (key p (ho.of hm).2.2).2 hp⟩
  · rw [h.any]
    exact ⟨fun ⟨k, h1, h2⟩ => ⟨k, h1, (key k h1).1 h2⟩, fun ⟨k, h1, h2⟩ => ⟨k, h1, (key k h1).2 h2⟩⟩
theorem Behind.iff {m : Nat} (h : Behind n lab arcs w s) (ho : ArcsOk n m arcs) (hn : 0 < n) (k : Nat) : InS n s k ↔ Way lab arcs 0 w k :=
  ⟨fun hk => (h.2 k hk.1).1 hk.2, fun hk => ⟨way_lt ho hn hk, (h.2 k (way_lt ho hn hk)).2 hk⟩⟩
theorem Heard.congr {S T : Nat → Prop} (h : ∀ k, S k ↔ T k) (k : Nat) : Heard lab arcs S a k ↔ Heard lab arcs T a k := by
  have : S = T := funext fun k => propext (h k)
  rw [this]
theorem Behind.next {m : Nat} (h : Behind n lab arcs w s) (ho : ArcsOk n m arcs) (hn : 0 < n) (hr : HearR n lab arcs s a ys some) : Behind n lab arcs (w ++ [a]) ys := by
  refine ⟨hr.1, fun k hk => ?_⟩
  rw [hr.2.1 k hk, way_snoc]
  have e : InS n s = Way lab arcs 0 w := funext fun k => propext (h.iff ho hn k)
  rw [e]
theorem Behind.none {m : Nat} (h : Behind n lab arcs w s) (ho : ArcsOk n m arcs) (hn : 0 < n) (hr : HearR n lab arcs s a ys false) (r : List Int) (k : Nat) : ¬ Way lab arcs 0 (w ++ a :: r) k := by
  intro hw
  obtain ⟨j, hj⟩ := way_prefix (w := w ++ [a]) hw r (by simp)
  rw [way_snoc] at hj
  have e : InS n s = Way lab arcs 0 w := funext fun k => propext (h.iff ho hn k)
  have hno : ∀ k, ¬ Heard lab arcs (Way lab arcs 0 w) a k := by
    intro k hk
    rw [← e] at hk
    obtain ⟨_, j, t, _, hm, _⟩ := id hk
    have := hr.2.2.2 ⟨k, (ho.of hm).2.2, hk⟩
    cases this
  clear hw
  induction hj with
  | base hb => exact hno _ hb
  | step _ _ _ ih => exact ih
theorem Behind.first {s : List Bool} (hl : s.length = n) (hs : ∀ k, k < n → (ix s k = true ↔ Quiet lab arcs (InS n ((List.replicate n false).set 0 true)) k)) (hn : 0 < n) : Behind n lab arcs [] s := by
  refine ⟨hl, fun k hk => ?_⟩
  rw [hs k hk, way_nil]
  have e : InS n ((List.replicate n false).set 0 true) = fun j => j = 0 := by
    funext j
    apply propext
    constructor
    · rintro ⟨h1, h2⟩
      rw [ix_setB (by simpa using hn) (by simpa using h1)] at h2
      by_cases e : j = 0
      · exact e
      · rw [if_neg e, ix_repF h1] at h2; cases h2
    · rintro rfl
      exact ⟨hn, by rw [ix_setB (by simpa using hn) (by simpa using hn), if_pos rfl]⟩
  rw [e]
end
/-! ### ways are runs -/
def labN (N : NetD) : List Int := N.trans.map (·.label)
theorem labN_len (N : NetD) : (labN N).length = N.trans.length := by simp [labN]
theorem labN_nth {N : NetD} {t : Nat} (h : t < N.trans.length) : nth (labN N) t = (N.tr t).label := by
  rw [nth_lt (by rw [labN_len]; exact h)]
  unfold labN
  rw [List.getElem_map]
  have : N.tr t = N.trans[t] := by first | exact ix_lt h | (unfold NetD.tr; exact ix_lt h) | (unfold NetD.tr; simp [h])
  rw [this]
/-- what is seen of a run -/
def seenL (N : NetD) (seq : List Int) : List Int := (seq.map fun t => (N.tr t.toNat).label).filter (fun a => decide (0 < a))
theorem seen_nil (N : NetD) : seenL N [] = [] := rfl
theorem seen_append (N : NetD) (p q : List Int) : seenL N (p ++ q) = seenL N p ++ seenL N q := by unfold seenL; rw [List.map_append, List.filter_append]
theorem seen_one (N : NetD) (t : Nat) : seenL N [(t : Int)] = if 0 < (N.tr t).label then [(N.tr t).label] else [] := by
  unfold seenL
  by_cases h : 0 < (N.tr t).label <;> simp [h]
theorem seen_cons (N : NetD) (t : Nat) (q : List Int) : seenL N ((t : Int) :: q) = (if 0 < (N.tr t).label then [(N.tr t).label] else []) ++ seenL N q := by
  rw [← seen_one]; exact seen_append N [(t : Int)] q
def IsWord (N : NetD) (m0 mE w : List Int) : Prop := ∃ seq, Runs N m0 seq mE ∧ seenL N seq = w
theorem Whole.arcsOk {N : NetD} {m0 : List Int} {most : Nat} {s : FinD} (h : Whole N m0 most s) : ArcsOk s.marks.length N.trans.length s.arcs := by
  intro x hx
  obtain ⟨i, t, j, h1, h2, h3, h4⟩ := h.arc x hx
  exact ⟨i, t, j, h1, h2, h4.lt, h3⟩
theorem Whole.way_runs {N : NetD} {m0 : List Int} {most : Nat} {s : FinD} (h : Whole N m0 most s) {i : Nat} (hi : i < s.marks.length) {w : List Int} {k : Nat} (hw : Way (labN N) s.arcs i w k) :
    k < s.marks.length ∧ ∃ seq, Runs N (ix s.marks i) seq (ix s.marks k) ∧ seenL N seq = w := by
  have key : ∀ {j t k : Nat}, (⟨(j : Int), (t : Int), (k : Int)⟩ : ArcD) ∈ s.arcs → k < s.marks.length ∧ Fires N (ix s.marks j) t (ix s.marks k) := by
    intro j t k ha
    obtain ⟨i', t', k', he, h1, h2, h3⟩ := h.arc _ ha
    simp only [ArcD.mk.injEq] at he
    obtain ⟨e1, e2, e3⟩ := he
    obtain rfl : j = i' := by omega
    obtain rfl : t = t' := by omega
    obtain rfl : k = k' := by omega
    exact ⟨h2, h3⟩
  induction hw with
  | here => exact ⟨hi, [], .nil _, rfl⟩
  | quiet _ ha hl ih =>
    obtain ⟨hj, seq, hr, hs⟩ := ih
    obtain ⟨h1, h2⟩ := key ha
    refine ⟨h1, _, hr.snoc h2, ?_⟩
    rw [labN_nth h2.lt] at hl
    rw [seen_append, seen_one, hs, if_neg (by omega), List.append_nil]
  | heard _ ha hl ih =>
    obtain ⟨hj, seq, hr, hs⟩ := ih
    obtain ⟨h1, h2⟩ := key ha
    refine ⟨h1, _, hr.snoc h2, ?_⟩
    rw [labN_nth h2.lt] at hl ⊢
    rw [seen_append, seen_one, hs, if_pos hl]
theorem Whole.runs_way {N : NetD} {m0 : List Int} {most : Nat} {s : FinD} (h : Whole N m0 most s) (hok : netOkB N = true) {i : Nat} {x seq y : List Int} (hr : Runs N x seq y) :
    ∀ {w : List Int} {j : Nat}, x = ix s.marks j → j < s.marks.length → Way (labN N) s.arcs i w j → ∃ k, k < s.marks.length ∧ ix s.marks k = y ∧ Way (labN N) s.arcs i (w ++ seenL N seq) k := by
  induction hr with
  | nil x => intro w j hx hj hw; exact ⟨j, hj, hx.symm, by rw [seen_nil, List.append_nil]; exact hw⟩
  | @cons x y z q t hF _ ih =>
    intro w j hx hj hw
    subst hx
    obtain ⟨a, h1, h2, h3⟩ := h.done j hj t ((hasB_iff _ _).1 ((enabled_has (t : Int)).2 ⟨t, rfl, hF.lt, hF.pre⟩))
    obtain ⟨j', t', k, rfl, h4, h5, h6⟩ := h.arc a h1
    simp only [] at h2 h3
    obtain rfl : j' = j := by omega
    obtain rfl : t' = t := by omega
    have hy : y = ix s.marks k := hF.unique h6
    have hlab := (netOk_tr hok hF.lt).lab0
    rw [seen_cons, ← List.append_assoc]
    by_cases h0 : 0 < (N.tr t').label
    · rw [if_pos h0]
      refine ih hy h5 ?_
      have := Way.heard hw h1 (by rw [labN_nth hF.lt]; exact h0)
      rwa [labN_nth hF.lt] at this
    · rw [if_neg h0, List.append_nil]
      exact ih hy h5 (.quiet hw h1 (by rw [labN_nth hF.lt]; omega))
theorem Whole.zero {N : NetD} {m0 : List Int} {most : Nat} {s : FinD} (h : Whole N m0 most s) : 0 < s.marks.length ∧ ix s.marks 0 = m0 := by
  obtain ⟨r, hr⟩ := h.head
  rw [hr]
  exact ⟨by simp, ix_zero _ _⟩
theorem Whole.says {N : NetD} {m0 : List Int} {most : Nat} {s : FinD} (h : Whole N m0 most s) (hok : netOkB N = true) (mE w : List Int) : (∃ k, Way (labN N) s.arcs 0 w k ∧ ix s.marks k = mE) ↔ IsWord N m0 mE w := by
  obtain ⟨h0, h1⟩ := h.zero
  constructor
  · rintro ⟨k, hw, rfl⟩
    obtain ⟨_, seq, h2, h3⟩ := h.way_runs h0 hw
    rw [h1] at h2
    exact ⟨seq, h2, h3⟩
  · rintro ⟨seq, hr, rfl⟩
    obtain ⟨k, h2, h3, h4⟩ := h.runs_way hok hr (w := []) h1.symm h0 .here
    exact ⟨k, by simpa using h4, h3⟩
end Go.Tok
