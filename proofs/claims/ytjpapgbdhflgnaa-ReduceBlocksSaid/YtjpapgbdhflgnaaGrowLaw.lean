/- What grows of a block, as plain functions: places, links; and what holds of all links. No program is in sight here. -/
import Derived.Test.YtjpapgbdhflgnaaBlockLaw
namespace Go.Tok
open Go.RowKit
set_option linter.unusedVariables false
structure GS where
  places : Int
  links : List TranD
def placeF (s : GS) : Option GS := if 16 < s.places + 1 then none else some ⟨s.places + 1, s.links⟩
def linkF (l : TranD) (s : GS) : Option GS := if s.links.length = 24 then none else some ⟨s.places, s.links ++ [l]⟩
abbrev GF := BlockD → Int → Int → GS → Option GS
/-- one behind the other -/
def seqF (f : GF) : List BlockD → Int → Int → GS → Option GS
  | [], _, _, _ => none
  | [k], a, b, s => f k a b s
  | k :: k2 :: ks, a, b, s => (placeF s).bind fun s1 => (f k a s.places s1).bind fun s2 => seqF f (k2 :: ks) s.places b s2
def choiceF (f : GF) : List BlockD → Int → Int → GS → Option GS
  | [], _, _, s => some s
  | k :: ks, a, b, s => (f k a b s).bind fun s1 => choiceF f ks a b s1
/-- two places for each of n -/
def placesF : Nat → GS → Option GS
  | 0, s => some s
  | n + 1, s => (placeF s).bind fun s1 => (placeF s1).bind fun s2 => placesF n s2
/-- each between its own two places, the first of which is p -/
def bothF (f : GF) : List BlockD → Int → GS → Option GS
  | [], _, s => some s
  | k :: ks, p, s => (f k p (p + 1) s).bind fun s1 => bothF f ks (p + 2) s1
def insL (p : Int) (n : Nat) : List Int := (List.range n).map fun (i : Nat) => p + 2 * (i : Int)
def outsL (p : Int) (n : Nat) : List Int := (List.range n).map fun (i : Nat) => p + 2 * (i : Int) + 1
def growF : Nat → GF
  | 0, _, _, _, _ => none
  | n + 1, b, f, t, s =>
    if b.kind = 1 then linkF ⟨0, [f], [t]⟩ s
    else if b.kind = 2 then linkF ⟨b.label, [f], [t]⟩ s
    else if b.kind = 3 then seqF (growF n) b.kids f t s
    else if b.kind = 4 then choiceF (growF n) b.kids f t s
    else if b.kind = 5 then (placesF b.kids.length s).bind fun s1 => (linkF ⟨0, [f], insL s.places b.kids.length⟩ s1).bind fun s2 =>
      (bothF (growF n) b.kids s.places s2).bind fun s3 => linkF ⟨0, outsL s.places b.kids.length, [t]⟩ s3
    else (placeF s).bind fun s1 => (placeF s1).bind fun s2 => (linkF ⟨0, [f], [s.places]⟩ s2).bind fun s3 =>
      (growF n (ix b.kids 0) s.places (s.places + 1) s3).bind fun s4 => (growF n (ix b.kids 1) (s.places + 1) s.places s4).bind fun s5 => linkF ⟨0, [s.places + 1], [t]⟩ s5
/-- 1 at some of n places -/
def weightsF (n : Nat) (l : List Int) : List Int := l.foldl (fun out p => out.set p.toNat 1) (List.replicate n 0)
def netOf (s : GS) : NetD := ⟨s.places, s.links.map fun l => ⟨l.label, weightsF s.places.toNat l.pre, weightsF s.places.toNat l.post⟩⟩
/-- grow.Grow -/
def growN (n : Nat) (b : BlockD) : NetD × Int :=
  if wrongB n b = 0 then (match growF n b 0 1 ⟨2, []⟩ with | none => (⟨0, []⟩, 4) | some s => (netOf s, 0)) else (⟨0, []⟩, wrongB n b)

/-! ### what holds of all links -/
def PlIn (n : Int) (l : List Int) : Prop := ∀ p ∈ l, 0 ≤ p ∧ p < n
/-- all that has grown is right -/
structure GOk (s : GS) : Prop where
  lo : 2 ≤ s.places
  hi : s.places ≤ 16
  len : s.links.length ≤ 24
  lab : ∀ l ∈ s.links, 0 ≤ l.label ∧ l.label ≤ 26
  pre : ∀ l ∈ s.links, PlIn s.places l.pre
  post : ∀ l ∈ s.links, PlIn s.places l.post
theorem PlIn.more {n m : Int} {l : List Int} (h : PlIn n l) (hm : n ≤ m) : PlIn m l := fun p hp => ⟨(h p hp).1, by have := (h p hp).2; omega⟩
theorem PlIn.one {n p : Int} (h : 0 ≤ p) (h' : p < n) : PlIn n [p] := fun q hq => by rw [List.mem_singleton.1 hq]; exact ⟨h, h'⟩
theorem insL_in {p n : Int} {k : Nat} (h : 0 ≤ p) (h' : p + 2 * (k : Int) ≤ n) : PlIn n (insL p k) := fun q hq => by
  unfold insL at hq
  obtain ⟨i, hi, rfl⟩ := List.mem_map.1 hq
  have := List.mem_range.1 hi
  omega
theorem outsL_in {p n : Int} {k : Nat} (h : 0 ≤ p) (h' : p + 2 * (k : Int) ≤ n) : PlIn n (outsL p k) := fun q hq => by
  unfold outsL at hq
  obtain ⟨i, hi, rfl⟩ := List.mem_map.1 hq
  have := List.mem_range.1 hi
  omega
theorem insL_len (p : Int) (k : Nat) : (insL p k).length = k := by simp [insL]
theorem outsL_len (p : Int) (k : Nat) : (outsL p k).length = k := by simp [outsL]
theorem insL_succ (p : Int) (k : Nat) : insL p (k + 1) = insL p k ++ [p + 2 * (k : Int)] := by simp [insL, List.range_succ]
theorem outsL_succ (p : Int) (k : Nat) : outsL p (k + 1) = outsL p k ++ [p + 2 * (k : Int) + 1] := by simp [outsL, List.range_succ]
theorem insL_nth {p : Int} {k i : Nat} (h : i < k) : nth (insL p k) i = p + 2 * (i : Int) := by rw [nth_lt (by rw [insL_len]; exact h)]; simp [insL]
theorem outsL_nth {p : Int} {k i : Nat} (h : i < k) : nth (outsL p k) i = p + 2 * (i : Int) + 1 := by rw [nth_lt (by rw [outsL_len]; exact h)]; simp [outsL]
theorem place_some {s s' : GS} (h : placeF s = some s') : s' = ⟨s.places + 1, s.links⟩ ∧ s.places + 1 ≤ 16 := by
  unfold placeF at h
  split at h
  · cases h
  · cases h; exact ⟨rfl, by omega⟩
theorem link_some {l : TranD} {s s' : GS} (h : linkF l s = some s') : s' = ⟨s.places, s.links ++ [l]⟩ ∧ s.links.length ≠ 24 := by
  unfold linkF at h
  split at h
  · cases h
  · cases h; exact ⟨rfl, by assumption⟩
theorem places_some : ∀ {n : Nat} {s s' : GS}, placesF n s = some s' → s' = ⟨s.places + 2 * (n : Int), s.links⟩ ∧ (n = 0 ∨ s.places + 2 * (n : Int) ≤ 16) := by
  intro n
  induction n with
  | zero => intro s s' h; cases h; exact ⟨by simp, .inl rfl⟩
  | succ n ih =>
    intro s s' h
    unfold placesF at h
    replace h := Option.bind_eq_some_iff.1 h
    obtain ⟨s1, h1, h⟩ := h
    replace h := Option.bind_eq_some_iff.1 h
    obtain ⟨s2, h2, h⟩ := h
    obtain ⟨rfl, b1⟩ := place_some h1
    obtain ⟨rfl, b2⟩ := place_some h2
    obtain ⟨rfl, b3⟩ := ih h
    simp only [] at b2 b3 ⊢
    refine ⟨by congr 1; omega, .inr ?_⟩
    rcases b3 with rfl | b3 <;> omega
theorem GOk.place {s s' : GS} (h : GOk s) (e : placeF s = some s') : GOk s' := by
  obtain ⟨rfl, b⟩ := place_some e
  exact ⟨by have := h.lo; simp only []; omega, b, h.len, h.lab, fun l hl => (h.pre l hl).more (by simp only []; omega), fun l hl => (h.post l hl).more (by simp only []; omega)⟩
theorem GOk.link {l : TranD} {s s' : GS} (h : GOk s) (e : linkF l s = some s') (h1 : 0 ≤ l.label ∧ l.label ≤ 26) (h2 : PlIn s.places l.pre) (h3 : PlIn s.places l.post) : GOk s' := by
  obtain ⟨rfl, b⟩ := link_some e
  have hm : ∀ {x : TranD}, x ∈ s.links ++ [l] → x ∈ s.links ∨ x = l := fun hx => by
    rcases List.mem_append.1 hx with h | h
    · exact .inl h
    · exact .inr (List.mem_singleton.1 h)
  refine ⟨h.lo, h.hi, by have := h.len; rw [List.length_append, List.length_singleton]; omega, fun x hx => ?_, fun x hx => ?_, fun x hx => ?_⟩
  · rcases hm hx with h' | rfl
    · exact h.lab x h'
    · exact h1
  · rcases hm hx with h' | rfl
    · exact h.pre x h'
    · exact h2
  · rcases hm hx with h' | rfl
    · exact h.post x h'
    · exact h3
theorem GOk.places {n : Nat} {s s' : GS} (h : GOk s) (e : placesF n s = some s') : GOk s' := by
  obtain ⟨rfl, b⟩ := places_some e
  exact ⟨by have := h.lo; simp only []; omega, by have := h.hi; simp only []; rcases b with rfl | b <;> omega, h.len, h.lab, fun l hl => (h.pre l hl).more (by simp only []; omega), fun l hl => (h.post l hl).more (by simp only []; omega)⟩
/-- a way of growing that keeps what is right -/
def KeepG (f : GF) (P : BlockD → Prop) : Prop := ∀ b x y s s', P b → GOk s → 0 ≤ x → x < s.places → 0 ≤ y → y < s.places → f b x y s = some s' → GOk s' ∧ s.places ≤ s'.places
theorem seq_keep {f : GF} {P : BlockD → Prop} (hf : KeepG f P) : ∀ {ks : List BlockD} {x y : Int} {s s' : GS}, (∀ k ∈ ks, P k) → GOk s → 0 ≤ x → x < s.places → 0 ≤ y → y < s.places → seqF f ks x y s = some s' → GOk s' ∧ s.places ≤ s'.places := by
  intro ks
  induction ks with
  | nil => intro x y s s' _ _ _ _ _ _ h; cases h
  | cons k r ih =>
    intro x y s s' hP h h1 h2 h3 h4 e
    cases r with
    | nil => exact hf k x y s s' (hP k (by simp)) h h1 h2 h3 h4 e
    | cons k2 ks =>
      unfold seqF at e
      replace e := Option.bind_eq_some_iff.1 e
      obtain ⟨s1, e1, e⟩ := e
      replace e := Option.bind_eq_some_iff.1 e
      obtain ⟨s2, e2, e⟩ := e
      have g1 := h.place e1
      obtain ⟨rfl, b⟩ := place_some e1
      have hl := h.lo
      obtain ⟨g2, l2⟩ := hf k x s.places _ s2 (hP k (by simp)) g1 h1 (by simp only []; omega) (by omega) (by simp only []; omega) e2
      simp only [] at l2
      obtain ⟨g3, l3⟩ := ih (fun k hk => hP k (List.mem_cons_of_mem _ hk)) g2 (by omega) (by omega) h3 (by omega) e
      exact ⟨g3, by omega⟩
theorem choice_keep {f : GF} {P : BlockD → Prop} (hf : KeepG f P) : ∀ {ks : List BlockD} {x y : Int} {s s' : GS}, (∀ k ∈ ks, P k) → GOk s → 0 ≤ x → x < s.places → 0 ≤ y → y < s.places → choiceF f ks x y s = some s' → GOk s' ∧ s.places ≤ s'.places := by
  intro ks
  induction ks with
  | nil => intro x y s s' _ h _ _ _ _ e; cases e; exact ⟨h, by omega⟩
  | cons k r ih =>
    intro x y s s' hP h h1 h2 h3 h4 e
    unfold choiceF at e
    replace e := Option.bind_eq_some_iff.1 e
    obtain ⟨s1, e1, e⟩ := e
    obtain ⟨g1, l1⟩ := hf k x y s s1 (hP k (by simp)) h h1 h2 h3 h4 e1
    obtain ⟨g3, l3⟩ := ih (fun k hk => hP k (List.mem_cons_of_mem _ hk)) g1 h1 (by omega) h3 (by omega) e
    exact ⟨g3, by omega⟩
theorem both_keep {f : GF} {P : BlockD → Prop} (hf : KeepG f P) : ∀ {ks : List BlockD} {p : Int} {s s' : GS}, (∀ k ∈ ks, P k) → GOk s → 0 ≤ p → p + 2 * (ks.length : Int) ≤ s.places → bothF f ks p s = some s' → GOk s' ∧ s.places ≤ s'.places := by
  intro ks
  induction ks with
  | nil => intro p s s' _ h _ _ e; cases e; exact ⟨h, by omega⟩
  | cons k r ih =>
    intro p s s' hP h h1 h2 e
    unfold bothF at e
    rw [List.length_cons] at h2
    replace e := Option.bind_eq_some_iff.1 e
    obtain ⟨s1, e1, e⟩ := e
    obtain ⟨g1, l1⟩ := hf k p (p + 1) s s1 (hP k (by simp)) h h1 (by omega) (by omega) (by omega) e1
    obtain ⟨g3, l3⟩ := ih (fun k hk => hP k (List.mem_cons_of_mem _ hk)) g1 (by omega) (by omega) e
    exact ⟨g3, by omega⟩
theorem grow_keep : ∀ (n : Nat), KeepG (growF n) (OkB n) := by
  intro n
  induction n with
  | zero => intro b x y s s' h; exact h.elim
  | succ n ih =>
    intro b x y s s' hb h h1 h2 h3 h4 e
    obtain ⟨k1, k2, k3, k4, k5, k6, k7⟩ := hb
    have hl := h.lo
    unfold growF at e
    split at e
    · have := h.link e (by simp) (PlIn.one h1 h2) (PlIn.one h3 h4)
      obtain ⟨rfl, _⟩ := link_some e
      exact ⟨this, by simp only []; omega⟩
    · split at e
      · rename_i _ hk
        have := h.link e (by have := k3 hk; simp only []; omega) (PlIn.one h1 h2) (PlIn.one h3 h4)
        obtain ⟨rfl, _⟩ := link_some e
        exact ⟨this, by simp only []; omega⟩
      · split at e
        · exact seq_keep ih k7 h h1 h2 h3 h4 e
        · split at e
          · exact choice_keep ih k7 h h1 h2 h3 h4 e
          · split at e
            · obtain ⟨s1, e1, e⟩ := Option.bind_eq_some_iff.1 e
              replace e := Option.bind_eq_some_iff.1 e
              obtain ⟨s2, e2, e⟩ := e
              replace e := Option.bind_eq_some_iff.1 e
              obtain ⟨s3, e3, e⟩ := e
              have g1 := h.places e1
              obtain ⟨rfl, _⟩ := places_some e1
              have g2 := g1.link e2 (by simp) (PlIn.one h1 (by simp only []; omega)) (insL_in (by omega) (by simp only []; omega))
              obtain ⟨rfl, _⟩ := link_some e2
              obtain ⟨g3, l3⟩ := both_keep ih k7 g2 (by omega) (by simp only []; omega) e3
              simp only [] at l3
              have g4 := g3.link e (by simp) (outsL_in (by omega) (by omega)) (PlIn.one h3 (by omega))
              obtain ⟨rfl, _⟩ := link_some e
              exact ⟨g4, by simp only []; omega⟩
            · obtain ⟨s1, e1, e⟩ := Option.bind_eq_some_iff.1 e
              replace e := Option.bind_eq_some_iff.1 e
              obtain ⟨s2, e2, e⟩ := e
              replace e := Option.bind_eq_some_iff.1 e
              obtain ⟨s3, e3, e⟩ := e
              replace e := Option.bind_eq_some_iff.1 e
              obtain ⟨s4, e4, e⟩ := e
              replace e := Option.bind_eq_some_iff.1 e
              obtain ⟨s5, e5, e⟩ := e
              have hk6 : b.kind = 6 := by omega
              have hlen := k6 hk6
              have m0 : OkB n (ix b.kids 0) := k7 _ (ix_mem (by omega))
              have m1 : OkB n (ix b.kids 1) := k7 _ (ix_mem (by omega))
              have g1 := h.place e1
              obtain ⟨rfl, _⟩ := place_some e1
              have g2 := g1.place e2
              obtain ⟨rfl, _⟩ := place_some e2
              have g3 := g2.link e3 (by simp) (PlIn.one h1 (by simp only []; omega)) (PlIn.one (by omega) (by simp only []; omega))
              obtain ⟨rfl, _⟩ := link_some e3
              obtain ⟨g4, l4⟩ := ih _ _ _ _ _ m0 g3 (by omega) (by simp only []; omega) (by omega) (by simp only []; omega) e4
              simp only [] at l4
              obtain ⟨g5, l5⟩ := ih _ _ _ _ _ m1 g4 (by omega) (by omega) (by omega) (by omega) e5
              have g6 := g5.link e (by simp) (PlIn.one (by omega) (by omega)) (PlIn.one h3 (by omega))
              obtain ⟨rfl, _⟩ := link_some e
              exact ⟨g6, by simp only []; omega⟩
/-- what has grown of a right block -/
theorem grow_ok {n : Nat} {b : BlockD} {s : GS} (hb : OkB n b) (h : growF n b 0 1 ⟨2, []⟩ = some s) : GOk s :=
  (grow_keep n b 0 1 ⟨2, []⟩ s hb ⟨by simp, by simp, by simp, by simp, by simp, by simp⟩ (by omega) (by simp) (by omega) (by simp) h).1
end Go.Tok
