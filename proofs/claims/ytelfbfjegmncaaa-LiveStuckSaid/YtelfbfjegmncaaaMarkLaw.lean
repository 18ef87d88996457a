/- Plain laws of the markings' arithmetic. No program is in sight here. -/
import Derived.Test.YtelfbfjegmncaaaCore
namespace Go.Tok

def plusf (x y : Int) : Int × Int := if x + y > 1000000 then (0, 4) else (x + y, 0)
def minusf (x y : Int) : Int × Int := if x < y then (0, 3) else (x - y, 0)

theorem nth_map_range (g : Nat → Int) (n p : Nat) : nth ((List.range n).map g) p = if p < n then g p else 0 := by
  by_cases h : p < n
  · rw [if_pos h, nth_lt (by simpa using h)]; simp
  · rw [if_neg h, nth_ge (by simpa using h)]

theorem ext_nth {xs ys : List Int} (hl : xs.length = ys.length) (h : ∀ p, p < xs.length → nth xs p = nth ys p) : xs = ys := by
  apply List.ext_getElem hl
  intro i h1 h2
  have := h i h1
  rwa [nth_lt h1, nth_lt h2] at this

theorem right_of_nth {xs : List Int} (h : ∀ p, p < xs.length → 0 ≤ nth xs p ∧ nth xs p ≤ 1000000) : rightB xs = true := by
  rw [rightB_iff]
  intro x hx
  obtain ⟨i, hi, rfl⟩ := List.getElem_of_mem hx
  have := h i hi
  rwa [nth_lt hi] at this

/-- what zip makes where each place is well -/
theorem zipF_ok {f : Int → Int → Int × Int} {a b : List Int} (ha : rightB a = true) (hb : rightB b = true) (h0 : (f 0 0).1 = 0) (h : ∀ p, p < max a.length b.length → (f (nth a p) (nth b p)).2 = 0) :
    ∃ L, zipF f a b = (L, 0) ∧ L.length = max a.length b.length ∧ ∀ p, nth L p = (f (nth a p) (nth b p)).1 := by
  refine ⟨(List.range (max a.length b.length)).map fun p => (f (nth a p) (nth b p)).1, ?_, by simp, fun p => ?_⟩
  · have : zipF f a b = zipB f a b := by unfold zipF; simp [ha, hb]
    rw [this]
    exact zipB_good (k := max a.length b.length) (AllOk.intro h) (Nat.le_refl _)
  · rw [nth_map_range]
    split
    · rfl
    · rw [nth_ge (by omega), nth_ge (by omega), h0]

/-- what zip makes where some place is not -/
theorem zipF_bad {f : Int → Int → Int × Int} {a b : List Int} {c : Int} (ha : rightB a = true) (hb : rightB b = true) (hc : ∀ x y, (f x y).2 = 0 ∨ (f x y).2 = c) {p : Nat} (hp : p < max a.length b.length) (h : (f (nth a p) (nth b p)).2 ≠ 0) :
    zipF f a b = ([], c) := by
  have e : zipF f a b = zipB f a b := by unfold zipF; simp [ha, hb]
  rw [e]
  unfold zipB
  have : ∃ q, (List.range (max a.length b.length)).find? (fun p => decide ((f (nth a p) (nth b p)).2 ≠ 0)) = some q := by
    rw [← Option.isSome_iff_exists, List.find?_isSome]
    exact ⟨p, List.mem_range.2 hp, by simp [h]⟩
  obtain ⟨q, hq⟩ := this
  rw [hq]
  have h1 := List.find?_some hq
  simp at h1
  rcases hc (nth a q) (nth b q) with h2 | h2
  · exact absurd h2 h1
  · simp only [h2]

theorem zipF_wrong {f : Int → Int → Int × Int} {a b : List Int} (h : rightB a = false ∨ rightB b = false) : zipF f a b = ([], 2) := by
  unfold zipF
  rcases h with h | h <;> simp [h]

theorem plusf_err (x y : Int) : (plusf x y).2 = 0 ∨ (plusf x y).2 = 4 := by unfold plusf; split <;> simp
theorem minusf_err (x y : Int) : (minusf x y).2 = 0 ∨ (minusf x y).2 = 3 := by unfold minusf; split <;> simp
theorem plusf_ok {x y : Int} (h : x + y ≤ 1000000) : plusf x y = (x + y, 0) := if_neg (by omega)
theorem plusf_bad {x y : Int} (h : 1000000 < x + y) : plusf x y = (0, 4) := if_pos (by omega)
theorem minusf_ok {x y : Int} (h : y ≤ x) : minusf x y = (x - y, 0) := if_neg (by omega)
theorem minusf_bad {x y : Int} (h : x < y) : minusf x y = (0, 3) := if_pos h

theorem plus_ok {a b : List Int} (ha : rightB a = true) (hb : rightB b = true) (h : ∀ p, nth a p + nth b p ≤ 1000000) :
    ∃ L, zipF plusf a b = (L, 0) ∧ L.length = max a.length b.length ∧ (∀ p, nth L p = nth a p + nth b p) ∧ rightB L = true := by
  obtain ⟨L, h1, h2, h3⟩ := zipF_ok (f := plusf) ha hb (by decide) (fun p _ => by rw [plusf_ok (h p)])
  have h4 : ∀ p, nth L p = nth a p + nth b p := fun p => by rw [h3, plusf_ok (h p)]
  refine ⟨L, h1, h2, h4, right_of_nth fun p _ => ?_⟩
  have := rightB_nth ha p
  have := rightB_nth hb p
  have := h p
  rw [h4]; omega
theorem plus_full {a b : List Int} (ha : rightB a = true) (hb : rightB b = true) {p : Nat} (h : 1000000 < nth a p + nth b p) : zipF plusf a b = ([], 4) := by
  have hp : p < max a.length b.length := by
    rcases Nat.lt_or_ge p (max a.length b.length) with h1 | h1
    · exact h1
    · rw [nth_ge (by omega), nth_ge (by omega)] at h; omega
  exact zipF_bad ha hb plusf_err hp (by rw [plusf_bad h]; decide)
theorem minus_ok {a b : List Int} (ha : rightB a = true) (hb : rightB b = true) (h : ∀ p, nth b p ≤ nth a p) :
    ∃ L, zipF minusf a b = (L, 0) ∧ L.length = max a.length b.length ∧ (∀ p, nth L p = nth a p - nth b p) ∧ rightB L = true := by
  obtain ⟨L, h1, h2, h3⟩ := zipF_ok (f := minusf) ha hb (by decide) (fun p _ => by rw [minusf_ok (h p)])
  have h4 : ∀ p, nth L p = nth a p - nth b p := fun p => by rw [h3, minusf_ok (h p)]
  refine ⟨L, h1, h2, h4, right_of_nth fun p _ => ?_⟩
  have := rightB_nth ha p
  have := rightB_nth hb p
  have := h p
  rw [h4]; omega
theorem minus_none {a b : List Int} (ha : rightB a = true) (hb : rightB b = true) {p : Nat} (h : nth a p < nth b p) : zipF minusf a b = ([], 3) := by
  have hp : p < max a.length b.length := by
    rcases Nat.lt_or_ge p (max a.length b.length) with h1 | h1
    · exact h1
    · rw [nth_ge (by omega), nth_ge (by omega)] at h; omega
  exact zipF_bad ha hb minusf_err hp (by rw [minusf_bad h]; decide)

theorem bool_cases (b : Bool) : b = true ∨ b = false := by cases b <;> simp

/-- three ways of a sum -/
theorem plus_cases (a b : List Int) : (zipF plusf a b = ([], 2) ∧ (rightB a = false ∨ rightB b = false)) ∨ (zipF plusf a b = ([], 4) ∧ rightB a = true ∧ rightB b = true ∧ ∃ p, 1000000 < nth a p + nth b p) ∨
    (rightB a = true ∧ rightB b = true ∧ (∀ p, nth a p + nth b p ≤ 1000000) ∧ ∃ L, zipF plusf a b = (L, 0) ∧ L.length = max a.length b.length ∧ (∀ p, nth L p = nth a p + nth b p) ∧ rightB L = true) := by
  rcases bool_cases (rightB a) with ha | ha
  · rcases bool_cases (rightB b) with hb | hb
    · rcases Classical.em (∀ p, nth a p + nth b p ≤ 1000000) with h | h
      · exact .inr (.inr ⟨ha, hb, h, plus_ok ha hb h⟩)
      · obtain ⟨p, hp⟩ := Classical.not_forall.1 h
        exact .inr (.inl ⟨plus_full ha hb (p := p) (by omega), ha, hb, p, by omega⟩)
    · exact .inl ⟨zipF_wrong (.inr hb), .inr hb⟩
  · exact .inl ⟨zipF_wrong (.inl ha), .inl ha⟩
theorem minus_cases (a b : List Int) : (zipF minusf a b = ([], 2) ∧ (rightB a = false ∨ rightB b = false)) ∨ (zipF minusf a b = ([], 3) ∧ rightB a = true ∧ rightB b = true ∧ ∃ p, nth a p < nth b p) ∨
    (rightB a = true ∧ rightB b = true ∧ (∀ p, nth b p ≤ nth a p) ∧ ∃ L, zipF minusf a b = (L, 0) ∧ L.length = max a.length b.length ∧ (∀ p, nth L p = nth a p - nth b p) ∧ rightB L = true) := by
  rcases bool_cases (rightB a) with ha | ha
  · rcases bool_cases (rightB b) with hb | hb
    · rcases Classical.em (∀ p, nth b p ≤ nth a p) with h | h
      · exact .inr (.inr ⟨ha, hb, h, minus_ok ha hb h⟩)
      · obtain ⟨p, hp⟩ := Classical.not_forall.1 h
        exact .inr (.inl ⟨minus_none ha hb (p := p) (by omega), ha, hb, p, by omega⟩)
    · exact .inl ⟨zipF_wrong (.inr hb), .inr hb⟩
  · exact .inl ⟨zipF_wrong (.inl ha), .inl ha⟩

/-- the errors of a sum do not hang on the order -/
theorem sums_bad {a b : List Int} {e : Int} {L : List Int} (h : zipF plusf a b = (L, e)) (he : e ≠ 0) : L = [] ∧ (e = 2 ∨ e = 4) ∧ zipF plusf b a = ([], e) := by
  rcases plus_cases a b with ⟨h1, h2⟩ | ⟨h1, ha, hb, p, hp⟩ | ⟨_, _, _, L', h1, _⟩
  · rw [h1] at h; cases h
    exact ⟨rfl, .inl rfl, zipF_wrong h2.symm⟩
  · rw [h1] at h; cases h
    exact ⟨rfl, .inr rfl, plus_full hb ha (p := p) (by omega)⟩
  · rw [h1] at h; cases h
    exact absurd rfl he

structure SumsGood (a b : List Int) (X Y Z : List Int) : Prop where
  hX : zipF plusf a b = (X, 0)
  hY : zipF plusf b a = (Y, 0)
  hXY : sameB X Y = true
  hZ : zipF minusf X b = (Z, 0)
  hZa : sameB Z a = true
  hc : coversB X a = true
  lX : X.length = max a.length b.length
  lY : Y.length = max a.length b.length
  lZ : Z.length = max a.length b.length

theorem sums_good {a b : List Int} {L : List Int} (h : zipF plusf a b = (L, 0)) : ∃ Y Z, SumsGood a b L Y Z := by
  rcases plus_cases a b with ⟨h1, h2⟩ | ⟨h1, ha, hb, p, hp⟩ | ⟨ha, hb, hs, L', h1, h2, h3, h4⟩
  · rw [h1] at h; cases h
  · rw [h1] at h; cases h
  · rw [h1] at h; cases h
    obtain ⟨Y, y1, y2, y3, y4⟩ := plus_ok hb ha fun p => by have := hs p; omega
    obtain ⟨Z, z1, z2, z3, z4⟩ := minus_ok h4 hb fun p => by rw [h3]; have := rightB_nth ha p; omega
    refine ⟨Y, Z, h1, y1, (sameB_iff _ _).2 fun p => by rw [h3, y3]; omega, z1, (sameB_iff _ _).2 fun p => by rw [z3, h3]; omega, (coversB_iff _ _).2 fun p => ?_, h2, by omega, by omega⟩
    rw [h3]; have := rightB_nth hb p; omega

/-- three together -/
theorem sums_three {a b c X U : List Int} (hX : zipF plusf a b = (X, 0)) (hU : zipF plusf X c = (U, 0)) : ∃ V W, zipF plusf b c = (V, 0) ∧ zipF plusf a V = (W, 0) ∧ sameB U W = true := by
  rcases plus_cases a b with ⟨h1, h2⟩ | ⟨h1, ha, hb, p, hp⟩ | ⟨ha, hb, hs, L', h1, h2, h3, h4⟩
  · rw [h1] at hX; cases hX
  · rw [h1] at hX; cases hX
  · rw [h1] at hX; cases hX
    rcases plus_cases X c with ⟨k1, k2⟩ | ⟨k1, ka, kb, p, hp⟩ | ⟨_, hc, ks, U', k1, k2, k3, k4⟩
    · rw [k1] at hU; cases hU
    · rw [k1] at hU; cases hU
    · rw [k1] at hU; cases hU
      obtain ⟨V, v1, v2, v3, v4⟩ := plus_ok hb hc fun p => by
        have h5 := ks p
        rw [h3] at h5
        have := rightB_nth ha p
        omega
      obtain ⟨W, w1, w2, w3, w4⟩ := plus_ok ha v4 fun p => by
        have h5 := ks p
        rw [h3] at h5
        rw [v3]; omega
      exact ⟨V, W, v1, w1, (sameB_iff _ _).2 fun p => by rw [k3, h3, w3, v3]; omega⟩

theorem zip_len (f : Int → Int → Int × Int) (a b : List Int) : (zipF f a b).1.length ≤ max a.length b.length := by
  unfold zipF
  split
  · unfold zipB; split <;> simp
  · simp
theorem covers_refl (a : List Int) : coversB a a = true := (coversB_iff _ _).2 fun _ => Int.le_refl _
theorem covers_trans {a b c : List Int} (h1 : coversB a b = true) (h2 : coversB b c = true) : coversB a c = true :=
  (coversB_iff _ _).2 fun p => Int.le_trans ((coversB_iff _ _).1 h2 p) ((coversB_iff _ _).1 h1 p)
theorem same_covers (a b : List Int) : sameB a b = (coversB a b && coversB b a) := by unfold sameB; rfl
/-- what is left, and put back -/
theorem minus_plus {a b : List Int} (ha : rightB a = true) (hb : rightB b = true) (h : coversB a b = true) : ∃ L Y, zipF minusf a b = (L, 0) ∧ zipF plusf L b = (Y, 0) ∧ sameB Y a = true ∧ L.length = max a.length b.length := by
  obtain ⟨L, l1, l2, l3, l4⟩ := minus_ok ha hb ((coversB_iff _ _).1 h)
  obtain ⟨Y, y1, y2, y3, y4⟩ := plus_ok l4 hb fun p => by rw [l3]; have := rightB_nth ha p; omega
  exact ⟨L, Y, l1, y1, (sameB_iff _ _).2 fun p => by rw [y3, l3]; omega, l2⟩
theorem minus_not {a b : List Int} (ha : rightB a = true) (hb : rightB b = true) (h : coversB a b = false) : zipF minusf a b = ([], 3) := by
  rcases minus_cases a b with ⟨_, h2 | h2⟩ | ⟨h1, _⟩ | ⟨_, _, h3, _⟩
  · rw [ha] at h2; cases h2
  · rw [hb] at h2; cases h2
  · exact h1
  · rw [(coversB_iff _ _).2 h3] at h; cases h
attribute [irreducible] plusf minusf
end Go.Tok
