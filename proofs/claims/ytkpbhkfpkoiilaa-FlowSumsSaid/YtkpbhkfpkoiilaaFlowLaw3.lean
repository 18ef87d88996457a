/- Plain laws of effects: the state equation, sums, the net that is turned. No program is in sight here. -/
import Derived.Test.YtkpbhkfpkoiilaaFlowLaw2
import Derived.Test.YtkpbhkfpkoiilaaNetOwn
namespace Go.Tok
set_option linter.unusedVariables false

theorem effectF_of {N : NetD} {c x : List Int} (h : effectF N c = (x, 0)) : effectB N c = true ∧ x = effectL N c := by
  cases hb : effectB N c
  · rw [effectF_no hb] at h; cases h
  · rw [effectF_yes hb] at h; cases h; exact ⟨rfl, rfl⟩
theorem effectF_bad {N : NetD} {c x : List Int} {e : Int} (h : effectF N c = (x, e)) (he : e ≠ 0) : x = [] ∧ e = 2 := by
  cases hb : effectB N c
  · rw [effectF_no hb] at h; cases h; exact ⟨rfl, rfl⟩
  · rw [effectF_yes hb] at h; cases h; exact absurd rfl he

structure FlowEq (N : NetD) (m s x d : List Int) : Prop where
  eff : effectF N (countL N.trans.length s) = (d, 0)
  ld : d.length = x.length
  lm : m.length = x.length
  l16 : x.length ≤ 16
  eq : ∀ p, p < x.length → nth m p + nth d p = nth x p
theorem flow_equation {N : NetD} {m s x : List Int} (h : runF N m s = (x, 0)) (hs : s.length ≤ 100000) : ∃ d, FlowEq N m s x d := by
  obtain ⟨hf, hr⟩ := runF_of h
  have hx := hr.fits hf
  have hb : effectB N (countL N.trans.length s) = true := effectB_mk (fits_ok hf) (countL_bounded _ hs)
  have he := runs_equation hr
  have l1 := fits_len hx
  have l2 := fits_len hf
  have l3 := effectL_len (N := N) (countL N.trans.length s) (fits_ok hf)
  have l4 := fits_sizes hx
  refine ⟨_, effectF_yes hb, by omega, by omega, by omega, fun p hp => ?_⟩
  rw [effectL_nth _ (by omega), he p]

/-- place by place together -/
def addL (a b : List Int) (k : Nat) : List Int := (List.range k).map fun i => nth a i + nth b i
theorem addL_zero (a b : List Int) : addL a b 0 = [] := rfl
theorem addL_succ (a b : List Int) (k : Nat) : addL a b (k + 1) = addL a b k ++ [nth a k + nth b k] := by simp [addL, List.range_succ]
theorem addL_len (a b : List Int) (k : Nat) : (addL a b k).length = k := by simp [addL]
theorem addL_nth (a b : List Int) {k i : Nat} (h : i < k) : nth (addL a b k) i = nth a i + nth b i := by
  rw [nth_lt (by rw [addL_len]; exact h)]; simp [addL]
theorem effTo_add (N : NetD) (a b : List Int) (p : Nat) {n : Nat} : ∀ k, k ≤ n → effTo N (addL a b n) p k = effTo N a p k + effTo N b p k := by
  intro k
  induction k with
  | zero => intro _; rw [effTo_zero, effTo_zero, effTo_zero]; rfl
  | succ k ih =>
    intro hk
    rw [effTo_succ, effTo_succ, effTo_succ, ih (by omega), addL_nth a b (by omega), Int.add_mul]; omega
theorem effTo_turn (N : NetD) (a : List Int) (p : Nat) : ∀ k, k ≤ N.trans.length → effTo (turnN N) a p k = - effTo N a p k := by
  intro k
  induction k with
  | zero => intro _; rw [effTo_zero, effTo_zero]; rfl
  | succ k ih =>
    intro hk
    rw [effTo_succ, effTo_succ, ih (by omega), turnN_tr N (by omega)]
    have : chgT (turnT (N.tr k)) p = - chgT (N.tr k) p := by
      rw [chgT_def, chgT_def, turnT_pre, turnT_post]; omega
    rw [this, Int.mul_neg]; omega

structure FlowSum (N : NetD) (a b x y w : List Int) : Prop where
  lab : a.length = b.length
  l24 : a.length ≤ 24
  ra : ∀ i, 0 ≤ nth a i ∧ nth a i ≤ 1000000
  rb : ∀ i, 0 ≤ nth b i ∧ nth b i ≤ 1000000
  lx : x.length ≤ 16
  ly : y.length = x.length
  rx : ∀ p, -216000000 ≤ nth x p ∧ nth x p ≤ 216000000
  ry : ∀ p, -216000000 ≤ nth y p ∧ nth y p ≤ 216000000
  ht : effectF (turnN N) a = (w, 0)
  lw : w.length = x.length
  ew : ∀ p, p < x.length → nth w p = - nth x p
theorem flow_turn {N : NetD} {a b x y : List Int} (ha : effectF N a = (x, 0)) (hb : effectF N b = (y, 0)) : ∃ w, FlowSum N a b x y w := by
  obtain ⟨ea, rfl⟩ := effectF_of ha
  obtain ⟨eb, rfl⟩ := effectF_of hb
  obtain ⟨h1, h2⟩ := effectB_of ea
  obtain ⟨_, h3⟩ := effectB_of eb
  have s := netOk_sizes h1
  have l1 := effectL_len (N := N) a h1
  have l2 := effectL_len (N := N) b h1
  have c1 := (boundedB_of h2).1
  have c2 := (boundedB_of h3).1
  have et : effectB (turnN N) a = true := effectB_mk (netOk_turn h1) (by rw [turnN_len]; exact h2)
  have l3 := effectL_len (N := turnN N) a (netOk_turn h1)
  rw [turnN_places] at l3
  have r : ∀ c, effectB N c = true → ∀ p, -216000000 ≤ nth (effectL N c) p ∧ nth (effectL N c) p ≤ 216000000 := by
    intro c hc p
    have l := effectL_len (N := N) c h1
    by_cases hp : p < N.places.toNat
    · rw [effectL_nth _ hp]
      have := effTo_le hc p _ (Nat.le_refl _)
      omega
    · rw [nth_ge (by omega)]; omega
  refine ⟨effectL (turnN N) a, by omega, by omega, boundedB_nth h2 (by omega), boundedB_nth h3 (by omega), by omega, by omega, r a ea, r b eb, effectF_yes et, by omega, fun p hp => ?_⟩
  rw [effectL_nth _ (by rw [turnN_places]; omega), effectL_nth _ (by omega), turnN_len, effTo_turn N a p _ (Nat.le_refl _)]
theorem flow_sums {N : NetD} {a b x y z : List Int} {g : Int} (ha : effectF N a = (x, 0)) (hb : effectF N b = (y, 0)) (hc : effectF N (addL a b a.length) = (z, g)) : g ≠ 0 ∨ (g = 0 ∧ z.length = x.length ∧ ∀ p, p < x.length → nth x p + nth y p = nth z p) := by
  by_cases hg : g = 0
  · subst hg
    refine .inr ⟨rfl, ?_⟩
    obtain ⟨ea, rfl⟩ := effectF_of ha
    obtain ⟨eb, rfl⟩ := effectF_of hb
    obtain ⟨ec, rfl⟩ := effectF_of hc
    obtain ⟨h1, h2⟩ := effectB_of ea
    have c1 := (boundedB_of h2).1
    have l1 := effectL_len (N := N) a h1
    have l3 := effectL_len (N := N) (addL a b a.length) h1
    refine ⟨by omega, fun p hp => ?_⟩
    rw [effectL_nth _ (by omega), effectL_nth _ (by omega), effectL_nth _ (by omega), effTo_add N a b p _ (by omega)]
  · exact .inl hg
attribute [irreducible] addL
end Go.Tok
