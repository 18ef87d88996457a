/- Plain laws of alignments: what costs nothing is a word; the small net's alignments. -/
import Derived.Test.YtkanaoebpajbfaaAl4
namespace Go.Tok
open Go.RowKit Go.Proofs.Ytkanaoebpajbfaa
set_option linter.unusedVariables false
theorem hasErr_ne3 (N : NetD) (i o : Int) : hasErr N i o ≠ 3 := by
  unfold hasErr
  by_cases h : shapeC N i o ≠ 0
  · rw [if_pos h]
    unfold shapeC
    split
    · split
      · decide
      · split
        · decide
        · split <;> decide
    · decide
  · rw [if_neg h]
    unfold graphF
    have := search_bad (N := N) (m := oneN (startLen N) i) (most := 300)
    split
    · show (0 : Int) ≠ 3; decide
    · rcases this with h1 | ⟨h1, _⟩ | ⟨h1, _⟩
      · rename_i h2; exact absurd h1 h2
      · rw [h1]; decide
      · rw [h1]; decide
section
variable {lab : List Int} {arcs : List ArcD} {tr : List Int}
theorem pth_way0 (hl : ∀ t, 0 ≤ nth lab t) {l : List MoveD} {u : SpotD} {c : Nat} (h : Pth lab arcs tr spot0 l u c) : c = 0 → Way lab arcs 0 (tr.take u.seen) u.mark := by
  induction h with
  | nil => intro _; exact Way.here
  | snoc h h1 ih =>
    intro hc
    replace ih := ih (by omega)
    cases h1 with
    | skip hk => omega
    | net ha =>
      rename_i k m t m'
      refine Way.quiet ih ha ?_
      have h0 := hl t
      unfold one1 at hc
      split at hc <;> omega
    | both ha hp hk he =>
      rename_i k m t m'
      have e : tr.take (k + 1) = tr.take k ++ [nth lab t] := by rw [List.take_succ_eq_append_getElem hk, ← he, nth_lt hk]
      show Way lab arcs 0 (tr.take (k + 1)) m'
      rw [e]
      exact Way.heard ih ha hp
theorem way_pth {u : List Int} {k : Nat} (h : Way lab arcs 0 u k) : ∀ s, tr = u ++ s → ∃ l, Pth lab arcs tr spot0 l ⟨u.length, k⟩ 0 := by
  induction h with
  | here => intro s _; exact ⟨[], .nil⟩
  | quiet h ha hl ih =>
    rename_i w j t k
    intro s hs
    obtain ⟨l, hp⟩ := ih s hs
    have hm := Mv.net (tr := tr) (lab := lab) (k := w.length) ha
    have := Pth.snoc hp hm
    rw [hl] at this
    exact ⟨_, this⟩
  | heard h ha hl ih =>
    rename_i w j t k
    intro s hs
    have hs' : tr = w ++ (nth lab t :: s) := by rw [hs]; simp
    obtain ⟨l, hp⟩ := ih _ hs'
    have hk : w.length < tr.length := by rw [hs']; simp
    have hm := Mv.both (tr := tr) (lab := lab) (k := w.length) ha hl hk (by rw [nth_lt hk]; simp [hs'])
    have := Pth.snoc hp hm
    rw [List.length_append]
    exact ⟨_, this⟩
end
theorem labN_pos {N : NetD} {i o : Int} (hs : shapeC N i o = 0) (t : Nat) : 0 ≤ nth (labN N) t := by
  by_cases ht : t < N.trans.length
  · obtain ⟨_, _, _, _, hO⟩ := shape_ok hs
    rw [labN_nth ht]
    exact (netOk_tr hO.ok ht).lab0
  · have : (labN N).length ≤ t := by rw [labN_len]; omega
    unfold nth
    simp [this]
theorem has_way {N : NetD} {i o : Int} {A : SpaceD} {u : List Int} {b : Bool} (h0 : hasErr N i o = 0) (hs : shapeC N i o = 0) (hg : graphF N (oneN (startLen N) i) 300 = (A, 0)) (hb : HasMeans N i o u b) : b = true ↔ ∃ k, Way (labN N) A.arcs 0 u k ∧ ix A.marks k = oneN (startLen N) o := by
  classical
  have H := (hasOk_mk h0 hs hg).mean u (decide (∃ k, Way (labN N) A.arcs 0 u k ∧ ix A.marks k = oneN (startLen N) o)) (by simp)
  obtain ⟨a, c, s, hi, ho, _, _, h1⟩ := H.2 h0
  obtain ⟨a', c', s', hi', ho', _, _, h2⟩ := hb.2 h0
  have e1 : a = a' := by omega
  have e2 : c = c' := by omega
  subst e1; subst e2
  rw [h2, ← h1]
  simp
theorem fits_said {N : NetD} {i o : Int} {tr : List Int} {l : List MoveD} {c : Nat} {code : Int} {b : Bool} (hA : AlMeans N i o tr l c code) (hb : HasMeans N i o tr b) :
    (code ≠ 0 → code ≠ 3 ∨ (hasErr N i o = 0 ∧ b = false)) ∧ (code = 0 → hasErr N i o = 0 ∧ (b = true ↔ c = 0)) := by
  by_cases h0 : hasErr N i o = 0
  · by_cases hl : 60 < tr.length
    · have := hA.2.2.1 h0 hl
      exact ⟨fun _ => .inl (by omega), fun e => by omega⟩
    · obtain ⟨A, hs, hg, h⟩ := hA.2.2.2 h0 (by omega)
      have hw := has_way h0 hs hg hb
      have hK := hasOk_mk h0 hs hg
      rcases h with ⟨hc, k, hk, he, hp, hm⟩ | ⟨hc, hn⟩
      · refine ⟨fun e => absurd hc e, fun _ => ⟨h0, ?_, fun hz => ?_⟩⟩
        · intro hbt
          obtain ⟨k', hw', he'⟩ := hw.1 hbt
          have hk' := way_lt hK.arcs hK.n0 hw'
          have : k' = k := marks_one hg hk' hk (he'.trans he.symm)
          subst this
          obtain ⟨l', hp'⟩ := way_pth (tr := tr) hw' [] (by simp)
          have := hm l' 0 hp'
          omega
        · refine hw.2 ⟨k, ?_, he⟩
          have := pth_way0 (labN_pos hs) hp hz
          rw [List.take_of_length_le (Nat.le_refl _)] at this
          exact this
      · refine ⟨fun _ => .inr ⟨h0, ?_⟩, fun e => by omega⟩
        cases hbb : b with
        | false => rfl
        | true =>
          obtain ⟨k', hw', he'⟩ := hw.1 hbb
          have hk' := way_lt hK.arcs hK.n0 hw'
          obtain ⟨l', hp'⟩ := way_pth (tr := tr) hw' [] (by simp)
          exact absurd hp' (hn k' hk' he' l' 0)
  · have hc := hA.2.1 h0
    exact ⟨fun _ => .inl (by rw [hc]; exact hasErr_ne3 N i o), fun e => absurd (hc.symm.trans e) h0⟩
/-! the small net -/
abbrev net21 : NetD := ⟨3, [⟨1, [1, 0, 0], [0, 1, 0]⟩, ⟨2, [0, 1, 0], [0, 0, 1]⟩]⟩
abbrev arcs21 : List ArcD := [⟨0, 0, 1⟩, ⟨1, 1, 2⟩]
theorem marks21 : (graphF net21 (oneN (startLen net21) 0) 300).1.marks = [[1, 0, 0], [0, 1, 0], [0, 0, 1]] := by decide +kernel
theorem garcs21 : (graphF net21 (oneN (startLen net21) 0) 300).1.arcs = arcs21 := by decide +kernel
theorem err21 : hasErr net21 0 2 = 0 := by decide +kernel
theorem goal21 {k : Nat} (hk : k < 3) (h : ix [[1, 0, 0], [0, 1, 0], [0, 0, 1]] k = oneN (startLen net21) 2) : k = 2 := by
  rcases k with _ | _ | _ | k
  · exact absurd h (by decide +kernel)
  · exact absurd h (by decide +kernel)
  · rfl
  · omega
theorem mem21 {m t m' : Nat} (h : (⟨(m : Int), (t : Int), (m' : Int)⟩ : ArcD) ∈ arcs21) : (m = 0 ∧ t = 0 ∧ m' = 1) ∨ (m = 1 ∧ t = 1 ∧ m' = 2) := by
  simp only [arcs21, List.mem_cons, List.not_mem_nil, or_false, ArcD.mk.injEq] at h
  omega
theorem sum21 {tr : List Int} {l : List MoveD} {u : SpotD} {c : Nat} (h : Pth [1, 2] arcs21 tr spot0 l u c) : 2 * l.length = u.seen + u.mark + c := by
  induction h with
  | nil => rfl
  | snoc h h1 ih =>
    rw [List.length_append, List.length_singleton]
    cases h1 with
    | skip hk => simp only [] at ih ⊢; omega
    | net ha =>
      simp only [] at ih ⊢
      rcases mem21 ha with ⟨rfl, rfl, rfl⟩ | ⟨rfl, rfl, rfl⟩
      · have : one1 (nth [1, 2] 0) = 1 := by decide +kernel
        omega
      · have : one1 (nth [1, 2] 1) = 1 := by decide +kernel
        omega
    | both ha hp hk he =>
      simp only [] at ih ⊢
      rcases mem21 ha with ⟨rfl, rfl, rfl⟩ | ⟨rfl, rfl, rfl⟩ <;> omega
theorem one21 {l : List MoveD} {u : SpotD} {c : Nat} (h : Pth [1, 2] arcs21 [2, 5] spot0 l u c) : 2 ≤ u.seen → 1 ≤ c := by
  induction h with
  | nil => intro h; simp [spot0] at h
  | snoc h h1 ih =>
    cases h1 with
    | skip hk => intro _; omega
    | net ha => intro h2; have := ih h2; omega
    | both ha hp hk he =>
      rename_i k m t m'
      intro h2
      simp only [] at h2
      have hk1 : k = 1 := by simp at hk; omega
      subst hk1
      rcases mem21 ha with ⟨rfl, rfl, rfl⟩ | ⟨rfl, rfl, rfl⟩ <;> exact absurd he (by decide +kernel)
theorem al21a {l : List MoveD} {c : Nat} {code : Int} (h : AlMeans net21 0 2 [2, 5] l c code) : code = 0 ∧ c = 2 ∧ l.length = 3 := by
  obtain ⟨A, hs, hg, h⟩ := h.2.2.2 err21 (by decide)
  have hm := marks21
  have ha := garcs21
  rw [hg] at hm ha
  simp only [] at hm ha
  have hw : ∃ l, Pth [1, 2] arcs21 [2, 5] spot0 l ⟨2, 2⟩ 2 := by
    obtain ⟨_, m1⟩ : ∃ mv, Mv [1, 2] arcs21 [2, 5] ⟨0, 0⟩ mv ⟨0, 1⟩ 1 := by
      have h := Mv.net (lab := [1, 2]) (arcs := arcs21) (tr := [2, 5]) (k := 0) (m := 0) (t := 0) (m' := 1) (by simp)
      have e : one1 (nth [1, 2] 0) = 1 := by decide +kernel
      rw [e] at h
      exact ⟨_, h⟩
    obtain ⟨_, m2⟩ : ∃ mv, Mv [1, 2] arcs21 [2, 5] ⟨0, 1⟩ mv ⟨1, 2⟩ 0 := ⟨_, Mv.both (lab := [1, 2]) (arcs := arcs21) (tr := [2, 5]) (k := 0) (m := 1) (t := 1) (m' := 2) (by simp) (by decide +kernel) (by decide) (by decide +kernel)⟩
    obtain ⟨_, m3⟩ : ∃ mv, Mv [1, 2] arcs21 [2, 5] ⟨1, 2⟩ mv ⟨2, 2⟩ 1 := ⟨_, Mv.skip (lab := [1, 2]) (arcs := arcs21) (tr := [2, 5]) (k := 1) (m := 2) (by decide)⟩
    exact ⟨_, Pth.snoc (Pth.snoc (Pth.snoc .nil m1) m2) m3⟩
  have hL : labN net21 = [1, 2] := rfl
  rw [hm, ha, hL] at h
  rcases h with ⟨hc, k, hk, he, hp, hl⟩ | ⟨hc, hn⟩
  · obtain rfl := goal21 hk he
    obtain ⟨l', hp'⟩ := hw
    have h1 := hl l' 2 hp'
    have h2 := sum21 hp
    have h3 := one21 hp (by simp)
    simp only [List.length_cons, List.length_nil] at h2
    exact ⟨hc, by omega, by omega⟩
  · obtain ⟨l', hp'⟩ := hw
    exact absurd hp' (hn 2 (by decide) (by decide +kernel) l' 2)
theorem al21b {l : List MoveD} {c : Nat} {code : Int} (h : AlMeans net21 0 2 [1, 2] l c code) : code = 0 ∧ c = 0 := by
  obtain ⟨A, hs, hg, h⟩ := h.2.2.2 err21 (by decide)
  have hm := marks21
  have ha := garcs21
  rw [hg] at hm ha
  simp only [] at hm ha
  have hw : ∃ l, Pth [1, 2] arcs21 [1, 2] spot0 l ⟨2, 2⟩ 0 := by
    obtain ⟨_, m1⟩ : ∃ mv, Mv [1, 2] arcs21 [1, 2] ⟨0, 0⟩ mv ⟨1, 1⟩ 0 := ⟨_, Mv.both (lab := [1, 2]) (arcs := arcs21) (tr := [1, 2]) (k := 0) (m := 0) (t := 0) (m' := 1) (by simp) (by decide +kernel) (by decide) (by decide +kernel)⟩
    obtain ⟨_, m2⟩ : ∃ mv, Mv [1, 2] arcs21 [1, 2] ⟨1, 1⟩ mv ⟨2, 2⟩ 0 := ⟨_, Mv.both (lab := [1, 2]) (arcs := arcs21) (tr := [1, 2]) (k := 1) (m := 1) (t := 1) (m' := 2) (by simp) (by decide +kernel) (by decide) (by decide +kernel)⟩
    exact ⟨_, Pth.snoc (Pth.snoc .nil m1) m2⟩
  have hL : labN net21 = [1, 2] := rfl
  rw [hm, ha, hL] at h
  rcases h with ⟨hc, k, hk, he, hp, hl⟩ | ⟨hc, hn⟩
  · obtain rfl := goal21 hk he
    obtain ⟨l', hp'⟩ := hw
    have h1 := hl l' 0 hp'
    exact ⟨hc, by omega⟩
  · obtain ⟨l', hp'⟩ := hw
    exact absurd hp' (hn 2 (by decide) (by decide +kernel) l' 0)
end Go.Tok
