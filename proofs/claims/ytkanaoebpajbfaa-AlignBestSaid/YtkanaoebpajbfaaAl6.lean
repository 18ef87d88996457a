/- Plain laws of alignments: the empty trace; one label more. -/
import Derived.Test.YtkanaoebpajbfaaAl5
import Derived.Test.YtkanaoebpajbfaaTong7
import Derived.Test.YtkanaoebpajbfaaShortLaw
namespace Go.Tok
open Go.RowKit Go.Proofs.Ytkanaoebpajbfaa
set_option linter.unusedVariables false
def AccA (N : NetD) (o : Int) (A : SpaceD) (u : List Int) : Prop := ∃ q, Way (labN N) A.arcs 0 u q ∧ ix A.marks q = oneN (startLen N) o
theorem say_okA {N : NetD} {i o most : Int} {A : SpaceD} (hK : HasOk N i o A) (hs : shapeC N i o = 0) : SayOk (sayN N o most A) A.marks.length := by
  obtain ⟨_, _, _, _, hO⟩ := shape_ok hs
  refine ⟨hK.n0, hK.arcs, fun t ht => ?_, endsN_len N o A, rfl, fun t ht => ?_⟩
  · have ht' : t < N.trans.length := by rw [← labN_len]; exact ht
    show 0 ≤ nth (labN N) t
    rw [labN_nth ht']
    exact (netOk_tr hO.ok ht').lab0
  · refine mem_compact (mem_sortI.2 ?_)
    rw [nth_lt ht]
    exact List.getElem_mem _
theorem acc_iffA {N : NetD} {i o : Int} {A : SpaceD} (hK : HasOk N i o A) (u : List Int) : AccW (labN N) A.arcs (endsN N o A) u ↔ AccA N o A u := by
  constructor
  · rintro ⟨k, h1, h2, h3⟩
    rw [endsN_len] at h2
    unfold endsN at h3
    rw [ix_mapB h2] at h3
    exact ⟨k, h1, (eqB_iff _ _).1 h3⟩
  · rintro ⟨k, h1, h2⟩
    have hk := way_lt hK.arcs hK.n0 h1
    refine ⟨k, h1, by rw [endsN_len]; exact hk, ?_⟩
    unfold endsN
    rw [ix_mapB hk]
    exact (eqB_iff _ _).2 h2
theorem least_says {N : NetD} {i o k e : Int} (hL : LeastIs N i o k e) : (hasErr N i o ≠ 0 ∧ e = hasErr N i o) ∨
    (hasErr N i o = 0 ∧ ∃ A, shapeC N i o = 0 ∧ graphF N (oneN (startLen N) i) 300 = (A, 0) ∧ ((e = 3 ∧ ∀ u, ¬ AccA N o A u) ∨ (e = 0 ∧ (∀ u, AccA N o A u → k ≤ u.length) ∧ ∃ r, AccA N o A r ∧ (r.length : Int) = k))) := by
  rcases hL with ⟨h1, _, h3⟩ | ⟨h0, A, hK, hs, hg, hL⟩
  · exact .inl ⟨h1, h3⟩
  right
  refine ⟨h0, A, hs, hg, ?_⟩
  have hS0 := say_okA (most := 0) hK hs
  have hF := firstF_behind (lab := labN N) hK.arcs hK.n0
  rcases hL with ⟨h1, _, h3⟩ | ⟨h1, h2, h3⟩
  · refine .inl ⟨h3, fun u hu => ?_⟩
    obtain ⟨q, hq, hq1, hq2⟩ := (acc_iffA hK u).2 hu
    have := (hS0.hope_up (w := []) (r := u) hF (by rw [List.nil_append]; exact hq) hq1 hq2).1
    unfold leastN firstN at h1
    omega
  · refine .inr ⟨h3, fun u hu => ?_, ?_⟩
    · obtain ⟨q, hq, hq1, hq2⟩ := (acc_iffA hK u).2 hu
      have := (hS0.hope_up (w := []) (r := u) hF (by rw [List.nil_append]; exact hq) hq1 hq2).2
      rw [h2]; exact this
    · obtain ⟨r, hr1, hr2⟩ := hS0.hope_ex (w := []) hF h1
      rw [List.nil_append] at hr1
      exact ⟨r, (acc_iffA hK r).1 hr1, by rw [h2]; exact hr2⟩
section
variable {lab : List Int} {arcs : List ArcD} {tr : List Int}
theorem pth_nil_way (hl : ∀ t, 0 ≤ nth lab t) {l : List MoveD} {u : SpotD} {c : Nat} (h : Pth lab arcs [] spot0 l u c) : ∃ w, Way lab arcs 0 w u.mark ∧ w.length = c := by
  induction h with
  | nil => exact ⟨[], .here, rfl⟩
  | snoc h h1 ih =>
    obtain ⟨w, hw, hc⟩ := ih
    cases h1 with
    | skip hk => simp at hk
    | net ha =>
      rename_i k m t m'
      by_cases h0 : 0 < nth lab t
      · exact ⟨w ++ [nth lab t], .heard hw ha h0, by unfold one1; rw [if_pos h0, List.length_append]; simp; omega⟩
      · have := hl t
        exact ⟨w, .quiet hw ha (by omega), by unfold one1; rw [if_neg h0]; omega⟩
    | both ha hp hk he => simp at hk
theorem way_pth_nil {w : List Int} {k : Nat} (h : Way lab arcs 0 w k) : ∃ l, Pth lab arcs [] spot0 l ⟨0, k⟩ w.length := by
  induction h with
  | here => exact ⟨[], .nil⟩
  | quiet h ha hl ih =>
    obtain ⟨l, hp⟩ := ih
    have := Pth.snoc hp (Mv.net (tr := []) (lab := lab) (k := 0) ha)
    rw [hl] at this
    exact ⟨_, this⟩
  | heard h ha hl ih =>
    rename_i w j t k
    obtain ⟨l, hp⟩ := ih
    have := Pth.snoc hp (Mv.net (tr := []) (lab := lab) (k := 0) ha)
    have e : one1 (nth lab t) = 1 := by unfold one1; rw [if_pos hl]
    rw [e] at this
    rw [List.length_append, List.length_singleton]
    exact ⟨_, this⟩
theorem nth_more {k : Nat} (a : Int) (h : k < tr.length) : nth (tr ++ [a]) k = nth tr k := by
  rw [nth_lt (by simp; omega), nth_lt h, List.getElem_append_left h]
theorem pth_more (a : Int) {s u : SpotD} {l : List MoveD} {c : Nat} (h : Pth lab arcs tr s l u c) : Pth lab arcs (tr ++ [a]) s l u c := by
  induction h with
  | nil => exact .nil
  | snoc h h1 ih =>
    refine .snoc ih ?_
    cases h1 with
    | skip hk => rw [← nth_more a hk]; exact .skip (by simp; omega)
    | net ha => exact .net ha
    | both ha hp hk he => exact .both ha hp (by simp; omega) (by rw [nth_more a hk]; exact he)
theorem pth_less {a : Int} {l : List MoveD} {u : SpotD} {c : Nat} (h : Pth lab arcs (tr ++ [a]) spot0 l u c) :
    (u.seen ≤ tr.length → ∃ l', Pth lab arcs tr spot0 l' u c) ∧ (tr.length < u.seen → ∃ l' c', Pth lab arcs tr spot0 l' ⟨tr.length, u.mark⟩ c' ∧ c' ≤ c + 1) := by
  induction h with
  | nil => exact ⟨fun _ => ⟨[], .nil⟩, fun h => by simp [spot0] at h⟩
  | snoc h h1 ih =>
    obtain ⟨i1, i2⟩ := ih
    cases h1 with
    | skip hk =>
      rename_i k m
      simp only [List.length_append, List.length_singleton] at hk
      simp only [] at i1 i2 ⊢
      by_cases hkt : k < tr.length
      · obtain ⟨l', hp⟩ := i1 (by omega)
        exact ⟨fun _ => ⟨_, .snoc hp (.skip hkt)⟩, fun h => by omega⟩
      · have e : k = tr.length := by omega
        subst e
        obtain ⟨l', hp⟩ := i1 (Nat.le_refl _)
        exact ⟨fun h => by omega, fun _ => ⟨l', _, hp, by omega⟩⟩
    | net ha =>
      rename_i k m t m'
      simp only [] at i1 i2 ⊢
      refine ⟨fun h => ?_, fun h => ?_⟩
      · obtain ⟨l', hp⟩ := i1 h
        exact ⟨_, .snoc hp (.net ha)⟩
      · obtain ⟨l', c', hp, hc⟩ := i2 h
        exact ⟨_, _, .snoc hp (.net ha), by omega⟩
    | both ha hp0 hk he =>
      rename_i k m t m'
      simp only [List.length_append, List.length_singleton] at hk
      simp only [] at i1 i2 ⊢
      by_cases hkt : k < tr.length
      · obtain ⟨l', hp⟩ := i1 (by omega)
        exact ⟨fun _ => ⟨_, .snoc hp (.both ha hp0 hkt (by rw [nth_more a hkt] at he; exact he))⟩, fun h => by omega⟩
      · have e : k = tr.length := by omega
        subst e
        obtain ⟨l', hp⟩ := i1 (Nat.le_refl _)
        exact ⟨fun h => by omega, fun _ => ⟨_, _, .snoc hp (.net ha), by have := one1_le (nth lab t); omega⟩⟩
end
theorem AlMeans.err {N : NetD} {i o : Int} {tr : List Int} {l : List MoveD} {c : Nat} (h : AlMeans N i o tr l c 0) : hasErr N i o = 0 ∧ tr.length ≤ 60 := by
  have h0 : hasErr N i o = 0 := by
    apply Classical.byContradiction
    intro hne
    exact hne (h.2.1 hne).symm
  refine ⟨h0, ?_⟩
  apply Classical.byContradiction
  intro hl
  have := h.2.2.1 h0 (by omega)
  omega
theorem more_law {N : NetD} {i o a : Int} {tr : List Int} {l l' : List MoveD} {c c' : Nat} (h1 : AlMeans N i o tr l c 0) (h2 : AlMeans N i o (tr ++ [a]) l' c' 0) : c' ≤ c + 1 ∧ c ≤ c' + 1 := by
  obtain ⟨h0, hl1⟩ := h1.err
  obtain ⟨_, hl2⟩ := h2.err
  obtain ⟨A, hs, hg, h⟩ := h1.2.2.2 h0 hl1
  obtain ⟨A', _, hg', h'⟩ := h2.2.2.2 h0 hl2
  rw [hg] at hg'
  obtain rfl : A = A' := by cases hg'; rfl
  rcases h with ⟨_, k, hk, he, hp, hm⟩ | ⟨hc, _⟩
  · rcases h' with ⟨_, k', hk', he', hp', hm'⟩ | ⟨hc, _⟩
    · have e : k' = k := marks_one hg hk' hk (he'.trans he.symm)
      subst e
      have e2 : (tr ++ [a]).length = tr.length + 1 := by simp
      rw [e2] at hp' hm'
      refine ⟨?_, ?_⟩
      · exact hm' _ _ (Pth.snoc (pth_more a hp) (Mv.skip (by simp)))
      · obtain ⟨l2, c2, hq, hle⟩ := (pth_less hp').2 (by simp)
        have := hm _ _ hq
        omega
    · exact absurd hc (by decide)
  · exact absurd hc (by decide)
theorem none_law {N : NetD} {i o k e x : Int} {l : List MoveD} {c : Nat} (hA : AlMeans N i o [] l c x) (hL : LeastIs N i o k e) : x = e ∧ (x = 0 → (c : Int) = k) := by
  rcases least_says hL with ⟨h0, he⟩ | ⟨h0, A, hs, hg, h⟩
  · have := hA.2.1 h0
    exact ⟨by omega, fun e => by omega⟩
  · obtain ⟨A', _, hg', h'⟩ := hA.2.2.2 h0 (by simp)
    rw [hg] at hg'
    obtain rfl : A = A' := by cases hg'; rfl
    have hK := hasOk_mk h0 hs hg
    rcases h' with ⟨hx, q, hq, hqe, hp, hm⟩ | ⟨hx, hn⟩
    · obtain ⟨w, hw, hwl⟩ := pth_nil_way (labN_pos hs) hp
      rcases h with ⟨_, hno⟩ | ⟨he, hall, r, ⟨q', hr, hre⟩, hrl⟩
      · exact absurd ⟨q, hw, hqe⟩ (hno w)
      · refine ⟨by omega, fun _ => ?_⟩
        have h1 := hall w ⟨q, hw, hqe⟩
        have hq' := way_lt hK.arcs hK.n0 hr
        have e : q' = q := marks_one hg hq' hq (hre.trans hqe.symm)
        subst e
        obtain ⟨l', hp'⟩ := way_pth_nil hr
        have h2 := hm _ _ hp'
        omega
    · rcases h with ⟨he, _⟩ | ⟨he, hall, r, ⟨q', hr, hre⟩, hrl⟩
      · exact ⟨by omega, fun e => by omega⟩
      · have hq' := way_lt hK.arcs hK.n0 hr
        obtain ⟨l', hp'⟩ := way_pth_nil hr
        exact absurd hp' (hn q' hq' hre _ _)
end Go.Tok
