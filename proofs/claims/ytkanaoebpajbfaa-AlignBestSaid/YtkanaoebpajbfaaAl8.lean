/- Plain laws of alignments: what they cost is the distance to the nearest word. No program is in sight here. -/
import Derived.Test.YtkanaoebpajbfaaAl6
namespace Go.Tok
open Go.RowKit Go.Proofs.Ytkanaoebpajbfaa
set_option linter.unusedVariables false
/-- how many letters are left out, or put in -/
def apartF : List Int → List Int → Nat
  | [], v => v.length
  | a :: u, [] => (a :: u).length
  | a :: u, b :: v => if a = b then apartF u v else 1 + min (apartF u (b :: v)) (apartF (a :: u) v)
termination_by u v => u.length + v.length
theorem apart_nil (v : List Int) : apartF [] v = v.length := by rw [apartF]
theorem apart_nil' (u : List Int) : apartF u [] = u.length := by
  cases u with
  | nil => rw [apartF]
  | cons a u => rw [apartF]
theorem apart_eq (a : Int) (u v : List Int) : apartF (a :: u) (a :: v) = apartF u v := by rw [apartF, if_pos rfl]
theorem apart_ne {a b : Int} (h : a ≠ b) (u v : List Int) : apartF (a :: u) (b :: v) = 1 + min (apartF u (b :: v)) (apartF (a :: u) v) := by rw [apartF, if_neg h]
theorem apart_le : ∀ (n : Nat) (u v : List Int), u.length + v.length ≤ n → apartF u v ≤ u.length + v.length := by
  intro n
  induction n with
  | zero =>
    intro u v h
    obtain rfl : u = [] := List.eq_nil_of_length_eq_zero (by omega)
    rw [apart_nil]; simp
  | succ n ih =>
    intro u v h
    cases u with
    | nil => rw [apart_nil]; simp
    | cons a u =>
      cases v with
      | nil => rw [apart_nil']; simp
      | cons b v =>
        simp only [List.length_cons] at h ⊢
        by_cases hab : a = b
        · subst hab
          rw [apart_eq]
          have := ih u v (by omega)
          omega
        · rw [apart_ne hab]
          have := ih u (b :: v) (by simp only [List.length_cons]; omega)
          simp only [List.length_cons] at this
          omega
theorem apart_one : ∀ (n : Nat) (u v : List Int), u.length + v.length ≤ n → ∀ a : Int,
    apartF u v ≤ 1 + apartF (a :: u) v ∧ apartF u v ≤ 1 + apartF u (a :: v) ∧ apartF (a :: u) v ≤ 1 + apartF u v ∧ apartF u (a :: v) ≤ 1 + apartF u v := by
  intro n
  induction n with
  | zero =>
    intro u v h a
    obtain rfl : u = [] := List.eq_nil_of_length_eq_zero (by omega)
    obtain rfl : v = [] := List.eq_nil_of_length_eq_zero (by simp at h; simpa using h)
    simp [apart_nil, apart_nil']
  | succ n ih =>
    intro u v h a
    have L : apartF (a :: u) v ≤ 1 + apartF u v ∧ apartF u v ≤ 1 + apartF (a :: u) v := by
      cases v with
      | nil => simp only [apart_nil', List.length_cons]; omega
      | cons c v =>
        simp only [List.length_cons] at h
        have h1 := ih u v (by omega) c
        have h2 := ih u v (by omega) a
        by_cases hac : a = c
        · subst hac
          rw [apart_eq]
          omega
        · rw [apart_ne hac]
          omega
    have R : apartF u (a :: v) ≤ 1 + apartF u v ∧ apartF u v ≤ 1 + apartF u (a :: v) := by
      cases u with
      | nil => simp only [apart_nil, List.length_cons]; omega
      | cons c u =>
        simp only [List.length_cons] at h
        have h1 := ih u v (by omega) c
        have h2 := ih u v (by omega) a
        by_cases hac : c = a
        · subst hac
          rw [apart_eq]
          omega
        · rw [apart_ne hac]
          omega
    omega
/-- one word is made of another one, so many steps -/
inductive Dst : List Int → List Int → Nat → Prop
  | nil : Dst [] [] 0
  | out {u v : List Int} {c : Nat} (a : Int) (h : Dst u v c) : Dst (a :: u) v (c + 1)
  | put {u v : List Int} {c : Nat} (a : Int) (h : Dst u v c) : Dst u (a :: v) (c + 1)
  | both {u v : List Int} {c : Nat} (a : Int) (h : Dst u v c) : Dst (a :: u) (a :: v) c
theorem Dst.append {u v u' v' : List Int} {c c' : Nat} (h : Dst u v c) (h' : Dst u' v' c') : Dst (u ++ u') (v ++ v') (c + c') := by
  induction h with
  | nil => simpa using h'
  | out a h ih => have := Dst.out a ih; rwa [show ∀ c : Nat, c + c' + 1 = c + 1 + c' from fun c => by omega] at this
  | put a h ih => have := Dst.put a ih; rwa [show ∀ c : Nat, c + c' + 1 = c + 1 + c' from fun c => by omega] at this
  | both a h ih => exact Dst.both a ih
theorem Dst.least {u v : List Int} {c : Nat} (h : Dst u v c) : apartF u v ≤ c := by
  induction h with
  | nil => simp [apart_nil]
  | @out u1 v1 c1 a h ih => have := (apart_one _ u1 v1 (Nat.le_refl _) a).2.2.1; omega
  | @put u1 v1 c1 a h ih => have := (apart_one _ u1 v1 (Nat.le_refl _) a).2.2.2; omega
  | both a h ih => rw [apart_eq]; exact ih
section
variable {lab : List Int} {arcs : List ArcD} {tr : List Int}
/-- moves say a word, and how far it is -/
theorem pth_word (hl : ∀ t, 0 ≤ nth lab t) {l : List MoveD} {u : SpotD} {c : Nat} (h : Pth lab arcs tr spot0 l u c) : u.seen ≤ tr.length ∧ ∃ w, Way lab arcs 0 w u.mark ∧ Dst (tr.take u.seen) w c ∧ w.length ≤ u.seen + c := by
  induction h with
  | nil => exact ⟨Nat.zero_le _, [], .here, by simpa [spot0] using Dst.nil, by simp⟩
  | snoc h h1 ih =>
    obtain ⟨hs, w, hw, hd, hln⟩ := ih
    cases h1 with
    | skip hk =>
      rename_i k m
      simp only [] at hs hw hd hln ⊢
      refine ⟨by omega, w, hw, ?_, by omega⟩
      rw [List.take_succ_eq_append_getElem hk]
      have := hd.append (Dst.out tr[k] Dst.nil)
      simpa using this
    | net ha =>
      rename_i k m t m'
      simp only [] at hs hw hd hln ⊢
      by_cases h0 : 0 < nth lab t
      · refine ⟨hs, w ++ [nth lab t], .heard hw ha h0, ?_, ?_⟩
        · have := hd.append (Dst.put (nth lab t) Dst.nil)
          unfold one1
          rw [if_pos h0]
          simpa using this
        · unfold one1
          rw [if_pos h0, List.length_append]
          simp only [List.length_singleton]
          omega
      · have := hl t
        refine ⟨hs, w, .quiet hw ha (by omega), ?_, by omega⟩
        unfold one1
        rw [if_neg h0, Nat.add_zero]
        exact hd
    | both ha hp hk he =>
      rename_i k m t m'
      simp only [] at hs hw hd hln ⊢
      refine ⟨by omega, w ++ [nth lab t], .heard hw ha hp, ?_, ?_⟩
      · have e : tr.take (k + 1) = tr.take k ++ [nth lab t] := by rw [List.take_succ_eq_append_getElem hk, ← he, nth_lt hk]
        rw [e]
        exact hd.append (Dst.both (nth lab t) Dst.nil)
      · rw [List.length_append]
        simp only [List.length_singleton]
        omega
/-- a way as moves of the net alone -/
theorem way_net {i : Nat} {w : List Int} {k : Nat} (s : Nat) (h : Way lab arcs i w k) : ∃ l, Pth lab arcs tr ⟨s, i⟩ l ⟨s, k⟩ w.length := by
  induction h with
  | here => exact ⟨[], .nil⟩
  | quiet h ha hl ih =>
    obtain ⟨l, hp⟩ := ih
    have := Pth.snoc hp (Mv.net (tr := tr) (lab := lab) (k := s) ha)
    rw [hl] at this
    exact ⟨_, this⟩
  | heard h ha hl ih =>
    obtain ⟨l, hp⟩ := ih
    have := Pth.snoc hp (Mv.net (tr := tr) (lab := lab) (k := s) ha)
    rw [List.length_append, List.length_singleton]
    unfold one1 at this
    rw [if_pos hl] at this
    exact ⟨_, this⟩
/-- a way as moves of both -/
theorem way_both {i : Nat} {w : List Int} {k p : Nat} (h : Way lab arcs i w k) : ∀ s, tr.drop p = w ++ s → ∃ l, Pth lab arcs tr ⟨p, i⟩ l ⟨p + w.length, k⟩ 0 := by
  induction h with
  | here => intro s _; exact ⟨[], .nil⟩
  | quiet h ha hl ih =>
    rename_i w j t k
    intro s hs
    obtain ⟨l, hp⟩ := ih s hs
    have := Pth.snoc hp (Mv.net (tr := tr) (lab := lab) (k := p + w.length) ha)
    rw [hl] at this
    exact ⟨_, this⟩
  | heard h ha hl ih =>
    rename_i w j t k
    intro s hs
    have hs' : tr.drop p = w ++ (nth lab t :: s) := by rw [hs]; simp
    obtain ⟨l, hp⟩ := ih _ hs'
    have hlen := congrArg List.length hs'
    simp only [List.length_drop, List.length_append, List.length_cons] at hlen
    have hk : p + w.length < tr.length := by omega
    have hn : nth tr (p + w.length) = nth lab t := by
      have h1 : (tr.drop p)[w.length]? = some (nth lab t) := by rw [hs']; simp
      rw [List.getElem?_drop] at h1
      rw [nth_lt hk]
      rw [List.getElem?_eq_getElem hk] at h1
      exact Option.some.inj h1
    have hm := Mv.both (tr := tr) (lab := lab) (k := p + w.length) ha hl hk hn
    have := Pth.snoc hp hm
    rw [List.length_append, List.length_singleton, ← Nat.add_assoc]
    exact ⟨_, this⟩
theorem skip_all (m : Nat) : ∀ (d p : Nat), p + d = tr.length → ∃ l, Pth lab arcs tr ⟨p, m⟩ l ⟨tr.length, m⟩ d
  | 0, p, h => by
    obtain rfl : p = tr.length := by omega
    exact ⟨[], .nil⟩
  | d + 1, p, h => by
    obtain ⟨l, hp⟩ := skip_all m d (p + 1) (by omega)
    have := Pth.cons (Mv.skip (lab := lab) (arcs := arcs) (m := m) (show p < tr.length by omega)) hp
    rw [Nat.add_comm] at this
    exact ⟨_, this⟩
/-- each word is reached at its distance -/
theorem word_pth : ∀ (n : Nat) (u v : List Int), u.length + v.length ≤ n → ∀ (p j k : Nat), p ≤ tr.length → tr.drop p = u → Way lab arcs j v k → ∃ l, Pth lab arcs tr ⟨p, j⟩ l ⟨tr.length, k⟩ (apartF u v) := by
  intro n
  induction n with
  | zero =>
    intro u v h p j k hpl hu hw
    obtain rfl : u = [] := List.eq_nil_of_length_eq_zero (by omega)
    have hp : p = tr.length := by
      have := congrArg List.length hu
      simp only [List.length_drop, List.length_nil] at this
      omega
    subst hp
    rw [apart_nil]
    exact way_net _ hw
  | succ n ih =>
    intro u v h p j k hpl hu hw
    have hlen := congrArg List.length hu
    simp only [List.length_drop] at hlen
    cases u with
    | nil =>
      simp only [List.length_nil] at hlen
      obtain rfl : p = tr.length := by omega
      rw [apart_nil]
      exact way_net _ hw
    | cons a u =>
      simp only [List.length_cons] at hlen h
      have hp : p < tr.length := by omega
      have hdr : tr[p] = a ∧ tr.drop (p + 1) = u := by
        rw [List.drop_eq_getElem_cons hp] at hu
        exact ⟨(List.cons.inj hu).1, (List.cons.inj hu).2⟩
      cases v with
      | nil =>
        rw [apart_nil']
        obtain ⟨l1, h1⟩ := way_net (tr := tr) p hw
        obtain ⟨l2, h2⟩ := skip_all (lab := lab) (arcs := arcs) (tr := tr) k (u.length + 1) p (by omega)
        have := h1.append h2
        simp only [List.length_nil, Nat.zero_add] at this
        exact ⟨_, this⟩
      | cons b v =>
        simp only [List.length_cons] at h
        obtain ⟨m, hw1, hw2⟩ := way_split hw [b] v rfl
        by_cases hab : a = b
        · subst hab
          rw [apart_eq]
          obtain ⟨l1, h1⟩ := way_both (tr := tr) (p := p) hw1 u (by rw [hu]; rfl)
          obtain ⟨l2, h2⟩ := ih u v (by omega) (p + 1) m k (by omega) hdr.2 hw2
          have := h1.append h2
          rw [Nat.zero_add] at this
          exact ⟨_, this⟩
        · rw [apart_ne hab]
          rcases Nat.le_total (apartF u (b :: v)) (apartF (a :: u) v) with hle | hle
          · rw [Nat.min_eq_left hle]
            obtain ⟨l2, h2⟩ := ih u (b :: v) (by simp only [List.length_cons]; omega) (p + 1) j k (by omega) hdr.2 hw
            exact ⟨_, Pth.cons (Mv.skip (lab := lab) (arcs := arcs) (m := j) hp) h2⟩
          · rw [Nat.min_eq_right hle]
            obtain ⟨l1, h1⟩ := way_net (tr := tr) p hw1
            obtain ⟨l2, h2⟩ := ih (a :: u) v (by simp only [List.length_cons]; omega) p m k hpl hu hw2
            exact ⟨_, h1.append h2⟩
end
/-- the nearest one of some words; below 0: there is none -/
def NearW (tr : List Int) (l : List (List Int)) (b : Int) : Prop := (l = [] ∧ b = -1) ∨ ((∃ u ∈ l, b = (apartF tr u : Int)) ∧ ∀ u ∈ l, b ≤ (apartF tr u : Int))
theorem NearW.nil (tr : List Int) : NearW tr [] (-1) := .inl ⟨rfl, rfl⟩
theorem NearW.ge {tr : List Int} {l : List (List Int)} {b : Int} (h : NearW tr l b) : -1 ≤ b := by
  rcases h with ⟨_, rfl⟩ | ⟨⟨u, _, rfl⟩, _⟩ <;> omega
theorem NearW.take {tr : List Int} {l : List (List Int)} {b : Int} {u : List Int} (h : NearW tr l b) (hb : b < 0 ∨ (apartF tr u : Int) < b) : NearW tr (l ++ [u]) (apartF tr u : Int) := by
  right
  refine ⟨⟨u, by simp, rfl⟩, fun v hv => ?_⟩
  rcases List.mem_append.1 hv with h1 | h1
  · rcases h with ⟨rfl, _⟩ | ⟨⟨x, hx, e⟩, h3⟩
    · simp at h1
    · have := h3 v h1
      have := h3 x hx
      omega
  · rw [List.mem_singleton.1 h1]; exact Int.le_refl _
theorem NearW.keep {tr : List Int} {l : List (List Int)} {b : Int} {u : List Int} (h : NearW tr l b) (h0 : 0 ≤ b) (hb : b ≤ (apartF tr u : Int)) : NearW tr (l ++ [u]) b := by
  rcases h with ⟨_, h1⟩ | ⟨⟨x, hx, e⟩, h3⟩
  · omega
  · refine .inr ⟨⟨x, List.mem_append_left _ hx, e⟩, fun v hv => ?_⟩
    rcases List.mem_append.1 hv with h1 | h1
    · exact h3 v h1
    · rw [List.mem_singleton.1 h1]; exact hb
theorem best_law {N : NetD} {i o : Int} {tr : List Int} {l : List MoveD} {c : Nat} {out : List (List Int)} {b : Int} (hA : AlMeans N i o tr l c 0) (hW : WordsIs N i o 8 out 0) (hB : NearW tr out b) : b < 0 ∨ (c : Int) = b ∨ ((c : Int) < b ∧ 8 - (tr.length : Int) < c) := by
  rcases hB with ⟨_, hb⟩ | ⟨⟨u, hu, hbu⟩, hall⟩
  · left; omega
  right
  have h0 : hasErr N i o = 0 := by
    apply Classical.byContradiction
    intro h
    exact h (hA.2.1 h).symm
  have hl60 : tr.length ≤ 60 := by
    apply Classical.byContradiction
    intro h
    have := hA.2.2.1 h0 (by omega)
    omega
  obtain ⟨A, hs, hg, h⟩ := hA.2.2.2 h0 hl60
  have hK := hasOk_mk h0 hs hg
  obtain ⟨hc, k, hk, he, hp, hm⟩ : (0 : Int) = 0 ∧ ∃ k, k < A.marks.length ∧ ix A.marks k = oneN (startLen N) o ∧ Pth (labN N) A.arcs tr spot0 l ⟨tr.length, k⟩ c ∧ Least1 (labN N) A.arcs tr ⟨tr.length, k⟩ c := by
    rcases h with h | ⟨h, _⟩
    · exact h
    · omega
  have hwords : ∀ u, u ∈ out ↔ AccW (labN N) A.arcs (endsN N o A) u ∧ (u.length : Int) ≤ 8 := by
    rcases hW with ⟨h1, _⟩ | ⟨_, ⟨_, _, h3⟩ | ⟨hm0, hm8, A', _, _, hg', h4⟩⟩
    · exact absurd h0 h1
    · omega
    · rw [hg] at hg'
      cases hg'
      rcases h4 with ⟨_, _, h5⟩ | ⟨h4, _⟩
      · omega
      · exact (words_are (say_okA (most := 8) hK hs) hm0 (res := out) h4).1
  have hmin : ∀ v, AccA N o A v → c ≤ apartF tr v := by
    rintro v ⟨q, hq, hqe⟩
    have hq' := way_lt hK.arcs hK.n0 hq
    obtain rfl : q = k := marks_one hg hq' hk (hqe.trans he.symm)
    obtain ⟨l', hp'⟩ := word_pth (tr := tr) _ tr v (Nat.le_refl _) 0 0 q (Nat.zero_le _) rfl hq
    exact hm l' _ hp'
  have hcb : (c : Int) ≤ b := by
    have := hmin u ((acc_iffA hK u).1 ((hwords u).1 hu).1)
    omega
  obtain ⟨hsl, v, hv, hd, hln⟩ := pth_word (labN_pos hs) hp
  simp only [] at hv hd hln
  rw [List.take_of_length_le (Nat.le_refl _)] at hd
  have hdv := hd.least
  have hav : AccA N o A v := ⟨k, hv, he⟩
  by_cases h8 : v.length ≤ 8
  · left
    have := hall v ((hwords v).2 ⟨(acc_iffA hK v).2 hav, by omega⟩)
    omega
  · by_cases hcb2 : (c : Int) = b
    · exact .inl hcb2
    · exact .inr ⟨by omega, by omega⟩
end Go.Tok
