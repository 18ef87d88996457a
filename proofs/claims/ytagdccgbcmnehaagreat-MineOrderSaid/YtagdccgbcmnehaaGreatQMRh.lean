/- Texts of one family, joined; what the claim does not need is left out. -/
import Derived.Test.YtagdccgbcmnehaaGreatQMRd
import Derived.Test.YtagdccgbcmnehaaGreatQMRa
import Derived.Sort.LotA
namespace Go.Tok
set_option linter.unusedVariables false

theorem mem_nth {t : List Int} {x : Int} : x ∈ t ↔ ∃ j, j < t.length ∧ nth t j = x := by
  constructor
  · intro h
    obtain ⟨j, hj, rfl⟩ := List.getElem_of_mem h
    exact ⟨j, hj, nth_lt hj⟩
  · rintro ⟨j, hj, rfl⟩
    rw [nth_lt hj]; exact List.getElem_mem hj
theorem lab_mem {log : List (List Int)} {x : Int} : x ∈ (trkLog log).all ↔ ∃ t ∈ log, x ∈ t := by
  rw [(shows_log log).1]
  constructor
  · rintro ⟨t, ht, h⟩; exact ⟨t, ht, mem_nth.2 h⟩
  · rintro ⟨t, ht, h⟩; exact ⟨t, ht, mem_nth.1 h⟩
theorem labM {log : List (List Int)} {x : Int} : x ∈ (ofM log).labels ↔ ∃ t ∈ log, x ∈ t := (isI_perm _).mem_iff.trans lab_mem
theorem labM_nodup (log : List (List Int)) : (ofM log).labels.Nodup := (isI_perm _).nodup_iff.2 (onces_log log).1
theorem behM {log : List (List Int)} {x : Int × Int} : x ∈ (ofM log).behind ↔ ∃ t ∈ log, ∃ j, j + 1 < t.length ∧ (nth t j, nth t (j + 1)) = x := (isP_perm _).mem_iff.trans ((shows_log log).2.2.2 x)
theorem mem_full {log : List (List Int)} {t : List Int} : t ∈ fullF log ↔ t ∈ log ∧ t.length ≠ 0 := by
  unfold fullF; rw [List.mem_filter]; simp
def measM (log : List (List Int)) : Nat := 2 * (ofM log).labels.length + if (fullF log).length < log.length then 1 else 0
theorem lab_le {l : List (List Int)} {g : List Int} (h : ∀ t ∈ l, ∀ x ∈ t, x ∈ g) : (ofM l).labels.length ≤ g.length :=
  nodup_sub _ _ (labM_nodup l) fun x hx => by
    obtain ⟨t, ht, hx⟩ := labM.1 hx
    exact h t ht x hx
theorem lab_full (log : List (List Int)) : (ofM (fullF log)).labels.length ≤ (ofM log).labels.length := lab_le fun t ht x hx => labM.2 ⟨t, (mem_full.1 ht).1, hx⟩
theorem full_full (log : List (List Int)) : fullF (fullF log) = fullF log := by
  unfold fullF
  rw [List.filter_filter]
  apply List.filter_congr
  simp
theorem flat_lt : ∀ {gs : List (List Int)} {g : List Int}, (∀ g ∈ gs, g ≠ []) → 2 ≤ gs.length → g ∈ gs → g.length < gs.flatten.length := by
  intro gs
  induction gs with
  | nil => intro g _ _ hg; cases hg
  | cons a r ih =>
    intro g hne h2 hg
    rw [List.flatten_cons, List.length_append]
    have hpos : ∀ {x : List Int} {l : List (List Int)}, x ∈ l → x.length ≤ l.flatten.length := by
      intro x l
      induction l with
      | nil => intro h; cases h
      | cons b l ih =>
        intro h
        rw [List.flatten_cons, List.length_append]
        rcases List.mem_cons.1 h with rfl | h
        · omega
        · have := ih h; omega
    have ha : 0 < a.length := List.length_pos_iff.2 (hne a (by simp))
    rcases List.mem_cons.1 hg with rfl | hg
    · cases r with
      | nil => simp at h2
      | cons b r =>
        have := List.length_pos_iff.2 (hne b (by simp))
        rw [List.flatten_cons, List.length_append]; omega
    · have := hpos hg; omega
/-- lk-groups of the labels of a log -/
structure Grps (lk : Int → Int → Bool) (ls : List Int) (gs : List (List Int)) : Prop where
  perm : gs.flatten.Perm ls
  ne : ∀ g ∈ gs, g ≠ []
  apart : gs.Pairwise fun g h => ∀ a ∈ g, ∀ b ∈ h, lk2 lk a b = false
  asc : ∀ g ∈ gs, g.Pairwise (· ≤ ·)
theorem grps (lk : Int → Int → Bool) (ls : List Int) : Grps lk ls (groupsF lk ls.length ls) := ⟨groups_perm lk _ _ (Nat.le_refl _), groups_ne lk _ _, groups_apart lk _ _ (Nat.le_refl _), groups_sorted lk _ _⟩
theorem lk2_comm (lk : Int → Int → Bool) (a b : Int) : lk2 lk a b = lk2 lk b a := Bool.or_comm _ _
theorem Grps.same {lk : Int → Int → Bool} {ls : List Int} {gs : List (List Int)} (h : Grps lk ls gs) {g g' : List Int} {a b : Int} (hg : g ∈ gs) (hg' : g' ∈ gs) (ha : a ∈ g) (hb : b ∈ g') (hl : lk2 lk a b = true) : g = g' := by
  obtain ⟨i, hi, rfl⟩ := List.getElem_of_mem hg
  obtain ⟨j, hj, rfl⟩ := List.getElem_of_mem hg'
  have hp := List.pairwise_iff_getElem.1 h.apart
  rcases Nat.lt_trichotomy i j with h1 | rfl | h1
  · have := hp i j hi hj h1 a ha b hb
    rw [hl] at this; cases this
  · rfl
  · have := hp j i hj hi h1 b hb a ha
    rw [lk2_comm, hl] at this; cases this
theorem Grps.grp {lk : Int → Int → Bool} {ls : List Int} {gs : List (List Int)} (h : Grps lk ls gs) {a : Int} (ha : a ∈ ls) : ∃ g ∈ gs, a ∈ g := List.mem_flatten.1 (h.perm.mem_iff.2 ha)
theorem Grps.lt {lk : Int → Int → Bool} {ls : List Int} {gs : List (List Int)} (h : Grps lk ls gs) (h2 : 2 ≤ gs.length) {g : List Int} (hg : g ∈ gs) : g.length < ls.length := by
  rw [← h.perm.length_eq]; exact flat_lt h.ne h2 hg

/-- the labels of a trace stand in one group, where neighbours are linked -/
theorem one_group {log : List (List Int)} {gs : List (List Int)} (h : Grps (hasP (ofM log).behind) (ofM log).labels gs) {t : List Int} (ht : t ∈ log) {g : List Int} (hg : g ∈ gs) (h0 : nth t 0 ∈ g) : ∀ x ∈ t, x ∈ g := by
  have key : ∀ j, j < t.length → nth t j ∈ g := by
    intro j
    induction j with
    | zero => intro _; exact h0
    | succ j ih =>
      intro hj
      have h1 := ih (by omega)
      obtain ⟨g', hg', h2⟩ := h.grp (labM.2 ⟨t, ht, mem_nth.2 ⟨j + 1, hj, rfl⟩⟩)
      have hb : hasP (ofM log).behind (nth t j) (nth t (j + 1)) = true := hasP_iff.2 (behM.2 ⟨t, ht, j, hj, rfl⟩)
      rw [h.same hg hg' h1 h2 (by unfold lk2; rw [hb]; rfl)]; exact h2
  intro x hx
  obtain ⟨j, hj, rfl⟩ := mem_nth.1 hx
  exact key j hj
theorem insG_perm (s : List (Int × Int)) (x : List Int) : ∀ l, (insG s x l).Perm (x :: l)
  | [] => List.Perm.refl _
  | y :: r => by
    unfold insG
    split
    · exact List.Perm.refl _
    · exact (List.Perm.cons y (insG_perm s x r)).trans (List.Perm.swap x y r)
theorem sortG_perm (s : List (Int × Int)) : ∀ l, (sortG s l).Perm l
  | [] => List.Perm.refl _
  | x :: r => (insG_perm s x _).trans (List.Perm.cons x (sortG_perm s r))

theorem choose_some {p : PrintD} {log : List (List Int)} {ls : List (List (List Int))} (h : chooseF p log = some ls) : 2 ≤ (chooseG p).length ∧ ls = (chooseG p).map fun g => log.filter fun t => hasB g (nth t 0) := by
  unfold chooseF at h
  split at h
  · cases h
  · cases h; exact ⟨by omega, rfl⟩
theorem order_some {p : PrintD} {log : List (List Int)} {ls : List (List (List Int))} (h : orderF p log = some ls) : 2 ≤ (orderG p).length ∧ ls = (sortG (leadsF p) (orderG p)).map (ontoT log) := by
  unfold orderF at h
  split at h
  · cases h
  · cases h; exact ⟨by omega, rfl⟩
theorem beside_some {p : PrintD} {log : List (List Int)} {ls : List (List (List Int))} (h : besideF p log = some ls) : 2 ≤ (besideG p).length ∧ (∀ g ∈ besideG p, apartB p g = false) ∧ ls = (besideG p).map (ontoT log) := by
  unfold besideF at h
  split at h
  · cases h
  · rename_i hn
    have hn2 : ¬ (besideG p).any (apartB p) = true := fun e => hn (.inr e)
    cases h
    exact ⟨by omega, fun g hg => by
      cases e : apartB p g
      · rfl
      · exact absurd (List.any_eq_true.2 ⟨g, hg, e⟩) hn2, rfl⟩
/-- the ways of a cut -/
inductive Way3 (full : List (List Int)) : CutD → Prop where
  | one (h : (ofM full).labels.length = 1) : Way3 full (.leaf (oneD (ofM full) full))
  | choose (h : 2 ≤ (chooseG (ofM full)).length) : Way3 full (.node 4 ((chooseG (ofM full)).map fun g => full.filter fun t => hasB g (nth t 0)))
  | order (h : 2 ≤ (orderG (ofM full)).length) : Way3 full (.node 3 ((sortG (leadsF (ofM full)) (orderG (ofM full))).map (ontoT full)))
  | beside (h : 2 ≤ (besideG (ofM full)).length) (h2 : ∀ g ∈ besideG (ofM full), apartB (ofM full) g = false) : Way3 full (.node 5 ((besideG (ofM full)).map (ontoT full)))
  | flower (h : (ofM full).labels.length ≠ 1) : Way3 full (.leaf (flowerD (ofM full)))
theorem way3 (full : List (List Int)) : Way3 full (cutP (ofM full) full) := by
  unfold cutP
  by_cases h1 : (ofM full).labels.length = 1
  · rw [if_pos h1]; exact .one h1
  · rw [if_neg h1]
    cases e1 : chooseF (ofM full) full with
    | some ls => obtain ⟨h2, rfl⟩ := choose_some e1; exact .choose h2
    | none =>
      cases e2 : orderF (ofM full) full with
      | some ls => obtain ⟨h2, rfl⟩ := order_some e2; exact .order h2
      | none =>
        cases e3 : besideF (ofM full) full with
        | some ls => obtain ⟨h2, h3, rfl⟩ := beside_some e3; exact .beside h2 h3
        | none => exact .flower h1
theorem mem_onto {log : List (List Int)} {g t : List Int} (h : t ∈ ontoT log g) : ∃ t' ∈ log, t = t'.filter fun a => hasB g a := by
  unfold ontoT at h
  obtain ⟨t', h1, rfl⟩ := List.mem_map.1 h
  exact ⟨t', h1, rfl⟩
theorem onto_sub {log : List (List Int)} {g : List Int} : ∀ t ∈ ontoT log g, ∀ x ∈ t, x ∈ g := by
  intro t ht x hx
  obtain ⟨t', _, rfl⟩ := mem_onto ht
  exact (hasB_iff _ _).1 (List.mem_filter.1 hx).2
theorem choose_sub {full : List (List Int)} {g : List Int} (hg : g ∈ chooseG (ofM full)) : ∀ t ∈ (full.filter fun t => hasB g (nth t 0)), ∀ x ∈ t, x ∈ g := by
  intro t ht x hx
  obtain ⟨h1, h2⟩ := List.mem_filter.1 ht
  exact one_group (grps _ _) h1 hg ((hasB_iff _ _).1 h2) x hx
/-- what is looked at next is less -/
theorem node_sub {full : List (List Int)} {k : Int} {ls : List (List (List Int))} (h : Way3 full (.node k ls)) : ∀ l ∈ ls, ∃ g : List Int, g.length < (ofM full).labels.length ∧ ∀ t ∈ l, ∀ x ∈ t, x ∈ g := by
  generalize hc : CutD.node k ls = c at h
  cases h with
  | one h => cases hc
  | flower h => cases hc
  | choose h =>
    cases hc
    intro l hl
    obtain ⟨g, hg, rfl⟩ := List.mem_map.1 hl
    exact ⟨g, (grps _ _).lt h hg, choose_sub hg⟩
  | order h =>
    cases hc
    intro l hl
    obtain ⟨g, hg, rfl⟩ := List.mem_map.1 hl
    exact ⟨g, (grps _ _).lt h ((sortG_perm _ _).mem_iff.1 hg), onto_sub⟩
  | beside h h2 =>
    cases hc
    intro l hl
    obtain ⟨g, hg, rfl⟩ := List.mem_map.1 hl
    exact ⟨g, (grps _ _).lt h hg, onto_sub⟩
theorem measM_node {log full : List (List Int)} {k : Int} {ls : List (List (List Int))} (hf : full = fullF log) (h : Way3 full (.node k ls)) : ∀ l ∈ ls, measM l < measM log := by
  intro l hl
  obtain ⟨g, h1, h2⟩ := node_sub h l hl
  have h3 := lab_le h2
  have h4 := lab_full log
  rw [← hf] at h4
  unfold measM
  split <;> split <;> omega
theorem measM_opt {log : List (List Int)} (h : (fullF log).length < log.length) : measM (fullF log) < measM log := by
  unfold measM
  rw [full_full, if_neg (by omega), if_pos h]
  have := lab_full log
  omega
theorem fuel_of : ∀ (n : Nat) (log : List (List Int)), measM log < n → Fuel n log := by
  intro n
  induction n with
  | zero => intro log h; omega
  | succ n ih =>
    intro log h
    unfold Fuel cutF
    by_cases h1 : (fullF log).length = 0
    · rw [if_pos h1]; trivial
    · rw [if_neg h1]
      by_cases h2 : (fullF log).length < log.length
      · rw [if_pos h2]
        exact ih _ (by have := measM_opt h2; omega)
      · rw [if_neg h2]
        have hw := way3 (fullF log)
        generalize cutP (ofM (fullF log)) (fullF log) = c at hw
        cases c with
        | leaf b => trivial
        | opt l => nomatch hw
        | node k ls => exact fun l hl => ih l (by have := measM_node rfl hw l hl; omega)
theorem measM_le {log : List (List Int)} (h : ∀ t ∈ log, ∀ a ∈ t, 1 ≤ a ∧ a ≤ 26) : measM log ≤ 53 := by
  have h1 : (ofM log).labels.length ≤ ((List.range 26).map fun k : Nat => (k : Int) + 1).length := by
    refine lab_le fun t ht x hx => ?_
    obtain ⟨h1, h2⟩ := h t ht x hx
    exact List.mem_map.2 ⟨(x - 1).toNat, List.mem_range.2 (by omega), by omega⟩
  simp at h1
  unfold measM
  split <;> omega

def RightT (log : List (List Int)) : Prop := log.length ≤ 60 ∧ ∀ t ∈ log, t.length ≤ 60 ∧ ∀ a ∈ t, 1 ≤ a ∧ a ≤ 26
theorem right_iff (log : List (List Int)) : wrongT log = 0 ↔ RightT log := by
  unfold wrongT RightT
  by_cases h1 : 60 < log.length
  · rw [if_pos h1]; constructor
    · intro h; cases h
    · intro h; omega
  · rw [if_neg h1]
    have key : (log.any traceBad = true) ↔ ¬ ∀ t ∈ log, t.length ≤ 60 ∧ ∀ a ∈ t, 1 ≤ a ∧ a ≤ 26 := by
      rw [List.any_eq_true]
      constructor
      · rintro ⟨t, ht, hb⟩ h
        unfold traceBad at hb
        rcases Bool.or_eq_true_iff.1 hb with hb | hb
        · have := (h t ht).1
          simp at hb; omega
        · obtain ⟨a, ha, hb⟩ := List.any_eq_true.1 hb
          have := (h t ht).2 a ha
          simp at hb; omega
      · intro h
        refine Classical.byContradiction fun hn => h fun t ht => ?_
        have hb : traceBad t = false := by
          cases e : traceBad t
          · rfl
          · exact absurd ⟨t, ht, e⟩ hn
        unfold traceBad at hb
        rw [Bool.or_eq_false_iff] at hb
        refine ⟨by have := hb.1; simp at this; exact this, fun a ha => ?_⟩
        have := List.any_eq_false.1 hb.2 a ha
        simp at this; omega
    by_cases h2 : log.any traceBad = true
    · rw [if_pos h2]
      constructor
      · intro h; cases h
      · intro h; exact absurd h.2 (key.1 h2)
    · rw [if_neg h2]
      refine ⟨fun _ => ⟨by omega, ?_⟩, fun _ => rfl⟩
      exact Classical.byContradiction fun hn => h2 (key.2 hn)
theorem RightT.sub {log l : List (List Int)} (h : RightT log) (hl : l.length ≤ log.length) (hs : ∀ t ∈ l, ∃ t' ∈ log, t.length ≤ t'.length ∧ ∀ x ∈ t, x ∈ t') : RightT l :=
  ⟨Nat.le_trans hl h.1, fun t ht => by
    obtain ⟨t', h1, h2, h3⟩ := hs t ht
    exact ⟨Nat.le_trans h2 (h.2 t' h1).1, fun a ha => (h.2 t' h1).2 a (h3 a ha)⟩⟩
theorem RightT.full {log : List (List Int)} (h : RightT log) : RightT (fullF log) := h.sub (List.length_filter_le _ _) fun t ht => ⟨t, (mem_full.1 ht).1, Nat.le_refl _, fun _ h => h⟩
theorem RightT.filt {log : List (List Int)} (h : RightT log) (p : List Int → Bool) : RightT (log.filter p) := h.sub (List.length_filter_le _ _) fun t ht => ⟨t, (List.mem_filter.1 ht).1, Nat.le_refl _, fun _ h => h⟩
theorem RightT.onto {log : List (List Int)} (h : RightT log) (g : List Int) : RightT (ontoT log g) := h.sub (by unfold ontoT; simp) fun t ht => by
  obtain ⟨t', h1, rfl⟩ := mem_onto ht
  exact ⟨t', h1, List.length_filter_le _ _, fun x hx => (List.mem_filter.1 hx).1⟩

end Go.Tok

namespace Go.Tok
set_option linter.unusedVariables false
/-- the same traces, in whatever order and number -/
def SetEq (l1 l2 : List (List Int)) : Prop := ∀ t, t ∈ l1 ↔ t ∈ l2
theorem ofM_same {l1 l2 : List (List Int)} (h : SetEq l1 l2) : ofM l1 = ofM l2 := by
  have h1 : isI (trkLog l1).all = isI (trkLog l2).all := by
    rw [← sortI_isI, ← sortI_isI]
    exact sortI_same (onces_log _).1 (onces_log _).1 fun x => by
      rw [(shows_log _).1, (shows_log _).1]
      exact exists_congr fun t => and_congr (h t) Iff.rfl
  have h2 : isI (trkLog l1).first = isI (trkLog l2).first := by
    rw [← sortI_isI, ← sortI_isI]
    exact sortI_same (onces_log _).2.1 (onces_log _).2.1 fun x => by
      rw [(shows_log _).2.1, (shows_log _).2.1]
      exact exists_congr fun t => and_congr (h t) Iff.rfl
  have h3 : isI (trkLog l1).last = isI (trkLog l2).last := by
    rw [← sortI_isI, ← sortI_isI]
    exact sortI_same (onces_log _).2.2.1 (onces_log _).2.2.1 fun x => by
      rw [(shows_log _).2.2.1, (shows_log _).2.2.1]
      exact exists_congr fun t => and_congr (h t) Iff.rfl
  have h4 : isP (trkLog l1).behind = isP (trkLog l2).behind := by
    rw [← sortP_isP, ← sortP_isP]
    exact sortP_same (onces_log _).2.2.2 (onces_log _).2.2.2 fun x => by
      rw [(shows_log _).2.2.2, (shows_log _).2.2.2]
      exact exists_congr fun t => and_congr (h t) Iff.rfl
  unfold ofM
  rw [h1, h2, h3, h4]
theorem SetEq.filter {l1 l2 : List (List Int)} (h : SetEq l1 l2) (p : List Int → Bool) : SetEq (l1.filter p) (l2.filter p) := fun t => by
  rw [List.mem_filter, List.mem_filter, h t]
theorem SetEq.onto {l1 l2 : List (List Int)} (h : SetEq l1 l2) (g : List Int) : SetEq (ontoT l1 g) (ontoT l2 g) := fun t => by
  unfold ontoT
  rw [List.mem_map, List.mem_map]
  exact exists_congr fun t => and_congr (h t) Iff.rfl
theorem SetEq.any {l1 l2 : List (List Int)} (h : SetEq l1 l2) (p : List Int → Bool) : l1.any p = l2.any p := by
  rw [Bool.eq_iff_iff, List.any_eq_true, List.any_eq_true]
  exact exists_congr fun t => and_congr (h t) Iff.rfl
theorem SetEq.empty {l1 l2 : List (List Int)} (h : SetEq l1 l2) : l1.length = 0 ↔ l2.length = 0 := by
  rw [List.length_eq_zero_iff, List.length_eq_zero_iff]
  constructor
  · rintro rfl
    exact List.eq_nil_iff_forall_not_mem.2 fun t ht => by cases (h t).2 ht
  · rintro rfl
    exact List.eq_nil_iff_forall_not_mem.2 fun t ht => by cases (h t).1 ht
theorem full_lt (log : List (List Int)) : (fullF log).length < log.length ↔ [] ∈ log := by
  unfold fullF
  induction log with
  | nil => simp
  | cons t log ih =>
    have hle := List.length_filter_le (fun t : List Int => !decide (t.length = 0)) log
    by_cases e : t = []
    · subst e
      rw [List.filter_cons_of_neg (by simp)]
      constructor
      · intro _; exact List.mem_cons_self ..
      · intro _; rw [List.length_cons]; omega
    · rw [List.filter_cons_of_pos (by simpa using e)]
      simp only [List.length_cons, Nat.add_lt_add_iff_right, ih, List.mem_cons]
      constructor
      · exact .inr
      · rintro (h | h)
        · exact absurd h.symm e
        · exact h
/-- the same, part by part -/
inductive CutSame : CutD → CutD → Prop where
  | leaf (b : BlockD) : CutSame (.leaf b) (.leaf b)
  | opt {l1 l2 : List (List Int)} (h : SetEq l1 l2) : CutSame (.opt l1) (.opt l2)
  | node (k : Int) (gs : List (List Int)) (f1 f2 : List Int → List (List Int)) (h : ∀ g, SetEq (f1 g) (f2 g)) : CutSame (.node k (gs.map f1)) (.node k (gs.map f2))
theorem cutP_same (p : PrintD) {l1 l2 : List (List Int)} (h : SetEq l1 l2) : CutSame (cutP p l1) (cutP p l2) := by
  unfold cutP
  by_cases h1 : p.labels.length = 1
  · rw [if_pos h1, if_pos h1]
    have : oneD p l1 = oneD p l2 := by unfold oneD; rw [h.any]
    rw [this]; exact .leaf _
  · rw [if_neg h1, if_neg h1]
    by_cases h2 : (chooseG p).length < 2
    · have e1 : chooseF p l1 = none := by unfold chooseF; rw [if_pos h2]
      have e2 : chooseF p l2 = none := by unfold chooseF; rw [if_pos h2]
      rw [e1, e2]
      show CutSame (match orderF p l1 with | some ls => .node 3 ls | none => match besideF p l1 with | some ls => .node 5 ls | none => .leaf (flowerD p)) (match orderF p l2 with | some ls => .node 3 ls | none => match besideF p l2 with | some ls => .node 5 ls | none => .leaf (flowerD p))
      by_cases h3 : (orderG p).length < 2
      · have e1 : orderF p l1 = none := by unfold orderF; rw [if_pos h3]
        have e2 : orderF p l2 = none := by unfold orderF; rw [if_pos h3]
        rw [e1, e2]
        show CutSame (match besideF p l1 with | some ls => .node 5 ls | none => .leaf (flowerD p)) (match besideF p l2 with | some ls => .node 5 ls | none => .leaf (flowerD p))
        by_cases h4 : (besideG p).length < 2 ∨ (besideG p).any (apartB p) = true
        · have e1 : besideF p l1 = none := by unfold besideF; rw [if_pos h4]
          have e2 : besideF p l2 = none := by unfold besideF; rw [if_pos h4]
          rw [e1, e2]; exact .leaf _
        · have e1 : besideF p l1 = some ((besideG p).map (ontoT l1)) := by unfold besideF; rw [if_neg h4]
          have e2 : besideF p l2 = some ((besideG p).map (ontoT l2)) := by unfold besideF; rw [if_neg h4]
          rw [e1, e2]; exact .node _ _ _ _ fun g => h.onto g
      · have e1 : orderF p l1 = some ((sortG (leadsF p) (orderG p)).map (ontoT l1)) := by unfold orderF; rw [if_neg h3]
        have e2 : orderF p l2 = some ((sortG (leadsF p) (orderG p)).map (ontoT l2)) := by unfold orderF; rw [if_neg h3]
        rw [e1, e2]; exact .node _ _ _ _ fun g => h.onto g
    · have e1 : chooseF p l1 = some ((chooseG p).map fun g => l1.filter fun t => hasB g (nth t 0)) := by unfold chooseF; rw [if_neg h2]
      have e2 : chooseF p l2 = some ((chooseG p).map fun g => l2.filter fun t => hasB g (nth t 0)) := by unfold chooseF; rw [if_neg h2]
      rw [e1, e2]; exact .node _ _ _ _ fun g => h.filter _
theorem cut_same {l1 l2 : List (List Int)} (h : SetEq l1 l2) : CutSame (cutF l1) (cutF l2) := by
  have hf : SetEq (fullF l1) (fullF l2) := h.filter _
  unfold cutF
  by_cases h1 : (fullF l1).length = 0
  · rw [if_pos h1, if_pos (hf.empty.1 h1)]; exact .leaf _
  · rw [if_neg h1, if_neg (fun e => h1 (hf.empty.2 e))]
    by_cases h2 : (fullF l1).length < l1.length
    · rw [if_pos h2, if_pos ((full_lt l2).2 ((h []).1 ((full_lt l1).1 h2)))]
      exact .opt hf
    · rw [if_neg h2, if_neg (fun e => h2 ((full_lt l1).2 ((h []).2 ((full_lt l2).1 e)))), ofM_same hf]
      exact cutP_same _ hf
theorem find_same : ∀ (n : Nat) {l1 l2 : List (List Int)}, SetEq l1 l2 → mineF0 n l1 = mineF0 n l2 := by
  intro n
  induction n with
  | zero => intro l1 l2 _; rfl
  | succ n ih =>
    intro l1 l2 h
    unfold mineF0
    have hc := cut_same h
    generalize cutF l1 = c1 at hc
    generalize cutF l2 = c2 at hc
    cases hc with
    | leaf b => rfl
    | opt h => show manyD 4 [silentD, mineF0 n _] = manyD 4 [silentD, mineF0 n _]; rw [ih h]
    | node k gs f1 f2 h =>
      show manyD k ((gs.map f1).map (mineF0 n)) = manyD k ((gs.map f2).map (mineF0 n))
      rw [List.map_map, List.map_map]
      congr 1
      apply List.map_congr_left
      intro g _
      exact ih (h g)

def zeroB : BlockD := .mk 0 0 []
def fuelM : Nat := 54
def mineF (log : List (List Int)) : BlockD × Int :=
  if wrongT log = 0 then (if wrongB (fuelM + 3) (mineF0 fuelM log) = 0 then (mineF0 fuelM log, 0) else (zeroB, wrongB (fuelM + 3) (mineF0 fuelM log))) else (zeroB, wrongT log)
theorem mine_same {l1 l2 : List (List Int)} (hw : wrongT l1 = wrongT l2) (h : SetEq l1 l2) : mineF l1 = mineF l2 := by
  unfold mineF
  rw [hw, find_same fuelM h]
theorem fuel_right {log : List (List Int)} (h : RightT log) : Fuel fuelM log := fuel_of _ _ (by have := measM_le fun t ht => (h.2 t ht).2; unfold fuelM; omega)
theorem wrong_rev (log : List (List Int)) : wrongT log.reverse = wrongT log := by
  unfold wrongT
  rw [List.length_reverse, List.any_reverse]
theorem wrong_two {log : List (List Int)} (h : log.length ≤ 30) : wrongT (log ++ log) = wrongT log := by
  unfold wrongT
  rw [List.length_append, List.any_append, Bool.or_self, if_neg (show ¬ 60 < log.length + log.length by omega), if_neg (show ¬ 60 < log.length by omega)]
theorem same_rev (log : List (List Int)) : SetEq log log.reverse := fun t => by rw [List.mem_reverse]
theorem same_two (log : List (List Int)) : SetEq log (log ++ log) := fun t => by rw [List.mem_append, or_self]
end Go.Tok

namespace Go.Tok
set_option linter.unusedVariables false

theorem fold_inv {α β : Type} {f : β → α → β} {I : β → Prop} : ∀ {l : List α} {s : β}, (∀ s x, x ∈ l → I s → I (f s x)) → I s → I (l.foldl f s)
  | [], s, _, h => h
  | a :: l, s, hf, h => fold_inv (l := l) (s := f s a) (fun s x hx => hf s x (List.mem_cons_of_mem _ hx)) (hf s a (List.mem_cons_self ..) h)
theorem fold_has {α β : Type} {f : β → α → β} {I J : β → Prop} {x0 : α} : ∀ {l : List α} {s : β}, (∀ s x, x ∈ l → I s → I (f s x)) → (∀ s x, x ∈ l → I s → J s → J (f s x)) → (∀ s, I s → J (f s x0)) → x0 ∈ l → I s → J (l.foldl f s)
  | [], s, _, _, _, h, _ => by cases h
  | a :: l, s, hi, hj, h0, h, hs => by
    have hi' := fun s x hx => hi s x (List.mem_cons_of_mem a hx)
    have hj' := fun s x hx => hj s x (List.mem_cons_of_mem a hx)
    rw [List.foldl_cons]
    rcases List.mem_cons.1 h with rfl | h
    · have key : ∀ (l' : List α) (s : β), (∀ x ∈ l', x ∈ l) → I s → J s → J (l'.foldl f s) := by
        intro l'
        induction l' with
        | nil => intro s _ _ h; exact h
        | cons b r ih => intro s hl h1 h2; exact ih _ (fun x hx => hl x (List.mem_cons_of_mem _ hx)) (hi' s b (hl b (List.mem_cons_self ..)) h1) (hj' s b (hl b (List.mem_cons_self ..)) h1 h2)
      exact key l _ (fun _ h => h) (hi s x0 (List.mem_cons_self ..) hs) (h0 s hs)
    · exact fold_has hi' hj' h0 h (hi s a (List.mem_cons_self ..) hs)
/-- s has grown out of s0 by ways over k -/
def LeadI (ls : List Int) (k : Int) (s0 s : List (Int × Int)) : Prop := (∀ x, x ∈ s0 → x ∈ s) ∧ ∀ x y, (x, y) ∈ s → (x, y) ∈ s0 ∨ ((x ∈ ls ∧ y ∈ ls) ∧ (x, k) ∈ s0 ∧ (k, y) ∈ s0)
theorem lead_l {ls : List Int} {k : Int} {s0 s : List (Int × Int)} (h : LeadI ls k s0 s) (x : Int) : (x, k) ∈ s ↔ (x, k) ∈ s0 :=
  ⟨fun hx => (h.2 x k hx).elim id fun h => h.2.1, h.1 _⟩
theorem lead_r {ls : List Int} {k : Int} {s0 s : List (Int × Int)} (h : LeadI ls k s0 s) (y : Int) : (k, y) ∈ s ↔ (k, y) ∈ s0 :=
  ⟨fun hx => (h.2 k y hx).elim id fun h => h.2.2, h.1 _⟩
theorem leadB_inv {ls : List Int} {k a b : Int} {s0 s : List (Int × Int)} (ha : a ∈ ls) (hb : b ∈ ls) (h : LeadI ls k s0 s) : LeadI ls k s0 (leadB k a s b) := by
  unfold leadB
  by_cases hc : (hasP s a k && hasP s k b) = true
  · rw [if_pos hc]
    rw [Bool.and_eq_true, hasP_iff, hasP_iff, lead_l h, lead_r h] at hc
    refine ⟨fun x hx => mem_ins.2 (.inl (h.1 x hx)), fun x y hxy => ?_⟩
    rcases mem_ins.1 hxy with h1 | h1
    · exact h.2 x y h1
    · cases h1
      exact .inr ⟨⟨ha, hb⟩, hc⟩
  · rw [if_neg hc]; exact h
theorem leadB_has {ls : List Int} {k a b : Int} {s0 s : List (Int × Int)} (h : LeadI ls k s0 s) (h1 : (a, k) ∈ s0) (h2 : (k, b) ∈ s0) : (a, b) ∈ leadB k a s b := by
  unfold leadB
  rw [if_pos (by rw [Bool.and_eq_true, hasP_iff, hasP_iff, lead_l h, lead_r h]; exact ⟨h1, h2⟩)]
  exact mem_ins.2 (.inr rfl)
theorem leadB_mono {k a b : Int} {s : List (Int × Int)} {x : Int × Int} (h : x ∈ s) : x ∈ leadB k a s b := by
  unfold leadB
  split
  · exact mem_ins.2 (.inl h)
  · exact h
theorem leadA_inv {ls : List Int} {k a : Int} {s0 s : List (Int × Int)} (ha : a ∈ ls) (h : LeadI ls k s0 s) : LeadI ls k s0 (leadA ls k s a) := fold_inv (fun s x hx => leadB_inv ha hx) h
theorem leadA_mono {ls : List Int} {k a : Int} {s : List (Int × Int)} {x : Int × Int} (h : x ∈ s) : x ∈ leadA ls k s a := fold_inv (I := fun s => x ∈ s) (fun s y _ h => leadB_mono h) h
theorem leadK_inv {ls : List Int} {k : Int} (s : List (Int × Int)) : LeadI ls k s (leadK ls s k) := fold_inv (I := LeadI ls k s) (fun s' x hx => leadA_inv hx) ⟨fun _ h => h, fun _ _ h => .inl h⟩
theorem leadK_has {ls : List Int} {k a b : Int} {s : List (Int × Int)} (ha : a ∈ ls) (hb : b ∈ ls) (h1 : (a, k) ∈ s) (h2 : (k, b) ∈ s) : (a, b) ∈ leadK ls s k := by
  refine fold_has (I := LeadI ls k s) (J := fun s' => (a, b) ∈ s') (x0 := a) (fun s' x hx => leadA_inv hx) (fun s' x _ _ h => leadA_mono h) (fun s' hs => ?_) ha ⟨fun _ h => h, fun _ _ h => .inl h⟩
  exact fold_has (I := LeadI ls k s) (J := fun s' => (a, b) ∈ s') (x0 := b) (fun s' x hx => leadB_inv ha hx) (fun s' x _ _ h => leadB_mono h) (fun s' hs => leadB_has hs h1 h2) hb hs
theorem leadK_iff {ls : List Int} {k a b : Int} {s : List (Int × Int)} : (a, b) ∈ leadK ls s k ↔ (a, b) ∈ s ∨ ((a ∈ ls ∧ b ∈ ls) ∧ (a, k) ∈ s ∧ (k, b) ∈ s) := by
  constructor
  · exact (leadK_inv s).2 a b
  · rintro (h | ⟨⟨ha, hb⟩, h1, h2⟩)
    · exact (leadK_inv s).1 _ h
    · exact leadK_has ha hb h1 h2
/-- all is among the labels; ways over the labels of K are taken up -/
def Clo1 (ls K : List Int) (s : List (Int × Int)) : Prop := (∀ a b, (a, b) ∈ s → a ∈ ls ∧ b ∈ ls) ∧ ∀ k ∈ K, ∀ a b, (a, k) ∈ s → (k, b) ∈ s → (a, b) ∈ s
theorem clo_step {ls K : List Int} {s : List (Int × Int)} {k0 : Int} (h : Clo1 ls K s) : Clo1 ls (k0 :: K) (leadK ls s k0) := by
  refine ⟨fun a b hab => ?_, fun k hk a b h1 h2 => ?_⟩
  · rcases leadK_iff.1 hab with h1 | h1
    · exact h.1 a b h1
    · exact h1.1
  · have hl : ∀ x y, (x, y) ∈ leadK ls s k0 → x ∈ ls ∧ y ∈ ls := fun x y hxy => by
      rcases leadK_iff.1 hxy with h1 | h1
      · exact h.1 x y h1
      · exact h1.1
    have ha := (hl a k h1).1
    have hb := (hl k b h2).2
    rw [leadK_iff]
    rcases List.mem_cons.1 hk with rfl | hk
    · have e1 : (a, k) ∈ s := by
        rcases leadK_iff.1 h1 with h3 | h3
        · exact h3
        · exact h3.2.1
      have e2 : (k, b) ∈ s := by
        rcases leadK_iff.1 h2 with h3 | h3
        · exact h3
        · exact h3.2.2
      exact .inr ⟨⟨ha, hb⟩, e1, e2⟩
    · rcases leadK_iff.1 h1 with h3 | ⟨_, h3, h4⟩
      · rcases leadK_iff.1 h2 with h5 | ⟨_, h5, h6⟩
        · exact .inl (h.2 k hk a b h3 h5)
        · exact .inr ⟨⟨ha, hb⟩, h.2 k hk a k0 h3 h5, h6⟩
      · rcases leadK_iff.1 h2 with h5 | ⟨_, h5, h6⟩
        · exact .inr ⟨⟨ha, hb⟩, h3, h.2 k hk k0 b h4 h5⟩
        · exact .inr ⟨⟨ha, hb⟩, h3, h6⟩
theorem clo_fold {ls : List Int} : ∀ (l K : List Int) (s : List (Int × Int)), Clo1 ls K s → Clo1 ls (l.reverse ++ K) (l.foldl (leadK ls) s)
  | [], K, s, h => h
  | k :: l, K, s, h => by
    have := clo_fold l (k :: K) _ (clo_step (k0 := k) h)
    rw [List.foldl_cons, List.reverse_cons, List.append_assoc]
    exact this
theorem mem_foldins {α : Type} [DecidableEq α] : ∀ (l : List α) (s : List α) (x : α), x ∈ l.foldl ins s ↔ x ∈ s ∨ x ∈ l
  | [], s, x => by simp
  | a :: l, s, x => by
    rw [List.foldl_cons, mem_foldins l, mem_ins, List.mem_cons, or_assoc]
/-- what leads to what, of a log -/
structure LeadsP (log : List (List Int)) (s : List (Int × Int)) : Prop where
  lab : ∀ a b, (a, b) ∈ s → a ∈ (ofM log).labels ∧ b ∈ (ofM log).labels
  beh : ∀ x, x ∈ (ofM log).behind → x ∈ s
  trans : ∀ a b c, (a, b) ∈ s → (b, c) ∈ s → (a, c) ∈ s
theorem leads_p (log : List (List Int)) : LeadsP log (leadsF (ofM log)) := by
  have h0 : Clo1 (ofM log).labels [] ((ofM log).behind.foldl ins []) := by
    refine ⟨fun a b h => ?_, fun k hk => by cases hk⟩
    rcases (mem_foldins _ _ _).1 h with h | h
    · cases h
    · obtain ⟨t, ht, j, hj, e⟩ := behM.1 h
      injection e with e1 e2
      exact ⟨labM.2 ⟨t, ht, mem_nth.2 ⟨j, by omega, e1⟩⟩, labM.2 ⟨t, ht, mem_nth.2 ⟨j + 1, hj, e2⟩⟩⟩
  have h1 := clo_fold (ofM log).labels [] _ h0
  refine ⟨h1.1, fun x hx => ?_, fun a b c hab hbc => h1.2 b (by simp; exact (h1.1 a b hab).2) a c hab hbc⟩
  refine fold_inv (I := fun s => x ∈ s) (fun s k _ h => (leadK_inv s).1 x h) ?_
  exact (mem_foldins _ _ _).2 (.inr hx)
/-- each of g leads to each of h, and not back -/
def AheadG (s : List (Int × Int)) (g h : List Int) : Prop := ∀ a ∈ g, ∀ b ∈ h, hasP s a b = true ∧ hasP s b a = false
/-- groups in which it is no matter which one is asked -/
structure OneWay (s : List (Int × Int)) (gs : List (List Int)) : Prop where
  ne : ∀ g ∈ gs, g ≠ []
  tot : gs.Pairwise fun g h => AheadG s g h ∨ AheadG s h g
  trans : ∀ a b c, (a, b) ∈ s → (b, c) ∈ s → (a, c) ∈ s
theorem head_mem {g : List Int} (h : g ≠ []) : nth g 0 ∈ g := mem_nth.2 ⟨0, List.length_pos_iff.2 h, rfl⟩
theorem ahead_trans {s : List (Int × Int)} {g h k : List Int} (ht : ∀ a b c, (a, b) ∈ s → (b, c) ∈ s → (a, c) ∈ s) (hn : h ≠ []) (h1 : AheadG s g h) (h2 : AheadG s h k) : AheadG s g k := by
  intro a ha b hb
  have m := head_mem hn
  have e1 := hasP_iff.1 (h1 a ha _ m).1
  have e2 := hasP_iff.1 (h2 _ m b hb).1
  refine ⟨hasP_iff.2 (ht _ _ _ e1 e2), ?_⟩
  cases hc : hasP s b a with
  | false => rfl
  | true =>
    have := hasP_iff.2 (ht _ _ _ (hasP_iff.1 hc) e1)
    rw [(h2 _ m b hb).2] at this; cases this
theorem insG_ahead {s : List (Int × Int)} (ht : ∀ a b c, (a, b) ∈ s → (b, c) ∈ s → (a, c) ∈ s) {x : List Int} (hx : x ≠ []) : ∀ {l : List (List Int)}, (∀ g ∈ l, g ≠ []) → (∀ g ∈ l, AheadG s x g ∨ AheadG s g x) → l.Pairwise (AheadG s) → (insG s x l).Pairwise (AheadG s)
  | [], _, _, _ => List.pairwise_singleton _ _
  | y :: r, hn, hc, hp => by
    have hy := hn y (List.mem_cons_self ..)
    unfold insG
    by_cases h : hasP s (nth x 0) (nth y 0) = true
    · rw [if_pos h]
      have hxy : AheadG s x y := by
        rcases hc y (List.mem_cons_self ..) with h1 | h1
        · exact h1
        · have := (h1 _ (head_mem hy) _ (head_mem hx)).2
          rw [h] at this; cases this
      refine List.pairwise_cons.2 ⟨fun z hz => ?_, hp⟩
      rcases List.mem_cons.1 hz with rfl | hz
      · exact hxy
      · exact ahead_trans ht hy hxy (List.rel_of_pairwise_cons hp hz)
    · rw [if_neg h]
      have hyx : AheadG s y x := by
        rcases hc y (List.mem_cons_self ..) with h1 | h1
        · exact absurd (h1 _ (head_mem hx) _ (head_mem hy)).1 h
        · exact h1
      refine List.pairwise_cons.2 ⟨fun z hz => ?_, insG_ahead ht hx (fun g hg => hn g (List.mem_cons_of_mem _ hg)) (fun g hg => hc g (List.mem_cons_of_mem _ hg)) (List.Pairwise.of_cons hp)⟩
      rcases List.mem_cons.1 ((insG_perm s x r).mem_iff.1 hz) with rfl | hz
      · exact hyx
      · exact List.rel_of_pairwise_cons hp hz
theorem sortG_ahead {s : List (Int × Int)} : ∀ {gs : List (List Int)}, OneWay s gs → (sortG s gs).Pairwise (AheadG s)
  | [], _ => List.Pairwise.nil
  | x :: r, h => by
    have hr : OneWay s r := ⟨fun g hg => h.ne g (List.mem_cons_of_mem _ hg), List.Pairwise.of_cons h.tot, h.trans⟩
    refine insG_ahead h.trans (h.ne x (List.mem_cons_self ..)) (fun g hg => hr.ne g ((sortG_perm s r).mem_iff.1 hg)) (fun g hg => List.rel_of_pairwise_cons h.tot ((sortG_perm s r).mem_iff.1 hg)) (sortG_ahead hr)
theorem beq_no {a b : Bool} (h : (a == b || b == a) = false) : (a = true ∧ b = false) ∨ (a = false ∧ b = true) := by
  cases a <;> cases b <;> simp at h ⊢
/-- what goes over from linked to linked goes over the whole group -/
theorem group_ind (lk : Int → Int → Bool) (P : Int → Prop) (C : Int → Prop) (step : ∀ x y, C x → C y → P x → lk2 lk x y = true → P y) : ∀ (n : Nat) (g : List Int) (k : Nat) (l : List Int), (∀ x ∈ g, P x) → (∀ x ∈ g, C x) → (∀ x ∈ l, C x) → ∀ x ∈ (groupF lk n g k l).1, P x := by
  intro n
  induction n with
  | zero => intro g k l h _ _ x hx; exact h x hx
  | succ n ih =>
    intro g k l h hc hl
    unfold groupF
    by_cases hk : k < g.length
    · rw [if_pos hk]
      have hm : nth g k ∈ g := mem_nth.2 ⟨k, hk, rfl⟩
      refine ih _ _ _ (fun x hx => ?_) (fun x hx => ?_) (fun x hx => hl x (List.mem_filter.1 hx).1)
      · rcases List.mem_append.1 hx with hx | hx
        · exact h x hx
        · obtain ⟨h1, h2⟩ := List.mem_filter.1 hx
          exact step _ x (hc _ hm) (hl x h1) (h _ hm) h2
      · rcases List.mem_append.1 hx with hx | hx
        · exact hc x hx
        · exact hl x (List.mem_filter.1 hx).1
    · rw [if_neg hk]; exact h
theorem groups_ind (lk : Int → Int → Bool) (C : Int → Prop) : ∀ (n : Nat) (l : List Int), (∀ x ∈ l, C x) → ∀ g ∈ groupsF lk n l, ∃ a ∈ g, ∀ P : Int → Prop, P a → (∀ x y, C x → C y → P x → lk2 lk x y = true → P y) → ∀ x ∈ g, P x := by
  intro n
  induction n with
  | zero => intro l _ g hg; cases hg
  | succ n ih =>
    intro l hl g hg
    cases l with
    | nil => cases hg
    | cons a l =>
      unfold groupsF at hg
      have hl' : ∀ x ∈ l, C x := fun x hx => hl x (List.mem_cons_of_mem _ hx)
      rcases List.mem_cons.1 hg with rfl | hg
      · obtain ⟨r, hr⟩ := group_head lk (l.length + 1) [a] 0 l
        refine ⟨a, (isI_perm _).mem_iff.2 (by rw [hr]; simp), fun P hP hs x hx => ?_⟩
        exact group_ind lk P C hs (l.length + 1) [a] 0 l (fun y hy => by rw [List.mem_singleton.1 hy]; exact hP) (fun y hy => by rw [List.mem_singleton.1 hy]; exact hl a (List.mem_cons_self ..)) hl' x ((isI_perm _).mem_iff.1 hx)
      · refine ih _ (fun x hx => hl x ?_) g hg
        have := (group_perm lk (l.length + 1) [a] 0 l).mem_iff.1 (List.mem_append_right _ hx)
        simpa using this
/-- neither both nor none -/
def OneOf (s : List (Int × Int)) (a b : Int) : Prop := (hasP s a b = true ∧ hasP s b a = false) ∨ (hasP s a b = false ∧ hasP s b a = true)
theorem OneOf.swap {s : List (Int × Int)} {a b : Int} (h : OneOf s a b) : OneOf s b a := h.elim (fun h => .inr ⟨h.2, h.1⟩) fun h => .inl ⟨h.2, h.1⟩
/-- all of a group see a label outside alike -/
theorem one_side {s : List (Int × Int)} {ls : List Int} (ht : ∀ a b c, (a, b) ∈ s → (b, c) ∈ s → (a, c) ∈ s) {g : List Int} {b : Int}
    (hg : g ∈ groupsF (fun a b => hasP s a b == hasP s b a) ls.length ls) (hone : ∀ a ∈ g, OneOf s a b) : (∀ x ∈ g, hasP s x b = true) ∨ ∀ x ∈ g, hasP s x b = false := by
  have hG : Grps (fun a b => hasP s a b == hasP s b a) ls (groupsF (fun a b => hasP s a b == hasP s b a) ls.length ls) := grps _ _
  obtain ⟨a, ha, hind⟩ := groups_ind (fun a b => hasP s a b == hasP s b a) (fun x => x ∈ ls) ls.length ls (fun x hx => hx) g hg
  have sym : ∀ x y, lk2 (fun a b => hasP s a b == hasP s b a) x y = true → hasP s x y = hasP s y x := fun x y h => by
    unfold lk2 at h
    rcases Bool.or_eq_true_iff.1 h with h | h
    · exact beq_iff_eq.1 h
    · exact (beq_iff_eq.1 h).symm
  have back : ∀ x y, x ∈ ls → y ∈ g → lk2 (fun a b => hasP s a b == hasP s b a) x y = true → x ∈ g := fun x y hx hy h => by
    obtain ⟨g', hg', hx'⟩ := hG.grp hx
    rw [← hG.same hg' hg hx' hy h]; exact hx'
  have tr : ∀ x y z, hasP s x y = true → hasP s y z = true → hasP s x z = true := fun x y z h1 h2 => hasP_iff.2 (ht x y z (hasP_iff.1 h1) (hasP_iff.1 h2))
  cases h0 : hasP s a b with
  | true =>
    left
    intro x hx
    refine hind (fun x => x ∈ g → hasP s x b = true) (fun _ => h0) (fun x y hx hy hP hl hyg => ?_) x hx hx
    have hxg := back x y hx hyg hl
    have h1 := hP hxg
    rcases hone y hyg with h2 | h2
    · exact h2.1
    · have h3 := tr x b y h1 h2.2
      rw [sym x y hl] at h3
      exact tr y x b h3 h1
  | false =>
    right
    intro x hx
    refine hind (fun x => x ∈ g → hasP s x b = false) (fun _ => h0) (fun x y hx hy hP hl hyg => ?_) x hx hx
    have hxg := back x y hx hyg hl
    have h1 := hP hxg
    rcases hone y hyg with h2 | h2
    · rcases hone x hxg with h3 | h3
      · rw [h1] at h3; cases h3.1
      · have h4 := tr y b x h2.1 h3.2
        rw [← sym x y hl] at h4
        have h5 := tr x y b h4 h2.1
        rw [h1] at h5; cases h5
    · exact h2.1
theorem order_ways (log : List (List Int)) : OneWay (leadsF (ofM log)) (orderG (ofM log)) := by
  have hl := leads_p log
  have hG : Grps (fun a b => hasP (leadsF (ofM log)) a b == hasP (leadsF (ofM log)) b a) (ofM log).labels (orderG (ofM log)) := grps _ _
  refine ⟨hG.ne, ?_, hl.trans⟩
  generalize hs : leadsF (ofM log) = s at *
  have hog : orderG (ofM log) = groupsF (fun a b => hasP s a b == hasP s b a) (ofM log).labels.length (ofM log).labels := by unfold orderG; rw [hs]
  refine hG.apart.imp_of_mem fun {g h} hg hh hp => ?_
  have hone : ∀ a ∈ g, ∀ b ∈ h, OneOf s a b := fun a ha b hb => beq_no (hp a ha b hb)
  rw [hog] at hg hh
  have h1 : ∀ b ∈ h, (∀ x ∈ g, hasP s x b = true) ∨ ∀ x ∈ g, hasP s x b = false := fun b hb => one_side hl.trans hg fun a ha => hone a ha b hb
  have h2 : ∀ a ∈ g, (∀ x ∈ h, hasP s x a = true) ∨ ∀ x ∈ h, hasP s x a = false := fun a ha => one_side hl.trans hh fun b hb => (hone a ha b hb).swap
  have m1 := head_mem (hG.ne g (by rw [hog]; exact hg))
  have m2 := head_mem (hG.ne h (by rw [hog]; exact hh))
  rcases h1 _ m2 with h3 | h3
  · left
    intro a ha b hb
    have h5 : hasP s b a = false := by
      rcases h2 a ha with h4 | h4
      · have h6 := h4 _ m2
        rcases hone a ha _ m2 with h7 | h7
        · rw [h6] at h7; cases h7.2
        · have := h3 a ha
          rw [h7.1] at this; cases this
      · exact h4 b hb
    rcases hone a ha b hb with h7 | h7
    · exact h7
    · rw [h5] at h7; cases h7.2
  · right
    intro b hb a ha
    have h5 : hasP s b a = true := by
      rcases h2 a ha with h4 | h4
      · exact h4 b hb
      · have h6 := h4 _ m2
        rcases hone a ha _ m2 with h7 | h7
        · have := h3 a ha
          rw [h7.1] at this; cases this
        · rw [h6] at h7; cases h7.2
    rcases hone a ha b hb with h7 | h7
    · rw [h5] at h7; cases h7.2
    · exact ⟨h7.2, h7.1⟩

end Go.Tok

namespace Go.Stab
open Go.Sort
set_option linter.unusedVariables false
variable {α : Type} [Inhabited α] {lt : α → α → Bool}

def SwR (d d' : Array α) (p q n : Nat) : Prop := d'.size = d.size ∧ ∀ k, d'[k]! = if p ≤ k ∧ k < p + n then d[q + (k - p)]! else if q ≤ k ∧ k < q + n then d[p + (k - q)]! else d[k]!
theorem SwR.zero (d : Array α) (p q : Nat) : SwR d d p q 0 := ⟨rfl, fun k => by rw [if_neg (by omega), if_neg (by omega)]⟩
theorem get_eq (d : Array α) {i j : Nat} (h : i = j) : d[i]! = d[j]! := by rw [h]
theorem SwR.succ {d d1 : Array α} {p q n t : Nat} (h : SwR d d1 p q t) (ht : t < n) (hpq : p + n ≤ q) (hq : q + n ≤ d.size) : SwR d (swp d1 (p + t) (q + t)) p q (t + 1) := by
  refine ⟨by rw [swp_size, h.1], fun k => ?_⟩
  rw [swp_get d1 (by rw [h.1]; omega) (by rw [h.1]; omega), h.2, h.2, h.2]
  by_cases h1 : k = q + t
  · rw [if_pos h1, if_neg (by omega), if_neg (by omega), if_neg (by omega), if_pos (by omega)]
    exact get_eq d (by omega)
  · rw [if_neg h1]
    by_cases h2 : k = p + t
    · rw [if_pos h2, if_neg (by omega), if_neg (by omega), if_pos (by omega)]
      exact get_eq d (by omega)
    · rw [if_neg h2]
      by_cases h3 : p ≤ k ∧ k < p + t
      · rw [if_pos h3, if_pos (by omega)]
      · rw [if_neg h3, if_neg (show ¬ (p ≤ k ∧ k < p + (t + 1)) by omega)]
        by_cases h4 : q ≤ k ∧ k < q + t
        · rw [if_pos h4, if_pos (by omega)]
        · rw [if_neg h4, if_neg (by omega)]

def Rot (d d' : Array α) (lo m hi : Nat) : Prop := d'.size = d.size ∧ ∀ k, d'[k]! = if lo ≤ k ∧ k < lo + (hi - m) then d[m + (k - lo)]! else if lo + (hi - m) ≤ k ∧ k < hi then d[lo + (k - (lo + (hi - m)))]! else d[k]!
theorem Rot.none (d : Array α) {lo m hi : Nat} (h : lo = m ∨ m = hi) (h1 : lo ≤ m) (h2 : m ≤ hi) : Rot d d lo m hi := by
  refine ⟨rfl, fun k => ?_⟩
  by_cases h3 : lo ≤ k ∧ k < lo + (hi - m)
  · rw [if_pos h3]; exact get_eq d (by omega)
  · rw [if_neg h3]
    by_cases h4 : lo + (hi - m) ≤ k ∧ k < hi
    · rw [if_pos h4]; exact get_eq d (by omega)
    · rw [if_neg h4]
theorem Rot.same {d d' : Array α} {m i : Nat} (h : SwR d d' (m - i) m i) (hi : i ≤ m) : Rot d d' (m - i) m (m + i) := by
  refine ⟨h.1, fun k => ?_⟩
  rw [h.2]
  by_cases h1 : m - i ≤ k ∧ k < m - i + i
  · rw [if_pos h1, if_pos (by omega)]
  · rw [if_neg h1]
    by_cases h2 : m ≤ k ∧ k < m + i
    · rw [if_pos h2, if_neg (show ¬ (m - i ≤ k ∧ k < m - i + (m + i - m)) by omega), if_pos (by omega)]; exact get_eq d (by omega)
    · rw [if_neg h2, if_neg (show ¬ (m - i ≤ k ∧ k < m - i + (m + i - m)) by omega), if_neg (by omega)]
theorem Rot.left {d d1 d' : Array α} {m i j : Nat} (h : SwR d d1 (m - i) m j) (hr : Rot d1 d' (m - (i - j)) m (m + j)) (hi : i ≤ m) (hj : j < i) : Rot d d' (m - i) m (m + j) := by
  refine ⟨hr.1.trans h.1, fun k => ?_⟩
  rw [hr.2, h.2, h.2, h.2]
  by_cases c1 : m - (i - j) ≤ k ∧ k < m - (i - j) + (m + j - m)
  · rw [if_pos c1, if_neg (by omega), if_pos (by omega)]
    by_cases c2 : m - i ≤ k ∧ k < m - i + (m + j - m)
    · omega
    · rw [if_neg c2, if_pos (by omega)]; exact get_eq d (by omega)
  · rw [if_neg c1]
    by_cases c2 : m - (i - j) + (m + j - m) ≤ k ∧ k < m + j
    · rw [if_pos c2, if_neg (by omega)]
      rw [if_neg (show ¬ (m - i ≤ k ∧ k < m - i + (m + j - m)) by omega), if_pos (show m - i + (m + j - m) ≤ k ∧ k < m + j by omega)]
      by_cases c3 : m ≤ m - (i - j) + (k - (m - (i - j) + (m + j - m))) ∧ m - (i - j) + (k - (m - (i - j) + (m + j - m))) < m + j
      · omega
      · rw [if_neg c3]; exact get_eq d (by omega)
    · rw [if_neg c2]
      by_cases c3 : m - i ≤ k ∧ k < m - i + j
      · rw [if_pos c3, if_pos (by omega)]
      · rw [if_neg c3, if_neg (by omega), if_neg (by omega), if_neg (by omega)]
theorem Rot.right {d d1 d' : Array α} {m i j : Nat} (h : SwR d d1 (m - i) (m + j - i) i) (hr : Rot d1 d' (m - i) m (m + (j - i))) (hi : i ≤ m) (hj : i < j) : Rot d d' (m - i) m (m + j) := by
  refine ⟨hr.1.trans h.1, fun k => ?_⟩
  rw [hr.2, h.2, h.2, h.2]
  by_cases c1 : m - i ≤ k ∧ k < m - i + (m + (j - i) - m)
  · rw [if_pos c1, if_pos (show m - i ≤ k ∧ k < m - i + (m + j - m) by omega), if_neg (by omega)]
    by_cases c2 : m + j - i ≤ m + (k - (m - i)) ∧ m + (k - (m - i)) < m + j - i + i
    · omega
    · rw [if_neg c2]
  · rw [if_neg c1]
    by_cases c2 : m - i + (m + (j - i) - m) ≤ k ∧ k < m + (j - i)
    · rw [if_pos c2, if_pos (by omega), if_pos (show m - i ≤ k ∧ k < m - i + (m + j - m) by omega)]; exact get_eq d (by omega)
    · rw [if_neg c2]
      by_cases c3 : m + j - i ≤ k ∧ k < m + j - i + i
      · rw [if_neg (show ¬ (m - i ≤ k ∧ k < m - i + i) by omega), if_pos c3, if_neg (by omega), if_pos (by omega)]; exact get_eq d (by omega)
      · rw [if_neg (show ¬ (m - i ≤ k ∧ k < m - i + i) by omega), if_neg c3, if_neg (by omega), if_neg (by omega)]
/-- one more step of an insertion to the right -/
theorem Rot.push {d d1 : Array α} {a k : Nat} (h : Rot d d1 a (a + 1) (k + 1)) (hk : a ≤ k) (hs : k + 1 < d.size) : Rot d (swp d1 k (k + 1)) a (a + 1) (k + 2) := by
  refine ⟨by rw [swp_size, h.1], fun x => ?_⟩
  rw [swp_get d1 (by rw [h.1]; omega) (by rw [h.1]; omega), h.2, h.2, h.2]
  by_cases h1 : x = k + 1
  · rw [if_pos h1, if_neg (by omega), if_pos (by omega), if_neg (by omega), if_pos (by omega)]; exact get_eq d (by omega)
  · rw [if_neg h1]
    by_cases h2 : x = k
    · rw [if_pos h2, if_neg (by omega), if_neg (by omega), if_pos (by omega)]; exact get_eq d (by omega)
    · rw [if_neg h2]
      by_cases h3 : a ≤ x ∧ x < a + (k + 1 - (a + 1))
      · rw [if_pos h3, if_pos (by omega)]
      · rw [if_neg h3, if_neg (by omega), if_neg (by omega), if_neg (by omega)]
/-- one more step of an insertion to the left: what stood at m has come down to k -/
theorem Rot.pull {d d1 : Array α} {m k : Nat} (h : Rot d d1 k m (m + 1)) (h0 : 0 < k) (hk : k ≤ m) (hs : m < d.size) : Rot d (swp d1 k (k - 1)) (k - 1) m (m + 1) := by
  refine ⟨by rw [swp_size, h.1], fun x => ?_⟩
  rw [swp_get d1 (by rw [h.1]; omega) (by rw [h.1]; omega), h.2, h.2, h.2]
  by_cases h1 : x = k - 1
  · rw [if_pos h1, if_pos (by omega), if_pos (by omega)]; exact get_eq d (by omega)
  · rw [if_neg h1]
    by_cases h2 : x = k
    · rw [if_pos h2, if_neg (by omega), if_neg (by omega), if_neg (by omega), if_pos (by omega)]; exact get_eq d (by omega)
    · rw [if_neg h2]
      by_cases h3 : k ≤ x ∧ x < k + (m + 1 - m)
      · omega
      · rw [if_neg h3, if_neg (show ¬ (k - 1 ≤ x ∧ x < k - 1 + (m + 1 - m)) by omega)]
        by_cases h4 : k + (m + 1 - m) ≤ x ∧ x < m + 1
        · rw [if_pos h4, if_pos (by omega)]; exact get_eq d (by omega)
        · rw [if_neg h4, if_neg (by omega)]

/-- each of [a,b) is at most each of [c,e) -/
def LeR (lt : α → α → Bool) (d : Array α) (a b c e : Nat) : Prop := ∀ i j, a ≤ i → i < b → c ≤ j → j < e → lt d[j]! d[i]! = false
theorem Rot.get1 {d d' : Array α} {lo m hi : Nat} (h : Rot d d' lo m hi) {k : Nat} (h1 : lo ≤ k) (h2 : k < lo + (hi - m)) : d'[k]! = d[m + (k - lo)]! := by rw [h.2, if_pos ⟨h1, h2⟩]
theorem Rot.get2 {d d' : Array α} {lo m hi : Nat} (h : Rot d d' lo m hi) {k : Nat} (h1 : lo + (hi - m) ≤ k) (h2 : k < hi) : d'[k]! = d[lo + (k - (lo + (hi - m)))]! := by rw [h.2, if_neg (by omega), if_pos ⟨h1, h2⟩]
theorem Rot.get3 {d d' : Array α} {lo m hi : Nat} (h : Rot d d' lo m hi) (h0 : lo ≤ m) (h00 : m ≤ hi) {k : Nat} (h1 : k < lo ∨ hi ≤ k) : d'[k]! = d[k]! := by rw [h.2, if_neg (by omega), if_neg (by omega)]
section
variable {d d' : Array α} {a s m e b : Nat}
theorem rot_a1 (hr : Rot d d' s m e) (hA : SortedIn lt a m d) (h1 : a ≤ s) (h2 : s ≤ m) (h3 : m ≤ e) : SortedIn lt a s d' := by
  intro i j hi hij hj
  rw [hr.get3 h2 h3 (by omega), hr.get3 h2 h3 (by omega)]
  exact hA i j hi hij (by omega)
theorem rot_b1 (hr : Rot d d' s m e) (hB : SortedIn lt m b d) (h4 : e ≤ b) : SortedIn lt s (s + (e - m)) d' := by
  intro i j hi hij hj
  rw [hr.get1 (by omega) (by omega), hr.get1 (by omega) (by omega)]
  exact hB _ _ (by omega) (by omega) (by omega)
theorem rot_a2 (hr : Rot d d' s m e) (hA : SortedIn lt a m d) (h1 : a ≤ s) (h2 : s ≤ m) (h3 : m ≤ e) : SortedIn lt (s + (e - m)) e d' := by
  intro i j hi hij hj
  rw [hr.get2 (by omega) (by omega), hr.get2 (by omega) (by omega)]
  exact hA _ _ (by omega) (by omega) (by omega)
theorem rot_b2 (hr : Rot d d' s m e) (hB : SortedIn lt m b d) (h2 : s ≤ m) (h3 : m ≤ e) : SortedIn lt e b d' := by
  intro i j hi hij hj
  rw [hr.get3 h2 h3 (by omega), hr.get3 h2 h3 (by omega)]
  exact hB i j (by omega) hij hj
/-- behind the rotation the first half stands below the second one -/
theorem rot_le (hr : Rot d d' s m e) (hA : SortedIn lt a m d) (hB : SortedIn lt m b d) (h1 : a ≤ s) (h2 : s ≤ m) (h3 : m ≤ e) (h4 : e ≤ b) (hS : SWO lt)
    (hab : LeR lt d a s e b) (hba : LeR lt d m e s m) : LeR lt d' a (s + (e - m)) (s + (e - m)) b := by
  intro i j hi1 hi2 hj1 hj2
  by_cases c1 : i < s
  · rw [hr.get3 h2 h3 (k := i) (.inl c1)]
    by_cases c2 : j < e
    · rw [hr.get2 (k := j) (by omega) c2]
      exact hA _ _ (by omega) (by omega) (by omega)
    · rw [hr.get3 h2 h3 (k := j) (by omega)]
      exact hab _ _ (by omega) (by omega) (by omega) (by omega)
  · rw [hr.get1 (k := i) (by omega) (by omega)]
    by_cases c2 : j < e
    · rw [hr.get2 (k := j) (by omega) c2]
      exact hba _ _ (by omega) (by omega) (by omega) (by omega)
    · rw [hr.get3 h2 h3 (k := j) (by omega)]
      exact hB _ _ (by omega) (by omega) (by omega)
theorem sorted_join (h1 : SortedIn lt a m d) (h2 : SortedIn lt m b d) (h : LeR lt d a m m b) : SortedIn lt a b d := by
  intro i j hi hij hj
  by_cases c1 : j < m
  · exact h1 i j hi hij c1
  · by_cases c2 : i < m
    · exact h i j hi c2 (by omega) hj
    · exact h2 i j (by omega) hij hj
theorem le_perm {d1 d2 : Array α} (h : LeR lt d a m m b) (hm : m ≤ b) (hb : b ≤ d.size) (ha : a ≤ m) (h1 : PermIn a m d d1) (h2 : PermIn m b d1 d2) : LeR lt d2 a m m b := by
  have e1 : LeR lt d1 a m m b := by
    intro i j hi1 hi2 hj1 hj2
    rw [h1.2.1 j (.inr hj1)]
    exact permIn_all d d1 a m (fun x => lt d[j]! x = false) (by omega) h1 (fun i h3 h4 => h i j h3 h4 hj1 hj2) i hi1 hi2
  intro i j hi1 hi2 hj1 hj2
  rw [h2.2.1 i (.inl hi2)]
  exact permIn_all d1 d2 m b (fun x => lt x d1[i]! = false) (by rw [h1.1]; exact hb) h2 (fun j h3 h4 => e1 i j hi1 hi2 h3 h4) j hj1 hj2
theorem sorted_perm {d1 : Array α} (h : SortedIn lt a m d) (h1 : PermIn m b d d1) : SortedIn lt a m d1 := by
  intro i j hi hij hj
  rw [h1.2.1 i (.inl (by omega)), h1.2.1 j (.inl (by omega))]
  exact h i j hi hij hj
theorem sorted_perm' {d1 : Array α} (h : SortedIn lt m b d) (h1 : PermIn a m d d1) : SortedIn lt m b d1 := by
  intro i j hi hij hj
  rw [h1.2.1 i (.inr (by omega)), h1.2.1 j (.inr (by omega))]
  exact h i j hi hij hj
theorem sorted_none (h : b ≤ a + 1) : SortedIn lt a b d := fun i j h1 h2 h3 => by omega
end

/-- of [lo,hi) those below s are not more, those from r on are more than their partners -/
structure Seek (lt : α → α → Bool) (d : Array α) (p lo s r hi : Nat) : Prop where
  l1 : lo ≤ s
  l2 : s ≤ r
  l3 : r ≤ hi
  low : ∀ c, lo ≤ c → c < s → lt d[p - c]! d[c]! = false
  high : ∀ c, r ≤ c → c < hi → lt d[p - c]! d[c]! = true
section
variable {d : Array α} {a m b p lo s r hi : Nat}
theorem Seek.start (h : lo ≤ hi) : Seek lt d p lo lo hi hi := ⟨Nat.le_refl _, h, Nat.le_refl _, fun c _ _ => by omega, fun c _ _ => by omega⟩
/-- where its partners lie -/
structure Pairs (a m b p lo hi : Nat) : Prop where
  l1 : a ≤ lo
  l2 : hi ≤ m
  l3 : ∀ c, lo ≤ c → c < hi → m ≤ p - c ∧ p - c < b ∧ c ≤ p
theorem Seek.up (h : Seek lt d p lo s r hi) (hP : Pairs a m b p lo hi) (hS : SWO lt) (hA : SortedIn lt a m d) (hB : SortedIn lt m b d) {c : Nat} (h1 : s ≤ c) (h2 : c < r) (hc : lt d[p - c]! d[c]! = false) : Seek lt d p lo (c + 1) r hi := by
  refine ⟨by have := h.l1; omega, by omega, h.l3, fun x hx1 hx2 => ?_, h.high⟩
  by_cases e : x = c
  · rw [e]; exact hc
  · have hr := h.l3
    have h3 := hP.l3 c (by have := h.l1; omega) (by omega)
    have h4 := hP.l3 x hx1 (by omega)
    have h5 := hP.l1
    have h6 := hP.l2
    have e1 : lt d[c]! d[x]! = false := hA x c (by omega) (by omega) (by omega)
    have e2 : lt d[p - x]! d[p - c]! = false := hB (p - c) (p - x) (by omega) (by omega) (by omega)
    exact hS.ntrans _ _ _ (hS.ntrans _ _ _ e2 hc) e1
theorem Seek.down (h : Seek lt d p lo s r hi) (hP : Pairs a m b p lo hi) (hS : SWO lt) (hA : SortedIn lt a m d) (hB : SortedIn lt m b d) {c : Nat} (h1 : s ≤ c) (h2 : c < r) (hc : lt d[p - c]! d[c]! = true) : Seek lt d p lo s c hi := by
  refine ⟨h.l1, h1, by have := h.l3; omega, h.low, fun x hx1 hx2 => ?_⟩
  by_cases e : x = c
  · rw [e]; exact hc
  · cases hx : lt d[p - x]! d[x]! with
    | true => rfl
    | false =>
      have hr := h.l3
      have hl := h.l1
      have h3 := hP.l3 c (by omega) (by omega)
      have h4 := hP.l3 x (by omega) (by omega)
      have h5 := hP.l1
      have h6 := hP.l2
      have e1 : lt d[x]! d[c]! = false := hA c x (by omega) (by omega) (by omega)
      have e2 : lt d[p - c]! d[p - x]! = false := hB (p - x) (p - c) (by omega) (by omega) (by omega)
      have := hS.ntrans _ _ _ (hS.ntrans _ _ _ e2 hx) e1
      rw [hc] at this; cases this
end
theorem wle (hS : SWO lt) {d : Array α} {a m : Nat} (hA : SortedIn lt a m d) {i j : Nat} (h1 : a ≤ i) (h2 : i ≤ j) (h3 : j < m) : lt d[j]! d[i]! = false := by
  by_cases e : i = j
  · rw [e]; exact hS.irrefl _
  · exact hA i j h1 (by omega) h3
/-- what the search has found: [a,s) [m,e) stay below [s,m) [e,b) -/
theorem seek_le {d : Array α} {a m b p lo s hi e : Nat} (hS : SWO lt) (hA : SortedIn lt a m d) (hB : SortedIn lt m b d) (h : Seek lt d p lo s s hi) (hP : Pairs a m b p lo hi) (he : e + s = p + 1)
    (h1 : lo = a ∨ b + lo = p + 1) (h2 : hi = m ∨ m + hi = p + 1) : LeR lt d a s e b ∧ LeR lt d m e s m := by
  have l1 := h.l1
  have l3 := h.l3
  have p1 := hP.l1
  have p2 := hP.l2
  constructor
  · intro i j hi1 hi2 hj1 hj2
    have hlo : lo < s := by
      rcases h1 with h1 | h1 <;> omega
    have h3 := hP.l3 (s - 1) (by omega) (by omega)
    have h4 := h.low (s - 1) (by omega) (by omega)
    have e1 : p - (s - 1) = e := by omega
    rw [e1] at h3 h4
    exact hS.ntrans _ _ _ (hS.ntrans _ _ _ (wle hS hB h3.1 hj1 hj2) h4) (wle hS hA hi1 (by omega) (by omega))
  · intro i j hi1 hi2 hj1 hj2
    have hhi : s < hi := by
      rcases h2 with h2 | h2 <;> omega
    have h3 := hP.l3 s (by omega) (by omega)
    have h4 := h.high s (by omega) (by omega)
    have e1 : p - s = e - 1 := by omega
    rw [e1] at h3 h4
    have h5 : lt d[s]! d[e - 1]! = false := hS.asymmA h4
    exact hS.ntrans _ _ _ (hS.ntrans _ _ _ (wle hS hA (by omega) hj1 hj2) h5) (wle hS hB hi1 (by omega) (by omega))
theorem half_none {d : Array α} {a i b : Nat} (h1 : SortedIn lt a i d) (h2 : SortedIn lt i b d) (h : i ≤ a ∨ b ≤ i) : SortedIn lt a b d := by
  intro x y hx hxy hy
  rcases h with h | h
  · exact h2 x y (by omega) hxy hy
  · exact h1 x y hx hxy (by omega)
theorem sorted_out {d d1 : Array α} {a m e b : Nat} (h : SortedIn lt e b d) (h1 : PermIn a m d d1) (hm : m ≤ e) : SortedIn lt e b d1 := by
  intro i j hi hij hj
  rw [h1.2.1 i (.inr (by omega)), h1.2.1 j (.inr (by omega))]
  exact h i j hi hij hj
/-- both halves sorted, the first below the second -/
theorem merge_done {d d1 d2 d3 : Array α} {a mid b : Nat} (h1 : a ≤ mid) (h2 : mid ≤ b) (hb : b ≤ d.size) (hs : d1.size = d.size) (hp : PermIn a b d d1) (p2 : PermIn a mid d1 d2) (s2 : SortedIn lt a mid d2) (p3 : PermIn mid b d2 d3) (s3 : SortedIn lt mid b d3) (hl : LeR lt d1 a mid mid b) :
    PermIn a b d d3 ∧ SortedIn lt a b d3 := by
  have hs2 := p2.1
  refine ⟨permIn_trans _ _ _ _ _ hp (permIn_trans _ _ _ _ _ (permIn_mono _ _ _ _ _ _ (Nat.le_refl _) h2 (by omega) p2) (permIn_mono _ _ _ _ _ _ h1 (Nat.le_refl _) (by omega) p3)), ?_⟩
  exact sorted_join (sorted_perm s2 p3) s3 (le_perm hl h2 (by omega) h1 p2 p3)
theorem ins_right {d d' : Array α} {a i b : Nat} (hS : SWO lt) (hB : SortedIn lt (a + 1) b d) (h1 : ∀ x, a + 1 ≤ x → x < i → lt d[x]! d[a]! = true) (h2 : ∀ x, i ≤ x → x < b → lt d[x]! d[a]! = false) (hr : Rot d d' a (a + 1) i) (l1 : a + 1 ≤ i) (l2 : i ≤ b) : SortedIn lt a b d' := by
  have hA : SortedIn lt a (a + 1) d := sorted_none (by omega)
  refine sorted_join (m := a + (i - (a + 1))) (rot_b1 hr hB l2) (sorted_join (m := i) (rot_a2 hr hA (Nat.le_refl _) (by omega) l1) (rot_b2 hr hB (by omega) l1) ?_) ?_
  · intro x y hx1 hx2 hy1 hy2
    rw [hr.get2 (k := x) (by omega) hx2, hr.get3 (by omega) l1 (k := y) (by omega), show a + (x - (a + (i - (a + 1)))) = a by omega]
    exact h2 y hy1 hy2
  · refine rot_le hr hA hB (Nat.le_refl _) (by omega) l1 l2 hS (fun x y hx1 hx2 => by omega) ?_
    intro x y hx1 hx2 hy1 hy2
    rw [show y = a by omega]
    exact hS.asymmA (h1 x hx1 hx2)
theorem ins_left {d d' : Array α} {a i m : Nat} (hS : SWO lt) (hA : SortedIn lt a m d) (h1 : ∀ x, a ≤ x → x < i → lt d[m]! d[x]! = false) (h2 : ∀ x, i ≤ x → x < m → lt d[m]! d[x]! = true) (hr : Rot d d' i m (m + 1)) (l1 : a ≤ i) (l2 : i ≤ m) : SortedIn lt a (m + 1) d' := by
  have hB : SortedIn lt m (m + 1) d := sorted_none (by omega)
  refine sorted_join (m := i + (m + 1 - m)) (sorted_join (m := i) (rot_a1 hr hA l1 l2 (by omega)) (rot_b1 hr hB (Nat.le_refl _)) ?_) (rot_a2 hr hA l1 l2 (by omega)) ?_
  · intro x y hx1 hx2 hy1 hy2
    rw [hr.get1 (k := y) hy1 (by omega), hr.get3 l2 (by omega) (k := x) (by omega), show m + (y - i) = m by omega]
    exact h1 x hx1 hx2
  · refine rot_le hr hA hB l1 l2 (by omega) (Nat.le_refl _) hS (fun x y hx1 hx2 hy1 hy2 => by omega) ?_
    intro x y hx1 hx2 hy1 hy2
    rw [show x = m by omega]
    exact hS.asymmA (h2 y hy1 hy2)
/-- the two halves of a search for a place to the right -/
theorem seekR_up {d : Array α} {a m b h : Nat} (hS : SWO lt) (hB : SortedIn lt m b d) (h1 : h < b) (hl : lt d[h]! d[a]! = true) : ∀ x, m ≤ x → x < h + 1 → lt d[x]! d[a]! = true := by
  intro x hx1 hx2
  cases hx : lt d[x]! d[a]! with
  | true => rfl
  | false =>
    have := hS.ntrans _ _ _ (wle hS hB hx1 (show x ≤ h by omega) h1) hx
    rw [hl] at this; cases this
theorem seekR_down {d : Array α} {a m b h : Nat} (hS : SWO lt) (hB : SortedIn lt m b d) (h1 : m ≤ h) (hl : lt d[h]! d[a]! = false) : ∀ x, h ≤ x → x < b → lt d[x]! d[a]! = false :=
  fun x hx1 hx2 => hS.ntrans _ _ _ (wle hS hB h1 hx1 hx2) hl
theorem seekL_up {d : Array α} {a m h : Nat} (hS : SWO lt) (hA : SortedIn lt a m d) (h1 : h < m) (hl : lt d[m]! d[h]! = false) : ∀ x, a ≤ x → x < h + 1 → lt d[m]! d[x]! = false :=
  fun x hx1 hx2 => hS.ntrans _ _ _ hl (wle hS hA hx1 (show x ≤ h by omega) h1)
theorem seekL_down {d : Array α} {a m h : Nat} (hS : SWO lt) (hA : SortedIn lt a m d) (h1 : a ≤ h) (hl : lt d[m]! d[h]! = true) : ∀ x, h ≤ x → x < m → lt d[m]! d[x]! = true := by
  intro x hx1 hx2
  cases hx : lt d[m]! d[x]! with
  | true => rfl
  | false =>
    have := hS.ntrans _ _ _ hx (wle hS hA h1 hx1 hx2)
    rw [hl] at this; cases this
def Dist (d : Array α) : Prop := ∀ i j, i < d.size → j < d.size → d[i]! = d[j]! → i = j
theorem dist_nodup {d : Array α} : Dist d ↔ d.toList.Nodup := by
  constructor
  · intro h
    refine List.pairwise_iff_getElem.2 fun i j hi hj hij e => ?_
    have hi' : i < d.size := by simpa using hi
    have hj' : j < d.size := by simpa using hj
    have := h i j hi' hj' (by rw [getElem!_pos d i hi', getElem!_pos d j hj']; simpa using e)
    omega
  · intro h i j hi hj e
    rw [getElem!_pos d i hi, getElem!_pos d j hj] at e
    have hp := List.pairwise_iff_getElem.1 h
    rcases Nat.lt_trichotomy i j with h1 | h1 | h1
    · exact absurd (show d.toList[i]'(by simpa using hi) = d.toList[j]'(by simpa using hj) by rw [Array.getElem_toList, Array.getElem_toList]; exact e) (hp i j (by simpa using hi) (by simpa using hj) h1)
    · exact h1
    · exact absurd (show d.toList[j]'(by simpa using hj) = d.toList[i]'(by simpa using hi) by rw [Array.getElem_toList, Array.getElem_toList]; exact e.symm) (hp j i (by simpa using hj) (by simpa using hi) h1)
theorem perm_whole {d d' : Array α} {a b : Nat} (h : PermIn a b d d') (hb : b ≤ d.size) : d'.toList.Perm d.toList := by
  by_cases hab : a ≤ b
  · have h1 := permIn_mono d d' a b 0 d.size (Nat.zero_le _) hb (Nat.le_refl _) h
    have e1 : d'.extract 0 d.size = d' := by rw [← h1.1]; simp
    have e2 : d.extract 0 d.size = d := by simp
    have := h1.2.2
    rw [e1, e2] at this; exact this
  · have : d' = d := by
      apply Array.ext
      · exact h.1
      · intro i h1 h2
        have := h.2.1 i (by omega)
        rwa [getElem!_pos d' i h1, getElem!_pos d i h2] at this
    rw [this]
theorem dist_perm {d d' : Array α} {a b : Nat} (h : PermIn a b d d') (hb : b ≤ d.size) (hd : Dist d) : Dist d' := dist_nodup.2 ((perm_whole h hb).nodup_iff.2 (dist_nodup.1 hd))
theorem dist_swp {d : Array α} {i j : Nat} (hi : i < d.size) (hj : j < d.size) (hd : Dist d) : Dist (swp d i j) := dist_perm (swp_permIn d 0 d.size i j (Nat.zero_le _) hi (Nat.zero_le _) hj (Nat.le_refl _)) (Nat.le_refl _) hd
theorem insInner_congr {l1 l2 : α → α → Bool} (h : ∀ x y, x ≠ y → l1 x y = l2 x y) {a : Nat} : ∀ (j : Nat) (d : Array α), j < d.size → Dist d → insInner l1 a j d = insInner l2 a j d ∧ Dist (insInner l2 a j d) ∧ (insInner l2 a j d).size = d.size
  | 0, d, _, hd => ⟨rfl, hd, rfl⟩
  | j + 1, d, hj, hd => by
    have hne : d[j + 1]! ≠ d[j]! := fun e => by have := hd (j + 1) j hj (by omega) e; omega
    unfold insInner
    rw [h _ _ hne]
    by_cases hc : (decide (j + 1 > a) && l2 d[j + 1]! d[j]!) = true
    · rw [if_pos hc, if_pos hc]
      obtain ⟨h1, h2, h3⟩ := insInner_congr h j (swp d (j + 1) j) (by rw [swp_size]; omega) (dist_swp hj (by omega) hd)
      exact ⟨h1, h2, by rw [h3, swp_size]⟩
    · rw [if_neg hc, if_neg hc]; exact ⟨rfl, hd, rfl⟩
theorem insOuter_congr {l1 l2 : α → α → Bool} (h : ∀ x y, x ≠ y → l1 x y = l2 x y) {a b : Nat} : ∀ (n i : Nat) (d : Array α), b - i ≤ n → b ≤ d.size → Dist d → insOuter l1 a b i d = insOuter l2 a b i d := by
  intro n
  induction n with
  | zero =>
    intro i d hn hb hd
    unfold insOuter
    rw [if_neg (by omega), if_neg (by omega)]
  | succ n ih =>
    intro i d hn hb hd
    unfold insOuter
    by_cases hi : i < b
    · rw [if_pos hi, if_pos hi]
      obtain ⟨h1, h2, h3⟩ := insInner_congr h (a := a) i d (by omega) hd
      rw [h1]
      exact ih (i + 1) _ (by omega) (by omega) h2
    · rw [if_neg hi, if_neg hi]
theorem insertionSort_congr {l1 l2 : α → α → Bool} (h : ∀ x y, x ≠ y → l1 x y = l2 x y) {d : Array α} {a b : Nat} (hb : b ≤ d.size) (hd : Dist d) : insertionSort l1 d a b = insertionSort l2 d a b := insOuter_congr h b (a + 1) d (by omega) hb hd
end Go.Stab

