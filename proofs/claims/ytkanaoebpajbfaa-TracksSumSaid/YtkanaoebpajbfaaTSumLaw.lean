/- Plain laws: what two logs show together. No program is in sight here. -/
import Derived.Test.YtkanaoebpajbfaaTracksLaw
import Derived.Lib.SlicesCompact
namespace Go.Tok
open Go.RowKit Go.Lib
set_option linter.unusedVariables false
section
variable {α : Type} [Inhabited α] [DecidableEq α]
/-- what is compacted so far -/
structure CompS (R : α → α → Prop) (d : Array α) (m : Nat) : Prop where
  mem : ∀ x ∈ compactUpTo d m, ∃ i, i < m ∧ x = d[i]!
  cov : ∀ i, i < m → d[i]! ∈ compactUpTo d m
  nd : (compactUpTo d m).Nodup
  srt : (compactUpTo d m).Pairwise R
theorem compact_inv {R : α → α → Prop} (anti : ∀ a b, R a b → R b a → a = b) {d : Array α} (hs : ∀ i j, i < j → j < d.size → R d[i]! d[j]!) : ∀ m, m ≤ d.size → CompS R d m := by
  intro m
  induction m with
  | zero => intro _; exact ⟨fun x hx => by simp [compactUpTo] at hx, fun i hi => by omega, by simp [compactUpTo], by simp [compactUpTo]⟩
  | succ m ih =>
    intro hm
    obtain ⟨h1, h2, h3, h4⟩ := ih (by omega)
    have e := compactUpTo_succ d m
    by_cases hk : keeps d m = true
    · rw [if_pos hk] at e
      have hne : ∀ i, i < m → d[i]! ≠ d[m]! := by
        intro i hi he
        have hk' : m = 0 ∨ d[m]! ≠ d[m - 1]! := by simpa [keeps] using hk
        have hk2 : d[m]! ≠ d[m - 1]! := by rcases hk' with h | h; omega; exact h
        by_cases him : i = m - 1
        · subst him; exact hk2 he.symm
        · have r1 := hs i (m - 1) (by omega) (by omega)
          have r2 := hs (m - 1) m (by omega) (by omega)
          rw [he] at r1
          exact hk2 (anti _ _ r1 r2)
      refine ⟨fun x hx => ?_, fun i hi => ?_, ?_, ?_⟩
      · rw [e] at hx
        rcases List.mem_append.1 hx with h | h
        · obtain ⟨i, hi, hx⟩ := h1 x h; exact ⟨i, by omega, hx⟩
        · exact ⟨m, by omega, List.mem_singleton.1 h⟩
      · rw [e, List.mem_append]
        by_cases him : i = m
        · subst him; exact .inr (List.mem_singleton.2 rfl)
        · exact .inl (h2 i (by omega))
      · rw [e, List.nodup_append]
        refine ⟨h3, by simp, fun a ha b hb => ?_⟩
        obtain ⟨i, hi, rfl⟩ := h1 a ha
        rw [List.mem_singleton.1 hb]
        exact hne i hi
      · rw [e, List.pairwise_append]
        refine ⟨h4, by simp, fun a ha b hb => ?_⟩
        obtain ⟨i, hi, rfl⟩ := h1 a ha
        rw [List.mem_singleton.1 hb]
        exact hs i m hi (by omega)
    · rw [if_neg hk, List.append_nil] at e
      have hk' : ¬ (m = 0 ∨ d[m]! ≠ d[m - 1]!) := by simpa [keeps] using hk
      have hm0 : m ≠ 0 := fun h => hk' (.inl h)
      have he : d[m]! = d[m - 1]! := Classical.byContradiction fun h => hk' (.inr h)
      rw [← e] at h3 h4
      refine ⟨fun x hx => ?_, fun i hi => ?_, h3, h4⟩
      · rw [e] at hx
        obtain ⟨i, hi, hx⟩ := h1 x hx; exact ⟨i, by omega, hx⟩
      · rw [e]
        by_cases him : i = m
        · subst him; rw [he]; exact h2 _ (by omega)
        · exact h2 i (by omega)
theorem compact_rises {R : α → α → Prop} (anti : ∀ a b, R a b → R b a → a = b) {l : List α} (hs : l.Pairwise R) : (compactUpTo l.toArray l.length).Nodup ∧ (∀ x, x ∈ compactUpTo l.toArray l.length ↔ x ∈ l) ∧ (compactUpTo l.toArray l.length).Pairwise R := by
  have hg : ∀ i (h : i < l.length), l.toArray[i]! = l[i] := fun i h => by rw [getElem!_pos _ i (by simpa using h)]; simp
  have h := compact_inv anti (d := l.toArray) (fun i j hij hj => by
    have hj' : j < l.length := by simpa using hj
    rw [hg i (by omega), hg j hj']
    exact List.pairwise_iff_getElem.1 hs i j (by omega) hj' hij) l.length (by simp)
  refine ⟨h.nd, fun x => ⟨fun hx => ?_, fun hx => ?_⟩, h.srt⟩
  · obtain ⟨i, hi, rfl⟩ := h.mem x hx
    rw [hg i hi]; exact List.getElem_mem hi
  · obtain ⟨i, hi, rfl⟩ := List.getElem_of_mem hx
    rw [← hg i hi]; exact h.cov i hi
end
theorem sum_ints {p q r : List Int} (hn : r.Nodup) (h : ∀ x, x ∈ r ↔ x ∈ p ∨ x ∈ q) : sortI r = Go.Lib.compact (sortI (sortI p ++ sortI q)) := by
  have hc := compact_rises anti_le (sortI_sorted (sortI p ++ sortI q))
  refine sortI_is ((List.perm_ext_iff_of_nodup hc.1 hn).2 fun x => ?_) hc.2.2
  rw [h]
  refine (hc.2.1 x).trans ?_
  rw [mem_sortI, List.mem_append, mem_sortI, mem_sortI]
theorem sum_pairs {p q r : List (Int × Int)} (hn : r.Nodup) (h : ∀ x, x ∈ r ↔ x ∈ p ∨ x ∈ q) : sortP r = compactUpTo (sortP (sortP p ++ sortP q)).toArray (sortP (sortP p ++ sortP q)).length := by
  have hc := compact_rises anti_leP (sortP_sorted (sortP p ++ sortP q))
  refine sortP_is ((List.perm_ext_iff_of_nodup hc.1 hn).2 fun x => ?_) hc.2.2
  rw [h]
  refine (hc.2.1 x).trans ?_
  rw [mem_sortP, List.mem_append, mem_sortP, mem_sortP]
/-- the parts of what two logs show -/
structure SumS (X Y Z : PrintD) : Prop where
  labels : Z.labels = Go.Lib.compact (sortI (X.labels ++ Y.labels))
  first : Z.first = Go.Lib.compact (sortI (X.first ++ Y.first))
  last : Z.last = Go.Lib.compact (sortI (X.last ++ Y.last))
  behind : Z.behind = compactUpTo (sortP (X.behind ++ Y.behind)).toArray (sortP (X.behind ++ Y.behind)).length
theorem or_ex {α : Type} {p : α → Prop} {a b : List α} : (∃ t ∈ b ++ a, p t) ↔ (∃ t ∈ a, p t) ∨ ∃ t ∈ b, p t := by
  constructor
  · rintro ⟨t, ht, h⟩
    rcases List.mem_append.1 ht with h1 | h1
    · exact .inr ⟨t, h1, h⟩
    · exact .inl ⟨t, h1, h⟩
  · rintro (⟨t, ht, h⟩ | ⟨t, ht, h⟩)
    · exact ⟨t, List.mem_append_right _ ht, h⟩
    · exact ⟨t, List.mem_append_left _ ht, h⟩
theorem sum_said {a b : List (List Int)} (ha : (ofT a).2 = 0) (hb : (ofT b).2 = 0) : ((ofT (b ++ a)).2 = 0 ∧ SumS (ofT a).1 (ofT b).1 (ofT (b ++ a)).1) ∨ (ofT (b ++ a)).2 = 4 := by
  have hok : ∀ {l : List (List Int)}, (ofT l).2 = 0 → wrongT l = 0 := fun {l} h => by
    apply Classical.byContradiction
    intro hn
    unfold ofT at h
    rw [if_neg hn] at h
    exact hn h
  have wa := hok ha
  have wb := hok hb
  by_cases hz : wrongT (b ++ a) = 0
  · left
    have e : ∀ l, wrongT l = 0 → ofT l = (⟨sortI (trkLog l).all, sortI (trkLog l).first, sortI (trkLog l).last, sortP (trkLog l).behind⟩, 0) := fun l h => by unfold ofT; rw [if_pos h]
    rw [e _ wa, e _ wb, e _ hz]
    obtain ⟨n1, n2, n3, n4⟩ := onces_log (b ++ a)
    obtain ⟨s1, s2, s3, s4⟩ := shows_log (b ++ a)
    obtain ⟨a1, a2, a3, a4⟩ := shows_log a
    obtain ⟨b1, b2, b3, b4⟩ := shows_log b
    refine ⟨rfl, sum_ints n1 fun x => ?_, sum_ints n2 fun x => ?_, sum_ints n3 fun x => ?_, sum_pairs n4 fun x => ?_⟩
    · rw [s1, a1, b1]; exact or_ex
    · rw [s2, a2, b2]; exact or_ex
    · rw [s3, a3, b3]; exact or_ex
    · rw [s4, a4, b4]; exact or_ex
  · right
    have e : (ofT (b ++ a)).2 = wrongT (b ++ a) := by unfold ofT; rw [if_neg hz]
    rw [e]
    unfold wrongT at wa wb hz ⊢
    by_cases hl : 60 < (b ++ a).length
    · rw [if_pos hl]
    · exfalso
      rw [if_neg hl] at hz
      rw [List.length_append] at hl
      rw [if_neg (by omega)] at wa wb
      have fa : a.any traceBad = false := by
        cases h : a.any traceBad with
        | false => rfl
        | true => rw [h] at wa; simp at wa
      have fb : b.any traceBad = false := by
        cases h : b.any traceBad with
        | false => rfl
        | true => rw [h] at wb; simp at wb
      rw [List.any_append, fa, fb] at hz
      simp at hz
end Go.Tok
