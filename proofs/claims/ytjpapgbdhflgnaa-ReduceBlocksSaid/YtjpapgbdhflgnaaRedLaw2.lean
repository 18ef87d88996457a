/- What the steps of reduce keep. No program is in sight here. -/
import Derived.Test.YtjpapgbdhflgnaaRed9
namespace Go.Tok
open Go.RowKit
set_option linter.unusedVariables false
def TW (t : TranD) : Prop := (∀ q, 0 ≤ nth t.pre q ∧ nth t.pre q ≤ 9) ∧ ∀ q, 0 ≤ nth t.post q ∧ nth t.post q ≤ 9
/-- a small net that is bounded, and so are its weights -/
structure SmG (s : SmD) : Prop where
  b : SmB s
  w : ∀ t ∈ s.net.trans, TW t
theorem SmG.at_ {s : SmD} (h : SmG s) {k : Nat} (hk : k < s.net.trans.length) : TW (ix s.net.trans k) := by
  rw [ix_lt hk]; exact h.w _ (List.getElem_mem hk)
theorem nth_erase (l : List Int) (p q : Nat) : nth (l.eraseIdx p) q = if q < p then nth l q else nth l (q + 1) := by
  simp only [nth_def, List.getD_eq_getElem?_getD, List.getElem?_eraseIdx]
  split <;> rfl
theorem lessP_tw {t : TranD} (h : TW t) (p : Nat) : TW (lessP p t) := by
  refine ⟨fun q => ?_, fun q => ?_⟩
  · show 0 ≤ nth (t.pre.eraseIdx p) q ∧ nth (t.pre.eraseIdx p) q ≤ 9
    rw [nth_erase]; split <;> exact h.1 _
  · show 0 ≤ nth (t.post.eraseIdx p) q ∧ nth (t.post.eraseIdx p) q ≤ 9
    rw [nth_erase]; split <;> exact h.2 _
theorem SmG.drT {s : SmD} (h : SmG s) (k : Nat) : SmG (dropT s k) := ⟨h.b.drT k, fun t ht => h.w t (List.mem_of_mem_eraseIdx ht)⟩
theorem SmG.drP {s : SmD} (h : SmG s) {p : Nat} (hp : p < s.net.places.toNat) : SmG (dropP s p) := by
  have h1 := h.b.pl
  have h2 := h.b.io
  have sh : ∀ x : Int, 0 ≤ x ∧ x ≤ 1000 → 0 ≤ shiftP p x ∧ shiftP p x ≤ 1000 := fun x hx => by unfold shiftP; split <;> omega
  have hl : ∀ t ∈ s.net.trans, ((lessP p t).pre.length : Int) = s.net.places - 1 ∧ ((lessP p t).post.length : Int) = s.net.places - 1 := fun t ht => by
    obtain ⟨h3, h4⟩ := h.b.rowM ht
    unfold lessP
    simp only
    rw [List.length_eraseIdx_of_lt (by omega), List.length_eraseIdx_of_lt (by omega)]
    omega
  refine ⟨⟨by unfold dropP; simp only; omega, by unfold dropP; simp only [List.length_map]; exact h.b.tl, fun k hk => ?_, sh _ h2.1, sh _ h2.2⟩, fun t ht => ?_⟩
  · have hk' : k < s.net.trans.length := by unfold dropP at hk; simpa using hk
    have e : ix (dropP s p).net.trans k = lessP p (ix s.net.trans k) := by
      rw [ix_lt hk, ix_lt hk']; exact List.getElem_map _
    rw [e]
    have := hl (ix s.net.trans k) (by rw [ix_lt hk']; exact List.getElem_mem hk')
    unfold dropP
    exact this
  · unfold dropP at ht
    simp only at ht
    obtain ⟨u, hu, rfl⟩ := List.mem_map.1 ht
    exact lessP_tw (h.w u hu) p
theorem join_nth {a b : List Int} {p q : Nat} (h : q < a.length) : nth (joinF a b p) q = if q = p then 0 else nth a q + nth b q := by
  rw [← joinK_all, nth_lt (by rw [List.length_set, joinK_len]; exact h), List.getElem_set]
  have := joinK_nth (a := a) (b := b) (k := a.length) h
  rw [nth_lt (by rw [joinK_len]; exact h), if_pos h] at this
  by_cases e : p = q
  · rw [if_pos e, if_pos e.symm]
  · rw [if_neg e, if_neg (fun e' => e e'.symm), this]
structure SerieAt (s : SmD) (p k l : Nat) (s' : SmD) : Prop where
  hp : p < s.net.places.toNat
  hk : k < s.net.trans.length
  hl : l < s.net.trans.length
  ok : onlyF (fun t => nth t.post p) s.net.trans = some k
  ol : onlyF (fun t => nth t.pre p) s.net.trans = some l
  inn : innerB s p = true
  ne : k ≠ l
  sum : sumF (ix s.net.trans l).pre = 1
  mx : maxF (joinF (ix s.net.trans k).post (ix s.net.trans l).post p) ≤ 9
  is : s' = dropP (dropT ⟨⟨s.net.places, s.net.trans.set k ⟨(ix s.net.trans k).label, (ix s.net.trans k).pre, joinF (ix s.net.trans k).post (ix s.net.trans l).post p⟩⟩, s.i, s.o⟩ l) p
theorem serie_some {s s' : SmD} {p : Nat} (hp : p < s.net.places.toNat) (h : serieF s p = some s') : ∃ k l, SerieAt s p k l s' := by
  rcases h1 : onlyF (fun t => nth t.post p) s.net.trans with _ | k
  · rw [serie_no1 h1] at h; cases h
  rcases h2 : onlyF (fun t => nth t.pre p) s.net.trans with _ | l
  · rw [serie_no2 h1 h2] at h; cases h
  rw [serie_is h1 h2] at h
  split at h
  · rename_i hc
    cases h
    exact ⟨k, l, hp, only_lt h1, only_lt h2, h1, h2, hc.1, hc.2.1, hc.2.2.1, hc.2.2.2, rfl⟩
  · cases h
theorem trans_some {s s' : SmD} (h : transF s = some s') : ∃ k, k < s.net.trans.length ∧ dupB s.net.trans k = true ∧ s' = dropT s k := by
  unfold transF at h
  rw [Option.map_eq_some_iff] at h
  obtain ⟨k, h1, rfl⟩ := h
  exact ⟨k, List.mem_range.1 (List.mem_of_find?_eq_some h1), List.find?_some h1, rfl⟩
theorem twin_some {s s' : SmD} (h : twinF s = some s') : ∃ q p, q < s.net.places.toNat ∧ p < q ∧ pairB s q p = true ∧ s' = dropP s q := by
  unfold twinF at h
  rw [Option.map_eq_some_iff] at h
  obtain ⟨q, h1, rfl⟩ := h
  have h2 := List.find?_some h1
  obtain ⟨p, hp, h3⟩ := List.any_eq_true.1 h2
  exact ⟨q, p, List.mem_range.1 (List.mem_of_find?_eq_some h1), List.mem_range.1 hp, h3, rfl⟩
theorem series_some {s s' : SmD} (h : seriesF s = some s') : ∃ p k l, SerieAt s p k l s' := by
  unfold seriesF at h
  obtain ⟨p, hp, h1⟩ := List.exists_of_findSome?_eq_some h
  obtain ⟨k, l, h2⟩ := serie_some (List.mem_range.1 hp) h1
  exact ⟨p, k, l, h2⟩
theorem red_cases {s s' : SmD} (h : redStep s = some s') : (∃ k, k < s.net.trans.length ∧ dupB s.net.trans k = true ∧ s' = dropT s k) ∨ (∃ q p, q < s.net.places.toNat ∧ p < q ∧ pairB s q p = true ∧ s' = dropP s q) ∨ ∃ p k l, SerieAt s p k l s' := by
  unfold redStep at h
  rcases h1 : transF s with _ | x
  · rw [h1, Option.none_or] at h
    rcases h2 : twinF s with _ | y
    · rw [h2, Option.none_or] at h
      exact .inr (.inr (series_some h))
    · rw [h2, Option.some_or] at h
      cases h
      exact .inr (.inl (twin_some h2))
  · rw [h1, Option.some_or] at h
    cases h
    exact .inl (trans_some h1)
theorem red_stop {s : SmD} (h : redStep s = none) : transF s = none ∧ twinF s = none ∧ seriesF s = none := by
  unfold redStep at h
  simpa using h
theorem SmG.serie {s s' : SmD} {p k l : Nat} (h : SmG s) (a : SerieAt s p k l s') : SmG s' := by
  obtain ⟨h1, h2⟩ := h.b.rows k a.hk
  have g1 : SmG ⟨⟨s.net.places, s.net.trans.set k ⟨(ix s.net.trans k).label, (ix s.net.trans k).pre, joinF (ix s.net.trans k).post (ix s.net.trans l).post p⟩⟩, s.i, s.o⟩ := by
    refine ⟨h.b.setT k ⟨h1, by simp only [joinF_len]; exact h2⟩, fun t ht => ?_⟩
    rcases List.mem_or_eq_of_mem_set ht with h3 | rfl
    · exact h.w t h3
    · refine ⟨(h.at_ a.hk).1, fun q => ?_⟩
      show 0 ≤ nth (joinF _ _ p) q ∧ nth (joinF _ _ p) q ≤ 9
      by_cases hq : q < (ix s.net.trans k).post.length
      · refine ⟨?_, ?_⟩
        · rw [join_nth hq]
          split
          · omega
          · have := ((h.at_ a.hk).2 q).1
            have := ((h.at_ a.hl).2 q).1
            omega
        · have := a.mx
          rw [maxF_def, maxTo_le, joinF_len] at this
          exact this q (by omega)
      · rw [nth_ge (by rw [joinF_len]; omega)]; omega
  rw [a.is]
  exact (g1.drT l).drP a.hp
theorem SmG.step {s s' : SmD} (h : SmG s) (e : redStep s = some s') : SmG s' := by
  rcases red_cases e with ⟨k, _, _, rfl⟩ | ⟨q, p, hq, _, _, rfl⟩ | ⟨p, k, l, a⟩
  · exact h.drT k
  · exact h.drP hq
  · exact h.serie a
def meas (s : SmD) : Nat := s.net.places.toNat + s.net.trans.length
theorem meas_step {s s' : SmD} (e : redStep s = some s') : meas s' + 1 ≤ meas s ∧ meas s ≤ meas s' + 2 := by
  unfold meas
  rcases red_cases e with ⟨k, hk, _, rfl⟩ | ⟨q, p, hq, _, _, rfl⟩ | ⟨p, k, l, a⟩
  · unfold dropT; simp only; rw [List.length_eraseIdx_of_lt hk]; omega
  · unfold dropP; simp only [List.length_map]; omega
  · have h1 := a.hp
    have h2 := a.hl
    rw [a.is]
    unfold dropP dropT
    simp only [List.length_map]
    rw [List.length_eraseIdx_of_lt (by rw [List.length_set]; exact h2), List.length_set]
    omega
theorem red_none {s : SmD} (h : redStep s = none) (f n : Nat) : redF f s n = (s, n) := by
  cases f with
  | zero => rfl
  | succ f => unfold redF; rw [h]
theorem red_some {s s' : SmD} (h : redStep s = some s') (f n : Nat) : redF (f + 1) s n = redF f s' (n + 1) := by
  rw [redF, h]
theorem redF_ind {P : SmD → Nat → Prop} (hs : ∀ s s' n, P s n → redStep s = some s' → P s' (n + 1)) : ∀ (f : Nat) (s : SmD) (n : Nat), P s n → P (redF f s n).1 (redF f s n).2
  | 0, s, n, h => h
  | f + 1, s, n, h => by
    rcases e : redStep s with _ | s'
    · rw [red_none e]; exact h
    · rw [red_some e]; exact redF_ind hs f s' (n + 1) (hs s s' n h e)
theorem redF_done : ∀ (f : Nat) (s : SmD) (n : Nat), meas s ≤ f → redStep (redF f s n).1 = none
  | 0, s, n, h => by
    rcases e : redStep s with _ | s'
    · exact e
    · have := (meas_step e).1; omega
  | f + 1, s, n, h => by
    rcases e : redStep s with _ | s'
    · rw [red_none e]; exact e
    · rw [red_some e]
      exact redF_done f s' (n + 1) (by have := (meas_step e).1; omega)
def reduceF (s : SmD) : SmD × Nat := redF (meas s) s 0
end Go.Tok
