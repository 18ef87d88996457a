/- The tree that covers all marks of a net, rs plain functions; what it says. No program is in sight here. -/
import Derived.Test.YtkanaoebpajbfaaPB
namespace Go.Tok
set_option linter.unusedVariables false
set_option linter.unusedSimpArgs false

structure KnotD where
  up : Int
  tran : Int
  mark : List Int
deriving DecidableEq
instance : Inhabited KnotD := ⟨⟨0, 0, []⟩⟩
def belowB (a b : List Int) : Bool := (List.range a.length).all fun p => decide (nth b p = -1) || (!decide (nth a p = -1) && decide (nth a p ≤ nth b p))
def fireK (t : TranD) (m : List Int) : List Int := (List.range m.length).map fun p => if nth m p = -1 then -1 else nth m p + (nth t.post p - nth t.pre p)
def growsAt (x m : List Int) (p : Nat) : Bool := !decide (nth m p = -1) && (decide (nth x p < nth m p) && !decide (nth x p = -1))
def growRow (x m : List Int) : List Int := if belowB x m then (List.range m.length).map (fun p => if growsAt x m p then -1 else nth m p) else m
def growPass (rs : List (List Int)) (m : List Int) : List Int := rs.foldl (fun m x => growRow x m) m
def growN (rs : List (List Int)) : Nat → List Int → List Int
  | 0, m => m
  | f + 1, m => if growPass rs m = m then m else growN rs f (growPass rs m)
def growF (rs : List (List Int)) (m : List Int) : List Int := growN rs (m.length + 1) m
def ancF (ks : List KnotD) : Nat → Int → List (List Int)
  | 0, _ => []
  | f + 1, k => if 0 ≤ k then (ix ks k.toNat).mark :: ancF ks f (ix ks k.toNat).up else []
def anc (ks : List KnotD) (k : Int) : List (List Int) := ancF ks (k + 1).toNat k
def againB (ks : List KnotD) (k : Nat) : Bool := (anc ks (ix ks k).up).any fun x => eqB x (ix ks k).mark
def treeStep (N : NetD) (most : Nat) (k i : Nat) (ks : List KnotD) : Option (List KnotD) :=
  if belowB (N.tr i).pre (ix ks k).mark then
    (if ks.length = most then none else some (ks ++ [⟨k, i, growF (anc ks k) (fireK (N.tr i) (ix ks k).mark)⟩]))
  else some ks
def treeTo (N : NetD) (most : Nat) (k : Nat) (ks : List KnotD) : Nat → Option (List KnotD)
  | 0 => some ks
  | i + 1 => (treeTo N most k ks i).bind (treeStep N most k i)
def treeGo (N : NetD) (most : Nat) : Nat → Nat → List KnotD → Option (List KnotD)
  | 0, _, ks => some ks
  | f + 1, k, ks => if k < ks.length then (if againB ks k then treeGo N most f (k + 1) ks else (treeTo N most k ks N.trans.length).bind (treeGo N most f (k + 1))) else some ks
def treeF (N : NetD) (m : List Int) (most : Int) : List KnotD × Int :=
  if most < 1 ∨ 300 < most then ([], 2)
  else if fitsB N m = false then ([], 2)
  else match treeGo N most.toNat 301 0 [⟨-1, -1, m⟩] with
    | none => ([], 4)
    | some ks => (ks, 0)
def limitTo (p : Nat) (ks : List KnotD) : Nat → Int
  | 0 => 0
  | n + 1 => max (limitTo p ks n) (nth (ix ks n).mark p)
def limitL (p : Nat) (ks : List KnotD) : Int := if ks.any (fun k => decide (nth k.mark p = -1)) then -1 else limitTo p ks ks.length
def limitF (N : NetD) (m : List Int) (p most : Int) : Int × Int :=
  if (treeF N m most).2 ≠ 0 then (0, (treeF N m most).2)
  else if p < 0 ∨ N.places ≤ p then (0, 3)
  else (limitL p.toNat (treeF N m most).1, 0)

/-! ### below -/
theorem below_iff {a b : List Int} : belowB a b = true ↔ ∀ p, p < a.length → nth b p = -1 ∨ (nth a p ≠ -1 ∧ nth a p ≤ nth b p) := by
  unfold belowB
  rw [List.all_eq_true]
  constructor
  · intro h p hp
    have := h p (by simpa using hp)
    simp only [Bool.or_eq_true, Bool.and_eq_true, decide_eq_true_eq, Bool.not_eq_true', decide_eq_false_iff_not] at this
    exact this
  · intro h p hp
    have := h p (by simpa using hp)
    simp only [Bool.or_eq_true, Bool.and_eq_true, decide_eq_true_eq, Bool.not_eq_true', decide_eq_false_iff_not]
    exact this
theorem below_no {a b : List Int} {p : Nat} (hp : p < a.length) (h1 : nth b p ≠ -1) (h2 : nth a p = -1 ∨ nth b p < nth a p) : belowB a b = false := by
  rw [← Bool.not_eq_true]
  intro h
  rcases below_iff.1 h p hp with h3 | ⟨h3, h4⟩
  · exact h1 h3
  · rcases h2 with h2 | h2
    · exact h3 h2
    · omega
def BelowTo (a b : List Int) (k : Nat) : Prop := ∀ p, p < k → nth b p = -1 ∨ (nth a p ≠ -1 ∧ nth a p ≤ nth b p)
theorem BelowTo.zero (a b : List Int) : BelowTo a b 0 := fun p hp => by omega
theorem BelowTo.succ {a b : List Int} {k : Nat} (h : BelowTo a b k) (hk : nth b k = -1 ∨ (nth a k ≠ -1 ∧ nth a k ≤ nth b k)) : BelowTo a b (k + 1) := fun p hp => by
  rcases Nat.lt_or_ge p k with h1 | h1
  · exact h p h1
  · obtain rfl : p = k := by omega
    exact hk
theorem BelowTo.all {a b : List Int} {k : Nat} (h : BelowTo a b k) (hk : a.length ≤ k) : belowB a b = true := below_iff.2 fun p hp => h p (by omega)

/-! ### fire, grow -/
theorem nth_mapr {n : Nat} {f : Nat → Int} {p : Nat} (hp : p < n) : nth ((List.range n).map f) p = f p := by
  rw [nth_lt (by simpa using hp)]; simp
theorem fireK_len (t : TranD) (m : List Int) : (fireK t m).length = m.length := by simp [fireK]
theorem fireK_nth (t : TranD) {m : List Int} {p : Nat} (hp : p < m.length) : nth (fireK t m) p = if nth m p = -1 then -1 else nth m p + (nth t.post p - nth t.pre p) := by
  unfold fireK; rw [nth_mapr hp]
theorem growRow_len (x m : List Int) : (growRow x m).length = m.length := by unfold growRow; split <;> simp
theorem growRow_nth (x m : List Int) (p : Nat) : nth (growRow x m) p = nth m p ∨ nth (growRow x m) p = -1 := by
  unfold growRow
  split
  · by_cases hp : p < m.length
    · rw [nth_mapr hp]
      split
      · exact .inr rfl
      · exact .inl rfl
    · rw [nth_ge (by simp; omega), nth_ge (by omega)]; exact .inl rfl
  · exact .inl rfl
theorem growRow_diff {x m : List Int} (h : growRow x m ≠ m) : belowB x m = true ∧ ∃ p, p < m.length ∧ nth m p ≠ -1 ∧ nth x p < nth m p ∧ nth x p ≠ -1 := by
  unfold growRow at h
  split at h
  · rename_i hb
    refine ⟨hb, ?_⟩
    apply Classical.byContradiction
    intro hno
    apply h
    refine ext_nth (by simp) fun p hp => ?_
    simp only [List.length_map, List.length_range] at hp
    rw [nth_mapr hp]
    split
    · rename_i hg
      unfold growsAt at hg
      simp only [Bool.and_eq_true, decide_eq_true_eq, Bool.not_eq_true', decide_eq_false_iff_not] at hg
      exact absurd ⟨p, hp, hg.1, hg.2.1, hg.2.2⟩ hno
    · rfl
  · exact absurd rfl h
theorem growPass_len (rs : List (List Int)) : ∀ m, (growPass rs m).length = m.length := by
  induction rs with
  | nil => intro m; rfl
  | cons x rs ih => intro m; show (growPass rs (growRow x m)).length = _; rw [ih, growRow_len]
theorem growPass_nth (rs : List (List Int)) : ∀ (m : List Int) (p : Nat), nth (growPass rs m) p = nth m p ∨ nth (growPass rs m) p = -1 := by
  induction rs with
  | nil => intro m p; exact .inl rfl
  | cons x rs ih =>
    intro m p
    show nth (growPass rs (growRow x m)) p = _ ∨ nth (growPass rs (growRow x m)) p = _
    rcases ih (growRow x m) p with h | h
    · rw [h]; exact growRow_nth x m p
    · exact .inr h
theorem growPass_diff {rs : List (List Int)} {m : List Int} (h : growPass rs m ≠ m) : ∃ x ∈ rs, growRow x m ≠ m := by
  induction rs with
  | nil => exact absurd rfl h
  | cons x rs ih =>
    by_cases hx : growRow x m = m
    · have h' : growPass rs m ≠ m := by
        intro e
        apply h
        show growPass rs (growRow x m) = m
        rw [hx]; exact e
      obtain ⟨y, hy, h2⟩ := ih h'
      exact ⟨y, by simp [hy], h2⟩
    · exact ⟨x, by simp, hx⟩
theorem growN_len (rs : List (List Int)) : ∀ (f : Nat) (m : List Int), (growN rs f m).length = m.length
  | 0, m => rfl
  | f + 1, m => by
    rw [growN]
    split
    · rfl
    · rw [growN_len rs f, growPass_len]
theorem growN_nth (rs : List (List Int)) : ∀ (f : Nat) (m : List Int) (p : Nat), nth (growN rs f m) p = nth m p ∨ nth (growN rs f m) p = -1
  | 0, m, p => .inl rfl
  | f + 1, m, p => by
    rw [growN]
    split
    · exact .inl rfl
    · rcases growN_nth rs f (growPass rs m) p with h | h
      · rw [h]; exact growPass_nth rs m p
      · exact .inr h
theorem growF_len (rs : List (List Int)) (m : List Int) : (growF rs m).length = m.length := growN_len rs _ m
theorem growF_nth (rs : List (List Int)) (m : List Int) (p : Nat) : nth (growF rs m) p = nth m p ∨ nth (growF rs m) p = -1 := growN_nth rs _ m p
theorem growF_diff {rs : List (List Int)} {m : List Int} (h : growF rs m ≠ m) : ∃ x ∈ rs, belowB x m = true ∧ ∃ p, p < m.length ∧ nth m p ≠ -1 ∧ nth x p < nth m p ∧ nth x p ≠ -1 := by
  have h1 : growPass rs m ≠ m := by
    intro e
    apply h
    unfold growF
    rw [growN, if_pos e]
  obtain ⟨x, hx, h2⟩ := growPass_diff h1
  exact ⟨x, hx, growRow_diff h2⟩
/-- a row without Many has not grown -/
theorem growF_same {rs : List (List Int)} {m : List Int} (h : ∀ p, p < m.length → nth (growF rs m) p ≠ -1) : growF rs m = m := by
  refine ext_nth (growF_len rs m) fun p hp => ?_
  rw [growF_len] at hp
  rcases growF_nth rs m p with h1 | h1
  · exact h1
  · exact absurd h1 (h p hp)

/-! ### ancestors -/
def UpOk (ks : List KnotD) : Prop := ∀ j, j < ks.length → -1 ≤ (ix ks j).up ∧ (ix ks j).up < j
theorem anc_none (ks : List KnotD) {k : Int} (h : k < 0) : anc ks k = [] := by
  unfold anc
  rcases hn : (k + 1).toNat with _ | f
  · rfl
  · rw [ancF, if_neg (by omega)]
theorem ancF_fuel {ks : List KnotD} (h : UpOk ks) : ∀ (f g : Nat) (k : Int), k < ks.length → (k + 1).toNat ≤ f → (k + 1).toNat ≤ g → ancF ks f k = ancF ks g k
  | 0, g, k, _, h1, _ => by
    rcases g with _ | g
    · rfl
    · rw [ancF, ancF, if_neg (by omega)]
  | f + 1, 0, k, _, _, h2 => by rw [ancF, ancF, if_neg (by omega)]
  | f + 1, g + 1, k, hk, h1, h2 => by
    rw [ancF, ancF]
    by_cases h0 : 0 ≤ k
    · rw [if_pos h0, if_pos h0]
      have := h k.toNat (by omega)
      rw [ancF_fuel h f g _ (by omega) (by omega) (by omega)]
    · rw [if_neg h0, if_neg h0]
theorem anc_some {ks : List KnotD} (h : UpOk ks) {j : Nat} (hj : j < ks.length) : anc ks (j : Int) = (ix ks j).mark :: anc ks (ix ks j).up := by
  have h1 := h j hj
  unfold anc
  rw [show ((j : Int) + 1).toNat = j + 1 by omega, ancF, if_pos (by omega), Int.toNat_natCast]
  rw [ancF_fuel h j ((ix ks j).up + 1).toNat _ (by omega) (by omega) (by omega)]
theorem UpOk.snoc {ks : List KnotD} (h : UpOk ks) {x : KnotD} (h1 : -1 ≤ x.up) (h2 : x.up < ks.length) : UpOk (ks ++ [x]) := by
  intro j hj
  rw [List.length_append, List.length_singleton] at hj
  rcases Nat.lt_or_ge j ks.length with h3 | h3
  · rw [ix_append_left h3]; exact h j h3
  · obtain rfl : j = ks.length := by omega
    rw [ix_append_one]; exact ⟨h1, h2⟩
theorem ancF_append {ks : List KnotD} (h : UpOk ks) (l : List KnotD) : ∀ (f : Nat) (k : Int), k < ks.length → ancF (ks ++ l) f k = ancF ks f k
  | 0, _, _ => rfl
  | f + 1, k, hk => by
    rw [ancF, ancF]
    by_cases h0 : 0 ≤ k
    · have := h k.toNat (by omega)
      rw [if_pos h0, if_pos h0, ix_append_left (by omega), ancF_append h l f _ (by omega)]
    · rw [if_neg h0, if_neg h0]
theorem anc_append {ks : List KnotD} (h : UpOk ks) (l : List KnotD) {k : Int} (hk : k < ks.length) : anc (ks ++ l) k = anc ks k := ancF_append h l _ _ hk
theorem again_append {ks : List KnotD} (h : UpOk ks) (l : List KnotD) {k : Nat} (hk : k < ks.length) : againB (ks ++ l) k = againB ks k := by
  unfold againB
  have := h k hk
  rw [ix_append_left hk, anc_append h l (by omega)]
theorem anc_mem {ks : List KnotD} (h : UpOk ks) : ∀ (j : Nat), j < ks.length → ∀ x ∈ anc ks (j : Int), ∃ i, i ≤ j ∧ x = (ix ks i).mark := by
  intro j
  induction j using Nat.strongRecOn with
  | ind j ih =>
    intro hj x hx
    rw [anc_some h hj] at hx
    rcases List.mem_cons.1 hx with rfl | hx
    · exact ⟨j, Nat.le_refl _, rfl⟩
    · have h1 := h j hj
      by_cases h0 : (ix ks j).up < 0
      · rw [anc_none ks h0] at hx; cases hx
      · obtain ⟨u, hu⟩ := Int.eq_ofNat_of_zero_le (show 0 ≤ (ix ks j).up by omega)
        rw [hu] at hx
        obtain ⟨i, h2, h3⟩ := ih u (by omega) (by omega) x hx
        exact ⟨i, by omega, h3⟩
theorem again_mem {ks : List KnotD} (h : UpOk ks) {j : Nat} (hj : j < ks.length) (ha : againB ks j = true) : ∃ i, i < j ∧ (ix ks i).mark = (ix ks j).mark := by
  unfold againB at ha
  obtain ⟨x, hx, he⟩ := List.any_eq_true.1 ha
  rw [eqB_iff] at he
  have h1 := h j hj
  by_cases h0 : (ix ks j).up < 0
  · rw [anc_none ks h0] at hx; cases hx
  · obtain ⟨u, hu⟩ := Int.eq_ofNat_of_zero_le (show 0 ≤ (ix ks j).up by omega)
    rw [hu] at hx
    obtain ⟨i, h2, h3⟩ := anc_mem h u (by omega) x hx
    exact ⟨i, by omega, by rw [← h3, he]⟩

/-! ### while the tree grows: all ahead of knot k is done, and of knot k the first i transitions -/
structure TreeTo (N : NetD) (m : List Int) (most : Nat) (ks : List KnotD) (k i : Nat) : Prop where
  pos : 0 < ks.length
  root : ix ks 0 = ⟨-1, -1, m⟩
  le : ks.length ≤ most
  ups : UpOk ks
  kid : ∀ j, 0 < j → j < ks.length → ∃ u t : Nat, (ix ks j).up = u ∧ u < j ∧ t < N.trans.length ∧ belowB (N.tr t).pre (ix ks u).mark = true ∧ (ix ks j).mark = growF (anc ks u) (fireK (N.tr t) (ix ks u).mark)
  done : ∀ k', k' < k → k' < ks.length → againB ks k' = true ∨ ∀ t, t < N.trans.length → belowB (N.tr t).pre (ix ks k').mark = true → ∃ j, j < ks.length ∧ (ix ks j).mark = growF (anc ks k') (fireK (N.tr t) (ix ks k').mark)
  part : ∀ t, t < i → t < N.trans.length → belowB (N.tr t).pre (ix ks k).mark = true → ∃ j, j < ks.length ∧ (ix ks j).mark = growF (anc ks k) (fireK (N.tr t) (ix ks k).mark)
theorem tree_root (N : NetD) (m : List Int) {most : Nat} (h : 1 ≤ most) : TreeTo N m most [⟨-1, -1, m⟩] 0 0 := by
  refine ⟨by simp, ix_zero _ _, by simpa using h, fun j hj => ?_, fun j h0 hj => ?_, fun k' hk => by omega, fun t ht => by omega⟩
  · simp at hj; subst hj; rw [ix_zero]; exact ⟨by show (-1 : Int) ≤ -1; decide, by show (-1 : Int) < 0; decide⟩
  · simp at hj; omega
theorem TreeTo.skip {N : NetD} {m : List Int} {most k i : Nat} {ks : List KnotD} (h : TreeTo N m most ks k i) (hb : belowB (N.tr i).pre (ix ks k).mark = false) : TreeTo N m most ks k (i + 1) := by
  refine ⟨h.pos, h.root, h.le, h.ups, h.kid, h.done, fun t ht htl hbt => ?_⟩
  rcases Nat.lt_or_ge t i with h1 | h1
  · exact h.part t h1 htl hbt
  · obtain rfl : t = i := by omega
    rw [hb] at hbt; cases hbt
theorem TreeTo.add {N : NetD} {m : List Int} {most k i : Nat} {ks : List KnotD} (h : TreeTo N m most ks k i) (hk : k < ks.length) (hi : i < N.trans.length) (hb : belowB (N.tr i).pre (ix ks k).mark = true) (hl : ks.length ≠ most) :
    TreeTo N m most (ks ++ [⟨k, i, growF (anc ks k) (fireK (N.tr i) (ix ks k).mark)⟩]) k (i + 1) := by
  have hle := h.le
  have hpos := h.pos
  have hanc : ∀ u : Nat, u < ks.length → anc (ks ++ [⟨k, i, growF (anc ks k) (fireK (N.tr i) (ix ks k).mark)⟩]) (u : Int) = anc ks u := fun u hu => anc_append h.ups _ (by omega)
  refine ⟨by simp, by rw [ix_append_left hpos]; exact h.root, by simp; omega, h.ups.snoc (by simp only []; omega) (by simp only []; omega), fun j h0 hj => ?_, fun k' hk' hk2 => ?_, fun t ht htl hbt => ?_⟩
  · rw [List.length_append, List.length_singleton] at hj
    rcases Nat.lt_or_ge j ks.length with h3 | h3
    · obtain ⟨u, t, h4, h5, h6, h7, h8⟩ := h.kid j h0 h3
      refine ⟨u, t, ?_, h5, h6, ?_, ?_⟩
      · rw [ix_append_left h3]; exact h4
      · rw [ix_append_left (by omega)]; exact h7
      · rw [ix_append_left h3, hanc u (by omega), ix_append_left (by omega)]; exact h8
    · obtain rfl : j = ks.length := by omega
      refine ⟨k, i, ?_, hk, hi, ?_, ?_⟩
      · rw [ix_append_one]
      · rw [ix_append_left hk]; exact hb
      · rw [ix_append_one, hanc k hk, ix_append_left hk]
  · rcases Nat.lt_or_ge k' ks.length with h3 | h3
    · rcases h.done k' hk' h3 with h4 | h4
      · exact .inl (by rw [again_append h.ups _ h3]; exact h4)
      · refine .inr fun t ht hbt => ?_
        rw [ix_append_left h3] at hbt ⊢
        obtain ⟨j, h5, h6⟩ := h4 t ht hbt
        exact ⟨j, by simp; omega, by rw [ix_append_left h5, hanc k' h3]; exact h6⟩
    · omega
  · rw [ix_append_left hk] at hbt ⊢
    rcases Nat.lt_or_ge t i with h1 | h1
    · obtain ⟨j, h5, h6⟩ := h.part t h1 htl hbt
      exact ⟨j, by simp; omega, by rw [ix_append_left h5, hanc k hk]; exact h6⟩
    · obtain rfl : t = i := by omega
      exact ⟨ks.length, by simp, by rw [ix_append_one, hanc k hk]⟩
theorem treeTo_inv {N : NetD} {m : List Int} {most k : Nat} {ks : List KnotD} (h : TreeTo N m most ks k 0) (hk : k < ks.length) : ∀ (i : Nat) (ks' : List KnotD), i ≤ N.trans.length → treeTo N most k ks i = some ks' → TreeTo N m most ks' k i ∧ ks.length ≤ ks'.length
  | 0, ks', _, he => by cases he; exact ⟨h, Nat.le_refl _⟩
  | i + 1, ks', hi, he => by
    rw [treeTo] at he
    obtain ⟨k1, h1, h2⟩ := Option.bind_eq_some_iff.1 he
    obtain ⟨h3, h4⟩ := treeTo_inv h hk i k1 (by omega) h1
    unfold treeStep at h2
    split at h2
    · rename_i hb
      split at h2
      · cases h2
      · rename_i hl
        cases h2
        exact ⟨h3.add (by omega) (by omega) hb hl, by simp; omega⟩
    · rename_i hb
      cases h2
      exact ⟨h3.skip (by simpa using hb), h4⟩
theorem TreeTo.next {N : NetD} {m : List Int} {most k : Nat} {ks : List KnotD} (h : TreeTo N m most ks k N.trans.length) : TreeTo N m most ks (k + 1) 0 := by
  refine ⟨h.pos, h.root, h.le, h.ups, h.kid, fun k' hk' hk2 => ?_, fun t ht => by omega⟩
  rcases Nat.lt_or_ge k' k with h1 | h1
  · exact h.done k' h1 hk2
  · obtain rfl : k' = k := by omega
    exact .inr fun t ht hb => h.part t ht ht hb
theorem TreeTo.pass {N : NetD} {m : List Int} {most k : Nat} {ks : List KnotD} (h : TreeTo N m most ks k 0) (ha : againB ks k = true) : TreeTo N m most ks (k + 1) 0 := by
  refine ⟨h.pos, h.root, h.le, h.ups, h.kid, fun k' hk' hk2 => ?_, fun t ht => by omega⟩
  rcases Nat.lt_or_ge k' k with h1 | h1
  · exact h.done k' h1 hk2
  · obtain rfl : k' = k := by omega
    exact .inl ha
theorem treeGo_inv {N : NetD} {m : List Int} {most : Nat} : ∀ (f k : Nat) (ks ks' : List KnotD), TreeTo N m most ks k 0 → most + 1 ≤ f + k → treeGo N most f k ks = some ks' → ∃ k', TreeTo N m most ks' k' 0 ∧ ks'.length ≤ k'
  | 0, k, ks, ks', h, hf, he => by
    cases he
    have := h.le
    exact ⟨k, h, by omega⟩
  | f + 1, k, ks, ks', h, hf, he => by
    rw [treeGo] at he
    by_cases hk : k < ks.length
    · rw [if_pos hk] at he
      cases ha : againB ks k
      · rw [if_neg (by rw [ha]; decide)] at he
        obtain ⟨k1, h1, h2⟩ := Option.bind_eq_some_iff.1 he
        obtain ⟨h3, h4⟩ := treeTo_inv h hk _ k1 (Nat.le_refl _) h1
        exact treeGo_inv f (k + 1) k1 ks' h3.next (by omega) h2
      · rw [if_pos ha] at he
        exact treeGo_inv f (k + 1) ks ks' (h.pass ha) (by omega) he
    · rw [if_neg hk] at he
      cases he
      exact ⟨k, h, by omega⟩

/-- a tree that came to its end -/
structure Tree (N : NetD) (m : List Int) (most : Nat) (ks : List KnotD) : Prop where
  fit : fitsB N m = true
  pos : 0 < ks.length
  root : ix ks 0 = ⟨-1, -1, m⟩
  le : ks.length ≤ most
  ups : UpOk ks
  kid : ∀ j, 0 < j → j < ks.length → ∃ u t : Nat, (ix ks j).up = u ∧ u < j ∧ t < N.trans.length ∧ belowB (N.tr t).pre (ix ks u).mark = true ∧ (ix ks j).mark = growF (anc ks u) (fireK (N.tr t) (ix ks u).mark)
  done : ∀ k', k' < ks.length → againB ks k' = true ∨ ∀ t, t < N.trans.length → belowB (N.tr t).pre (ix ks k').mark = true → ∃ j, j < ks.length ∧ (ix ks j).mark = growF (anc ks k') (fireK (N.tr t) (ix ks k').mark)
theorem tree_ok {N : NetD} {m : List Int} {most : Int} {ks : List KnotD} (h : treeF N m most = (ks, 0)) : 1 ≤ most ∧ most ≤ 300 ∧ fitsB N m = true ∧ Tree N m most.toNat ks := by
  unfold treeF at h
  by_cases h1 : most < 1 ∨ 300 < most
  · rw [if_pos h1] at h; cases h
  rw [if_neg h1] at h
  cases hf : fitsB N m
  · rw [if_pos hf] at h; cases h
  rw [if_neg (by rw [hf]; decide)] at h
  split at h
  · cases h
  · rename_i ks' hg
    cases h
    obtain ⟨k', h2, h3⟩ := treeGo_inv _ _ _ _ (tree_root N m (most := most.toNat) (by omega)) (by omega) hg
    exact ⟨by omega, by omega, rfl, hf, h2.pos, h2.root, h2.le, h2.ups, h2.kid, fun k hk => h2.done k (by omega) hk⟩
theorem tree_bad {N : NetD} {m : List Int} {most : Int} {ks : List KnotD} {e : Int} (h : treeF N m most = (ks, e)) (he : e ≠ 0) : ks = [] := by
  unfold treeF at h
  split at h
  · exact (Prod.mk.inj h).1.symm
  split at h
  · exact (Prod.mk.inj h).1.symm
  split at h
  · exact (Prod.mk.inj h).1.symm
  · exact absurd (Prod.mk.inj h).2.symm he

section
variable {N : NetD} {m : List Int} {most : Nat} {ks : List KnotD}
theorem Tree.lens (h : Tree N m most ks) : ∀ j, j < ks.length → (ix ks j).mark.length = m.length := by
  intro j
  induction j using Nat.strongRecOn with
  | ind j ih =>
    intro hj
    by_cases h0 : j = 0
    · subst h0; rw [h.root]
    · obtain ⟨u, t, h1, h2, _, _, h3⟩ := h.kid j (by omega) hj
      rw [h3, growF_len, fireK_len]
      exact ih u h2 (by omega)
/-- the first knot with the same mark is gone on from -/
theorem Tree.first (h : Tree N m most ks) : ∀ j, j < ks.length → ∃ i, i < ks.length ∧ (ix ks i).mark = (ix ks j).mark ∧ ∀ t, t < N.trans.length → belowB (N.tr t).pre (ix ks i).mark = true → ∃ l, l < ks.length ∧ (ix ks l).mark = growF (anc ks i) (fireK (N.tr t) (ix ks i).mark) := by
  intro j
  induction j using Nat.strongRecOn with
  | ind j ih =>
    intro hj
    rcases h.done j hj with ha | hd
    · obtain ⟨i, h1, h2⟩ := again_mem h.ups hj ha
      obtain ⟨l, h3, h4, h5⟩ := ih i h1 (by omega)
      exact ⟨l, h3, h4.trans h2, h5⟩
    · exact ⟨j, hj, rfl, hd⟩
def coversK (b a : List Int) : Prop := a.length = b.length ∧ ∀ p, p < a.length → nth b p = -1 ∨ nth a p ≤ nth b p
theorem Tree.covers (h : Tree N m most ks) {x q y : List Int} (hr : Runs N x q y) : fitsB N x = true → (∃ j, j < ks.length ∧ coversK (ix ks j).mark x) → ∃ j, j < ks.length ∧ coversK (ix ks j).mark y := by
  induction hr with
  | nil x => exact fun _ hx => hx
  | cons hF _ ih =>
    rename_i x1 y1 z1 s1 k1 _
    intro hf ⟨j, hj, hc1, hc2⟩
    obtain ⟨i, hi, he, hd⟩ := h.first j hj
    rw [← he] at hc1 hc2
    have T := netOk_tr (fits_ok hf) hF.lt
    have hlen := fits_len hf
    have hb : belowB (N.tr k1).pre (ix ks i).mark = true := below_iff.2 fun p hp => by
      have h1 := hF.pre p
      have h2 := (w_nth T p).1
      rcases hc2 p (by have := T.pre; omega) with h3 | h3
      · exact .inl h3
      · exact .inr ⟨by omega, by omega⟩
    obtain ⟨l, hl, hm⟩ := hd k1 hF.lt hb
    refine ih (hF.fits hf) ⟨l, hl, ?_, fun p hp => ?_⟩
    · rw [hm, growF_len, fireK_len, ← hc1]; exact hF.len
    · rw [hm]
      rw [hF.len] at hp
      rcases growF_nth (anc ks i) (fireK (N.tr k1) (ix ks i).mark) p with h4 | h4
      · rw [h4, fireK_nth _ (by omega)]
        split
        · exact .inl rfl
        · rename_i hne
          rcases hc2 p hp with h5 | h5
          · exact absurd h5 hne
          · have := hF.eq p
            exact .inr (by omega)
      · exact .inl h4
/-- whatever run can be done, its mark stays below some knot's -/
theorem cover_all (h : Tree N m most ks) {q x : List Int} (hr : runF N m q = (x, 0)) : ∃ j, j < ks.length ∧ coversK (ix ks j).mark x := by
  obtain ⟨hf, hr⟩ := runF_of hr
  refine h.covers hr hf ⟨0, h.pos, ?_⟩
  rw [h.root]
  exact ⟨rfl, fun p _ => .inr (Int.le_refl _)⟩
theorem limitTo_ge (p : Nat) (ks : List KnotD) : ∀ n j, j < n → nth (ix ks j).mark p ≤ limitTo p ks n
  | 0, j, hj => by omega
  | n + 1, j, hj => by
    rw [limitTo]
    rcases Nat.lt_or_ge j n with h | h
    · have := limitTo_ge p ks n j h; omega
    · obtain rfl : j = n := by omega
      omega
theorem cover_limit (h : Tree N m most ks) {q x : List Int} (hr : runF N m q = (x, 0)) {p : Nat} (hp : (p : Int) < N.places) : p < x.length ∧ (limitL p ks = -1 ∨ nth x p ≤ limitL p ks) := by
  obtain ⟨j, hj, h1, h2⟩ := cover_all h hr
  obtain ⟨hf, hr⟩ := runF_of hr
  have hl := fits_len (hr.fits hf)
  refine ⟨by omega, ?_⟩
  unfold limitL
  cases ha : ks.any fun k => decide (nth k.mark p = -1)
  · rw [if_neg (by decide)]
    have h3 := List.any_eq_false.1 ha _ (ix_mem hj)
    simp only [decide_eq_true_eq] at h3
    have h4 := limitTo_ge p ks ks.length j hj
    rcases h2 p (by omega) with h5 | h5
    · exact absurd h5 h3
    · exact .inr (by omega)
  · rw [if_pos rfl]; exact .inl rfl
end

/-! ### what covers itself, and more, has no end -/
theorem more_runs_in {N : NetD} {m0 : List Int} {most : Nat} {s : FinD} (hW : Whole N m0 most s) {x q z : List Int} (hr : Runs N x q z) : ∀ {y : List Int} {D : Nat → Int}, (∀ p, 0 ≤ D p) → y ∈ s.marks → (∀ p, nth y p = nth x p + D p) → ∃ w, w ∈ s.marks ∧ ∀ p, nth w p = nth z p + D p := by
  induction hr with
  | nil x => exact fun _ hy hD => ⟨_, hy, hD⟩
  | cons hF _ ih =>
    intro y D h0 hy hD
    obtain ⟨y1, hF1, hy1⟩ := hW.fires hy hF.lt (fun p => by have := hF.pre p; have := hD p; have := h0 p; omega)
    exact ih h0 hy1 (fun p => by have := hF.eq p; have := hF1.eq p; have := hD p; omega)
theorem no_pump {N : NetD} {m0 : List Int} {most : Nat} {s : FinD} (hW : Whole N m0 most s) {x q z : List Int} (hx : x ∈ s.marks) (hr : Runs N x q z) (hge : ∀ p, nth x p ≤ nth z p) {p0 : Nat} (hlt : nth x p0 < nth z p0) : False := by
  obtain ⟨D, hD⟩ : ∃ D : Nat → Int, D = fun p => nth z p - nth x p := ⟨_, rfl⟩
  have hD0 : ∀ p, 0 ≤ D p := fun p => by rw [hD]; have := hge p; simp only []; omega
  have hDz : ∀ p, nth z p = nth x p + D p := fun p => by rw [hD]; simp only []; omega
  have hD1 : 1 ≤ D p0 := by rw [hD]; simp only []; omega
  have key : ∀ j : Nat, ∃ y ∈ s.marks, ∀ p, nth y p = nth x p + (j : Int) * D p := by
    intro j
    induction j with
    | zero => exact ⟨x, hx, fun p => by simp⟩
    | succ j ih =>
      obtain ⟨y, hy, hyD⟩ := ih
      obtain ⟨w, hw, hwD⟩ := more_runs_in hW hr (D := fun p => (j : Int) * D p) (fun p => Int.mul_nonneg (by omega) (hD0 p)) hy hyD
      refine ⟨w, hw, fun p => ?_⟩
      have : ((j + 1 : Nat) : Int) * D p = (j : Int) * D p + D p := by rw [show ((j + 1 : Nat) : Int) = (j : Int) + 1 by omega, Int.add_mul, Int.one_mul]
      rw [hwD p, hDz p]; omega
  obtain ⟨y, hy, hyD⟩ := key 1000001
  have h1 := (fits_nth (hW.fit y hy) p0).2
  have h2 := hyD p0
  have h3 := (fits_nth (hW.fit x hx) p0).1
  have h4 : 1000001 ≤ ((1000001 : Nat) : Int) * D p0 := by omega
  omega

section
variable {N : NetD} {m : List Int} {most : Nat} {ks : List KnotD}
def noMany (x : List Int) : Prop := ∀ p, p < x.length → nth x p ≠ -1
/-- where a knot's mark has nowhere Many, its kid ahead of growing is what firing makes of it -/
theorem fireK_fires {most' : Nat} {m' : List Int} {s : FinD} (hW : Whole N m' most' s) {x : List Int} (hx : x ∈ s.marks) {t : Nat} (ht : t < N.trans.length) (hb : belowB (N.tr t).pre x = true) : Fires N x t (fireK (N.tr t) x) ∧ fireK (N.tr t) x ∈ s.marks := by
  have hf := hW.fit x hx
  have T := netOk_tr (fits_ok hf) ht
  have hl := fits_len hf
  obtain ⟨y, hF, hy⟩ := hW.fires hx ht (fun p => by
    have h1 := (fits_nth hf p).1
    have h2 := (w_nth T p).1
    by_cases hp : p < (N.tr t).pre.length
    · rcases below_iff.1 hb p hp with h3 | h3
      · omega
      · exact h3.2
    · rw [nth_ge (xs := (N.tr t).pre) (by omega)]; omega)
  have he : fireK (N.tr t) x = y := by
    refine ext_nth (by rw [fireK_len, hF.len]) fun p hp => ?_
    rw [fireK_len] at hp
    have h1 := (fits_nth hf p).1
    rw [fireK_nth _ hp, if_neg (by omega)]
    have := hF.eq p
    omega
  rw [he]; exact ⟨hF, hy⟩
/-- up to a first knot with Many all knots are marks, and their ancestors lead to them -/
theorem Tree.marks (h : Tree N m most ks) {s : FinD} {most' : Nat} (hW : Whole N m most' s) : ∀ j, j < ks.length → (∀ i, i ≤ j → noMany (ix ks i).mark) → (ix ks j).mark ∈ s.marks ∧ ∀ x ∈ anc ks (j : Int), x ∈ s.marks ∧ ∃ q, Runs N x q (ix ks j).mark := by
  intro j
  induction j using Nat.strongRecOn with
  | ind j ih =>
    intro hj hno
    by_cases h0 : j = 0
    · subst h0
      have hup := h.ups 0 hj
      have : anc ks ((0 : Nat) : Int) = [m] := by rw [anc_some h.ups hj, h.root, anc_none ks (by show (-1 : Int) < 0; decide)]
      rw [this, h.root]
      refine ⟨hW.start, fun x hx => ?_⟩
      simp at hx; subst hx
      exact ⟨hW.start, [], .nil _⟩
    · obtain ⟨u, t, h1, h2, h3, h4, h5⟩ := h.kid j (by omega) hj
      obtain ⟨h6, h7⟩ := ih u h2 (by omega) (fun i hi => hno i (by omega))
      obtain ⟨hF, hm⟩ := fireK_fires hW h6 h3 h4
      have hsame : (ix ks j).mark = fireK (N.tr t) (ix ks u).mark := by
        rw [h5]
        refine growF_same fun p hp => ?_
        rw [← h5]
        exact hno j (Nat.le_refl _) p (by rw [h5, growF_len]; exact hp)
      rw [anc_some h.ups hj, h1, hsame]
      refine ⟨hm, fun x hx => ?_⟩
      rcases List.mem_cons.1 hx with rfl | hx
      · exact ⟨hm, [], .nil _⟩
      · obtain ⟨h8, q, hq⟩ := h7 x hx
        exact ⟨h8, _, hq.snoc hF⟩
/-- a net with a knot that has Many has more marks than can be listed -/
theorem cover_many (h : Tree N m most ks) {j p : Nat} (hj : j < ks.length) (hp : p < (ix ks j).mark.length) (hm : nth (ix ks j).mark p = -1) : (graphF N m 300).2 = 4 := by
  rcases search_bad (N := N) (m := m) (most := 300) with h0 | ⟨h0, _⟩ | ⟨_, h0⟩
  · exfalso
    rcases hs : searchF N m 300 with ⟨s, e⟩
    rw [hs] at h0
    simp only [] at h0
    subst h0
    obtain ⟨_, _, _, hW⟩ := search_ok hs
    -- the first one that has Many
    have key : ∀ j, j < ks.length → noMany (ix ks j).mark := by
      intro j
      induction j using Nat.strongRecOn with
      | ind j ih =>
        intro hj p hp hm
        by_cases h1 : j = 0
        · subst h1
          rw [h.root] at hm
          have h9 := (fits_nth h.fit p).1
          simp only [] at hm
          rw [hm] at h9
          exact absurd h9 (by decide)
        · obtain ⟨u, t, h2, h3, h4, h5, h6⟩ := h.kid j (by omega) hj
          obtain ⟨h7, h8⟩ := h.marks hW u (by omega) (fun i hi => ih i (by omega) (by omega))
          obtain ⟨hF, hfm⟩ := fireK_fires hW h7 h4 h5
          have hd : growF (anc ks u) (fireK (N.tr t) (ix ks u).mark) ≠ fireK (N.tr t) (ix ks u).mark := by
            intro e
            rw [h6, e] at hm
            have := (fits_nth (hW.fit _ hfm) p).1
            omega
          obtain ⟨x, hx, hb, p0, hp0, _, hlt, _⟩ := growF_diff hd
          obtain ⟨hxm, q, hq⟩ := h8 x hx
          refine no_pump hW hxm (hq.snoc hF) (fun p => ?_) hlt
          by_cases hpx : p < x.length
          · rcases below_iff.1 hb p hpx with h9 | h9
            · have := (fits_nth (hW.fit _ hfm) p).1; omega
            · exact h9.2
          · rw [nth_ge (xs := x) (by omega)]; exact (fits_nth (hW.fit _ hfm) p).1
    exact key j hj p hp hm
  · unfold graphF
    rw [if_neg (by omega)]; exact h0
  · exact absurd ⟨by decide, by decide, h.fit⟩ h0
/-- where nothing is Many the knots' marks are closed under firing -/
theorem Tree.step (h : Tree N m most ks) (hno : ∀ j, j < ks.length → noMany (ix ks j).mark) {j t : Nat} (hj : j < ks.length) (ht : t < N.trans.length) (hb : belowB (N.tr t).pre (ix ks j).mark = true) : ∃ l, l < ks.length ∧ (ix ks l).mark = fireK (N.tr t) (ix ks j).mark := by
  obtain ⟨i, hi, he, hd⟩ := h.first j hj
  rw [← he] at hb ⊢
  obtain ⟨l, hl, hm⟩ := hd t ht hb
  refine ⟨l, hl, ?_⟩
  rw [hm]
  refine growF_same fun p hp => ?_
  rw [← hm]
  exact hno l hl p (by rw [hm, growF_len]; exact hp)
theorem Tree.nonneg (h : Tree N m most ks) (hno : ∀ j, j < ks.length → noMany (ix ks j).mark) : ∀ j, j < ks.length → ∀ p, 0 ≤ nth (ix ks j).mark p := by
  intro j
  induction j using Nat.strongRecOn with
  | ind j ih =>
    intro hj p
    by_cases h0 : j = 0
    · subst h0; rw [h.root]; exact (fits_nth h.fit p).1
    · obtain ⟨u, t, h1, h2, h3, h4, h5⟩ := h.kid j (by omega) hj
      have hl := h.lens u (by omega)
      have hl' := h.lens j hj
      have T := netOk_tr (fits_ok h.fit) h3
      have hf := fits_len h.fit
      by_cases hp : p < m.length
      · have hsame : (ix ks j).mark = fireK (N.tr t) (ix ks u).mark := by
          rw [h5]
          refine growF_same fun p hp => ?_
          rw [← h5]
          exact hno j hj p (by rw [h5, growF_len]; exact hp)
        have hn := hno u (by omega) p (by omega)
        rw [hsame, fireK_nth _ (by omega), if_neg hn]
        have h7 := (w_nth T p).2.2.1
        rcases below_iff.1 h4 p (by have := T.pre; omega) with h6 | h6
        · exact absurd h6 hn
        · have := h6.2; omega
      · rw [nth_ge (by omega)]; omega
/-- where nothing is Many, and no mark is too great, the knots are all marks -/
theorem cover_bounded (h : Tree N m most ks) (h300 : most ≤ 300) (hno : ∀ j, j < ks.length → noMany (ix ks j).mark) (hle : ∀ j, j < ks.length → ∀ p, nth (ix ks j).mark p ≤ 1000000) : (graphF N m 300).2 = 0 := by
  have hC : ClosedC N (ks.map (·.mark)) := by
    refine ⟨fun x hx => ?_, fun x hx t ht hp => ?_⟩
    · obtain ⟨k, hk, rfl⟩ := List.mem_map.1 hx
      obtain ⟨j, hj, rfl⟩ := List.getElem_of_mem hk
      rw [← ix_lt hj]
      refine fits_mk (fits_ok h.fit) (by rw [h.lens j hj]; exact fits_len h.fit) ((rightB_iff _).2 fun x hx => ?_)
      obtain ⟨p, hp, rfl⟩ := List.getElem_of_mem hx
      rw [← nth_lt hp]
      exact ⟨h.nonneg hno j hj p, hle j hj p⟩
    · obtain ⟨k, hk, rfl⟩ := List.mem_map.1 hx
      obtain ⟨j, hj, rfl⟩ := List.getElem_of_mem hk
      rw [← ix_lt hj] at hp ⊢
      have T := netOk_tr (fits_ok h.fit) ht
      have hb : belowB (N.tr t).pre (ix ks j).mark = true := below_iff.2 fun p hpp => .inr ⟨by have := (w_nth T p).1; omega, hp p⟩
      obtain ⟨l, hl, hm⟩ := h.step hno hj ht hb
      refine ⟨(ix ks l).mark, List.mem_map.2 ⟨_, ix_mem hl, rfl⟩, ht, ?_, hp, fun p => ?_, hle l hl⟩
      · rw [h.lens l hl, h.lens j hj]
      · rw [hm]
        have hl2 := h.lens j hj
        have hf := fits_len h.fit
        by_cases hpp : p < m.length
        · rw [fireK_nth _ (by omega), if_neg (hno j hj p (by omega))]; omega
        · rw [nth_ge (by rw [fireK_len]; omega), nth_ge (by omega), nth_ge (by have := T.pre; omega), nth_ge (by have := T.post; omega)]; omega
  obtain ⟨s, hs, _⟩ := search_sub (most := 300) hC (m := m) (List.mem_map.2 ⟨_, ix_mem h.pos, by rw [h.root]⟩) (by omega) (by omega) (by have := h.le; simp; omega)
  rw [graph_of hs]
/-- where nothing is Many the knots' marks are those that are reached -/
theorem cover_same (h : Tree N m most ks) (hno : ∀ j, j < ks.length → noMany (ix ks j).mark) {s : FinD} {most' : Nat} (hW : Whole N m most' s) : (∀ x ∈ s.marks, ∃ k ∈ ks, k.mark = x) ∧ ∀ k ∈ ks, k.mark ∈ s.marks := by
  constructor
  · intro x hx
    obtain ⟨q, hq⟩ := hW.reach hx
    have key : ∀ {x q y : List Int}, Runs N x q y → x ∈ s.marks → (∃ j, j < ks.length ∧ (ix ks j).mark = x) → ∃ j, j < ks.length ∧ (ix ks j).mark = y := by
      intro x q y hr
      induction hr with
      | nil x => exact fun _ h => h
      | cons hF _ ih =>
        intro hx ⟨j, hj, he⟩
        have T := netOk_tr (fits_ok h.fit) hF.lt
        subst he
        have hb : belowB (N.tr _).pre (ix ks j).mark = true := below_iff.2 fun p hpp => .inr ⟨by have := (w_nth T p).1; omega, hF.pre p⟩
        obtain ⟨l, hl, hm⟩ := h.step hno hj hF.lt hb
        have h1 := (fireK_fires hW hx hF.lt hb).1
        refine ih (hW.next hx hF) ⟨l, hl, ?_⟩
        rw [hm]; exact (hF.unique h1).symm
    obtain ⟨j, hj, he⟩ := key hq hW.start ⟨0, h.pos, by rw [h.root]⟩
    exact ⟨_, ix_mem hj, he⟩
  · intro k hk
    obtain ⟨j, hj, rfl⟩ := List.getElem_of_mem hk
    rw [← ix_lt hj]
    exact (h.marks hW j hj (fun i hi => hno i (by omega))).1
end
end Go.Tok
