/- Plain laws of what transitions do together. No program is in sight here. -/
import Derived.Test.YtajmccjnoejmfaaPA
namespace Go.Tok
set_option linter.unusedVariables false

def overB (least x : Int) : Bool := decide (x < least) || decide (x > 1000000)
def boundedB (l : List Int) (many least : Int) : Bool := decide ((l.length : Int) = many) && !(l.any (overB least))
theorem overB_def (least x : Int) : overB least x = (decide (x < least) || decide (x > 1000000)) := rfl
theorem boundedB_def (l : List Int) (many least : Int) : boundedB l many least = (decide ((l.length : Int) = many) && !(l.any (overB least))) := rfl
theorem boundedB_yes {l : List Int} {many least : Int} (h1 : (l.length : Int) = many) (h2 : ∀ x ∈ l, least ≤ x ∧ x ≤ 1000000) : boundedB l many least = true := by
  unfold boundedB overB
  simp only [Bool.and_eq_true, decide_eq_true_eq, Bool.not_eq_true', List.any_eq_false, Bool.or_eq_true]
  exact ⟨h1, fun x hx => by have := h2 x hx; omega⟩
theorem boundedB_of {l : List Int} {many least : Int} (h : boundedB l many least = true) : (l.length : Int) = many ∧ ∀ x ∈ l, least ≤ x ∧ x ≤ 1000000 := by
  unfold boundedB overB at h
  simp only [Bool.and_eq_true, decide_eq_true_eq, Bool.not_eq_true', List.any_eq_false, Bool.or_eq_true] at h
  exact ⟨h.1, fun x hx => by have := h.2 x hx; omega⟩
theorem boundedB_nth {l : List Int} {many least : Int} (h : boundedB l many least = true) (h0 : least ≤ 0) (p : Nat) : least ≤ nth l p ∧ nth l p ≤ 1000000 := by
  by_cases hp : p < l.length
  · rw [nth_lt hp]; exact (boundedB_of h).2 _ (List.getElem_mem hp)
  · rw [nth_ge (by omega)]; omega

/-- how often each transition is there -/
def countOf (s : List Int) (k : Nat) : Int := (s.count (k : Int) : Nat)
def countL (n : Nat) (s : List Int) : List Int := (List.range n).map (countOf s)
theorem countL_len (n : Nat) (s : List Int) : (countL n s).length = n := by simp [countL]
theorem countL_nth {n k : Nat} (s : List Int) (h : k < n) : nth (countL n s) k = countOf s k := by
  rw [nth_lt (by rw [countL_len]; exact h)]; simp [countL]
theorem countOf_le (s : List Int) (k : Nat) : 0 ≤ countOf s k ∧ countOf s k ≤ s.length := by
  unfold countOf; have := List.count_le_length (a := (k : Int)) (l := s); omega
theorem countOf_nil (k : Nat) : countOf [] k = 0 := rfl
theorem countOf_cons (t : Nat) (s : List Int) (k : Nat) : countOf ((t : Int) :: s) k = countOf s k + (if k = t then 1 else 0) := by
  unfold countOf
  rw [List.count_cons]
  by_cases h : k = t
  · subst h; simp
  · have : ¬ ((t : Int) = (k : Int)) := by omega
    simp [h, this]
theorem countL_bounded (n : Nat) {s : List Int} (h : s.length ≤ 100000) : boundedB (countL n s) n 0 = true := by
  refine boundedB_yes (by rw [countL_len]) fun x hx => ?_
  unfold countL at hx
  obtain ⟨k, _, rfl⟩ := List.mem_map.1 hx
  have := countOf_le s k; omega
theorem countL_nil (n : Nat) : countL n [] = List.replicate n 0 := by
  refine ext_nth (by simp [countL_len]) fun p hp => ?_
  rw [countL_len] at hp
  rw [countL_nth _ hp, countOf_nil, nth_lt (by simpa using hp)]; simp
theorem countOf_snoc (t : Int) (s : List Int) (k : Nat) : countOf (s ++ [t]) k = countOf s k + (if t = (k : Int) then 1 else 0) := by
  unfold countOf
  rw [List.count_append, List.count_singleton]
  by_cases h : t = (k : Int)
  · subst h; simp
  · simp [h]
theorem countL_hit {n k : Nat} (s : List Int) (h : k < n) : (countL n s).set k (nth (countL n s) k + 1) = countL n (s ++ [(k : Int)]) := by
  refine ext_nth (by simp [countL_len]) fun p hp => ?_
  simp only [List.length_set, countL_len] at hp
  rw [nth_set _ _ _ (by rw [countL_len]; exact hp), countL_nth s h, countL_nth s hp, countL_nth _ hp, countOf_snoc]
  by_cases h1 : k = p
  · subst h1; simp
  · rw [if_neg h1, if_neg (by omega)]; omega
theorem countL_miss {n : Nat} {t : Int} (s : List Int) (h : t < 0 ∨ (n : Int) ≤ t) : countL n s = countL n (s ++ [t]) := by
  refine ext_nth (by simp [countL_len]) fun p hp => ?_
  rw [countL_len] at hp
  rw [countL_nth s hp, countL_nth _ hp, countOf_snoc, if_neg (by omega)]; omega
theorem countL_take {k : Nat} {s : List Int} (h : k < s.length) : s.take (k + 1) = s.take k ++ [nth s k] := by
  rw [List.take_succ_eq_append_getElem h, nth_lt h]

/-- what a transition does at a place -/
def chgT (t : TranD) (p : Nat) : Int := nth t.post p - nth t.pre p
theorem chgT_def (t : TranD) (p : Nat) : chgT t p = nth t.post p - nth t.pre p := rfl
/-- what the first n transitions do at a place, if they fire so often -/
def effTo (N : NetD) (c : List Int) (p : Nat) : Nat → Int
  | 0 => 0
  | n + 1 => effTo N c p n + nth c n * chgT (N.tr n) p
theorem effTo_zero (N : NetD) (c : List Int) (p : Nat) : effTo N c p 0 = 0 := by rw [effTo]
theorem effTo_succ (N : NetD) (c : List Int) (p n : Nat) : effTo N c p (n + 1) = effTo N c p n + nth c n * chgT (N.tr n) p := by rw [effTo]
def effectL (N : NetD) (c : List Int) : List Int := (List.range N.places.toNat).map fun p => effTo N c p N.trans.length
def effectB (N : NetD) (c : List Int) : Bool := netOkB N && boundedB c N.trans.length 0
def effectF (N : NetD) (c : List Int) : List Int × Int := if effectB N c then (effectL N c, 0) else ([], 2)
theorem effectF_yes {N : NetD} {c : List Int} (h : effectB N c = true) : effectF N c = (effectL N c, 0) := by simp [effectF, h]
theorem effectF_no {N : NetD} {c : List Int} (h : effectB N c = false) : effectF N c = ([], 2) := by simp [effectF, h]
theorem effectB_of {N : NetD} {c : List Int} (h : effectB N c = true) : netOkB N = true ∧ boundedB c N.trans.length 0 = true := by
  unfold effectB at h; simpa using h
theorem effectB_mk {N : NetD} {c : List Int} (h1 : netOkB N = true) (h2 : boundedB c N.trans.length 0 = true) : effectB N c = true := by
  unfold effectB; simp [h1, h2]
theorem effectB_bad1 {N : NetD} {c : List Int} (h : netOkB N = false) : effectB N c = false := by unfold effectB; simp [h]
theorem effectB_bad2 {N : NetD} {c : List Int} (h : boundedB c N.trans.length 0 = false) : effectB N c = false := by unfold effectB; simp [h]
theorem netOk_sizes {N : NetD} (h : netOkB N = true) : 0 ≤ N.places ∧ N.places ≤ 16 ∧ N.trans.length ≤ 24 := by
  unfold netOkB at h
  simp only [Bool.and_eq_true, decide_eq_true_eq] at h
  exact ⟨h.1.1.1, h.1.1.2, h.1.2⟩
theorem effectL_len {N : NetD} (c : List Int) (h : netOkB N = true) : ((effectL N c).length : Int) = N.places := by
  have := netOk_sizes h
  simp [effectL]; omega
theorem effectL_nth {N : NetD} (c : List Int) {p : Nat} (h : p < N.places.toNat) : nth (effectL N c) p = effTo N c p N.trans.length := by
  rw [nth_lt (by simpa [effectL] using h)]; simp [effectL]
theorem chgT_le {N : NetD} {t : TranD} (F : TranFacts N t) (p : Nat) : -9 ≤ chgT t p ∧ chgT t p ≤ 9 := by
  have := w_nth F p; unfold chgT; omega
theorem mul_le_of {a b A B : Int} (h1 : 0 ≤ a) (h2 : a ≤ A) (h3 : -B ≤ b) (h4 : b ≤ B) (h5 : 0 ≤ B) : -(A * B) ≤ a * b ∧ a * b ≤ A * B := by
  have e1 : a * b ≤ a * B := Int.mul_le_mul_of_nonneg_left h4 h1
  have e2 : a * -B ≤ a * b := Int.mul_le_mul_of_nonneg_left h3 h1
  have e3 : a * B ≤ A * B := Int.mul_le_mul_of_nonneg_right h2 h5
  rw [Int.mul_neg] at e2
  omega
theorem effTo_le {N : NetD} {c : List Int} (h : effectB N c = true) (p : Nat) : ∀ n, n ≤ N.trans.length → -(9000000 * (n : Int)) ≤ effTo N c p n ∧ effTo N c p n ≤ 9000000 * (n : Int) := by
  obtain ⟨h1, h2⟩ := effectB_of h
  intro n
  induction n with
  | zero => intro _; rw [effTo_zero]; omega
  | succ n ih =>
    intro hn
    have i := ih (by omega)
    have c1 := boundedB_nth h2 (by omega) n
    have c2 := chgT_le (netOk_tr h1 (show n < N.trans.length by omega)) p
    have c3 := mul_le_of c1.1 c1.2 c2.1 c2.2 (by omega)
    rw [effTo_succ]
    omega
theorem term_le {N : NetD} {c : List Int} (h : effectB N c = true) {n : Nat} (hn : n < N.trans.length) (p : Nat) : -9000000 ≤ nth c n * chgT (N.tr n) p ∧ nth c n * chgT (N.tr n) p ≤ 9000000 := by
  obtain ⟨h1, h2⟩ := effectB_of h
  have c1 := boundedB_nth h2 (by omega) n
  have c2 := chgT_le (netOk_tr h1 hn) p
  have c3 := mul_le_of c1.1 c1.2 c2.1 c2.2 (by omega)
  omega

/-- one more firing of k -/
theorem effTo_more {N : NetD} {c c' : List Int} {k : Nat} (p : Nat) {n : Nat} : (∀ j, j < n → nth c' j = nth c j + (if j = k then 1 else 0)) → effTo N c' p n = effTo N c p n + (if k < n then chgT (N.tr k) p else 0) := by
  induction n with
  | zero => intro _; rw [effTo_zero, effTo_zero]; simp
  | succ n ih =>
    intro h
    rw [effTo_succ, effTo_succ, ih (fun j hj => h j (by omega)), h n (by omega)]
    by_cases h1 : n = k
    · subst h1
      simp only [if_true, if_neg (Nat.lt_irrefl n), if_pos (Nat.lt_succ_self n)]
      rw [Int.add_mul]; omega
    · simp only [if_neg h1]
      by_cases h2 : k < n
      · rw [if_pos h2, if_pos (by omega)]; rw [Int.add_zero]; omega
      · rw [if_neg h2, if_neg (by omega)]; simp
theorem runs_equation {N : NetD} {m s x : List Int} (h : Runs N m s x) (p : Nat) : nth x p = nth m p + effTo N (countL N.trans.length s) p N.trans.length := by
  induction h with
  | nil x =>
    have : ∀ n, n ≤ N.trans.length → effTo N (countL N.trans.length []) p n = 0 := by
      intro n
      induction n with
      | zero => intro _; exact effTo_zero _ _ _
      | succ n ih => intro hn; rw [effTo_succ, ih (by omega), countL_nth _ (by omega), countOf_nil]; simp
    rw [this _ (Nat.le_refl _)]; simp
  | @cons x y z s k hF _ ih =>
    rw [ih, hF.eq p, effTo_more (c := countL N.trans.length s) (c' := countL N.trans.length ((k : Int) :: s)) (k := k) p (fun j hj => by rw [countL_nth _ hj, countL_nth _ hj, countOf_cons]), if_pos hF.lt]
    unfold chgT; omega
def effUp (N : NetD) (c : List Int) (n k : Nat) : List Int := (List.range n).map fun p => effTo N c p k
def effMix (N : NetD) (c : List Int) (n k q : Nat) : List Int := (List.range n).map fun p => effTo N c p (if p < q then k + 1 else k)
theorem effUp_len (N : NetD) (c : List Int) (n k : Nat) : (effUp N c n k).length = n := by simp [effUp]
theorem effMix_len (N : NetD) (c : List Int) (n k q : Nat) : (effMix N c n k q).length = n := by simp [effMix]
theorem effUp_zero (N : NetD) (c : List Int) (n : Nat) : effUp N c n 0 = List.replicate n 0 := by
  refine ext_nth (by simp [effUp]) fun p hp => ?_
  rw [effUp_len] at hp
  rw [nth_lt (by rw [effUp_len]; exact hp), nth_lt (by simpa using hp)]; simp [effUp, effTo_zero]
theorem effMix_zero (N : NetD) (c : List Int) (n k : Nat) : effMix N c n k 0 = effUp N c n k := by simp [effMix, effUp]
theorem effMix_nth (N : NetD) (c : List Int) {n k q p : Nat} (h : p < n) : nth (effMix N c n k q) p = effTo N c p (if p < q then k + 1 else k) := by
  rw [nth_lt (by rw [effMix_len]; exact h)]; simp [effMix]
theorem effMix_at (N : NetD) (c : List Int) {n k q : Nat} (h : q < n) : nth (effMix N c n k q) q = effTo N c q k := by
  rw [effMix_nth N c h, if_neg (Nat.lt_irrefl q)]
theorem effMix_set (N : NetD) (c : List Int) {n k q : Nat} (h : q < n) : (effMix N c n k q).set q (effTo N c q k + nth c k * chgT (N.tr k) q) = effMix N c n k (q + 1) := by
  refine ext_nth (by simp [effMix_len]) fun p hp => ?_
  simp only [List.length_set, effMix_len] at hp
  rw [nth_set _ _ _ (by rw [effMix_len]; exact hp), effMix_nth N c hp, effMix_nth N c hp]
  by_cases h1 : q = p
  · subst h1; rw [if_pos rfl, if_pos (by omega), effTo_succ]
  · rw [if_neg h1]
    by_cases h2 : p < q
    · rw [if_pos h2, if_pos (by omega)]
    · rw [if_neg h2, if_neg (by omega)]
theorem effMix_all (N : NetD) (c : List Int) {n k q : Nat} (h : n ≤ q) : effMix N c n k q = effUp N c n (k + 1) := by
  refine ext_nth (by simp [effMix_len, effUp_len]) fun p hp => ?_
  rw [effMix_len] at hp
  rw [effMix_nth N c hp, if_pos (by omega), nth_lt (by rw [effUp_len]; exact hp)]; simp [effUp]
theorem effUp_all (N : NetD) (c : List Int) {n : Nat} (h : (n : Int) = N.places) : effUp N c n N.trans.length = effectL N c := by
  have : N.places.toNat = n := by omega
  simp [effUp, effectL, this]
attribute [irreducible] effUp effMix
attribute [irreducible] countL countOf effTo effectL effectB effectF boundedB chgT overB
end Go.Tok
