/- Plain laws of what transitions do together. No program is in sight here. -/
import Derived.Test.YtjpapgbdhflgnaaPA
import Derived.Test.YtjpapgbdhflgnaaGrowLaw
import Derived.Test.YtjpapgbdhflgnaaPB
namespace Go.Tok
set_option linter.unusedVariables false

def overB (least x : Int) : Bool := decide (x < least) || decide (x > 1000000)
def boundedB (l : List Int) (many least : Int) : Bool := decide ((l.length : Int) = many) && !(l.any (overB least))
theorem overB_def (least x : Int) : overB least x = (decide (x < least) || decide (x > 1000000)) := rfl
theorem boundedB_def (l : List Int) (many least : Int) : boundedB l many least = (decide ((l.length : Int) = many) && !(l.any (overB least))) := rfl
theorem boundedB_yes {l : List Int} {many least : Int} (h1 : (l.length : Int) = many) (h2 : ∀ x ∈ l, least ≤ x ∧ x ≤ 1000000) : boundedB l many least = true := by
  unfold boundedB overB
  simp only [Bool.and_eq_true, decide_eq_true_eq, Bool.not_eq_true', List.any_eq_false, Bool.or_eq_true]
  exact ⟨h1, fun x hx => by have := h2 x hx; omega⟩
theorem boundedB_of {l : List Int} {many least : Int} (h : boundedB l many least = true) : (l.length : Int) = many ∧ ∀ x ∈ l, least ≤ x ∧ x ≤ 1000000 := by
  unfold boundedB overB at h
  simp only [Bool.and_eq_true, decide_eq_true_eq, Bool.not_eq_true', List.any_eq_false, Bool.or_eq_true] at h
  exact ⟨h.1, fun x hx => by have := h.2 x hx; omega⟩
theorem boundedB_nth {l : List Int} {many least : Int} (h : boundedB l many least = true) (h0 : least ≤ 0) (p : Nat) : least ≤ nth l p ∧ nth l p ≤ 1000000 := by
  by_cases hp : p < l.length
  · rw [nth_lt hp]; exact (boundedB_of h).2 _ (List.getElem_mem hp)
  · rw [nth_ge (by omega)]; omega

/-- how often each transition is there -/
def countOf (s : List Int) (k : Nat) : Int := (s.count (k : Int) : Nat)
def countL (n : Nat) (s : List Int) : List Int := (List.range n).map (countOf s)
theorem countL_len (n : Nat) (s : List Int) : (countL n s).length = n := by simp [countL]
theorem countL_nth {n k : Nat} (s : List Int) (h : k < n) : nth (countL n s) k = countOf s k := by
  rw [nth_lt (by rw [countL_len]; exact h)]; simp [countL]
theorem countOf_le (s : List Int) (k : Nat) : 0 ≤ countOf s k ∧ countOf s k ≤ s.length := by
  unfold countOf; have := List.count_le_length (a := (k : Int)) (l := s); omega
theorem countOf_nil (k : Nat) : countOf [] k = 0 := rfl
theorem countOf_cons (t : Nat) (s : List Int) (k : Nat) : countOf ((t : Int) :: s) k = countOf s k + (if k = t then 1 else 0) := by
  unfold countOf
  rw [List.count_cons]
  by_cases h : k = t
  · subst h; simp
  · have : ¬ ((t : Int) = (k : Int)) := by omega
    simp [h, this]
theorem countL_bounded (n : Nat) {s : List Int} (h : s.length ≤ 100000) : boundedB (countL n s) n 0 = true := by
  refine boundedB_yes (by rw [countL_len]) fun x hx => ?_
  unfold countL at hx
  obtain ⟨k, _, rfl⟩ := List.mem_map.1 hx
  have := countOf_le s k; omega
theorem countL_nil (n : Nat) : countL n [] = List.replicate n 0 := by
  refine ext_nth (by simp [countL_len]) fun p hp => ?_
  rw [countL_len] at hp
  rw [countL_nth _ hp, countOf_nil, nth_lt (by simpa using hp)]; simp
theorem countOf_snoc (t : Int) (s : List Int) (k : Nat) : countOf (s ++ [t]) k = countOf s k + (if t = (k : Int) then 1 else 0) := by
  unfold countOf
  rw [List.count_append, List.count_singleton]
  by_cases h : t = (k : Int)
  · subst h; simp
  · simp [h]
theorem countL_hit {n k : Nat} (s : List Int) (h : k < n) : (countL n s).set k (nth (countL n s) k + 1) = countL n (s ++ [(k : Int)]) := by
  refine ext_nth (by simp [countL_len]) fun p hp => ?_
  simp only [List.length_set, countL_len] at hp
  rw [nth_set _ _ _ (by rw [countL_len]; exact hp), countL_nth s h, countL_nth s hp, countL_nth _ hp, countOf_snoc]
  by_cases h1 : k = p
  · subst h1; simp
  · rw [if_neg h1, if_neg (by omega)]; omega
theorem countL_miss {n : Nat} {t : Int} (s : List Int) (h : t < 0 ∨ (n : Int) ≤ t) : countL n s = countL n (s ++ [t]) := by
  refine ext_nth (by simp [countL_len]) fun p hp => ?_
  rw [countL_len] at hp
  rw [countL_nth s hp, countL_nth _ hp, countOf_snoc, if_neg (by omega)]; omega
theorem countL_take {k : Nat} {s : List Int} (h : k < s.length) : s.take (k + 1) = s.take k ++ [nth s k] := by
  rw [List.take_succ_eq_append_getElem h, nth_lt h]

/-- what a transition does at a place -/
def chgT (t : TranD) (p : Nat) : Int := nth t.post p - nth t.pre p
theorem chgT_def (t : TranD) (p : Nat) : chgT t p = nth t.post p - nth t.pre p := rfl
/-- what the first n transitions do at a place, if they fire so often -/
def effTo (N : NetD) (c : List Int) (p : Nat) : Nat → Int
  | 0 => 0
  | n + 1 => effTo N c p n + nth c n * chgT (N.tr n) p
theorem effTo_zero (N : NetD) (c : List Int) (p : Nat) : effTo N c p 0 = 0 := by rw [effTo]
theorem effTo_succ (N : NetD) (c : List Int) (p n : Nat) : effTo N c p (n + 1) = effTo N c p n + nth c n * chgT (N.tr n) p := by rw [effTo]
def effectL (N : NetD) (c : List Int) : List Int := (List.range N.places.toNat).map fun p => effTo N c p N.trans.length
def effectB (N : NetD) (c : List Int) : Bool := netOkB N && boundedB c N.trans.length 0
def effectF (N : NetD) (c : List Int) : List Int × Int := if effectB N c then (effectL N c, 0) else ([], 2)
theorem effectF_yes {N : NetD} {c : List Int} (h : effectB N c = true) : effectF N c = (effectL N c, 0) := by simp [effectF, h]
theorem effectF_no {N : NetD} {c : List Int} (h : effectB N c = false) : effectF N c = ([], 2) := by simp [effectF, h]
theorem effectB_of {N : NetD} {c : List Int} (h : effectB N c = true) : netOkB N = true ∧ boundedB c N.trans.length 0 = true := by
  unfold effectB at h; simpa using h
theorem effectB_mk {N : NetD} {c : List Int} (h1 : netOkB N = true) (h2 : boundedB c N.trans.length 0 = true) : effectB N c = true := by
  unfold effectB; simp [h1, h2]
theorem effectB_bad1 {N : NetD} {c : List Int} (h : netOkB N = false) : effectB N c = false := by unfold effectB; simp [h]
theorem effectB_bad2 {N : NetD} {c : List Int} (h : boundedB c N.trans.length 0 = false) : effectB N c = false := by unfold effectB; simp [h]
theorem netOk_sizes {N : NetD} (h : netOkB N = true) : 0 ≤ N.places ∧ N.places ≤ 16 ∧ N.trans.length ≤ 24 := by
  unfold netOkB at h
  simp only [Bool.and_eq_true, decide_eq_true_eq] at h
  exact ⟨h.1.1.1, h.1.1.2, h.1.2⟩
theorem effectL_len {N : NetD} (c : List Int) (h : netOkB N = true) : ((effectL N c).length : Int) = N.places := by
  have := netOk_sizes h
  simp [effectL]; omega
theorem effectL_nth {N : NetD} (c : List Int) {p : Nat} (h : p < N.places.toNat) : nth (effectL N c) p = effTo N c p N.trans.length := by
  rw [nth_lt (by simpa [effectL] using h)]; simp [effectL]
theorem chgT_le {N : NetD} {t : TranD} (F : TranFacts N t) (p : Nat) : -9 ≤ chgT t p ∧ chgT t p ≤ 9 := by
  have := w_nth F p; unfold chgT; omega
theorem mul_le_of {a b A B : Int} (h1 : 0 ≤ a) (h2 : a ≤ A) (h3 : -B ≤ b) (h4 : b ≤ B) (h5 : 0 ≤ B) : -(A * B) ≤ a * b ∧ a * b ≤ A * B := by
  have e1 : a * b ≤ a * B := Int.mul_le_mul_of_nonneg_left h4 h1
  have e2 : a * -B ≤ a * b := Int.mul_le_mul_of_nonneg_left h3 h1
  have e3 : a * B ≤ A * B := Int.mul_le_mul_of_nonneg_right h2 h5
  rw [Int.mul_neg] at e2
  omega
theorem effTo_le {N : NetD} {c : List Int} (h : effectB N c = true) (p : Nat) : ∀ n, n ≤ N.trans.length → -(9000000 * (n : Int)) ≤ effTo N c p n ∧ effTo N c p n ≤ 9000000 * (n : Int) := by
  obtain ⟨h1, h2⟩ := effectB_of h
  intro n
  induction n with
  | zero => intro _; rw [effTo_zero]; omega
  | succ n ih =>
    intro hn
    have i := ih (by omega)
    have c1 := boundedB_nth h2 (by omega) n
    have c2 := chgT_le (netOk_tr h1 (show n < N.trans.length by omega)) p
    have c3 := mul_le_of c1.1 c1.2 c2.1 c2.2 (by omega)
    rw [effTo_succ]
    omega
theorem term_le {N : NetD} {c : List Int} (h : effectB N c = true) {n : Nat} (hn : n < N.trans.length) (p : Nat) : -9000000 ≤ nth c n * chgT (N.tr n) p ∧ nth c n * chgT (N.tr n) p ≤ 9000000 := by
  obtain ⟨h1, h2⟩ := effectB_of h
  have c1 := boundedB_nth h2 (by omega) n
  have c2 := chgT_le (netOk_tr h1 hn) p
  have c3 := mul_le_of c1.1 c1.2 c2.1 c2.2 (by omega)
  omega

/-- one more firing of k -/
theorem effTo_more {N : NetD} {c c' : List Int} {k : Nat} (p : Nat) {n : Nat} : (∀ j, j < n → nth c' j = nth c j + (if j = k then 1 else 0)) → effTo N c' p n = effTo N c p n + (if k < n then chgT (N.tr k) p else 0) := by
  induction n with
  | zero => intro _; rw [effTo_zero, effTo_zero]; simp
  | succ n ih =>
    intro h
    rw [effTo_succ, effTo_succ, ih (fun j hj => h j (by omega)), h n (by omega)]
    by_cases h1 : n = k
    · subst h1
      simp only [if_true, if_neg (Nat.lt_irrefl n), if_pos (Nat.lt_succ_self n)]
      rw [Int.add_mul]; omega
    · simp only [if_neg h1]
      by_cases h2 : k < n
      · rw [if_pos h2, if_pos (by omega)]; rw [Int.add_zero]; omega
      · rw [if_neg h2, if_neg (by omega)]; simp
theorem runs_equation {N : NetD} {m s x : List Int} (h : Runs N m s x) (p : Nat) : nth x p = nth m p + effTo N (countL N.trans.length s) p N.trans.length := by
  induction h with
  | nil x =>
    have : ∀ n, n ≤ N.trans.length → effTo N (countL N.trans.length []) p n = 0 := by
      intro n
      induction n with
      | zero => intro _; exact effTo_zero _ _ _
      | succ n ih => intro hn; rw [effTo_succ, ih (by omega), countL_nth _ (by omega), countOf_nil]; simp
    rw [this _ (Nat.le_refl _)]; simp
  | @cons x y z s k hF _ ih =>
    rw [ih, hF.eq p, effTo_more (c := countL N.trans.length s) (c' := countL N.trans.length ((k : Int) :: s)) (k := k) p (fun j hj => by rw [countL_nth _ hj, countL_nth _ hj, countOf_cons]), if_pos hF.lt]
    unfold chgT; omega
def effUp (N : NetD) (c : List Int) (n k : Nat) : List Int := (List.range n).map fun p => effTo N c p k
def effMix (N : NetD) (c : List Int) (n k q : Nat) : List Int := (List.range n).map fun p => effTo N c p (if p < q then k + 1 else k)
theorem effUp_len (N : NetD) (c : List Int) (n k : Nat) : (effUp N c n k).length = n := by simp [effUp]
theorem effMix_len (N : NetD) (c : List Int) (n k q : Nat) : (effMix N c n k q).length = n := by simp [effMix]
theorem effUp_zero (N : NetD) (c : List Int) (n : Nat) : effUp N c n 0 = List.replicate n 0 := by
  refine ext_nth (by simp [effUp]) fun p hp => ?_
  rw [effUp_len] at hp
  rw [nth_lt (by rw [effUp_len]; exact hp), nth_lt (by simpa using hp)]; simp [effUp, effTo_zero]
theorem effMix_zero (N : NetD) (c : List Int) (n k : Nat) : effMix N c n k 0 = effUp N c n k := by simp [effMix, effUp]
theorem effMix_nth (N : NetD) (c : List Int) {n k q p : Nat} (h : p < n) : nth (effMix N c n k q) p = effTo N c p (if p < q then k + 1 else k) := by
  rw [nth_lt (by rw [effMix_len]; exact h)]; simp [effMix]
theorem effMix_at (N : NetD) (c : List Int) {n k q : Nat} (h : q < n) : nth (effMix N c n k q) q = effTo N c q k := by
  rw [effMix_nth N c h, if_neg (Nat.lt_irrefl q)]
theorem effMix_set (N : NetD) (c : List Int) {n k q : Nat} (h : q < n) : (effMix N c n k q).set q (effTo N c q k + nth c k * chgT (N.tr k) q) = effMix N c n k (q + 1) := by
  refine ext_nth (by simp [effMix_len]) fun p hp => ?_
  simp only [List.length_set, effMix_len] at hp
  rw [nth_set _ _ _ (by rw [effMix_len]; exact hp), effMix_nth N c hp, effMix_nth N c hp]
  by_cases h1 : q = p
  · subst h1; rw [if_pos rfl, if_pos (by omega), effTo_succ]
  · rw [if_neg h1]
    by_cases h2 : p < q
    · rw [if_pos h2, if_pos (by omega)]
    · rw [if_neg h2, if_neg (by omega)]
theorem effMix_all (N : NetD) (c : List Int) {n k q : Nat} (h : n ≤ q) : effMix N c n k q = effUp N c n (k + 1) := by
  refine ext_nth (by simp [effMix_len, effUp_len]) fun p hp => ?_
  rw [effMix_len] at hp
  rw [effMix_nth N c hp, if_pos (by omega), nth_lt (by rw [effUp_len]; exact hp)]; simp [effUp]
theorem effUp_all (N : NetD) (c : List Int) {n : Nat} (h : (n : Int) = N.places) : effUp N c n N.trans.length = effectL N c := by
  have : N.places.toNat = n := by omega
  simp [effUp, effectL, this]
attribute [irreducible] effUp effMix
attribute [irreducible] countL countOf effTo effectL effectB effectF boundedB chgT overB
end Go.Tok

/- Plain laws of what marks are worth. No program is in sight here. -/
namespace Go.Tok
set_option linter.unusedVariables false

def weighTo (y m : List Int) : Nat → Int
  | 0 => 0
  | n + 1 => weighTo y m n + nth y n * nth m n
theorem weighTo_zero (y m : List Int) : weighTo y m 0 = 0 := by rw [weighTo]
theorem weighTo_succ (y m : List Int) (n : Nat) : weighTo y m (n + 1) = weighTo y m n + nth y n * nth m n := by rw [weighTo]
def weighF (y m : List Int) : Int := weighTo y m (min y.length m.length)
theorem weighF_def (y m : List Int) : weighF y m = weighTo y m (min y.length m.length) := rfl
/-- worths and tokens that are not too many -/
def WOk (y m : List Int) : Prop := min y.length m.length ≤ 16 ∧ (∀ p, -1000000 ≤ nth y p ∧ nth y p ≤ 1000000) ∧ ∀ p, 0 ≤ nth m p ∧ nth m p ≤ 1000000
theorem mul_le' {a b A B : Int} (h1 : -A ≤ a) (h2 : a ≤ A) (h3 : 0 ≤ b) (h4 : b ≤ B) (h5 : 0 ≤ A) : -(A * B) ≤ a * b ∧ a * b ≤ A * B := by
  have := mul_le_of h3 h4 h1 h2 h5
  rw [Int.mul_comm b a, Int.mul_comm B A] at this
  exact this
theorem WOk.term {y m : List Int} (h : WOk y m) (n : Nat) : -1000000000000 ≤ nth y n * nth m n ∧ nth y n * nth m n ≤ 1000000000000 := by
  have a := h.2.1 n
  have b := h.2.2 n
  have := mul_le' a.1 a.2 b.1 b.2 (by omega)
  omega
theorem WOk.le {y m : List Int} (h : WOk y m) : ∀ n : Nat, n ≤ 16 → -(1000000000000 * (n : Int)) ≤ weighTo y m n ∧ weighTo y m n ≤ 1000000000000 * (n : Int) := by
  intro n
  induction n with
  | zero => intro _; rw [weighTo_zero]; omega
  | succ n ih =>
    intro hn
    have i := ih (by omega)
    have := h.term n
    rw [weighTo_succ]; omega

theorem WOk.min {y m : List Int} (h : WOk y m) : min y.length m.length ≤ 16 := h.1

def keptB (N : NetD) (y : List Int) : Bool := netOkB N && boundedB y N.places (-1000000) && N.trans.all fun t => decide (weighF y t.pre = weighF y t.post)
def KeptUpto (N : NetD) (y : List Int) (k : Nat) : Prop := ∀ i, i < k → weighF y (N.tr i).pre = weighF y (N.tr i).post
theorem KeptUpto.zero (N : NetD) (y : List Int) : KeptUpto N y 0 := fun i hi => by omega
theorem KeptUpto.succ {N : NetD} {y : List Int} {k : Nat} (h : KeptUpto N y k) (hk : weighF y (N.tr k).pre = weighF y (N.tr k).post) : KeptUpto N y (k + 1) := fun i hi => by
  rcases Nat.lt_or_ge i k with h1 | h1
  · exact h i h1
  · obtain rfl : i = k := by omega
    exact hk
theorem KeptUpto.all {N : NetD} {y : List Int} {k : Nat} (h : KeptUpto N y k) (hk : N.trans.length ≤ k) (h1 : netOkB N = true) (h2 : boundedB y N.places (-1000000) = true) : keptB N y = true := by
  unfold keptB
  simp only [h1, h2, Bool.true_and, List.all_eq_true, decide_eq_true_eq]
  intro t ht
  obtain ⟨i, hi, rfl⟩ := List.getElem_of_mem ht
  have := h i (by omega)
  unfold NetD.tr at this
  rw [List.getD_eq_getElem?_getD, List.getElem?_eq_getElem hi] at this
  exact this
theorem keptB_no {N : NetD} {y : List Int} {k : Nat} (hk : k < N.trans.length) (h : weighF y (N.tr k).pre ≠ weighF y (N.tr k).post) : keptB N y = false := by
  cases hb : keptB N y
  · rfl
  · unfold keptB at hb
    simp only [Bool.and_eq_true, List.all_eq_true, decide_eq_true_eq] at hb
    exact absurd (hb.2 _ (NetD.tr_mem hk)) h
theorem keptB_bad1 {N : NetD} {y : List Int} (h : netOkB N = false) : keptB N y = false := by unfold keptB; simp [h]
theorem keptB_bad2 {N : NetD} {y : List Int} (h : boundedB y N.places (-1000000) = false) : keptB N y = false := by unfold keptB; simp [h]
theorem keptB_of {N : NetD} {y : List Int} (h : keptB N y = true) : netOkB N = true ∧ boundedB y N.places (-1000000) = true ∧ KeptUpto N y N.trans.length := by
  unfold keptB at h
  simp only [Bool.and_eq_true, List.all_eq_true, decide_eq_true_eq] at h
  exact ⟨h.1.1, h.1.2, fun i hi => h.2 _ (NetD.tr_mem hi)⟩
theorem wok_tr {N : NetD} {y : List Int} (h1 : netOkB N = true) (h2 : boundedB y N.places (-1000000) = true) {k : Nat} (hk : k < N.trans.length) : WOk y (N.tr k).pre ∧ WOk y (N.tr k).post := by
  have F := netOk_tr h1 hk
  have s := netOk_sizes h1
  have l := (boundedB_of h2).1
  refine ⟨⟨by omega, fun p => boundedB_nth h2 (by omega) p, fun p => ?_⟩, ⟨by omega, fun p => boundedB_nth h2 (by omega) p, fun p => ?_⟩⟩
  all_goals have := w_nth F p; omega
theorem wok_fits {N : NetD} {y x : List Int} (h2 : boundedB y N.places (-1000000) = true) (h : fitsB N x = true) : WOk y x := by
  have s := fits_sizes h
  exact ⟨by omega, fun p => boundedB_nth h2 (by omega) p, fun p => fits_nth h p⟩
theorem weigh_lin {y a b c d : List Int} : ∀ n, (∀ p, nth d p = nth a p - nth b p + nth c p) → weighTo y d n = weighTo y a n - weighTo y b n + weighTo y c n := by
  intro n h
  induction n with
  | zero => simp [weighTo_zero]
  | succ n ih =>
    rw [weighTo_succ, weighTo_succ, weighTo_succ, weighTo_succ, ih, h n, Int.mul_add, Int.mul_sub]; omega
theorem kept_fire {N : NetD} {x z y : List Int} {k : Nat} (hx : fitsB N x = true) (h : Fires N x k z) (hk : keptB N y = true) : weighF y z = weighF y x := by
  obtain ⟨h1, h2, h3⟩ := keptB_of hk
  have F := netOk_tr h1 h.lt
  have hl := (boundedB_of h2).1
  have hf := fits_len hx
  have e := h3 k h.lt
  have l1 : min y.length z.length = y.length := by rw [h.len]; omega
  have l2 : min y.length x.length = y.length := by omega
  have l3 : min y.length (N.tr k).pre.length = y.length := by have := F.pre; omega
  have l4 : min y.length (N.tr k).post.length = y.length := by have := F.post; omega
  rw [weighF_def, weighF_def, l3, l4] at e
  rw [weighF_def, weighF_def, l1, l2, weigh_lin (a := x) (b := (N.tr k).pre) (c := (N.tr k).post) (d := z) _ h.eq]
  omega
theorem kept_runs {N : NetD} {x s z y : List Int} (h : Runs N x s z) : fitsB N x = true → keptB N y = true → weighF y z = weighF y x := by
  induction h with
  | nil x => exact fun _ _ => rfl
  | cons h _ ih => exact fun hx hk => (ih (h.fits hx) hk).trans (kept_fire hx h hk)
theorem flow_kept {N : NetD} {m s x y : List Int} (h : runF N m s = (x, 0)) (hk : keptB N y = true) : weighF y x = weighF y m := by
  obtain ⟨hf, hr⟩ := runF_of h
  exact kept_runs hr hf hk
theorem weigh_ge {y x : List Int} (hy : ∀ p, 0 ≤ nth y p) (hx : ∀ p, 0 ≤ nth x p) : ∀ n, 0 ≤ weighTo y x n ∧ ∀ p, p < n → nth y p * nth x p ≤ weighTo y x n := by
  intro n
  induction n with
  | zero => exact ⟨by rw [weighTo_zero]; omega, fun p hp => by omega⟩
  | succ n ih =>
    have h0 := Int.mul_nonneg (hy n) (hx n)
    rw [weighTo_succ]
    refine ⟨by omega, fun p hp => ?_⟩
    rcases Nat.lt_or_ge p n with h1 | h1
    · have := ih.2 p h1; omega
    · obtain rfl : p = n := by omega
      omega
theorem flow_bound {N : NetD} {m s x y : List Int} {p : Nat} (h : runF N m s = (x, 0)) (hk : keptB N y = true) (hp : p < y.length) (h1 : 0 < nth y p) (h2 : ∀ q, 0 ≤ nth y q) : nth x p ≤ weighF y m := by
  rw [← flow_kept h hk]
  obtain ⟨hf, hr⟩ := runF_of h
  have hx := hr.fits hf
  have hl := (boundedB_of (keptB_of hk).2.1).1
  have hf := fits_len hx
  have := (weigh_ge h2 (fun q => (fits_nth hx q).1) (min y.length x.length)).2 p (by omega)
  rw [weighF_def]
  have e : 1 * nth x p ≤ nth y p * nth x p := Int.mul_le_mul_of_nonneg_right (by omega) (fits_nth hx p).1
  omega

def nz (d : Int) : Bool := decide (d ≠ 0)
def roundB (N : NetD) (c : List Int) : Bool := effectB N c && !((effectL N c).any nz)
theorem roundB_def (N : NetD) (c : List Int) : roundB N c = (effectB N c && !((effectL N c).any nz)) := rfl
theorem nz_def (d : Int) : nz d = decide (d ≠ 0) := rfl
theorem flow_round {N : NetD} {m s x : List Int} (h : runF N m s = (x, 0)) (hs : s.length ≤ 100000) : roundB N (countL N.trans.length s) = sameB x m := by
  obtain ⟨hf, hr⟩ := runF_of h
  have hx := hr.fits hf
  have hb : effectB N (countL N.trans.length s) = true := effectB_mk (fits_ok hf) (countL_bounded _ hs)
  have he := runs_equation hr
  have l1 := fits_len hx
  have l2 := fits_len hf
  have l3 := effectL_len (N := N) (countL N.trans.length s) (fits_ok hf)
  unfold roundB
  rw [hb, Bool.true_and, Bool.eq_iff_iff, sameB_iff]
  simp only [Bool.not_eq_true', List.any_eq_false, nz_def, decide_eq_true_eq, Decidable.not_not]
  constructor
  · intro h p
    by_cases hp : p < N.places.toNat
    · have h5 := h (nth (effectL N (countL N.trans.length s)) p) (by rw [nth_lt (by omega)]; exact List.getElem_mem _)
      rw [effectL_nth _ hp] at h5
      have := he p
      omega
    · rw [nth_ge (by omega), nth_ge (by omega)]
  · intro h d hd
    obtain ⟨p, hp, rfl⟩ := List.getElem_of_mem hd
    have h5 := effectL_nth (N := N) (countL N.trans.length s) (p := p) (by omega)
    rw [nth_lt hp] at h5
    rw [h5]
    have := he p
    have := h p
    omega
theorem wok_two {a b c d : Int} (ha : -1000000 ≤ a ∧ a ≤ 1000000) (hb : -1000000 ≤ b ∧ b ≤ 1000000) (hc : 0 ≤ c ∧ c ≤ 1000000) (hd : 0 ≤ d ∧ d ≤ 1000000) : WOk [a, b] [c, d] := by
  refine ⟨by simp, fun p => ?_, fun p => ?_⟩
  all_goals
    rcases p with _ | _ | p
    · simpa [nth_def] using (by assumption)
    · simpa [nth_def] using (by assumption)
    · rw [nth_ge (by simp)]; omega
attribute [irreducible] weighTo weighF WOk keptB KeptUpto roundB nz
end Go.Tok

/- Of what grows of a block: who shares a place shares all; every place has a weighing of noughts and ones that no link changes. No program is in sight here. -/
namespace Go.Tok
open Go.RowKit
set_option linter.unusedVariables false
/-! ### who shares a place -/
/-- rows that share a place are one -/
def DJ (C : List Int → Prop) : Prop := ∀ a b p, C a → C b → p ∈ a → p ∈ b → a = b
theorem DJ.one (l : List Int) : DJ (fun a => a = l) := fun a b p ha hb _ _ => by rw [ha, hb]
theorem DJ.or {C D : List Int → Prop} (h1 : DJ C) (h2 : DJ D) (h : ∀ a b q, C a → D b → q ∈ a → q ∈ b → False) : DJ (fun a => C a ∨ D a) := by
  intro a b p ha hb hp hq
  rcases ha with ha | ha <;> rcases hb with hb | hb
  · exact h1 a b p ha hb hp hq
  · exact (h a b p ha hb hp hq).elim
  · exact (h b a p hb ha hq hp).elim
  · exact h2 a b p ha hb hp hq
/-- what grew from f on: all rows but [f] lie in new places, and those that share a place are one -/
def FreeG (f : Int) (s s' : GS) : Prop := s.places ≤ s'.places ∧ ∃ L, s'.links = s.links ++ L ∧ ∃ C : List Int → Prop, (∀ a, C a → ∀ p ∈ a, s.places ≤ p ∧ p < s'.places) ∧ DJ C ∧ ∀ l ∈ L, l.pre = [f] ∨ C l.pre
def FreeF (f : GF) (P : BlockD → Prop) : Prop := ∀ b x y s s', P b → x < s.places → f b x y s = some s' → FreeG x s s'
theorem free_link {x : Int} {l : TranD} {s s' : GS} (hl : l.pre = [x]) (e : linkF l s = some s') : FreeG x s s' := by
  obtain ⟨rfl, _⟩ := link_some e
  exact ⟨Int.le_refl _, [l], rfl, fun _ => False, fun a h => h.elim, fun a b p h => h.elim, fun m hm => .inl (by rw [List.mem_singleton.1 hm]; exact hl)⟩
theorem seq_free {f : GF} {P : BlockD → Prop} (hf : FreeF f P) : ∀ {ks : List BlockD} {x y : Int} {s s' : GS}, (∀ k ∈ ks, P k) → x < s.places → seqF f ks x y s = some s' → FreeG x s s' := by
  intro ks
  induction ks with
  | nil => intro x y s s' _ _ e; cases e
  | cons k r ih =>
    intro x y s s' hP hx e
    cases r with
    | nil => exact hf k x y s s' (hP k (by simp)) hx e
    | cons k2 ks =>
      unfold seqF at e
      replace e := Option.bind_eq_some_iff.1 e
      obtain ⟨s1, e1, e⟩ := e
      replace e := Option.bind_eq_some_iff.1 e
      obtain ⟨s2, e2, e⟩ := e
      obtain ⟨rfl, _⟩ := place_some e1
      obtain ⟨l1, L1, hL1, C1, hC1, hD1, hm1⟩ := hf k x s.places _ s2 (hP k (by simp)) (by simp only []; omega) e2
      simp only [] at l1 hL1 hC1
      obtain ⟨l2, L2, hL2, C2, hC2, hD2, hm2⟩ := ih (fun k hk => hP k (List.mem_cons_of_mem _ hk)) (show s.places < s2.places by omega) e
      refine ⟨by omega, L1 ++ L2, by rw [hL2, hL1, List.append_assoc], fun a => (a = [s.places] ∨ C1 a) ∨ C2 a, ?_, ?_, ?_⟩
      · rintro a ((rfl | h) | h) p hp
        · rw [List.mem_singleton.1 hp]; omega
        · have := hC1 a h p hp; omega
        · have := hC2 a h p hp; omega
      · refine ((DJ.one _).or hD1 ?_).or hD2 ?_
        · rintro a b q rfl hb ha hq
          rw [List.mem_singleton.1 ha] at hq
          have := hC1 b hb _ hq; omega
        · rintro a b q (rfl | ha) hb hqa hqb
          · rw [List.mem_singleton.1 hqa] at hqb
            have := hC2 b hb _ hqb; omega
          · have := hC1 a ha q hqa
            have := hC2 b hb q hqb; omega
      · intro l hl
        rcases List.mem_append.1 hl with h | h
        · rcases hm1 l h with h | h
          · exact .inl h
          · exact .inr (.inl (.inr h))
        · rcases hm2 l h with h | h
          · exact .inr (.inl (.inl h))
          · exact .inr (.inr h)
theorem choice_free {f : GF} {P : BlockD → Prop} (hf : FreeF f P) : ∀ {ks : List BlockD} {x y : Int} {s s' : GS}, (∀ k ∈ ks, P k) → x < s.places → choiceF f ks x y s = some s' → FreeG x s s' := by
  intro ks
  induction ks with
  | nil => intro x y s s' _ _ e; cases e; exact ⟨Int.le_refl _, [], by simp, fun _ => False, fun a h => h.elim, fun a b p h => h.elim, by simp⟩
  | cons k r ih =>
    intro x y s s' hP hx e
    unfold choiceF at e
    replace e := Option.bind_eq_some_iff.1 e
    obtain ⟨s1, e1, e⟩ := e
    obtain ⟨l1, L1, hL1, C1, hC1, hD1, hm1⟩ := hf k x y s s1 (hP k (by simp)) hx e1
    obtain ⟨l2, L2, hL2, C2, hC2, hD2, hm2⟩ := ih (fun k hk => hP k (List.mem_cons_of_mem _ hk)) (show x < s1.places by omega) e
    refine ⟨by omega, L1 ++ L2, by rw [hL2, hL1, List.append_assoc], fun a => C1 a ∨ C2 a, ?_, hD1.or hD2 ?_, ?_⟩
    · rintro a (h | h) p hp
      · have := hC1 a h p hp; omega
      · have := hC2 a h p hp; omega
    · intro a b q ha hb hqa hqb
      have := hC1 a ha q hqa
      have := hC2 b hb q hqb; omega
    · intro l hl
      rcases List.mem_append.1 hl with h | h
      · exact (hm1 l h).imp id .inl
      · exact (hm2 l h).imp id .inr
theorem both_free {f : GF} {P : BlockD → Prop} (hf : FreeF f P) : ∀ {ks : List BlockD} {p : Int} {s s' : GS}, (∀ k ∈ ks, P k) → p + 2 * (ks.length : Int) ≤ s.places → bothF f ks p s = some s' →
    s.places ≤ s'.places ∧ ∃ L, s'.links = s.links ++ L ∧ ∃ C : List Int → Prop, (∀ a, C a → ∀ q ∈ a, (∃ i : Int, q = p + 2 * i ∧ 0 ≤ i ∧ i < ks.length) ∨ (s.places ≤ q ∧ q < s'.places)) ∧ DJ C ∧ ∀ l ∈ L, C l.pre := by
  intro ks
  induction ks with
  | nil => intro p s s' _ _ e; cases e; exact ⟨Int.le_refl _, [], by simp, fun _ => False, fun a h => h.elim, fun a b p h => h.elim, by simp⟩
  | cons k r ih =>
    intro p s s' hP hx e
    unfold bothF at e
    rw [List.length_cons] at hx
    replace e := Option.bind_eq_some_iff.1 e
    obtain ⟨s1, e1, e⟩ := e
    obtain ⟨l1, L1, hL1, C1, hC1, hD1, hm1⟩ := hf k p (p + 1) s s1 (hP k (by simp)) (by omega) e1
    obtain ⟨l2, L2, hL2, C2, hC2, hD2, hm2⟩ := ih (fun k hk => hP k (List.mem_cons_of_mem _ hk)) (show p + 2 + 2 * (r.length : Int) ≤ s1.places by omega) e
    refine ⟨by omega, L1 ++ L2, by rw [hL2, hL1, List.append_assoc], fun a => (a = [p] ∨ C1 a) ∨ C2 a, ?_, ((DJ.one _).or hD1 ?_).or hD2 ?_, ?_⟩
    · rintro a ((rfl | h) | h) q hq
      · rw [List.mem_singleton.1 hq]; exact .inl ⟨0, by omega, by omega, by simp⟩
      · have := hC1 a h q hq; exact .inr (by omega)
      · rcases hC2 a h q hq with ⟨i, h1, h2, h3⟩ | h
        · exact .inl ⟨i + 1, by omega, by omega, by simp; omega⟩
        · exact .inr (by omega)
    · rintro a b q rfl hb ha hq
      rw [List.mem_singleton.1 ha] at hq
      have := hC1 b hb _ hq; omega
    · rintro a b q (rfl | ha) hb hqa hqb
      · rw [List.mem_singleton.1 hqa] at hqb
        rcases hC2 b hb _ hqb with ⟨i, h1, h2, h3⟩ | h <;> omega
      · have := hC1 a ha q hqa
        rcases hC2 b hb q hqb with ⟨i, h1, h2, h3⟩ | h <;> omega
    · intro l hl
      rcases List.mem_append.1 hl with h | h
      · rcases hm1 l h with h | h
        · exact .inl (.inl h)
        · exact .inl (.inr h)
      · exact .inr (hm2 l h)
theorem mem_outs {p q : Int} {k : Nat} (h : q ∈ outsL p k) : ∃ i : Int, q = p + 2 * i + 1 ∧ 0 ≤ i ∧ i < k := by
  unfold outsL at h
  obtain ⟨i, hi, rfl⟩ := List.mem_map.1 h
  exact ⟨i, rfl, by omega, by have := List.mem_range.1 hi; omega⟩
theorem mem_ins {p q : Int} {k : Nat} (h : q ∈ insL p k) : ∃ i : Int, q = p + 2 * i ∧ 0 ≤ i ∧ i < k := by
  unfold insL at h
  obtain ⟨i, hi, rfl⟩ := List.mem_map.1 h
  exact ⟨i, rfl, by omega, by have := List.mem_range.1 hi; omega⟩
theorem grow_free : ∀ (n : Nat), FreeF (growF n) (OkB n) := by
  intro n
  induction n with
  | zero => intro b x y s s' h; exact h.elim
  | succ n ih =>
    intro b x y s s' hb hx e
    obtain ⟨k1, k2, k3, k4, k5, k6, k7⟩ := hb
    unfold growF at e
    split at e
    · exact free_link rfl e
    · split at e
      · exact free_link rfl e
      · split at e
        · exact seq_free ih k7 hx e
        · split at e
          · exact choice_free ih k7 hx e
          · split at e
            · obtain ⟨s1, e1, e⟩ := Option.bind_eq_some_iff.1 e
              replace e := Option.bind_eq_some_iff.1 e
              obtain ⟨s2, e2, e⟩ := e
              replace e := Option.bind_eq_some_iff.1 e
              obtain ⟨s3, e3, e⟩ := e
              obtain ⟨rfl, _⟩ := places_some e1
              obtain ⟨rfl, _⟩ := link_some e2
              obtain ⟨l3, L, hL, C, hC, hD, hm⟩ := both_free ih k7 (by simp only []; omega) e3
              obtain ⟨rfl, _⟩ := link_some e
              simp only [] at l3 hL hC
              refine ⟨by simp only []; omega, ⟨0, [x], insL s.places b.kids.length⟩ :: L ++ [⟨0, outsL s.places b.kids.length, [y]⟩], by simp [hL], fun a => C a ∨ a = outsL s.places b.kids.length, ?_, hD.or (DJ.one _) ?_, ?_⟩
              · simp only []
                rintro a (h | rfl) q hq
                · rcases hC a h q hq with ⟨i, h1, h2, h3⟩ | h <;> omega
                · obtain ⟨i, h1, h2, h3⟩ := mem_outs hq; omega
              · rintro a b' q ha rfl hqa hqb
                obtain ⟨j, h4, h5, h6⟩ := mem_outs hqb
                rcases hC a ha q hqa with ⟨i, h1, h2, h3⟩ | h <;> omega
              · intro l hl
                rcases List.mem_append.1 hl with h | h
                · rcases List.mem_cons.1 h with rfl | h
                  · exact .inl rfl
                  · exact .inr (.inl (hm l h))
                · rw [List.mem_singleton.1 h]; exact .inr (.inr rfl)
            · obtain ⟨s1, e1, e⟩ := Option.bind_eq_some_iff.1 e
              replace e := Option.bind_eq_some_iff.1 e
              obtain ⟨s2, e2, e⟩ := e
              replace e := Option.bind_eq_some_iff.1 e
              obtain ⟨s3, e3, e⟩ := e
              replace e := Option.bind_eq_some_iff.1 e
              obtain ⟨s4, e4, e⟩ := e
              replace e := Option.bind_eq_some_iff.1 e
              obtain ⟨s5, e5, e⟩ := e
              have hlen := k6 (by omega)
              obtain ⟨rfl, _⟩ := place_some e1
              obtain ⟨rfl, _⟩ := place_some e2
              obtain ⟨rfl, _⟩ := link_some e3
              obtain ⟨l4, L1, hL1, C1, hC1, hD1, hm1⟩ := ih _ _ _ _ _ (k7 _ (ix_mem (by omega))) (by simp only []; omega) e4
              simp only [] at l4 hL1 hC1
              obtain ⟨l5, L2, hL2, C2, hC2, hD2, hm2⟩ := ih _ _ _ _ _ (k7 _ (ix_mem (by omega))) (by omega) e5
              obtain ⟨rfl, _⟩ := link_some e
              refine ⟨by simp only []; omega, ⟨0, [x], [s.places]⟩ :: (L1 ++ L2) ++ [⟨0, [s.places + 1], [y]⟩], by simp [hL2, hL1], fun a => ((a = [s.places] ∨ a = [s.places + 1]) ∨ C1 a) ∨ C2 a, ?_, (((DJ.one _).or (DJ.one _) ?_).or hD1 ?_).or hD2 ?_, ?_⟩
              · simp only []
                rintro a (((rfl | rfl) | h) | h) q hq
                · rw [List.mem_singleton.1 hq]; omega
                · rw [List.mem_singleton.1 hq]; omega
                · have := hC1 a h q hq; omega
                · have := hC2 a h q hq; omega
              · rintro a b' q rfl rfl h1 h2
                rw [List.mem_singleton.1 h1] at h2
                have := List.mem_singleton.1 h2; omega
              · rintro a b' q (rfl | rfl) hb h1 h2
                · rw [List.mem_singleton.1 h1] at h2
                  have := hC1 b' hb _ h2; omega
                · rw [List.mem_singleton.1 h1] at h2
                  have := hC1 b' hb _ h2; omega
              · rintro a b' q ((rfl | rfl) | ha) hb h1 h2
                · rw [List.mem_singleton.1 h1] at h2
                  have := hC2 b' hb _ h2; omega
                · rw [List.mem_singleton.1 h1] at h2
                  have := hC2 b' hb _ h2; omega
                · have := hC1 a ha q h1
                  have := hC2 b' hb q h2; omega
              · intro l hl
                rcases List.mem_append.1 hl with h | h
                · rcases List.mem_cons.1 h with rfl | h
                  · exact .inl rfl
                  · rcases List.mem_append.1 h with h | h
                    · rcases hm1 l h with h | h
                      · exact .inr (.inl (.inl (.inl h)))
                      · exact .inr (.inl (.inr h))
                    · rcases hm2 l h with h | h
                      · exact .inr (.inl (.inl (.inr h)))
                      · exact .inr (.inr h)
                · rw [List.mem_singleton.1 h]; exact .inr (.inl (.inl (.inr rfl)))
/-- of what has grown, links that take from one place take from the same -/
theorem grown_free {n : Nat} {b : BlockD} {s : GS} (hb : OkB n b) (h : growF n b 0 1 ⟨2, []⟩ = some s) : ∀ l ∈ s.links, ∀ m ∈ s.links, ∀ p, p ∈ l.pre → p ∈ m.pre → l.pre = m.pre := by
  obtain ⟨_, L, hL, C, hC, hD, hm⟩ := grow_free n b 0 1 ⟨2, []⟩ s hb (by simp) h
  simp only [] at hL hC
  rw [List.nil_append] at hL
  rw [hL]
  intro l hl m hm' p hp hq
  rcases hm l hl with h1 | h1 <;> rcases hm m hm' with h2 | h2
  · rw [h1, h2]
  · rw [h1] at hp
    rw [List.mem_singleton.1 hp] at hq
    have := hC _ h2 _ hq; omega
  · rw [h2] at hq
    rw [List.mem_singleton.1 hq] at hp
    have := hC _ h1 _ hp; omega
  · exact hD _ _ p h1 h2 hp hq

/-! ### weights -/
theorem nth_setp (xs : List Int) (i : Nat) (v : Int) (p : Nat) : nth (xs.set i v) p = if i = p ∧ p < xs.length then v else nth xs p := by
  unfold nth
  rw [List.getD_eq_getElem?_getD, List.getD_eq_getElem?_getD, List.getElem?_set]
  split
  · rename_i h
    subst h
    split
    · rename_i h; simp [h]
    · rename_i h; simp [h]
  · rename_i h; simp [h]
theorem fold_nth : ∀ (l out : List Int) (p : Nat), p < out.length → (∀ q ∈ l, 0 ≤ q) → nth (l.foldl (fun out q => out.set q.toNat 1) out) p = if (p : Int) ∈ l then 1 else nth out p := by
  intro l
  induction l with
  | nil => intro out p _ _; simp
  | cons a r ih =>
    intro out p hp hq
    rw [List.foldl_cons, ih _ p (by rw [List.length_set]; exact hp) (fun q h => hq q (by simp [h])), nth_setp]
    have ha := hq a (by simp)
    by_cases h1 : (p : Int) ∈ r
    · simp [h1]
    · by_cases h2 : (p : Int) = a
      · have : a.toNat = p := by omega
        simp [h2, this, hp]
      · have : ¬ a.toNat = p := by omega
        simp [h1, h2, this]
theorem fold_len : ∀ (l out : List Int), (l.foldl (fun out q => out.set q.toNat 1) out).length = out.length := by
  intro l
  induction l with
  | nil => intro out; rfl
  | cons a r ih => intro out; rw [List.foldl_cons, ih, List.length_set]
theorem weights_len (n : Nat) (l : List Int) : (weightsF n l).length = n := by unfold weightsF; rw [fold_len]; simp
theorem weights_nth {n : Nat} {l : List Int} (h : ∀ q ∈ l, 0 ≤ q) {p : Nat} (hp : p < n) : nth (weightsF n l) p = if (p : Int) ∈ l then 1 else 0 := by
  unfold weightsF
  rw [fold_nth l _ p (by simpa using hp) h]
  congr 1
  rw [nth_lt (by simpa using hp)]; simp
theorem weights_mem {n : Nat} {l : List Int} (h : ∀ q ∈ l, 0 ≤ q) : ∀ x ∈ weightsF n l, x = 0 ∨ x = 1 := by
  intro x hx
  obtain ⟨i, hi, rfl⟩ := List.getElem_of_mem hx
  have := weights_nth h (show i < n by rw [weights_len] at hi; exact hi)
  rw [nth_lt hi] at this
  rw [this]
  split <;> simp
theorem net_tr {s : GS} {i : Nat} (h : i < s.links.length) : (netOf s).tr i = ⟨(ix s.links i).label, weightsF s.places.toNat (ix s.links i).pre, weightsF s.places.toNat (ix s.links i).post⟩ := by
  unfold NetD.tr netOf
  simp [h, ix_lt]
theorem grown_net {s : GS} (h : GOk s) : netOkB (netOf s) = true := by
  unfold netOkB
  have h1 := h.lo
  have h2 := h.hi
  have h3 := h.len
  have e1 : (netOf s).places = s.places := rfl
  have e2 : (netOf s).trans.length = s.links.length := by simp [netOf]
  rw [e1, e2]
  simp only [show 0 ≤ s.places by omega, h2, h3, decide_true, Bool.true_and, List.all_eq_true]
  intro t ht
  unfold netOf at ht
  obtain ⟨l, hl, rfl⟩ := List.mem_map.1 ht
  obtain ⟨a1, a2⟩ := h.lab l hl
  have n1 : ∀ q ∈ l.pre, 0 ≤ q := fun q hq => (h.pre l hl q hq).1
  have n2 : ∀ q ∈ l.post, 0 ≤ q := fun q hq => (h.post l hl q hq).1
  have hbad : ∀ {xs : List Int}, (∀ q ∈ xs, 0 ≤ q) → ((weightsF s.places.toNat xs).any badW) = false := fun {xs} hx => by
    rw [Bool.eq_false_iff]
    intro e
    obtain ⟨x, hx', hb⟩ := List.any_eq_true.1 e
    rcases weights_mem hx x hx' with rfl | rfl <;> simp [badW] at hb
  unfold tranOkB
  simp only [a1, a2, weights_len, hbad n1, hbad n2, decide_true, Bool.not_false, Bool.and_true, Int.toNat_of_nonneg (show 0 ≤ s.places by omega)]
/-- GrowFree's law -/
theorem net_free {n : Nat} {b : BlockD} {s : GS} (hb : OkB n b) (h : growF n b 0 1 ⟨2, []⟩ = some s) {i j p : Nat} (hi : i < (netOf s).trans.length) (hj : j < (netOf s).trans.length) (h1 : 0 < nth ((netOf s).tr i).pre p) (h2 : 0 < nth ((netOf s).tr j).pre p) : ((netOf s).tr i).pre = ((netOf s).tr j).pre := by
  have ok := grow_ok hb h
  have e2 : (netOf s).trans.length = s.links.length := by simp [netOf]
  rw [e2] at hi hj
  rw [net_tr hi] at h1
  rw [net_tr hj] at h2
  rw [net_tr hi, net_tr hj]
  simp only [] at h1 h2 ⊢
  have mi : ix s.links i ∈ s.links := ix_mem hi
  have mj : ix s.links j ∈ s.links := ix_mem hj
  by_cases hp : p < s.places.toNat
  · rw [weights_nth (fun q hq => (ok.pre _ mi q hq).1) hp] at h1
    rw [weights_nth (fun q hq => (ok.pre _ mj q hq).1) hp] at h2
    by_cases q1 : (p : Int) ∈ (ix s.links i).pre
    · by_cases q2 : (p : Int) ∈ (ix s.links j).pre
      · rw [grown_free hb h _ mi _ mj _ q1 q2]
      · rw [if_neg q2] at h2; omega
    · rw [if_neg q1] at h1; omega
  · rw [nth_ge (by rw [weights_len]; omega)] at h1; omega
end Go.Tok

/- Of what grows of a block: every place has a weighing of noughts and ones that no link changes; so no place ever has more than one token. No program is in sight here. -/
namespace Go.Tok
open Go.RowKit
set_option linter.unusedVariables false
abbrev Wt := Int → Int
/-- no link of L changes what Y weighs -/
def InvL (Y : Wt) (L : List TranD) : Prop := ∀ l ∈ L, (l.pre.map Y).sum = (l.post.map Y).sum
theorem InvL.congr {Y Z : Wt} {L : List TranD} (h : InvL Y L) (he : ∀ l ∈ L, (∀ p ∈ l.pre, Z p = Y p) ∧ ∀ p ∈ l.post, Z p = Y p) : InvL Z L := fun l hl => by
  rw [List.map_congr_left (he l hl).1, List.map_congr_left (he l hl).2]
  exact h l hl
theorem sum_zero : ∀ {l : List Int} {Y : Wt}, (∀ p ∈ l, Y p = 0) → (l.map Y).sum = 0 := by
  intro l
  induction l with
  | nil => intro Y _; rfl
  | cons a r ih => intro Y h; rw [List.map_cons, List.sum_cons, h a (by simp), ih fun p hp => h p (by simp [hp])]; rfl
theorem InvL.zero {Z : Wt} {L : List TranD} (he : ∀ l ∈ L, (∀ p ∈ l.pre, Z p = 0) ∧ ∀ p ∈ l.post, Z p = 0) : InvL Z L := fun l hl => by
  rw [sum_zero (he l hl).1, sum_zero (he l hl).2]
theorem InvL.app {Y : Wt} {L M : List TranD} (h : InvL Y L) (k : InvL Y M) : InvL Y (L ++ M) := fun l hl => (List.mem_append.1 hl).elim (h l) (k l)
theorem InvL.one {Y : Wt} {l : TranD} (h : (l.pre.map Y).sum = (l.post.map Y).sum) : InvL Y [l] := fun m hm => by rw [List.mem_singleton.1 hm]; exact h
/-- noughts and ones -/
def W01 (Y : Wt) : Prop := ∀ p, Y p = 0 ∨ Y p = 1
/-- all rows of L lie in S, each place at most once in a row -/
def SupL (S : Int → Prop) (L : List TranD) : Prop := ∀ l ∈ L, (l.pre.Nodup ∧ ∀ p ∈ l.pre, S p) ∧ l.post.Nodup ∧ ∀ p ∈ l.post, S p
theorem SupL.mono {S T : Int → Prop} {L : List TranD} (h : SupL S L) (k : ∀ p, S p → T p) : SupL T L := fun l hl => ⟨⟨(h l hl).1.1, fun p hp => k p ((h l hl).1.2 p hp)⟩, (h l hl).2.1, fun p hp => k p ((h l hl).2.2 p hp)⟩
theorem SupL.app {S : Int → Prop} {L M : List TranD} (h : SupL S L) (k : SupL S M) : SupL S (L ++ M) := fun l hl => (List.mem_append.1 hl).elim (h l) (k l)
theorem SupL.one {S : Int → Prop} {l : TranD} (h1 : l.pre.Nodup) (h2 : ∀ p ∈ l.pre, S p) (h3 : l.post.Nodup) (h4 : ∀ p ∈ l.post, S p) : SupL S [l] := fun m hm => by rw [List.mem_singleton.1 hm]; exact ⟨⟨h1, h2⟩, h3, h4⟩
theorem InvL.on {Y Z : Wt} {S : Int → Prop} {L : List TranD} (h : InvL Y L) (hs : SupL S L) (he : ∀ p, S p → Z p = Y p) : InvL Z L := h.congr fun l hl => ⟨fun p hp => he p ((hs l hl).1.2 p hp), fun p hp => he p ((hs l hl).2.2 p hp)⟩
theorem InvL.off {Z : Wt} {S : Int → Prop} {L : List TranD} (hs : SupL S L) (he : ∀ p, S p → Z p = 0) : InvL Z L := InvL.zero fun l hl => ⟨fun p hp => he p ((hs l hl).1.2 p hp), fun p hp => he p ((hs l hl).2.2 p hp)⟩

/-- what grew between f and t -/
def SafeG (f t : Int) (s s' : GS) : Prop := s.places ≤ s'.places ∧ ∃ L, s'.links = s.links ++ L ∧ SupL (fun p => p = f ∨ p = t ∨ s.places ≤ p ∧ p < s'.places) L ∧
  ∀ q, q = f ∨ s.places ≤ q ∧ q < s'.places → ∃ Y : Wt, W01 Y ∧ Y f = 1 ∧ Y t = 1 ∧ Y q = 1 ∧ InvL Y L
def SafeF (f : GF) (P : BlockD → Prop) : Prop := ∀ b x y s s', P b → x < s.places → y < s.places → f b x y s = some s' → SafeG x y s s'
theorem ones : W01 (fun _ => 1) := fun _ => .inr rfl
theorem safe_link {x y lab : Int} {s s' : GS} (e : linkF ⟨lab, [x], [y]⟩ s = some s') : SafeG x y s s' := by
  obtain ⟨rfl, _⟩ := link_some e
  refine ⟨Int.le_refl _, [⟨lab, [x], [y]⟩], rfl, SupL.one (by simp) (fun p hp => .inl (List.mem_singleton.1 hp)) (by simp) (fun p hp => .inr (.inl (List.mem_singleton.1 hp))), fun q _ => ⟨fun _ => 1, ones, rfl, rfl, rfl, InvL.one (by simp)⟩⟩
theorem seq_safe {f : GF} {P : BlockD → Prop} (hf : SafeF f P) : ∀ {ks : List BlockD} {x y : Int} {s s' : GS}, (∀ k ∈ ks, P k) → x < s.places → y < s.places → seqF f ks x y s = some s' → SafeG x y s s' := by
  intro ks
  induction ks with
  | nil => intro x y s s' _ _ _ e; cases e
  | cons k r ih =>
    intro x y s s' hP hx hy e
    cases r with
    | nil => exact hf k x y s s' (hP k (by simp)) hx hy e
    | cons k2 ks =>
      unfold seqF at e
      replace e := Option.bind_eq_some_iff.1 e
      obtain ⟨s1, e1, e⟩ := e
      replace e := Option.bind_eq_some_iff.1 e
      obtain ⟨s2, e2, e⟩ := e
      obtain ⟨rfl, _⟩ := place_some e1
      obtain ⟨l1, L1, hL1, S1, I1⟩ := hf k x s.places _ s2 (hP k (by simp)) (by simp only []; omega) (by simp only []; omega) e2
      simp only [] at l1 hL1 S1 I1
      obtain ⟨l2, L2, hL2, S2, I2⟩ := ih (fun k hk => hP k (List.mem_cons_of_mem _ hk)) (show s.places < s2.places by omega) (show y < s2.places by omega) e
      refine ⟨by omega, L1 ++ L2, by rw [hL2, hL1, List.append_assoc], (S1.mono fun p hp => by omega).app (S2.mono fun p hp => by omega), fun q hq => ?_⟩
      have key : ∃ Y1 Y2 : Wt, (W01 Y1 ∧ Y1 x = 1 ∧ Y1 s.places = 1 ∧ InvL Y1 L1) ∧ (W01 Y2 ∧ Y2 s.places = 1 ∧ Y2 y = 1 ∧ InvL Y2 L2) ∧ (q = x ∨ q = s.places ∨ (s.places + 1 ≤ q ∧ q < s2.places ∧ Y1 q = 1) ∨ (s2.places ≤ q ∧ Y2 q = 1)) := by
        by_cases c1 : s.places + 1 ≤ q ∧ q < s2.places
        · obtain ⟨Y1, a1, a2, a3, a4, a5⟩ := I1 q (.inr c1)
          obtain ⟨Y2, b1, b2, b3, b4, b5⟩ := I2 s.places (.inl rfl)
          exact ⟨Y1, Y2, ⟨a1, a2, a3, a5⟩, ⟨b1, b2, b3, b5⟩, .inr (.inr (.inl ⟨c1.1, c1.2, a4⟩))⟩
        · obtain ⟨Y1, a1, a2, a3, a4, a5⟩ := I1 x (.inl rfl)
          by_cases c2 : s2.places ≤ q ∧ q < s'.places
          · obtain ⟨Y2, b1, b2, b3, b4, b5⟩ := I2 q (.inr c2)
            exact ⟨Y1, Y2, ⟨a1, a2, a3, a5⟩, ⟨b1, b2, b3, b5⟩, .inr (.inr (.inr ⟨c2.1, b4⟩))⟩
          · obtain ⟨Y2, b1, b2, b3, b4, b5⟩ := I2 s.places (.inl rfl)
            exact ⟨Y1, Y2, ⟨a1, a2, a3, a5⟩, ⟨b1, b2, b3, b5⟩, by omega⟩
      obtain ⟨Y1, Y2, ⟨a1, a2, a3, a4⟩, ⟨b1, b2, b3, b4⟩, hc⟩ := key
      refine ⟨fun p => if p = x ∨ p = y ∨ p = s.places then 1 else if p < s2.places then Y1 p else Y2 p, fun p => ?_, by simp, by simp, ?_, (a4.on S1 fun p hp => ?_).app (b4.on S2 fun p hp => ?_)⟩
      · try simp only []
        split
        · exact .inr rfl
        · split
          · exact a1 p
          · exact b1 p
      · try simp only []
        split
        · rfl
        · split
          · rcases hc with h | h | ⟨_, _, h⟩ | ⟨h1, h⟩
            · omega
            · omega
            · exact h
            · omega
          · rcases hc with h | h | ⟨_, _, h⟩ | ⟨h1, h⟩
            · omega
            · omega
            · omega
            · exact h
      · try simp only []
        rcases hp with rfl | rfl | hp
        · simp [a2]
        · simp [a3]
        · rw [if_neg (by omega), if_pos (by omega)]
      · try simp only []
        rcases hp with rfl | rfl | hp
        · simp [b2]
        · simp [b3]
        · rw [if_neg (by omega), if_neg (by omega)]
theorem choice_safe {f : GF} {P : BlockD → Prop} (hf : SafeF f P) : ∀ {ks : List BlockD} {x y : Int} {s s' : GS}, (∀ k ∈ ks, P k) → x < s.places → y < s.places → choiceF f ks x y s = some s' → SafeG x y s s' := by
  intro ks
  induction ks with
  | nil => intro x y s s' _ _ _ e; cases e; exact ⟨Int.le_refl _, [], by simp, (fun l hl => by simp at hl), fun q _ => ⟨fun _ => 1, ones, rfl, rfl, rfl, fun l hl => by simp at hl⟩⟩
  | cons k r ih =>
    intro x y s s' hP hx hy e
    unfold choiceF at e
    replace e := Option.bind_eq_some_iff.1 e
    obtain ⟨s1, e1, e⟩ := e
    obtain ⟨l1, L1, hL1, S1, I1⟩ := hf k x y s s1 (hP k (by simp)) hx hy e1
    obtain ⟨l2, L2, hL2, S2, I2⟩ := ih (fun k hk => hP k (List.mem_cons_of_mem _ hk)) (show x < s1.places by omega) (show y < s1.places by omega) e
    refine ⟨by omega, L1 ++ L2, by rw [hL2, hL1, List.append_assoc], (S1.mono fun p hp => by omega).app (S2.mono fun p hp => by omega), fun q hq => ?_⟩
    have key : ∃ Y1 Y2 : Wt, (W01 Y1 ∧ Y1 x = 1 ∧ Y1 y = 1 ∧ InvL Y1 L1) ∧ (W01 Y2 ∧ Y2 x = 1 ∧ Y2 y = 1 ∧ InvL Y2 L2) ∧ (q = x ∨ (s.places ≤ q ∧ q < s1.places ∧ Y1 q = 1) ∨ (s1.places ≤ q ∧ Y2 q = 1)) := by
      by_cases c1 : s.places ≤ q ∧ q < s1.places
      · obtain ⟨Y1, a1, a2, a3, a4, a5⟩ := I1 q (.inr c1)
        obtain ⟨Y2, b1, b2, b3, b4, b5⟩ := I2 x (.inl rfl)
        exact ⟨Y1, Y2, ⟨a1, a2, a3, a5⟩, ⟨b1, b2, b3, b5⟩, .inr (.inl ⟨c1.1, c1.2, a4⟩)⟩
      · obtain ⟨Y1, a1, a2, a3, a4, a5⟩ := I1 x (.inl rfl)
        by_cases c2 : s1.places ≤ q ∧ q < s'.places
        · obtain ⟨Y2, b1, b2, b3, b4, b5⟩ := I2 q (.inr c2)
          exact ⟨Y1, Y2, ⟨a1, a2, a3, a5⟩, ⟨b1, b2, b3, b5⟩, .inr (.inr ⟨c2.1, b4⟩)⟩
        · obtain ⟨Y2, b1, b2, b3, b4, b5⟩ := I2 x (.inl rfl)
          exact ⟨Y1, Y2, ⟨a1, a2, a3, a5⟩, ⟨b1, b2, b3, b5⟩, by omega⟩
    obtain ⟨Y1, Y2, ⟨a1, a2, a3, a4⟩, ⟨b1, b2, b3, b4⟩, hc⟩ := key
    refine ⟨fun p => if p = x ∨ p = y then 1 else if p < s1.places then Y1 p else Y2 p, fun p => ?_, by simp, by simp, ?_, (a4.on S1 fun p hp => ?_).app (b4.on S2 fun p hp => ?_)⟩
    · try simp only []
      split
      · exact .inr rfl
      · split
        · exact a1 p
        · exact b1 p
    · try simp only []
      split
      · rfl
      · split
        · rcases hc with h | ⟨_, _, h⟩ | ⟨h1, h⟩
          · omega
          · exact h
          · omega
        · rcases hc with h | ⟨_, _, h⟩ | ⟨h1, h⟩
          · omega
          · omega
          · exact h
    · try simp only []
      rcases hp with rfl | rfl | hp
      · simp [a2]
      · simp [a3]
      · rw [if_neg (by omega), if_pos (by omega)]
    · try simp only []
      rcases hp with rfl | rfl | hp
      · simp [b2]
      · simp [b3]
      · rw [if_neg (by omega), if_neg (by omega)]
theorem insL_cons (p : Int) (k : Nat) : insL p (k + 1) = p :: insL (p + 2) k := by
  unfold insL
  rw [List.range_succ_eq_map, List.map_cons, List.map_map]
  refine congr (by simp) (List.map_congr_left fun i _ => ?_)
  simp; omega
theorem outsL_cons (p : Int) (k : Nat) : outsL p (k + 1) = (p + 1) :: outsL (p + 2) k := by
  unfold outsL
  rw [List.range_succ_eq_map, List.map_cons, List.map_map]
  refine congr (by simp) (List.map_congr_left fun i _ => ?_)
  simp; omega
theorem insL_nodup (p : Int) (k : Nat) : (insL p k).Nodup := by
  unfold insL
  rw [List.Nodup, List.pairwise_map]
  exact List.nodup_range.imp fun h e => h (by omega)
theorem outsL_nodup (p : Int) (k : Nat) : (outsL p k).Nodup := by
  unfold outsL
  rw [List.Nodup, List.pairwise_map]
  exact List.nodup_range.imp fun h e => h (by omega)
theorem both_safe {f : GF} {P : BlockD → Prop} (hf : SafeF f P) : ∀ {ks : List BlockD} {p : Int} {s s' : GS}, (∀ k ∈ ks, P k) → p + 2 * (ks.length : Int) ≤ s.places → bothF f ks p s = some s' →
    s.places ≤ s'.places ∧ ∃ L, s'.links = s.links ++ L ∧ SupL (fun q => p ≤ q ∧ q < p + 2 * (ks.length : Int) ∨ s.places ≤ q ∧ q < s'.places) L ∧
      ∀ q, (p ≤ q ∧ q < p + 2 * (ks.length : Int) ∨ ks ≠ [] ∧ s.places ≤ q ∧ q < s'.places) → ∃ Y : Wt, W01 Y ∧ Y q = 1 ∧ ((insL p ks.length).map Y).sum = 1 ∧ ((outsL p ks.length).map Y).sum = 1 ∧ InvL Y L := by
  intro ks
  induction ks with
  | nil => intro p s s' _ _ e; cases e; exact ⟨Int.le_refl _, [], by simp, (fun l hl => by simp at hl), fun q hq => by simp at hq; omega⟩
  | cons k r ih =>
    intro p s s' hP hx e
    unfold bothF at e
    rw [List.length_cons] at hx
    replace e := Option.bind_eq_some_iff.1 e
    obtain ⟨s1, e1, e⟩ := e
    obtain ⟨l1, L1, hL1, S1, I1⟩ := hf k p (p + 1) s s1 (hP k (by simp)) (by omega) (by omega) e1
    obtain ⟨l2, L2, hL2, S2, I2⟩ := ih (fun k hk => hP k (List.mem_cons_of_mem _ hk)) (show p + 2 + 2 * (r.length : Int) ≤ s1.places by omega) e
    have hr0 : r = [] → s'.places = s1.places := by rintro rfl; cases e; rfl
    refine ⟨by omega, L1 ++ L2, by rw [hL2, hL1, List.append_assoc], (S1.mono fun q hq => by simp only [List.length_cons]; omega).app (S2.mono fun q hq => by simp only [List.length_cons]; omega), fun q hq => ?_⟩
    rw [List.length_cons] at hq
    rw [List.length_cons, insL_cons, outsL_cons]
    simp only [List.map_cons, List.sum_cons]
    by_cases c1 : q = p ∨ q = p + 1 ∨ s.places ≤ q ∧ q < s1.places
    · obtain ⟨Y, a1, a2, a3, a4, a5⟩ := I1 (if q = p + 1 then p else q) (by split <;> omega)
      refine ⟨fun z => if z = p ∨ z = p + 1 ∨ s.places ≤ z ∧ z < s1.places then Y z else 0, fun z => ?_, ?_, ?_, ?_, (a5.on S1 fun z hz => ?_).app (InvL.off S2 fun z hz => ?_)⟩
      · try simp only []
        split
        · exact a1 z
        · exact .inl rfl
      · try simp only []
        rw [if_pos c1]
        by_cases h : q = p + 1
        · rw [h]; exact a3
        · rw [if_neg h] at a4; exact a4
      · rw [sum_zero fun z hz => ?_]
        · simp [a2]
        · obtain ⟨i, h1, h2, h3⟩ := mem_ins hz
          rw [if_neg (by omega)]
      · rw [sum_zero fun z hz => ?_]
        · simp [a3]
        · obtain ⟨i, h1, h2, h3⟩ := mem_outs hz
          rw [if_neg (by omega)]
      · try simp only []
        rw [if_pos (by omega)]
      · try simp only []
        rw [if_neg (by omega)]
    · have hq2 : p + 2 ≤ q ∧ q < p + 2 + 2 * (r.length : Int) ∨ r ≠ [] ∧ s1.places ≤ q ∧ q < s'.places := by
        by_cases hr : r = []
        · have := hr0 hr
          subst hr
          simp at hq; omega
        · have : s'.places = s'.places := rfl
          rcases hq with h | ⟨_, h⟩
          · left; simp at h; omega
          · right; exact ⟨hr, by omega, by omega⟩
      obtain ⟨Y, a1, a2, a3, a4, a5⟩ := I2 q hq2
      refine ⟨fun z => if p + 2 ≤ z ∧ z < p + 2 + 2 * (r.length : Int) ∨ s1.places ≤ z then Y z else 0, fun z => ?_, ?_, ?_, ?_, (InvL.off S1 fun z hz => ?_).app (a5.on S2 fun z hz => ?_)⟩
      · try simp only []
        split
        · exact a1 z
        · exact .inl rfl
      · try simp only []
        rw [if_pos (by omega)]; exact a2
      · rw [List.map_congr_left (g := Y) fun z hz => ?_, a3]
        · simp only []; rw [if_neg (by omega)]; rfl
        · obtain ⟨i, h1, h2, h3⟩ := mem_ins hz
          rw [if_pos (by omega)]
      · rw [List.map_congr_left (g := Y) fun z hz => ?_, a4]
        · simp only []; rw [if_neg (by omega)]; rfl
        · obtain ⟨i, h1, h2, h3⟩ := mem_outs hz
          rw [if_pos (by omega)]
      · try simp only []
        rw [if_neg (by omega)]
      · try simp only []
        rw [if_pos (by omega)]
theorem grow_safe : ∀ (n : Nat), SafeF (growF n) (OkB n) := by
  intro n
  induction n with
  | zero => intro b x y s s' h; exact h.elim
  | succ n ih =>
    intro b x y s s' hb hx hy e
    obtain ⟨k1, k2, k3, k4, k5, k6, k7⟩ := hb
    unfold growF at e
    split at e
    · exact safe_link e
    · split at e
      · exact safe_link e
      · split at e
        · exact seq_safe ih k7 hx hy e
        · split at e
          · exact choice_safe ih k7 hx hy e
          · split at e
            · obtain ⟨s1, e1, e⟩ := Option.bind_eq_some_iff.1 e
              replace e := Option.bind_eq_some_iff.1 e
              obtain ⟨s2, e2, e⟩ := e
              replace e := Option.bind_eq_some_iff.1 e
              obtain ⟨s3, e3, e⟩ := e
              obtain ⟨rfl, _⟩ := places_some e1
              obtain ⟨rfl, _⟩ := link_some e2
              obtain ⟨l3, L, hL, S, I⟩ := both_safe ih k7 (by simp only []; omega) e3
              obtain ⟨rfl, _⟩ := link_some e
              simp only [] at l3 hL S I
              have hne : b.kids ≠ [] := k5 (by omega)
              have hlen : 0 < b.kids.length := by cases h : b.kids with | nil => exact absurd h hne | cons => simp
              refine ⟨by simp only []; omega, [⟨0, [x], insL s.places b.kids.length⟩] ++ L ++ [⟨0, outsL s.places b.kids.length, [y]⟩], by simp [hL], ?_, fun q hq => ?_⟩
              · try simp only []
                refine ((SupL.one (by simp) (fun p hp => .inl (List.mem_singleton.1 hp)) (insL_nodup _ _) fun p hp => ?_).app (S.mono fun p hp => by omega)).app (SupL.one (outsL_nodup _ _) (fun p hp => ?_) (by simp) fun p hp => .inr (.inl (List.mem_singleton.1 hp)))
                · obtain ⟨i, h1, h2, h3⟩ := mem_ins hp; omega
                · obtain ⟨i, h1, h2, h3⟩ := mem_outs hp; omega
              · simp only [] at hq
                obtain ⟨Y, a1, a2, a3, a4, a5⟩ := I (if q = x then s.places else q) (by split <;> (try simp only [hne, ne_eq, not_false_eq_true, true_and]) <;> omega)
                refine ⟨fun z => if z = x ∨ z = y then 1 else Y z, fun z => ?_, by simp, by simp, ?_, ((InvL.one ?_).app (a5.on S fun z hz => ?_)).app (InvL.one ?_)⟩
                · try simp only []
                  split
                  · exact .inr rfl
                  · exact a1 z
                · try simp only []
                  split
                  · rfl
                  · rw [if_neg (by omega)] at a2; exact a2
                · try simp only []
                  rw [List.map_congr_left (g := Y) (l := insL _ _) fun z hz => ?_, a3]
                  · simp
                  · obtain ⟨i, h1, h2, h3⟩ := mem_ins hz
                    rw [if_neg (by omega)]
                · try simp only []
                  rw [if_neg (by omega)]
                · try simp only []
                  rw [List.map_congr_left (g := Y) (l := outsL _ _) fun z hz => ?_, a4]
                  · simp
                  · obtain ⟨i, h1, h2, h3⟩ := mem_outs hz
                    rw [if_neg (by omega)]
            · obtain ⟨s1, e1, e⟩ := Option.bind_eq_some_iff.1 e
              replace e := Option.bind_eq_some_iff.1 e
              obtain ⟨s2, e2, e⟩ := e
              replace e := Option.bind_eq_some_iff.1 e
              obtain ⟨s3, e3, e⟩ := e
              replace e := Option.bind_eq_some_iff.1 e
              obtain ⟨s4, e4, e⟩ := e
              replace e := Option.bind_eq_some_iff.1 e
              obtain ⟨s5, e5, e⟩ := e
              have hlen := k6 (by omega)
              obtain ⟨rfl, _⟩ := place_some e1
              obtain ⟨rfl, _⟩ := place_some e2
              obtain ⟨rfl, _⟩ := link_some e3
              obtain ⟨l4, L1, hL1, S1, I1⟩ := ih _ _ _ _ _ (k7 _ (ix_mem (by omega))) (by simp only []; omega) (by simp only []; omega) e4
              simp only [] at l4 hL1 S1 I1
              obtain ⟨l5, L2, hL2, S2, I2⟩ := ih _ _ _ _ _ (k7 _ (ix_mem (by omega))) (by omega) (by omega) e5
              obtain ⟨rfl, _⟩ := link_some e
              refine ⟨by simp only []; omega, [⟨0, [x], [s.places]⟩] ++ (L1 ++ L2) ++ [⟨0, [s.places + 1], [y]⟩], by simp [hL2, hL1], ?_, fun q hq => ?_⟩
              · try simp only []
                refine ((SupL.one (by simp) (fun p hp => .inl (List.mem_singleton.1 hp)) (by simp) fun p hp => ?_).app ((S1.mono fun p hp => by omega).app (S2.mono fun p hp => by omega))).app (SupL.one (by simp) (fun p hp => ?_) (by simp) fun p hp => .inr (.inl (List.mem_singleton.1 hp)))
                · have := List.mem_singleton.1 hp; omega
                · have := List.mem_singleton.1 hp; omega
              · simp only [] at hq
                have key : ∃ Y1 Y2 : Wt, (W01 Y1 ∧ Y1 s.places = 1 ∧ Y1 (s.places + 1) = 1 ∧ InvL Y1 L1) ∧ (W01 Y2 ∧ Y2 (s.places + 1) = 1 ∧ Y2 s.places = 1 ∧ InvL Y2 L2) ∧ (q = x ∨ q = s.places ∨ q = s.places + 1 ∨ (s.places + 2 ≤ q ∧ q < s4.places ∧ Y1 q = 1) ∨ (s4.places ≤ q ∧ Y2 q = 1)) := by
                  by_cases c1 : s.places + 1 + 1 ≤ q ∧ q < s4.places
                  · obtain ⟨Y1, a1, a2, a3, a4, a5⟩ := I1 q (.inr c1)
                    obtain ⟨Y2, b1, b2, b3, b4, b5⟩ := I2 (s.places + 1) (.inl rfl)
                    exact ⟨Y1, Y2, ⟨a1, a2, a3, a5⟩, ⟨b1, b2, b3, b5⟩, .inr (.inr (.inr (.inl ⟨by omega, c1.2, a4⟩)))⟩
                  · obtain ⟨Y1, a1, a2, a3, a4, a5⟩ := I1 s.places (.inl rfl)
                    by_cases c2 : s4.places ≤ q ∧ q < s5.places
                    · obtain ⟨Y2, b1, b2, b3, b4, b5⟩ := I2 q (.inr c2)
                      exact ⟨Y1, Y2, ⟨a1, a2, a3, a5⟩, ⟨b1, b2, b3, b5⟩, .inr (.inr (.inr (.inr ⟨c2.1, b4⟩)))⟩
                    · obtain ⟨Y2, b1, b2, b3, b4, b5⟩ := I2 (s.places + 1) (.inl rfl)
                      exact ⟨Y1, Y2, ⟨a1, a2, a3, a5⟩, ⟨b1, b2, b3, b5⟩, by omega⟩
                obtain ⟨Y1, Y2, ⟨a1, a2, a3, a4⟩, ⟨b1, b2, b3, b4⟩, hc⟩ := key
                refine ⟨fun p => if p = x ∨ p = y ∨ p = s.places ∨ p = s.places + 1 then 1 else if p < s4.places then Y1 p else Y2 p, fun p => ?_, by simp, by simp, ?_, ((InvL.one (by simp)).app ((a4.on S1 fun p hp => ?_).app (b4.on S2 fun p hp => ?_))).app (InvL.one (by simp))⟩
                · try simp only []
                  split
                  · exact .inr rfl
                  · split
                    · exact a1 p
                    · exact b1 p
                · try simp only []
                  split
                  · rfl
                  · split
                    · rcases hc with h | h | h | ⟨_, _, h⟩ | ⟨h1, h⟩
                      · omega
                      · omega
                      · omega
                      · exact h
                      · omega
                    · rcases hc with h | h | h | ⟨_, _, h⟩ | ⟨h1, h⟩
                      · omega
                      · omega
                      · omega
                      · omega
                      · exact h
                · try simp only []
                  rcases hp with rfl | rfl | hp
                  · simp [a2]
                  · simp [a3]
                  · rw [if_neg (by omega), if_pos (by omega)]
                · try simp only []
                  rcases hp with rfl | rfl | hp
                  · simp [b2]
                  · simp [b3]
                  · rw [if_neg (by omega), if_neg (by omega)]
/-! ### the weighing as a row -/
def yL (Y : Wt) (n : Nat) : List Int := (List.range n).map fun (p : Nat) => Y (p : Int)
theorem yL_len (Y : Wt) (n : Nat) : (yL Y n).length = n := by simp [yL]
theorem yL_nth {Y : Wt} {n p : Nat} (h : p < n) : nth (yL Y n) p = Y (p : Int) := by rw [nth_lt (by rw [yL_len]; exact h)]; simp [yL]
theorem weigh_delta {y a b : List Int} {q : Nat} : ∀ n, (∀ p, p < n → nth a p = nth b p + (if p = q then 1 else 0)) → weighTo y a n = weighTo y b n + (if q < n then nth y q else 0) := by
  intro n
  induction n with
  | zero => intro _; simp [weighTo_zero]
  | succ n ih =>
    intro h
    rw [weighTo_succ, weighTo_succ, ih fun p hp => h p (by omega), h n (by omega)]
    by_cases h1 : n = q
    · subst h1; simp; rw [Int.mul_add]; omega
    · rw [if_neg h1]
      by_cases h2 : q < n
      · rw [if_pos h2, if_pos (by omega), Int.add_zero (nth b n)]; omega
      · rw [if_neg h2, if_neg (by omega), Int.add_zero (nth b n)]; omega
theorem weigh_zero {y a : List Int} : ∀ n, (∀ p, p < n → nth a p = 0) → weighTo y a n = 0 := by
  intro n
  induction n with
  | zero => intro _; exact weighTo_zero _ _
  | succ n ih => intro h; rw [weighTo_succ, ih fun p hp => h p (by omega), h n (by omega)]; simp
theorem weigh_list {Y : Wt} {n : Nat} : ∀ {l : List Int}, l.Nodup → PlIn n l → weighTo (yL Y n) (weightsF n l) n = (l.map Y).sum := by
  intro l
  induction l with
  | nil => intro _ _; rw [weigh_zero n fun p hp => by rw [weights_nth (by simp) hp]; simp]; rfl
  | cons a r ih =>
    intro hn hp
    obtain ⟨h1, h2⟩ := List.nodup_cons.1 hn
    have ha := hp a (by simp)
    have hr : PlIn n r := fun q hq => hp q (by simp [hq])
    rw [weigh_delta (b := weightsF n r) (q := a.toNat) n fun p hpn => ?_, ih h2 hr, if_pos (by omega), yL_nth (by omega), List.map_cons, List.sum_cons, Int.toNat_of_nonneg ha.1]
    · omega
    · rw [weights_nth (fun q hq => (hp q hq).1) hpn, weights_nth (fun q hq => (hr q hq).1) hpn]
      by_cases c1 : p = a.toNat
      · have e : (p : Int) = a := by omega
        rw [e, if_pos (by simp), if_neg h1, if_pos c1]; rfl
      · have e : (p : Int) ≠ a := by omega
        rw [if_neg c1]
        simp [e]
/-- every place has its weighing -/
theorem grown_kept {n : Nat} {b : BlockD} {s : GS} (hb : OkB n b) (h : growF n b 0 1 ⟨2, []⟩ = some s) {q : Nat} (hq : (q : Int) < s.places) : ∃ y : List Int, keptB (netOf s) y = true ∧ (y.length : Int) = s.places ∧ (∀ p, 0 ≤ nth y p) ∧ nth y q = 1 ∧ nth y 0 = 1 := by
  have ok := grow_ok hb h
  obtain ⟨hl, L, hL, hS, hI⟩ := grow_safe n b 0 1 ⟨2, []⟩ s hb (by simp) (by simp) h
  simp only [] at hl hL hS hI
  rw [List.nil_append] at hL
  subst hL
  have hlo := ok.lo
  have hhi := ok.hi
  obtain ⟨Y, a1, a2, a3, a4, a5⟩ : ∃ Y : Wt, W01 Y ∧ Y 0 = 1 ∧ Y 1 = 1 ∧ Y (q : Int) = 1 ∧ InvL Y s.links := by
    by_cases h1 : q = 1
    · obtain ⟨Y, a1, a2, a3, a4, a5⟩ := hI 0 (.inl rfl)
      exact ⟨Y, a1, a2, a3, by rw [h1]; exact a3, a5⟩
    · exact hI q (by omega)
  have hle : (s.places.toNat : Int) = s.places := Int.toNat_of_nonneg (by omega)
  refine ⟨yL Y s.places.toNat, ?_, by rw [yL_len]; exact hle, fun p => ?_, ?_, ?_⟩
  · have hup : ∀ k, k ≤ s.links.length → KeptUpto (netOf s) (yL Y s.places.toNat) k := by
      intro k
      induction k with
      | zero => intro _; exact KeptUpto.zero _ _
      | succ i ih =>
        intro hi
        refine (ih (by omega)).succ ?_
        rw [net_tr (show i < s.links.length by omega)]
        try simp only []
        have m := ix_mem (show i < s.links.length by omega)
        obtain ⟨⟨n1, _⟩, n2, _⟩ := hS _ m
        rw [weighF_def, weighF_def, yL_len, weights_len, weights_len, Nat.min_self, weigh_list n1 (by rw [hle]; exact ok.pre _ m), weigh_list n2 (by rw [hle]; exact ok.post _ m)]
        exact a5 _ m
    refine (hup _ (Nat.le_refl _)).all (by simp [netOf]) (grown_net ok) ?_
    · refine boundedB_yes (by rw [yL_len]; exact hle) fun x hx => ?_
      unfold yL at hx
      obtain ⟨p, hp, rfl⟩ := List.mem_map.1 hx
      rcases a1 p with e | e <;> rw [e] <;> omega
  · by_cases hp : p < s.places.toNat
    · rw [yL_nth hp]; rcases a1 p with e | e <;> rw [e] <;> omega
    · rw [nth_ge (by rw [yL_len]; omega)]; omega
  · rw [yL_nth (by omega)]; exact a4
  · rw [yL_nth (by omega)]; exact a2
/-- GrowSafe's law -/
theorem net_safe {n : Nat} {b : BlockD} {s : GS} (hb : OkB n b) (h : growF n b 0 1 ⟨2, []⟩ = some s) {m seq x : List Int} (hm : (m.length : Int) = s.places) (hm0 : nth m 0 = 1) (hm1 : ∀ p, 0 < p → nth m p = 0) (hr : runF (netOf s) m seq = (x, 0)) : ∀ k ∈ x, k ≤ 1 := by
  intro k hk
  obtain ⟨q, hq, rfl⟩ := List.getElem_of_mem hk
  have ok := grow_ok hb h
  obtain ⟨hf, hrs⟩ := runF_of hr
  have hx := fits_len (hrs.fits hf)
  have e1 : (netOf s).places = s.places := rfl
  rw [e1] at hx
  obtain ⟨y, h1, h2, h3, h4, h5⟩ := grown_kept hb h (q := q) (by omega)
  have hb' := flow_bound (p := q) hr h1 (by omega) (by omega) h3
  rw [nth_lt hq] at hb'
  have hw : weighF y m = 1 := by
    rw [weighF_def]
    have hlo := ok.lo
    obtain ⟨k, hk⟩ : ∃ k, min y.length m.length = k + 1 := ⟨min y.length m.length - 1, by omega⟩
    rw [hk]
    have : ∀ j, weighTo y m (j + 1) = 1 := by
      intro j
      induction j with
      | zero => rw [weighTo_succ, weighTo_zero, h5, hm0]; rfl
      | succ j ih => rw [weighTo_succ, ih, hm1 (j + 1) (by omega)]; simp
    exact this k
  omega
end Go.Tok

/- Of what grows of a block: one token comes in, one token goes out, whatever is done in between; all of it can be done. No program is in sight here. -/
namespace Go.Tok
open Go.RowKit
set_option linter.unusedVariables false
abbrev Mk := Int → Int
def oneM (p : Int) : Mk := fun q => if q = p then 1 else 0
def useM (l : List Int) : Mk := fun q => if q ∈ l then 1 else 0
def addM (M R : Mk) : Mk := fun q => M q + R q
theorem oneM_self (p : Int) : oneM p p = 1 := by simp [oneM]
theorem oneM_ge {p q : Int} (h : 1 ≤ oneM p q) : q = p := by
  unfold oneM at h
  split at h
  · assumption
  · omega
theorem oneM_nn (p q : Int) : 0 ≤ oneM p q := by unfold oneM; split <;> omega
theorem useM_nn (l : List Int) (q : Int) : 0 ≤ useM l q := by unfold useM; split <;> omega
theorem useM_one (p : Int) : useM [p] = oneM p := by funext q; simp [useM, oneM]
theorem useM_in {l : List Int} {q : Int} (h : q ∈ l) : useM l q = 1 := by simp [useM, h]
theorem useM_out {l : List Int} {q : Int} (h : q ∉ l) : useM l q = 0 := by simp [useM, h]
theorem oneM_ne {p q : Int} (h : q ≠ p) : oneM p q = 0 := by simp [oneM, h]
def afterM (l : TranD) (M : Mk) : Mk := fun q => M q - useM l.pre q + useM l.post q
def CanM (l : TranD) (M : Mk) : Prop := ∀ p ∈ l.pre, 1 ≤ M p
inductive RunM (L : List TranD) : Mk → Mk → Prop
  | nil (M : Mk) : RunM L M M
  | cons {l : TranD} {M M' : Mk} (hl : l ∈ L) (hc : CanM l M) (h : RunM L (afterM l M) M') : RunM L M M'
theorem RunM.trans {L : List TranD} {a b c : Mk} (h : RunM L a b) (k : RunM L b c) : RunM L a c := by
  induction h with
  | nil => exact k
  | cons hl hc _ ih => exact .cons hl hc (ih k)
theorem RunM.mono {L L' : List TranD} {a b : Mk} (h : RunM L a b) (hs : ∀ l ∈ L, l ∈ L') : RunM L' a b := by
  induction h with
  | nil => exact .nil _
  | cons hl hc _ ih => exact .cons (hs _ hl) hc ih
theorem after_add (l : TranD) (M R : Mk) : afterM l (addM M R) = addM (afterM l M) R := by funext q; simp only [afterM, addM]; omega
theorem add_comm_M (M R : Mk) : addM M R = addM R M := by funext q; simp only [addM]; omega
theorem RunM.frame {L : List TranD} {a b : Mk} (h : RunM L a b) {R : Mk} (hR : ∀ q, 0 ≤ R q) : RunM L (addM a R) (addM b R) := by
  induction h with
  | nil => exact .nil _
  | cons hl hc _ ih => exact .cons hl (fun p hp => by have := hc p hp; have := hR p; simp only [addM]; omega) (by rw [after_add]; exact ih)
theorem RunM.frame' {L : List TranD} {a b : Mk} (h : RunM L a b) {R : Mk} (hR : ∀ q, 0 ≤ R q) : RunM L (addM R a) (addM R b) := by rw [add_comm_M R a, add_comm_M R b]; exact h.frame hR
theorem after_one {a b lab : Int} : afterM ⟨lab, [a], [b]⟩ (oneM a) = oneM b := by
  funext q
  simp only [afterM, useM_one]; omega
theorem after_nn {l : TranD} {M : Mk} (h : ∀ q, 0 ≤ M q) (hc : CanM l M) : ∀ q, 0 ≤ afterM l M q := fun q => by
  have := h q
  have h2 := useM_nn l.post q
  unfold afterM
  by_cases hq : q ∈ l.pre
  · have := hc q hq
    rw [useM_in hq]; omega
  · rw [useM_out hq]; omega
theorem after_post {l : TranD} {M : Mk} (h : ∀ q, 0 ≤ M q) (hc : CanM l M) {q : Int} (hq : q ∈ l.post) : 1 ≤ afterM l M q := by
  have := h q
  unfold afterM
  rw [useM_in hq]
  by_cases hq : q ∈ l.pre
  · have := hc q hq
    rw [useM_in hq]; omega
  · rw [useM_out hq]; omega

/-- what is closed under steps is closed under runs -/
theorem stays_in {L : List TranD} {A : Mk → Prop} (hs : ∀ M l, A M → l ∈ L → CanM l M → A (afterM l M)) {a b : Mk} (h : RunM L a b) : A a → A b := by
  induction h with
  | nil => exact id
  | cons hl hc _ ih => exact fun ha => ih (hs _ _ ha hl hc)
/-- what grew between f and t behaves as one step -/
structure SoundA (f t lo hi : Int) (L : List TranD) (A : Mk → Prop) : Prop where
  nn : ∀ M, A M → ∀ q, 0 ≤ M q
  supp : ∀ M, A M → ∀ q, 1 ≤ M q → q = f ∨ q = t ∨ lo ≤ q ∧ q < hi
  pre : ∀ l ∈ L, l.pre = [f] ∨ l.pre ≠ [] ∧ ∀ p ∈ l.pre, lo ≤ p ∧ p < hi
  post : ∀ l ∈ L, l.post = [t] ∨ l.post ≠ [] ∧ ∀ p ∈ l.post, lo ≤ p ∧ p < hi
  inPre : ∀ q, q = f ∨ lo ≤ q ∧ q < hi → ∃ l ∈ L, q ∈ l.pre
  inPost : ∀ q, q = t ∨ lo ≤ q ∧ q < hi → ∃ l ∈ L, q ∈ l.post
  start : A (oneM f)
  fin : A (oneM t)
  step : ∀ M l, A M → l ∈ L → CanM l M → A (afterM l M)
  ends : ∀ M, A M → RunM L M (oneM t)
  onlyT : ∀ M, A M → 1 ≤ M t → M = oneM t
  onlyF : ∀ M, A M → 1 ≤ M f → M = oneM f
  live : ∀ l ∈ L, ∃ M, RunM L (oneM f) M ∧ A M ∧ CanM l M
def SoundG (f t : Int) (s s' : GS) : Prop := s.places ≤ s'.places ∧ ∃ L, s'.links = s.links ++ L ∧ ∃ A, SoundA f t s.places s'.places L A
def SoundF (f : GF) (P : BlockD → Prop) : Prop := ∀ b x y s s', P b → x < s.places → y < s.places → x ≠ y → f b x y s = some s' → SoundG x y s s'
theorem sound_link {x y lab : Int} (hne : x ≠ y) {s s' : GS} (e : linkF ⟨lab, [x], [y]⟩ s = some s') : SoundG x y s s' := by
  obtain ⟨rfl, _⟩ := link_some e
  refine ⟨Int.le_refl _, [⟨lab, [x], [y]⟩], rfl, fun M => M = oneM x ∨ M = oneM y, ?_⟩
  constructor
  · rintro M (rfl | rfl) q <;> exact oneM_nn _ _
  · rintro M (rfl | rfl) q h
    · exact .inl (oneM_ge h)
    · exact .inr (.inl (oneM_ge h))
  · intro l hl; rw [List.mem_singleton.1 hl]; exact .inl rfl
  · intro l hl; rw [List.mem_singleton.1 hl]; exact .inl rfl
  · intro q hq
    simp only [] at hq
    have : q = x := by omega
    exact ⟨⟨lab, [x], [y]⟩, List.mem_singleton.2 rfl, by rw [this]; simp⟩
  · intro q hq
    simp only [] at hq
    have : q = y := by omega
    exact ⟨⟨lab, [x], [y]⟩, List.mem_singleton.2 rfl, by rw [this]; simp⟩
  · exact .inl rfl
  · exact .inr rfl
  · rintro M l (rfl | rfl) hl hc
    · rw [List.mem_singleton.1 hl, after_one]; exact .inr rfl
    · rw [List.mem_singleton.1 hl] at hc
      exact absurd (oneM_ge (hc x (by simp))) hne
  · rintro M (rfl | rfl)
    · refine .cons (l := ⟨lab, [x], [y]⟩) (by simp) (fun p hp => ?_) (by rw [after_one]; exact .nil _)
      rw [List.mem_singleton.1 hp, oneM_self]; omega
    · exact .nil _
  · rintro M (rfl | rfl) h
    · exact absurd (oneM_ge h).symm hne
    · rfl
  · rintro M (rfl | rfl) h
    · rfl
    · exact absurd (oneM_ge h) hne
  · intro l hl
    rw [List.mem_singleton.1 hl]
    exact ⟨oneM x, .nil _, .inl rfl, fun p hp => by rw [List.mem_singleton.1 hp, oneM_self]; omega⟩
/-- a row that can be taken lies where tokens are -/
theorem SoundA.can {f t lo hi : Int} {L : List TranD} {A : Mk → Prop} (h : SoundA f t lo hi L A) {l : TranD} (hl : l ∈ L) {M : Mk} (hc : CanM l M) : (1 ≤ M f ∧ l.pre = [f]) ∨ ∃ q, lo ≤ q ∧ q < hi ∧ 1 ≤ M q := by
  rcases h.pre l hl with e | ⟨hne, hall⟩
  · exact .inl ⟨hc f (by rw [e]; simp), e⟩
  · obtain ⟨q, hq⟩ := List.exists_mem_of_ne_nil _ hne
    exact .inr ⟨q, (hall q hq).1, (hall q hq).2, hc q hq⟩
theorem seq_comp {x y : Int} {s s2 s3 : GS} (hx : x < s.places) (hy : y < s.places) (hne : x ≠ y) (h1 : SoundG x s.places ⟨s.places + 1, s.links⟩ s2) (h2 : SoundG s.places y s2 s3) : SoundG x y s s3 := by
  obtain ⟨l1, L1, e1, A1, a⟩ := h1
  obtain ⟨l2, L2, e2, A2, b⟩ := h2
  simp only [] at l1 e1 a
  refine ⟨by omega, L1 ++ L2, by rw [e2, e1, List.append_assoc], fun M => A1 M ∨ A2 M, ?_⟩
  have m1 : ∀ l ∈ L1, l ∈ L1 ++ L2 := fun l h => List.mem_append_left _ h
  have m2 : ∀ l ∈ L2, l ∈ L1 ++ L2 := fun l h => List.mem_append_right _ h
  constructor
  · rintro M (h | h)
    · exact a.nn M h
    · exact b.nn M h
  · rintro M (h | h) q hq
    · have := a.supp M h q hq; omega
    · have := b.supp M h q hq; omega
  · intro l hl
    rcases List.mem_append.1 hl with h | h
    · rcases a.pre l h with e | ⟨e, k⟩
      · exact .inl e
      · exact .inr ⟨e, fun p hp => by have := k p hp; omega⟩
    · rcases b.pre l h with e | ⟨e, k⟩
      · refine .inr ⟨by rw [e]; simp, fun p hp => ?_⟩
        rw [e] at hp; have := List.mem_singleton.1 hp; omega
      · exact .inr ⟨e, fun p hp => by have := k p hp; omega⟩
  · intro l hl
    rcases List.mem_append.1 hl with h | h
    · rcases a.post l h with e | ⟨e, k⟩
      · refine .inr ⟨by rw [e]; simp, fun p hp => ?_⟩
        rw [e] at hp; have := List.mem_singleton.1 hp; omega
      · exact .inr ⟨e, fun p hp => by have := k p hp; omega⟩
    · rcases b.post l h with e | ⟨e, k⟩
      · exact .inl e
      · exact .inr ⟨e, fun p hp => by have := k p hp; omega⟩
  · intro q hq
    by_cases c1 : q = x ∨ s.places + 1 ≤ q ∧ q < s2.places
    · obtain ⟨l, hl, hp⟩ := a.inPre q c1
      exact ⟨l, m1 l hl, hp⟩
    · obtain ⟨l, hl, hp⟩ := b.inPre q (by omega)
      exact ⟨l, m2 l hl, hp⟩
  · intro q hq
    by_cases c1 : q = s.places ∨ s.places + 1 ≤ q ∧ q < s2.places
    · obtain ⟨l, hl, hp⟩ := a.inPost q c1
      exact ⟨l, m1 l hl, hp⟩
    · obtain ⟨l, hl, hp⟩ := b.inPost q (by omega)
      exact ⟨l, m2 l hl, hp⟩
  · exact .inl a.start
  · exact .inr b.fin
  · rintro M l (h | h) hl hc
    · rcases List.mem_append.1 hl with k | k
      · exact .inl (a.step M l h k hc)
      · rcases b.can k hc with ⟨h1, _⟩ | ⟨q, h1, h2, h3⟩
        · rw [a.onlyT M h h1] at hc ⊢
          exact .inr (b.step _ l b.start k hc)
        · have := a.supp M h q h3; omega
    · rcases List.mem_append.1 hl with k | k
      · rcases a.can k hc with ⟨h1, _⟩ | ⟨q, h1, h2, h3⟩
        · have := b.supp M h x h1; omega
        · have := b.supp M h q h3; omega
      · exact .inr (b.step M l h k hc)
  · rintro M (h | h)
    · exact ((a.ends M h).mono m1).trans ((b.ends _ b.start).mono m2)
    · exact (b.ends M h).mono m2
  · rintro M (h | h) hy'
    · have := a.supp M h y hy'; omega
    · exact b.onlyT M h hy'
  · rintro M (h | h) hx'
    · exact a.onlyF M h hx'
    · have := b.supp M h x hx'; omega
  · intro l hl
    rcases List.mem_append.1 hl with k | k
    · obtain ⟨M, h1, h2, h3⟩ := a.live l k
      exact ⟨M, h1.mono m1, .inl h2, h3⟩
    · obtain ⟨M, h1, h2, h3⟩ := b.live l k
      exact ⟨M, ((a.ends _ a.start).mono m1).trans (h1.mono m2), .inr h2, h3⟩
theorem choice_comp {x y : Int} {s s2 s3 : GS} (hx : x < s.places) (hy : y < s.places) (hne : x ≠ y) (h1 : SoundG x y s s2) (h2 : SoundG x y s2 s3) : SoundG x y s s3 := by
  obtain ⟨l1, L1, e1, A1, a⟩ := h1
  obtain ⟨l2, L2, e2, A2, b⟩ := h2
  refine ⟨by omega, L1 ++ L2, by rw [e2, e1, List.append_assoc], fun M => A1 M ∨ A2 M, ?_⟩
  have m1 : ∀ l ∈ L1, l ∈ L1 ++ L2 := fun l h => List.mem_append_left _ h
  have m2 : ∀ l ∈ L2, l ∈ L1 ++ L2 := fun l h => List.mem_append_right _ h
  constructor
  · rintro M (h | h)
    · exact a.nn M h
    · exact b.nn M h
  · rintro M (h | h) q hq
    · have := a.supp M h q hq; omega
    · have := b.supp M h q hq; omega
  · intro l hl
    rcases List.mem_append.1 hl with h | h
    · exact (a.pre l h).imp id fun ⟨e, k⟩ => ⟨e, fun p hp => by have := k p hp; omega⟩
    · exact (b.pre l h).imp id fun ⟨e, k⟩ => ⟨e, fun p hp => by have := k p hp; omega⟩
  · intro l hl
    rcases List.mem_append.1 hl with h | h
    · exact (a.post l h).imp id fun ⟨e, k⟩ => ⟨e, fun p hp => by have := k p hp; omega⟩
    · exact (b.post l h).imp id fun ⟨e, k⟩ => ⟨e, fun p hp => by have := k p hp; omega⟩
  · intro q hq
    by_cases c1 : q = x ∨ s.places ≤ q ∧ q < s2.places
    · obtain ⟨l, hl, hp⟩ := a.inPre q c1
      exact ⟨l, m1 l hl, hp⟩
    · obtain ⟨l, hl, hp⟩ := b.inPre q (by omega)
      exact ⟨l, m2 l hl, hp⟩
  · intro q hq
    by_cases c1 : q = y ∨ s.places ≤ q ∧ q < s2.places
    · obtain ⟨l, hl, hp⟩ := a.inPost q c1
      exact ⟨l, m1 l hl, hp⟩
    · obtain ⟨l, hl, hp⟩ := b.inPost q (by omega)
      exact ⟨l, m2 l hl, hp⟩
  · exact .inl a.start
  · exact .inr b.fin
  · rintro M l (h | h) hl hc
    · rcases List.mem_append.1 hl with k | k
      · exact .inl (a.step M l h k hc)
      · rcases b.can k hc with ⟨h1, _⟩ | ⟨q, h1, h2, h3⟩
        · rw [a.onlyF M h h1] at hc ⊢
          exact .inr (b.step _ l b.start k hc)
        · have := a.supp M h q h3; omega
    · rcases List.mem_append.1 hl with k | k
      · rcases a.can k hc with ⟨h1, _⟩ | ⟨q, h1, h2, h3⟩
        · rw [b.onlyF M h h1] at hc ⊢
          exact .inl (a.step _ l a.start k hc)
        · have := b.supp M h q h3; omega
      · exact .inr (b.step M l h k hc)
  · rintro M (h | h)
    · exact (a.ends M h).mono m1
    · exact (b.ends M h).mono m2
  · rintro M (h | h) hy'
    · exact a.onlyT M h hy'
    · exact b.onlyT M h hy'
  · rintro M (h | h) hx'
    · exact a.onlyF M h hx'
    · exact b.onlyF M h hx'
  · intro l hl
    rcases List.mem_append.1 hl with k | k
    · obtain ⟨M, h1, h2, h3⟩ := a.live l k
      exact ⟨M, h1.mono m1, .inl h2, h3⟩
    · obtain ⟨M, h1, h2, h3⟩ := b.live l k
      exact ⟨M, h1.mono m2, .inr h2, h3⟩
theorem can_one {a b lab : Int} {M : Mk} : CanM ⟨lab, [a], [b]⟩ M ↔ 1 ≤ M a := ⟨fun h => h a (by simp), fun h p hp => by rw [List.mem_singleton.1 hp]; exact h⟩
theorem loop_comp {x y : Int} {s s4 s5 : GS} (hx : x < s.places) (hy : y < s.places) (hne : x ≠ y) (h1 : SoundG s.places (s.places + 1) ⟨s.places + 1 + 1, s.links ++ [⟨0, [x], [s.places]⟩]⟩ s4) (h2 : SoundG (s.places + 1) s.places s4 s5) : SoundG x y s ⟨s5.places, s5.links ++ [⟨0, [s.places + 1], [y]⟩]⟩ := by
  obtain ⟨l1, L1, e1, A1, a⟩ := h1
  obtain ⟨l2, L2, e2, A2, b⟩ := h2
  simp only [] at l1 e1 a
  generalize hp : s.places = P at *
  refine ⟨by simp only []; omega, [⟨0, [x], [P]⟩] ++ (L1 ++ L2) ++ [⟨0, [P + 1], [y]⟩], by simp [e2, e1], fun M => M = oneM x ∨ M = oneM y ∨ A1 M ∨ A2 M, ?_⟩
  have mx : (⟨0, [x], [P]⟩ : TranD) ∈ [⟨0, [x], [P]⟩] ++ (L1 ++ L2) ++ [⟨0, [P + 1], [y]⟩] := by simp
  have my : (⟨0, [P + 1], [y]⟩ : TranD) ∈ [⟨0, [x], [P]⟩] ++ (L1 ++ L2) ++ [⟨0, [P + 1], [y]⟩] := by simp
  have m1 : ∀ l ∈ L1, l ∈ [⟨0, [x], [P]⟩] ++ (L1 ++ L2) ++ [⟨0, [P + 1], [y]⟩] := fun l h => by simp [h]
  have m2 : ∀ l ∈ L2, l ∈ [⟨0, [x], [P]⟩] ++ (L1 ++ L2) ++ [⟨0, [P + 1], [y]⟩] := fun l h => by simp [h]
  have hm : ∀ l, l ∈ [⟨0, [x], [P]⟩] ++ (L1 ++ L2) ++ [⟨0, [P + 1], [y]⟩] → l = ⟨0, [x], [P]⟩ ∨ l ∈ L1 ∨ l ∈ L2 ∨ l = ⟨0, [P + 1], [y]⟩ := fun l h => by
    simp only [List.mem_append, List.mem_cons, List.not_mem_nil, or_false] at h
    rcases h with (h | h | h) | h
    · exact .inl h
    · exact .inr (.inl h)
    · exact .inr (.inr (.inl h))
    · exact .inr (.inr (.inr h))
  generalize [⟨0, [x], [P]⟩] ++ (L1 ++ L2) ++ [⟨0, [P + 1], [y]⟩] = LL at mx my m1 m2 hm ⊢
  have rx : RunM LL (oneM x) (oneM P) := .cons mx (can_one.2 (by rw [oneM_self]; omega)) (by rw [after_one]; exact .nil _)
  have ry : RunM LL (oneM (P + 1)) (oneM y) := .cons my (can_one.2 (by rw [oneM_self]; omega)) (by rw [after_one]; exact .nil _)
  have r1 : RunM LL (oneM P) (oneM (P + 1)) := (a.ends _ a.start).mono m1
  have r2 : RunM LL (oneM (P + 1)) (oneM P) := (b.ends _ b.start).mono m2
  constructor
  · rintro M (rfl | rfl | h | h)
    · exact oneM_nn _
    · exact oneM_nn _
    · exact a.nn M h
    · exact b.nn M h
  · rintro M (rfl | rfl | h | h) q hq
    · exact .inl (oneM_ge hq)
    · exact .inr (.inl (oneM_ge hq))
    · have := a.supp M h q hq; simp only []; omega
    · have := b.supp M h q hq; simp only []; omega
  · intro l hl
    try simp only []
    rcases hm l hl with rfl | h | h | rfl
    · exact .inl rfl
    · refine .inr ?_
      rcases a.pre l h with e | ⟨e, k⟩
      · rw [e]; exact ⟨by simp, fun p hp => by have := List.mem_singleton.1 hp; omega⟩
      · exact ⟨e, fun p hp => by have := k p hp; omega⟩
    · refine .inr ?_
      rcases b.pre l h with e | ⟨e, k⟩
      · rw [e]; exact ⟨by simp, fun p hp => by have := List.mem_singleton.1 hp; omega⟩
      · exact ⟨e, fun p hp => by have := k p hp; omega⟩
    · exact .inr ⟨by simp, fun p hp => by have := List.mem_singleton.1 hp; omega⟩
  · intro l hl
    try simp only []
    rcases hm l hl with rfl | h | h | rfl
    · exact .inr ⟨by simp, fun p hp => by have := List.mem_singleton.1 hp; omega⟩
    · refine .inr ?_
      rcases a.post l h with e | ⟨e, k⟩
      · rw [e]; exact ⟨by simp, fun p hp => by have := List.mem_singleton.1 hp; omega⟩
      · exact ⟨e, fun p hp => by have := k p hp; omega⟩
    · refine .inr ?_
      rcases b.post l h with e | ⟨e, k⟩
      · rw [e]; exact ⟨by simp, fun p hp => by have := List.mem_singleton.1 hp; omega⟩
      · exact ⟨e, fun p hp => by have := k p hp; omega⟩
    · exact .inl rfl
  · intro q hq
    simp only [] at hq
    by_cases c0 : q = x
    · exact ⟨_, mx, by simp [c0]⟩
    · by_cases c1 : q = P ∨ P + 1 + 1 ≤ q ∧ q < s4.places
      · obtain ⟨l, hl, hp⟩ := a.inPre q c1
        exact ⟨l, m1 l hl, hp⟩
      · obtain ⟨l, hl, hp⟩ := b.inPre q (by omega)
        exact ⟨l, m2 l hl, hp⟩
  · intro q hq
    simp only [] at hq
    by_cases c0 : q = y
    · exact ⟨_, my, by simp [c0]⟩
    · by_cases c1 : q = P + 1 ∨ P + 1 + 1 ≤ q ∧ q < s4.places
      · obtain ⟨l, hl, hp⟩ := a.inPost q c1
        exact ⟨l, m1 l hl, hp⟩
      · obtain ⟨l, hl, hp⟩ := b.inPost q (by omega)
        exact ⟨l, m2 l hl, hp⟩
  · exact .inl rfl
  · exact .inr (.inl rfl)
  · intro M l hM hl hc
    rcases hm l hl with rfl | k | k | rfl
    · have h1 := can_one.1 hc
      rcases hM with rfl | rfl | h | h
      · rw [after_one]; exact .inr (.inr (.inl a.start))
      · exact absurd (oneM_ge h1) hne
      · have := a.supp M h x h1; omega
      · have := b.supp M h x h1; omega
    · rcases hM with rfl | rfl | h | h
      · rcases a.can k hc with ⟨h1, _⟩ | ⟨q, h1, h2, h3⟩
        · have := oneM_ge h1; omega
        · have := oneM_ge h3; omega
      · rcases a.can k hc with ⟨h1, _⟩ | ⟨q, h1, h2, h3⟩
        · have := oneM_ge h1; omega
        · have := oneM_ge h3; omega
      · exact .inr (.inr (.inl (a.step M l h k hc)))
      · rcases a.can k hc with ⟨h1, _⟩ | ⟨q, h1, h2, h3⟩
        · rw [b.onlyT M h h1] at hc ⊢
          exact .inr (.inr (.inl (a.step _ l a.start k hc)))
        · have := b.supp M h q h3; omega
    · rcases hM with rfl | rfl | h | h
      · rcases b.can k hc with ⟨h1, _⟩ | ⟨q, h1, h2, h3⟩
        · have := oneM_ge h1; omega
        · have := oneM_ge h3; omega
      · rcases b.can k hc with ⟨h1, _⟩ | ⟨q, h1, h2, h3⟩
        · have := oneM_ge h1; omega
        · have := oneM_ge h3; omega
      · rcases b.can k hc with ⟨h1, _⟩ | ⟨q, h1, h2, h3⟩
        · rw [a.onlyT M h h1] at hc ⊢
          exact .inr (.inr (.inr (b.step _ l b.start k hc)))
        · have := a.supp M h q h3; omega
      · exact .inr (.inr (.inr (b.step M l h k hc)))
    · have h1 := can_one.1 hc
      rcases hM with rfl | rfl | h | h
      · have := oneM_ge h1; omega
      · have := oneM_ge h1; omega
      · rw [a.onlyT M h h1, after_one]; exact .inr (.inl rfl)
      · rw [b.onlyF M h h1, after_one]; exact .inr (.inl rfl)
  · rintro M (rfl | rfl | h | h)
    · exact (rx.trans r1).trans ry
    · exact .nil _
    · exact ((a.ends M h).mono m1).trans ry
    · exact (((b.ends M h).mono m2).trans r1).trans ry
  · rintro M (rfl | rfl | h | h) hy'
    · exact absurd (oneM_ge hy').symm hne
    · rfl
    · have := a.supp M h y hy'; omega
    · have := b.supp M h y hy'; omega
  · rintro M (rfl | rfl | h | h) hx'
    · rfl
    · exact absurd (oneM_ge hx') hne
    · have := a.supp M h x hx'; omega
    · have := b.supp M h x hx'; omega
  · intro l hl
    rcases hm l hl with rfl | k | k | rfl
    · exact ⟨oneM x, .nil _, .inl rfl, can_one.2 (by rw [oneM_self]; omega)⟩
    · obtain ⟨M, h1, h2, h3⟩ := a.live l k
      exact ⟨M, rx.trans (h1.mono m1), .inr (.inr (.inl h2)), h3⟩
    · obtain ⟨M, h1, h2, h3⟩ := b.live l k
      exact ⟨M, (rx.trans r1).trans (h1.mono m2), .inr (.inr (.inr h2)), h3⟩
    · exact ⟨oneM (P + 1), rx.trans r1, .inr (.inr (.inl a.fin)), can_one.2 (by rw [oneM_self]; omega)⟩

/-! ### side by side -/
structure BothA (p : Int) (n : Nat) (lo hi : Int) (L : List TranD) (A : Mk → Prop) : Prop where
  nn : ∀ M, A M → ∀ q, 0 ≤ M q
  supp : ∀ M, A M → ∀ q, 1 ≤ M q → p ≤ q ∧ q < p + 2 * (n : Int) ∨ lo ≤ q ∧ q < hi
  pre : ∀ l ∈ L, l.pre ≠ [] ∧ ∀ q ∈ l.pre, p ≤ q ∧ q < p + 2 * (n : Int) ∨ lo ≤ q ∧ q < hi
  post : ∀ l ∈ L, l.post ≠ [] ∧ ∀ q ∈ l.post, p ≤ q ∧ q < p + 2 * (n : Int) ∨ lo ≤ q ∧ q < hi
  inPre : ∀ q, q ∈ insL p n ∨ lo ≤ q ∧ q < hi → ∃ l ∈ L, q ∈ l.pre
  inPost : ∀ q, q ∈ outsL p n ∨ lo ≤ q ∧ q < hi → ∃ l ∈ L, q ∈ l.post
  start : A (useM (insL p n))
  step : ∀ M l, A M → l ∈ L → CanM l M → A (afterM l M)
  ends : ∀ M, A M → RunM L M (useM (outsL p n))
  only : ∀ M, A M → (∀ q ∈ outsL p n, 1 ≤ M q) → M = useM (outsL p n)
  live : ∀ l ∈ L, ∃ M, RunM L (useM (insL p n)) M ∧ A M ∧ CanM l M
theorem useM_cons {a : Int} {l : List Int} (h : a ∉ l) : useM (a :: l) = addM (oneM a) (useM l) := by
  funext q
  simp only [useM, addM, oneM, List.mem_cons]
  by_cases h1 : q = a
  · subst h1; simp [h]
  · simp [h1]
theorem zero_of {M : Mk} (hn : ∀ q, 0 ≤ M q) {q : Int} (h : ¬ 1 ≤ M q) : M q = 0 := by have := hn q; omega
theorem both_sound {f : GF} {P : BlockD → Prop} (hf : SoundF f P) : ∀ {ks : List BlockD} {p : Int} {s s' : GS}, (∀ k ∈ ks, P k) → p + 2 * (ks.length : Int) ≤ s.places → bothF f ks p s = some s' →
    s.places ≤ s'.places ∧ ∃ L, s'.links = s.links ++ L ∧ ∃ A, BothA p ks.length s.places s'.places L A := by
  intro ks
  induction ks with
  | nil =>
    intro p s s' _ _ e
    cases e
    refine ⟨Int.le_refl _, [], by simp, fun M => M = fun _ => 0, ?_⟩
    have e1 : useM (insL p 0) = fun _ => 0 := by funext q; simp [useM, insL]
    have e2 : useM (outsL p 0) = fun _ => 0 := by funext q; simp [useM, outsL]
    constructor
    · rintro M rfl q; exact Int.le_refl _
    · rintro M rfl q h; have h : (1 : Int) ≤ 0 := h; omega
    · intro l hl; cases hl
    · intro l hl; cases hl
    · intro q hq; simp [insL] at hq; omega
    · intro q hq; simp [outsL] at hq; omega
    · exact e1
    · intro M l _ hl; cases hl
    · rintro M rfl; rw [List.length_nil, e2]; exact .nil _
    · rintro M rfl _; exact e2.symm
    · intro l hl; cases hl
  | cons k r ih =>
    intro p s s' hP hx e
    unfold bothF at e
    rw [List.length_cons] at hx
    replace e := Option.bind_eq_some_iff.1 e
    obtain ⟨s1, e1, e⟩ := e
    obtain ⟨l1, L1, hL1, A1, a⟩ := hf k p (p + 1) s s1 (hP k (by simp)) (by omega) (by omega) (by omega) e1
    obtain ⟨l2, L2, hL2, A2, b⟩ := ih (fun k hk => hP k (List.mem_cons_of_mem _ hk)) (show p + 2 + 2 * (r.length : Int) ≤ s1.places by omega) e
    have m1 : ∀ l ∈ L1, l ∈ L1 ++ L2 := fun l h => List.mem_append_left _ h
    have m2 : ∀ l ∈ L2, l ∈ L1 ++ L2 := fun l h => List.mem_append_right _ h
    have ei : useM (insL p (r.length + 1)) = addM (oneM p) (useM (insL (p + 2) r.length)) := by
      rw [insL_cons]; exact useM_cons fun h => by obtain ⟨i, h1, h2, h3⟩ := mem_ins h; omega
    have eo : useM (outsL p (r.length + 1)) = addM (oneM (p + 1)) (useM (outsL (p + 2) r.length)) := by
      rw [outsL_cons]; exact useM_cons fun h => by obtain ⟨i, h1, h2, h3⟩ := mem_outs h; omega
    -- where one has tokens the other has none
    have z2 : ∀ M, A2 M → ∀ q, q = p ∨ q = p + 1 ∨ s.places ≤ q ∧ q < s1.places → M q = 0 := fun M h q hq => zero_of (b.nn M h) fun h1 => by have := b.supp M h q h1; omega
    have z1 : ∀ M, A1 M → ∀ q, p + 2 ≤ q ∧ q < p + 2 + 2 * (r.length : Int) ∨ s1.places ≤ q → M q = 0 := fun M h q hq => zero_of (a.nn M h) fun h1 => by have := a.supp M h q h1; omega
    refine ⟨by omega, L1 ++ L2, by rw [hL2, hL1, List.append_assoc], fun M => ∃ M1 M2, A1 M1 ∧ A2 M2 ∧ M = addM M1 M2, ?_⟩
    rw [List.length_cons]
    constructor
    · rintro M ⟨M1, M2, h1, h2, rfl⟩ q
      have := a.nn M1 h1 q
      have := b.nn M2 h2 q
      simp only [addM]; omega
    · rintro M ⟨M1, M2, h1, h2, rfl⟩ q hq
      simp only [addM] at hq
      have k1 := a.nn M1 h1 q
      have k2 := b.nn M2 h2 q
      by_cases c : 1 ≤ M1 q
      · have := a.supp M1 h1 q c; omega
      · have := b.supp M2 h2 q (by omega); omega
    · intro l hl
      rcases List.mem_append.1 hl with h | h
      · rcases a.pre l h with e | ⟨e, k⟩
        · rw [e]; exact ⟨by simp, fun q hq => by have := List.mem_singleton.1 hq; omega⟩
        · exact ⟨e, fun q hq => by have := k q hq; omega⟩
      · obtain ⟨e, k⟩ := b.pre l h
        exact ⟨e, fun q hq => by have := k q hq; omega⟩
    · intro l hl
      rcases List.mem_append.1 hl with h | h
      · rcases a.post l h with e | ⟨e, k⟩
        · rw [e]; exact ⟨by simp, fun q hq => by have := List.mem_singleton.1 hq; omega⟩
        · exact ⟨e, fun q hq => by have := k q hq; omega⟩
      · obtain ⟨e, k⟩ := b.post l h
        exact ⟨e, fun q hq => by have := k q hq; omega⟩
    · intro q hq
      rw [insL_cons, List.mem_cons] at hq
      by_cases c1 : q = p ∨ s.places ≤ q ∧ q < s1.places
      · obtain ⟨l, hl, hp⟩ := a.inPre q c1
        exact ⟨l, m1 l hl, hp⟩
      · obtain ⟨l, hl, hp⟩ := b.inPre q (by rcases hq with (h | h) | h <;> first | (exact .inl h) | omega)
        exact ⟨l, m2 l hl, hp⟩
    · intro q hq
      rw [outsL_cons, List.mem_cons] at hq
      by_cases c1 : q = p + 1 ∨ s.places ≤ q ∧ q < s1.places
      · obtain ⟨l, hl, hp⟩ := a.inPost q c1
        exact ⟨l, m1 l hl, hp⟩
      · obtain ⟨l, hl, hp⟩ := b.inPost q (by rcases hq with (h | h) | h <;> first | (exact .inl h) | omega)
        exact ⟨l, m2 l hl, hp⟩
    · exact ⟨_, _, a.start, b.start, ei⟩
    · rintro M l ⟨M1, M2, h1, h2, rfl⟩ hl hc
      rcases List.mem_append.1 hl with h | h
      · refine ⟨afterM l M1, M2, a.step M1 l h1 h fun q hq => ?_, h2, after_add _ _ _⟩
        have h3 := hc q hq
        simp only [addM] at h3
        have : M2 q = 0 := z2 M2 h2 q (by rcases a.pre l h with e | ⟨e, k⟩
                                          · rw [e] at hq; have := List.mem_singleton.1 hq; omega
                                          · have := k q hq; omega)
        omega
      · refine ⟨M1, afterM l M2, h1, b.step M2 l h2 h fun q hq => ?_, by rw [add_comm_M M1 M2, after_add, add_comm_M]⟩
        have h3 := hc q hq
        simp only [addM] at h3
        have : M1 q = 0 := z1 M1 h1 q (by obtain ⟨e, k⟩ := b.pre l h; have := k q hq; omega)
        omega
    · rintro M ⟨M1, M2, h1, h2, rfl⟩
      rw [eo]
      exact (((a.ends M1 h1).mono m1).frame (b.nn M2 h2)).trans (((b.ends M2 h2).mono m2).frame' (oneM_nn _))
    · rintro M ⟨M1, M2, h1, h2, rfl⟩ hall
      rw [eo]
      have k1 := hall (p + 1) (by rw [outsL_cons]; simp)
      simp only [addM] at k1
      rw [z2 M2 h2 (p + 1) (by omega)] at k1
      rw [a.onlyT M1 h1 (by omega), b.only M2 h2 fun q hq => ?_]
      have k2 := hall q (by rw [outsL_cons]; simp [hq])
      simp only [addM] at k2
      obtain ⟨i, i1, i2, i3⟩ := mem_outs hq
      rw [z1 M1 h1 q (by omega)] at k2
      omega
    · intro l hl
      rw [ei]
      rcases List.mem_append.1 hl with h | h
      · obtain ⟨M, h1, h2, h3⟩ := a.live l h
        refine ⟨addM M (useM (insL (p + 2) r.length)), (h1.mono m1).frame (useM_nn _), ⟨M, _, h2, b.start, rfl⟩, fun q hq => ?_⟩
        have := h3 q hq
        have := useM_nn (insL (p + 2) r.length) q
        simp only [addM]; omega
      · obtain ⟨M, h1, h2, h3⟩ := b.live l h
        refine ⟨addM (oneM p) M, (h1.mono m2).frame' (oneM_nn _), ⟨_, M, a.start, h2, rfl⟩, fun q hq => ?_⟩
        have := h3 q hq
        have := oneM_nn p q
        simp only [addM]; omega
theorem both_comp {x y : Int} {n : Nat} {s s3 : GS} {L : List TranD} {A : Mk → Prop} (hx : x < s.places) (hy : y < s.places) (hne : x ≠ y) (hn : 0 < n) (hl : s.places + 2 * (n : Int) ≤ s3.places) (hL : s3.links = (s.links ++ [⟨0, [x], insL s.places n⟩]) ++ L)
    (b : BothA s.places n (s.places + 2 * (n : Int)) s3.places L A) : SoundG x y s ⟨s3.places, s3.links ++ [⟨0, outsL s.places n, [y]⟩]⟩ := by
  generalize hp : s.places = P at *
  obtain ⟨n, rfl⟩ : ∃ k, n = k + 1 := ⟨n - 1, by omega⟩
  refine ⟨by simp only []; omega, [⟨0, [x], insL P (n + 1)⟩] ++ L ++ [⟨0, outsL P (n + 1), [y]⟩], by simp [hL], fun M => M = oneM x ∨ M = oneM y ∨ A M, ?_⟩
  have mx : (⟨0, [x], insL P (n + 1)⟩ : TranD) ∈ [⟨0, [x], insL P (n + 1)⟩] ++ L ++ [⟨0, outsL P (n + 1), [y]⟩] := by simp
  have my : (⟨0, outsL P (n + 1), [y]⟩ : TranD) ∈ [⟨0, [x], insL P (n + 1)⟩] ++ L ++ [⟨0, outsL P (n + 1), [y]⟩] := by simp
  have m1 : ∀ l ∈ L, l ∈ [⟨0, [x], insL P (n + 1)⟩] ++ L ++ [⟨0, outsL P (n + 1), [y]⟩] := fun l h => by simp [h]
  have hm : ∀ l, l ∈ [⟨0, [x], insL P (n + 1)⟩] ++ L ++ [⟨0, outsL P (n + 1), [y]⟩] → l = ⟨0, [x], insL P (n + 1)⟩ ∨ l ∈ L ∨ l = ⟨0, outsL P (n + 1), [y]⟩ := fun l h => by
    simp only [List.mem_append, List.mem_cons, List.not_mem_nil, or_false] at h
    rcases h with (h | h) | h
    · exact .inl h
    · exact .inr (.inl h)
    · exact .inr (.inr h)
  generalize [⟨0, [x], insL P (n + 1)⟩] ++ L ++ [⟨0, outsL P (n + 1), [y]⟩] = LL at mx my m1 hm ⊢
  have ax : afterM ⟨0, [x], insL P (n + 1)⟩ (oneM x) = useM (insL P (n + 1)) := by
    funext q; simp only [afterM, useM_one]; omega
  have ay : afterM ⟨0, outsL P (n + 1), [y]⟩ (useM (outsL P (n + 1))) = oneM y := by
    funext q; simp only [afterM, useM_one]; omega
  have cy : CanM ⟨0, outsL P (n + 1), [y]⟩ (useM (outsL P (n + 1))) := fun q hq => by
    simp only [] at hq
    rw [useM_in hq]; omega
  have hin : ∀ q ∈ insL P (n + 1), P ≤ q ∧ q < P + 2 * ((n + 1 : Nat) : Int) := fun q hq => by obtain ⟨i, h1, h2, h3⟩ := mem_ins hq; omega
  have hout : ∀ q ∈ outsL P (n + 1), P ≤ q ∧ q < P + 2 * ((n + 1 : Nat) : Int) := fun q hq => by obtain ⟨i, h1, h2, h3⟩ := mem_outs hq; omega
  have o1 : P + 1 ∈ outsL P (n + 1) := by rw [outsL_cons]; simp
  have rx : RunM LL (oneM x) (useM (insL P (n + 1))) := .cons mx (fun p hp => by simp only [] at hp; rw [List.mem_singleton.1 hp, oneM_self]; omega) (by rw [ax]; exact .nil _)
  have ry : RunM LL (useM (outsL P (n + 1))) (oneM y) := .cons my cy (by rw [ay]; exact .nil _)
  have r1 : RunM LL (useM (insL P (n + 1))) (useM (outsL P (n + 1))) := (b.ends _ b.start).mono m1
  constructor
  · rintro M (rfl | rfl | h)
    · exact oneM_nn _
    · exact oneM_nn _
    · exact b.nn M h
  · rintro M (rfl | rfl | h) q hq
    · exact .inl (oneM_ge hq)
    · exact .inr (.inl (oneM_ge hq))
    · have := b.supp M h q hq; simp only []; omega
  · intro l hl
    try simp only []
    rcases hm l hl with rfl | h | rfl
    · exact .inl rfl
    · obtain ⟨e, k⟩ := b.pre l h
      exact .inr ⟨e, fun q hq => by have := k q hq; omega⟩
    · exact .inr ⟨(fun e => by simp only [] at e; rw [e] at o1; cases o1), fun q hq => by have := hout q hq; omega⟩
  · intro l hl
    try simp only []
    rcases hm l hl with rfl | h | rfl
    · exact .inr ⟨(fun e => by simp only [insL_cons] at e; cases e), fun q hq => by have := hin q hq; omega⟩
    · obtain ⟨e, k⟩ := b.post l h
      exact .inr ⟨e, fun q hq => by have := k q hq; omega⟩
    · exact .inl rfl
  · intro q hq
    simp only [] at hq
    by_cases c0 : q = x
    · exact ⟨_, mx, by simp [c0]⟩
    · by_cases c1 : q ∈ outsL P (n + 1)
      · exact ⟨_, my, c1⟩
      · have : q ∈ insL P (n + 1) ∨ P + 2 * ((n + 1 : Nat) : Int) ≤ q ∧ q < s3.places := by
          by_cases c2 : P + 2 * ((n + 1 : Nat) : Int) ≤ q
          · exact .inr ⟨c2, by omega⟩
          · left
            unfold insL
            rw [List.mem_map]
            have hnot : ∀ i : Nat, i < n + 1 → q ≠ P + 2 * (i : Int) + 1 := fun i hi e => c1 (by unfold outsL; rw [List.mem_map]; exact ⟨i, List.mem_range.2 hi, e.symm⟩)
            refine ⟨((q - P) / 2).toNat, List.mem_range.2 (by omega), ?_⟩
            have := hnot ((q - P) / 2).toNat (by omega)
            omega
        obtain ⟨l, hl, hp⟩ := b.inPre q this
        exact ⟨l, m1 l hl, hp⟩
  · intro q hq
    simp only [] at hq
    by_cases c0 : q = y
    · exact ⟨_, my, by simp [c0]⟩
    · by_cases c1 : q ∈ insL P (n + 1)
      · exact ⟨_, mx, c1⟩
      · have : q ∈ outsL P (n + 1) ∨ P + 2 * ((n + 1 : Nat) : Int) ≤ q ∧ q < s3.places := by
          by_cases c2 : P + 2 * ((n + 1 : Nat) : Int) ≤ q
          · exact .inr ⟨c2, by omega⟩
          · left
            unfold outsL
            rw [List.mem_map]
            have hnot : ∀ i : Nat, i < n + 1 → q ≠ P + 2 * (i : Int) := fun i hi e => c1 (by unfold insL; rw [List.mem_map]; exact ⟨i, List.mem_range.2 hi, e.symm⟩)
            refine ⟨((q - P) / 2).toNat, List.mem_range.2 (by omega), ?_⟩
            have := hnot ((q - P) / 2).toNat (by omega)
            omega
        obtain ⟨l, hl, hp⟩ := b.inPost q this
        exact ⟨l, m1 l hl, hp⟩
  · exact .inl rfl
  · exact .inr (.inl rfl)
  · intro M l hM hl hc
    rcases hm l hl with rfl | k | rfl
    · have h1 := hc x (by simp)
      rcases hM with rfl | rfl | h
      · rw [ax]; exact .inr (.inr b.start)
      · exact absurd (oneM_ge h1) hne
      · have := b.supp M h x h1; omega
    · rcases hM with rfl | rfl | h
      · obtain ⟨e, k'⟩ := b.pre l k
        obtain ⟨q, hq⟩ := List.exists_mem_of_ne_nil _ e
        have := k' q hq
        have := oneM_ge (hc q hq); omega
      · obtain ⟨e, k'⟩ := b.pre l k
        obtain ⟨q, hq⟩ := List.exists_mem_of_ne_nil _ e
        have := k' q hq
        have := oneM_ge (hc q hq); omega
      · exact .inr (.inr (b.step M l h k hc))
    · rcases hM with rfl | rfl | h
      · have := oneM_ge (hc (P + 1) o1); omega
      · have := oneM_ge (hc (P + 1) o1); omega
      · rw [b.only M h hc, ay]; exact .inr (.inl rfl)
  · rintro M (rfl | rfl | h)
    · exact (rx.trans r1).trans ry
    · exact .nil _
    · exact ((b.ends M h).mono m1).trans ry
  · rintro M (rfl | rfl | h) hy'
    · exact absurd (oneM_ge hy').symm hne
    · rfl
    · have := b.supp M h y hy'; omega
  · rintro M (rfl | rfl | h) hx'
    · rfl
    · exact absurd (oneM_ge hx') hne
    · have := b.supp M h x hx'; omega
  · intro l hl
    rcases hm l hl with rfl | k | rfl
    · exact ⟨oneM x, .nil _, .inl rfl, fun p hp => by simp only [] at hp; rw [List.mem_singleton.1 hp, oneM_self]; omega⟩
    · obtain ⟨M, h1, h2, h3⟩ := b.live l k
      exact ⟨M, rx.trans (h1.mono m1), .inr (.inr h2), h3⟩
    · exact ⟨useM (outsL P (n + 1)), rx.trans r1, .inr (.inr (by have := b.ends _ b.start; exact (stays_in b.step this b.start))), cy⟩
end Go.Tok

/- Of what grows of a block: it is sound as a whole; every node is led to and leads on. No program is in sight here. -/
namespace Go.Tok
open Go.RowKit
set_option linter.unusedVariables false
theorem seq_sound {f : GF} {P : BlockD → Prop} (hf : SoundF f P) : ∀ {ks : List BlockD} {x y : Int} {s s' : GS}, (∀ k ∈ ks, P k) → x < s.places → y < s.places → x ≠ y → seqF f ks x y s = some s' → SoundG x y s s' := by
  intro ks
  induction ks with
  | nil => intro x y s s' _ _ _ _ e; cases e
  | cons k r ih =>
    intro x y s s' hP hx hy hne e
    cases r with
    | nil => exact hf k x y s s' (hP k (by simp)) hx hy hne e
    | cons k2 ks =>
      unfold seqF at e
      replace e := Option.bind_eq_some_iff.1 e
      obtain ⟨s1, e1, e⟩ := e
      replace e := Option.bind_eq_some_iff.1 e
      obtain ⟨s2, e2, e⟩ := e
      obtain ⟨rfl, _⟩ := place_some e1
      have h1 := hf k x s.places _ s2 (hP k (by simp)) (by simp only []; omega) (by simp only []; omega) (by omega) e2
      have hl := h1.1
      simp only [] at hl
      have h2 := ih (fun k hk => hP k (List.mem_cons_of_mem _ hk)) (show s.places < s2.places by omega) (show y < s2.places by omega) (by omega) e
      exact seq_comp hx hy hne h1 h2
theorem choice_sound {f : GF} {P : BlockD → Prop} (hf : SoundF f P) : ∀ {ks : List BlockD} {x y : Int} {s s' : GS}, ks ≠ [] → (∀ k ∈ ks, P k) → x < s.places → y < s.places → x ≠ y → choiceF f ks x y s = some s' → SoundG x y s s' := by
  intro ks
  induction ks with
  | nil => intro x y s s' h; exact absurd rfl h
  | cons k r ih =>
    intro x y s s' _ hP hx hy hne e
    unfold choiceF at e
    replace e := Option.bind_eq_some_iff.1 e
    obtain ⟨s1, e1, e⟩ := e
    have h1 := hf k x y s s1 (hP k (by simp)) hx hy hne e1
    by_cases hr : r = []
    · subst hr
      cases e
      exact h1
    · have hl := h1.1
      exact choice_comp hx hy hne h1 (ih hr (fun k hk => hP k (List.mem_cons_of_mem _ hk)) (by omega) (by omega) hne e)
theorem grow_sound : ∀ (n : Nat), SoundF (growF n) (OkB n) := by
  intro n
  induction n with
  | zero => intro b x y s s' h; exact h.elim
  | succ n ih =>
    intro b x y s s' hb hx hy hne e
    obtain ⟨k1, k2, k3, k4, k5, k6, k7⟩ := hb
    unfold growF at e
    split at e
    · exact sound_link hne e
    · split at e
      · exact sound_link hne e
      · split at e
        · exact seq_sound ih k7 hx hy hne e
        · split at e
          · exact choice_sound ih (k5 (by omega)) k7 hx hy hne e
          · split at e
            · replace e := Option.bind_eq_some_iff.1 e
              obtain ⟨s1, e1, e⟩ := e
              replace e := Option.bind_eq_some_iff.1 e
              obtain ⟨s2, e2, e⟩ := e
              replace e := Option.bind_eq_some_iff.1 e
              obtain ⟨s3, e3, e⟩ := e
              obtain ⟨rfl, _⟩ := places_some e1
              obtain ⟨rfl, _⟩ := link_some e2
              obtain ⟨l3, L, hL, A, hA⟩ := both_sound ih k7 (by simp only []; omega) e3
              obtain ⟨rfl, _⟩ := link_some e
              simp only [] at l3 hL hA
              have hne0 : b.kids ≠ [] := k5 (by omega)
              have hlen : 0 < b.kids.length := by cases h : b.kids with | nil => exact absurd h hne0 | cons => simp
              exact both_comp hx hy hne hlen (by omega) hL hA
            · replace e := Option.bind_eq_some_iff.1 e
              obtain ⟨s1, e1, e⟩ := e
              replace e := Option.bind_eq_some_iff.1 e
              obtain ⟨s2, e2, e⟩ := e
              replace e := Option.bind_eq_some_iff.1 e
              obtain ⟨s3, e3, e⟩ := e
              replace e := Option.bind_eq_some_iff.1 e
              obtain ⟨s4, e4, e⟩ := e
              replace e := Option.bind_eq_some_iff.1 e
              obtain ⟨s5, e5, e⟩ := e
              have hlen := k6 (by omega)
              obtain ⟨rfl, _⟩ := place_some e1
              obtain ⟨rfl, _⟩ := place_some e2
              obtain ⟨rfl, _⟩ := link_some e3
              have h1 := ih _ _ _ _ _ (k7 _ (ix_mem (by omega))) (by simp only []; omega) (by simp only []; omega) (by omega) e4
              have hl := h1.1
              simp only [] at hl
              have h2 := ih _ _ _ _ _ (k7 _ (ix_mem (by omega))) (by omega) (by omega) (by omega) e5
              obtain ⟨rfl, _⟩ := link_some e
              exact loop_comp hx hy hne h1 h2
theorem grown_sound {n : Nat} {b : BlockD} {s : GS} (hb : OkB n b) (h : growF n b 0 1 ⟨2, []⟩ = some s) : ∃ A, SoundA 0 1 2 s.places s.links A := by
  obtain ⟨_, L, hL, A, hA⟩ := grow_sound n b 0 1 ⟨2, []⟩ s hb (by simp) (by simp) (by simp) h
  simp only [] at hL hA
  rw [List.nil_append] at hL
  subst hL
  exact ⟨A, hA⟩

/-! ### the search finds all that is led to -/
theorem pre_sub {α : Type} {a b : List α} (h : a <+: b) {x : α} (hx : x ∈ a) : x ∈ b := h.subset hx
theorem dfs_closed {N : NetD} (h : netOkB N = true) : ∀ (m : Nat) (vis : List NodeD) (x : NodeD), isNode N x → (∀ y ∈ vis, isNode N y) → vis.Nodup → sizeN N ≤ vis.length + m →
    x ∈ dfsF N (m + 1) vis x ∧ ∀ y ∈ dfsF N (m + 1) vis x, y ∈ vis ∨ ∀ j, j < degN N y → 0 < wtN N y j → nextN y j ∈ dfsF N (m + 1) vis x := by
  intro m
  induction m with
  | zero =>
    intro vis x hx hv hn hs
    have hm := nodes_full hn hv (by omega) hx
    rw [dfs_in hm]
    exact ⟨hm, fun y hy => .inl hy⟩
  | succ m ih =>
    intro vis x hx hv hn hs
    by_cases hm : x ∈ vis
    · rw [dfs_in hm]
      exact ⟨hm, fun y hy => .inl hy⟩
    · rw [dfs_out hm]
      have hv1 : ∀ y ∈ vis ++ [x], isNode N y := fun y hy => by
        rcases List.mem_append.1 hy with h1 | h1
        · exact hv y h1
        · rw [List.mem_singleton.1 h1]; exact hx
      have hn1 : (vis ++ [x]).Nodup := List.nodup_append.2 ⟨hn, by simp, fun a ha c hc e => by
        rw [List.mem_singleton.1 hc] at e; subst e; exact hm ha⟩
      have key : ∀ k, k ≤ degN N x → (∀ y ∈ foldTo (dfsF N (m + 1)) (vis ++ [x]) N x k, y ∈ vis ++ [x] ∨ ∀ j, j < degN N y → 0 < wtN N y j → nextN y j ∈ foldTo (dfsF N (m + 1)) (vis ++ [x]) N x k) ∧ ∀ j, j < k → 0 < wtN N x j → nextN x j ∈ foldTo (dfsF N (m + 1)) (vis ++ [x]) N x k := by
        intro k
        induction k with
        | zero => intro _; rw [foldTo_zero]; exact ⟨fun y hy => .inl hy, fun j hj => by omega⟩
        | succ k ihk =>
          intro hk
          obtain ⟨a1, a2⟩ := ihk (by omega)
          by_cases hw : 0 < wtN N x k
          · rw [foldTo_yes hw]
            have g := fold_grown h (m := m + 1) (vis := vis ++ [x]) hx k (by omega)
            have hlen := g.pre.length_le
            rw [List.length_append, List.length_singleton] at hlen
            have hnode := next_node h hx (j := k) (by omega)
            obtain ⟨b1, b2⟩ := ih _ (nextN x k) hnode (g.nodes hv1) (g.nodup hn1) (by omega)
            have g2 := dfs_grown h (m + 1) (foldTo (dfsF N (m + 1)) (vis ++ [x]) N x k) (nextN x k) hnode
            refine ⟨fun y hy => ?_, fun j hj hwj => ?_⟩
            · rcases b2 y hy with h1 | h1
              · rcases a1 y h1 with h2 | h2
                · exact .inl h2
                · exact .inr fun j hj hwj => pre_sub g2.pre (h2 j hj hwj)
              · exact .inr h1
            · rcases Nat.lt_or_ge j k with h1 | h1
              · exact pre_sub g2.pre (a2 j h1 hwj)
              · obtain rfl : j = k := by omega
                exact b1
          · rw [foldTo_no (by omega)]
            refine ⟨a1, fun j hj hwj => ?_⟩
            rcases Nat.lt_or_ge j k with h1 | h1
            · exact a2 j h1 hwj
            · obtain rfl : j = k := by omega
              exact absurd hwj hw
      obtain ⟨a1, a2⟩ := key (degN N x) (Nat.le_refl _)
      have g := fold_grown h (m := m + 1) (vis := vis ++ [x]) hx (degN N x) (Nat.le_refl _)
      refine ⟨pre_sub g.pre (by simp), fun y hy => ?_⟩
      rcases a1 y hy with h1 | h1
      · rcases List.mem_append.1 h1 with h2 | h2
        · exact .inl h2
        · rw [List.mem_singleton.1 h2]; exact .inr a2
      · exact .inr h1
theorem walk_start {N : NetD} (h : netOkB N = true) {i : Nat} (hi : i < N.places.toNat) : (⟨false, i⟩ : NodeD) ∈ walkN N i := by
  rw [walkN_def]
  exact (dfs_closed h (sizeN N) [] ⟨false, i⟩ (by unfold isNode; simpa using hi) (by simp) List.nodup_nil (by simp)).1
theorem walk_on {N : NetD} (h : netOkB N = true) {i : Nat} (hi : i < N.places.toNat) {y : NodeD} (hy : y ∈ walkN N i) {j : Nat} (hj : j < degN N y) (hw : 0 < wtN N y j) : nextN y j ∈ walkN N i := by
  rw [walkN_def] at hy ⊢
  rcases (dfs_closed h (sizeN N) [] ⟨false, i⟩ (by unfold isNode; simpa using hi) (by simp) List.nodup_nil (by simp)).2 y hy with h1 | h1
  · cases h1
  · exact h1 j hj hw
theorem nat_cover : ∀ (T : Nat) (l : List Nat), (∀ k, k < T → k ∈ l) → T ≤ l.length := by
  intro T
  induction T with
  | zero => intro l _; omega
  | succ T ih =>
    intro l h
    have hT := h T (by omega)
    have := ih (l.erase T) fun k hk => (List.mem_erase_of_ne (by omega)).2 (h k (by omega))
    rw [List.length_erase_of_mem hT] at this
    have : 0 < l.length := List.length_pos_of_mem hT
    omega
theorem walk_full {N : NetD} {i : Nat} (h1 : ∀ p, p < N.places.toNat → (⟨false, p⟩ : NodeD) ∈ walkN N i) (h2 : ∀ k, k < N.trans.length → (⟨true, k⟩ : NodeD) ∈ walkN N i) : sizeN N ≤ (walkN N i).length := by
  have := nat_cover (sizeN N) ((walkN N i).map (codeN N)) fun k hk => by
    unfold sizeN at hk
    by_cases hp : k < N.places.toNat
    · exact List.mem_map.2 ⟨_, h1 k hp, by simp [codeN]⟩
    · exact List.mem_map.2 ⟨_, h2 (k - N.places.toNat) (by omega), by simp [codeN]; omega⟩
  rwa [List.length_map] at this

/-! ### markings as functions -/
def netM (x : List Int) : Mk := fun q => if 0 ≤ q then nth x q.toNat else 0
theorem netM_nat (x : List Int) (p : Nat) : netM x (p : Int) = nth x p := by unfold netM; rw [if_pos (by omega), Int.toNat_natCast]
theorem netM_neg {x : List Int} {q : Int} (h : q < 0) : netM x q = 0 := by unfold netM; rw [if_neg (by omega)]
theorem weights_use {n : Nat} {l : List Int} (h : PlIn n l) (p : Nat) : nth (weightsF n l) p = useM l (p : Int) := by
  by_cases hp : p < n
  · rw [weights_nth (fun q hq => (h q hq).1) hp]; rfl
  · rw [nth_ge (by rw [weights_len]; omega), useM_out fun hq => by have := (h _ hq).2; omega]
theorem use_neg {n : Int} {l : List Int} (h : PlIn n l) {q : Int} (hq : q < 0) : useM l q = 0 := useM_out fun hm => by have := (h q hm).1; omega
theorem mark_ext {x y : List Int} (hl : x.length = y.length) (h : netM x = netM y) : x = y := by
  apply List.ext_getElem hl
  intro i h1 h2
  have := congrFun h (i : Int)
  rw [netM_nat, netM_nat, nth_lt h1, nth_lt h2] at this
  exact this
section
variable {s : GS} {A : Mk → Prop}
theorem net_len (s : GS) : (netOf s).trans.length = s.links.length := by simp [netOf]
theorem pl_nat (ok : GOk s) : ((s.places.toNat : Nat) : Int) = s.places := Int.toNat_of_nonneg (by have := ok.lo; omega)
theorem link_pre (ok : GOk s) {k : Nat} (hk : k < s.links.length) (p : Nat) : nth ((netOf s).tr k).pre p = useM (ix s.links k).pre (p : Int) := by
  rw [net_tr hk]
  exact weights_use (by rw [pl_nat ok]; exact ok.pre _ (ix_mem hk)) p
theorem link_post (ok : GOk s) {k : Nat} (hk : k < s.links.length) (p : Nat) : nth ((netOf s).tr k).post p = useM (ix s.links k).post (p : Int) := by
  rw [net_tr hk]
  exact weights_use (by rw [pl_nat ok]; exact ok.post _ (ix_mem hk)) p
theorem fires_after (ok : GOk s) {x y : List Int} {k : Nat} (hF : Fires (netOf s) x k y) : CanM (ix s.links k) (netM x) ∧ netM y = afterM (ix s.links k) (netM x) := by
  have hk : k < s.links.length := by have := hF.lt; rwa [net_len] at this
  have hpre := ok.pre _ (ix_mem hk)
  have hpost := ok.post _ (ix_mem hk)
  refine ⟨fun p hp => ?_, ?_⟩
  · obtain ⟨q, rfl⟩ := Int.eq_ofNat_of_zero_le (hpre p hp).1
    rw [netM_nat]
    have := hF.pre q
    rw [link_pre ok hk, useM_in hp] at this
    exact this
  · funext q
    unfold afterM
    by_cases hq : 0 ≤ q
    · obtain ⟨p, rfl⟩ := Int.eq_ofNat_of_zero_le hq
      rw [netM_nat, netM_nat, hF.eq p, link_pre ok hk, link_post ok hk]
    · rw [netM_neg (by omega), netM_neg (by omega), use_neg hpre (by omega), use_neg hpost (by omega)]; rfl
theorem runs_in (ok : GOk s) (hA : SoundA 0 1 2 s.places s.links A) {x q y : List Int} (h : Runs (netOf s) x q y) : A (netM x) → A (netM y) := by
  induction h with
  | nil => exact id
  | @cons x1 y1 z1 s1 k1 hF _ ih =>
    intro ha
    have hk : k1 < s.links.length := by have := hF.lt; rwa [net_len] at this
    obtain ⟨h1, h2⟩ := fires_after ok hF
    refine ih ?_
    rw [h2]
    exact hA.step _ _ ha (ix_mem hk) h1
/-! ### every node is led to, and leads on -/
theorem wt_pl (N : NetD) (p j : Nat) : wtN N ⟨false, p⟩ j = nth (N.tr j).pre p := wt_place N rfl j
theorem wt_tr (N : NetD) (k j : Nat) : wtN N ⟨true, k⟩ j = nth (N.tr k).post j := wt_tran N rfl j
theorem deg_pl (N : NetD) (p : Nat) : degN N ⟨false, p⟩ = N.trans.length := deg_place N rfl
theorem deg_tr (N : NetD) (k : Nat) : degN N ⟨true, k⟩ = (N.tr k).post.length := deg_tran N rfl
theorem post_len (ok : GOk s) {k : Nat} (hk : k < s.links.length) : ((netOf s).tr k).post.length = s.places.toNat := by rw [net_tr hk]; exact weights_len _ _
theorem pre_len (ok : GOk s) {k : Nat} (hk : k < s.links.length) : ((netOf s).tr k).pre.length = s.places.toNat := by rw [net_tr hk]; exact weights_len _ _
theorem pre_ne (hA : SoundA 0 1 2 s.places s.links A) {l : TranD} (hl : l ∈ s.links) : ∃ p, p ∈ l.pre := by
  rcases hA.pre l hl with e | ⟨e, _⟩
  · exact ⟨0, by rw [e]; simp⟩
  · exact List.exists_mem_of_ne_nil _ e
theorem post_ne (hA : SoundA 0 1 2 s.places s.links A) {l : TranD} (hl : l ∈ s.links) : ∃ p, p ∈ l.post := by
  rcases hA.post l hl with e | ⟨e, _⟩
  · exact ⟨1, by rw [e]; simp⟩
  · exact List.exists_mem_of_ne_nil _ e
/-- from a place to a transition that takes from it, and on to where it puts -/
theorem fore_tran (ok : GOk s) (i : Nat) (hi : i < s.places.toNat) {k p : Nat} (hk : k < s.links.length) (hp : (p : Int) ∈ (ix s.links k).pre) (h : (⟨false, p⟩ : NodeD) ∈ walkN (netOf s) i) : (⟨true, k⟩ : NodeD) ∈ walkN (netOf s) i := by
  have := walk_on (grown_net ok) hi h (j := k) (by rw [deg_pl, net_len]; exact hk) (by rw [wt_pl, link_pre ok hk, useM_in hp]; omega)
  exact this
theorem fore_place (ok : GOk s) (i : Nat) (hi : i < s.places.toNat) {k p : Nat} (hk : k < s.links.length) (hp : (p : Int) ∈ (ix s.links k).post) (h : (⟨true, k⟩ : NodeD) ∈ walkN (netOf s) i) : (⟨false, p⟩ : NodeD) ∈ walkN (netOf s) i := by
  have hlt := (ok.post _ (ix_mem hk) _ hp).2
  have hpl := pl_nat ok
  have := walk_on (grown_net ok) hi h (j := p) (by rw [deg_tr, post_len ok hk]; omega) (by rw [wt_tr, link_post ok hk, useM_in hp]; omega)
  exact this
theorem ix_of_mem {l : TranD} (h : l ∈ s.links) : ∃ k, k < s.links.length ∧ ix s.links k = l := by
  obtain ⟨k, hk, rfl⟩ := List.getElem_of_mem h
  exact ⟨k, hk, ix_lt hk⟩
theorem fore_run (ok : GOk s) (hA : SoundA 0 1 2 s.places s.links A) {a c : Mk} (h : RunM s.links a c) : (∀ q : Nat, 1 ≤ a q → (⟨false, q⟩ : NodeD) ∈ walkN (netOf s) 0) → ∀ q : Nat, 1 ≤ c q → (⟨false, q⟩ : NodeD) ∈ walkN (netOf s) 0 := by
  have hlo := ok.lo
  induction h with
  | nil => exact id
  | @cons l M M' hl hc _ ih =>
    intro ha
    refine ih fun q hq => ?_
    obtain ⟨k, hk, rfl⟩ := ix_of_mem hl
    by_cases hp : (q : Int) ∈ (ix s.links k).post
    · obtain ⟨p, hpp⟩ := pre_ne hA hl
      obtain ⟨p, rfl⟩ := Int.eq_ofNat_of_zero_le (ok.pre _ hl p hpp).1
      exact fore_place ok 0 (by omega) hk hp (fore_tran ok 0 (by omega) hk hpp (ha p (hc _ hpp)))
    · refine ha q ?_
      unfold afterM at hq
      rw [useM_out hp] at hq
      have := useM_nn (ix s.links k).pre (q : Int)
      omega
theorem fore_full (ok : GOk s) (hA : SoundA 0 1 2 s.places s.links A) : sizeN (netOf s) ≤ (walkN (netOf s) 0).length := by
  have hlo := ok.lo
  have hpl := pl_nat ok
  have h0 : (⟨false, 0⟩ : NodeD) ∈ walkN (netOf s) 0 := walk_start (grown_net ok) (by show 0 < s.places.toNat; omega)
  have ht : ∀ k, k < s.links.length → (⟨true, k⟩ : NodeD) ∈ walkN (netOf s) 0 := fun k hk => by
    obtain ⟨M, h1, h2, h3⟩ := hA.live _ (ix_mem hk)
    obtain ⟨p, hp⟩ := pre_ne hA (ix_mem hk)
    obtain ⟨p, rfl⟩ := Int.eq_ofNat_of_zero_le (ok.pre _ (ix_mem hk) p hp).1
    refine fore_tran ok 0 (by omega) hk hp (fore_run ok hA h1 (fun q hq => ?_) p (h3 _ hp))
    have := oneM_ge hq
    obtain rfl : q = 0 := by omega
    exact h0
  refine walk_full (fun p hp => ?_) (fun k hk => ht k (by rwa [net_len] at hk))
  have hp' : p < s.places.toNat := hp
  by_cases hz : p = 0
  · subst hz; exact h0
  · obtain ⟨l, hl, hm⟩ := hA.inPost p (by omega)
    obtain ⟨k, hk, rfl⟩ := ix_of_mem hl
    exact fore_place ok 0 (by omega) hk hm (ht k hk)
theorem turned_ok (ok : GOk s) : netOkB (turnN (netOf s)) = true := netOk_turn (grown_net ok)
theorem turn_len (s : GS) : (turnN (netOf s)).trans.length = s.links.length := by rw [turnN_len, net_len]
theorem turn_places (s : GS) : (turnN (netOf s)).places = s.places := by rw [turnN_places]; rfl
theorem turn_tr {k : Nat} (hk : k < s.links.length) : (turnN (netOf s)).tr k = turnT ((netOf s).tr k) := turnN_tr _ (by rw [net_len]; exact hk)
theorem back_tran (ok : GOk s) (i : Nat) (hi : i < s.places.toNat) {k p : Nat} (hk : k < s.links.length) (hp : (p : Int) ∈ (ix s.links k).post) (h : (⟨false, p⟩ : NodeD) ∈ walkN (turnN (netOf s)) i) : (⟨true, k⟩ : NodeD) ∈ walkN (turnN (netOf s)) i := by
  have := walk_on (turned_ok ok) (by rw [turn_places]; exact hi) h (j := k) (by rw [deg_pl, turn_len]; exact hk) (by rw [wt_pl, turn_tr hk, turnT_pre, link_post ok hk, useM_in hp]; omega)
  exact this
theorem back_place (ok : GOk s) (i : Nat) (hi : i < s.places.toNat) {k p : Nat} (hk : k < s.links.length) (hp : (p : Int) ∈ (ix s.links k).pre) (h : (⟨true, k⟩ : NodeD) ∈ walkN (turnN (netOf s)) i) : (⟨false, p⟩ : NodeD) ∈ walkN (turnN (netOf s)) i := by
  have hlt := (ok.pre _ (ix_mem hk) _ hp).2
  have hpl := pl_nat ok
  have := walk_on (turned_ok ok) (by rw [turn_places]; exact hi) h (j := p) (by rw [deg_tr, turn_tr hk, turnT_post, pre_len ok hk]; omega) (by rw [wt_tr, turn_tr hk, turnT_post, link_pre ok hk, useM_in hp]; omega)
  exact this
theorem back_run (ok : GOk s) (hA : SoundA 0 1 2 s.places s.links A) {a c : Mk} (h : RunM s.links a c) : (∀ q, 0 ≤ a q) → (∀ q : Nat, 1 ≤ c q → (⟨false, q⟩ : NodeD) ∈ walkN (turnN (netOf s)) 1) → ∀ q : Nat, 1 ≤ a q → (⟨false, q⟩ : NodeD) ∈ walkN (turnN (netOf s)) 1 := by
  have hlo := ok.lo
  induction h with
  | nil => exact fun _ h => h
  | @cons l M M' hl hc _ ih =>
    intro hn hcc q hq
    have hx := ih (after_nn hn hc) hcc
    obtain ⟨k, hk, rfl⟩ := ix_of_mem hl
    by_cases hp : (q : Int) ∈ (ix s.links k).pre
    · obtain ⟨p, hpp⟩ := post_ne hA hl
      have h1 := after_post hn hc hpp
      obtain ⟨p, rfl⟩ := Int.eq_ofNat_of_zero_le (ok.post _ hl p hpp).1
      exact back_place ok 1 (by omega) hk hp (back_tran ok 1 (by omega) hk hpp (hx p h1))
    · refine hx q ?_
      unfold afterM
      rw [useM_out hp]
      have := useM_nn (ix s.links k).post (q : Int)
      omega
theorem back_full (ok : GOk s) (hA : SoundA 0 1 2 s.places s.links A) : sizeN (netOf s) ≤ (walkN (turnN (netOf s)) 1).length := by
  have hlo := ok.lo
  have hpl := pl_nat ok
  have h1 : (⟨false, 1⟩ : NodeD) ∈ walkN (turnN (netOf s)) 1 := walk_start (turned_ok ok) (by rw [turn_places]; omega)
  have hend : ∀ q : Nat, 1 ≤ oneM 1 (q : Int) → (⟨false, q⟩ : NodeD) ∈ walkN (turnN (netOf s)) 1 := fun q hq => by
    have := oneM_ge hq
    obtain rfl : q = 1 := by omega
    exact h1
  have ht : ∀ k, k < s.links.length → (⟨true, k⟩ : NodeD) ∈ walkN (turnN (netOf s)) 1 := fun k hk => by
    obtain ⟨M, _, h2, h3⟩ := hA.live _ (ix_mem hk)
    have h4 := hA.step _ _ h2 (ix_mem hk) h3
    obtain ⟨p, hp⟩ := post_ne hA (ix_mem hk)
    have h5 := after_post (hA.nn _ h2) h3 hp
    obtain ⟨p, rfl⟩ := Int.eq_ofNat_of_zero_le (ok.post _ (ix_mem hk) p hp).1
    exact back_tran ok 1 (by omega) hk hp (back_run ok hA (hA.ends _ h4) (hA.nn _ h4) hend p h5)
  have hw := walk_full (N := turnN (netOf s)) (i := 1) (fun p hp => ?_) (fun k hk => ht k (by rwa [turn_len] at hk))
  · have e : sizeN (turnN (netOf s)) = sizeN (netOf s) := by unfold sizeN; rw [turnN_len, turnN_places]
    rwa [e] at hw
  · have hp' : p < s.places.toNat := by rwa [turn_places] at hp
    by_cases hz : p = 1
    · subst hz; exact h1
    · obtain ⟨l, hl, hm⟩ := hA.inPre p (by omega)
      obtain ⟨k, hk, rfl⟩ := ix_of_mem hl
      exact back_place ok 1 (by omega) hk hm (ht k hk)
end
end Go.Tok
