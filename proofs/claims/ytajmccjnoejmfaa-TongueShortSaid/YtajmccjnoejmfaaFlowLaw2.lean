/- Plain laws of what marks are worth. No program is in sight here. -/
import Derived.Test.YtajmccjnoejmfaaFlowLaw
namespace Go.Tok
set_option linter.unusedVariables false

def weighTo (y m : List Int) : Nat → Int
  | 0 => 0
  | n + 1 => weighTo y m n + nth y n * nth m n
theorem weighTo_zero (y m : List Int) : weighTo y m 0 = 0 := by rw [weighTo]
theorem weighTo_succ (y m : List Int) (n : Nat) : weighTo y m (n + 1) = weighTo y m n + nth y n * nth m n := by rw [weighTo]
def weighF (y m : List Int) : Int := weighTo y m (min y.length m.length)
theorem weighF_def (y m : List Int) : weighF y m = weighTo y m (min y.length m.length) := rfl
/-- worths and tokens that are not too many -/
def WOk (y m : List Int) : Prop := min y.length m.length ≤ 16 ∧ (∀ p, -1000000 ≤ nth y p ∧ nth y p ≤ 1000000) ∧ ∀ p, 0 ≤ nth m p ∧ nth m p ≤ 1000000
theorem mul_le' {a b A B : Int} (h1 : -A ≤ a) (h2 : a ≤ A) (h3 : 0 ≤ b) (h4 : b ≤ B) (h5 : 0 ≤ A) : -(A * B) ≤ a * b ∧ a * b ≤ A * B := by
  have := mul_le_of h3 h4 h1 h2 h5
  rw [Int.mul_comm b a, Int.mul_comm B A] at this
  exact this
theorem WOk.term {y m : List Int} (h : WOk y m) (n : Nat) : -1000000000000 ≤ nth y n * nth m n ∧ nth y n * nth m n ≤ 1000000000000 := by
  have a := h.2.1 n
  have b := h.2.2 n
  have := mul_le' a.1 a.2 b.1 b.2 (by omega)
  omega
theorem WOk.le {y m : List Int} (h : WOk y m) : ∀ n : Nat, n ≤ 16 → -(1000000000000 * (n : Int)) ≤ weighTo y m n ∧ weighTo y m n ≤ 1000000000000 * (n : Int) := by
  intro n
  induction n with
  | zero => intro _; rw [weighTo_zero]; omega
  | succ n ih =>
    intro hn
    have i := ih (by omega)
    have := h.term n
    rw [weighTo_succ]; omega

theorem WOk.min {y m : List Int} (h : WOk y m) : min y.length m.length ≤ 16 := h.1

def keptB (N : NetD) (y : List Int) : Bool := netOkB N && boundedB y N.places (-1000000) && N.trans.all fun t => decide (weighF y t.pre = weighF y t.post)
def KeptUpto (N : NetD) (y : List Int) (k : Nat) : Prop := ∀ i, i < k → weighF y (N.tr i).pre = weighF y (N.tr i).post
theorem KeptUpto.zero (N : NetD) (y : List Int) : KeptUpto N y 0 := fun i hi => by omega
theorem KeptUpto.succ {N : NetD} {y : List Int} {k : Nat} (h : KeptUpto N y k) (hk : weighF y (N.tr k).pre = weighF y (N.tr k).post) : KeptUpto N y (k + 1) := fun i hi => by
  rcases Nat.lt_or_ge i k with h1 | h1
  · exact h i h1
  · obtain rfl : i = k := by omega
    exact hk
theorem KeptUpto.all {N : NetD} {y : List Int} {k : Nat} (h : KeptUpto N y k) (hk : N.trans.length ≤ k) (h1 : netOkB N = true) (h2 : boundedB y N.places (-1000000) = true) : keptB N y = true := by
  unfold keptB
  simp only [h1, h2, Bool.true_and, List.all_eq_true, decide_eq_true_eq]
  intro t ht
  obtain ⟨i, hi, rfl⟩ := List.getElem_of_mem ht
  have := h i (by omega)
  unfold NetD.tr at this
  rw [List.getD_eq_getElem?_getD, List.getElem?_eq_getElem hi] at this
  exact this
theorem keptB_no {N : NetD} {y : List Int} {k : Nat} (hk : k < N.trans.length) (h : weighF y (N.tr k).pre ≠ weighF y (N.tr k).post) : keptB N y = false := by
  cases hb : keptB N y
  · rfl
  · unfold keptB at hb
    simp only [Bool.and_eq_true, List.all_eq_true, decide_eq_true_eq] at hb
    exact absurd (hb.2 _ (NetD.tr_mem hk)) h
theorem keptB_bad1 {N : NetD} {y : List Int} (h : netOkB N = false) : keptB N y = false := by unfold keptB; simp [h]
theorem keptB_bad2 {N : NetD} {y : List Int} (h : boundedB y N.places (-1000000) = false) : keptB N y = false := by unfold keptB; simp [h]
theorem keptB_of {N : NetD} {y : List Int} (h : keptB N y = true) : netOkB N = true ∧ boundedB y N.places (-1000000) = true ∧ KeptUpto N y N.trans.length := by
  unfold keptB at h
  simp only [Bool.and_eq_true, List.all_eq_true, decide_eq_true_eq] at h
  exact ⟨h.1.1, h.1.2, fun i hi => h.2 _ (NetD.tr_mem hi)⟩
theorem wok_tr {N : NetD} {y : List Int} (h1 : netOkB N = true) (h2 : boundedB y N.places (-1000000) = true) {k : Nat} (hk : k < N.trans.length) : WOk y (N.tr k).pre ∧ WOk y (N.tr k).post := by
  have F := netOk_tr h1 hk
  have s := netOk_sizes h1
  have l := (boundedB_of h2).1
  refine ⟨⟨by omega, fun p => boundedB_nth h2 (by omega) p, fun p => ?_⟩, ⟨by omega, fun p => boundedB_nth h2 (by omega) p, fun p => ?_⟩⟩
  all_goals have := w_nth F p; omega
theorem wok_fits {N : NetD} {y x : List Int} (h2 : boundedB y N.places (-1000000) = true) (h : fitsB N x = true) : WOk y x := by
  have s := fits_sizes h
  exact ⟨by omega, fun p => boundedB_nth h2 (by omega) p, fun p => fits_nth h p⟩
theorem weigh_lin {y a b c d : List Int} : ∀ n, (∀ p, nth d p = nth a p - nth b p + nth c p) → weighTo y d n = weighTo y a n - weighTo y b n + weighTo y c n := by
  intro n h
  induction n with
  | zero => simp [weighTo_zero]
  | succ n ih =>
    rw [weighTo_succ, weighTo_succ, weighTo_succ, weighTo_succ, ih, h n, Int.mul_add, Int.mul_sub]; omega
theorem kept_fire {N : NetD} {x z y : List Int} {k : Nat} (hx : fitsB N x = true) (h : Fires N x k z) (hk : keptB N y = true) : weighF y z = weighF y x := by
  obtain ⟨h1, h2, h3⟩ := keptB_of hk
  have F := netOk_tr h1 h.lt
  have hl := (boundedB_of h2).1
  have hf := fits_len hx
  have e := h3 k h.lt
  have l1 : min y.length z.length = y.length := by rw [h.len]; omega
  have l2 : min y.length x.length = y.length := by omega
  have l3 : min y.length (N.tr k).pre.length = y.length := by have := F.pre; omega
  have l4 : min y.length (N.tr k).post.length = y.length := by have := F.post; omega
  rw [weighF_def, weighF_def, l3, l4] at e
  rw [weighF_def, weighF_def, l1, l2, weigh_lin (a := x) (b := (N.tr k).pre) (c := (N.tr k).post) (d := z) _ h.eq]
  omega
theorem kept_runs {N : NetD} {x s z y : List Int} (h : Runs N x s z) : fitsB N x = true → keptB N y = true → weighF y z = weighF y x := by
  induction h with
  | nil x => exact fun _ _ => rfl
  | cons h _ ih => exact fun hx hk => (ih (h.fits hx) hk).trans (kept_fire hx h hk)
theorem flow_kept {N : NetD} {m s x y : List Int} (h : runF N m s = (x, 0)) (hk : keptB N y = true) : weighF y x = weighF y m := by
  obtain ⟨hf, hr⟩ := runF_of h
  exact kept_runs hr hf hk
theorem weigh_ge {y x : List Int} (hy : ∀ p, 0 ≤ nth y p) (hx : ∀ p, 0 ≤ nth x p) : ∀ n, 0 ≤ weighTo y x n ∧ ∀ p, p < n → nth y p * nth x p ≤ weighTo y x n := by
  intro n
  induction n with
  | zero => exact ⟨by rw [weighTo_zero]; omega, fun p hp => by omega⟩
  | succ n ih =>
    have h0 := Int.mul_nonneg (hy n) (hx n)
    rw [weighTo_succ]
    refine ⟨by omega, fun p hp => ?_⟩
    rcases Nat.lt_or_ge p n with h1 | h1
    · have := ih.2 p h1; omega
    · obtain rfl : p = n := by omega
      omega
theorem flow_bound {N : NetD} {m s x y : List Int} {p : Nat} (h : runF N m s = (x, 0)) (hk : keptB N y = true) (hp : p < y.length) (h1 : 0 < nth y p) (h2 : ∀ q, 0 ≤ nth y q) : nth x p ≤ weighF y m := by
  rw [← flow_kept h hk]
  obtain ⟨hf, hr⟩ := runF_of h
  have hx := hr.fits hf
  have hl := (boundedB_of (keptB_of hk).2.1).1
  have hf := fits_len hx
  have := (weigh_ge h2 (fun q => (fits_nth hx q).1) (min y.length x.length)).2 p (by omega)
  rw [weighF_def]
  have e : 1 * nth x p ≤ nth y p * nth x p := Int.mul_le_mul_of_nonneg_right (by omega) (fits_nth hx p).1
  omega

def nz (d : Int) : Bool := decide (d ≠ 0)
def roundB (N : NetD) (c : List Int) : Bool := effectB N c && !((effectL N c).any nz)
theorem roundB_def (N : NetD) (c : List Int) : roundB N c = (effectB N c && !((effectL N c).any nz)) := rfl
theorem nz_def (d : Int) : nz d = decide (d ≠ 0) := rfl
theorem flow_round {N : NetD} {m s x : List Int} (h : runF N m s = (x, 0)) (hs : s.length ≤ 100000) : roundB N (countL N.trans.length s) = sameB x m := by
  obtain ⟨hf, hr⟩ := runF_of h
  have hx := hr.fits hf
  have hb : effectB N (countL N.trans.length s) = true := effectB_mk (fits_ok hf) (countL_bounded _ hs)
  have he := runs_equation hr
  have l1 := fits_len hx
  have l2 := fits_len hf
  have l3 := effectL_len (N := N) (countL N.trans.length s) (fits_ok hf)
  unfold roundB
  rw [hb, Bool.true_and, Bool.eq_iff_iff, sameB_iff]
  simp only [Bool.not_eq_true', List.any_eq_false, nz_def, decide_eq_true_eq, Decidable.not_not]
  constructor
  · intro h p
    by_cases hp : p < N.places.toNat
    · have h5 := h (nth (effectL N (countL N.trans.length s)) p) (by rw [nth_lt (by omega)]; exact List.getElem_mem _)
      rw [effectL_nth _ hp] at h5
      have := he p
      omega
    · rw [nth_ge (by omega), nth_ge (by omega)]
  · intro h d hd
    obtain ⟨p, hp, rfl⟩ := List.getElem_of_mem hd
    have h5 := effectL_nth (N := N) (countL N.trans.length s) (p := p) (by omega)
    rw [nth_lt hp] at h5
    rw [h5]
    have := he p
    have := h p
    omega
theorem wok_two {a b c d : Int} (ha : -1000000 ≤ a ∧ a ≤ 1000000) (hb : -1000000 ≤ b ∧ b ≤ 1000000) (hc : 0 ≤ c ∧ c ≤ 1000000) (hd : 0 ≤ d ∧ d ≤ 1000000) : WOk [a, b] [c, d] := by
  refine ⟨by simp, fun p => ?_, fun p => ?_⟩
  all_goals
    rcases p with _ | _ | p
    · simpa [nth_def] using (by assumption)
    · simpa [nth_def] using (by assumption)
    · rw [nth_ge (by simp)]; omega
attribute [irreducible] weighTo weighF WOk keptB KeptUpto roundB nz
end Go.Tok
