/- How a pass over the way up changes a row: what is counted, what is flagged; a row in one block, cell by cell. No program is in sight here. -/
import Derived.Test.YtkanaoebpajbfaaCoverLaw
import Derived.Test.YtkanaoebpajbfaaKnot
namespace Go.Tok
open Go.RowKit
set_option linter.unusedVariables false
/-- how many are not many -/
def cnt (m : List Int) : Nat := (m.filter fun x => !decide (x = -1)).length
theorem cnt_le_len (m : List Int) : cnt m ≤ m.length := List.length_filter_le _ _
theorem cnt_down : ∀ {a b : List Int}, a.length = b.length → (∀ p, p < b.length → nth a p = nth b p ∨ nth a p = -1) → cnt a ≤ cnt b ∧ (a ≠ b → cnt a < cnt b) := by
  intro a
  induction a with
  | nil => intro b hl _; cases b with
    | nil => exact ⟨Nat.le_refl _, fun h => absurd rfl h⟩
    | cons y ys => simp at hl
  | cons x xs ih =>
    intro b hl h
    cases b with
    | nil => simp at hl
    | cons y ys =>
      have h0 := h 0 (by simp)
      have hr : ∀ p, p < ys.length → nth xs p = nth ys p ∨ nth xs p = -1 := fun p hp => by
        have h1 := h (p + 1) (by simp; omega)
        rw [nth_lt (by simp at hl ⊢; omega), nth_lt (by simp; omega)] at h1
        rw [nth_lt (by simp at hl; omega), nth_lt hp]
        simpa using h1
      obtain ⟨i1, i2⟩ := ih (by simpa using hl) hr
      rw [nth_lt (by simp), nth_lt (by simp)] at h0
      simp only [List.getElem_cons_zero] at h0
      have e : ∀ (z : Int) (zs : List Int), cnt (z :: zs) = (if z = -1 then 0 else 1) + cnt zs := fun z zs => by
        unfold cnt
        by_cases hz : z = -1
        · simp [hz]
        · simp [hz]; omega
      rw [e, e]
      rcases h0 with rfl | rfl
      · refine ⟨by omega, fun hne => ?_⟩
        have : xs ≠ ys := fun h => hne (by rw [h])
        have := i2 this
        omega
      · by_cases hy : y = -1
        · subst hy
          refine ⟨by omega, fun hne => ?_⟩
          have : xs ≠ ys := fun h => hne (by rw [h])
          have := i2 this
          omega
        · refine ⟨by simp [hy]; omega, fun _ => by simp [hy]; omega⟩
theorem cnt_row (x m : List Int) : cnt (growRow x m) ≤ cnt m ∧ (growRow x m ≠ m → cnt (growRow x m) < cnt m) := cnt_down (growRow_len x m) fun p _ => growRow_nth x m p
theorem cnt_pass (rs : List (List Int)) (m : List Int) : cnt (growPass rs m) ≤ cnt m ∧ (growPass rs m ≠ m → cnt (growPass rs m) < cnt m) := cnt_down (growPass_len rs m) fun p _ => growPass_nth rs m p
theorem pass_snoc (rs : List (List Int)) (x m : List Int) : growPass (rs ++ [x]) m = growRow x (growPass rs m) := by simp [growPass]
theorem pass_flag (rs : List (List Int)) (x m : List Int) : (decide (growPass rs m ≠ m) || decide (growRow x (growPass rs m) ≠ growPass rs m)) = decide (growPass (rs ++ [x]) m ≠ m) := by
  rw [pass_snoc]
  have h1 := cnt_pass rs m
  have h2 := cnt_row x (growPass rs m)
  rw [Bool.eq_iff_iff]
  simp only [Bool.or_eq_true, decide_eq_true_eq]
  constructor
  · rintro (h | h) e
    · have := h1.2 h
      rw [e] at h2
      omega
    · have := h2.2 h
      rw [e] at this
      omega
  · intro h
    by_cases e : growPass rs m = m
    · right; rw [e] at h ⊢; exact h
    · exact .inl e
/-- what has grown at the first k places -/
def mixG (x m : List Int) (k : Nat) : List Int := (List.range m.length).map fun p => if decide (p < k) && growsAt x m p then -1 else nth m p
theorem mixG_len (x m : List Int) (k : Nat) : (mixG x m k).length = m.length := by simp [mixG]
theorem mixG_nth (x : List Int) {m : List Int} (k : Nat) {p : Nat} (hp : p < m.length) : nth (mixG x m k) p = if decide (p < k) && growsAt x m p then -1 else nth m p := by
  unfold mixG; rw [nth_mapr hp]
theorem mixG_zero (x m : List Int) : mixG x m 0 = m := ext_nth (mixG_len x m 0) fun p hp => by
  rw [mixG_len] at hp; rw [mixG_nth x 0 hp]; simp
theorem mixG_all {x m : List Int} (hb : belowB x m = true) : mixG x m m.length = growRow x m := by
  refine ext_nth (by rw [mixG_len, growRow_len]) fun p hp => ?_
  rw [mixG_len] at hp
  unfold growRow
  rw [mixG_nth x _ hp, if_pos hb, nth_mapr hp]; simp [hp]
theorem mixG_set {x m : List Int} {k : Nat} (hk : k < m.length) (hg : growsAt x m k = true) : (mixG x m k).set k (-1) = mixG x m (k + 1) := by
  refine ext_nth (by rw [List.length_set, mixG_len, mixG_len]) fun p hp => ?_
  rw [List.length_set, mixG_len] at hp
  have hl := mixG_len x m k
  rw [mixG_nth x _ hp, nth_lt (by rw [List.length_set, hl]; exact hp)]
  by_cases e : p = k
  · subst e; simp [hg]
  · rw [List.getElem_set_ne (by omega), ← nth_lt, mixG_nth x _ hp]
    have : decide (p < k) = decide (p < k + 1) := by rw [decide_eq_decide]; omega
    rw [this]
theorem mixG_skip {x m : List Int} {k : Nat} (hk : k < m.length) (hg : growsAt x m k = false) : mixG x m (k + 1) = mixG x m k := by
  refine ext_nth (by rw [mixG_len, mixG_len]) fun p hp => ?_
  rw [mixG_len] at hp
  rw [mixG_nth x _ hp, mixG_nth x _ hp]
  by_cases e : p = k
  · subst e; simp [hg]
  · have : decide (p < k) = decide (p < k + 1) := by rw [decide_eq_decide]; omega
    rw [this]
theorem mixG_at (x : List Int) {m : List Int} {k : Nat} (hk : k < m.length) : nth (mixG x m k) k = nth m k := by rw [mixG_nth x k hk]; simp
def growAny (x m : List Int) (k : Nat) : Bool := (List.range k).any (growsAt x m)
theorem growAny_zero (x m : List Int) : growAny x m 0 = false := rfl
theorem growAny_succ (x m : List Int) (k : Nat) : growAny x m (k + 1) = (growAny x m k || growsAt x m k) := by simp [growAny, List.range_succ, List.any_append]
theorem growAny_all {x m : List Int} (hb : belowB x m = true) : growAny x m m.length = decide (growRow x m ≠ m) := by
  rw [Bool.eq_iff_iff, decide_eq_true_eq]
  unfold growAny
  rw [List.any_eq_true]
  constructor
  · rintro ⟨p, hp, hg⟩ e
    have hp' : p < m.length := by simpa using hp
    have h : nth (growRow x m) p = -1 := by rw [← mixG_all hb, mixG_nth x _ hp']; simp [hp', hg]
    rw [e] at h
    simp [growsAt, h] at hg
  · intro hne
    obtain ⟨_, p, hp, h1, h2, h3⟩ := growRow_diff hne
    exact ⟨p, by simpa using hp, by simp [growsAt, h1, h2, h3]⟩
theorem growRow_no {x m : List Int} (hb : belowB x m = false) : growRow x m = m := by unfold growRow; rw [hb]; simp
theorem growN_start (rs : List (List Int)) (m : List Int) : growN rs (m.length + 1) m = growF rs m := rfl
theorem growN_step {rs : List (List Int)} {f : Nat} {m : List Int} : growN rs (f + 1) m = if growPass rs m = m then m else growN rs f (growPass rs m) := rfl

/-! ### a row in one block, cell by cell -/
def RowAt (w : World) (g : Nat) (xs : List Int) : Prop := (∀ p, p < xs.length → w.cell? ⟨g, p, none⟩ = some (.int .i64 (nth xs p))) ∧ ∀ p, w.frozen? ⟨g, p, none⟩ = false
theorem RowAt.kp {S : Nat → Prop} {w w' : World} {g : Nat} {xs : List Int} (h : RowAt w g xs) (k : Kp S w w') (hs : S g) (hg : g < w.heap.size) : RowAt w' g xs :=
  ⟨fun p hp => cell_kp k (h.1 p hp) hs, fun p => (World.frozen?_of_block (k.block hg hs)).trans (h.2 p)⟩
theorem RowAt.set {w : World} {g k : Nat} {xs : List Int} (h : RowAt w g xs) (hk : k < xs.length) (x : Int) : RowAt (w.setCell ⟨g, k, none⟩ (.int .i64 x)) g (xs.set k x) := by
  refine ⟨fun p hp => ?_, fun p => by rw [World.frozen?_setCell]; exact h.2 p⟩
  rw [List.length_set] at hp
  by_cases e : p = k
  · subst e
    rw [World.cell?_setCell_same' _ _ _ (by rw [h.1 p hk]; rfl), nth_lt (by rw [List.length_set]; exact hp)]; simp
  · have hne : (⟨g, k, none⟩ : Addr) ≠ ⟨g, p, none⟩ := fun h => by injection h with _ h2; exact e h2.symm
    rw [World.cell?_setCell_other w _ _ _ hne, h.1 p hp, nth_lt hp, nth_lt (by rw [List.length_set]; exact hp), List.getElem_set_ne (by omega)]
theorem RowAt.ints {w : World} {g cap : Nat} {xs : List Int} (h : RowAt w g xs) (h1 : xs.length ≤ cap) (h2 : cap ≤ maxLen) (hI : ∀ x ∈ xs, I64 x) : Ints w (.slice (some ⟨g, 0, none⟩) xs.length cap) xs := by
  unfold Ints
  refine ⟨_, _, rfl, h1, h2, hI, (fun h => by cases h), fun i hi => ⟨g, 0, rfl, ?_⟩⟩
  rw [Nat.zero_add]; exact h.1 i hi
theorem OwnI.rowAt {e base : Nat} {w : World} {g n cap : Nat} {xs : List Int} (h : OwnI e base w (.slice (some ⟨g, 0, none⟩) n cap) xs) : RowAt w g xs :=
  ⟨fun p hp => h.cell hp, fun p => h.frozen p⟩
end Go.Tok
