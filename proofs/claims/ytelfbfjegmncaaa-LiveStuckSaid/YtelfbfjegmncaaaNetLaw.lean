/- Plain laws of firing and of runs. No program is in sight here. -/
import Derived.Test.YtelfbfjegmncaaaNetD
namespace Go.Tok

/-- transition k fires at x and leads to y -/
structure Fires (N : NetD) (x : List Int) (k : Nat) (y : List Int) : Prop where
  lt : k < N.trans.length
  len : y.length = x.length
  pre : ∀ p, nth (N.tr k).pre p ≤ nth x p
  eq : ∀ p, nth y p = nth x p - nth (N.tr k).pre p + nth (N.tr k).post p
  le : ∀ p, nth y p ≤ 1000000

theorem w_nth {N : NetD} {t : TranD} (F : TranFacts N t) (p : Nat) : 0 ≤ nth t.pre p ∧ nth t.pre p ≤ 9 ∧ 0 ≤ nth t.post p ∧ nth t.post p ≤ 9 := by
  refine ⟨?_, ?_, ?_, ?_⟩
  all_goals
    first
    | (by_cases hp : p < t.pre.length
       · rw [nth_lt hp]; have := F.preW _ (List.getElem_mem hp); omega
       · rw [nth_ge (by omega)]; omega)
    | (by_cases hp : p < t.post.length
       · rw [nth_lt hp]; have := F.postW _ (List.getElem_mem hp); omega
       · rw [nth_ge (by omega)]; omega)

theorem fits_mk {N : NetD} {x : List Int} (h1 : netOkB N = true) (h2 : (x.length : Int) = N.places) (h3 : rightB x = true) : fitsB N x = true := by
  unfold fitsB; simp [h1, h2, h3]
theorem fits_nth {N : NetD} {x : List Int} (h : fitsB N x = true) (p : Nat) : 0 ≤ nth x p ∧ nth x p ≤ 1000000 := rightB_nth (fits_sizes h).2.2.2.2.2.1 p
theorem fits_ok {N : NetD} {x : List Int} (h : fitsB N x = true) : netOkB N = true := (fits_sizes h).2.2.2.2.2.2
theorem fits_len {N : NetD} {x : List Int} (h : fitsB N x = true) : (x.length : Int) = N.places := (fits_sizes h).2.2.2.2.1

theorem Fires.fits {N : NetD} {x y : List Int} {k : Nat} (h : Fires N x k y) (hx : fitsB N x = true) : fitsB N y = true := by
  refine fits_mk (fits_ok hx) (by rw [h.len]; exact fits_len hx) (right_of_nth fun p _ => ⟨?_, h.le p⟩)
  have := w_nth (netOk_tr (fits_ok hx) h.lt) p
  have := h.pre p
  rw [h.eq p]; omega

/-- the three ways of a firing -/
theorem fire_cases {N : NetD} {x : List Int} (t : Int) (hx : fitsB N x = true) :
    (∃ (k : Nat) (y : List Int), t = k ∧ Fires N x k y ∧ fireF N x t = (y, 0)) ∨
    (fireF N x t = ([], 3) ∧ (t < 0 ∨ (N.trans.length : Int) ≤ t ∨ ∃ k : Nat, t = k ∧ k < N.trans.length ∧ ∃ p, nth x p < nth (N.tr k).pre p)) ∨
    (fireF N x t = ([], 4) ∧ ∃ k : Nat, t = k ∧ k < N.trans.length ∧ (∀ p, nth (N.tr k).pre p ≤ nth x p) ∧ ∃ p, 1000000 < nth x p - nth (N.tr k).pre p + nth (N.tr k).post p) := by
  by_cases h0 : t < 0
  · exact .inr (.inl ⟨fireF_range hx (.inl h0), .inl h0⟩)
  by_cases h1 : (N.trans.length : Int) ≤ t
  · exact .inr (.inl ⟨fireF_range hx (.inr h1), .inr (.inl h1)⟩)
  obtain ⟨k, rfl⟩ := Int.eq_ofNat_of_zero_le (show 0 ≤ t by omega)
  have hk : k < N.trans.length := by omega
  have F := netOk_tr (fits_ok hx) hk
  obtain ⟨_, _, _, _, _, hr, _⟩ := fits_sizes hx
  have hl := fits_len hx
  have hp := F.pre
  have hq := F.post
  rcases minus_cases x (N.tr k).pre with ⟨_, h2 | h2⟩ | ⟨h2, _, _, h3⟩ | ⟨_, _, h2, L, h3, h4, h5, h6⟩
  · rw [hr] at h2; cases h2
  · rw [F.rPre] at h2; cases h2
  · exact .inr (.inl ⟨fireF_not hx hk h2 (by decide), .inr (.inr ⟨k, rfl, hk, h3⟩)⟩)
  · rw [fireF_ok hx hk h3]
    rcases plus_cases L (N.tr k).post with ⟨_, h7 | h7⟩ | ⟨h7, _, _, p, h8⟩ | ⟨_, _, h7, Y, h8, h9, h10, h11⟩
    · rw [h6] at h7; cases h7
    · rw [F.rPost] at h7; cases h7
    · exact .inr (.inr ⟨h7, k, rfl, hk, h2, p, by rw [h5] at h8; omega⟩)
    · refine .inl ⟨k, Y, rfl, ⟨hk, by omega, h2, fun p => by rw [h10, h5], fun p => ?_⟩, h8⟩
      have := rightB_nth h11 p; omega

theorem fire_ok {N : NetD} {x y : List Int} {t : Int} (hx : fitsB N x = true) (h : fireF N x t = (y, 0)) : ∃ k : Nat, t = k ∧ Fires N x k y := by
  rcases fire_cases t hx with ⟨k, y', h1, h2, h3⟩ | ⟨h1, _⟩ | ⟨h1, _⟩
  · rw [h3] at h; cases h; exact ⟨k, h1, h2⟩
  · rw [h1] at h; cases h
  · rw [h1] at h; cases h
theorem fire_bad {N : NetD} {x y : List Int} {t e : Int} (h : fireF N x t = (y, e)) (he : e ≠ 0) : y = [] ∧ (e = 2 ∨ e = 3 ∨ e = 4) := by
  cases hx : fitsB N x
  · rw [fireF_unfit hx] at h; cases h; exact ⟨rfl, .inl rfl⟩
  rcases fire_cases t hx with ⟨k, y', h1, h2, h3⟩ | ⟨h1, _⟩ | ⟨h1, _⟩
  · rw [h3] at h; cases h; exact absurd rfl he
  · rw [h1] at h; cases h; exact ⟨rfl, .inr (.inl rfl)⟩
  · rw [h1] at h; cases h; exact ⟨rfl, .inr (.inr rfl)⟩
theorem Fires.unique {N : NetD} {x y z : List Int} {k : Nat} (h : Fires N x k y) (h' : Fires N x k z) : y = z :=
  ext_nth (by rw [h.len, h'.len]) fun p _ => by rw [h.eq, h'.eq]
theorem fire_eq {N : NetD} {x y : List Int} {k : Nat} (hx : fitsB N x = true) (h : Fires N x k y) : fireF N x k = (y, 0) := by
  rcases fire_cases (k : Int) hx with ⟨k', y', h1, h2, h3⟩ | ⟨_, h1 | h1 | ⟨k', h1, h2, p, h3⟩⟩ | ⟨_, k', h1, h2, h3, p, h4⟩
  · have : k = k' := by omega
    subst this
    rw [h3, h.unique h2]
  · omega
  · have := h.lt; omega
  · have : k = k' := by omega
    subst this
    have := h.pre p; omega
  · have : k = k' := by omega
    subst this
    have := h.le p; have := h.eq p; omega
/-- a firing that can be done -/
theorem fires_mk {N : NetD} {x : List Int} {k : Nat} (hx : fitsB N x = true) (hk : k < N.trans.length) (h1 : ∀ p, nth (N.tr k).pre p ≤ nth x p) (h2 : ∀ p, nth x p - nth (N.tr k).pre p + nth (N.tr k).post p ≤ 1000000) : ∃ y, Fires N x k y := by
  rcases fire_cases (k : Int) hx with ⟨k', y', h3, h4, h5⟩ | ⟨_, h3 | h3 | ⟨k', h3, h4, p, h5⟩⟩ | ⟨_, k', h3, h4, h5, p, h6⟩
  · have : k = k' := by omega
    subst this
    exact ⟨y', h4⟩
  · omega
  · omega
  · have : k = k' := by omega
    subst this
    have := h1 p; omega
  · have : k = k' := by omega
    subst this
    have := h2 p; omega

/-- a run -/
inductive Runs (N : NetD) : List Int → List Int → List Int → Prop
  | nil (x : List Int) : Runs N x [] x
  | cons {x y z s : List Int} {k : Nat} (h : Fires N x k y) (h' : Runs N y s z) : Runs N x ((k : Int) :: s) z

theorem Runs.fits {N : NetD} {x s z : List Int} (h : Runs N x s z) : fitsB N x = true → fitsB N z = true := by
  induction h with
  | nil x => exact id
  | cons h _ ih => exact fun hx => ih (h.fits hx)
theorem runL_nil (N : NetD) (x : List Int) : runL N x [] = (x, 0) := by rw [runL]
theorem runL_cons (N : NetD) (x : List Int) (t : Int) (s : List Int) : runL N x (t :: s) = if (fireF N x t).2 = 0 then runL N (fireF N x t).1 s else ([], (fireF N x t).2) := by rw [runL]
theorem runs_of {N : NetD} {s : List Int} : ∀ {x z : List Int}, fitsB N x = true → runL N x s = (z, 0) → Runs N x s z := by
  induction s with
  | nil => intro x z _ h; rw [runL_nil] at h; cases h; exact .nil _
  | cons t s ih =>
    intro x z hx h
    rw [runL_cons] at h
    rcases hf : fireF N x t with ⟨y, e⟩
    rw [hf] at h
    by_cases he : e = 0
    · subst he
      obtain ⟨k, rfl, hF⟩ := fire_ok hx hf
      simp only [if_true] at h
      exact .cons hF (ih (hF.fits hx) h)
    · simp only [if_neg he] at h
      cases h; exact absurd rfl he
theorem Runs.run {N : NetD} {x s z : List Int} (h : Runs N x s z) : fitsB N x = true → runL N x s = (z, 0) := by
  induction h with
  | nil x => exact fun _ => runL_nil N x
  | cons h _ ih =>
    intro hx
    rw [runL_cons, fire_eq hx h]
    simp only [if_true]
    exact ih (h.fits hx)
theorem runF_of {N : NetD} {m s z : List Int} (h : runF N m s = (z, 0)) : fitsB N m = true ∧ Runs N m s z := by
  cases hf : fitsB N m
  · rw [runF_unfit hf] at h; cases h
  · rw [runF_fit hf] at h; exact ⟨rfl, runs_of hf h⟩
theorem Runs.runF {N : NetD} {m s z : List Int} (h : Runs N m s z) (hf : fitsB N m = true) : runF N m s = (z, 0) := by rw [runF_fit hf]; exact h.run hf
theorem run_bad {N : NetD} {s : List Int} : ∀ {x z : List Int} {e : Int}, runL N x s = (z, e) → e ≠ 0 → z = [] ∧ (e = 2 ∨ e = 3 ∨ e = 4) := by
  induction s with
  | nil => intro x z e h he; rw [runL_nil] at h; cases h; exact absurd rfl he
  | cons t s ih =>
    intro x z e h he
    rw [runL_cons] at h
    rcases hf : fireF N x t with ⟨y, e'⟩
    rw [hf] at h
    by_cases he' : e' = 0
    · subst he'; simp only [if_true] at h; exact ih h he
    · simp only [if_neg he'] at h
      cases h
      exact ⟨rfl, (fire_bad hf he).2⟩
theorem runF_bad {N : NetD} {m s z : List Int} {e : Int} (h : runF N m s = (z, e)) (he : e ≠ 0) : z = [] ∧ (e = 2 ∨ e = 3 ∨ e = 4) := by
  cases hf : fitsB N m
  · rw [runF_unfit hf] at h; cases h; exact ⟨rfl, .inl rfl⟩
  · rw [runF_fit hf] at h; exact run_bad h he

/-! ### more tokens remain -/
theorem more_step {N : NetD} {x y X more : List Int} {k : Nat} {B : Int} (hx : fitsB N x = true) (hX : fitsB N X = true) (h : Fires N x k y) (hm : ∀ p, 0 ≤ nth more p ∧ nth more p ≤ 400000) (hXx : ∀ p, nth X p = nth x p + nth more p) (hlen : X.length = x.length)
    (hB : ∀ p, nth x p ≤ B) (hBB : B + 9 ≤ 600000) : ∃ Y, Fires N X k Y ∧ (∀ p, nth Y p = nth y p + nth more p) ∧ Y.length = y.length ∧ (∀ p, nth y p ≤ B + 9) := by
  have F := netOk_tr (fits_ok hx) h.lt
  have hb : ∀ p, nth y p ≤ B + 9 := fun p => by
    have := w_nth F p; have := h.eq p; have := hB p; omega
  obtain ⟨Y, hY⟩ := fires_mk hX h.lt (fun p => by have := h.pre p; have := hm p; rw [hXx]; omega) (fun p => by
    have := hb p; have := h.eq p; have := hm p; rw [hXx]; omega)
  exact ⟨Y, hY, fun p => by rw [hY.eq, h.eq, hXx]; omega, by rw [hY.len, h.len, hlen], hb⟩
theorem more_runs {N : NetD} {more : List Int} (hm : ∀ p, 0 ≤ nth more p ∧ nth more p ≤ 400000) {x s z : List Int} (h : Runs N x s z) : ∀ {X : List Int} {B : Int}, fitsB N x = true → fitsB N X = true → (∀ p, nth X p = nth x p + nth more p) → X.length = x.length →
    (∀ p, nth x p ≤ B) → B + 9 * s.length ≤ 600000 → ∃ Z, Runs N X s Z ∧ (∀ p, nth Z p = nth z p + nth more p) ∧ Z.length = z.length ∧ (∀ p, nth z p ≤ 600000) := by
  induction h with
  | nil x => intro X B _ _ h1 h2 h3 h4; exact ⟨X, .nil _, h1, h2, fun p => by have := h3 p; simp at h4; omega⟩
  | @cons x y z s k hF _ ih =>
    intro X B hx hX h1 h2 h3 h4
    simp only [List.length_cons] at h4
    obtain ⟨Y, y1, y2, y3, y4⟩ := more_step hx hX hF hm h1 h2 h3 (by omega)
    obtain ⟨Z, z1, z2, z3, z4⟩ := ih (hF.fits hx) (y1.fits hX) y2 y3 y4 (by omega)
    exact ⟨Z, .cons y1 z1, z2, z3, z4⟩

/-- the law of NetMore, where the run is one -/
theorem net_more {N : NetD} {m more seq x : List Int} (h : runF N m seq = (x, 0)) (hl : more.length = m.length) (hs : seq.length ≤ 1000) (hb : ∀ p, p < m.length → nth m p ≤ 400000 ∧ nth more p ≤ 400000 ∧ 0 ≤ nth more p) :
    ∃ big y, zipF plusf m more = (big, 0) ∧ runF N big seq = (y, 0) ∧ zipF plusf x more = (y, 0) := by
  obtain ⟨hf, hr⟩ := runF_of h
  have hm : ∀ p, 0 ≤ nth more p ∧ nth more p ≤ 400000 := fun p => by
    by_cases hp : p < m.length
    · have := hb p hp; omega
    · rw [nth_ge (by omega)]; omega
  have hm' : ∀ p, nth m p ≤ 400000 := fun p => by
    by_cases hp : p < m.length
    · have := hb p hp; omega
    · rw [nth_ge (by omega)]; omega
  have rm : rightB more = true := right_of_nth fun p _ => by have := hm p; omega
  obtain ⟨_, _, _, _, hfl, hfr, hfo⟩ := fits_sizes hf
  obtain ⟨big, b1, b2, b3, b4⟩ := plus_ok hfr rm fun p => by have := hm p; have := hm' p; omega
  have hX : fitsB N big = true := fits_mk hfo (by rw [b2, hl, Nat.max_self]; exact hfl) b4
  obtain ⟨Z, z1, z2, z3, z4⟩ := more_runs hm hr hf hX b3 (by rw [b2, hl, Nat.max_self]) hm' (by omega)
  have hxf := hr.fits hf
  obtain ⟨W, w1, w2, w3, w4⟩ := plus_ok (fits_sizes hxf).2.2.2.2.2.1 rm fun p => by have := hm p; have := z4 p; omega
  have hxl : (x.length : Int) = N.places := fits_len hxf
  have e : W = Z := ext_nth (by omega) fun p _ => by rw [w3, z2]
  exact ⟨big, Z, b1, z1.runF hX, e ▸ w1⟩

/-! ### transitions whose tokens are there together -/
theorem pre_both {N : NetD} {t u : Nat} (hN : netOkB N = true) (ht : t < N.trans.length) (hu : u < N.trans.length) : ∃ L, zipF plusf (N.tr t).pre (N.tr u).pre = (L, 0) ∧ L.length ≤ 16 ∧ ∀ p, nth L p = nth (N.tr t).pre p + nth (N.tr u).pre p := by
  have F := netOk_tr hN ht
  have G := netOk_tr hN hu
  obtain ⟨L, h1, h2, h3, _⟩ := plus_ok F.rPre G.rPre fun p => by have := w_nth F p; have := w_nth G p; omega
  have h16 : N.places ≤ 16 := by
    unfold netOkB at hN
    simp only [Bool.and_eq_true, decide_eq_true_eq] at hN
    omega
  have := F.pre
  have := G.pre
  exact ⟨L, h1, by omega, h3⟩
theorem swap_one {N : NetD} {m : List Int} {t u : Nat} (hf : fitsB N m = true) (ht : t < N.trans.length) (hu : u < N.trans.length) (hm : ∀ p, nth m p ≤ 900000) (hc : ∀ p, nth (N.tr t).pre p + nth (N.tr u).pre p ≤ nth m p) :
    ∃ x y, Fires N m t x ∧ Fires N x u y ∧ ∀ p, nth y p = nth m p - nth (N.tr t).pre p + nth (N.tr t).post p - nth (N.tr u).pre p + nth (N.tr u).post p := by
  have F := netOk_tr (fits_ok hf) ht
  have G := netOk_tr (fits_ok hf) hu
  obtain ⟨x, hx⟩ := fires_mk hf ht (fun p => by have := hc p; have := w_nth G p; omega) (fun p => by have := hm p; have := w_nth F p; omega)
  obtain ⟨y, hy⟩ := fires_mk (hx.fits hf) hu (fun p => by have := hc p; have := hx.eq p; have := w_nth F p; omega) (fun p => by have := hm p; have := w_nth F p; have := w_nth G p; have := hx.eq p; omega)
  exact ⟨x, y, hx, hy, fun p => by rw [hy.eq, hx.eq]⟩
theorem net_swap {N : NetD} {m L : List Int} {t u : Nat} (hf : fitsB N m = true) (ht : t < N.trans.length) (hu : u < N.trans.length) (hm : ∀ p, nth m p ≤ 900000) (hL : ∀ p, nth L p = nth (N.tr t).pre p + nth (N.tr u).pre p) (hc : coversB m L = true) :
    ∃ x, runF N m [(t : Int), (u : Int)] = (x, 0) ∧ runF N m [(u : Int), (t : Int)] = (x, 0) := by
  have hcc : ∀ p, nth (N.tr t).pre p + nth (N.tr u).pre p ≤ nth m p := fun p => by have := (coversB_iff _ _).1 hc p; rw [hL] at this; exact this
  obtain ⟨x, y, h1, h2, h3⟩ := swap_one hf ht hu hm hcc
  obtain ⟨x', y', h1', h2', h3'⟩ := swap_one hf hu ht hm (fun p => by have := hcc p; omega)
  have e : y' = y := ext_nth (by rw [h2'.len, h1'.len, h2.len, h1.len]) fun p _ => by rw [h3, h3']; omega
  subst e
  exact ⟨y', Runs.runF (.cons h1 (.cons h2 (.nil _))) hf, Runs.runF (.cons h1' (.cons h2' (.nil _))) hf⟩
/-! ### runs compose; what is enabled fires -/
theorem runL_append {N : NetD} : ∀ (a b : List Int) (x : List Int), runL N x (a ++ b) = if (runL N x a).2 = 0 then runL N (runL N x a).1 b else runL N x a
  | [], b, x => by rw [runL_nil]; simp
  | t :: a, b, x => by
    rw [List.cons_append, runL_cons, runL_cons]
    split
    · exact runL_append a b _
    · rfl
theorem parts_ok {N : NetD} {m a b x : List Int} (h : runF N m a = (x, 0)) : runF N m (a ++ b) = runF N x b := by
  obtain ⟨hf, hr⟩ := runF_of h
  rw [runF_fit hf, runL_append, hr.run hf]
  simp only [if_true]
  rw [runF_fit (hr.fits hf)]
theorem parts_bad {N : NetD} {m a b x : List Int} {e : Int} (h : runF N m a = (x, e)) (he : e ≠ 0) : runF N m (a ++ b) = (x, e) := by
  cases hf : fitsB N m
  · rw [runF_unfit hf] at h ⊢; exact h
  · rw [runF_fit hf] at h ⊢
    rw [runL_append, h, if_neg he]
theorem enabled_has {N : NetD} {m : List Int} (t : Int) : hasB (enabledL N m) t = true ↔ ∃ k : Nat, t = k ∧ k < N.trans.length ∧ ∀ p, nth (N.tr k).pre p ≤ nth m p := by
  rw [hasB_iff]
  unfold enabledL
  simp only [List.mem_map, List.mem_filter, List.mem_range]
  constructor
  · rintro ⟨k, ⟨h1, h2⟩, rfl⟩
    exact ⟨k, rfl, h1, (coversB_iff _ _).1 h2⟩
  · rintro ⟨k, rfl, h1, h2⟩
    exact ⟨k, ⟨h1, (coversB_iff _ _).2 h2⟩, rfl⟩
/-- firing, and being enabled -/
theorem fire_enabled {N : NetD} {m : List Int} (hf : fitsB N m = true) (t : Int) : ∃ y, (fireF N m t = (y, 0) ∧ hasB (enabledL N m) t = true) ∨ (fireF N m t = (y, 4) ∧ hasB (enabledL N m) t = true) ∨ (fireF N m t = (y, 3) ∧ hasB (enabledL N m) t = false) := by
  rcases fire_cases t hf with ⟨k, y', h1, h2, h3⟩ | ⟨h1, h2⟩ | ⟨h1, k, h2, h3, h4, _⟩
  · exact ⟨y', .inl ⟨h3, (enabled_has t).2 ⟨k, h1, h2.lt, h2.pre⟩⟩⟩
  · refine ⟨[], .inr (.inr ⟨h1, ?_⟩)⟩
    rw [Bool.eq_false_iff]
    intro h
    obtain ⟨k, rfl, h3, h4⟩ := (enabled_has t).1 h
    rcases h2 with h2 | h2 | ⟨k', h5, h6, p, h7⟩
    · omega
    · omega
    · have : k = k' := by omega
      subst this
      have := h4 p; omega
  · exact ⟨[], .inr (.inl ⟨h1, (enabled_has t).2 ⟨k, h2, h3, h4⟩⟩)⟩
def over9 (x : Int) : Bool := decide (x > 900000)
theorem over9_def (x : Int) : over9 x = decide (x > 900000) := rfl
theorem over9_all {m : List Int} (h : m.any over9 = false) (p : Nat) : nth m p ≤ 900000 := by
  by_cases hp : p < m.length
  · rw [nth_lt hp]
    have := List.any_eq_false.1 h _ (List.getElem_mem hp)
    simp [over9] at this; exact this
  · rw [nth_ge (by omega)]; omega
attribute [irreducible] over9
end Go.Tok
