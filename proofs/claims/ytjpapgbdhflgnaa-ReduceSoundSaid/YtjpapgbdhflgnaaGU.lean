/- A net's verdict, as a plain function; what it says. No program is in sight here. -/
import Derived.Test.YtjpapgbdhflgnaaPB
import Derived.Test.YtjpapgbdhflgnaaGS
import Derived.Test.YtjpapgbdhflgnaaPA
import Derived.Test.YtjpapgbdhflgnaaGL
import Derived.Test.YtjpapgbdhflgnaaGM
import Derived.Test.YtjpapgbdhflgnaaArcsLe
import Derived.Test.YtjpapgbdhflgnaaGR
namespace Go.Tok
open Go.Proofs.Ytjpapgbdhflgnaa
set_option linter.unusedVariables false
set_option linter.unusedSimpArgs false

structure VerdD where
  kind : Int
  at_ : List Int
  tran : Int
deriving DecidableEq
def zeroVd : VerdD := ⟨0, [], 0⟩
def extraB (e m : List Int) : Bool := coversB m e && !(eqB m e)
def goalsF (S : SpaceD) (p : List Int → Bool) : List Int := ((List.range S.marks.length).filter fun k => p (ix S.marks k)).map Int.ofNat
def onwF (S : SpaceD) (p : List Int → Bool) : List Bool := spreadF (backL S) (goalsF S p)
def isF (y : Bool) : Bool := false == y
def verdF (S : SpaceD) (n : Int) (e : List Int) : VerdD :=
  if 0 ≤ firstI (extraB e) S.marks then ⟨2, ix S.marks (firstI (extraB e) S.marks).toNat, 0⟩
  else if 0 ≤ firstI isF (onwF S fun m => eqB m e) then ⟨3, ix S.marks (firstI isF (onwF S fun m => eqB m e)).toNat, 0⟩
  else if 0 < (deadF S n).length then ⟨4, [], nth (deadF S n) 0⟩
  else ⟨1, [], 0⟩
def judgeF (N : NetD) (i o most : Int) : VerdD × Int :=
  if shapeC N i o ≠ 0 then (zeroVd, shapeC N i o)
  else if (graphF N (oneN (startLen N) i) most).2 ≠ 0 then (zeroVd, (graphF N (oneN (startLen N) i) most).2)
  else (verdF (graphF N (oneN (startLen N) i) most).1 N.trans.length (oneN (startLen N) o), 0)

theorem extra_iff {e m : List Int} : extraB e m = true ↔ (∀ p, nth e p ≤ nth m p) ∧ m ≠ e := by
  unfold extraB
  rw [Bool.and_eq_true, coversB_iff, Bool.not_eq_true', ← Bool.not_eq_true, eqB_iff]
theorem extra_no {e m : List Int} (h : extraB e m = false) (hc : ∀ p, nth e p ≤ nth m p) : m = e := by
  apply Classical.byContradiction
  intro hne
  rw [extra_iff.2 ⟨hc, hne⟩] at h; cases h
theorem goals_ok (S : SpaceD) (p : List Int → Bool) : ∀ f ∈ goalsF S p, ∃ k : Nat, f = k ∧ k < (backL S).length := by
  intro f hf
  obtain ⟨k, h1, h2, _⟩ := mem_range_map.1 hf
  exact ⟨k, h1, by rw [back_len]; exact h2⟩
theorem onw_len {S : SpaceD} (h : sRightB S = true) (p : List Int → Bool) : (onwF S p).length = S.marks.length := by
  unfold onwF
  rw [spreadF_len (back_ok h) (goals_ok S p), back_len]
theorem onw_iff {S : SpaceD} (h : sRightB S = true) (p : List Int → Bool) {k : Nat} (hk : k < S.marks.length) : ix (onwF S p) k = true ↔ ∃ j, j < S.marks.length ∧ p (ix S.marks j) = true ∧ Goes S k j := by
  unfold onwF
  rw [spreadF_iff (back_ok h) (goals_ok S p) (by rw [back_len]; exact hk)]
  constructor
  · rintro ⟨f, hf, hr⟩
    obtain ⟨j, h1, h2, h3⟩ := mem_range_map.1 hf
    simp only [Int.natCast_inj] at h1
    subst h1
    exact ⟨f, h2, h3, (rch_goes h h2 hr).1⟩
  · rintro ⟨j, h1, h2, hg⟩
    exact ⟨j, mem_range_map.2 ⟨j, rfl, h1, h2⟩, (goes_rch h hg h1).1⟩

section
variable {N : NetD} {m0 : List Int} {most : Nat} {s : FinD}
theorem onw_runs (h : Whole N m0 most s) (e : List Int) {k : Nat} (hk : k < s.marks.length) : ix (onwF ⟨s.marks, s.arcs⟩ fun m => eqB m e) k = true ↔ ∃ q, Runs N (ix s.marks k) q e := by
  rw [onw_iff h.sright _ hk]
  constructor
  · rintro ⟨j, hj, he, hg⟩
    obtain ⟨q, hq⟩ := h.goes hg hk
    rw [(eqB_iff _ _).1 he] at hq
    exact ⟨q, hq⟩
  · rintro ⟨q, hq⟩
    obtain ⟨j, h1, h2, h3⟩ := h.goes_of hq hk rfl
    exact ⟨j, h1, (eqB_iff _ _).2 h2, h3⟩
theorem verd_cases (h : Whole N m0 most s) (e : List Int) (n : Int) :
    (∃ k, k < s.marks.length ∧ extraB e (ix s.marks k) = true ∧ verdF ⟨s.marks, s.arcs⟩ n e = ⟨2, ix s.marks k, 0⟩) ∨
    ((∀ x ∈ s.marks, extraB e x = false) ∧
      ((∃ k, k < s.marks.length ∧ (∀ q, ¬ Runs N (ix s.marks k) q e) ∧ verdF ⟨s.marks, s.arcs⟩ n e = ⟨3, ix s.marks k, 0⟩) ∨
       ((∀ x ∈ s.marks, ∃ q, Runs N x q e) ∧
         ((∃ t ∈ deadF ⟨s.marks, s.arcs⟩ n, verdF ⟨s.marks, s.arcs⟩ n e = ⟨4, [], t⟩) ∨ (deadF ⟨s.marks, s.arcs⟩ n = [] ∧ verdF ⟨s.marks, s.arcs⟩ n e = ⟨1, [], 0⟩))))) := by
  have hol := onw_len h.sright (fun m => eqB m e)
  by_cases h1 : 0 ≤ firstI (extraB e) s.marks
  · obtain ⟨k, hk⟩ := Int.eq_ofNat_of_zero_le h1
    obtain ⟨h2, h3, _⟩ := firstI_some hk
    refine .inl ⟨k, h2, h3, ?_⟩
    unfold verdF
    rw [if_pos h1, hk, Int.toNat_natCast]
  · have h2 : s.marks.any (extraB e) = false := by rw [← firstI_any]; simp; omega
    refine .inr ⟨fun x hx => by simpa using List.any_eq_false.1 h2 x hx, ?_⟩
    by_cases h3 : 0 ≤ firstI isF (onwF ⟨s.marks, s.arcs⟩ fun m => eqB m e)
    · obtain ⟨k, hk⟩ := Int.eq_ofNat_of_zero_le h3
      obtain ⟨h4, h5, _⟩ := firstI_some hk
      rw [hol] at h4
      simp only [] at h4
      refine .inl ⟨k, h4, fun q hq => ?_, ?_⟩
      · have := (onw_runs h e h4).2 ⟨q, hq⟩
        rw [this] at h5; cases h5
      · unfold verdF
        rw [if_neg h1, if_pos h3, hk, Int.toNat_natCast]
    · have h4 : (onwF ⟨s.marks, s.arcs⟩ fun m => eqB m e).any isF = false := by rw [← firstI_any]; simp; omega
      refine .inr ⟨fun x hx => ?_, ?_⟩
      · obtain ⟨h5, h6⟩ := mem_idx hx
        have h7 := List.any_eq_false.1 h4 _ (ix_mem (xs := onwF ⟨s.marks, s.arcs⟩ fun m => eqB m e) (i := s.marks.idxOf x) (by rw [hol]; exact h5))
        have h8 : ix (onwF ⟨s.marks, s.arcs⟩ fun m => eqB m e) (s.marks.idxOf x) = true := by
          cases hb : ix (onwF ⟨s.marks, s.arcs⟩ fun m => eqB m e) (s.marks.idxOf x)
          · rw [hb] at h7; exact absurd rfl h7
          · rfl
        have := (onw_runs h e h5).1 h8
        rw [h6] at this
        exact this
      · by_cases h5 : 0 < (deadF ⟨s.marks, s.arcs⟩ n).length
        · refine .inl ⟨nth (deadF ⟨s.marks, s.arcs⟩ n) 0, ?_, ?_⟩
          · rw [nth_lt h5]; exact List.getElem_mem h5
          · unfold verdF
            rw [if_neg h1, if_neg h3, if_pos h5]
        · refine .inr ⟨List.eq_nil_of_length_eq_zero (by omega), ?_⟩
          unfold verdF
          rw [if_neg h1, if_neg h3, if_neg h5]
end
theorem judge_bad {N : NetD} {i o most : Int} {v : VerdD} {e : Int} (h : judgeF N i o most = (v, e)) (he : e ≠ 0) : v = zeroVd := by
  unfold judgeF at h
  split at h
  · exact (Prod.mk.inj h).1.symm
  · split at h
    · exact (Prod.mk.inj h).1.symm
    · exact absurd (Prod.mk.inj h).2.symm he
theorem judge_ok {N : NetD} {i o most : Int} {v : VerdD} (h : judgeF N i o most = (v, 0)) : ∃ (a b : Nat) (s : FinD), i = a ∧ o = b ∧ ShapeOk N a b ∧ shapeC N i o = 0 ∧ searchF N (oneN (startLen N) (a : Int)) most = (s, 0) ∧ 1 ≤ most ∧ most ≤ 300 ∧ fitsB N (oneN (startLen N) (a : Int)) = true ∧ Whole N (oneN (startLen N) (a : Int)) most.toNat s ∧
    graphF N (oneN (startLen N) (a : Int)) most = (⟨s.marks, s.arcs⟩, 0) ∧ v = verdF ⟨s.marks, s.arcs⟩ N.trans.length (oneN (startLen N) (b : Int)) := by
  unfold judgeF at h
  split at h
  · rename_i h1; exact absurd (Prod.mk.inj h).2 h1
  rename_i h1
  have h1' : shapeC N i o = 0 := Classical.byContradiction fun e => h1 e
  obtain ⟨a, b, rfl, rfl, hS⟩ := shape_ok h1'
  split at h
  · rename_i h2; exact absurd (Prod.mk.inj h).2 h2
  rename_i h2
  rcases hg : graphF N (oneN (startLen N) (a : Int)) most with ⟨A, e⟩
  rw [hg] at h h2
  have he : e = 0 := Classical.byContradiction fun e => h2 e
  subst he
  obtain ⟨s, h3, rfl, h4, h5, h6, h7⟩ := search_of_graph hg
  exact ⟨a, b, s, rfl, rfl, hS, h1', h3, h4, h5, h6, h7, hg, (Prod.mk.inj h).1.symm⟩

/-! ### the laws -/
theorem sound_room {N : NetD} {i o most more : Int} {v : VerdD} (h : judgeF N i o most = (v, 0)) (h1 : most ≤ more) (h2 : more ≤ 300) : judgeF N i o more = (v, 0) := by
  obtain ⟨a, b, s, rfl, rfl, hS, h3, h4, h5, h6, h7, hW, hg, rfl⟩ := judge_ok h
  have hle := hW.le
  have := graph_more hg (more := more) (by omega) h2 (by simp only []; omega)
  unfold judgeF
  rw [if_neg (by rw [h3]; simp), this]
  simp
theorem sound_kind {N : NetD} {m0 : List Int} {most : Nat} {s : FinD} (h : Whole N m0 most s) {e : List Int} {n : Int} (hk : (verdF ⟨s.marks, s.arcs⟩ n e).kind = 1) : (∀ x ∈ s.marks, extraB e x = false) ∧ (∀ x ∈ s.marks, ∃ q, Runs N x q e) ∧ deadF ⟨s.marks, s.arcs⟩ n = [] := by
  rcases verd_cases h e n with ⟨k, _, _, h3⟩ | ⟨h1, ⟨k, _, _, h3⟩ | ⟨h2, ⟨t, _, h3⟩ | ⟨h4, h3⟩⟩⟩
  · rw [h3] at hk; exact absurd hk (by simp)
  · rw [h3] at hk; exact absurd hk (by simp)
  · rw [h3] at hk; exact absurd hk (by simp)
  · exact ⟨h1, h2, h4⟩
theorem kind_sound {N : NetD} {m0 : List Int} {most : Nat} {s : FinD} (h : Whole N m0 most s) {e : List Int} {n : Int} (h1 : ∀ x ∈ s.marks, extraB e x = false) (h2 : ∀ x ∈ s.marks, ∃ q, Runs N x q e) (h3 : deadF ⟨s.marks, s.arcs⟩ n = []) : (verdF ⟨s.marks, s.arcs⟩ n e).kind = 1 := by
  rcases verd_cases h e n with ⟨k, h5, h6, _⟩ | ⟨_, ⟨k, h5, h6, _⟩ | ⟨_, ⟨t, h5, h6⟩ | ⟨_, h6⟩⟩⟩
  · rw [h1 _ (ix_mem h5)] at h6; cases h6
  · obtain ⟨q, hq⟩ := h2 _ (ix_mem h5); exact absurd hq (h6 q)
  · rw [h3] at h5; cases h5
  · rw [h6]
theorem sound_means {N : NetD} {i o most : Int} {v : VerdD} {seq x : List Int} {f : Int} (h : judgeF N i o most = (v, 0)) (hk : v.kind = 1) (hr : runF N (oneN (startLen N) i) seq = (x, f)) :
    (f ≠ 0 ∧ f = 3) ∨ (f = 0 ∧ ∃ p, pathF N x (oneN (startLen N) o) most = (p, 0) ∧ runF N x p = (oneN (startLen N) o, 0) ∧ (coversB x (oneN (startLen N) o) = false ∨ eqB x (oneN (startLen N) o) = true)) := by
  obtain ⟨a, b, s, rfl, rfl, hS, h3, h4, h5, h6, h7, hW, hg, rfl⟩ := judge_ok h
  obtain ⟨k1, k2, k3⟩ := sound_kind hW hk
  rcases hW.runF seq with ⟨y, hy, hm⟩ | hy
  · rw [hr] at hy
    obtain ⟨rfl, rfl⟩ := Prod.mk.inj hy
    obtain ⟨q, hq⟩ := k2 _ hm
    have hle := hW.le
    obtain ⟨s', hs', _⟩ := hW.sub hm (more := most) h5 h6 (by omega)
    obtain ⟨p, hp1, hp2⟩ := path_yes hs' hq
    refine .inr ⟨rfl, p, hp1, hp2, ?_⟩
    cases hc : coversB x (oneN (startLen N) (b : Int))
    · exact .inl rfl
    · exact .inr ((eqB_iff _ _).2 (extra_no (k1 _ hm) ((coversB_iff _ _).1 hc)))
  · rw [hr] at hy
    obtain ⟨rfl, rfl⟩ := Prod.mk.inj hy
    exact .inl ⟨by decide, rfl⟩
theorem sound_witness {N : NetD} {i o most : Int} {v : VerdD} (h : judgeF N i o most = (v, 0)) :
    v.kind = 1 ∨
    (v.kind = 2 ∧ (pathF N (oneN (startLen N) i) v.at_ most).2 = 0 ∧ coversB v.at_ (oneN (startLen N) o) = true ∧ eqB v.at_ (oneN (startLen N) o) = false) ∨
    (v.kind = 3 ∧ (pathF N (oneN (startLen N) i) v.at_ most).2 = 0 ∧ (pathF N v.at_ (oneN (startLen N) o) most).2 = 3) ∨
    (v.kind = 4 ∧ ∃ k : Nat, v.tran = k ∧ k < N.trans.length ∧ ∀ seq x, runF N (oneN (startLen N) i) seq = (x, 0) → hasB seq (k : Int) = false) := by
  obtain ⟨a, b, s, rfl, rfl, hS, h3, h4, h5, h6, h7, hW, hg, rfl⟩ := judge_ok h
  have hpath : ∀ k, k < s.marks.length → (pathF N (oneN (startLen N) (a : Int)) (ix s.marks k) most).2 = 0 := fun k hk => by
    obtain ⟨q, hq⟩ := hW.reach (ix_mem hk)
    obtain ⟨p, hp, _⟩ := path_yes h4 hq
    rw [hp]
  rcases verd_cases hW (oneN (startLen N) (b : Int)) N.trans.length with ⟨k, k1, k2, k3⟩ | ⟨k1, ⟨k, k2, k3, k4⟩ | ⟨k2, ⟨t, k3, k4⟩ | ⟨k3, k4⟩⟩⟩
  · rw [k3]
    obtain ⟨c1, c2⟩ := extra_iff.1 k2
    refine .inr (.inl ⟨rfl, hpath k k1, (coversB_iff _ _).2 c1, ?_⟩)
    rw [← Bool.not_eq_true, eqB_iff]; exact c2
  · rw [k4]
    refine .inr (.inr (.inl ⟨rfl, hpath k k2, ?_⟩))
    have hle := hW.le
    obtain ⟨s', hs', _⟩ := hW.sub (ix_mem k2) (more := most) h5 h6 (by omega)
    show (pathF N (ix s.marks k) _ most).2 = 3
    rw [path_no hs' k3]
  · rw [k4]
    obtain ⟨j, rfl, hj, _⟩ := hW.dead.1 k3
    refine .inr (.inr (.inr ⟨rfl, j, rfl, hj, fun seq x hr => ?_⟩))
    rw [← Bool.not_eq_true, hasB_iff]
    exact fun hm => dead_not hW hr hm k3
  · rw [k4]; exact .inl rfl

/-! ### closed -/
theorem Runs.append {N : NetD} {x y z p q : List Int} (h : Runs N x p y) (h' : Runs N y q z) : Runs N x (p ++ q) z := by
  induction h with
  | nil x => exact h'
  | cons hF _ ih => exact .cons hF (ih h')
section
variable {N : NetD} {a b : Nat}
theorem close_lt {x y : List Int} {k : Nat} (hk : k < N.trans.length) : Fires (closeN N a b) x k y ↔ Fires N x k y := by
  have ht := closeN_tr (i := a) (o := b) hk
  have hl := closeN_len N a b
  constructor
  · intro h
    refine ⟨hk, h.len, fun p => ?_, fun p => ?_, h.le⟩
    · have := h.pre p; rw [ht] at this; exact this
    · have := h.eq p; rw [ht] at this; exact this
  · intro h
    refine ⟨by rw [hl]; omega, h.len, fun p => ?_, fun p => ?_, h.le⟩
    · rw [ht]; exact h.pre p
    · rw [ht]; exact h.eq p
theorem close_up {x q y : List Int} (h : Runs N x q y) : Runs (closeN N a b) x q y := by
  induction h with
  | nil x => exact .nil x
  | cons hF _ ih => exact .cons ((close_lt hF.lt).2 hF) ih
theorem ShapeOk.e_nth (h : ShapeOk N a b) (p : Nat) : nth (oneN (startLen N) (b : Int)) p = if p = b then 1 else 0 := by
  rw [startLen_ok h.ok]; exact nth_oneN _ _ _ h.ho
theorem ShapeOk.s_nth (h : ShapeOk N a b) (p : Nat) : nth (oneN (startLen N) (a : Int)) p = if p = a then 1 else 0 := by
  rw [startLen_ok h.ok]; exact nth_oneN _ _ _ h.hi
theorem last_pre (h : ShapeOk N a b) : ((closeN N a b).tr N.trans.length).pre = oneN (startLen N) (b : Int) := by
  rw [closeN_last, startLen_ok h.ok]; rfl
theorem last_post (h : ShapeOk N a b) : ((closeN N a b).tr N.trans.length).post = oneN (startLen N) (a : Int) := by
  rw [closeN_last, startLen_ok h.ok]; rfl
theorem last_fires (h : ShapeOk N a b) : Fires (closeN N a b) (oneN (startLen N) (b : Int)) N.trans.length (oneN (startLen N) (a : Int)) := by
  refine ⟨by rw [closeN_len]; omega, by rw [oneN_len, oneN_len], fun p => ?_, fun p => ?_, fun p => ?_⟩
  · rw [last_pre h]; omega
  · rw [last_pre h, last_post h]; omega
  · rw [h.s_nth]; split <;> omega
/-- where nothing is beside the end, the transition that closes leads from the end to the start -/
theorem last_only (h : ShapeOk N a b) {x y : List Int} (he : extraB (oneN (startLen N) (b : Int)) x = false) (hF : Fires (closeN N a b) x N.trans.length y) : x = oneN (startLen N) (b : Int) ∧ y = oneN (startLen N) (a : Int) := by
  have hx := extra_no he (fun p => by have := hF.pre p; rw [last_pre h] at this; exact this)
  subst hx
  exact ⟨rfl, hF.unique (last_fires h)⟩
theorem k_cases {k : Nat} (hk : k < (closeN N a b).trans.length) : k < N.trans.length ∨ k = N.trans.length := by
  rw [closeN_len] at hk; omega
/-- marks of the net, where nothing is beside the end, are closed under the closed net -/
theorem close_closed (h : ShapeOk N a b) (h24 : N.trans.length ≠ 24) {most : Nat} {s : FinD} (hW : Whole N (oneN (startLen N) (a : Int)) most s) (h1 : ∀ x ∈ s.marks, extraB (oneN (startLen N) (b : Int)) x = false) : ClosedC (closeN N a b) s.marks := by
  refine ⟨fun x hx => by rw [fits_close h.ok h24]; exact hW.fit x hx, fun x hx k hk hp => ?_⟩
  rcases k_cases hk with hk | rfl
  · obtain ⟨y, hF, hy⟩ := hW.fires hx hk (fun p => by have := hp p; rw [closeN_tr hk] at this; exact this)
    exact ⟨y, hy, (close_lt hk).2 hF⟩
  · have he := extra_no (h1 x hx) (fun p => by have := hp p; rw [last_pre h] at this; exact this)
    subst he
    exact ⟨_, hW.start, last_fires h⟩
theorem live_all {S : SpaceD} {n : Nat} (hn : n ≤ 24) (hr : sRightB S = true) : (liveF S (n : Int)).length = n ↔ ∀ k : Nat, k < n → (k : Int) ∈ liveF S (n : Int) := by
  have hu : upTo (n : Int) = n := by unfold upTo; omega
  unfold liveF
  rw [if_pos hr, hu, List.length_map]
  have h0 : (List.range n).length = n := by simp
  constructor
  · intro h k hk
    refine mem_range_map.2 ⟨k, rfl, hk, ?_⟩
    have h1 := List.length_filter_eq_length_iff.1 (h.trans h0.symm) k (by simpa using hk)
    exact h1
  · intro h
    refine Eq.trans (List.length_filter_eq_length_iff.2 fun k hk => ?_) h0
    obtain ⟨k', h1, _, h2⟩ := mem_range_map.1 (h k (by simpa using hk))
    simp only [Int.natCast_inj] at h1
    subst h1
    exact h2
/-- sound nets, closed, have a bound -/
theorem closed_ok (h : ShapeOk N a b) (h24 : N.trans.length ≠ 24) {most : Int} {s : FinD} (hs : searchF N (oneN (startLen N) (a : Int)) most = (s, 0)) (h1 : ∀ x ∈ s.marks, extraB (oneN (startLen N) (b : Int)) x = false) : ∃ sc, searchF (closeN N a b) (oneN (startLen N) (a : Int)) 300 = (sc, 0) ∧ Whole (closeN N a b) (oneN (startLen N) (a : Int)) 300 sc := by
  obtain ⟨h5, h6, h7, hW⟩ := search_ok hs
  have hle := hW.le
  exact search_sub (close_closed h h24 hW h1) hW.start (by omega) (by omega) (by omega)
section
variable {most : Nat} {s sc : FinD}
theorem sound_live (h : ShapeOk N a b) (h24 : N.trans.length ≠ 24) (hW : Whole N (oneN (startLen N) (a : Int)) most s) (hC : Whole (closeN N a b) (oneN (startLen N) (a : Int)) 300 sc)
    (h1 : ∀ x ∈ s.marks, extraB (oneN (startLen N) (b : Int)) x = false) (h2 : ∀ x ∈ s.marks, ∃ q, Runs N x q (oneN (startLen N) (b : Int))) (h3 : deadF ⟨s.marks, s.arcs⟩ (N.trans.length : Int) = []) :
    ∀ k : Nat, k < (closeN N a b).trans.length → (k : Int) ∈ liveF ⟨sc.marks, sc.arcs⟩ ((closeN N a b).trans.length : Int) := by
  intro k hk
  refine hC.live.2 ⟨k, rfl, hk, fun x hx => ?_⟩
  obtain ⟨q0, hq0⟩ := hC.reach hx
  have hxs := (close_closed h h24 hW h1).runs hq0 hW.start
  obtain ⟨q, hq⟩ := h2 x hxs
  have hq' := close_up (a := a) (b := b) hq
  rcases k_cases hk with hk | rfl
  · have hnd : (k : Int) ∉ deadF ⟨s.marks, s.arcs⟩ (N.trans.length : Int) := by rw [h3]; simp
    have : ∃ y ∈ s.marks, ∃ z, Fires N y k z := by
      apply Classical.byContradiction
      intro hno
      exact hnd (hW.dead.2 ⟨k, rfl, hk, fun y hy z hF => hno ⟨y, hy, z, hF⟩⟩)
    obtain ⟨y, hy, z, hF⟩ := this
    obtain ⟨q1, hq1⟩ := hW.reach hy
    exact ⟨_, y, z, (hq'.snoc (last_fires h)).append (close_up hq1), (close_lt hk).2 hF⟩
  · exact ⟨q, _, _, hq', last_fires h⟩
theorem more_tokens (hC : Whole (closeN N a b) (oneN (startLen N) (a : Int)) 300 sc) {x q z : List Int} (hr : Runs (closeN N a b) x q z) : ∀ {y : List Int} {D : Nat → Int}, (∀ p, 0 ≤ D p) → y ∈ sc.marks → (∀ p, nth y p = nth x p + D p) → ∃ w, w ∈ sc.marks ∧ ∀ p, nth w p = nth z p + D p := by
  induction hr with
  | nil x => exact fun _ hy hD => ⟨_, hy, hD⟩
  | cons hF _ ih =>
    intro y D h0 hy hD
    obtain ⟨y1, hF1, hy1⟩ := hC.fires hy hF.lt (fun p => by have := hF.pre p; have := hD p; have := h0 p; omega)
    exact ih h0 hy1 (fun p => by have := hF.eq p; have := hF1.eq p; have := hD p; omega)
theorem live_extra (h : ShapeOk N a b) (hW : Whole N (oneN (startLen N) (a : Int)) most s) (hC : Whole (closeN N a b) (oneN (startLen N) (a : Int)) 300 sc) : ∀ x ∈ s.marks, extraB (oneN (startLen N) (b : Int)) x = false := by
  intro x hx
  rw [← Bool.not_eq_true]
  intro he
  obtain ⟨hge, hne⟩ := extra_iff.1 he
  obtain ⟨q, hq⟩ := hW.reach hx
  have hxf := hW.fit x hx
  have hl : x.length = (oneN (startLen N) (b : Int)).length := by
    have := fits_len hxf
    rw [oneN_len, startLen_ok h.ok]; omega
  obtain ⟨p0, hp0⟩ : ∃ p, nth x p ≠ nth (oneN (startLen N) (b : Int)) p := by
    apply Classical.byContradiction
    intro hno
    exact hne (ext_nth hl fun p _ => Classical.byContradiction fun e => hno ⟨p, e⟩)
  obtain ⟨D, hD⟩ : ∃ D : Nat → Int, D = fun p => nth x p - nth (oneN (startLen N) (b : Int)) p := ⟨_, rfl⟩
  have hD0 : ∀ p, 0 ≤ D p := fun p => by rw [hD]; have := hge p; simp only []; omega
  have hDx : ∀ p, nth x p = nth (oneN (startLen N) (b : Int)) p + D p := fun p => by rw [hD]; simp only []; omega
  have hD1 : 1 ≤ D p0 := by rw [hD]; have := hge p0; simp only []; omega
  have key : ∀ j : Nat, ∃ y ∈ sc.marks, ∀ p, nth y p = nth (oneN (startLen N) (a : Int)) p + (j : Int) * D p := by
    intro j
    induction j with
    | zero => exact ⟨_, hC.start, fun p => by simp⟩
    | succ j ih =>
      obtain ⟨y, hy, hyD⟩ := ih
      obtain ⟨w, hw, hwD⟩ := more_tokens hC (close_up (a := a) (b := b) hq) (D := fun p => (j : Int) * D p) (fun p => Int.mul_nonneg (by omega) (hD0 p)) hy hyD
      obtain ⟨z, hz, hzm⟩ := hC.fires hw (k := N.trans.length) (by rw [closeN_len]; omega) (fun p => by
        rw [last_pre h, hwD p, hDx p]
        have h1 := hD0 p
        have h2 : 0 ≤ (j : Int) * D p := Int.mul_nonneg (by omega) h1
        omega)
      refine ⟨z, hzm, fun p => ?_⟩
      rw [hz.eq p, last_pre h, last_post h, hwD p, hDx p]
      have : ((j + 1 : Nat) : Int) * D p = (j : Int) * D p + D p := by rw [show ((j + 1 : Nat) : Int) = (j : Int) + 1 by omega, Int.add_mul, Int.one_mul]
      omega
  obtain ⟨y, hy, hyD⟩ := key 1000001
  have h1 := (fits_nth (hC.fit y hy) p0).2
  have h2 := hyD p0
  have h3 := h.s_nth p0
  have h4 : 1000001 ≤ ((1000001 : Nat) : Int) * D p0 := by omega
  split at h3 <;> omega
theorem close_down (h : ShapeOk N a b) (hW : Whole N (oneN (startLen N) (a : Int)) most s) (h1 : ∀ x ∈ s.marks, extraB (oneN (startLen N) (b : Int)) x = false) {x q y z : List Int} (hr : Runs (closeN N a b) x q y) : x ∈ s.marks → Fires (closeN N a b) y N.trans.length z → ∃ q', Runs N x q' (oneN (startLen N) (b : Int)) := by
  induction hr with
  | nil x =>
    intro hx hF
    rw [(last_only h (h1 x hx) hF).1]
    exact ⟨[], .nil _⟩
  | cons hF _ ih =>
    intro hx hF2
    rcases k_cases hF.lt with hk | rfl
    · have hF' := (close_lt hk).1 hF
      obtain ⟨q', hq'⟩ := ih (hW.next hx hF') hF2
      exact ⟨_, .cons hF' hq'⟩
    · rw [(last_only h (h1 _ hx) hF).1]
      exact ⟨[], .nil _⟩
theorem live_sound (h : ShapeOk N a b) (h24 : N.trans.length ≠ 24) (hW : Whole N (oneN (startLen N) (a : Int)) most s) (hC : Whole (closeN N a b) (oneN (startLen N) (a : Int)) 300 sc)
    (hl : ∀ k : Nat, k < (closeN N a b).trans.length → (k : Int) ∈ liveF ⟨sc.marks, sc.arcs⟩ ((closeN N a b).trans.length : Int)) :
    (verdF ⟨s.marks, s.arcs⟩ N.trans.length (oneN (startLen N) (b : Int))).kind = 1 := by
  have h1 := live_extra h hW hC
  have hsub : ∀ x ∈ sc.marks, x ∈ s.marks := fun x hx => by
    obtain ⟨q, hq⟩ := hC.reach hx
    exact (close_closed h h24 hW h1).runs hq hW.start
  refine kind_sound hW h1 (fun x hx => ?_) ?_
  · obtain ⟨q, hq⟩ := hW.reach hx
    have hxc := hC.runs (close_up (a := a) (b := b) hq) hC.start
    obtain ⟨k', e, _, hall⟩ := hC.live.1 (hl N.trans.length (by rw [closeN_len]; omega))
    simp only [Int.natCast_inj] at e
    subst e
    obtain ⟨q2, y, z, h2, h3⟩ := hall x hxc
    exact close_down h hW h1 h2 hx h3
  · apply List.eq_nil_iff_forall_not_mem.2
    intro t ht
    obtain ⟨k, rfl, hk, hall⟩ := hW.dead.1 ht
    obtain ⟨k', e, _, hlive⟩ := hC.live.1 (hl k (by rw [closeN_len]; omega))
    simp only [Int.natCast_inj] at e
    subst e
    obtain ⟨q2, y, z, h2, h3⟩ := hlive _ hC.start
    exact hall y (hsub y (hC.runs h2 hC.start)) z ((close_lt hk).1 h3)
end
end
/-- van der Aalst -/
theorem sound_closed {N : NetD} {i o most : Int} {v : VerdD} {a b : Nat} (h : judgeF N i o most = (v, 0)) (hi : i = a) (ho : o = b) (h24 : N.trans.length ≠ 24) {A : SpaceD} {e : Int} (hg : graphF (closeN N a b) (oneN (startLen (closeN N a b)) (a : Int)) 300 = (A, e)) :
    (e ≠ 0 ∧ v.kind ≠ 1) ∨ (e = 0 ∧ (v.kind = 1 ↔ (liveF A ((closeN N a b).trans.length : Int)).length = (closeN N a b).trans.length)) := by
  obtain ⟨a', b', s, h1, h2, hS, h3, h4, h5, h6, h7, hW, hg2, rfl⟩ := judge_ok h
  have e1 : a' = a := by omega
  have e2 : b' = b := by omega
  subst e1 e2
  have hsl : startLen (closeN N a' b') = startLen N := by unfold startLen closeN; rfl
  rw [hsl] at hg
  by_cases he : e = 0
  · subst he
    obtain ⟨sc, h8, rfl, _, _, _, hC⟩ := search_of_graph hg
    have hn : (closeN N a' b').trans.length ≤ 24 := (fits_sizes (hC.fit _ hC.start)).1
    refine .inr ⟨rfl, ?_⟩
    rw [live_all hn hC.sright]
    constructor
    · intro hk
      obtain ⟨k1, k2, k3⟩ := sound_kind hW hk
      exact sound_live hS h24 hW hC k1 k2 k3
    · exact live_sound hS h24 hW hC
  · refine .inl ⟨he, fun hk => ?_⟩
    obtain ⟨k1, k2, k3⟩ := sound_kind hW hk
    obtain ⟨sc, h8, _⟩ := closed_ok hS h24 h4 k1
    rw [graph_of h8] at hg
    exact he (Prod.mk.inj hg).2.symm
end Go.Tok

/- Contracts of live.Onward and of the function that sound.Judge hands to it; what sound.Judge hands back. -/
namespace Go.Tok
open Go.RowKit
set_option linter.unusedVariables false
theorem goals_pick (S : SpaceD) (p : List Int → Bool) : goalsF S p = pickTo (fun k => p (ix S.marks k)) S.marks.length := rfl
section
variable {N : NetD} {i o most : Int}
theorem judge_wrong (h : shapeC N i o ≠ 0) : judgeF N i o most = (zeroVd, shapeC N i o) := if_pos h
theorem judge_graph {A : SpaceD} {e : Int} (h : shapeC N i o = 0) (hg : graphF N (oneN (Go.Proofs.Ytjpapgbdhflgnaa.startLen N) i) most = (A, e)) (he : e ≠ 0) : judgeF N i o most = (zeroVd, e) := by
  unfold judgeF; rw [if_neg (by rw [h]; simp), hg, if_pos he]
theorem judge_verd {A : SpaceD} {v : VerdD} (h : shapeC N i o = 0) (hg : graphF N (oneN (Go.Proofs.Ytjpapgbdhflgnaa.startLen N) i) most = (A, 0)) (hv : verdF A N.trans.length (oneN (Go.Proofs.Ytjpapgbdhflgnaa.startLen N) o) = v) : judgeF N i o most = (v, 0) := by
  unfold judgeF; rw [if_neg (by rw [h]; simp), hg, if_neg (by simp), hv]
end
section
variable {S : SpaceD} {n : Int} {e : List Int}
theorem verd_extra {k : Nat} (h : firstI (extraB e) S.marks = k) : verdF S n e = ⟨2, ix S.marks k, 0⟩ := by unfold verdF; rw [if_pos (by omega), h, Int.toNat_natCast]
theorem verd_stuck {k : Nat} (h : firstI (extraB e) S.marks = -1) (h2 : firstI isF (onwF S fun m => eqB m e) = k) : verdF S n e = ⟨3, ix S.marks k, 0⟩ := by unfold verdF; rw [if_neg (by omega), if_pos (by omega), h2, Int.toNat_natCast]
theorem verd_dead (h : firstI (extraB e) S.marks = -1) (h2 : firstI isF (onwF S fun m => eqB m e) = -1) (h3 : 0 < (deadF S n).length) : verdF S n e = ⟨4, [], nth (deadF S n) 0⟩ := by unfold verdF; rw [if_neg (by omega), if_neg (by omega), if_pos h3]
theorem verd_sound (h : firstI (extraB e) S.marks = -1) (h2 : firstI isF (onwF S fun m => eqB m e) = -1) (h3 : (deadF S n).length = 0) : verdF S n e = ⟨1, [], 0⟩ := by unfold verdF; rw [if_neg (by omega), if_neg (by omega), if_neg (by omega)]
end
end Go.Tok
namespace Go.Proofs.Ytjpapgbdhflgnaa
open Go.RowKit Go.Tok
set_option linter.unusedVariables false
set_option maxHeartbeats 8000000 in
set_option maxRecDepth 100000 in
theorem Onward_calls (v : Value) (S : SpaceD) (g : Nat) (lb : Array Value) (p : List Int → Bool) (w : World) (eg : ∀ args w, (callFunc g args).run Try.prog w = .ok (.enter g args) w) (hv : SpaceR w v S) (hg : AnswersRow Try.prog g lb S.marks p w) (hr : sRightB S = true) (hm : S.marks.length ≤ 5864062014805) (ha : S.arcs.length ≤ 5864062014805) :
    Calls Try.prog 35 #[v, .func (.func g) #[] lb] w fun e w' => ∃ v', e = .returned v' ∧ Rd boolK w' v' (onwF S p) ∧ Gr w w' := by
  have T := intTy
  obtain ⟨ma, mc, aa, ac, rfl, hc1, hc2, hc3, hc4, hM, hA⟩ := hv.open_
  have hv' := hv
  have B0 := box_cell (Gr.refl (w.alloc (.cells #[.slice ma S.marks.length mc, .slice aa S.arcs.length ac] 77))) (i := 0) rfl
  have B1 := box_cell (Gr.refl (w.alloc (.cells #[.slice ma S.marks.length mc, .slice aa S.arcs.length ac] 77))) (i := 1) rfl
  have GA : Gr w (w.alloc (.cells #[.slice ma S.marks.length mc, .slice aa S.arcs.length ac] 77)) := (Gr.refl _).alloc _
  have HC := Lib.hid (goals_pick S p)
  have hok := back_edges hr
  have hbo := back_ok hr
  have hbl := back_len S
  have htd := todo_links S.marks.length (edgesF S.arcs true)
  rw [edges_len] at htd
  have HT := Lib.hid htd
  have HG := Lib.hid (goals_ok S p)
  clear htd hbl
  go_enter Try.func35, Try.ntmps35
  go_wp2_with fail
  go_loopw [5, 11] (fun out q wr => ∃ k : Nat, q = .int .i64 k ∧ k ≤ S.marks.length ∧ OwnI 3 (w.heap.size + 1) wr out (pickTo (fun k => p (ix S.marks k)) k) ∧ Gr (w.alloc (.cells #[.slice ma S.marks.length mc, .slice aa S.arcs.length ac] 77)) wr) (fun _ q _ => S.marks.length - (intOf q).toNat)
  case atStart => exact ⟨0, rfl, Nat.zero_le _, OwnI.nil _ _ _, Gr.refl _⟩
  case round =>
    rename World => wo
    obtain ⟨k, rfl, hk, ho, hgr⟩ := hrel
    have hgw := GA.trans hgr
    by_cases hlt : k < S.marks.length
    · obtain ⟨b, oo, u, rfl, c0, hI⟩ := (hM.gr hgw).row hlt
      have hcall := hg wo u (ix S.marks k) (ix_mem hlt) hgw hI
      obtain ⟨ua, uc, rfl, _, _⟩ := hI.len
      have hkI : (k : Int) < (S.marks.length : Int) := by omega
      have hpl := pickTo_len (fun k => p (ix S.marks k)) k
      obtain ⟨oa, oc, rfl, _, _⟩ := ho.ints.len
      cases hb : p (ix S.marks k)
      · have HS := Lib.hid (pickTo_no (p := fun k => p (ix S.marks k)) (k := k) hb)
        rw [hb] at hcall
        clear hb
        go_wp2_with (go_at_fn g; refine hcall.mono ?_; rintro e w' ⟨rfl, g2⟩)
        go_roundw
        case rel => exact ⟨k + 1, by go_num, by omega, by rw [HS.out]; exact ho.gr g2, hgr.trans g2⟩
        case measure => simp [intOf]; omega
      · have HS := Lib.hid (pickTo_yes (p := fun k => p (ix S.marks k)) (k := k) hb)
        rw [hb] at hcall
        have hks : I64 (k : Int) := i64_nat (by omega)
        clear hb
        go_wp2_with (first | (go_at_fn g; refine hcall.mono ?_; rintro e w' ⟨rfl, g2⟩; have hb2 : w.heap.size + 1 ≤ (w'.alloc (.cells #[.int .i64 (k : Int)] 3)).heap.size := by (have hx := (hgr.trans g2).le; simp at hx ⊢; omega)) | (at_builtin; go_loud (refine app_int T _ _ (w.heap.size + 1) _ (pickTo (fun k => p (ix S.marks k)) k) ⟨w'.heap.size, 0, none⟩ (k : Int) (by rfl) (by rfl) (by rfl) (by rfl) ((ho.gr g2).alloc _) (lit_cell rfl) hks (by omega) hb2 ?_; intro v' w7 ho7 hgs hgb hat)))
        go_roundw
        case rel => exact ⟨k + 1, by go_num, by omega, by rw [HS.out]; exact ho7, hgs _ (by simp) ((hgr.trans g2).alloc _)⟩
        case measure => simp [intOf]; omega
    · obtain rfl : k = S.marks.length := by omega
      replace B0 := cell_gr B0 hgr
      replace B1 := cell_gr B1 hgr
      rw [← HC.out] at ho
      have hgl : (goalsF S p).length ≤ S.marks.length := by rw [HC.out]; exact pickTo_len _ _
      obtain ⟨oa, oc, rfl, _, _⟩ := ho.ints.len
      go_wp2_with fail
      refine (links_calls _ S true _ (hv'.gr hgw) hok hm ha).mono ?_
      rintro _ w2 ⟨vb, rfl, hb, g2⟩
      obtain ⟨ba, bc, rfl, _, _⟩ := hb.len
      go_wp2_with fail
      refine (spread_calls _ _ (backL S) (goalsF S p) _ hb (ho.ints.gr g2) hbo HG.out ?_).mono ?_
      · have := HT.out; show todoW (backL S) (List.replicate (backL S).length false) + (goalsF S p).length ≤ _; unfold backL; omega
      rintro _ w5 ⟨v5, rfl, o5, g5⟩
      go_wp2_with fail
      go_ret
      exact ⟨_, rfl, o5.rd, (hgw.trans g2).trans g5⟩
theorem Judge1_answers (w0 : World) (gb : Nat) (gv : Value) (goal : List Int) (xs : List (List Int)) (hc : w0.cell? ⟨gb, 0, none⟩ = some gv) (hg : Ints w0 gv goal) :
    AnswersRow Try.prog 36 #[.pointer (some ⟨gb, 0, none⟩)] xs (fun x => eqB x goal) w0 := by
  intro W u x hx g hI
  have c := cell_gr hc g
  obtain ⟨ga, gc, rfl, _, _⟩ := hg.len
  go_enter Try.func36, Try.ntmps36
  go_wp2_with fail
  refine (Equal_calls _ _ x goal _ hI (hg.gr g)).mono ?_
  rintro _ w1 ⟨rfl, g1⟩
  go_wp2_with fail
  go_ret
  exact ⟨rfl, g1⟩
/-- what Judge hands back -/
def RetV (w : World) (r : VerdD × Int) (e : Ending) (w' : World) : Prop := ∃ u, e = .returned (.tuple #[.agg #[.int .i64 r.1.kind, u, .int .i64 r.1.tran], .int .i64 r.2]) ∧ Ints w' u r.1.at_ ∧ Gr w w'
theorem RetV.mk {w w' : World} {u : Value} {k t x : Int} {l : List Int} {r : VerdD × Int} (hr : r = (⟨k, l, t⟩, x)) (hu : Ints w' u l) (g : Gr w w') : RetV w r (.returned (.tuple #[.agg #[.int .i64 k, u, .int .i64 t], .int .i64 x])) w' := by subst hr; exact ⟨u, rfl, hu, g⟩
end Go.Proofs.Ytjpapgbdhflgnaa

/- A row of rows that hangs on some blocks: each of its rows does. -/
namespace Go.Tok
open Go.RowKit
theorem cell_set_self {w : World} {b k : Nat} {v : Value} (h : w.cell? ⟨b, k, none⟩ = some v) (u : Value) : (w.setCell ⟨b, k, none⟩ u).cell? ⟨b, k, none⟩ = some u := by
  unfold World.cell? at h
  split at h
  · rename_i cs t fr hb
    have hk : k < cs.size := by
      rcases Nat.lt_or_ge k cs.size with h1 | h1
      · exact h1
      · simp [Array.getElem?_eq_none h1] at h
    have h2 : (w.setCell ⟨b, k, none⟩ u).heap[b]? = some (.cells (cs.setIfInBounds k u) t fr) := by
      simp at hb
      simp [World.setCell, Array.getElem?_modify, hb]
    rw [cell_of_row _ b k (cs.setIfInBounds k u) t fr h2]
    simp [hk]
  · cases h
theorem on_rowI {S : Nat → Prop} {w : World} {a : Option Addr} {n cap : Nat} {xs : List (List Int)} (h : On S (fun w => Rd rowK w (.slice a n cap) xs) w) {i : Nat} (hi : i < xs.length) :
    ∃ b o u, a = some ⟨b, o, none⟩ ∧ w.cell? ⟨b, o + i, none⟩ = some u ∧ On S (fun w => Ints w u (ix xs i)) w := by
  obtain ⟨b, o, u, ha, c0, hI⟩ := h.now.row hi
  have hS : S b := by
    apply Classical.byContradiction
    intro hn
    obtain ⟨b2, o2, u2, ha2, c2, hI2⟩ := (h.kp (set_kp (a := ⟨b, o + i, none⟩) hn (.int .i64 0))).now.row hi
    rw [ha] at ha2
    cases ha2
    rw [cell_set_self c0] at c2
    cases c2
    obtain ⟨_, _, h3, _⟩ := hI2.len
    cases h3
  refine ⟨b, o, u, ha, c0, ?_⟩
  unfold On
  intro w' k
  obtain ⟨b2, o2, u2, ha2, c2, hI2⟩ := (h.kp k).now.row hi
  rw [ha] at ha2
  cases ha2
  rw [cell_kp k c0 hS] at c2
  cases c2
  exact hI2
end Go.Tok

/- Contract of sound.Judge. -/
namespace Go.Proofs.Ytjpapgbdhflgnaa
open Go.RowKit Go.Tok
set_option linter.unusedVariables false
theorem space_rows {w : World} {vm va : Value} {S : SpaceD} (h : SpaceR w (.agg #[vm, va]) S) : Rd rowK w vm S.marks := by
  obtain ⟨vm', va', h1, h2, _⟩ := h
  cases h1; exact h2
set_option maxHeartbeats 8000000 in
set_option maxRecDepth 100000 in
theorem Judge_calls (v : Value) (N : NetD) (i o most : Int) (w : World) (hN : NetR w v N) (hi : I64 i) (ho : I64 o) (hmo : I64 most) :
    Calls Try.prog 12 #[v, .int .i64 i, .int .i64 o, .int .i64 most] w (RetV w (judgeF N i o most)) := by
  have hN' := hN
  obtain ⟨a, cap, rfl, hnl, hncap, hpl, hT⟩ := hN.open_
  have hpl1 := hpl.1
  have hpl2 := hpl.2
  have eg : ∀ args w, (callFunc 36 args).run Try.prog w = .ok (.enter 36 args) w := (Go.Proofs.enters_of Try.func36 (by kernel_rfl) rfl)
  obtain ⟨wA, hwA⟩ : ∃ wA, wA = (w.alloc (.cells #[.int .i64 N.places, .slice a N.trans.length cap] 28)).alloc (.cells #[.int .i64 0, .slice none 0 0, .int .i64 0] 41) := ⟨_, rfl⟩
  have b0 : Blk wA w.heap.size 28 #[.int .i64 N.places, .slice a N.trans.length cap] := by rw [hwA]; exact (Blk.new rfl).gr ((Gr.refl _).alloc _)
  have b8 : Blk wA (w.heap.size + 1) 41 #[.int .i64 0, .slice none 0 0, .int .i64 0] := by rw [hwA]; exact Blk.new (by simp)
  have GA : Gr w wA := by rw [hwA]; exact ((Gr.refl _).alloc _).alloc _
  by_cases hs0 : shapeC N i o = 0
  case neg =>
    have q1 : (shapeC N i o != 0) = true := by simpa using hs0
    have HC := Lib.hid (judge_wrong (most := most) hs0)
    clear hs0
    go_enter Try.func12, Try.ntmps12
    go_wp2_with fail
    rw [← hwA]
    refine (ShapeWrong_calls _ N i o _ (hN'.gr GA) hi ho).mono ?_
    rintro _ w1 ⟨rfl, g1⟩
    replace b8 := b8.gr g1
    replace GA := GA.trans g1
    have D0 := b8.cell (i := 0) rfl
    have F0 := b8.frozen 0
    have bq1 := b8.set 0 (.int .i64 0)
    have D1 := bq1.cell (i := 1) rfl
    have F1 := bq1.frozen 1
    have bq2 := bq1.set 1 (.slice none 0 0)
    have D2 := bq2.cell (i := 2) rfl
    have F2 := bq2.frozen 2
    have bq3 := bq2.set 2 (.int .i64 0)
    have E0 := bq3.cell (i := 0) rfl
    have E1 := bq3.cell (i := 1) rfl
    have E2 := bq3.cell (i := 2) rfl
    clear b0 b8 bq1 bq2 bq3 g1 hwA
    go_wp2_with fail
    refine bodyPost_ret (v := .tuple #[.agg #[.int .i64 (0), .slice none 0 0, .int .i64 (0)], .int .i64 ((shapeC N i o))]) (by simp [results, Try.results12, go_sem, E0, E1, E2]) rfl ?_
    refine RetV.mk HC.out (Ints.nil _) ?_
    refine Gr.setCell ?_ (by simp; try omega) _
    refine Gr.setCell ?_ (by simp; try omega) _
    refine Gr.setCell ?_ (by simp; try omega) _
    exact GA
  case pos =>
    rcases hg : graphF N (oneN (startLen N) i) most with ⟨A, e⟩
    have HGR := Lib.hid hg
    by_cases he : e = 0
    case neg =>
      have q2 : (e != 0) = true := by simpa using he
      have HC := Lib.hid (judge_graph (o := o) hs0 hg he)
      clear he hg
      go_enter Try.func12, Try.ntmps12
      go_wp2_with fail
      rw [← hwA]
      refine (ShapeWrong_calls _ N i o _ (hN'.gr GA) hi ho).mono ?_
      rw [hs0]
      rintro _ w1 ⟨rfl, g1⟩
      have HS0 := Lib.hid hs0
      clear hs0
      replace b0 := b0.gr g1
      replace b8 := b8.gr g1
      replace GA := GA.trans g1
      have C0 := b0.cell (i := 0) rfl
      have C1 := b0.cell (i := 1) rfl
      have K1 := hN'.gr GA
      have hb8 := b8.lt
      clear g1 hwA
      go_wp2_with fail
      go_region_held3 (fun w' => w'.cell? ⟨w.heap.size, 0, none⟩ = some (.int .i64 N.places) ∧ w'.cell? ⟨w.heap.size, 1, none⟩ = some (.slice a N.trans.length cap)) (first | go_keep | ((refine ⟨cell_gr C0 ?_, cell_gr C1 ?_⟩); (all_goals (focus ((repeat (first | exact Gr.refl _ | assumption | apply Gr.drewN | apply Gr.drew | apply Gr.alloc | (refine Gr.setCell ?_ (by simp; try omega) _) | refine Gr.trans ?_ (by assumption))); done))))) (first | (go_at_call 33; (with_reducible refine (Start_calls _ N _ _ (K1.gr ?_) hi).mono ?_); ((focus ((repeat (first | exact Gr.refl _ | assumption | apply Gr.alloc | apply Gr.drew | apply Gr.drewN | refine Gr.trans ?_ (by assumption))); done))); rintro _ w3 ⟨v3, rfl, o3, g3⟩; obtain ⟨ia, ic, rfl, _, _⟩ := o3.ints.len; have hw3 := g3.le; (try simp at hw3); have hw3' : w1.heap.size ≤ w3.heap.size := (by omega); (first | have bsA : Blk w3 w1.heap.size 77 #[.slice none 0 0, .slice none 0 0] := (Blk.new (w := w1.drew) rfl).gr g3 | skip)) | (go_at_call 32; (with_reducible refine (Graph_own _ _ N (oneN (startLen N) i) most _ (K1.gr ?_) (o3.ints.gr ?_) hmo).mono ?_); ((focus ((repeat (first | exact Gr.refl _ | assumption | apply Gr.alloc | apply Gr.drew | apply Gr.drewN | refine Gr.trans ?_ (by assumption))); done))); ((focus ((repeat (first | exact Gr.refl _ | assumption | apply Gr.alloc | apply Gr.drew | apply Gr.drewN | refine Gr.trans ?_ (by assumption))); done))); rw [HGR.out]; rintro _ w4 ⟨v4, rfl, i4, g4⟩; obtain ⟨ma, mc, aa, ac, rfl, hc1, hc2, hc3, hc4, hM, hA⟩ := i4.now.open_; clear hM hA; have hw4 := g4.le; (try simp at hw4); have hw4' : w1.heap.size ≤ w4.heap.size := (by omega); (first | have bs := bsA.gr g4 | have bs : Blk w4 w3.heap.size 77 #[.slice none 0 0, .slice none 0 0] := (Blk.new (w := w3) rfl).gr g4 | have bs : Blk (w4.alloc (.cells #[.slice none 0 0, .slice none 0 0] 77)) w4.heap.size 77 #[.slice none 0 0, .slice none 0 0] := Blk.new rfl); have S0 := bs.cell (i := 0) rfl; have SF0 := bs.frozen 0; have bs1 := bs.set 0 (.slice ma A.marks.length mc); have S1 := bs1.cell (i := 1) rfl; have SF1 := bs1.frozen 1; have bs2 := bs1.set 1 (.slice aa A.arcs.length ac)))
      · have bS : Blk (w4.alloc (.cells #[.slice ma A.marks.length mc, .slice aa A.arcs.length ac] 77)) w4.heap.size 77 #[.slice ma A.marks.length mc, .slice aa A.arcs.length ac] := Blk.new rfl
        have hOn : On (fun b => b ≠ w.heap.size + 1) (fun w => SpaceR w (.agg #[.slice ma A.marks.length mc, .slice aa A.arcs.length ac]) A) (w4.alloc (.cells #[.slice ma A.marks.length mc, .slice aa A.arcs.length ac] 77)) := (i4.gr ((Gr.refl w4).alloc _)).mono (fun b _ hb => by omega)
        have GF : Gr w1 (w4.alloc (.cells #[.slice ma A.marks.length mc, .slice aa A.arcs.length ac] 77)) := by (repeat (first | exact Gr.refl _ | assumption | apply Gr.drewN | apply Gr.drew | apply Gr.alloc | (refine Gr.setCell ?_ (by simp; try omega) _) | refine Gr.trans ?_ (by assumption)))
        clear bs bs1 S0 S1 SF0 SF1 K1 C0 C1 o3 g4 i4
        generalize w4.alloc (.cells #[.slice ma A.marks.length mc, .slice aa A.arcs.length ac] 77) = wf at bS hOn GF ⊢
        generalize w4.heap.size = sb at bS ⊢
        replace b0 := b0.gr GF
        replace b8 := b8.gr GF
        have D0 := b8.cell (i := 0) rfl
        have F0 := b8.frozen 0
        have bq1 := b8.set 0 (.int .i64 0)
        have D1 := bq1.cell (i := 1) rfl
        have F1 := bq1.frozen 1
        have bq2 := bq1.set 1 (.slice none 0 0)
        have D2 := bq2.cell (i := 2) rfl
        have F2 := bq2.frozen 2
        have bq3 := bq2.set 2 (.int .i64 0)
        have E0 := bq3.cell (i := 0) rfl
        have E1 := bq3.cell (i := 1) rfl
        have E2 := bq3.cell (i := 2) rfl
        clear b0 b8 bq1 bq2 bq3 bS hOn
        go_wp2_with fail
        refine bodyPost_ret (v := .tuple #[.agg #[.int .i64 (0), .slice none 0 0, .int .i64 (0)], .int .i64 (e)]) (by simp [results, Try.results12, go_sem, E0, E1, E2]) rfl ?_
        refine RetV.mk HC.out (Ints.nil _) ?_
        refine Gr.setCell ?_ (by simp; try omega) _
        refine Gr.setCell ?_ (by simp; try omega) _
        refine Gr.setCell ?_ (by simp; try omega) _
        exact GA.trans GF
      · have bS : Blk ((w4.setCell ⟨w3.heap.size, 0, none⟩ (.slice ma A.marks.length mc)).setCell ⟨w3.heap.size, 1, none⟩ (.slice aa A.arcs.length ac)) w3.heap.size 77 #[.slice ma A.marks.length mc, .slice aa A.arcs.length ac] := bs2
        have hOn : On (fun b => b ≠ w.heap.size + 1) (fun w => SpaceR w (.agg #[.slice ma A.marks.length mc, .slice aa A.arcs.length ac]) A) ((w4.setCell ⟨w3.heap.size, 0, none⟩ (.slice ma A.marks.length mc)).setCell ⟨w3.heap.size, 1, none⟩ (.slice aa A.arcs.length ac)) := (i4.kp (Kp.trans (set_kp (by simp) _) (set_kp (by simp) _))).mono (fun b _ hb => by simp at hb; omega)
        have GF : Gr w1 ((w4.setCell ⟨w3.heap.size, 0, none⟩ (.slice ma A.marks.length mc)).setCell ⟨w3.heap.size, 1, none⟩ (.slice aa A.arcs.length ac)) := by (repeat (first | exact Gr.refl _ | assumption | apply Gr.drewN | apply Gr.drew | apply Gr.alloc | (refine Gr.setCell ?_ (by simp; try omega) _) | refine Gr.trans ?_ (by assumption)))
        clear bs bs1 S0 S1 SF0 SF1 K1 C0 C1 o3 g4 i4
        generalize (w4.setCell ⟨w3.heap.size, 0, none⟩ (.slice ma A.marks.length mc)).setCell ⟨w3.heap.size, 1, none⟩ (.slice aa A.arcs.length ac) = wf at bS hOn GF ⊢
        generalize w3.heap.size = sb at bS ⊢
        replace b0 := b0.gr GF
        replace b8 := b8.gr GF
        have D0 := b8.cell (i := 0) rfl
        have F0 := b8.frozen 0
        have bq1 := b8.set 0 (.int .i64 0)
        have D1 := bq1.cell (i := 1) rfl
        have F1 := bq1.frozen 1
        have bq2 := bq1.set 1 (.slice none 0 0)
        have D2 := bq2.cell (i := 2) rfl
        have F2 := bq2.frozen 2
        have bq3 := bq2.set 2 (.int .i64 0)
        have E0 := bq3.cell (i := 0) rfl
        have E1 := bq3.cell (i := 1) rfl
        have E2 := bq3.cell (i := 2) rfl
        clear b0 b8 bq1 bq2 bq3 bS hOn
        go_wp2_with fail
        refine bodyPost_ret (v := .tuple #[.agg #[.int .i64 (0), .slice none 0 0, .int .i64 (0)], .int .i64 (e)]) (by simp [results, Try.results12, go_sem, E0, E1, E2]) rfl ?_
        refine RetV.mk HC.out (Ints.nil _) ?_
        refine Gr.setCell ?_ (by simp; try omega) _
        refine Gr.setCell ?_ (by simp; try omega) _
        refine Gr.setCell ?_ (by simp; try omega) _
        exact GA.trans GF
      · have bS : Blk ((w4.setCell ⟨w1.heap.size, 0, none⟩ (.slice ma A.marks.length mc)).setCell ⟨w1.heap.size, 1, none⟩ (.slice aa A.arcs.length ac)) w1.heap.size 77 #[.slice ma A.marks.length mc, .slice aa A.arcs.length ac] := bs2
        have hOn : On (fun b => b ≠ w.heap.size + 1) (fun w => SpaceR w (.agg #[.slice ma A.marks.length mc, .slice aa A.arcs.length ac]) A) ((w4.setCell ⟨w1.heap.size, 0, none⟩ (.slice ma A.marks.length mc)).setCell ⟨w1.heap.size, 1, none⟩ (.slice aa A.arcs.length ac)) := (i4.kp (Kp.trans (set_kp (by simp; omega) _) (set_kp (by simp; omega) _))).mono (fun b _ hb => by omega)
        have GF : Gr w1 ((w4.setCell ⟨w1.heap.size, 0, none⟩ (.slice ma A.marks.length mc)).setCell ⟨w1.heap.size, 1, none⟩ (.slice aa A.arcs.length ac)) := by (repeat (first | exact Gr.refl _ | assumption | apply Gr.drewN | apply Gr.drew | apply Gr.alloc | (refine Gr.setCell ?_ (by simp; try omega) _) | refine Gr.trans ?_ (by assumption)))
        clear bs bs1 S0 S1 SF0 SF1 K1 C0 C1 o3 g4 i4
        generalize (w4.setCell ⟨w1.heap.size, 0, none⟩ (.slice ma A.marks.length mc)).setCell ⟨w1.heap.size, 1, none⟩ (.slice aa A.arcs.length ac) = wf at bS hOn GF ⊢
        generalize w1.heap.size = sb at bS ⊢
        replace b0 := b0.gr GF
        replace b8 := b8.gr GF
        have D0 := b8.cell (i := 0) rfl
        have F0 := b8.frozen 0
        have bq1 := b8.set 0 (.int .i64 0)
        have D1 := bq1.cell (i := 1) rfl
        have F1 := bq1.frozen 1
        have bq2 := bq1.set 1 (.slice none 0 0)
        have D2 := bq2.cell (i := 2) rfl
        have F2 := bq2.frozen 2
        have bq3 := bq2.set 2 (.int .i64 0)
        have E0 := bq3.cell (i := 0) rfl
        have E1 := bq3.cell (i := 1) rfl
        have E2 := bq3.cell (i := 2) rfl
        clear b0 b8 bq1 bq2 bq3 bS hOn
        go_wp2_with fail
        refine bodyPost_ret (v := .tuple #[.agg #[.int .i64 (0), .slice none 0 0, .int .i64 (0)], .int .i64 (e)]) (by simp [results, Try.results12, go_sem, E0, E1, E2]) rfl ?_
        refine RetV.mk HC.out (Ints.nil _) ?_
        refine Gr.setCell ?_ (by simp; try omega) _
        refine Gr.setCell ?_ (by simp; try omega) _
        refine Gr.setCell ?_ (by simp; try omega) _
        exact GA.trans GF
    case pos =>
      subst he
      obtain ⟨hml, hal, hsr, hn24⟩ : A.marks.length ≤ 300 ∧ A.arcs.length ≤ 7300 ∧ sRightB A = true ∧ N.trans.length ≤ 24 := by
        obtain ⟨s, h1, rfl, h2, h3, h4, hW⟩ := search_of_graph hg
        exact ⟨by have := hW.le; simp only []; omega, search_arcs h1, hW.sright, (fits_sizes h4).1⟩
      clear hg
      go_enter Try.func12, Try.ntmps12
      go_wp2_with fail
      rw [← hwA]
      refine (ShapeWrong_calls _ N i o _ (hN'.gr GA) hi ho).mono ?_
      rw [hs0]
      rintro _ w1 ⟨rfl, g1⟩
      have HS0 := Lib.hid hs0
      clear hs0
      replace b0 := b0.gr g1
      replace b8 := b8.gr g1
      replace GA := GA.trans g1
      have C0 := b0.cell (i := 0) rfl
      have C1 := b0.cell (i := 1) rfl
      have K1 := hN'.gr GA
      have hb8 := b8.lt
      clear g1 hwA
      go_wp2_with fail
      go_region_held3 (fun w' => w'.cell? ⟨w.heap.size, 0, none⟩ = some (.int .i64 N.places) ∧ w'.cell? ⟨w.heap.size, 1, none⟩ = some (.slice a N.trans.length cap)) (first | go_keep | ((refine ⟨cell_gr C0 ?_, cell_gr C1 ?_⟩); (all_goals (focus ((repeat (first | exact Gr.refl _ | assumption | apply Gr.drewN | apply Gr.drew | apply Gr.alloc | (refine Gr.setCell ?_ (by simp; try omega) _) | refine Gr.trans ?_ (by assumption))); done))))) (first | (go_at_call 33; (with_reducible refine (Start_calls _ N _ _ (K1.gr ?_) hi).mono ?_); ((focus ((repeat (first | exact Gr.refl _ | assumption | apply Gr.alloc | apply Gr.drew | apply Gr.drewN | refine Gr.trans ?_ (by assumption))); done))); rintro _ w3 ⟨v3, rfl, o3, g3⟩; obtain ⟨ia, ic, rfl, _, _⟩ := o3.ints.len; have hw3 := g3.le; (try simp at hw3); have hw3' : w1.heap.size ≤ w3.heap.size := (by omega); (first | have bsA : Blk w3 w1.heap.size 77 #[.slice none 0 0, .slice none 0 0] := (Blk.new (w := w1.drew) rfl).gr g3 | skip)) | (go_at_call 32; (with_reducible refine (Graph_own _ _ N (oneN (startLen N) i) most _ (K1.gr ?_) (o3.ints.gr ?_) hmo).mono ?_); ((focus ((repeat (first | exact Gr.refl _ | assumption | apply Gr.alloc | apply Gr.drew | apply Gr.drewN | refine Gr.trans ?_ (by assumption))); done))); ((focus ((repeat (first | exact Gr.refl _ | assumption | apply Gr.alloc | apply Gr.drew | apply Gr.drewN | refine Gr.trans ?_ (by assumption))); done))); rw [HGR.out]; rintro _ w4 ⟨v4, rfl, i4, g4⟩; obtain ⟨ma, mc, aa, ac, rfl, hc1, hc2, hc3, hc4, hM, hA⟩ := i4.now.open_; clear hM hA; have hw4 := g4.le; (try simp at hw4); have hw4' : w1.heap.size ≤ w4.heap.size := (by omega); (first | have bs := bsA.gr g4 | have bs : Blk w4 w3.heap.size 77 #[.slice none 0 0, .slice none 0 0] := (Blk.new (w := w3) rfl).gr g4 | have bs : Blk (w4.alloc (.cells #[.slice none 0 0, .slice none 0 0] 77)) w4.heap.size 77 #[.slice none 0 0, .slice none 0 0] := Blk.new rfl); have S0 := bs.cell (i := 0) rfl; have SF0 := bs.frozen 0; have bs1 := bs.set 0 (.slice ma A.marks.length mc); have S1 := bs1.cell (i := 1) rfl; have SF1 := bs1.frozen 1; have bs2 := bs1.set 1 (.slice aa A.arcs.length ac)))
      · have bS : Blk (w4.alloc (.cells #[.slice ma A.marks.length mc, .slice aa A.arcs.length ac] 77)) w4.heap.size 77 #[.slice ma A.marks.length mc, .slice aa A.arcs.length ac] := Blk.new rfl
        have hOn : On (fun b => b ≠ w.heap.size + 1) (fun w => SpaceR w (.agg #[.slice ma A.marks.length mc, .slice aa A.arcs.length ac]) A) (w4.alloc (.cells #[.slice ma A.marks.length mc, .slice aa A.arcs.length ac] 77)) := (i4.gr ((Gr.refl w4).alloc _)).mono (fun b _ hb => by omega)
        have GF : Gr w1 (w4.alloc (.cells #[.slice ma A.marks.length mc, .slice aa A.arcs.length ac] 77)) := by (repeat (first | exact Gr.refl _ | assumption | apply Gr.drewN | apply Gr.drew | apply Gr.alloc | (refine Gr.setCell ?_ (by simp; try omega) _) | refine Gr.trans ?_ (by assumption)))
        clear bs bs1 S0 S1 SF0 SF1 K1 C0 C1 o3 g4 i4
        generalize w4.alloc (.cells #[.slice ma A.marks.length mc, .slice aa A.arcs.length ac] 77) = wf at bS hOn GF ⊢
        generalize w4.heap.size = sb at bS ⊢
        replace b0 := b0.gr GF
        replace b8 := b8.gr GF
        have C0 := b0.cell (i := 0) rfl
        have C1 := b0.cell (i := 1) rfl
        have K1 := hN'.gr (GA.trans GF)
        go_wp2_with fail
        refine (Start_calls _ N o _ K1 ho).mono ?_
        rintro _ w5 ⟨v5, rfl, o5, g5⟩
        obtain ⟨ea, ec, rfl, _, _⟩ := o5.ints.len
        have GE : Gr wf (w5.alloc (.cells #[.slice ea (oneN (startLen N) o).length ec] 39)) := g5.alloc _
        have X0 : (w5.alloc (.cells #[.slice ea (oneN (startLen N) o).length ec] 39)).cell? ⟨w5.heap.size, 0, none⟩ = some (.slice ea (oneN (startLen N) o).length ec) := box_cell (Gr.refl _) (i := 0) rfl
        have IE : Ints (w5.alloc (.cells #[.slice ea (oneN (startLen N) o).length ec] 39)) (.slice ea (oneN (startLen N) o).length ec) (oneN (startLen N) o) := o5.ints.alloc _
        replace bS := bS.gr GE
        replace b8 := b8.gr GE
        replace hOn := hOn.gr GE
        replace GF := GF.trans GE
        replace C0 := cell_gr C0 GE
        replace C1 := cell_gr C1 GE
        have S0 := bS.cell (i := 0) rfl
        have S1 := bS.cell (i := 1) rfl
        clear GE g5 o5 K1 b0
        go_wp2_with fail
        generalize w5.alloc (.cells #[.slice ea (oneN (startLen N) o).length ec] 39) = wE at bS b8 hOn GF C0 C1 S0 S1 X0 IE ⊢
        generalize w5.heap.size = eb at X0 ⊢
        go_loopw [46] (fun q wr => ∃ k : Nat, k ≤ A.marks.length ∧ q = .int .i64 k ∧ NoneI (extraB (oneN (startLen N) o)) A.marks k ∧ Gr wE wr) (fun q _ => A.marks.length - (intOf q).toNat)
        case atStart => exact ⟨0, Nat.zero_le _, rfl, NoneI.zero _ _, Gr.refl _⟩
        case round =>
          rename World => wo
          obtain ⟨k, hk, rfl, hall, hgr⟩ := hrel
          have S0' := cell_gr S0 hgr
          have S1' := cell_gr S1 hgr
          have X0' := cell_gr X0 hgr
          by_cases hlt : k < A.marks.length
          · obtain ⟨b, oo, u, rfl, c0, hI⟩ := on_rowI ((hOn.gr hgr).imp fun w h => space_rows h) hlt
            have hkI : (k : Int) < (A.marks.length : Int) := by omega
            have hIn := hI.now
            obtain ⟨ua, uc, rfl, _, _⟩ := hIn.len
            cases hc : coversB (ix A.marks k) (oneN (startLen N) o)
            · have hx : extraB (oneN (startLen N) o) (ix A.marks k) = false := by unfold extraB; rw [hc]; rfl
              clear C0 C1 S1 S1'
              go_wp2_with fail
              refine (Covers_calls _ _ (ix A.marks k) (oneN (startLen N) o) _ hIn (IE.gr hgr)).mono ?_
              rw [hc]; rintro _ _ ⟨rfl, rfl⟩
              go_wp2_with fail
              go_roundw
              case rel => exact ⟨k + 1, by omega, by go_num, hall.succ hx, hgr⟩
              case measure => simp [intOf]; omega
            · cases he2 : eqB (ix A.marks k) (oneN (startLen N) o)
              · have hx : extraB (oneN (startLen N) o) (ix A.marks k) = true := by unfold extraB; rw [hc, he2]; rfl
                have HC := Lib.hid (judge_verd HS0.out HGR.out (verd_extra (n := N.trans.length) (firstI_hit hall hlt hx)))
                go_wp2_with fail
                refine (Covers_calls _ _ (ix A.marks k) (oneN (startLen N) o) _ hIn (IE.gr hgr)).mono ?_
                rw [hc]; rintro _ _ ⟨rfl, rfl⟩
                go_wp2_with fail
                refine (Equal_calls _ _ (ix A.marks k) (oneN (startLen N) o) _ hIn (IE.gr hgr)).mono ?_
                rw [he2]; rintro _ w7 ⟨rfl, g7⟩
                have GZ := ((GA.trans GF).trans hgr).trans g7
                replace b8 := (b8.gr hgr).gr g7
                have hIz := ((hI.gr g7).kp (set_kp (a := ⟨w.heap.size + 1, 0, none⟩) (by simp) (.int .i64 2))).kp (set_kp (a := ⟨w.heap.size + 1, 1, none⟩) (by simp) (.slice ua (ix A.marks k).length uc)) |>.kp (set_kp (a := ⟨w.heap.size + 1, 2, none⟩) (by simp) (.int .i64 0))
                have D0 := b8.cell (i := 0) rfl
                have F0 := b8.frozen 0
                have bq1 := b8.set 0 (.int .i64 2)
                have D1 := bq1.cell (i := 1) rfl
                have F1 := bq1.frozen 1
                have bq2 := bq1.set 1 (.slice ua (ix A.marks k).length uc)
                have D2 := bq2.cell (i := 2) rfl
                have F2 := bq2.frozen 2
                have bq3 := bq2.set 2 (.int .i64 0)
                have E0 := bq3.cell (i := 0) rfl
                have E1 := bq3.cell (i := 1) rfl
                have E2 := bq3.cell (i := 2) rfl
                clear b8 bq1 bq2 bq3 bS hOn C0 C1 S0 S1 S0' S1' X0 X0' IE c0 hI hIn
                go_wp2_with fail
                refine bodyPost_ret (v := .tuple #[.agg #[.int .i64 (2), .slice ua (ix A.marks k).length uc, .int .i64 (0)], .int .i64 (0)]) (by simp [results, Try.results12, go_sem, E0, E1, E2]) rfl ?_
                refine RetV.mk HC.out hIz.now ?_
                refine Gr.setCell ?_ (by simp; try omega) _
                refine Gr.setCell ?_ (by simp; try omega) _
                refine Gr.setCell ?_ (by simp; try omega) _
                exact GZ
              · have hx : extraB (oneN (startLen N) o) (ix A.marks k) = false := by unfold extraB; rw [hc, he2]; rfl
                clear C0 C1 S1 S1'
                go_wp2_with fail
                refine (Covers_calls _ _ (ix A.marks k) (oneN (startLen N) o) _ hIn (IE.gr hgr)).mono ?_
                rw [hc]; rintro _ _ ⟨rfl, rfl⟩
                go_wp2_with fail
                refine (Equal_calls _ _ (ix A.marks k) (oneN (startLen N) o) _ hIn (IE.gr hgr)).mono ?_
                rw [he2]; rintro _ w7 ⟨rfl, g7⟩
                go_wp2_with fail
                go_roundw
                case rel => exact ⟨k + 1, by omega, by go_num, hall.succ hx, hgr.trans g7⟩
                case measure => simp [intOf]; omega
          · obtain rfl : k = A.marks.length := by omega
            have HF1 := Lib.hid (firstI_miss hall)
            have C0' := cell_gr C0 hgr
            have C1' := cell_gr C1 hgr
            have GZ := (GA.trans GF).trans hgr
            replace hOn := hOn.gr hgr
            replace b8 := b8.gr hgr
            replace bS := bS.gr hgr
            have hol := onw_len hsr (fun m => eqB m (oneN (startLen N) o))
            have HOL := Lib.hid hol
            clear hol hall C0 C1 S0 S1
            go_wp2_with fail
            refine (Onward_calls _ A 36 _ (fun m => eqB m (oneN (startLen N) o)) _ eg hOn.now (Judge1_answers _ _ _ (oneN (startLen N) o) _ X0' (IE.gr hgr)) hsr (by omega) (by omega)).mono ?_
            rintro _ w6 ⟨v6, rfl, o6, g6⟩
            obtain ⟨oa, oc, rfl, _, _⟩ := o6.len
            replace hOn := hOn.gr g6
            replace b8 := b8.gr g6
            replace bS := bS.gr g6
            replace GZ := GZ.trans g6
            replace C0' := cell_gr C0' g6
            replace C1' := cell_gr C1' g6
            replace S0' := cell_gr S0' g6
            replace S1' := cell_gr S1' g6
            clear X0 X0' IE hgr g6
            rcases hfi : firstI isF (onwF A fun m => eqB m (oneN (startLen N) o)) with k | k
            · obtain ⟨hk1, _, _⟩ := firstI_some hfi
              rw [HOL.out] at hk1
              have HF2 := Lib.hid hfi
              obtain ⟨b, oo, u, rfl, c0, hI⟩ := on_rowI (hOn.imp fun w h => space_rows h) hk1
              have hkI : (k : Int) < (A.marks.length : Int) := by omega
              have hk0 : (0 : Int) ≤ (k : Int) := by omega
              obtain ⟨ua, uc, rfl, _, _⟩ := hI.now.len
              have HC := Lib.hid (judge_verd HS0.out HGR.out (verd_stuck (n := N.trans.length) HF1.out HF2.out))
              have hIz := (hI.kp (set_kp (a := ⟨w.heap.size + 1, 0, none⟩) (by simp) (.int .i64 3))).kp (set_kp (a := ⟨w.heap.size + 1, 1, none⟩) (by simp) (.slice ua (ix A.marks k).length uc)) |>.kp (set_kp (a := ⟨w.heap.size + 1, 2, none⟩) (by simp) (.int .i64 0))
              have D0 := b8.cell (i := 0) rfl
              have F0 := b8.frozen 0
              have bq1 := b8.set 0 (.int .i64 3)
              have D1 := bq1.cell (i := 1) rfl
              have F1 := bq1.frozen 1
              have bq2 := bq1.set 1 (.slice ua (ix A.marks k).length uc)
              have D2 := bq2.cell (i := 2) rfl
              have F2 := bq2.frozen 2
              have bq3 := bq2.set 2 (.int .i64 0)
              have E0 := bq3.cell (i := 0) rfl
              have E1 := bq3.cell (i := 1) rfl
              have E2 := bq3.cell (i := 2) rfl
              clear hfi b8 bq1 bq2 bq3 bS hOn C0' C1' S1' hI
              go_wp2_with fail
              refine (IndexB_calls _ _ false _ o6).mono ?_
              rw [show (firstI (fun y => false == y) (onwF A fun m => eqB m (oneN (startLen N) o))) = (k : Int) from HF2.out]; rintro _ _ ⟨rfl, rfl⟩
              go_wp2_with fail
              refine bodyPost_ret (v := .tuple #[.agg #[.int .i64 (3), .slice ua (ix A.marks k).length uc, .int .i64 (0)], .int .i64 (0)]) (by simp [results, Try.results12, go_sem, E0, E1, E2]) rfl ?_
              refine RetV.mk HC.out hIz.now ?_
              refine Gr.setCell ?_ (by simp; try omega) _
              refine Gr.setCell ?_ (by simp; try omega) _
              refine Gr.setCell ?_ (by simp; try omega) _
              exact GZ
            · have hk1 := firstI_ge isF (onwF A fun m => eqB m (oneN (startLen N) o))
              have hk2 : firstI isF (onwF A fun m => eqB m (oneN (startLen N) o)) = -1 := by omega
              have HF2 := Lib.hid hk2
              clear hfi hk1 hk2
              go_wp2_with fail
              refine (IndexB_calls _ _ false _ o6).mono ?_
              rw [show (firstI (fun y => false == y) (onwF A fun m => eqB m (oneN (startLen N) o))) = -1 from HF2.out]; rintro _ _ ⟨rfl, rfl⟩
              go_wp2_with fail
              refine (Dead_calls _ A (N.trans.length : Int) _ hOn.now (i64_nat (by omega)) (by omega)).mono ?_
              rintro _ w7 ⟨v7, rfl, o7, g7⟩
              obtain ⟨da, dc, rfl, _, _⟩ := o7.ints.len
              replace b8 := b8.gr g7
              replace GZ := GZ.trans g7
              clear C0' C1' S0' S1' hOn bS o6
              by_cases hd : 0 < (deadF A (N.trans.length : Int)).length
              · have HC := Lib.hid (judge_verd HS0.out HGR.out (verd_dead (n := N.trans.length) HF1.out HF2.out hd))
                have hdI : (0 : Int) < ((deadF A (N.trans.length : Int)).length : Int) := by omega
                obtain ⟨db, dof, rfl, d0⟩ := o7.ints.cell hd
                rw [Nat.add_zero] at d0
                have D0 := b8.cell (i := 0) rfl
                have F0 := b8.frozen 0
                have bq1 := b8.set 0 (.int .i64 4)
                have D1 := bq1.cell (i := 1) rfl
                have F1 := bq1.frozen 1
                have bq2 := bq1.set 1 (.slice none 0 0)
                have D2 := bq2.cell (i := 2) rfl
                have F2 := bq2.frozen 2
                have bq3 := bq2.set 2 (.int .i64 (nth (deadF A (N.trans.length : Int)) 0))
                have E0 := bq3.cell (i := 0) rfl
                have E1 := bq3.cell (i := 1) rfl
                have E2 := bq3.cell (i := 2) rfl
                clear b8 bq1 bq2 bq3 g7 o7
                go_wp2_with fail
                refine bodyPost_ret (v := .tuple #[.agg #[.int .i64 (4), .slice none 0 0, .int .i64 ((nth (deadF A (N.trans.length : Int)) 0))], .int .i64 (0)]) (by simp [results, Try.results12, go_sem, E0, E1, E2]) rfl ?_
                refine RetV.mk HC.out (Ints.nil _) ?_
                refine Gr.setCell ?_ (by simp; try omega) _
                refine Gr.setCell ?_ (by simp; try omega) _
                refine Gr.setCell ?_ (by simp; try omega) _
                exact GZ
              · have hd0 : (deadF A (N.trans.length : Int)).length = 0 := by omega
                have HC := Lib.hid (judge_verd HS0.out HGR.out (verd_sound (n := N.trans.length) HF1.out HF2.out hd0))
                have hdI : ¬ (0 : Int) < ((deadF A (N.trans.length : Int)).length : Int) := by omega
                have D0 := b8.cell (i := 0) rfl
                have F0 := b8.frozen 0
                have bq1 := b8.set 0 (.int .i64 1)
                have D1 := bq1.cell (i := 1) rfl
                have F1 := bq1.frozen 1
                have bq2 := bq1.set 1 (.slice none 0 0)
                have D2 := bq2.cell (i := 2) rfl
                have F2 := bq2.frozen 2
                have bq3 := bq2.set 2 (.int .i64 0)
                have E0 := bq3.cell (i := 0) rfl
                have E1 := bq3.cell (i := 1) rfl
                have E2 := bq3.cell (i := 2) rfl
                clear b8 bq1 bq2 bq3 g7 o7
                go_wp2_with fail
                refine bodyPost_ret (v := .tuple #[.agg #[.int .i64 (1), .slice none 0 0, .int .i64 (0)], .int .i64 (0)]) (by simp [results, Try.results12, go_sem, E0, E1, E2]) rfl ?_
                refine RetV.mk HC.out (Ints.nil _) ?_
                refine Gr.setCell ?_ (by simp; try omega) _
                refine Gr.setCell ?_ (by simp; try omega) _
                refine Gr.setCell ?_ (by simp; try omega) _
                exact GZ
      · have bS : Blk ((w4.setCell ⟨w3.heap.size, 0, none⟩ (.slice ma A.marks.length mc)).setCell ⟨w3.heap.size, 1, none⟩ (.slice aa A.arcs.length ac)) w3.heap.size 77 #[.slice ma A.marks.length mc, .slice aa A.arcs.length ac] := bs2
        have hOn : On (fun b => b ≠ w.heap.size + 1) (fun w => SpaceR w (.agg #[.slice ma A.marks.length mc, .slice aa A.arcs.length ac]) A) ((w4.setCell ⟨w3.heap.size, 0, none⟩ (.slice ma A.marks.length mc)).setCell ⟨w3.heap.size, 1, none⟩ (.slice aa A.arcs.length ac)) := (i4.kp (Kp.trans (set_kp (by simp) _) (set_kp (by simp) _))).mono (fun b _ hb => by simp at hb; omega)
        have GF : Gr w1 ((w4.setCell ⟨w3.heap.size, 0, none⟩ (.slice ma A.marks.length mc)).setCell ⟨w3.heap.size, 1, none⟩ (.slice aa A.arcs.length ac)) := by (repeat (first | exact Gr.refl _ | assumption | apply Gr.drewN | apply Gr.drew | apply Gr.alloc | (refine Gr.setCell ?_ (by simp; try omega) _) | refine Gr.trans ?_ (by assumption)))
        clear bs bs1 S0 S1 SF0 SF1 K1 C0 C1 o3 g4 i4
        generalize (w4.setCell ⟨w3.heap.size, 0, none⟩ (.slice ma A.marks.length mc)).setCell ⟨w3.heap.size, 1, none⟩ (.slice aa A.arcs.length ac) = wf at bS hOn GF ⊢
        generalize w3.heap.size = sb at bS ⊢
        replace b0 := b0.gr GF
        replace b8 := b8.gr GF
        have C0 := b0.cell (i := 0) rfl
        have C1 := b0.cell (i := 1) rfl
        have K1 := hN'.gr (GA.trans GF)
        go_wp2_with fail
        refine (Start_calls _ N o _ K1 ho).mono ?_
        rintro _ w5 ⟨v5, rfl, o5, g5⟩
        obtain ⟨ea, ec, rfl, _, _⟩ := o5.ints.len
        have GE : Gr wf (w5.alloc (.cells #[.slice ea (oneN (startLen N) o).length ec] 39)) := g5.alloc _
        have X0 : (w5.alloc (.cells #[.slice ea (oneN (startLen N) o).length ec] 39)).cell? ⟨w5.heap.size, 0, none⟩ = some (.slice ea (oneN (startLen N) o).length ec) := box_cell (Gr.refl _) (i := 0) rfl
        have IE : Ints (w5.alloc (.cells #[.slice ea (oneN (startLen N) o).length ec] 39)) (.slice ea (oneN (startLen N) o).length ec) (oneN (startLen N) o) := o5.ints.alloc _
        replace bS := bS.gr GE
        replace b8 := b8.gr GE
        replace hOn := hOn.gr GE
        replace GF := GF.trans GE
        replace C0 := cell_gr C0 GE
        replace C1 := cell_gr C1 GE
        have S0 := bS.cell (i := 0) rfl
        have S1 := bS.cell (i := 1) rfl
        clear GE g5 o5 K1 b0
        go_wp2_with fail
        generalize w5.alloc (.cells #[.slice ea (oneN (startLen N) o).length ec] 39) = wE at bS b8 hOn GF C0 C1 S0 S1 X0 IE ⊢
        generalize w5.heap.size = eb at X0 ⊢
        go_loopw [46] (fun q wr => ∃ k : Nat, k ≤ A.marks.length ∧ q = .int .i64 k ∧ NoneI (extraB (oneN (startLen N) o)) A.marks k ∧ Gr wE wr) (fun q _ => A.marks.length - (intOf q).toNat)
        case atStart => exact ⟨0, Nat.zero_le _, rfl, NoneI.zero _ _, Gr.refl _⟩
        case round =>
          rename World => wo
          obtain ⟨k, hk, rfl, hall, hgr⟩ := hrel
          have S0' := cell_gr S0 hgr
          have S1' := cell_gr S1 hgr
          have X0' := cell_gr X0 hgr
          by_cases hlt : k < A.marks.length
          · obtain ⟨b, oo, u, rfl, c0, hI⟩ := on_rowI ((hOn.gr hgr).imp fun w h => space_rows h) hlt
            have hkI : (k : Int) < (A.marks.length : Int) := by omega
            have hIn := hI.now
            obtain ⟨ua, uc, rfl, _, _⟩ := hIn.len
            cases hc : coversB (ix A.marks k) (oneN (startLen N) o)
            · have hx : extraB (oneN (startLen N) o) (ix A.marks k) = false := by unfold extraB; rw [hc]; rfl
              clear C0 C1 S1 S1'
              go_wp2_with fail
              refine (Covers_calls _ _ (ix A.marks k) (oneN (startLen N) o) _ hIn (IE.gr hgr)).mono ?_
              rw [hc]; rintro _ _ ⟨rfl, rfl⟩
              go_wp2_with fail
              go_roundw
              case rel => exact ⟨k + 1, by omega, by go_num, hall.succ hx, hgr⟩
              case measure => simp [intOf]; omega
            · cases he2 : eqB (ix A.marks k) (oneN (startLen N) o)
              · have hx : extraB (oneN (startLen N) o) (ix A.marks k) = true := by unfold extraB; rw [hc, he2]; rfl
                have HC := Lib.hid (judge_verd HS0.out HGR.out (verd_extra (n := N.trans.length) (firstI_hit hall hlt hx)))
                go_wp2_with fail
                refine (Covers_calls _ _ (ix A.marks k) (oneN (startLen N) o) _ hIn (IE.gr hgr)).mono ?_
                rw [hc]; rintro _ _ ⟨rfl, rfl⟩
                go_wp2_with fail
                refine (Equal_calls _ _ (ix A.marks k) (oneN (startLen N) o) _ hIn (IE.gr hgr)).mono ?_
                rw [he2]; rintro _ w7 ⟨rfl, g7⟩
                have GZ := ((GA.trans GF).trans hgr).trans g7
                replace b8 := (b8.gr hgr).gr g7
                have hIz := ((hI.gr g7).kp (set_kp (a := ⟨w.heap.size + 1, 0, none⟩) (by simp) (.int .i64 2))).kp (set_kp (a := ⟨w.heap.size + 1, 1, none⟩) (by simp) (.slice ua (ix A.marks k).length uc)) |>.kp (set_kp (a := ⟨w.heap.size + 1, 2, none⟩) (by simp) (.int .i64 0))
                have D0 := b8.cell (i := 0) rfl
                have F0 := b8.frozen 0
                have bq1 := b8.set 0 (.int .i64 2)
                have D1 := bq1.cell (i := 1) rfl
                have F1 := bq1.frozen 1
                have bq2 := bq1.set 1 (.slice ua (ix A.marks k).length uc)
                have D2 := bq2.cell (i := 2) rfl
                have F2 := bq2.frozen 2
                have bq3 := bq2.set 2 (.int .i64 0)
                have E0 := bq3.cell (i := 0) rfl
                have E1 := bq3.cell (i := 1) rfl
                have E2 := bq3.cell (i := 2) rfl
                clear b8 bq1 bq2 bq3 bS hOn C0 C1 S0 S1 S0' S1' X0 X0' IE c0 hI hIn
                go_wp2_with fail
                refine bodyPost_ret (v := .tuple #[.agg #[.int .i64 (2), .slice ua (ix A.marks k).length uc, .int .i64 (0)], .int .i64 (0)]) (by simp [results, Try.results12, go_sem, E0, E1, E2]) rfl ?_
                refine RetV.mk HC.out hIz.now ?_
                refine Gr.setCell ?_ (by simp; try omega) _
                refine Gr.setCell ?_ (by simp; try omega) _
                refine Gr.setCell ?_ (by simp; try omega) _
                exact GZ
              · have hx : extraB (oneN (startLen N) o) (ix A.marks k) = false := by unfold extraB; rw [hc, he2]; rfl
                clear C0 C1 S1 S1'
                go_wp2_with fail
                refine (Covers_calls _ _ (ix A.marks k) (oneN (startLen N) o) _ hIn (IE.gr hgr)).mono ?_
                rw [hc]; rintro _ _ ⟨rfl, rfl⟩
                go_wp2_with fail
                refine (Equal_calls _ _ (ix A.marks k) (oneN (startLen N) o) _ hIn (IE.gr hgr)).mono ?_
                rw [he2]; rintro _ w7 ⟨rfl, g7⟩
                go_wp2_with fail
                go_roundw
                case rel => exact ⟨k + 1, by omega, by go_num, hall.succ hx, hgr.trans g7⟩
                case measure => simp [intOf]; omega
          · obtain rfl : k = A.marks.length := by omega
            have HF1 := Lib.hid (firstI_miss hall)
            have C0' := cell_gr C0 hgr
            have C1' := cell_gr C1 hgr
            have GZ := (GA.trans GF).trans hgr
            replace hOn := hOn.gr hgr
            replace b8 := b8.gr hgr
            replace bS := bS.gr hgr
            have hol := onw_len hsr (fun m => eqB m (oneN (startLen N) o))
            have HOL := Lib.hid hol
            clear hol hall C0 C1 S0 S1
            go_wp2_with fail
            refine (Onward_calls _ A 36 _ (fun m => eqB m (oneN (startLen N) o)) _ eg hOn.now (Judge1_answers _ _ _ (oneN (startLen N) o) _ X0' (IE.gr hgr)) hsr (by omega) (by omega)).mono ?_
            rintro _ w6 ⟨v6, rfl, o6, g6⟩
            obtain ⟨oa, oc, rfl, _, _⟩ := o6.len
            replace hOn := hOn.gr g6
            replace b8 := b8.gr g6
            replace bS := bS.gr g6
            replace GZ := GZ.trans g6
            replace C0' := cell_gr C0' g6
            replace C1' := cell_gr C1' g6
            replace S0' := cell_gr S0' g6
            replace S1' := cell_gr S1' g6
            clear X0 X0' IE hgr g6
            rcases hfi : firstI isF (onwF A fun m => eqB m (oneN (startLen N) o)) with k | k
            · obtain ⟨hk1, _, _⟩ := firstI_some hfi
              rw [HOL.out] at hk1
              have HF2 := Lib.hid hfi
              obtain ⟨b, oo, u, rfl, c0, hI⟩ := on_rowI (hOn.imp fun w h => space_rows h) hk1
              have hkI : (k : Int) < (A.marks.length : Int) := by omega
              have hk0 : (0 : Int) ≤ (k : Int) := by omega
              obtain ⟨ua, uc, rfl, _, _⟩ := hI.now.len
              have HC := Lib.hid (judge_verd HS0.out HGR.out (verd_stuck (n := N.trans.length) HF1.out HF2.out))
              have hIz := (hI.kp (set_kp (a := ⟨w.heap.size + 1, 0, none⟩) (by simp) (.int .i64 3))).kp (set_kp (a := ⟨w.heap.size + 1, 1, none⟩) (by simp) (.slice ua (ix A.marks k).length uc)) |>.kp (set_kp (a := ⟨w.heap.size + 1, 2, none⟩) (by simp) (.int .i64 0))
              have D0 := b8.cell (i := 0) rfl
              have F0 := b8.frozen 0
              have bq1 := b8.set 0 (.int .i64 3)
              have D1 := bq1.cell (i := 1) rfl
              have F1 := bq1.frozen 1
              have bq2 := bq1.set 1 (.slice ua (ix A.marks k).length uc)
              have D2 := bq2.cell (i := 2) rfl
              have F2 := bq2.frozen 2
              have bq3 := bq2.set 2 (.int .i64 0)
              have E0 := bq3.cell (i := 0) rfl
              have E1 := bq3.cell (i := 1) rfl
              have E2 := bq3.cell (i := 2) rfl
              clear hfi b8 bq1 bq2 bq3 bS hOn C0' C1' S1' hI
              go_wp2_with fail
              refine (IndexB_calls _ _ false _ o6).mono ?_
              rw [show (firstI (fun y => false == y) (onwF A fun m => eqB m (oneN (startLen N) o))) = (k : Int) from HF2.out]; rintro _ _ ⟨rfl, rfl⟩
              go_wp2_with fail
              refine bodyPost_ret (v := .tuple #[.agg #[.int .i64 (3), .slice ua (ix A.marks k).length uc, .int .i64 (0)], .int .i64 (0)]) (by simp [results, Try.results12, go_sem, E0, E1, E2]) rfl ?_
              refine RetV.mk HC.out hIz.now ?_
              refine Gr.setCell ?_ (by simp; try omega) _
              refine Gr.setCell ?_ (by simp; try omega) _
              refine Gr.setCell ?_ (by simp; try omega) _
              exact GZ
            · have hk1 := firstI_ge isF (onwF A fun m => eqB m (oneN (startLen N) o))
              have hk2 : firstI isF (onwF A fun m => eqB m (oneN (startLen N) o)) = -1 := by omega
              have HF2 := Lib.hid hk2
              clear hfi hk1 hk2
              go_wp2_with fail
              refine (IndexB_calls _ _ false _ o6).mono ?_
              rw [show (firstI (fun y => false == y) (onwF A fun m => eqB m (oneN (startLen N) o))) = -1 from HF2.out]; rintro _ _ ⟨rfl, rfl⟩
              go_wp2_with fail
              refine (Dead_calls _ A (N.trans.length : Int) _ hOn.now (i64_nat (by omega)) (by omega)).mono ?_
              rintro _ w7 ⟨v7, rfl, o7, g7⟩
              obtain ⟨da, dc, rfl, _, _⟩ := o7.ints.len
              replace b8 := b8.gr g7
              replace GZ := GZ.trans g7
              clear C0' C1' S0' S1' hOn bS o6
              by_cases hd : 0 < (deadF A (N.trans.length : Int)).length
              · have HC := Lib.hid (judge_verd HS0.out HGR.out (verd_dead (n := N.trans.length) HF1.out HF2.out hd))
                have hdI : (0 : Int) < ((deadF A (N.trans.length : Int)).length : Int) := by omega
                obtain ⟨db, dof, rfl, d0⟩ := o7.ints.cell hd
                rw [Nat.add_zero] at d0
                have D0 := b8.cell (i := 0) rfl
                have F0 := b8.frozen 0
                have bq1 := b8.set 0 (.int .i64 4)
                have D1 := bq1.cell (i := 1) rfl
                have F1 := bq1.frozen 1
                have bq2 := bq1.set 1 (.slice none 0 0)
                have D2 := bq2.cell (i := 2) rfl
                have F2 := bq2.frozen 2
                have bq3 := bq2.set 2 (.int .i64 (nth (deadF A (N.trans.length : Int)) 0))
                have E0 := bq3.cell (i := 0) rfl
                have E1 := bq3.cell (i := 1) rfl
                have E2 := bq3.cell (i := 2) rfl
                clear b8 bq1 bq2 bq3 g7 o7
                go_wp2_with fail
                refine bodyPost_ret (v := .tuple #[.agg #[.int .i64 (4), .slice none 0 0, .int .i64 ((nth (deadF A (N.trans.length : Int)) 0))], .int .i64 (0)]) (by simp [results, Try.results12, go_sem, E0, E1, E2]) rfl ?_
                refine RetV.mk HC.out (Ints.nil _) ?_
                refine Gr.setCell ?_ (by simp; try omega) _
                refine Gr.setCell ?_ (by simp; try omega) _
                refine Gr.setCell ?_ (by simp; try omega) _
                exact GZ
              · have hd0 : (deadF A (N.trans.length : Int)).length = 0 := by omega
                have HC := Lib.hid (judge_verd HS0.out HGR.out (verd_sound (n := N.trans.length) HF1.out HF2.out hd0))
                have hdI : ¬ (0 : Int) < ((deadF A (N.trans.length : Int)).length : Int) := by omega
                have D0 := b8.cell (i := 0) rfl
                have F0 := b8.frozen 0
                have bq1 := b8.set 0 (.int .i64 1)
                have D1 := bq1.cell (i := 1) rfl
                have F1 := bq1.frozen 1
                have bq2 := bq1.set 1 (.slice none 0 0)
                have D2 := bq2.cell (i := 2) rfl
                have F2 := bq2.frozen 2
                have bq3 := bq2.set 2 (.int .i64 0)
                have E0 := bq3.cell (i := 0) rfl
                have E1 := bq3.cell (i := 1) rfl
                have E2 := bq3.cell (i := 2) rfl
                clear b8 bq1 bq2 bq3 g7 o7
                go_wp2_with fail
                refine bodyPost_ret (v := .tuple #[.agg #[.int .i64 (1), .slice none 0 0, .int .i64 (0)], .int .i64 (0)]) (by simp [results, Try.results12, go_sem, E0, E1, E2]) rfl ?_
                refine RetV.mk HC.out (Ints.nil _) ?_
                refine Gr.setCell ?_ (by simp; try omega) _
                refine Gr.setCell ?_ (by simp; try omega) _
                refine Gr.setCell ?_ (by simp; try omega) _
                exact GZ
      · have bS : Blk ((w4.setCell ⟨w1.heap.size, 0, none⟩ (.slice ma A.marks.length mc)).setCell ⟨w1.heap.size, 1, none⟩ (.slice aa A.arcs.length ac)) w1.heap.size 77 #[.slice ma A.marks.length mc, .slice aa A.arcs.length ac] := bs2
        have hOn : On (fun b => b ≠ w.heap.size + 1) (fun w => SpaceR w (.agg #[.slice ma A.marks.length mc, .slice aa A.arcs.length ac]) A) ((w4.setCell ⟨w1.heap.size, 0, none⟩ (.slice ma A.marks.length mc)).setCell ⟨w1.heap.size, 1, none⟩ (.slice aa A.arcs.length ac)) := (i4.kp (Kp.trans (set_kp (by simp; omega) _) (set_kp (by simp; omega) _))).mono (fun b _ hb => by omega)
        have GF : Gr w1 ((w4.setCell ⟨w1.heap.size, 0, none⟩ (.slice ma A.marks.length mc)).setCell ⟨w1.heap.size, 1, none⟩ (.slice aa A.arcs.length ac)) := by (repeat (first | exact Gr.refl _ | assumption | apply Gr.drewN | apply Gr.drew | apply Gr.alloc | (refine Gr.setCell ?_ (by simp; try omega) _) | refine Gr.trans ?_ (by assumption)))
        clear bs bs1 S0 S1 SF0 SF1 K1 C0 C1 o3 g4 i4
        generalize (w4.setCell ⟨w1.heap.size, 0, none⟩ (.slice ma A.marks.length mc)).setCell ⟨w1.heap.size, 1, none⟩ (.slice aa A.arcs.length ac) = wf at bS hOn GF ⊢
        generalize w1.heap.size = sb at bS ⊢
        replace b0 := b0.gr GF
        replace b8 := b8.gr GF
        have C0 := b0.cell (i := 0) rfl
        have C1 := b0.cell (i := 1) rfl
        have K1 := hN'.gr (GA.trans GF)
        go_wp2_with fail
        refine (Start_calls _ N o _ K1 ho).mono ?_
        rintro _ w5 ⟨v5, rfl, o5, g5⟩
        obtain ⟨ea, ec, rfl, _, _⟩ := o5.ints.len
        have GE : Gr wf (w5.alloc (.cells #[.slice ea (oneN (startLen N) o).length ec] 39)) := g5.alloc _
        have X0 : (w5.alloc (.cells #[.slice ea (oneN (startLen N) o).length ec] 39)).cell? ⟨w5.heap.size, 0, none⟩ = some (.slice ea (oneN (startLen N) o).length ec) := box_cell (Gr.refl _) (i := 0) rfl
        have IE : Ints (w5.alloc (.cells #[.slice ea (oneN (startLen N) o).length ec] 39)) (.slice ea (oneN (startLen N) o).length ec) (oneN (startLen N) o) := o5.ints.alloc _
        replace bS := bS.gr GE
        replace b8 := b8.gr GE
        replace hOn := hOn.gr GE
        replace GF := GF.trans GE
        replace C0 := cell_gr C0 GE
        replace C1 := cell_gr C1 GE
        have S0 := bS.cell (i := 0) rfl
        have S1 := bS.cell (i := 1) rfl
        clear GE g5 o5 K1 b0
        go_wp2_with fail
        generalize w5.alloc (.cells #[.slice ea (oneN (startLen N) o).length ec] 39) = wE at bS b8 hOn GF C0 C1 S0 S1 X0 IE ⊢
        generalize w5.heap.size = eb at X0 ⊢
        go_loopw [46] (fun q wr => ∃ k : Nat, k ≤ A.marks.length ∧ q = .int .i64 k ∧ NoneI (extraB (oneN (startLen N) o)) A.marks k ∧ Gr wE wr) (fun q _ => A.marks.length - (intOf q).toNat)
        case atStart => exact ⟨0, Nat.zero_le _, rfl, NoneI.zero _ _, Gr.refl _⟩
        case round =>
          rename World => wo
          obtain ⟨k, hk, rfl, hall, hgr⟩ := hrel
          have S0' := cell_gr S0 hgr
          have S1' := cell_gr S1 hgr
          have X0' := cell_gr X0 hgr
          by_cases hlt : k < A.marks.length
          · obtain ⟨b, oo, u, rfl, c0, hI⟩ := on_rowI ((hOn.gr hgr).imp fun w h => space_rows h) hlt
            have hkI : (k : Int) < (A.marks.length : Int) := by omega
            have hIn := hI.now
            obtain ⟨ua, uc, rfl, _, _⟩ := hIn.len
            cases hc : coversB (ix A.marks k) (oneN (startLen N) o)
            · have hx : extraB (oneN (startLen N) o) (ix A.marks k) = false := by unfold extraB; rw [hc]; rfl
              clear C0 C1 S1 S1'
              go_wp2_with fail
              refine (Covers_calls _ _ (ix A.marks k) (oneN (startLen N) o) _ hIn (IE.gr hgr)).mono ?_
              rw [hc]; rintro _ _ ⟨rfl, rfl⟩
              go_wp2_with fail
              go_roundw
              case rel => exact ⟨k + 1, by omega, by go_num, hall.succ hx, hgr⟩
              case measure => simp [intOf]; omega
            · cases he2 : eqB (ix A.marks k) (oneN (startLen N) o)
              · have hx : extraB (oneN (startLen N) o) (ix A.marks k) = true := by unfold extraB; rw [hc, he2]; rfl
                have HC := Lib.hid (judge_verd HS0.out HGR.out (verd_extra (n := N.trans.length) (firstI_hit hall hlt hx)))
                go_wp2_with fail
                refine (Covers_calls _ _ (ix A.marks k) (oneN (startLen N) o) _ hIn (IE.gr hgr)).mono ?_
                rw [hc]; rintro _ _ ⟨rfl, rfl⟩
                go_wp2_with fail
                refine (Equal_calls _ _ (ix A.marks k) (oneN (startLen N) o) _ hIn (IE.gr hgr)).mono ?_
                rw [he2]; rintro _ w7 ⟨rfl, g7⟩
                have GZ := ((GA.trans GF).trans hgr).trans g7
                replace b8 := (b8.gr hgr).gr g7
                have hIz := ((hI.gr g7).kp (set_kp (a := ⟨w.heap.size + 1, 0, none⟩) (by simp) (.int .i64 2))).kp (set_kp (a := ⟨w.heap.size + 1, 1, none⟩) (by simp) (.slice ua (ix A.marks k).length uc)) |>.kp (set_kp (a := ⟨w.heap.size + 1, 2, none⟩) (by simp) (.int .i64 0))
                have D0 := b8.cell (i := 0) rfl
                have F0 := b8.frozen 0
                have bq1 := b8.set 0 (.int .i64 2)
                have D1 := bq1.cell (i := 1) rfl
                have F1 := bq1.frozen 1
                have bq2 := bq1.set 1 (.slice ua (ix A.marks k).length uc)
                have D2 := bq2.cell (i := 2) rfl
                have F2 := bq2.frozen 2
                have bq3 := bq2.set 2 (.int .i64 0)
                have E0 := bq3.cell (i := 0) rfl
                have E1 := bq3.cell (i := 1) rfl
                have E2 := bq3.cell (i := 2) rfl
                clear b8 bq1 bq2 bq3 bS hOn C0 C1 S0 S1 S0' S1' X0 X0' IE c0 hI hIn
                go_wp2_with fail
                refine bodyPost_ret (v := .tuple #[.agg #[.int .i64 (2), .slice ua (ix A.marks k).length uc, .int .i64 (0)], .int .i64 (0)]) (by simp [results, Try.results12, go_sem, E0, E1, E2]) rfl ?_
                refine RetV.mk HC.out hIz.now ?_
                refine Gr.setCell ?_ (by simp; try omega) _
                refine Gr.setCell ?_ (by simp; try omega) _
                refine Gr.setCell ?_ (by simp; try omega) _
                exact GZ
              · have hx : extraB (oneN (startLen N) o) (ix A.marks k) = false := by unfold extraB; rw [hc, he2]; rfl
                clear C0 C1 S1 S1'
                go_wp2_with fail
                refine (Covers_calls _ _ (ix A.marks k) (oneN (startLen N) o) _ hIn (IE.gr hgr)).mono ?_
                rw [hc]; rintro _ _ ⟨rfl, rfl⟩
                go_wp2_with fail
                refine (Equal_calls _ _ (ix A.marks k) (oneN (startLen N) o) _ hIn (IE.gr hgr)).mono ?_
                rw [he2]; rintro _ w7 ⟨rfl, g7⟩
                go_wp2_with fail
                go_roundw
                case rel => exact ⟨k + 1, by omega, by go_num, hall.succ hx, hgr.trans g7⟩
                case measure => simp [intOf]; omega
          · obtain rfl : k = A.marks.length := by omega
            have HF1 := Lib.hid (firstI_miss hall)
            have C0' := cell_gr C0 hgr
            have C1' := cell_gr C1 hgr
            have GZ := (GA.trans GF).trans hgr
            replace hOn := hOn.gr hgr
            replace b8 := b8.gr hgr
            replace bS := bS.gr hgr
            have hol := onw_len hsr (fun m => eqB m (oneN (startLen N) o))
            have HOL := Lib.hid hol
            clear hol hall C0 C1 S0 S1
            go_wp2_with fail
            refine (Onward_calls _ A 36 _ (fun m => eqB m (oneN (startLen N) o)) _ eg hOn.now (Judge1_answers _ _ _ (oneN (startLen N) o) _ X0' (IE.gr hgr)) hsr (by omega) (by omega)).mono ?_
            rintro _ w6 ⟨v6, rfl, o6, g6⟩
            obtain ⟨oa, oc, rfl, _, _⟩ := o6.len
            replace hOn := hOn.gr g6
            replace b8 := b8.gr g6
            replace bS := bS.gr g6
            replace GZ := GZ.trans g6
            replace C0' := cell_gr C0' g6
            replace C1' := cell_gr C1' g6
            replace S0' := cell_gr S0' g6
            replace S1' := cell_gr S1' g6
            clear X0 X0' IE hgr g6
            rcases hfi : firstI isF (onwF A fun m => eqB m (oneN (startLen N) o)) with k | k
            · obtain ⟨hk1, _, _⟩ := firstI_some hfi
              rw [HOL.out] at hk1
              have HF2 := Lib.hid hfi
              obtain ⟨b, oo, u, rfl, c0, hI⟩ := on_rowI (hOn.imp fun w h => space_rows h) hk1
              have hkI : (k : Int) < (A.marks.length : Int) := by omega
              have hk0 : (0 : Int) ≤ (k : Int) := by omega
              obtain ⟨ua, uc, rfl, _, _⟩ := hI.now.len
              have HC := Lib.hid (judge_verd HS0.out HGR.out (verd_stuck (n := N.trans.length) HF1.out HF2.out))
              have hIz := (hI.kp (set_kp (a := ⟨w.heap.size + 1, 0, none⟩) (by simp) (.int .i64 3))).kp (set_kp (a := ⟨w.heap.size + 1, 1, none⟩) (by simp) (.slice ua (ix A.marks k).length uc)) |>.kp (set_kp (a := ⟨w.heap.size + 1, 2, none⟩) (by simp) (.int .i64 0))
              have D0 := b8.cell (i := 0) rfl
              have F0 := b8.frozen 0
              have bq1 := b8.set 0 (.int .i64 3)
              have D1 := bq1.cell (i := 1) rfl
              have F1 := bq1.frozen 1
              have bq2 := bq1.set 1 (.slice ua (ix A.marks k).length uc)
              have D2 := bq2.cell (i := 2) rfl
              have F2 := bq2.frozen 2
              have bq3 := bq2.set 2 (.int .i64 0)
              have E0 := bq3.cell (i := 0) rfl
              have E1 := bq3.cell (i := 1) rfl
              have E2 := bq3.cell (i := 2) rfl
              clear hfi b8 bq1 bq2 bq3 bS hOn C0' C1' S1' hI
              go_wp2_with fail
              refine (IndexB_calls _ _ false _ o6).mono ?_
              rw [show (firstI (fun y => false == y) (onwF A fun m => eqB m (oneN (startLen N) o))) = (k : Int) from HF2.out]; rintro _ _ ⟨rfl, rfl⟩
              go_wp2_with fail
              refine bodyPost_ret (v := .tuple #[.agg #[.int .i64 (3), .slice ua (ix A.marks k).length uc, .int .i64 (0)], .int .i64 (0)]) (by simp [results, Try.results12, go_sem, E0, E1, E2]) rfl ?_
              refine RetV.mk HC.out hIz.now ?_
              refine Gr.setCell ?_ (by simp; try omega) _
              refine Gr.setCell ?_ (by simp; try omega) _
              refine Gr.setCell ?_ (by simp; try omega) _
              exact GZ
            · have hk1 := firstI_ge isF (onwF A fun m => eqB m (oneN (startLen N) o))
              have hk2 : firstI isF (onwF A fun m => eqB m (oneN (startLen N) o)) = -1 := by omega
              have HF2 := Lib.hid hk2
              clear hfi hk1 hk2
              go_wp2_with fail
              refine (IndexB_calls _ _ false _ o6).mono ?_
              rw [show (firstI (fun y => false == y) (onwF A fun m => eqB m (oneN (startLen N) o))) = -1 from HF2.out]; rintro _ _ ⟨rfl, rfl⟩
              go_wp2_with fail
              refine (Dead_calls _ A (N.trans.length : Int) _ hOn.now (i64_nat (by omega)) (by omega)).mono ?_
              rintro _ w7 ⟨v7, rfl, o7, g7⟩
              obtain ⟨da, dc, rfl, _, _⟩ := o7.ints.len
              replace b8 := b8.gr g7
              replace GZ := GZ.trans g7
              clear C0' C1' S0' S1' hOn bS o6
              by_cases hd : 0 < (deadF A (N.trans.length : Int)).length
              · have HC := Lib.hid (judge_verd HS0.out HGR.out (verd_dead (n := N.trans.length) HF1.out HF2.out hd))
                have hdI : (0 : Int) < ((deadF A (N.trans.length : Int)).length : Int) := by omega
                obtain ⟨db, dof, rfl, d0⟩ := o7.ints.cell hd
                rw [Nat.add_zero] at d0
                have D0 := b8.cell (i := 0) rfl
                have F0 := b8.frozen 0
                have bq1 := b8.set 0 (.int .i64 4)
                have D1 := bq1.cell (i := 1) rfl
                have F1 := bq1.frozen 1
                have bq2 := bq1.set 1 (.slice none 0 0)
                have D2 := bq2.cell (i := 2) rfl
                have F2 := bq2.frozen 2
                have bq3 := bq2.set 2 (.int .i64 (nth (deadF A (N.trans.length : Int)) 0))
                have E0 := bq3.cell (i := 0) rfl
                have E1 := bq3.cell (i := 1) rfl
                have E2 := bq3.cell (i := 2) rfl
                clear b8 bq1 bq2 bq3 g7 o7
                go_wp2_with fail
                refine bodyPost_ret (v := .tuple #[.agg #[.int .i64 (4), .slice none 0 0, .int .i64 ((nth (deadF A (N.trans.length : Int)) 0))], .int .i64 (0)]) (by simp [results, Try.results12, go_sem, E0, E1, E2]) rfl ?_
                refine RetV.mk HC.out (Ints.nil _) ?_
                refine Gr.setCell ?_ (by simp; try omega) _
                refine Gr.setCell ?_ (by simp; try omega) _
                refine Gr.setCell ?_ (by simp; try omega) _
                exact GZ
              · have hd0 : (deadF A (N.trans.length : Int)).length = 0 := by omega
                have HC := Lib.hid (judge_verd HS0.out HGR.out (verd_sound (n := N.trans.length) HF1.out HF2.out hd0))
                have hdI : ¬ (0 : Int) < ((deadF A (N.trans.length : Int)).length : Int) := by omega
                have D0 := b8.cell (i := 0) rfl
                have F0 := b8.frozen 0
                have bq1 := b8.set 0 (.int .i64 1)
                have D1 := bq1.cell (i := 1) rfl
                have F1 := bq1.frozen 1
                have bq2 := bq1.set 1 (.slice none 0 0)
                have D2 := bq2.cell (i := 2) rfl
                have F2 := bq2.frozen 2
                have bq3 := bq2.set 2 (.int .i64 0)
                have E0 := bq3.cell (i := 0) rfl
                have E1 := bq3.cell (i := 1) rfl
                have E2 := bq3.cell (i := 2) rfl
                clear b8 bq1 bq2 bq3 g7 o7
                go_wp2_with fail
                refine bodyPost_ret (v := .tuple #[.agg #[.int .i64 (1), .slice none 0 0, .int .i64 (0)], .int .i64 (0)]) (by simp [results, Try.results12, go_sem, E0, E1, E2]) rfl ?_
                refine RetV.mk HC.out (Ints.nil _) ?_
                refine Gr.setCell ?_ (by simp; try omega) _
                refine Gr.setCell ?_ (by simp; try omega) _
                refine Gr.setCell ?_ (by simp; try omega) _
                exact GZ
end Go.Proofs.Ytjpapgbdhflgnaa
