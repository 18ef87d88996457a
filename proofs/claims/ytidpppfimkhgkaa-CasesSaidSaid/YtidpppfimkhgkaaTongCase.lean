/- What was ended of a case that is at its end is a word. No program is in sight here. -/
import Derived.Test.YtidpppfimkhgkaaTongLaw
import Derived.Test.YtidpppfimkhgkaaReplLaw
import Derived.Test.YtidpppfimkhgkaaCaseNetLaw
namespace Go.Tok
open Go.Proofs.Ytidpppfimkhgkaa
set_option linter.unusedVariables false
theorem tokTo_upd {f g : Nat → Int} {t : Nat} (h : ∀ p, p ≠ t → g p = f p) : ∀ n, tokTo g n = tokTo f n + if t < n then g t - f t else 0 := by
  intro n
  induction n with
  | zero => simp [tokTo]
  | succ n ih =>
    rw [tokTo_succ, tokTo_succ, ih]
    by_cases e : t = n
    · subst e; rw [if_neg (by omega), if_pos (by omega)]; omega
    · rw [h n (fun h => e h.symm)]
      by_cases h1 : t < n
      · rw [if_pos h1, if_pos (by omega)]; omega
      · rw [if_neg h1, if_neg (by omega)]; omega
theorem tokTo_nn {f : Nat → Int} (hf : ∀ p, 0 ≤ f p) : ∀ n, 0 ≤ tokTo f n
  | 0 => by simp [tokTo]
  | n + 1 => by rw [tokTo_succ]; have := tokTo_nn hf n; have := hf n; omega
theorem tokTo_one_le {f : Nat → Int} (hf : ∀ p, 0 ≤ f p) {t : Nat} : ∀ n, t < n → f t ≤ tokTo f n
  | 0, h => by omega
  | n + 1, h => by
    rw [tokTo_succ]
    by_cases e : t = n
    · subst e; have := tokTo_nn hf t; omega
    · have := tokTo_one_le hf n (t := t) (by omega); have := hf n; omega
/-- the tokens that are held by what goes on -/
def heldN (N : NetD) (b : List Int) (p : Nat) : Int := tokTo (fun t => nth b t * nth (N.tr t).pre p) N.trans.length
structure Flat (N : NetD) (c : CaseD) (x : List Int) : Prop where
  ok : CaseOk N c
  eq : ∀ p, nth x p = nth c.mark p + heldN N c.busy p
theorem pre_nn {N : NetD} (hok : netOkB N = true) (t p : Nat) : t < N.trans.length → 0 ≤ nth (N.tr t).pre p ∧ 0 ≤ nth (N.tr t).post p := fun ht => by
  have := w_nth (netOk_tr hok ht) p; omega
theorem held_nn {N : NetD} {c : CaseD} (h : CaseOk N c) (p : Nat) : 0 ≤ heldN N c.busy p := by
  unfold heldN
  have : ∀ n, n ≤ N.trans.length → 0 ≤ tokTo (fun t => nth c.busy t * nth (N.tr t).pre p) n := by
    intro n
    induction n with
    | zero => intro _; simp [tokTo]
    | succ n ih =>
      intro hn
      rw [tokTo_succ]
      have h1 := ih (by omega)
      have h2 := rightB_nth h.br n
      have h3 := (pre_nn h.ok n p (by omega)).1
      have := Int.mul_nonneg h2.1 h3
      omega
  exact this _ (Nat.le_refl _)
theorem held_one {N : NetD} {c : CaseD} (h : CaseOk N c) {t : Nat} (ht : t < N.trans.length) (p : Nat) : nth c.busy t * nth (N.tr t).pre p ≤ heldN N c.busy p := by
  unfold heldN
  have : ∀ n, n ≤ N.trans.length → t < n → nth c.busy t * nth (N.tr t).pre p ≤ tokTo (fun t => nth c.busy t * nth (N.tr t).pre p) n := by
    intro n
    induction n with
    | zero => intro _ h; omega
    | succ n ih =>
      intro hn htn
      rw [tokTo_succ]
      have h2 := rightB_nth h.br n
      have h3 := (pre_nn h.ok n p (by omega)).1
      have h4 := Int.mul_nonneg h2.1 h3
      by_cases e : t = n
      · subst e
        have : ∀ n, n ≤ N.trans.length → 0 ≤ tokTo (fun t => nth c.busy t * nth (N.tr t).pre p) n := by
          intro n
          induction n with
          | zero => intro _; simp [tokTo]
          | succ n ih =>
            intro hn
            rw [tokTo_succ]
            have h1 := ih (by omega)
            have := Int.mul_nonneg (rightB_nth h.br n).1 (pre_nn h.ok n p (by omega)).1
            omega
        have := this t (by omega)
        omega
      · have := ih (by omega) (by omega); omega
  exact this _ (Nat.le_refl _) ht
theorem held_set {N : NetD} {b : List Int} {t : Nat} (hb : t < b.length) (ht : t < N.trans.length) (v : Int) (p : Nat) : heldN N (b.set t (nth b t + v)) p = heldN N b p + v * nth (N.tr t).pre p := by
  unfold heldN
  rw [tokTo_upd (f := fun t => nth b t * nth (N.tr t).pre p) (t := t) (fun q hq => ?_), if_pos ht]
  · rw [nth_set_self hb, Int.add_mul]; omega
  · have : nth (b.set t (nth b t + v)) q = nth b q := by
      by_cases hql : q < b.length
      · rw [nth_set _ _ _ hql, if_neg (fun e => hq e.symm)]
      · rw [nth_ge (by simpa using hql), nth_ge (by omega)]
    rw [this]
section
variable {N : NetD} {m0 : List Int} {most : Nat} {s : FinD} {c c' : CaseD} {x : List Int} {t : Nat}
theorem flat_skip (W : Whole N m0 most s) (h : Flat N c x) (hx : x ∈ s.marks) (ht : t < N.trans.length) (hd : doK N c 1 t = (c', 0)) : ∃ y, Fires N x t y ∧ y ∈ s.marks ∧ Flat N c' y := by
  rw [doK1] at hd
  rcases hf : fireF N c.mark t with ⟨z, e⟩
  rw [hf] at hd
  by_cases he : e = 0
  · subst he
    rw [withM_ok rfl] at hd
    cases hd
    obtain ⟨k, hk, F⟩ := fire_ok h.ok.fits hf
    obtain rfl : k = t := by omega
    obtain ⟨y, F', hy⟩ := W.fires hx ht (fun p => by rw [h.eq]; have := F.pre p; have := held_nn h.ok p; omega)
    refine ⟨y, F', hy, ⟨h.ok.ok, ?_, h.ok.bl, ?_, h.ok.br⟩, fun p => ?_⟩
    · simp only []; rw [F.len]; exact h.ok.ml
    · exact (fits_sizes (F.fits h.ok.fits)).2.2.2.2.2.1
    · rw [F'.eq, h.eq]; simp only []; rw [F.eq]; omega
  · rw [withM_bad he] at hd; cases hd; exact absurd rfl he
theorem flat_begin (h : Flat N c x) (ht : t < N.trans.length) (hl : (N.tr t).label ≠ 0) (hd : doK N c 2 t = (c', 0)) : Flat N c' x := by
  rcases doK2_cases h.ok ht hl with ⟨e, h1, h2⟩ | ⟨x', h1, B⟩
  · rw [hd] at h1; cases h1; exact absurd rfl h2
  · rw [hd] at h1
    cases h1
    refine ⟨B.okx, fun p => ?_⟩
    rw [B.busy, held_set (by rw [h.ok.bl]; exact ht) ht, h.eq, B.mark]; omega
/-- what ending and giving back come to -/
theorem back_cases (h : CaseOk N c) {ws : List Int} (ht : t < N.trans.length) (hw : ws.length = c.mark.length) (hd : withBM (busyL c.busy t (-1)) (zipF plusf c.mark ws) = (c', 0)) : 1 ≤ nth c.busy t ∧ CaseOk N c' ∧ c'.busy = c.busy.set t (nth c.busy t + -1) ∧ ∀ p, nth c'.mark p = nth c.mark p + nth ws p := by
  by_cases hlow : nth c.busy t + -1 < 0
  · rw [busyL_low hlow, withBM_b (by decide)] at hd; cases hd
  · have hbr := rightB_nth h.br t
    have hbu := busyL_ok (b := c.busy) (t := t) (more := -1) (by omega) (by omega)
    rcases plus_cases c.mark ws with ⟨h1, _⟩ | ⟨h1, _⟩ | ⟨_, _, h2, Y, h3, h4, h5, h6⟩
    · rw [hbu, withBM_m rfl (by rw [h1]; decide)] at hd; rw [h1] at hd; cases hd
    · rw [hbu, withBM_m rfl (by rw [h1]; decide)] at hd; rw [h1] at hd; cases hd
    · rw [hbu, h3, withBM_ok rfl rfl] at hd
      cases hd
      exact ⟨by omega, ⟨h.ok, by have := h.ml; simp only []; omega, by simp [h.bl], h6, rightB_set h.br _ (by omega) (by omega)⟩, rfl, h5⟩
theorem flat_undo (h : Flat N c x) (ht : t < N.trans.length) (hd : doK N c 4 t = (c', 0)) : Flat N c' x := by
  rw [doK4] at hd
  have F := netOk_tr h.ok.ok ht
  obtain ⟨h1, h2, h3, h4⟩ := back_cases h.ok ht (by have := F.pre; have := h.ok.ml; omega) hd
  refine ⟨h2, fun p => ?_⟩
  rw [h3, held_set (by rw [h.ok.bl]; exact ht) ht, h.eq, h4]; omega
theorem flat_end (W : Whole N m0 most s) (h : Flat N c x) (hx : x ∈ s.marks) (ht : t < N.trans.length) (hd : doK N c 3 t = (c', 0)) : ∃ y, Fires N x t y ∧ y ∈ s.marks ∧ Flat N c' y := by
  rw [doK3] at hd
  have F := netOk_tr h.ok.ok ht
  obtain ⟨h1, h2, h3, h4⟩ := back_cases h.ok ht (by have := F.post; have := h.ok.ml; omega) hd
  obtain ⟨y, F', hy⟩ := W.fires hx ht (fun p => by
    rw [h.eq]
    have h5 := held_one h.ok ht p
    have h6 := rightB_nth h.ok.mr p
    have h7 := (pre_nn h.ok.ok t p ht).1
    have h8 := Int.mul_le_mul_of_nonneg_right h1 h7
    omega)
  refine ⟨y, F', hy, h2, fun p => ?_⟩
  rw [h3, held_set (by rw [h.ok.bl]; exact ht) ht, F'.eq, h.eq, h4]; omega
end
/-- the labels of what was ended -/
def endTo (N : NetD) (c : CaseD) (ops : List CopD) : Nat → List Int
  | 0 => []
  | k + 1 => if (doF N (playTo N c ops k).1 (ix ops k).kind (ix ops k).tran).2 = 0 ∧ (ix ops k).kind = 3 then endTo N c ops k ++ [(N.tr (ix ops k).tran.toNat).label] else endTo N c ops k
theorem endTo_zero (N : NetD) (c : CaseD) (ops : List CopD) : endTo N c ops 0 = [] := rfl
theorem endTo_len (N : NetD) (c : CaseD) (ops : List CopD) : ∀ k, (endTo N c ops k).length ≤ k
  | 0 => by simp [endTo]
  | k + 1 => by
    have := endTo_len N c ops k
    rw [endTo]; split
    · simp; omega
    · omega
theorem endTo_no {N : NetD} {c : CaseD} {ops : List CopD} {k : Nat} (h : ¬ ((doF N (playTo N c ops k).1 (ix ops k).kind (ix ops k).tran).2 = 0 ∧ (ix ops k).kind = 3)) : endTo N c ops (k + 1) = endTo N c ops k := by rw [endTo, if_neg h]
theorem endTo_yes {N : NetD} {c : CaseD} {ops : List CopD} {k j : Nat} (h : (doF N (playTo N c ops k).1 (ix ops k).kind (ix ops k).tran).2 = 0) (h3 : (ix ops k).kind = 3) (hj : (ix ops k).tran = j) : endTo N c ops (k + 1) = endTo N c ops k ++ [(N.tr j).label] := by rw [endTo, if_pos ⟨h, h3⟩, hj, Int.toNat_natCast]
theorem end_runs {N : NetD} {m0 : List Int} {most : Nat} {s : FinD} {c : CaseD} {ops : List CopD} (W : Whole N m0 most s) (h0 : Flat N c m0) : ∀ k, k ≤ ops.length → ∃ seq x, Runs N m0 seq x ∧ seenL N seq = endTo N c ops k ∧ x ∈ s.marks ∧ Flat N (playTo N c ops k).1 x := by
  intro k
  induction k with
  | zero => intro _; exact ⟨[], m0, .nil _, rfl, W.start, h0⟩
  | succ k ih =>
    intro hk
    obtain ⟨seq, x, hr, hse, hx, he⟩ := ih (by omega)
    have hs := play_step (N := N) (c := c) (ops := ops) (k := k) (by omega)
    by_cases hz : (doF N (playTo N c ops k).1 (ix ops k).kind (ix ops k).tran).2 = 0
    · obtain ⟨hck, h14, j, hj, hjl, hf, hd⟩ := doF_zero hz
      rw [if_pos hz] at hs
      rcases hd2 : doK N (playTo N c ops k).1 (ix ops k).kind j with ⟨c', e⟩
      have hz' := hz
      rw [hd2] at hd
      rw [hd] at hs hz
      have he0 : e = 0 := hz
      subst he0
      rw [hs]
      have hlab := (netOk_tr hck.ok hjl).lab0
      by_cases h3 : (ix ops k).kind = 3
      · rw [h3] at hd2
        have hl0 := kind2 (k := (ix ops k).kind) (by omega) hf
        obtain ⟨y, F, hy, E⟩ := flat_end W he hx hjl hd2
        exact ⟨_, y, hr.snoc F, by rw [seen_append, seen_one, if_pos (by omega), hse, endTo_yes hz' h3 hj], hy, E⟩
      · rw [endTo_no (fun h => h3 h.2)]
        by_cases h1 : (ix ops k).kind = 1
        · rw [h1] at hd2
          have hl0 : (N.tr j).label = 0 := by rw [decide_eq_true h1] at hf; simpa using hf
          obtain ⟨y, F, hy, E⟩ := flat_skip W he hx hjl hd2
          exact ⟨_, y, hr.snoc F, by rw [seen_append, seen_one, if_neg (by omega), hse, List.append_nil], hy, E⟩
        · by_cases h2 : (ix ops k).kind = 2
          · rw [h2] at hd2
            exact ⟨seq, x, hr, hse, hx, flat_begin he hjl (kind2 (by omega) hf) hd2⟩
          · have h4 : (ix ops k).kind = 4 := by omega
            rw [h4] at hd2
            exact ⟨seq, x, hr, hse, hx, flat_undo he hjl hd2⟩
    · rw [if_neg hz] at hs
      exact ⟨seq, x, hr, by rw [endTo_no (fun h => hz h.1)]; exact hse, hx, by rw [hs]; exact he⟩
/-- at its end, and nothing goes on: a word -/
theorem case_word {N : NetD} {m0 mE : List Int} {most : Nat} {s : FinD} {c : CaseD} {ops : List CopD} (W : Whole N m0 most s) (h0 : Flat N c m0) (hm : (playTo N c ops ops.length).1.mark = mE) (hb : ∀ t, nth (playTo N c ops ops.length).1.busy t ≤ 0) : IsWord N m0 mE (endTo N c ops ops.length) := by
  obtain ⟨seq, x, hr, hse, hx, he⟩ := end_runs (ops := ops) W h0 ops.length (Nat.le_refl _)
  refine ⟨seq, ?_, hse⟩
  have hz : ∀ p, heldN N (playTo N c ops ops.length).1.busy p = 0 := by
    intro p
    unfold heldN
    rw [tokTo_congr (g := fun _ => 0) _ (fun t _ => ?_), tokTo_const0]
    have h1 := rightB_nth he.ok.br t
    have h2 := hb t
    rw [show nth (playTo N c ops ops.length).1.busy t = 0 by omega, Int.zero_mul]
  have hxm : x = mE := by
    rw [← hm]
    refine ext_nth ?_ fun p _ => by rw [he.eq, hz]; omega
    have h3 := he.ok.ml
    have h4 := fits_len (W.fit x hx)
    omega
  rw [hxm] at hr
  exact hr
theorem flat_start {N : NetD} (hok : netOkB N = true) {i : Nat} (hi : i < N.places.toNat) : Flat N ⟨oneN N.places.toNat (i : Int), List.replicate N.trans.length 0⟩ (oneN N.places.toNat (i : Int)) := by
  have h16 := netOk_places hok
  have right : ∀ n, i < n → rightB (oneN n (i : Int)) = true := fun n hn => right_of_nth fun p _ => by rw [nth_oneN _ _ _ hn]; split <;> omega
  refine ⟨⟨hok, ?_, by simp, right _ hi, ?_⟩, fun p => ?_⟩
  · simp only [oneN_len]; omega
  · rw [rightB_iff]; intro x hx; have := (List.mem_replicate.1 hx).2; omega
  · simp only []
    have : heldN N (List.replicate N.trans.length 0) p = 0 := by
      unfold heldN
      rw [tokTo_congr (g := fun _ => 0) _ (fun t ht => ?_), tokTo_const0]
      rw [nth_lt (by simpa using ht)]; simp
    omega
end Go.Tok
