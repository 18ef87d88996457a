/- What is done in a case is a run of the net with a place for each work. No program is in sight here. -/
import Derived.Test.YtidpppfimkhgkaaBusyLaw
import Derived.Test.YtidpppfimkhgkaaCases6
import Derived.Test.YtidpppfimkhgkaaGS
namespace Go.Tok
open Go.Proofs.Ytidpppfimkhgkaa
set_option linter.unusedVariables false

theorem nth_append (xs ys : List Int) (p : Nat) : nth (xs ++ ys) p = if p < xs.length then nth xs p else nth ys (p - xs.length) := by
  split
  · rename_i h; rw [nth_lt (by simp; omega), nth_lt h, List.getElem_append_left h]
  · rename_i h
    by_cases h2 : p - xs.length < ys.length
    · rw [nth_lt (by simp; omega), nth_lt h2, List.getElem_append_right (by omega)]
    · rw [nth_ge (by simp; omega), nth_ge (by omega)]
theorem nth_zeros (n k p : Nat) : nth ((List.replicate n (0 : Int)).drop k) p = 0 := by
  by_cases h : p < ((List.replicate n (0 : Int)).drop k).length
  · rw [nth_lt h]; simp
  · rw [nth_ge (by omega)]
theorem nth_wide_no {n : Nat} {ws : List Int} (p : Nat) : nth (wideL n ws (-1)) p = nth ws p := by
  rw [wideL_no (by decide), nth_append]
  split
  · rfl
  · rename_i h; rw [nth_zeros, nth_ge (by omega)]
theorem nth_wide_one {n j : Nat} (h : j < n) (p : Nat) : nth (wideL n [] (j : Int)) p = if p = j then 1 else 0 := by
  rw [wideL_yes]
  have hl : j < ([] ++ (List.replicate n (0 : Int)).drop ([] : List Int).length).length := by simpa using h
  by_cases hp : p < ([] ++ (List.replicate n (0 : Int)).drop ([] : List Int).length).length
  · rw [nth_set _ _ _ hp]
    by_cases e : j = p
    · rw [if_pos e, if_pos e.symm]
    · rw [if_neg e, if_neg (fun h => e h.symm)]; exact nth_zeros n 0 p
  · rw [nth_ge (by simpa using hp), if_neg (by simp at hp; omega)]
theorem wide_bad {n : Nat} {ws : List Int} {i : Int} (h : ws.any badW = false) : (wideL n ws i).any badW = false := by
  rw [List.any_eq_false] at h ⊢
  intro x hx
  have h0 : ∀ y ∈ ws ++ (List.replicate n (0 : Int)).drop ws.length, ¬ badW y = true := by
    intro y hy
    rcases List.mem_append.1 hy with h1 | h1
    · exact h y h1
    · have := (List.mem_replicate.1 (List.mem_of_mem_drop h1)).2
      subst this; simp [badW]
  unfold wideL at hx
  split at hx
  · rcases List.mem_or_eq_of_mem_set hx with h1 | h1
    · exact h0 x h1
    · subst h1; simp [badW]
  · exact h0 x hx
section
variable {N : NetD} (hok : netOkB N = true) (hP : busyP N ≤ 16) (hT : N.trans.length + visTo N.trans N.trans.length ≤ 24)
include hok
theorem tr_facts {k : Nat} (hk : k < N.trans.length) : (N.tr k).pre.length = N.places.toNat ∧ (N.tr k).post.length = N.places.toNat ∧ (N.tr k).pre.any badW = false ∧ (N.tr k).post.any badW = false ∧ 0 ≤ (N.tr k).label ∧ (N.tr k).label ≤ 26 := by
  have F := netOk_tr hok hk
  have h1 := F.pre
  have h2 := F.post
  refine ⟨by omega, by omega, ?_, ?_, F.lab0, F.lab1⟩
  · rw [List.any_eq_false]; intro x hx; have := F.preW x hx; unfold badW; simp; omega
  · rw [List.any_eq_false]; intro x hx; have := F.postW x hx; unfold badW; simp; omega
theorem busyT_ok {k : Nat} (hk : k < N.trans.length) {n next : Nat} (hn : N.places.toNat ≤ n) : ∀ t ∈ busyT n (N.tr k) next, tranOkB (n : Int) t = true := by
  obtain ⟨f1, f2, f3, f4, f5, f6⟩ := tr_facts hok hk
  have hw : ∀ ws i, ws.any badW = false → ws.length ≤ n → ∀ us j, us.any badW = false → us.length ≤ n → ∀ l, 0 ≤ l → l ≤ 26 → tranOkB (n : Int) ⟨l, wideL n ws i, wideL n us j⟩ = true := by
    intro ws i h1 h2 us j h3 h4 l h5 h6
    unfold tranOkB
    simp only [wide_bad h1, wide_bad h3, wideL_len h2, wideL_len h4]
    simp [h5, h6]
  intro t ht
  unfold busyT at ht
  split at ht
  · rw [List.mem_singleton.1 ht]; exact hw _ _ f3 (by omega) _ _ f4 (by omega) _ (by omega) (by omega)
  · simp only [List.mem_cons, List.not_mem_nil, or_false] at ht
    rcases ht with rfl | rfl
    · exact hw _ _ f3 (by omega) _ _ rfl (by simp) _ (by omega) (by omega)
    · exact hw _ _ rfl (by simp) _ _ f4 (by omega) _ f5 f6
theorem busyTo_ok {n : Nat} (hn : N.places.toNat ≤ n) : ∀ k, k ≤ N.trans.length → ∀ t ∈ busyTo N n k, tranOkB (n : Int) t = true := by
  intro k
  induction k with
  | zero => intro _ t ht; rw [busyTo_zero] at ht; cases ht
  | succ k ih =>
    intro hk t ht
    rw [busyTo] at ht
    rcases List.mem_append.1 ht with h | h
    · exact ih (by omega) t h
    · exact busyT_ok hok (by omega) hn t h
theorem busy_len : (busyN N).trans.length = N.trans.length + visTo N.trans N.trans.length := busyTo_len (fun k hk => (tr_facts hok hk).2.2.2.2.1) _ _ (Nat.le_refl _)
include hP hT
theorem busyN_ok : netOkB (busyN N) = true := by
  unfold netOkB
  simp only [Bool.and_eq_true, decide_eq_true_eq, List.all_eq_true]
  refine ⟨⟨⟨by unfold busyN; simp only []; omega, by unfold busyN; simp only []; omega⟩, by rw [busy_len hok]; exact hT⟩, fun t ht => ?_⟩
  exact busyTo_ok hok (by unfold busyP; omega) _ (Nat.le_refl _) t ht
omit hP hT
omit hok in
theorem busyTo_split {n k : Nat} : ∀ m, k + 1 ≤ m → ∃ r, busyTo N n m = busyTo N n k ++ (busyT n (N.tr k) (N.places.toNat + visTo N.trans k) ++ r) := by
  intro m
  induction m with
  | zero => intro h; omega
  | succ m ih =>
    intro h
    by_cases e : k = m
    · subst e; exact ⟨[], by rw [busyTo, List.append_nil]⟩
    · obtain ⟨r, hr⟩ := ih (by omega)
      exact ⟨r ++ busyT n (N.tr m) (N.places.toNat + visTo N.trans m), by rw [busyTo, hr]; simp⟩
theorem busy_tr {k : Nat} (hk : k < N.trans.length) (j : Nat) (hj : j < (busyT (busyP N) (N.tr k) (N.places.toNat + visTo N.trans k)).length) :
    (busyN N).tr (k + visTo N.trans k + j) = (busyT (busyP N) (N.tr k) (N.places.toNat + visTo N.trans k)).getD j default ∧ k + visTo N.trans k + j < (busyN N).trans.length := by
  obtain ⟨r, hr⟩ := busyTo_split (N := N) (n := busyP N) (k := k) N.trans.length (by omega)
  have hl := busyTo_len (fun k hk => (tr_facts hok hk).2.2.2.2.1) (busyP N) k (by omega)
  have ht : (busyN N).trans = busyTo N (busyP N) k ++ (busyT (busyP N) (N.tr k) (N.places.toNat + visTo N.trans k) ++ r) := hr
  constructor
  · have e0 : ∀ (M : NetD) i, M.tr i = M.trans.getD i default := fun M i => by unfold NetD.tr; rfl
    rw [e0 (busyN N), ht, List.getD_eq_getElem?_getD, List.getD_eq_getElem?_getD, List.getElem?_append_right (by omega), hl, show k + visTo N.trans k + j - (k + visTo N.trans k) = j by omega, List.getElem?_append_left hj]
  · rw [ht, List.length_append, hl, List.length_append]; omega
theorem busy_silent {k : Nat} (hk : k < N.trans.length) (h : (N.tr k).label = 0) : (busyN N).tr (k + visTo N.trans k) = ⟨0, wideL (busyP N) (N.tr k).pre (-1), wideL (busyP N) (N.tr k).post (-1)⟩ ∧ k + visTo N.trans k < (busyN N).trans.length := by
  have := busy_tr hok hk 0 (by unfold busyT; rw [if_pos h]; simp)
  unfold busyT at this
  rw [if_pos h] at this
  exact this
theorem busy_begin {k : Nat} (hk : k < N.trans.length) (h : (N.tr k).label ≠ 0) : (busyN N).tr (k + visTo N.trans k) = ⟨0, wideL (busyP N) (N.tr k).pre (-1), wideL (busyP N) [] ((N.places.toNat + visTo N.trans k : Nat) : Int)⟩ ∧ k + visTo N.trans k < (busyN N).trans.length := by
  have := busy_tr hok hk 0 (by unfold busyT; rw [if_neg h]; simp)
  unfold busyT at this
  rw [if_neg h] at this
  exact this
theorem busy_end {k : Nat} (hk : k < N.trans.length) (h : (N.tr k).label ≠ 0) : (busyN N).tr (k + visTo N.trans k + 1) = ⟨(N.tr k).label, wideL (busyP N) [] ((N.places.toNat + visTo N.trans k : Nat) : Int), wideL (busyP N) (N.tr k).post (-1)⟩ ∧ k + visTo N.trans k + 1 < (busyN N).trans.length := by
  have := busy_tr hok hk 1 (by unfold busyT; rw [if_neg h]; simp)
  unfold busyT at this
  rw [if_neg h] at this
  exact this
theorem vis_pos {k : Nat} (hk : k < N.trans.length) (h : (N.tr k).label ≠ 0) : 0 < (N.tr k).label := by have := (tr_facts hok hk).2.2.2.2.1; omega
theorem vis_lt {k m : Nat} (hk : k < m) (hm : m ≤ N.trans.length) (h : (N.tr k).label ≠ 0) : visTo N.trans k < visTo N.trans m := by
  have h1 := visTo_yes (N := N) (k := k) (by omega) (vis_pos hok (by omega) h)
  have h2 := visTo_mono (N := N) (k := k + 1) (m := m) hk hm
  omega
theorem vis_inj {k m : Nat} (hk : k < N.trans.length) (hm : m < N.trans.length) (h : (N.tr k).label ≠ 0) (h' : (N.tr m).label ≠ 0) (e : visTo N.trans k = visTo N.trans m) : k = m := by
  rcases Nat.lt_trichotomy k m with h1 | h1 | h1
  · have := vis_lt hok h1 (by omega) h; omega
  · exact h1
  · have := vis_lt hok h1 (by omega) h'; omega
theorem place_lt {k : Nat} (hk : k < N.trans.length) (h : (N.tr k).label ≠ 0) : N.places.toNat + visTo N.trans k < busyP N := by
  have := vis_lt hok hk (Nat.le_refl _) h
  unfold busyP; omega
end

/-- m is the case c as a mark of the net with a place for each work -/
structure Emb (N : NetD) (c : CaseD) (m : List Int) : Prop where
  fits : fitsB (busyN N) m = true
  mark : ∀ p, p < N.places.toNat → nth m p = nth c.mark p
  busy : ∀ t, t < N.trans.length → (N.tr t).label ≠ 0 → nth m (N.places.toNat + visTo N.trans t) = nth c.busy t
  quiet : ∀ t, t < N.trans.length → (N.tr t).label = 0 → nth c.busy t = 0
  ok : CaseOk N c
theorem nth_low {N : NetD} (hok : netOkB N = true) {k : Nat} (hk : k < N.trans.length) {p : Nat} (hp : N.places.toNat ≤ p) : nth (N.tr k).pre p = 0 ∧ nth (N.tr k).post p = 0 := by
  obtain ⟨f1, f2, _⟩ := tr_facts hok hk
  exact ⟨nth_ge (by omega), nth_ge (by omega)⟩
theorem emb_skip {N : NetD} {c c' : CaseD} {m : List Int} {t : Nat} (h : Emb N c m) (ht : t < N.trans.length) (hl : (N.tr t).label = 0) (hd : doK N c 1 t = (c', 0)) :
    ∃ m', Fires (busyN N) m (t + visTo N.trans t) m' ∧ Emb N c' m' := by
  have hok := h.ok.ok
  obtain ⟨hb, hlt⟩ := busy_silent hok ht hl
  rw [doK1] at hd
  rcases hf : fireF N c.mark t with ⟨x, e⟩
  rw [hf] at hd
  by_cases he : e = 0
  · subst he
    rw [withM_ok rfl] at hd
    cases hd
    obtain ⟨k, hk, F⟩ := fire_ok h.ok.fits hf
    have : k = t := by omega
    subst this
    have hpre : ∀ p, nth ((busyN N).tr (k + visTo N.trans k)).pre p = nth (N.tr k).pre p := fun p => by rw [hb]; exact nth_wide_no p
    have hpost : ∀ p, nth ((busyN N).tr (k + visTo N.trans k)).post p = nth (N.tr k).post p := fun p => by rw [hb]; exact nth_wide_no p
    obtain ⟨m', F'⟩ := fires_mk h.fits hlt (fun p => by
      rw [hpre]
      by_cases hp : p < N.places.toNat
      · rw [h.mark p hp]; exact F.pre p
      · rw [(nth_low hok ht (by omega)).1]; exact (fits_nth h.fits p).1) (fun p => by
      rw [hpre, hpost]
      by_cases hp : p < N.places.toNat
      · rw [h.mark p hp, ← F.eq p]; exact F.le p
      · rw [(nth_low hok ht (by omega)).1, (nth_low hok ht (by omega)).2]; have := (fits_nth h.fits p).2; omega)
    refine ⟨m', F', F'.fits h.fits, fun p hp => ?_, fun s hs hsl => ?_, h.quiet, ⟨hok, ?_, h.ok.bl, ?_, h.ok.br⟩⟩
    · rw [F'.eq, hpre, hpost, h.mark p hp, F.eq]
    · show nth m' _ = nth c.busy s
      rw [F'.eq, hpre, hpost, (nth_low hok ht (by omega)).1, (nth_low hok ht (by omega)).2, h.busy s hs hsl]; omega
    · rw [F.len]; exact h.ok.ml
    · exact (fits_sizes (F.fits h.ok.fits)).2.2.2.2.2.1
  · rw [withM_bad he] at hd; cases hd; exact absurd rfl he
theorem emb_begin {N : NetD} {c c' : CaseD} {m : List Int} {t : Nat} (h : Emb N c m) (ht : t < N.trans.length) (hl : (N.tr t).label ≠ 0) (hd : doK N c 2 t = (c', 0)) :
    ∃ m', Fires (busyN N) m (t + visTo N.trans t) m' ∧ Emb N c' m' := by
  have hok := h.ok.ok
  obtain ⟨hb, hlt⟩ := busy_begin hok ht hl
  have hpl := place_lt hok ht hl
  rcases doK2_cases h.ok ht hl with ⟨e, h1, h2⟩ | ⟨x, h1, B⟩
  · rw [hd] at h1; cases h1; exact absurd rfl h2
  · rw [hd] at h1
    cases h1
    have hbr := rightB_nth B.okx.br t
    have hbt : nth c'.busy t = nth c.busy t + 1 := by rw [B.busy, nth_set_self (by rw [h.ok.bl]; exact ht)]
    have hpre : ∀ p, nth ((busyN N).tr (t + visTo N.trans t)).pre p = nth (N.tr t).pre p := fun p => by rw [hb]; exact nth_wide_no p
    have hpost : ∀ p, nth ((busyN N).tr (t + visTo N.trans t)).post p = if p = N.places.toNat + visTo N.trans t then 1 else 0 := fun p => by rw [hb]; exact nth_wide_one hpl p
    obtain ⟨m', F'⟩ := fires_mk h.fits hlt (fun p => by
      rw [hpre]
      by_cases hp : p < N.places.toNat
      · rw [h.mark p hp]; exact B.le p
      · rw [(nth_low hok ht (by omega)).1]; exact (fits_nth h.fits p).1) (fun p => by
      rw [hpre, hpost]
      by_cases hp : p < N.places.toNat
      · rw [if_neg (by omega)]
        have := (fits_nth h.fits p).2
        have := (w_nth (netOk_tr hok ht) p).1
        omega
      · rw [(nth_low hok ht (by omega)).1]
        split
        · rename_i e; rw [e, h.busy t ht hl]; omega
        · have := (fits_nth h.fits p).2; omega)
    refine ⟨m', F', F'.fits h.fits, fun p hp => ?_, fun s hs hsl => ?_, fun s hs hsl => ?_, B.okx⟩
    · rw [F'.eq, hpre, hpost, h.mark p hp, if_neg (by omega), B.mark]; omega
    · rw [F'.eq, hpre, hpost, (nth_low hok ht (by omega)).1, h.busy s hs hsl]
      by_cases e : s = t
      · subst e; rw [if_pos rfl, hbt]; omega
      · rw [if_neg (fun he => e (vis_inj hok hs ht hsl hl (by omega))), B.busy, nth_set _ _ _ (by rw [h.ok.bl]; exact hs), if_neg (fun he => e he.symm)]; omega
    · rw [B.busy, nth_set _ _ _ (by rw [h.ok.bl]; exact hs), if_neg (fun he => hl (by rw [he]; exact hsl))]; exact h.quiet s hs hsl
theorem emb_end {N : NetD} {c c' : CaseD} {m : List Int} {t : Nat} (h : Emb N c m) (ht : t < N.trans.length) (hl : (N.tr t).label ≠ 0) (hd : doK N c 3 t = (c', 0)) :
    ∃ m', Fires (busyN N) m (t + visTo N.trans t + 1) m' ∧ Emb N c' m' := by
  have hok := h.ok.ok
  obtain ⟨hb, hlt⟩ := busy_end hok ht hl
  have hpl := place_lt hok ht hl
  have F := netOk_tr hok ht
  have hbl : t < c.busy.length := by rw [h.ok.bl]; exact ht
  rw [doK3] at hd
  by_cases hlow : nth c.busy t + -1 < 0
  · rw [busyL_low hlow, withBM_b (by decide)] at hd; cases hd
  · have hbr := rightB_nth h.ok.br t
    have hbu := busyL_ok (b := c.busy) (t := t) (more := -1) (by omega) (by omega)
    rcases plus_cases c.mark (N.tr t).post with ⟨h1, _⟩ | ⟨h1, _⟩ | ⟨_, _, h2, Y, h3, h4, h5, h6⟩
    · rw [hbu, withBM_m rfl (by rw [h1]; decide)] at hd; rw [h1] at hd; cases hd
    · rw [hbu, withBM_m rfl (by rw [h1]; decide)] at hd; rw [h1] at hd; cases hd
    · rw [hbu, h3, withBM_ok rfl rfl] at hd
      cases hd
      have hpost : ∀ p, nth ((busyN N).tr (t + visTo N.trans t + 1)).post p = nth (N.tr t).post p := fun p => by rw [hb]; exact nth_wide_no p
      have hpre : ∀ p, nth ((busyN N).tr (t + visTo N.trans t + 1)).pre p = if p = N.places.toNat + visTo N.trans t then 1 else 0 := fun p => by rw [hb]; exact nth_wide_one hpl p
      obtain ⟨m', F'⟩ := fires_mk h.fits hlt (fun p => by
        rw [hpre]
        split
        · rename_i e; rw [e, h.busy t ht hl]; omega
        · exact (fits_nth h.fits p).1) (fun p => by
        rw [hpre, hpost]
        by_cases hp : p < N.places.toNat
        · rw [if_neg (by omega), h.mark p hp]; have := h2 p; omega
        · rw [(nth_low hok ht (by omega)).2]; have := (fits_nth h.fits p).2; split <;> omega)
      have hbt : ∀ s, s < N.trans.length → nth (c.busy.set t (nth c.busy t + -1)) s = if t = s then nth c.busy t + -1 else nth c.busy s := fun s hs => by rw [nth_set _ _ _ (by rw [h.ok.bl]; exact hs)]
      refine ⟨m', F', F'.fits h.fits, fun p hp => ?_, fun s hs hsl => ?_, fun s hs hsl => ?_, ⟨hok, ?_, by simp [h.ok.bl], h6, rightB_set h.ok.br _ (by omega) (by omega)⟩⟩
      · rw [F'.eq, hpre, hpost, h.mark p hp, if_neg (by omega), h5]; omega
      · rw [F'.eq, hpre, hpost, (nth_low hok ht (by omega)).2, h.busy s hs hsl, hbt s hs]
        by_cases e : t = s
        · subst e; rw [if_pos rfl, if_pos rfl]; omega
        · rw [if_neg (fun he => e (vis_inj hok ht hs hl hsl (by omega))), if_neg e]; omega
      · rw [hbt s hs, if_neg (fun he => hl (by rw [he]; exact hsl))]; exact h.quiet s hs hsl
      · have := F.post; have := h.ok.ml; simp only []; omega
theorem emb_start {N : NetD} (hok : netOkB N = true) (hP : busyP N ≤ 16) (hT : N.trans.length + visTo N.trans N.trans.length ≤ 24) {i : Nat} (hi : i < N.places.toNat) :
    Emb N ⟨oneN N.places.toNat (i : Int), List.replicate N.trans.length 0⟩ (oneN (startLen (busyN N)) (i : Int)) := by
  have hB := busyN_ok hok hP hT
  have hs : startLen (busyN N) = busyP N := by rw [startLen_ok hB]; unfold busyN; simp
  have h16 := netOk_places hok
  have hir : i < busyP N := by unfold busyP; omega
  have right : ∀ n, i < n → rightB (oneN n (i : Int)) = true := fun n hn => right_of_nth fun p _ => by rw [nth_oneN _ _ _ hn]; split <;> omega
  rw [hs]
  refine ⟨fits_mk hB (by rw [oneN_len]; unfold busyN; rfl) (right _ hir), fun p hp => ?_, fun t ht hl => ?_, fun t ht hl => ?_, ⟨hok, ?_, by simp, right _ hi, ?_⟩⟩
  · rw [nth_oneN _ _ _ hir]; simp only []; rw [nth_oneN _ _ _ hi]
  · rw [nth_oneN _ _ _ hir, if_neg (by omega)]; simp only []; rw [nth_lt (by simpa using ht)]; simp
  · simp only []; rw [nth_lt (by simpa using ht)]; simp
  · simp only [oneN_len]; omega
  · rw [rightB_iff]; intro x hx; have := (List.mem_replicate.1 hx).2; omega
def seqTo (N : NetD) (c : CaseD) (ops : List CopD) : Nat → List Int
  | 0 => []
  | k + 1 => seqTo N c ops k ++ (if (doF N (playTo N c ops k).1 (ix ops k).kind (ix ops k).tran).2 = 0 then [((ix ops k).tran + (visTo N.trans (ix ops k).tran.toNat : Int)) + (if (ix ops k).kind = 3 then 1 else 0)] else [])
theorem seqTo_zero (N : NetD) (c : CaseD) (ops : List CopD) : seqTo N c ops 0 = [] := rfl
theorem seqTo_no {N : NetD} {c : CaseD} {ops : List CopD} {k : Nat} (h : (doF N (playTo N c ops k).1 (ix ops k).kind (ix ops k).tran).2 ≠ 0) : seqTo N c ops (k + 1) = seqTo N c ops k := by rw [seqTo, if_neg h, List.append_nil]
theorem seqTo_yes {N : NetD} {c : CaseD} {ops : List CopD} {k j : Nat} (h : (doF N (playTo N c ops k).1 (ix ops k).kind (ix ops k).tran).2 = 0) (hj : (ix ops k).tran = j) (h3 : (ix ops k).kind ≠ 3) : seqTo N c ops (k + 1) = seqTo N c ops k ++ [((j + visTo N.trans j : Nat) : Int)] := by
  rw [seqTo, if_pos h, hj, if_neg h3]; simp
theorem seqTo_end {N : NetD} {c : CaseD} {ops : List CopD} {k j : Nat} (h : (doF N (playTo N c ops k).1 (ix ops k).kind (ix ops k).tran).2 = 0) (hj : (ix ops k).tran = j) (h3 : (ix ops k).kind = 3) : seqTo N c ops (k + 1) = seqTo N c ops k ++ [((j + visTo N.trans j + 1 : Nat) : Int)] := by
  rw [seqTo, if_pos h, hj, if_pos h3]; simp
theorem seqTo_len (N : NetD) (c : CaseD) (ops : List CopD) : ∀ k, (seqTo N c ops k).length ≤ k := by
  intro k
  induction k with
  | zero => simp [seqTo]
  | succ k ih => rw [seqTo, List.length_append]; split <;> simp <;> omega
/-- an operation that goes, of a case that is right -/
theorem doF_zero {N : NetD} {c : CaseD} {k t : Int} (h : (doF N c k t).2 = 0) : CaseOk N c ∧ (1 ≤ k ∧ k ≤ 4) ∧ ∃ j : Nat, t = j ∧ j < N.trans.length ∧ (decide (k = 1) != decide ((N.tr j).label = 0)) = false ∧ doF N c k t = doK N c k j := by
  rcases doF_cases N c k t with ⟨e, h1, h2⟩ | h1
  · rw [h1] at h; exact absurd h h2
  · exact h1
theorem play_step {N : NetD} {c : CaseD} {ops : List CopD} {k : Nat} (hk : k < ops.length) : (playTo N c ops (k + 1)).1 = if (doF N (playTo N c ops k).1 (ix ops k).kind (ix ops k).tran).2 = 0 then (doF N (playTo N c ops k).1 (ix ops k).kind (ix ops k).tran).1 else (playTo N c ops k).1 := by
  rw [playTo_succ hk]; rfl
theorem play_err {N : NetD} {c : CaseD} {ops : List CopD} : ∀ m, m ≤ ops.length → ∀ k, k < m → nth (playTo N c ops m).2 k = (doF N (playTo N c ops k).1 (ix ops k).kind (ix ops k).tran).2 := by
  intro m
  induction m with
  | zero => intro _ k h; omega
  | succ m ih =>
    intro hm k hk
    have hl := playTo_len N c ops m (by omega)
    rw [playTo_succ (by omega)]
    unfold playStep
    simp only []
    rw [nth_append, hl]
    by_cases h : k < m
    · rw [if_pos h]; exact ih (by omega) k h
    · obtain rfl : k = m := by omega
      rw [if_neg (by omega), Nat.sub_self, nth_lt (by simp)]; rfl
theorem seq_runs {N : NetD} {c : CaseD} {ops : List CopD} {m0 : List Int} (h0 : Emb N c m0) (hu : ∀ k, k < ops.length → (ix ops k).kind ≠ 4) : ∀ k, k ≤ ops.length → ∃ m, Runs (busyN N) m0 (seqTo N c ops k) m ∧ Emb N (playTo N c ops k).1 m := by
  intro k
  induction k with
  | zero => intro _; exact ⟨m0, .nil _, h0⟩
  | succ k ih =>
    intro hk
    obtain ⟨m, hr, he⟩ := ih (by omega)
    have hs := play_step (N := N) (c := c) (ops := ops) (k := k) (by omega)
    by_cases hz : (doF N (playTo N c ops k).1 (ix ops k).kind (ix ops k).tran).2 = 0
    · obtain ⟨_, h14, j, hj, hjl, hf, hd⟩ := doF_zero hz
      rw [if_pos hz] at hs
      have hkind := hu k (by omega)
      rcases hd2 : doK N (playTo N c ops k).1 (ix ops k).kind j with ⟨c', e⟩
      rw [hd2] at hd
      rw [hd] at hs hz
      have he0 : e = 0 := hz
      subst he0
      have hz' : (doF N (playTo N c ops k).1 (ix ops k).kind (ix ops k).tran).2 = 0 := by rw [hd]
      rw [hs]
      by_cases h3 : (ix ops k).kind = 3
      · rw [h3] at hd2
        obtain ⟨m', F, E⟩ := emb_end he hjl (kind2 (by omega) hf) hd2
        exact ⟨m', by rw [seqTo_end hz' hj h3]; exact hr.snoc F, E⟩
      · by_cases h1 : (ix ops k).kind = 1
        · rw [h1] at hd2
          obtain ⟨m', F, E⟩ := emb_skip he hjl (by rw [decide_eq_true h1] at hf; simpa using hf) hd2
          exact ⟨m', by rw [seqTo_yes hz' hj h3]; exact hr.snoc F, E⟩
        · have h2 : (ix ops k).kind = 2 := by omega
          rw [h2] at hd2
          obtain ⟨m', F, E⟩ := emb_begin he hjl (kind2 (by omega) hf) hd2
          exact ⟨m', by rw [seqTo_yes hz' hj h3]; exact hr.snoc F, E⟩
    · rw [if_neg hz] at hs
      exact ⟨m, by rw [seqTo_no hz]; exact hr, by rw [hs]; exact he⟩
/-- what is done in a case is a run, and the case is its mark -/
theorem cases_net {N : NetD} {ops : List CopD} {i : Nat} (hok : netOkB N = true) (hP : busyP N ≤ 16) (hT : N.trans.length + visTo N.trans N.trans.length ≤ 24) (hi : i < N.places.toNat) (hu : ∀ k, k < ops.length → (ix ops k).kind ≠ 4)
    {c : CaseD} (hc : c = ⟨oneN N.places.toNat (i : Int), List.replicate N.trans.length 0⟩) :
    ∃ m, runF (busyN N) (oneN (startLen (busyN N)) (i : Int)) (seqTo N c ops ops.length) = (m, 0) ∧ Emb N (playTo N c ops ops.length).1 m := by
  subst hc
  have h0 := emb_start hok hP hT hi
  obtain ⟨m, hr, he⟩ := seq_runs h0 hu ops.length (Nat.le_refl _)
  exact ⟨m, hr.runF h0.fits, he⟩
theorem emb_take {N : NetD} {c : CaseD} {m : List Int} (h : Emb N c m) : m.take N.places.toNat = c.mark ∧ N.places.toNat ≤ m.length ∧ m.length = busyP N := by
  have h1 := fits_len h.fits
  have h2 := h.ok.ml
  have h3 : (busyN N).places = (busyP N : Int) := rfl
  have h4 : N.places.toNat ≤ busyP N := by unfold busyP; omega
  refine ⟨ext_nth (by rw [List.length_take]; omega) fun p hp => ?_, by omega, by omega⟩
  rw [List.length_take] at hp
  have hp' : p < N.places.toNat := by omega
  rw [← h.mark p hp']
  unfold nth
  simp [List.getD, hp']
def atTo (N : NetD) (k : Nat) : List Int := (List.range k).map fun i => ((i + visTo N.trans i : Nat) : Int)
def placeTo (N : NetD) (k : Nat) : List Int := (List.range k).map fun i => ((N.places.toNat + visTo N.trans i : Nat) : Int)
theorem atTo_zero (N : NetD) : atTo N 0 = [] := rfl
theorem placeTo_zero (N : NetD) : placeTo N 0 = [] := rfl
theorem atTo_succ (N : NetD) (k : Nat) : atTo N (k + 1) = atTo N k ++ [((k + visTo N.trans k : Nat) : Int)] := by simp [atTo, List.range_succ]
theorem placeTo_succ (N : NetD) (k : Nat) : placeTo N (k + 1) = placeTo N k ++ [((N.places.toNat + visTo N.trans k : Nat) : Int)] := by simp [placeTo, List.range_succ]
theorem atTo_len (N : NetD) (k : Nat) : (atTo N k).length = k := by simp [atTo]
theorem placeTo_len (N : NetD) (k : Nat) : (placeTo N k).length = k := by simp [placeTo]
theorem atTo_nth {N : NetD} {k j : Nat} (h : j < k) : nth (atTo N k) j = ((j + visTo N.trans j : Nat) : Int) := by unfold atTo; rw [nth_map_range, if_pos h]
theorem placeTo_nth {N : NetD} {k j : Nat} (h : j < k) : nth (placeTo N k) j = ((N.places.toNat + visTo N.trans j : Nat) : Int) := by unfold placeTo; rw [nth_map_range, if_pos h]
end Go.Tok
