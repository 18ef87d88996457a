/- A trace is replayed with nothing lacking and nothing left if, and only if, it is a word. No program is in sight here. -/
import Derived.Test.YtidpppfimkhgkaaTongLaw
import Derived.Test.YtidpppfimkhgkaaReplLaw2
namespace Go.Tok
open Go.Proofs.Ytidpppfimkhgkaa
set_option linter.unusedVariables false
theorem plain_at {ts : List TranD} : ∀ {n : Nat}, n ≤ ts.length → plainTo ts n = true → ∀ k, k < n → (ix ts k).label ≠ 0 ∧ ∀ j, j < k → (ix ts j).label ≠ (ix ts k).label := by
  intro n
  induction n with
  | zero => intro _ _ k h; omega
  | succ n ih =>
    intro hn h k hk
    rw [plainTo, Bool.and_eq_true] at h
    obtain ⟨h1, h2⟩ := h
    by_cases e : k = n
    · subst e
      simp only [Bool.not_eq_true', Bool.or_eq_false_iff, decide_eq_false_iff_not] at h2
      refine ⟨h2.1, fun j hj e => ?_⟩
      have : hasB (labsTo ts k) (ix ts k).label = true := by
        rw [hasB_iff, ← e]
        unfold labsTo
        refine List.mem_map.2 ⟨ix ts j, ?_, rfl⟩
        rw [ix_lt (by omega)]
        exact List.mem_take_iff_getElem.2 ⟨j, by omega, rfl⟩
      rw [this] at h2
      cases h2.2
    · exact ih (by omega) h1 k (by omega)
theorem lack_none {m ws : List Int} (h : ∀ p, nth ws p ≤ nth m p) (k : Nat) : lackT m ws k = 0 := by
  unfold lackT
  rw [tokTo_congr (g := fun _ => 0) _ (fun p _ => by have := h p; omega), tokTo_const0]
theorem plain_pos {N : NetD} (hok : netOkB N = true) (hp : plainB N = true) {t : Nat} (ht : t < N.trans.length) : 0 < (N.tr t).label := by
  have h1 := (plain_at (Nat.le_refl _) hp t ht).1
  have h2 := (netOk_tr hok ht).lab0
  rw [tr_ix] at h2 ⊢
  omega
theorem plain_first {N : NetD} (hp : plainB N = true) {t : Nat} (ht : t < N.trans.length) : firstI (fun u => decide (u.label = (N.tr t).label)) N.trans = t := by
  refine firstI_hit (k := t) ?_ ht (by rw [tr_ix]; simp)
  unfold NoneI
  intro j hj
  have := (plain_at (Nat.le_refl _) hp t ht).2 j hj
  rw [tr_ix]
  simpa using this
theorem fold_of_runs {N : NetD} (hok : netOkB N = true) (hp : plainB N = true) {m seq z : List Int} (hr : Runs N m seq z) : ∀ {s0 : RepS} {b c : Int}, s0.m = m → RepB s0 N.places.toNat b c → ∃ s, repFold N s0 (seenL N seq) = some s ∧ s.m = z ∧ s.lacked = s0.lacked := by
  induction hr with
  | nil x => intro s0 b c h _; exact ⟨s0, fold_nil _ _, h, rfl⟩
  | @cons x y z q t hF _ ih =>
    intro s0 b c h hB
    subst h
    have hpos := plain_pos hok hp hF.lt
    rw [seen_cons, if_pos hpos, List.singleton_append, fold_cons, plain_first hp hF.lt, if_neg (by omega), Int.toNat_natCast]
    have h0 : lackT s0.m (N.tr t).pre N.places.toNat = 0 := lack_none hF.pre _
    have hs := step_mono hok hF.lt (fun p => (hB.m p).1)
    have hm : (repStep s0 (N.tr t)).m = y := by
      unfold repStep putS takeS
      simp only []
      refine ext_nth (by rw [addM_len, subM_len, hF.len]) fun p hpl => ?_
      rw [addM_len, subM_len] at hpl
      rw [addM_nth (by rw [subM_len]; exact hpl), subM_nth hpl, hF.eq]
      have := hF.pre p
      omega
    obtain ⟨s, h1, h2, h3⟩ := ih hm (step_b hok hF.lt hB rfl rfl)
    exact ⟨s, h1, h2, by omega⟩
theorem fold_seen {N : NetD} (hok : netOkB N = true) (hp : plainB N = true) : ∀ (tr : List Int) (s0 s : RepS), repFold N s0 tr = some s → seenL N (tr.map fun a => firstI (fun t => decide (t.label = a)) N.trans) = tr := by
  intro tr
  induction tr with
  | nil => intro _ _ _; rfl
  | cons a r ih =>
    intro s0 s h
    rw [fold_cons] at h
    split at h
    · cases h
    · rename_i hf
      obtain ⟨j, hj, hjl⟩ := first_nat hf
      rw [List.map_cons, hj, seen_cons, if_pos (plain_pos hok hp hjl), ih _ _ h]
      have := (firstI_some hj).2.1
      rw [tr_ix]
      simp only [decide_eq_true_eq] at this
      rw [this]; rfl
theorem repl_fits {N : NetD} {i o : Int} {tr : List Int} {r : PlayD} (h : replF N i o tr = (r, 0)) :
    ∃ a b : Nat, i = a ∧ o = b ∧ ShapeOk N a b ∧ (IsWord N (oneN N.places.toNat (a : Int)) (oneN N.places.toNat (b : Int)) tr ↔ (r.lacked = 0 ∧ r.left = 0)) := by
  rcases repl_cases N i o tr with ⟨e, h1, h2⟩ | ⟨a, b, s, rfl, rfl, hO, hp, hl, hf, h1⟩
  · rw [h] at h1; cases h1; exact absurd rfl h2
  · rw [h] at h1
    cases h1
    refine ⟨a, b, rfl, rfl, hO, ?_⟩
    have h16 := netOk_p16 hO.ok
    have hb := fold_bd hO.ok hO.hi hl hf
    have h4 := repl_in N a hO.hi
    have h5 := take_mono (s := s) (wts_one hO.ho) (fun p => (hb.m p).1)
    have h2 := take_b hb (wts_one hO.ho) rfl
    rw [oneN_len] at h5
    have hone : ∀ p, p < N.places.toNat → nth (takeS s (oneN N.places.toNat (b : Int))).m p = max (nth s.m p - nth (oneN N.places.toNat (b : Int)) p) 0 := fun p hp => by unfold takeS; exact subM_nth (by rw [hb.len]; exact hp)
    constructor
    · rintro ⟨seq, hr, hs⟩
      obtain ⟨s', h6, h7, h8⟩ := fold_of_runs hO.ok hp hr h4.1 (in_b hO.hi)
      rw [hs, hf] at h6
      cases h6
      have h9 := h4.2.2
      have h10 : lackT s.m (oneN N.places.toNat (b : Int)) N.places.toNat = 0 := by rw [h7]; exact lack_none (fun p => Int.le_refl _) _
      refine ⟨by unfold outS; simp only []; omega, ?_⟩
      unfold outS sumL
      simp only []
      rw [h2.len, tokTo_congr (g := fun _ => 0) _ (fun p hp => by rw [hone p hp, h7]; omega), tokTo_const0]
    · rintro ⟨h6, h7⟩
      have h8 : (takeS s (oneN N.places.toNat (b : Int))).lacked = 0 := h6
      have h9 : sumL (takeS s (oneN N.places.toNat (b : Int))).m = 0 := h7
      have h3 := (fold_b hO.ok tr _ s _ _ hf (in_b hO.hi)).2.2
      have h10 := lackT_wts (wts_one hO.ho) (fun p => (hb.m p).1) N.places.toNat
      have hr := fold_run hO.ok tr _ s _ _ hf (in_b hO.hi) (by omega) (by omega)
      rw [h4.1] at hr
      have hz := lack_zero (wts_one hO.ho) (fun p => (hb.m p).1) (show lackT s.m (oneN N.places.toNat (b : Int)) N.places.toNat = 0 by omega)
      have hm : s.m = oneN N.places.toNat (b : Int) := by
        refine ext_nth (by rw [hb.len, oneN_len]) fun p hp => ?_
        rw [hb.len] at hp
        unfold sumL at h9
        rw [h2.len] at h9
        have h11 := tokTo_pos (fun p => (h2.m p).1) h9 p hp
        rw [hone p hp] at h11
        have := hz p
        omega
      rw [hm] at hr
      exact ⟨_, hr, fold_seen hO.ok hp tr _ s hf⟩
end Go.Tok
