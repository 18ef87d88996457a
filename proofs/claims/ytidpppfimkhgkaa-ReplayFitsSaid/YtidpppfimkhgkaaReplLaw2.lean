/- What a replay adds up to, and that it is a run where nothing lacks. No program is in sight here. -/
import Derived.Test.YtidpppfimkhgkaaReplLaw
namespace Go.Tok
open Go.Proofs.Ytidpppfimkhgkaa
set_option linter.unusedVariables false

theorem put_mono {s : RepS} {ws : List Int} {n : Nat} (hw : Wts ws n) : s.put ≤ (putS s ws).put ∧ (putS s ws).lacked = s.lacked ∧ (putS s ws).taken = s.taken := by
  have := sumL_wts hw
  unfold putS; refine ⟨?_, rfl, rfl⟩; dsimp only; omega
theorem take_mono {s : RepS} {ws : List Int} {n : Nat} (hw : Wts ws n) (hm : ∀ p, 0 ≤ nth s.m p) : (takeS s ws).put = s.put ∧ s.lacked ≤ (takeS s ws).lacked ∧ (takeS s ws).taken = s.taken + sumL ws ∧ (takeS s ws).lacked = s.lacked + lackT s.m ws ws.length := by
  have := lackT_wts hw hm ws.length
  unfold takeS; refine ⟨rfl, ?_, rfl, rfl⟩; dsimp only; omega
theorem fold_nil (N : NetD) (s : RepS) : repFold N s [] = some s := by rw [repFold]
theorem fold_cons (N : NetD) (s : RepS) (a : Int) (r : List Int) : repFold N s (a :: r) = if firstI (fun t => decide (t.label = a)) N.trans < 0 then none else repFold N (repStep s (N.tr (firstI (fun t => decide (t.label = a)) N.trans).toNat)) r := by rw [repFold]
theorem first_nat {N : NetD} {p : TranD → Bool} (h : ¬ firstI p N.trans < 0) : ∃ j : Nat, firstI p N.trans = j ∧ j < N.trans.length := by
  obtain ⟨j, hj⟩ := Int.eq_ofNat_of_zero_le (show 0 ≤ firstI p N.trans by omega)
  refine ⟨j, hj, ?_⟩
  rcases firstI_lt p N.trans with h1 | h1
  · omega
  · rw [h1, firstI_nil] at hj; omega
/-- what one step does to the sums -/
theorem step_mono {N : NetD} (hok : netOkB N = true) {s : RepS} {k : Nat} (hk : k < N.trans.length) (hm : ∀ p, 0 ≤ nth s.m p) : s.put ≤ (repStep s (N.tr k)).put ∧ s.lacked + lackT s.m (N.tr k).pre N.places.toNat = (repStep s (N.tr k)).lacked := by
  have h1 := put_mono (s := takeS s (N.tr k).pre) (wts_post hok hk)
  have h2 := take_mono (s := s) (wts_pre hok hk) hm
  rw [(wts_pre hok hk).len] at h2
  unfold repStep
  omega
theorem fold_b {N : NetD} (hok : netOkB N = true) : ∀ (tr : List Int) (s0 s : RepS) (b c : Int), repFold N s0 tr = some s → RepB s0 N.places.toNat b c →
    RepB s N.places.toNat (b + 9 * tr.length) (c + 18 * N.places.toNat * tr.length) ∧ s0.put ≤ s.put ∧ s0.lacked ≤ s.lacked := by
  intro tr
  induction tr with
  | nil => intro s0 s b c h hB; rw [fold_nil] at h; cases h; exact ⟨by simpa using hB, by omega, by omega⟩
  | cons a r ih =>
    intro s0 s b c h hB
    rw [fold_cons] at h
    split at h
    · cases h
    · rename_i hf
      obtain ⟨j, hj, hjl⟩ := first_nat hf
      rw [hj, Int.toNat_natCast] at h
      have hs := step_mono hok hjl (fun p => (hB.m p).1)
      have hl := lackT_wts (wts_pre hok hjl) (fun p => (hB.m p).1) N.places.toNat
      obtain ⟨h1, h2, h3⟩ := ih _ s _ _ h (step_b hok hjl hB rfl rfl)
      refine ⟨h1.mono ?_ ?_, by omega, by omega⟩
      · rw [List.length_cons]; push_cast; omega
      · rw [List.length_cons]; push_cast; rw [Int.mul_add]; omega
theorem lack_zero {m ws : List Int} {n : Nat} (hw : Wts ws n) (hm : ∀ p, 0 ≤ nth m p) (h : lackT m ws n = 0) : ∀ p, nth ws p ≤ nth m p := by
  intro p
  by_cases hp : p < n
  · have := tokTo_pos (f := fun p => max (nth ws p - nth m p) 0) (fun p => by omega) h p hp
    omega
  · rw [nth_ge (by have := hw.len; omega)]; exact hm p
theorem fold_run {N : NetD} (hok : netOkB N = true) : ∀ (tr : List Int) (s0 s : RepS) (b c : Int), repFold N s0 tr = some s → RepB s0 N.places.toNat b c → b + 9 * tr.length ≤ 1000 → s.lacked = s0.lacked →
    Runs N s0.m (tr.map fun a => firstI (fun t => decide (t.label = a)) N.trans) s.m := by
  intro tr
  induction tr with
  | nil => intro s0 s b c h hB _ _; rw [fold_nil] at h; cases h; exact .nil _
  | cons a r ih =>
    intro s0 s b c h hB hb hl
    rw [fold_cons] at h
    split at h
    · cases h
    · rename_i hf
      obtain ⟨j, hj, hjl⟩ := first_nat hf
      rw [hj, Int.toNat_natCast] at h
      have hs := step_mono hok hjl (fun p => (hB.m p).1)
      have hk := lackT_wts (wts_pre hok hjl) (fun p => (hB.m p).1) N.places.toNat
      have hst := step_b hok hjl hB (rfl : b + 9 = _) rfl
      obtain ⟨h1, h2, h3⟩ := fold_b hok r _ s _ _ h hst
      have h0 : lackT s0.m (N.tr j).pre N.places.toNat = 0 := by omega
      have hle := lack_zero (wts_pre hok hjl) (fun p => (hB.m p).1) h0
      rw [List.map_cons, hj]
      rw [List.length_cons] at hb
      push_cast at hb
      refine .cons (y := (repStep s0 (N.tr j)).m) ⟨hjl, by unfold repStep putS takeS; simp only [addM_len, subM_len], hle, fun p => ?_, fun p => ?_⟩ (ih _ _ _ _ h hst (by omega) (by omega))
      · unfold repStep putS takeS
        simp only []
        have h4 := hle p
        by_cases hp : p < s0.m.length
        · rw [addM_nth (by rw [subM_len]; exact hp), subM_nth hp]; omega
        · have hn := hB.len
          have l1 := (wts_pre hok hjl).len
          have l2 := (wts_post hok hjl).len
          rw [nth_ge (by rw [addM_len, subM_len]; omega), nth_ge (by omega), nth_ge (by omega), nth_ge (by omega)]; rfl
      · have := hst.m p; omega
theorem repl_in (N : NetD) (i : Nat) (hi : i < N.places.toNat) : (repIn N i).m = oneN N.places.toNat (i : Int) ∧ (repIn N i).put = 1 ∧ (repIn N i).lacked = 0 := by
  refine ⟨?_, ?_, rfl⟩
  · unfold repIn putS
    simp only []
    refine ext_nth (by rw [addM_len, oneN_len]; simp) fun p hp => ?_
    rw [addM_len, List.length_replicate] at hp
    rw [addM_nth (by simpa using hp), nth_lt (by simpa using hp)]
    simp
  · unfold repIn putS sumL
    simp only []
    rw [oneN_len, tokTo_congr (g := fun p => if p = i then 1 else 0) _ (fun p _ => nth_oneN _ _ _ hi), tokTo_one _ _ hi]
    rfl
theorem sumL_one {n i : Nat} (h : i < n) : sumL (oneN n (i : Int)) = 1 := by
  unfold sumL
  rw [oneN_len, tokTo_congr (g := fun p => if p = i then 1 else 0) _ (fun p _ => nth_oneN _ _ _ h), tokTo_one _ _ h]
structure ReplOk (N : NetD) (i o : Int) (tr : List Int) (r : PlayD) : Prop where
  sum : r.put + r.lacked = r.taken + r.left
  put : 1 ≤ r.put ∧ r.put ≤ 100000
  taken : 1 ≤ r.taken ∧ r.taken ≤ 100000
  lacked : 0 ≤ r.lacked ∧ r.lacked ≤ 100000
  left : 0 ≤ r.left ∧ r.left ≤ 100000
theorem repl_cases (N : NetD) (i o : Int) (tr : List Int) : (∃ e, replF N i o tr = (zeroP, e) ∧ e ≠ 0) ∨
    (∃ (a b : Nat) (s : RepS), i = a ∧ o = b ∧ ShapeOk N a b ∧ plainB N = true ∧ tr.length ≤ 60 ∧ repFold N (repIn N a) tr = some s ∧ replF N i o tr = (outS (takeS s (oneN N.places.toNat b)), 0)) := by
  by_cases h0 : shapeC N i o = 0
  · cases hp : plainB N
    · exact .inl ⟨1, repl_plain h0 hp, by decide⟩
    · by_cases hl : 60 < tr.length
      · exact .inl ⟨2, repl_long h0 hp hl, by decide⟩
      · obtain ⟨a, b, rfl, rfl, hO⟩ := shape_ok h0
        cases hf : repFold N (repIn N a) tr with
        | none => exact .inl ⟨3, repl_none h0 hp (by omega) hf, by decide⟩
        | some s => exact .inr ⟨a, b, s, rfl, rfl, hO, rfl, by omega, hf, repl_some h0 hp (by omega) hf⟩
  · exact .inl ⟨_, repl_shape h0, h0⟩
theorem mul_le_960 {n k : Nat} (hn : n ≤ 16) (hk : k ≤ 60) : (n : Int) * k ≤ 960 := by
  have := Nat.mul_le_mul hn hk
  have h2 : ((n * k : Nat) : Int) ≤ 960 := by omega
  simpa using h2
theorem fold_bd {N : NetD} {a : Nat} {tr : List Int} {s : RepS} (hok : netOkB N = true) (ha : a < N.places.toNat) (hl : tr.length ≤ 60) (h : repFold N (repIn N a) tr = some s) : RepB s N.places.toNat 1000 20000 := by
  have h16 := netOk_p16 hok
  have hm := mul_le_960 (n := N.places.toNat) (k := tr.length) (by omega) hl
  refine (fold_b hok tr _ s _ _ h (in_b ha)).1.mono (by omega) ?_
  rw [Int.mul_assoc]; omega
theorem repl_ok {N : NetD} {i o : Int} {tr : List Int} {r : PlayD} (h : replF N i o tr = (r, 0)) : ReplOk N i o tr r := by
  rcases repl_cases N i o tr with ⟨e, h1, h2⟩ | ⟨a, b, s, rfl, rfl, hO, _, hl, hf, h1⟩
  · rw [h] at h1; cases h1; exact absurd rfl h2
  · rw [h] at h1
    cases h1
    have h16 := netOk_p16 hO.ok
    have hb := fold_bd hO.ok hO.hi hl hf
    have h2 := take_b hb (wts_one hO.ho) rfl
    have h3 := (fold_b hO.ok tr _ s _ _ hf (in_b hO.hi)).2.1
    have h4 := repl_in N a hO.hi
    have h5 := take_mono (s := s) (wts_one hO.ho) (fun p => (hb.m p).1)
    rw [sumL_one hO.ho] at h5
    have h6 := hb.taken
    have h7 := tokTo_bd (f := nth (takeS s (oneN N.places.toNat (b : Int))).m) (c := 1000) (fun p => h2.m p) N.places.toNat
    have h8 : sumL (takeS s (oneN N.places.toNat (b : Int))).m = tokTo (nth (takeS s (oneN N.places.toNat (b : Int))).m) N.places.toNat := by unfold sumL; rw [h2.len]
    unfold outS
    refine ⟨h2.sum, ?_, ?_, ?_, ?_⟩
    · have := h2.put; simp only []; omega
    · have := h2.taken; simp only []; omega
    · have := h2.lacked; simp only []; omega
    · simp only [h8]; omega
theorem repl_run {N : NetD} {i o : Int} {tr : List Int} {r : PlayD} (h : replF N i o tr = (r, 0)) (h0 : r.lacked = 0) :
    ∃ (a b : Nat) (x : List Int), i = a ∧ o = b ∧ ShapeOk N a b ∧ tr.length ≤ 60 ∧ runF N (oneN (startLen N) (a : Int)) (tr.map fun a => firstI (fun t => decide (t.label = a)) N.trans) = (x, 0) ∧ sumL x = r.left + 1 ∧ 0 < nth x b ∧ (∀ p, 0 ≤ nth x p ∧ nth x p ≤ 1000) ∧ x.length = N.places.toNat := by
  rcases repl_cases N i o tr with ⟨e, h1, h2⟩ | ⟨a, b, s, rfl, rfl, hO, _, hl, hf, h1⟩
  · rw [h] at h1; cases h1; exact absurd rfl h2
  · rw [h] at h1
    cases h1
    have h16 := netOk_p16 hO.ok
    have hb := fold_bd hO.ok hO.hi hl hf
    have h2 := take_b hb (wts_one hO.ho) rfl
    have h3 := (fold_b hO.ok tr _ s _ _ hf (in_b hO.hi)).2.2
    have h4 := repl_in N a hO.hi
    have h5 := take_mono (s := s) (wts_one hO.ho) (fun p => (hb.m p).1)
    have h6 := lackT_wts (wts_one hO.ho) (fun p => (hb.m p).1) N.places.toNat
    rw [oneN_len] at h5
    have h7 : (takeS s (oneN N.places.toNat (b : Int))).lacked = 0 := h0
    have hr := fold_run hO.ok tr _ s _ _ hf (in_b hO.hi) (by omega) (by omega)
    rw [h4.1] at hr
    have hz := lack_zero (wts_one hO.ho) (fun p => (hb.m p).1) (show lackT s.m (oneN N.places.toNat (b : Int)) N.places.toNat = 0 by omega) b
    rw [nth_oneN _ _ _ hO.ho, if_pos rfl] at hz
    refine ⟨a, b, s.m, rfl, rfl, hO, hl, ?_, ?_, by omega, hb.m, hb.len⟩
    · rw [startLen_ok hO.ok]
      refine hr.runF ?_
      have := hO.fits hO.hi
      rwa [startLen_ok hO.ok] at this
    · have h8 := h2.sum
      have h9 := hb.sum
      have h10 := sumL_one hO.ho
      unfold outS
      simp only []
      omega
end Go.Tok
