/- Plain laws of nets with a beginning and an end. -/
import Derived.Test.YtmigejcejnofiaaShape5
import Derived.Test.YtmigejcejnofiaaBackLaw
namespace Go.Tok
open Go.Proofs.Ytmigejcejnofiaa
set_option linter.unusedVariables false

theorem turnT_turnT (t : TranD) : turnT (turnT t) = t := by unfold turnT; rfl
theorem turnN_turnN (N : NetD) : turnN (turnN N) = N := by
  unfold turnN
  simp only [List.map_map]
  have : (turnT ∘ turnT) = id := by funext t; exact turnT_turnT t
  rw [this, List.map_id]
theorem netOk_turn_eq (N : NetD) : netOkB (turnN N) = netOkB N := by
  cases h : netOkB N
  · rw [Bool.eq_false_iff]
    intro h1
    have := netOk_turn h1
    rw [turnN_turnN, h] at this; cases this
  · exact netOk_turn h
theorem endB_turn (i o : Nat) (t : TranD) : endB o i (turnT t) = endB i o t := by
  unfold endB; rw [turnT_pre, turnT_post, Bool.or_comm]
theorem end_turn (N : NetD) (i o : Nat) : (turnN N).trans.any (endB o i) = N.trans.any (endB i o) := by
  have h : (turnN N).trans = N.trans.map turnT := by unfold turnN; rfl
  rw [h, List.any_map]
  congr 1
  funext t
  exact endB_turn i o t
theorem sizeN_turn (N : NetD) : sizeN (turnN N) = sizeN N := by unfold sizeN; rw [turnN_len, turnN_places]
theorem shape_turn (N : NetD) (i o : Int) : shapeC (turnN N) o i = shapeC N i o := by
  unfold shapeC
  rw [netOk_turn_eq, turnN_places, end_turn, sizeN_turn, turnN_turnN]
  split
  · have e1 : (o < 0 ∨ i < 0 ∨ N.places ≤ o ∨ N.places ≤ i ∨ o = i) ↔ (i < 0 ∨ o < 0 ∨ N.places ≤ i ∨ N.places ≤ o ∨ i = o) := by omega
    have e2 : ((walkN (turnN N) o.toNat).length < sizeN N ∨ (walkN N i.toNat).length < sizeN N) ↔ ((walkN N i.toNat).length < sizeN N ∨ (walkN (turnN N) o.toNat).length < sizeN N) := by omega
    simp only [e1, e2]
  · rfl

/-! ### what a right shape says -/
structure ShapeOk (N : NetD) (i o : Nat) : Prop where
  ok : netOkB N = true
  hi : i < N.places.toNat
  ho : o < N.places.toNat
  ne : i ≠ o
  post : ∀ k, k < N.trans.length → nth (N.tr k).post i ≤ 0
  pre : ∀ k, k < N.trans.length → nth (N.tr k).pre o ≤ 0
  full : sizeN N ≤ (walkN N i).length
  back : sizeN N ≤ (walkN (turnN N) o).length
theorem shape_ok {N : NetD} {i o : Int} (h : shapeC N i o = 0) : ∃ a b : Nat, i = a ∧ o = b ∧ ShapeOk N a b := by
  obtain ⟨hok, hi0, ho0, hip, hop, hio⟩ := shapeC_zero h
  obtain ⟨a, rfl⟩ := Int.eq_ofNat_of_zero_le hi0
  obtain ⟨b, rfl⟩ := Int.eq_ofNat_of_zero_le ho0
  refine ⟨a, b, rfl, rfl, ?_⟩
  unfold shapeC at h
  rw [if_pos hok, if_neg (by omega)] at h
  simp only [Int.toNat_natCast] at h
  split at h
  · simp at h
  · rename_i he
    split at h
    · simp at h
    · rename_i hw
      have he : N.trans.any (endB a b) = false := by simpa using he
      have hall : ∀ k, k < N.trans.length → endB a b (N.tr k) = false := fun k hk => by
        have := List.any_eq_false.1 he _ (NetD.tr_mem hk)
        simpa using this
      refine ⟨hok, by omega, by omega, by omega, fun k hk => ?_, fun k hk => ?_, by omega, by omega⟩
      · have := hall k hk; unfold endB at this; simp at this; omega
      · have := hall k hk; unfold endB at this; simp at this; omega
/-- each transition takes something -/
theorem ShapeOk.takes {N : NetD} {i o : Nat} (h : ShapeOk N i o) {k : Nat} (hk : k < N.trans.length) : ∃ p, p < N.places.toNat ∧ 0 < nth (N.tr k).pre p := by
  have g := walk_grown h.ok h.hi
  have hn : isNode N ⟨true, k⟩ := by unfold isNode; simpa using hk
  have hm : (⟨true, k⟩ : NodeD) ∈ walkN N i := nodes_full (g.nodup List.nodup_nil) (g.nodes (by simp)) h.full hn
  rcases walk_led h.ok h.hi _ hm with h1 | ⟨z, hz, j, h1, h2, h3⟩
  · cases h1
  · have hzn := g.nodes (by simp) z hz
    cases hb : z.tran
    · rw [wt_place N hb] at h2
      have : k = j := by unfold nextN at h3; injection h3
      subst this
      exact ⟨z.n, node_place hb hzn, h2⟩
    · unfold nextN at h3; rw [hb] at h3; cases h3
theorem nth_oneN (n i p : Nat) (hi : i < n) : nth (oneN n (i : Int)) p = if p = i then 1 else 0 := by
  rw [← oneN_in (by omega) (by omega)]
  simp only [Int.toNat_natCast]
  by_cases hp : p < n
  · rw [nth_set _ _ _ (by simpa using hp), nth_lt (by simpa using hp)]
    by_cases h : p = i
    · rw [if_pos h.symm, if_pos h]
    · rw [if_neg (fun e => h e.symm), if_neg h]; simp
  · rw [nth_ge (by simp; omega), if_neg (by omega)]
theorem ShapeOk.fits {N : NetD} {i o : Nat} (h : ShapeOk N i o) {p : Nat} (hp : p < N.places.toNat) : fitsB N (oneN (startLen N) (p : Int)) = true := by
  have h16 := netOk_p16 h.ok
  rw [startLen_ok h.ok]
  refine fits_mk h.ok (by rw [oneN_len]; omega) ((rightB_iff _).2 fun x hx => ?_)
  obtain ⟨j, hj, rfl⟩ := List.getElem_of_mem hx
  rw [← nth_lt hj, nth_oneN _ _ _ hp]
  split <;> omega
/-- at the end nothing can fire -/
theorem shape_end {N : NetD} {i o : Nat} (h : ShapeOk N i o) : enabledF N (oneN (startLen N) (o : Int)) = ([], 0) := by
  rw [enabledF_fit (h.fits h.ho)]
  have : enabledL N (oneN (startLen N) (o : Int)) = [] := by
    unfold enabledL
    rw [List.map_eq_nil_iff, List.filter_eq_nil_iff]
    intro k hk hc
    have hk' : k < N.trans.length := List.mem_range.1 hk
    obtain ⟨p, hp, hp0⟩ := h.takes hk'
    have h1 := (coversB_iff _ _).1 hc p
    rw [startLen_ok h.ok, nth_oneN _ _ _ h.ho] at h1
    have := h.pre k hk'
    split at h1
    · next e => subst e; omega
    · omega
  rw [this]
/-- a run from the beginning leaves it at once -/
theorem ShapeOk.zero_on {N : NetD} {i o : Nat} (h : ShapeOk N i o) {x s z : List Int} (hr : Runs N x s z) : fitsB N x = true → nth x i = 0 → nth z i = 0 := by
  induction hr with
  | nil x => exact fun _ => id
  | cons hf _ ih =>
    intro hx h0
    refine ih (hf.fits hx) ?_
    have := hf.eq i
    have := hf.pre i
    have := w_nth (netOk_tr h.ok hf.lt) i
    have := h.post _ hf.lt
    omega
theorem shape_leaves {N : NetD} {i o : Nat} (h : ShapeOk N i o) {s z : List Int} (hr : runF N (oneN (startLen N) (i : Int)) s = (z, 0)) (hs : s ≠ []) : nth z i = 0 := by
  obtain ⟨hfit, hr⟩ := runF_of hr
  cases hr with
  | nil => exact absurd rfl hs
  | cons hf hr =>
    refine h.zero_on hr (hf.fits hfit) ?_
    obtain ⟨p, hp, hp0⟩ := h.takes hf.lt
    have e := hf.eq i
    have h1 := hf.pre p
    have h2 := hf.pre i
    have := w_nth (netOk_tr h.ok hf.lt) i
    have := h.post _ hf.lt
    rw [startLen_ok h.ok, nth_oneN _ _ _ h.hi] at h1 h2 e
    rw [if_pos rfl] at h2 e
    split at h1
    · next e2 => subst e2; omega
    · omega

/-! ### the closed net -/
theorem closeN_len (N : NetD) (i o : Nat) : (closeN N i o).trans.length = N.trans.length + 1 := by unfold closeN; simp
theorem closeN_tr {N : NetD} {i o k : Nat} (hk : k < N.trans.length) : (closeN N i o).tr k = N.tr k := by
  unfold NetD.tr closeN
  simp only [List.getD_eq_getElem?_getD]
  rw [List.getElem?_append_left hk]
theorem closeN_last (N : NetD) (i o : Nat) : (closeN N i o).tr N.trans.length = closeT N i o := by
  unfold NetD.tr closeN
  simp
theorem closeT_ok {N : NetD} (h : netOkB N = true) (i o : Nat) : tranOkB N.places (closeT N i o) = true := by
  have h16 := netOk_p16 h
  have hb : ∀ p : Nat, (oneN N.places.toNat (p : Int)).any badW = false := fun p => by
    rw [List.any_eq_false]
    intro x hx
    have : x = 0 ∨ x = 1 := by
      unfold oneN at hx
      split at hx
      · rcases List.mem_or_eq_of_mem_set hx with h1 | h1
        · exact .inl (List.mem_replicate.1 h1).2
        · exact .inr h1
      · exact .inl (List.mem_replicate.1 hx).2
    unfold badW
    rcases this with rfl | rfl <;> decide
  unfold tranOkB closeT
  simp only [oneN_len, hb]
  simp
  omega
theorem closeN_ok {N : NetD} (h : netOkB N = true) (h24 : N.trans.length ≠ 24) (i o : Nat) : netOkB (closeN N i o) = true := by
  have hc := closeT_ok h i o
  unfold netOkB at h ⊢
  simp only [Bool.and_eq_true, decide_eq_true_eq, List.all_eq_true] at h ⊢
  obtain ⟨⟨⟨h1, h2⟩, h3⟩, h4⟩ := h
  refine ⟨⟨⟨h1, h2⟩, by rw [closeN_len]; omega⟩, fun t ht => ?_⟩
  unfold closeN at ht
  rcases List.mem_append.1 ht with h5 | h5
  · exact h4 t h5
  · rw [List.mem_singleton.1 h5]; exact hc
theorem fits_close {N : NetD} {i o : Nat} (h : netOkB N = true) (h24 : N.trans.length ≠ 24) (m : List Int) : fitsB (closeN N i o) m = fitsB N m := by
  unfold fitsB
  rw [closeN_ok h h24, h]; rfl
theorem fire_close {N : NetD} {i o : Nat} (h : netOkB N = true) (h24 : N.trans.length ≠ 24) (m : List Int) {t : Int} (ht : t ≠ N.trans.length) : fireF (closeN N i o) m t = fireF N m t := by
  unfold fireF
  rw [fits_close h h24]
  split
  · unfold fireL
    rw [closeN_len]
    by_cases h1 : 0 ≤ t ∧ t < N.trans.length
    · rw [if_pos h1, if_pos (by omega), closeN_tr (by omega)]
    · rw [if_neg h1, if_neg (by omega)]
  · rfl
theorem run_close {N : NetD} {i o : Nat} (h : netOkB N = true) (h24 : N.trans.length ≠ 24) {s : List Int} (hs : hasB s N.trans.length = false) : ∀ m, runF (closeN N i o) m s = runF N m s := by
  have key : ∀ (s : List Int), (∀ t ∈ s, t ≠ (N.trans.length : Int)) → ∀ m, runL (closeN N i o) m s = runL N m s := by
    intro s
    induction s with
    | nil => intro _ m; rw [runL_nil, runL_nil]
    | cons t s ih =>
      intro hs m
      rw [runL_cons, runL_cons, fire_close h h24 m (hs t (by simp)), ih (fun x hx => hs x (by simp [hx]))]
  intro m
  unfold runF
  rw [fits_close h h24, key s (fun t ht e => by
    have : hasB s N.trans.length = true := (hasB_iff _ _).2 (e ▸ ht)
    rw [hs] at this; cases this)]
theorem fire_last {N : NetD} {i o : Nat} (h : ShapeOk N i o) (h24 : N.trans.length ≠ 24) : fireF (closeN N i o) (oneN (startLen (closeN N i o)) (o : Int)) (N.trans.length : Nat) = (oneN (startLen (closeN N i o)) (i : Int), 0) := by
  have hsl : startLen (closeN N i o) = startLen N := by unfold startLen closeN; rfl
  rw [hsl]
  have hfo := h.fits h.ho
  have hfi := h.fits h.hi
  have hp := startLen_ok h.ok
  refine fire_eq (by rw [fits_close h.ok h24]; exact hfo) ⟨by rw [closeN_len]; omega, by rw [oneN_len, oneN_len], fun p => ?_, fun p => ?_, fun p => (fits_nth hfi p).2⟩
  · rw [closeN_last, hp]; exact Int.le_refl _
  · rw [closeN_last, hp]; unfold closeT; simp only []; omega
theorem close_end {N : NetD} {i o : Nat} (h : ShapeOk N i o) (h24 : N.trans.length ≠ 24) : shapeC (closeN N i o) i o = 1 := by
  have hi := h.hi
  have ho := h.ho
  have hne := h.ne
  have hp : (closeN N i o).places = N.places := rfl
  refine shapeC_end (closeN_ok h.ok h24 i o) (by rw [hp]; omega) ?_
  rw [List.any_eq_true]
  refine ⟨closeT N i o, by unfold closeN; simp, ?_⟩
  unfold endB closeT
  simp only []
  rw [nth_oneN _ _ _ hi, if_pos rfl]
  simp
theorem close_cases (N : NetD) (i o : Int) : (∃ c, closeF N i o = (⟨0, []⟩, c) ∧ c ≠ 0) ∨ (∃ a b : Nat, i = a ∧ o = b ∧ closeF N i o = (closeN N a b, 0) ∧ ShapeOk N a b ∧ N.trans.length ≠ 24) := by
  by_cases h : shapeC N i o = 0
  · by_cases h24 : N.trans.length = 24
    · exact .inl ⟨4, closeF_full h h24, by decide⟩
    · obtain ⟨a, b, rfl, rfl, hO⟩ := shape_ok h
      exact .inr ⟨a, b, rfl, rfl, closeF_ok h h24, hO, h24⟩
  · exact .inl ⟨_, closeF_wrong h, h⟩
theorem closeN_take (N : NetD) (i o : Nat) : (closeN N i o).trans.take N.trans.length = N.trans := by unfold closeN; simp
theorem closeN_places (N : NetD) (i o : Nat) : (closeN N i o).places = N.places := rfl
end Go.Tok
