/- The replay of a trace as plain arithmetic. No program is in sight here. -/
import Derived.Test.YtidpppfimkhgkaaGS
import Derived.Test.YtidpppfimkhgkaaPA
namespace Go.Tok
open Go.Proofs.Ytidpppfimkhgkaa
set_option linter.unusedVariables false

def addM (m ws : List Int) : List Int := (List.range m.length).map fun p => nth m p + nth ws p
def subM (m ws : List Int) : List Int := (List.range m.length).map fun p => max (nth m p - nth ws p) 0
theorem addM_len (m ws : List Int) : (addM m ws).length = m.length := by simp [addM]
theorem subM_len (m ws : List Int) : (subM m ws).length = m.length := by simp [subM]
theorem addM_nth {m ws : List Int} {p : Nat} (h : p < m.length) : nth (addM m ws) p = nth m p + nth ws p := by
  rw [nth_lt (by rw [addM_len]; exact h)]; simp [addM]
theorem subM_nth {m ws : List Int} {p : Nat} (h : p < m.length) : nth (subM m ws) p = max (nth m p - nth ws p) 0 := by
  rw [nth_lt (by rw [subM_len]; exact h)]; simp [subM]
theorem nth_nil (p : Nat) : nth [] p = 0 := nth_ge (by simp)
theorem nth_takeS (ws : List Int) (k p : Nat) : nth (ws.take k) p = if p < k then nth ws p else 0 := by
  by_cases h : p < k
  · rw [if_pos h, nth_take h]; exact (nth_def _ _).symm
  · rw [if_neg h, nth_ge (by rw [List.length_take]; omega)]
theorem addM_zero {m : List Int} (ws : List Int) : addM m (ws.take 0) = m := ext_nth (addM_len _ _) fun i hi => by
  rw [addM_len] at hi
  rw [addM_nth hi, List.take_zero, nth_nil]; omega
theorem addM_at {m ws : List Int} {k : Nat} (h : k < m.length) : nth (addM m (ws.take k)) k = nth m k := by
  rw [addM_nth h, nth_takeS, if_neg (by omega)]; omega
theorem addM_succ {m ws : List Int} {k : Nat} (h : k < m.length) : addM m (ws.take (k + 1)) = (addM m (ws.take k)).set k (nth m k + nth ws k) := by
  refine ext_nth (by simp [addM_len]) fun i hi => ?_
  rw [addM_len] at hi
  rw [nth_set _ _ _ (by rw [addM_len]; exact hi), addM_nth hi, addM_nth hi, nth_takeS, nth_takeS]
  by_cases e : k = i
  · subst e; rw [if_pos (by omega), if_pos rfl]
  · rw [if_neg e]
    by_cases h1 : i < k
    · rw [if_pos h1, if_pos (by omega)]
    · rw [if_neg h1, if_neg (by omega)]
theorem subM_zero {m : List Int} (ws : List Int) (h0 : ∀ p, 0 ≤ nth m p) : subM m (ws.take 0) = m := ext_nth (subM_len _ _) fun i hi => by
  rw [subM_len] at hi
  have := h0 i
  rw [subM_nth hi, List.take_zero, nth_nil]; omega
theorem subM_at {m ws : List Int} {k : Nat} (h : k < m.length) (h0 : ∀ p, 0 ≤ nth m p) : nth (subM m (ws.take k)) k = nth m k := by
  have := h0 k
  rw [subM_nth h, nth_takeS, if_neg (by omega)]; omega
theorem subM_succ {m ws : List Int} {k : Nat} (h : k < m.length) (h0 : ∀ p, 0 ≤ nth m p) : subM m (ws.take (k + 1)) = (subM m (ws.take k)).set k (max (nth m k - nth ws k) 0) := by
  refine ext_nth (by simp [subM_len]) fun i hi => ?_
  rw [subM_len] at hi
  rw [nth_set _ _ _ (by rw [subM_len]; exact hi), subM_nth hi, subM_nth hi, nth_takeS, nth_takeS]
  by_cases e : k = i
  · subst e; rw [if_pos (by omega), if_pos rfl]
  · rw [if_neg e]
    by_cases h1 : i < k
    · rw [if_pos h1, if_pos (by omega)]
    · rw [if_neg h1, if_neg (by omega)]
/-- the sum of the first k -/
def tokTo (f : Nat → Int) : Nat → Int
  | 0 => 0
  | k + 1 => tokTo f k + f k
theorem tokTo_zero (f : Nat → Int) : tokTo f 0 = 0 := rfl
theorem tokTo_succ (f : Nat → Int) (k : Nat) : tokTo f (k + 1) = tokTo f k + f k := rfl
theorem tokTo_bd {f : Nat → Int} {c : Int} (hf : ∀ p, 0 ≤ f p ∧ f p ≤ c) (k : Nat) : 0 ≤ tokTo f k ∧ tokTo f k ≤ c * k := by
  induction k with
  | zero => simp [tokTo]
  | succ k ih =>
    have := hf k
    rw [tokTo_succ, Int.natCast_succ, Int.mul_add]
    omega
theorem tokTo_congr {f g : Nat → Int} : ∀ k, (∀ p, p < k → f p = g p) → tokTo f k = tokTo g k := by
  intro k
  induction k with
  | zero => intro _; rfl
  | succ k ih => intro h; rw [tokTo_succ, tokTo_succ, ih (fun p hp => h p (by omega)), h k (by omega)]
theorem tokTo_add (f g : Nat → Int) (k : Nat) : tokTo (fun p => f p + g p) k = tokTo f k + tokTo g k := by
  induction k with
  | zero => rfl
  | succ k ih => simp only [tokTo_succ, ih]; omega
theorem tokTo_const0 (k : Nat) : tokTo (fun _ => 0) k = 0 := by
  induction k with
  | zero => rfl
  | succ k ih => simp only [tokTo_succ, ih]; omega
theorem tokTo_one (n i : Nat) (h : i < n) : tokTo (fun p => if p = i then 1 else 0) n = 1 := by
  have key : ∀ k, tokTo (fun p => if p = i then 1 else 0) k = if i < k then 1 else 0 := by
    intro k
    induction k with
    | zero => simp [tokTo]
    | succ k ih =>
      rw [tokTo_succ, ih]
      by_cases h1 : i < k
      · rw [if_pos h1, if_neg (by omega), if_pos (by omega)]; rfl
      · by_cases h2 : k = i
        · rw [if_neg h1, if_pos h2, if_pos (by omega)]; rfl
        · rw [if_neg h1, if_neg h2, if_neg (by omega)]; rfl
  rw [key, if_pos h]
theorem tokTo_pos {f : Nat → Int} (hf : ∀ p, 0 ≤ f p) {k : Nat} (h : tokTo f k = 0) : ∀ p, p < k → f p = 0 := by
  induction k with
  | zero => intro p hp; omega
  | succ k ih =>
    have h0 : 0 ≤ tokTo f k := by
      clear h ih
      induction k with
      | zero => exact Int.le_refl _
      | succ k ih => rw [tokTo_succ]; have := hf k; omega
    rw [tokTo_succ] at h
    have := hf k
    intro p hp
    by_cases e : p = k
    · subst e; omega
    · exact ih (by omega) p (by omega)
def sumL (m : List Int) : Int := tokTo (nth m) m.length
def lackT (m ws : List Int) (k : Nat) : Int := tokTo (fun p => max (nth ws p - nth m p) 0) k

/-- the state of a replay -/
structure RepS where
  put : Int
  taken : Int
  lacked : Int
  m : List Int
def putS (s : RepS) (ws : List Int) : RepS := ⟨s.put + sumL ws, s.taken, s.lacked, addM s.m ws⟩
def takeS (s : RepS) (ws : List Int) : RepS := ⟨s.put, s.taken + sumL ws, s.lacked + lackT s.m ws ws.length, subM s.m ws⟩
def repStep (s : RepS) (t : TranD) : RepS := putS (takeS s t.pre) t.post
def repFold (N : NetD) : RepS → List Int → Option RepS
  | s, [] => some s
  | s, a :: r => if firstI (fun t => decide (t.label = a)) N.trans < 0 then none else repFold N (repStep s (N.tr (firstI (fun t => decide (t.label = a)) N.trans).toNat)) r
def repIn (N : NetD) (i : Int) : RepS := putS ⟨0, 0, 0, List.replicate N.places.toNat 0⟩ (oneN N.places.toNat i)
/-- the labels of the first k -/
def labsTo (ts : List TranD) (k : Nat) : List Int := (ts.take k).map (·.label)
/-- is each transition seen, and no two alike? -/
def plainTo (ts : List TranD) : Nat → Bool
  | 0 => true
  | k + 1 => plainTo ts k && !(decide ((ix ts k).label = 0) || hasB (labsTo ts k) (ix ts k).label)
def plainB (N : NetD) : Bool := plainTo N.trans N.trans.length
structure PlayD where
  put : Int
  taken : Int
  lacked : Int
  left : Int
deriving DecidableEq
def outS (s : RepS) : PlayD := ⟨s.put, s.taken, s.lacked, sumL s.m⟩
def zeroP : PlayD := ⟨0, 0, 0, 0⟩
def replF (N : NetD) (i o : Int) (tr : List Int) : PlayD × Int :=
  if shapeC N i o ≠ 0 then (zeroP, shapeC N i o)
  else if plainB N = false then (zeroP, 1)
  else if 60 < tr.length then (zeroP, 2)
  else match repFold N (repIn N i) tr with
    | none => (zeroP, 3)
    | some s => (outS (takeS s (oneN N.places.toNat o)), 0)
theorem repl_shape {N : NetD} {i o : Int} {tr : List Int} (h : shapeC N i o ≠ 0) : replF N i o tr = (zeroP, shapeC N i o) := by unfold replF; rw [if_pos h]
theorem repl_plain {N : NetD} {i o : Int} {tr : List Int} (h : shapeC N i o = 0) (hp : plainB N = false) : replF N i o tr = (zeroP, 1) := by unfold replF; rw [if_neg (by rw [h]; decide), if_pos hp]
theorem repl_long {N : NetD} {i o : Int} {tr : List Int} (h : shapeC N i o = 0) (hp : plainB N = true) (hl : 60 < tr.length) : replF N i o tr = (zeroP, 2) := by
  unfold replF; rw [if_neg (by rw [h]; decide), if_neg (by rw [hp]; decide), if_pos hl]
theorem repl_none {N : NetD} {i o : Int} {tr : List Int} (h : shapeC N i o = 0) (hp : plainB N = true) (hl : tr.length ≤ 60) (hf : repFold N (repIn N i) tr = none) : replF N i o tr = (zeroP, 3) := by
  unfold replF; rw [if_neg (by rw [h]; decide), if_neg (by rw [hp]; decide), if_neg (by omega), hf]
theorem repl_some {N : NetD} {i o : Int} {tr : List Int} {s : RepS} (h : shapeC N i o = 0) (hp : plainB N = true) (hl : tr.length ≤ 60) (hf : repFold N (repIn N i) tr = some s) : replF N i o tr = (outS (takeS s (oneN N.places.toNat o)), 0) := by
  unfold replF; rw [if_neg (by rw [h]; decide), if_neg (by rw [hp]; decide), if_neg (by omega), hf]

/-! ### bounds -/
/-- so many places; each has from 0 to b tokens; the sums are from 0 to c -/
structure RepB (s : RepS) (n : Nat) (b c : Int) : Prop where
  len : s.m.length = n
  m : ∀ p, 0 ≤ nth s.m p ∧ nth s.m p ≤ b
  put : 0 ≤ s.put ∧ s.put ≤ c
  taken : 0 ≤ s.taken ∧ s.taken ≤ c
  lacked : 0 ≤ s.lacked ∧ s.lacked ≤ c
  sum : s.put + s.lacked = s.taken + sumL s.m
theorem RepB.mono {s : RepS} {n : Nat} {b c b' c' : Int} (h : RepB s n b c) (hb : b ≤ b') (hc : c ≤ c') : RepB s n b' c' :=
  ⟨h.len, fun p => by have := h.m p; omega, by have := h.put; omega, by have := h.taken; omega, by have := h.lacked; omega, h.sum⟩
/-- weights of so many places -/
structure Wts (ws : List Int) (n : Nat) : Prop where
  len : ws.length = n
  w : ∀ p, 0 ≤ nth ws p ∧ nth ws p ≤ 9
theorem wts_pre {N : NetD} (h : netOkB N = true) {k : Nat} (hk : k < N.trans.length) : Wts (N.tr k).pre N.places.toNat :=
  have F := netOk_tr h hk
  ⟨by have := F.pre; omega, fun p => by have := w_nth F p; omega⟩
theorem wts_post {N : NetD} (h : netOkB N = true) {k : Nat} (hk : k < N.trans.length) : Wts (N.tr k).post N.places.toNat :=
  have F := netOk_tr h hk
  ⟨by have := F.post; omega, fun p => by have := w_nth F p; omega⟩
theorem wts_one {n i : Nat} (h : i < n) : Wts (oneN n (i : Int)) n := ⟨oneN_len _ _, fun p => by rw [nth_oneN _ _ _ h]; split <;> omega⟩
theorem sumL_wts {ws : List Int} {n : Nat} (h : Wts ws n) : 0 ≤ sumL ws ∧ sumL ws ≤ 9 * n := by
  unfold sumL
  rw [h.len]
  exact tokTo_bd (fun p => h.w p) n
theorem lackT_wts {m ws : List Int} {n : Nat} (h : Wts ws n) (hm : ∀ p, 0 ≤ nth m p) (k : Nat) : 0 ≤ lackT m ws k ∧ lackT m ws k ≤ 9 * k :=
  tokTo_bd (fun p => by have := h.w p; have := hm p; omega) k
theorem put_b {s : RepS} {ws : List Int} {n : Nat} {b c b' c' : Int} (h : RepB s n b c) (hw : Wts ws n) (hb : b' = b + 9) (hc : c' = c + 9 * n) : RepB (putS s ws) n b' c' := by
  subst hb hc
  have h1 := sumL_wts hw
  refine ⟨by unfold putS; rw [addM_len]; exact h.len, fun p => ?_, ?_, ?_, ?_, ?_⟩
  · unfold putS
    simp only []
    have h2 := h.m p
    have h3 := hw.w p
    by_cases hp : p < s.m.length
    · rw [addM_nth hp]; omega
    · rw [nth_ge (by rw [addM_len]; omega)]; omega
  · have := h.put; unfold putS; simp only []; omega
  · have := h.taken; unfold putS; simp only []; omega
  · have := h.lacked; unfold putS; simp only []; omega
  · have := h.sum
    unfold putS
    simp only []
    have e : sumL (addM s.m ws) = sumL s.m + sumL ws := by
      unfold sumL
      rw [addM_len, h.len, hw.len, ← tokTo_add]
      exact tokTo_congr n fun p hp => addM_nth (by rw [h.len]; exact hp)
    rw [e]; omega
theorem take_b {s : RepS} {ws : List Int} {n : Nat} {b c c' : Int} (h : RepB s n b c) (hw : Wts ws n) (hc : c' = c + 9 * n) : RepB (takeS s ws) n b c' := by
  subst hc
  have h1 := sumL_wts hw
  have h2 := lackT_wts hw (fun p => (h.m p).1) ws.length
  rw [hw.len] at h2
  refine ⟨by unfold takeS; rw [subM_len]; exact h.len, fun p => ?_, ?_, ?_, ?_, ?_⟩
  · unfold takeS
    simp only []
    have h2 := h.m p
    have h3 := hw.w p
    by_cases hp : p < s.m.length
    · rw [subM_nth hp]; omega
    · rw [nth_ge (by rw [subM_len]; omega)]; omega
  · have := h.put; unfold takeS; simp only []; omega
  · have := h.taken; unfold takeS; simp only []; omega
  · have := h.lacked; unfold takeS; simp only [hw.len]; omega
  · have := h.sum
    unfold takeS
    simp only []
    have e : sumL (subM s.m ws) + sumL ws = sumL s.m + lackT s.m ws ws.length := by
      unfold sumL lackT
      rw [subM_len, h.len, hw.len, ← tokTo_add, ← tokTo_add]
      refine tokTo_congr n fun p hp => ?_
      rw [subM_nth (by rw [h.len]; exact hp)]; omega
    omega
theorem step_b {N : NetD} (hok : netOkB N = true) {s : RepS} {k : Nat} (hk : k < N.trans.length) {b c b' c' : Int} (h : RepB s N.places.toNat b c) (hb : b' = b + 9) (hc : c' = c + 18 * N.places.toNat) : RepB (repStep s (N.tr k)) N.places.toNat b' c' := by
  unfold repStep
  exact put_b (take_b h (wts_pre hok hk) rfl) (wts_post hok hk) hb (by omega)
theorem sumL_replicate (n : Nat) : sumL (List.replicate n 0) = 0 := by
  unfold sumL
  rw [List.length_replicate]
  have : tokTo (nth (List.replicate n 0)) n = tokTo (fun _ => 0) n := tokTo_congr n fun p hp => by rw [nth_lt (by simpa using hp)]; simp
  rw [this, tokTo_const0]
theorem zero_b (n : Nat) : RepB ⟨0, 0, 0, List.replicate n 0⟩ n 0 0 := by
  refine ⟨by simp, fun p => ?_, by simp, by simp, by simp, by rw [sumL_replicate]⟩
  simp only []
  by_cases hp : p < n
  · rw [nth_lt (by simpa using hp)]; simp
  · rw [nth_ge (by simp; omega)]; omega
theorem in_b {N : NetD} {i : Nat} (h : i < N.places.toNat) : RepB (repIn N i) N.places.toNat 9 (9 * N.places.toNat) := put_b (zero_b _) (wts_one h) (by omega) (by omega)
/-- what is left of the fold behind the first k labels -/
def RepTo (N : NetD) (s0 : RepS) (tr : List Int) (k : Nat) (s : RepS) : Prop := repFold N s0 tr = repFold N s (tr.drop k)
theorem RepTo.zero (N : NetD) (s0 : RepS) (tr : List Int) : RepTo N s0 tr 0 s0 := rfl
theorem RepTo.miss {N : NetD} {s0 s : RepS} {tr : List Int} {k : Nat} (h : RepTo N s0 tr k s) (hk : k < tr.length) (hf : firstI (fun t => decide (t.label = nth tr k)) N.trans = -1) : repFold N s0 tr = none := by
  unfold RepTo at h
  rw [h, drop_cons hk, repFold, if_pos (by omega)]
theorem RepTo.hit {N : NetD} {s0 s : RepS} {tr : List Int} {k j : Nat} (h : RepTo N s0 tr k s) (hk : k < tr.length) (hf : firstI (fun t => decide (t.label = nth tr k)) N.trans = j) : RepTo N s0 tr (k + 1) (repStep s (N.tr j)) := by
  unfold RepTo at h ⊢
  rw [h, drop_cons hk, repFold, if_neg (by omega), hf, Int.toNat_natCast]
theorem RepTo.all {N : NetD} {s0 s : RepS} {tr : List Int} {k : Nat} (h : RepTo N s0 tr k s) (hk : tr.length ≤ k) : repFold N s0 tr = some s := by
  unfold RepTo at h
  rw [h, List.drop_eq_nil_of_le hk, repFold]
theorem plainTo_zero (ts : List TranD) : plainTo ts 0 = true := rfl
theorem plainTo_no {ts : List TranD} {k n : Nat} (h : ((ix ts k).label = 0 ∨ hasB (labsTo ts k) (ix ts k).label = true)) (hk : k < n) : plainTo ts n = false := by
  induction n with
  | zero => omega
  | succ n ih =>
    rw [plainTo]
    by_cases e : k = n
    · subst e; rcases h with h | h <;> simp [h]
    · rw [ih (by omega)]; rfl
theorem plainTo_yes {ts : List TranD} {k : Nat} (h : plainTo ts k = true) (h1 : (ix ts k).label ≠ 0) (h2 : hasB (labsTo ts k) (ix ts k).label = false) : plainTo ts (k + 1) = true := by
  rw [plainTo, h]; simp [h1, h2]
theorem labsTo_zero (ts : List TranD) : labsTo ts 0 = [] := by simp [labsTo]
theorem labsTo_succ {ts : List TranD} {k : Nat} (h : k < ts.length) : labsTo ts (k + 1) = labsTo ts k ++ [(ix ts k).label] := by
  unfold labsTo; rw [take_ix h]; simp
theorem labsTo_len {ts : List TranD} {k : Nat} (h : k ≤ ts.length) : (labsTo ts k).length = k := by unfold labsTo; simp; omega
attribute [irreducible] addM subM tokTo labsTo plainTo RepTo repFold
end Go.Tok
