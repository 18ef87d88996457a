/- Plain laws of tongue's far: of each mark how few letters lead to the end. -/
import Derived.Test.YtkanaoebpajbfaaTongLaw
namespace Go.Tok
open Go.RowKit
set_option linter.unusedVariables false
theorem nth_sett {xs : List Int} {i : Nat} (v : Int) {p : Nat} (h : i < xs.length) : nth (xs.set i v) p = if p = i then v else nth xs p := by
  unfold nth
  rw [List.getD_eq_getElem?_getD, List.getD_eq_getElem?_getD, List.getElem?_set]
  by_cases e : i = p
  · subst e; simp [h]
  · have : ¬ p = i := fun h => e h.symm
    simp [e, this]
def costF (lab : List Int) (t : Nat) : Int := if 0 < nth lab t then 1 else 0
theorem cost_yes {lab : List Int} {t : Nat} (h : 0 < nth lab t) : costF lab t = 1 := if_pos h
theorem cost_no {lab : List Int} {t : Nat} (h : ¬ 0 < nth lab t) : costF lab t = 0 := if_neg h
theorem cost_le (lab : List Int) (t : Nat) : 0 ≤ costF lab t ∧ costF lab t ≤ 1 := by unfold costF; split <;> omega
/-- one arc is looked at -/
def stepA (lab : List Int) (o : List Int) (x : ArcD) : List Int :=
  if 0 ≤ nth o x.dst.toNat ∧ (nth o x.src.toNat < 0 ∨ nth o x.dst.toNat + costF lab x.tran.toNat < nth o x.src.toNat) then o.set x.src.toNat (nth o x.dst.toNat + costF lab x.tran.toNat) else o
theorem stepA_yes {lab o : List Int} {j t k : Nat} (h1 : 0 ≤ nth o k) (h2 : nth o j < 0 ∨ nth o k + costF lab t < nth o j) : stepA lab o ⟨(j : Int), (t : Int), (k : Int)⟩ = o.set j (nth o k + costF lab t) := if_pos ⟨by simpa using h1, by simpa using h2⟩
theorem stepA_no {lab o : List Int} {j t k : Nat} (h : ¬ (0 ≤ nth o k ∧ (nth o j < 0 ∨ nth o k + costF lab t < nth o j))) : stepA lab o ⟨(j : Int), (t : Int), (k : Int)⟩ = o := if_neg (by simpa using h)
/-- all arcs are looked at -/
def passA (lab : List Int) (arcs : List ArcD) (o : List Int) : List Int := arcs.foldl (stepA lab) o
def passTo (lab : List Int) (arcs : List ArcD) (k : Nat) (o : List Int) : List Int := (arcs.take k).foldl (stepA lab) o
theorem passTo_zero (lab : List Int) (arcs : List ArcD) (o : List Int) : passTo lab arcs 0 o = o := by simp [passTo]
theorem passTo_succ {lab : List Int} {arcs : List ArcD} {k : Nat} (o : List Int) (h : k < arcs.length) : passTo lab arcs (k + 1) o = stepA lab (passTo lab arcs k o) (ix arcs k) := by
  unfold passTo; rw [List.take_succ_eq_append_getElem h, List.foldl_append, ix_lt h]; rfl
theorem passTo_all (lab : List Int) (arcs : List ArcD) (o : List Int) : passTo lab arcs arcs.length o = passA lab arcs o := by simp [passTo, passA]
/-- n times -/
def passN (lab : List Int) (arcs : List ArcD) : Nat → List Int → List Int
  | 0, o => o
  | n + 1, o => passN lab arcs n (passA lab arcs o)
theorem passN_fix {lab : List Int} {arcs : List ArcD} {o : List Int} (h : passA lab arcs o = o) : ∀ n, passN lab arcs n o = o
  | 0 => rfl
  | n + 1 => by rw [passN, h]; exact passN_fix h n
theorem passN_add (lab : List Int) (arcs : List ArcD) (b : Nat) : ∀ (a : Nat) (o : List Int), passN lab arcs (a + b) o = passN lab arcs b (passN lab arcs a o)
  | 0, o => by rw [Nat.zero_add]; rfl
  | a + 1, o => by rw [Nat.succ_add]; exact passN_add lab arcs b a _
theorem passN_succ (lab : List Int) (arcs : List ArcD) (a : Nat) (o : List Int) : passN lab arcs (a + 1) o = passA lab arcs (passN lab arcs a o) := passN_add lab arcs 1 a o
/-- c letters lead from mark k to an end -/
inductive FarP (lab : List Int) (arcs : List ArcD) (en : List Bool) : Nat → Int → Prop
  | base {k : Nat} (h : k < en.length) (h' : ix en k = true) : FarP lab arcs en k 0
  | step {j t k : Nat} {c : Int} (ha : (⟨(j : Int), (t : Int), (k : Int)⟩ : ArcD) ∈ arcs) (h : FarP lab arcs en k c) : FarP lab arcs en j (c + costF lab t)
theorem FarP.ge {lab : List Int} {arcs : List ArcD} {en : List Bool} {k : Nat} {c : Int} (h : FarP lab arcs en k c) : 0 ≤ c := by
  induction h with
  | base => omega
  | step _ _ ih => have := cost_le lab; rename_i t _ _ _ _; have := this t; omega
/-- how many marks lead to the end -/
def cntF (o : List Int) : Nat := (o.filter fun x => decide (0 ≤ x)).length
theorem cnt_le (o : List Int) : cntF o ≤ o.length := List.length_filter_le _ _
theorem cnt_set : ∀ (o : List Int) (k : Nat) (v : Int), k < o.length → 0 ≤ v → cntF (o.set k v) = cntF o + (if nth o k < 0 then 1 else 0) := by
  intro o
  induction o with
  | nil => intro k v h; simp at h
  | cons a r ih =>
    intro k v h hv
    cases k with
    | zero =>
      have e : nth (a :: r) 0 = a := by simp [nth]
      rw [e, List.set_cons_zero]
      unfold cntF
      rw [List.filter_cons, List.filter_cons, if_pos (by simpa using hv)]
      by_cases ha : a < 0
      · rw [if_pos ha, if_neg (by simp; omega)]; simp
      · rw [if_neg ha, if_pos (by simp; omega)]; simp
    | succ k =>
      have e : nth (a :: r) (k + 1) = nth r k := by simp [nth]
      rw [e, List.set_cons_succ]
      have := ih k v (by simpa using h) hv
      unfold cntF at this ⊢
      rw [List.filter_cons, List.filter_cons]
      split <;> simp only [List.length_cons, this] <;> omega
/-- what stands at the marks is true -/
structure FarI (lab : List Int) (arcs : List ArcD) (en : List Bool) (o : List Int) : Prop where
  len : o.length = en.length
  ge : ∀ k, k < o.length → -1 ≤ nth o k
  lt : ∀ k, k < o.length → nth o k < cntF o
  is : ∀ k, k < o.length → 0 ≤ nth o k → FarP lab arcs en k (nth o k)
  zero : ∀ k, k < en.length → ix en k = true → nth o k = 0
def initF (en : List Bool) : List Int := en.map fun b => if b then 0 else -1
theorem init_len (en : List Bool) : (initF en).length = en.length := by simp [initF]
theorem init_nth {en : List Bool} {k : Nat} (h : k < en.length) : nth (initF en) k = if ix en k = true then 0 else -1 := by
  rw [nth_lt (by simpa [initF] using h), ix_lt h]; simp [initF]
theorem FarI.init (lab : List Int) (arcs : List ArcD) (en : List Bool) : FarI lab arcs en (initF en) := by
  have hc : ∀ k, k < en.length → ix en k = true → 0 < cntF (initF en) := by
    intro k hk h
    have h0 := init_nth hk
    rw [if_pos h, nth_lt (by simpa [initF] using hk)] at h0
    unfold cntF
    refine List.length_pos_of_mem (a := 0) (List.mem_filter.2 ⟨?_, by simp⟩)
    rw [← h0]; exact List.getElem_mem _
  refine ⟨init_len en, fun k hk => ?_, fun k hk => ?_, fun k hk h => ?_, fun k hk h => ?_⟩
  · rw [init_nth (by simpa [initF] using hk)]; split <;> omega
  · rw [init_len] at hk
    rw [init_nth hk]
    split
    · rename_i h; have := hc k hk h; omega
    · have := cntF (initF en); omega
  · rw [init_len] at hk
    rw [init_nth hk] at h ⊢
    split
    · rename_i h2; exact .base hk h2
    · rename_i h2; rw [if_neg h2] at h; omega
  · rw [init_nth hk, if_pos h]
/-- the row while the ends are marked -/
structure InitI (en : List Bool) (k : Nat) (cur : List Int) : Prop where
  len : cur.length = en.length
  at_ : ∀ p, p < en.length → nth cur p = if p < k then nth (initF en) p else 0
theorem InitI.zero (en : List Bool) : InitI en 0 (List.replicate en.length 0) := ⟨by simp, fun p hp => by rw [nth_lt (by simpa using hp)]; simp⟩
theorem InitI.no {en : List Bool} {k : Nat} {cur : List Int} (h : InitI en k cur) (hk : k < en.length) (hb : ix en k = false) : InitI en (k + 1) (cur.set k (-1)) := by
  refine ⟨by rw [List.length_set]; exact h.len, fun p hp => ?_⟩
  rw [nth_sett _ (by rw [h.len]; exact hk)]
  by_cases e : p = k
  · subst e; rw [if_pos rfl, if_pos (by omega), init_nth hp, hb]; rfl
  · rw [if_neg e, h.at_ p hp]
    by_cases h2 : p < k
    · rw [if_pos h2, if_pos (by omega)]
    · rw [if_neg h2, if_neg (by omega)]
theorem InitI.yes {en : List Bool} {k : Nat} {cur : List Int} (h : InitI en k cur) (hk : k < en.length) (hb : ix en k = true) : InitI en (k + 1) cur := by
  refine ⟨h.len, fun p hp => ?_⟩
  rw [h.at_ p hp]
  by_cases e : p = k
  · subst e; rw [if_neg (by omega), if_pos (by omega), init_nth hp, if_pos hb]
  · by_cases h2 : p < k
    · rw [if_pos h2, if_pos (by omega)]
    · rw [if_neg h2, if_neg (by omega)]
theorem InitI.all {en : List Bool} {cur : List Int} (h : InitI en en.length cur) : cur = initF en := by
  refine List.ext_getElem (by rw [h.len, init_len]) fun p h1 h2 => ?_
  rw [← nth_lt h1, ← nth_lt h2, h.at_ p (by rw [← h.len]; exact h1), if_pos (by rw [← h.len]; exact h1)]
theorem FarI.step {lab : List Int} {arcs : List ArcD} {en : List Bool} {o : List Int} {j t k : Nat} (h : FarI lab arcs en o) (ha : (⟨(j : Int), (t : Int), (k : Int)⟩ : ArcD) ∈ arcs) (hj : j < o.length) (hk : k < o.length) : FarI lab arcs en (stepA lab o ⟨(j : Int), (t : Int), (k : Int)⟩) := by
  by_cases hc : 0 ≤ nth o k ∧ (nth o j < 0 ∨ nth o k + costF lab t < nth o j)
  · obtain ⟨h1, h2⟩ := hc
    rw [stepA_yes h1 h2]
    have hcost := cost_le lab t
    have hcs := cnt_set o j (nth o k + costF lab t) hj (by omega)
    have hlk := h.lt k hk
    have hlj := h.lt j hj
    refine ⟨by rw [List.length_set]; exact h.len, fun p hp => ?_, fun p hp => ?_, fun p hp hz => ?_, fun p hp he => ?_⟩
    · rw [List.length_set] at hp
      have := h.ge p hp
      rw [nth_sett _ hj]; split <;> omega
    · rw [List.length_set] at hp
      have := h.lt p hp
      rw [nth_sett _ hj, hcs]
      split
      · rcases h2 with h2 | h2
        · rw [if_pos h2]; omega
        · split <;> omega
      · split <;> omega
    · rw [List.length_set] at hp
      rw [nth_sett _ hj] at hz ⊢
      split
      · rename_i e; subst e; exact .step ha (h.is k hk h1)
      · rename_i e; rw [if_neg e] at hz; exact h.is p hp hz
    · have hz := h.zero p hp he
      rw [nth_sett _ hj]
      split
      · rename_i e; subst e
        rcases h2 with h2 | h2 <;> omega
      · exact hz
  · rw [stepA_no hc]; exact h
theorem stepA_len (lab o : List Int) (x : ArcD) : (stepA lab o x).length = o.length := by unfold stepA; split <;> simp
theorem FarI.passTo {lab : List Int} {arcs : List ArcD} {en : List Bool} {o : List Int} (h : FarI lab arcs en o) (hok : ArcsOk en.length lab.length arcs) : ∀ k, k ≤ arcs.length → FarI lab arcs en (passTo lab arcs k o) := by
  intro k
  induction k with
  | zero => intro _; rw [passTo_zero]; exact h
  | succ k ih =>
    intro hk
    have h1 := ih (by omega)
    obtain ⟨j, t, d, hq, hj, ht, hd⟩ := hok.at_ (show k < arcs.length by omega)
    rw [passTo_succ o (by omega), hq]
    have hm : (⟨(j : Int), (t : Int), (d : Int)⟩ : ArcD) ∈ arcs := by rw [← hq]; exact ix_mem (by omega)
    exact h1.step hm (by rw [h1.len]; exact hj) (by rw [h1.len]; exact hd)
theorem FarI.pass {lab : List Int} {arcs : List ArcD} {en : List Bool} {o : List Int} (h : FarI lab arcs en o) (hok : ArcsOk en.length lab.length arcs) : FarI lab arcs en (passA lab arcs o) := by
  rw [← passTo_all]; exact h.passTo hok _ (Nat.le_refl _)
/-- what is left to be done -/
def leftF (n : Nat) (out : List Int) : Nat := (out.map fun x => if x < 0 then n + 1 else x.toNat).sum
theorem sum_set : ∀ (l : List Int) (f : Int → Nat) (k : Nat) (v : Int), k < l.length → ((l.set k v).map f).sum + f (nth l k) = (l.map f).sum + f v := by
  intro l f
  induction l with
  | nil => intro k v h; simp at h
  | cons a r ih =>
    intro k v h
    cases k with
    | zero => simp [nth]; omega
    | succ k =>
      have := ih k v (by simpa using h)
      have e : nth (a :: r) (k + 1) = nth r k := by simp [nth]
      rw [e, List.set_cons_succ, List.map_cons, List.map_cons, List.sum_cons, List.sum_cons]
      omega
theorem left_set {n : Nat} {out : List Int} {k : Nat} {v : Int} (h : k < out.length) (hv : 0 ≤ v) (hn : v ≤ (n : Int)) (hl : nth out k < 0 ∨ v < nth out k) : leftF n (out.set k v) < leftF n out := by
  have := sum_set out (fun x => if x < 0 then n + 1 else x.toNat) k v h
  unfold leftF
  have h1 : (if v < 0 then n + 1 else v.toNat) = v.toNat := if_neg (by omega)
  simp only [h1] at this
  by_cases hc : nth out k < 0
  · simp only [hc, if_true] at this; omega
  · simp only [hc, if_false] at this; omega
theorem left_le (n : Nat) : ∀ (o : List Int), (∀ k, k < o.length → nth o k ≤ n) → leftF n o ≤ o.length * (n + 1)
  | [], _ => by simp [leftF]
  | a :: r, h => by
    have h1 := left_le n r (fun k hk => by have := h (k + 1) (by simpa using hk); simpa [nth] using this)
    have h0 := h 0 (by simp)
    have e : nth (a :: r) 0 = a := by simp [nth]
    rw [e] at h0
    unfold leftF at h1 ⊢
    rw [List.map_cons, List.sum_cons, List.length_cons, Nat.succ_mul]
    split <;> omega
/-- how an arc changes the row: it stays, or something goes down -/
theorem step_turn {lab : List Int} {arcs : List ArcD} {en : List Bool} {o : List Int} {j t k : Nat} (h : FarI lab arcs en o) (hj : j < o.length) (hk : k < o.length) : (stepA lab o ⟨(j : Int), (t : Int), (k : Int)⟩ = o ∧ ¬ (0 ≤ nth o k ∧ (nth o j < 0 ∨ nth o k + costF lab t < nth o j))) ∨ leftF o.length (stepA lab o ⟨(j : Int), (t : Int), (k : Int)⟩) < leftF o.length o := by
  by_cases hc : 0 ≤ nth o k ∧ (nth o j < 0 ∨ nth o k + costF lab t < nth o j)
  · right
    rw [stepA_yes hc.1 hc.2]
    have hcost := cost_le lab t
    have := h.lt k hk
    have := cnt_le o
    exact left_set hj (by omega) (by omega) hc.2
  · exact .inl ⟨stepA_no hc, hc⟩
/-- the state within a pass -/
def FarT (n : Nat) (o cur : List Int) (again : Bool) : Prop := (again = false ∧ cur = o) ∨ (again = true ∧ leftF n cur < leftF n o)
theorem FarT.le {n : Nat} {o cur : List Int} {again : Bool} (h : FarT n o cur again) : leftF n cur ≤ leftF n o := by
  rcases h with ⟨_, h⟩ | ⟨_, h⟩
  · rw [h]; exact Nat.le_refl _
  · omega
/-- no arc could lower anything -/
theorem far_least {lab : List Int} {arcs : List ArcD} {en : List Bool} {o : List Int} (h : FarI lab arcs en o) (hok : ArcsOk en.length lab.length arcs) (hf : passA lab arcs o = o) {k : Nat} {c : Int} (hp : FarP lab arcs en k c) : k < o.length ∧ 0 ≤ nth o k ∧ nth o k ≤ c := by
  have hstep : ∀ q, q ≤ arcs.length → leftF o.length (passTo lab arcs q o) ≤ leftF o.length o ∧ (leftF o.length (passTo lab arcs q o) = leftF o.length o → passTo lab arcs q o = o ∧ ∀ q' j t d : Nat, q' < q → ix arcs q' = ⟨(j : Int), (t : Int), (d : Int)⟩ → ¬ (0 ≤ nth o d ∧ (nth o j < 0 ∨ nth o d + costF lab t < nth o j))) := by
    intro q
    induction q with
    | zero => intro _; rw [passTo_zero]; exact ⟨Nat.le_refl _, fun _ => ⟨rfl, fun q' _ _ _ h => by omega⟩⟩
    | succ q ih =>
      intro hq
      obtain ⟨i1, i2⟩ := ih (by omega)
      obtain ⟨j, t, d, he, hj, ht, hd⟩ := hok.at_ (show q < arcs.length by omega)
      have hI := h.passTo hok q (by omega)
      have hl : (passTo lab arcs q o).length = o.length := by rw [hI.len, h.len]
      rw [passTo_succ o (by omega), he]
      rcases step_turn (t := t) hI (by rw [hI.len]; exact hj) (by rw [hI.len]; exact hd) with ⟨e1, e2⟩ | e
      · rw [e1]
        refine ⟨i1, fun hh => ?_⟩
        obtain ⟨e3, e4⟩ := i2 hh
        refine ⟨e3, fun q' j' t' d' hq' he' => ?_⟩
        rcases Nat.lt_or_ge q' q with h1 | h1
        · exact e4 q' j' t' d' h1 he'
        · obtain rfl : q' = q := by omega
          rw [he] at he'
          injection he' with a1 a2 a3
          obtain rfl : j = j' := by omega
          obtain rfl : t = t' := by omega
          obtain rfl : d = d' := by omega
          rw [e3] at e2; exact e2
      · rw [hl] at e
        exact ⟨by omega, fun hh => by omega⟩
  have hall := (hstep arcs.length (Nat.le_refl _)).2 (by rw [passTo_all, hf])
  induction hp with
  | base h1 h2 => have := h.zero _ h1 h2; rw [h.len]; exact ⟨h1, by omega, by omega⟩
  | step ha hp ih =>
    rename_i j t k c
    obtain ⟨i1, i2, i3⟩ := ih
    obtain ⟨q, hq, e⟩ := List.getElem_of_mem ha
    have hj := (hok.of ha).1
    have := hall.2 q j t k hq (by rw [ix_lt hq]; exact e)
    rw [h.len]
    refine ⟨hj, ?_, ?_⟩ <;> (by_cases hx : nth o j < 0 ∨ nth o k + costF lab t < nth o j)
    · exact absurd ⟨i2, hx⟩ this
    · omega
    · exact absurd ⟨i2, hx⟩ this
    · omega
/-- what far answers -/
def farN (lab : List Int) (arcs : List ArcD) (en : List Bool) : List Int := passN lab arcs (en.length * (en.length + 1)) (initF en)
theorem farN_of {lab : List Int} {arcs : List ArcD} {en : List Bool} {r : List Int} {a : Nat} (h1 : r = passN lab arcs a (initF en)) (h2 : passA lab arcs r = r) (h3 : a ≤ en.length * (en.length + 1)) : r = farN lab arcs en := by
  obtain ⟨b, hb⟩ := Nat.exists_eq_add_of_le h3
  unfold farN
  rw [hb, passN_add, ← h1, passN_fix h2]
theorem passN_I {lab : List Int} {arcs : List ArcD} {en : List Bool} (hok : ArcsOk en.length lab.length arcs) : ∀ a, FarI lab arcs en (passN lab arcs a (initF en))
  | 0 => FarI.init lab arcs en
  | a + 1 => by rw [passN_succ]; exact (passN_I hok a).pass hok
end Go.Tok
