/- Plain laws of siphons and traps: sets of places as bits. No program is in sight here. -/
import Derived.Test.YtmigejcejnofiaaNetLaw
import Derived.Test.YtmigejcejnofiaaBackLaw
namespace Go.Tok
set_option linter.unusedVariables false

/-! ### sets of places, bit by bit -/
def addB (s p : Nat) : Nat := s ||| 2 ^ p
theorem addB_def (s p : Nat) : addB s p = s ||| 2 ^ p := rfl
theorem addB_bit (s p q : Nat) : (addB s p).testBit q = (s.testBit q || decide (p = q)) := by
  unfold addB; rw [Nat.testBit_or, Nat.testBit_two_pow]
theorem addB_lt {s p : Nat} (hs : s < 65536) (hp : p < 16) : addB s p < 65536 := by
  have : 2 ^ p < 2 ^ 16 := Nat.pow_lt_pow_right (by omega) hp
  exact Nat.or_lt_two_pow (n := 16) hs this
def setTo (l : List Int) : Nat → Nat
  | 0 => 0
  | k + 1 => if 0 ≤ nth l k ∧ nth l k < 16 then addB (setTo l k) (nth l k).toNat else setTo l k
theorem setTo_zero (l : List Int) : setTo l 0 = 0 := rfl
theorem setTo_in {l : List Int} {k : Nat} (h0 : 0 ≤ nth l k) (h1 : nth l k < 16) : setTo l (k + 1) = addB (setTo l k) (nth l k).toNat := by rw [setTo, if_pos ⟨h0, h1⟩]
theorem setTo_out {l : List Int} {k : Nat} (h : nth l k < 0 ∨ 16 ≤ nth l k) : setTo l (k + 1) = setTo l k := by rw [setTo, if_neg (by omega)]
theorem setTo_lt (l : List Int) (k : Nat) : setTo l k < 65536 := by
  induction k with
  | zero => rw [setTo_zero]; omega
  | succ k ih =>
    rw [setTo]; split
    · exact addB_lt ih (by omega)
    · exact ih
theorem setTo_bit (l : List Int) (k p : Nat) : (setTo l k).testBit p = true ↔ p < 16 ∧ ∃ j, j < k ∧ nth l j = (p : Int) := by
  induction k with
  | zero => simp [setTo_zero]
  | succ k ih =>
    rw [setTo]
    split
    · rename_i h
      rw [addB_bit, Bool.or_eq_true, ih, decide_eq_true_eq]
      constructor
      · rintro (⟨h1, j, h2, h3⟩ | h1)
        · exact ⟨h1, j, by omega, h3⟩
        · exact ⟨by omega, k, by omega, by omega⟩
      · rintro ⟨h1, j, h2, h3⟩
        by_cases hj : j = k
        · subst hj; exact .inr (by omega)
        · exact .inl ⟨h1, j, by omega, h3⟩
    · rename_i h
      rw [ih]
      constructor
      · rintro ⟨h1, j, h2, h3⟩; exact ⟨h1, j, by omega, h3⟩
      · rintro ⟨h1, j, h2, h3⟩
        refine ⟨h1, j, ?_, h3⟩
        rcases Nat.lt_or_ge j k with h4 | h4
        · exact h4
        · obtain rfl : j = k := by omega
          omega
def setN (l : List Int) : Nat := setTo l l.length
theorem setN_def (l : List Int) : setN l = setTo l l.length := rfl
theorem setN_lt (l : List Int) : setN l < 65536 := setTo_lt _ _
theorem setN_bit (l : List Int) (p : Nat) : (setN l).testBit p = true ↔ p < 16 ∧ (p : Int) ∈ l := by
  unfold setN
  rw [setTo_bit]
  constructor
  · rintro ⟨h1, j, h2, h3⟩
    refine ⟨h1, ?_⟩
    rw [← h3, nth_lt h2]; exact List.getElem_mem h2
  · rintro ⟨h1, h2⟩
    obtain ⟨j, hj, h3⟩ := List.getElem_of_mem h2
    exact ⟨h1, j, hj, by rw [nth_lt hj]; exact h3⟩
def ofTo (w : List Int) : Nat → Nat
  | 0 => 0
  | k + 1 => if 0 < nth w k then addB (ofTo w k) k else ofTo w k
theorem ofTo_zero (w : List Int) : ofTo w 0 = 0 := rfl
theorem ofTo_in {w : List Int} {k : Nat} (h : 0 < nth w k) : ofTo w (k + 1) = addB (ofTo w k) k := by rw [ofTo, if_pos h]
theorem ofTo_out {w : List Int} {k : Nat} (h : nth w k ≤ 0) : ofTo w (k + 1) = ofTo w k := by rw [ofTo, if_neg (by omega)]
theorem ofTo_lt (w : List Int) : ∀ k, k ≤ 16 → ofTo w k < 65536 := by
  intro k
  induction k with
  | zero => intro _; rw [ofTo_zero]; omega
  | succ k ih =>
    intro hk
    rw [ofTo]; split
    · exact addB_lt (ih (by omega)) (by omega)
    · exact ih (by omega)
theorem ofTo_bit (w : List Int) (k p : Nat) : (ofTo w k).testBit p = true ↔ p < k ∧ 0 < nth w p := by
  induction k with
  | zero => simp [ofTo_zero]
  | succ k ih =>
    rw [ofTo]
    split
    · rename_i h
      rw [addB_bit, Bool.or_eq_true, ih, decide_eq_true_eq]
      constructor
      · rintro (⟨h1, h2⟩ | rfl)
        · exact ⟨by omega, h2⟩
        · exact ⟨by omega, h⟩
      · rintro ⟨h1, h2⟩
        by_cases hj : k = p
        · exact .inr hj
        · exact .inl ⟨by omega, h2⟩
    · rename_i h
      rw [ih]
      constructor
      · rintro ⟨h1, h2⟩; exact ⟨by omega, h2⟩
      · rintro ⟨h1, h2⟩
        refine ⟨?_, h2⟩
        rcases Nat.lt_or_ge p k with h4 | h4
        · exact h4
        · obtain rfl : p = k := by omega
          omega
def ofN (w : List Int) : Nat := ofTo w w.length
theorem ofN_def (w : List Int) : ofN w = ofTo w w.length := rfl
theorem ofN_lt {w : List Int} (h : w.length ≤ 16) : ofN w < 65536 := ofTo_lt w _ h
theorem ofN_bit (w : List Int) (p : Nat) : (ofN w).testBit p = true ↔ 0 < nth w p := by
  unfold ofN
  rw [ofTo_bit]
  constructor
  · exact fun h => h.2
  · intro h
    refine ⟨?_, h⟩
    rcases Nat.lt_or_ge p w.length with h1 | h1
    · exact h1
    · rw [nth_ge h1] at h; omega
theorem and_ne {a b : Nat} : (a &&& b ≠ 0) ↔ ∃ p, a.testBit p = true ∧ b.testBit p = true := by
  constructor
  · intro h
    rcases Classical.em (∃ p, a.testBit p = true ∧ b.testBit p = true) with h1 | h1
    · exact h1
    · exfalso
      refine h (Nat.eq_of_testBit_eq fun i => ?_)
      rw [Nat.testBit_and, Nat.zero_testBit]
      cases h2 : a.testBit i
      · rfl
      · cases h3 : b.testBit i
        · rfl
        · exact absurd ⟨i, h2, h3⟩ h1
  · rintro ⟨p, h1, h2⟩ h
    have : (a &&& b).testBit p = true := by rw [Nat.testBit_and, h1, h2]; rfl
    rw [h, Nat.zero_testBit] at this; cases this

/-! ### siphons -/
def badT (t : TranD) (s : Nat) : Bool := (ofN t.post &&& s != 0) && (ofN t.pre &&& s == 0)
theorem badT_def (t : TranD) (s : Nat) : badT t s = ((ofN t.post &&& s != 0) && (ofN t.pre &&& s == 0)) := rfl
theorem badT_no {t : TranD} {s : Nat} (h : badT t s = false) : (∃ p, s.testBit p = true ∧ 0 < nth t.post p) → ∃ p, s.testBit p = true ∧ 0 < nth t.pre p := by
  rintro ⟨p, h1, h2⟩
  rw [badT, Bool.and_eq_false_iff] at h
  rcases h with h | h
  · exfalso
    have : ofN t.post &&& s = 0 := by simpa using h
    exact and_ne.2 ⟨p, (ofN_bit _ _).2 h2, h1⟩ this
  · have : ofN t.pre &&& s ≠ 0 := by simpa using h
    obtain ⟨q, h3, h4⟩ := and_ne.1 this
    exact ⟨q, h4, (ofN_bit _ _).1 h3⟩
theorem badT_of {t : TranD} {s : Nat} (h : (∃ p, s.testBit p = true ∧ 0 < nth t.post p) → ∃ p, s.testBit p = true ∧ 0 < nth t.pre p) : badT t s = false := by
  rw [badT, Bool.and_eq_false_iff]
  by_cases h1 : ofN t.post &&& s = 0
  · exact .inl (by simp [h1])
  · obtain ⟨p, h2, h3⟩ := and_ne.1 h1
    obtain ⟨q, h4, h5⟩ := h ⟨p, h3, (ofN_bit _ _).1 h2⟩
    exact .inr (by have := and_ne.2 ⟨q, (ofN_bit _ _).2 h5, h4⟩; simpa using this)
/-- whoever puts something into the set takes something from it -/
def Stable (N : NetD) (s : Nat) : Prop := ∀ k, k < N.trans.length → badT (N.tr k) s = false
def anyBad (N : NetD) (s : Nat) : Bool := N.trans.any fun t => badT t s
theorem anyBad_def (N : NetD) (s : Nat) : anyBad N s = N.trans.any fun t => badT t s := rfl
theorem stable_iff (N : NetD) (s : Nat) : anyBad N s = false ↔ Stable N s := by
  unfold anyBad
  rw [List.any_eq_false]
  constructor
  · intro h k hk
    have := h _ (NetD.tr_mem hk)
    simpa using this
  · intro h t ht
    obtain ⟨k, hk, rfl⟩ := List.getElem_of_mem ht
    have := h k hk
    unfold NetD.tr at this
    rw [List.getD_eq_getElem?_getD, List.getElem?_eq_getElem hk] at this
    simpa using this
def outB (n p : Int) : Bool := decide (p < 0) || decide (p ≥ n)
theorem outB_def (n p : Int) : outB n p = (decide (p < 0) || decide (p ≥ n)) := rfl
def wholeB (N : NetD) (l : List Int) : Bool := netOkB N && !(l.any (outB N.places))
theorem wholeB_def (N : NetD) (l : List Int) : wholeB N l = (netOkB N && !(l.any (outB N.places))) := rfl
theorem wholeB_of {N : NetD} {l : List Int} (h : wholeB N l = true) : netOkB N = true ∧ ∀ p ∈ l, 0 ≤ p ∧ p < N.places := by
  unfold wholeB outB at h
  simp only [Bool.and_eq_true, Bool.not_eq_true', List.any_eq_false, Bool.or_eq_true, decide_eq_true_eq] at h
  exact ⟨h.1, fun p hp => by have := h.2 p hp; omega⟩
theorem wholeB_mk {N : NetD} {l : List Int} (h1 : netOkB N = true) (h2 : ∀ p ∈ l, 0 ≤ p ∧ p < N.places) : wholeB N l = true := by
  unfold wholeB outB
  simp only [Bool.and_eq_true, Bool.not_eq_true', List.any_eq_false, Bool.or_eq_true, decide_eq_true_eq]
  exact ⟨h1, fun p hp => by have := h2 p hp; omega⟩
def siphonB (N : NetD) (l : List Int) : Bool := wholeB N l && !(anyBad N (setN l))
theorem siphonB_bad {N : NetD} {l : List Int} (h : wholeB N l = false) : siphonB N l = false := by unfold siphonB; simp [h]
theorem siphonB_good {N : NetD} {l : List Int} (h : wholeB N l = true) : siphonB N l = !(anyBad N (setN l)) := by unfold siphonB; simp [h]
theorem siphonB_of {N : NetD} {l : List Int} (h : siphonB N l = true) : wholeB N l = true ∧ Stable N (setN l) := by
  unfold siphonB at h
  simp only [Bool.and_eq_true, Bool.not_eq_true'] at h
  exact ⟨h.1, (stable_iff _ _).1 h.2⟩
theorem siphonB_mk {N : NetD} {l : List Int} (h1 : wholeB N l = true) (h2 : Stable N (setN l)) : siphonB N l = true := by
  unfold siphonB
  simp [h1, (stable_iff _ _).2 h2]
theorem netSz {N : NetD} (h : netOkB N = true) : 0 ≤ N.places ∧ N.places ≤ 16 ∧ N.trans.length ≤ 24 := by
  unfold netOkB at h
  simp only [Bool.and_eq_true, decide_eq_true_eq] at h
  exact ⟨h.1.1.1, h.1.1.2, h.1.2⟩

/-! ### what the largest one within a set is -/
def Sub (a b : Nat) : Prop := ∀ p, a.testBit p = true → b.testBit p = true
theorem Sub.refl (a : Nat) : Sub a a := fun _ h => h
/-- s: what is left of s0, with every stable set within -/
structure MostInv (N : NetD) (s0 s : Nat) : Prop where
  sub : Sub s s0
  has : ∀ u, Sub u s0 → Stable N u → Sub u s
theorem MostInv.start (N : NetD) (s : Nat) : MostInv N s s := ⟨Sub.refl s, fun _ h _ => h⟩
def dropB (s b : Nat) : Nat := s &&& (4294967295 - b)
theorem dropB_def (s b : Nat) : dropB s b = s &&& (4294967295 - b) := rfl
theorem dropB_lt {s b : Nat} (h : s < 65536) : dropB s b < 65536 := Nat.lt_of_le_of_lt Nat.and_le_left h
theorem dropB_bit {s b : Nat} (hs : s < 65536) (hb : b < 65536) (p : Nat) : (dropB s b).testBit p = (s.testBit p && !(b.testBit p)) := by
  unfold dropB
  rw [Nat.testBit_and]
  by_cases hp : p < 32
  · rw [show 4294967295 - b = 2 ^ 32 - (b + 1) by omega, Nat.testBit_two_pow_sub_succ (by omega)]
    simp [hp]
  · have : s.testBit p = false := Nat.testBit_lt_two_pow (Nat.lt_of_lt_of_le hs (Nat.le_trans (by decide : 65536 ≤ 2 ^ 32) (Nat.pow_le_pow_right (by omega) (by omega))))
    simp [this]
theorem MostInv.step {N : NetD} {s0 s : Nat} (h : MostInv N s0 s) {k : Nat} (hk : k < N.trans.length) (hs : s < 65536) (hbad : badT (N.tr k) s = true) : MostInv N s0 (dropB s (ofN (N.tr k).post &&& s)) := by
  have hb : ofN (N.tr k).post &&& s < 65536 := Nat.lt_of_le_of_lt Nat.and_le_right hs
  refine ⟨fun p hp => ?_, fun u hu hst p hp => ?_⟩
  · rw [dropB_bit hs hb, Bool.and_eq_true] at hp
    exact h.sub p hp.1
  · have h1 := h.has u hu hst p hp
    rw [dropB_bit hs hb, Bool.and_eq_true, h1]
    refine ⟨rfl, ?_⟩
    rw [Bool.not_eq_true', Nat.testBit_and, h1, Bool.and_true]
    cases h2 : (ofN (N.tr k).post).testBit p
    · rfl
    · exfalso
      obtain ⟨q, h3, h4⟩ := badT_no (hst k hk) ⟨p, hp, (ofN_bit _ _).1 h2⟩
      rw [badT, Bool.and_eq_true] at hbad
      have h5 : ofN (N.tr k).pre &&& s = 0 := by simpa using hbad.2
      exact and_ne.2 ⟨q, (ofN_bit _ _).2 h4, h.has u hu hst q h3⟩ h5
/-- how many bits -/
def cnt (s : Nat) : Nat → Nat
  | 0 => 0
  | k + 1 => cnt s k + if s.testBit k then 1 else 0
theorem cnt_le (s k : Nat) : cnt s k ≤ k := by
  induction k with
  | zero => simp [cnt]
  | succ k ih => rw [cnt]; split <;> omega
theorem cnt_sub {a b : Nat} (h : Sub a b) (k : Nat) : cnt a k ≤ cnt b k := by
  induction k with
  | zero => simp [cnt]
  | succ k ih =>
    rw [cnt, cnt]
    cases h1 : a.testBit k
    · simp; omega
    · rw [h k h1]; simp; omega
theorem cnt_lt {a b p : Nat} (h : Sub a b) (hp : b.testBit p = true) (hn : a.testBit p = false) : ∀ k, p < k → cnt a k < cnt b k := by
  intro k
  induction k with
  | zero => intro h; omega
  | succ k ih =>
    intro hk
    rw [cnt, cnt]
    by_cases hpk : p = k
    · subst hpk
      rw [hp, hn]
      have := cnt_sub h p
      simp; omega
    · have := ih (by omega)
      cases h1 : a.testBit k
      · simp; omega
      · rw [h k h1]; simp; omega
theorem drop_cnt {N : NetD} {s k : Nat} (hs : s < 65536) (hbad : badT (N.tr k) s = true) : cnt (dropB s (ofN (N.tr k).post &&& s)) 16 < cnt s 16 := by
  have hb : ofN (N.tr k).post &&& s < 65536 := Nat.lt_of_le_of_lt Nat.and_le_right hs
  rw [badT, Bool.and_eq_true] at hbad
  have h1 : ofN (N.tr k).post &&& s ≠ 0 := by simpa using hbad.1
  obtain ⟨p, h2, h3⟩ := and_ne.1 h1
  have hp : p < 16 := by
    rcases Nat.lt_or_ge p 16 with h | h
    · exact h
    · have : s.testBit p = false := Nat.testBit_lt_two_pow (Nat.lt_of_lt_of_le hs (show 2 ^ 16 ≤ 2 ^ p from Nat.pow_le_pow_right (by omega) h))
      rw [this] at h3; cases h3
  refine cnt_lt (p := p) (fun q hq => ?_) h3 ?_ 16 hp
  · rw [dropB_bit hs hb, Bool.and_eq_true] at hq; exact hq.1
  · rw [dropB_bit hs hb, Nat.testBit_and, h2, h3]; rfl
/-- the first k hold nothing bad -/
def StUpto (N : NetD) (s k : Nat) : Prop := ∀ i, i < k → badT (N.tr i) s = false
theorem StUpto.zero (N : NetD) (s : Nat) : StUpto N s 0 := fun i hi => by omega
theorem StUpto.succ {N : NetD} {s k : Nat} (h : StUpto N s k) (hk : badT (N.tr k) s = false) : StUpto N s (k + 1) := fun i hi => by
  rcases Nat.lt_or_ge i k with h1 | h1
  · exact h i h1
  · obtain rfl : i = k := by omega
    exact hk
theorem StUpto.all {N : NetD} {s k : Nat} (h : StUpto N s k) (hk : N.trans.length ≤ k) : Stable N s := fun i hi => h i (by omega)

/-- the places of a set, in order -/
def bitsTo (s k : Nat) : List Int := ((List.range k).filter fun p => s.testBit p).map Int.ofNat
theorem bitsTo_zero (s : Nat) : bitsTo s 0 = [] := rfl
theorem bitsTo_yes {s k : Nat} (h : s.testBit k = true) : bitsTo s (k + 1) = bitsTo s k ++ [(k : Int)] := by
  unfold bitsTo; rw [List.range_succ, List.filter_append]; simp [h]
theorem bitsTo_no {s k : Nat} (h : s.testBit k = false) : bitsTo s (k + 1) = bitsTo s k := by
  unfold bitsTo; rw [List.range_succ, List.filter_append]; simp [h]
theorem bitsTo_len (s k : Nat) : (bitsTo s k).length ≤ k := by
  unfold bitsTo
  rw [List.length_map]
  exact Nat.le_trans (List.length_filter_le _ _) (by simp)
theorem bitsTo_mem (s k : Nat) (x : Int) : x ∈ bitsTo s k ↔ ∃ p, p < k ∧ s.testBit p = true ∧ x = (p : Int) := by
  unfold bitsTo
  rw [List.mem_map]
  constructor
  · rintro ⟨p, hp, rfl⟩
    rw [List.mem_filter, List.mem_range] at hp
    exact ⟨p, hp.1, hp.2, rfl⟩
  · rintro ⟨p, h1, h2, rfl⟩
    exact ⟨p, List.mem_filter.2 ⟨List.mem_range.2 h1, h2⟩, rfl⟩
theorem bitsTo_sorted (s k : Nat) : (bitsTo s k).Pairwise (· < ·) := by
  unfold bitsTo
  rw [List.pairwise_map]
  refine ((List.pairwise_lt_range (n := k)).filter _).imp fun h => ?_
  simp only [Int.ofNat_eq_natCast]
  omega
/-- what Most answers: the places of the largest stable set within l -/
def MostOf (N : NetD) (l L : List Int) : Prop := ∃ s, s < 65536 ∧ MostInv N (setN l) s ∧ Stable N s ∧ L = bitsTo s 16
theorem MostOf.mk {N : NetD} {l : List Int} {s k : Nat} (h1 : s < 65536) (h2 : MostInv N (setN l) s) (h3 : StUpto N s k) (hk : N.trans.length ≤ k) : MostOf N l (bitsTo s 16) := ⟨s, h1, h2, h3.all hk, rfl⟩
theorem bit16 {s p : Nat} (hs : s < 65536) (h : s.testBit p = true) : p < 16 := by
  rcases Nat.lt_or_ge p 16 with h1 | h1
  · exact h1
  · have : s.testBit p = false := Nat.testBit_lt_two_pow (Nat.lt_of_lt_of_le hs (show 2 ^ 16 ≤ 2 ^ p from Nat.pow_le_pow_right (by omega) h1))
    rw [this] at h; cases h
theorem setN_bits {s : Nat} (hs : s < 65536) : setN (bitsTo s 16) = s := by
  refine Nat.eq_of_testBit_eq fun p => ?_
  rw [Bool.eq_iff_iff, setN_bit, bitsTo_mem]
  constructor
  · rintro ⟨h1, q, h2, h3, h4⟩
    have : p = q := by omega
    subst this; exact h3
  · intro h
    exact ⟨bit16 hs h, p, bit16 hs h, h, rfl⟩
theorem sub_anti {a b : Nat} (h : Sub a b) (k : Sub b a) : a = b := Nat.eq_of_testBit_eq fun p => by
  rw [Bool.eq_iff_iff]; exact ⟨h p, k p⟩
theorem MostOf.uniq {N : NetD} {l L L' : List Int} (h : MostOf N l L) (h' : MostOf N l L') : L = L' := by
  obtain ⟨s, h1, h2, h3, rfl⟩ := h
  obtain ⟨s', h1', h2', h3', rfl⟩ := h'
  rw [sub_anti (h2'.has s h2.sub h3) (h2.has s' h2'.sub h3')]
theorem MostOf.sub {N : NetD} {l L : List Int} (h : MostOf N l L) : ∀ p ∈ L, p ∈ l := by
  obtain ⟨s, h1, h2, h3, rfl⟩ := h
  intro p hp
  obtain ⟨q, _, h4, rfl⟩ := (bitsTo_mem _ _ _).1 hp
  exact ((setN_bit l q).1 (h2.sub q h4)).2
theorem MostOf.sorted {N : NetD} {l L : List Int} (h : MostOf N l L) : L.Pairwise (· < ·) := by
  obtain ⟨s, h1, h2, h3, rfl⟩ := h
  exact bitsTo_sorted _ _
theorem MostOf.len {N : NetD} {l L : List Int} (h : MostOf N l L) : L.length ≤ 16 := by
  obtain ⟨s, h1, h2, h3, rfl⟩ := h
  exact bitsTo_len _ _
theorem MostOf.siphon {N : NetD} {l L : List Int} (hw : wholeB N l = true) (h : MostOf N l L) : siphonB N L = true := by
  have hsub := h.sub
  obtain ⟨s, h1, h2, h3, rfl⟩ := h
  have hl := wholeB_of hw
  exact siphonB_mk (wholeB_mk hl.1 fun p hp => hl.2 p (hsub p hp)) (by rw [setN_bits h1]; exact h3)
theorem MostOf.has {N : NetD} {l L u : List Int} (h : MostOf N l L) (hu : siphonB N u = true) (hs : ∀ p ∈ u, p ∈ l) : ∀ p ∈ u, p ∈ L := by
  obtain ⟨s, h1, h2, h3, rfl⟩ := h
  obtain ⟨hw, hst⟩ := siphonB_of hu
  intro p hp
  obtain ⟨hok, hpl⟩ := wholeB_of hw
  have hsz := netSz hok
  have hr := hpl p hp
  obtain ⟨q, rfl⟩ := Int.eq_ofNat_of_zero_le hr.1
  have := h2.has (setN u) (fun x hx => by
    obtain ⟨h4, h5⟩ := (setN_bit u x).1 hx
    exact (setN_bit l x).2 ⟨h4, hs _ h5⟩) hst q ((setN_bit u q).2 ⟨by omega, hp⟩)
  exact (bitsTo_mem _ _ _).2 ⟨q, bit16 h1 this, this, rfl⟩
theorem setN_app (a b : List Int) (p : Nat) : (setN (a ++ b)).testBit p = true ↔ (setN a).testBit p = true ∨ (setN b).testBit p = true := by
  rw [setN_bit, setN_bit, setN_bit, List.mem_append]
  constructor
  · rintro ⟨h1, h2 | h2⟩
    · exact .inl ⟨h1, h2⟩
    · exact .inr ⟨h1, h2⟩
  · rintro (⟨h1, h2⟩ | ⟨h1, h2⟩)
    · exact ⟨h1, .inl h2⟩
    · exact ⟨h1, .inr h2⟩
theorem siphon_union {N : NetD} {a b : List Int} (ha : siphonB N a = true) (hb : siphonB N b = true) : siphonB N (a ++ b) = true := by
  obtain ⟨h1, h2⟩ := siphonB_of ha
  obtain ⟨h3, h4⟩ := siphonB_of hb
  have w1 := wholeB_of h1
  have w2 := wholeB_of h3
  refine siphonB_mk (wholeB_mk w1.1 fun p hp => ?_) fun k hk => badT_of ?_
  · rcases List.mem_append.1 hp with h | h
    · exact w1.2 p h
    · exact w2.2 p h
  · rintro ⟨p, h5, h6⟩
    rcases (setN_app a b p).1 h5 with h | h
    · obtain ⟨q, h7, h8⟩ := badT_no (h2 k hk) ⟨p, h, h6⟩
      exact ⟨q, (setN_app a b q).2 (.inl h7), h8⟩
    · obtain ⟨q, h7, h8⟩ := badT_no (h4 k hk) ⟨p, h, h6⟩
      exact ⟨q, (setN_app a b q).2 (.inr h7), h8⟩

/-! ### tokens on a set -/
def bareB (m l : List Int) : Bool := l.all fun p => !(decide (0 ≤ p) && decide (p < m.length) && decide (0 < nth m p.toNat))
def BareUpto (m l : List Int) (k : Nat) : Prop := ∀ i, i < k → ¬ (0 ≤ nth l i ∧ nth l i < m.length ∧ 0 < nth m (nth l i).toNat)
theorem BareUpto.zero (m l : List Int) : BareUpto m l 0 := fun i hi => by omega
theorem BareUpto.succ {m l : List Int} {k : Nat} (h : BareUpto m l k) (hk : ¬ (0 ≤ nth l k ∧ nth l k < m.length ∧ 0 < nth m (nth l k).toNat)) : BareUpto m l (k + 1) := fun i hi => by
  rcases Nat.lt_or_ge i k with h1 | h1
  · exact h i h1
  · obtain rfl : i = k := by omega
    exact hk
theorem bareB_iff (m l : List Int) : bareB m l = true ↔ ∀ p ∈ l, ¬ (0 ≤ p ∧ p < m.length ∧ 0 < nth m p.toNat) := by
  unfold bareB
  rw [List.all_eq_true]
  constructor
  · intro h p hp hh
    have := h p hp
    simp [hh] at this
  · intro h p hp
    have := h p hp
    simp only [Bool.not_eq_true', Bool.and_eq_false_iff, decide_eq_false_iff_not]
    omega
theorem BareUpto.all {m l : List Int} (h : BareUpto m l l.length) : bareB m l = true := by
  rw [bareB_iff]
  intro p hp
  obtain ⟨i, hi, rfl⟩ := List.getElem_of_mem hp
  have := h i hi
  rwa [nth_lt hi] at this
theorem bareB_no {m l : List Int} {k : Nat} (hk : k < l.length) (h0 : 0 ≤ nth l k) (h1 : nth l k < m.length) (h2 : 0 < nth m (nth l k).toNat) : bareB m l = false := by
  cases h : bareB m l
  · rfl
  · have := (bareB_iff m l).1 h (nth l k) (by rw [nth_lt hk]; exact List.getElem_mem hk)
    exact absurd ⟨h0, h1, h2⟩ this
theorem bare_bits {N : NetD} {m l : List Int} (hf : fitsB N m = true) (hw : wholeB N l = true) : bareB m l = true ↔ ∀ p, (setN l).testBit p = true → nth m p = 0 := by
  have hl := fits_len hf
  have w := wholeB_of hw
  have sz := netSz w.1
  rw [bareB_iff]
  constructor
  · intro h p hp
    obtain ⟨h1, h2⟩ := (setN_bit l p).1 hp
    have h3 := h _ h2
    have h4 := w.2 _ h2
    have h5 := (fits_nth hf p).1
    simp only [Int.toNat_natCast] at h3
    omega
  · rintro h p hp ⟨h1, h2, h3⟩
    obtain ⟨q, rfl⟩ := Int.eq_ofNat_of_zero_le h1
    have := h q ((setN_bit l q).2 ⟨by omega, hp⟩)
    simp only [Int.toNat_natCast] at h3
    omega
theorem empty_runs {N : NetD} {x s z : List Int} {u : Nat} (h : Runs N x s z) : fitsB N x = true → Stable N u → (∀ p, u.testBit p = true → nth x p = 0) → ∀ p, u.testBit p = true → nth z p = 0 := by
  induction h with
  | nil x => exact fun _ _ h => h
  | @cons x y z s k hF _ ih =>
    intro hx hst he
    have F := netOk_tr (fits_ok hx) hF.lt
    refine ih (hF.fits hx) hst fun p hp => ?_
    have h0 : ∀ q, u.testBit q = true → ¬ 0 < nth (N.tr k).pre q := fun q hq => by
      have := hF.pre q; rw [he q hq] at this; omega
    have h1 : ¬ 0 < nth (N.tr k).post p := fun hpp => by
      obtain ⟨q, h2, h3⟩ := badT_no (hst k hF.lt) ⟨p, hp, hpp⟩
      exact h0 q h2 h3
    have h2 := w_nth F p
    have h3 := h0 p hp
    rw [hF.eq p, he p hp]; omega
theorem siphon_empty {N : NetD} {m s x l : List Int} (h : runF N m s = (x, 0)) (hs : siphonB N l = true) (hb : bareB m l = true) : bareB x l = true := by
  obtain ⟨hf, hr⟩ := runF_of h
  obtain ⟨hw, hst⟩ := siphonB_of hs
  exact (bare_bits (hr.fits hf) hw).2 (empty_runs hr hf hst ((bare_bits hf hw).1 hb))
def trapB (N : NetD) (l : List Int) : Bool := siphonB (turnN N) l
theorem trapB_def (N : NetD) (l : List Int) : trapB N l = siphonB (turnN N) l := rfl
theorem marked_runs {N : NetD} {x s z : List Int} {u : Nat} (h : Runs N x s z) : fitsB N x = true → Stable (turnN N) u → (∃ p, u.testBit p = true ∧ 0 < nth x p) → ∃ p, u.testBit p = true ∧ 0 < nth z p := by
  induction h with
  | nil x => exact fun _ _ h => h
  | @cons x y z s k hF _ ih =>
    intro hx hst he
    have F := netOk_tr (fits_ok hx) hF.lt
    refine ih (hF.fits hx) hst ?_
    have hb := badT_no (hst k (by rw [turnN_len]; exact hF.lt))
    rw [turnN_tr N hF.lt, turnT_pre, turnT_post] at hb
    by_cases ht : ∃ p, u.testBit p = true ∧ 0 < nth (N.tr k).pre p
    · obtain ⟨q, h2, h3⟩ := hb ht
      refine ⟨q, h2, ?_⟩
      have := hF.pre q
      rw [hF.eq q]; omega
    · obtain ⟨p, h2, h3⟩ := he
      refine ⟨p, h2, ?_⟩
      have h4 : ¬ 0 < nth (N.tr k).pre p := fun h => ht ⟨p, h2, h⟩
      have := w_nth F p
      rw [hF.eq p]; omega
theorem not_bare {N : NetD} {m l : List Int} (hf : fitsB N m = true) (hw : wholeB N l = true) : bareB m l = false ↔ ∃ p, (setN l).testBit p = true ∧ 0 < nth m p := by
  constructor
  · intro h
    rcases Classical.em (∃ p, (setN l).testBit p = true ∧ 0 < nth m p) with h1 | h1
    · exact h1
    · exfalso
      have : bareB m l = true := (bare_bits hf hw).2 fun p hp => by
        have h2 : ¬ 0 < nth m p := fun h3 => h1 ⟨p, hp, h3⟩
        have := (fits_nth hf p).1
        omega
      rw [this] at h; cases h
  · rintro ⟨p, h1, h2⟩
    cases h : bareB m l
    · rfl
    · have := (bare_bits hf hw).1 h p h1; omega
theorem whole_turn {N : NetD} {l : List Int} (h : wholeB (turnN N) l = true) (hN : netOkB N = true) : wholeB N l = true := by
  have := wholeB_of h
  exact wholeB_mk hN fun p hp => by have := this.2 p hp; rwa [turnN_places] at this
theorem siphon_trap {N : NetD} {m s x l : List Int} (h : runF N m s = (x, 0)) (hs : trapB N l = true) (hb : bareB m l = false) : bareB x l = false := by
  obtain ⟨hf, hr⟩ := runF_of h
  obtain ⟨hw, hst⟩ := siphonB_of hs
  have hw' := whole_turn hw (fits_ok hf)
  exact (not_bare (hr.fits hf) hw').2 (marked_runs hr hf hst ((not_bare hf hw').1 hb))

/-! ### nets all of whose weights are 0 or 1 -/
def ordT (t : TranD) : Bool := (t.pre ++ t.post).all (fun x => decide (x ≤ 1)) && t.pre.any (fun x => decide (0 < x))
def ordB (N : NetD) : Bool := N.trans.all ordT && netOkB N && decide (0 < N.trans.length)
theorem ordB_of {N : NetD} (h : ordB N = true) : netOkB N = true ∧ 0 < N.trans.length ∧ ∀ k, k < N.trans.length → (∀ p, nth (N.tr k).pre p ≤ 1) ∧ ∃ p, 0 < nth (N.tr k).pre p := by
  unfold ordB at h
  simp only [Bool.and_eq_true, decide_eq_true_eq, List.all_eq_true] at h
  refine ⟨h.1.2, h.2, fun k hk => ?_⟩
  have h1 := h.1.1 _ (NetD.tr_mem hk)
  unfold ordT at h1
  simp only [Bool.and_eq_true, List.all_eq_true, decide_eq_true_eq, List.any_eq_true] at h1
  refine ⟨fun p => ?_, ?_⟩
  · by_cases hp : p < (N.tr k).pre.length
    · rw [nth_lt hp]; exact h1.1 _ (List.mem_append_left _ (List.getElem_mem hp))
    · rw [nth_ge (by omega)]; omega
  · obtain ⟨x, hx, h2⟩ := h1.2
    obtain ⟨p, hp, rfl⟩ := List.getElem_of_mem hx
    exact ⟨p, by rw [nth_lt hp]; exact h2⟩
/-- the places without tokens -/
def noneTo (m : List Int) (k : Nat) : List Int := ((List.range k).filter fun p => decide (nth m p = 0)).map Int.ofNat
theorem noneTo_zero (m : List Int) : noneTo m 0 = [] := rfl
theorem noneTo_yes {m : List Int} {k : Nat} (h : nth m k = 0) : noneTo m (k + 1) = noneTo m k ++ [(k : Int)] := by
  unfold noneTo; rw [List.range_succ, List.filter_append]; simp [h]
theorem noneTo_no {m : List Int} {k : Nat} (h : nth m k ≠ 0) : noneTo m (k + 1) = noneTo m k := by
  unfold noneTo; rw [List.range_succ, List.filter_append]; simp [h]
theorem noneTo_len (m : List Int) (k : Nat) : (noneTo m k).length ≤ k := by
  unfold noneTo
  rw [List.length_map]
  exact Nat.le_trans (List.length_filter_le _ _) (by simp)
theorem noneTo_mem (m : List Int) (k : Nat) (x : Int) : x ∈ noneTo m k ↔ ∃ p, p < k ∧ nth m p = 0 ∧ x = (p : Int) := by
  unfold noneTo
  rw [List.mem_map]
  constructor
  · rintro ⟨p, hp, rfl⟩
    rw [List.mem_filter, List.mem_range, decide_eq_true_eq] at hp
    exact ⟨p, hp.1, hp.2, rfl⟩
  · rintro ⟨p, h1, h2, rfl⟩
    exact ⟨p, List.mem_filter.2 ⟨List.mem_range.2 h1, by simp [h2]⟩, rfl⟩
theorem dead_none {N : NetD} {m : List Int} (hf : fitsB N m = true) (hd : enabledL N m = []) (ho : ordB N = true) : noneTo m m.length ≠ [] ∧ siphonB N (noneTo m m.length) = true := by
  obtain ⟨h1, h2, h3⟩ := ordB_of ho
  have hl := fits_len hf
  have sz := netSz h1
  have key : ∀ k, k < N.trans.length → ∃ p : Nat, (p : Int) ∈ noneTo m m.length ∧ p < 16 ∧ 0 < nth (N.tr k).pre p := by
    intro k hk
    have hne : ¬ ∀ p, nth (N.tr k).pre p ≤ nth m p := by
      intro h
      have := (enabled_has (N := N) (m := m) k).2 ⟨k, rfl, hk, h⟩
      rw [hd, hasB_iff] at this; cases this
    obtain ⟨p, hp⟩ := Classical.not_forall.1 hne
    have h4 := (h3 k hk).1 p
    have h5 := (fits_nth hf p).1
    have hpl : p < m.length := by
      rcases Nat.lt_or_ge p m.length with h | h
      · exact h
      · have F := netOk_tr h1 hk
        have := F.pre
        rw [nth_ge (xs := (N.tr k).pre) (by omega)] at hp; omega
    exact ⟨p, (noneTo_mem _ _ _).2 ⟨p, hpl, by omega, rfl⟩, by omega, by omega⟩
  refine ⟨fun h => ?_, siphonB_mk (wholeB_mk h1 fun x hx => ?_) fun k hk => badT_of fun _ => ?_⟩
  · obtain ⟨p, hp, _⟩ := key 0 h2
    rw [h] at hp; cases hp
  · obtain ⟨p, h4, _, rfl⟩ := (noneTo_mem _ _ _).1 hx
    omega
  · obtain ⟨p, h4, h5, h6⟩ := key k hk
    exact ⟨p, (setN_bit _ _).2 ⟨h5, h4⟩, h6⟩
theorem most_ex (N : NetD) (s0 : Nat) : ∀ n s, cnt s 16 ≤ n → s < 65536 → MostInv N s0 s → ∃ s', s' < 65536 ∧ MostInv N s0 s' ∧ Stable N s' := by
  intro n
  induction n with
  | zero =>
    intro s hc hs hi
    refine ⟨s, hs, hi, fun k hk => ?_⟩
    cases hb : badT (N.tr k) s
    · rfl
    · have := drop_cnt hs hb; omega
  | succ n ih =>
    intro s hc hs hi
    rcases Classical.em (Stable N s) with h | h
    · exact ⟨s, hs, hi, h⟩
    · have : ∃ k, k < N.trans.length ∧ badT (N.tr k) s = true := by
        rcases Classical.em (∃ k, k < N.trans.length ∧ badT (N.tr k) s = true) with h1 | h1
        · exact h1
        · exact absurd (fun k hk => by
            cases hb : badT (N.tr k) s
            · rfl
            · exact absurd ⟨k, hk, hb⟩ h1) h
      obtain ⟨k, hk, hb⟩ := this
      have := drop_cnt hs hb
      exact ih _ (by omega) (dropB_lt hs) (hi.step hk hs hb)
theorem mostOf_ex (N : NetD) (l : List Int) : ∃ L, MostOf N l L := by
  obtain ⟨s, h1, h2, h3⟩ := most_ex N (setN l) _ (setN l) (Nat.le_refl _) (setN_lt l) (MostInv.start _ _)
  exact ⟨_, s, h1, h2, h3, rfl⟩
/-- of the sets below x each siphon has a trap within that is marked -/
def CommUpto (N : NetD) (m : List Int) (p x : Nat) : Prop := ∀ y, 0 < y → y < x → siphonB N (bitsTo y p) = true → ∀ L, MostOf (turnN N) (bitsTo y p) L → bareB m L = false
theorem CommUpto.one (N : NetD) (m : List Int) (p : Nat) : CommUpto N m p 1 := fun y h1 h2 => by omega
theorem CommUpto.no {N : NetD} {m : List Int} {p x : Nat} (h : CommUpto N m p x) (hs : siphonB N (bitsTo x p) = false) : CommUpto N m p (x + 1) := fun y h1 h2 h3 L hL => by
  rcases Nat.lt_or_ge y x with h4 | h4
  · exact h y h1 h4 h3 L hL
  · obtain rfl : y = x := by omega
    rw [hs] at h3; cases h3
theorem CommUpto.yes {N : NetD} {m L : List Int} {p x : Nat} (h : CommUpto N m p x) (hL : MostOf (turnN N) (bitsTo x p) L) (hb : bareB m L = false) : CommUpto N m p (x + 1) := fun y h1 h2 h3 L' hL' => by
  rcases Nat.lt_or_ge y x with h4 | h4
  · exact h y h1 h4 h3 L' hL'
  · obtain rfl : y = x := by omega
    rw [hL'.uniq hL]; exact hb
/-- Commoner -/
theorem commoner {N : NetD} {m s x : List Int} (h : runF N m s = (x, 0)) (ho : ordB N = true) (hc : ∀ l L, l ≠ [] → siphonB N l = true → MostOf (turnN N) l L → (∀ u : Nat, 0 < u → u < 2 ^ N.places.toNat → l = bitsTo u N.places.toNat → bareB m L = false)) (hm : ∀ l, wholeB N l = true → ∃ L, MostOf (turnN N) l L) :
    enabledL N x ≠ [] := by
  intro hd
  obtain ⟨hf, hr⟩ := runF_of h
  have hx := hr.fits hf
  obtain ⟨h1, h2⟩ := dead_none hx hd ho
  have hl := fits_len hx
  obtain ⟨hw, hst⟩ := siphonB_of h2
  have sz := netSz (wholeB_of hw).1
  obtain ⟨L, hL⟩ := hm _ hw
  have hnb : noneTo x x.length = bitsTo (setN (noneTo x x.length)) N.places.toNat := by
    unfold noneTo bitsTo
    rw [show N.places.toNat = x.length by omega]
    congr 1
    refine List.filter_congr fun p hp => ?_
    have hp' := List.mem_range.1 hp
    rw [Bool.eq_iff_iff, decide_eq_true_eq, setN_bit]
    constructor
    · intro h3; exact ⟨by omega, (noneTo_mem _ _ _).2 ⟨p, hp', h3, rfl⟩⟩
    · rintro ⟨_, h3⟩
      obtain ⟨q, _, h4, h5⟩ := (noneTo_mem _ _ _).1 h3
      have : p = q := by omega
      subst this; exact h4
  have hpos : 0 < setN (noneTo x x.length) := by
    rcases Nat.eq_zero_or_pos (setN (noneTo x x.length)) with h3 | h3
    · exfalso
      rw [h3] at hnb
      refine h1 ?_
      rw [hnb]; simp [bitsTo]
    · exact h3
  have hlt : setN (noneTo x x.length) < 2 ^ N.places.toNat := by
    refine Nat.lt_pow_two_of_testBit _ fun i hi => ?_
    cases h3 : (setN (noneTo x x.length)).testBit i
    · rfl
    · obtain ⟨_, h4⟩ := (setN_bit _ _).1 h3
      obtain ⟨q, h5, _, h6⟩ := (noneTo_mem _ _ _).1 h4
      omega
  have hb := hc _ L h1 h2 hL _ hpos hlt hnb
  have htw : wholeB (turnN N) (noneTo x x.length) = true := wholeB_mk (netOk_turn (fits_ok hx)) fun p hp => by rw [turnN_places]; exact (wholeB_of hw).2 p hp
  have hb2 := siphon_trap h (MostOf.siphon htw hL) hb
  have : bareB x L = true := by
    rw [bareB_iff]
    rintro p hp ⟨h3, h4, h5⟩
    obtain ⟨q, _, h6, rfl⟩ := (noneTo_mem _ _ _).1 (hL.sub p hp)
    simp only [Int.toNat_natCast] at h5
    omega
  rw [this] at hb2; cases hb2
theorem commoner' {N : NetD} {m s x : List Int} {p : Nat} (h : runF N m s = (x, 0)) (ho : ordB N = true) (hp : N.places = (p : Int)) (hc : CommUpto N m p (2 ^ p)) : enabledL N x ≠ [] := by
  have hpn : N.places.toNat = p := by omega
  refine commoner h ho (fun l L _ hs hL u h1 h2 h3 => ?_) (fun l _ => mostOf_ex _ _)
  rw [hpn] at h2 h3
  subst h3
  exact hc u h1 h2 hs L hL
attribute [irreducible] CommUpto addB setTo setN ofTo ofN badT anyBad Stable outB wholeB siphonB trapB Sub dropB cnt StUpto bitsTo MostOf bareB BareUpto ordT ordB noneTo
end Go.Tok
