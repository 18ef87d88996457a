/- Nets as plain data, and how they stand in memory. No program is in sight here. -/
import Derived.Test.YtelfbfjegmncaaaMarkLaw
namespace Go.Tok
open Go.RowKit

structure TranD where
  label : Int
  pre : List Int
  post : List Int
deriving DecidableEq
structure NetD where
  places : Int
  trans : List TranD
deriving DecidableEq
instance : Inhabited TranD := ⟨⟨0, [], []⟩⟩

/-- transition i of a net -/
def NetD.tr (N : NetD) (i : Nat) : TranD := N.trans.getD i default
theorem NetD.tr_mem {N : NetD} {i : Nat} (h : i < N.trans.length) : N.tr i ∈ N.trans := by
  unfold NetD.tr
  rw [List.getD_eq_getElem?_getD, List.getElem?_eq_getElem h]
  exact List.getElem_mem h

/-- v reads as the transitions ts in w -/
def TransR (w : World) (v : Value) (ts : List TranD) : Prop :=
  ∃ a cap, v = .slice a ts.length cap ∧ ts.length ≤ cap ∧ cap ≤ maxLen ∧
    ∀ i, i < ts.length → ∃ b o vp vq, a = some ⟨b, o, none⟩ ∧ w.cell? ⟨b, o + i * 3, none⟩ = some (.int .i64 (ts.getD i default).label) ∧ w.cell? ⟨b, o + i * 3 + 1, none⟩ = some vp ∧ w.cell? ⟨b, o + i * 3 + 2, none⟩ = some vq ∧
      I64 (ts.getD i default).label ∧ Ints w vp (ts.getD i default).pre ∧ Ints w vq (ts.getD i default).post

def NetR (w : World) (v : Value) (N : NetD) : Prop := ∃ vt, v = .agg #[.int .i64 N.places, vt] ∧ I64 N.places ∧ TransR w vt N.trans

theorem TransR.gr {w w' : World} {v : Value} {ts : List TranD} (h : TransR w v ts) (g : Gr w w') : TransR w' v ts := by
  obtain ⟨a, cap, h1, h2, h3, h4⟩ := h
  refine ⟨a, cap, h1, h2, h3, fun i hi => ?_⟩
  obtain ⟨b, o, vp, vq, ha, c0, c1, c2, hl, hp, hq⟩ := h4 i hi
  have hb := g.below
  exact ⟨b, o, vp, vq, ha, (hb.cell (p := ⟨b, _, none⟩) (cell_block c0)).trans c0, (hb.cell (p := ⟨b, _, none⟩) (cell_block c1)).trans c1, (hb.cell (p := ⟨b, _, none⟩) (cell_block c2)).trans c2, hl, hp.gr g, hq.gr g⟩
theorem NetR.gr {w w' : World} {v : Value} {N : NetD} (h : NetR w v N) (g : Gr w w') : NetR w' v N := by
  obtain ⟨vt, h1, h2, h3⟩ := h
  exact ⟨vt, h1, h2, h3.gr g⟩
theorem NetR.open_ {w : World} {v : Value} {N : NetD} (h : NetR w v N) : ∃ a cap, v = .agg #[.int .i64 N.places, .slice a N.trans.length cap] ∧ N.trans.length ≤ cap ∧ cap ≤ 9223372036854775807 ∧ I64 N.places ∧ TransR w (.slice a N.trans.length cap) N.trans := by
  obtain ⟨vt, h1, h2, a, cap, rfl, h4, h5, h6⟩ := h
  exact ⟨a, cap, h1, h4, by unfold maxLen at h5; omega, h2, a, cap, rfl, h4, h5, h6⟩
theorem NetR.mk_ {w : World} {N : NetD} {vt : Value} (h : TransR w vt N.trans) (hp : I64 N.places) : NetR w (.agg #[.int .i64 N.places, vt]) N := ⟨vt, rfl, hp, h⟩
theorem TransR.nil (w : World) : TransR w (.slice none 0 0) [] := ⟨none, 0, rfl, by simp, by unfold maxLen; omega, fun i hi => by simp at hi⟩
theorem TransR.at_ {w : World} {a : Option Addr} {n cap : Nat} {N : NetD} (h : TransR w (.slice a n cap) N.trans) {i : Nat} (hi : i < N.trans.length) :
    ∃ b o vp vq, a = some ⟨b, o, none⟩ ∧ w.cell? ⟨b, o + i * 3, none⟩ = some (.int .i64 (N.tr i).label) ∧ w.cell? ⟨b, o + i * 3 + 1, none⟩ = some vp ∧ w.cell? ⟨b, o + i * 3 + 2, none⟩ = some vq ∧
      I64 (N.tr i).label ∧ Ints w vp (N.tr i).pre ∧ Ints w vq (N.tr i).post := by
  obtain ⟨a', cap', h1, h2, h3, h4⟩ := h
  cases h1
  exact h4 i hi
theorem NetR.alloc {w : World} {v : Value} {N : NetD} (h : NetR w v N) (o : Obj) : NetR (w.alloc o) v N := h.gr ((Gr.refl _).alloc o)
theorem NetR.drew {w : World} {v : Value} {N : NetD} (h : NetR w v N) : NetR w.drew v N := h.gr ((Gr.refl _).drew)

/-! ### what is right with a net -/
def badW (x : Int) : Bool := decide (x < 0) || decide (x > 9)
theorem badW_def (x : Int) : badW x = (decide (x < 0) || decide (x > 9)) := rfl
def tranOkB (places : Int) (t : TranD) : Bool :=
  decide (0 ≤ t.label) && decide (t.label ≤ 26) && decide ((t.pre.length : Int) = places) && decide ((t.post.length : Int) = places) && !(t.pre.any badW) && !(t.post.any badW)
def netOkB (N : NetD) : Bool := decide (0 ≤ N.places) && decide (N.places ≤ 16) && decide (N.trans.length ≤ 24) && N.trans.all (tranOkB N.places)
def wrongC (N : NetD) : Int := if netOkB N then 0 else 2

def TransOk (N : NetD) (k : Nat) : Prop := ∀ i, i < k → tranOkB N.places (N.tr i) = true
theorem TransOk.zero (N : NetD) : TransOk N 0 := fun i hi => by omega
theorem TransOk.succ {N : NetD} {k : Nat} (h : TransOk N k) (hk : tranOkB N.places (N.tr k) = true) : TransOk N (k + 1) := fun i hi => by
  rcases Nat.lt_or_ge i k with h1 | h1
  · exact h i h1
  · obtain rfl : i = k := by omega
    exact hk
theorem TransOk.all {N : NetD} {k : Nat} (h : TransOk N k) (hk : N.trans.length ≤ k) (h0 : 0 ≤ N.places) (h1 : N.places ≤ 16) (h2 : N.trans.length ≤ 24) : wrongC N = 0 := by
  have : netOkB N = true := by
    unfold netOkB
    simp only [h0, h1, h2, decide_true, Bool.true_and, List.all_eq_true]
    intro t ht
    obtain ⟨i, hi, rfl⟩ := List.getElem_of_mem ht
    have := h i (by omega)
    rw [NetD.tr, List.getD_eq_getElem?_getD, List.getElem?_eq_getElem hi] at this
    exact this
  simp [wrongC, this]
theorem wrong_tran {N : NetD} {k : Nat} (hk : k < N.trans.length) (h : tranOkB N.places (N.tr k) = false) : wrongC N = 2 := by
  have : netOkB N = false := by
    rw [Bool.eq_false_iff]
    intro h1
    unfold netOkB at h1
    simp only [Bool.and_eq_true, List.all_eq_true] at h1
    have := h1.2 _ (NetD.tr_mem hk)
    rw [h] at this; cases this
  simp [wrongC, this]
theorem wrong_head {N : NetD} (h : N.places < 0 ∨ 16 < N.places ∨ 24 < N.trans.length) : wrongC N = 2 := by
  have : netOkB N = false := by
    rw [Bool.eq_false_iff]
    intro h1
    unfold netOkB at h1
    simp only [Bool.and_eq_true, decide_eq_true_eq] at h1
    omega
  simp [wrongC, this]

/-- the ways in which a transition can be wrong, in the program's order -/
theorem tran_cases (places : Int) (t : TranD) : (tranOkB places t = true ∧ 0 ≤ t.label ∧ t.label ≤ 26 ∧ (t.pre.length : Int) = places ∧ (t.post.length : Int) = places ∧ t.pre.any badW = false ∧ t.post.any badW = false) ∨
    (tranOkB places t = false ∧ (t.label < 0 ∨ (0 ≤ t.label ∧ 26 < t.label) ∨ (0 ≤ t.label ∧ t.label ≤ 26 ∧ ((t.pre.length : Int) != places) = true) ∨
      (0 ≤ t.label ∧ t.label ≤ 26 ∧ (t.pre.length : Int) = places ∧ ((t.post.length : Int) != places) = true) ∨
      (0 ≤ t.label ∧ t.label ≤ 26 ∧ (t.pre.length : Int) = places ∧ (t.post.length : Int) = places ∧ t.pre.any badW = true) ∨
      (0 ≤ t.label ∧ t.label ≤ 26 ∧ (t.pre.length : Int) = places ∧ (t.post.length : Int) = places ∧ t.pre.any badW = false ∧ t.post.any badW = true))) := by
  by_cases h1 : 0 ≤ t.label
  · by_cases h2 : t.label ≤ 26
    · by_cases h3 : (t.pre.length : Int) = places
      · by_cases h4 : (t.post.length : Int) = places
        · cases h5 : t.pre.any badW
          · cases h6 : t.post.any badW
            · exact .inl ⟨by simp [tranOkB, h1, h2, h3, h4, h5, h6], h1, h2, h3, h4, rfl, rfl⟩
            · exact .inr ⟨by simp [tranOkB, h6], .inr (.inr (.inr (.inr (.inr ⟨h1, h2, h3, h4, rfl, rfl⟩))))⟩
          · exact .inr ⟨by simp [tranOkB, h5], .inr (.inr (.inr (.inr (.inl ⟨h1, h2, h3, h4, rfl⟩))))⟩
        · exact .inr ⟨by simp [tranOkB, h4], .inr (.inr (.inr (.inl ⟨h1, h2, h3, by simpa using h4⟩)))⟩
      · exact .inr ⟨by simp [tranOkB, h3], .inr (.inr (.inl ⟨h1, h2, by simpa using h3⟩))⟩
    · exact .inr ⟨by simp [tranOkB, h2], .inr (.inl ⟨h1, by omega⟩)⟩
  · exact .inr ⟨by simp [tranOkB, h1], .inl (by omega)⟩

/-! ### what the functions of package net make of a net -/
def fitsB (N : NetD) (m : List Int) : Bool := netOkB N && decide ((m.length : Int) = N.places) && rightB m
def fitsC (N : NetD) (m : List Int) : Int := if fitsB N m then 0 else 2
theorem wrongC_yes {N : NetD} (h : netOkB N = true) : wrongC N = 0 := by simp [wrongC, h]
theorem wrongC_no {N : NetD} (h : netOkB N = false) : wrongC N = 2 := by simp [wrongC, h]
theorem fitsC_yes {N : NetD} {m : List Int} (h : fitsB N m = true) : fitsC N m = 0 := by simp [fitsC, h]
theorem fitsC_no {N : NetD} {m : List Int} (h : fitsB N m = false) : fitsC N m = 2 := by simp [fitsC, h]
theorem fits_cases (N : NetD) (m : List Int) : (fitsB N m = true ∧ netOkB N = true ∧ (m.length : Int) = N.places ∧ rightB m = true) ∨ (fitsB N m = false ∧ (netOkB N = false ∨ (netOkB N = true ∧ ((m.length : Int) != N.places) = true) ∨ (netOkB N = true ∧ (m.length : Int) = N.places ∧ rightB m = false))) := by
  cases h1 : netOkB N
  · exact .inr ⟨by simp [fitsB, h1], .inl rfl⟩
  · by_cases h2 : (m.length : Int) = N.places
    · cases h3 : rightB m
      · exact .inr ⟨by simp [fitsB, h3], .inr (.inr ⟨rfl, h2, rfl⟩)⟩
      · exact .inl ⟨by simp [fitsB, h1, h2, h3], rfl, h2, rfl⟩
    · exact .inr ⟨by simp [fitsB, h2], .inr (.inl ⟨rfl, by simpa using h2⟩)⟩
theorem fits_sizes {N : NetD} {m : List Int} (h : fitsB N m = true) : N.trans.length ≤ 24 ∧ 0 ≤ N.places ∧ N.places ≤ 16 ∧ m.length ≤ 16 ∧ (m.length : Int) = N.places ∧ rightB m = true ∧ netOkB N = true := by
  unfold fitsB at h
  simp only [Bool.and_eq_true, decide_eq_true_eq] at h
  obtain ⟨⟨h1, h2⟩, h3⟩ := h
  have h4 := h1
  unfold netOkB at h4
  simp only [Bool.and_eq_true, decide_eq_true_eq] at h4
  exact ⟨by omega, by omega, by omega, by omega, h2, h3, h1⟩
structure TranFacts (N : NetD) (t : TranD) : Prop where
  lab0 : 0 ≤ t.label
  lab1 : t.label ≤ 26
  pre : (t.pre.length : Int) = N.places
  post : (t.post.length : Int) = N.places
  preW : ∀ x ∈ t.pre, 0 ≤ x ∧ x ≤ 9
  postW : ∀ x ∈ t.post, 0 ≤ x ∧ x ≤ 9
theorem netOk_tr {N : NetD} (h : netOkB N = true) {i : Nat} (hi : i < N.trans.length) : TranFacts N (N.tr i) := by
  unfold netOkB at h
  simp only [Bool.and_eq_true, List.all_eq_true] at h
  have h1 := h.2 _ (NetD.tr_mem hi)
  unfold tranOkB at h1
  simp only [Bool.and_eq_true, decide_eq_true_eq, Bool.not_eq_true', List.any_eq_false] at h1
  obtain ⟨⟨⟨⟨⟨a, b⟩, c⟩, d⟩, e⟩, f⟩ := h1
  refine ⟨a, b, c, d, fun x hx => ?_, fun x hx => ?_⟩
  · have := e x hx; unfold badW at this; simp at this; omega
  · have := f x hx; unfold badW at this; simp at this; omega
theorem TranFacts.rPre {N : NetD} {t : TranD} (h : TranFacts N t) : rightB t.pre = true := (rightB_iff _).2 fun x hx => by have := h.preW x hx; omega
theorem TranFacts.rPost {N : NetD} {t : TranD} (h : TranFacts N t) : rightB t.post = true := (rightB_iff _).2 fun x hx => by have := h.postW x hx; omega

/-- what firing transition t makes of m, where the net fits -/
def fireL (N : NetD) (m : List Int) (t : Int) : List Int × Int :=
  if 0 ≤ t ∧ t < N.trans.length then
    (if (zipF minusf m (N.tr t.toNat).pre).2 = 0 then zipF plusf (zipF minusf m (N.tr t.toNat).pre).1 (N.tr t.toNat).post else ([], (zipF minusf m (N.tr t.toNat).pre).2))
  else ([], 3)
def fireF (N : NetD) (m : List Int) (t : Int) : List Int × Int := if fitsB N m then fireL N m t else ([], 2)
def runL (N : NetD) : List Int → List Int → List Int × Int
  | m, [] => (m, 0)
  | m, t :: s => if (fireF N m t).2 = 0 then runL N (fireF N m t).1 s else ([], (fireF N m t).2)
def runF (N : NetD) (m seq : List Int) : List Int × Int := if fitsB N m then runL N m seq else ([], 2)
def enabledL (N : NetD) (m : List Int) : List Int := ((List.range N.trans.length).filter fun k => coversB m (N.tr k).pre).map Int.ofNat
def enabledF (N : NetD) (m : List Int) : List Int × Int := if fitsB N m then (enabledL N m, 0) else ([], 2)

theorem fireF_unfit {N : NetD} {m : List Int} {t : Int} (h : fitsB N m = false) : fireF N m t = ([], 2) := by simp [fireF, h]
theorem fireF_range {N : NetD} {m : List Int} {t : Int} (h : fitsB N m = true) (ht : t < 0 ∨ (N.trans.length : Int) ≤ t) : fireF N m t = ([], 3) := by
  unfold fireF fireL; rw [if_pos h, if_neg (by omega)]
theorem fireF_not {N : NetD} {m : List Int} {k : Nat} {L : List Int} {e : Int} (h : fitsB N m = true) (hk : k < N.trans.length) (he : zipF minusf m (N.tr k).pre = (L, e)) (h0 : e ≠ 0) : fireF N m k = ([], e) := by
  unfold fireF fireL; rw [if_pos h, if_pos (by omega), Int.toNat_natCast, he, if_neg h0]
theorem fireF_ok {N : NetD} {m : List Int} {k : Nat} {L : List Int} (h : fitsB N m = true) (hk : k < N.trans.length) (he : zipF minusf m (N.tr k).pre = (L, 0)) : fireF N m k = zipF plusf L (N.tr k).post := by
  unfold fireF fireL; rw [if_pos h, if_pos (by omega), Int.toNat_natCast, he, if_pos rfl]
theorem runF_unfit {N : NetD} {m s : List Int} (h : fitsB N m = false) : runF N m s = ([], 2) := by simp [runF, h]
theorem runF_fit {N : NetD} {m s : List Int} (h : fitsB N m = true) : runF N m s = runL N m s := by simp [runF, h]
theorem enabledF_unfit {N : NetD} {m : List Int} (h : fitsB N m = false) : enabledF N m = ([], 2) := by simp [enabledF, h]
theorem enabledF_fit {N : NetD} {m : List Int} (h : fitsB N m = true) : enabledF N m = (enabledL N m, 0) := by simp [enabledF, h]
/-- the enabled ones of the first k -/
def enUpto (N : NetD) (m : List Int) (k : Nat) : List Int := ((List.range k).filter fun k => coversB m (N.tr k).pre).map Int.ofNat
theorem enUpto_zero (N : NetD) (m : List Int) : enUpto N m 0 = [] := rfl
theorem enUpto_yes {N : NetD} {m : List Int} {k : Nat} (h : coversB m (N.tr k).pre = true) : enUpto N m (k + 1) = enUpto N m k ++ [(k : Int)] := by
  unfold enUpto; rw [List.range_succ, List.filter_append]; simp [h]
theorem enUpto_no {N : NetD} {m : List Int} {k : Nat} (h : coversB m (N.tr k).pre = false) : enUpto N m (k + 1) = enUpto N m k := by
  unfold enUpto; rw [List.range_succ, List.filter_append]; simp [h]
theorem enUpto_all (N : NetD) (m : List Int) : enUpto N m N.trans.length = enabledL N m := rfl
theorem enUpto_len (N : NetD) (m : List Int) (k : Nat) : (enUpto N m k).length ≤ k := by
  unfold enUpto
  rw [List.length_map]
  exact Nat.le_trans (List.length_filter_le _ _) (by simp)

/-- a run, seen from its first k firings -/
def RunUpto (N : NetD) (m seq : List Int) (k : Nat) (x : List Int) : Prop := runL N m seq = runL N x (seq.drop k)
theorem RunUpto.zero (N : NetD) (m seq : List Int) : RunUpto N m seq 0 m := rfl
theorem drop_cons {seq : List Int} {k : Nat} (h : k < seq.length) : seq.drop k = nth seq k :: seq.drop (k + 1) := by
  rw [List.drop_eq_getElem_cons h, nth_lt h]
theorem RunUpto.succ {N : NetD} {m seq x y : List Int} {k : Nat} (h : RunUpto N m seq k x) (hk : k < seq.length) (hf : fireF N x (nth seq k) = (y, 0)) : RunUpto N m seq (k + 1) y := by
  unfold RunUpto at *
  rw [h, drop_cons hk, runL, hf, if_pos rfl]
theorem RunUpto.err {N : NetD} {m seq x y : List Int} {k : Nat} {e : Int} (h : RunUpto N m seq k x) (hk : k < seq.length) (hf : fireF N x (nth seq k) = (y, e)) (he : e ≠ 0) : runL N m seq = ([], e) := by
  unfold RunUpto at h
  rw [h, drop_cons hk, runL, hf, if_neg he]
theorem RunUpto.done {N : NetD} {m seq x : List Int} {k : Nat} (h : RunUpto N m seq k x) (hk : seq.length ≤ k) : runL N m seq = (x, 0) := by
  unfold RunUpto at h
  rw [h, List.drop_eq_nil_of_le hk, runL]

attribute [irreducible] fitsB fitsC fireL fireF runL runF enabledL enabledF enUpto RunUpto
attribute [irreducible] TransR NetR tranOkB netOkB wrongC TransOk badW NetD.tr
end Go.Tok
