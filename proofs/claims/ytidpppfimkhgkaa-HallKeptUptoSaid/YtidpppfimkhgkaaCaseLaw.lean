/- Cases worked off: what beginning, ending, giving back do, as plain functions on lists. No program is in sight here. -/
import Derived.Test.YtidpppfimkhgkaaPA
namespace Go.Tok
open Go.RowKit
set_option linter.unusedVariables false

structure CaseD where
  mark : List Int
  busy : List Int
deriving DecidableEq
def zeroC : CaseD := ⟨[], []⟩
def CaseR (w : World) (v : Value) (c : CaseD) : Prop := ∃ vm vb, v = .agg #[vm, vb] ∧ Ints w vm c.mark ∧ Ints w vb c.busy
theorem CaseR.gr {w w' : World} {v : Value} {c : CaseD} (h : CaseR w v c) (g : Gr w w') : CaseR w' v c := by
  obtain ⟨vm, vb, h1, h2, h3⟩ := h
  exact ⟨vm, vb, h1, h2.gr g, h3.gr g⟩
theorem CaseR.alloc {w : World} {v : Value} {c : CaseD} (h : CaseR w v c) (o : Obj) : CaseR (w.alloc o) v c := h.gr ((Gr.refl _).alloc o)
theorem CaseR.open_ {w : World} {v : Value} {c : CaseD} (h : CaseR w v c) : ∃ a n a' n', v = .agg #[.slice a c.mark.length n, .slice a' c.busy.length n'] ∧ c.mark.length ≤ n ∧ n ≤ 9223372036854775807 ∧ c.busy.length ≤ n' ∧ n' ≤ 9223372036854775807 ∧ Ints w (.slice a c.mark.length n) c.mark ∧ Ints w (.slice a' c.busy.length n') c.busy := by
  obtain ⟨vm, vb, h1, h2, h3⟩ := h
  obtain ⟨a, n, rfl, h4, h5⟩ := h2.len
  obtain ⟨a', n', rfl, h6, h7⟩ := h3.len
  exact ⟨a, n, a', n', h1, h4, h5, h6, h7, h2, h3⟩
theorem CaseR.mk_ {w : World} {vm vb : Value} {c : CaseD} (h1 : Ints w vm c.mark) (h2 : Ints w vb c.busy) : CaseR w (.agg #[vm, vb]) c := ⟨vm, vb, rfl, h1, h2⟩
theorem CaseR.zero (w : World) : CaseR w (.agg #[.slice none 0 0, .slice none 0 0]) zeroC := ⟨_, _, rfl, Ints.nil _, Ints.nil _⟩
/-- a case whose rows are a call's own -/
def CaseO (e base : Nat) (w : World) (v : Value) (c : CaseD) : Prop := ∃ vm vb, v = .agg #[vm, vb] ∧ OwnI e base w vm c.mark ∧ OwnI e base w vb c.busy
theorem CaseO.r {e base : Nat} {w : World} {v : Value} {c : CaseD} (h : CaseO e base w v c) : CaseR w v c := by
  obtain ⟨vm, vb, h1, h2, h3⟩ := h
  exact ⟨vm, vb, h1, h2.ints, h3.ints⟩
theorem CaseO.gr {e base : Nat} {w w' : World} {v : Value} {c : CaseD} (h : CaseO e base w v c) (g : Gr w w') : CaseO e base w' v c := by
  obtain ⟨vm, vb, h1, h2, h3⟩ := h
  exact ⟨vm, vb, h1, h2.gr g, h3.gr g⟩
theorem CaseO.alloc {e base : Nat} {w : World} {v : Value} {c : CaseD} (h : CaseO e base w v c) (o : Obj) : CaseO e base (w.alloc o) v c := h.gr ((Gr.refl _).alloc o)
theorem CaseO.lower {e base base' : Nat} {w : World} {v : Value} {c : CaseD} (h : CaseO e base w v c) (hb : base' ≤ base) : CaseO e base' w v c := by
  obtain ⟨vm, vb, h1, h2, h3⟩ := h
  exact ⟨vm, vb, h1, h2.lower hb, h3.lower hb⟩
theorem CaseO.zero (e base : Nat) (w : World) : CaseO e base w (.agg #[.slice none 0 0, .slice none 0 0]) zeroC := ⟨_, _, rfl, OwnI.nil _ _ _, OwnI.nil _ _ _⟩
theorem CaseO.mk_ {e base : Nat} {w : World} {vm vb : Value} {c : CaseD} (h1 : OwnI e base w vm c.mark) (h2 : OwnI e base w vb c.busy) : CaseO e base w (.agg #[vm, vb]) c := ⟨vm, vb, rfl, h1, h2⟩
theorem CaseO.set {e base : Nat} {w : World} {v : Value} {c : CaseD} (h : CaseO e base w v c) {a : Addr} (ha : a.block < base) (u : Value) : CaseO e base (w.setCell a u) v c := by
  obtain ⟨vm, vb, h1, h2, h3⟩ := h
  exact ⟨vm, vb, h1, h2.other (fun e => by have := (h2.lt e).1; omega) _, h3.other (fun e => by have := (h3.lt e).1; omega) _⟩
/-- another row of the call's own is written, that is none of the case's -/
theorem CaseO.grown {e base : Nat} {w w' : World} {v : Value} {c : CaseD} {row : Option Nat} (h : CaseO e base w v c) (hg : w.grownBy w' row) (hr : ∀ k, row = some k → k < base) : CaseO e base w' v c := by
  obtain ⟨vm, vb, h1, h2, h3⟩ := h
  have go : ∀ {v : Value} {xs : List Int}, OwnI e base w v xs → v.ownBlock = none ∨ v.ownBlock ≠ row := fun {v xs} h => by
    cases hv : v.ownBlock with
    | none => exact .inl rfl
    | some k => exact .inr fun e => by have := (h.lt hv).1; have := hr k e.symm; omega
  exact ⟨vm, vb, h1, h2.grown hg (go h2), h3.grown hg (go h3)⟩
def caseOkB (N : NetD) (c : CaseD) : Bool := netOkB N && decide ((c.mark.length : Int) = N.places) && decide (c.busy.length = N.trans.length) && rightB c.mark && rightB c.busy
structure CaseOk (N : NetD) (c : CaseD) : Prop where
  ok : netOkB N = true
  ml : (c.mark.length : Int) = N.places
  bl : c.busy.length = N.trans.length
  mr : rightB c.mark = true
  br : rightB c.busy = true
theorem caseOk_iff {N : NetD} {c : CaseD} : caseOkB N c = true ↔ CaseOk N c := by
  unfold caseOkB
  simp only [Bool.and_eq_true, decide_eq_true_eq]
  exact ⟨fun ⟨⟨⟨⟨h1, h2⟩, h3⟩, h4⟩, h5⟩ => ⟨h1, h2, h3, h4, h5⟩, fun h => ⟨⟨⟨⟨h.ok, h.ml⟩, h.bl⟩, h.mr⟩, h.br⟩⟩
theorem CaseOk.fits {N : NetD} {c : CaseD} (h : CaseOk N c) : fitsB N c.mark = true := fits_mk h.ok h.ml h.mr
theorem caseOk_no {N : NetD} {c : CaseD} (h : ¬ CaseOk N c) : caseOkB N c = false := by
  cases h1 : caseOkB N c
  · rfl
  · exact absurd (caseOk_iff.1 h1) h

def busyL (b : List Int) (t : Nat) (more : Int) : List Int × Int :=
  if nth b t + more < 0 then ([], 3) else if 1000000 < nth b t + more then ([], 4) else (b.set t (nth b t + more), 0)
theorem busyL_low {b : List Int} {t : Nat} {more : Int} (h : nth b t + more < 0) : busyL b t more = ([], 3) := if_pos h
theorem busyL_high {b : List Int} {t : Nat} {more : Int} (h : 1000000 < nth b t + more) : busyL b t more = ([], 4) := by unfold busyL; rw [if_neg (by omega), if_pos h]
theorem busyL_ok {b : List Int} {t : Nat} {more : Int} (h : 0 ≤ nth b t + more) (h' : nth b t + more ≤ 1000000) : busyL b t more = (b.set t (nth b t + more), 0) := by unfold busyL; rw [if_neg (by omega), if_neg (by omega)]
def withM (c : CaseD) (r : List Int × Int) : CaseD × Int := if r.2 = 0 then (⟨r.1, c.busy⟩, 0) else (zeroC, r.2)
def withMB (r s : List Int × Int) : CaseD × Int := if r.2 = 0 then (if s.2 = 0 then (⟨r.1, s.1⟩, 0) else (zeroC, s.2)) else (zeroC, r.2)
def withBM (s r : List Int × Int) : CaseD × Int := if s.2 = 0 then (if r.2 = 0 then (⟨r.1, s.1⟩, 0) else (zeroC, r.2)) else (zeroC, s.2)
def doK (N : NetD) (c : CaseD) (k : Int) (t : Nat) : CaseD × Int :=
  if k = 1 then withM c (fireF N c.mark t)
  else if k = 2 then withMB (zipF minusf c.mark (N.tr t).pre) (busyL c.busy t 1)
  else if k = 3 then withBM (busyL c.busy t (-1)) (zipF plusf c.mark (N.tr t).post)
  else withBM (busyL c.busy t (-1)) (zipF plusf c.mark (N.tr t).pre)
def doF (N : NetD) (c : CaseD) (k t : Int) : CaseD × Int :=
  if caseOkB N c = false then (zeroC, 2)
  else if k < 1 ∨ 4 < k then (zeroC, 5)
  else if t < 0 ∨ (N.trans.length : Int) ≤ t then (zeroC, 3)
  else if (decide (k = 1) != decide ((N.tr t.toNat).label = 0)) = true then (zeroC, 1)
  else doK N c k t.toNat
section
variable {N : NetD} {c : CaseD} {k t : Int}
theorem doF_wrong (h : caseOkB N c = false) : doF N c k t = (zeroC, 2) := if_pos h
theorem doF_kind (h : caseOkB N c = true) (hk : k < 1 ∨ 4 < k) : doF N c k t = (zeroC, 5) := by unfold doF; rw [if_neg (by rw [h]; decide), if_pos hk]
theorem doF_none (h : caseOkB N c = true) (hk : 1 ≤ k ∧ k ≤ 4) (ht : t < 0 ∨ (N.trans.length : Int) ≤ t) : doF N c k t = (zeroC, 3) := by unfold doF; rw [if_neg (by rw [h]; decide), if_neg (by omega), if_pos ht]
theorem doF_form {t : Nat} (h : caseOkB N c = true) (hk : 1 ≤ k ∧ k ≤ 4) (ht : t < N.trans.length) (hf : (decide (k = 1) != decide ((N.tr t).label = 0)) = true) : doF N c k t = (zeroC, 1) := by unfold doF; rw [if_neg (by rw [h]; decide), if_neg (by omega), if_neg (by omega), if_pos (by rw [Int.toNat_natCast]; exact hf)]
theorem doF_ok {t : Nat} (h : caseOkB N c = true) (hk : 1 ≤ k ∧ k ≤ 4) (ht : t < N.trans.length) (hf : (decide (k = 1) != decide ((N.tr t).label = 0)) = false) : doF N c k t = doK N c k t := by unfold doF; rw [if_neg (by rw [h]; decide), if_neg (by omega), if_neg (by omega), if_neg (by rw [Int.toNat_natCast, hf]; decide), Int.toNat_natCast]
/-- what a call of Do comes to -/
theorem doF_cases (N : NetD) (c : CaseD) (k t : Int) :
    (∃ e, doF N c k t = (zeroC, e) ∧ e ≠ 0) ∨ (CaseOk N c ∧ (1 ≤ k ∧ k ≤ 4) ∧ ∃ j : Nat, t = j ∧ j < N.trans.length ∧ (decide (k = 1) != decide ((N.tr j).label = 0)) = false ∧ doF N c k t = doK N c k j) := by
  cases h : caseOkB N c
  · exact .inl ⟨2, doF_wrong h, by decide⟩
  · by_cases hk : k < 1 ∨ 4 < k
    · exact .inl ⟨5, doF_kind h hk, by decide⟩
    · by_cases ht : t < 0 ∨ (N.trans.length : Int) ≤ t
      · exact .inl ⟨3, doF_none h (by omega) ht, by decide⟩
      · obtain ⟨j, rfl⟩ := Int.eq_ofNat_of_zero_le (show 0 ≤ t by omega)
        cases hf : (decide (k = 1) != decide ((N.tr j).label = 0))
        · exact .inr ⟨caseOk_iff.1 h, by omega, j, rfl, by omega, hf, doF_ok h (by omega) (by omega) hf⟩
        · exact .inl ⟨1, doF_form h (by omega) (by omega) hf, by decide⟩
end
theorem withM_ok {c : CaseD} {r : List Int × Int} (h : r.2 = 0) : withM c r = (⟨r.1, c.busy⟩, 0) := if_pos h
theorem withM_bad {c : CaseD} {r : List Int × Int} (h : r.2 ≠ 0) : withM c r = (zeroC, r.2) := if_neg h
theorem withMB_ok {r s : List Int × Int} (h : r.2 = 0) (h' : s.2 = 0) : withMB r s = (⟨r.1, s.1⟩, 0) := by unfold withMB; rw [if_pos h, if_pos h']
theorem withMB_m {r s : List Int × Int} (h : r.2 ≠ 0) : withMB r s = (zeroC, r.2) := by unfold withMB; rw [if_neg h]
theorem withMB_b {r s : List Int × Int} (h : r.2 = 0) (h' : s.2 ≠ 0) : withMB r s = (zeroC, s.2) := by unfold withMB; rw [if_pos h, if_neg h']
theorem withBM_ok {r s : List Int × Int} (h : r.2 = 0) (h' : s.2 = 0) : withBM s r = (⟨r.1, s.1⟩, 0) := by unfold withBM; rw [if_pos h', if_pos h]
theorem withBM_b {r s : List Int × Int} (h : s.2 ≠ 0) : withBM s r = (zeroC, s.2) := by unfold withBM; rw [if_neg h]
theorem withBM_m {r s : List Int × Int} (h : s.2 = 0) (h' : r.2 ≠ 0) : withBM s r = (zeroC, r.2) := by unfold withBM; rw [if_pos h, if_neg h']
theorem doK1 (N : NetD) (c : CaseD) (t : Nat) : doK N c 1 t = withM c (fireF N c.mark t) := by unfold doK; rw [if_pos rfl]
theorem doK2 (N : NetD) (c : CaseD) (t : Nat) : doK N c 2 t = withMB (zipF minusf c.mark (N.tr t).pre) (busyL c.busy t 1) := by unfold doK; rw [if_neg (by decide), if_pos rfl]
theorem doK3 (N : NetD) (c : CaseD) (t : Nat) : doK N c 3 t = withBM (busyL c.busy t (-1)) (zipF plusf c.mark (N.tr t).post) := by unfold doK; rw [if_neg (by decide), if_neg (by decide), if_pos rfl]
theorem doK4 (N : NetD) (c : CaseD) (t : Nat) : doK N c 4 t = withBM (busyL c.busy t (-1)) (zipF plusf c.mark (N.tr t).pre) := by unfold doK; rw [if_neg (by decide), if_neg (by decide), if_neg (by decide)]

theorem rightB_set {xs : List Int} (h : rightB xs = true) (i : Nat) {x : Int} (h0 : 0 ≤ x) (h1 : x ≤ 1000000) : rightB (xs.set i x) = true := by
  rw [rightB_iff] at h ⊢
  intro y hy
  rcases List.mem_or_eq_of_mem_set hy with h2 | h2
  · exact h y h2
  · omega
theorem set_nth (xs : List Int) (i : Nat) : xs.set i (nth xs i) = xs := by
  refine ext_nth (by simp) fun p hp => ?_
  have hp' : p < xs.length := by simpa using hp
  rw [nth_set _ _ _ hp']
  split
  · rename_i h; rw [h]
  · rfl
theorem nth_set_self {xs : List Int} {i : Nat} (h : i < xs.length) (x : Int) : nth (xs.set i x) i = x := by rw [nth_set _ _ _ h, if_pos rfl]
/-- what beginning comes to -/
structure Begun (N : NetD) (c x : CaseD) (j : Nat) : Prop where
  lt : j < N.trans.length
  lab : (N.tr j).label ≠ 0
  ok : CaseOk N c
  le : ∀ p, nth (N.tr j).pre p ≤ nth c.mark p
  mark : ∀ p, nth x.mark p = nth c.mark p - nth (N.tr j).pre p
  zip : zipF minusf c.mark (N.tr j).pre = (x.mark, 0)
  busy : x.busy = c.busy.set j (nth c.busy j + 1)
  okx : CaseOk N x
theorem doK2_cases {N : NetD} {c : CaseD} {j : Nat} (h : CaseOk N c) (hj : j < N.trans.length) (hl : (N.tr j).label ≠ 0) :
    (∃ e, doK N c 2 j = (zeroC, e) ∧ e ≠ 0) ∨ ∃ x, doK N c 2 j = (x, 0) ∧ Begun N c x j := by
  rw [doK2]
  have F := netOk_tr h.ok hj
  rcases minus_cases c.mark (N.tr j).pre with ⟨h1, _⟩ | ⟨h1, _⟩ | ⟨_, _, h2, L, h3, h4, h5, h6⟩
  · exact .inl ⟨2, by rw [withMB_m] <;> simp [h1], by decide⟩
  · exact .inl ⟨3, by rw [withMB_m] <;> simp [h1], by decide⟩
  · have hb := rightB_nth h.br j
    by_cases hB : 1000000 < nth c.busy j + 1
    · exact .inl ⟨4, by rw [withMB_b] <;> simp [h3, busyL_high hB], by decide⟩
    · refine .inr ⟨⟨L, c.busy.set j (nth c.busy j + 1)⟩, by rw [withMB_ok] <;> simp [h3, busyL_ok (b := c.busy) (t := j) (more := 1) (by omega) (by omega)], hj, hl, h, h2, h5, h3, rfl, ⟨h.ok, ?_, ?_, h6, rightB_set h.br _ (by omega) (by omega)⟩⟩
      · have := F.pre; have := h.ml; simp only []; omega
      · simp [h.bl]
theorem kind2 {N : NetD} {j : Nat} {k : Int} (hk : k ≠ 1) (h : (decide (k = 1) != decide ((N.tr j).label = 0)) = false) : (N.tr j).label ≠ 0 := by
  intro h0; simp [h0, hk] at h
theorem kind2' {N : NetD} {j : Nat} {k : Int} (hk : k ≠ 1) (h : (N.tr j).label ≠ 0) : (decide (k = 1) != decide ((N.tr j).label = 0)) = false := by simp [h, hk]
theorem begin_cases (N : NetD) (c : CaseD) (t : Int) : (∃ e, doF N c 2 t = (zeroC, e) ∧ e ≠ 0) ∨ ∃ (x : CaseD) (j : Nat), t = j ∧ doF N c 2 t = (x, 0) ∧ Begun N c x j := by
  rcases doF_cases N c 2 t with h | ⟨h, _, j, rfl, hj, hf, he⟩
  · exact .inl h
  · rw [he]
    rcases doK2_cases h hj (kind2 (by decide) hf) with h1 | ⟨x, h1, h2⟩
    · exact .inl h1
    · exact .inr ⟨x, j, rfl, h1, h2⟩
theorem Begun.unbusy {N : NetD} {c x : CaseD} {j : Nat} (h : Begun N c x j) : busyL x.busy j (-1) = (c.busy, 0) := by
  have hb := rightB_nth h.ok.br j
  have hl : j < c.busy.length := by rw [h.ok.bl]; exact h.lt
  have h1 : nth x.busy j = nth c.busy j + 1 := by rw [h.busy, nth_set_self hl]
  rw [busyL_ok (by omega) (by omega), h1, h.busy, List.set_set]
  rw [show nth c.busy j + 1 + -1 = nth c.busy j by omega, set_nth]
/-- given back, it is as it was -/
theorem undo_law {N : NetD} {c x : CaseD} {j : Nat} (h : Begun N c x j) : doF N x 4 j = (c, 0) := by
  have F := netOk_tr h.ok.ok h.lt
  rw [doF_ok (caseOk_iff.2 h.okx) (by decide) h.lt (kind2' (by decide) h.lab), doK4]
  have hle : ∀ p, nth x.mark p + nth (N.tr j).pre p ≤ 1000000 := fun p => by
    have := rightB_nth h.ok.mr p
    rw [h.mark]; omega
  obtain ⟨L, h1, h2, h3, h4⟩ := plus_ok h.okx.mr F.rPre hle
  have hL : L = c.mark := by
    refine ext_nth ?_ fun p _ => by rw [h3, h.mark]; omega
    have := F.pre; have := h.ok.ml; have := h.okx.ml; omega
  rw [withBM_ok] <;> simp [h1, h.unbusy, hL]
/-- ended at once, it is a firing -/
theorem once_law {N : NetD} {c x : CaseD} {j : Nat} (h : Begun N c x j) : (∃ m, doF N x 3 j = (⟨m, c.busy⟩, 0) ∧ fireF N c.mark j = (m, 0)) ∨ (∃ e, doF N x 3 j = (zeroC, e) ∧ e ≠ 0 ∧ fireF N c.mark j = ([], e)) := by
  have F := netOk_tr h.ok.ok h.lt
  rw [doF_ok (caseOk_iff.2 h.okx) (by decide) h.lt (kind2' (by decide) h.lab), doK3, fireF_ok h.ok.fits h.lt h.zip]
  rcases hz : zipF plusf x.mark (N.tr j).post with ⟨m, e⟩
  by_cases he : e = 0
  · subst he
    exact .inl ⟨m, by rw [withBM_ok] <;> simp [h.unbusy], rfl⟩
  · refine .inr ⟨e, by rw [withBM_m] <;> simp [h.unbusy, he], he, ?_⟩
    rw [(sums_bad hz he).1]
end Go.Tok
