/- Nets as texts: what text.Print writes and text.Parse reads, as plain functions on bytes. No program is in sight here. -/
import Derived.Test.YtiflolklgmmgeaaDoorPA
import Derived.Lib.SpaceU
import Derived.Lib.Fields
import Derived.Lib.AtoiAll
import Derived.Lib.ItoaNum
import Derived.Lib.CountLaws
import Derived.Shelf.Strings.FieldsAny
namespace Go.Tok
open Go.RowKit
set_option linter.unusedVariables false
/-! ### what is written -/
def sideW (p : Nat) (n : Int) : List UInt8 := if n = 0 then [] else if 1 < n then 32 :: (Lib.decDigits n.toNat ++ 42 :: Lib.decDigits p) else 32 :: Lib.decDigits p
def sideUpto (w : List Int) : Nat → List UInt8
  | 0 => []
  | k + 1 => sideUpto w k ++ sideW k (nth w k)
def sideF (w : List Int) : List UInt8 := sideUpto w w.length
def labelF (n : Int) : List UInt8 := if n = 0 then [45] else [UInt8.ofNat (97 + n - 1).toNat]
def lineF (t : TranD) : List UInt8 := labelF t.label ++ ([32, 58] ++ (sideF t.pre ++ ([32, 62] ++ sideF t.post)))
def headT (P : Nat) : List UInt8 := [110, 101, 116, 32] ++ Lib.decDigits P
def bodyT (ts : List TranD) : List UInt8 := ts.flatMap fun t => lineF t ++ [10]
def printF (N : NetD) : List UInt8 × Int := if netOkB N then ((headT N.places.toNat ++ [10]) ++ bodyT N.trans, 0) else ([], 2)
/-! ### what is read -/
def wordF (f : List UInt8) : Option (Int × Int) :=
  match Lib.atoiAll (if (Lib.cut f [42]).2.2 then (Lib.cut f [42]).1 else [49]), Lib.atoiAll (if (Lib.cut f [42]).2.2 then (Lib.cut f [42]).2.1 else f) with
  | .ok n, .ok p => some (n, p)
  | _, _ => none
def weightS (P : Nat) (f : List UInt8) (out : List Int) : Option (List Int) := (wordF f).bind fun x => if 0 ≤ x.2 ∧ x.2 < P ∧ 1 ≤ x.1 ∧ x.1 ≤ 9 then some (out.set x.2.toNat x.1) else none
def weightsL (P : Nat) : List (List UInt8) → List Int → Option (List Int)
  | [], out => some out
  | f :: r, out => (weightS P f out).bind (weightsL P r)
def weightsT (s : List UInt8) (P : Nat) : Option (List Int) := weightsL P (Lib.fieldsD s) (List.replicate P 0)
def nameLab (c : UInt8) : Int := if c = 45 then 0 else (c.toNat : Int) - 97 + 1
/-- a line, cut -/
def lineName (s : List UInt8) : List UInt8 := (Lib.cut s [32, 58]).1
def lineRest (s : List UInt8) : List UInt8 := (Lib.cut s [32, 58]).2.1
def linePre (s : List UInt8) : List UInt8 := (Lib.cut (lineRest s) [32, 62]).1
def linePost (s : List UInt8) : List UInt8 := (Lib.cut (lineRest s) [32, 62]).2.1
def lineCutB (s : List UInt8) : Bool := (Lib.cut s [32, 58]).2.2 && ((Lib.cut (lineRest s) [32, 62]).2.2 && decide ((lineName s).length = 1))
def tranT (s : List UInt8) (P : Nat) : Option TranD :=
  if lineCutB s = true then
    (weightsT (linePre s) P).bind fun a => (weightsT (linePost s) P).bind fun b =>
      if 0 ≤ nameLab ((lineName s).headD 0) ∧ nameLab ((lineName s).headD 0) ≤ 26 ∧ lineF ⟨nameLab ((lineName s).headD 0), a, b⟩ = s then some ⟨nameLab ((lineName s).headD 0), a, b⟩ else none
  else none
/-- the pieces of a text, each with the newline at its end -/
def splitL : List UInt8 → List (List UInt8)
  | [] => [[]]
  | b :: r => if b = 10 then [10] :: splitL r else match splitL r with
    | [] => [[b]]
    | h :: t => (b :: h) :: t
def headF (l : List UInt8) : Option Nat := match Lib.atoiAll (Lib.trimPrefix l [110, 101, 116, 32]) with
  | .ok p => if 0 ≤ p ∧ p ≤ 16 ∧ l = headT p.toNat then some p.toNat else none
  | _ => none
def parseL : Nat → NetD → List (List UInt8) → NetD × Nat × Int
  | _, N, [] => (N, 0, 0)
  | k, N, l :: ls =>
    if 0 < k ∧ Lib.trimSuffix l [10] = [] ∧ Lib.hasSuffix l [10] = false then (N, 0, 0)
    else if Lib.hasSuffix l [10] = false ∨ 24 < k then (⟨0, []⟩, k, 1)
    else if k = 0 then (match headF (Lib.trimSuffix l [10]) with
      | none => (⟨0, []⟩, k, 1)
      | some p => parseL (k + 1) ⟨p, N.trans⟩ ls)
    else match tranT (Lib.trimSuffix l [10]) N.places.toNat with
      | none => (⟨0, []⟩, k, 1)
      | some t => parseL (k + 1) ⟨N.places, N.trans ++ [t]⟩ ls
def parseF (s : List UInt8) : NetD × Nat × Int := parseL 0 ⟨0, []⟩ (splitL s)
/-! ### lines -/
inductive Lines : List (List UInt8) → Prop
  | last {l : List UInt8} : 10 ∉ l → Lines [l]
  | more {l : List UInt8} {ls : List (List UInt8)} : 10 ∉ l → Lines ls → Lines ((l ++ [10]) :: ls)
theorem splitL_ne : ∀ s, splitL s ≠ []
  | [] => by simp [splitL]
  | b :: r => by
    unfold splitL
    split
    · simp
    · split <;> simp
theorem splitL_lines : ∀ s, Lines (splitL s)
  | [] => .last (by simp)
  | b :: r => by
    have ih := splitL_lines r
    unfold splitL
    split
    · exact .more (l := []) (by simp) ih
    · rename_i hb
      have hne := splitL_ne r
      rcases h : splitL r with _ | ⟨x, t⟩
      · exact absurd h hne
      · rw [h] at ih
        simp only
        generalize hq : x :: t = q at ih
        cases ih with
        | last hl =>
          cases hq
          exact .last (by simp only [List.mem_cons, not_or]; exact ⟨fun e => hb e.symm, hl⟩)
        | @more l ls hl hls =>
          cases hq
          exact .more (l := b :: l) (by simp only [List.mem_cons, not_or]; exact ⟨fun e => hb e.symm, hl⟩) hls
theorem splitL_flat : ∀ s, (splitL s).flatten = s
  | [] => rfl
  | b :: r => by
    have ih := splitL_flat r
    unfold splitL
    split
    · rename_i hb
      rw [List.flatten_cons, ih, hb]; rfl
    · have hne := splitL_ne r
      rcases h : splitL r with _ | ⟨x, t⟩
      · exact absurd h hne
      · rw [h] at ih
        simp only [List.flatten_cons, List.cons_append] at ih ⊢
        rw [ih]
theorem splitL_last {s : List UInt8} (h : 10 ∉ s) : splitL s = [s] := by
  induction s with
  | nil => rfl
  | cons b r ih =>
    simp only [List.mem_cons, not_or] at h
    unfold splitL
    rw [if_neg (fun e => h.1 e.symm), ih h.2]
theorem splitL_more {l : List UInt8} (h : 10 ∉ l) (r : List UInt8) : splitL (l ++ 10 :: r) = (l ++ [10]) :: splitL r := by
  induction l with
  | nil => simp [splitL]
  | cons b l ih =>
    simp only [List.mem_cons, not_or] at h
    rw [List.cons_append, splitL, if_neg (fun e => h.1 e.symm), ih h.2]
    rfl
theorem Lines.split {ls : List (List UInt8)} (h : Lines ls) : splitL ls.flatten = ls := by
  induction h with
  | last hl => simpa using splitL_last hl
  | @more l ls hl _ ih =>
    rw [List.flatten_cons, List.append_assoc, List.singleton_append, splitL_more hl, ih]
theorem Lines.take {ls : List (List UInt8)} (h : Lines ls) : ∀ m, m < ls.length → Lines (ls.take m ++ [[]]) := by
  induction h with
  | last hl =>
    intro m hm
    have : m = 0 := by simpa using hm
    subst this
    exact .last (by simp)
  | @more l ls hl _ ih =>
    intro m hm
    cases m with
    | zero => exact .last (by simp)
    | succ m => exact .more hl (ih m (by simpa using hm))
theorem suffix_yes (l : List UInt8) : Lib.hasSuffix (l ++ [10]) [10] = true := by
  unfold Lib.hasSuffix
  rw [List.isSuffixOf_iff_suffix]
  exact ⟨l, rfl⟩
theorem suffix_no {l : List UInt8} (h : 10 ∉ l) : Lib.hasSuffix l [10] = false := by
  rw [Bool.eq_false_iff]
  intro h1
  unfold Lib.hasSuffix at h1
  rw [List.isSuffixOf_iff_suffix] at h1
  exact h (h1.subset (by simp))
theorem trim_yes (l : List UInt8) : Lib.trimSuffix (l ++ [10]) [10] = l := by
  unfold Lib.trimSuffix
  rw [if_pos (suffix_yes l)]
  simp
theorem trim_no {l : List UInt8} (h : 10 ∉ l) : Lib.trimSuffix l [10] = l := by
  unfold Lib.trimSuffix
  rw [if_neg (by rw [suffix_no h]; decide)]
/-! ### one line more -/
theorem parse_end {k : Nat} (N : NetD) (hk : 0 < k) (ls : List (List UInt8)) : parseL k N ([] :: ls) = (N, 0, 0) := by
  unfold parseL
  rw [if_pos ⟨hk, by rw [trim_no (by simp)], suffix_no (by simp)⟩]
theorem parse_last {k : Nat} {N : NetD} {l : List UInt8} (h : 10 ∉ l) (hk : k = 0 ∨ l ≠ []) (ls : List (List UInt8)) : parseL k N (l :: ls) = (⟨0, []⟩, k, 1) := by
  unfold parseL
  rw [if_neg (fun hc => by rw [trim_no h] at hc; rcases hk with e | e; · omega
                           · exact e hc.2.1), if_pos (.inl (suffix_no h))]
theorem parse_many {k : Nat} {N : NetD} (l : List UInt8) (hk : 24 < k) (ls : List (List UInt8)) : parseL k N ((l ++ [10]) :: ls) = (⟨0, []⟩, k, 1) := by
  unfold parseL
  rw [if_neg (fun hc => by rw [suffix_yes] at hc; exact absurd hc.2.2 (by decide)), if_pos (.inr hk)]
theorem parse_head {N : NetD} (l : List UInt8) (ls : List (List UInt8)) : parseL 0 N ((l ++ [10]) :: ls) = (match headF l with
      | none => (⟨0, []⟩, 0, 1)
      | some p => parseL 1 ⟨p, N.trans⟩ ls) := by
  rw [parseL, if_neg (fun hc => absurd hc.1 (by omega)), if_neg (fun hc => by rw [suffix_yes] at hc; rcases hc with e | e <;> first | (cases e; done) | omega), if_pos rfl, trim_yes]
theorem parse_tran {k : Nat} {N : NetD} (l : List UInt8) (h0 : 0 < k) (hk : k ≤ 24) (ls : List (List UInt8)) : parseL k N ((l ++ [10]) :: ls) = (match tranT l N.places.toNat with
      | none => (⟨0, []⟩, k, 1)
      | some t => parseL (k + 1) ⟨N.places, N.trans ++ [t]⟩ ls) := by
  rw [parseL, if_neg (fun hc => by rw [suffix_yes] at hc; exact absurd hc.2.2 (by decide)), if_neg (fun hc => by rw [suffix_yes] at hc; rcases hc with e | e <;> first | (cases e; done) | omega), if_neg (by omega), trim_yes]
/-! ### weights that were read -/
structure RowT (P : Nat) (w : List Int) : Prop where
  len : w.length = P
  w : ∀ x ∈ w, 0 ≤ x ∧ x ≤ 9
theorem RowT.zero (P : Nat) : RowT P (List.replicate P 0) := ⟨by simp, fun x hx => by rw [(List.mem_replicate.1 hx).2]; omega⟩
theorem weightS_row {P : Nat} {f : List UInt8} {out w : List Int} (h : RowT P out) (e : weightS P f out = some w) : RowT P w := by
  unfold weightS at e
  replace e := Option.bind_eq_some_iff.1 e
  obtain ⟨x, _, e⟩ := e
  split at e
  · rename_i hc
    cases e
    refine ⟨by rw [List.length_set]; exact h.len, fun y hy => ?_⟩
    rcases List.mem_or_eq_of_mem_set hy with h1 | rfl
    · exact h.w y h1
    · omega
  · cases e
theorem weightsL_row {P : Nat} : ∀ {fs : List (List UInt8)} {out w : List Int}, RowT P out → weightsL P fs out = some w → RowT P w
  | [], out, w, h, e => by cases e; exact h
  | f :: r, out, w, h, e => by
    unfold weightsL at e
    replace e := Option.bind_eq_some_iff.1 e
    obtain ⟨x, e1, e⟩ := e
    exact weightsL_row (weightS_row h e1) e
theorem weights_row {s : List UInt8} {P : Nat} {w : List Int} (e : weightsT s P = some w) : RowT P w := weightsL_row (RowT.zero P) e
structure TranT (P : Nat) (t : TranD) : Prop where
  lab : 0 ≤ t.label ∧ t.label ≤ 26
  pre : RowT P t.pre
  post : RowT P t.post
theorem tranT_some {s : List UInt8} {P : Nat} {t : TranD} (e : tranT s P = some t) : TranT P t ∧ lineF t = s := by
  unfold tranT at e
  split at e
  · replace e := Option.bind_eq_some_iff.1 e
    obtain ⟨a, ha, e⟩ := e
    replace e := Option.bind_eq_some_iff.1 e
    obtain ⟨b, hb, e⟩ := e
    split at e
    · rename_i hc
      cases e
      exact ⟨⟨⟨hc.1, hc.2.1⟩, weights_row ha, weights_row hb⟩, hc.2.2⟩
    · cases e
  · cases e
theorem headF_some {l : List UInt8} {p : Nat} (e : headF l = some p) : p ≤ 16 ∧ l = headT p := by
  unfold headF at e
  split at e
  · split at e
    · rename_i hc
      cases e
      exact ⟨by omega, hc.2.2⟩
    · cases e
  · cases e
/-! ### what is read is what is written -/
theorem parse_sound {ls : List (List UInt8)} (h : Lines ls) : ∀ {k : Nat} {N M : NetD} {j : Nat}, 0 < k → N.trans.length + 1 = k → k ≤ 25 → (∀ t ∈ N.trans, TranT N.places.toNat t) → parseL k N ls = (M, j, 0) →
    M.places = N.places ∧ M.trans.length ≤ 24 ∧ (∀ t ∈ M.trans, TranT M.places.toNat t) ∧ bodyT M.trans = bodyT N.trans ++ ls.flatten := by
  induction h with
  | @last l hl =>
    intro k N M j h0 hN hk hT e
    by_cases hn : l = []
    · subst hn
      rw [parse_end N h0] at e
      obtain ⟨rfl, rfl, _⟩ : N = M ∧ 0 = j ∧ True := ⟨(Prod.mk.inj e).1, (Prod.mk.inj (Prod.mk.inj e).2).1, trivial⟩
      exact ⟨rfl, by omega, hT, by simp⟩
    · rw [parse_last hl (.inr hn)] at e
      exact absurd (Prod.mk.inj (Prod.mk.inj e).2).2 (by decide)
  | @more l ls hl _ ih =>
    intro k N M j h0 hN hk hT e
    by_cases h24 : 24 < k
    · rw [parse_many l h24] at e
      exact absurd (Prod.mk.inj (Prod.mk.inj e).2).2 (by decide)
    · rw [parse_tran l h0 (by omega)] at e
      rcases ht : tranT l N.places.toNat with _ | t
      · rw [ht] at e
        exact absurd (Prod.mk.inj (Prod.mk.inj e).2).2 (by decide)
      · rw [ht] at e
        obtain ⟨h1, h2⟩ := tranT_some ht
        obtain ⟨e1, e2, e3, e4⟩ := ih (by omega) (by simp; omega) (by omega) (fun u hu => by
          rcases List.mem_append.1 hu with h3 | h3
          · exact hT u h3
          · rw [List.mem_singleton.1 h3]; exact h1) e
        refine ⟨e1, e2, e3, ?_⟩
        rw [e4]
        unfold bodyT
        simp [h2]
theorem parse_good {s : List UInt8} {M : NetD} {j : Nat} (e : parseF s = (M, j, 0)) : (0 ≤ M.places ∧ M.places ≤ 16) ∧ M.trans.length ≤ 24 ∧ (∀ t ∈ M.trans, TranT M.places.toNat t) ∧ s = (headT M.places.toNat ++ [10]) ++ bodyT M.trans := by
  have hL := splitL_lines s
  have hf := splitL_flat s
  unfold parseF at e
  generalize hq : splitL s = q at hL hf e
  cases hL with
  | @last l hl =>
    rw [parse_last hl (.inl rfl)] at e
    exact absurd (Prod.mk.inj (Prod.mk.inj e).2).2 (by decide)
  | @more l ls hl hls =>
    rw [parse_head] at e
    rcases hh : headF l with _ | p
    · rw [hh] at e
      exact absurd (Prod.mk.inj (Prod.mk.inj e).2).2 (by decide)
    · rw [hh] at e
      obtain ⟨h1, h2⟩ := headF_some hh
      obtain ⟨e1, e2, e3, e4⟩ := parse_sound hls (by omega) (by simp) (by omega) (by simp) e
      simp only at e1
      refine ⟨by omega, e2, e3, ?_⟩
      rw [← hf, e4, e1, h2]
      simp [bodyT]
/-- where a line is wrong -/
theorem parse_bad : ∀ {ls : List (List UInt8)} {k : Nat} {N M : NetD} {j : Nat} {c : Int}, parseL k N ls = (M, j, c) → c ≠ 0 → M = ⟨0, []⟩ ∧ c = 1 ∧ k ≤ j ∧ j < k + ls.length
  | [], k, N, M, j, c, e, hc => by
    unfold parseL at e
    exact absurd (Prod.mk.inj (Prod.mk.inj e).2).2.symm hc
  | l :: ls, k, N, M, j, c, e, hc => by
    have stop : (⟨0, []⟩, k, 1) = (M, j, c) → M = ⟨0, []⟩ ∧ c = 1 ∧ k ≤ j ∧ j < k + (l :: ls).length := fun e => by
      obtain ⟨e1, e2⟩ := Prod.mk.inj e
      obtain ⟨e2, e3⟩ := Prod.mk.inj e2
      exact ⟨e1.symm, e3.symm, by omega, by simp; omega⟩
    have on : ∀ {N'}, parseL (k + 1) N' ls = (M, j, c) → M = ⟨0, []⟩ ∧ c = 1 ∧ k ≤ j ∧ j < k + (l :: ls).length := fun e => by
      obtain ⟨e1, e2, e3, e4⟩ := parse_bad e hc
      exact ⟨e1, e2, by omega, by simp; omega⟩
    unfold parseL at e
    split at e
    · exact absurd (Prod.mk.inj (Prod.mk.inj e).2).2.symm hc
    · split at e
      · exact stop e
      · split at e
        · split at e
          · exact stop e
          · exact on e
        · split at e
          · exact stop e
          · exact on e
/-- what is ahead of a wrong line is right -/
theorem parse_ahead : ∀ {ls : List (List UInt8)} {k : Nat} {N M : NetD} {j : Nat}, 0 < k → parseL k N ls = (M, j, 1) → ∃ M', parseL k N (ls.take (j - k) ++ [[]]) = (M', 0, 0) ∧ M'.trans.length = N.trans.length + (j - k)
  | [], k, N, M, j, h0, e => by
    unfold parseL at e
    exact absurd (Prod.mk.inj (Prod.mk.inj e).2).2 (by decide)
  | l :: ls, k, N, M, j, h0, e => by
    obtain ⟨_, _, hkj, _⟩ := parse_bad e (by decide)
    by_cases hjk : j = k
    · subst hjk
      refine ⟨N, ?_, by simp⟩
      rw [Nat.sub_self, List.take_zero, List.nil_append]
      exact parse_end N h0 []
    · have hs : j - k = (j - (k + 1)) + 1 := by omega
      rw [hs, List.take_succ_cons, List.cons_append]
      unfold parseL at e ⊢
      split at e
      · exact absurd (Prod.mk.inj (Prod.mk.inj e).2).2 (by decide)
      · rename_i c1
        rw [if_neg c1]
        split at e
        · exact absurd (Prod.mk.inj (Prod.mk.inj e).2).1.symm hjk
        · rename_i c2
          rw [if_neg c2, if_neg (by omega : ¬ k = 0)]
          rw [if_neg (by omega : ¬ k = 0)] at e
          rcases ht : tranT (Lib.trimSuffix l [10]) N.places.toNat with _ | t
          · rw [ht] at e
            exact absurd (Prod.mk.inj (Prod.mk.inj e).2).1.symm hjk
          · rw [ht] at e
            obtain ⟨M', e1, e2⟩ := parse_ahead (by omega) e
            refine ⟨M', e1, ?_⟩
            rw [e2]; simp; omega
theorem parse_line {s : List UInt8} {M : NetD} {j : Nat} (e : parseF s = (M, j, 1)) (hj : j ≠ 0) : j < (splitL s).length ∧ ∃ M', parseF ((splitL s).take j).flatten = (M', 0, 0) ∧ M'.trans.length = j - 1 := by
  have hlt := (parse_bad e (by decide)).2.2.2
  rw [Nat.zero_add] at hlt
  refine ⟨hlt, ?_⟩
  have hL := splitL_lines s
  have ht := (hL.take j hlt).split
  rw [List.flatten_append, List.flatten_singleton, List.append_nil] at ht
  unfold parseF at e ⊢
  rw [ht]
  generalize hq : splitL s = q at hL e hlt
  cases hL with
  | @last l hl =>
    rw [parse_last hl (.inl rfl)] at e
    exact absurd (Prod.mk.inj (Prod.mk.inj e).2).1.symm hj
  | @more l ls hl hls =>
    rw [parse_head] at e
    have hs : j = (j - 1) + 1 := by omega
    rw [hs, List.take_succ_cons, List.cons_append, parse_head]
    rcases hh : headF l with _ | p
    · rw [hh] at e
      exact absurd (Prod.mk.inj (Prod.mk.inj e).2).1.symm hj
    · rw [hh] at e
      obtain ⟨M', e1, e2⟩ := parse_ahead (by omega) e
      refine ⟨M', e1, ?_⟩
      rw [e2]; simp
end Go.Tok
