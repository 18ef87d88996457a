/- Clusters of transitions that share places, as plain functions; what they say. No program is in sight here. -/
import Derived.Test.YtjpapgbdhflgnaaPA
import Derived.Shelf.Sort.Plain
import Derived.Ground.Names2Prog
import Derived.Shelf.Slices.CompactI
import Derived.Ground.SlsfProg
import Derived.Shelf.SlSortCmp.Whole1
import Derived.Test.YtjpapgbdhflgnaaProg
import Derived.Test.YtjpapgbdhflgnaaGM
import Derived.BigQuiet
import Derived.Deep.QuietTactic
import Derived.IntWalk
import Derived.Sort.OwnSortedInts
import Derived.RangeFuncCalls
import Derived.RangeFuncLeaves
import Derived.RangeFuncBox
import Derived.Shelf.Abstract
import Derived.Shelf.RegionOpen
import Derived.WalkKit
import Derived.OwnWalkIn
import Derived.TacticsInMore
import Derived.LoopNIn
import Derived.LoopIn
import Derived.Shelf.Slices.Delete
namespace Go.Tok
set_option linter.unusedVariables false
def sharesB (a b : TranD) : Bool := (List.range a.pre.length).any fun p => decide (0 < nth a.pre p) && decide (0 < nth b.pre p)
theorem shares_iff {a b : TranD} : sharesB a b = true ↔ ∃ p, p < a.pre.length ∧ 0 < nth a.pre p ∧ 0 < nth b.pre p := by
  unfold sharesB
  rw [List.any_eq_true]
  constructor
  · rintro ⟨p, hp, h⟩
    simp only [Bool.and_eq_true, decide_eq_true_eq] at h
    exact ⟨p, by simpa using hp, h⟩
  · rintro ⟨p, hp, h1, h2⟩
    exact ⟨p, by simpa using hp, by simp [h1, h2]⟩
theorem shares_comm {a b : TranD} (hl : a.pre.length = b.pre.length) (h : sharesB a b = true) : sharesB b a = true := by
  obtain ⟨p, hp, h1, h2⟩ := shares_iff.1 h
  exact shares_iff.2 ⟨p, by omega, h2, h1⟩
/-- does transition k share a place with one of l? -/
def touchB (N : NetD) (k : Nat) (l : List Int) : Bool := l.any fun j => sharesB (N.tr k) (N.tr j.toNat)
def sortI (l : List Int) : List Int := l.mergeSort fun a b => decide (a ≤ b)
theorem mem_sortI {x : Int} {l : List Int} : x ∈ sortI l ↔ x ∈ l := List.mem_mergeSort
theorem sortI_perm (l : List Int) : (sortI l).Perm l := List.mergeSort_perm l _
theorem sortI_sorted (l : List Int) : (sortI l).Pairwise (· ≤ ·) := by
  have h := List.pairwise_mergeSort (le := fun a b : Int => decide (a ≤ b)) (by intro a b c; simp; omega) (by intro a b; simp; omega) l
  exact h.imp fun h => by simpa using h
/-- what comes together with transition k, and what stands by itself, of the first j lists -/
def mineTo (N : NetD) (k : Nat) (out : List (List Int)) (j : Nat) : List Int := (k : Int) :: ((out.take j).filter (touchB N k)).flatten
def restTo (N : NetD) (k : Nat) (out : List (List Int)) (j : Nat) : List (List Int) := (out.take j).filter fun l => !touchB N k l
def clusN (N : NetD) : Nat → List (List Int)
  | 0 => []
  | k + 1 => restTo N k (clusN N k) (clusN N k).length ++ [sortI (mineTo N k (clusN N k) (clusN N k).length)]
theorem mineTo_yes {N : NetD} {k j : Nat} {out : List (List Int)} (hj : j < out.length) (h : touchB N k (ix out j) = true) : mineTo N k out (j + 1) = mineTo N k out j ++ ix out j := by
  unfold mineTo
  rw [take_ix hj, List.filter_append, List.filter_cons_of_pos h]; simp
theorem mineTo_no {N : NetD} {k j : Nat} {out : List (List Int)} (hj : j < out.length) (h : touchB N k (ix out j) = false) : mineTo N k out (j + 1) = mineTo N k out j := by
  unfold mineTo
  rw [take_ix hj, List.filter_append, List.filter_cons_of_neg (by rw [h]; decide)]; simp
theorem restTo_yes {N : NetD} {k j : Nat} {out : List (List Int)} (hj : j < out.length) (h : touchB N k (ix out j) = true) : restTo N k out (j + 1) = restTo N k out j := by
  unfold restTo
  rw [take_ix hj, List.filter_append, List.filter_cons_of_neg (by rw [h]; decide)]; simp
theorem restTo_no {N : NetD} {k j : Nat} {out : List (List Int)} (hj : j < out.length) (h : touchB N k (ix out j) = false) : restTo N k out (j + 1) = restTo N k out j ++ [ix out j] := by
  unfold restTo
  rw [take_ix hj, List.filter_append, List.filter_cons_of_pos (by rw [h]; decide)]; simp
theorem split_flat (p : List Int → Bool) : ∀ (l : List (List Int)), ((l.filter p).flatten ++ (l.filter fun x => !p x).flatten).Perm l.flatten := by
  intro l
  induction l with
  | nil => simp
  | cons a l ih =>
    by_cases h : p a = true
    · rw [List.filter_cons_of_pos h, List.filter_cons_of_neg (by rw [h]; decide), List.flatten_cons, List.flatten_cons, List.append_assoc]
      exact List.Perm.append_left _ ih
    · have h' : p a = false := by simpa using h
      rw [List.filter_cons_of_neg h, List.filter_cons_of_pos (by rw [h']; decide), List.flatten_cons, List.flatten_cons]
      exact (List.perm_append_comm_assoc _ _ _).trans (List.Perm.append_left _ ih)
/-- each is in one cluster -/
theorem clus_perm (N : NetD) : ∀ k, (clusN N k).flatten.Perm ((List.range k).map Int.ofNat) := by
  intro k
  induction k with
  | zero => simp [clusN]
  | succ k ih =>
    rw [clusN, List.flatten_append, List.flatten_singleton, List.range_succ, List.map_append, List.map_singleton]
    unfold restTo mineTo
    rw [List.take_length]
    refine (List.Perm.append_left _ (sortI_perm _)).trans ?_
    refine (List.perm_append_comm).trans ?_
    rw [List.cons_append]
    refine (List.Perm.cons _ ((split_flat (touchB N k) (clusN N k)).trans ih)).trans ?_
    exact (List.perm_append_singleton _ _).symm
theorem clus_mem {N : NetD} {k : Nat} {x : Int} : x ∈ (clusN N k).flatten ↔ ∃ i, i < k ∧ x = (i : Int) := by
  rw [(clus_perm N k).mem_iff, List.mem_map]
  constructor
  · rintro ⟨i, hi, rfl⟩; exact ⟨i, by simpa using hi, rfl⟩
  · rintro ⟨i, hi, rfl⟩; exact ⟨i, by simpa using hi, rfl⟩
/-- in one cluster -/
def Tog (N : NetD) (k i j : Nat) : Prop := ∃ l ∈ clusN N k, (i : Int) ∈ l ∧ (j : Int) ∈ l
theorem tog_next {N : NetD} {k i j : Nat} (h : Tog N k i j) : Tog N (k + 1) i j := by
  obtain ⟨l, hl, h1, h2⟩ := h
  by_cases ht : touchB N k l = true
  · refine ⟨sortI (mineTo N k (clusN N k) (clusN N k).length), by rw [clusN]; simp, ?_, ?_⟩
    all_goals
      rw [mem_sortI]
      unfold mineTo
      rw [List.take_length]
      refine List.mem_cons_of_mem _ (List.mem_flatten.2 ⟨l, List.mem_filter.2 ⟨hl, ht⟩, ?_⟩)
      assumption
  · refine ⟨l, ?_, h1, h2⟩
    rw [clusN]
    refine List.mem_append_left _ ?_
    unfold restTo
    rw [List.take_length]
    exact List.mem_filter.2 ⟨hl, by simpa using ht⟩
theorem tog_new {N : NetD} {k j : Nat} (hj : j < k) (h : sharesB (N.tr k) (N.tr j) = true) : Tog N (k + 1) k j := by
  obtain ⟨l, hl, hm⟩ := List.mem_flatten.1 (clus_mem.2 ⟨j, hj, rfl⟩ : (j : Int) ∈ (clusN N k).flatten)
  have ht : touchB N k l = true := List.any_eq_true.2 ⟨j, hm, by simpa using h⟩
  refine ⟨sortI (mineTo N k (clusN N k) (clusN N k).length), by rw [clusN]; simp, ?_, ?_⟩
  · rw [mem_sortI]; unfold mineTo; exact List.mem_cons_self
  · rw [mem_sortI]
    unfold mineTo
    rw [List.take_length]
    exact List.mem_cons_of_mem _ (List.mem_flatten.2 ⟨l, List.mem_filter.2 ⟨hl, ht⟩, hm⟩)
theorem tog_self {N : NetD} {k i : Nat} (hi : i < k) : Tog N k i i := by
  obtain ⟨l, hl, hm⟩ := List.mem_flatten.1 (clus_mem.2 ⟨i, hi, rfl⟩ : (i : Int) ∈ (clusN N k).flatten)
  exact ⟨l, hl, hm, hm⟩
theorem Tog.symm {N : NetD} {k i j : Nat} (h : Tog N k i j) : Tog N k j i := by
  obtain ⟨l, hl, h1, h2⟩ := h
  exact ⟨l, hl, h2, h1⟩
/-- who shares a place is in one cluster -/
theorem tog_shares {N : NetD} (hN : netOkB N = true) : ∀ k, k ≤ N.trans.length → ∀ i j, i < k → j < k → sharesB (N.tr i) (N.tr j) = true → Tog N k i j := by
  intro k
  induction k with
  | zero => intro _ i j hi; omega
  | succ k ih =>
    intro hk i j hi hj hs
    have hlen : ∀ a b, a < N.trans.length → b < N.trans.length → (N.tr a).pre.length = (N.tr b).pre.length := fun a b ha hb => by
      have h1 := (netOk_tr hN ha).pre
      have h2 := (netOk_tr hN hb).pre
      omega
    by_cases e1 : i = k
    · by_cases e2 : j = k
      · subst e1 e2; exact tog_self (by omega)
      · subst e1; exact tog_new (by omega) hs
    · by_cases e2 : j = k
      · subst e2
        exact (tog_new (by omega) (shares_comm (hlen i j (by omega) (by omega)) hs)).symm
      · exact tog_next (ih (by omega) i j (by omega) (by omega) hs)
/-- who shares a place takes the same -/
def freeB (N : NetD) : Bool := (List.range N.trans.length).all fun i => (List.range i).all fun j => !sharesB (N.tr i) (N.tr j) || decide ((N.tr i).pre = (N.tr j).pre)
theorem free_pre {N : NetD} (hN : netOkB N = true) (hf : freeB N = true) {i j : Nat} (hi : i < N.trans.length) (hj : j < N.trans.length) (hs : sharesB (N.tr i) (N.tr j) = true) : (N.tr i).pre = (N.tr j).pre := by
  have key : ∀ a b, a < N.trans.length → b < a → sharesB (N.tr a) (N.tr b) = true → (N.tr a).pre = (N.tr b).pre := fun a b ha hb h => by
    have h1 := List.all_eq_true.1 (List.all_eq_true.1 hf a (by simpa using ha)) b (by simpa using hb)
    rw [h] at h1
    simpa using h1
  rcases Nat.lt_trichotomy i j with h | h | h
  · have h1 := (netOk_tr hN hi).pre
    have h2 := (netOk_tr hN hj).pre
    exact (key j i hj h (shares_comm (by omega) hs)).symm
  · rw [h]
  · exact key i j hi h hs
/-- where choices are free, those of one cluster take the same -/
theorem free_same {N : NetD} (hN : netOkB N = true) (hf : freeB N = true) : ∀ k, k ≤ N.trans.length → ∀ l ∈ clusN N k, ∀ x ∈ l, ∀ y ∈ l, (N.tr x.toNat).pre = (N.tr y.toNat).pre := by
  intro k
  induction k with
  | zero => intro _ l hl; simp [clusN] at hl
  | succ k ih =>
    intro hk l hl x hx y hy
    rw [clusN] at hl
    rcases List.mem_append.1 hl with h | h
    · unfold restTo at h
      exact ih (by omega) l (List.mem_of_mem_take (List.mem_filter.1 h).1) x hx y hy
    · rw [List.mem_singleton.1 h, mem_sortI] at hx hy
      have key : ∀ z, z ∈ mineTo N k (clusN N k) (clusN N k).length → (N.tr z.toNat).pre = (N.tr k).pre := by
        intro z hz
        unfold mineTo at hz
        rw [List.take_length] at hz
        rcases List.mem_cons.1 hz with rfl | hz
        · simp
        · obtain ⟨l', hl', hz'⟩ := List.mem_flatten.1 hz
          obtain ⟨h1, h2⟩ := List.mem_filter.1 hl'
          obtain ⟨j, hj, hs⟩ := List.any_eq_true.1 h2
          obtain ⟨jn, hjn, rfl⟩ := clus_mem.1 (List.mem_flatten.2 ⟨l', h1, hj⟩)
          have := free_pre hN hf (show k < N.trans.length by omega) (show jn < N.trans.length by omega) (by simpa using hs)
          rw [this, ← ih (by omega) l' h1 _ hj z hz']; simp
      rw [key x hx, key y hy]
end Go.Tok

/- The library's slices.Sort and slices.Compact at ints and slices.SortFunc at rows: their contracts at this program (written by the kit's lay-shelf and lay-plain; numbers by names). -/
namespace Go.Proofs
open Go.Shelf
end Go.Proofs

/- Contracts of cmp.Less and slices.IsSorted at ints: an ascending list is sorted. -/
namespace Go.Proofs.Ytjpapgbdhflgnaa
open Go.RowKit Go.Tok
set_option linter.unusedVariables false

theorem asc_nth {xs : List Int} (h : xs.Pairwise (· < ·)) {i : Nat} (hi : i + 1 < xs.length) : nth xs i ≤ nth xs (i + 1) := by
  rw [nth_lt (by omega), nth_lt hi]
  have := List.pairwise_iff_getElem.1 h i (i + 1) (by omega) hi (by omega)
  omega
end Go.Proofs.Ytjpapgbdhflgnaa

/- Contracts of the library's slices.Sort at a row of the call's own, of cmp.Compare and slices.Compare at ints. -/
namespace Go.Tok
open Go.RowKit
/-- -1, 0, 1 -/
def cmpI (x y : Int) : Int := if x < y then -1 else if y < x then 1 else 0
def lexC : List Int → List Int → Int
  | [], [] => 0
  | [], _ :: _ => -1
  | _ :: _, [] => 1
  | x :: xs, y :: ys => if cmpI x y = 0 then lexC xs ys else cmpI x y
theorem lex_self : ∀ l, lexC l l = 0 := by
  intro l
  induction l with
  | nil => rfl
  | cons a l ih => simp [lexC, cmpI, ih]
theorem lex_zero : ∀ a b, lexC a b = 0 → a = b := by
  intro a
  induction a with
  | nil => intro b h; cases b with
    | nil => rfl
    | cons y ys => simp [lexC] at h
  | cons x xs ih =>
    intro b h
    cases b with
    | nil => simp [lexC] at h
    | cons y ys =>
      unfold lexC at h
      by_cases h1 : x < y
      · simp [cmpI, h1] at h
      · by_cases h2 : y < x
        · simp [cmpI, h1, h2] at h
        · have hxy : x = y := by omega
          simp [cmpI, h1, h2] at h
          rw [hxy, ih ys h]
theorem lex_neg : ∀ a b, lexC b a = - lexC a b := by
  intro a
  induction a with
  | nil => intro b; cases b <;> simp [lexC]
  | cons x xs ih =>
    intro b
    cases b with
    | nil => simp [lexC]
    | cons y ys =>
      unfold lexC
      by_cases h1 : x < y
      · have h2 : ¬ y < x := by omega
        simp [cmpI, h1, h2]
      · by_cases h2 : y < x
        · simp [cmpI, h1, h2]
        · simp [cmpI, h1, h2, ih]
theorem lex_trans : ∀ a b c, lexC a b < 0 → lexC b c < 0 → lexC a c < 0 := by
  intro a
  induction a with
  | nil =>
    intro b c h1 h2
    cases b with
    | nil => simp [lexC] at h1
    | cons y ys => cases c with
      | nil => simp [lexC] at h2
      | cons z zs => simp [lexC]
  | cons x xs ih =>
    intro b c h1 h2
    cases b with
    | nil => simp [lexC] at h1
    | cons y ys =>
      cases c with
      | nil => simp [lexC] at h2
      | cons z zs =>
        unfold lexC at h1 h2 ⊢
        unfold cmpI at *
        by_cases a1 : x < y <;> by_cases a2 : y < x <;> by_cases b1 : y < z <;> by_cases b2 : z < y <;> simp [a1, a2, b1, b2] at h1 h2
        all_goals by_cases c1 : x < z
        all_goals first
          | (simp only [if_pos c1]; simp; done)
          | omega
          | (have c2 : ¬ z < x := by omega
             simp only [if_neg c1, if_neg c2, if_true]
             exact ih ys zs h1 h2)
theorem lex_ge_trans (a b c : List Int) (h1 : ¬ lexC a b < 0) (h2 : ¬ lexC b c < 0) : ¬ lexC a c < 0 := by
  intro h
  have e1 := lex_neg a b
  have e2 := lex_neg b c
  by_cases q1 : lexC a b = 0
  · have := lex_zero a b q1
    subst this
    exact h2 h
  · by_cases q2 : lexC b c = 0
    · have := lex_zero b c q2
      subst this
      exact h1 h
    · have h3 : lexC b a < 0 := by omega
      have h4 : lexC c b < 0 := by omega
      have h5 := lex_trans c b a h4 h3
      have e3 := lex_neg a c
      omega
end Go.Tok
namespace Go.Proofs.Ytjpapgbdhflgnaa
open Go.RowKit Go.Tok
set_option linter.unusedVariables false
end Go.Proofs.Ytjpapgbdhflgnaa

/- The library's sorts at a nil slice. -/
namespace Go.Proofs.Ytjpapgbdhflgnaa
open Go.RowKit Go.Tok
set_option linter.unusedVariables false
end Go.Proofs.Ytjpapgbdhflgnaa

/- Contracts of the library's slices.Values, AppendSeq, Collect and Sorted at ints: slices.Sorted(slices.Values(xs)). -/
namespace Go.Proofs.Ytjpapgbdhflgnaa
open Go.RowKit Go.Tok Go.Shelf
set_option linter.unusedVariables false
set_option linter.unusedSimpArgs false
attribute [local go_sem] Oper.semAt_some
theorem gr_of_below {w W : World} (h : Below w.heap.size w W) : Gr w W := by unfold Gr; exact h
end Go.Proofs.Ytjpapgbdhflgnaa

/- Contract of the library's slices.Compact at a row of ints of the call's own. -/
namespace Go.Proofs.Ytjpapgbdhflgnaa
open Go.RowKit Go.Tok Go.Sort
set_option linter.unusedVariables false
theorem compact_len (xs : List Int) : (Go.Lib.compact xs).length ≤ xs.length := by
  unfold Go.Lib.compact Go.Lib.compactUpTo
  rw [List.length_map]
  exact Nat.le_trans (List.length_filter_le _ _) (by simp)
theorem compact_mem {xs : List Int} {x : Int} (h : x ∈ Go.Lib.compact xs) : x ∈ xs := by
  unfold Go.Lib.compact Go.Lib.compactUpTo at h
  obtain ⟨k, hk, rfl⟩ := List.mem_map.1 h
  have hk2 := List.mem_range.1 (List.mem_filter.1 hk).1
  rw [getElem!_pos _ k (by simpa using hk2)]
  simp
end Go.Proofs.Ytjpapgbdhflgnaa

/- The library's slices.Delete at ints (its contract at this program: written by the kit's lay-shelf and lay-plain; numbers by names), at a row of the call's own; the contract of reduce.without. -/
namespace Go.Proofs
open Go.Shelf Go.RowKit Go.Lib Go.Sort
def Try.laysNm223_ren : Go.Shelf.Ren := ⟨fun | 23 => 72 | n => n, fun | 22 => 39 | 3 => 3 | 4 => 4 | 0 => 0 | n => n, fun | n => n⟩
theorem Try.laysNm223 : Go.Proofs.Lays2.n23 Try.prog Try.laysNm223_ren := {
  mixed := by kernel_rfl
  f23 := Try.func72.trans (congrArg some (by kernel_rfl))
  t0 := Try.underlying0
  a0 := Try.isAgg0
  z0 := Try.sizeOf0
  v0 := Try.zeroValue0
  t3 := Try.underlying3
  a3 := Try.isAgg3
  z3 := Try.sizeOf3
  v3 := Try.zeroValue3
  t4 := Try.underlying4
  a4 := Try.isAgg4
  z4 := Try.sizeOf4
  v4 := Try.zeroValue4
  t22 := Try.underlying39
  a22 := Try.isAgg39
  z22 := Try.sizeOf39
  v22 := Try.zeroValue39
  i3 := by kernel_rfl }
theorem Try.slices_Delete_int_arr (blk off cap i j : Nat) (d : Array Int) (w : World) (hH : Holds encI w blk off d) (hcap : d.size ≤ cap) (hm : cap ≤ 9223372036854775807) (hij : i ≤ j) (hj : j ≤ d.size) :
    Calls Try.prog 72 #[.slice (some ⟨blk, off, none⟩) d.size cap, .int .i64 i, .int .i64 j] w fun e w' => e = .returned (.slice (some ⟨blk, off, none⟩) (d.size - (j - i)) cap) ∧ ∃ q, w' = putRow encI (Sort.ahead w q) blk off (d.toList.take i ++ d.toList.drop j ++ List.replicate (j - i) 0).toArray := Any.slices_Delete_int_arr Try.laysNm223 blk off cap i j d w hH hcap hm hij hj
theorem Try.slices_Delete_int (blk off cap i j : Nat) (zs : List Int) (w : World) (hH : Holds (Value.int .i64) w blk off zs.toArray) (hcap : zs.length ≤ cap) (hm : cap ≤ 9223372036854775807) (hij : i ≤ j) (hj : j ≤ zs.length) :
    Calls Try.prog 72 #[.slice (some ⟨blk, off, none⟩) zs.length cap, .int .i64 i, .int .i64 j] w fun e w' => e = .returned (.slice (some ⟨blk, off, none⟩) (zs.length - (j - i)) cap) ∧ ∃ q, w' = putRow (Value.int .i64) (Sort.ahead w q) blk off (zs.take i ++ zs.drop j ++ List.replicate (j - i) 0).toArray := Any.slices_Delete_int Try.laysNm223 blk off cap i j zs w hH hcap hm hij hj

end Go.Proofs
namespace Go.Proofs.Ytjpapgbdhflgnaa
open Go.RowKit Go.Tok Go.Sort
set_option linter.unusedVariables false
theorem DeleteI_calls (v : Value) (base i : Nat) (xs : List Int) (w : World) (h : OwnI 3 base w v xs) (hi : i < xs.length) :
    Calls Try.prog 72 #[v, .int .i64 i, .int .i64 ((i + 1 : Nat) : Int)] w fun e w' => ∃ v', e = .returned v' ∧ OwnI 3 base w' v' (xs.eraseIdx i) ∧ ∀ w0 : World, Gr w0 w → w0.heap.size ≤ base → Gr w0 w' := by
  have h0 := h
  unfold OwnI at h
  obtain ⟨⟨e1, h1⟩, h2⟩ := h
  rcases h1 with ⟨rfl, hz⟩ | ⟨g, cap, cur, rfl, hb, hh, hn, hc, hs, ht⟩
  · omega
  · have hcap : cap ≤ 9223372036854775807 := by unfold maxLen at hc; omega
    refine (Try.slices_Delete_int g 0 cap i (i + 1) xs w (holds_of_blockI hh (by simpa using ht)) hn hcap (by omega) (by omega)).mono ?_
    rintro _ w' ⟨rfl, q, rfl⟩
    have hel : xs.eraseIdx i = xs.take i ++ xs.drop (i + 1) := List.eraseIdx_eq_take_drop_succ xs i
    have hlen : (xs.eraseIdx i ++ List.replicate 1 0).length = xs.length := by rw [List.length_append, List.length_eraseIdx_of_lt hi]; simp; omega
    have hel2 : (xs.eraseIdx i).length = xs.length - 1 := List.length_eraseIdx_of_lt hi
    rw [← hel, show i + 1 - i = 1 by omega]
    have hg : putRow (Value.int .i64) (Sort.ahead w q) g 0 (xs.eraseIdx i ++ List.replicate 1 0).toArray = grow (putRow (Value.int .i64) (Sort.ahead w q) g 0 (xs.eraseIdx i ++ List.replicate 1 0).toArray) #[] := by simp [grow]; rfl
    refine ⟨_, rfl, ?_, fun w0 g0 hb0 => ?_⟩
    · unfold OwnI
      refine ⟨⟨by simp, .inr ⟨g, cap, _, by rw [hel2], hb, by rw [hg]; exact heap_sortedI _ hh, by omega, hc, by simp [putCells, hs], ?_⟩⟩, fun x hx => h2 x (List.mem_of_mem_eraseIdx hx)⟩
      have := take_putCellsI cur (xs.eraseIdx i ++ List.replicate 1 0) (by rw [hlen]; omega)
      rw [hlen] at this
      have h5 := congrArg (List.take (xs.eraseIdx i).length) this
      rw [List.take_take, Nat.min_eq_left (by omega), List.map_append, List.take_append_of_le_length (by simp), List.take_of_length_le (l := (xs.eraseIdx i).map (Value.int .i64)) (by simp)] at h5
      rw [Nat.mul_one]
      exact h5
    · rw [hg]
      exact g0.grown (grownBy_sortedI _) fun k hk => by cases hk; omega
set_option maxHeartbeats 1000000 in
theorem without_calls (u : Value) (xs : List Int) (k : Nat) (w : World) (hu : Ints w u xs) (hk : k < xs.length) (hl : xs.length ≤ 1000) :
    Calls Try.prog 65 #[u, .int .i64 k] w fun e w' => ∃ v', e = .returned v' ∧ OwnI 3 w.heap.size w' v' (xs.eraseIdx k) ∧ Gr w w' := by
  obtain ⟨ua, uc, rfl, _, _⟩ := hu.len
  go_enter Try.func65, Try.ntmps65
  go_wp2_with fail
  refine (Clone_calls _ xs _ hu (by omega)).mono ?_
  rintro _ w1 ⟨v1, rfl, o1, g1⟩
  have HD := Lib.hid (DeleteI_calls v1 _ k xs w1 o1 hk)
  obtain ⟨a1, c1, rfl, _, _⟩ := o1.ints.len
  clear o1
  rw [show ((k + 1 : Nat) : Int) = (k : Int) + 1 by omega] at HD
  go_wp2_with fail
  refine HD.out.mono ?_
  rintro _ w2 ⟨v2, rfl, o2, g2⟩
  go_wp2_with fail
  go_ret
  exact ⟨_, rfl, o2, g2 w g1 (Nat.le_refl _)⟩
end Go.Proofs.Ytjpapgbdhflgnaa
