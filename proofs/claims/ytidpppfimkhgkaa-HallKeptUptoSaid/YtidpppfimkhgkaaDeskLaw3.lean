/- What a desk's items and its case have to do with one another; what is refused. No program is in sight here. -/
import Derived.Test.YtidpppfimkhgkaaDeskLaw2
import Derived.Test.YtidpppfimkhgkaaPB
namespace Go.Tok
open Go.RowKit
set_option linter.unusedVariables false
set_option linter.unusedSimpArgs false

/-! ### what Do makes of the counts -/
theorem doF_busy {N : NetD} {c x : CaseD} {k t : Int} (h : doF N c k t = (x, 0)) : CaseOk N c ∧ ∃ j : Nat, t = j ∧ j < N.trans.length ∧
    ((k = 1 ∧ x.busy = c.busy) ∨ (k = 2 ∧ x.busy = c.busy.set j (nth c.busy j + 1)) ∨ ((k = 3 ∨ k = 4) ∧ x.busy = c.busy.set j (nth c.busy j - 1))) := by
  rcases doF_cases N c k t with ⟨e, h1, h2⟩ | ⟨hO, hk, j, rfl, hj, _, h1⟩
  · rw [h] at h1; exact absurd (Prod.mk.inj h1).2.symm h2
  · refine ⟨hO, j, rfl, hj, ?_⟩
    rw [h1] at h
    have h4 : k = 1 ∨ k = 2 ∨ k = 3 ∨ k = 4 := by omega
    rcases h4 with rfl | rfl | rfl | rfl
    · rw [doK1] at h
      unfold withM at h
      split at h
      · exact .inl ⟨rfl, by rw [← (Prod.mk.inj h).1]⟩
      · rename_i hn; exact absurd (Prod.mk.inj h).2 hn
    · rw [doK2] at h
      unfold withMB at h
      split at h
      · split at h
        · rename_i hb
          refine .inr (.inl ⟨rfl, ?_⟩)
          rw [← (Prod.mk.inj h).1]
          unfold busyL at hb ⊢
          split at hb
          · cases hb
          · split at hb
            · cases hb
            · rename_i h5 h6; rw [if_neg h5, if_neg h6]
        · rename_i hn; exact absurd (Prod.mk.inj h).2 hn
      · rename_i hn; exact absurd (Prod.mk.inj h).2 hn
    · rw [doK3] at h
      unfold withBM at h
      split at h
      · rename_i hb
        split at h
        · refine .inr (.inr ⟨.inl rfl, ?_⟩)
          rw [← (Prod.mk.inj h).1]
          unfold busyL at hb ⊢
          split at hb
          · cases hb
          · split at hb
            · cases hb
            · rename_i h5 h6; rw [if_neg h5, if_neg h6]; simp only []; rw [show nth c.busy j - 1 = nth c.busy j + -1 by omega]
        · rename_i hn; exact absurd (Prod.mk.inj h).2 hn
      · rename_i hn; exact absurd (Prod.mk.inj h).2 hn
    · rw [doK4] at h
      unfold withBM at h
      split at h
      · rename_i hb
        split at h
        · refine .inr (.inr ⟨.inr rfl, ?_⟩)
          rw [← (Prod.mk.inj h).1]
          unfold busyL at hb ⊢
          split at hb
          · cases hb
          · split at hb
            · cases hb
            · rename_i h5 h6; rw [if_neg h5, if_neg h6]; simp only []; rw [show nth c.busy j - 1 = nth c.busy j + -1 by omega]
        · rename_i hn; exact absurd (Prod.mk.inj h).2 hn
      · rename_i hn; exact absurd (Prod.mk.inj h).2 hn

/-! ### open items -/
def one1 (x : ItemD) (j : Nat) : Int := if x.opened = true ∧ x.tran = j then 1 else 0
def cntI (xs : List ItemD) (j : Nat) : Int := (xs.map fun x => one1 x j).sum
theorem cntI_nil (j : Nat) : cntI [] j = 0 := rfl
theorem cntI_snoc (xs : List ItemD) (x : ItemD) (j : Nat) : cntI (xs ++ [x]) j = cntI xs j + one1 x j := by simp [cntI]
theorem cntI_set (xs : List ItemD) (y : ItemD) (j : Nat) : ∀ i, i < xs.length → cntI (xs.set i y) j = cntI xs j - one1 (ix xs i) j + one1 y j := by
  induction xs with
  | nil => intro i hi; simp at hi
  | cons x xs ih =>
    intro i hi
    cases i with
    | zero => simp [cntI, ix]; omega
    | succ i =>
      have := ih i (by simpa using hi)
      have h2 : ix (x :: xs) (i + 1) = ix xs i := by simp [ix]
      rw [h2]
      simp only [cntI, List.set_cons_succ, List.map_cons, List.sum_cons] at this ⊢
      omega
theorem one1_open {u : Int} {i j : Nat} : one1 ⟨u, (i : Int), true⟩ j = if j = i then 1 else 0 := by
  unfold one1
  by_cases h : j = i
  · rw [if_pos h, if_pos ⟨rfl, by simp only []; omega⟩]
  · rw [if_neg h, if_neg (by simp only [true_and]; omega)]
theorem one1_shut {u t : Int} {j : Nat} : one1 ⟨u, t, false⟩ j = 0 := by unfold one1; rw [if_neg (by simp)]
theorem one1_eq {x : ItemD} {i j : Nat} (h1 : x.opened = true) (h2 : x.tran = i) : one1 x j = if j = i then 1 else 0 := by
  unfold one1
  by_cases h : j = i
  · rw [if_pos h, if_pos ⟨h1, by omega⟩]
  · rw [if_neg h, if_neg (by rw [h2]; simp only [h1, true_and]; omega)]
def BusyOk (N : NetD) (k : DeskD) : Prop := k.case.busy.length = N.trans.length ∧ ∀ j, j < N.trans.length → nth k.case.busy j = cntI k.items j
theorem busy_add {N : NetD} {k : DeskD} {x : CaseD} {j : Nat} {u : Int} (h : BusyOk N k) (hj : j < N.trans.length) (hx : x.busy = k.case.busy.set j (nth k.case.busy j + 1)) : BusyOk N ⟨x, k.items ++ [⟨u, (j : Int), true⟩]⟩ := by
  refine ⟨by simp only []; rw [hx, List.length_set]; exact h.1, fun i hi => ?_⟩
  have := h.2 i hi
  simp only [] at this ⊢
  rw [hx, nth_set _ _ _ (by rw [h.1]; exact hi), cntI_snoc, one1_open]
  by_cases e : j = i
  · subst e; rw [if_pos rfl, if_pos rfl]; omega
  · rw [if_neg e, if_neg (fun h => e h.symm)]; omega
theorem busy_end {N : NetD} {k : DeskD} {x : CaseD} {i j : Nat} {u : Int} (h : BusyOk N k) (hi : i < k.items.length) (ho : (ix k.items i).opened = true) (ht : (ix k.items i).tran = j) (hj : j < N.trans.length) (hx : x.busy = k.case.busy.set j (nth k.case.busy j - 1)) : BusyOk N ⟨x, k.items.set i ⟨u, (j : Int), false⟩⟩ := by
  refine ⟨by simp only []; rw [hx, List.length_set]; exact h.1, fun l hl => ?_⟩
  have := h.2 l hl
  simp only [] at this ⊢
  rw [hx, nth_set _ _ _ (by rw [h.1]; exact hl), cntI_set _ _ _ _ hi, one1_eq ho ht, one1_shut]
  by_cases e : j = l
  · subst e; rw [if_pos rfl, if_pos rfl]; omega
  · rw [if_neg e, if_neg (fun h => e h.symm)]; omega
theorem busy_give {N : NetD} {k : DeskD} {i j : Nat} {u : Int} (h : BusyOk N k) (hi : i < k.items.length) (ho : (ix k.items i).opened = true) (ht : (ix k.items i).tran = j) : BusyOk N ⟨k.case, k.items.set i ⟨u, (j : Int), true⟩⟩ := by
  refine ⟨h.1, fun l hl => ?_⟩
  have := h.2 l hl
  simp only [] at this ⊢
  rw [cntI_set _ _ _ _ hi, one1_eq ho ht, one1_open]
  omega
theorem endOf_cases (k : Int) : endOf k = 3 ∨ endOf k = 4 := by unfold endOf; split; exact .inr rfl; exact .inl rfl
theorem busy_next {N : NetD} {roles : List (List Int)} {k : DeskD} (hk : DeskOk N roles k) (h : BusyOk N k) (o : OpD) : BusyOk N (deskF N roles k o).1 := by
  by_cases h1 : o.kind = 1
  · rcases beginK_cases N roles k o with ⟨e, h2, _⟩ | ⟨j, c, hj, hl, hm, hd, h2⟩
    · rw [deskF_begin h1 h2]; exact h
    · rw [deskF_begin h1 h2]
      obtain ⟨_, j', e1, _, h3 | ⟨_, h3⟩ | h3⟩ := doF_busy hd
      · exact absurd h3.1 (by decide)
      · obtain rfl : j' = j := by omega
        exact busy_add h hl h3
      · exact absurd h3.1 (by decide)
  · by_cases h2 : o.kind = 2 ∨ o.kind = 3 ∨ o.kind = 4
    · rcases changeK_cases hk o with ⟨e, h3, _⟩ | ⟨i, j, hi, hl, ho, hu, hj, hjl, ⟨_, hm, h3⟩ | ⟨_, c, hd, h3⟩⟩
      · rw [deskF_change h2 h3]; exact h
      · rw [deskF_change h2 h3]; exact busy_give h hl ho hj
      · rw [deskF_change h2 h3]
        obtain ⟨_, j', e1, _, h4 | h4 | ⟨_, h4⟩⟩ := doF_busy hd
        · rcases endOf_cases o.kind with e | e <;> rw [e] at h4 <;> exact absurd h4.1 (by decide)
        · rcases endOf_cases o.kind with e | e <;> rw [e] at h4 <;> exact absurd h4.1 (by decide)
        · obtain rfl : j' = j := by omega
          exact busy_end h hl ho hj hjl h4
    · by_cases h3 : o.kind = 5
      · rcases h4 : doF N k.case 1 o.tran with ⟨c, e⟩
        by_cases he : e = 0
        · subst he
          rw [deskF_skip h3 h4]
          obtain ⟨_, j', e1, _, ⟨_, h5⟩ | h5 | h5⟩ := doF_busy h4
          · exact ⟨by simp only []; rw [h5]; exact h.1, fun j hj => by simp only []; rw [h5]; exact h.2 j hj⟩
          · exact absurd h5.1 (by decide)
          · exact absurd h5.1 (by decide)
        · rw [deskF_skipno h3 h4 he]; exact h
      · rw [deskF_kind (by omega)]; exact h
theorem deskTo_busy {N : NetD} {roles : List (List Int)} {k : DeskD} (hk : DeskOk N roles k) (h : BusyOk N k) (ops : List OpD) : ∀ n, BusyOk N (deskTo N roles k ops n).1
  | 0 => h
  | n + 1 => by rw [deskTo]; exact busy_next (deskTo_ok hk ops n) (deskTo_busy hk h ops n) _
theorem begin_busy {N : NetD} {i : Int} {c : CaseD} (h : beginF N i = (c, 0)) : BusyOk N ⟨c, []⟩ := by
  unfold beginF at h
  split at h
  · cases h
  split at h
  · cases h
  · cases h
    refine ⟨by simp, fun j hj => ?_⟩
    simp only []
    rw [nth_lt (by simpa using hj), cntI_nil]; simp

/-! ### what is refused -/
theorem deskF_same {N : NetD} {roles : List (List Int)} {k : DeskD} {o : OpD} (hk : DeskOk N roles k) (h : (deskF N roles k o).2.err ≠ 0) : (deskF N roles k o).1 = k := by
  by_cases h1 : o.kind = 1
  · rcases beginK_cases N roles k o with ⟨e, h2, _⟩ | ⟨j, c, hj, hl, hm, hd, h2⟩
    · rw [deskF_begin h1 h2]
    · rw [deskF_begin h1 h2] at h; exact absurd rfl h
  · by_cases h2 : o.kind = 2 ∨ o.kind = 3 ∨ o.kind = 4
    · rcases changeK_cases hk o with ⟨e, h3, _⟩ | ⟨i, j, hi, hl, ho, hu, hj, hjl, ⟨_, hm, h3⟩ | ⟨_, c, hd, h3⟩⟩
      · rw [deskF_change h2 h3]
      · rw [deskF_change h2 h3] at h; exact absurd rfl h
      · rw [deskF_change h2 h3] at h; exact absurd rfl h
    · by_cases h3 : o.kind = 5
      · rcases h4 : doF N k.case 1 o.tran with ⟨c, e⟩
        by_cases he : e = 0
        · subst he; rw [deskF_skip h3 h4] at h; exact absurd rfl h
        · rw [deskF_skipno h3 h4 he]
      · rw [deskF_kind (by omega)]
/-- done one behind the other -/
def deskL (N : NetD) (roles : List (List Int)) (k : DeskD) (ops : List OpD) : DeskD × List AnsD := ops.foldl (fun s o => ((deskF N roles s.1 o).1, s.2 ++ [(deskF N roles s.1 o).2])) (k, [])
theorem deskL_snoc (N : NetD) (roles : List (List Int)) (k : DeskD) (ops : List OpD) (o : OpD) : deskL N roles k (ops ++ [o]) = ((deskF N roles (deskL N roles k ops).1 o).1, (deskL N roles k ops).2 ++ [(deskF N roles (deskL N roles k ops).1 o).2]) := by
  unfold deskL; rw [List.foldl_append]; rfl
theorem deskTo_take (N : NetD) (roles : List (List Int)) (k : DeskD) (ops : List OpD) : ∀ n, n ≤ ops.length → deskTo N roles k ops n = deskL N roles k (ops.take n)
  | 0, _ => rfl
  | n + 1, h => by
    rw [deskTo, deskTo_take N roles k ops n (by omega), List.take_succ_eq_append_getElem (by omega), deskL_snoc, ix_lt (by omega)]
theorem deskTo_all (N : NetD) (roles : List (List Int)) (k : DeskD) (ops : List OpD) : deskTo N roles k ops ops.length = deskL N roles k ops := by
  rw [deskTo_take _ _ _ _ _ (Nat.le_refl _), List.take_length]
def goodsTo (ops : List OpD) (l : List AnsD) : Nat → List OpD
  | 0 => []
  | n + 1 => if (ix l n).err = 0 then goodsTo ops l n ++ [ix ops n] else goodsTo ops l n
def wantsTo (l : List AnsD) : Nat → List AnsD
  | 0 => []
  | n + 1 => if (ix l n).err = 0 then wantsTo l n ++ [ix l n] else wantsTo l n
theorem goodsTo_len (ops : List OpD) (l : List AnsD) : ∀ n, (goodsTo ops l n).length ≤ n
  | 0 => by simp [goodsTo]
  | n + 1 => by
    have := goodsTo_len ops l n
    rw [goodsTo]; split
    · simp; omega
    · omega
theorem wantsTo_len (l : List AnsD) : ∀ n, (wantsTo l n).length ≤ n
  | 0 => by simp [wantsTo]
  | n + 1 => by
    have := wantsTo_len l n
    rw [wantsTo]; split
    · simp; omega
    · omega
theorem deskTo_ans (N : NetD) (roles : List (List Int)) (k : DeskD) (ops : List OpD) : ∀ n m, n ≤ m → ∀ x, x < n → ix (deskTo N roles k ops m).2 x = ix (deskTo N roles k ops n).2 x := by
  intro n m h
  induction m with
  | zero => intro x hx; omega
  | succ m ih =>
    intro x hx
    rcases Nat.lt_or_ge m n with h1 | h1
    · have : n = m + 1 := by omega
      rw [this]
    · rw [deskTo]
      simp only []
      rw [ix_append_left (by rw [deskTo_len]; omega)]
      exact ih h1 x hx
/-- answer n is what operation n came to -/
theorem deskTo_nth (N : NetD) (roles : List (List Int)) (k : DeskD) (ops : List OpD) {n m : Nat} (h : n < m) : ix (deskTo N roles k ops m).2 n = (deskF N roles (deskTo N roles k ops n).1 (ix ops n)).2 := by
  rw [deskTo_ans N roles k ops (n + 1) m (by omega) n (by omega), deskTo]
  simp only []
  have := ix_append_one (deskTo N roles k ops n).2 (deskF N roles (deskTo N roles k ops n).1 (ix ops n)).2
  rw [deskTo_len] at this
  exact this
theorem goods_desk {N : NetD} {roles : List (List Int)} {k : DeskD} (hk : DeskOk N roles k) (ops : List OpD) : ∀ n, n ≤ ops.length → deskL N roles k (goodsTo ops (deskTo N roles k ops ops.length).2 n) = ((deskTo N roles k ops n).1, wantsTo (deskTo N roles k ops ops.length).2 n)
  | 0, _ => rfl
  | n + 1, h => by
    have ih := goods_desk hk ops n (by omega)
    have ha := deskTo_nth N roles k ops (n := n) (m := ops.length) (by omega)
    rw [goodsTo, wantsTo, deskTo]
    by_cases he : (ix (deskTo N roles k ops ops.length).2 n).err = 0
    · rw [if_pos he, if_pos he, deskL_snoc, ih, ← ha]
    · rw [if_neg he, if_neg he, ih]
      rw [ha] at he
      simp only []
      rw [deskF_same (deskTo_ok hk ops n) he]
theorem goods_play {N : NetD} {roles : List (List Int)} {i : Int} {ops : List OpD} {k : DeskD} {l : List AnsD} (h : deskPlay N i roles ops = ((k, l), 0)) : deskPlay N i roles (goodsTo ops l ops.length) = ((k, wantsTo l ops.length), 0) := by
  rcases hb : beginF N i with ⟨c, e⟩
  by_cases he : e = 0
  · subst he
    rw [deskPlay_ok hb] at h ⊢
    have h1 : deskTo N roles ⟨c, []⟩ ops ops.length = (k, l) := (Prod.mk.inj h).1
    have h2 := goods_desk (DeskOk.zero N roles c) ops ops.length (Nat.le_refl _)
    rw [h1] at h2
    rw [deskTo_all, h2]
  · rw [deskPlay_bad hb he] at h
    exact absurd (Prod.mk.inj h).2 he
theorem desk_len {N : NetD} {roles : List (List Int)} {i : Int} {ops : List OpD} {k : DeskD} {l : List AnsD} (h : deskPlay N i roles ops = ((k, l), 0)) : l.length = ops.length := by
  rcases hb : beginF N i with ⟨c, e⟩
  by_cases he : e = 0
  · subst he
    rw [deskPlay_ok hb] at h
    have h1 : deskTo N roles ⟨c, []⟩ ops ops.length = (k, l) := (Prod.mk.inj h).1
    have := deskTo_len N roles ⟨c, []⟩ ops ops.length
    rw [h1] at this; exact this
  · rw [deskPlay_bad hb he] at h
    exact absurd (Prod.mk.inj h).2 he
theorem desk_zero {N : NetD} {roles : List (List Int)} {i : Int} {ops : List OpD} {k : DeskD} {l : List AnsD} {e : Int} (h : deskPlay N i roles ops = ((k, l), e)) (he : e ≠ 0) : k = zeroK ∧ l = [] := by
  rcases hb : beginF N i with ⟨c, e'⟩
  by_cases he' : e' = 0
  · subst he'
    rw [deskPlay_ok hb] at h
    exact absurd (Prod.mk.inj h).2.symm he
  · rw [deskPlay_bad hb he'] at h
    have := (Prod.mk.inj h).1
    exact ⟨(Prod.mk.inj this).1.symm, (Prod.mk.inj this).2.symm⟩
theorem desk_good {N : NetD} {roles : List (List Int)} {i : Int} {ops : List OpD} {k : DeskD} {l : List AnsD} (h : deskPlay N i roles ops = ((k, l), 0)) : DeskOk N roles k ∧ BusyOk N k := by
  rcases hb : beginF N i with ⟨c, e⟩
  by_cases he : e = 0
  · subst he
    rw [deskPlay_ok hb] at h
    have h1 : deskTo N roles ⟨c, []⟩ ops ops.length = (k, l) := (Prod.mk.inj h).1
    have h2 := deskTo_ok (DeskOk.zero N roles c) ops ops.length
    have h3 := deskTo_busy (DeskOk.zero N roles c) (begin_busy hb) ops ops.length
    rw [h1] at h2 h3
    exact ⟨h2, h3⟩
  · rw [deskPlay_bad hb he] at h
    exact absurd (Prod.mk.inj h).2 he
end Go.Tok
