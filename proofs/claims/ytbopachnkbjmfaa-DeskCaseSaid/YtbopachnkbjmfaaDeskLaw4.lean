/- What a desk's items count, and what its case comes to without people. No program is in sight here. -/
import Derived.Test.YtbopachnkbjmfaaDeskLaw3
import Derived.Test.YtbopachnkbjmfaaCases6
namespace Go.Tok
open Go.RowKit
set_option linter.unusedVariables false
theorem netOk_24 {N : NetD} (h : netOkB N = true) : N.trans.length ≤ 24 := by
  unfold netOkB at h
  simp only [Bool.and_eq_true, decide_eq_true_eq] at h
  exact h.1.2
theorem desk_begun {N : NetD} {roles : List (List Int)} {i : Int} {ops : List OpD} {k : DeskD} {l : List AnsD} (h : deskPlay N i roles ops = ((k, l), 0)) : netOkB N = true ∧ ∃ c, beginF N i = (c, 0) ∧ deskTo N roles ⟨c, []⟩ ops ops.length = (k, l) := by
  rcases hb : beginF N i with ⟨c, e⟩
  by_cases he : e = 0
  · subst he
    rw [deskPlay_ok hb] at h
    refine ⟨?_, c, rfl, (Prod.mk.inj h).1⟩
    cases ho : netOkB N
    · rw [begin_wrong ho] at hb; exact absurd (Prod.mk.inj hb).2 (by decide)
    · rfl
  · rw [deskPlay_bad hb he] at h
    exact absurd (Prod.mk.inj h).2 he
theorem one1_le (x : ItemD) (j : Nat) : 0 ≤ one1 x j ∧ one1 x j ≤ 1 := by unfold one1; split <;> omega
theorem cntI_cons (x : ItemD) (xs : List ItemD) (j : Nat) : cntI (x :: xs) j = one1 x j + cntI xs j := by simp [cntI]
theorem cntI_le (j : Nat) : ∀ xs : List ItemD, 0 ≤ cntI xs j ∧ cntI xs j ≤ xs.length
  | [] => by simp [cntI]
  | x :: xs => by
    have h := cntI_le j xs
    have h1 := one1_le x j
    rw [cntI_cons, List.length_cons]
    omega
def openTo (n : Nat) (xs : List ItemD) : List Int := (List.range n).map fun j => cntI xs j
theorem openTo_len (n : Nat) (xs : List ItemD) : (openTo n xs).length = n := by simp [openTo]
theorem openTo_nth {n : Nat} (xs : List ItemD) {j : Nat} (h : j < n) : nth (openTo n xs) j = cntI xs j := by
  rw [nth_lt (by rw [openTo_len]; exact h)]; simp [openTo]
theorem openTo_nil (n : Nat) : openTo n [] = List.replicate n 0 := by
  refine ext_nth (by simp [openTo]) fun p hp => ?_
  rw [openTo_len] at hp
  rw [openTo_nth _ hp, nth_lt (by simpa using hp)]; simp [cntI]
theorem openTo_shut {n : Nat} {xs : List ItemD} {x : ItemD} (h : x.opened = false) : openTo n (xs ++ [x]) = openTo n xs := by
  refine ext_nth (by rw [openTo_len, openTo_len]) fun p hp => ?_
  rw [openTo_len] at hp
  rw [openTo_nth _ hp, openTo_nth _ hp, cntI_snoc]
  unfold one1; rw [h]; simp
theorem openTo_hit {n : Nat} {xs : List ItemD} {x : ItemD} {j : Nat} (h : x.opened = true) (hj : x.tran = j) (hn : j < n) : openTo n (xs ++ [x]) = (openTo n xs).set j (nth (openTo n xs) j + 1) := by
  refine ext_nth (by rw [List.length_set, openTo_len, openTo_len]) fun p hp => ?_
  rw [openTo_len] at hp
  rw [openTo_nth _ hp, openTo_nth _ hn, cntI_snoc, one1_eq h hj]
  have hl := openTo_len n xs
  by_cases e : p = j
  · subst e
    rw [nth_lt (by rw [List.length_set, hl]; exact hp)]; simp
  · rw [if_neg e, nth_lt (by rw [List.length_set, hl]; exact hp), List.getElem_set_ne (by omega), ← nth_lt, openTo_nth _ hp]; omega
theorem openTo_busy {N : NetD} {k : DeskD} (h : BusyOk N k) : openTo N.trans.length k.items = k.case.busy := by
  refine ext_nth (by rw [openTo_len, h.1]) fun p hp => ?_
  rw [openTo_len] at hp
  rw [openTo_nth _ hp, h.2 p hp]

/-! ### the case without people -/
def kindOf (k : Int) : Int := if k = 1 then 2 else if k = 2 then 3 else if k = 3 then 4 else if k = 5 then 1 else 0
def copOf (k : DeskD) (o : OpD) (a : AnsD) : CopD := ⟨kindOf o.kind, if o.kind = 2 ∨ o.kind = 3 then (ix k.items a.item.toNat).tran else o.tran⟩
def doneTo (k : DeskD) (ops : List OpD) (l : List AnsD) : Nat → List CopD
  | 0 => []
  | n + 1 => if (ix l n).err ≠ 0 ∨ (ix ops n).kind = 4 then doneTo k ops l n else doneTo k ops l n ++ [copOf k (ix ops n) (ix l n)]
theorem doneTo_len (k : DeskD) (ops : List OpD) (l : List AnsD) : ∀ n, (doneTo k ops l n).length ≤ n
  | 0 => by simp [doneTo]
  | n + 1 => by
    have := doneTo_len k ops l n
    rw [doneTo]; split
    · omega
    · simp; omega
theorem deskF_fine {N : NetD} {roles : List (List Int)} {k : DeskD} {o : OpD} (hk : DeskOk N roles k) (h : (deskF N roles k o).2.err = 0) :
    (o.kind = 1 ∧ ∃ (j : Nat) (c : CaseD), o.tran = j ∧ doF N k.case 2 j = (c, 0) ∧ deskF N roles k o = (⟨c, k.items ++ [⟨o.user, (j : Int), true⟩]⟩, ⟨0, (k.items.length : Int)⟩)) ∨
    (o.kind = 4 ∧ ∃ i j : Nat, i < k.items.length ∧ (ix k.items i).tran = j ∧ deskF N roles k o = (⟨k.case, k.items.set i ⟨o.to, (j : Int), true⟩⟩, ⟨0, (i : Int)⟩)) ∨
    ((o.kind = 2 ∨ o.kind = 3) ∧ ∃ (i j : Nat) (c : CaseD), i < k.items.length ∧ (ix k.items i).tran = j ∧ doF N k.case (endOf o.kind) j = (c, 0) ∧ deskF N roles k o = (⟨c, k.items.set i ⟨(ix k.items i).user, (j : Int), false⟩⟩, ⟨0, (i : Int)⟩)) ∨
    (o.kind = 5 ∧ ∃ c : CaseD, doF N k.case 1 o.tran = (c, 0) ∧ deskF N roles k o = (⟨c, k.items⟩, ⟨0, 0⟩)) := by
  by_cases h1 : o.kind = 1
  · refine .inl ⟨h1, ?_⟩
    rcases beginK_cases N roles k o with ⟨e, h2, he⟩ | ⟨j, c, hj, hl, hm, hd, h2⟩
    · rw [deskF_begin h1 h2] at h; exact absurd h he
    · exact ⟨j, c, hj, hd, deskF_begin h1 h2⟩
  by_cases h2 : o.kind = 2 ∨ o.kind = 3 ∨ o.kind = 4
  · rcases changeK_cases hk o with ⟨e, h3, he⟩ | ⟨i, j, hi, hil, ho, hu, hj, hjl, h4⟩
    · rw [deskF_change h2 h3] at h; exact absurd h he
    · rcases h4 with ⟨h5, _, h6⟩ | ⟨h5, c, h6, h7⟩
      · exact .inr (.inl ⟨h5, i, j, hil, hj, deskF_change h2 h6⟩)
      · exact .inr (.inr (.inl ⟨by omega, i, j, c, hil, hj, h6, deskF_change h2 h7⟩))
  by_cases h3 : o.kind = 5
  · rcases h4 : doF N k.case 1 o.tran with ⟨c, e⟩
    by_cases he : e = 0
    · subst he
      exact .inr (.inr (.inr ⟨h3, c, rfl, deskF_skip h3 h4⟩))
    · rw [deskF_skipno h3 h4 he] at h; exact absurd h he
  · rw [deskF_kind (by omega)] at h; simp at h
theorem deskF_stay {N : NetD} {roles : List (List Int)} {k : DeskD} (hk : DeskOk N roles k) (o : OpD) {i : Nat} (hi : i < k.items.length) : i < (deskF N roles k o).1.items.length ∧ (ix (deskF N roles k o).1.items i).tran = (ix k.items i).tran := by
  have hset : ∀ (y : Nat) (x : ItemD), y < k.items.length → x.tran = (ix k.items y).tran → i < (k.items.set y x).length ∧ (ix (k.items.set y x) i).tran = (ix k.items i).tran := fun y x hy hx => by
    refine ⟨by simpa using hi, ?_⟩
    rw [ix_lt (by simpa using hi)]
    by_cases e : y = i
    · subst e; rw [List.getElem_set_self]; exact hx
    · rw [List.getElem_set_ne e, ← ix_lt hi]
  by_cases h : (deskF N roles k o).2.err = 0
  · rcases deskF_fine hk h with ⟨_, j, c, _, _, h2⟩ | ⟨_, y, j, hy, hj, h2⟩ | ⟨_, y, j, c, hy, hj, _, h2⟩ | ⟨_, c, _, h2⟩
    · rw [h2]; exact ⟨by simp; omega, by simp only []; rw [ix_append_left hi]⟩
    · rw [h2]; exact hset y _ hy hj.symm
    · rw [h2]; exact hset y _ hy hj.symm
    · rw [h2]; exact ⟨hi, rfl⟩
  · rw [deskF_same hk h]; exact ⟨hi, rfl⟩
theorem deskTo_stay {N : NetD} {roles : List (List Int)} {k : DeskD} (hk : DeskOk N roles k) (ops : List OpD) {n : Nat} {i : Nat} (hi : i < (deskTo N roles k ops n).1.items.length) : ∀ m, n ≤ m → i < (deskTo N roles k ops m).1.items.length ∧ (ix (deskTo N roles k ops m).1.items i).tran = (ix (deskTo N roles k ops n).1.items i).tran := by
  intro m
  induction m with
  | zero => intro h; obtain rfl : n = 0 := by omega
            exact ⟨hi, rfl⟩
  | succ m ih =>
    intro h
    by_cases e : n = m + 1
    · subst e; exact ⟨hi, rfl⟩
    · obtain ⟨h1, h2⟩ := ih (by omega)
      rw [deskTo]
      simp only []
      obtain ⟨h3, h4⟩ := deskF_stay (deskTo_ok hk ops m) (ix ops m) h1
      exact ⟨h3, h4.trans h2⟩
theorem fold_snoc (N : NetD) (c : CaseD) (D : List CopD) (x : CopD) : playTo N c (D ++ [x]) (D ++ [x]).length = playStep N (playTo N c D D.length) x := by
  unfold playTo
  rw [List.take_length, List.take_length, List.foldl_append]; rfl
section
variable {N : NetD} {roles : List (List Int)} {c : CaseD} {ops : List OpD} {k : DeskD} {l : List AnsD}
/-- what operation n came to, seen from the end -/
theorem done_at (h : deskTo N roles ⟨c, []⟩ ops ops.length = (k, l)) {n : Nat} (hn : n < ops.length) : ix l n = (deskF N roles (deskTo N roles ⟨c, []⟩ ops n).1 (ix ops n)).2 := by
  have := deskTo_nth N roles ⟨c, []⟩ ops (n := n) (m := ops.length) hn
  rw [h] at this; exact this
theorem done_kind (h : deskTo N roles ⟨c, []⟩ ops ops.length = (k, l)) {n : Nat} (hn : n < ops.length) (he : (ix l n).err = 0) :
    (ix ops n).kind = 1 ∨ (ix ops n).kind = 4 ∨ (((ix ops n).kind = 2 ∨ (ix ops n).kind = 3) ∧ ∃ i : Nat, (ix l n).item = i ∧ i < k.items.length) ∨ (ix ops n).kind = 5 := by
  have ha := done_at h hn
  rw [ha] at he
  have hok := deskTo_ok (roles := roles) (N := N) (k := ⟨c, []⟩) (DeskOk.zero _ _ _) ops n
  rcases deskF_fine hok he with ⟨h1, _⟩ | ⟨h1, _⟩ | ⟨h1, i, j, c2, hi, _, _, h2⟩ | ⟨h1, _⟩
  · exact .inl h1
  · exact .inr (.inl h1)
  · refine .inr (.inr (.inl ⟨h1, i, by rw [ha, h2], ?_⟩))
    have := (deskTo_stay (DeskOk.zero N roles c) ops hi ops.length (by omega)).1
    rw [h] at this; exact this
  · exact .inr (.inr (.inr h1))
theorem done_play (h : deskTo N roles ⟨c, []⟩ ops ops.length = (k, l)) : ∀ n, n ≤ ops.length → playTo N c (doneTo k ops l n) (doneTo k ops l n).length = ((deskTo N roles ⟨c, []⟩ ops n).1.case, List.replicate (doneTo k ops l n).length 0)
  | 0, _ => rfl
  | n + 1, hn => by
    have ih := done_play h n (by omega)
    have ha := done_at h (n := n) (by omega)
    have hok := deskTo_ok (roles := roles) (N := N) (k := ⟨c, []⟩) (DeskOk.zero _ _ _) ops n
    have hs : (deskTo N roles ⟨c, []⟩ ops (n + 1)).1 = (deskF N roles (deskTo N roles ⟨c, []⟩ ops n).1 (ix ops n)).1 := by rw [deskTo]
    rw [hs, doneTo]
    have step : ∀ c2, doF N (deskTo N roles ⟨c, []⟩ ops n).1.case (copOf k (ix ops n) (ix l n)).kind (copOf k (ix ops n) (ix l n)).tran = (c2, 0) →
        playTo N c (doneTo k ops l n ++ [copOf k (ix ops n) (ix l n)]) (doneTo k ops l n ++ [copOf k (ix ops n) (ix l n)]).length = (c2, List.replicate (doneTo k ops l n ++ [copOf k (ix ops n) (ix l n)]).length 0) := fun c2 hd => by
      rw [fold_snoc, ih]
      unfold playStep
      simp only [hd]
      rw [List.length_append, List.length_singleton, List.replicate_succ']; rfl
    by_cases he : (ix l n).err = 0
    · have he2 := he
      rw [ha] at he2
      rcases deskF_fine hok he2 with ⟨h1, j, c2, hj, hd, h2⟩ | ⟨h1, i, j, hi, _, h2⟩ | ⟨h1, i, j, c2, hi, hj, hd, h2⟩ | ⟨h1, c2, hd, h2⟩
      · rw [if_neg (by rw [he, h1]; decide), h2]
        refine step c2 ?_
        unfold copOf kindOf
        rw [h1, if_pos rfl, if_neg (by decide), hj]; exact hd
      · rw [if_pos (.inr h1), h2]; exact ih
      · rw [if_neg (by rw [he]; omega), h2]
        refine step c2 ?_
        have h3 := (deskTo_stay (DeskOk.zero N roles c) ops hi ops.length (by omega)).2
        rw [h] at h3
        unfold copOf
        simp only []
        rw [if_pos h1, ha, h2, Int.toNat_natCast, h3, hj]
        have : kindOf (ix ops n).kind = endOf (ix ops n).kind := by
          unfold kindOf endOf
          rcases h1 with e | e <;> rw [e] <;> rfl
        rw [this]; exact hd
      · rw [if_neg (by rw [he, h1]; decide), h2]
        refine step c2 ?_
        unfold copOf kindOf
        rw [h1, if_neg (by decide), if_neg (by decide), if_neg (by decide), if_pos rfl, if_neg (by decide)]; exact hd
    · rw [if_pos (.inl he), ih]
      rw [ha] at he
      rw [deskF_same hok he]
end
theorem desk_case {N : NetD} {roles : List (List Int)} {i : Int} {ops : List OpD} {k : DeskD} {l : List AnsD} (h : deskPlay N i roles ops = ((k, l), 0)) : playF N i (doneTo k ops l ops.length) = ((k.case, List.replicate (doneTo k ops l ops.length).length 0), 0) := by
  obtain ⟨_, c, hb, hd⟩ := desk_begun h
  have h1 := done_play hd ops.length (Nat.le_refl _)
  rw [hd] at h1
  rw [playF_ok hb, h1]
end Go.Tok
