/- The desk as plain data: who has which item, what is done at it, and what comes of it. No program is in sight here. -/
import Derived.Test.YtidpppfimkhgkaaPB
import Derived.Test.YtidpppfimkhgkaaCaseLaw
import Derived.Test.YtidpppfimkhgkaaCases5
namespace Go.Tok
open Go.RowKit
set_option linter.unusedVariables false
structure ItemD where
  user : Int
  tran : Int
  opened : Bool
deriving DecidableEq
instance : Inhabited ItemD := ⟨⟨0, 0, false⟩⟩
def zeroI : ItemD := ⟨0, 0, false⟩
def itemCells (x : ItemD) : List Value := [.int .i64 x.user, .int .i64 x.tran, .bool x.opened]
def itemI (x : ItemD) : Prop := I64 x.user ∧ I64 x.tran
def itemK : Kind ItemD := flat 3 itemCells itemI (fun _ => rfl) (fun o u hu => by
  simp only [itemCells, List.mem_cons, List.not_mem_nil, or_false] at hu
  rcases hu with rfl | rfl | rfl <;> rfl)
theorem Rd.item {w : World} {a : Option Addr} {n cap : Nat} {xs : List ItemD} (h : Rd itemK w (.slice a n cap) xs) {i : Nat} (hi : i < xs.length) :
    ∃ b o, a = some ⟨b, o, none⟩ ∧ w.cell? ⟨b, o + i * 3, none⟩ = some (.int .i64 (ix xs i).user) ∧ w.cell? ⟨b, o + i * 3 + 1, none⟩ = some (.int .i64 (ix xs i).tran) ∧ w.cell? ⟨b, o + i * 3 + 2, none⟩ = some (.bool (ix xs i).opened) ∧ itemI (ix xs i) := by
  obtain ⟨b, o, vs, ha, ⟨rfl, hr⟩, hc⟩ := h.at_ hi
  exact ⟨b, o, ha, hc 0 _ rfl, hc 1 _ rfl, hc 2 _ rfl, hr⟩
structure AnsD where
  err : Int
  item : Int
deriving DecidableEq
instance : Inhabited AnsD := ⟨⟨0, 0⟩⟩
def ansCells (x : AnsD) : List Value := [.int .i64 x.err, .int .i64 x.item]
def ansI (x : AnsD) : Prop := I64 x.err ∧ I64 x.item
def ansK : Kind AnsD := flat 2 ansCells ansI (fun _ => rfl) (fun o u hu => by
  simp only [ansCells, List.mem_cons, List.not_mem_nil, or_false] at hu
  rcases hu with rfl | rfl <;> rfl)
theorem Rd.ans {w : World} {a : Option Addr} {n cap : Nat} {xs : List AnsD} (h : Rd ansK w (.slice a n cap) xs) {i : Nat} (hi : i < xs.length) :
    ∃ b o, a = some ⟨b, o, none⟩ ∧ w.cell? ⟨b, o + i * 2, none⟩ = some (.int .i64 (ix xs i).err) ∧ w.cell? ⟨b, o + i * 2 + 1, none⟩ = some (.int .i64 (ix xs i).item) ∧ ansI (ix xs i) := by
  obtain ⟨b, o, vs, ha, ⟨rfl, hr⟩, hc⟩ := h.at_ hi
  exact ⟨b, o, ha, hc 0 _ rfl, hc 1 _ rfl, hr⟩
structure DeskD where
  case : CaseD
  items : List ItemD
deriving DecidableEq
def zeroK : DeskD := ⟨zeroC, []⟩

def mayF (roles : List (List Int)) (user label : Int) : Bool := decide (0 ≤ user) && decide (user < (roles.length : Int)) && decide (user < 8) && hasB (ix roles user.toNat) label
section
variable {roles : List (List Int)} {user label : Int}
theorem may_low (h : user < 0) : mayF roles user label = false := by
  unfold mayF; rw [show decide (0 ≤ user) = false by simp; omega]; rfl
theorem may_len (h : (roles.length : Int) ≤ user) : mayF roles user label = false := by
  unfold mayF; rw [show decide (user < (roles.length : Int)) = false by simp; omega]; simp
theorem may_eight (h : 8 ≤ user) : mayF roles user label = false := by
  unfold mayF; rw [show decide (user < 8) = false by simp; omega]; simp
theorem may_in {j : Nat} (h1 : j < roles.length) (h2 : j < 8) : mayF roles (j : Int) label = hasB (ix roles j) label := by
  unfold mayF; rw [show decide (0 ≤ (j : Int)) = true by simp, show decide ((j : Int) < (roles.length : Int)) = true by simp; omega, show decide ((j : Int) < 8) = true by simp; omega, Int.toNat_natCast]; rfl
theorem may_iff : mayF roles user label = true ↔ 0 ≤ user ∧ user < (roles.length : Int) ∧ user < 8 ∧ label ∈ ix roles user.toNat := by
  unfold mayF; simp only [Bool.and_eq_true, decide_eq_true_eq, hasB_iff]
  exact ⟨fun ⟨⟨⟨a, b⟩, c⟩, d⟩ => ⟨a, b, c, d⟩, fun ⟨a, b, c, d⟩ => ⟨⟨⟨a, b⟩, c⟩, d⟩⟩
end
/-- an item that a user has; or why not -/
def itemF (k : DeskD) (o : OpD) : ItemD × Int :=
  if o.item < 0 ∨ (k.items.length : Int) ≤ o.item then (zeroI, 3)
  else if (ix k.items o.item.toNat).opened = false then (zeroI, 3)
  else if (ix k.items o.item.toNat).user ≠ o.user then (zeroI, 7)
  else (ix k.items o.item.toNat, 0)
section
variable {k : DeskD} {o : OpD}
theorem item_none (h : o.item < 0 ∨ (k.items.length : Int) ≤ o.item) : itemF k o = (zeroI, 3) := if_pos h
theorem item_shut {i : Nat} (hi : o.item = i) (h : i < k.items.length) (h2 : (ix k.items i).opened = false) : itemF k o = (zeroI, 3) := by
  unfold itemF; rw [hi, Int.toNat_natCast, if_neg (by omega), if_pos h2]
theorem item_held {i : Nat} (hi : o.item = i) (h : i < k.items.length) (h2 : (ix k.items i).opened = true) (h3 : (ix k.items i).user ≠ o.user) : itemF k o = (zeroI, 7) := by
  unfold itemF; rw [hi, Int.toNat_natCast, if_neg (by omega), if_neg (by rw [h2]; decide), if_pos h3]
theorem item_ok {i : Nat} (hi : o.item = i) (h : i < k.items.length) (h2 : (ix k.items i).opened = true) (h3 : (ix k.items i).user = o.user) : itemF k o = (ix k.items i, 0) := by
  unfold itemF; rw [hi, Int.toNat_natCast, if_neg (by omega), if_neg (by rw [h2]; decide), if_neg (by rw [h3]; simp)]
theorem item_cases (k : DeskD) (o : OpD) : (∃ e, itemF k o = (zeroI, e) ∧ e ≠ 0 ∧ I64 e) ∨ ∃ i : Nat, o.item = i ∧ i < k.items.length ∧ (ix k.items i).opened = true ∧ (ix k.items i).user = o.user ∧ itemF k o = (ix k.items i, 0) := by
  by_cases h : o.item < 0 ∨ (k.items.length : Int) ≤ o.item
  · exact .inl ⟨3, item_none h, by decide, by decide⟩
  · obtain ⟨i, hi⟩ := Int.eq_ofNat_of_zero_le (show 0 ≤ o.item by omega)
    have hl : i < k.items.length := by omega
    cases h2 : (ix k.items i).opened
    · exact .inl ⟨3, item_shut hi hl h2, by decide, by decide⟩
    · by_cases h3 : (ix k.items i).user = o.user
      · exact .inr ⟨i, hi, hl, h2, h3, item_ok hi hl h2 h3⟩
      · exact .inl ⟨7, item_held hi hl h2 h3, by decide, by decide⟩
end
def beginK (N : NetD) (roles : List (List Int)) (k : DeskD) (o : OpD) : (DeskD × Int) × Int :=
  if o.tran < 0 ∨ (N.trans.length : Int) ≤ o.tran then ((k, 0), 3)
  else if mayF roles o.user (N.tr o.tran.toNat).label = false then ((k, 0), 6)
  else if (doF N k.case 2 o.tran).2 ≠ 0 then ((k, 0), (doF N k.case 2 o.tran).2)
  else ((⟨(doF N k.case 2 o.tran).1, k.items ++ [⟨o.user, o.tran, true⟩]⟩, (k.items.length : Int)), 0)
section
variable {N : NetD} {roles : List (List Int)} {k : DeskD} {o : OpD}
theorem beginK_none (h : o.tran < 0 ∨ (N.trans.length : Int) ≤ o.tran) : beginK N roles k o = ((k, 0), 3) := if_pos h
theorem beginK_role {j : Nat} (hj : o.tran = j) (h : j < N.trans.length) (h2 : mayF roles o.user (N.tr j).label = false) : beginK N roles k o = ((k, 0), 6) := by
  unfold beginK; rw [hj, Int.toNat_natCast, if_neg (by omega), if_pos h2]
theorem beginK_bad {j : Nat} {c : CaseD} {e : Int} (hj : o.tran = j) (h : j < N.trans.length) (h2 : mayF roles o.user (N.tr j).label = true) (h3 : doF N k.case 2 j = (c, e)) (he : e ≠ 0) : beginK N roles k o = ((k, 0), e) := by
  unfold beginK; rw [hj, Int.toNat_natCast, if_neg (by omega), if_neg (by rw [h2]; decide), h3, if_pos he]
theorem beginK_ok {j : Nat} {c : CaseD} (hj : o.tran = j) (h : j < N.trans.length) (h2 : mayF roles o.user (N.tr j).label = true) (h3 : doF N k.case 2 j = (c, 0)) : beginK N roles k o = ((⟨c, k.items ++ [⟨o.user, (j : Int), true⟩]⟩, (k.items.length : Int)), 0) := by
  unfold beginK; rw [hj, Int.toNat_natCast, if_neg (by omega), if_neg (by rw [h2]; decide), h3, if_neg (by simp)]
end
/-- how an item ends: done, or undone -/
def endOf (kind : Int) : Int := if kind = 3 then 4 else 3
def changeK (N : NetD) (roles : List (List Int)) (k : DeskD) (o : OpD) : (DeskD × Int) × Int :=
  if (itemF k o).2 ≠ 0 then ((k, 0), (itemF k o).2)
  else if o.kind = 4 then
    (if mayF roles o.to (N.tr (itemF k o).1.tran.toNat).label = false then ((k, 0), 6)
    else ((⟨k.case, k.items.set o.item.toNat ⟨o.to, (itemF k o).1.tran, (itemF k o).1.opened⟩⟩, o.item), 0))
  else if (doF N k.case (endOf o.kind) (itemF k o).1.tran).2 ≠ 0 then ((k, 0), (doF N k.case (endOf o.kind) (itemF k o).1.tran).2)
  else ((⟨(doF N k.case (endOf o.kind) (itemF k o).1.tran).1, k.items.set o.item.toNat ⟨(itemF k o).1.user, (itemF k o).1.tran, false⟩⟩, o.item), 0)
section
variable {N : NetD} {roles : List (List Int)} {k : DeskD} {o : OpD}
theorem changeK_bad {x : ItemD} {e : Int} (h : itemF k o = (x, e)) (he : e ≠ 0) : changeK N roles k o = ((k, 0), e) := by
  unfold changeK; rw [h, if_pos he]
theorem changeK_role {x : ItemD} {j : Nat} (h : itemF k o = (x, 0)) (hk : o.kind = 4) (hj : x.tran = j) (h2 : mayF roles o.to (N.tr j).label = false) : changeK N roles k o = ((k, 0), 6) := by
  unfold changeK; rw [h, if_neg (by simp), if_pos hk, hj, Int.toNat_natCast, if_pos h2]
theorem changeK_give {x : ItemD} {i j : Nat} (h : itemF k o = (x, 0)) (hk : o.kind = 4) (hi : o.item = i) (hj : x.tran = j) (h2 : mayF roles o.to (N.tr j).label = true) : changeK N roles k o = ((⟨k.case, k.items.set i ⟨o.to, x.tran, x.opened⟩⟩, (i : Int)), 0) := by
  unfold changeK; rw [h, if_neg (by simp), if_pos hk, hj, Int.toNat_natCast, if_neg (by rw [h2]; decide), hi, Int.toNat_natCast]
theorem changeK_fail {x : ItemD} {c : CaseD} {e : Int} (h : itemF k o = (x, 0)) (hk : o.kind ≠ 4) (h2 : doF N k.case (endOf o.kind) x.tran = (c, e)) (he : e ≠ 0) : changeK N roles k o = ((k, 0), e) := by
  unfold changeK; rw [h, if_neg (by simp), if_neg hk, h2, if_pos he]
theorem changeK_done {x : ItemD} {i : Nat} {c : CaseD} (h : itemF k o = (x, 0)) (hk : o.kind ≠ 4) (hi : o.item = i) (h2 : doF N k.case (endOf o.kind) x.tran = (c, 0)) : changeK N roles k o = ((⟨c, k.items.set i ⟨x.user, x.tran, false⟩⟩, (i : Int)), 0) := by
  unfold changeK; rw [h, if_neg (by simp), if_neg hk, h2, if_neg (by simp), hi, Int.toNat_natCast]
end
theorem endOf_undo : endOf 3 = 4 := rfl
theorem endOf_end {kind : Int} (h : kind ≠ 3) : endOf kind = 3 := if_neg h
/-- one thing at a desk -/
def deskF (N : NetD) (roles : List (List Int)) (k : DeskD) (o : OpD) : DeskD × AnsD :=
  if o.kind = 1 then ((beginK N roles k o).1.1, ⟨(beginK N roles k o).2, (beginK N roles k o).1.2⟩)
  else if o.kind = 2 ∨ o.kind = 3 ∨ o.kind = 4 then ((changeK N roles k o).1.1, ⟨(changeK N roles k o).2, (changeK N roles k o).1.2⟩)
  else if o.kind = 5 then (if (doF N k.case 1 o.tran).2 = 0 then (⟨(doF N k.case 1 o.tran).1, k.items⟩, ⟨0, 0⟩) else (k, ⟨(doF N k.case 1 o.tran).2, 0⟩))
  else (k, ⟨5, 0⟩)
section
variable {N : NetD} {roles : List (List Int)} {k : DeskD} {o : OpD}
theorem deskF_begin {r : DeskD} {n e : Int} (hk : o.kind = 1) (h : beginK N roles k o = ((r, n), e)) : deskF N roles k o = (r, ⟨e, n⟩) := by
  unfold deskF; rw [if_pos hk, h]
theorem deskF_change {r : DeskD} {n e : Int} (hk : o.kind = 2 ∨ o.kind = 3 ∨ o.kind = 4) (h : changeK N roles k o = ((r, n), e)) : deskF N roles k o = (r, ⟨e, n⟩) := by
  unfold deskF; rw [if_neg (by omega), if_pos hk, h]
theorem deskF_skip {c : CaseD} (hk : o.kind = 5) (h : doF N k.case 1 o.tran = (c, 0)) : deskF N roles k o = (⟨c, k.items⟩, ⟨0, 0⟩) := by
  unfold deskF; rw [if_neg (by omega), if_neg (by omega), if_pos hk, h, if_pos rfl]
theorem deskF_skipno {c : CaseD} {e : Int} (hk : o.kind = 5) (h : doF N k.case 1 o.tran = (c, e)) (he : e ≠ 0) : deskF N roles k o = (k, ⟨e, 0⟩) := by
  unfold deskF; rw [if_neg (by omega), if_neg (by omega), if_pos hk, h, if_neg he]
theorem deskF_kind (hk : o.kind < 1 ∨ 5 < o.kind) : deskF N roles k o = (k, ⟨5, 0⟩) := by
  unfold deskF; rw [if_neg (by omega), if_neg (by omega), if_neg (by omega)]
end
/-- the first n of the operations done, from k on -/
def deskTo (N : NetD) (roles : List (List Int)) (k : DeskD) (ops : List OpD) : Nat → DeskD × List AnsD
  | 0 => (k, [])
  | n + 1 => let r := deskF N roles (deskTo N roles k ops n).1 (ix ops n); (r.1, (deskTo N roles k ops n).2 ++ [r.2])
theorem deskTo_zero (N : NetD) (roles : List (List Int)) (k : DeskD) (ops : List OpD) : deskTo N roles k ops 0 = (k, []) := rfl
theorem deskTo_succ {N : NetD} {roles : List (List Int)} {k k1 k2 : DeskD} {ops : List OpD} {n : Nat} {l : List AnsD} {a : AnsD} (h : deskTo N roles k ops n = (k1, l)) (h2 : deskF N roles k1 (ix ops n) = (k2, a)) : deskTo N roles k ops (n + 1) = (k2, l ++ [a]) := by
  rw [deskTo, h]; simp only [h2]
theorem deskTo_len (N : NetD) (roles : List (List Int)) (k : DeskD) (ops : List OpD) : ∀ n, (deskTo N roles k ops n).2.length = n
  | 0 => rfl
  | n + 1 => by rw [deskTo]; simp [deskTo_len N roles k ops n]
def deskPlay (N : NetD) (i : Int) (roles : List (List Int)) (ops : List OpD) : (DeskD × List AnsD) × Int :=
  if (beginF N i).2 ≠ 0 then ((zeroK, []), (beginF N i).2) else (deskTo N roles ⟨(beginF N i).1, []⟩ ops ops.length, 0)
theorem deskPlay_bad {N : NetD} {i : Int} {roles : List (List Int)} {ops : List OpD} {c : CaseD} {e : Int} (h : beginF N i = (c, e)) (he : e ≠ 0) : deskPlay N i roles ops = ((zeroK, []), e) := by
  unfold deskPlay; rw [h, if_pos he]
theorem deskPlay_ok {N : NetD} {i : Int} {roles : List (List Int)} {ops : List OpD} {c : CaseD} (h : beginF N i = (c, 0)) : deskPlay N i roles ops = (deskTo N roles ⟨c, []⟩ ops ops.length, 0) := by
  unfold deskPlay; rw [h, if_neg (by simp)]
/-- what may lie at a desk: items' transitions are the net's, and somebody may do each -/
structure DeskOk (N : NetD) (roles : List (List Int)) (k : DeskD) : Prop where
  tran : ∀ x ∈ k.items, ∃ j : Nat, x.tran = j ∧ j < N.trans.length ∧ mayF roles x.user (N.tr j).label = true
theorem DeskOk.zero (N : NetD) (roles : List (List Int)) (c : CaseD) : DeskOk N roles ⟨c, []⟩ := ⟨fun x hx => by cases hx⟩
theorem beginK_cases (N : NetD) (roles : List (List Int)) (k : DeskD) (o : OpD) : (∃ e, beginK N roles k o = ((k, 0), e) ∧ e ≠ 0) ∨ ∃ (j : Nat) (c : CaseD), o.tran = j ∧ j < N.trans.length ∧ mayF roles o.user (N.tr j).label = true ∧ doF N k.case 2 j = (c, 0) ∧ beginK N roles k o = ((⟨c, k.items ++ [⟨o.user, (j : Int), true⟩]⟩, (k.items.length : Int)), 0) := by
  by_cases h : o.tran < 0 ∨ (N.trans.length : Int) ≤ o.tran
  · exact .inl ⟨3, beginK_none h, by decide⟩
  · obtain ⟨j, hj⟩ := Int.eq_ofNat_of_zero_le (show 0 ≤ o.tran by omega)
    have hl : j < N.trans.length := by omega
    cases h2 : mayF roles o.user (N.tr j).label
    · exact .inl ⟨6, beginK_role hj hl h2, by decide⟩
    · rcases h3 : doF N k.case 2 j with ⟨c, e⟩
      by_cases he : e = 0
      · subst he; exact .inr ⟨j, c, hj, hl, h2, h3, beginK_ok hj hl h2 h3⟩
      · exact .inl ⟨e, beginK_bad hj hl h2 h3 he, he⟩
theorem changeK_cases {N : NetD} {roles : List (List Int)} {k : DeskD} (hk : DeskOk N roles k) (o : OpD) : (∃ e, changeK N roles k o = ((k, 0), e) ∧ e ≠ 0) ∨ ∃ (i j : Nat), o.item = i ∧ i < k.items.length ∧ (ix k.items i).opened = true ∧ (ix k.items i).user = o.user ∧ (ix k.items i).tran = j ∧ j < N.trans.length ∧
    ((o.kind = 4 ∧ mayF roles o.to (N.tr j).label = true ∧ changeK N roles k o = ((⟨k.case, k.items.set i ⟨o.to, (j : Int), true⟩⟩, (i : Int)), 0)) ∨
     (o.kind ≠ 4 ∧ ∃ c, doF N k.case (endOf o.kind) j = (c, 0) ∧ changeK N roles k o = ((⟨c, k.items.set i ⟨(ix k.items i).user, (j : Int), false⟩⟩, (i : Int)), 0))) := by
  rcases item_cases k o with ⟨e, h1, h2, _⟩ | ⟨i, hi, hl, ho, hu, h1⟩
  · exact .inl ⟨e, changeK_bad h1 h2, h2⟩
  · obtain ⟨j, hj, hjl, hm⟩ := hk.tran _ (ix_mem hl)
    by_cases h4 : o.kind = 4
    · cases h2 : mayF roles o.to (N.tr j).label
      · exact .inl ⟨6, changeK_role h1 h4 hj h2, by decide⟩
      · exact .inr ⟨i, j, hi, hl, ho, hu, hj, hjl, .inl ⟨h4, h2, by rw [changeK_give h1 h4 hi hj h2, ho, hj]⟩⟩
    · rcases h3 : doF N k.case (endOf o.kind) j with ⟨c, e⟩
      by_cases he : e = 0
      · subst he
        refine .inr ⟨i, j, hi, hl, ho, hu, hj, hjl, .inr ⟨h4, c, h3, ?_⟩⟩
        rw [changeK_done h1 h4 hi (by rw [hj]; exact h3), hj]
      · exact .inl ⟨e, changeK_fail h1 h4 (by rw [hj]; exact h3) he, he⟩
theorem DeskOk.set {N : NetD} {roles : List (List Int)} {k : DeskD} {c : CaseD} (hk : DeskOk N roles k) {i j : Nat} {u : Int} {b : Bool} (hj : j < N.trans.length) (hm : mayF roles u (N.tr j).label = true) : DeskOk N roles ⟨c, k.items.set i ⟨u, (j : Int), b⟩⟩ := by
  refine ⟨fun x hx => ?_⟩
  rcases List.mem_or_eq_of_mem_set hx with h | h
  · exact hk.tran x h
  · rw [h]; exact ⟨j, rfl, hj, hm⟩
theorem DeskOk.next {N : NetD} {roles : List (List Int)} {k : DeskD} (hk : DeskOk N roles k) (o : OpD) : DeskOk N roles (deskF N roles k o).1 := by
  by_cases h1 : o.kind = 1
  · rcases beginK_cases N roles k o with ⟨e, h, _⟩ | ⟨j, c, hj, hl, hm, _, h⟩
    · rw [deskF_begin h1 h]; exact hk
    · rw [deskF_begin h1 h]
      refine ⟨fun x hx => ?_⟩
      rcases List.mem_append.1 hx with h2 | h2
      · exact hk.tran x h2
      · rw [List.mem_singleton.1 h2]; exact ⟨j, rfl, hl, hm⟩
  · by_cases h2 : o.kind = 2 ∨ o.kind = 3 ∨ o.kind = 4
    · rcases changeK_cases hk o with ⟨e, h, _⟩ | ⟨i, j, hi, hl, ho, hu, hj, hjl, ⟨_, hm, h⟩ | ⟨_, c, _, h⟩⟩
      · rw [deskF_change h2 h]; exact hk
      · rw [deskF_change h2 h]; exact hk.set hjl hm
      · rw [deskF_change h2 h]
        obtain ⟨j', hj', _, hm⟩ := hk.tran _ (ix_mem hl)
        obtain rfl : j' = j := by omega
        exact hk.set hjl hm
    · by_cases h3 : o.kind = 5
      · rcases h4 : doF N k.case 1 o.tran with ⟨c, e⟩
        by_cases he : e = 0
        · subst he; rw [deskF_skip h3 h4]; exact ⟨hk.tran⟩
        · rw [deskF_skipno h3 h4 he]; exact hk
      · rw [deskF_kind (by omega)]; exact hk
theorem deskTo_ok {N : NetD} {roles : List (List Int)} {k : DeskD} (hk : DeskOk N roles k) (ops : List OpD) : ∀ n, DeskOk N roles (deskTo N roles k ops n).1
  | 0 => hk
  | n + 1 => by rw [deskTo]; exact (deskTo_ok hk ops n).next _
end Go.Tok
