/- A hall: a desk that writes down what was done, and begins again where it was; what its laws say. No program is in sight here. -/
import Derived.Test.YtidpppfimkhgkaaDeskLaw3
namespace Go.Tok
open Go.RowKit
set_option linter.unusedVariables false
theorem snocRec {α : Type} {P : List α → Prop} (h0 : P []) (h1 : ∀ l x, P l → P (l ++ [x])) : ∀ l, P l := by
  intro l
  have : ∀ r : List α, P r.reverse := by
    intro r
    induction r with
    | nil => exact h0
    | cons x r ih => rw [List.reverse_cons]; exact h1 _ _ ih
  have h := this l.reverse
  rwa [List.reverse_reverse] at h
structure HopD where
  kind : Int
  keep : Int
  op : OpD
deriving DecidableEq
instance : Inhabited HopD := ⟨⟨0, 0, default⟩⟩
def hopCells (o : HopD) : List Value := [.int .i64 o.kind, .int .i64 o.keep, .int .i64 o.op.kind, .int .i64 o.op.user, .int .i64 o.op.tran, .int .i64 o.op.item, .int .i64 o.op.to]
def hopI (o : HopD) : Prop := I64 o.kind ∧ I64 o.keep ∧ opI o.op
def hopK : Kind HopD := flat 7 hopCells hopI (fun _ => rfl) (fun o u hu => by
  simp only [hopCells, List.mem_cons, List.not_mem_nil, or_false] at hu
  rcases hu with rfl | rfl | rfl | rfl | rfl | rfl | rfl <;> rfl)
theorem Rd.hop {w : World} {a : Option Addr} {n cap : Nat} {xs : List HopD} (h : Rd hopK w (.slice a n cap) xs) {i : Nat} (hi : i < xs.length) :
    ∃ b o, a = some ⟨b, o, none⟩ ∧ w.cell? ⟨b, o + i * 7, none⟩ = some (.int .i64 (ix xs i).kind) ∧ w.cell? ⟨b, o + i * 7 + 1, none⟩ = some (.int .i64 (ix xs i).keep) ∧ w.cell? ⟨b, o + i * 7 + 2, none⟩ = some (.int .i64 (ix xs i).op.kind) ∧
      w.cell? ⟨b, o + i * 7 + 3, none⟩ = some (.int .i64 (ix xs i).op.user) ∧ w.cell? ⟨b, o + i * 7 + 4, none⟩ = some (.int .i64 (ix xs i).op.tran) ∧ w.cell? ⟨b, o + i * 7 + 5, none⟩ = some (.int .i64 (ix xs i).op.item) ∧ w.cell? ⟨b, o + i * 7 + 6, none⟩ = some (.int .i64 (ix xs i).op.to) ∧ hopI (ix xs i) := by
  obtain ⟨b, o, vs, ha, ⟨rfl, hr⟩, hc⟩ := h.at_ hi
  exact ⟨b, o, ha, hc 0 _ rfl, hc 1 _ rfl, hc 2 _ rfl, hc 3 _ rfl, hc 4 _ rfl, hc 5 _ rfl, hc 6 _ rfl, hr⟩
/-- what was done and written down, and how many bytes of it are surely there -/
structure HalD where
  done : List OpD
  sure : Nat
def zeroH : HalD := ⟨[], 0⟩
structure HalOk (h : HalD) : Prop where
  ok : allOk h.done = true
  le : h.sure ≤ 7 * h.done.length
section
variable (N : NetD) (roles : List (List Int)) (k0 : DeskD)
def hansF (h : HalD) (o : OpD) : AnsD := (deskF N roles (deskL N roles k0 h.done).1 o).2
def hdoF (h : HalD) (o : OpD) : HalD × AnsD :=
  if opOkB o = false then (h, ⟨2, 0⟩) else if (hansF N roles k0 h o).err = 0 then (⟨h.done ++ [o], h.sure⟩, hansF N roles k0 h o) else (h, hansF N roles k0 h o)
def keepN (h : HalD) (keep : Int) : Nat := h.sure + (min (max keep 0) ((7 * h.done.length : Nat) - (h.sure : Int))).toNat
def crashF (h : HalD) (keep : Int) : HalD := ⟨h.done.take (keepN h keep / 7), 7 * (keepN h keep / 7)⟩
def hallF (h : HalD) (o : HopD) : HalD × AnsD :=
  if o.kind = 1 then hdoF N roles k0 h o.op else if o.kind = 2 then (⟨h.done, 7 * h.done.length⟩, ⟨0, 0⟩) else if o.kind = 3 then (crashF h o.keep, ⟨0, 0⟩) else (h, ⟨5, 0⟩)
def hallL (ops : List HopD) : HalD × List AnsD := ops.foldl (fun s o => ((hallF N roles k0 s.1 o).1, s.2 ++ [(hallF N roles k0 s.1 o).2])) (zeroH, [])
end
theorem allOk_append {l r : List OpD} : allOk (l ++ r) = (allOk l && allOk r) := by unfold allOk; rw [List.all_append]
theorem allOk_take {l : List OpD} (h : allOk l = true) (n : Nat) : allOk (l.take n) = true := by
  unfold allOk at *
  rw [List.all_eq_true] at *
  exact fun x hx => h x (List.mem_of_mem_take hx)
section
variable {N : NetD} {roles : List (List Int)} {k0 : DeskD}
theorem keepN_le {h : HalD} (hk : HalOk h) (keep : Int) : h.sure ≤ keepN h keep ∧ keepN h keep ≤ 7 * h.done.length := by
  have := hk.le
  unfold keepN
  omega
theorem HalOk.zero : HalOk zeroH := ⟨by simp [zeroH, allOk], Nat.le_refl _⟩
theorem HalOk.crash {h : HalD} (hk : HalOk h) (keep : Int) : HalOk (crashF h keep) := by
  have := keepN_le hk keep
  exact ⟨allOk_take hk.ok _, by unfold crashF; simp only [List.length_take]; omega⟩
theorem HalOk.next {h : HalD} (hk : HalOk h) (o : HopD) : HalOk (hallF N roles k0 h o).1 := by
  unfold hallF
  split
  · unfold hdoF
    split
    · exact hk
    · rename_i h1
      have h1' : opOkB o.op = true := by cases h2 : opOkB o.op
                                         · exact absurd h2 h1
                                         · rfl
      split
      · exact ⟨by rw [allOk_append, hk.ok]; simp [allOk, h1'], by have := hk.le; simp; omega⟩
      · exact hk
  · split
    · exact ⟨hk.ok, Nat.le_refl _⟩
    · split
      · exact hk.crash _
      · exact hk
theorem hallL_snoc (ops : List HopD) (o : HopD) : hallL N roles k0 (ops ++ [o]) = ((hallF N roles k0 (hallL N roles k0 ops).1 o).1, (hallL N roles k0 ops).2 ++ [(hallF N roles k0 (hallL N roles k0 ops).1 o).2]) := by
  unfold hallL; rw [List.foldl_append]; rfl
theorem hallL_ok : ∀ ops : List HopD, HalOk (hallL N roles k0 ops).1 := by
  intro ops
  induction ops using snocRec with
  | h0 => exact HalOk.zero
  | h1 l o ih => rw [hallL_snoc]; exact ih.next o
theorem hallL_len : ∀ ops : List HopD, (hallL N roles k0 ops).2.length = ops.length := by
  intro ops
  induction ops using snocRec with
  | h0 => rfl
  | h1 l o ih => rw [hallL_snoc]; simp [ih]
theorem hallF_grow (h : HalD) (o : HopD) : (hallF N roles k0 h o).1.done.length ≤ h.done.length + 1 := by
  unfold hallF
  split
  · unfold hdoF
    split
    · simp
    · split
      · simp
      · simp
  · split
    · simp
    · split
      · unfold crashF; simp only [List.length_take]; omega
      · simp
theorem hallL_done : ∀ ops : List HopD, (hallL N roles k0 ops).1.done.length ≤ ops.length := by
  intro ops
  induction ops using snocRec with
  | h0 => exact Nat.le_refl _
  | h1 l o ih => rw [hallL_snoc]; have := hallF_grow (N := N) (roles := roles) (k0 := k0) (hallL N roles k0 l).1 o; simp; omega
end
/-- a hall played: its desk at the end, what each came to, and what is wrong -/
def hallPlay (N : NetD) (i : Int) (roles : List (List Int)) (ops : List HopD) : (DeskD × List AnsD) × Int :=
  if (beginF N i).2 ≠ 0 then ((zeroK, []), (beginF N i).2) else (((deskL N roles ⟨(beginF N i).1, []⟩ (hallL N roles ⟨(beginF N i).1, []⟩ ops).1.done).1, (hallL N roles ⟨(beginF N i).1, []⟩ ops).2), 0)
section
variable {N : NetD} {i : Int} {roles : List (List Int)} {ops : List HopD} {c : CaseD}
theorem hallPlay_bad {e : Int} (h : beginF N i = (c, e)) (he : e ≠ 0) : hallPlay N i roles ops = ((zeroK, []), e) := by unfold hallPlay; rw [h, if_pos he]
theorem hallPlay_ok (h : beginF N i = (c, 0)) : hallPlay N i roles ops = (((deskL N roles ⟨c, []⟩ (hallL N roles ⟨c, []⟩ ops).1.done).1, (hallL N roles ⟨c, []⟩ ops).2), 0) := by unfold hallPlay; rw [h, if_neg (by simp)]

/-! ### twice -/
theorem crash_twice {h : HalD} (hk : HalOk h) (keep more : Int) : crashF (crashF h keep) more = crashF h keep := by
  have h1 := keepN_le hk keep
  have hl : (crashF h keep).done.length = keepN h keep / 7 := by unfold crashF; simp only [List.length_take]; omega
  have hs : (crashF h keep).sure = 7 * (keepN h keep / 7) := rfl
  have hn : keepN (crashF h keep) more = 7 * (keepN h keep / 7) := by
    unfold keepN at *
    rw [hl, hs]
    try unfold keepN
    omega
  have : crashF (crashF h keep) more = ⟨(crashF h keep).done.take (keepN (crashF h keep) more / 7), 7 * (keepN (crashF h keep) more / 7)⟩ := rfl
  rw [this, hn, Nat.mul_div_cancel_left _ (by decide), List.take_of_length_le (by rw [hl]; exact Nat.le_refl _)]
  unfold crashF; rfl
theorem hallF_crash (k0 : DeskD) (h : HalD) (keep : Int) (o : OpD) : hallF N roles k0 h ⟨3, keep, o⟩ = (crashF h keep, ⟨0, 0⟩) := by unfold hallF; rw [if_neg (by simp), if_neg (by simp), if_pos rfl]
theorem hallF_sync (k0 : DeskD) (h : HalD) (keep : Int) (o : OpD) : hallF N roles k0 h ⟨2, keep, o⟩ = (⟨h.done, 7 * h.done.length⟩, ⟨0, 0⟩) := by unfold hallF; rw [if_neg (by simp), if_pos rfl]
theorem hallF_do (k0 : DeskD) (h : HalD) (keep : Int) (o : OpD) : hallF N roles k0 h ⟨1, keep, o⟩ = hdoF N roles k0 h o := by unfold hallF; rw [if_pos rfl]
theorem hall_twice (keep more : Int) (o o' : OpD) : (hallPlay N i roles (ops ++ [⟨3, keep, o⟩] ++ [⟨3, more, o'⟩])).1.1 = (hallPlay N i roles (ops ++ [⟨3, keep, o⟩])).1.1 ∧ (hallPlay N i roles (ops ++ [⟨3, keep, o⟩] ++ [⟨3, more, o'⟩])).2 = (hallPlay N i roles (ops ++ [⟨3, keep, o⟩])).2 := by
  rcases hb : beginF N i with ⟨c, e⟩
  by_cases he : e = 0
  · subst he
    rw [hallPlay_ok hb, hallPlay_ok hb]
    refine ⟨?_, rfl⟩
    simp only []
    rw [hallL_snoc, hallL_snoc]
    simp only []
    rw [hallF_crash, hallF_crash, crash_twice (hallL_ok ops)]
  · rw [hallPlay_bad hb he, hallPlay_bad hb he]; exact ⟨rfl, rfl⟩

/-! ### without a crash it is a desk -/
def zeroOp : OpD := ⟨0, 0, 0, 0, 0⟩
def twoOps (o : OpD) : List HopD := [⟨1, 0, o⟩, ⟨2, 0, zeroOp⟩]
def twoAns (a : AnsD) : List AnsD := [a, ⟨0, 0⟩]
def sameOps (ops : List OpD) : List HopD := ops.flatMap twoOps
theorem sameOps_snoc (l : List OpD) (o : OpD) : sameOps (l ++ [o]) = (sameOps l ++ [⟨1, 0, o⟩]) ++ [⟨2, 0, zeroOp⟩] := by unfold sameOps; rw [List.flatMap_append]; simp [twoOps]
theorem deskL_fine {c : CaseD} (l : List OpD) : DeskOk N roles (deskL N roles ⟨c, []⟩ l).1 := by
  rw [← deskTo_all]; exact deskTo_ok (DeskOk.zero N roles c) l _
theorem same_run {c : CaseD} : ∀ l : List OpD, allOk l = true → (hallL N roles ⟨c, []⟩ (sameOps l)).1.sure = 7 * (hallL N roles ⟨c, []⟩ (sameOps l)).1.done.length ∧
    (deskL N roles ⟨c, []⟩ (hallL N roles ⟨c, []⟩ (sameOps l)).1.done).1 = (deskL N roles ⟨c, []⟩ l).1 ∧ (hallL N roles ⟨c, []⟩ (sameOps l)).2 = (deskL N roles ⟨c, []⟩ l).2.flatMap twoAns := by
  intro l
  induction l using snocRec with
  | h0 => intro _; exact ⟨rfl, rfl, rfl⟩
  | h1 l o ih =>
    intro h
    rw [allOk_append, Bool.and_eq_true] at h
    have ho : opOkB o = true := by simpa [allOk] using h.2
    obtain ⟨h1, h2, h3⟩ := ih h.1
    rw [sameOps_snoc, hallL_snoc, hallL_snoc]
    simp only []
    rw [hallF_sync, hallF_do, deskL_snoc, h3]
    simp only []
    have ha : hansF N roles ⟨c, []⟩ (hallL N roles ⟨c, []⟩ (sameOps l)).1 o = (deskF N roles (deskL N roles ⟨c, []⟩ l).1 o).2 := by unfold hansF; rw [h2]
    refine ⟨trivial, ?_, ?_⟩
    · unfold hdoF
      rw [if_neg (by simp [ho]), ha]
      by_cases he : (deskF N roles (deskL N roles ⟨c, []⟩ l).1 o).2.err = 0
      · rw [if_pos he]; simp only []; rw [deskL_snoc, h2]
      · rw [if_neg he]; simp only []; rw [h2, deskF_same (deskL_fine l) he]
    · unfold hdoF
      rw [if_neg (by simp [ho]), ha, List.flatMap_append]
      split <;> simp [twoAns]
theorem flat_two (y : List AnsD) : (y.flatMap twoAns).length = 2 * y.length := by
  induction y with
  | nil => rfl
  | cons a y ih => simp only [List.flatMap_cons, List.length_append, ih, List.length_cons, twoAns, List.length_nil]; omega
theorem flat_at : ∀ (y : List AnsD) {k : Nat}, k < y.length → ∀ z, ix (y.flatMap twoAns ++ z) (2 * k) = ix y k := by
  intro y
  induction y with
  | nil => intro k h; simp at h
  | cons a y ih =>
    intro k h z
    cases k with
    | zero => rw [List.flatMap_cons]; simp only [twoAns, List.cons_append, Nat.mul_zero]; rw [ix_zero, ix_zero]
    | succ k =>
      have := ih (k := k) (by simpa using h) z
      rw [ix_succ, ← this, List.flatMap_cons]
      simp only [twoAns, List.cons_append, List.nil_append]
      rw [show 2 * (k + 1) = 2 * k + 1 + 1 by omega, ix_succ, ix_succ]
theorem crash_full (h : HalD) (hs : h.sure = 7 * h.done.length) (keep : Int) : crashF h keep = h := by
  obtain ⟨d, s⟩ := h
  simp only [] at hs
  subst hs
  unfold crashF keepN
  simp only []
  rw [show 7 * d.length + (min (max keep 0) ((7 * d.length : Nat) - ((7 * d.length : Nat) : Int))).toNat = 7 * d.length by omega, Nat.mul_div_cancel_left _ (by decide), List.take_length]
theorem hall_same {l : List OpD} (h : allOk l = true) {o' : OpD} (hb : beginF N i = (c, 0)) : hallPlay N i roles (sameOps l ++ [⟨3, 0, o'⟩]) = (((deskL N roles ⟨c, []⟩ l).1, (deskL N roles ⟨c, []⟩ l).2.flatMap twoAns ++ [⟨0, 0⟩]), 0) ∧ deskPlay N i roles l = (deskL N roles ⟨c, []⟩ l, 0) := by
  obtain ⟨h1, h2, h3⟩ := same_run (N := N) (roles := roles) (c := c) l h
  refine ⟨?_, by rw [deskPlay_ok hb, deskTo_all]⟩
  rw [hallPlay_ok hb, hallL_snoc]
  simp only []
  rw [hallF_crash, crash_full _ h1, h2, h3]

/-! ### what is sure is kept -/
def ackTo (ops : List HopD) (l : List AnsD) : Nat → List OpD
  | 0 => []
  | n + 1 => if n < l.length ∧ (ix ops n).kind = 1 ∧ (ix l n).err = 0 then ackTo ops l n ++ [(ix ops n).op] else ackTo ops l n
theorem ackTo_len (ops : List HopD) (l : List AnsD) : ∀ n, (ackTo ops l n).length ≤ n
  | 0 => by simp [ackTo]
  | n + 1 => by
    have := ackTo_len ops l n
    rw [ackTo]; split
    · simp; omega
    · omega
theorem ackTo_congr {ops ops' : List HopD} {l l' : List AnsD} : ∀ n, n ≤ l.length → n ≤ l'.length → (∀ j, j < n → ix ops j = ix ops' j ∧ ix l j = ix l' j) → ackTo ops l n = ackTo ops' l' n
  | 0, _, _, _ => rfl
  | n + 1, h1, h2, h => by
    rw [ackTo, ackTo, ackTo_congr n (by omega) (by omega) (fun j hj => h j (by omega)), (h n (by omega)).1, (h n (by omega)).2]
    by_cases hc : (ix ops' n).kind = 1 ∧ (ix l' n).err = 0
    · rw [if_pos ⟨by omega, hc⟩, if_pos ⟨by omega, hc⟩]
    · rw [if_neg (fun h => hc h.2), if_neg (fun h => hc h.2)]
theorem only_do {k0 : DeskD} (p : List HopD) : ∀ a : List HopD, (∀ o ∈ a, o.kind = 1) → ∃ r, (hallL N roles k0 (p ++ a)).2 = (hallL N roles k0 p).2 ++ r ∧ r.length = a.length ∧
    (hallL N roles k0 (p ++ a)).1.done = (hallL N roles k0 p).1.done ++ ackTo a r a.length ∧ (hallL N roles k0 (p ++ a)).1.sure = (hallL N roles k0 p).1.sure := by
  intro a
  induction a using snocRec with
  | h0 => intro _; exact ⟨[], by simp, rfl, by simp [ackTo], by simp⟩
  | h1 a o ih =>
    intro h
    obtain ⟨r, h1, h2, h3, h4⟩ := ih (fun x hx => h x (by simp [hx]))
    have ho : o.kind = 1 := h o (by simp)
    rw [← List.append_assoc, hallL_snoc]
    simp only []
    have hc : ∀ x, ackTo (a ++ [o]) (r ++ [x]) a.length = ackTo a r a.length := fun x => ackTo_congr _ (by simp; omega) (by omega) (fun j hj => ⟨ix_append_left (by omega), ix_append_left (by omega)⟩)
    have hx : ∀ x : AnsD, ix (r ++ [x]) a.length = x := fun x => by rw [← h2]; exact ix_append_one r x
    have hy : ix (a ++ [o]) a.length = o := ix_append_one a o
    refine ⟨r ++ [(hallF N roles k0 (hallL N roles k0 (p ++ a)).1 o).2], by rw [h1, List.append_assoc], by simp [h2], ?_, ?_⟩
    · rw [List.length_append, List.length_singleton, ackTo, hc, hx, hy]
      unfold hallF
      rw [if_pos ho]
      unfold hdoF
      split
      · rw [if_neg (fun h => by have := h.2.2; simp at this)]; exact h3
      · split
        · rename_i he
          rw [if_pos ⟨by simp; omega, ho, he⟩]
          simp only []
          rw [h3, List.append_assoc]
        · rename_i he
          rw [if_neg (fun h => he h.2.2)]; exact h3
    · unfold hallF
      rw [if_pos ho]
      unfold hdoF
      split
      · exact h4
      · split
        · exact h4
        · exact h4
theorem hall_kept {before after : List HopD} (h1 : ∀ o ∈ before, o.kind = 1) (h2 : ∀ o ∈ after, o.kind = 1) {l : List AnsD} {k : DeskD} {z o' : OpD} {keep : Int} (h : hallPlay N i roles ((before ++ [⟨2, 0, z⟩]) ++ after) = ((k, l), 0)) :
    l.length = before.length + 1 + after.length ∧ ∃ k', (hallPlay N i roles (((before ++ [⟨2, 0, z⟩]) ++ after) ++ [⟨3, keep, o'⟩])).1.1 = k' ∧ (hallPlay N i roles (((before ++ [⟨2, 0, z⟩]) ++ after) ++ [⟨3, keep, o'⟩])).2 = 0 ∧
      (deskPlay N i roles (ackTo before l before.length ++ (ackTo after (l.drop (before.length + 1)) after.length).take (min (max keep 0 / 7) ((ackTo after (l.drop (before.length + 1)) after.length).length : Int)).toNat)).1.1 = k' ∧
      (deskPlay N i roles (ackTo before l before.length ++ (ackTo after (l.drop (before.length + 1)) after.length).take (min (max keep 0 / 7) ((ackTo after (l.drop (before.length + 1)) after.length).length : Int)).toNat)).2 = 0 := by
  rcases hb : beginF N i with ⟨c, e⟩
  by_cases he : e = 0
  · subst he
    rw [hallPlay_ok hb] at h
    rw [hallPlay_ok hb, deskPlay_ok hb, deskTo_all]
    have hl : (hallL N roles ⟨c, []⟩ ((before ++ [⟨2, 0, z⟩]) ++ after)).2 = l := (Prod.mk.inj (Prod.mk.inj h).1).2
    obtain ⟨rb, b1, b2, b3, b4⟩ := only_do (N := N) (roles := roles) (k0 := ⟨c, []⟩) [] before h1
    obtain ⟨ra, a1, a2, a3, a4⟩ := only_do (N := N) (roles := roles) (k0 := ⟨c, []⟩) (before ++ [⟨2, 0, z⟩]) after h2
    rw [List.nil_append] at b1 b3 b4
    have e1 : (hallL N roles ⟨c, []⟩ []).2 = [] := rfl
    have e2 : (hallL N roles ⟨c, []⟩ []).1.done = [] := rfl
    rw [e1, List.nil_append] at b1
    rw [e2, List.nil_append] at b3
    rw [hallL_snoc] at a1 a3 a4
    simp only [] at a1 a3 a4
    rw [hallF_sync] at a1 a3 a4
    simp only [] at a1 a3 a4
    rw [b3] at a3 a4
    rw [b1] at a1
    rw [hl] at a1
    subst a1
    have q1 : ackTo before (rb ++ [⟨0, 0⟩] ++ ra) before.length = ackTo before rb before.length := ackTo_congr _ (by simp; omega) (by omega) (fun j hj => ⟨rfl, by rw [ix_append_left (by simp; omega), ix_append_left (by omega)]⟩)
    have q2 : (rb ++ [(⟨0, 0⟩ : AnsD)] ++ ra).drop (before.length + 1) = ra := by
      rw [show before.length + 1 = (rb ++ [(⟨0, 0⟩ : AnsD)]).length by simp [b2]]; exact List.drop_left' rfl
    rw [q1, q2]
    generalize ackTo before rb before.length = B at *
    generalize ackTo after ra after.length = A at *
    refine ⟨by simp [b2, a2]; omega, _, rfl, rfl, ?_, rfl⟩
    rw [hallL_snoc]
    simp only []
    rw [hallF_crash]
    unfold crashF keepN
    simp only []
    rw [a3, a4, List.length_append]
    have : (7 * B.length + (min (max keep 0) ((7 * (B.length + A.length) : Nat) - ((7 * B.length : Nat) : Int))).toNat) / 7 = B.length + (min (max keep 0 / 7) (A.length : Int)).toNat := by omega
    rw [this, List.take_append, Nat.add_sub_cancel_left, List.take_of_length_le (by omega : B.length ≤ B.length + _)]
  · rw [hallPlay_bad hb he] at h
    exact absurd (Prod.mk.inj h).2 he

/-! ### for the walks -/
theorem deskL_len {k : DeskD} (l : List OpD) : (deskL N roles k l).2.length = l.length := by rw [← deskTo_all]; exact deskTo_len _ _ _ _ _
theorem hall_last (hb : beginF N i = (c, 0)) (d : List OpD) (n : Nat) (o : OpD) : ∃ k l, deskPlay N i roles (d ++ [o]) = ((k, l), 0) ∧ l.length = d.length + 1 ∧ ix l d.length = hansF N roles ⟨c, []⟩ ⟨d, n⟩ o := by
  rw [deskPlay_ok hb, deskTo_all, deskL_snoc]
  refine ⟨_, _, rfl, by simp [deskL_len], ?_⟩
  have := ix_append_one (deskL N roles ⟨c, []⟩ d).2 (deskF N roles (deskL N roles ⟨c, []⟩ d).1 o).2
  rw [deskL_len] at this
  exact this
theorem hall_desk (hb : beginF N i = (c, 0)) (d : List OpD) : deskPlay N i roles d = (deskL N roles ⟨c, []⟩ d, 0) := by rw [deskPlay_ok hb, deskTo_all]
section
variable {k0 : DeskD} {h : HalD} {o : OpD}
theorem hdo_bad (h1 : opOkB o = false) : hdoF N roles k0 h o = (h, ⟨2, 0⟩) := if_pos h1
theorem hdo_no (h1 : opOkB o = true) (he : (hansF N roles k0 h o).err ≠ 0) : hdoF N roles k0 h o = (h, hansF N roles k0 h o) := by unfold hdoF; rw [if_neg (by simp [h1]), if_neg he]
theorem hdo_ok (h1 : opOkB o = true) (he : (hansF N roles k0 h o).err = 0) : hdoF N roles k0 h o = (⟨h.done ++ [o], h.sure⟩, hansF N roles k0 h o) := by unfold hdoF; rw [if_neg (by simp [h1]), if_pos he]
end
theorem wrL_flat (l : List OpD) : wrL l = l.flatMap seven := by rw [wrL_def]; unfold wrTo; rw [List.take_length]
theorem wrL_snoc (l : List OpD) (o : OpD) : wrL (l ++ [o]) = wrL l ++ seven o := by rw [wrL_flat, wrL_flat, List.flatMap_append]; simp
theorem wrL_take {l : List OpD} {k : Nat} (hk : k ≤ l.length) : (wrL l).take (7 * k) = wrL (l.take k) := by
  have h1 : wrL l = wrL (l.take k) ++ wrL (l.drop k) := by rw [wrL_flat, wrL_flat, wrL_flat, ← List.flatMap_append, List.take_append_drop]
  have h2 : (wrL (l.take k)).length = 7 * k := by rw [wrL_len, List.length_take, Nat.min_eq_left hk]
  rw [h1, ← h2]; exact List.take_left' rfl
theorem crash_at (h : HalD) (keep : Int) : crashF h keep = ⟨h.done.take (keepN h keep / 7), 7 * (keepN h keep / 7)⟩ := rfl
theorem keepN_def (h : HalD) (keep : Int) : keepN h keep = h.sure + (min (max keep 0) ((7 * h.done.length : Nat) - (h.sure : Int))).toNat := rfl
end
end Go.Tok
