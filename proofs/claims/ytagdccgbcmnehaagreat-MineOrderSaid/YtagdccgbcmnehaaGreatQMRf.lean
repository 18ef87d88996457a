/- Texts of one family, joined; what the claim does not need is left out. -/
import Derived.Test.YtagdccgbcmnehaaGreatQMRe
import Derived.Test.YtagdccgbcmnehaaGreatQMRa
import Derived.Test.YtagdccgbcmnehaaGreatQMRb
import Derived.Test.YtagdccgbcmnehaaGreatQMRd
namespace Go.Tok
open Go.RowKit
set_option linter.unusedVariables false
theorem OnlyAt.gr {b : Nat} {w0 w w' : World} (g : Gr w0 w) (h : w.grownBy w' (some b)) (hb : w0.heap.size ≤ b) : Gr w0 w' := g.grown h fun k hk => by cases hk; exact hb
theorem perm_step {α : Type} {xs l1 l2 l : List α} {x : α} (h : (xs ++ (l1 ++ x :: l2)).Perm l) : ((xs ++ [x]) ++ (l1 ++ l2)).Perm l := by
  refine List.Perm.trans ?_ h
  rw [List.append_assoc]
  exact List.Perm.append_left _ (List.perm_middle (l₁ := l1) (l₂ := l2) (a := x)).symm
theorem OwnI.apart {e base : Nat} {w : World} {v : Value} {xs : List Int} (h : OwnI e base w v xs) {k : Nat} (hk : k < base) : v.ownBlock = none ∨ v.ownBlock ≠ some k := by
  by_cases hn : v.ownBlock = none
  · exact .inl hn
  · obtain ⟨q, hq⟩ := Option.ne_none_iff_exists'.1 hn
    have := (h.lt hq).1
    exact .inr (by rw [hq]; intro e; cases e; omega)
theorem OwnR.apart {α : Type} {K : Kind α} {e base : Nat} {S : Nat → Prop} {w : World} {v : Value} {xs : List α} (h : OwnR K e base S w v xs) {k : Nat} (hk : k < base) : v.ownBlock = none ∨ v.ownBlock ≠ some k := by
  by_cases hn : v.ownBlock = none
  · exact .inl hn
  · obtain ⟨q, hq⟩ := Option.ne_none_iff_exists'.1 hn
    have := (h.lt hq).1
    exact .inr (by rw [hq]; intro e; cases e; omega)
theorem sortI_nil : sortI [] = [] := List.perm_nil.1 (sortI_perm [])
theorem sortP_nil : sortP [] = [] := List.perm_nil.1 (sortP_perm [])
theorem map_split {α β : Type} {f : α → β} {l : List α} {l1 l2 : List β} {x : β} (h : l.map f = l1 ++ x :: l2) : ∃ m1 y m2, l = m1 ++ y :: m2 ∧ m1.map f = l1 ∧ f y = x ∧ m2.map f = l2 := by
  obtain ⟨m1, m3, rfl, h1, h2⟩ := List.map_eq_append_iff.1 h
  obtain ⟨y, m2, rfl, h3, h4⟩ := List.map_eq_cons_iff.1 h2
  exact ⟨m1, y, m2, rfl, h1, h3, h4⟩
end Go.Tok
namespace Go.Proofs.YtagdccgbcmnehaaGreat
open Go.RowKit Go.Tok
set_option linter.unusedVariables false
def sent {α : Type} (enc : α → Value) (l : List α) : List (Value × Value) := l.map fun x => (enc x, .agg #[])
theorem sent_def {α : Type} (enc : α → Value) (l : List α) : sent enc l = l.map fun x => (enc x, .agg #[]) := rfl
theorem _root_.Go.Tok.SetAt.sent {α : Type} {P : Program} {k : TypeId} {enc : α → Value} {w : World} {b : Nat} {l : List α} (h : SetAt P k enc w b l) : MAt P k w b (sent enc l) := by unfold SetAt at h; exact h
attribute [irreducible] sent
theorem sent_split {α : Type} {enc : α → Value} {l : List α} {l1 l2 : List (Value × Value)} {x : Value × Value} (h : sent enc l = l1 ++ x :: l2) : ∃ m1 y m2, l = m1 ++ y :: m2 ∧ sent enc (m1 ++ m2) = l1 ++ l2 ∧ x = (enc y, .agg #[]) := by
  rw [sent_def] at h
  obtain ⟨m1, y, m2, rfl, h1, h2, h3⟩ := map_split h
  exact ⟨m1, y, m2, rfl, by rw [sent_def, List.map_append, h1, h3], h2.symm⟩
theorem sent_nil {α : Type} {enc : α → Value} {l : List α} (h : sent enc l = []) : l = [] := by
  rw [sent_def] at h
  exact List.map_eq_nil_iff.1 h
set_option maxHeartbeats 2000000 in
theorem sortedI_calls (b : Nat) (l : List Int) (w : World) (h : ISet w b l) (hx : ∀ x ∈ l, 0 ≤ x ∧ x ≤ 1000000) (hl : l.length ≤ 100000) :
    Calls Tryz.prog 58 #[.map (some b), .func (.func 59) #[] #[]] w fun e w' => ∃ v, e = .returned v ∧ OwnI 3 w.heap.size w' v (sortI l) ∧ Gr w w' := by
  obtain ⟨o, hrun, hR0⟩ := Rng.start (t := 122) Tryz.underlying122 h.sent
  have hbl := h.lt
  have G0 : Gr w (w.alloc o) := (Gr.refl _).alloc _
  have HX := Lib.hid hx
  clear h hx
  go_enter Tryz.func58, Tryz.ntmps58
  go_wp2_with fail
  go_loopw [5] (fun u wr => ∃ xs todo, Rng Tryz.prog 3 wr b w.heap.size (sent (Value.int .i64) l) (sent (Value.int .i64) todo) ∧ OwnI 3 (w.heap.size + 1) wr u xs ∧ (xs ++ todo).Perm l ∧ Gr w wr) (fun _ wr => wr.rangeLeft b w.heap.size)
  case atStart => exact ⟨[], l, hR0, OwnI.nil _ _ _, by simp, G0⟩
  case round =>
    rename World => wr
    obtain ⟨xs, todo, hR, ho, hp, hgr⟩ := hrel
    have hxl : xs.length + todo.length = l.length := by rw [← hp.length_eq, List.length_append]
    have hrl := hR.lt
    rcases hR.next 0 with ⟨hz, en⟩ | ⟨l1, kv, l2, w2, hz, en, hg2, hR2, een⟩
    · obtain rfl := sent_nil hz
      rw [List.append_nil] at hp
      have HP := Lib.hid hp
      have hgr' := Lib.hid hgr
      obtain hf := ho.form
      rcases hf with ⟨rfl, rfl⟩ | ⟨g, cap, rfl, hg1, hg2, hg3, hg4⟩
      · have HZ := Lib.hid (show sortI l = [] by rw [List.nil_perm.1 HP.out]; exact sortI_nil)
        clear hp hxl hR hR0
        go_wp2_with fail
        refine (Tryz.slices_SortFunc_none_f116 (α := Int) none 0 _ _).mono ?_
        rintro _ _ ⟨rfl, rfl⟩
        go_wp2_with fail
        go_ret
        exact ⟨_, rfl, by rw [HZ.out]; exact OwnI.nil _ _ _, hgr'.out⟩
      · have hpos := Lib.hid hxl
        by_cases h0 : 0 < xs.length
        · have HS := Lib.hid (show sortI xs = sortI l from sortI_is (HP.out.symm.trans (List.Perm.refl _) |>.symm |> fun h => (sortI_perm l).trans h.symm) (sortI_sorted l))
          have hxs : ∀ x ∈ xs, 0 ≤ x ∧ x ≤ 1000000 := fun x hx => HX.out x (HP.out.mem_iff.1 hx)
          have hl6 : xs.length ≤ 1000000 := by have := hpos.out; simp at this; omega
          clear hp hxl hR hR0 hgr
          go_wp2_with fail
          refine (SortFuncI_calls g cap _ xs _ ho h0 hl6 hxs).mono ?_
          rintro _ w3 ⟨rfl, ho3, g3⟩
          go_wp2_with fail
          go_ret
          refine ⟨_, rfl, ?_, hgr'.out.grown g3 fun k hk => by cases hk; omega⟩
          rw [← HS.out]
          exact ho3.low (by omega)
        · obtain rfl : xs = [] := List.eq_nil_of_length_eq_zero (by omega)
          have HZ := Lib.hid (show sortI l = [] by rw [List.nil_perm.1 HP.out]; exact sortI_nil)
          have ho' := ho.low (show w.heap.size ≤ w.heap.size + 1 by omega)
          simp only [List.length_nil] at ho' hg3
          clear hp hxl hR hR0 h0 hpos
          go_wp2_with fail
          refine (Tryz.slices_SortFunc_none_f116 (α := Int) (some ⟨g, 0, none⟩) cap _ _).mono ?_
          rintro _ _ ⟨rfl, rfl⟩
          go_wp2_with fail
          go_ret
          exact ⟨_, rfl, by rw [HZ.out]; exact ho', hgr'.out⟩
    · obtain ⟨m1, x, m2, rfl, e2, rfl⟩ := sent_split hz
      have HP := Lib.hid (perm_step hp)
      have hxI : I64 x := by
        have := HX.out x (hp.mem_iff.1 (by simp))
        unfold I64; omega
      have ho2 := ho.grown hg2 (ho.apart (by omega))
      dsimp only at en een
      have hgr2 := OnlyAt.gr hgr hg2 (Nat.le_refl _)
      have hsz : w.heap.size + 1 ≤ w2.heap.size := by have := hg2.size; omega
      have hxl' : xs.length + 1 ≤ 100001 := by simp at hxl; omega
      have e1 : wr.rangeLeft b w.heap.size = m1.length + m2.length + 1 := by rw [hR.left_eq, sent_def]; simp; omega
      have e3 : (l1 ++ l2).length = m1.length + m2.length := by rw [← e2, sent_def]; simp
      have E1 := Lib.hid e1
      have E2 := Lib.hid e2
      have E3 := Lib.hid e3
      clear hp hxl hR hR0 ho hgr e1 e2 e3 hz hg2
      obtain ⟨ua, uc, rfl, _, _⟩ := ho2.ints.len
      go_wp2_with (at_builtin; go_loud (refine app_int intTy _ _ (w.heap.size + 1) _ xs ⟨w2.heap.size, 0, none⟩ x (by rfl) (by rfl) (by rfl) (by rfl) (ho2.alloc _) (lit_cell rfl) hxI (by omega) (by simp; omega) ?_; intro v' w3 ho3 hgs hgb hat))
      have hne : some b ≠ (Value.slice ua xs.length uc).ownBlock := fun e => by
        have := (ho2.lt e.symm).1; omega
      have hne2 : some w.heap.size ≠ (Value.slice ua xs.length uc).ownBlock := fun e => by
        have := (ho2.lt e.symm).1; omega
      have hR3 := (hR2.gr ((Gr.refl _).alloc (.cells #[.int .i64 x] 3))).grown hgb hne hne2
      go_roundw
      case rel => exact ⟨xs ++ [x], m1 ++ m2, by rw [E2.out]; exact hR3, ho3, HP.out, hgs w (by omega) (hgr2.alloc _)⟩
      case measure =>
        rw [E1.out, hR3.left_eq, E3.out]; omega
set_option maxRecDepth 100000 in
set_option maxHeartbeats 2000000 in
theorem sortedP_calls (b : Nat) (l : List (Int × Int)) (w : World) (h : PSet w b l) (hx : ∀ x ∈ l, pairI x) (hl : l.length ≤ 100000) :
    Calls Tryz.prog 60 #[.map (some b), .func (.func 61) #[] #[]] w fun e w' => ∃ v, e = .returned v ∧ OwnR pairK 127 w.heap.size NoS w' v (sortP l) ∧ Gr w w' := by
  obtain ⟨o, hrun, hR0⟩ := Rng.start (t := 124) Tryz.underlying124 h.sent
  have hbl := h.lt
  have G0 : Gr w (w.alloc o) := (Gr.refl _).alloc _
  have HX := Lib.hid hx
  clear h hx
  go_enter Tryz.func60, Tryz.ntmps60
  go_wp2_with fail
  go_loopw [5] (fun u wr => ∃ xs todo, Rng Tryz.prog 127 wr b w.heap.size (sent pairV l) (sent pairV todo) ∧ OwnR pairK 127 (w.heap.size + 1) NoS wr u xs ∧ (xs ++ todo).Perm l ∧ Gr w wr) (fun _ wr => wr.rangeLeft b w.heap.size)
  case atStart => exact ⟨[], l, hR0, OwnR.nil _ _ _ _, by simp, G0⟩
  case round =>
    rename World => wr
    obtain ⟨xs, todo, hR, ho, hp, hgr⟩ := hrel
    have hxl : xs.length + todo.length = l.length := by rw [← hp.length_eq, List.length_append]
    have hrl := hR.lt
    rcases hR.next 0 with ⟨hz, en⟩ | ⟨l1, kv, l2, w2, hz, en, hg2, hR2, een⟩
    · obtain rfl := sent_nil hz
      rw [List.append_nil] at hp
      have HP := Lib.hid hp
      have hgr' := Lib.hid hgr
      obtain hf := ho.form
      rcases hf with ⟨rfl, rfl⟩ | ⟨g, cap, rfl, hg1, hg2, hg3, hg4⟩
      · have HZ := Lib.hid (show sortP l = [] by rw [List.nil_perm.1 HP.out]; exact sortP_nil)
        clear hp hxl hR hR0
        go_wp2_with fail
        refine (Tryz.slices_SortFunc_none_f117 (α := Int × Int) none 0 _ _).mono ?_
        rintro _ _ ⟨rfl, rfl⟩
        go_wp2_with fail
        go_ret
        exact ⟨_, rfl, by rw [HZ.out]; exact OwnR.nil _ _ _ _, hgr'.out⟩
      · have hpos := Lib.hid hxl
        by_cases h0 : 0 < xs.length
        · have HS := Lib.hid (show sortP xs = sortP l from sortP_is (HP.out.symm.trans (List.Perm.refl _) |>.symm |> fun h => (sortP_perm l).trans h.symm) (sortP_sorted l))
          have hl6 : xs.length ≤ 1000000 := by have := hpos.out; simp at this; omega
          clear hp hxl hR hR0 hgr
          go_wp2_with fail
          refine (SortFuncP_calls 61 (Go.Proofs.enters_of Tryz.func61 (by kernel_rfl) rfl) (fun a b ha hb w => pair_calls a b ha hb w) g cap _ NoS xs _ ho h0 hl6).mono ?_
          rintro _ w3 ⟨rfl, ho3, g3⟩
          go_wp2_with fail
          go_ret
          refine ⟨_, rfl, ?_, hgr'.out.grown g3 fun k hk => by cases hk; omega⟩
          rw [← HS.out]
          exact ho3.low (by omega)
        · obtain rfl : xs = [] := List.eq_nil_of_length_eq_zero (by omega)
          have HZ := Lib.hid (show sortP l = [] by rw [List.nil_perm.1 HP.out]; exact sortP_nil)
          have ho' := ho.low (show w.heap.size ≤ w.heap.size + 1 by omega)
          simp only [List.length_nil] at ho' hg3
          clear hp hxl hR hR0 h0 hpos
          go_wp2_with fail
          refine (Tryz.slices_SortFunc_none_f117 (α := Int × Int) (some ⟨g, 0, none⟩) cap _ _).mono ?_
          rintro _ _ ⟨rfl, rfl⟩
          go_wp2_with fail
          go_ret
          exact ⟨_, rfl, by rw [HZ.out]; exact ho', hgr'.out⟩
    · obtain ⟨m1, x, m2, rfl, e2, rfl⟩ := sent_split hz
      have HP := Lib.hid (perm_step hp)
      have hxI : pairI x := HX.out x (hp.mem_iff.1 (by simp))
      have ho2 := ho.kept hg2 (ho.apart (by omega)) (S' := NoS) (fun b _ hb => absurd hb (fun h => h))
      dsimp only at en een
      unfold pairV at en een
      have hgr2 := OnlyAt.gr hgr hg2 (Nat.le_refl _)
      have hsz : w.heap.size + 1 ≤ w2.heap.size := by have := hg2.size; omega
      have hxl' : xs.length + 1 ≤ 100001 := by simp at hxl; omega
      have e1 : wr.rangeLeft b w.heap.size = m1.length + m2.length + 1 := by rw [hR.left_eq, sent_def]; simp; omega
      have e3 : (l1 ++ l2).length = m1.length + m2.length := by rw [← e2, sent_def]; simp
      have E1 := Lib.hid e1
      have E2 := Lib.hid e2
      have E3 := Lib.hid e3
      clear hp hxl hR hR0 ho hgr e1 e2 e3 hz hg2
      obtain ⟨ua, uc, rfl, _, _⟩ := ho2.len
      have GB : Gr w2 ((w2.alloc (.cells #[.int .i64 x.1, .int .i64 x.2] 127)).alloc (.cells #[.int .i64 x.1, .int .i64 x.2] 127)) := ((Gr.refl _).alloc _).alloc _
      go_wp2_with (at_builtin; go_loud (refine app_one pairTy _ _ (w.heap.size + 1) NoS _ xs ⟨w2.heap.size + 1, 0, none⟩ x [.int .i64 x.1, .int .i64 x.2] (by rfl) (by rfl) (by rfl) (by rfl) (ho2.gr GB) (lit_cellsH (by simp)) (On.true (p := [Value.int .i64 x.1, .int .i64 x.2] = pairCells x ∧ pairI x) ⟨rfl, hxI⟩) (by omega) (by unfold maxLen; omega) (by simp; omega) ?_; intro v' w3 ho3 hgs hgb hat))
      have hne : some b ≠ (Value.slice ua xs.length uc).ownBlock := fun e => by
        have := (ho2.lt e.symm).1; omega
      have hne2 : some w.heap.size ≠ (Value.slice ua xs.length uc).ownBlock := fun e => by
        have := (ho2.lt e.symm).1; omega
      have hR3 := (hR2.gr GB).grown hgb hne hne2
      go_roundw
      case rel => exact ⟨xs ++ [x], m1 ++ m2, by rw [E2.out]; exact hR3, ho3, HP.out, hgs w (by omega) (hgr2.trans GB)⟩
      case measure =>
        rw [E1.out, hR3.left_eq, E3.out]; omega
end Go.Proofs.YtagdccgbcmnehaaGreat

namespace Go.Tok
open Go.RowKit
set_option linter.unusedVariables false
theorem trace_ok {log : List (List Int)} (h : wrongT log = 0) : log.length ≤ 60 ∧ ∀ t ∈ log, t.length ≤ 60 ∧ ∀ x ∈ t, 1 ≤ x ∧ x ≤ 26 := by
  unfold wrongT at h
  by_cases h1 : 60 < log.length
  · rw [if_pos h1] at h; cases h
  · rw [if_neg h1] at h
    refine ⟨by omega, fun t ht => ?_⟩
    cases h2 : log.any traceBad with
    | true => rw [h2] at h; cases h
    | false =>
      have h3 := List.any_eq_false.1 h2 t ht
      unfold traceBad at h3
      simp only [Bool.or_eq_true, decide_eq_true_eq, List.any_eq_true, not_or, not_exists, not_and] at h3
      refine ⟨by omega, fun x hx => ?_⟩
      have := h3.2 x hx
      omega
theorem trace_at {log : List (List Int)} (h : wrongT log = 0) {k j : Nat} (hk : k < log.length) (hj : j < (ix log k).length) : 1 ≤ nth (ix log k) j ∧ nth (ix log k) j ≤ 26 := by
  rw [nth_lt hj]
  exact ((trace_ok h).2 _ (ix_mem hk)).2 _ (List.getElem_mem hj)
/-- all that is collected is a label -/
def Labs (s : TrkD) : Prop := (∀ x ∈ s.all, 1 ≤ x ∧ x ≤ 26) ∧ (∀ x ∈ s.first, 1 ≤ x ∧ x ≤ 26) ∧ (∀ x ∈ s.last, 1 ≤ x ∧ x ≤ 26) ∧ ∀ x ∈ s.behind, (1 ≤ x.1 ∧ x.1 ≤ 26) ∧ 1 ≤ x.2 ∧ x.2 ≤ 26
theorem labs_log {log : List (List Int)} (h : wrongT log = 0) : Labs (trkLog log) := by
  obtain ⟨h1, h2, h3, h4⟩ := shows_log log
  have key : ∀ t ∈ log, ∀ j, j < t.length → 1 ≤ nth t j ∧ nth t j ≤ 26 := fun t ht j hj => by
    rw [nth_lt hj]; exact ((trace_ok h).2 t ht).2 _ (List.getElem_mem hj)
  refine ⟨fun x hx => ?_, fun x hx => ?_, fun x hx => ?_, fun x hx => ?_⟩
  · obtain ⟨t, ht, j, hj, rfl⟩ := (h1 x).1 hx; exact key t ht j hj
  · obtain ⟨t, ht, hj, rfl⟩ := (h2 x).1 hx; exact key t ht 0 hj
  · obtain ⟨t, ht, j, hj, rfl⟩ := (h3 x).1 hx; exact key t ht j (by omega)
  · obtain ⟨t, ht, j, hj, rfl⟩ := (h4 x).1 hx; exact ⟨key t ht j (by omega), key t ht (j + 1) hj⟩
/-- a row of different labels is short -/
theorem labs_short {l : List Int} (hn : l.Nodup) (h : ∀ x ∈ l, 1 ≤ x ∧ x ≤ 26) : l.length ≤ 26 := by
  have hs : l ⊆ (List.range 26).map fun i : Nat => (i : Int) + 1 := fun x hx => by
    have := h x hx
    exact List.mem_map.2 ⟨(x - 1).toNat, by simp; omega, by omega⟩
  have := nodup_sub _ _ hn hs
  simpa using this
theorem pairs_short {l : List (Int × Int)} (hn : l.Nodup) (h : ∀ x ∈ l, (1 ≤ x.1 ∧ x.1 ≤ 26) ∧ 1 ≤ x.2 ∧ x.2 ≤ 26) : l.length ≤ 676 := by
  have hs : l ⊆ (List.range 676).map fun i : Nat => (((i / 26 : Nat) : Int) + 1, ((i % 26 : Nat) : Int) + 1) := fun x hx => by
    have := h x hx
    refine List.mem_map.2 ⟨(x.1 - 1).toNat * 26 + (x.2 - 1).toNat, by simp; omega, ?_⟩
    apply Prod.ext
    · simp; omega
    · simp; omega
  have := nodup_sub _ _ hn hs
  simpa using this
end Go.Tok
namespace Go.Proofs.YtagdccgbcmnehaaGreat
open Go.RowKit Go.Tok
set_option linter.unusedVariables false
structure Sets (w0 w : World) (b : Nat) (A F L : List Int) (B : List (Int × Int)) : Prop where
  a : ISet w b A
  f : ISet w (b + 1) F
  l : ISet w (b + 2) L
  p : PSet w (b + 3) B
  g : Gr w0 w
  le : w0.heap.size ≤ b
section
variable {w0 w w' : World} {b : Nat} {A F L : List Int} {B : List (Int × Int)}
theorem Sets.setA {A' : List Int} (h : Sets w0 w b A F L B) (g : w.grownBy w' (some b)) (h' : ISet w' b A') : Sets w0 w' b A' F L B :=
  ⟨h', h.f.grown g (by simp), h.l.grown g (by simp), h.p.grown g (by simp), OnlyAt.gr h.g g h.le, h.le⟩
theorem Sets.setF {F' : List Int} (h : Sets w0 w b A F L B) (g : w.grownBy w' (some (b + 1))) (h' : ISet w' (b + 1) F') : Sets w0 w' b A F' L B :=
  ⟨h.a.grown g (by simp), h', h.l.grown g (by simp), h.p.grown g (by simp), OnlyAt.gr h.g g (by have := h.le; omega), h.le⟩
theorem Sets.setL {L' : List Int} (h : Sets w0 w b A F L B) (g : w.grownBy w' (some (b + 2))) (h' : ISet w' (b + 2) L') : Sets w0 w' b A F L' B :=
  ⟨h.a.grown g (by simp), h.f.grown g (by simp), h', h.p.grown g (by simp), OnlyAt.gr h.g g (by have := h.le; omega), h.le⟩
theorem Sets.setB {B' : List (Int × Int)} (h : Sets w0 w b A F L B) (g : w.grownBy w' (some (b + 3))) (h' : PSet w' (b + 3) B') : Sets w0 w' b A F L B' :=
  ⟨h.a.grown g (by simp), h.f.grown g (by simp), h.l.grown g (by simp), h', OnlyAt.gr h.g g (by have := h.le; omega), h.le⟩
theorem Sets.gr (h : Sets w0 w b A F L B) (g : Gr w w') : Sets w0 w' b A F L B := ⟨h.a.gr g, h.f.gr g, h.l.gr g, h.p.gr g, h.g.trans g, h.le⟩
theorem Sets.new (w : World) : Sets w ((((w.alloc (.map #[] 0)).alloc (.map #[] 0)).alloc (.map #[] 0)).alloc (.map #[] 0)) w.heap.size [] [] [] [] := by
  have g1 : Gr w (w.alloc (.map #[] 0)) := (Gr.refl _).alloc _
  have g2 : Gr (w.alloc (.map #[] 0)) ((w.alloc (.map #[] 0)).alloc (.map #[] 0)) := (Gr.refl _).alloc _
  have g3 : Gr ((w.alloc (.map #[] 0)).alloc (.map #[] 0)) (((w.alloc (.map #[] 0)).alloc (.map #[] 0)).alloc (.map #[] 0)) := (Gr.refl _).alloc _
  have g4 : Gr (((w.alloc (.map #[] 0)).alloc (.map #[] 0)).alloc (.map #[] 0)) ((((w.alloc (.map #[] 0)).alloc (.map #[] 0)).alloc (.map #[] 0)).alloc (.map #[] 0)) := (Gr.refl _).alloc _
  have s1 := SetAt.new (P := Tryz.prog) (k := 3) (enc := Value.int .i64) w
  have s2 := SetAt.new (P := Tryz.prog) (k := 3) (enc := Value.int .i64) (w.alloc (.map #[] 0))
  have s3 := SetAt.new (P := Tryz.prog) (k := 3) (enc := Value.int .i64) ((w.alloc (.map #[] 0)).alloc (.map #[] 0))
  have s4 := SetAt.new (P := Tryz.prog) (k := 127) (enc := pairV) (((w.alloc (.map #[] 0)).alloc (.map #[] 0)).alloc (.map #[] 0))
  have e2 : (w.alloc (.map #[] 0)).heap.size = w.heap.size + 1 := by simp
  have e3 : ((w.alloc (.map #[] 0)).alloc (.map #[] 0)).heap.size = w.heap.size + 2 := by simp
  have e4 : (((w.alloc (.map #[] 0)).alloc (.map #[] 0)).alloc (.map #[] 0)).heap.size = w.heap.size + 3 := by simp
  rw [e2] at s2
  rw [e3] at s3
  rw [e4] at s4
  exact ⟨s1.gr (g2.trans (g3.trans g4)), s2.gr (g3.trans g4), s3.gr g4, s4, g1.trans (g2.trans (g3.trans g4)), Nat.le_refl _⟩
end
/-- what Of hands back -/
def RetPr (w : World) (r : PrintD × Int) (e : Ending) (w' : World) : Prop :=
  ∃ v1 v2 v3 v4, e = .returned (.tuple #[.agg #[v1, v2, v3, v4], .int .i64 r.2]) ∧ OwnI 3 w.heap.size w' v1 r.1.labels ∧ OwnI 3 w.heap.size w' v2 r.1.first ∧ OwnI 3 w.heap.size w' v3 r.1.last ∧ OwnR pairK 127 w.heap.size NoS w' v4 r.1.behind ∧ Gr w w'
abbrev SetsT (w0 w : World) (b : Nat) (s : TrkD) : Prop := Sets w0 w b s.all s.first s.last s.behind
theorem trkStep_all (t : List Int) (s : TrkD) (j : Nat) : (trkStep t s j).all = ins s.all (nth t j) := rfl
theorem trkStep_00 {t : List Int} {s : TrkD} (h : 0 + 1 ≠ t.length) : trkStep t s 0 = ⟨ins s.all (nth t 0), ins s.first (nth t 0), s.last, s.behind⟩ := by simp [trkStep, h]
theorem trkStep_01 {t : List Int} {s : TrkD} (h : 0 + 1 = t.length) : trkStep t s 0 = ⟨ins s.all (nth t 0), ins s.first (nth t 0), ins s.last (nth t 0), s.behind⟩ := by simp [trkStep, h.symm]
theorem trkStep_q0 {t : List Int} {s : TrkD} {q : Nat} (h : q + 1 + 1 ≠ t.length) : trkStep t s (q + 1) = ⟨ins s.all (nth t (q + 1)), s.first, s.last, ins s.behind (nth t q, nth t (q + 1))⟩ := by simp [trkStep, h]
theorem trkStep_q1 {t : List Int} {s : TrkD} {q : Nat} (h : q + 1 + 1 = t.length) : trkStep t s (q + 1) = ⟨ins s.all (nth t (q + 1)), s.first, ins s.last (nth t (q + 1)), ins s.behind (nth t q, nth t (q + 1))⟩ := by simp [trkStep, h.symm]
theorem _root_.Go.Tok.OwnI.aside {e base : Nat} {w : World} {v : Value} {xs : List Int} (h : OwnI e base w v xs) {b i : Nat} (hb : b < base) (u : Value) : OwnI e base (w.setCell ⟨b, i, none⟩ u) v xs := h.other (fun e => by have := (h.lt e).1; simp at this; omega) u
theorem _root_.Go.Tok.OwnR.aside {α : Type} {K : Kind α} {e base : Nat} {w : World} {v : Value} {xs : List α} (h : OwnR K e base NoS w v xs) {b i : Nat} (hb : b < base) (u : Value) : OwnR K e base NoS (w.setCell ⟨b, i, none⟩ u) v xs := h.other (fun e => by have := (h.lt e).1; simp at this; omega) (fun h => h) u
set_option maxRecDepth 100000 in
set_option maxHeartbeats 4000000 in
theorem Of_calls (v : Value) (log : List (List Int)) (w : World) (hv : Rd rowK w v log) : Calls Tryz.prog 20 #[v] w (RetPr w (ofT log)) := by
  obtain ⟨a, cap, rfl, hlc, hcap⟩ := hv.len
  have b0 : Blk (w.alloc (.cells #[.slice none 0 0, .slice none 0 0, .slice none 0 0, .slice none 0 0] 60)) w.heap.size 60 #[.slice none 0 0, .slice none 0 0, .slice none 0 0, .slice none 0 0] := Blk.new rfl
  have G0 : Gr w (w.alloc (.cells #[.slice none 0 0, .slice none 0 0, .slice none 0 0, .slice none 0 0] 60)) := (Gr.refl _).alloc _
  by_cases hw : wrongT log = 0
  case neg =>
    have q1 : (wrongT log == 0) = false := by simpa using hw
    have q2 : (wrongT log != 0) = true := by simpa using hw
    have HO := Lib.hid (show ofT log = (⟨[], [], [], []⟩, wrongT log) by unfold ofT; rw [if_neg hw])
    clear hw
    go_enter Tryz.func20, Tryz.ntmps20
    go_wp2_with fail
    refine (TWrong_calls _ log _ (hv.gr G0)).mono ?_
    rintro _ w1 ⟨rfl, g1⟩
    have b1 := b0.gr g1
    have GW := G0.trans g1
    have hsz := b1.lt
    have D0 := b1.cell (i := 0) rfl
    have F0 := b1.frozen 0
    have bq1 := b1.set 0 (.slice none 0 0)
    have D1 := bq1.cell (i := 1) rfl
    have F1 := bq1.frozen 1
    have bq2 := bq1.set 1 (.slice none 0 0)
    have D2 := bq2.cell (i := 2) rfl
    have F2 := bq2.frozen 2
    have bq3 := bq2.set 2 (.slice none 0 0)
    have D3 := bq3.cell (i := 3) rfl
    have F3 := bq3.frozen 3
    have bq4 := bq3.set 3 (.slice none 0 0)
    have E0 := bq4.cell (i := 0) rfl
    have E1 := bq4.cell (i := 1) rfl
    have E2 := bq4.cell (i := 2) rfl
    have E3 := bq4.cell (i := 3) rfl
    have GF := (((GW.setCell (p := ⟨w.heap.size, 0, none⟩) (Nat.le_refl _) (.slice none 0 0)).setCell (p := ⟨w.heap.size, 1, none⟩) (Nat.le_refl _) (.slice none 0 0)).setCell (p := ⟨w.heap.size, 2, none⟩) (Nat.le_refl _) (.slice none 0 0)).setCell (p := ⟨w.heap.size, 3, none⟩) (Nat.le_refl _) (.slice none 0 0)
    clear b0 b1 bq1 bq2 bq3 bq4 G0 g1
    have HGF := Lib.hid GF
    clear GF GW
    go_wp2_with fail
    refine bodyPost_ret (v := .tuple #[.agg #[.slice none 0 0, .slice none 0 0, .slice none 0 0, .slice none 0 0], .int .i64 (wrongT log)]) (by simp [results, Tryz.results20, go_sem, E0, E1, E2, E3]) rfl ?_
    unfold RetPr
    rw [HO.out]
    exact ⟨_, _, _, _, rfl, OwnI.nil _ _ _, OwnI.nil _ _ _, OwnI.nil _ _ _, OwnR.nil _ _ _ _, HGF.out⟩
  case pos =>
    have HW := Lib.hid hw
    have HO := Lib.hid (show ofT log = (⟨sortI (trkLog log).all, sortI (trkLog log).first, sortI (trkLog log).last, sortP (trkLog log).behind⟩, 0) by unfold ofT; rw [if_pos hw])
    have hlog := (trace_ok hw).1
    have HT := Lib.hid fun t ht => ((trace_ok hw).2 t ht).1
    have q0 : wrongT log = 0 := hw
    clear hw
    go_enter Tryz.func20, Tryz.ntmps20
    go_wp2_with fail
    refine (TWrong_calls _ log _ (hv.gr G0)).mono ?_
    rw [q0]; rintro _ w1 ⟨rfl, g1⟩
    clear q0
    have b1 := b0.gr g1
    have GW := G0.trans g1
    have hS0 := Sets.new w1
    clear b0 G0 g1
    have hmm := @run_makeMap Tryz.prog
    go_wp2_with fail
    clear hmm
    go_loopw [25] (fun i wr => ∃ k : Nat, k ≤ log.length ∧ i = .int .i64 k ∧ SetsT w1 wr w1.heap.size (trkLog (log.take k))) (fun i _ => log.length - (intOf i).toNat)
    case atStart => exact ⟨0, Nat.zero_le _, rfl, hS0⟩
    case round =>
      rename World => wo
      obtain ⟨k, hk, rfl, hS⟩ := hrel
      by_cases hlt : k < log.length
      · have HN := Lib.hid (trkLog_succ hlt)
        obtain ⟨b, o, u, rfl, c0w, hIw⟩ := hv.row hlt
        have c0 := cell_gr c0w (GW.trans hS.g)
        obtain ⟨ua, uc, rfl, hul, huc⟩ := hIw.len
        have hkI : (k : Int) < (log.length : Int) := by omega
        have hk0 : (0 : Int) ≤ (k : Int) := by omega
        have ht60 := HT.out _ (ix_mem hlt)
        have HAT := Lib.hid fun j hj => trace_at HW.out hlt (j := j) hj
        obtain ⟨s, hs⟩ : ∃ s, s = trkLog (log.take k) := ⟨_, rfl⟩
        obtain ⟨t, htt⟩ : ∃ t, t = ix log k := ⟨_, rfl⟩
        rw [← hs] at hS
        rw [← htt] at c0 hIw ht60 hul
        have HTT := Lib.hid htt
        have HSS := Lib.hid hs
        clear htt hs c0w
        go_wp2_with fail
        go_loopw [31] (fun i wr => ∃ j : Nat, j ≤ t.length ∧ i = .int .i64 j ∧ SetsT w1 wr w1.heap.size (trkTo t s j)) (fun i _ => t.length - (intOf i).toNat)
        case atStart => exact ⟨0, Nat.zero_le _, rfl, hS⟩
        case round =>
          rename World => wq
          obtain ⟨j, hj, rfl, hQ⟩ := hrel
          by_cases hjt : j < t.length
          · have hJ := hIw.gr (GW.trans hQ.g)
            obtain ⟨b', o', rfl, d0⟩ := hJ.cell hjt
            have hx := HAT.out j (by rw [← HTT.out]; exact hjt)
            rw [← HTT.out] at hx
            have hxI : I64 (nth t j) := by unfold I64; omega
            have hjI : (j : Int) < (t.length : Int) := by omega
            have hj0 : (0 : Int) ≤ (j : Int) := by omega
            have HU := Lib.hid (trkTo_succ t s j)
            obtain ⟨s', hs'⟩ : ∃ s', s' = trkTo t s j := ⟨_, rfl⟩
            rw [← hs'] at hQ
            have HU2 := Lib.hid (show trkTo t s (j + 1) = trkStep t s' j by rw [hs']; exact HU.out)
            clear hs' c0 HU
            go_wp2_with fail
            refine (addI_calls w1.heap.size _ _ _ hQ.a hxI).mono ?_
            rintro _ w2 ⟨rfl, g2, h2⟩
            have hS2 := hQ.setA g2 h2
            have hJ2 := hIw.gr (GW.trans hS2.g)
            rcases j with _ | q
            · go_wp2_with fail
              refine (addI_calls (w1.heap.size + 1) _ _ _ hS2.f hxI).mono ?_
              rintro _ w4 ⟨rfl, g4, h4⟩
              have hS3 := hS2.setF g4 h4
              by_cases hlast : 0 + 1 = t.length
              · skip
                have HL := Lib.hid (trkStep_01 (s := s') hlast)
                have q1 : (0 : Int) = (t.length : Int) - 1 := by omega
                have q2 : ((0 : Int) == (t.length : Int) - 1) = true := by simpa using q1
                have q3 : IntKind.i64.wrap ((t.length : Int) - 1) = (t.length : Int) - 1 := IntWalk.i64_in _ (by omega)
                clear q1
                go_wp2_with fail
                refine (addI_calls (w1.heap.size + 2) _ _ _ hS3.l hxI).mono ?_
                rintro _ w5 ⟨rfl, g5, h5⟩
                have hS4 := hS3.setL g5 h5
                clear q2 q3
                go_wp2_with fail
                go_roundw
                case rel => exact ⟨_, hjt, by go_num, by rw [HU2.out, HL.out]; exact hS4⟩
                case measure => simp [intOf]; omega
              · skip
                have HL := Lib.hid (trkStep_00 (s := s') hlast)
                have q2 : ((0 : Int) == (t.length : Int) - 1) = false := by simp; omega
                have q3 : IntKind.i64.wrap ((t.length : Int) - 1) = (t.length : Int) - 1 := IntWalk.i64_in _ (by omega)
                go_wp2_with fail
                go_roundw
                case rel => exact ⟨_, hjt, by go_num, by rw [HU2.out, HL.out]; exact hS3⟩
                case measure => simp [intOf]; omega
            · obtain ⟨b2, o2, hb2, d1⟩ := hJ2.cell (show q < t.length by omega)
              cases hb2
              have hy := HAT.out q (by rw [← HTT.out]; omega)
              rw [← HTT.out] at hy
              have hyI : I64 (nth t q) := by unfold I64; omega
              have r1 : (((q + 1 : Nat) : Int) == 0) = false := by simp; omega
              have r2 : IntKind.i64.wrap (((q + 1 : Nat) : Int) - 1) = (q : Int) := by rw [IntWalk.i64_in _ (by omega)]; omega
              have r3 : ((q + 1 : Nat) : Int) - 1 = (q : Int) := by omega
              have hqI : (q : Int) < (t.length : Int) := by omega
              have hq0 : (0 : Int) ≤ (q : Int) := by omega
              go_wp2_with fail
              refine (addP_calls (w1.heap.size + 3) _ (nth t q, nth t (q + 1)) _ hS2.p hyI hxI).mono ?_
              rintro _ w4 ⟨rfl, g4, h4⟩
              have hS3 := hS2.setB g4 h4
              clear r1 r2 r3
              by_cases hlast : q + 1 + 1 = t.length
              · skip
                have HL := Lib.hid (trkStep_q1 (s := s') hlast)
                have q1 : (((q + 1 : Nat) : Int) : Int) = (t.length : Int) - 1 := by omega
                have q2 : ((((q + 1 : Nat) : Int) : Int) == (t.length : Int) - 1) = true := by simpa using q1
                have q3 : IntKind.i64.wrap ((t.length : Int) - 1) = (t.length : Int) - 1 := IntWalk.i64_in _ (by omega)
                clear q1
                go_wp2_with fail
                refine (addI_calls (w1.heap.size + 2) _ _ _ hS3.l hxI).mono ?_
                rintro _ w5 ⟨rfl, g5, h5⟩
                have hS4 := hS3.setL g5 h5
                clear q2 q3
                go_wp2_with fail
                go_roundw
                case rel => exact ⟨_, hjt, by go_num, by rw [HU2.out, HL.out]; exact hS4⟩
                case measure => simp [intOf]; omega
              · skip
                have HL := Lib.hid (trkStep_q0 (s := s') hlast)
                have q2 : ((((q + 1 : Nat) : Int) : Int) == (t.length : Int) - 1) = false := by simp; omega
                have q3 : IntKind.i64.wrap ((t.length : Int) - 1) = (t.length : Int) - 1 := IntWalk.i64_in _ (by omega)
                go_wp2_with fail
                go_roundw
                case rel => exact ⟨_, hjt, by go_num, by rw [HU2.out, HL.out]; exact hS3⟩
                case measure => simp [intOf]; omega
          · obtain rfl : j = t.length := by omega
            have HF := Lib.hid (show trkLog (log.take (k + 1)) = trkTo t s t.length by rw [HN.out, ← HTT.out, ← HSS.out])
            go_wp2_with fail
            go_roundw
            case rel => exact ⟨k + 1, by omega, by go_num, by rw [HF.out]; exact hQ⟩
            case measure => simp [intOf]; omega
      · obtain rfl : k = log.length := by omega
        rw [List.take_length] at hS
        obtain ⟨l1, l2, l3, l4⟩ := labs_log HW.out
        obtain ⟨n1, n2, n3, n4⟩ := onces_log log
        have k1 := labs_short n1 l1
        have k2 := labs_short n2 l2
        have k3 := labs_short n3 l3
        have k4 := pairs_short n4 l4
        have r1 : ∀ x ∈ (trkLog log).all, 0 ≤ x ∧ x ≤ 1000000 := fun x hx => by have := l1 x hx; omega
        have r2 : ∀ x ∈ (trkLog log).first, 0 ≤ x ∧ x ≤ 1000000 := fun x hx => by have := l2 x hx; omega
        have r3 : ∀ x ∈ (trkLog log).last, 0 ≤ x ∧ x ≤ 1000000 := fun x hx => by have := l3 x hx; omega
        have r4 : ∀ x ∈ (trkLog log).behind, pairI x := fun x hx => by have := l4 x hx; unfold pairI I64; omega
        clear l1 l2 l3 l4 n1 n2 n3 n4
        have b2 := b1.gr hS.g
        have GW2 := GW.trans hS.g
        have hlt2 := b2.lt
        clear b1
        go_wp2_with fail
        refine (sortedI_calls w1.heap.size _ _ hS.a r1 (by omega)).mono ?_
        rintro _ w3 ⟨v1, rfl, o1, g1⟩
        have z1 := g1.le
        have hS := hS.gr g1
        go_wp2_with fail
        refine (sortedI_calls (w1.heap.size + 1) _ _ hS.f r2 (by omega)).mono ?_
        rintro _ w4 ⟨v2, rfl, o2, g2⟩
        have z2 := g2.le
        have hS := hS.gr g2
        go_wp2_with fail
        refine (sortedI_calls (w1.heap.size + 2) _ _ hS.l r3 (by omega)).mono ?_
        rintro _ w5 ⟨v3, rfl, o3, g3⟩
        have z3 := g3.le
        have hS := hS.gr g3
        go_wp2_with fail
        refine (sortedP_calls (w1.heap.size + 3) _ _ hS.p r4 (by omega)).mono ?_
        rintro _ w6 ⟨v4, rfl, o4, g4⟩
        have P1 := o1.gr (g2.trans (g3.trans g4))
        have P2 := o2.gr (g3.trans g4)
        have P3 := o3.gr g4
        obtain ⟨a1, m1, c1, rfl⟩ : ∃ a n c, v1 = .slice a n c := by obtain ⟨a, c, h, _⟩ := P1.ints.len; exact ⟨a, _, c, h⟩
        obtain ⟨a2, m2, c2, rfl⟩ : ∃ a n c, v2 = .slice a n c := by obtain ⟨a, c, h, _⟩ := P2.ints.len; exact ⟨a, _, c, h⟩
        obtain ⟨a3, m3, c3, rfl⟩ : ∃ a n c, v3 = .slice a n c := by obtain ⟨a, c, h, _⟩ := P3.ints.len; exact ⟨a, _, c, h⟩
        obtain ⟨a4, m4, c4, rfl⟩ : ∃ a n c, v4 = .slice a n c := by obtain ⟨a, c, h, _⟩ := o4.len; exact ⟨a, _, c, h⟩
        have GA := g1.trans (g2.trans (g3.trans g4))
        have b3 := b2.gr GA
        have GW3 := GW2.trans GA
        have D0 := b3.cell (i := 0) rfl
        have F0 := b3.frozen 0
        have bq1 := b3.set 0 (.slice a1 m1 c1)
        have D1 := bq1.cell (i := 1) rfl
        have F1 := bq1.frozen 1
        have bq2 := bq1.set 1 (.slice a2 m2 c2)
        have D2 := bq2.cell (i := 2) rfl
        have F2 := bq2.frozen 2
        have bq3 := bq2.set 2 (.slice a3 m3 c3)
        have D3 := bq3.cell (i := 3) rfl
        have F3 := bq3.frozen 3
        have bq4 := bq3.set 3 (.slice a4 m4 c4)
        have E0 := bq4.cell (i := 0) rfl
        have E1 := bq4.cell (i := 1) rfl
        have E2 := bq4.cell (i := 2) rfl
        have E3 := bq4.cell (i := 3) rfl
        have GF := (((GW3.setCell (p := ⟨w.heap.size, 0, none⟩) (Nat.le_refl _) (.slice a1 m1 c1)).setCell (p := ⟨w.heap.size, 1, none⟩) (Nat.le_refl _) (.slice a2 m2 c2)).setCell (p := ⟨w.heap.size, 2, none⟩) (Nat.le_refl _) (.slice a3 m3 c3)).setCell (p := ⟨w.heap.size, 3, none⟩) (Nat.le_refl _) (.slice a4 m4 c4)
        have Q1 := Lib.hid ((((P1.aside hlt2 (i := 0) (.slice a1 m1 c1)).aside hlt2 (i := 1) (.slice a2 m2 c2)).aside hlt2 (i := 2) (.slice a3 m3 c3)).aside hlt2 (i := 3) (.slice a4 m4 c4))
        have Q2 := Lib.hid ((((P2.aside (show w.heap.size < w3.heap.size by omega) (i := 0) (.slice a1 m1 c1)).aside (show w.heap.size < w3.heap.size by omega) (i := 1) (.slice a2 m2 c2)).aside (show w.heap.size < w3.heap.size by omega) (i := 2) (.slice a3 m3 c3)).aside (show w.heap.size < w3.heap.size by omega) (i := 3) (.slice a4 m4 c4))
        have Q3 := Lib.hid ((((P3.aside (show w.heap.size < w4.heap.size by omega) (i := 0) (.slice a1 m1 c1)).aside (show w.heap.size < w4.heap.size by omega) (i := 1) (.slice a2 m2 c2)).aside (show w.heap.size < w4.heap.size by omega) (i := 2) (.slice a3 m3 c3)).aside (show w.heap.size < w4.heap.size by omega) (i := 3) (.slice a4 m4 c4))
        have Q4 := Lib.hid ((((o4.aside (show w.heap.size < w5.heap.size by omega) (i := 0) (.slice a1 m1 c1)).aside (show w.heap.size < w5.heap.size by omega) (i := 1) (.slice a2 m2 c2)).aside (show w.heap.size < w5.heap.size by omega) (i := 2) (.slice a3 m3 c3)).aside (show w.heap.size < w5.heap.size by omega) (i := 3) (.slice a4 m4 c4))
        have HGF := Lib.hid GF
        have hle := Lib.hid (show w.heap.size ≤ wo.heap.size ∧ w.heap.size ≤ w3.heap.size ∧ w.heap.size ≤ w4.heap.size ∧ w.heap.size ≤ w5.heap.size by omega)
        clear b3 b2 bq1 bq2 bq3 bq4 GF GW3 GA GW2 P1 P2 P3 o1 o2 o3 o4 g1 g2 g3 g4 hS GW r1 r2 r3 r4 k1 k2 k3 k4 hlt2 z1 z2 z3
        go_wp2_with fail
        refine bodyPost_ret (v := .tuple #[.agg #[.slice a1 m1 c1, .slice a2 m2 c2, .slice a3 m3 c3, .slice a4 m4 c4], .int .i64 0]) (by simp [results, Tryz.results20, go_sem, E0, E1, E2, E3]) rfl ?_
        unfold RetPr
        rw [HO.out]
        exact ⟨_, _, _, _, rfl, Q1.out.low hle.out.1, Q2.out.low hle.out.2.1, Q3.out.low hle.out.2.2.1, Q4.out.low hle.out.2.2.2, HGF.out⟩
end Go.Proofs.YtagdccgbcmnehaaGreat

namespace Go.Tok
open Go.RowKit
set_option linter.unusedVariables false
abbrev Fresh (n : Nat) : Nat → Prop := fun b => n ≤ b
theorem ontoT_succ {log : List (List Int)} {labels : List Int} {k : Nat} (h : k < log.length) : ontoT (log.take (k + 1)) labels = ontoT (log.take k) labels ++ [(ix log k).filter fun a => hasB labels a] := by
  unfold ontoT
  rw [take_ix h, List.map_append]; rfl
theorem filt_yes {p : Int → Bool} {t : List Int} {j : Nat} (h : j < t.length) (hp : p (nth t j) = true) : (t.take (j + 1)).filter p = (t.take j).filter p ++ [nth t j] := by
  rw [List.take_succ_eq_append_getElem h, List.filter_append, nth_lt h]
  rw [nth_lt h] at hp
  simp [hp]
theorem filt_no {p : Int → Bool} {t : List Int} {j : Nat} (h : j < t.length) (hp : p (nth t j) = false) : (t.take (j + 1)).filter p = (t.take j).filter p := by
  rw [List.take_succ_eq_append_getElem h, List.filter_append]
  rw [nth_lt h] at hp
  simp [hp]
theorem OwnI.len_eq {e base : Nat} {w : World} {v : Value} {xs : List Int} (h : OwnI e base w v xs) : ∃ a cap, v = .slice a xs.length cap := by
  obtain ⟨a, cap, h1, _⟩ := h.ints.len
  exact ⟨a, cap, h1⟩
end Go.Tok
namespace Go.Proofs.YtagdccgbcmnehaaGreat
open Go.RowKit Go.Tok
set_option linter.unusedVariables false
set_option maxRecDepth 100000 in
set_option maxHeartbeats 4000000 in
theorem Onto_calls (v u : Value) (log : List (List Int)) (labels : List Int) (w : World) (hv : Rd rowK w v log) (hu : Ints w u labels) (hl : log.length ≤ 5864062014805) (hll : ∀ t ∈ log, t.length ≤ 17592186044415) :
    Calls Tryz.prog 186 #[v, u] w fun e w' => ∃ v', e = .returned v' ∧ OwnR rowK 24 w.heap.size (Fresh w.heap.size) w' v' (ontoT log labels) ∧ Gr w w' := by
  obtain ⟨a, cap, rfl, hlc, hcap⟩ := hv.len
  obtain ⟨la, lc, rfl, hl1, hl2⟩ := hu.len
  have HLL := Lib.hid hll
  clear hll
  go_enter Tryz.func186, Tryz.ntmps186
  go_wp2_with fail
  go_loopw [5, 13] (fun out i wr => ∃ k : Nat, k ≤ log.length ∧ i = .int .i64 k ∧ OwnR rowK 24 w.heap.size (Fresh w.heap.size) wr out (ontoT (log.take k) labels) ∧ Gr w wr) (fun _ i _ => log.length - (intOf i).toNat)
  case atStart => exact ⟨0, Nat.zero_le _, rfl, OwnR.nil _ _ _ _, Gr.refl _⟩
  case round =>
    rename World => wo
    obtain ⟨k, hk, rfl, hO, hgr⟩ := hrel
    by_cases hlt : k < log.length
    · have HN := Lib.hid (ontoT_succ (labels := labels) hlt)
      obtain ⟨b, o, q, rfl, c0, hIw⟩ := (hv.gr hgr).row hlt
      obtain ⟨ta, tc, rfl, htl, htc⟩ := hIw.len
      have hkI : (k : Int) < (log.length : Int) := by omega
      have hk0 : (0 : Int) ≤ (k : Int) := by omega
      have htl6 := HLL.out _ (ix_mem hlt)
      obtain ⟨t, htt⟩ : ∃ t, t = ix log k := ⟨_, rfl⟩
      rw [← htt] at c0 hIw htl htl6
      have HTT := Lib.hid htt
      obtain ⟨done, hdone⟩ : ∃ l, l = ontoT (log.take k) labels := ⟨_, rfl⟩
      rw [← hdone] at hO
      have hdl : done.length = k := by rw [hdone]; unfold ontoT; simp; omega
      have HDL := Lib.hid hdl
      have HDN := Lib.hid hdone
      obtain ⟨oa, oc, rfl, ho1, ho2⟩ := hO.len
      have hO0 := hO.sets (S' := fun b => w.heap.size ≤ b ∧ b < wo.heap.size) fun b hb hs => ⟨hs, hb⟩
      clear htt hdone hdl hO
      have hwo := hgr.le
      go_wp2_with fail
      go_loopw [8, 19] (fun x i wr => ∃ j : Nat, j ≤ t.length ∧ i = .int .i64 j ∧ OwnI 3 wo.heap.size wr x ((t.take j).filter fun a => hasB labels a) ∧ OwnR rowK 24 w.heap.size (fun b => w.heap.size ≤ b ∧ b < wo.heap.size) wr (.slice oa done.length oc) done ∧ Gr wo wr) (fun _ i _ => t.length - (intOf i).toNat)
      case atStart => exact ⟨0, Nat.zero_le _, rfl, OwnI.nil _ _ _, hO0, Gr.refl _⟩
      case round =>
        rename World => wq
        obtain ⟨j, hj, rfl, hX, hO1, hgq⟩ := hrel
        have hoB : ∀ {g : Nat}, wo.heap.size ≤ g → (Value.slice oa done.length oc).ownBlock ≠ some g := fun hg e => by
          have := (hO0.lt e).2; omega
        by_cases hjt : j < t.length
        · obtain ⟨b', o', rfl, d0⟩ := (hIw.gr hgq).cell hjt
          have hjI : (j : Int) < (t.length : Int) := by omega
          have hj0 : (0 : Int) ≤ (j : Int) := by omega
          have hxI : I64 (nth t j) := hIw.range j
          have hu2 := hu.gr (hgr.trans hgq)
          cases hb : hasB labels (nth t j)
          · have HF := Lib.hid (filt_no (p := fun a => hasB labels a) hjt hb)
            go_wp2_with fail
            refine (Contains_calls _ labels (nth t j) _ hu2).mono ?_
            rw [hb]; rintro _ _ ⟨rfl, rfl⟩
            go_wp2_with fail
            go_roundw
            case rel => exact ⟨j + 1, by omega, by go_num, by rw [HF.out]; exact hX, hO1, hgq⟩
            case measure => simp [intOf]; omega
          · have HF := Lib.hid (filt_yes (p := fun a => hasB labels a) hjt hb)
            have hfl : ((t.take j).filter fun a => hasB labels a).length ≤ j := Nat.le_trans (List.length_filter_le _ _) (by simp; omega)
            obtain ⟨xs, hxs⟩ : ∃ xs, xs = (t.take j).filter fun a => hasB labels a := ⟨_, rfl⟩
            rw [← hxs] at hX hfl
            have HXS := Lib.hid hxs
            clear hxs
            obtain ⟨xa, xc, rfl⟩ := hX.len_eq
            have hgq' := hgq.le
            go_wp2_with fail
            refine (Contains_calls _ labels (nth t j) _ hu2).mono ?_
            rw [hb]; rintro _ _ ⟨rfl, rfl⟩
            go_wp2_with (at_builtin; go_loud (refine app_int intTy _ _ wo.heap.size _ xs ⟨wq.heap.size, 0, none⟩ (nth t j) (by rfl) (by rfl) (by rfl) (by rfl) (hX.alloc _) (lit_cell rfl) hxI (by omega) (by simp; omega) ?_; intro v' w3 ho3 hgs hgb hat))
            have hO3 := (hO1.alloc (.cells #[.int .i64 (nth t j)] 3)).kept hgb (S' := fun b => w.heap.size ≤ b ∧ b < wo.heap.size) (by
              by_cases hn : (Value.slice xa xs.length xc).ownBlock = none
              · rw [hn]
                by_cases hm : (Value.slice oa done.length oc).ownBlock = none
                · exact .inl hm
                · exact .inr hm
              · obtain ⟨g, hg⟩ := Option.ne_none_iff_exists'.1 hn
                rw [hg]
                exact .inr (hoB (hX.lt hg).1)) (fun b _ hb => ⟨hb, fun e => by have := (hX.lt e.symm).1; omega⟩)
            go_roundw
            case rel => exact ⟨j + 1, by omega, by go_num, by rw [HF.out, ← HXS.out]; exact ho3, hO3, hgs wo (Nat.le_refl _) (hgq.alloc _)⟩
            case measure => simp [intOf]; omega
        · obtain rfl : j = t.length := by omega
          rw [List.take_length] at hX
          obtain ⟨xs, hxs⟩ : ∃ xs, xs = t.filter fun a => hasB labels a := ⟨_, rfl⟩
          rw [← hxs] at hX
          have HXS := Lib.hid (show ontoT (log.take (k + 1)) labels = done ++ [xs] by rw [HN.out, hxs, HTT.out, ← HDN.out])
          clear hxs
          obtain ⟨xa, xc, rfl⟩ := hX.len_eq
          have hdk := HDL.out
          have hO2 := hO1.sets (S' := Fresh w.heap.size) fun b _ hb => hb.1
          have hgq' := hgq.le
          have hon : On (fun b => Fresh w.heap.size b ∧ (Value.slice oa done.length oc).ownBlock ≠ some b) (fun w => rowK.R w [.slice xa xs.length xc] xs) (wq.alloc (.cells #[.slice xa xs.length xc] 24)) := (((Ints.on_own hX).gr ((Gr.refl _).alloc _)).imp fun w h => ⟨_, rfl, h⟩).mono fun b _ hb => ⟨by have := (hX.lt hb).1; show w.heap.size ≤ b; omega, hoB (hX.lt hb).1⟩
          have hn1 : (done.length + 1) * 24 ≤ 140737488355328 := by omega
          have hn2 : done.length + 1 ≤ maxLen := by unfold maxLen; omega
          have hGq := hgr.trans hgq
          have hle : w.heap.size ≤ (wq.alloc (.cells #[.slice xa xs.length xc] 24)).heap.size := by simp; omega
          clear hdk
          go_wp2_with (at_builtin; go_loud (refine app_one rowTy _ _ w.heap.size (Fresh w.heap.size) _ done ⟨wq.heap.size, 0, none⟩ xs [.slice xa xs.length xc] (by rfl) (by rfl) (by rfl) (by rfl) (hO2.alloc _) (one_cell _ _ _) hon hn1 hn2 hle ?_; intro v' w3 ho3 hgs hgb hat))
          go_roundw
          case rel => exact ⟨k + 1, by omega, by go_num, by rw [HXS.out]; exact ho3, hgs w (Nat.le_refl _) (hGq.alloc _)⟩
          case measure => simp [intOf]; omega
    · obtain rfl : k = log.length := by omega
      rw [List.take_length] at hO
      go_wp2_with fail
      go_ret
      exact ⟨_, rfl, hO, hgr⟩
end Go.Proofs.YtagdccgbcmnehaaGreat

