/- Contracts of tracks.sorted: the elements of a set in order. -/
import Derived.Test.YtkanaoebpajbfaaTrk2
import Derived.Test.YtkanaoebpajbfaaPA
import Derived.Test.YtkanaoebpajbfaaTwoApp
namespace Go.Tok
open Go.RowKit
set_option linter.unusedVariables false
theorem OnlyAt.gr {b : Nat} {w0 w w' : World} (g : Gr w0 w) (h : w.grownBy w' (some b)) (hb : w0.heap.size ≤ b) : Gr w0 w' := g.grown h fun k hk => by cases hk; exact hb
theorem perm_step {α : Type} {xs l1 l2 l : List α} {x : α} (h : (xs ++ (l1 ++ x :: l2)).Perm l) : ((xs ++ [x]) ++ (l1 ++ l2)).Perm l := by
  refine List.Perm.trans ?_ h
  rw [List.append_assoc]
  exact List.Perm.append_left _ (List.perm_middle (l₁ := l1) (l₂ := l2) (a := x)).symm
theorem OwnI.apart {e base : Nat} {w : World} {v : Value} {xs : List Int} (h : OwnI e base w v xs) {k : Nat} (hk : k < base) : v.ownBlock = none ∨ v.ownBlock ≠ some k := by
  by_cases hn : v.ownBlock = none
  · exact .inl hn
  · obtain ⟨q, hq⟩ := Option.ne_none_iff_exists'.1 hn
    have := (h.lt hq).1
    exact .inr (by rw [hq]; intro e; cases e; omega)
theorem OwnR.apart {α : Type} {K : Kind α} {e base : Nat} {S : Nat → Prop} {w : World} {v : Value} {xs : List α} (h : OwnR K e base S w v xs) {k : Nat} (hk : k < base) : v.ownBlock = none ∨ v.ownBlock ≠ some k := by
  by_cases hn : v.ownBlock = none
  · exact .inl hn
  · obtain ⟨q, hq⟩ := Option.ne_none_iff_exists'.1 hn
    have := (h.lt hq).1
    exact .inr (by rw [hq]; intro e; cases e; omega)
theorem sortI_nil : sortI [] = [] := List.perm_nil.1 (sortI_perm [])
theorem sortP_nil : sortP [] = [] := List.perm_nil.1 (sortP_perm [])
theorem map_split {α β : Type} {f : α → β} {l : List α} {l1 l2 : List β} {x : β} (h : l.map f = l1 ++ x :: l2) : ∃ m1 y m2, l = m1 ++ y :: m2 ∧ m1.map f = l1 ∧ f y = x ∧ m2.map f = l2 := by
  obtain ⟨m1, m3, rfl, h1, h2⟩ := List.map_eq_append_iff.1 h
  obtain ⟨y, m2, rfl, h3, h4⟩ := List.map_eq_cons_iff.1 h2
  exact ⟨m1, y, m2, rfl, h1, h3, h4⟩
end Go.Tok
namespace Go.Proofs.Ytkanaoebpajbfaa
open Go.RowKit Go.Tok
set_option linter.unusedVariables false
def sent {α : Type} (enc : α → Value) (l : List α) : List (Value × Value) := l.map fun x => (enc x, .agg #[])
theorem sent_def {α : Type} (enc : α → Value) (l : List α) : sent enc l = l.map fun x => (enc x, .agg #[]) := rfl
theorem _root_.Go.Tok.SetAt.sent {α : Type} {P : Program} {k : TypeId} {enc : α → Value} {w : World} {b : Nat} {l : List α} (h : SetAt P k enc w b l) : MAt P k w b (sent enc l) := by unfold SetAt at h; exact h
attribute [irreducible] sent
theorem sent_split {α : Type} {enc : α → Value} {l : List α} {l1 l2 : List (Value × Value)} {x : Value × Value} (h : sent enc l = l1 ++ x :: l2) : ∃ m1 y m2, l = m1 ++ y :: m2 ∧ sent enc (m1 ++ m2) = l1 ++ l2 ∧ x = (enc y, .agg #[]) := by
  rw [sent_def] at h
  obtain ⟨m1, y, m2, rfl, h1, h2, h3⟩ := map_split h
  exact ⟨m1, y, m2, rfl, by rw [sent_def, List.map_append, h1, h3], h2.symm⟩
theorem sent_nil {α : Type} {enc : α → Value} {l : List α} (h : sent enc l = []) : l = [] := by
  rw [sent_def] at h
  exact List.map_eq_nil_iff.1 h
set_option maxHeartbeats 2000000 in
theorem sortedI_calls (b : Nat) (l : List Int) (w : World) (h : ISet w b l) (hx : ∀ x ∈ l, 0 ≤ x ∧ x ≤ 1000000) (hl : l.length ≤ 100000) :
    Calls Try.prog 82 #[.map (some b), .func (.func 83) #[] #[]] w fun e w' => ∃ v, e = .returned v ∧ OwnI 3 w.heap.size w' v (sortI l) ∧ Gr w w' := by
  obtain ⟨o, hrun, hR0⟩ := Rng.start (t := 141) Try.underlying141 h.sent
  have hbl := h.lt
  have G0 : Gr w (w.alloc o) := (Gr.refl _).alloc _
  have HX := Lib.hid hx
  clear h hx
  go_enter Try.func82, Try.ntmps82
  go_wp2_with fail
  go_loopw [5] (fun u wr => ∃ xs todo, Rng Try.prog 3 wr b w.heap.size (sent (Value.int .i64) l) (sent (Value.int .i64) todo) ∧ OwnI 3 (w.heap.size + 1) wr u xs ∧ (xs ++ todo).Perm l ∧ Gr w wr) (fun _ wr => wr.rangeLeft b w.heap.size)
  case atStart => exact ⟨[], l, hR0, OwnI.nil _ _ _, by simp, G0⟩
  case round =>
    rename World => wr
    obtain ⟨xs, todo, hR, ho, hp, hgr⟩ := hrel
    have hxl : xs.length + todo.length = l.length := by rw [← hp.length_eq, List.length_append]
    have hrl := hR.lt
    rcases hR.next 0 with ⟨hz, en⟩ | ⟨l1, kv, l2, w2, hz, en, hg2, hR2, een⟩
    · obtain rfl := sent_nil hz
      rw [List.append_nil] at hp
      have HP := Lib.hid hp
      have hgr' := Lib.hid hgr
      obtain hf := ho.form
      rcases hf with ⟨rfl, rfl⟩ | ⟨g, cap, rfl, hg1, hg2, hg3, hg4⟩
      · have HZ := Lib.hid (show sortI l = [] by rw [List.nil_perm.1 HP.out]; exact sortI_nil)
        clear hp hxl hR hR0
        go_wp2_with fail
        refine (Try.slices_SortFunc_none_f136 (α := Int) none 0 _ _).mono ?_
        rintro _ _ ⟨rfl, rfl⟩
        go_wp2_with fail
        go_ret
        exact ⟨_, rfl, by rw [HZ.out]; exact OwnI.nil _ _ _, hgr'.out⟩
      · have hpos := Lib.hid hxl
        by_cases h0 : 0 < xs.length
        · have HS := Lib.hid (show sortI xs = sortI l from sortI_is (HP.out.symm.trans (List.Perm.refl _) |>.symm |> fun h => (sortI_perm l).trans h.symm) (sortI_sorted l))
          have hxs : ∀ x ∈ xs, 0 ≤ x ∧ x ≤ 1000000 := fun x hx => HX.out x (HP.out.mem_iff.1 hx)
          have hl6 : xs.length ≤ 1000000 := by have := hpos.out; simp at this; omega
          clear hp hxl hR hR0 hgr
          go_wp2_with fail
          refine (SortFuncI_calls g cap _ xs _ ho h0 hl6 hxs).mono ?_
          rintro _ w3 ⟨rfl, ho3, g3⟩
          go_wp2_with fail
          go_ret
          refine ⟨_, rfl, ?_, hgr'.out.grown g3 fun k hk => by cases hk; omega⟩
          rw [← HS.out]
          exact ho3.low (by omega)
        · obtain rfl : xs = [] := List.eq_nil_of_length_eq_zero (by omega)
          have HZ := Lib.hid (show sortI l = [] by rw [List.nil_perm.1 HP.out]; exact sortI_nil)
          have ho' := ho.low (show w.heap.size ≤ w.heap.size + 1 by omega)
          simp only [List.length_nil] at ho' hg3
          clear hp hxl hR hR0 h0 hpos
          go_wp2_with fail
          refine (Try.slices_SortFunc_none_f136 (α := Int) (some ⟨g, 0, none⟩) cap _ _).mono ?_
          rintro _ _ ⟨rfl, rfl⟩
          go_wp2_with fail
          go_ret
          exact ⟨_, rfl, by rw [HZ.out]; exact ho', hgr'.out⟩
    · obtain ⟨m1, x, m2, rfl, e2, rfl⟩ := sent_split hz
      have HP := Lib.hid (perm_step hp)
      have hxI : I64 x := by
        have := HX.out x (hp.mem_iff.1 (by simp))
        unfold I64; omega
      have ho2 := ho.grown hg2 (ho.apart (by omega))
      dsimp only at en een
      have hgr2 := OnlyAt.gr hgr hg2 (Nat.le_refl _)
      have hsz : w.heap.size + 1 ≤ w2.heap.size := by have := hg2.size; omega
      have hxl' : xs.length + 1 ≤ 100001 := by simp at hxl; omega
      have e1 : wr.rangeLeft b w.heap.size = m1.length + m2.length + 1 := by rw [hR.left_eq, sent_def]; simp; omega
      have e3 : (l1 ++ l2).length = m1.length + m2.length := by rw [← e2, sent_def]; simp
      have E1 := Lib.hid e1
      have E2 := Lib.hid e2
      have E3 := Lib.hid e3
      clear hp hxl hR hR0 ho hgr e1 e2 e3 hz hg2
      obtain ⟨ua, uc, rfl, _, _⟩ := ho2.ints.len
      go_wp2_with (at_builtin; go_loud (refine app_int intTy _ _ (w.heap.size + 1) _ xs ⟨w2.heap.size, 0, none⟩ x (by rfl) (by rfl) (by rfl) (by rfl) (ho2.alloc _) (lit_cell rfl) hxI (by omega) (by simp; omega) ?_; intro v' w3 ho3 hgs hgb hat))
      have hne : some b ≠ (Value.slice ua xs.length uc).ownBlock := fun e => by
        have := (ho2.lt e.symm).1; omega
      have hne2 : some w.heap.size ≠ (Value.slice ua xs.length uc).ownBlock := fun e => by
        have := (ho2.lt e.symm).1; omega
      have hR3 := (hR2.gr ((Gr.refl _).alloc (.cells #[.int .i64 x] 3))).grown hgb hne hne2
      go_roundw
      case rel => exact ⟨xs ++ [x], m1 ++ m2, by rw [E2.out]; exact hR3, ho3, HP.out, hgs w (by omega) (hgr2.alloc _)⟩
      case measure =>
        rw [E1.out, hR3.left_eq, E3.out]; omega
set_option maxRecDepth 100000 in
set_option maxHeartbeats 2000000 in
theorem sortedP_calls (b : Nat) (l : List (Int × Int)) (w : World) (h : PSet w b l) (hx : ∀ x ∈ l, pairI x) (hl : l.length ≤ 100000) :
    Calls Try.prog 84 #[.map (some b), .func (.func 85) #[] #[]] w fun e w' => ∃ v, e = .returned v ∧ OwnR pairK 71 w.heap.size NoS w' v (sortP l) ∧ Gr w w' := by
  obtain ⟨o, hrun, hR0⟩ := Rng.start (t := 143) Try.underlying143 h.sent
  have hbl := h.lt
  have G0 : Gr w (w.alloc o) := (Gr.refl _).alloc _
  have HX := Lib.hid hx
  clear h hx
  go_enter Try.func84, Try.ntmps84
  go_wp2_with fail
  go_loopw [5] (fun u wr => ∃ xs todo, Rng Try.prog 71 wr b w.heap.size (sent pairV l) (sent pairV todo) ∧ OwnR pairK 71 (w.heap.size + 1) NoS wr u xs ∧ (xs ++ todo).Perm l ∧ Gr w wr) (fun _ wr => wr.rangeLeft b w.heap.size)
  case atStart => exact ⟨[], l, hR0, OwnR.nil _ _ _ _, by simp, G0⟩
  case round =>
    rename World => wr
    obtain ⟨xs, todo, hR, ho, hp, hgr⟩ := hrel
    have hxl : xs.length + todo.length = l.length := by rw [← hp.length_eq, List.length_append]
    have hrl := hR.lt
    rcases hR.next 0 with ⟨hz, en⟩ | ⟨l1, kv, l2, w2, hz, en, hg2, hR2, een⟩
    · obtain rfl := sent_nil hz
      rw [List.append_nil] at hp
      have HP := Lib.hid hp
      have hgr' := Lib.hid hgr
      obtain hf := ho.form
      rcases hf with ⟨rfl, rfl⟩ | ⟨g, cap, rfl, hg1, hg2, hg3, hg4⟩
      · have HZ := Lib.hid (show sortP l = [] by rw [List.nil_perm.1 HP.out]; exact sortP_nil)
        clear hp hxl hR hR0
        go_wp2_with fail
        refine (Try.slices_SortFunc_none_f32 (α := Int × Int) none 0 _ _).mono ?_
        rintro _ _ ⟨rfl, rfl⟩
        go_wp2_with fail
        go_ret
        exact ⟨_, rfl, by rw [HZ.out]; exact OwnR.nil _ _ _ _, hgr'.out⟩
      · have hpos := Lib.hid hxl
        by_cases h0 : 0 < xs.length
        · have HS := Lib.hid (show sortP xs = sortP l from sortP_is (HP.out.symm.trans (List.Perm.refl _) |>.symm |> fun h => (sortP_perm l).trans h.symm) (sortP_sorted l))
          have hl6 : xs.length ≤ 1000000 := by have := hpos.out; simp at this; omega
          clear hp hxl hR hR0 hgr
          go_wp2_with fail
          refine (SortFuncP_calls 85 (Go.Proofs.enters_of Try.func85 (by kernel_rfl) rfl) (fun a b ha hb w => pair_calls a b ha hb w) g cap _ NoS xs _ ho h0 hl6).mono ?_
          rintro _ w3 ⟨rfl, ho3, g3⟩
          go_wp2_with fail
          go_ret
          refine ⟨_, rfl, ?_, hgr'.out.grown g3 fun k hk => by cases hk; omega⟩
          rw [← HS.out]
          exact ho3.low (by omega)
        · obtain rfl : xs = [] := List.eq_nil_of_length_eq_zero (by omega)
          have HZ := Lib.hid (show sortP l = [] by rw [List.nil_perm.1 HP.out]; exact sortP_nil)
          have ho' := ho.low (show w.heap.size ≤ w.heap.size + 1 by omega)
          simp only [List.length_nil] at ho' hg3
          clear hp hxl hR hR0 h0 hpos
          go_wp2_with fail
          refine (Try.slices_SortFunc_none_f32 (α := Int × Int) (some ⟨g, 0, none⟩) cap _ _).mono ?_
          rintro _ _ ⟨rfl, rfl⟩
          go_wp2_with fail
          go_ret
          exact ⟨_, rfl, by rw [HZ.out]; exact ho', hgr'.out⟩
    · obtain ⟨m1, x, m2, rfl, e2, rfl⟩ := sent_split hz
      have HP := Lib.hid (perm_step hp)
      have hxI : pairI x := HX.out x (hp.mem_iff.1 (by simp))
      have ho2 := ho.kept hg2 (ho.apart (by omega)) (S' := NoS) (fun b _ hb => absurd hb (fun h => h))
      dsimp only at en een
      unfold pairV at en een
      have hgr2 := OnlyAt.gr hgr hg2 (Nat.le_refl _)
      have hsz : w.heap.size + 1 ≤ w2.heap.size := by have := hg2.size; omega
      have hxl' : xs.length + 1 ≤ 100001 := by simp at hxl; omega
      have e1 : wr.rangeLeft b w.heap.size = m1.length + m2.length + 1 := by rw [hR.left_eq, sent_def]; simp; omega
      have e3 : (l1 ++ l2).length = m1.length + m2.length := by rw [← e2, sent_def]; simp
      have E1 := Lib.hid e1
      have E2 := Lib.hid e2
      have E3 := Lib.hid e3
      clear hp hxl hR hR0 ho hgr e1 e2 e3 hz hg2
      obtain ⟨ua, uc, rfl, _, _⟩ := ho2.len
      have GB : Gr w2 ((w2.alloc (.cells #[.int .i64 x.1, .int .i64 x.2] 71)).alloc (.cells #[.int .i64 x.1, .int .i64 x.2] 71)) := ((Gr.refl _).alloc _).alloc _
      go_wp2_with (at_builtin; go_loud (refine app_one pairTy _ _ (w.heap.size + 1) NoS _ xs ⟨w2.heap.size + 1, 0, none⟩ x [.int .i64 x.1, .int .i64 x.2] (by rfl) (by rfl) (by rfl) (by rfl) (ho2.gr GB) (lit_cellsH (by simp)) (On.true (p := [Value.int .i64 x.1, .int .i64 x.2] = pairCells x ∧ pairI x) ⟨rfl, hxI⟩) (by omega) (by unfold maxLen; omega) (by simp; omega) ?_; intro v' w3 ho3 hgs hgb hat))
      have hne : some b ≠ (Value.slice ua xs.length uc).ownBlock := fun e => by
        have := (ho2.lt e.symm).1; omega
      have hne2 : some w.heap.size ≠ (Value.slice ua xs.length uc).ownBlock := fun e => by
        have := (ho2.lt e.symm).1; omega
      have hR3 := (hR2.gr GB).grown hgb hne hne2
      go_roundw
      case rel => exact ⟨xs ++ [x], m1 ++ m2, by rw [E2.out]; exact hR3, ho3, HP.out, hgs w (by omega) (hgr2.trans GB)⟩
      case measure =>
        rw [E1.out, hR3.left_eq, E3.out]; omega
end Go.Proofs.Ytkanaoebpajbfaa
