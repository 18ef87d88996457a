/- Appends of one int within a region that draws its order. No program is in sight here. -/
import Derived.Test.YtelfbfjegmncaaaCore
import Derived.Deep.AppendLies
namespace Go.Tok
open Go.RowKit
set_option linter.unusedVariables false

theorem same_quiet {P : Program} {f : Nat} {args : Array Value} {w : World} {r : Value} (h : Calls P f args w fun e w' => e = .returned r ∧ w = w') : Calls P f args w fun e w' => e = .returned r ∧ w' = w := h.mono fun _ _ h => ⟨h.1, h.2.symm⟩
theorem OwnI.low {e base base' : Nat} {w : World} {v : Value} {xs : List Int} (h : OwnI e base w v xs) (hb : base' ≤ base) : OwnI e base' w v xs := by
  unfold OwnI at *
  refine ⟨⟨h.1.1, ?_⟩, h.2⟩
  rcases h.1.2 with h4 | ⟨g, cap, cur, h4, h5, h6⟩
  · exact .inl h4
  · exact .inr ⟨g, cap, cur, h4, Nat.le_trans hb h5, h6⟩
theorem step_app_int {P : Program} {t e : TypeId} (T : IntTy P t e) {ops : Array Oper} {o : Oper} {a : Act} {w : World} {K : Act → World → Prop} {Q : Exit → Act → World → Prop} {E : Prop} (hgd : o.guard = none) (s x : Operand)
    (ho : o.op = .call { callee := .builtin .append, args := #[s, x], argTypes := #[t, t] }) (base : Nat) (v : Value) (xs : List Int) (ad : Addr) (y : Int) (hs : a.eval s = v) (hx : a.eval x = .slice (some ad) 1 1) (hown : OwnI e base w v xs)
    (hcell : w.cell? ad = some (.int .i64 y)) (hy : I64 y) (hn : xs.length + 1 ≤ 17592186044416) (hbase : base ≤ w.heap.size)
    (hK : ∀ g cap w', OwnI e base w' (.slice (some ⟨g, 0, none⟩) (xs.length + 1) cap) (xs ++ [y]) → (∀ a : World, a.heap.size ≤ base → Gr a w → Gr a w') → w.grownBy w' v.ownBlock → (v.ownBlock = some g ∨ g = w.heap.size) → g < w'.heap.size → K (a.put o.dst (.slice (some ⟨g, 0, none⟩) (xs.length + 1) cap)) w') :
    if Region.wanted o (yielded ops a.tmps) = true then Oper.wp P o a w K Q else E := by
  obtain ⟨i, hi, hz, hsz, hby⟩ := info_parts T.info
  have hown' := hown
  unfold OwnI at hown'
  refine step_append_lies w hgd s x t ho base e i _ 1 8 T.und hi hz hsz hby rfl (by omega) v xs.length _ hs hown'.1 ad 1 1 [.int .i64 y] hx rfl ?_ (by simp [Value.oneCell']) (by omega) (by unfold maxLen; omega) (by omega) hbase w.heap.size rfl ?_
  · intro j u hj
    cases j with
    | zero => simp at hj; subst hj; rw [show ad.add 0 = ad by unfold Addr.add; split <;> simp_all]; exact hcell
    | succ j => simp at hj
  · intro g cap w' ho' hgr hat hlt
    have hall : ∀ z ∈ xs ++ [y], I64 z := by
      intro z hz
      rcases List.mem_append.1 hz with h1 | h1
      · exact hown'.2 z h1
      · rw [List.mem_singleton.1 h1]; exact hy
    refine hK g cap w' (by unfold OwnI; refine ⟨by simpa using ho', ?_⟩; exact hall) ?_ hgr hat hlt
    · intro a hB hb
      exact hb.grown hgr fun k hk => Nat.le_trans hB (hown.lt hk).1
/-- 'append(out, x)', as an operation alone -/
theorem wp_app_int {P : Program} {t e : TypeId} (T : IntTy P t e) {w : World} {o : Oper} {a : Act} {K : Act → World → Prop} {Q : Exit → Act → World → Prop} (s x : Operand)
    (ho : o.op = .call { callee := .builtin .append, args := #[s, x], argTypes := #[t, t] }) (base : Nat) (v : Value) (xs : List Int) (ad : Addr) (y : Int) (hs : a.eval s = v) (hx : a.eval x = .slice (some ad) 1 1) (hown : OwnI e base w v xs)
    (hcell : w.cell? ad = some (.int .i64 y)) (hy : I64 y) (hn : xs.length + 1 ≤ 17592186044416) (hbase : base ≤ w.heap.size)
    (hK : ∀ g cap w', OwnI e base w' (.slice (some ⟨g, 0, none⟩) (xs.length + 1) cap) (xs ++ [y]) → (∀ a : World, a.heap.size ≤ base → Gr a w → Gr a w') → w.grownBy w' v.ownBlock → (v.ownBlock = some g ∨ g = w.heap.size) → g < w'.heap.size → K (a.put o.dst (.slice (some ⟨g, 0, none⟩) (xs.length + 1) cap)) w') : Oper.wp P o a w K Q := by
  have hown' := hown
  unfold OwnI at hown'
  obtain ⟨i, hi, hz, hsz, hby⟩ := info_parts T.info
  refine wp_append_lies w s x t ho base e i _ 1 8 T.und hi hz hsz hby rfl (by omega) v xs.length _ hs hown'.1 ad 1 1 [.int .i64 y] hx rfl ?_ (by simp [Value.oneCell']) (by omega) (by unfold maxLen; omega) (by omega) hbase w.heap.size rfl ?_
  · intro j u hj
    cases j with
    | zero => simp at hj; subst hj; rw [show ad.add 0 = ad by unfold Addr.add; split <;> simp_all]; exact hcell
    | succ j => simp at hj
  · intro g cap w' ho' hgr hat hlt
    have hall : ∀ z ∈ xs ++ [y], I64 z := by
      intro z hz
      rcases List.mem_append.1 hz with h1 | h1
      · exact hown'.2 z h1
      · rw [List.mem_singleton.1 h1]; exact hy
    refine hK g cap w' (by unfold OwnI; refine ⟨by simpa using ho', ?_⟩; exact hall) ?_ hgr hat hlt
    intro a hB hb
    exact hb.grown hgr fun k hk => Nat.le_trans hB (hown.lt hk).1
/-- 'append(out, x)' behind a guard that holds -/
theorem app_int_g {P : Program} {t e : TypeId} (T : IntTy P t e) {w : World} {ops : Array Oper} {rest : List Oper} {o : Oper} {a : Act} {Q : Exit → Act → World → Prop} (hw : Region.wanted o (yielded ops a.tmps) = true) (s x : Operand)
    (ho : o.op = .call { callee := .builtin .append, args := #[s, x], argTypes := #[t, t] }) (base : Nat) (v : Value) (xs : List Int) (ad : Addr) (y : Int) (hs : a.eval s = v) (hx : a.eval x = .slice (some ad) 1 1) (hown : OwnI e base w v xs)
    (hcell : w.cell? ad = some (.int .i64 y)) (hy : I64 y) (hn : xs.length + 1 ≤ 17592186044416) (hbase : base ≤ w.heap.size)
    (hK : ∀ g cap w', OwnI e base w' (.slice (some ⟨g, 0, none⟩) (xs.length + 1) cap) (xs ++ [y]) → (∀ a : World, a.heap.size ≤ base → Gr a w → Gr a w') → w.grownBy w' v.ownBlock → (v.ownBlock = some g ∨ g = w.heap.size) → g < w'.heap.size → wpList P ops Q rest (a.put o.dst (.slice (some ⟨g, 0, none⟩) (xs.length + 1) cap)) w') : wpList P ops Q (o :: rest) a w := by
  show if Region.wanted o (yielded ops a.tmps) then _ else _
  rw [if_pos hw]
  exact .inl (wp_app_int T s x ho base v xs ad y hs hx hown hcell hy hn hbase hK)
end Go.Tok
