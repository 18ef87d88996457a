/- Contracts of the library's slices.Values, AppendSeq, Collect and Sorted at ints: slices.Sorted(slices.Values(xs)). -/
import Derived.RangeFuncCalls
import Derived.RangeFuncLeaves
import Derived.RangeFuncBox
import Derived.Shelf.Abstract
import Derived.Shelf.RegionOpen
import Derived.WalkKit
import Derived.OwnWalkIn
import Derived.TacticsInMore
import Derived.LoopNIn
import Derived.LoopIn
import Derived.Test.YtkanaoebpajbfaaSortI
import Derived.Test.YtkanaoebpajbfaaSortNil
namespace Go.Proofs.Ytkanaoebpajbfaa
open Go.RowKit Go.Tok Go.Shelf
set_option linter.unusedVariables false
set_option linter.unusedSimpArgs false
attribute [local go_sem] Oper.semAt_some
theorem gr_of_below {w W : World} (h : Below w.heap.size w W) : Gr w W := by unfold Gr; exact h
set_option maxRecDepth 100000 in
set_option maxHeartbeats 2000000 in
theorem values1_in (n : Nat) (hn : 1 ≤ n) (l Bs : Nat) (a : Option Addr) (len cap : Nat) (zs : List Int) (hlen : len ≤ 5864062014805) (w0 : World) (hZ : Ints w0 (.slice a len cap) zs) (hzl : zs.length = len) (J Jx : List Int → World → Prop)
    (hY : ∀ pre x W, J pre W → pre.length < len → YieldAt Fence.wide (n - 1) Try.prog l #[.int .i64 x] W fun e W' =>
      (e = .returned (.bool true) ∧ J (pre ++ [x]) W' ∧ Below w0.heap.size W W') ∨ (e = .returned (.bool false) ∧ Jx (pre ++ [x]) W'))
    (W : World) (hBs : W.cell? ⟨Bs, 0, none⟩ = some (.slice a len cap)) (hW : Below w0.heap.size w0 W) (h0 : J [] W) :
    CallsIn Fence.wide n Try.prog 152 #[.func (.yield l) #[] #[], .pointer (some ⟨Bs, 0, none⟩)] W fun e W' => (∃ v, e = .returned v) ∧
      (J zs W' ∨ (∃ pre, pre <+: zs ∧ Jx pre W')) := by
  refine callsIn_of_wp Try.func152 rfl trivial ?_ rfl
  simp only [Try.ntmps152, List.size_toArray, List.length_cons, List.length_nil, Nat.reduceAdd, Nat.reduceSub, Array.replicate_succ, Array.replicate_zero, List.push_toArray, List.append_toArray, List.nil_append, List.cons_append]
  have HZL := Lib.hid hzl
  gi_wp2
  gi_loopw [7] (fun i wr => ∃ k : Nat, k ≤ len ∧ i = .int .i64 k ∧ J (zs.take k) wr ∧ Below w0.heap.size w0 wr)
    (fun i _ => len - (intOf i).toNat)
  case atStart => exact ⟨0, Nat.zero_le _, rfl, by simpa using h0, hW⟩
  case round =>
    obtain ⟨k, hk, rfl, hJs, hnx⟩ := hrel
    by_cases hlt : k < len
    · obtain ⟨b, o, rfl, hcx⟩ := (hZ.gr (gr_of_below hnx)).cell (i := k) (by rw [hzl]; exact hlt)
      obtain ⟨fn, tmps, assign, body, hy, hR⟩ := hY _ (nth zs k) _ hJs (by rw [List.length_take]; omega)
      have hkI : (k : Int) < (len : Int) := by omega
      have htk := Lib.hid (show zs.take (k + 1) = zs.take k ++ [nth zs k] by rw [List.take_succ_eq_append_getElem (by omega), nth_lt (by omega)])
      clear hzl
      gi_wp2
      refine hR.mono ?_
      rintro e W3 (⟨rfl, hJ3, hk3⟩ | ⟨rfl, hJx3⟩)
      · gi_wp2
        go_roundw
        case rel => exact ⟨k + 1, by omega, by simp, by rw [htk.out]; exact hJ3, hnx.trans hk3⟩
        case measure => simp [intOf]; omega
      · gi_wp2
        refine bodyPost_ret (results_none rfl _ _ _) rfl ?_
        exact ⟨⟨_, rfl⟩, .inr ⟨_, by rw [← htk.out]; exact List.take_prefix _ _, hJx3⟩⟩
    · obtain rfl : k = len := by omega
      have hJ := Lib.hid (show J zs _ by rw [← hzl, List.take_length] at hJs; exact hJs)
      clear hJs hzl
      gi_wp2
      go_end0
      exact ⟨⟨_, rfl⟩, .inl hJ.out⟩
theorem values_calls (a : Option Addr) (len cap : Nat) (w : World) :
    Calls Try.prog 100 #[.slice a len cap] w fun e w' => e = .returned (.func (.func 152) #[] #[.pointer (some ⟨w.heap.size, 0, none⟩)]) ∧ w' = w.alloc (.cells #[.slice a len cap] 25) := by
  go_enter Try.func100, Try.ntmps100
  go_wp2_with fail
  go_ret
  exact ⟨rfl, rfl⟩
theorem values_stops (n : Nat) (hn : 1 ≤ n) (Bs : Nat) (a : Option Addr) (len cap : Nat) (zs : List Int) (hlen : len ≤ 5864062014805) (w0 w : World) (hZ : Ints w0 (.slice a len cap) zs) (hzl : zs.length = len) (hBs : Bs < w.heap.size) (hG : Below w0.heap.size w0 w)
    (hc : w.cell? ⟨Bs, 0, none⟩ = some (.slice a len cap)) :
    SeqStopsK Fence.wide n Try.prog 152 #[.pointer (some ⟨Bs, 0, none⟩)] (fun x : Int => #[Value.int .i64 x]) (Below w0.heap.size) (fun ys => ys = zs) (fun pre => pre <+: zs) len w := fun l J Jx W hW _ _ hY h0 => by
  have hc' := (hW.cell (p := ⟨Bs, 0, none⟩) hBs).trans hc
  refine (values1_in n hn l Bs a len cap zs hlen w0 hZ hzl J Jx hY W hc' (hG.trans (hW.mono hG.size)) h0).mono ?_
  rintro e W' ⟨he, hj | ⟨pre, hp, hj⟩⟩
  · exact ⟨he, .inl ⟨_, rfl, hj⟩⟩
  · exact ⟨he, .inr ⟨_, hp, hj⟩⟩
set_option maxRecDepth 100000 in
set_option maxHeartbeats 2000000 in
theorem appendSeq_calls (Bs : Nat) (a : Option Addr) (len cap : Nat) (zs : List Int) (hlen : len ≤ 5864062014805) (w0 w : World) (hZ : Ints w0 (.slice a len cap) zs) (hzl : zs.length = len) (hBs : Bs < w.heap.size) (hG : Below w0.heap.size w0 w)
    (hc : w.cell? ⟨Bs, 0, none⟩ = some (.slice a len cap)) :
    Calls Try.prog 178 #[.slice none 0 0, .func (.func 152) #[] #[.pointer (some ⟨Bs, 0, none⟩)]] w fun e W' => ∃ v, e = .returned v ∧ W'.ownsRow w.heap.size 3 1 v zs.length (zs.map (Value.int .i64)) ∧ Below w.heap.size w W' := by
  obtain ⟨i0, hi, hz0, hz1, hz2⟩ := info_parts intTy.info
  refine (callsIn_wide (n := 5)).1 ?_
  refine callsIn_of_wp_marks Try.func178 rfl trivial ?_ rfl
  simp only [Try.ntmps178, List.size_toArray, List.length_cons, List.length_nil, Nat.reduceAdd, Nat.reduceSub, Array.replicate_succ, Array.replicate_zero, List.push_toArray, List.append_toArray, List.nil_append, List.cons_append]
  gi_wp2
  have bO := Boxed.new w 25 (.slice none 0 0)
  have hB0 : Below w.heap.size w (w.alloc (.cells #[.slice none 0 0] 25)) := (Below.refl _ w).alloc (Nat.le_refl _) _
  have hgs := hG.size
  refine wpIn_rangeFunc_ownG (F := Fence.wide) rfl (by omega) (gf := 152) (lb := #[.pointer (some ⟨Bs, 0, none⟩)]) rfl trivial (Go.Proofs.enters_of Try.func152 (by kernel_rfl) rfl)
    (values_stops (5 - 1) (by omega) Bs a len cap zs hlen w0 _ hZ hzl (by simp; omega) (hG.trans (hB0.mono hgs)) ((hB0.cell (p := ⟨Bs, 0, none⟩) hBs).trans hc)) belowK_t (belowK_b (by simp; omega)) (Below.refl _ _) (fun _ => rfl)
    (fun pre W => (∃ v, Boxed W w.heap.size 25 v ∧ W.ownsRow w.heap.size 3 1 v pre.length (pre.map (Value.int .i64)) ∧ True) ∧ Below w.heap.size w W)
    (fun _ _ _ => False)
    (OwnFrom.and (Own.from (holdsRow_own w.heap.size w.heap.size 25 3 1 (fun pre : List Int => pre.length) (fun pre : List Int => pre.map (Value.int .i64)) (fun _ _ => True)) _) (ownFrom_below (Nat.le_refl _) (by simp)))
    (fun _ _ _ _ _ hs _ _ => hs)
    ⟨⟨_, bO, World.ownsRow_nil _ _ _ _, trivial⟩, hB0⟩
    (fun x => { tmps := #[.slice none 0 0, .func (.func 152) #[] #[.pointer (some ⟨Bs, 0, none⟩)], .pointer (some ⟨w.heap.size, 0, none⟩), undef, .slice none 0 0, .int .i64 x, .func (.func 152) #[] #[.pointer (some ⟨Bs, 0, none⟩)], .int .i64 x, undef, undef, undef, undef, undef], defers := [] }) ?assign ?body ?done ?stop
  case assign =>
    intro l x W K hK
    gi_wp2
    exact hK
  case body =>
    rintro l pre x W ⟨⟨v, hv, hrow, -⟩, hB⟩ hlt
    have hc := hv.cell
    have hml : len ≤ 9223372036854775807 := by omega
    gi_wp2_with (gi_at_builtin; refine wpListIn_append_own _ rfl _ _ 25 rfl w.heap.size 3 i0 (.int .i64 0) 1 8 intTy.und hi hz0 hz1 hz2 rfl (by decide) _ _ _ rfl (hrow.alloc _) ⟨W.heap.size, 0, none⟩ 1 1 [.int .i64 x] rfl rfl (cell_one_new _ _ _) (by simp [Value.oneCell']) (by unfold maxLen; omega) (by omega) (by have := hB.size; simp; omega) ?_; intro v' w1 hown' hgrow _; obtain ⟨g', cap', rfl⟩ := ownsRow_succ hown'; obtain ⟨hv1, hv2, hr2, hk2, hb2⟩ := hv.appended (by decide) hrow hB.size (Nat.le_refl _) hown' hgrow; have hc1 := hv1.cell; have hf1 := hv1.frozen)
    exact ⟨hk2.from _, hb2.mono hgs, ⟨_, hv2, by simpa using hr2, trivial⟩, hB.trans hb2⟩
  case done =>
    rintro D ys W hD rfl ⟨⟨v, hv, hrow, -⟩, hB⟩ hK
    have hc := hv.cell
    gi_wp2
    refine ⟨by simp, .inl ⟨_, _, rfl, run_takeDeferred hK, ?_⟩⟩
    exact ⟨_, results_tmp rfl _ _ _, v, rfl, ownsRow_putObj hrow _ hK rfl, hB.trans (belowK_b (w := w) (Nat.le_refl _) W D _ _ (by simp at hD; omega) hK rfl rfl)⟩
  case stop =>
    rintro D c pre W _ _ h _
    exact h.elim
theorem collect_calls (Bs : Nat) (a : Option Addr) (len cap : Nat) (zs : List Int) (hlen : len ≤ 5864062014805) (w0 w : World) (hZ : Ints w0 (.slice a len cap) zs) (hzl : zs.length = len) (hBs : Bs < w.heap.size) (hG : Below w0.heap.size w0 w)
    (hc : w.cell? ⟨Bs, 0, none⟩ = some (.slice a len cap)) :
    Calls Try.prog 151 #[.func (.func 152) #[] #[.pointer (some ⟨Bs, 0, none⟩)]] w fun e W' => ∃ v, e = .returned v ∧ OwnI 3 w.heap.size W' v zs ∧ Gr w W' := by
  have hr : ∀ x ∈ zs, I64 x := fun x hx => by
    obtain ⟨k, hk, rfl⟩ := List.getElem_of_mem hx
    have := hZ.range k
    rwa [nth_lt hk] at this
  go_enter Try.func151, Try.ntmps151
  go_wp2_with fail
  refine (appendSeq_calls Bs a len cap zs hlen w0 _ hZ hzl hBs hG hc).mono ?_
  rintro _ w1 ⟨v, rfl, hrow, hB⟩
  go_wp2_with fail
  go_ret
  exact ⟨_, rfl, by unfold OwnI; exact ⟨hrow, hr⟩, gr_of_below hB⟩
set_option maxRecDepth 100000 in
/-- slices.Sorted(slices.Values(xs)) -/
theorem sorted_calls (Bs : Nat) (a : Option Addr) (len cap : Nat) (zs : List Int) (hlen : len ≤ 5864062014805) (w0 w : World) (hZ : Ints w0 (.slice a len cap) zs) (hzl : zs.length = len) (hBs : Bs < w.heap.size) (hG : Below w0.heap.size w0 w)
    (hc : w.cell? ⟨Bs, 0, none⟩ = some (.slice a len cap)) :
    Calls Try.prog 99 #[.func (.func 152) #[] #[.pointer (some ⟨Bs, 0, none⟩)]] w fun e W' => ∃ v, e = .returned v ∧ OwnI 3 w.heap.size W' v (sortI zs) ∧ Gr w W' := by
  have hzb := Lib.hid (show zs.length < 4611686018427387904 by omega)
  have hcol := collect_calls Bs a len cap zs hlen w0 _ hZ hzl hBs hG hc
  clear hzl hc hZ hG hBs
  go_enter Try.func99, Try.ntmps99
  go_wp2_with fail
  refine hcol.mono ?_
  rintro _ w1 ⟨v, rfl, ho, g1⟩
  rcases ho.form with ⟨rfl, hz⟩ | ⟨g, c, rfl, hg1, hg2, hg3, hg4⟩
  · subst hz
    go_wp2_with fail
    refine (Sort_nil (.slice none 0 0) _).mono ?_
    rintro _ _ ⟨rfl, rfl⟩
    go_wp2_with fail
    go_ret
    exact ⟨_, rfl, by simpa [sortI] using ho, g1⟩
  · go_wp2_with fail
    refine (Sort_calls g c _ zs _ ho hzb.out).mono ?_
    rintro _ w2 ⟨rfl, o2, g2⟩
    go_wp2_with fail
    go_ret
    exact ⟨_, rfl, o2, g1.grown g2 (fun k e => by cases e; exact hg1)⟩
end Go.Proofs.Ytkanaoebpajbfaa
