/- Contracts of the library's IndexFunc, ContainsFunc at '[]int' where the function that is handed over answers in the world at hand; of flow.Count, bounded, change, Weigh. -/
import Derived.Test.YtkpbhkfpkoiilaaSl
import Derived.Test.YtkpbhkfpkoiilaaFlowLaw
import Derived.Test.YtkpbhkfpkoiilaaNetLit
import Derived.BigQuiet
import Derived.Deep.QuietTactic
namespace Go.Proofs.Ytkpbhkfpkoiilaa
open Go.RowKit Go.Tok
set_option linter.unusedVariables false

/-- the function g, at the world w, answers p -/
def AnswersAt (P : Program) (g : Nat) (lb : Array Value) (p : Int → Bool) (W : World) : Prop :=
  ∀ (x : Int), I64 x → Calls P g (#[.int .i64 x] ++ lb) W fun e w' => e = .returned (.bool (p x)) ∧ W = w'

set_option maxHeartbeats 400000 in
theorem IndexFuncAt_calls (v : Value) (xs : List Int) (g : Nat) (lb : Array Value) (p : Int → Bool) (w : World) (eg : ∀ args w, (callFunc g args).run Try.prog w = .ok (.enter g args) w)
    (hv : Ints w v xs) (hg : AnswersAt Try.prog g lb p w) :
    Calls Try.prog 58 #[v, .func (.func g) #[] lb] w fun e w' => e = .returned (.int .i64 (firstOf p xs)) ∧ w = w' := by
  obtain ⟨a, cap, rfl, hlc, hcap⟩ := hv.len
  go_enter Try.func58, Try.ntmps58
  go_wp2
  go_loop [8] (fun i => ∃ k : Nat, k ≤ xs.length ∧ i = .int .i64 k ∧ NoneUpto p xs k) (fun i => xs.length - (intOf i).toNat)
  case atStart => exact ⟨0, Nat.zero_le _, rfl, NoneUpto.zero _ _⟩
  case round =>
    obtain ⟨k, hk, rfl, hall⟩ := hrel
    by_cases hlt : k < xs.length
    · obtain ⟨b, o, rfl, hcell⟩ := hv.cell hlt
      have hr := hv.range k
      cases hp : p (nth xs k)
      · have hcall := hg (nth xs k) hr
        rw [hp] at hcall
        go_wp2_with (go_at_fn g; refine hcall.mono ?_; rintro e w' ⟨rfl, rfl⟩)
        go_round
        case rel => exact ⟨k + 1, by omega, by go_num, hall.succ hp⟩
        case measure => simp [intOf]; omega
      · have hcall := hg (nth xs k) hr
        rw [hp] at hcall
        go_wp2_with (go_at_fn g; refine hcall.mono ?_; rintro e w' ⟨rfl, rfl⟩)
        go_ret
        exact ⟨ret_i64 (firstOf_hit hall hlt hp).symm, rfl⟩
    · obtain rfl : k = xs.length := by omega
      go_wp2
      go_ret
      exact ⟨ret_i64 (firstOf_miss hall).symm, rfl⟩

set_option maxHeartbeats 400000 in
theorem ContainsFuncAt_calls (v : Value) (xs : List Int) (g : Nat) (lb : Array Value) (p : Int → Bool) (w : World) (eg : ∀ args w, (callFunc g args).run Try.prog w = .ok (.enter g args) w)
    (hv : Ints w v xs) (hg : AnswersAt Try.prog g lb p w) :
    Calls Try.prog 34 #[v, .func (.func g) #[] lb] w fun e w' => e = .returned (.bool (xs.any p)) ∧ w = w' := by
  go_enter Try.func34, Try.ntmps34
  go_wp2_with (go_at_call 58; refine (IndexFuncAt_calls _ _ _ _ _ _ eg hv hg).mono ?_; rintro e w' ⟨rfl, rfl⟩)
  go_ret
  exact ⟨ret_bool (firstOf_any p xs), rfl⟩


theorem bounded1_answers (W : World) (H : Nat) (least : Int) (hc : W.cell? ⟨H, 0, none⟩ = some (.int .i64 least)) (hl : I64 least) : AnswersAt Try.prog 64 #[.pointer (some ⟨H, 0, none⟩)] (overB least) W := by
  intro x hx
  by_cases h : x < least
  · go_enter Try.func64, Try.ntmps64
    go_wp2
    go_ret
    exact ⟨ret_bool (by rw [overB_def]; simp [h]), rfl⟩
  · have h : least ≤ x := by omega
    go_enter Try.func64, Try.ntmps64
    go_wp2
    all_goals go_ret
    all_goals exact ⟨ret_bool (by rw [overB_def, Bool.eq_iff_iff]; simp; omega), rfl⟩

set_option maxHeartbeats 400000 in
theorem bounded_calls (v : Value) (xs : List Int) (many least : Int) (w : World) (hv : Ints w v xs) (hm : I64 many) (hl : I64 least) :
    Calls Try.prog 54 #[v, .int .i64 many, .int .i64 least] w fun e w' => e = .returned (.bool (boundedB xs many least)) ∧ Gr w w' := by
  obtain ⟨a, cap, rfl, hlc, hcap⟩ := hv.len
  have eg : ∀ args w, (callFunc 64 args).run Try.prog w = .ok (.enter 64 args) w := (Go.Proofs.enters_of Try.func64 (by kernel_rfl) rfl)
  by_cases hlen : (xs.length : Int) = many
  · go_enter Try.func54, Try.ntmps54
    go_wp2_with (go_at_call 34; refine (ContainsFuncAt_calls _ _ _ _ _ _ eg (hv.alloc _) (bounded1_answers _ _ least (lit_cell rfl) hl)).mono ?_; rintro e w' ⟨rfl, rfl⟩)
    go_ret
    exact ⟨ret_bool (by rw [boundedB_def]; simp [hlen]), by (repeat (first | exact Gr.refl _ | assumption | apply Gr.alloc | apply Gr.drew | apply Gr.drewN | refine Gr.trans ?_ (by assumption)))⟩
  · have hlen' : ((xs.length : Int) == many) = false := by simpa using hlen
    go_enter Try.func54, Try.ntmps54
    go_wp2_with fail
    go_ret
    exact ⟨ret_bool (by rw [boundedB_def]; simp [hlen]), by (repeat (first | exact Gr.refl _ | assumption | apply Gr.alloc | apply Gr.drew | apply Gr.drewN | refine Gr.trans ?_ (by assumption)))⟩

set_option maxHeartbeats 1000000 in
theorem Count_calls (v u : Value) (N : NetD) (seq : List Int) (w : World) (hN : NetR w v N) (hu : Ints w u seq) (ln : N.trans.length ≤ 17592186044416) (ls : seq.length ≤ 17592186044416) :
    Calls Try.prog 38 #[v, u] w fun e w' => ∃ v', e = .returned v' ∧ OwnI 3 (w.heap.size + 1) w' v' (countL N.trans.length seq) ∧ Gr w w' := by
  have T := intTy
  have hN' := hN
  obtain ⟨a, cap, rfl, hnl, hncap, hpl, hT⟩ := hN.open_
  have hpl1 := hpl.1
  have hpl2 := hpl.2
  obtain ⟨ua, uc, rfl, ul, ul'⟩ := hu.len
  go_enter Try.func38, Try.ntmps38
  go_wp2_with (at_make; refine mk_ints T _ _ (w.heap.size + 1) N.trans.length _ _ rfl rfl rfl rfl (by omega) (by omega) (by omega) (by simp) ?_; intro w1 hown hb hsz)
  rw [← countL_nil] at hown
  go_loopw [14] (fun i wr => ∃ k : Nat, k ≤ seq.length ∧ i = .int .i64 k ∧ OwnI 3 (w.heap.size + 1) wr (.slice (some ⟨w.heap.size + 1, 0, none⟩) N.trans.length N.trans.length) (countL N.trans.length (seq.take k)) ∧ Gr w wr) (fun i _ => seq.length - (intOf i).toNat)
  case atStart => exact ⟨0, Nat.zero_le _, rfl, by simpa using hown, by (repeat (first | exact Gr.refl _ | assumption | apply Gr.alloc | apply Gr.drew | apply Gr.drewN | refine Gr.trans ?_ (by assumption)))⟩
  case round =>
    rename_i wr _
    obtain ⟨k, hk, rfl, ho, hgr⟩ := hrel
    have hu' := hu.gr hgr
    by_cases hlt : k < seq.length
    · obtain ⟨b, o, rfl, hcell⟩ := hu'.cell hlt
      have htk := countL_take hlt
      by_cases h0 : nth seq k < 0
      · go_wp2_with fail
        go_roundw
        case rel => exact ⟨k + 1, by omega, by go_num, by rw [countL_take hlt, ← countL_miss _ (.inl h0)]; exact ho, hgr⟩
        case measure => simp [intOf]; omega
      by_cases h1 : (N.trans.length : Int) ≤ nth seq k
      · go_wp2_with fail
        go_roundw
        case rel => exact ⟨k + 1, by omega, by go_num, by rw [countL_take hlt, ← countL_miss _ (.inr h1)]; exact ho, hgr⟩
        case measure => simp [intOf]; omega
      obtain ⟨j, hj⟩ := Int.eq_ofNat_of_zero_le (show 0 ≤ nth seq k by omega)
      have hjn : j < N.trans.length := by omega
      have hjn' : (j : Int) < (N.trans.length : Int) := by omega
      have hj0 : (0 : Int) ≤ (j : Int) := by omega
      rw [hj] at hcell
      have HJ := Lib.hid hj
      clear h0 h1 hj htk
      have c := ho.cell (i := j) (by rw [countL_len]; exact hjn)
      have fz := ho.frozen j
      have hcl := countOf_le (seq.take k) j
      rw [← countL_nth _ hjn] at hcl
      have hcl1 := hcl.1
      have hcl2 : nth (countL N.trans.length (seq.take k)) j ≤ 17592186044416 := by have := hcl.2; simp at this; omega
      clear hcl
      have o1 := ho.set j (nth (countL N.trans.length (seq.take k)) j + 1) (by unfold I64; omega)
      rw [countL_hit _ hjn] at o1
      go_wp2_with fail
      go_roundw
      case rel => exact ⟨k + 1, by omega, by go_num, by rw [countL_take hlt, HJ.out]; exact o1, hgr.setCell (by simp) _⟩
      case measure => simp [intOf]; omega
    · go_wp2_with fail
      go_ret
      refine ⟨_, rfl, ?_, hgr⟩
      rw [List.take_of_length_le (by omega)] at ho
      exact ho

theorem change_calls (v p q : Value) (lab : Int) (pre post : List Int) (k : Nat) (w : World) (hp : Ints w p pre) (hq : Ints w q post) (h1 : k < pre.length) (h2 : k < post.length) (hr : I64 (nth post k - nth pre k)) :
    Calls Try.prog 55 #[.agg #[.int .i64 lab, p, q], .int .i64 k] w fun e w' => e = .returned (.int .i64 (nth post k - nth pre k)) ∧ Gr w w' := by
  obtain ⟨pa, pc, rfl, pl, pl'⟩ := hp.len
  obtain ⟨qa, qc, rfl, ql, ql'⟩ := hq.len
  obtain ⟨b, o, rfl, c1⟩ := (hp.alloc (.cells #[.int .i64 lab, .slice pa pre.length pc, .slice qa post.length qc] 54)).cell h1
  obtain ⟨b', o', rfl, c2⟩ := (hq.alloc (.cells #[.int .i64 lab, .slice (some ⟨b, o, none⟩) pre.length pc, .slice qa post.length qc] 54)).cell h2
  have i1 : (0 : Int) ≤ (k : Int) := by omega
  have i2 : (k : Int) < (pre.length : Int) := by omega
  have i3 : (k : Int) < (post.length : Int) := by omega
  have r1 := hr.1
  have r2 := hr.2
  go_enter Try.func55, Try.ntmps55
  go_wp2_with fail
  go_quiet (fail)
  go_wp2_with fail
  go_ret
  exact ⟨rfl, by (repeat (first | exact Gr.refl _ | assumption | apply Gr.alloc | apply Gr.drew | apply Gr.drewN | refine Gr.trans ?_ (by assumption)))⟩
end Go.Proofs.Ytkpbhkfpkoiilaa
