/- Contracts of live.Right, Live, Home and of the library's Contains at '[]bool', ContainsFunc at '[]api.Arc'. -/
import Derived.Test.YtelfbfjegmncaaaLive2
import Derived.Test.YtelfbfjegmncaaaFind
namespace Go.Proofs.Ytelfbfjegmncaaa
open Go.RowKit Go.Tok
set_option linter.unusedVariables false
set_option maxHeartbeats 400000 in
theorem IndexB_calls (v : Value) (xs : List Bool) (x : Bool) (w : World) (hv : Rd boolK w v xs) :
    Calls Try.prog 108 #[v, .bool x] w fun e w' => e = .returned (.int .i64 (firstI (fun y => x == y) xs)) ∧ w = w' := by
  obtain ⟨a, cap, rfl, hlc, hcap⟩ := hv.len
  go_enter Try.func108, Try.ntmps108
  go_wp2
  go_loop [8] (fun i => ∃ k : Nat, k ≤ xs.length ∧ i = .int .i64 k ∧ NoneI (fun y => x == y) xs k) (fun i => xs.length - (intOf i).toNat)
  case atStart => exact ⟨0, Nat.zero_le _, rfl, NoneI.zero _ _⟩
  case round =>
    obtain ⟨k, hk, rfl, hall⟩ := hrel
    by_cases hlt : k < xs.length
    · obtain ⟨b, o, rfl, hcell⟩ := hv.bool hlt
      cases hp : (x == ix xs k)
      · go_wp2
        go_round
        case rel => exact ⟨k + 1, by omega, by go_num, hall.succ hp⟩
        case measure => simp [intOf]; omega
      · go_wp2
        go_ret
        exact ⟨ret_i64 (firstI_hit hall hlt hp).symm, rfl⟩
    · obtain rfl : k = xs.length := by omega
      go_wp2
      go_ret
      exact ⟨ret_i64 (firstI_miss hall).symm, rfl⟩
theorem ContainsB_calls (v : Value) (xs : List Bool) (x : Bool) (w : World) (hv : Rd boolK w v xs) :
    Calls Try.prog 67 #[v, .bool x] w fun e w' => e = .returned (.bool (xs.contains x)) ∧ w = w' := by
  obtain ⟨a, cap, rfl, hlc, hcap⟩ := hv.len
  go_enter Try.func67, Try.ntmps67
  go_wp2_with (go_at_call 108; refine (IndexB_calls _ _ _ _ hv).mono ?_; rintro e w' ⟨rfl, rfl⟩)
  go_ret
  exact ⟨ret_bool (by rw [firstI_any, List.contains_eq_any_beq]), rfl⟩
/-- the function g, bound to lb, answers p at each arc, in w0 and in every later world -/
def AnswersArc (P : Program) (g : Nat) (lb : Array Value) (xs : List ArcD) (p : ArcD → Bool) (w0 : World) : Prop :=
  ∀ (W : World) (a : ArcD), a ∈ xs → Gr w0 W → arcI a → Calls P g (#[.agg #[.int .i64 a.src, .int .i64 a.tran, .int .i64 a.dst]] ++ lb) W fun e w' => e = .returned (.bool (p a)) ∧ Gr W w'
set_option maxHeartbeats 1000000 in
theorem IndexFuncArc_calls (v : Value) (xs : List ArcD) (g : Nat) (lb : Array Value) (p : ArcD → Bool) (w : World) (eg : ∀ args w, (callFunc g args).run Try.prog w = .ok (.enter g args) w)
    (hv : Rd arcK w v xs) (hg : AnswersArc Try.prog g lb xs p w) :
    Calls Try.prog 107 #[v, .func (.func g) #[] lb] w fun e w' => e = .returned (.int .i64 (firstI p xs)) ∧ Gr w w' := by
  obtain ⟨a, cap, rfl, hlc, hcap⟩ := hv.len
  go_enter Try.func107, Try.ntmps107
  go_wp2
  go_loopw [8] (fun i wr => ∃ k : Nat, k ≤ xs.length ∧ i = .int .i64 k ∧ NoneI p xs k ∧ Gr w wr) (fun i _ => xs.length - (intOf i).toNat)
  case atStart => exact ⟨0, Nat.zero_le _, rfl, NoneI.zero _ _, Gr.refl _⟩
  case round =>
    rename_i wr _
    obtain ⟨k, hk, rfl, hall, hgr⟩ := hrel
    by_cases hlt : k < xs.length
    · obtain ⟨b, o, rfl, c0, c1, c2, hI⟩ := (hv.gr hgr).arc hlt
      have hcall := hg wr (ix xs k) (ix_mem hlt) hgr hI
      cases hb : p (ix xs k)
      · rw [hb] at hcall
        go_wp2_with (go_at_fn g; refine hcall.mono ?_; rintro e w' ⟨rfl, g2⟩)
        go_roundw
        case rel => exact ⟨k + 1, by omega, by go_num, hall.succ hb, by (repeat (first | exact Gr.refl _ | assumption | apply Gr.alloc | apply Gr.drew | apply Gr.drewN | refine Gr.trans ?_ (by assumption)))⟩
        case measure => simp [intOf]; omega
      · rw [hb] at hcall
        go_wp2_with (go_at_fn g; refine hcall.mono ?_; rintro e w' ⟨rfl, g2⟩)
        go_ret
        exact ⟨ret_i64 (firstI_hit hall hlt hb).symm, by (repeat (first | exact Gr.refl _ | assumption | apply Gr.alloc | apply Gr.drew | apply Gr.drewN | refine Gr.trans ?_ (by assumption)))⟩
    · obtain rfl : k = xs.length := by omega
      go_wp2
      go_ret
      exact ⟨ret_i64 (firstI_miss hall).symm, hgr⟩
set_option maxHeartbeats 400000 in
theorem ContainsFuncArc_calls (v : Value) (xs : List ArcD) (g : Nat) (lb : Array Value) (p : ArcD → Bool) (w : World) (eg : ∀ args w, (callFunc g args).run Try.prog w = .ok (.enter g args) w)
    (hv : Rd arcK w v xs) (hg : AnswersArc Try.prog g lb xs p w) :
    Calls Try.prog 64 #[v, .func (.func g) #[] lb] w fun e w' => e = .returned (.bool (xs.any p)) ∧ Gr w w' := by
  go_enter Try.func64, Try.ntmps64
  go_wp2_with (go_at_call 107; refine (IndexFuncArc_calls _ _ _ _ _ _ eg hv hg).mono ?_; rintro e w' ⟨rfl, g1⟩)
  go_ret
  exact ⟨ret_bool (firstI_any p xs), g1⟩
set_option maxHeartbeats 1000000 in
set_option maxRecDepth 100000 in
theorem Right1A_answers (w0 : World) (nb n : Nat) (xs : List ArcD) (hn : n ≤ 9223372036854775807) (hc : w0.cell? ⟨nb, 0, none⟩ = some (.int .i64 (n : Int))) :
    AnswersArc Try.prog 65 #[.pointer (some ⟨nb, 0, none⟩)] xs (arcBad n) w0 := by
  intro W x hx g hI
  have GA : Gr W (W.alloc (.cells #[.int .i64 x.src, .int .i64 x.tran, .int .i64 x.dst] 56)) := (Gr.refl _).alloc _
  have c := cell_gr (cell_gr hc g) GA
  have A0 : (W.alloc (.cells #[.int .i64 x.src, .int .i64 x.tran, .int .i64 x.dst] 56)).cell? ⟨W.heap.size, 0, none⟩ = some (.int .i64 x.src) := box_cell (Gr.refl _) (i := 0) rfl
  have A2 : (W.alloc (.cells #[.int .i64 x.src, .int .i64 x.tran, .int .i64 x.dst] 56)).cell? ⟨W.heap.size, 2, none⟩ = some (.int .i64 x.dst) := box_cell (Gr.refl _) (i := 2) rfl
  go_enter Try.func65, Try.ntmps65
  go_wp2_with fail
  all_goals go_ret
  all_goals exact ⟨ret_bool (by unfold arcBad; first | rfl | (rw [Bool.eq_iff_iff]; (first | (simp; done) | (simp; omega))) | (simp [*]; done)), GA⟩
set_option maxHeartbeats 1000000 in
set_option maxRecDepth 100000 in
theorem SRight_calls (v : Value) (S : SpaceD) (w : World) (hv : SpaceR w v S) :
    Calls Try.prog 21 #[v] w fun e w' => e = .returned (.bool (sRightB S)) ∧ Gr w w' := by
  obtain ⟨ma, mc, aa, ac, rfl, hc1, hc2, hc3, hc4, hM, hA⟩ := hv.open_
  have eg : ∀ args w, (callFunc 65 args).run Try.prog w = .ok (.enter 65 args) w := (Go.Proofs.enters_of Try.func65 (by kernel_rfl) rfl)
  have GA : Gr w ((w.alloc (.cells #[.slice ma S.marks.length mc, .slice aa S.arcs.length ac] 40)).alloc (.cells #[.int .i64 (S.marks.length : Int)] 3)) := ((Gr.refl _).alloc _).alloc _
  have N0 : ((w.alloc (.cells #[.slice ma S.marks.length mc, .slice aa S.arcs.length ac] 40)).alloc (.cells #[.int .i64 (S.marks.length : Int)] 3)).cell? ⟨w.heap.size + 1, 0, none⟩ = some (.int .i64 (S.marks.length : Int)) := lit_cell (by simp)
  go_enter Try.func21, Try.ntmps21
  go_wp2_with fail
  refine (ContainsFuncArc_calls _ S.arcs 65 _ (arcBad S.marks.length) _ eg (hA.gr GA) (Right1A_answers _ _ _ _ (by omega) N0)).mono ?_
  rintro _ w1 ⟨rfl, g1⟩
  go_wp2_with fail
  all_goals go_ret
  all_goals exact ⟨ret_bool (by unfold sRightB; first | rfl | simp [*]), GA.trans g1⟩
end Go.Proofs.Ytelfbfjegmncaaa
