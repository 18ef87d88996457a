/- Contracts of tokenhallref.SameSpace and what it calls, at two that are the same: they answer true. -/
import Derived.Test.YtelfbfjegmncaaaReach5
import Derived.Test.YtelfbfjegmncaaaRowFn
import Derived.Test.YtelfbfjegmncaaaSl
import Derived.BigQuiet
import Derived.Deep.QuietTactic
namespace Go.Proofs.Ytelfbfjegmncaaa
open Go.RowKit Go.Tok
set_option linter.unusedVariables false
set_option maxHeartbeats 1000000 in
set_option maxRecDepth 100000 in
theorem EqualArc_self (v u : Value) (xs : List ArcD) (w : World) (hv : Rd arcK w v xs) (hu : Rd arcK w u xs) :
    Calls Try.prog 75 #[v, u] w fun e w' => e = .returned (.bool true) ∧ Gr w w' := by
  obtain ⟨a, cap, rfl, hlc, hcap⟩ := hv.len
  obtain ⟨a', cap', rfl, hlc', hcap'⟩ := hu.len
  have q0 : ((xs.length : Int) != (xs.length : Int)) = false := by simp
  go_enter Try.func75, Try.ntmps75
  go_wp2_with fail
  go_loopw [13] (fun i wr => ∃ k : Nat, k ≤ xs.length ∧ i = .int .i64 k ∧ Gr w wr) (fun i _ => xs.length - (intOf i).toNat)
  case atStart => exact ⟨0, Nat.zero_le _, rfl, Gr.refl _⟩
  case round =>
    rename_i wr _
    obtain ⟨k, hk, rfl, hgr⟩ := hrel
    by_cases hlt : k < xs.length
    · obtain ⟨b, o, rfl, c0, c1, c2, hI⟩ := (hv.gr hgr).arc hlt
      obtain ⟨b', o', rfl, d0, d1, d2, _⟩ := (hu.gr hgr).arc hlt
      have hkI : (k : Int) < (xs.length : Int) := by omega
      go_wp2_with fail
      go_quiet (fail)
      go_wp2_with fail
      go_roundw
      case rel => exact ⟨k + 1, by omega, by go_num, by (repeat (first | exact Gr.refl _ | assumption | apply Gr.alloc | apply Gr.drew | apply Gr.drewN | refine Gr.trans ?_ (by assumption)))⟩
      case measure => simp [intOf]; omega
    · go_wp2_with fail
      go_ret
      exact ⟨rfl, hgr⟩
theorem SameLists1_self (v u : Value) (x : List Int) (w : World) (hv : Ints w v x) (hu : Ints w u x) :
    Calls Try.prog 112 #[v, u] w fun e w' => e = .returned (.bool true) ∧ Gr w w' := by
  have e1 := eqB_yes (rfl : x = x)
  obtain ⟨a, cap, rfl, _, _⟩ := hv.len
  obtain ⟨a', cap', rfl, _, _⟩ := hu.len
  go_enter Try.func112, Try.ntmps112
  go_wp2_with fail
  refine (Equal_calls _ _ x x _ hv hu).mono ?_
  rw [e1]; rintro _ w1 ⟨rfl, g1⟩
  go_wp2_with fail
  go_ret
  exact ⟨rfl, g1⟩
set_option maxHeartbeats 1000000 in
set_option maxRecDepth 100000 in
theorem EqualFuncRow_self (v u : Value) (xs : List (List Int)) (w : World) (hv : Rd rowK w v xs) (hu : Rd rowK w u xs) :
    Calls Try.prog 111 #[v, u, .func (.func 112) #[] #[]] w fun e w' => e = .returned (.bool true) ∧ Gr w w' := by
  obtain ⟨a, cap, rfl, hlc, hcap⟩ := hv.len
  obtain ⟨a', cap', rfl, hlc', hcap'⟩ := hu.len
  have q0 : ((xs.length : Int) != (xs.length : Int)) = false := by simp
  have eg : ∀ args w, (callFunc 112 args).run Try.prog w = .ok (.enter 112 args) w := (Go.Proofs.enters_of Try.func112 (by kernel_rfl) rfl)
  go_enter Try.func111, Try.ntmps111
  go_wp2_with fail
  go_loopw [17] (fun i wr => ∃ k : Nat, k ≤ xs.length ∧ i = .int .i64 k ∧ Gr w wr) (fun i _ => xs.length - (intOf i).toNat)
  case atStart => exact ⟨0, Nat.zero_le _, rfl, Gr.refl _⟩
  case round =>
    rename_i wr _
    obtain ⟨k, hk, rfl, hgr⟩ := hrel
    by_cases hlt : k < xs.length
    · obtain ⟨b, o, z, rfl, c0, hI⟩ := (hv.gr hgr).row hlt
      obtain ⟨b', o', z', rfl, d0, hJ⟩ := (hu.gr hgr).row hlt
      obtain ⟨za, zc, rfl, _, _⟩ := hI.len
      obtain ⟨za', zc', rfl, _, _⟩ := hJ.len
      have hkI : (k : Int) < (xs.length : Int) := by omega
      have hcall := SameLists1_self _ _ _ wr hI hJ
      go_wp2_with (go_at_fn 112; refine hcall.mono ?_; rintro e w' ⟨rfl, g2⟩)
      go_roundw
      case rel => exact ⟨k + 1, by omega, by go_num, hgr.trans g2⟩
      case measure => simp [intOf]; omega
    · go_wp2_with fail
      go_ret
      exact ⟨rfl, hgr⟩
theorem SameLists_self (v u : Value) (xs : List (List Int)) (w : World) (hv : Rd rowK w v xs) (hu : Rd rowK w u xs) :
    Calls Try.prog 74 #[v, u] w fun e w' => e = .returned (.bool true) ∧ Gr w w' := by
  obtain ⟨a, cap, rfl, hlc, hcap⟩ := hv.len
  obtain ⟨a', cap', rfl, hlc', hcap'⟩ := hu.len
  go_enter Try.func74, Try.ntmps74
  go_wp2_with fail
  refine (EqualFuncRow_self _ _ xs _ hv hu).mono ?_
  rintro _ w1 ⟨rfl, g1⟩
  go_wp2_with fail
  go_ret
  exact ⟨rfl, g1⟩
set_option maxHeartbeats 1000000 in
set_option maxRecDepth 100000 in
theorem SameSpace_self (v u : Value) (S : SpaceD) (w : World) (hv : SpaceR w v S) (hu : SpaceR w u S) :
    Calls Try.prog 28 #[v, u] w fun e w' => e = .returned (.bool true) ∧ Gr w w' := by
  obtain ⟨ma, mc, aa, ac, rfl, _, _, _, _, hm, ha⟩ := hv.open_
  obtain ⟨ma', mc', aa', ac', rfl, _, _, _, _, hm', ha'⟩ := hu.open_
  have GB : Gr w ((w.alloc (.cells #[.slice ma S.marks.length mc, .slice aa S.arcs.length ac] 40)).alloc (.cells #[.slice ma' S.marks.length mc', .slice aa' S.arcs.length ac'] 40)) := ((Gr.refl _).alloc _).alloc _
  go_enter Try.func28, Try.ntmps28
  go_wp2_with fail
  refine (SameLists_self _ _ S.marks _ (hm.gr GB) (hm'.gr GB)).mono ?_
  rintro _ w1 ⟨rfl, g1⟩
  have B1 : w1.cell? ⟨w.heap.size, 1, none⟩ = some (.slice aa S.arcs.length ac) := cell_gr (cell_gr (lit_at (by simp) rfl) ((Gr.refl _).alloc _)) g1
  have B3 : w1.cell? ⟨w.heap.size + 1, 1, none⟩ = some (.slice aa' S.arcs.length ac') := cell_gr (lit_at (by simp) rfl) g1
  go_wp2_with fail
  refine (EqualArc_self _ _ S.arcs _ ((ha.gr GB).gr g1) ((ha'.gr GB).gr g1)).mono ?_
  rintro _ w2 ⟨rfl, g2⟩
  go_wp2_with fail
  go_ret
  exact ⟨rfl, (GB.trans g1).trans g2⟩
end Go.Proofs.Ytelfbfjegmncaaa
