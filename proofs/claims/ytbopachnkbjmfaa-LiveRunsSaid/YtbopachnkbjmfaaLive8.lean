/- Contract of live.Bound, at marks of at most 1000000 places; the call alive7 answers true. -/
import Derived.Test.YtbopachnkbjmfaaGL
namespace Go.Tok
open Go.RowKit
set_option linter.unusedVariables false
def boundTo (ms : List (List Int)) : Nat → Int
  | 0 => 0
  | k + 1 => if rightB (ix ms k) then (if boundTo ms k < maxF (ix ms k ++ [0]) then maxF (ix ms k ++ [0]) else boundTo ms k) else boundTo ms k
theorem boundTo_yes {ms : List (List Int)} {k : Nat} (h : rightB (ix ms k) = true) : boundTo ms (k + 1) = if boundTo ms k < maxF (ix ms k ++ [0]) then maxF (ix ms k ++ [0]) else boundTo ms k := by rw [boundTo, if_pos h]
theorem boundTo_no {ms : List (List Int)} {k : Nat} (h : rightB (ix ms k) = false) : boundTo ms (k + 1) = boundTo ms k := by rw [boundTo, if_neg (by rw [h]; decide)]
def boundF (S : SpaceD) : Int := boundTo S.marks S.marks.length
end Go.Tok
namespace Go.Proofs.Ytbopachnkbjmfaa
open Go.RowKit Go.Tok
set_option linter.unusedVariables false
set_option maxHeartbeats 8000000 in
set_option maxRecDepth 100000 in
theorem Bound_calls (v : Value) (S : SpaceD) (w : World) (hv : SpaceR w v S) (hs : ∀ m ∈ S.marks, m.length ≤ 1000000) :
    Calls Try.prog 80 #[v] w fun e w' => e = .returned (.int .i64 (boundF S)) ∧ Gr w w' := by
  have T := intTy
  obtain ⟨ma, mc, aa, ac, rfl, hc1, hc2, hc3, hc4, hM, hA⟩ := hv.open_
  have hv' := hv
  have B0 := box_cell (Gr.refl (w.alloc (.cells #[.slice ma S.marks.length mc, .slice aa S.arcs.length ac] 76))) (i := 0) rfl
  have B1 := box_cell (Gr.refl (w.alloc (.cells #[.slice ma S.marks.length mc, .slice aa S.arcs.length ac] 76))) (i := 1) rfl
  have GA : Gr w (w.alloc (.cells #[.slice ma S.marks.length mc, .slice aa S.arcs.length ac] 76)) := (Gr.refl _).alloc _
  have HS := Lib.hid hs
  clear hs
  go_enter Try.func80, Try.ntmps80
  go_wp2_with fail
  go_loopw [3, 9] (fun n q wr => ∃ k : Nat, q = .int .i64 k ∧ k ≤ S.marks.length ∧ n = .int .i64 (boundTo S.marks k) ∧ Gr w wr) (fun _ q _ => S.marks.length - (intOf q).toNat)
  case atStart => exact ⟨0, rfl, Nat.zero_le _, rfl, GA⟩
  case round =>
    rename World => wo
    obtain ⟨k, rfl, hk, rfl, hgr⟩ := hrel
    by_cases hlt : k < S.marks.length
    · obtain ⟨b, o, y, rfl, c0, hI⟩ := (hM.gr hgr).row hlt
      obtain ⟨ya, yc, rfl, _, _⟩ := hI.len
      have hkI : (k : Int) < (S.marks.length : Int) := by omega
      have hml := HS.out _ (ix_mem hlt)
      cases hr : rightB (ix S.marks k)
      · have HB := Lib.hid (boundTo_no hr)
        go_wp2_with fail
        refine (Right_calls _ (ix S.marks k) _ hI).mono ?_
        rw [hr]; rintro _ _ ⟨rfl, rfl⟩
        clear hr
        go_wp2_with fail
        go_roundw
        case rel => exact ⟨k + 1, by go_num, by omega, by rw [HB.out], hgr⟩
        case measure => simp [intOf]; omega
      · have HB := Lib.hid (boundTo_yes hr)
        go_wp2_with fail
        refine (Right_calls _ (ix S.marks k) _ hI).mono ?_
        rw [hr]; rintro _ _ ⟨rfl, rfl⟩
        clear hr
        go_wp2_with fail
        refine (Clone_calls _ (ix S.marks k) _ hI (by omega)).mono ?_
        rintro _ w2 ⟨v2, rfl, o2, g2⟩
        obtain ⟨za, zc, rfl, _, _⟩ := o2.ints.len
        have hbs := g2.le
        go_wp2_with (at_builtin; go_loud (refine app_int T _ _ wo.heap.size _ (ix S.marks k) ⟨w2.heap.size, 0, none⟩ 0 (by rfl) (by rfl) (by rfl) (by rfl) (o2.alloc _) (lit_cell rfl) (by decide) (by omega) (Nat.le_trans hbs (Gr.le ((Gr.refl _).alloc _))) ?_; intro v' w7 ho7 hgs hgb hat))
        refine (Max_calls _ _ _ ho7.ints (by simp)).mono ?_
        rintro _ _ ⟨rfl, rfl⟩
        go_wp2_with fail
        go_roundw
        case rel => exact ⟨k + 1, by go_num, by omega, by rw [HB.out], hgr.trans (hgs wo (Nat.le_refl _) (g2.alloc _))⟩
        case measure => simp [intOf]; omega
    · obtain rfl : k = S.marks.length := by omega
      go_wp2_with fail
      go_ret
      exact ⟨rfl, hgr⟩
abbrev space7 : SpaceD := ⟨[[1, 0], [0, 2], [0, 0]], [⟨0, 0, 1⟩, ⟨1, 1, 0⟩, ⟨1, 2, 2⟩]⟩
abbrev space7b : SpaceD := ⟨[[1]], [⟨0, 0, 0⟩]⟩
theorem s7_right : sRightB space7 = true := by decide +kernel
theorem s7_dead : deadF space7 4 = [3] := by decide +kernel
theorem s7_live : liveF space7 4 = [] := by decide +kernel
theorem s7_stuck : stuckF space7 = [2] := by decide +kernel
theorem s7_home : homeF space7 = [2] := by decide +kernel
theorem s7_bound : boundF space7 = 2 := by decide +kernel
theorem s7b_live : liveF space7b 2 = [0] := by decide +kernel
end Go.Proofs.Ytbopachnkbjmfaa
