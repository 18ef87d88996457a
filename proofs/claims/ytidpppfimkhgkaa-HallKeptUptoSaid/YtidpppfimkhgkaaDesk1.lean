/- How a desk stands in memory; contracts of desk's may, item, and of the library's Clip, Clone at '[]api.Item'. -/
import Derived.Test.YtidpppfimkhgkaaDeskLaw
import Derived.Test.YtidpppfimkhgkaaItemRow
import Derived.Test.YtidpppfimkhgkaaGM
import Derived.Test.YtidpppfimkhgkaaCases4
import Derived.Test.YtidpppfimkhgkaaCases5
import Derived.Test.YtidpppfimkhgkaaPA
import Derived.Lib.Hide
import Derived.Deep.RegionHeld3
namespace Go.Tok
open Go.RowKit
set_option linter.unusedVariables false
def DeskR (w : World) (v : Value) (k : DeskD) : Prop := ∃ vm vb vi, v = .agg #[vm, vb, vi] ∧ Ints w vm k.case.mark ∧ Ints w vb k.case.busy ∧ Rd itemK w vi k.items
theorem DeskR.gr {w w' : World} {v : Value} {k : DeskD} (h : DeskR w v k) (g : Gr w w') : DeskR w' v k := by
  obtain ⟨a, b, c, h1, h2, h3, h4⟩ := h
  exact ⟨a, b, c, h1, h2.gr g, h3.gr g, h4.gr g⟩
theorem DeskR.mk_ {w : World} {vm vb vi : Value} {k : DeskD} (h1 : Ints w vm k.case.mark) (h2 : Ints w vb k.case.busy) (h3 : Rd itemK w vi k.items) : DeskR w (.agg #[vm, vb, vi]) k := ⟨vm, vb, vi, rfl, h1, h2, h3⟩
theorem DeskR.open_ {w : World} {v : Value} {k : DeskD} (h : DeskR w v k) : ∃ a n a' n' a'' n'', v = .agg #[.slice a k.case.mark.length n, .slice a' k.case.busy.length n', .slice a'' k.items.length n''] ∧
    k.case.mark.length ≤ n ∧ n ≤ 9223372036854775807 ∧ k.case.busy.length ≤ n' ∧ n' ≤ 9223372036854775807 ∧ k.items.length ≤ n'' ∧ n'' ≤ 9223372036854775807 ∧
    Ints w (.slice a k.case.mark.length n) k.case.mark ∧ Ints w (.slice a' k.case.busy.length n') k.case.busy ∧ Rd itemK w (.slice a'' k.items.length n'') k.items := by
  obtain ⟨vm, vb, vi, h1, h2, h3, h4⟩ := h
  obtain ⟨a, n, rfl, h5, h6⟩ := h2.len
  obtain ⟨a', n', rfl, h7, h8⟩ := h3.len
  obtain ⟨a'', n'', rfl, h9, h10⟩ := h4.len
  exact ⟨a, n, a', n', a'', n'', h1, h5, h6, h7, h8, h9, h10, h2, h3, h4⟩
/-- who may do what, and a net -/
def DesksR (w : World) (v : Value) (N : NetD) (roles : List (List Int)) : Prop := ∃ vt vr, v = .agg #[.int .i64 N.places, vt, vr] ∧ NetR w (.agg #[.int .i64 N.places, vt]) N ∧ Rd rowK w vr roles
theorem DesksR.gr {w w' : World} {v : Value} {N : NetD} {roles : List (List Int)} (h : DesksR w v N roles) (g : Gr w w') : DesksR w' v N roles := by
  obtain ⟨a, b, h1, h2, h3⟩ := h
  exact ⟨a, b, h1, h2.gr g, h3.gr g⟩
theorem DesksR.open_ {w : World} {v : Value} {N : NetD} {roles : List (List Int)} (h : DesksR w v N roles) : ∃ a c r d, v = .agg #[.int .i64 N.places, .slice a N.trans.length c, .slice r roles.length d] ∧ N.trans.length ≤ c ∧ c ≤ 9223372036854775807 ∧ roles.length ≤ d ∧ d ≤ 9223372036854775807 ∧ I64 N.places ∧
    NetR w (.agg #[.int .i64 N.places, .slice a N.trans.length c]) N ∧ TransR w (.slice a N.trans.length c) N.trans ∧ Rd rowK w (.slice r roles.length d) roles := by
  obtain ⟨vt, vr, h1, h2, h3⟩ := h
  obtain ⟨a, c, h4, h5, h6, h7, h8⟩ := h2.open_
  obtain ⟨r, d, rfl, h9, h10⟩ := h3.len
  simp only [Value.agg.injEq, Array.mk.injEq, List.cons.injEq, and_true, true_and] at h4
  subst h4
  exact ⟨a, c, r, d, h1, h5, h6, h9, h10, h7, h2, h8, h3⟩
def opV (o : OpD) : Value := .agg #[.int .i64 o.kind, .int .i64 o.user, .int .i64 o.tran, .int .i64 o.item, .int .i64 o.to]
def itemV (x : ItemD) : Value := .agg #[.int .i64 x.user, .int .i64 x.tran, .bool x.opened]
end Go.Tok
namespace Go.Proofs.Ytidpppfimkhgkaa
open Go.RowKit Go.Tok
set_option linter.unusedVariables false
theorem itemTy : KTy Try.prog 64 156 itemK 24 (.agg #[.int .i64 0, .int .i64 0, .bool false]) := ⟨Try.underlying64, by kernel_rfl, rfl, by decide⟩
theorem ansTy : KTy Try.prog 67 75 ansK 16 (.agg #[.int .i64 0, .int .i64 0]) := ⟨Try.underlying67, by kernel_rfl, rfl, by decide⟩
set_option maxHeartbeats 1000000 in
set_option maxRecDepth 100000 in
theorem may_calls (v : Value) (N : NetD) (roles : List (List Int)) (user label : Int) (w : World) (hv : DesksR w v N roles) (hu : I64 user) :
    Calls Try.prog 161 #[v, .int .i64 user, .int .i64 label] w fun e w' => e = .returned (.bool (mayF roles user label)) ∧ Gr w w' := by
  obtain ⟨a, c, r, d, rfl, _, _, hrd, hd, _, hN, hT, hR⟩ := hv.open_
  have GA : Gr w (w.alloc (.cells #[.int .i64 N.places, .slice a N.trans.length c, .slice r roles.length d] 168)) := (Gr.refl _).alloc _
  have B2 : (w.alloc (.cells #[.int .i64 N.places, .slice a N.trans.length c, .slice r roles.length d] 168)).cell? ⟨w.heap.size, 2, none⟩ = some (.slice r roles.length d) := box_cell (Gr.refl _) (i := 2) rfl
  have hu1 := hu.1
  have hu2 := hu.2
  by_cases h0 : user < 0
  · have HC := Lib.hid (may_low (roles := roles) (label := label) h0)
    go_enter Try.func161, Try.ntmps161
    go_wp2_with fail
    all_goals go_ret
    all_goals exact ⟨ret_bool (by rw [HC.out]), GA⟩
  · obtain ⟨j, rfl⟩ := Int.eq_ofNat_of_zero_le (show 0 ≤ user by omega)
    have hj0 : decide (0 ≤ (j : Int)) = true := by simp
    by_cases h8 : (roles.length : Int) ≤ 8
    · have hmin : min (roles.length : Int) 8 = roles.length := by omega
      by_cases h1 : j < roles.length
      · have h1' : (j : Int) < (roles.length : Int) := by omega
        obtain ⟨b, o, u, rfl, c0, hI⟩ := hR.row h1
        have c0' := cell_gr c0 GA
        have HC := Lib.hid (may_in (roles := roles) (label := label) h1 (by omega))
        go_enter Try.func161, Try.ntmps161
        go_wp2_with fail
        refine (Contains_calls _ (ix roles j) label _ (hI.gr GA)).mono ?_
        rintro _ _ ⟨rfl, rfl⟩
        go_wp2_with fail
        all_goals go_ret
        all_goals exact ⟨ret_bool (by rw [HC.out]), GA⟩
      · have h1' : ¬ (j : Int) < (roles.length : Int) := by omega
        have HC := Lib.hid (may_len (roles := roles) (label := label) (user := (j : Int)) (by omega))
        go_enter Try.func161, Try.ntmps161
        go_wp2_with fail
        all_goals go_ret
        all_goals exact ⟨ret_bool (by rw [HC.out]), GA⟩
    · have hmin : min (roles.length : Int) 8 = 8 := by omega
      by_cases h1 : j < 8
      · have h1' : (j : Int) < 8 := by omega
        obtain ⟨b, o, u, rfl, c0, hI⟩ := hR.row (i := j) (by omega)
        have c0' := cell_gr c0 GA
        have hjl : (j : Int) < (roles.length : Int) := by omega
        have HC := Lib.hid (may_in (roles := roles) (label := label) (j := j) (by omega) h1)
        go_enter Try.func161, Try.ntmps161
        go_wp2_with fail
        refine (Contains_calls _ (ix roles j) label _ (hI.gr GA)).mono ?_
        rintro _ _ ⟨rfl, rfl⟩
        go_wp2_with fail
        all_goals go_ret
        all_goals exact ⟨ret_bool (by rw [HC.out]), GA⟩
      · have h1' : ¬ (j : Int) < 8 := by omega
        have HC := Lib.hid (may_eight (roles := roles) (label := label) (user := (j : Int)) (by omega))
        go_enter Try.func161, Try.ntmps161
        go_wp2_with fail
        all_goals go_ret
        all_goals exact ⟨ret_bool (by rw [HC.out]), GA⟩
end Go.Proofs.Ytidpppfimkhgkaa
