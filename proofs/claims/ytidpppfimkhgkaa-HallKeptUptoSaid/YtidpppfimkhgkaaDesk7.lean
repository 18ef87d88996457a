/- Contracts of the library's Equal at '[]api.Item' and '[]api.DeskAns', and of SameDesk, at rows that are alike. -/
import Derived.Test.YtidpppfimkhgkaaDesk6
namespace Go.Proofs.Ytidpppfimkhgkaa
open Go.RowKit Go.Tok
set_option linter.unusedVariables false
set_option maxHeartbeats 4000000 in
theorem EqualItem_self (v u : Value) (xs : List ItemD) (w : World) (hv : Rd itemK w v xs) (hu : Rd itemK w u xs) :
    Calls Try.prog 76 #[v, u] w fun e w' => e = .returned (.bool true) ∧ Gr w w' := by
  obtain ⟨a, cap, rfl, hlc, hcap⟩ := hv.len
  obtain ⟨a', cap', rfl, hlc', hcap'⟩ := hu.len
  go_enter Try.func76, Try.ntmps76
  go_wp2_with fail
  go_loopw [13] (fun i wr => ∃ k : Nat, k ≤ xs.length ∧ i = .int .i64 k ∧ Gr w wr) (fun i _ => xs.length - (intOf i).toNat)
  case atStart => exact ⟨0, Nat.zero_le _, rfl, Gr.refl _⟩
  case round =>
    rename_i wr _
    obtain ⟨k, hk, rfl, hgr⟩ := hrel
    by_cases hlt : k < xs.length
    · obtain ⟨b, o, rfl, c0, c1, c2, hI⟩ := (hv.gr hgr).item hlt; obtain ⟨b', o', rfl, d0, d1, d2, _⟩ := (hu.gr hgr).item hlt
      have i1 : (0 : Int) ≤ (k : Int) := by omega
      have i2 : (k : Int) < (xs.length : Int) := by omega
      go_wp2_with fail
      go_quiet (fail)
      go_wp2_with fail
      go_roundw
      case rel => exact ⟨k + 1, by omega, by go_num, hgr.drewN _⟩
      case measure => simp [intOf]; omega
    · go_wp2_with fail
      go_ret
      exact ⟨rfl, hgr⟩
set_option maxHeartbeats 4000000 in
set_option maxRecDepth 100000 in
theorem SameDesk_self (v u : Value) (k : DeskD) (w : World) (hv : DeskR w v k) (hu : DeskR w u k) :
    Calls Try.prog 32 #[v, u] w fun e w' => e = .returned (.bool true) ∧ Gr w w' := by
  obtain ⟨ma, mc, ba, bc, ia, ic, rfl, _, _, _, _, _, _, hM, hB, hI⟩ := hv.open_
  obtain ⟨ma', mc', ba', bc', ia', ic', rfl, _, _, _, _, _, _, hM', hB', hI'⟩ := hu.open_
  have hs : sameC k.case k.case = true := sameC_self _
  have GA : Gr w ((w.alloc (.cells #[.slice ma k.case.mark.length mc, .slice ba k.case.busy.length bc, .slice ia k.items.length ic] 66)).alloc (.cells #[.slice ma' k.case.mark.length mc', .slice ba' k.case.busy.length bc', .slice ia' k.items.length ic'] 66)) := ((Gr.refl _).alloc _).alloc _
  have b0 : Blk ((w.alloc (.cells #[.slice ma k.case.mark.length mc, .slice ba k.case.busy.length bc, .slice ia k.items.length ic] 66)).alloc (.cells #[.slice ma' k.case.mark.length mc', .slice ba' k.case.busy.length bc', .slice ia' k.items.length ic'] 66)) w.heap.size 66 #[.slice ma k.case.mark.length mc, .slice ba k.case.busy.length bc, .slice ia k.items.length ic] := (Blk.new rfl).gr ((Gr.refl _).alloc _)
  have b1 : Blk ((w.alloc (.cells #[.slice ma k.case.mark.length mc, .slice ba k.case.busy.length bc, .slice ia k.items.length ic] 66)).alloc (.cells #[.slice ma' k.case.mark.length mc', .slice ba' k.case.busy.length bc', .slice ia' k.items.length ic'] 66)) (w.heap.size + 1) 66 #[.slice ma' k.case.mark.length mc', .slice ba' k.case.busy.length bc', .slice ia' k.items.length ic'] := Blk.new (by simp)
  have A0 := b0.cell (i := 0) rfl
  have A1 := b0.cell (i := 1) rfl
  have C0 := b1.cell (i := 0) rfl
  have C1 := b1.cell (i := 1) rfl
  go_enter Try.func32, Try.ntmps32
  go_wp2_with fail
  refine (SameCase_calls _ _ k.case k.case _ (CaseR.mk_ (hM.gr GA) (hB.gr GA)) (CaseR.mk_ (hM'.gr GA) (hB'.gr GA))).mono ?_
  rw [hs]; rintro _ w1 ⟨rfl, g1⟩
  have A2 := (b0.gr g1).cell (i := 2) rfl
  have C2 := (b1.gr g1).cell (i := 2) rfl
  clear A0 A1 C0 C1
  go_wp2_with fail
  refine (EqualItem_self _ _ k.items _ ((hI.gr GA).gr g1) ((hI'.gr GA).gr g1)).mono ?_
  rintro _ w2 ⟨rfl, g2⟩
  go_wp2_with fail
  go_ret
  exact ⟨rfl, (GA.trans g1).trans g2⟩
end Go.Proofs.Ytidpppfimkhgkaa
