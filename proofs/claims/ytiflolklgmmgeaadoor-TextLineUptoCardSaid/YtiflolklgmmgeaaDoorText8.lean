/- Contract of TextOnly. -/
import Derived.Test.YtiflolklgmmgeaaDoorText7
namespace Go.Proofs.YtiflolklgmmgeaaDoor
open Go.RowKit Go.Tok
set_option linter.unusedVariables false
theorem Count_calls (s : List UInt8) (w : World) : Calls Tryd.prog 8 #[.string (strB s), .string (strB [10])] w fun e w' => e = .returned (.int .i64 (s.count 10 : Nat)) ∧ w' = w := Tryd.strings_Count_one (strB s) 10 w
set_option maxHeartbeats 2000000 in
set_option maxRecDepth 100000 in
theorem TextOnly_calls (s : List UInt8) (w : World) (hs : s.length ≤ 10000000) (hT : TabW w) : Calls Tryd.prog 3 #[.string (strB s)] w fun e w' => e = .returned (.bool true) ∧ Gr w w' := by
  obtain ⟨⟨N, k, c⟩, hr⟩ : ∃ r, r = parseF s := ⟨_, rfl⟩
  have HA := Lib.hid (alive15_calls w hT)
  have HT := Lib.hid hT
  have e1 : (⟨#[10]⟩ : ByteArray) = strB [10] := rfl
  by_cases hc : c = 0
  · subst hc
    have HP := Lib.hid (fun W hW => parse_is hr.symm hs W hW)
    have HPR := Lib.hid (print_parse hr.symm)
    have hb := strB_beq_yes (rfl : s = s)
    clear hr hs hT
    go_enter Tryd.func3, Tryd.ntmps3
    go_wp2_with fail
    refine HA.out.mono ?_
    rintro _ w1 ⟨rfl, g1⟩
    go_wp2_with fail
    refine (HP.out _ (HT.out.gr g1)).mono ?_
    rintro _ w2 ⟨a, cap, rfl, hN, g2⟩
    have bN : Blk (w2.alloc (.cells #[.int .i64 N.places, .slice a N.trans.length cap] 25)) w2.heap.size 25 #[.int .i64 N.places, .slice a N.trans.length cap] := Blk.new rfl
    have X0 := bN.cell (i := 0) (v := .int .i64 N.places) rfl
    have X1 := bN.cell (i := 1) (v := .slice a N.trans.length cap) rfl
    have GA : Gr w2 (w2.alloc (.cells #[.int .i64 N.places, .slice a N.trans.length cap] 25)) := (Gr.refl _).alloc _
    have HG := Lib.hid (g1.trans (g2.trans GA))
    have HN := Lib.hid (hN.gr GA)
    clear g1 g2 GA hN bN
    go_wp2_with fail
    refine (Print_calls _ N _ HN.out).mono ?_
    rw [HPR.out]
    rintro _ w3 ⟨rfl, g3⟩
    have HG3 := Lib.hid (HG.out.trans g3)
    clear g3
    go_wp2_with fail
    go_ret
    exact ⟨rfl, HG3.out⟩
  · obtain ⟨rfl, rfl, h1, h2⟩ := parse_bad (show parseL 0 ⟨0, []⟩ (splitL s) = (N, k, c) from hr.symm) hc
    rw [splitL_len, Nat.zero_add] at h2
    have hks : (k : Int) ≤ (s.count 10 : Nat) := by omega
    have hk0 : (0 : Int) ≤ k := by omega
    have HP : Hid (∀ W, TabW W → Calls Tryd.prog 7 #[.string (strB s)] W fun e w' => ∃ a cap, e = .returned (.tuple #[.agg #[.int .i64 0, .slice a 0 cap], .int .i64 k, .int .i64 1]) ∧ Gr W w') := Lib.hid fun W hW => (parse_is hr.symm hs W hW).mono fun _ _ h => by obtain ⟨a, cap, h1, _, h3⟩ := h; exact ⟨a, cap, h1, h3⟩
    have HCN := Lib.hid (fun W => Count_calls s W)
    generalize s.count 10 = n at hks HCN
    clear hr hs hT hc h1 h2
    go_enter Tryd.func3, Tryd.ntmps3
    go_wp2_with fail
    refine HA.out.mono ?_
    rintro _ w1 ⟨rfl, g1⟩
    go_wp2_with fail
    refine (HP.out _ (HT.out.gr g1)).mono ?_
    rintro _ w2 ⟨a, cap, rfl, g2⟩
    have bN : Blk (w2.alloc (.cells #[.int .i64 0, .slice a 0 cap] 25)) w2.heap.size 25 #[.int .i64 0, .slice a 0 cap] := Blk.new rfl
    have X0 := bN.cell (i := 0) (v := .int .i64 0) rfl
    have X1 := bN.cell (i := 1) (v := .slice a 0 cap) rfl
    have GA : Gr w2 (w2.alloc (.cells #[.int .i64 0, .slice a 0 cap] 25)) := (Gr.refl _).alloc _
    have HG := Lib.hid (g1.trans (g2.trans GA))
    clear g1 g2 GA bN
    go_wp2_with fail
    refine (HCN.out _).mono ?_
    rintro _ _ ⟨rfl, rfl⟩
    go_wp2_with fail
    go_ret
    exact ⟨rfl, HG.out⟩
end Go.Proofs.YtiflolklgmmgeaaDoor
