/- Contract of alive15. -/
import Derived.Test.YtiflolklgmmgeaaDoorText6
import Derived.Test.YtiflolklgmmgeaaDoorText7a
namespace Go.Proofs.YtiflolklgmmgeaaDoor
open Go.RowKit Go.Tok
set_option linter.unusedVariables false
theorem parse_is {s : List UInt8} {N : NetD} {k : Nat} {c : Int} (h : parseF s = (N, k, c)) (hs : s.length ≤ 10000000) (w : World) (hT : TabW w) : Calls Tryd.prog 7 #[.string (strB s)] w fun e w' => ∃ a cap, e = .returned (.tuple #[.agg #[.int .i64 N.places, .slice a N.trans.length cap], .int .i64 k, .int .i64 c]) ∧ NetR w' (.agg #[.int .i64 N.places, .slice a N.trans.length cap]) N ∧ Gr w w' := by
  refine (Parse_calls s w hs hT).mono ?_
  rintro e w' hr
  obtain ⟨g, v, rfl, hN⟩ := hr.out
  rw [h] at hN ⊢
  obtain ⟨a, cap, rfl, _⟩ := hN.open_
  exact ⟨a, cap, rfl, hN, g⟩
theorem parseA_calls (w : World) (hT : TabW w) : Calls Tryd.prog 7 #[.string (strB textA)] w fun e w' => ∃ a cap, e = .returned (.tuple #[.agg #[.int .i64 3, .slice a 2 cap], .int .i64 0, .int .i64 0]) ∧ NetR w' (.agg #[.int .i64 3, .slice a 2 cap]) netA ∧ Gr w w' := parse_is parseA (by decide) w hT
theorem parseB_calls (w : World) (hT : TabW w) : Calls Tryd.prog 7 #[.string (strB textB)] w fun e w' => ∃ a cap, e = .returned (.tuple #[.agg #[.int .i64 0, .slice a 0 cap], .int .i64 1, .int .i64 1]) ∧ Gr w w' :=
  (parse_is parseB (by decide) w hT).mono fun _ _ h => by obtain ⟨a, cap, h1, _, h3⟩ := h; exact ⟨a, cap, h1, h3⟩
set_option maxHeartbeats 2000000 in
set_option maxRecDepth 100000 in
theorem alive15_calls (w : World) (hT : TabW w) : Calls Tryd.prog 6 #[] w fun e w' => e = .returned (.bool true) ∧ Gr w w' := by
  have e1 : (⟨#[110, 101, 116, 32, 51, 10, 98, 32, 58, 32, 48, 32, 50, 42, 50, 32, 62, 32, 49, 10, 45, 32, 58, 32, 62, 32, 48, 10]⟩ : ByteArray) = strB textA := rfl
  have e2 : (⟨#[110, 101, 116, 32, 51, 10, 98, 32, 58, 32, 48, 32, 50, 42, 50, 32, 62, 32, 51, 10]⟩ : ByteArray) = strB textB := rfl
  have hb := strB_beq_yes (rfl : textA = textA)
  have HP1 := Lib.hid (parseA_calls w hT)
  go_enter Tryd.func6, Tryd.ntmps6
  go_wp2_with fail
  refine HP1.out.mono ?_
  rintro _ w1 ⟨a, cap, rfl, hN, g1⟩
  have bN : Blk (w1.alloc (.cells #[.int .i64 3, .slice a 2 cap] 25)) w1.heap.size 25 #[.int .i64 3, .slice a 2 cap] := Blk.new rfl
  have X0 := bN.cell (i := 0) (v := .int .i64 3) rfl
  have X1 := bN.cell (i := 1) (v := .slice a 2 cap) rfl
  have GA : Gr w1 (w1.alloc (.cells #[.int .i64 3, .slice a 2 cap] 25)) := (Gr.refl _).alloc _
  go_wp2_with fail
  refine (Print_calls _ netA _ (hN.gr GA)).mono ?_
  rw [printA]
  rintro _ w2 ⟨rfl, g2⟩
  have g12 := GA.trans g2
  have HT2 := Lib.hid (hT.gr (g1.trans g12))
  have HB2 := Lib.hid (bN.gr g2)
  have HN2 := Lib.hid (hN.gr g12)
  have HG2 := Lib.hid (g1.trans g12)
  clear g1 g2 g12 GA X0 X1 bN hN hT
  go_wp2_with fail
  refine (parseB_calls w2 HT2.out).mono ?_
  rintro _ w3 ⟨b, cap2, rfl, g3⟩
  have GB : Gr w3 (w3.alloc (.cells #[.int .i64 0, .slice b 0 cap2] 25)) := (Gr.refl _).alloc _
  have X1 := (HB2.out.gr (g3.trans GB)).cell (i := 1) (v := .slice a 2 cap) rfl
  obtain ⟨_, _, h5, _, _, _, h6⟩ := (HN2.out.gr (g3.trans GB)).open_
  cases h5
  obtain ⟨bb, oo, vp, vq, rfl, c0, _⟩ := h6.at_ (i := 0) (by decide)
  rw [Nat.zero_mul, Nat.add_zero, show (netA.tr 0).label = 2 by unfold NetD.tr; rfl] at c0
  have c1 : (w3.alloc (.cells #[.int .i64 0, .slice b 0 cap2] 25)).cell? ⟨bb, oo, none⟩ = some (.int .i64 2) := c0
  have HG3 := Lib.hid (HG2.out.trans (g3.trans GB))
  clear c0 h6 GB g3 HB2 HN2 HT2
  go_wp2_with fail
  go_ret
  exact ⟨rfl, HG3.out⟩
end Go.Proofs.YtiflolklgmmgeaaDoor
