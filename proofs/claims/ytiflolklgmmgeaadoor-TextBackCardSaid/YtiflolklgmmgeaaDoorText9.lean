/- Contract of TextBack. -/
import Derived.Test.YtiflolklgmmgeaaDoorText7
import Derived.Test.YtiflolklgmmgeaaDoorSameT
namespace Go.Proofs.YtiflolklgmmgeaaDoor
open Go.RowKit Go.Tok
set_option linter.unusedVariables false
theorem parseE : parseF [] = (⟨0, []⟩, 0, 1) := by decide +kernel
theorem parseE_calls (w : World) (hT : TabW w) : Calls Tryd.prog 7 #[.string (strB [])] w fun e w' => ∃ a cap, e = .returned (.tuple #[.agg #[.int .i64 0, .slice a 0 cap], .int .i64 0, .int .i64 1]) ∧ Gr w w' :=
  (parse_is parseE (by decide) w hT).mono fun _ _ h => by obtain ⟨a, cap, h1, _, h3⟩ := h; exact ⟨a, cap, h1, h3⟩
set_option maxHeartbeats 2000000 in
set_option maxRecDepth 100000 in
theorem TextBack_calls (v : Value) (N : NetD) (w : World) (hN : NetR w v N) (hTab : TabW w) : Calls Tryd.prog 4 #[v] w fun e w' => e = .returned (.bool true) ∧ Gr w w' := by
  have hN' := hN
  obtain ⟨a, cap, rfl, hnl, hncap, hpl, hT⟩ := hN.open_
  have hpl1 := hpl.1
  have hpl2 := hpl.2
  have bX : Blk (w.alloc (.cells #[.int .i64 N.places, .slice a N.trans.length cap] 25)) w.heap.size 25 #[.int .i64 N.places, .slice a N.trans.length cap] := Blk.new rfl
  have GX : Gr w (w.alloc (.cells #[.int .i64 N.places, .slice a N.trans.length cap] 25)) := (Gr.refl _).alloc _
  have HA := Lib.hid (alive15_calls _ (hTab.gr GX))
  have HTX := Lib.hid hTab
  have e1 : (⟨#[]⟩ : ByteArray) = strB [] := rfl
  have hb := strB_beq_yes (rfl : ([] : List UInt8) = [])
  clear hTab
  go_enter Tryd.func4, Tryd.ntmps4
  go_wp2_with fail
  refine HA.out.mono ?_
  rintro _ w1 ⟨rfl, g1⟩
  have b1 := bX.gr g1
  have X0 := b1.cell (i := 0) (v := .int .i64 N.places) rfl
  have X1 := b1.cell (i := 1) (v := .slice a N.trans.length cap) rfl
  have HG1 := Lib.hid (GX.trans g1)
  clear GX g1 bX HA
  go_wp2_with fail
  refine (Print_calls _ N _ (hN'.gr HG1.out)).mono ?_
  cases hok : netOkB N
  · rw [printF_no hok]
    have HW := Lib.hid (wrongC_no hok)
    rintro _ w2 ⟨rfl, g2⟩
    have HG2 := Lib.hid (HG1.out.trans g2)
    have HB2 := Lib.hid (b1.gr g2)
    clear g2 b1 X0 X1 hok
    go_wp2_with fail
    refine (parseE_calls _ (HTX.out.gr HG2.out)).mono ?_
    rintro _ w3 ⟨a3, c3, rfl, g3⟩
    have GB : Gr w3 (w3.alloc (.cells #[.int .i64 0, .slice a3 0 c3] 25)) := (Gr.refl _).alloc _
    have bB : Blk (w3.alloc (.cells #[.int .i64 0, .slice a3 0 c3] 25)) w3.heap.size 25 #[.int .i64 0, .slice a3 0 c3] := Blk.new rfl
    have Y0 := bB.cell (i := 0) (v := .int .i64 0) rfl
    have Y1 := bB.cell (i := 1) (v := .slice a3 0 c3) rfl
    have b3 := HB2.out.gr (g3.trans GB)
    have X0 := b3.cell (i := 0) (v := .int .i64 N.places) rfl
    have X1 := b3.cell (i := 1) (v := .slice a N.trans.length cap) rfl
    have HG3 := Lib.hid (HG2.out.trans (g3.trans GB))
    clear g3 GB bB b3 HB2
    go_wp2_with fail
    refine (Wrong_calls _ N _ (hN'.gr HG3.out)).mono ?_
    rw [HW.out]
    rintro _ w4 ⟨rfl, g4⟩
    have HG4 := Lib.hid (HG3.out.trans g4)
    clear g4
    go_wp2_with fail
    go_ret
    exact ⟨rfl, HG4.out⟩
  · have hpp := parse_print hok
    have hpo := printF_ok hok
    obtain ⟨hP, hl, hall⟩ := netOk_text hok
    have hlen : (printF N).1.length ≤ 10000000 := by
      rw [hpo]
      have h1 := headT_len (P := N.places.toNat) (by omega)
      have h2 := bodyUpto_len (N := N) (P := N.places.toNat) (by omega) hall hl N.trans.length
      simp; omega
    have hp2 : (printF N).2 = 0 := by rw [hpo]
    have HP := Lib.hid (fun W hW => parse_is hpp hlen W hW)
    have HS : Hid (sameN N N = true) := Lib.hid (sameN_iff.2 rfl)
    rw [hp2]
    generalize (printF N).1 = s at HP
    clear hpp hpo hP hl hall hlen hp2
    rintro _ w2 ⟨rfl, g2⟩
    have HG2 := Lib.hid (HG1.out.trans g2)
    have HB2 := Lib.hid (b1.gr g2)
    clear g2 b1 X0 X1 hok
    go_wp2_with fail
    refine (HP.out _ (HTX.out.gr HG2.out)).mono ?_
    rintro _ w3 ⟨a3, c3, rfl, hM, g3⟩
    have GB : Gr w3 (w3.alloc (.cells #[.int .i64 N.places, .slice a3 N.trans.length c3] 25)) := (Gr.refl _).alloc _
    have bB : Blk (w3.alloc (.cells #[.int .i64 N.places, .slice a3 N.trans.length c3] 25)) w3.heap.size 25 #[.int .i64 N.places, .slice a3 N.trans.length c3] := Blk.new rfl
    have Y0 := bB.cell (i := 0) (v := .int .i64 N.places) rfl
    have Y1 := bB.cell (i := 1) (v := .slice a3 N.trans.length c3) rfl
    have b3 := HB2.out.gr (g3.trans GB)
    have X0 := b3.cell (i := 0) (v := .int .i64 N.places) rfl
    have X1 := b3.cell (i := 1) (v := .slice a N.trans.length cap) rfl
    have HG3 := Lib.hid (HG2.out.trans (g3.trans GB))
    have HM := Lib.hid (hM.gr GB)
    clear g3 GB bB b3 HB2 hM
    go_wp2_with fail
    refine (SameNet_calls _ _ N N _ HM.out (hN'.gr HG3.out)).mono ?_
    rw [HS.out]
    rintro _ w4 ⟨rfl, g4⟩
    have HG4 := Lib.hid (HG3.out.trans g4)
    clear g4
    go_wp2_with fail
    go_ret
    exact ⟨rfl, HG4.out⟩
end Go.Proofs.YtiflolklgmmgeaaDoor
