/- The call ShapeRound answers true at any net and sequence that read as data (lists of at most 17592186043904 elements); nothing that lay there turns. -/
import Derived.Test.YtmigejcejnofiaaAlive8
import Derived.Test.YtmigejcejnofiaaSame
import Derived.Test.YtmigejcejnofiaaNet3
namespace Go.Proofs.Ytmigejcejnofiaa
open Go.RowKit Go.Tok
set_option linter.unusedVariables false

theorem netR_trans {w : World} {p vt : Value} {N : NetD} (h : NetR w (.agg #[p, vt]) N) : TransR w vt N.trans ∧ I64 N.places := by
  unfold NetR at h
  obtain ⟨vt', h1, h2, h3⟩ := h
  cases h1
  exact ⟨h3, h2⟩
set_option maxHeartbeats 4000000 in
set_option maxRecDepth 100000 in
theorem ShapeRound_walk {v s : Value} {N : NetD} {i o : Int} {seq : List Int} (w : World) (hN : NetR w v N) (hi : I64 i) (ho : I64 o) (h2 : Ints w s seq ∧ seq.length ≤ 17592186043904) :
    Calls Try.prog 11 #[v, .int .i64 i, .int .i64 o, s] w fun e w' => e = .returned (.bool true) ∧ Gr w w' := by
  obtain ⟨hs, ls⟩ := h2
  have hN' := hN
  obtain ⟨a, cap, rfl, hnl, hncap, hpl, hT⟩ := hN.open_
  have hpl1 := hpl.1
  have hpl2 := hpl.2
  obtain ⟨sa, sc, rfl, sl, sl'⟩ := hs.len
  rcases close_cases N i o with ⟨c, hc, hc0⟩ | ⟨i, o, rfl, rfl, hc, hO, h24⟩
  · have HC := Lib.hid hc
    have q1 : (c != 0) = true := by simpa using hc0
    clear hc hc0
    go_enter Try.func11, Try.ntmps11
    go_wp2_with fail
    refine (alive8_calls _).mono ?_
    rintro _ w1 ⟨rfl, g1⟩
    have B0 := box_cell g1 (i := 0) rfl
    have B1 := box_cell g1 (i := 1) rfl
    go_wp2_with fail
    refine (Close_calls _ N _ _ _ (by (repeat (first | assumption | refine NetR.gr ?_ (show Gr _ _ from by assumption) | apply NetR.alloc | apply NetR.drew))) hi ho).mono ?_
    rw [HC.out]; rintro _ w2 ⟨v2, rfl, n2, g2⟩
    obtain ⟨ca, cc, rfl, cl, cl', cI, _⟩ := n2.open_
    go_wp2_with fail
    go_ret
    exact ⟨rfl, by (repeat (first | exact Gr.refl _ | assumption | apply Gr.alloc | apply Gr.drew | apply Gr.drewN | refine Gr.trans ?_ (by assumption)))⟩
  · obtain ⟨M, hM⟩ : ∃ M, M = closeN N i o := ⟨_, rfl⟩
    have HF := Lib.hid (fire_last hO h24)
    have HW := Lib.hid (close_end hO h24)
    have hMl := closeN_len N i o
    have hMt := closeN_take N i o
    have hMp := closeN_places N i o
    have hrc := fun h => run_close (i := i) (o := o) hO.ok h24 (s := seq) h (oneN (startLen N) (i : Int))
    have hsl : startLen (closeN N i o) = startLen N := by unfold startLen closeN; rfl
    rw [← hsl] at hrc
    rw [hsl] at hrc
    rw [← hM] at hc HF HW hMl hMt hMp hrc hsl
    have HC := Lib.hid hc
    have HL := Lib.hid hMl
    have HT := Lib.hid hMt
    have HP := Lib.hid hMp
    have HSL := Lib.hid hsl
    have hl1 : N.trans.length ≤ M.trans.length := by omega
    have hI : I64 (N.trans.length : Int) := by have := netOk_n24 hO.ok; unfold I64; omega
    have hI2 := netOk_n24 hO.ok
    clear hc hMl hMt hMp hsl hM hO h24
    rcases hr : runF N (oneN (startLen N) (i : Int)) seq with ⟨x, f⟩
    rcases hr2 : runF M (oneN (startLen M) (i : Int)) seq with ⟨y, g⟩
    have HR := Lib.hid hr
    have HR2 := Lib.hid hr2
    cases hh : hasB seq (N.trans.length : Int)
    case true =>
      clear hr hr2 hrc
      go_enter Try.func11, Try.ntmps11
      go_wp2_with fail
      refine (alive8_calls _).mono ?_
      rintro _ w1 ⟨rfl, g1⟩
      have B0 := box_cell g1 (i := 0) rfl
      have B1 := box_cell g1 (i := 1) rfl
      go_wp2_with fail
      refine (Close_calls _ N _ _ _ (by (repeat (first | assumption | refine NetR.gr ?_ (show Gr _ _ from by assumption) | apply NetR.alloc | apply NetR.drew))) hi ho).mono ?_
      rw [HC.out]; rintro _ w2 ⟨v2, rfl, n2, g2⟩
      obtain ⟨ca, cc, rfl, cl, cl', cI, _⟩ := n2.open_
      replace n2 : NetR w2 (.agg #[.int .i64 M.places, .slice ca M.trans.length cc]) M := n2
      have cl2 : N.trans.length ≤ cc := by have : M.trans.length ≤ cc := cl; omega
      have cl3 : M.trans.length ≤ cc := cl
      have K3 : NetR (w2.alloc (.cells #[.int .i64 M.places, .slice ca M.trans.length cc] 24)) (.agg #[.int .i64 M.places, .slice ca M.trans.length cc]) M := n2.alloc _
      have B2 : (w2.alloc (.cells #[.int .i64 M.places, .slice ca M.trans.length cc] 24)).cell? ⟨w2.heap.size, 0, none⟩ = some (.int .i64 M.places) := lit_at rfl rfl
      have B3 : (w2.alloc (.cells #[.int .i64 M.places, .slice ca M.trans.length cc] 24)).cell? ⟨w2.heap.size, 1, none⟩ = some (.slice ca M.trans.length cc) := lit_at rfl rfl
      replace B0 := cell_gr (cell_gr B0 g2) ((Gr.refl _).alloc (.cells #[.int .i64 M.places, .slice ca M.trans.length cc] 24))
      replace B1 := cell_gr (cell_gr B1 g2) ((Gr.refl _).alloc (.cells #[.int .i64 M.places, .slice ca M.trans.length cc] 24))
      have G3 : Gr w (w2.alloc (.cells #[.int .i64 M.places, .slice ca M.trans.length cc] 24)) := by (repeat (first | exact Gr.refl _ | assumption | apply Gr.alloc | apply Gr.drew | apply Gr.drewN | refine Gr.trans ?_ (by assumption)))
      have K2 : Ints (w2.alloc (.cells #[.int .i64 M.places, .slice ca M.trans.length cc] 24)) (.slice sa seq.length sc) seq := by (repeat (first | assumption | exact Ints.nil _ | (refine Ints.lit ?_ rfl rfl rfl ?_ ?_; ((focus (simp; done))); all_goals decide) | apply Ints.alloc | apply Ints.drew | refine Ints.gr ?_ (show Gr _ _ from by assumption)))
      have K4 : NetR (w2.alloc (.cells #[.int .i64 M.places, .slice ca M.trans.length cc] 24)) (.agg #[.int .i64 N.places, .slice a N.trans.length cap]) N := by (repeat (first | assumption | refine NetR.gr ?_ (show Gr _ _ from by assumption) | apply NetR.alloc | apply NetR.drew))
      clear g1 g2 n2 cl cI
      go_wp2_with fail
      go_region_held3 (fun w' => w'.cell? ⟨w.heap.size, 0, none⟩ = some (.int .i64 N.places) ∧ w'.cell? ⟨w.heap.size, 1, none⟩ = some (.slice a N.trans.length cap) ∧ w'.cell? ⟨w2.heap.size, 0, none⟩ = some (.int .i64 M.places) ∧ w'.cell? ⟨w2.heap.size, 1, none⟩ = some (.slice ca M.trans.length cc)) (first | go_keep | exact ⟨cell_gr B0 (by (repeat (first | exact Gr.refl _ | assumption | apply Gr.alloc | apply Gr.drew | apply Gr.drewN | refine Gr.trans ?_ (by assumption)))), cell_gr B1 (by (repeat (first | exact Gr.refl _ | assumption | apply Gr.alloc | apply Gr.drew | apply Gr.drewN | refine Gr.trans ?_ (by assumption)))), cell_gr B2 (by (repeat (first | exact Gr.refl _ | assumption | apply Gr.alloc | apply Gr.drew | apply Gr.drewN | refine Gr.trans ?_ (by assumption)))), cell_gr B3 (by (repeat (first | exact Gr.refl _ | assumption | apply Gr.alloc | apply Gr.drew | apply Gr.drewN | refine Gr.trans ?_ (by assumption))))⟩) (first | (go_at_call 41; (with_reducible refine (Start_calls _ N _ _ (K4.gr (by (repeat (first | exact Gr.refl _ | assumption | apply Gr.alloc | apply Gr.drew | apply Gr.drewN | refine Gr.trans ?_ (by assumption))))) hi).mono ?_); rintro _ w3 ⟨v3, rfl, o3, g3⟩) | (go_at_call 36; (with_reducible refine (Run_calls _ _ _ N _ seq _ (K4.gr (by (repeat (first | exact Gr.refl _ | assumption | apply Gr.alloc | apply Gr.drew | apply Gr.drewN | refine Gr.trans ?_ (by assumption))))) (o3.ints.gr (by (repeat (first | exact Gr.refl _ | assumption | apply Gr.alloc | apply Gr.drew | apply Gr.drewN | refine Gr.trans ?_ (by assumption))))) (K2.gr (by (repeat (first | exact Gr.refl _ | assumption | apply Gr.alloc | apply Gr.drew | apply Gr.drewN | refine Gr.trans ?_ (by assumption)))))).mono ?_); rw [HR.out]; rintro _ w4 ⟨v4, rfl, i4, g4⟩))
      have G4 : Gr (w2.alloc (.cells #[.int .i64 M.places, .slice ca M.trans.length cc] 24)) w4 := by (repeat (first | exact Gr.refl _ | assumption | apply Gr.alloc | apply Gr.drew | apply Gr.drewN | refine Gr.trans ?_ (by assumption)))
      obtain ⟨a4, c4, rfl, _, _⟩ := i4.len
      replace B0 := cell_gr B0 G4
      replace B1 := cell_gr B1 G4
      replace B2 := cell_gr B2 G4
      replace B3 := cell_gr B3 G4
      replace K2 := K2.gr G4
      replace K3 := K3.gr G4
      replace K4 := K4.gr G4
      replace G4 := G3.trans G4
      clear o3 g3 g4
      go_wp2_with fail
      go_region_held3 (fun w' => w'.cell? ⟨w.heap.size, 0, none⟩ = some (.int .i64 N.places) ∧ w'.cell? ⟨w.heap.size, 1, none⟩ = some (.slice a N.trans.length cap) ∧ w'.cell? ⟨w2.heap.size, 0, none⟩ = some (.int .i64 M.places) ∧ w'.cell? ⟨w2.heap.size, 1, none⟩ = some (.slice ca M.trans.length cc)) (first | go_keep | exact ⟨cell_gr B0 (by (repeat (first | exact Gr.refl _ | assumption | apply Gr.alloc | apply Gr.drew | apply Gr.drewN | refine Gr.trans ?_ (by assumption)))), cell_gr B1 (by (repeat (first | exact Gr.refl _ | assumption | apply Gr.alloc | apply Gr.drew | apply Gr.drewN | refine Gr.trans ?_ (by assumption)))), cell_gr B2 (by (repeat (first | exact Gr.refl _ | assumption | apply Gr.alloc | apply Gr.drew | apply Gr.drewN | refine Gr.trans ?_ (by assumption)))), cell_gr B3 (by (repeat (first | exact Gr.refl _ | assumption | apply Gr.alloc | apply Gr.drew | apply Gr.drewN | refine Gr.trans ?_ (by assumption))))⟩) (first | (go_at_call 41; (with_reducible refine (Start_calls _ M _ _ (K3.gr (by (repeat (first | exact Gr.refl _ | assumption | apply Gr.alloc | apply Gr.drew | apply Gr.drewN | refine Gr.trans ?_ (by assumption))))) hi).mono ?_); rintro _ w5 ⟨v5, rfl, o5, g5⟩) | (go_at_call 36; (with_reducible refine (Run_calls _ _ _ M _ seq _ (K3.gr (by (repeat (first | exact Gr.refl _ | assumption | apply Gr.alloc | apply Gr.drew | apply Gr.drewN | refine Gr.trans ?_ (by assumption))))) (o5.ints.gr (by (repeat (first | exact Gr.refl _ | assumption | apply Gr.alloc | apply Gr.drew | apply Gr.drewN | refine Gr.trans ?_ (by assumption))))) (K2.gr (by (repeat (first | exact Gr.refl _ | assumption | apply Gr.alloc | apply Gr.drew | apply Gr.drewN | refine Gr.trans ?_ (by assumption)))))).mono ?_); rw [HR2.out]; rintro _ w6 ⟨v6, rfl, i6, g6⟩))
      have G6 : Gr w4 w6 := by (repeat (first | exact Gr.refl _ | assumption | apply Gr.alloc | apply Gr.drew | apply Gr.drewN | refine Gr.trans ?_ (by assumption)))
      obtain ⟨a6, c6, rfl, _, _⟩ := i6.len
      replace i4 := i4.gr G6
      replace B0 := cell_gr B0 G6
      replace B1 := cell_gr B1 G6
      replace B2 := cell_gr B2 G6
      replace B3 := cell_gr B3 G6
      replace K2 := K2.gr G6
      replace K3 := K3.gr G6
      replace K4 := K4.gr G6
      replace G6 := G4.trans G6
      clear o5 g5 g6
      go_wp2_with fail
      go_region_held3 (fun w' => w'.cell? ⟨w.heap.size, 0, none⟩ = some (.int .i64 N.places) ∧ w'.cell? ⟨w.heap.size, 1, none⟩ = some (.slice a N.trans.length cap) ∧ w'.cell? ⟨w2.heap.size, 0, none⟩ = some (.int .i64 M.places) ∧ w'.cell? ⟨w2.heap.size, 1, none⟩ = some (.slice ca M.trans.length cc)) (first | go_keep | exact ⟨cell_gr B0 (by (repeat (first | exact Gr.refl _ | assumption | apply Gr.alloc | apply Gr.drew | apply Gr.drewN | refine Gr.trans ?_ (by assumption)))), cell_gr B1 (by (repeat (first | exact Gr.refl _ | assumption | apply Gr.alloc | apply Gr.drew | apply Gr.drewN | refine Gr.trans ?_ (by assumption)))), cell_gr B2 (by (repeat (first | exact Gr.refl _ | assumption | apply Gr.alloc | apply Gr.drew | apply Gr.drewN | refine Gr.trans ?_ (by assumption)))), cell_gr B3 (by (repeat (first | exact Gr.refl _ | assumption | apply Gr.alloc | apply Gr.drew | apply Gr.drewN | refine Gr.trans ?_ (by assumption))))⟩) (first | (go_at_call 41; (with_reducible refine (Start_calls _ M _ _ (K3.gr (by (repeat (first | exact Gr.refl _ | assumption | apply Gr.alloc | apply Gr.drew | apply Gr.drewN | refine Gr.trans ?_ (by assumption))))) ho).mono ?_); rintro _ w7 ⟨v7, rfl, o7, g7⟩) | (go_at_call 43; (with_reducible refine (Fire_calls _ _ M _ _ _ (K3.gr (by (repeat (first | exact Gr.refl _ | assumption | apply Gr.alloc | apply Gr.drew | apply Gr.drewN | refine Gr.trans ?_ (by assumption))))) (o7.ints.gr (by (repeat (first | exact Gr.refl _ | assumption | apply Gr.alloc | apply Gr.drew | apply Gr.drewN | refine Gr.trans ?_ (by assumption))))) hI).mono ?_); rw [HF.out]; rintro _ w8 ⟨v8, rfl, i8, g8⟩))
      have G8 : Gr w6 w8 := by (repeat (first | exact Gr.refl _ | assumption | apply Gr.alloc | apply Gr.drew | apply Gr.drewN | refine Gr.trans ?_ (by assumption)))
      obtain ⟨a8, c8, rfl, _, _⟩ := i8.len
      replace i4 := i4.gr G8
      replace i6 := i6.gr G8
      replace B0 := cell_gr B0 G8
      replace B1 := cell_gr B1 G8
      replace B2 := cell_gr B2 G8
      replace B3 := cell_gr B3 G8
      replace K2 := K2.gr G8
      replace K3 := K3.gr G8
      replace K4 := K4.gr G8
      replace G8 := G6.trans G8
      clear o7 g7 g8 G3 G4 G6
      go_wp2_with fail
      refine (Contains_calls _ seq _ _ K2).mono ?_
      rw [hh]; rintro _ _ ⟨rfl, rfl⟩
      go_wp2_with fail
      go_ret
      exact ⟨rfl, G8⟩
    case false =>
      have hyx : (x, f) = (y, g) := by rw [← hr, ← hrc hh, ← hr2, HSL.out]
      cases hyx
      have q1 : (f == f) = true := by simp
      have e5 := eqB_yes (rfl : x = x)
      have e6 := eqB_yes (rfl : oneN (startLen M) (i : Int) = oneN (startLen M) (i : Int))
      clear hr hr2 hrc
      go_enter Try.func11, Try.ntmps11
      go_wp2_with fail
      refine (alive8_calls _).mono ?_
      rintro _ w1 ⟨rfl, g1⟩
      have B0 := box_cell g1 (i := 0) rfl
      have B1 := box_cell g1 (i := 1) rfl
      go_wp2_with fail
      refine (Close_calls _ N _ _ _ (by (repeat (first | assumption | refine NetR.gr ?_ (show Gr _ _ from by assumption) | apply NetR.alloc | apply NetR.drew))) hi ho).mono ?_
      rw [HC.out]; rintro _ w2 ⟨v2, rfl, n2, g2⟩
      obtain ⟨ca, cc, rfl, cl, cl', cI, _⟩ := n2.open_
      replace n2 : NetR w2 (.agg #[.int .i64 M.places, .slice ca M.trans.length cc]) M := n2
      have cl2 : N.trans.length ≤ cc := by have : M.trans.length ≤ cc := cl; omega
      have cl3 : M.trans.length ≤ cc := cl
      have K3 : NetR (w2.alloc (.cells #[.int .i64 M.places, .slice ca M.trans.length cc] 24)) (.agg #[.int .i64 M.places, .slice ca M.trans.length cc]) M := n2.alloc _
      have B2 : (w2.alloc (.cells #[.int .i64 M.places, .slice ca M.trans.length cc] 24)).cell? ⟨w2.heap.size, 0, none⟩ = some (.int .i64 M.places) := lit_at rfl rfl
      have B3 : (w2.alloc (.cells #[.int .i64 M.places, .slice ca M.trans.length cc] 24)).cell? ⟨w2.heap.size, 1, none⟩ = some (.slice ca M.trans.length cc) := lit_at rfl rfl
      replace B0 := cell_gr (cell_gr B0 g2) ((Gr.refl _).alloc (.cells #[.int .i64 M.places, .slice ca M.trans.length cc] 24))
      replace B1 := cell_gr (cell_gr B1 g2) ((Gr.refl _).alloc (.cells #[.int .i64 M.places, .slice ca M.trans.length cc] 24))
      have G3 : Gr w (w2.alloc (.cells #[.int .i64 M.places, .slice ca M.trans.length cc] 24)) := by (repeat (first | exact Gr.refl _ | assumption | apply Gr.alloc | apply Gr.drew | apply Gr.drewN | refine Gr.trans ?_ (by assumption)))
      have K2 : Ints (w2.alloc (.cells #[.int .i64 M.places, .slice ca M.trans.length cc] 24)) (.slice sa seq.length sc) seq := by (repeat (first | assumption | exact Ints.nil _ | (refine Ints.lit ?_ rfl rfl rfl ?_ ?_; ((focus (simp; done))); all_goals decide) | apply Ints.alloc | apply Ints.drew | refine Ints.gr ?_ (show Gr _ _ from by assumption)))
      have K4 : NetR (w2.alloc (.cells #[.int .i64 M.places, .slice ca M.trans.length cc] 24)) (.agg #[.int .i64 N.places, .slice a N.trans.length cap]) N := by (repeat (first | assumption | refine NetR.gr ?_ (show Gr _ _ from by assumption) | apply NetR.alloc | apply NetR.drew))
      clear g1 g2 n2 cl cI
      go_wp2_with fail
      go_region_held3 (fun w' => w'.cell? ⟨w.heap.size, 0, none⟩ = some (.int .i64 N.places) ∧ w'.cell? ⟨w.heap.size, 1, none⟩ = some (.slice a N.trans.length cap) ∧ w'.cell? ⟨w2.heap.size, 0, none⟩ = some (.int .i64 M.places) ∧ w'.cell? ⟨w2.heap.size, 1, none⟩ = some (.slice ca M.trans.length cc)) (first | go_keep | exact ⟨cell_gr B0 (by (repeat (first | exact Gr.refl _ | assumption | apply Gr.alloc | apply Gr.drew | apply Gr.drewN | refine Gr.trans ?_ (by assumption)))), cell_gr B1 (by (repeat (first | exact Gr.refl _ | assumption | apply Gr.alloc | apply Gr.drew | apply Gr.drewN | refine Gr.trans ?_ (by assumption)))), cell_gr B2 (by (repeat (first | exact Gr.refl _ | assumption | apply Gr.alloc | apply Gr.drew | apply Gr.drewN | refine Gr.trans ?_ (by assumption)))), cell_gr B3 (by (repeat (first | exact Gr.refl _ | assumption | apply Gr.alloc | apply Gr.drew | apply Gr.drewN | refine Gr.trans ?_ (by assumption))))⟩) (first | (go_at_call 41; (with_reducible refine (Start_calls _ N _ _ (K4.gr (by (repeat (first | exact Gr.refl _ | assumption | apply Gr.alloc | apply Gr.drew | apply Gr.drewN | refine Gr.trans ?_ (by assumption))))) hi).mono ?_); rintro _ w3 ⟨v3, rfl, o3, g3⟩) | (go_at_call 36; (with_reducible refine (Run_calls _ _ _ N _ seq _ (K4.gr (by (repeat (first | exact Gr.refl _ | assumption | apply Gr.alloc | apply Gr.drew | apply Gr.drewN | refine Gr.trans ?_ (by assumption))))) (o3.ints.gr (by (repeat (first | exact Gr.refl _ | assumption | apply Gr.alloc | apply Gr.drew | apply Gr.drewN | refine Gr.trans ?_ (by assumption))))) (K2.gr (by (repeat (first | exact Gr.refl _ | assumption | apply Gr.alloc | apply Gr.drew | apply Gr.drewN | refine Gr.trans ?_ (by assumption)))))).mono ?_); rw [HR.out]; rintro _ w4 ⟨v4, rfl, i4, g4⟩))
      have G4 : Gr (w2.alloc (.cells #[.int .i64 M.places, .slice ca M.trans.length cc] 24)) w4 := by (repeat (first | exact Gr.refl _ | assumption | apply Gr.alloc | apply Gr.drew | apply Gr.drewN | refine Gr.trans ?_ (by assumption)))
      obtain ⟨a4, c4, rfl, _, _⟩ := i4.len
      replace B0 := cell_gr B0 G4
      replace B1 := cell_gr B1 G4
      replace B2 := cell_gr B2 G4
      replace B3 := cell_gr B3 G4
      replace K2 := K2.gr G4
      replace K3 := K3.gr G4
      replace K4 := K4.gr G4
      replace G4 := G3.trans G4
      clear o3 g3 g4
      go_wp2_with fail
      go_region_held3 (fun w' => w'.cell? ⟨w.heap.size, 0, none⟩ = some (.int .i64 N.places) ∧ w'.cell? ⟨w.heap.size, 1, none⟩ = some (.slice a N.trans.length cap) ∧ w'.cell? ⟨w2.heap.size, 0, none⟩ = some (.int .i64 M.places) ∧ w'.cell? ⟨w2.heap.size, 1, none⟩ = some (.slice ca M.trans.length cc)) (first | go_keep | exact ⟨cell_gr B0 (by (repeat (first | exact Gr.refl _ | assumption | apply Gr.alloc | apply Gr.drew | apply Gr.drewN | refine Gr.trans ?_ (by assumption)))), cell_gr B1 (by (repeat (first | exact Gr.refl _ | assumption | apply Gr.alloc | apply Gr.drew | apply Gr.drewN | refine Gr.trans ?_ (by assumption)))), cell_gr B2 (by (repeat (first | exact Gr.refl _ | assumption | apply Gr.alloc | apply Gr.drew | apply Gr.drewN | refine Gr.trans ?_ (by assumption)))), cell_gr B3 (by (repeat (first | exact Gr.refl _ | assumption | apply Gr.alloc | apply Gr.drew | apply Gr.drewN | refine Gr.trans ?_ (by assumption))))⟩) (first | (go_at_call 41; (with_reducible refine (Start_calls _ M _ _ (K3.gr (by (repeat (first | exact Gr.refl _ | assumption | apply Gr.alloc | apply Gr.drew | apply Gr.drewN | refine Gr.trans ?_ (by assumption))))) hi).mono ?_); rintro _ w5 ⟨v5, rfl, o5, g5⟩) | (go_at_call 36; (with_reducible refine (Run_calls _ _ _ M _ seq _ (K3.gr (by (repeat (first | exact Gr.refl _ | assumption | apply Gr.alloc | apply Gr.drew | apply Gr.drewN | refine Gr.trans ?_ (by assumption))))) (o5.ints.gr (by (repeat (first | exact Gr.refl _ | assumption | apply Gr.alloc | apply Gr.drew | apply Gr.drewN | refine Gr.trans ?_ (by assumption))))) (K2.gr (by (repeat (first | exact Gr.refl _ | assumption | apply Gr.alloc | apply Gr.drew | apply Gr.drewN | refine Gr.trans ?_ (by assumption)))))).mono ?_); rw [HR2.out]; rintro _ w6 ⟨v6, rfl, i6, g6⟩))
      have G6 : Gr w4 w6 := by (repeat (first | exact Gr.refl _ | assumption | apply Gr.alloc | apply Gr.drew | apply Gr.drewN | refine Gr.trans ?_ (by assumption)))
      obtain ⟨a6, c6, rfl, _, _⟩ := i6.len
      replace i4 := i4.gr G6
      replace B0 := cell_gr B0 G6
      replace B1 := cell_gr B1 G6
      replace B2 := cell_gr B2 G6
      replace B3 := cell_gr B3 G6
      replace K2 := K2.gr G6
      replace K3 := K3.gr G6
      replace K4 := K4.gr G6
      replace G6 := G4.trans G6
      clear o5 g5 g6
      go_wp2_with fail
      go_region_held3 (fun w' => w'.cell? ⟨w.heap.size, 0, none⟩ = some (.int .i64 N.places) ∧ w'.cell? ⟨w.heap.size, 1, none⟩ = some (.slice a N.trans.length cap) ∧ w'.cell? ⟨w2.heap.size, 0, none⟩ = some (.int .i64 M.places) ∧ w'.cell? ⟨w2.heap.size, 1, none⟩ = some (.slice ca M.trans.length cc)) (first | go_keep | exact ⟨cell_gr B0 (by (repeat (first | exact Gr.refl _ | assumption | apply Gr.alloc | apply Gr.drew | apply Gr.drewN | refine Gr.trans ?_ (by assumption)))), cell_gr B1 (by (repeat (first | exact Gr.refl _ | assumption | apply Gr.alloc | apply Gr.drew | apply Gr.drewN | refine Gr.trans ?_ (by assumption)))), cell_gr B2 (by (repeat (first | exact Gr.refl _ | assumption | apply Gr.alloc | apply Gr.drew | apply Gr.drewN | refine Gr.trans ?_ (by assumption)))), cell_gr B3 (by (repeat (first | exact Gr.refl _ | assumption | apply Gr.alloc | apply Gr.drew | apply Gr.drewN | refine Gr.trans ?_ (by assumption))))⟩) (first | (go_at_call 41; (with_reducible refine (Start_calls _ M _ _ (K3.gr (by (repeat (first | exact Gr.refl _ | assumption | apply Gr.alloc | apply Gr.drew | apply Gr.drewN | refine Gr.trans ?_ (by assumption))))) ho).mono ?_); rintro _ w7 ⟨v7, rfl, o7, g7⟩) | (go_at_call 43; (with_reducible refine (Fire_calls _ _ M _ _ _ (K3.gr (by (repeat (first | exact Gr.refl _ | assumption | apply Gr.alloc | apply Gr.drew | apply Gr.drewN | refine Gr.trans ?_ (by assumption))))) (o7.ints.gr (by (repeat (first | exact Gr.refl _ | assumption | apply Gr.alloc | apply Gr.drew | apply Gr.drewN | refine Gr.trans ?_ (by assumption))))) hI).mono ?_); rw [HF.out]; rintro _ w8 ⟨v8, rfl, i8, g8⟩))
      have G8 : Gr w6 w8 := by (repeat (first | exact Gr.refl _ | assumption | apply Gr.alloc | apply Gr.drew | apply Gr.drewN | refine Gr.trans ?_ (by assumption)))
      obtain ⟨a8, c8, rfl, _, _⟩ := i8.len
      replace i4 := i4.gr G8
      replace i6 := i6.gr G8
      replace B0 := cell_gr B0 G8
      replace B1 := cell_gr B1 G8
      replace B2 := cell_gr B2 G8
      replace B3 := cell_gr B3 G8
      replace K2 := K2.gr G8
      replace K3 := K3.gr G8
      replace K4 := K4.gr G8
      replace G8 := G6.trans G8
      clear o7 g7 g8 G3 G4 G6
      go_wp2_with fail
      refine (Contains_calls _ seq _ _ K2).mono ?_
      rw [hh]; rintro _ _ ⟨rfl, rfl⟩
      go_wp2_with fail
      have e7 : sameN ⟨M.places, M.trans.take N.trans.length⟩ N = true := sameN_iff.2 (by rw [HT.out, HP.out])
      have K5 : NetR w8 (.agg #[.int .i64 M.places, .slice ca N.trans.length cc]) ⟨M.places, M.trans.take N.trans.length⟩ := NetR.mk_ (N := ⟨M.places, M.trans.take N.trans.length⟩) ((netR_trans K3).1.take hl1) (netR_trans K3).2
      go_region_held3 (fun w' => w'.cell? ⟨w.heap.size, 0, none⟩ = some (.int .i64 N.places) ∧ w'.cell? ⟨w.heap.size, 1, none⟩ = some (.slice a N.trans.length cap) ∧ w'.cell? ⟨w2.heap.size, 0, none⟩ = some (.int .i64 M.places) ∧ w'.cell? ⟨w2.heap.size, 1, none⟩ = some (.slice ca M.trans.length cc)) (first | go_keep | exact ⟨cell_gr B0 (by (repeat (first | exact Gr.refl _ | assumption | apply Gr.alloc | apply Gr.drew | apply Gr.drewN | refine Gr.trans ?_ (by assumption)))), cell_gr B1 (by (repeat (first | exact Gr.refl _ | assumption | apply Gr.alloc | apply Gr.drew | apply Gr.drewN | refine Gr.trans ?_ (by assumption)))), cell_gr B2 (by (repeat (first | exact Gr.refl _ | assumption | apply Gr.alloc | apply Gr.drew | apply Gr.drewN | refine Gr.trans ?_ (by assumption)))), cell_gr B3 (by (repeat (first | exact Gr.refl _ | assumption | apply Gr.alloc | apply Gr.drew | apply Gr.drewN | refine Gr.trans ?_ (by assumption))))⟩) (first | (go_at_call_of 44 (Value.slice a4 x.length c4); (with_reducible refine (Equal_calls _ _ x x _ (i4.gr (by (repeat (first | exact Gr.refl _ | assumption | apply Gr.alloc | apply Gr.drew | apply Gr.drewN | refine Gr.trans ?_ (by assumption))))) (i6.gr (by (repeat (first | exact Gr.refl _ | assumption | apply Gr.alloc | apply Gr.drew | apply Gr.drewN | refine Gr.trans ?_ (by assumption)))))).mono ?_); rw [e5]; rintro _ w9 ⟨rfl, g9⟩) | (go_at_call 41; (with_reducible refine (Start_calls _ M _ _ (K3.gr (by (repeat (first | exact Gr.refl _ | assumption | apply Gr.alloc | apply Gr.drew | apply Gr.drewN | refine Gr.trans ?_ (by assumption))))) hi).mono ?_); rintro _ w10 ⟨v10, rfl, o10, g10⟩) | (go_at_call_of 44 (Value.slice a8 (oneN (startLen M) ↑i).length c8); (with_reducible refine (Equal_calls _ _ (oneN (startLen M) ↑i) (oneN (startLen M) ↑i) _ (i8.gr (by (repeat (first | exact Gr.refl _ | assumption | apply Gr.alloc | apply Gr.drew | apply Gr.drewN | refine Gr.trans ?_ (by assumption))))) (o10.ints.gr (by (repeat (first | exact Gr.refl _ | assumption | apply Gr.alloc | apply Gr.drew | apply Gr.drewN | refine Gr.trans ?_ (by assumption)))))).mono ?_); rw [e6]; rintro _ w11 ⟨rfl, g11⟩) | (go_at_call 18; (with_reducible refine (ShapeWrong_calls _ M _ _ _ (K3.gr (by (repeat (first | exact Gr.refl _ | assumption | apply Gr.alloc | apply Gr.drew | apply Gr.drewN | refine Gr.trans ?_ (by assumption))))) hi ho).mono ?_); rw [HW.out]; rintro _ w12 ⟨rfl, g12⟩) | (go_at_call 45; (with_reducible refine (SameNet_calls _ _ _ N _ (K5.gr (by (repeat (first | exact Gr.refl _ | assumption | apply Gr.alloc | apply Gr.drew | apply Gr.drewN | refine Gr.trans ?_ (by assumption))))) (K4.gr (by (repeat (first | exact Gr.refl _ | assumption | apply Gr.alloc | apply Gr.drew | apply Gr.drewN | refine Gr.trans ?_ (by assumption)))))).mono ?_); rw [e7]; rintro _ w13 ⟨rfl, g13⟩))
      go_wp2_with fail
      go_ret
      exact ⟨rfl, G8.trans (by (repeat (first | exact Gr.refl _ | assumption | apply Gr.alloc | apply Gr.drew | apply Gr.drewN | refine Gr.trans ?_ (by assumption))))⟩
end Go.Proofs.Ytmigejcejnofiaa
