/- The walk of AlignFits: at every net, marks and trace it answers true. -/
import Derived.Test.YtkekamffmmokmaaAlive21
namespace Go.Proofs.Ytkekamffmmokmaa
open Go.RowKit Go.Tok
set_option linter.unusedVariables false
set_option maxHeartbeats 4000000 in
set_option maxRecDepth 100000 in
theorem AlignFits_walk {v u : Value} {N : NetD} {i o : Int} {tr : List Int} (w : World) (hN : NetR w v N) (hi : I64 i) (ho : I64 o) (h2 : Ints w u tr ∧ tr.length ≤ 17592186043904) :
    Calls Try.prog 8 #[v, .int .i64 i, .int .i64 o, u] w fun e w' => e = .returned (.bool true) ∧ Gr w w' := by
  obtain ⟨hu, hul⟩ := h2
  have hN' := hN
  obtain ⟨a, cap, rfl, hnl, hncap, hpl, hT⟩ := hN.open_
  have hpl1 := hpl.1
  have hpl2 := hpl.2
  obtain ⟨ua, uc, rfl, _, _⟩ := hu.len
  have b0 : Blk (w.alloc (.cells #[.int .i64 N.places, .slice a N.trans.length cap] 24)) w.heap.size 24 #[.int .i64 N.places, .slice a N.trans.length cap] := Blk.new rfl
  have G0 : Gr w (w.alloc (.cells #[.int .i64 N.places, .slice a N.trans.length cap] 24)) := (Gr.refl _).alloc _
  go_enter Try.func8, Try.ntmps8
  go_wp2_with fail
  refine (alive21_calls _).mono ?_
  rintro _ w1 ⟨rfl, g1⟩
  have b1 := b0.gr g1
  have C0 := b1.cell (i := 0) (v := .int .i64 N.places) rfl
  have C1 := b1.cell (i := 1) (v := .slice a N.trans.length cap) rfl
  have GW := G0.trans g1
  clear b0 G0 g1
  go_wp2_with fail
  refine (Align_calls _ _ N i o tr _ (hN'.gr GW) hi ho (hu.gr GW)).mono ?_
  rintro _ w2 ⟨v2, l, c, x, rfl, r2, g2, hM⟩
  obtain ⟨la, lc, rfl, _, _⟩ := r2.len
  replace C0 := cell_gr C0 g2
  replace C1 := cell_gr C1 g2
  have G2 := GW.trans g2
  clear b1 r2 g2 GW
  go_wp2_with fail
  refine (Has_calls _ _ N i o tr _ (hN'.gr G2) hi ho (hu.gr G2) (by omega)).mono ?_
  rintro _ w3 ⟨b, rfl, g3, hH⟩
  have HS := Lib.hid (fits_said hM hH)
  have G3 := G2.trans g3
  clear hM hH C0 C1 g3 G2
  obtain ⟨f, hf⟩ : ∃ f, f = hasErr N i o := ⟨_, rfl⟩
  rw [← hf] at HS ⊢
  clear hf
  by_cases hx : x = 0
  case pos =>
    obtain ⟨hf0, hb⟩ := HS.out.2 hx
    subst hx
    subst hf0
    by_cases hc : c = 0
    · subst hc
      obtain rfl : b = true := hb.2 rfl
      clear HS hb
      go_wp2_with fail
      go_ret
      exact ⟨rfl, G3.trans (by (repeat (first | exact Gr.refl _ | assumption | apply Gr.alloc | apply Gr.drew | apply Gr.drewN | refine Gr.trans ?_ (by assumption))))⟩
    · have hb2 : b = false := by
        cases hbb : b with
        | false => rfl
        | true => exact absurd (hb.1 hbb) hc
      subst hb2
      have q1 : ((c : Int) == 0) = false := by
        rw [Bool.eq_false_iff]; intro h; rw [beq_iff_eq] at h; omega
      clear HS hb hc
      go_wp2_with fail
      go_ret
      exact ⟨rfl, G3.trans (by (repeat (first | exact Gr.refl _ | assumption | apply Gr.alloc | apply Gr.drew | apply Gr.drewN | refine Gr.trans ?_ (by assumption))))⟩
  case neg =>
    have q1 : (x != 0) = true := by simpa using hx
    by_cases h3 : x = 3
    · rcases HS.out.1 hx with h | ⟨hf0, hb⟩
      · exact absurd h3 h
      · subst hf0
        subst hb
        subst h3
        clear HS hx q1
        go_wp2_with fail
        go_ret
        exact ⟨rfl, G3.trans (by (repeat (first | exact Gr.refl _ | assumption | apply Gr.alloc | apply Gr.drew | apply Gr.drewN | refine Gr.trans ?_ (by assumption))))⟩
    · have q2 : (x != 3) = true := by simpa using h3
      clear HS hx
      go_wp2_with fail
      go_ret
      exact ⟨rfl, G3.trans (by (repeat (first | exact Gr.refl _ | assumption | apply Gr.alloc | apply Gr.drew | apply Gr.drewN | refine Gr.trans ?_ (by assumption))))⟩
end Go.Proofs.Ytkekamffmmokmaa
