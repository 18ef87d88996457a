/- The walk of AlignBest: at every net, marks and trace it answers true. -/
import Derived.Test.YtkanaoebpajbfaaAlive21
import Derived.Test.YtkanaoebpajbfaaTong8
import Derived.Test.YtkanaoebpajbfaaApart
namespace Go.Tok
open Go.RowKit Go.Proofs.Ytkanaoebpajbfaa
theorem words_short8 {N : NetD} {i o : Int} {out : List (List Int)} (hW : WordsIs N i o 8 out 0) : ∀ u ∈ out, u.length ≤ 8 := by
  rcases hW with ⟨_, h2, _⟩ | ⟨_, ⟨_, h2, _⟩ | ⟨hm0, hm8, A', hK, hs, hg', h4⟩⟩
  · subst h2; intro u hu; cases hu
  · subst h2; intro u hu; cases hu
  · rcases h4 with ⟨_, h5, _⟩ | ⟨h4, _⟩
    · subst h5; intro u hu; cases hu
    · intro u hu
      have : AccW (labN N) A'.arcs (endsN N o A') u ∧ (u.length : Int) ≤ 8 := ((words_are (say_okA (most := 8) hK hs) hm0 (res := out) h4).1 u).1 hu
      omega
end Go.Tok
namespace Go.Proofs.Ytkanaoebpajbfaa
open Go.RowKit Go.Tok
set_option linter.unusedVariables false
set_option maxHeartbeats 4000000 in
set_option maxRecDepth 100000 in
theorem AlignBest_walk {v u : Value} {N : NetD} {i o : Int} {tr : List Int} (w : World) (hN : NetR w v N) (hi : I64 i) (ho : I64 o) (h2 : Ints w u tr ∧ tr.length ≤ 17592186043904) :
    Calls Try.prog 8 #[v, .int .i64 i, .int .i64 o, u] w fun e w' => e = .returned (.bool true) ∧ Gr w w' := by
  obtain ⟨hu, hul⟩ := h2
  have hN' := hN
  obtain ⟨a, cap, rfl, hnl, hncap, hpl, hT⟩ := hN.open_
  have hpl1 := hpl.1
  have hpl2 := hpl.2
  obtain ⟨ua, uc, rfl, _, _⟩ := hu.len
  have b0 : Blk (w.alloc (.cells #[.int .i64 N.places, .slice a N.trans.length cap] 24)) w.heap.size 24 #[.int .i64 N.places, .slice a N.trans.length cap] := Blk.new rfl
  have G0 : Gr w (w.alloc (.cells #[.int .i64 N.places, .slice a N.trans.length cap] 24)) := (Gr.refl _).alloc _
  go_enter Try.func8, Try.ntmps8
  go_wp2_with fail
  refine (alive21_calls _).mono ?_
  rintro _ w1 ⟨rfl, g1⟩
  have b1 := b0.gr g1
  have C0 := b1.cell (i := 0) (v := .int .i64 N.places) rfl
  have C1 := b1.cell (i := 1) (v := .slice a N.trans.length cap) rfl
  have GW := G0.trans g1
  clear b0 G0 g1
  go_wp2_with fail
  refine (Align_calls _ _ N i o tr _ (hN'.gr GW) hi ho (hu.gr GW)).mono ?_
  rintro _ w2 ⟨v2, l, c, x, rfl, r2, g2, hM, hc20, _⟩
  obtain ⟨la, lc, rfl, _, _⟩ := r2.len
  replace C0 := cell_gr C0 g2
  replace C1 := cell_gr C1 g2
  have G2 := GW.trans g2
  clear b1 r2 g2 GW
  by_cases hx : x = 0
  case neg =>
    have q1 : (x != 0) = true := by simpa using hx
    clear hM
    go_wp2_with fail
    go_ret
    exact ⟨rfl, G2.trans (by (repeat (first | exact Gr.refl _ | assumption | apply Gr.alloc | apply Gr.drew | apply Gr.drewN | refine Gr.trans ?_ (by assumption))))⟩
  subst hx
  by_cases h6 : 6 < tr.length
  · have q2 : (6 : Int) < (tr.length : Int) := by omega
    clear hM
    go_wp2_with fail
    go_ret
    exact ⟨rfl, G2.trans (by (repeat (first | exact Gr.refl _ | assumption | apply Gr.alloc | apply Gr.drew | apply Gr.drewN | refine Gr.trans ?_ (by assumption))))⟩
  have HM := Lib.hid hM
  clear hM
  have q2 : (tr.length : Int) ≤ 6 := by omega
  go_wp2_with fail
  refine (Words_calls _ N i o 8 _ (hN'.gr G2) hi ho (by decide)).mono ?_
  rintro _ w3 ⟨v3, out, f, rfl, g3, r3, hW⟩
  have G3 := G2.trans g3
  obtain ⟨va, vc, rfl, hv1, hv2⟩ := r3.len
  clear C0 C1 g3 G2
  by_cases hf : f = 0
  case neg =>
    have q1 : (f != 0) = true := by simpa using hf
    clear hW
    go_wp2_with fail
    go_ret
    exact ⟨rfl, G3.trans (by (repeat (first | exact Gr.refl _ | assumption | apply Gr.alloc | apply Gr.drew | apply Gr.drewN | refine Gr.trans ?_ (by assumption))))⟩
  subst hf
  have HW := Lib.hid hW
  clear hW
  have U3 := hu.gr G3
  have HW8 := Lib.hid (words_short8 HW.out)
  have htr6 : tr.length ≤ 6 := by omega
  have hcI : I64 (c : Int) := by constructor <;> omega
  go_wp2_with fail
  go_loopw [14, 47] (fun b q wr => ∃ (k : Nat) (x : Int), b = .int .i64 x ∧ q = .int .i64 k ∧ k ≤ out.length ∧ NearW tr (out.take k) x ∧ (-1 ≤ x ∧ x ≤ 1000) ∧ Gr w3 wr) (fun _ q _ => out.length - (intOf q).toNat)
  case atStart => exact ⟨0, -1, rfl, rfl, Nat.zero_le _, by rw [List.take_zero]; exact NearW.nil _, by omega, Gr.refl _⟩
  case round =>
    rename World => wr
    obtain ⟨k, x, rfl, rfl, hk, hB, ⟨hx1, hx2⟩, hgr⟩ := hrel
    by_cases hlt : k < out.length
    · have hkI : (k : Int) < (out.length : Int) := by omega
      obtain ⟨b, of_, sc, rfl, c0, hIw⟩ := (r3.gr hgr).row hlt
      have hu8 := HW8.out _ (ix_mem hlt)
      have HT : Hid (out.take (k + 1) = out.take k ++ [ix out k]) := Lib.hid (by rw [List.take_succ_eq_append_getElem hlt, ix_lt hlt])
      obtain ⟨y, hy⟩ : ∃ y, y = ix out k := ⟨_, rfl⟩
      rw [← hy] at hIw hu8 HT
      clear hy
      obtain ⟨ya, yc, rfl, _, _⟩ := hIw.len
      have hdl := apart_le _ tr y (Nat.le_refl _)
      have HB := Lib.hid hB
      clear hB
      go_wp2_with fail
      refine (apart_calls (tr.length + y.length) tr y _ _ _ (Nat.le_refl _) (by omega) (U3.gr hgr) hIw).mono ?_
      rintro _ w4 ⟨rfl, g4⟩
      obtain ⟨d, hd⟩ : ∃ d, d = apartF tr y := ⟨_, rfl⟩
      rw [← hd] at hdl ⊢
      have HD := Lib.hid hd
      clear hd
      by_cases p1 : x < 0
      · have HN := Lib.hid (HB.out.take (u := y) (.inl p1))
        go_wp2_with fail
        go_roundw
        case rel => exact ⟨k + 1, d, rfl, by go_num, by omega, by rw [HT.out, HD.out]; exact HN.out, ⟨by omega, by omega⟩, hgr.trans g4⟩
        case measure => simp [intOf]; omega
      · have p2 : (x < 0) = False := by simpa using p1
        by_cases p3 : (d : Int) < x
        · have HN := Lib.hid (HB.out.take (u := y) (.inr (by rw [← HD.out]; exact p3)))
          go_wp2_with fail
          go_roundw
          case rel => exact ⟨k + 1, d, rfl, by go_num, by omega, by rw [HT.out, HD.out]; exact HN.out, ⟨by omega, by omega⟩, hgr.trans g4⟩
          case measure => simp [intOf]; omega
        · have HN := Lib.hid (HB.out.keep (u := y) (by omega) (by rw [← HD.out]; omega))
          go_wp2_with fail
          go_roundw
          case rel => exact ⟨k + 1, x, rfl, by go_num, by omega, by rw [HT.out]; exact HN.out, ⟨by omega, by omega⟩, hgr.trans g4⟩
          case measure => simp [intOf]; omega
    · obtain rfl : k = out.length := by omega
      rw [List.take_length] at hB
      have hL := best_law HM.out HW.out hB
      have GX := G3.trans hgr
      clear hB
      by_cases p1 : x < 0
      · clear hL
        go_wp2_with fail
        go_ret
        exact ⟨rfl, GX.trans (by (repeat (first | exact Gr.refl _ | assumption | apply Gr.alloc | apply Gr.drew | apply Gr.drewN | refine Gr.trans ?_ (by assumption))))⟩
      · by_cases p2 : (c : Int) = x
        · subst p2
          clear hL
          go_wp2_with fail
          go_ret
          exact ⟨rfl, GX.trans (by (repeat (first | exact Gr.refl _ | assumption | apply Gr.alloc | apply Gr.drew | apply Gr.drewN | refine Gr.trans ?_ (by assumption))))⟩
        · have p3 : (c : Int) < x ∧ 8 - (tr.length : Int) < c := by
            rcases hL with h | h | h
            · exact absurd h p1
            · exact absurd h p2
            · exact h
          obtain ⟨p3, p4⟩ := p3
          have p5 : ((c : Int) == x) = false := by simpa using p2
          have p6 : min x (c : Int) = c := by omega
          have p7 : I64 (8 - (tr.length : Int)) := by constructor <;> omega
          have p8 : 8 - (tr.length : Int) < c := p4
          clear hL p2 p4 hx1 hx2 hul htr6 h6 q2 hc20
          go_wp2_with fail
          go_ret
          exact ⟨rfl, GX.trans (by (repeat (first | exact Gr.refl _ | assumption | apply Gr.alloc | apply Gr.drew | apply Gr.drewN | refine Gr.trans ?_ (by assumption))))⟩
end Go.Proofs.Ytkanaoebpajbfaa
