/- The call ReplayFits answers true at any net, places and trace that read as data (lists of at most 17592186043904 elements); nothing that lay there turns. -/
import Derived.Test.YtidpppfimkhgkaaAlive20
import Derived.Test.YtidpppfimkhgkaaTongRepl
import Derived.Test.YtidpppfimkhgkaaTong4
namespace Go.Proofs.Ytidpppfimkhgkaa
open Go.RowKit Go.Tok
set_option linter.unusedVariables false
set_option maxHeartbeats 4000000 in
set_option maxRecDepth 100000 in
theorem ReplayFits_walk {v s : Value} {N : NetD} {i o : Int} {seq : List Int} (w : World) (hN : NetR w v N) (hi : I64 i) (ho : I64 o) (h2 : Ints w s seq ∧ seq.length ≤ 17592186043904) :
    Calls Try.prog 9 #[v, .int .i64 i, .int .i64 o, s] w fun e w' => e = .returned (.bool true) ∧ Gr w w' := by
  obtain ⟨hs, ls⟩ := h2
  have hN' := hN
  obtain ⟨a, cap, rfl, hnl, hncap, hpl, hT⟩ := hN.open_
  have hpl1 := hpl.1
  have hpl2 := hpl.2
  obtain ⟨sa, sc, rfl, sl, sl'⟩ := hs.len
  rcases hr : replF N i o seq with ⟨⟨P, T', L, F⟩, e⟩
  have HR := Lib.hid hr
  by_cases he : e = 0
  case neg =>
    have q1 : (e != 0) = true := by simpa using he
    clear hr he
    go_enter Try.func9, Try.ntmps9
    go_wp2_with fail
    refine (alive20_calls _).mono ?_
    rintro _ w1 ⟨rfl, g1⟩
    have B0 := box_cell g1 (i := 0) rfl
    have B1 := box_cell g1 (i := 1) rfl
    have GW : Gr w w1 := ((Gr.refl w).alloc _).trans g1
    go_wp2_with fail
    refine (Replay_calls _ _ N i o seq _ (hN'.gr GW) hi ho (hs.gr GW) ls).mono ?_
    rw [HR.out]; rintro _ w2 ⟨rfl, g2⟩
    clear g1
    have GZ := GW.trans g2
    go_wp2_with fail
    go_ret
    exact ⟨rfl, GZ.trans (by (repeat (first | exact Gr.refl _ | assumption | apply Gr.alloc | apply Gr.drew | apply Gr.drewN | refine Gr.trans ?_ (by assumption))))⟩
  case pos =>
    subst he
    obtain ⟨x, y, hx, hy, hO, hF⟩ := repl_fits hr
    simp only [] at hF
    have HXI := Lib.hid hx
    have HYO := Lib.hid hy
    clear hr hx hy
    go_enter Try.func9, Try.ntmps9
    go_wp2_with fail
    refine (alive20_calls _).mono ?_
    rintro _ w1 ⟨rfl, g1⟩
    have B0 := box_cell g1 (i := 0) rfl
    have B1 := box_cell g1 (i := 1) rfl
    have GW : Gr w w1 := ((Gr.refl w).alloc _).trans g1
    go_wp2_with fail
    refine (Replay_calls _ _ N i o seq _ (hN'.gr GW) hi ho (hs.gr GW) ls).mono ?_
    rw [HR.out]; rintro _ w2 ⟨rfl, g2⟩
    clear g1
    have GE : Gr w2 (w2.alloc (.cells #[.int .i64 P, .int .i64 T', .int .i64 L, .int .i64 F] 78)) := (Gr.refl _).alloc _
    have bE : Blk (w2.alloc (.cells #[.int .i64 P, .int .i64 T', .int .i64 L, .int .i64 F] 78)) w2.heap.size 78 #[.int .i64 P, .int .i64 T', .int .i64 L, .int .i64 F] := Blk.new rfl
    have D0 := cell_gr (cell_gr B0 g2) GE
    have D1 := cell_gr (cell_gr B1 g2) GE
    have GX := (GW.trans g2).trans GE
    clear B0 B1 g2 GW
    go_wp2_with fail
    refine (Has_calls _ _ N i o seq _ (hN'.gr GX) hi ho (hs.gr GX) (by omega)).mono ?_
    rintro _ w3 ⟨b, rfl, g3, hM⟩
    have C2 := (bE.gr g3).cell (i := 2) (v := .int .i64 L) rfl
    have C3 := (bE.gr g3).cell (i := 3) (v := .int .i64 F) rfl
    have GZ := GX.trans g3
    have hcase : (hasErr N i o != 0) = true ∨ ((hasErr N i o != 0) = false ∧ (b = true ↔ (L = 0 ∧ F = 0))) := by
      by_cases h0 : hasErr N i o = 0
      · refine .inr ⟨by simpa using h0, ?_⟩
        obtain ⟨x', y', _, hx', hy', hO', _, hb⟩ := hM.2 h0
        have hx := HXI.out
        have hy := HYO.out
        obtain rfl : x' = x := by omega
        obtain rfl : y' = y := by omega
        rw [startLen_ok hO.ok] at hb
        exact hb.trans hF
      · exact .inl (by simpa using h0)
    clear hM hF hO bE D0 D1 GE GX g3
    generalize hasErr N i o = he at hcase ⊢
    rcases hcase with q1 | ⟨q1, hb⟩
    · go_wp2_with fail
      go_ret
      exact ⟨rfl, GZ⟩
    · by_cases hL : L = 0
      · by_cases hF : F = 0
        · have q2 : (L == 0) = true := by simpa using hL
          have q3 : (F == 0) = true := by simpa using hF
          obtain rfl : b = true := hb.2 ⟨hL, hF⟩
          clear hb hL hF
          go_wp2_with fail
          go_ret
          exact ⟨rfl, GZ⟩
        · have q2 : (L == 0) = true := by simpa using hL
          have q3 : (F == 0) = false := by simpa using hF
          obtain rfl : b = false := by
            cases b
            · rfl
            · exact absurd (hb.1 rfl).2 hF
          clear hb hL hF
          go_wp2_with fail
          go_ret
          exact ⟨rfl, GZ⟩
      · have q2 : (L == 0) = false := by simpa using hL
        obtain rfl : b = false := by
          cases b
          · rfl
          · exact absurd (hb.1 rfl).1 hL
        clear hb hL
        go_wp2_with fail
        go_ret
        exact ⟨rfl, GZ⟩
end Go.Proofs.Ytidpppfimkhgkaa
