/- Contract of TextLine. -/
import Derived.Test.YtiflolklgmmgeaaDoorText8
namespace Go.Tok
theorem join_none : ∀ ls : List (List UInt8), Lib.join ls [] = ls.flatten
  | [] => rfl
  | x :: r => by
    rw [Lib.join_cons]
    unfold Lib.joinTail
    simp
theorem take_flat_len {s : List UInt8} (k : Nat) : ((splitL s).take k).flatten.length ≤ s.length := by
  have h : ((splitL s).take k).flatten ++ ((splitL s).drop k).flatten = s := by rw [← List.flatten_append, List.take_append_drop, splitL_flat]
  have := congrArg List.length h
  rw [List.length_append] at this
  omega
end Go.Tok
namespace Go.Proofs.YtiflolklgmmgeaaDoor
open Go.RowKit Go.Tok
set_option linter.unusedVariables false
theorem Join_calls (A c k : Nat) (ls : List (List UInt8)) (w : World) (hS : StrsAt w A ls) (hk : k ≤ ls.length) (hc : ls.length = c) (hl : (ls.take k).flatten.length ≤ 100000000) (hn : ls.length ≤ 100000000) (hp : 0 < ls.length) : Calls Tryd.prog 13 #[.slice (some ⟨A, 0, none⟩) k c, .string (strB [])] w fun e w' => e = .returned (.string (strB (ls.take k).flatten)) ∧ Gr w w' := by
  have hlen : ((ls.take k).map strB).length = k := by rw [List.length_map, List.length_take]; omega
  have hmap : ((ls.take k).map strB).map (·.data.toList) = ls.take k := by
    rw [List.map_map]
    exact List.map_id'' (fun _ => rfl) _
  have hj : Lib.join (((ls.take k).map strB).map (·.data.toList)) (strB []).data.toList = (ls.take k).flatten := by
    rw [hmap]; exact join_none _
  have hbk : A < w.heap.size := by unfold StrsAt at hS; exact cell_block (a := ⟨A, 0, none⟩) (hS 0 hp)
  have h := Tryd.strings_Join A 0 c ((ls.take k).map strB) (strB []) w (by
    intro j x hx
    rw [List.getElem?_map, Option.map_eq_some_iff] at hx
    obtain ⟨y, hy, rfl⟩ := hx
    obtain ⟨hj1, hj2⟩ := List.getElem?_eq_some_iff.1 hy
    rw [List.length_take] at hj1
    unfold StrsAt at hS
    have h0 := hS j (by omega)
    rw [Nat.zero_add, h0]
    rw [List.getElem_take] at hj2
    have e : ls.getD j [] = ls[j]'(by omega) := by simp [show j < ls.length by omega]
    rw [e, hj2]) hbk (by rw [hlen]; omega) (by rw [hlen]; omega) (by rw [hj]; omega)
  rw [hlen, hj] at h
  refine h.mono ?_
  rintro e w' ⟨rfl, hb⟩
  exact ⟨rfl, gr_of hb⟩
set_option maxHeartbeats 2000000 in
set_option maxRecDepth 100000 in
theorem TextLine_calls (s : List UInt8) (w : World) (hs : s.length ≤ 10000000) (hT : TabW w) : Calls Tryd.prog 5 #[.string (strB s)] w fun e w' => e = .returned (.bool true) ∧ Gr w w' := by
  obtain ⟨⟨N, k, c⟩, hr⟩ : ∃ r, r = parseF s := ⟨_, rfl⟩
  have HA := Lib.hid (alive15_calls w hT)
  have HT := Lib.hid hT
  have e1 : (⟨#[10]⟩ : ByteArray) = strB [10] := rfl
  have e0 : (⟨#[]⟩ : ByteArray) = strB [] := rfl
  have HP : Hid (∀ W, TabW W → Calls Tryd.prog 7 #[.string (strB s)] W fun e w' => ∃ a cap, e = .returned (.tuple #[.agg #[.int .i64 N.places, .slice a N.trans.length cap], .int .i64 k, .int .i64 c]) ∧ Gr W w') := Lib.hid fun W hW => (parse_is hr.symm hs W hW).mono fun _ _ h => by obtain ⟨a, cap, h1, _, h3⟩ := h; exact ⟨a, cap, h1, h3⟩
  by_cases hc : c = 0
  · subst hc
    clear hr hs hT
    go_enter Tryd.func5, Tryd.ntmps5
    go_wp2_with fail
    refine HA.out.mono ?_
    rintro _ w1 ⟨rfl, g1⟩
    go_wp2_with fail
    refine (HP.out _ (HT.out.gr g1)).mono ?_
    rintro _ w2 ⟨a, c2, rfl, g2⟩
    go_wp2_with fail
    go_ret
    exact ⟨rfl, by (repeat (first | exact Gr.refl _ | assumption | apply Gr.alloc | apply Gr.drew | apply Gr.drewN | refine Gr.trans ?_ (by assumption)))⟩
  obtain ⟨hNe, hc1, _, _⟩ := parse_bad (show parseL 0 ⟨0, []⟩ (splitL s) = (N, k, c) from hr.symm) hc
  subst hc1
  by_cases hk : k = 0
  · subst hk
    clear hr hs hT hNe
    go_enter Tryd.func5, Tryd.ntmps5
    go_wp2_with fail
    refine HA.out.mono ?_
    rintro _ w1 ⟨rfl, g1⟩
    go_wp2_with fail
    refine (HP.out _ (HT.out.gr g1)).mono ?_
    rintro _ w2 ⟨a, c2, rfl, g2⟩
    go_wp2_with fail
    go_ret
    exact ⟨rfl, by (repeat (first | exact Gr.refl _ | assumption | apply Gr.alloc | apply Gr.drew | apply Gr.drewN | refine Gr.trans ?_ (by assumption)))⟩
  obtain ⟨hlt, M, hM, hMl⟩ := parse_line hr.symm hk
  have hfl := take_flat_len (s := s) k
  have hcnt : (splitL s).length ≤ 100000000 := by have h1 := splitL_len s; have h2 : s.count 10 ≤ s.length := List.count_le_length; omega
  have HSP := Lib.hid (fun W (hW : TabW W) => split_calls s W (by omega) hW)
  have HJ : Hid (∀ (A : Nat) W, StrsAt W A (splitL s) → Calls Tryd.prog 13 #[.slice (some ⟨A, 0, none⟩) k (splitL s).length, .string (strB [])] W fun e w' => e = .returned (.string (strB ((splitL s).take k).flatten)) ∧ Gr W w') := Lib.hid fun A W hS => Join_calls A _ k (splitL s) W hS (by omega) rfl (by omega) hcnt (by omega)
  have HP2 := Lib.hid (fun W hW => parse_is hM (by omega) W hW)
  have hml : (M.trans.length : Int) = (k : Int) - 1 := by omega
  generalize ((splitL s).take k).flatten = s2 at HJ HP2
  generalize splitL s = ls at HSP HJ hlt hcnt
  have hk1 : ((k : Int) == 0) = false := by simpa using hk
  have hlt1 : (k : Int) < (ls.length : Int) := by omega
  have hlt2 : (k : Int) ≤ (ls.length : Int) := by omega
  have hk0 : (0 : Int) ≤ (k : Int) := by omega
  have hw : wrap64 ((k : Int) - 1) = (k : Int) - 1 := by unfold wrap64; omega
  have hq : ((M.trans.length : Int) == (k : Int) - 1) = true := by simpa using hml
  clear hml
  clear hr hs hT hNe hM hMl hfl hc
  go_enter Tryd.func5, Tryd.ntmps5
  go_wp2_with fail
  refine HA.out.mono ?_
  rintro _ w1 ⟨rfl, g1⟩
  go_wp2_with fail
  refine (HP.out _ (HT.out.gr g1)).mono ?_
  rintro _ w2 ⟨a, c2, rfl, g2⟩
  have GA : Gr w2 (w2.alloc (.cells #[.int .i64 N.places, .slice a N.trans.length c2] 25)) := (Gr.refl _).alloc _
  have HG := Lib.hid (g1.trans (g2.trans GA))
  clear g1 g2 GA
  go_wp2_with fail
  refine (HSP.out _ (HT.out.gr HG.out)).mono ?_
  rintro _ w3 ⟨A, rfl, hA, hS, g3⟩
  have HG3 := Lib.hid (HG.out.trans g3)
  have HS3 := Lib.hid hS
  clear g3 hS hA
  go_wp2_with fail
  refine (HJ.out A _ HS3.out).mono ?_
  rintro _ w4 ⟨rfl, g4⟩
  have HG4 := Lib.hid (HG3.out.trans g4)
  clear g4
  go_wp2_with fail
  refine (HP2.out _ (HT.out.gr HG4.out)).mono ?_
  rintro _ w5 ⟨b, cap, rfl, hN5, g5⟩
  have bN : Blk (w5.alloc (.cells #[.int .i64 M.places, .slice b M.trans.length cap] 25)) w5.heap.size 25 #[.int .i64 M.places, .slice b M.trans.length cap] := Blk.new rfl
  have X0 := bN.cell (i := 0) (v := .int .i64 M.places) rfl
  have X1 := bN.cell (i := 1) (v := .slice b M.trans.length cap) rfl
  have HG5 := Lib.hid ((HG4.out.trans g5).alloc (.cells #[.int .i64 M.places, .slice b M.trans.length cap] 25))
  clear g5 bN hN5
  go_wp2_with fail
  all_goals go_ret
  all_goals exact ⟨rfl, HG5.out⟩
end Go.Proofs.YtiflolklgmmgeaaDoor
