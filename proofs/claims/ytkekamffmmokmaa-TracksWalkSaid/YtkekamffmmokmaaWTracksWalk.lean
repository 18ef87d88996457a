/- The law TracksWalk's walk: it answers true. -/
import Derived.Test.YtkekamffmmokmaaAlive22
import Derived.Test.YtkekamffmmokmaaOpenM
namespace Go.Proofs.Ytkekamffmmokmaa
open Go.RowKit Go.Tok
set_option linter.unusedVariables false
theorem ofT_ok {log : List (List Int)} (h : wrongT log = 0) : ofT log = (⟨sortI (trkLog log).all, sortI (trkLog log).first, sortI (trkLog log).last, sortP (trkLog log).behind⟩, 0) := by unfold ofT; rw [if_pos h]
theorem ofT_bad {log : List (List Int)} (h : ¬ wrongT log = 0) : ofT log = (⟨[], [], [], []⟩, wrongT log) := by unfold ofT; rw [if_neg h]
theorem walk_lab {log : List (List Int)} {k j : Nat} (hk : k < log.length) (hj : j < (ix log k).length) : hasB (sortI (trkLog log).all) (nth (ix log k) j) = true := by
  rw [hasB_iff, mem_sortI, (shows_log log).1]
  exact ⟨_, ix_mem hk, j, hj, rfl⟩
theorem walk_first {log : List (List Int)} {k : Nat} (hk : k < log.length) (hj : 0 < (ix log k).length) : hasB (sortI (trkLog log).first) (nth (ix log k) 0) = true := by
  rw [hasB_iff, mem_sortI, (shows_log log).2.1]
  exact ⟨_, ix_mem hk, hj, rfl⟩
theorem walk_last {log : List (List Int)} {k j : Nat} (hk : k < log.length) (hj : j + 1 = (ix log k).length) : hasB (sortI (trkLog log).last) (nth (ix log k) j) = true := by
  rw [hasB_iff, mem_sortI, (shows_log log).2.2.1]
  exact ⟨_, ix_mem hk, j, hj, rfl⟩
theorem walk_pair {log : List (List Int)} {k j : Nat} (hk : k < log.length) (hj : j + 1 < (ix log k).length) : (sortP (trkLog log).behind).any (samePB (nth (ix log k) j, nth (ix log k) (j + 1))) = true := by
  rw [List.any_eq_true]
  refine ⟨_, ?_, samePB_iff.2 rfl⟩
  rw [mem_sortP, (shows_log log).2.2.2]
  exact ⟨_, ix_mem hk, j, hj, rfl⟩
set_option maxHeartbeats 4000000 in
set_option maxRecDepth 100000 in
theorem TracksWalk_walk {v : Value} {log : List (List Int)} {k : Int} (w : World) (hv0 : LogR w v log) (hk : I64 k) : Calls Try.prog 10 #[v, .int .i64 k] w fun e w' => e = .returned (.bool true) ∧ Gr w w' := by
  have hv := hv0.rd
  clear hv0
  obtain ⟨a, cap, rfl, hlc, hcap⟩ := hv.len
  go_enter Try.func10, Try.ntmps10
  go_wp2_with fail
  refine (alive22_calls _).mono ?_
  rintro _ w1 ⟨rfl, g1⟩
  go_wp2_with fail
  refine (Of_calls _ log _ (hv.gr g1)).mono ?_
  rintro _ w2 ⟨v1, v2, v3, v4, rfl, o1, o2, o3, o4, g2⟩
  have i1 := o1.ints
  have i2 := o2.ints
  have i3 := o3.ints
  have i4 := own_rdP o4
  clear o1 o2 o3 o4
  obtain ⟨a1, m1, rfl, _, _⟩ := i1.len
  obtain ⟨a2, m2, rfl, _, _⟩ := i2.len
  obtain ⟨a3, m3, rfl, _, _⟩ := i3.len
  obtain ⟨a4, m4, rfl, _, _⟩ := i4.len
  generalize hn1 : (ofT log).1.labels.length = n1
  generalize hn2 : (ofT log).1.first.length = n2
  generalize hn3 : (ofT log).1.last.length = n3
  generalize hn4 : (ofT log).1.behind.length = n4
  rw [hn1] at i1
  rw [hn2] at i2
  rw [hn3] at i3
  rw [hn4] at i4
  clear hn1 hn2 hn3 hn4
  have G2 := g1.trans g2
  clear g1 g2
  by_cases hw : wrongT log = 0
  case neg =>
    have e2 : (ofT log).2 = wrongT log := by rw [ofT_bad hw]
    have q1 : (wrongT log == 0) = false := by simpa using hw
    have q2 : (wrongT log != 0) = true := by simpa using hw
    rw [e2]
    clear hw e2
    go_wp2_with fail
    go_ret
    exact ⟨rfl, G2.alloc _⟩
  case pos =>
    have e2 : (ofT log).2 = 0 := by rw [ofT_ok hw]
    rw [e2]
    rw [ofT_ok hw] at i1 i2 i3 i4
    clear hw e2
    by_cases hk0 : k < 0
    · have q1 : decide (k < 0) = true := by simpa using hk0
      go_wp2_with fail
      go_ret
      exact ⟨rfl, G2.alloc _⟩
    · obtain ⟨q, rfl⟩ := Int.eq_ofNat_of_zero_le (show 0 ≤ k by omega)
      have q1 : decide ((q : Int) < 0) = false := by simp
      by_cases hq : q < log.length
      case neg =>
        have q2 : decide ((log.length : Int) ≤ (q : Int)) = true := by simp; omega
        have q3 : (log.length : Int) ≤ (q : Int) := by omega
        go_wp2_with fail
        go_ret
        exact ⟨rfl, G2.alloc _⟩
      case pos =>
        have q2 : decide ((log.length : Int) ≤ (q : Int)) = false := by simp; omega
        have q3 : ¬ (log.length : Int) ≤ (q : Int) := by omega
        have q6 : decide (log.length ≤ q) = false := by simp; omega
        have q4 : (q : Int) < (log.length : Int) := by omega
        have q5 : (0 : Int) ≤ (q : Int) := by omega
        obtain ⟨b, o, u, rfl, c0w, hIw⟩ := hv.row hq
        obtain ⟨ta, tc, rfl, htl, htc⟩ := hIw.len
        have WL := Lib.hid fun j => walk_lab (log := log) (k := q) (j := j) hq
        have WF := Lib.hid (walk_first (log := log) (k := q) hq)
        have WT := Lib.hid fun j => walk_last (log := log) (k := q) (j := j) hq
        have WP := Lib.hid fun j => walk_pair (log := log) (k := q) (j := j) hq
        obtain ⟨t, htt⟩ : ∃ t, t = ix log q := ⟨_, rfl⟩
        rw [← htt] at c0w hIw htl WL WF WT WP
        clear htt
        have GX : Gr w2 (w2.alloc (.cells #[.slice a1 n1 m1, .slice a2 n2 m2, .slice a3 n3 m3, .slice a4 n4 m4] 69)) := (Gr.refl _).alloc _
        have bX : Blk (w2.alloc (.cells #[.slice a1 n1 m1, .slice a2 n2 m2, .slice a3 n3 m3, .slice a4 n4 m4] 69)) w2.heap.size 69 #[.slice a1 n1 m1, .slice a2 n2 m2, .slice a3 n3 m3, .slice a4 n4 m4] := Blk.new rfl
        have c0 := cell_gr c0w (G2.trans GX)
        by_cases ht0 : t.length = 0
        · have r1 : ((t.length : Int) == 0) = true := by simp [ht0]
          have HT0 := Lib.hid ht0
          clear ht0
          go_wp2_with fail
          go_ret
          exact ⟨rfl, G2.trans GX⟩
        · have r1 : ((t.length : Int) == 0) = false := by simp; intro h; exact ht0 (by rw [h]; rfl)
          have HT0 := Lib.hid ht0
          clear ht0
          go_wp2_with fail
          go_loopw [43] (fun i wr => ∃ j : Nat, j ≤ t.length ∧ i = .int .i64 j ∧ Gr (w2.alloc (.cells #[.slice a1 n1 m1, .slice a2 n2 m2, .slice a3 n3 m3, .slice a4 n4 m4] 69)) wr) (fun i _ => t.length - (intOf i).toNat)
          case atStart => exact ⟨0, Nat.zero_le _, rfl, Gr.refl _⟩
          case round =>
            rename World => wr
            obtain ⟨j, hj, rfl, hgr⟩ := hrel
            have GR := GX.trans hgr
            by_cases hjt : j < t.length
            · obtain ⟨b', o', rfl, d0⟩ := (hIw.gr (G2.trans GR)).cell hjt
              have X0 := (bX.gr hgr).cell (i := 0) (v := .slice a1 n1 m1) rfl
              have X3 := (bX.gr hgr).cell (i := 3) (v := .slice a4 n4 m4) rfl
              have hjI : (j : Int) < (t.length : Int) := by omega
              have hj0 : (0 : Int) ≤ (j : Int) := by omega
              have HL := WL.out j hjt
              have HC1 : ∀ W, Gr wr W → Calls Try.prog 24 #[.slice a1 n1 m1, .int .i64 (nth t j)] W fun e w' => e = .returned (.bool true) ∧ W = w' := fun W g => by
                have := Contains_calls _ _ (nth t j) _ (i1.gr (GR.trans g))
                rw [HL] at this; exact this
              have H1 := Lib.hid HC1
              clear HC1 HL
              rcases j with _ | p
              · have d0' : wr.cell? ⟨b', o', none⟩ = some (.int .i64 (nth t 0)) := d0
                clear d0
                go_wp2_with fail
                go_quiet ((go_at_call 24; exact Calls.quiet_of_same (same_quiet (H1.out _ ((Gr.refl _).drewN _)))))
                go_wp2_with fail
                go_roundw
                case rel => exact ⟨1, by omega, by go_num, hgr.drewN _⟩
                case measure => simp [intOf]; omega
              · obtain ⟨b2, o2, hb2, d1⟩ := (hIw.gr (G2.trans GR)).cell (show p < t.length by omega)
                cases hb2
                have HP := WP.out p hjt
                have HC4 : ∀ W, Gr wr W → Calls Try.prog 41 #[.slice a4 n4 m4, .agg #[.int .i64 (nth t p), .int .i64 (nth t (p + 1))]] W fun e w' => e = .returned (.bool true) ∧ Gr W w' := fun W g => by
                  have := ContainsP_calls _ _ (nth t p, nth t (p + 1)) _ (i4.gr (GR.trans g))
                  rw [HP] at this; exact this
                have H4 := Lib.hid HC4
                clear HC4 HP
                have r2 : IntKind.i64.wrap (((p + 1 : Nat) : Int) - 1) = (p : Int) := by rw [IntWalk.i64_in _ (by omega)]; omega
                have r3 : ((p + 1 : Nat) : Int) - 1 = (p : Int) := by omega
                have r4 : decide ((0 : Int) < ((p + 1 : Nat) : Int)) = true := by simp
                have r8 : IntKind.i64.wrap ((p : Int) + 1 - 1) = (p : Int) := by rw [IntWalk.i64_in _ (by omega)]; omega
                have r9 : IntKind.i64.wrap (p : Int) = (p : Int) := IntWalk.i64_in _ (by omega)
                have r10 : (p : Int) + 1 - 1 = (p : Int) := by omega
                have r5 : (p : Int) < (t.length : Int) := by omega
                have r6 : (0 : Int) ≤ (p : Int) := by omega
                go_wp2_with fail
                go_region_held3 (fun w' => w'.cell? ⟨w2.heap.size, 0, none⟩ = some (.slice a1 n1 m1) ∧ w'.cell? ⟨w2.heap.size, 3, none⟩ = some (.slice a4 n4 m4) ∧ w'.cell? ⟨b', o' + p, none⟩ = some (.int .i64 (nth t p))) (first | go_keep | ((refine ⟨cell_gr X0 ?_, cell_gr X3 ?_, cell_gr d1 ?_⟩); ((focus ((repeat (first | exact Gr.refl _ | assumption | apply Gr.alloc | apply Gr.drew | apply Gr.drewN | refine Gr.trans ?_ (by assumption))); done))); ((focus ((repeat (first | exact Gr.refl _ | assumption | apply Gr.alloc | apply Gr.drew | apply Gr.drewN | refine Gr.trans ?_ (by assumption))); done))); ((focus ((repeat (first | exact Gr.refl _ | assumption | apply Gr.alloc | apply Gr.drew | apply Gr.drewN | refine Gr.trans ?_ (by assumption))); done))))) (first | (go_at_call 41; (with_reducible refine (H4.out _ ?_).mono ?_); ((focus ((repeat (first | exact Gr.refl _ | assumption | apply Gr.alloc | apply Gr.drew | apply Gr.drewN | refine Gr.trans ?_ (by assumption))); done))); rintro _ w5 ⟨rfl, g5⟩) | (go_at_call 24; (with_reducible refine (H1.out _ ?_).mono ?_); ((focus ((repeat (first | exact Gr.refl _ | assumption | apply Gr.alloc | apply Gr.drew | apply Gr.drewN | refine Gr.trans ?_ (by assumption))); done))); rintro _ _ ⟨rfl, rfl⟩))
                all_goals (have GE : Gr wr w5 := by (repeat (first | exact Gr.refl _ | assumption | apply Gr.alloc | apply Gr.drew | apply Gr.drewN | refine Gr.trans ?_ (by assumption))))
                clear r2 r3 r4 r8 r9 r10
                go_wp2_with fail
                go_roundw
                case rel => exact ⟨p + 1 + 1, by omega, by go_num, hgr.trans GE⟩
                case measure => simp [intOf]; omega
            · obtain rfl : j = t.length := by omega
              have X1 := (bX.gr hgr).cell (i := 1) (v := .slice a2 n2 m2) rfl
              have X2 := (bX.gr hgr).cell (i := 2) (v := .slice a3 n3 m3) rfl
              obtain ⟨p, hp⟩ : ∃ p, t.length = p + 1 := ⟨t.length - 1, by have := HT0.out; omega⟩
              obtain ⟨b', o', rfl, d0⟩ := (hIw.gr (G2.trans GR)).cell (show 0 < t.length by omega)
              obtain ⟨b2, o2, hb2, d1⟩ := (hIw.gr (G2.trans GR)).cell (show p < t.length by omega)
              cases hb2
              have HF := WF.out (by omega)
              have HT := WT.out p (by omega)
              have HC2 : ∀ W, Gr wr W → Calls Try.prog 24 #[.slice a2 n2 m2, .int .i64 (nth t 0)] W fun e w' => e = .returned (.bool true) ∧ W = w' := fun W g => by
                have := Contains_calls _ _ (nth t 0) _ (i2.gr (GR.trans g))
                rw [HF] at this; exact this
              have HC3 : ∀ W, Gr wr W → Calls Try.prog 24 #[.slice a3 n3 m3, .int .i64 (nth t p)] W fun e w' => e = .returned (.bool true) ∧ W = w' := fun W g => by
                have := Contains_calls _ _ (nth t p) _ (i3.gr (GR.trans g))
                rw [HT] at this; exact this
              have H2 := Lib.hid HC2
              have H3 := Lib.hid HC3
              have r2 : IntKind.i64.wrap ((t.length : Int) - 1) = (p : Int) := by rw [IntWalk.i64_in _ (by omega)]; omega
              have r3 : (t.length : Int) - 1 = (p : Int) := by omega
              have r5 : (p : Int) < (t.length : Int) := by omega
              have r6 : (0 : Int) ≤ (p : Int) := by omega
              have r7 : (0 : Int) < (t.length : Int) := by omega
              have d0' : wr.cell? ⟨b', o', none⟩ = some (.int .i64 (nth t 0)) := d0
              have GE := Lib.hid (G2.trans GR)
              have HPP := Lib.hid hp
              clear HC2 HC3 HF HT d0 hp
              go_wp2_with fail
              go_quiet ((first | (go_at_call 24; exact Calls.quiet_of_same (same_quiet (H2.out _ ((Gr.refl _).drewN _)))) | (go_at_call 24; exact Calls.quiet_of_same (same_quiet (H3.out _ ((Gr.refl _).drewN _))))))
              go_wp2_with fail
              go_ret
              exact ⟨rfl, GE.out.drewN _⟩
end Go.Proofs.Ytkekamffmmokmaa
