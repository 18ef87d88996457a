/- Contract of tongue's far: of each mark how few letters lead to the end. -/
import Derived.Test.YtkanaoebpajbfaaFarLaw
import Derived.Test.YtkanaoebpajbfaaTong5
import Derived.BigQuiet
import Derived.Deep.QuietTactic
namespace Go.Proofs.Ytkanaoebpajbfaa
open Go.RowKit Go.Tok
set_option linter.unusedVariables false
set_option maxHeartbeats 4000000 in
set_option maxRecDepth 100000 in
theorem far_calls {w : World} {pb : Nat} {ms : List (List Int)} {arcs : List ArcD} {lab : List Int} {en : List Bool} (h : Spk w pb ms arcs lab en) (hok : ArcsOk en.length lab.length arcs) (ha : arcs.length ≤ 5864062014805) (hn : en.length ≤ 5864062014805) :
    Calls Try.prog 101 #[.pointer (some ⟨pb, 0, none⟩)] w fun e w' => ∃ v, e = .returned v ∧ OwnI 3 w.heap.size w' v (farN lab arcs en) ∧ Gr w w' := by
  obtain ⟨ma, aa, la, ea, mc, ac, lc, ec, bP, hM, hA, hL, hE⟩ := h
  obtain ⟨_, _, e1, hac1, hac2⟩ := hA.len
  have HOK := Lib.hid hok
  have P3 := bP.cell (i := 3) (v := .slice ea en.length ec) rfl
  clear hok e1
  have T := intTy
  go_enter Try.func101, Try.ntmps101
  go_wp2_with (at_make; refine mk_ints T _ _ w.heap.size en.length _ _ rfl rfl rfl rfl rfl rfl (by omega) (Nat.le_refl _) ?_; intro w1 ho1 G1 hsz; have P1 := cell_gr P3 G1)
  go_loopw [21] (fun q wr => ∃ (k : Nat) (cur : List Int), q = .int .i64 k ∧ k ≤ en.length ∧ OwnI 3 w.heap.size wr (.slice (some ⟨w.heap.size, 0, none⟩) en.length en.length) cur ∧ InitI en k cur ∧ Gr w wr) (fun q _ => en.length - (intOf q).toNat)
  case atStart => exact ⟨0, _, rfl, Nat.zero_le _, ho1, InitI.zero en, G1⟩
  case round =>
    rename World => wi
    obtain ⟨k, cur, rfl, hk, ho, hI, hgr⟩ := hrel
    by_cases hlt : k < en.length
    · obtain ⟨eb, eo, rfl, E0⟩ := (hE.gr hgr).bool (i := k) (by omega)
      have hkI : (k : Int) < (en.length : Int) := by omega
      have hcl := hI.len
      cases hb : ix en k
      · rw [hb] at E0
        have hI2 := hI.no hlt hb
        have S0 := ho.cell (i := k) (by omega)
        have SF := ho.frozen k
        clear hb
        go_wp2_with fail
        go_roundw
        case rel => exact ⟨k + 1, cur.set k (-1), by go_num, by omega, ho.set k _ (by unfold I64; omega), hI2, hgr.setCell (Nat.le_refl _) _⟩
        case measure => simp [intOf]; omega
      · rw [hb] at E0
        have hI2 := hI.yes hlt hb
        clear hb
        go_wp2_with fail
        go_roundw
        case rel => exact ⟨k + 1, cur, by go_num, by omega, ho, hI2, hgr⟩
        case measure => simp [intOf]; omega
    · obtain rfl : k = en.length := by omega
      obtain rfl := hI.all
      have hg0 : w.heap.size ≤ w.heap.size := Nat.le_refl _
      clear hI hlt
      have HF0 := Lib.hid (FarI.init lab arcs en)
      go_wp2_with fail
      go_loopg [6] (leftF en.length (initF en) + 2) (fun f av wr => ∃ (a : Nat) (cur : List Int) (again : Bool), av = .bool again ∧ OwnI 3 w.heap.size wr (.slice (some ⟨w.heap.size, 0, none⟩) en.length en.length) cur ∧ cur = passN lab arcs a (initF en) ∧ (again = false → passA lab arcs cur = cur) ∧ (again = true → leftF en.length cur + 1 < f) ∧ 0 < f ∧ a + leftF en.length cur ≤ leftF en.length (initF en) ∧ Gr w wr)
      case atStart => exact ⟨0, initF en, true, rfl, ho, rfl, (fun e => by cases e), fun _ => Nat.lt_succ_self _, Nat.succ_pos _, by omega, hgr⟩
      case round =>
        rename World => wr
        obtain ⟨a, cur, again, rfl, ho, ec, hC, hf, hf0, ha', hgr⟩ := hrel
        cases again
        · have HX := Lib.hid (show cur = farN lab arcs en from farN_of ec (hC rfl) (by
            have h1 := left_le en.length (initF en) (fun k hk => by have := HF0.out.lt k hk; have := cnt_le (initF en); have := init_len en; omega)
            rw [init_len] at h1; omega))
          clear hC hf ha' ec
          go_wp2_with fail
          go_ret
          exact ⟨_, rfl, by rw [← HX.out]; exact ho, hgr⟩
        · have hf1 := hf rfl
          obtain ⟨f, rfl⟩ : ∃ f, gk = f + 1 := ⟨gk - 1, by omega⟩
          have HA := Lib.hid ha'
          have HFI := Lib.hid (show FarI lab arcs en cur by rw [ec]; exact passN_I HOK.out a)
          have HEC := Lib.hid ec
          have P1 := (bP.gr hgr).cell (i := 0) (v := .slice ma ms.length mc) rfl
          have P2 := (bP.gr hgr).cell (i := 1) (v := .slice aa arcs.length ac) rfl
          clear hf hC ha' ec
          go_wp2_with fail
          go_loopw [39, 6] (fun q av wi => ∃ (k : Nat) (cur2 : List Int) (again2 : Bool), q = .int .i64 k ∧ av = .bool again2 ∧ k ≤ arcs.length ∧ OwnI 3 w.heap.size wi (.slice (some ⟨w.heap.size, 0, none⟩) en.length en.length) cur2 ∧ cur2 = passTo lab arcs k cur ∧ FarT en.length cur cur2 again2 ∧ Gr w wi) (fun q _ _ => arcs.length - (intOf q).toNat)
          case atStart => exact ⟨0, cur, false, rfl, rfl, Nat.zero_le _, ho, (passTo_zero _ _ _).symm, .inl ⟨rfl, rfl⟩, hgr⟩
          case round =>
            rename World => wi
            obtain ⟨k, cur2, again2, rfl, rfl, hk, ho2, hs2, hT, hgr2⟩ := hrel
            by_cases hlt : k < arcs.length
            · obtain ⟨ab, ao, rfl, c0, c1, c2, hI⟩ := (hA.gr hgr2).arc hlt
              obtain ⟨j, t, d, hq, hj, ht, hd⟩ := HOK.out.at_ hlt
              have hF2 := HFI.out.passTo HOK.out k (by omega)
              rw [← hs2] at hF2
              have hlen2 := hF2.len
              have hnext : passTo lab arcs (k + 1) cur = stepA lab cur2 ⟨(j : Int), (t : Int), (d : Int)⟩ := by rw [passTo_succ cur hlt, ← hs2, hq]
              rw [hq] at c0 c1 c2
              have hkI : (k : Int) < (arcs.length : Int) := by omega
              obtain ⟨lb, lo, rfl, L0⟩ := ((hL.gr hgr2).gr ((Gr.refl _).alloc (.cells #[.int .i64 (j : Int), .int .i64 (t : Int), .int .i64 (d : Int)] 214))).cell (i := t) ht
              have P3 := (bP.gr (hgr2.trans ((Gr.refl _).alloc (.cells #[.int .i64 (j : Int), .int .i64 (t : Int), .int .i64 (d : Int)] 214)))).cell (i := 2) (v := .slice (some ⟨lb, lo, none⟩) lab.length lc) rfl
              have ob := ho2.gr ((Gr.refl wi).alloc (.cells #[.int .i64 (j : Int), .int .i64 (t : Int), .int .i64 (d : Int)] 214))
              have S0 := ob.cell (i := j) (by omega)
              have S2 := ob.cell (i := d) (by omega)
              have SF := ob.frozen j
              have A0 : (wi.alloc (.cells #[.int .i64 (j : Int), .int .i64 (t : Int), .int .i64 (d : Int)] 214)).cell? ⟨wi.heap.size, 0, none⟩ = some (.int .i64 (j : Int)) := box_cell (Gr.refl _) (i := 0) rfl
              have A1 : (wi.alloc (.cells #[.int .i64 (j : Int), .int .i64 (t : Int), .int .i64 (d : Int)] 214)).cell? ⟨wi.heap.size, 1, none⟩ = some (.int .i64 (t : Int)) := box_cell (Gr.refl _) (i := 1) rfl
              have A2 : (wi.alloc (.cells #[.int .i64 (j : Int), .int .i64 (t : Int), .int .i64 (d : Int)] 214)).cell? ⟨wi.heap.size, 2, none⟩ = some (.int .i64 (d : Int)) := box_cell (Gr.refl _) (i := 2) rfl
              have htI : (t : Int) < (lab.length : Int) := by omega
              have hjI : (j : Int) < (en.length : Int) := by omega
              have hdI : (d : Int) < (en.length : Int) := by omega
              have hcn := cnt_le cur2
              have hb1 := hF2.ge d (by omega)
              have hb2 := hF2.lt d (by omega)
              have hb3 := hF2.ge j (by omega)
              have hb4 := hF2.lt j (by omega)
              have hle := hT.le
              have hst := step_turn (t := t) hF2 (by rw [hlen2]; exact hj) (by rw [hlen2]; exact hd)
              rw [hlen2] at hst
              have hcy := @cost_yes lab t
              have hcno := @cost_no lab t
              by_cases p1 : 0 ≤ nth cur2 d
              case neg =>
                have q1 : decide (0 ≤ nth cur2 d) = false := by simpa using p1
                rw [stepA_no (fun h => p1 h.1)] at hnext
                clear hst hle hcy hcno hF2 hcn
                clear hs2
                have HS := Lib.hid hnext.symm
                clear hnext hq p1
                go_wp2_with fail
                go_quiet (fail)
                go_wp2_with fail
                go_roundw
                case rel => exact ⟨k + 1, cur2, again2, by go_num, rfl, by omega, ho2.gr (by (repeat (first | exact Gr.refl _ | assumption | apply Gr.drewN | apply Gr.drew | apply Gr.alloc | (refine Gr.setCell ?_ (by simp; try omega) _) | refine Gr.trans ?_ (by assumption)))), HS.out, hT, hgr2.trans (by (repeat (first | exact Gr.refl _ | assumption | apply Gr.drewN | apply Gr.drew | apply Gr.alloc | (refine Gr.setCell ?_ (by simp; try omega) _) | refine Gr.trans ?_ (by assumption))))⟩
                case measure => simp [intOf]; omega
              have q1 : decide (0 ≤ nth cur2 d) = true := by simpa using p1
              by_cases p2 : 0 < nth lab t
              · have q2 : decide (0 < nth lab t) = true := by simpa using p2
                have hwr : wrap64 (nth cur2 d + 1) = nth cur2 d + 1 := by unfold wrap64; omega
                replace hcy := hcy p2
                rw [hcy] at hst
                by_cases p3 : nth cur2 j < 0
                · have q3 : decide (nth cur2 j < 0) = true := by simpa using p3
                  have hlt2 : leftF en.length (cur2.set j (nth cur2 d + 1)) < leftF en.length cur := by
                    rcases hst with ⟨_, h⟩ | h
                    · exact absurd ⟨p1, .inl p3⟩ h
                    · rw [stepA_yes p1 (.inl p3), hcy] at h; omega
                  rw [stepA_yes p1 (.inl p3), hcy] at hnext
                  have HS := Lib.hid hnext.symm
                  clear hst hle hcy hcno hF2 hnext hq p1 p2 p3 hs2 hT
                  go_wp2_with fail
                  go_quiet (fail)
                  go_wp2_with fail
                  go_roundw
                  case rel => exact ⟨k + 1, cur2.set j (nth cur2 d + 1), true, by go_num, rfl, by omega, (ho2.gr (by (repeat (first | exact Gr.refl _ | assumption | apply Gr.drewN | apply Gr.drew | apply Gr.alloc | (refine Gr.setCell ?_ (by simp; try omega) _) | refine Gr.trans ?_ (by assumption))))).set j _ (by unfold I64; omega), HS.out, .inr ⟨rfl, hlt2⟩, (hgr2.trans (by (repeat (first | exact Gr.refl _ | assumption | apply Gr.drewN | apply Gr.drew | apply Gr.alloc | (refine Gr.setCell ?_ (by simp; try omega) _) | refine Gr.trans ?_ (by assumption))))).setCell hg0 _⟩
                  case measure => simp [intOf]; omega
                · have q3 : decide (nth cur2 j < 0) = false := by simpa using p3
                  by_cases p4 : nth cur2 d + 1 < nth cur2 j
                  · have q4 : decide (nth cur2 d + 1 < nth cur2 j) = true := by simpa using p4
                    have hlt2 : leftF en.length (cur2.set j (nth cur2 d + 1)) < leftF en.length cur := by
                      rcases hst with ⟨_, h⟩ | h
                      · exact absurd ⟨p1, .inr p4⟩ h
                      · rw [stepA_yes p1 (.inr (by rw [hcy]; exact p4)), hcy] at h; omega
                    rw [stepA_yes p1 (.inr (by rw [hcy]; exact p4)), hcy] at hnext
                    have HS := Lib.hid hnext.symm
                    clear hst hle hcy hcno hF2 hnext hq p1 p2 p3 p4 hs2 hT
                    go_wp2_with fail
                    go_quiet (fail)
                    go_wp2_with fail
                    go_roundw
                    case rel => exact ⟨k + 1, cur2.set j (nth cur2 d + 1), true, by go_num, rfl, by omega, (ho2.gr (by (repeat (first | exact Gr.refl _ | assumption | apply Gr.drewN | apply Gr.drew | apply Gr.alloc | (refine Gr.setCell ?_ (by simp; try omega) _) | refine Gr.trans ?_ (by assumption))))).set j _ (by unfold I64; omega), HS.out, .inr ⟨rfl, hlt2⟩, (hgr2.trans (by (repeat (first | exact Gr.refl _ | assumption | apply Gr.drewN | apply Gr.drew | apply Gr.alloc | (refine Gr.setCell ?_ (by simp; try omega) _) | refine Gr.trans ?_ (by assumption))))).setCell hg0 _⟩
                    case measure => simp [intOf]; omega
                  · have q4 : decide (nth cur2 d + 1 < nth cur2 j) = false := by simpa using p4
                    rw [stepA_no (fun h => by rcases h.2 with h | h; exact p3 h; rw [hcy] at h; exact p4 h)] at hnext
                    clear hst hle hcy hcno hF2 hcn
                    clear hs2
                    have HS := Lib.hid hnext.symm
                    clear hnext hq p1 p2 p3 p4
                    go_wp2_with fail
                    go_quiet (fail)
                    go_wp2_with fail
                    go_roundw
                    case rel => exact ⟨k + 1, cur2, again2, by go_num, rfl, by omega, ho2.gr (by (repeat (first | exact Gr.refl _ | assumption | apply Gr.drewN | apply Gr.drew | apply Gr.alloc | (refine Gr.setCell ?_ (by simp; try omega) _) | refine Gr.trans ?_ (by assumption)))), HS.out, hT, hgr2.trans (by (repeat (first | exact Gr.refl _ | assumption | apply Gr.drewN | apply Gr.drew | apply Gr.alloc | (refine Gr.setCell ?_ (by simp; try omega) _) | refine Gr.trans ?_ (by assumption))))⟩
                    case measure => simp [intOf]; omega
              · have q2 : decide (0 < nth lab t) = false := by simpa using p2
                replace hcno := hcno p2
                rw [hcno, Int.add_zero] at hst
                by_cases p3 : nth cur2 j < 0
                · have q3 : decide (nth cur2 j < 0) = true := by simpa using p3
                  have hlt2 : leftF en.length (cur2.set j (nth cur2 d)) < leftF en.length cur := by
                    rcases hst with ⟨_, h⟩ | h
                    · exact absurd ⟨p1, .inl p3⟩ h
                    · rw [stepA_yes p1 (.inl p3), hcno, Int.add_zero] at h; omega
                  rw [stepA_yes p1 (.inl p3), hcno, Int.add_zero] at hnext
                  have HS := Lib.hid hnext.symm
                  clear hst hle hcy hcno hF2 hnext hq p1 p2 p3 hs2 hT
                  go_wp2_with fail
                  go_quiet (fail)
                  go_wp2_with fail
                  go_roundw
                  case rel => exact ⟨k + 1, cur2.set j (nth cur2 d), true, by go_num, rfl, by omega, (ho2.gr (by (repeat (first | exact Gr.refl _ | assumption | apply Gr.drewN | apply Gr.drew | apply Gr.alloc | (refine Gr.setCell ?_ (by simp; try omega) _) | refine Gr.trans ?_ (by assumption))))).set j _ (by unfold I64; omega), HS.out, .inr ⟨rfl, hlt2⟩, (hgr2.trans (by (repeat (first | exact Gr.refl _ | assumption | apply Gr.drewN | apply Gr.drew | apply Gr.alloc | (refine Gr.setCell ?_ (by simp; try omega) _) | refine Gr.trans ?_ (by assumption))))).setCell hg0 _⟩
                  case measure => simp [intOf]; omega
                · have q3 : decide (nth cur2 j < 0) = false := by simpa using p3
                  by_cases p4 : nth cur2 d < nth cur2 j
                  · have q4 : decide (nth cur2 d < nth cur2 j) = true := by simpa using p4
                    have hlt2 : leftF en.length (cur2.set j (nth cur2 d)) < leftF en.length cur := by
                      rcases hst with ⟨_, h⟩ | h
                      · exact absurd ⟨p1, .inr p4⟩ h
                      · rw [stepA_yes p1 (.inr (by rw [hcno, Int.add_zero]; exact p4)), hcno, Int.add_zero] at h; omega
                    rw [stepA_yes p1 (.inr (by rw [hcno, Int.add_zero]; exact p4)), hcno, Int.add_zero] at hnext
                    have HS := Lib.hid hnext.symm
                    clear hst hle hcy hcno hF2 hnext hq p1 p2 p3 p4 hs2 hT
                    go_wp2_with fail
                    go_quiet (fail)
                    go_wp2_with fail
                    go_roundw
                    case rel => exact ⟨k + 1, cur2.set j (nth cur2 d), true, by go_num, rfl, by omega, (ho2.gr (by (repeat (first | exact Gr.refl _ | assumption | apply Gr.drewN | apply Gr.drew | apply Gr.alloc | (refine Gr.setCell ?_ (by simp; try omega) _) | refine Gr.trans ?_ (by assumption))))).set j _ (by unfold I64; omega), HS.out, .inr ⟨rfl, hlt2⟩, (hgr2.trans (by (repeat (first | exact Gr.refl _ | assumption | apply Gr.drewN | apply Gr.drew | apply Gr.alloc | (refine Gr.setCell ?_ (by simp; try omega) _) | refine Gr.trans ?_ (by assumption))))).setCell hg0 _⟩
                    case measure => simp [intOf]; omega
                  · have q4 : decide (nth cur2 d < nth cur2 j) = false := by simpa using p4
                    rw [stepA_no (fun h => by rcases h.2 with h | h; exact p3 h; rw [hcno, Int.add_zero] at h; exact p4 h)] at hnext
                    clear hst hle hcy hcno hF2 hcn
                    clear hs2
                    have HS := Lib.hid hnext.symm
                    clear hnext hq p1 p2 p3 p4
                    go_wp2_with fail
                    go_quiet (fail)
                    go_wp2_with fail
                    go_roundw
                    case rel => exact ⟨k + 1, cur2, again2, by go_num, rfl, by omega, ho2.gr (by (repeat (first | exact Gr.refl _ | assumption | apply Gr.drewN | apply Gr.drew | apply Gr.alloc | (refine Gr.setCell ?_ (by simp; try omega) _) | refine Gr.trans ?_ (by assumption)))), HS.out, hT, hgr2.trans (by (repeat (first | exact Gr.refl _ | assumption | apply Gr.drewN | apply Gr.drew | apply Gr.alloc | (refine Gr.setCell ?_ (by simp; try omega) _) | refine Gr.trans ?_ (by assumption))))⟩
                    case measure => simp [intOf]; omega
            · obtain rfl : k = arcs.length := by omega
              rw [passTo_all] at hs2
              have HR : ∃ a2, cur2 = passN lab arcs a2 (initF en) ∧ (again2 = false → passA lab arcs cur2 = cur2) ∧ (again2 = true → leftF en.length cur2 + 1 < f) ∧ a2 + leftF en.length cur2 ≤ leftF en.length (initF en) := by
                rcases hT with ⟨e1, e2⟩ | ⟨e1, e2⟩
                · subst e1
                  refine ⟨a, by rw [e2]; exact HEC.out, fun _ => by rw [e2, ← hs2, e2], fun e => (by cases e), by rw [e2]; exact HA.out⟩
                · subst e1
                  have := HA.out
                  exact ⟨a + 1, by rw [passN_succ, ← HEC.out, hs2], fun e => (by cases e), fun _ => by omega, by omega⟩
              have HR2 := Lib.hid HR
              clear HR hs2 hT
              go_wp2_with fail
              go_roundg f
              case measure => omega
              case rel =>
                obtain ⟨a2, r1, r2, r3, r4⟩ := HR2.out
                exact ⟨a2, cur2, again2, rfl, ho2, r1, r2, r3, by omega, r4, hgr2⟩
end Go.Proofs.Ytkanaoebpajbfaa
