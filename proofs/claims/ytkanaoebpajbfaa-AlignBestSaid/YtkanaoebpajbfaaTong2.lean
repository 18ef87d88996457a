/- Contracts of tongue's hear, first, ends. -/
import Derived.Test.YtkanaoebpajbfaaTong1
namespace Go.Proofs.Ytkanaoebpajbfaa
open Go.RowKit Go.Tok
set_option linter.unusedVariables false
set_option maxHeartbeats 4000000 in
set_option maxRecDepth 100000 in
theorem hear_calls {w : World} {pb n cap : Nat} {sa : Option Addr} {ms : List (List Int)} {arcs : List ArcD} {lab : List Int} {en xs : List Bool} {a : Int} (h : Spk w pb ms arcs lab en) (hok : ArcsOk n lab.length arcs) (hx : Rd boolK w (.slice sa n cap) xs) (hxl : xs.length = n) (ha : arcs.length ≤ 5864062014805) (hn : n ≤ 5864062014805) (hi : I64 a) :
    Calls Try.prog 104 #[.pointer (some ⟨pb, 0, none⟩), .slice sa n cap, .int .i64 a] w fun e w' => ∃ v ys b, e = .returned (.tuple #[v, .bool b]) ∧ OwnB 4 w.heap.size w' v ys ∧ HearR n lab arcs xs a ys b ∧ Gr w w' := by
  obtain ⟨i, hi', hz, hs, hb⟩ := info_parts boolInfo
  have h' := h
  have hok' := hok
  obtain ⟨ma, aa, la, ea, mc, ac, lc, ec, bP, hM, hA, hL, hE⟩ := h
  obtain ⟨_, _, e1, hac1, hac2⟩ := hA.len
  have HOK := Lib.hid hok
  have ha1 := hi.1
  have ha2 := hi.2
  clear hok e1
  go_enter Try.func104, Try.ntmps104
  go_wp2_with (at_make; refine wpList_make_full w rfl _ _ _ rfl w.heap.size 4 i _ 1 Try.underlying182 hi' hz hs .i64 .i64 _ _ n rfl rfl rfl rfl (by rw [hb]; omega) (by unfold maxLen; omega) (Nat.le_refl _) ?_; intro w1 ho1 hg1; have P1 := (bP.gr (show Gr w w1 from (Gr.refl w).grown hg1 (by simp))).cell (i := 1) (v := .slice aa arcs.length ac) rfl)
  have ob1 : OwnB 4 w.heap.size w1 (.slice (some ⟨w.heap.size, 0, none⟩) n n) (List.replicate n false) := by
    simp only [Value.cells, Nat.mul_one, toList_madeCells_one] at ho1
    exact OwnB.made (by simpa using ho1)
  have G1 : Gr w w1 := (Gr.refl w).grown hg1 (by simp)
  clear ho1 hg1 hi' hz hs hb
  go_loopw [21, 9] (fun q bv wr => ∃ (k : Nat) (out : List Bool) (b : Bool), q = .int .i64 k ∧ bv = .bool b ∧ k ≤ arcs.length ∧ OwnB 4 w.heap.size wr (.slice (some ⟨w.heap.size, 0, none⟩) n n) out ∧ HearI n lab arcs xs a k out b ∧ Gr w wr) (fun q _ _ => arcs.length - (intOf q).toNat)
  case atStart => exact ⟨0, _, false, rfl, rfl, Nat.zero_le _, ob1, HearI.zero _ _ _ _ _, G1⟩
  case round =>
    rename World => wi
    obtain ⟨k, out, b, rfl, rfl, hk, ho, hH, hgr⟩ := hrel
    by_cases hlt : k < arcs.length
    · obtain ⟨ab, ao, rfl, c0, c1, c2, hI⟩ := (hA.gr hgr).arc hlt
      obtain ⟨j, t, d, hq, hj, ht, hd⟩ := HOK.out.at_ hlt
      rw [hq] at c0 c1 c2
      have hkI : (k : Int) < (arcs.length : Int) := by omega
      have hlen := hH.len
      have P2 := (bP.gr (hgr.trans ((Gr.refl _).alloc (.cells #[.int .i64 (j : Int), .int .i64 (t : Int), .int .i64 (d : Int)] 214)))).cell (i := 2) (v := .slice la lab.length lc) rfl
      obtain ⟨lb, lo, rfl, L0⟩ := ((hL.gr hgr).gr ((Gr.refl _).alloc (.cells #[.int .i64 (j : Int), .int .i64 (t : Int), .int .i64 (d : Int)] 214))).cell (i := t) ht
      obtain ⟨sb, so, rfl, S0⟩ := ((hx.gr hgr).gr ((Gr.refl _).alloc (.cells #[.int .i64 (j : Int), .int .i64 (t : Int), .int .i64 (d : Int)] 214))).bool (i := j) (by omega)
      have ob := OwnB.gr ho ((Gr.refl wi).alloc (.cells #[.int .i64 (j : Int), .int .i64 (t : Int), .int .i64 (d : Int)] 214))
      have A0 : (wi.alloc (.cells #[.int .i64 (j : Int), .int .i64 (t : Int), .int .i64 (d : Int)] 214)).cell? ⟨wi.heap.size, 0, none⟩ = some (.int .i64 (j : Int)) := box_cell (Gr.refl _) (i := 0) rfl
      have A1 : (wi.alloc (.cells #[.int .i64 (j : Int), .int .i64 (t : Int), .int .i64 (d : Int)] 214)).cell? ⟨wi.heap.size, 1, none⟩ = some (.int .i64 (t : Int)) := box_cell (Gr.refl _) (i := 1) rfl
      have A2 : (wi.alloc (.cells #[.int .i64 (j : Int), .int .i64 (t : Int), .int .i64 (d : Int)] 214)).cell? ⟨wi.heap.size, 2, none⟩ = some (.int .i64 (d : Int)) := box_cell (Gr.refl _) (i := 2) rfl
      have htI : (t : Int) < (lab.length : Int) := by omega
      have hjI : (j : Int) < (n : Int) := by omega
      have hdI : (d : Int) < (n : Int) := by omega
      by_cases p1 : nth lab t = a
      case neg =>
        have q1 : (nth lab t == a) = false := by simpa using p1
        have hT2 := hH.no hq (fun h => p1 h.1)
        clear p1 hq
        go_wp2_with fail
        go_quiet (fail)
        go_wp2_with fail
        go_roundw
        case rel => exact ⟨k + 1, out, b, by go_num, rfl, by omega, OwnB.gr ho (by (repeat (first | exact Gr.refl _ | assumption | apply Gr.drewN | apply Gr.drew | apply Gr.alloc | (refine Gr.setCell ?_ (by simp; try omega) _) | refine Gr.trans ?_ (by assumption)))), hT2, hgr.trans (by (repeat (first | exact Gr.refl _ | assumption | apply Gr.drewN | apply Gr.drew | apply Gr.alloc | (refine Gr.setCell ?_ (by simp; try omega) _) | refine Gr.trans ?_ (by assumption))))⟩
        case measure => simp [intOf]; omega
      have q1 : (nth lab t == a) = true := by simpa using p1
      by_cases p2 : 0 < a
      case neg =>
        have q2 : decide (0 < a) = false := by simpa using p2
        have hT2 := hH.no hq (fun h => p2 h.2.1)
        clear p1 p2 hq
        go_wp2_with fail
        go_quiet (fail)
        go_wp2_with fail
        go_roundw
        case rel => exact ⟨k + 1, out, b, by go_num, rfl, by omega, OwnB.gr ho (by (repeat (first | exact Gr.refl _ | assumption | apply Gr.drewN | apply Gr.drew | apply Gr.alloc | (refine Gr.setCell ?_ (by simp; try omega) _) | refine Gr.trans ?_ (by assumption)))), hT2, hgr.trans (by (repeat (first | exact Gr.refl _ | assumption | apply Gr.drewN | apply Gr.drew | apply Gr.alloc | (refine Gr.setCell ?_ (by simp; try omega) _) | refine Gr.trans ?_ (by assumption))))⟩
        case measure => simp [intOf]; omega
      have q2 : decide (0 < a) = true := by simpa using p2
      cases hb : ix xs j
      · rw [hb] at S0
        have hT2 := hH.no hq (fun h => by have := h.2.2; rw [hb] at this; cases this)
        clear p1 p2 hq hb
        go_wp2_with fail
        go_quiet (fail)
        go_wp2_with fail
        go_roundw
        case rel => exact ⟨k + 1, out, b, by go_num, rfl, by omega, OwnB.gr ho (by (repeat (first | exact Gr.refl _ | assumption | apply Gr.drewN | apply Gr.drew | apply Gr.alloc | (refine Gr.setCell ?_ (by simp; try omega) _) | refine Gr.trans ?_ (by assumption)))), hT2, hgr.trans (by (repeat (first | exact Gr.refl _ | assumption | apply Gr.drewN | apply Gr.drew | apply Gr.alloc | (refine Gr.setCell ?_ (by simp; try omega) _) | refine Gr.trans ?_ (by assumption))))⟩
        case measure => simp [intOf]; omega
      · rw [hb] at S0
        have hT2 := hH.yes hq hd p1 p2 hb
        have SF := OwnR.frozen (K := boolK) ob d
        have S2 := ob.at_ (i := d) (by omega)
        clear p1 p2 hq hb
        go_wp2_with fail
        go_quiet (fail)
        go_wp2_with fail
        go_roundw
        case rel => exact ⟨k + 1, out.set d true, true, by go_num, rfl, by omega, OwnB.set (OwnB.gr ho (by (repeat (first | exact Gr.refl _ | assumption | apply Gr.drewN | apply Gr.drew | apply Gr.alloc | (refine Gr.setCell ?_ (by simp; try omega) _) | refine Gr.trans ?_ (by assumption))))) d true, hT2, (hgr.trans (by (repeat (first | exact Gr.refl _ | assumption | apply Gr.drewN | apply Gr.drew | apply Gr.alloc | (refine Gr.setCell ?_ (by simp; try omega) _) | refine Gr.trans ?_ (by assumption))))).setCell (Nat.le_refl _) _⟩
        case measure => simp [intOf]; omega
    · obtain rfl : k = arcs.length := by omega
      go_wp2_with fail
      refine (tspread_calls h' hok' hgr ho hH.len ha hn).mono ?_
      rintro _ w2 ⟨rfl, g2, ys, oy, hyl, hy⟩
      go_wp2_with fail
      go_ret2
      exact ⟨_, ys, b, rfl, oy, hH.done HOK.out hyl hy, g2⟩
set_option maxHeartbeats 4000000 in
set_option maxRecDepth 100000 in
theorem first_calls {w : World} {pb : Nat} {ms : List (List Int)} {arcs : List ArcD} {lab : List Int} {en : List Bool} (h : Spk w pb ms arcs lab en) (hok : ArcsOk ms.length lab.length arcs) (h0 : 0 < ms.length) (ha : arcs.length ≤ 5864062014805) (hn : ms.length ≤ 5864062014805) :
    Calls Try.prog 102 #[.pointer (some ⟨pb, 0, none⟩)] w fun e w' => ∃ v ys, e = .returned v ∧ OwnB 4 w.heap.size w' v ys ∧ Behind ms.length lab arcs [] ys ∧ Gr w w' := by
  obtain ⟨i, hi', hz, hs, hb⟩ := info_parts boolInfo
  have h' := h
  obtain ⟨ma, aa, la, ea, mc, ac, lc, ec, bP, hM, hA, hL, hE⟩ := h
  have P0 := bP.cell (i := 0) (v := .slice ma ms.length mc) rfl
  have HOK := Lib.hid hok
  have h0I : (0 : Int) < (ms.length : Int) := by omega
  clear hok
  go_enter Try.func102, Try.ntmps102
  go_wp2_with (at_make; refine wpList_make_full w rfl _ _ _ rfl w.heap.size 4 i _ 1 Try.underlying182 hi' hz hs .i64 .i64 _ _ ms.length rfl rfl rfl rfl (by rw [hb]; omega) (by unfold maxLen; omega) (Nat.le_refl _) ?_; intro w1 ho1 hg1; have ob1 : OwnB 4 w.heap.size w1 (.slice (some ⟨w.heap.size, 0, none⟩) ms.length ms.length) (List.replicate ms.length false) := (by simp only [Value.cells, Nat.mul_one, toList_madeCells_one] at ho1; exact OwnB.made (by simpa using ho1)); have S0 := ob1.at_ (i := 0) (by simpa using h0); have SF := OwnR.frozen (K := boolK) ob1 0)
  have G1 : Gr w w1 := (Gr.refl w).grown hg1 (by simp)
  have ob2 := OwnB.set ob1 0 true
  have G2 : Gr w (w1.setCell ⟨w.heap.size, 0, none⟩ (.bool true)) := G1.setCell (Nat.le_refl _) _
  refine (tspread_calls h' HOK.out G2 ob2 (by simp) ha hn).mono ?_
  rintro _ w2 ⟨rfl, g2, ys, oy, hyl, hy⟩
  go_wp2_with fail
  go_ret
  exact ⟨_, ys, rfl, oy, Behind.first hyl hy h0, g2⟩
set_option maxHeartbeats 4000000 in
set_option maxRecDepth 100000 in
theorem ends_calls {w : World} {pb n cap : Nat} {sa : Option Addr} {ms : List (List Int)} {arcs : List ArcD} {lab : List Int} {en xs : List Bool} (h : Spk w pb ms arcs lab en) (hx : Rd boolK w (.slice sa n cap) xs) (hxl : xs.length = n) (hel : en.length = n) (hn : n ≤ 5864062014805) :
    Calls Try.prog 103 #[.pointer (some ⟨pb, 0, none⟩), .slice sa n cap] w fun e w' => ∃ b, e = .returned (.bool b) ∧ (b = true ↔ ∃ k, k < n ∧ ix xs k = true ∧ ix en k = true) ∧ w = w' := by
  obtain ⟨ma, aa, la, ea, mc, ac, lc, ec, bP, hM, hA, hL, hE⟩ := h
  have P3 := bP.cell (i := 3) (v := .slice ea en.length ec) rfl
  have HEL := Lib.hid hel
  go_enter Try.func103, Try.ntmps103
  go_wp2_with fail
  go_loopw [9] (fun q wr => ∃ k : Nat, q = .int .i64 k ∧ k ≤ n ∧ (∀ p, p < k → ¬ (ix xs p = true ∧ ix en p = true)) ∧ w = wr) (fun q _ => n - (intOf q).toNat)
  case atStart => exact ⟨0, rfl, Nat.zero_le _, fun p hp => absurd hp (Nat.not_lt_zero _), rfl⟩
  case round =>
    obtain ⟨k, rfl, hk, hno, rfl⟩ := hrel
    by_cases hlt : k < n
    · obtain ⟨sb, so, rfl, S0⟩ := hx.bool (i := k) (by omega)
      obtain ⟨eb, eo, rfl, E0⟩ := hE.bool (i := k) (by omega)
      have hkI : (k : Int) < (n : Int) := by omega
      have hkE : (k : Int) < (en.length : Int) := by rw [HEL.out]; exact hkI
      cases hb : ix xs k
      · rw [hb] at S0
        have hno2 : ∀ p, p < k + 1 → ¬ (ix xs p = true ∧ ix en p = true) := fun p hp => by
          by_cases e : p = k
          · subst e; rw [hb]; simp
          · exact hno p (by omega)
        clear hb
        go_wp2_with fail
        go_roundw
        case rel => exact ⟨k + 1, by go_num, by omega, hno2, trivial⟩
        case measure => simp [intOf]; omega
      · rw [hb] at S0
        cases hc : ix en k
        · rw [hc] at E0
          have hno2 : ∀ p, p < k + 1 → ¬ (ix xs p = true ∧ ix en p = true) := fun p hp => by
            by_cases e : p = k
            · subst e; rw [hc]; simp
            · exact hno p (by omega)
          clear hb hc
          go_wp2_with fail
          go_roundw
          case rel => exact ⟨k + 1, by go_num, by omega, hno2, trivial⟩
          case measure => simp [intOf]; omega
        · rw [hc] at E0
          have HY := Lib.hid (show ∃ k, k < n ∧ ix xs k = true ∧ ix en k = true from ⟨k, hlt, hb, hc⟩)
          clear hb hc
          go_wp2_with fail
          go_ret
          exact ⟨true, rfl, ⟨fun _ => HY.out, fun _ => rfl⟩, rfl⟩
    · obtain rfl : k = n := by omega
      have HN := Lib.hid hno
      go_wp2_with fail
      go_ret
      exact ⟨false, rfl, ⟨(fun e => by cases e), fun ⟨p, h1, h2⟩ => absurd h2 (HN.out p h1)⟩, rfl⟩
end Go.Proofs.Ytkanaoebpajbfaa
