/- Contract of text.tran. -/
import Derived.Test.YtiflolklgmmgeaaDoorText3
import Derived.Test.YtiflolklgmmgeaaDoorText2
namespace Go.Tok
open Go.RowKit
set_option linter.unusedVariables false
theorem strB_beq (a b : List UInt8) : ((strB a).toList == (strB b).toList) = decide (a = b) := by
  rw [ByteArray.toList_eq, ByteArray.toList_eq, strB_list, strB_list]
  by_cases h : a = b
  · subst h; simp
  · simp [h]
theorem strB_beq_yes {a b : List UInt8} (h : a = b) : ((strB a).toList == (strB b).toList) = true := by rw [strB_beq]; simpa using h
theorem strB_beq_no {a b : List UInt8} (h : a ≠ b) : ((strB a).toList == (strB b).toList) = false := by rw [strB_beq]; simpa using h
theorem tran_cut {s : List UInt8} {P : Nat} (h : lineCutB s = false) : tranT s P = none := by unfold tranT; rw [if_neg (by rw [h]; decide)]
theorem tran_wrong {s : List UInt8} {P : Nat} (h : weightsT (linePre s) P = none ∨ weightsT (linePost s) P = none) : tranT s P = none := by
  unfold tranT
  split
  · rcases h with h | h
    · rw [h]; rfl
    · rw [h]
      cases weightsT (linePre s) P with
      | none => rfl
      | some a => rfl
  · rfl
theorem tran_bad {s : List UInt8} {P : Nat} {a b : List Int} {c : UInt8} (h2 : weightsT (linePre s) P = some a) (h3 : weightsT (linePost s) P = some b) (hl : (lineName s).headD 0 = c)
    (hc : ¬ (0 ≤ nameLab c ∧ nameLab c ≤ 26 ∧ lineF ⟨nameLab c, a, b⟩ = s)) : tranT s P = none := by
  unfold tranT
  split
  · rw [h2, h3]
    simp only [Option.bind_some]
    subst hl
    rw [if_neg hc]
  · rfl
theorem name_one {s : List UInt8} (h : lineCutB s = true) : ∃ c, lineName s = [c] ∧ (Lib.cut s [32, 58]).2.2 = true ∧ (Lib.cut (lineRest s) [32, 62]).2.2 = true := by
  unfold lineCutB at h
  simp only [Bool.and_eq_true, decide_eq_true_eq] at h
  obtain ⟨h1, h2, h3⟩ := h
  obtain ⟨c, hc⟩ := List.length_eq_one_iff.1 h3
  exact ⟨c, hc, h1, h2⟩
end Go.Tok
namespace Go.Proofs.YtiflolklgmmgeaaDoor
open Go.RowKit Go.Tok
set_option linter.unusedVariables false
theorem weights_yes (l : List UInt8) (P : Nat) (xs : List Int) (w : World) (hl : l.length ≤ 100000000) (hP : P ≤ 16) (hT : TabW w) (h : weightsT l P = some xs) : Calls Tryd.prog 39 #[.string (strB l), .int .i64 P] w fun e w' => ∃ a c, e = .returned (.tuple #[.slice a xs.length c, .bool true]) ∧ OwnI 3 w.heap.size w' (.slice a xs.length c) xs ∧ Gr w w' := by
  refine (weights_calls l P w hl hP hT).mono ?_
  rintro e w' hr
  obtain ⟨g, ⟨v, ys, rfl, h1, h2⟩ | ⟨_, h1⟩⟩ := hr.out
  · rw [h] at h1
    cases h1
    obtain ⟨a, c, rfl, _, _⟩ := h2.ints.len
    exact ⟨a, c, rfl, h2, g⟩
  · rw [h] at h1; cases h1
theorem weights_no (l : List UInt8) (P : Nat) (w : World) (hl : l.length ≤ 100000000) (hP : P ≤ 16) (hT : TabW w) (h : weightsT l P = none) : Calls Tryd.prog 39 #[.string (strB l), .int .i64 P] w fun e w' => e = .returned (.tuple #[.slice none 0 0, .bool false]) ∧ Gr w w' := by
  refine (weights_calls l P w hl hP hT).mono ?_
  rintro e w' hr
  obtain ⟨g, ⟨v, ys, rfl, h1, h2⟩ | ⟨rfl, h1⟩⟩ := hr.out
  · rw [h] at h1; cases h1
  · exact ⟨rfl, g⟩
theorem lab_wrap (c : UInt8) (h : c ≠ 45) (h0 : 0 < (strB [c]).size) : wrap64 (wrap64 (wrap64 ((((strB [c])[0]'h0).toNat : Nat) : Int) - 97) + 1) = nameLab c := by
  have h1 : ((strB [c])[0]'h0).toNat = c.toNat := rfl
  have h2 := c.toNat_lt
  rw [h1]
  unfold nameLab
  rw [if_neg h]
  have e1 : wrap64 (c.toNat : Int) = c.toNat := by unfold wrap64; omega
  have e2 : wrap64 ((c.toNat : Int) - 97) = (c.toNat : Int) - 97 := by unfold wrap64; omega
  have e3 : wrap64 ((c.toNat : Int) - 97 + 1) = (c.toNat : Int) - 97 + 1 := by unfold wrap64; omega
  rw [e1, e2, e3]
theorem own_sets {w w' : World} {v : Value} {xs : List Int} (h : OwnI 3 (w.heap.size + 1) w' v xs) {i j k : Nat} {a b c : Value} : OwnI 3 w.heap.size (((w'.setCell ⟨w.heap.size, i, none⟩ a).setCell ⟨w.heap.size, j, none⟩ b).setCell ⟨w.heap.size, k, none⟩ c) v xs := by
  have hn : v.ownBlock ≠ some w.heap.size := fun e => by have := (h.lt e).1; omega
  exact (((h.other (a := ⟨w.heap.size, i, none⟩) hn a).other (a := ⟨w.heap.size, j, none⟩) hn b).other (a := ⟨w.heap.size, k, none⟩) hn c).lower (Nat.le_succ _)
/-- what text.tran hands back -/
structure RetTr (w : World) (s : List UInt8) (P : Nat) (e : Ending) (w' : World) : Prop where
  out : Gr w w' ∧ ((∃ t vp vq, e = .returned (.tuple #[.agg #[.int .i64 t.label, vp, vq], .bool true]) ∧ tranT s P = some t ∧ OwnI 3 w.heap.size w' vp t.pre ∧ OwnI 3 w.heap.size w' vq t.post) ∨
    (e = .returned (.tuple #[.agg #[.int .i64 0, .slice none 0 0, .slice none 0 0], .bool false]) ∧ tranT s P = none))
set_option maxHeartbeats 4000000 in
set_option maxRecDepth 100000 in
theorem tran_calls (s : List UInt8) (P : Nat) (w : World) (hl : s.length ≤ 10000000) (hP : P ≤ 16) (hT : TabW w) : Calls Tryd.prog 19 #[.string (strB s), .int .i64 P] w (RetTr w s P) := by
  have bR : Blk (w.alloc (.cells #[.int .i64 0, .slice none 0 0, .slice none 0 0] 41)) w.heap.size 41 #[.int .i64 0, .slice none 0 0, .slice none 0 0] := Blk.new rfl
  have GA : Gr w (w.alloc (.cells #[.int .i64 0, .slice none 0 0, .slice none 0 0] 41)) := (Gr.refl _).alloc _
  have e1 : (⟨#[32, 58]⟩ : ByteArray) = strB [32, 58] := rfl
  have e2 : (⟨#[32, 62]⟩ : ByteArray) = strB [32, 62] := rfl
  have hrl := (cut_len s [32, 58]).2
  have HC1 := Lib.hid (Cut_calls s [32, 58] (by omega) _ (hT.gr GA))
  have HC2 := Lib.hid (fun W (hW : TabW W) => Cut_calls (lineRest s) [32, 62] (by unfold lineRest; omega) W hW)
  go_enter Tryd.func19, Tryd.ntmps19
  go_wp2_with fail
  refine HC1.out.mono ?_
  rintro _ w1 ⟨rfl, g1⟩
  rw [show (Lib.cut s [32, 58]).2.1 = lineRest s from rfl, show (Lib.cut s [32, 58]).1 = lineName s from rfl]
  have HG1 := Lib.hid (GA.trans g1)
  have HR1 := Lib.hid (bR.gr g1)
  go_wp2_with fail
  refine (HC2.out _ (hT.gr HG1.out)).mono ?_
  rintro _ w2 ⟨rfl, g2⟩
  rw [show (Lib.cut (lineRest s) [32, 62]).1 = linePre s from rfl, show (Lib.cut (lineRest s) [32, 62]).2.1 = linePost s from rfl]
  have HG2 := Lib.hid (HG1.out.trans g2)
  have HR2 := Lib.hid (HR1.out.gr g2)
  clear g1 g2 bR GA HC1 HC2 HG1 HR1 e1 e2
  cases hcb : lineCutB s
  · have HNO := Lib.hid (tran_cut (P := P) hcb)
    cases k1 : (Lib.cut s [32, 58]).2.2
    · clear hcb
      have Z := HR2.out
      have F0 := Z.frozen 0
      have F1 := Z.frozen 1
      have F2 := Z.frozen 2
      have Z0 := Z.cell (i := 0) (v := .int .i64 0) rfl
      have Z1 := Z.cell (i := 1) (v := .slice none 0 0) rfl
      have Z2 := Z.cell (i := 2) (v := .slice none 0 0) rfl
      have q1 := Z.set 0 (.int .i64 0)
      have E1 := q1.cell (i := 1) (v := .slice none 0 0) rfl
      have q2 := q1.set 1 (.slice none 0 0)
      have E2 := q2.cell (i := 2) (v := .slice none 0 0) rfl
      have q3 := q2.set 2 (.slice none 0 0)
      have D0 := q3.cell (i := 0) (v := .int .i64 0) rfl
      have D1 := q3.cell (i := 1) (v := .slice none 0 0) rfl
      have D2 := q3.cell (i := 2) (v := .slice none 0 0) rfl
      clear Z q1 q2 q3
      go_wp2_with fail
      refine bodyPost_ret (v := .tuple #[.agg #[.int .i64 0, .slice none 0 0, .slice none 0 0], .bool false]) (by simp [results, Tryd.results19, go_sem, D0, D1, D2]) rfl ?_
      exact ⟨(((HG2.out).setCell (Nat.le_refl _) _).setCell (Nat.le_refl _) _).setCell (Nat.le_refl _) _, .inr ⟨rfl, HNO.out⟩⟩
    · cases k2 : (Lib.cut (lineRest s) [32, 62]).2.2
      · clear hcb
        have Z := HR2.out
        have F0 := Z.frozen 0
        have F1 := Z.frozen 1
        have F2 := Z.frozen 2
        have Z0 := Z.cell (i := 0) (v := .int .i64 0) rfl
        have Z1 := Z.cell (i := 1) (v := .slice none 0 0) rfl
        have Z2 := Z.cell (i := 2) (v := .slice none 0 0) rfl
        have q1 := Z.set 0 (.int .i64 0)
        have E1 := q1.cell (i := 1) (v := .slice none 0 0) rfl
        have q2 := q1.set 1 (.slice none 0 0)
        have E2 := q2.cell (i := 2) (v := .slice none 0 0) rfl
        have q3 := q2.set 2 (.slice none 0 0)
        have D0 := q3.cell (i := 0) (v := .int .i64 0) rfl
        have D1 := q3.cell (i := 1) (v := .slice none 0 0) rfl
        have D2 := q3.cell (i := 2) (v := .slice none 0 0) rfl
        clear Z q1 q2 q3
        go_wp2_with fail
        refine bodyPost_ret (v := .tuple #[.agg #[.int .i64 0, .slice none 0 0, .slice none 0 0], .bool false]) (by simp [results, Tryd.results19, go_sem, D0, D1, D2]) rfl ?_
        exact ⟨(((HG2.out).setCell (Nat.le_refl _) _).setCell (Nat.le_refl _) _).setCell (Nat.le_refl _) _, .inr ⟨rfl, HNO.out⟩⟩
      · have k3 : (((lineName s).length : Int) != 1) = true := by
          unfold lineCutB at hcb
          rw [k1, k2] at hcb
          simp at hcb ⊢
          omega
        have k4 : ((strB (lineName s)).size : Int) = ((lineName s).length : Int) := by rw [strB_size]
        clear hcb
        have Z := HR2.out
        have F0 := Z.frozen 0
        have F1 := Z.frozen 1
        have F2 := Z.frozen 2
        have Z0 := Z.cell (i := 0) (v := .int .i64 0) rfl
        have Z1 := Z.cell (i := 1) (v := .slice none 0 0) rfl
        have Z2 := Z.cell (i := 2) (v := .slice none 0 0) rfl
        have q1 := Z.set 0 (.int .i64 0)
        have E1 := q1.cell (i := 1) (v := .slice none 0 0) rfl
        have q2 := q1.set 1 (.slice none 0 0)
        have E2 := q2.cell (i := 2) (v := .slice none 0 0) rfl
        have q3 := q2.set 2 (.slice none 0 0)
        have D0 := q3.cell (i := 0) (v := .int .i64 0) rfl
        have D1 := q3.cell (i := 1) (v := .slice none 0 0) rfl
        have D2 := q3.cell (i := 2) (v := .slice none 0 0) rfl
        clear Z q1 q2 q3
        go_wp2_with fail
        refine bodyPost_ret (v := .tuple #[.agg #[.int .i64 0, .slice none 0 0, .slice none 0 0], .bool false]) (by simp [results, Tryd.results19, go_sem, D0, D1, D2]) rfl ?_
        exact ⟨(((HG2.out).setCell (Nat.le_refl _) _).setCell (Nat.le_refl _) _).setCell (Nat.le_refl _) _, .inr ⟨rfl, HNO.out⟩⟩
  obtain ⟨c, hc, k1, k2⟩ := name_one hcb
  have HCB := Lib.hid hcb
  have hns : lineName s = [c] := hc
  have HNM := Lib.hid (show (lineName s).headD 0 = c by rw [hns]; rfl)
  rw [hc, k1, k2]
  have k4 : ((strB [c]).size : Int) = 1 := rfl
  have hidx : (strB [c])[0]? = some c := rfl
  clear hcb hc hns k1 k2
  have e3 : (⟨#[45]⟩ : ByteArray) = strB [45] := rfl
  by_cases hc45 : c = 45
  · subst hc45
    have hne := strB_beq_yes (rfl : ([45] : List UInt8) = [45])
    go_wp2_with fail
    rw [show (0 : Int) = nameLab 45 from rfl]
    generalize (45 : UInt8) = c at HNM ⊢
    obtain ⟨wt, hwt⟩ : ∃ wt, wt = w2.alloc (.cells #[.int .i64 (nameLab c), .slice none 0 0, .slice none 0 0] 41) := ⟨_, rfl⟩
    have bT : Blk wt w2.heap.size 41 #[.int .i64 (nameLab c), .slice none 0 0, .slice none 0 0] := by rw [hwt]; exact Blk.new rfl
    have gT : Gr w2 wt := by rw [hwt]; exact (Gr.refl _).alloc _
    have c1 := (cut_len (lineRest s) [32, 62]).1
    have c2 := (cut_len (lineRest s) [32, 62]).2
    have c3 := (cut_len s [32, 58]).2
    have HL := Lib.hid (show (linePre s).length ≤ 100000000 ∧ (linePost s).length ≤ 100000000 by unfold linePre linePost; have : (lineRest s).length ≤ s.length := c3; omega)
    have HT0 := Lib.hid hT
    have GW := Lib.hid (HG2.out.trans gT)
    have HRt := Lib.hid (HR2.out.gr gT)
    have HWT := Lib.hid hwt
    clear c1 c2 c3 hT gT hrl hl hwt hne e3
    rcases h1 : weightsT (linePre s) P with _ | xs
    case none =>
      have HNO := Lib.hid (tran_wrong (s := s) (P := P) (.inl h1))
      have HC := Lib.hid (weights_no (linePre s) P wt HL.out.1 hP (HT0.out.gr GW.out) h1)
      rw [HWT.out] at HC
      refine HC.out.mono ?_
      rw [← HWT.out]
      rintro _ w3 ⟨rfl, g3⟩
      have b3 := bT.gr g3
      have F1 := b3.frozen 1
      have X1 := b3.cell (i := 1) (v := .slice none 0 0) rfl
      have b4 := b3.set 1 (.slice none 0 0)
      have hlt : w.heap.size < w2.heap.size := HR2.out.lt
      have HR4 := Lib.hid ((HRt.out.gr g3).other (a := ⟨w2.heap.size, 1, none⟩) (by show w.heap.size ≠ w2.heap.size; omega) (.slice none 0 0))
      have G4 := Lib.hid ((GW.out.trans g3).setCell (p := ⟨w2.heap.size, 1, none⟩) (by show w.heap.size ≤ w2.heap.size; omega) (.slice none 0 0))
      have HB4 := Lib.hid b4
      clear b3 b4 g3 hlt
      go_wp2_with fail
      rcases h2 : weightsT (linePost s) P with _ | ys
      case none =>
        refine (weights_no (linePost s) P _ HL.out.2 hP (HT0.out.gr G4.out) h2).mono ?_
        rintro _ w5 ⟨rfl, g5⟩
        have b5 := HB4.out.gr g5
        have Y1 := b5.cell (i := 2) (v := .slice none 0 0) rfl
        have YF := b5.frozen 2
        have hlt : w.heap.size < w2.heap.size := HR2.out.lt
        have HR6 := Lib.hid ((HR4.out.gr g5).other (a := ⟨w2.heap.size, 2, none⟩) (by show w.heap.size ≠ w2.heap.size; omega) (.slice none 0 0))
        have G6 := Lib.hid ((G4.out.trans g5).setCell (p := ⟨w2.heap.size, 2, none⟩) (by show w.heap.size ≤ w2.heap.size; omega) (.slice none 0 0))
        clear b5 g5 hlt h1 h2
        have Z := HR6.out
        have F0 := Z.frozen 0
        have F1 := Z.frozen 1
        have F2 := Z.frozen 2
        have Z0 := Z.cell (i := 0) (v := .int .i64 0) rfl
        have Z1 := Z.cell (i := 1) (v := .slice none 0 0) rfl
        have Z2 := Z.cell (i := 2) (v := .slice none 0 0) rfl
        have q1 := Z.set 0 (.int .i64 0)
        have E1 := q1.cell (i := 1) (v := .slice none 0 0) rfl
        have q2 := q1.set 1 (.slice none 0 0)
        have E2 := q2.cell (i := 2) (v := .slice none 0 0) rfl
        have q3 := q2.set 2 (.slice none 0 0)
        have D0 := q3.cell (i := 0) (v := .int .i64 0) rfl
        have D1 := q3.cell (i := 1) (v := .slice none 0 0) rfl
        have D2 := q3.cell (i := 2) (v := .slice none 0 0) rfl
        clear Z q1 q2 q3
        go_wp2_with fail
        refine bodyPost_ret (v := .tuple #[.agg #[.int .i64 0, .slice none 0 0, .slice none 0 0], .bool false]) (by simp [results, Tryd.results19, go_sem, D0, D1, D2]) rfl ?_
        exact ⟨(((G6.out).setCell (Nat.le_refl _) _).setCell (Nat.le_refl _) _).setCell (Nat.le_refl _) _, .inr ⟨rfl, HNO.out⟩⟩
      case some =>
        refine (weights_yes (linePost s) P ys _ HL.out.2 hP (HT0.out.gr G4.out) h2).mono ?_
        rintro _ w5 ⟨a5, c5, rfl, o5, g5⟩
        have b5 := HB4.out.gr g5
        have Y1 := b5.cell (i := 2) (v := .slice none 0 0) rfl
        have YF := b5.frozen 2
        have hlt : w.heap.size < w2.heap.size := HR2.out.lt
        have HR6 := Lib.hid ((HR4.out.gr g5).other (a := ⟨w2.heap.size, 2, none⟩) (by show w.heap.size ≠ w2.heap.size; omega) (.slice a5 ys.length c5))
        have G6 := Lib.hid ((G4.out.trans g5).setCell (p := ⟨w2.heap.size, 2, none⟩) (by show w.heap.size ≤ w2.heap.size; omega) (.slice a5 ys.length c5))
        clear b5 g5 hlt h1 h2 o5
        have Z := HR6.out
        have F0 := Z.frozen 0
        have F1 := Z.frozen 1
        have F2 := Z.frozen 2
        have Z0 := Z.cell (i := 0) (v := .int .i64 0) rfl
        have Z1 := Z.cell (i := 1) (v := .slice none 0 0) rfl
        have Z2 := Z.cell (i := 2) (v := .slice none 0 0) rfl
        have q1 := Z.set 0 (.int .i64 0)
        have E1 := q1.cell (i := 1) (v := .slice none 0 0) rfl
        have q2 := q1.set 1 (.slice none 0 0)
        have E2 := q2.cell (i := 2) (v := .slice none 0 0) rfl
        have q3 := q2.set 2 (.slice none 0 0)
        have D0 := q3.cell (i := 0) (v := .int .i64 0) rfl
        have D1 := q3.cell (i := 1) (v := .slice none 0 0) rfl
        have D2 := q3.cell (i := 2) (v := .slice none 0 0) rfl
        clear Z q1 q2 q3
        go_wp2_with fail
        refine bodyPost_ret (v := .tuple #[.agg #[.int .i64 0, .slice none 0 0, .slice none 0 0], .bool false]) (by simp [results, Tryd.results19, go_sem, D0, D1, D2]) rfl ?_
        exact ⟨(((G6.out).setCell (Nat.le_refl _) _).setCell (Nat.le_refl _) _).setCell (Nat.le_refl _) _, .inr ⟨rfl, HNO.out⟩⟩
    have HC := Lib.hid (weights_yes (linePre s) P xs wt HL.out.1 hP (HT0.out.gr GW.out) h1)
    rw [HWT.out] at HC
    refine HC.out.mono ?_
    rw [← HWT.out]
    rintro _ w3 ⟨a3, c3, rfl, o3, g3⟩
    have b3 := bT.gr g3
    have F1 := b3.frozen 1
    have X1 := b3.cell (i := 1) (v := .slice none 0 0) rfl
    have b4 := b3.set 1 (.slice a3 xs.length c3)
    have hlt : w.heap.size < w2.heap.size := HR2.out.lt
    have hltT := bT.lt
    have HR4 := Lib.hid ((HRt.out.gr g3).other (a := ⟨w2.heap.size, 1, none⟩) (by show w.heap.size ≠ w2.heap.size; omega) (.slice a3 xs.length c3))
    have G4 := Lib.hid ((GW.out.trans g3).setCell (p := ⟨w2.heap.size, 1, none⟩) (by show w.heap.size ≤ w2.heap.size; omega) (.slice a3 xs.length c3))
    have HO4 := Lib.hid ((o3.other (a := ⟨w2.heap.size, 1, none⟩) (fun e => by have := (o3.lt e).1; simp only at this; omega) (.slice a3 xs.length c3)).lower (show w.heap.size + 1 ≤ wt.heap.size by omega))
    have HPN : Hid ((Value.slice a3 xs.length c3).ownBlock ≠ some w2.heap.size) := Lib.hid (fun e => by have := (o3.lt e).1; omega)
    have HB4 := Lib.hid b4
    clear b3 b4 g3 hlt hltT o3
    go_wp2_with fail
    rcases h2 : weightsT (linePost s) P with _ | ys
    case none =>
      have HNO := Lib.hid (tran_wrong (s := s) (P := P) (.inr h2))
      refine (weights_no (linePost s) P _ HL.out.2 hP (HT0.out.gr G4.out) h2).mono ?_
      rintro _ w5 ⟨rfl, g5⟩
      have b5 := HB4.out.gr g5
      have Y1 := b5.cell (i := 2) (v := .slice none 0 0) rfl
      have YF := b5.frozen 2
      have hlt : w.heap.size < w2.heap.size := HR2.out.lt
      have HR6 := Lib.hid ((HR4.out.gr g5).other (a := ⟨w2.heap.size, 2, none⟩) (by show w.heap.size ≠ w2.heap.size; omega) (.slice none 0 0))
      have G6 := Lib.hid ((G4.out.trans g5).setCell (p := ⟨w2.heap.size, 2, none⟩) (by show w.heap.size ≤ w2.heap.size; omega) (.slice none 0 0))
      clear b5 g5 hlt h1 h2
      have Z := HR6.out
      have F0 := Z.frozen 0
      have F1 := Z.frozen 1
      have F2 := Z.frozen 2
      have Z0 := Z.cell (i := 0) (v := .int .i64 0) rfl
      have Z1 := Z.cell (i := 1) (v := .slice none 0 0) rfl
      have Z2 := Z.cell (i := 2) (v := .slice none 0 0) rfl
      have q1 := Z.set 0 (.int .i64 0)
      have E1 := q1.cell (i := 1) (v := .slice none 0 0) rfl
      have q2 := q1.set 1 (.slice none 0 0)
      have E2 := q2.cell (i := 2) (v := .slice none 0 0) rfl
      have q3 := q2.set 2 (.slice none 0 0)
      have D0 := q3.cell (i := 0) (v := .int .i64 0) rfl
      have D1 := q3.cell (i := 1) (v := .slice none 0 0) rfl
      have D2 := q3.cell (i := 2) (v := .slice none 0 0) rfl
      clear Z q1 q2 q3
      go_wp2_with fail
      refine bodyPost_ret (v := .tuple #[.agg #[.int .i64 0, .slice none 0 0, .slice none 0 0], .bool false]) (by simp [results, Tryd.results19, go_sem, D0, D1, D2]) rfl ?_
      exact ⟨(((G6.out).setCell (Nat.le_refl _) _).setCell (Nat.le_refl _) _).setCell (Nat.le_refl _) _, .inr ⟨rfl, HNO.out⟩⟩
    refine (weights_yes (linePost s) P ys _ HL.out.2 hP (HT0.out.gr G4.out) h2).mono ?_
    rintro _ w5 ⟨a5, c5, rfl, o5, g5⟩
    have b5 := HB4.out.gr g5
    have Y1 := b5.cell (i := 2) (v := .slice none 0 0) rfl
    have YF := b5.frozen 2
    have b6 := b5.set 2 (.slice a5 ys.length c5)
    have hlt : w.heap.size < w2.heap.size := HR2.out.lt
    have hle4 := HB4.out.lt
    have HR6 := Lib.hid ((HR4.out.gr g5).other (a := ⟨w2.heap.size, 2, none⟩) (by show w.heap.size ≠ w2.heap.size; omega) (.slice a5 ys.length c5))
    have G6 := Lib.hid ((G4.out.trans g5).setCell (p := ⟨w2.heap.size, 2, none⟩) (by show w.heap.size ≤ w2.heap.size; omega) (.slice a5 ys.length c5))
    have HO6 := Lib.hid ((o5.other (a := ⟨w2.heap.size, 2, none⟩) (fun e => by have := (o5.lt e).1; simp only at this; omega) (.slice a5 ys.length c5)).lower (Nat.succ_le_of_lt HR4.out.lt))
    have HP6 : Hid (OwnI 3 (w.heap.size + 1) ((w5.setCell ⟨w2.heap.size, 2, none⟩ (.slice a5 ys.length c5))) (.slice a3 xs.length c3) xs) := Lib.hid ((HO4.out.gr g5).other (a := ⟨w2.heap.size, 2, none⟩) (fun e => HPN.out e) (.slice a5 ys.length c5))
    have L0 := b6.cell (i := 0) (v := .int .i64 (nameLab c)) rfl
    have L1 := b6.cell (i := 1) (v := .slice a3 xs.length c3) rfl
    have L2 := b6.cell (i := 2) (v := .slice a5 ys.length c5) rfl
    clear b5 b6 g5 hlt hle4 HR4 G4 HO4 HPN HB4 HC HRt GW HWT HL
    by_cases hlo : nameLab c < 0
    case pos =>
      have HNO := Lib.hid (tran_bad h1 h2 HNM.out (fun k => by omega))
      clear h1 h2
      have Z := HR6.out
      have F0 := Z.frozen 0
      have F1 := Z.frozen 1
      have F2 := Z.frozen 2
      have Z0 := Z.cell (i := 0) (v := .int .i64 0) rfl
      have Z1 := Z.cell (i := 1) (v := .slice none 0 0) rfl
      have Z2 := Z.cell (i := 2) (v := .slice none 0 0) rfl
      have q1 := Z.set 0 (.int .i64 0)
      have E1 := q1.cell (i := 1) (v := .slice none 0 0) rfl
      have q2 := q1.set 1 (.slice none 0 0)
      have E2 := q2.cell (i := 2) (v := .slice none 0 0) rfl
      have q3 := q2.set 2 (.slice none 0 0)
      have D0 := q3.cell (i := 0) (v := .int .i64 0) rfl
      have D1 := q3.cell (i := 1) (v := .slice none 0 0) rfl
      have D2 := q3.cell (i := 2) (v := .slice none 0 0) rfl
      clear Z q1 q2 q3
      go_wp2_with fail
      refine bodyPost_ret (v := .tuple #[.agg #[.int .i64 0, .slice none 0 0, .slice none 0 0], .bool false]) (by simp [results, Tryd.results19, go_sem, D0, D1, D2]) rfl ?_
      exact ⟨(((G6.out).setCell (Nat.le_refl _) _).setCell (Nat.le_refl _) _).setCell (Nat.le_refl _) _, .inr ⟨rfl, HNO.out⟩⟩
    by_cases hhi : (26 : Int) < nameLab c
    case pos =>
      have HNO := Lib.hid (tran_bad h1 h2 HNM.out (fun k => by omega))
      clear h1 h2
      have Z := HR6.out
      have F0 := Z.frozen 0
      have F1 := Z.frozen 1
      have F2 := Z.frozen 2
      have Z0 := Z.cell (i := 0) (v := .int .i64 0) rfl
      have Z1 := Z.cell (i := 1) (v := .slice none 0 0) rfl
      have Z2 := Z.cell (i := 2) (v := .slice none 0 0) rfl
      have q1 := Z.set 0 (.int .i64 0)
      have E1 := q1.cell (i := 1) (v := .slice none 0 0) rfl
      have q2 := q1.set 1 (.slice none 0 0)
      have E2 := q2.cell (i := 2) (v := .slice none 0 0) rfl
      have q3 := q2.set 2 (.slice none 0 0)
      have D0 := q3.cell (i := 0) (v := .int .i64 0) rfl
      have D1 := q3.cell (i := 1) (v := .slice none 0 0) rfl
      have D2 := q3.cell (i := 2) (v := .slice none 0 0) rfl
      clear Z q1 q2 q3
      go_wp2_with fail
      refine bodyPost_ret (v := .tuple #[.agg #[.int .i64 0, .slice none 0 0, .slice none 0 0], .bool false]) (by simp [results, Tryd.results19, go_sem, D0, D1, D2]) rfl ?_
      exact ⟨(((G6.out).setCell (Nat.le_refl _) _).setCell (Nat.le_refl _) _).setCell (Nat.le_refl _) _, .inr ⟨rfl, HNO.out⟩⟩
    have HTR : Hid (TranT P ⟨nameLab c, xs, ys⟩) := Lib.hid ⟨⟨by show 0 ≤ nameLab c; omega, by show nameLab c ≤ 26; omega⟩, weights_row h1, weights_row h2⟩
    have HLC := Lib.hid (line_calls ⟨nameLab c, xs, ys⟩ _ _ P _ HTR.out hP HP6.out.ints HO6.out.ints)
    by_cases hq : lineF ⟨nameLab c, xs, ys⟩ = s
    case neg =>
      have HNO := Lib.hid (tran_bad h1 h2 HNM.out (fun k => hq k.2.2))
      have hbq := strB_beq_no hq
      clear h1 h2 hq
      go_wp2_with fail
      refine HLC.out.mono ?_
      rintro _ w7 ⟨rfl, g7⟩
      have HR7 := Lib.hid (HR6.out.gr g7)
      have G7 := Lib.hid (G6.out.trans g7)
      clear g7
      have Z := HR7.out
      have F0 := Z.frozen 0
      have F1 := Z.frozen 1
      have F2 := Z.frozen 2
      have Z0 := Z.cell (i := 0) (v := .int .i64 0) rfl
      have Z1 := Z.cell (i := 1) (v := .slice none 0 0) rfl
      have Z2 := Z.cell (i := 2) (v := .slice none 0 0) rfl
      have q1 := Z.set 0 (.int .i64 0)
      have E1 := q1.cell (i := 1) (v := .slice none 0 0) rfl
      have q2 := q1.set 1 (.slice none 0 0)
      have E2 := q2.cell (i := 2) (v := .slice none 0 0) rfl
      have q3 := q2.set 2 (.slice none 0 0)
      have D0 := q3.cell (i := 0) (v := .int .i64 0) rfl
      have D1 := q3.cell (i := 1) (v := .slice none 0 0) rfl
      have D2 := q3.cell (i := 2) (v := .slice none 0 0) rfl
      clear Z q1 q2 q3
      go_wp2_with fail
      refine bodyPost_ret (v := .tuple #[.agg #[.int .i64 0, .slice none 0 0, .slice none 0 0], .bool false]) (by simp [results, Tryd.results19, go_sem, D0, D1, D2]) rfl ?_
      exact ⟨(((G7.out).setCell (Nat.le_refl _) _).setCell (Nat.le_refl _) _).setCell (Nat.le_refl _) _, .inr ⟨rfl, HNO.out⟩⟩
    have HYES := Lib.hid (tran_yes HCB.out h1 h2 HNM.out ⟨by omega, by omega, hq⟩)
    have hbq := strB_beq_yes hq
    clear h1 h2 hq
    go_wp2_with fail
    refine HLC.out.mono ?_
    rintro _ w7 ⟨rfl, g7⟩
    have M0 := cell_gr L0 g7
    have M1 := cell_gr L1 g7
    have M2 := cell_gr L2 g7
    have R7 := HR6.out.gr g7
    have HG7 := Lib.hid (G6.out.trans g7)
    have HP7 := Lib.hid (HP6.out.gr g7)
    have HO7 := Lib.hid (HO6.out.gr g7)
    clear L0 L1 L2 g7 HR6 G6 HP6 HO6 HLC
    have F0 := R7.frozen 0
    have F1 := R7.frozen 1
    have F2 := R7.frozen 2
    have Z0 := R7.cell (i := 0) (v := .int .i64 0) rfl
    have Z1 := R7.cell (i := 1) (v := .slice none 0 0) rfl
    have Z2 := R7.cell (i := 2) (v := .slice none 0 0) rfl
    have q1 := R7.set 0 (.int .i64 (nameLab c))
    have E1 := q1.cell (i := 1) (v := .slice none 0 0) rfl
    have q2 := q1.set 1 (.slice a3 xs.length c3)
    have E2 := q2.cell (i := 2) (v := .slice none 0 0) rfl
    have q3 := q2.set 2 (.slice a5 ys.length c5)
    have D0 := q3.cell (i := 0) (v := .int .i64 (nameLab c)) rfl
    have D1 := q3.cell (i := 1) (v := .slice a3 xs.length c3) rfl
    have D2 := q3.cell (i := 2) (v := .slice a5 ys.length c5) rfl
    clear R7 q1 q2 q3
    go_wp2_with fail
    refine bodyPost_ret (v := .tuple #[.agg #[.int .i64 (nameLab c), .slice a3 xs.length c3, .slice a5 ys.length c5], .bool true]) (by simp [results, Tryd.results19, go_sem, D0, D1, D2]) rfl ?_
    exact ⟨((HG7.out.setCell (Nat.le_refl _) _).setCell (Nat.le_refl _) _).setCell (Nat.le_refl _) _, .inl ⟨⟨nameLab c, xs, ys⟩, _, _, rfl, HYES.out, own_sets HP7.out, own_sets HO7.out⟩⟩
  · have hne := strB_beq_no (a := [c]) (b := [45]) (by simpa using hc45)
    go_wp2_with fail
    rw [lab_wrap c hc45]
    obtain ⟨wt, hwt⟩ : ∃ wt, wt = w2.alloc (.cells #[.int .i64 (nameLab c), .slice none 0 0, .slice none 0 0] 41) := ⟨_, rfl⟩
    have bT : Blk wt w2.heap.size 41 #[.int .i64 (nameLab c), .slice none 0 0, .slice none 0 0] := by rw [hwt]; exact Blk.new rfl
    have gT : Gr w2 wt := by rw [hwt]; exact (Gr.refl _).alloc _
    clear hc45
    have c1 := (cut_len (lineRest s) [32, 62]).1
    have c2 := (cut_len (lineRest s) [32, 62]).2
    have c3 := (cut_len s [32, 58]).2
    have HL := Lib.hid (show (linePre s).length ≤ 100000000 ∧ (linePost s).length ≤ 100000000 by unfold linePre linePost; have : (lineRest s).length ≤ s.length := c3; omega)
    have HT0 := Lib.hid hT
    have GW := Lib.hid (HG2.out.trans gT)
    have HRt := Lib.hid (HR2.out.gr gT)
    have HWT := Lib.hid hwt
    clear c1 c2 c3 hT gT hrl hl hwt hne e3
    rcases h1 : weightsT (linePre s) P with _ | xs
    case none =>
      have HNO := Lib.hid (tran_wrong (s := s) (P := P) (.inl h1))
      have HC := Lib.hid (weights_no (linePre s) P wt HL.out.1 hP (HT0.out.gr GW.out) h1)
      rw [HWT.out] at HC
      refine HC.out.mono ?_
      rw [← HWT.out]
      rintro _ w3 ⟨rfl, g3⟩
      have b3 := bT.gr g3
      have F1 := b3.frozen 1
      have X1 := b3.cell (i := 1) (v := .slice none 0 0) rfl
      have b4 := b3.set 1 (.slice none 0 0)
      have hlt : w.heap.size < w2.heap.size := HR2.out.lt
      have HR4 := Lib.hid ((HRt.out.gr g3).other (a := ⟨w2.heap.size, 1, none⟩) (by show w.heap.size ≠ w2.heap.size; omega) (.slice none 0 0))
      have G4 := Lib.hid ((GW.out.trans g3).setCell (p := ⟨w2.heap.size, 1, none⟩) (by show w.heap.size ≤ w2.heap.size; omega) (.slice none 0 0))
      have HB4 := Lib.hid b4
      clear b3 b4 g3 hlt
      go_wp2_with fail
      rcases h2 : weightsT (linePost s) P with _ | ys
      case none =>
        refine (weights_no (linePost s) P _ HL.out.2 hP (HT0.out.gr G4.out) h2).mono ?_
        rintro _ w5 ⟨rfl, g5⟩
        have b5 := HB4.out.gr g5
        have Y1 := b5.cell (i := 2) (v := .slice none 0 0) rfl
        have YF := b5.frozen 2
        have hlt : w.heap.size < w2.heap.size := HR2.out.lt
        have HR6 := Lib.hid ((HR4.out.gr g5).other (a := ⟨w2.heap.size, 2, none⟩) (by show w.heap.size ≠ w2.heap.size; omega) (.slice none 0 0))
        have G6 := Lib.hid ((G4.out.trans g5).setCell (p := ⟨w2.heap.size, 2, none⟩) (by show w.heap.size ≤ w2.heap.size; omega) (.slice none 0 0))
        clear b5 g5 hlt h1 h2
        have Z := HR6.out
        have F0 := Z.frozen 0
        have F1 := Z.frozen 1
        have F2 := Z.frozen 2
        have Z0 := Z.cell (i := 0) (v := .int .i64 0) rfl
        have Z1 := Z.cell (i := 1) (v := .slice none 0 0) rfl
        have Z2 := Z.cell (i := 2) (v := .slice none 0 0) rfl
        have q1 := Z.set 0 (.int .i64 0)
        have E1 := q1.cell (i := 1) (v := .slice none 0 0) rfl
        have q2 := q1.set 1 (.slice none 0 0)
        have E2 := q2.cell (i := 2) (v := .slice none 0 0) rfl
        have q3 := q2.set 2 (.slice none 0 0)
        have D0 := q3.cell (i := 0) (v := .int .i64 0) rfl
        have D1 := q3.cell (i := 1) (v := .slice none 0 0) rfl
        have D2 := q3.cell (i := 2) (v := .slice none 0 0) rfl
        clear Z q1 q2 q3
        go_wp2_with fail
        refine bodyPost_ret (v := .tuple #[.agg #[.int .i64 0, .slice none 0 0, .slice none 0 0], .bool false]) (by simp [results, Tryd.results19, go_sem, D0, D1, D2]) rfl ?_
        exact ⟨(((G6.out).setCell (Nat.le_refl _) _).setCell (Nat.le_refl _) _).setCell (Nat.le_refl _) _, .inr ⟨rfl, HNO.out⟩⟩
      case some =>
        refine (weights_yes (linePost s) P ys _ HL.out.2 hP (HT0.out.gr G4.out) h2).mono ?_
        rintro _ w5 ⟨a5, c5, rfl, o5, g5⟩
        have b5 := HB4.out.gr g5
        have Y1 := b5.cell (i := 2) (v := .slice none 0 0) rfl
        have YF := b5.frozen 2
        have hlt : w.heap.size < w2.heap.size := HR2.out.lt
        have HR6 := Lib.hid ((HR4.out.gr g5).other (a := ⟨w2.heap.size, 2, none⟩) (by show w.heap.size ≠ w2.heap.size; omega) (.slice a5 ys.length c5))
        have G6 := Lib.hid ((G4.out.trans g5).setCell (p := ⟨w2.heap.size, 2, none⟩) (by show w.heap.size ≤ w2.heap.size; omega) (.slice a5 ys.length c5))
        clear b5 g5 hlt h1 h2 o5
        have Z := HR6.out
        have F0 := Z.frozen 0
        have F1 := Z.frozen 1
        have F2 := Z.frozen 2
        have Z0 := Z.cell (i := 0) (v := .int .i64 0) rfl
        have Z1 := Z.cell (i := 1) (v := .slice none 0 0) rfl
        have Z2 := Z.cell (i := 2) (v := .slice none 0 0) rfl
        have q1 := Z.set 0 (.int .i64 0)
        have E1 := q1.cell (i := 1) (v := .slice none 0 0) rfl
        have q2 := q1.set 1 (.slice none 0 0)
        have E2 := q2.cell (i := 2) (v := .slice none 0 0) rfl
        have q3 := q2.set 2 (.slice none 0 0)
        have D0 := q3.cell (i := 0) (v := .int .i64 0) rfl
        have D1 := q3.cell (i := 1) (v := .slice none 0 0) rfl
        have D2 := q3.cell (i := 2) (v := .slice none 0 0) rfl
        clear Z q1 q2 q3
        go_wp2_with fail
        refine bodyPost_ret (v := .tuple #[.agg #[.int .i64 0, .slice none 0 0, .slice none 0 0], .bool false]) (by simp [results, Tryd.results19, go_sem, D0, D1, D2]) rfl ?_
        exact ⟨(((G6.out).setCell (Nat.le_refl _) _).setCell (Nat.le_refl _) _).setCell (Nat.le_refl _) _, .inr ⟨rfl, HNO.out⟩⟩
    have HC := Lib.hid (weights_yes (linePre s) P xs wt HL.out.1 hP (HT0.out.gr GW.out) h1)
    rw [HWT.out] at HC
    refine HC.out.mono ?_
    rw [← HWT.out]
    rintro _ w3 ⟨a3, c3, rfl, o3, g3⟩
    have b3 := bT.gr g3
    have F1 := b3.frozen 1
    have X1 := b3.cell (i := 1) (v := .slice none 0 0) rfl
    have b4 := b3.set 1 (.slice a3 xs.length c3)
    have hlt : w.heap.size < w2.heap.size := HR2.out.lt
    have hltT := bT.lt
    have HR4 := Lib.hid ((HRt.out.gr g3).other (a := ⟨w2.heap.size, 1, none⟩) (by show w.heap.size ≠ w2.heap.size; omega) (.slice a3 xs.length c3))
    have G4 := Lib.hid ((GW.out.trans g3).setCell (p := ⟨w2.heap.size, 1, none⟩) (by show w.heap.size ≤ w2.heap.size; omega) (.slice a3 xs.length c3))
    have HO4 := Lib.hid ((o3.other (a := ⟨w2.heap.size, 1, none⟩) (fun e => by have := (o3.lt e).1; simp only at this; omega) (.slice a3 xs.length c3)).lower (show w.heap.size + 1 ≤ wt.heap.size by omega))
    have HPN : Hid ((Value.slice a3 xs.length c3).ownBlock ≠ some w2.heap.size) := Lib.hid (fun e => by have := (o3.lt e).1; omega)
    have HB4 := Lib.hid b4
    clear b3 b4 g3 hlt hltT o3
    go_wp2_with fail
    rcases h2 : weightsT (linePost s) P with _ | ys
    case none =>
      have HNO := Lib.hid (tran_wrong (s := s) (P := P) (.inr h2))
      refine (weights_no (linePost s) P _ HL.out.2 hP (HT0.out.gr G4.out) h2).mono ?_
      rintro _ w5 ⟨rfl, g5⟩
      have b5 := HB4.out.gr g5
      have Y1 := b5.cell (i := 2) (v := .slice none 0 0) rfl
      have YF := b5.frozen 2
      have hlt : w.heap.size < w2.heap.size := HR2.out.lt
      have HR6 := Lib.hid ((HR4.out.gr g5).other (a := ⟨w2.heap.size, 2, none⟩) (by show w.heap.size ≠ w2.heap.size; omega) (.slice none 0 0))
      have G6 := Lib.hid ((G4.out.trans g5).setCell (p := ⟨w2.heap.size, 2, none⟩) (by show w.heap.size ≤ w2.heap.size; omega) (.slice none 0 0))
      clear b5 g5 hlt h1 h2
      have Z := HR6.out
      have F0 := Z.frozen 0
      have F1 := Z.frozen 1
      have F2 := Z.frozen 2
      have Z0 := Z.cell (i := 0) (v := .int .i64 0) rfl
      have Z1 := Z.cell (i := 1) (v := .slice none 0 0) rfl
      have Z2 := Z.cell (i := 2) (v := .slice none 0 0) rfl
      have q1 := Z.set 0 (.int .i64 0)
      have E1 := q1.cell (i := 1) (v := .slice none 0 0) rfl
      have q2 := q1.set 1 (.slice none 0 0)
      have E2 := q2.cell (i := 2) (v := .slice none 0 0) rfl
      have q3 := q2.set 2 (.slice none 0 0)
      have D0 := q3.cell (i := 0) (v := .int .i64 0) rfl
      have D1 := q3.cell (i := 1) (v := .slice none 0 0) rfl
      have D2 := q3.cell (i := 2) (v := .slice none 0 0) rfl
      clear Z q1 q2 q3
      go_wp2_with fail
      refine bodyPost_ret (v := .tuple #[.agg #[.int .i64 0, .slice none 0 0, .slice none 0 0], .bool false]) (by simp [results, Tryd.results19, go_sem, D0, D1, D2]) rfl ?_
      exact ⟨(((G6.out).setCell (Nat.le_refl _) _).setCell (Nat.le_refl _) _).setCell (Nat.le_refl _) _, .inr ⟨rfl, HNO.out⟩⟩
    refine (weights_yes (linePost s) P ys _ HL.out.2 hP (HT0.out.gr G4.out) h2).mono ?_
    rintro _ w5 ⟨a5, c5, rfl, o5, g5⟩
    have b5 := HB4.out.gr g5
    have Y1 := b5.cell (i := 2) (v := .slice none 0 0) rfl
    have YF := b5.frozen 2
    have b6 := b5.set 2 (.slice a5 ys.length c5)
    have hlt : w.heap.size < w2.heap.size := HR2.out.lt
    have hle4 := HB4.out.lt
    have HR6 := Lib.hid ((HR4.out.gr g5).other (a := ⟨w2.heap.size, 2, none⟩) (by show w.heap.size ≠ w2.heap.size; omega) (.slice a5 ys.length c5))
    have G6 := Lib.hid ((G4.out.trans g5).setCell (p := ⟨w2.heap.size, 2, none⟩) (by show w.heap.size ≤ w2.heap.size; omega) (.slice a5 ys.length c5))
    have HO6 := Lib.hid ((o5.other (a := ⟨w2.heap.size, 2, none⟩) (fun e => by have := (o5.lt e).1; simp only at this; omega) (.slice a5 ys.length c5)).lower (Nat.succ_le_of_lt HR4.out.lt))
    have HP6 : Hid (OwnI 3 (w.heap.size + 1) ((w5.setCell ⟨w2.heap.size, 2, none⟩ (.slice a5 ys.length c5))) (.slice a3 xs.length c3) xs) := Lib.hid ((HO4.out.gr g5).other (a := ⟨w2.heap.size, 2, none⟩) (fun e => HPN.out e) (.slice a5 ys.length c5))
    have L0 := b6.cell (i := 0) (v := .int .i64 (nameLab c)) rfl
    have L1 := b6.cell (i := 1) (v := .slice a3 xs.length c3) rfl
    have L2 := b6.cell (i := 2) (v := .slice a5 ys.length c5) rfl
    clear b5 b6 g5 hlt hle4 HR4 G4 HO4 HPN HB4 HC HRt GW HWT HL
    by_cases hlo : nameLab c < 0
    case pos =>
      have HNO := Lib.hid (tran_bad h1 h2 HNM.out (fun k => by omega))
      clear h1 h2
      have Z := HR6.out
      have F0 := Z.frozen 0
      have F1 := Z.frozen 1
      have F2 := Z.frozen 2
      have Z0 := Z.cell (i := 0) (v := .int .i64 0) rfl
      have Z1 := Z.cell (i := 1) (v := .slice none 0 0) rfl
      have Z2 := Z.cell (i := 2) (v := .slice none 0 0) rfl
      have q1 := Z.set 0 (.int .i64 0)
      have E1 := q1.cell (i := 1) (v := .slice none 0 0) rfl
      have q2 := q1.set 1 (.slice none 0 0)
      have E2 := q2.cell (i := 2) (v := .slice none 0 0) rfl
      have q3 := q2.set 2 (.slice none 0 0)
      have D0 := q3.cell (i := 0) (v := .int .i64 0) rfl
      have D1 := q3.cell (i := 1) (v := .slice none 0 0) rfl
      have D2 := q3.cell (i := 2) (v := .slice none 0 0) rfl
      clear Z q1 q2 q3
      go_wp2_with fail
      refine bodyPost_ret (v := .tuple #[.agg #[.int .i64 0, .slice none 0 0, .slice none 0 0], .bool false]) (by simp [results, Tryd.results19, go_sem, D0, D1, D2]) rfl ?_
      exact ⟨(((G6.out).setCell (Nat.le_refl _) _).setCell (Nat.le_refl _) _).setCell (Nat.le_refl _) _, .inr ⟨rfl, HNO.out⟩⟩
    by_cases hhi : (26 : Int) < nameLab c
    case pos =>
      have HNO := Lib.hid (tran_bad h1 h2 HNM.out (fun k => by omega))
      clear h1 h2
      have Z := HR6.out
      have F0 := Z.frozen 0
      have F1 := Z.frozen 1
      have F2 := Z.frozen 2
      have Z0 := Z.cell (i := 0) (v := .int .i64 0) rfl
      have Z1 := Z.cell (i := 1) (v := .slice none 0 0) rfl
      have Z2 := Z.cell (i := 2) (v := .slice none 0 0) rfl
      have q1 := Z.set 0 (.int .i64 0)
      have E1 := q1.cell (i := 1) (v := .slice none 0 0) rfl
      have q2 := q1.set 1 (.slice none 0 0)
      have E2 := q2.cell (i := 2) (v := .slice none 0 0) rfl
      have q3 := q2.set 2 (.slice none 0 0)
      have D0 := q3.cell (i := 0) (v := .int .i64 0) rfl
      have D1 := q3.cell (i := 1) (v := .slice none 0 0) rfl
      have D2 := q3.cell (i := 2) (v := .slice none 0 0) rfl
      clear Z q1 q2 q3
      go_wp2_with fail
      refine bodyPost_ret (v := .tuple #[.agg #[.int .i64 0, .slice none 0 0, .slice none 0 0], .bool false]) (by simp [results, Tryd.results19, go_sem, D0, D1, D2]) rfl ?_
      exact ⟨(((G6.out).setCell (Nat.le_refl _) _).setCell (Nat.le_refl _) _).setCell (Nat.le_refl _) _, .inr ⟨rfl, HNO.out⟩⟩
    have HTR : Hid (TranT P ⟨nameLab c, xs, ys⟩) := Lib.hid ⟨⟨by show 0 ≤ nameLab c; omega, by show nameLab c ≤ 26; omega⟩, weights_row h1, weights_row h2⟩
    have HLC := Lib.hid (line_calls ⟨nameLab c, xs, ys⟩ _ _ P _ HTR.out hP HP6.out.ints HO6.out.ints)
    by_cases hq : lineF ⟨nameLab c, xs, ys⟩ = s
    case neg =>
      have HNO := Lib.hid (tran_bad h1 h2 HNM.out (fun k => hq k.2.2))
      have hbq := strB_beq_no hq
      clear h1 h2 hq
      go_wp2_with fail
      refine HLC.out.mono ?_
      rintro _ w7 ⟨rfl, g7⟩
      have HR7 := Lib.hid (HR6.out.gr g7)
      have G7 := Lib.hid (G6.out.trans g7)
      clear g7
      have Z := HR7.out
      have F0 := Z.frozen 0
      have F1 := Z.frozen 1
      have F2 := Z.frozen 2
      have Z0 := Z.cell (i := 0) (v := .int .i64 0) rfl
      have Z1 := Z.cell (i := 1) (v := .slice none 0 0) rfl
      have Z2 := Z.cell (i := 2) (v := .slice none 0 0) rfl
      have q1 := Z.set 0 (.int .i64 0)
      have E1 := q1.cell (i := 1) (v := .slice none 0 0) rfl
      have q2 := q1.set 1 (.slice none 0 0)
      have E2 := q2.cell (i := 2) (v := .slice none 0 0) rfl
      have q3 := q2.set 2 (.slice none 0 0)
      have D0 := q3.cell (i := 0) (v := .int .i64 0) rfl
      have D1 := q3.cell (i := 1) (v := .slice none 0 0) rfl
      have D2 := q3.cell (i := 2) (v := .slice none 0 0) rfl
      clear Z q1 q2 q3
      go_wp2_with fail
      refine bodyPost_ret (v := .tuple #[.agg #[.int .i64 0, .slice none 0 0, .slice none 0 0], .bool false]) (by simp [results, Tryd.results19, go_sem, D0, D1, D2]) rfl ?_
      exact ⟨(((G7.out).setCell (Nat.le_refl _) _).setCell (Nat.le_refl _) _).setCell (Nat.le_refl _) _, .inr ⟨rfl, HNO.out⟩⟩
    have HYES := Lib.hid (tran_yes HCB.out h1 h2 HNM.out ⟨by omega, by omega, hq⟩)
    have hbq := strB_beq_yes hq
    clear h1 h2 hq
    go_wp2_with fail
    refine HLC.out.mono ?_
    rintro _ w7 ⟨rfl, g7⟩
    have M0 := cell_gr L0 g7
    have M1 := cell_gr L1 g7
    have M2 := cell_gr L2 g7
    have R7 := HR6.out.gr g7
    have HG7 := Lib.hid (G6.out.trans g7)
    have HP7 := Lib.hid (HP6.out.gr g7)
    have HO7 := Lib.hid (HO6.out.gr g7)
    clear L0 L1 L2 g7 HR6 G6 HP6 HO6 HLC
    have F0 := R7.frozen 0
    have F1 := R7.frozen 1
    have F2 := R7.frozen 2
    have Z0 := R7.cell (i := 0) (v := .int .i64 0) rfl
    have Z1 := R7.cell (i := 1) (v := .slice none 0 0) rfl
    have Z2 := R7.cell (i := 2) (v := .slice none 0 0) rfl
    have q1 := R7.set 0 (.int .i64 (nameLab c))
    have E1 := q1.cell (i := 1) (v := .slice none 0 0) rfl
    have q2 := q1.set 1 (.slice a3 xs.length c3)
    have E2 := q2.cell (i := 2) (v := .slice none 0 0) rfl
    have q3 := q2.set 2 (.slice a5 ys.length c5)
    have D0 := q3.cell (i := 0) (v := .int .i64 (nameLab c)) rfl
    have D1 := q3.cell (i := 1) (v := .slice a3 xs.length c3) rfl
    have D2 := q3.cell (i := 2) (v := .slice a5 ys.length c5) rfl
    clear R7 q1 q2 q3
    go_wp2_with fail
    refine bodyPost_ret (v := .tuple #[.agg #[.int .i64 (nameLab c), .slice a3 xs.length c3, .slice a5 ys.length c5], .bool true]) (by simp [results, Tryd.results19, go_sem, D0, D1, D2]) rfl ?_
    exact ⟨((HG7.out.setCell (Nat.le_refl _) _).setCell (Nat.le_refl _) _).setCell (Nat.le_refl _) _, .inl ⟨⟨nameLab c, xs, ys⟩, _, _, rfl, HYES.out, own_sets HP7.out, own_sets HO7.out⟩⟩
end Go.Proofs.YtiflolklgmmgeaaDoor
