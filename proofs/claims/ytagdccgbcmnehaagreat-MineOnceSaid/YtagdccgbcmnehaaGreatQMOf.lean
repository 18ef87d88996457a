/- Texts of one family, joined; what the claim does not need is left out. -/
import Derived.Test.YtagdccgbcmnehaaGreatQMOe
import Derived.Test.YtagdccgbcmnehaaGreatQMOa
import Derived.Test.YtagdccgbcmnehaaGreatQMOb
import Derived.Test.YtagdccgbcmnehaaGreatQMOd
namespace Go.Tok
open Go.RowKit
set_option linter.unusedVariables false
theorem trace_ok {log : List (List Int)} (h : wrongT log = 0) : log.length ≤ 60 ∧ ∀ t ∈ log, t.length ≤ 60 ∧ ∀ x ∈ t, 1 ≤ x ∧ x ≤ 26 := by
  unfold wrongT at h
  by_cases h1 : 60 < log.length
  · rw [if_pos h1] at h; cases h
  · rw [if_neg h1] at h
    refine ⟨by omega, fun t ht => ?_⟩
    cases h2 : log.any traceBad with
    | true => rw [h2] at h; cases h
    | false =>
      have h3 := List.any_eq_false.1 h2 t ht
      unfold traceBad at h3
      simp only [Bool.or_eq_true, decide_eq_true_eq, List.any_eq_true, not_or, not_exists, not_and] at h3
      refine ⟨by omega, fun x hx => ?_⟩
      have := h3.2 x hx
      omega
theorem trace_at {log : List (List Int)} (h : wrongT log = 0) {k j : Nat} (hk : k < log.length) (hj : j < (ix log k).length) : 1 ≤ nth (ix log k) j ∧ nth (ix log k) j ≤ 26 := by
  rw [nth_lt hj]
  exact ((trace_ok h).2 _ (ix_mem hk)).2 _ (List.getElem_mem hj)
/-- all that is collected is a label -/
def Labs (s : TrkD) : Prop := (∀ x ∈ s.all, 1 ≤ x ∧ x ≤ 26) ∧ (∀ x ∈ s.first, 1 ≤ x ∧ x ≤ 26) ∧ (∀ x ∈ s.last, 1 ≤ x ∧ x ≤ 26) ∧ ∀ x ∈ s.behind, (1 ≤ x.1 ∧ x.1 ≤ 26) ∧ 1 ≤ x.2 ∧ x.2 ≤ 26
theorem labs_log {log : List (List Int)} (h : wrongT log = 0) : Labs (trkLog log) := by
  obtain ⟨h1, h2, h3, h4⟩ := shows_log log
  have key : ∀ t ∈ log, ∀ j, j < t.length → 1 ≤ nth t j ∧ nth t j ≤ 26 := fun t ht j hj => by
    rw [nth_lt hj]; exact ((trace_ok h).2 t ht).2 _ (List.getElem_mem hj)
  refine ⟨fun x hx => ?_, fun x hx => ?_, fun x hx => ?_, fun x hx => ?_⟩
  · obtain ⟨t, ht, j, hj, rfl⟩ := (h1 x).1 hx; exact key t ht j hj
  · obtain ⟨t, ht, hj, rfl⟩ := (h2 x).1 hx; exact key t ht 0 hj
  · obtain ⟨t, ht, j, hj, rfl⟩ := (h3 x).1 hx; exact key t ht j (by omega)
  · obtain ⟨t, ht, j, hj, rfl⟩ := (h4 x).1 hx; exact ⟨key t ht j (by omega), key t ht (j + 1) hj⟩
/-- a row of different labels is short -/
theorem labs_short {l : List Int} (hn : l.Nodup) (h : ∀ x ∈ l, 1 ≤ x ∧ x ≤ 26) : l.length ≤ 26 := by
  have hs : l ⊆ (List.range 26).map fun i : Nat => (i : Int) + 1 := fun x hx => by
    have := h x hx
    exact List.mem_map.2 ⟨(x - 1).toNat, by simp; omega, by omega⟩
  have := nodup_sub _ _ hn hs
  simpa using this
theorem pairs_short {l : List (Int × Int)} (hn : l.Nodup) (h : ∀ x ∈ l, (1 ≤ x.1 ∧ x.1 ≤ 26) ∧ 1 ≤ x.2 ∧ x.2 ≤ 26) : l.length ≤ 676 := by
  have hs : l ⊆ (List.range 676).map fun i : Nat => (((i / 26 : Nat) : Int) + 1, ((i % 26 : Nat) : Int) + 1) := fun x hx => by
    have := h x hx
    refine List.mem_map.2 ⟨(x.1 - 1).toNat * 26 + (x.2 - 1).toNat, by simp; omega, ?_⟩
    apply Prod.ext
    · simp; omega
    · simp; omega
  have := nodup_sub _ _ hn hs
  simpa using this
end Go.Tok
namespace Go.Proofs.YtagdccgbcmnehaaGreat
open Go.RowKit Go.Tok
set_option linter.unusedVariables false
structure Sets (w0 w : World) (b : Nat) (A F L : List Int) (B : List (Int × Int)) : Prop where
  a : ISet w b A
  f : ISet w (b + 1) F
  l : ISet w (b + 2) L
  p : PSet w (b + 3) B
  g : Gr w0 w
  le : w0.heap.size ≤ b
section
variable {w0 w w' : World} {b : Nat} {A F L : List Int} {B : List (Int × Int)}
theorem Sets.setA {A' : List Int} (h : Sets w0 w b A F L B) (g : w.grownBy w' (some b)) (h' : ISet w' b A') : Sets w0 w' b A' F L B :=
  ⟨h', h.f.grown g (by simp), h.l.grown g (by simp), h.p.grown g (by simp), OnlyAt.gr h.g g h.le, h.le⟩
theorem Sets.setF {F' : List Int} (h : Sets w0 w b A F L B) (g : w.grownBy w' (some (b + 1))) (h' : ISet w' (b + 1) F') : Sets w0 w' b A F' L B :=
  ⟨h.a.grown g (by simp), h', h.l.grown g (by simp), h.p.grown g (by simp), OnlyAt.gr h.g g (by have := h.le; omega), h.le⟩
theorem Sets.setL {L' : List Int} (h : Sets w0 w b A F L B) (g : w.grownBy w' (some (b + 2))) (h' : ISet w' (b + 2) L') : Sets w0 w' b A F L' B :=
  ⟨h.a.grown g (by simp), h.f.grown g (by simp), h', h.p.grown g (by simp), OnlyAt.gr h.g g (by have := h.le; omega), h.le⟩
theorem Sets.setB {B' : List (Int × Int)} (h : Sets w0 w b A F L B) (g : w.grownBy w' (some (b + 3))) (h' : PSet w' (b + 3) B') : Sets w0 w' b A F L B' :=
  ⟨h.a.grown g (by simp), h.f.grown g (by simp), h.l.grown g (by simp), h', OnlyAt.gr h.g g (by have := h.le; omega), h.le⟩
theorem Sets.gr (h : Sets w0 w b A F L B) (g : Gr w w') : Sets w0 w' b A F L B := ⟨h.a.gr g, h.f.gr g, h.l.gr g, h.p.gr g, h.g.trans g, h.le⟩
theorem Sets.new (w : World) : Sets w ((((w.alloc (.map #[] 0)).alloc (.map #[] 0)).alloc (.map #[] 0)).alloc (.map #[] 0)) w.heap.size [] [] [] [] := by
  have g1 : Gr w (w.alloc (.map #[] 0)) := (Gr.refl _).alloc _
  have g2 : Gr (w.alloc (.map #[] 0)) ((w.alloc (.map #[] 0)).alloc (.map #[] 0)) := (Gr.refl _).alloc _
  have g3 : Gr ((w.alloc (.map #[] 0)).alloc (.map #[] 0)) (((w.alloc (.map #[] 0)).alloc (.map #[] 0)).alloc (.map #[] 0)) := (Gr.refl _).alloc _
  have g4 : Gr (((w.alloc (.map #[] 0)).alloc (.map #[] 0)).alloc (.map #[] 0)) ((((w.alloc (.map #[] 0)).alloc (.map #[] 0)).alloc (.map #[] 0)).alloc (.map #[] 0)) := (Gr.refl _).alloc _
  have s1 := SetAt.new (P := Tryz.prog) (k := 3) (enc := Value.int .i64) w
  have s2 := SetAt.new (P := Tryz.prog) (k := 3) (enc := Value.int .i64) (w.alloc (.map #[] 0))
  have s3 := SetAt.new (P := Tryz.prog) (k := 3) (enc := Value.int .i64) ((w.alloc (.map #[] 0)).alloc (.map #[] 0))
  have s4 := SetAt.new (P := Tryz.prog) (k := 127) (enc := pairV) (((w.alloc (.map #[] 0)).alloc (.map #[] 0)).alloc (.map #[] 0))
  have e2 : (w.alloc (.map #[] 0)).heap.size = w.heap.size + 1 := by simp
  have e3 : ((w.alloc (.map #[] 0)).alloc (.map #[] 0)).heap.size = w.heap.size + 2 := by simp
  have e4 : (((w.alloc (.map #[] 0)).alloc (.map #[] 0)).alloc (.map #[] 0)).heap.size = w.heap.size + 3 := by simp
  rw [e2] at s2
  rw [e3] at s3
  rw [e4] at s4
  exact ⟨s1.gr (g2.trans (g3.trans g4)), s2.gr (g3.trans g4), s3.gr g4, s4, g1.trans (g2.trans (g3.trans g4)), Nat.le_refl _⟩
end
/-- what Of hands back -/
def RetPr (w : World) (r : PrintD × Int) (e : Ending) (w' : World) : Prop :=
  ∃ v1 v2 v3 v4, e = .returned (.tuple #[.agg #[v1, v2, v3, v4], .int .i64 r.2]) ∧ OwnI 3 w.heap.size w' v1 r.1.labels ∧ OwnI 3 w.heap.size w' v2 r.1.first ∧ OwnI 3 w.heap.size w' v3 r.1.last ∧ OwnR pairK 127 w.heap.size NoS w' v4 r.1.behind ∧ Gr w w'
abbrev SetsT (w0 w : World) (b : Nat) (s : TrkD) : Prop := Sets w0 w b s.all s.first s.last s.behind
theorem trkStep_all (t : List Int) (s : TrkD) (j : Nat) : (trkStep t s j).all = ins s.all (nth t j) := rfl
theorem trkStep_00 {t : List Int} {s : TrkD} (h : 0 + 1 ≠ t.length) : trkStep t s 0 = ⟨ins s.all (nth t 0), ins s.first (nth t 0), s.last, s.behind⟩ := by simp [trkStep, h]
theorem trkStep_01 {t : List Int} {s : TrkD} (h : 0 + 1 = t.length) : trkStep t s 0 = ⟨ins s.all (nth t 0), ins s.first (nth t 0), ins s.last (nth t 0), s.behind⟩ := by simp [trkStep, h.symm]
theorem trkStep_q0 {t : List Int} {s : TrkD} {q : Nat} (h : q + 1 + 1 ≠ t.length) : trkStep t s (q + 1) = ⟨ins s.all (nth t (q + 1)), s.first, s.last, ins s.behind (nth t q, nth t (q + 1))⟩ := by simp [trkStep, h]
theorem trkStep_q1 {t : List Int} {s : TrkD} {q : Nat} (h : q + 1 + 1 = t.length) : trkStep t s (q + 1) = ⟨ins s.all (nth t (q + 1)), s.first, ins s.last (nth t (q + 1)), ins s.behind (nth t q, nth t (q + 1))⟩ := by simp [trkStep, h.symm]
theorem _root_.Go.Tok.OwnI.aside {e base : Nat} {w : World} {v : Value} {xs : List Int} (h : OwnI e base w v xs) {b i : Nat} (hb : b < base) (u : Value) : OwnI e base (w.setCell ⟨b, i, none⟩ u) v xs := h.other (fun e => by have := (h.lt e).1; simp at this; omega) u
theorem _root_.Go.Tok.OwnR.aside {α : Type} {K : Kind α} {e base : Nat} {w : World} {v : Value} {xs : List α} (h : OwnR K e base NoS w v xs) {b i : Nat} (hb : b < base) (u : Value) : OwnR K e base NoS (w.setCell ⟨b, i, none⟩ u) v xs := h.other (fun e => by have := (h.lt e).1; simp at this; omega) (fun h => h) u
set_option maxRecDepth 100000 in
set_option maxHeartbeats 4000000 in
theorem Of_calls (v : Value) (log : List (List Int)) (w : World) (hv : Rd rowK w v log) : Calls Tryz.prog 20 #[v] w (RetPr w (ofT log)) := by
  obtain ⟨a, cap, rfl, hlc, hcap⟩ := hv.len
  have b0 : Blk (w.alloc (.cells #[.slice none 0 0, .slice none 0 0, .slice none 0 0, .slice none 0 0] 60)) w.heap.size 60 #[.slice none 0 0, .slice none 0 0, .slice none 0 0, .slice none 0 0] := Blk.new rfl
  have G0 : Gr w (w.alloc (.cells #[.slice none 0 0, .slice none 0 0, .slice none 0 0, .slice none 0 0] 60)) := (Gr.refl _).alloc _
  by_cases hw : wrongT log = 0
  case neg =>
    have q1 : (wrongT log == 0) = false := by simpa using hw
    have q2 : (wrongT log != 0) = true := by simpa using hw
    have HO := Lib.hid (show ofT log = (⟨[], [], [], []⟩, wrongT log) by unfold ofT; rw [if_neg hw])
    clear hw
    go_enter Tryz.func20, Tryz.ntmps20
    go_wp2_with fail
    refine (TWrong_calls _ log _ (hv.gr G0)).mono ?_
    rintro _ w1 ⟨rfl, g1⟩
    have b1 := b0.gr g1
    have GW := G0.trans g1
    have hsz := b1.lt
    have D0 := b1.cell (i := 0) rfl
    have F0 := b1.frozen 0
    have bq1 := b1.set 0 (.slice none 0 0)
    have D1 := bq1.cell (i := 1) rfl
    have F1 := bq1.frozen 1
    have bq2 := bq1.set 1 (.slice none 0 0)
    have D2 := bq2.cell (i := 2) rfl
    have F2 := bq2.frozen 2
    have bq3 := bq2.set 2 (.slice none 0 0)
    have D3 := bq3.cell (i := 3) rfl
    have F3 := bq3.frozen 3
    have bq4 := bq3.set 3 (.slice none 0 0)
    have E0 := bq4.cell (i := 0) rfl
    have E1 := bq4.cell (i := 1) rfl
    have E2 := bq4.cell (i := 2) rfl
    have E3 := bq4.cell (i := 3) rfl
    have GF := (((GW.setCell (p := ⟨w.heap.size, 0, none⟩) (Nat.le_refl _) (.slice none 0 0)).setCell (p := ⟨w.heap.size, 1, none⟩) (Nat.le_refl _) (.slice none 0 0)).setCell (p := ⟨w.heap.size, 2, none⟩) (Nat.le_refl _) (.slice none 0 0)).setCell (p := ⟨w.heap.size, 3, none⟩) (Nat.le_refl _) (.slice none 0 0)
    clear b0 b1 bq1 bq2 bq3 bq4 G0 g1
    have HGF := Lib.hid GF
    clear GF GW
    go_wp2_with fail
    refine bodyPost_ret (v := .tuple #[.agg #[.slice none 0 0, .slice none 0 0, .slice none 0 0, .slice none 0 0], .int .i64 (wrongT log)]) (by simp [results, Tryz.results20, go_sem, E0, E1, E2, E3]) rfl ?_
    unfold RetPr
    rw [HO.out]
    exact ⟨_, _, _, _, rfl, OwnI.nil _ _ _, OwnI.nil _ _ _, OwnI.nil _ _ _, OwnR.nil _ _ _ _, HGF.out⟩
  case pos =>
    have HW := Lib.hid hw
    have HO := Lib.hid (show ofT log = (⟨sortI (trkLog log).all, sortI (trkLog log).first, sortI (trkLog log).last, sortP (trkLog log).behind⟩, 0) by unfold ofT; rw [if_pos hw])
    have hlog := (trace_ok hw).1
    have HT := Lib.hid fun t ht => ((trace_ok hw).2 t ht).1
    have q0 : wrongT log = 0 := hw
    clear hw
    go_enter Tryz.func20, Tryz.ntmps20
    go_wp2_with fail
    refine (TWrong_calls _ log _ (hv.gr G0)).mono ?_
    rw [q0]; rintro _ w1 ⟨rfl, g1⟩
    clear q0
    have b1 := b0.gr g1
    have GW := G0.trans g1
    have hS0 := Sets.new w1
    clear b0 G0 g1
    have hmm := @run_makeMap Tryz.prog
    go_wp2_with fail
    clear hmm
    go_loopw [25] (fun i wr => ∃ k : Nat, k ≤ log.length ∧ i = .int .i64 k ∧ SetsT w1 wr w1.heap.size (trkLog (log.take k))) (fun i _ => log.length - (intOf i).toNat)
    case atStart => exact ⟨0, Nat.zero_le _, rfl, hS0⟩
    case round =>
      rename World => wo
      obtain ⟨k, hk, rfl, hS⟩ := hrel
      by_cases hlt : k < log.length
      · have HN := Lib.hid (trkLog_succ hlt)
        obtain ⟨b, o, u, rfl, c0w, hIw⟩ := hv.row hlt
        have c0 := cell_gr c0w (GW.trans hS.g)
        obtain ⟨ua, uc, rfl, hul, huc⟩ := hIw.len
        have hkI : (k : Int) < (log.length : Int) := by omega
        have hk0 : (0 : Int) ≤ (k : Int) := by omega
        have ht60 := HT.out _ (ix_mem hlt)
        have HAT := Lib.hid fun j hj => trace_at HW.out hlt (j := j) hj
        obtain ⟨s, hs⟩ : ∃ s, s = trkLog (log.take k) := ⟨_, rfl⟩
        obtain ⟨t, htt⟩ : ∃ t, t = ix log k := ⟨_, rfl⟩
        rw [← hs] at hS
        rw [← htt] at c0 hIw ht60 hul
        have HTT := Lib.hid htt
        have HSS := Lib.hid hs
        clear htt hs c0w
        go_wp2_with fail
        go_loopw [31] (fun i wr => ∃ j : Nat, j ≤ t.length ∧ i = .int .i64 j ∧ SetsT w1 wr w1.heap.size (trkTo t s j)) (fun i _ => t.length - (intOf i).toNat)
        case atStart => exact ⟨0, Nat.zero_le _, rfl, hS⟩
        case round =>
          rename World => wq
          obtain ⟨j, hj, rfl, hQ⟩ := hrel
          by_cases hjt : j < t.length
          · have hJ := hIw.gr (GW.trans hQ.g)
            obtain ⟨b', o', rfl, d0⟩ := hJ.cell hjt
            have hx := HAT.out j (by rw [← HTT.out]; exact hjt)
            rw [← HTT.out] at hx
            have hxI : I64 (nth t j) := by unfold I64; omega
            have hjI : (j : Int) < (t.length : Int) := by omega
            have hj0 : (0 : Int) ≤ (j : Int) := by omega
            have HU := Lib.hid (trkTo_succ t s j)
            obtain ⟨s', hs'⟩ : ∃ s', s' = trkTo t s j := ⟨_, rfl⟩
            rw [← hs'] at hQ
            have HU2 := Lib.hid (show trkTo t s (j + 1) = trkStep t s' j by rw [hs']; exact HU.out)
            clear hs' c0 HU
            go_wp2_with fail
            refine (addI_calls w1.heap.size _ _ _ hQ.a hxI).mono ?_
            rintro _ w2 ⟨rfl, g2, h2⟩
            have hS2 := hQ.setA g2 h2
            have hJ2 := hIw.gr (GW.trans hS2.g)
            rcases j with _ | q
            · go_wp2_with fail
              refine (addI_calls (w1.heap.size + 1) _ _ _ hS2.f hxI).mono ?_
              rintro _ w4 ⟨rfl, g4, h4⟩
              have hS3 := hS2.setF g4 h4
              by_cases hlast : 0 + 1 = t.length
              · skip
                have HL := Lib.hid (trkStep_01 (s := s') hlast)
                have q1 : (0 : Int) = (t.length : Int) - 1 := by omega
                have q2 : ((0 : Int) == (t.length : Int) - 1) = true := by simpa using q1
                have q3 : IntKind.i64.wrap ((t.length : Int) - 1) = (t.length : Int) - 1 := IntWalk.i64_in _ (by omega)
                clear q1
                go_wp2_with fail
                refine (addI_calls (w1.heap.size + 2) _ _ _ hS3.l hxI).mono ?_
                rintro _ w5 ⟨rfl, g5, h5⟩
                have hS4 := hS3.setL g5 h5
                clear q2 q3
                go_wp2_with fail
                go_roundw
                case rel => exact ⟨_, hjt, by go_num, by rw [HU2.out, HL.out]; exact hS4⟩
                case measure => simp [intOf]; omega
              · skip
                have HL := Lib.hid (trkStep_00 (s := s') hlast)
                have q2 : ((0 : Int) == (t.length : Int) - 1) = false := by simp; omega
                have q3 : IntKind.i64.wrap ((t.length : Int) - 1) = (t.length : Int) - 1 := IntWalk.i64_in _ (by omega)
                go_wp2_with fail
                go_roundw
                case rel => exact ⟨_, hjt, by go_num, by rw [HU2.out, HL.out]; exact hS3⟩
                case measure => simp [intOf]; omega
            · obtain ⟨b2, o2, hb2, d1⟩ := hJ2.cell (show q < t.length by omega)
              cases hb2
              have hy := HAT.out q (by rw [← HTT.out]; omega)
              rw [← HTT.out] at hy
              have hyI : I64 (nth t q) := by unfold I64; omega
              have r1 : (((q + 1 : Nat) : Int) == 0) = false := by simp; omega
              have r2 : IntKind.i64.wrap (((q + 1 : Nat) : Int) - 1) = (q : Int) := by rw [IntWalk.i64_in _ (by omega)]; omega
              have r3 : ((q + 1 : Nat) : Int) - 1 = (q : Int) := by omega
              have hqI : (q : Int) < (t.length : Int) := by omega
              have hq0 : (0 : Int) ≤ (q : Int) := by omega
              go_wp2_with fail
              refine (addP_calls (w1.heap.size + 3) _ (nth t q, nth t (q + 1)) _ hS2.p hyI hxI).mono ?_
              rintro _ w4 ⟨rfl, g4, h4⟩
              have hS3 := hS2.setB g4 h4
              clear r1 r2 r3
              by_cases hlast : q + 1 + 1 = t.length
              · skip
                have HL := Lib.hid (trkStep_q1 (s := s') hlast)
                have q1 : (((q + 1 : Nat) : Int) : Int) = (t.length : Int) - 1 := by omega
                have q2 : ((((q + 1 : Nat) : Int) : Int) == (t.length : Int) - 1) = true := by simpa using q1
                have q3 : IntKind.i64.wrap ((t.length : Int) - 1) = (t.length : Int) - 1 := IntWalk.i64_in _ (by omega)
                clear q1
                go_wp2_with fail
                refine (addI_calls (w1.heap.size + 2) _ _ _ hS3.l hxI).mono ?_
                rintro _ w5 ⟨rfl, g5, h5⟩
                have hS4 := hS3.setL g5 h5
                clear q2 q3
                go_wp2_with fail
                go_roundw
                case rel => exact ⟨_, hjt, by go_num, by rw [HU2.out, HL.out]; exact hS4⟩
                case measure => simp [intOf]; omega
              · skip
                have HL := Lib.hid (trkStep_q0 (s := s') hlast)
                have q2 : ((((q + 1 : Nat) : Int) : Int) == (t.length : Int) - 1) = false := by simp; omega
                have q3 : IntKind.i64.wrap ((t.length : Int) - 1) = (t.length : Int) - 1 := IntWalk.i64_in _ (by omega)
                go_wp2_with fail
                go_roundw
                case rel => exact ⟨_, hjt, by go_num, by rw [HU2.out, HL.out]; exact hS3⟩
                case measure => simp [intOf]; omega
          · obtain rfl : j = t.length := by omega
            have HF := Lib.hid (show trkLog (log.take (k + 1)) = trkTo t s t.length by rw [HN.out, ← HTT.out, ← HSS.out])
            go_wp2_with fail
            go_roundw
            case rel => exact ⟨k + 1, by omega, by go_num, by rw [HF.out]; exact hQ⟩
            case measure => simp [intOf]; omega
      · obtain rfl : k = log.length := by omega
        rw [List.take_length] at hS
        obtain ⟨l1, l2, l3, l4⟩ := labs_log HW.out
        obtain ⟨n1, n2, n3, n4⟩ := onces_log log
        have k1 := labs_short n1 l1
        have k2 := labs_short n2 l2
        have k3 := labs_short n3 l3
        have k4 := pairs_short n4 l4
        have r1 : ∀ x ∈ (trkLog log).all, 0 ≤ x ∧ x ≤ 1000000 := fun x hx => by have := l1 x hx; omega
        have r2 : ∀ x ∈ (trkLog log).first, 0 ≤ x ∧ x ≤ 1000000 := fun x hx => by have := l2 x hx; omega
        have r3 : ∀ x ∈ (trkLog log).last, 0 ≤ x ∧ x ≤ 1000000 := fun x hx => by have := l3 x hx; omega
        have r4 : ∀ x ∈ (trkLog log).behind, pairI x := fun x hx => by have := l4 x hx; unfold pairI I64; omega
        clear l1 l2 l3 l4 n1 n2 n3 n4
        have b2 := b1.gr hS.g
        have GW2 := GW.trans hS.g
        have hlt2 := b2.lt
        clear b1
        go_wp2_with fail
        refine (sortedI_calls w1.heap.size _ _ hS.a r1 (by omega)).mono ?_
        rintro _ w3 ⟨v1, rfl, o1, g1⟩
        have z1 := g1.le
        have hS := hS.gr g1
        go_wp2_with fail
        refine (sortedI_calls (w1.heap.size + 1) _ _ hS.f r2 (by omega)).mono ?_
        rintro _ w4 ⟨v2, rfl, o2, g2⟩
        have z2 := g2.le
        have hS := hS.gr g2
        go_wp2_with fail
        refine (sortedI_calls (w1.heap.size + 2) _ _ hS.l r3 (by omega)).mono ?_
        rintro _ w5 ⟨v3, rfl, o3, g3⟩
        have z3 := g3.le
        have hS := hS.gr g3
        go_wp2_with fail
        refine (sortedP_calls (w1.heap.size + 3) _ _ hS.p r4 (by omega)).mono ?_
        rintro _ w6 ⟨v4, rfl, o4, g4⟩
        have P1 := o1.gr (g2.trans (g3.trans g4))
        have P2 := o2.gr (g3.trans g4)
        have P3 := o3.gr g4
        obtain ⟨a1, m1, c1, rfl⟩ : ∃ a n c, v1 = .slice a n c := by obtain ⟨a, c, h, _⟩ := P1.ints.len; exact ⟨a, _, c, h⟩
        obtain ⟨a2, m2, c2, rfl⟩ : ∃ a n c, v2 = .slice a n c := by obtain ⟨a, c, h, _⟩ := P2.ints.len; exact ⟨a, _, c, h⟩
        obtain ⟨a3, m3, c3, rfl⟩ : ∃ a n c, v3 = .slice a n c := by obtain ⟨a, c, h, _⟩ := P3.ints.len; exact ⟨a, _, c, h⟩
        obtain ⟨a4, m4, c4, rfl⟩ : ∃ a n c, v4 = .slice a n c := by obtain ⟨a, c, h, _⟩ := o4.len; exact ⟨a, _, c, h⟩
        have GA := g1.trans (g2.trans (g3.trans g4))
        have b3 := b2.gr GA
        have GW3 := GW2.trans GA
        have D0 := b3.cell (i := 0) rfl
        have F0 := b3.frozen 0
        have bq1 := b3.set 0 (.slice a1 m1 c1)
        have D1 := bq1.cell (i := 1) rfl
        have F1 := bq1.frozen 1
        have bq2 := bq1.set 1 (.slice a2 m2 c2)
        have D2 := bq2.cell (i := 2) rfl
        have F2 := bq2.frozen 2
        have bq3 := bq2.set 2 (.slice a3 m3 c3)
        have D3 := bq3.cell (i := 3) rfl
        have F3 := bq3.frozen 3
        have bq4 := bq3.set 3 (.slice a4 m4 c4)
        have E0 := bq4.cell (i := 0) rfl
        have E1 := bq4.cell (i := 1) rfl
        have E2 := bq4.cell (i := 2) rfl
        have E3 := bq4.cell (i := 3) rfl
        have GF := (((GW3.setCell (p := ⟨w.heap.size, 0, none⟩) (Nat.le_refl _) (.slice a1 m1 c1)).setCell (p := ⟨w.heap.size, 1, none⟩) (Nat.le_refl _) (.slice a2 m2 c2)).setCell (p := ⟨w.heap.size, 2, none⟩) (Nat.le_refl _) (.slice a3 m3 c3)).setCell (p := ⟨w.heap.size, 3, none⟩) (Nat.le_refl _) (.slice a4 m4 c4)
        have Q1 := Lib.hid ((((P1.aside hlt2 (i := 0) (.slice a1 m1 c1)).aside hlt2 (i := 1) (.slice a2 m2 c2)).aside hlt2 (i := 2) (.slice a3 m3 c3)).aside hlt2 (i := 3) (.slice a4 m4 c4))
        have Q2 := Lib.hid ((((P2.aside (show w.heap.size < w3.heap.size by omega) (i := 0) (.slice a1 m1 c1)).aside (show w.heap.size < w3.heap.size by omega) (i := 1) (.slice a2 m2 c2)).aside (show w.heap.size < w3.heap.size by omega) (i := 2) (.slice a3 m3 c3)).aside (show w.heap.size < w3.heap.size by omega) (i := 3) (.slice a4 m4 c4))
        have Q3 := Lib.hid ((((P3.aside (show w.heap.size < w4.heap.size by omega) (i := 0) (.slice a1 m1 c1)).aside (show w.heap.size < w4.heap.size by omega) (i := 1) (.slice a2 m2 c2)).aside (show w.heap.size < w4.heap.size by omega) (i := 2) (.slice a3 m3 c3)).aside (show w.heap.size < w4.heap.size by omega) (i := 3) (.slice a4 m4 c4))
        have Q4 := Lib.hid ((((o4.aside (show w.heap.size < w5.heap.size by omega) (i := 0) (.slice a1 m1 c1)).aside (show w.heap.size < w5.heap.size by omega) (i := 1) (.slice a2 m2 c2)).aside (show w.heap.size < w5.heap.size by omega) (i := 2) (.slice a3 m3 c3)).aside (show w.heap.size < w5.heap.size by omega) (i := 3) (.slice a4 m4 c4))
        have HGF := Lib.hid GF
        have hle := Lib.hid (show w.heap.size ≤ wo.heap.size ∧ w.heap.size ≤ w3.heap.size ∧ w.heap.size ≤ w4.heap.size ∧ w.heap.size ≤ w5.heap.size by omega)
        clear b3 b2 bq1 bq2 bq3 bq4 GF GW3 GA GW2 P1 P2 P3 o1 o2 o3 o4 g1 g2 g3 g4 hS GW r1 r2 r3 r4 k1 k2 k3 k4 hlt2 z1 z2 z3
        go_wp2_with fail
        refine bodyPost_ret (v := .tuple #[.agg #[.slice a1 m1 c1, .slice a2 m2 c2, .slice a3 m3 c3, .slice a4 m4 c4], .int .i64 0]) (by simp [results, Tryz.results20, go_sem, E0, E1, E2, E3]) rfl ?_
        unfold RetPr
        rw [HO.out]
        exact ⟨_, _, _, _, rfl, Q1.out.low hle.out.1, Q2.out.low hle.out.2.1, Q3.out.low hle.out.2.2.1, Q4.out.low hle.out.2.2.2, HGF.out⟩
end Go.Proofs.YtagdccgbcmnehaaGreat

namespace Go.Tok
open Go.RowKit
set_option linter.unusedVariables false
abbrev Fresh (n : Nat) : Nat → Prop := fun b => n ≤ b
theorem ontoT_succ {log : List (List Int)} {labels : List Int} {k : Nat} (h : k < log.length) : ontoT (log.take (k + 1)) labels = ontoT (log.take k) labels ++ [(ix log k).filter fun a => hasB labels a] := by
  unfold ontoT
  rw [take_ix h, List.map_append]; rfl
theorem filt_yes {p : Int → Bool} {t : List Int} {j : Nat} (h : j < t.length) (hp : p (nth t j) = true) : (t.take (j + 1)).filter p = (t.take j).filter p ++ [nth t j] := by
  rw [List.take_succ_eq_append_getElem h, List.filter_append, nth_lt h]
  rw [nth_lt h] at hp
  simp [hp]
theorem filt_no {p : Int → Bool} {t : List Int} {j : Nat} (h : j < t.length) (hp : p (nth t j) = false) : (t.take (j + 1)).filter p = (t.take j).filter p := by
  rw [List.take_succ_eq_append_getElem h, List.filter_append]
  rw [nth_lt h] at hp
  simp [hp]
theorem OwnI.len_eq {e base : Nat} {w : World} {v : Value} {xs : List Int} (h : OwnI e base w v xs) : ∃ a cap, v = .slice a xs.length cap := by
  obtain ⟨a, cap, h1, _⟩ := h.ints.len
  exact ⟨a, cap, h1⟩
end Go.Tok
namespace Go.Proofs.YtagdccgbcmnehaaGreat
open Go.RowKit Go.Tok
set_option linter.unusedVariables false
set_option maxRecDepth 100000 in
set_option maxHeartbeats 4000000 in
theorem Onto_calls (v u : Value) (log : List (List Int)) (labels : List Int) (w : World) (hv : Rd rowK w v log) (hu : Ints w u labels) (hl : log.length ≤ 5864062014805) (hll : ∀ t ∈ log, t.length ≤ 17592186044415) :
    Calls Tryz.prog 186 #[v, u] w fun e w' => ∃ v', e = .returned v' ∧ OwnR rowK 24 w.heap.size (Fresh w.heap.size) w' v' (ontoT log labels) ∧ Gr w w' := by
  obtain ⟨a, cap, rfl, hlc, hcap⟩ := hv.len
  obtain ⟨la, lc, rfl, hl1, hl2⟩ := hu.len
  have HLL := Lib.hid hll
  clear hll
  go_enter Tryz.func186, Tryz.ntmps186
  go_wp2_with fail
  go_loopw [5, 13] (fun out i wr => ∃ k : Nat, k ≤ log.length ∧ i = .int .i64 k ∧ OwnR rowK 24 w.heap.size (Fresh w.heap.size) wr out (ontoT (log.take k) labels) ∧ Gr w wr) (fun _ i _ => log.length - (intOf i).toNat)
  case atStart => exact ⟨0, Nat.zero_le _, rfl, OwnR.nil _ _ _ _, Gr.refl _⟩
  case round =>
    rename World => wo
    obtain ⟨k, hk, rfl, hO, hgr⟩ := hrel
    by_cases hlt : k < log.length
    · have HN := Lib.hid (ontoT_succ (labels := labels) hlt)
      obtain ⟨b, o, q, rfl, c0, hIw⟩ := (hv.gr hgr).row hlt
      obtain ⟨ta, tc, rfl, htl, htc⟩ := hIw.len
      have hkI : (k : Int) < (log.length : Int) := by omega
      have hk0 : (0 : Int) ≤ (k : Int) := by omega
      have htl6 := HLL.out _ (ix_mem hlt)
      obtain ⟨t, htt⟩ : ∃ t, t = ix log k := ⟨_, rfl⟩
      rw [← htt] at c0 hIw htl htl6
      have HTT := Lib.hid htt
      obtain ⟨done, hdone⟩ : ∃ l, l = ontoT (log.take k) labels := ⟨_, rfl⟩
      rw [← hdone] at hO
      have hdl : done.length = k := by rw [hdone]; unfold ontoT; simp; omega
      have HDL := Lib.hid hdl
      have HDN := Lib.hid hdone
      obtain ⟨oa, oc, rfl, ho1, ho2⟩ := hO.len
      have hO0 := hO.sets (S' := fun b => w.heap.size ≤ b ∧ b < wo.heap.size) fun b hb hs => ⟨hs, hb⟩
      clear htt hdone hdl hO
      have hwo := hgr.le
      go_wp2_with fail
      go_loopw [8, 19] (fun x i wr => ∃ j : Nat, j ≤ t.length ∧ i = .int .i64 j ∧ OwnI 3 wo.heap.size wr x ((t.take j).filter fun a => hasB labels a) ∧ OwnR rowK 24 w.heap.size (fun b => w.heap.size ≤ b ∧ b < wo.heap.size) wr (.slice oa done.length oc) done ∧ Gr wo wr) (fun _ i _ => t.length - (intOf i).toNat)
      case atStart => exact ⟨0, Nat.zero_le _, rfl, OwnI.nil _ _ _, hO0, Gr.refl _⟩
      case round =>
        rename World => wq
        obtain ⟨j, hj, rfl, hX, hO1, hgq⟩ := hrel
        have hoB : ∀ {g : Nat}, wo.heap.size ≤ g → (Value.slice oa done.length oc).ownBlock ≠ some g := fun hg e => by
          have := (hO0.lt e).2; omega
        by_cases hjt : j < t.length
        · obtain ⟨b', o', rfl, d0⟩ := (hIw.gr hgq).cell hjt
          have hjI : (j : Int) < (t.length : Int) := by omega
          have hj0 : (0 : Int) ≤ (j : Int) := by omega
          have hxI : I64 (nth t j) := hIw.range j
          have hu2 := hu.gr (hgr.trans hgq)
          cases hb : hasB labels (nth t j)
          · have HF := Lib.hid (filt_no (p := fun a => hasB labels a) hjt hb)
            go_wp2_with fail
            refine (Contains_calls _ labels (nth t j) _ hu2).mono ?_
            rw [hb]; rintro _ _ ⟨rfl, rfl⟩
            go_wp2_with fail
            go_roundw
            case rel => exact ⟨j + 1, by omega, by go_num, by rw [HF.out]; exact hX, hO1, hgq⟩
            case measure => simp [intOf]; omega
          · have HF := Lib.hid (filt_yes (p := fun a => hasB labels a) hjt hb)
            have hfl : ((t.take j).filter fun a => hasB labels a).length ≤ j := Nat.le_trans (List.length_filter_le _ _) (by simp; omega)
            obtain ⟨xs, hxs⟩ : ∃ xs, xs = (t.take j).filter fun a => hasB labels a := ⟨_, rfl⟩
            rw [← hxs] at hX hfl
            have HXS := Lib.hid hxs
            clear hxs
            obtain ⟨xa, xc, rfl⟩ := hX.len_eq
            have hgq' := hgq.le
            go_wp2_with fail
            refine (Contains_calls _ labels (nth t j) _ hu2).mono ?_
            rw [hb]; rintro _ _ ⟨rfl, rfl⟩
            go_wp2_with (at_builtin; go_loud (refine app_int intTy _ _ wo.heap.size _ xs ⟨wq.heap.size, 0, none⟩ (nth t j) (by rfl) (by rfl) (by rfl) (by rfl) (hX.alloc _) (lit_cell rfl) hxI (by omega) (by simp; omega) ?_; intro v' w3 ho3 hgs hgb hat))
            have hO3 := (hO1.alloc (.cells #[.int .i64 (nth t j)] 3)).kept hgb (S' := fun b => w.heap.size ≤ b ∧ b < wo.heap.size) (by
              by_cases hn : (Value.slice xa xs.length xc).ownBlock = none
              · rw [hn]
                by_cases hm : (Value.slice oa done.length oc).ownBlock = none
                · exact .inl hm
                · exact .inr hm
              · obtain ⟨g, hg⟩ := Option.ne_none_iff_exists'.1 hn
                rw [hg]
                exact .inr (hoB (hX.lt hg).1)) (fun b _ hb => ⟨hb, fun e => by have := (hX.lt e.symm).1; omega⟩)
            go_roundw
            case rel => exact ⟨j + 1, by omega, by go_num, by rw [HF.out, ← HXS.out]; exact ho3, hO3, hgs wo (Nat.le_refl _) (hgq.alloc _)⟩
            case measure => simp [intOf]; omega
        · obtain rfl : j = t.length := by omega
          rw [List.take_length] at hX
          obtain ⟨xs, hxs⟩ : ∃ xs, xs = t.filter fun a => hasB labels a := ⟨_, rfl⟩
          rw [← hxs] at hX
          have HXS := Lib.hid (show ontoT (log.take (k + 1)) labels = done ++ [xs] by rw [HN.out, hxs, HTT.out, ← HDN.out])
          clear hxs
          obtain ⟨xa, xc, rfl⟩ := hX.len_eq
          have hdk := HDL.out
          have hO2 := hO1.sets (S' := Fresh w.heap.size) fun b _ hb => hb.1
          have hgq' := hgq.le
          have hon : On (fun b => Fresh w.heap.size b ∧ (Value.slice oa done.length oc).ownBlock ≠ some b) (fun w => rowK.R w [.slice xa xs.length xc] xs) (wq.alloc (.cells #[.slice xa xs.length xc] 24)) := (((Ints.on_own hX).gr ((Gr.refl _).alloc _)).imp fun w h => ⟨_, rfl, h⟩).mono fun b _ hb => ⟨by have := (hX.lt hb).1; show w.heap.size ≤ b; omega, hoB (hX.lt hb).1⟩
          have hn1 : (done.length + 1) * 24 ≤ 140737488355328 := by omega
          have hn2 : done.length + 1 ≤ maxLen := by unfold maxLen; omega
          have hGq := hgr.trans hgq
          have hle : w.heap.size ≤ (wq.alloc (.cells #[.slice xa xs.length xc] 24)).heap.size := by simp; omega
          clear hdk
          go_wp2_with (at_builtin; go_loud (refine app_one rowTy _ _ w.heap.size (Fresh w.heap.size) _ done ⟨wq.heap.size, 0, none⟩ xs [.slice xa xs.length xc] (by rfl) (by rfl) (by rfl) (by rfl) (hO2.alloc _) (one_cell _ _ _) hon hn1 hn2 hle ?_; intro v' w3 ho3 hgs hgb hat))
          go_roundw
          case rel => exact ⟨k + 1, by omega, by go_num, by rw [HXS.out]; exact ho3, hgs w (Nat.le_refl _) (hGq.alloc _)⟩
          case measure => simp [intOf]; omega
    · obtain rfl : k = log.length := by omega
      rw [List.take_length] at hO
      go_wp2_with fail
      go_ret
      exact ⟨_, rfl, hO, hgr⟩
end Go.Proofs.YtagdccgbcmnehaaGreat

namespace Go.Tok
open Go.RowKit
set_option linter.unusedVariables false
theorem on_intro {S : Nat → Prop} {p : World → Prop} {w : World} (h : ∀ w', Kp S w w' → p w') : On S p w := by unfold On; exact h
theorem nth_zero (a : Int) (l : List Int) : nth (a :: l) 0 = a := by simp [nth_def]
theorem nth_app {g : List Int} {k : Nat} (h : k < g.length) {y : Int} : nth (g ++ [y]) k = nth g k := by rw [nth_lt (by simp; omega), nth_lt h, List.getElem_append_left h]
theorem nth_succ (a : Int) (l : List Int) (i : Nat) : nth (a :: l) (i + 1) = nth l i := by simp [nth_def]
theorem Ints.all {w : World} {v : Value} {xs : List Int} (h : Ints w v xs) : ∀ x ∈ xs, I64 x := fun x hx => by
  obtain ⟨k, hk, rfl⟩ := List.getElem_of_mem hx
  have := h.range k
  rwa [nth_lt hk] at this
section
variable {P : Program} {t e : TypeId}
/-- 'append(xs, y)' at a row of one int that is full -/
theorem app_one1 (T : IntTy P t e) {w : World} {ops : Array Oper} {rest : List Oper} {o : Oper} {a : Act} {Q : Exit → Act → World → Prop} (s x : Operand)
    (ad0 : Addr) (x0 : Int) (ad : Addr) (y : Int) (hg : o.guard = none) (hop : o.op = .call { callee := .builtin .append, args := #[s, x], argTypes := #[t, t] }) (hs : a.eval s = .slice (some ad0) 1 1) (hx : a.eval x = .slice (some ad) 1 1)
    (hc0 : w.cell? ad0 = some (.int .i64 x0)) (hx0 : I64 x0) (hcell : w.cell? ad = some (.int .i64 y)) (hy : I64 y)
    (hK : ∀ g cap w', OwnI e w.heap.size w' (.slice (some ⟨g, 0, none⟩) 2 cap) [x0, y] → Gr w w' → wpList P ops Q rest (a.put o.dst (.slice (some ⟨g, 0, none⟩) 2 cap)) w') : wpList P ops Q (o :: rest) a w := by
  obtain ⟨i, hi, hz, hsz, hb⟩ := info_parts T.info
  have spot : ∀ (q : Addr) (v : Value), w.cell? q = some v → ∀ j u, [v][j]? = some u → w.cell? (q.add j) = some u := fun q v hq j u hj => by
    cases j with
    | zero =>
      simp only [List.getElem?_cons_zero, Option.some.injEq] at hj
      subst hj
      obtain ⟨b, o, sp⟩ := q
      have hsp := World.cell?_spot hq
      simp at hsp
      subst hsp
      rw [add_none]; exact hq
    | succ j => simp at hj
  refine wpList_append_grows w hg s x t hop e i _ 1 8 T.und hi hz hsz hb rfl (by omega) (some ad0) 1 1 [.int .i64 x0] hs (fun h => by cases h) (by simp) (fun b hb => by cases hb; exact spot _ _ hc0) ad 1 1 [.int .i64 y] hx rfl (spot _ _ hcell) (by simp [Value.oneCell']) (by omega) (by unfold maxLen; omega) (by omega) ?_
  intro v' w' ho hg'
  have how : OwnI e w.heap.size w' v' [x0, y] := by
    refine OwnI.mk_ (by simpa using ho) fun z hz => ?_
    rcases List.mem_cons.1 hz with rfl | hz
    · exact hx0
    · rw [List.mem_singleton.1 hz]; exact hy
  rcases how.form with ⟨_, h0⟩ | ⟨g, cap, rfl, _, _, _, _⟩
  · cases h0
  · exact hK g cap w' how ((Gr.refl w).grown hg' (fun k hk => by cases hk))
/-- a group: its first label where it stood, or a row of its own -/
def GrpI (e : TypeId) (n L : Nat) (a : Int) (w : World) (gv : Value) (g : List Int) : Prop := (gv = .slice (some ⟨L, 0, none⟩) 1 1 ∧ g = [a]) ∨ OwnI e n w gv g
/-- what an append to a group leaves: all but the group's own row -/
def Spares (n : Nat) (w w' : World) (v : Value) : Prop := ∃ row, w.grownBy w' row ∧ ∀ b, row = some b → v.ownBlock = some b ∧ n ≤ b
theorem ownI_low {n m : Nat} {w : World} {v : Value} {xs : List Int} (h : OwnI e n w v xs) (hm : m ≤ n) : OwnI e m w v xs := by
  have h2 := h.ints.all
  unfold OwnI at h
  refine OwnI.mk_ ⟨h.1.1, ?_⟩ h2
  rcases h.1.2 with h4 | ⟨g, cap, cur, h4, h5, h6⟩
  · exact .inl h4
  · exact .inr ⟨g, cap, cur, h4, Nat.le_trans hm h5, h6⟩
theorem app_grp (T : IntTy P t e) {w : World} {ops : Array Oper} {rest : List Oper} {o : Oper} {q : Act} {Q : Exit → Act → World → Prop} (s x : Operand)
    (n L : Nat) (a : Int) (gv : Value) (g : List Int) (ad : Addr) (y : Int) (hgd : o.guard = none) (hop : o.op = .call { callee := .builtin .append, args := #[s, x], argTypes := #[t, t] }) (hs : q.eval s = gv) (hx : q.eval x = .slice (some ad) 1 1)
    (hG : GrpI e n L a w gv g) (hc : w.cell? ⟨L, 0, none⟩ = some (.int .i64 a)) (ha : I64 a) (hcell : w.cell? ad = some (.int .i64 y)) (hy : I64 y) (hn : g.length + 1 ≤ 17592186044416) (hb : n ≤ w.heap.size)
    (hK : ∀ g1 cap w', OwnI e n w' (.slice (some ⟨g1, 0, none⟩) (g.length + 1) cap) (g ++ [y]) → (∀ z : World, z.heap.size ≤ n → Gr z w → Gr z w') → Spares n w w' gv → (gv.ownBlock = some g1 ∨ w.heap.size ≤ g1) → wpList P ops Q rest (q.put o.dst (.slice (some ⟨g1, 0, none⟩) (g.length + 1) cap)) w') : wpList P ops Q (o :: rest) q w := by
  rcases hG with ⟨rfl, rfl⟩ | hG
  · refine app_one1 T s x ⟨L, 0, none⟩ a ad y hgd hop hs hx hc ha hcell hy ?_
    intro g1 cap w' ho hg
    have hg1 : w.heap.size ≤ g1 := (ho.lt (show (Value.slice (some ⟨g1, 0, none⟩) 2 cap).ownBlock = some g1 from rfl)).1
    refine hK g1 cap w' (ownI_low ho hb) (fun z _ h => h.trans hg) ⟨none, ⟨hg.below.os, hg.below.tape, hg.below.output, hg.below.size, fun b hb _ => hg.below.block b hb⟩, fun b hb => by cases hb⟩ (.inr hg1)
  · refine app_int T s x n gv g ad y hgd hop hs hx hG hcell hy hn hb ?_
    intro v' w' ho hgr hgb hat
    rcases ho.form with ⟨_, h0⟩ | ⟨g1, cap, rfl, _, _, _, _⟩
    · simp at h0
    · rw [List.length_append, List.length_singleton] at ho ⊢
      refine hK g1 cap w' ho hgr ⟨_, hgb, fun b hb => ⟨hb, (hG.lt hb).1⟩⟩ ?_
      rcases hat with h | h
      · exact .inl h.symm
      · exact .inr (by have : g1 = w.heap.size := by simpa [Value.ownBlock] using h
                       omega)
theorem Spares.own {n m : Nat} {w w' : World} {v u : Value} {xs : List Int} (h : Spares n w w' v) (ho : OwnI e m w u xs) (hne : ∀ b, u.ownBlock = some b → v.ownBlock ≠ some b) : OwnI e m w' u xs := by
  obtain ⟨row, hg, hr⟩ := h
  refine ho.grown hg ?_
  cases hu : u.ownBlock with
  | none => exact .inl rfl
  | some b =>
    refine .inr fun e => ?_
    exact hne b hu (hr b e.symm).1
theorem Spares.out {n base : Nat} {e' : TypeId} {w w' : World} {v u : Value} {xs : List (List Int)} (h : Spares n w w' v) (ho : OwnR rowK e' base (fun b => base ≤ b ∧ b < n) w u xs) (hu : ∀ b, u.ownBlock = some b → b < n) : OwnR rowK e' base (fun b => base ≤ b ∧ b < n) w' u xs := by
  obtain ⟨row, hg, hr⟩ := h
  refine ho.kept hg ?_ fun b _ hs => ⟨hs, fun e => ?_⟩
  · cases hu' : u.ownBlock with
    | none => exact .inl rfl
    | some b =>
      refine .inr fun e => ?_
      have := (hr b e.symm).2
      have := hu b hu'
      omega
  · have := (hr b e.symm).2
    omega
theorem Spares.grp {n m L : Nat} {a : Int} {w w' : World} {v u : Value} {xs : List Int} (h : Spares n w w' v) (ho : GrpI e m L a w u xs) (hne : ∀ b, v.ownBlock = some b → u.ownBlock ≠ some b) : GrpI e m L a w' u xs :=
  ho.imp id fun h2 => h.own h2 fun b hb hv => hne b hv hb
theorem GrpI.ints {n L : Nat} {a : Int} {w : World} {gv : Value} {g : List Int} (h : GrpI e n L a w gv g) (hc : w.cell? ⟨L, 0, none⟩ = some (.int .i64 a)) (ha : I64 a) : Ints w gv g := by
  rcases h with ⟨rfl, rfl⟩ | h
  · refine Ints.intro rfl (Nat.le_refl _) (by unfold maxLen; omega) (fun x hx => by rw [List.mem_singleton.1 hx]; exact ha) (fun h => by cases h) fun i hi => ⟨L, 0, rfl, ?_⟩
    have : i = 0 := by simp at hi; omega
    subst this
    rw [nth_zero]; exact hc
  · exact h.ints
theorem GrpI.gr {n L : Nat} {a : Int} {w w' : World} {gv : Value} {g : List Int} (h : GrpI e n L a w gv g) (k : Gr w w') : GrpI e n L a w' gv g := h.imp id fun h => h.gr k
end
end Go.Tok
namespace Go.Proofs.YtagdccgbcmnehaaGreat
open Go.RowKit Go.Tok Go.Sort
set_option linter.unusedVariables false
/-- the function answers lk at two labels, in w and in every later world -/
def Asks2 (gf : Nat) (bd cb : Array Value) (lk : Int → Int → Bool) (w : World) : Prop :=
  ∀ (W : World) (x y : Int), I64 x → I64 y → Gr w W → Calls Tryz.prog gf (bd ++ (#[.int .i64 x, .int .i64 y] ++ cb)) W fun e w' => e = .returned (.bool (lk x y)) ∧ Gr W w'
theorem Sort1_calls (b o cap : Nat) (x : Int) (w : World) (hc : w.cell? ⟨b, o, none⟩ = some (.int .i64 x)) (hf : w.frozen? ⟨b, o, none⟩ = false) :
    Calls Tryz.prog 22 #[.slice (some ⟨b, o, none⟩) 1 cap] w fun e w' => e = .returned (.tuple #[]) ∧ Gr w w' := by
  have hH : Holds (Value.int .i64) w b o [x].toArray := by
    intro j hj
    have : j = 0 := by simp at hj; omega
    subst this
    exact ⟨by simpa using hc, by simpa using hf⟩
  refine (Tryz.slices_Sort_int b o cap [x] w hH (cell_block hc) (by simp)).mono ?_
  rintro _ w' ⟨rfl, n, os, rfl⟩
  refine ⟨rfl, ?_⟩
  have e1 : ([x].mergeSort fun x y => decide (x ≤ y)) = [x] := by simp
  rw [e1, putRow_self (Value.int .i64) (Sort.ahead w n) b o [x].toArray (holds_ahead (Value.int .i64) w n b o _ hH)]
  unfold Gr
  refine ⟨rfl, rfl, rfl, by show w.heap.size ≤ (w.heap ++ os).size; rw [Array.size_append]; omega, fun k hk => ?_⟩
  exact heap_grow_old (Sort.ahead w n) os hk
set_option maxRecDepth 100000 in
set_option maxHeartbeats 4000000 in
theorem groups_calls (v : Value) (labels : List Int) (lk : Int → Int → Bool) (gf : Nat) (bd cb : Array Value) (w : World) (hv : Ints w v labels) (hl : labels.length ≤ 1000) (eg : ∀ args w, (callFunc gf args).run Tryz.prog w = .ok (.enter gf args) w) (hk : Asks2 gf bd cb lk w) :
    Calls Tryz.prog 152 #[v, .func (.func gf) bd cb] w fun e w' => ∃ v', e = .returned v' ∧ OwnR rowK 24 w.heap.size (Fresh w.heap.size) w' v' (groupsF lk labels.length labels) ∧ Gr w w' := by
  obtain ⟨base, hbase⟩ : ∃ b, b = w.heap.size := ⟨_, rfl⟩
  have HBASE := Lib.hid hbase
  have HK := Lib.hid hk
  have hC := Lib.hid (Clone_calls v labels w hv (by omega))
  rw [← hbase] at hC ⊢
  obtain ⟨a0, c0, rfl, hl0, hc0⟩ := hv.len
  clear hk hv hbase
  go_enter Tryz.func152, Tryz.ntmps152
  go_wp2_with fail
  refine hC.out.mono ?_
  rintro _ w1 ⟨v1, rfl, o1, g1⟩
  obtain ⟨a1, c1, rfl⟩ := o1.len_eq
  have O1 := Lib.hid o1
  clear o1
  go_wp2_with fail
  go_loopw [5, 6] (fun out lf wr => ∃ (n : Nat) (l : List Int) (done : List (List Int)), OwnI 3 base wr lf l ∧ OwnR rowK 24 base (fun b => base ≤ b ∧ lf.ownBlock ≠ some b) wr out done ∧ Hid (∀ b, lf.ownBlock = some b → out.ownBlock ≠ some b) ∧ Gr w wr ∧ l.length ≤ n ∧ done.length + l.length ≤ 1000 ∧ Hid (groupsF lk labels.length labels = done ++ groupsF lk n l)) (fun out lf _ => match lf with | .slice _ n _ => n | _ => 0)
  case atStart => exact ⟨labels.length, labels, [], O1.out, OwnR.nil _ _ _ _, Lib.hid (fun b _ h => (by cases h)), g1, Nat.le_refl _, by simpa using hl, Lib.hid (by simp)⟩
  case round =>
    rename World => wo
    obtain ⟨n, l, done, hL, hO, HLO, hgr, hln, hdl, HG⟩ := hrel
    obtain ⟨la, lc, rfl⟩ := hL.len_eq
    obtain ⟨oa, oc, rfl, ho1, ho2⟩ := hO.len
    cases l with
    | nil =>
      go_wp2_with fail
      go_ret
      refine ⟨_, rfl, ?_, hgr⟩
      have : groupsF lk n [] = [] := by cases n <;> rfl
      rw [HG.out, this, List.append_nil]
      exact hO.sets fun b _ h => h.1
    | cons a l =>
      obtain ⟨L, rfl, hLb, hLlt, hLc⟩ : ∃ L, la = some ⟨L, 0, none⟩ ∧ base ≤ L ∧ L < wo.heap.size ∧ l.length + 1 ≤ lc := by
        rcases hL.form with ⟨h1, h2⟩ | ⟨g, cap, h1, h2, h3, h4, _⟩
        · cases h2
        · cases h1; exact ⟨g, rfl, h2, h3, by simpa using h4⟩
      have hLm : lc ≤ 9223372036854775807 := by
        obtain ⟨_, _, h1, _, h2⟩ := hL.ints.len
        cases h1; exact h2
      have aI : I64 a := hL.ints.all a (by simp)
      have ca := hL.cell (i := 0) (by simp)
      have fa := hL.frozen 0
      have ca' : wo.cell? ⟨L, 0, none⟩ = some (.int .i64 a) := by rw [ca, nth_zero]
      obtain ⟨n, rfl⟩ : ∃ q, n = q + 1 := ⟨n - 1, by simp at hln; omega⟩
      have hlI : ∀ x ∈ l, I64 x := fun x hx => hL.ints.all x (List.mem_cons_of_mem _ hx)
      have hrest : Ints wo (.slice (some (if lc = 1 then ⟨L, 0, none⟩ else ⟨L, 1, none⟩)) l.length (lc - 1)) l := by
        refine Ints.intro rfl (by omega) (by unfold maxLen; omega) hlI (fun h => by cases h) fun i hi => ?_
        have hne : ¬ lc = 1 := by omega
        rw [if_neg hne]
        refine ⟨L, 1, rfl, ?_⟩
        have := hL.cell (i := i + 1) (by simp; omega)
        rw [show 1 + i = i + 1 by omega, this, nth_succ]
      have hsl := fun W => run_slice1 (b := L) (o := 0) (n := l.length) (cap := lc) hLc hLm W
      obtain ⟨ll, hll⟩ : ∃ x, x = (a :: l).length := ⟨_, rfl⟩
      have hll2 : l.length + 1 = ll := by rw [hll]; rfl
      have HLN := Lib.hid hll2
      have hlz : (0 : Int) < (ll : Int) := by omega
      have hlz2 : 0 < ll := by omega
      have hlz3 : decide (0 < ll) = true := by simpa using hlz2
      have hlc1 : (1 : Int) ≤ (lc : Int) := by omega
      rw [hll2] at hsl
      rw [← hll] at hL ⊢
      have hdl : done.length + (l.length + 1) ≤ 1000 := hdl
      have hln : l.length + 1 ≤ n + 1 := hln
      clear hll hll2 hLc
      generalize hA : (if lc = 1 then (⟨L, 0, none⟩ : Addr) else ⟨L, 1, none⟩) = A at hrest hsl
      clear hA ca
      have hO0 := hO.sets (S' := fun b => base ≤ b ∧ b < wo.heap.size) fun b hb hs => ⟨hs.1, hb⟩
      have HOB : Hid (∀ b, (Value.slice oa done.length oc).ownBlock = some b → b < wo.heap.size) := Lib.hid fun b hb => (hO.lt hb).2
      have HLI := Lib.hid hL
      have HREST := Lib.hid hrest
      clear hL hO hrest
      go_wp2_with fail
      go_loopw [6, 7, 8] (fun lf gv kv wr => ∃ (k m : Nat) (g l' : List Int), kv = .int .i64 k ∧ 0 < g.length ∧ k ≤ g.length ∧ g.length + l'.length = l.length + 1 ∧ l.length + 1 ≤ m + k ∧ Gr wo wr ∧ OwnR rowK 24 base (fun b => base ≤ b ∧ b < wo.heap.size) wr (.slice oa done.length oc) done ∧ Hid (GrpI 3 wo.heap.size L a wr gv g) ∧ Hid ((k = 0 ∧ lf = .slice (some A) l.length (lc - 1) ∧ l' = l) ∨ (0 < k ∧ OwnI 3 wo.heap.size wr lf l' ∧ ∀ b, lf.ownBlock = some b → gv.ownBlock ≠ some b)) ∧ Hid (groupF lk (l.length + 1) [a] 0 l = groupF lk m g k l')) (fun lf gv kv _ => l.length + 1 - (intOf kv).toNat)
      case atStart => exact ⟨0, l.length + 1, [a], l, rfl, by simp, by simp, by simp; omega, by omega, Gr.refl _, hO0, Lib.hid (.inl ⟨rfl, rfl⟩), Lib.hid (.inl ⟨rfl, rfl, rfl⟩), Lib.hid rfl⟩
      case round =>
        rename World => wk
        obtain ⟨k, m, g, l', rfl, hg0, hkg, hgl, hmk, hgk, hOk, HGP, HLF, HF⟩ := hrel
        have cL := cell_gr ca' hgk
        have hGI := HGP.out.ints cL aI
        obtain ⟨ga, gc, rfl, hgc1, hgc2⟩ := hGI.len
        have hLI : Ints wk _ l' := HLF.out.elim (fun h => by rw [h.2.1, h.2.2]; exact HREST.out.gr hgk) (fun h => h.2.1.ints)
        obtain ⟨fa', fc, rfl, hfc1, hfc2⟩ := hLI.len
        by_cases hkl : k < g.length
        · have hkz : (k : Int) < (g.length : Int) := by omega
          have hk0 : (0 : Int) ≤ (k : Int) := by omega
          obtain ⟨m, rfl⟩ : ∃ q, m = q + 1 := ⟨m - 1, by omega⟩
          obtain ⟨x, hx⟩ : ∃ x, x = nth g k := ⟨_, rfl⟩
          have xI : I64 x := by rw [hx]; exact hGI.range k
          have HX := Lib.hid hx
          have HLK : Hid ((Value.slice fa' l'.length fc = .slice (some A) l.length (lc - 1) ∧ l' = l) ∨ (OwnI 3 wo.heap.size wk (.slice fa' l'.length fc) l' ∧ ∀ b, (Value.slice fa' l'.length fc).ownBlock = some b → (Value.slice ga g.length gc).ownBlock ≠ some b)) := Lib.hid (HLF.out.imp (fun h => h.2) fun h => h.2)
          have hLl : ∀ y ∈ l', I64 y := hLI.all
          have HLL := Lib.hid hLl
          clear hx hLI hGI hLl HLF
          go_wp2_with fail
          go_loopw [7, 9, 29] (fun gv rv iv wr => ∃ (i : Nat) (g' r : List Int), iv = .int .i64 i ∧ i ≤ l'.length ∧ g'.length + r.length = g.length + i ∧ k < g'.length ∧ Gr wo wr ∧ OwnR rowK 24 base (fun b => base ≤ b ∧ b < wo.heap.size) wr (.slice oa done.length oc) done ∧ Hid (GrpI 3 wo.heap.size L a wr gv g') ∧ OwnI 3 wo.heap.size wr rv r ∧
            Hid ((∀ b, rv.ownBlock = some b → gv.ownBlock ≠ some b) ∧ ((Value.slice fa' l'.length fc = .slice (some A) l.length (lc - 1) ∧ l' = l) ∨ (OwnI 3 wo.heap.size wr (.slice fa' l'.length fc) l' ∧ ∀ b, (Value.slice fa' l'.length fc).ownBlock = some b → gv.ownBlock ≠ some b ∧ rv.ownBlock ≠ some b))) ∧
            Hid (nth g' k = x ∧ g' = g ++ (l'.take i).filter (fun b => lk2 lk x b) ∧ r = (l'.take i).filter fun b => !lk2 lk x b)) (fun gv rv iv _ => l'.length - (intOf iv).toNat)
          case atStart => exact ⟨0, g, [], rfl, Nat.zero_le _, by simp, hkl, hgk, hOk, HGP, OwnI.nil _ _ _, Lib.hid ⟨fun b h => (by cases h), HLK.out.imp id fun h => ⟨h.1, fun b hb => ⟨h.2 b hb, fun h => (by cases h)⟩⟩⟩, Lib.hid ⟨HX.out.symm, by simp, by simp⟩⟩
          case round =>
            rename World => wr
            obtain ⟨i, g', r, rfl, hi, hgr', hkg', hgw, hOw, HG', hR, HAP, HFI⟩ := hrel
            clear HLK HGP hOk
            have cLr := cell_gr ca' hgw
            have hGI := HG'.out.ints cLr aI
            obtain ⟨ga', gc', rfl, hgc1', hgc2'⟩ := hGI.len
            have hLI : Ints wr (.slice fa' l'.length fc) l' := HAP.out.2.elim (fun h => by rw [h.1, h.2]; exact HREST.out.gr hgw) (fun h => h.1.ints)
            by_cases hil : i < l'.length
            · obtain ⟨fb, fo, rfl, d0⟩ := hLI.cell hil
              obtain ⟨gb, go, hga, e0⟩ := hGI.cell hkg'
              rw [HFI.out.1] at e0
              subst hga
              have hiz : (i : Int) < (l'.length : Int) := by omega
              have hi0 : (0 : Int) ≤ (i : Int) := by omega
              have hkz' : (k : Int) < (g'.length : Int) := by omega
              obtain ⟨y, hy⟩ : ∃ y, y = nth l' i := ⟨_, rfl⟩
              have yI : I64 y := by rw [hy]; exact hLI.range i
              rw [← hy] at d0
              have HY := Lib.hid hy
              have k1 := fun W (g : Gr wr W) => HK.out W x y xI yI ((hgr.trans hgw).trans g)
              have k2 := fun W (g : Gr wr W) => HK.out W y x yI xI ((hgr.trans hgw).trans g)
              clear hy hLI hGI
              cases h1 : lk x y with
              | true =>
                rw [h1] at k1
                have hyes : lk2 lk x y = true := by unfold lk2; rw [h1]; rfl
                go_wp2_with fail
                refine (k1 wr (Gr.refl _)).mono ?_
                rintro _ w3 ⟨rfl, g3⟩
                have hGa := HG'.out.gr (g3.alloc (.cells #[.int .i64 y] 3))
                have hRa := hR.gr (g3.alloc (.cells #[.int .i64 y] 3))
                have cLa := cell_gr cLr (g3.alloc (.cells #[.int .i64 y] 3))
                have hOa := hOw.gr (g3.alloc (.cells #[.int .i64 y] 3))
                have GW := hgw.trans (g3.alloc (.cells #[.int .i64 y] 3))
                have hlen' : g'.length + 1 ≤ 17592186044416 := by omega
                have hbs : wo.heap.size ≤ (w3.alloc (.cells #[.int .i64 y] 3)).heap.size := GW.le
                have HFI2 : Hid (nth (g' ++ [y]) k = x ∧ g' ++ [y] = g ++ (l'.take (i + 1)).filter (fun b => lk2 lk x b) ∧ r = (l'.take (i + 1)).filter fun b => !lk2 lk x b) := Lib.hid ⟨by rw [nth_app hkg']; exact HFI.out.1, by rw [filt_yes (p := fun b => lk2 lk x b) hil (by rw [← HY.out]; exact hyes), ← List.append_assoc, ← HFI.out.2.1, ← HY.out], by rw [filt_no (p := fun b => !lk2 lk x b) hil (by rw [← HY.out, hyes]; rfl)]; exact HFI.out.2.2⟩
                go_wp2_with (at_builtin; go_loud (refine app_grp intTy _ _ wo.heap.size L a _ g' ⟨w3.heap.size, 0, none⟩ y (by rfl) (by rfl) (by rfl) (by rfl) hGa cLa aI (lit_cell rfl) yI hlen' hbs ?_; intro g1' cap' w9 ho9 hgs9 hsp9 hat9))
                go_roundw
                case rel =>
                  have hap := HAP.out
                  have hlt9 := hbs
                  refine ⟨i + 1, g' ++ [y], r, by go_num, by omega, by simp; omega, by simp; omega, hgs9 wo (Nat.le_refl _) GW, hsp9.out hOa HOB.out, Lib.hid (.inr ho9), hsp9.own hRa hap.1, Lib.hid ⟨fun b hb e => ?_, hap.2.imp id fun h => ⟨hsp9.own (h.1.gr (g3.alloc (.cells #[.int .i64 y] 3))) (fun b hb => (h.2 b hb).1), fun b hb => ⟨fun e => ?_, (h.2 b hb).2⟩⟩⟩, HFI2⟩
                  · obtain rfl : g1' = b := by cases e; rfl
                    rcases hat9 with h | h
                    · exact hap.1 _ hb h
                    · have := (hRa.lt hb).2; omega
                  · obtain rfl : g1' = b := by cases e; rfl
                    rcases hat9 with h3 | h3
                    · exact (h.2 _ hb).1 h3
                    · have := ((h.1.gr (g3.alloc (.cells #[.int .i64 y] 3))).lt hb).2; omega
                case measure => simp [intOf]; omega

              | false =>
                rw [h1] at k1
                cases h2 : lk y x with
                | true =>
                  rw [h2] at k2
                  have hyes : lk2 lk x y = true := by unfold lk2; rw [h1, h2]; rfl
                  go_wp2_with fail
                  refine (k1 wr (Gr.refl _)).mono ?_
                  rintro _ w2 ⟨rfl, g2⟩
                  have e2 := cell_gr e0 g2
                  go_wp2_with fail
                  refine (k2 w2 g2).mono ?_
                  rintro _ w3 ⟨rfl, g3'⟩
                  have g3 := g2.trans g3'
                  have hGa := HG'.out.gr (g3.alloc (.cells #[.int .i64 y] 3))
                  have hRa := hR.gr (g3.alloc (.cells #[.int .i64 y] 3))
                  have cLa := cell_gr cLr (g3.alloc (.cells #[.int .i64 y] 3))
                  have hOa := hOw.gr (g3.alloc (.cells #[.int .i64 y] 3))
                  have GW := hgw.trans (g3.alloc (.cells #[.int .i64 y] 3))
                  have hlen' : g'.length + 1 ≤ 17592186044416 := by omega
                  have hbs : wo.heap.size ≤ (w3.alloc (.cells #[.int .i64 y] 3)).heap.size := GW.le
                  have HFI2 : Hid (nth (g' ++ [y]) k = x ∧ g' ++ [y] = g ++ (l'.take (i + 1)).filter (fun b => lk2 lk x b) ∧ r = (l'.take (i + 1)).filter fun b => !lk2 lk x b) := Lib.hid ⟨by rw [nth_app hkg']; exact HFI.out.1, by rw [filt_yes (p := fun b => lk2 lk x b) hil (by rw [← HY.out]; exact hyes), ← List.append_assoc, ← HFI.out.2.1, ← HY.out], by rw [filt_no (p := fun b => !lk2 lk x b) hil (by rw [← HY.out, hyes]; rfl)]; exact HFI.out.2.2⟩
                  go_wp2_with (at_builtin; go_loud (refine app_grp intTy _ _ wo.heap.size L a _ g' ⟨w3.heap.size, 0, none⟩ y (by rfl) (by rfl) (by rfl) (by rfl) hGa cLa aI (lit_cell rfl) yI hlen' hbs ?_; intro g1' cap' w9 ho9 hgs9 hsp9 hat9))
                  go_roundw
                  case rel =>
                    have hap := HAP.out
                    have hlt9 := hbs
                    refine ⟨i + 1, g' ++ [y], r, by go_num, by omega, by simp; omega, by simp; omega, hgs9 wo (Nat.le_refl _) GW, hsp9.out hOa HOB.out, Lib.hid (.inr ho9), hsp9.own hRa hap.1, Lib.hid ⟨fun b hb e => ?_, hap.2.imp id fun h => ⟨hsp9.own (h.1.gr (g3.alloc (.cells #[.int .i64 y] 3))) (fun b hb => (h.2 b hb).1), fun b hb => ⟨fun e => ?_, (h.2 b hb).2⟩⟩⟩, HFI2⟩
                    · obtain rfl : g1' = b := by cases e; rfl
                      rcases hat9 with h | h
                      · exact hap.1 _ hb h
                      · have := (hRa.lt hb).2; omega
                    · obtain rfl : g1' = b := by cases e; rfl
                      rcases hat9 with h3 | h3
                      · exact (h.2 _ hb).1 h3
                      · have := ((h.1.gr (g3.alloc (.cells #[.int .i64 y] 3))).lt hb).2; omega
                  case measure => simp [intOf]; omega

                | false =>
                  rw [h2] at k2
                  go_wp2_with fail
                  refine (k1 wr (Gr.refl _)).mono ?_
                  rintro _ w2 ⟨rfl, g2⟩
                  have e2 := cell_gr e0 g2
                  go_wp2_with fail
                  refine (k2 w2 g2).mono ?_
                  rintro _ w3 ⟨rfl, g3'⟩
                  have g3 := g2.trans g3'
                  have hGa := HG'.out.gr (g3.alloc (.cells #[.int .i64 y] 3))
                  have hRa := hR.gr (g3.alloc (.cells #[.int .i64 y] 3))
                  have hOa := hOw.gr (g3.alloc (.cells #[.int .i64 y] 3))
                  have GW := hgw.trans (g3.alloc (.cells #[.int .i64 y] 3))
                  have hno : lk2 lk x y = false := by unfold lk2; rw [h1, h2]; rfl
                  have hlen' : r.length + 1 ≤ 17592186044416 := by omega
                  have hbs : wo.heap.size ≤ (w3.alloc (.cells #[.int .i64 y] 3)).heap.size := GW.le
                  have HFI2 : Hid (nth g' k = x ∧ g' = g ++ (l'.take (i + 1)).filter (fun b => lk2 lk x b) ∧ r ++ [y] = (l'.take (i + 1)).filter fun b => !lk2 lk x b) := Lib.hid ⟨HFI.out.1, by rw [filt_no (p := fun b => lk2 lk x b) hil (by rw [← HY.out]; exact hno)]; exact HFI.out.2.1, by rw [filt_yes (p := fun b => !lk2 lk x b) hil (by rw [← HY.out, hno]; rfl), ← HFI.out.2.2, ← HY.out]⟩
                  obtain ⟨ra, rc, rfl⟩ := hR.len_eq
                  go_wp2_with (at_builtin; go_loud (refine app_int intTy _ _ wo.heap.size _ r ⟨w3.heap.size, 0, none⟩ y (by rfl) (by rfl) (by rfl) (by rfl) hRa (lit_cell rfl) yI hlen' hbs ?_; intro v9 w9 ho9 hgs9 hgb9 hat9))
                  have hsp9 : Spares wo.heap.size (w3.alloc (.cells #[.int .i64 y] 3)) w9 (.slice ra r.length rc) := ⟨_, hgb9, fun b hb => ⟨hb, (hRa.lt hb).1⟩⟩
                  go_roundw
                  case rel =>
                    have hap := HAP.out
                    refine ⟨i + 1, g', r ++ [y], by go_num, by omega, by simp; omega, hkg', hgs9 wo (Nat.le_refl _) GW, hsp9.out hOa HOB.out, Lib.hid (hsp9.grp hGa hap.1), ho9, Lib.hid ⟨fun b hb e => ?_, hap.2.imp id fun h => ⟨hsp9.own (h.1.gr (g3.alloc (.cells #[.int .i64 y] 3))) (fun b hb => (h.2 b hb).2), fun b hb => ⟨(h.2 b hb).1, fun e => ?_⟩⟩⟩, HFI2⟩
                    · rcases hat9 with h | h
                      · exact hap.1 b (by rw [← h]; exact hb) e
                      · have e2 : b = (w3.alloc (.cells #[.int .i64 y] 3)).heap.size := by rw [h] at hb; exact (Option.some.inj hb).symm
                        rcases hGa with ⟨hq, _⟩ | hq
                        · rw [hq] at e
                          have : L = b := by cases e; rfl
                          omega
                        · have := (hq.lt e).2; omega
                    · rcases hat9 with h3 | h3
                      · exact (h.2 b hb).2 (by rw [← h3]; exact e)
                      · have e2 : b = (w3.alloc (.cells #[.int .i64 y] 3)).heap.size := by rw [h3] at e; exact (Option.some.inj e).symm
                        have := ((h.1.gr (g3.alloc (.cells #[.int .i64 y] 3))).lt hb).2; omega
                  case measure => simp [intOf]; omega

            · obtain rfl : i = l'.length := by omega
              have hnz : ¬ (l'.length : Int) < (l'.length : Int) := by omega
              have HN : Hid (groupF lk (l.length + 1) [a] 0 l = groupF lk m g' (k + 1) r) := Lib.hid (by
                rw [HF.out]
                have h1 := HFI.out.2.1
                have h2 := HFI.out.2.2
                rw [List.take_length] at h1 h2
                rw [h1, h2]
                show (if k < g.length then _ else _) = _
                rw [if_pos hkl, ← HX.out])
              obtain ⟨ra, rc, rfl⟩ := hR.len_eq
              clear hLI hGI
              go_wp2_with fail
              go_roundw
              case rel => exact ⟨k + 1, m, g', r, by go_num, by omega, by omega, by omega, by omega, hgw, hOw, HG', Lib.hid (.inr ⟨by omega, hR, HAP.out.1⟩), HN⟩
              case measure => simp [intOf]; omega
        · have hkz : ¬ (k : Int) < (g.length : Int) := by omega
          have hke : k = g.length := by omega
          obtain ⟨hk0', hLo, hLap⟩ : 0 < k ∧ OwnI 3 wo.heap.size wk (.slice fa' l'.length fc) l' ∧ ∀ b, (Value.slice fa' l'.length fc).ownBlock = some b → (Value.slice ga g.length gc).ownBlock ≠ some b := by
            rcases HLF.out with h | h
            · have := h.1; omega
            · exact h
          have HN : Hid (groupsF lk labels.length labels = done ++ [isI g] ++ groupsF lk n l') := Lib.hid (by
            rw [HG.out]
            have e1 : groupF lk (l.length + 1) [a] 0 l = (g, l') := by
              rw [HF.out]
              cases m with
              | zero => rfl
              | succ m => show (if k < g.length then _ else _) = _; rw [if_neg hkl]
            show done ++ (isI (groupF lk (l.length + 1) [a] 0 l).1 :: groupsF lk n (groupF lk (l.length + 1) [a] 0 l).2) = _
            rw [e1, List.append_assoc]; rfl)
          have hn1 : (done.length + 1) * 24 ≤ 140737488355328 := by omega
          have hn2 : done.length + 1 ≤ maxLen := by unfold maxLen; omega
          have hwk := hgk.le
          have hbw : base ≤ wk.heap.size := by omega
          have hm9 : l'.length < ll := by have := HLN.out; omega
          have hd9 : done.length + 1 + l'.length ≤ 1000 := by omega
          have hl9 : l'.length ≤ n := by omega
          clear hLI HLF HF
          have hLb' : ∀ b, (Value.slice fa' l'.length fc).ownBlock = some b → wo.heap.size ≤ b ∧ b < wk.heap.size := fun b hb => hLo.lt hb
          have HLB := Lib.hid hLb'
          have HKE := Lib.hid hke
          clear hke hkg hmk hLb'
          rcases HGP.out with ⟨hgv, hga⟩ | hGo
          · -- the group is its first label
            subst hga
            cases hgv
            have fL := (HLI.out.gr hgk).frozen 0
            have hone : isI [a] = [a] := rfl
            rw [hone] at HN
            go_wp2_with fail
            refine (Sort1_calls L 0 1 a _ cL fL).mono ?_
            rintro _ w5 ⟨rfl, g5⟩
            have hOk5 := (hOk.gr g5).sets (S' := fun b => base ≤ b ∧ (Value.slice fa' l'.length fc).ownBlock ≠ some b) fun b _ hs => ⟨hs.1, fun e => by have := (HLB.out b e).1; omega⟩
            have c5 := cell_gr cL g5
            have g5' : wk.heap.size ≤ w5.heap.size ∧ True := ⟨g5.le, trivial⟩
            have hL5 := hLo.gr g5
            have hle : base ≤ (w5.alloc (.cells #[.slice (some ⟨L, 0, none⟩) 1 1] 24)).heap.size := by have := g5.le; simp; omega
            have hon : On (fun b => (base ≤ b ∧ (Value.slice fa' l'.length fc).ownBlock ≠ some b) ∧ (Value.slice oa done.length oc).ownBlock ≠ some b) (fun w => rowK.R w [.slice (some ⟨L, 0, none⟩) 1 1] [a]) (w5.alloc (.cells #[.slice (some ⟨L, 0, none⟩) 1 1] 24)) := on_intro fun w' kp => ⟨_, rfl, GrpI.ints (e := 3) (n := 0) (L := L) (a := a) (.inl ⟨rfl, rfl⟩) (cell_kp kp (cell_gr c5 ((Gr.refl _).alloc _)) ⟨⟨hLb, fun e => by have := (HLB.out L e).1; omega⟩, HLO.out L rfl⟩) aI⟩
            have hl5a := hL5.gr ((Gr.refl _).alloc (.cells #[.slice (some ⟨L, 0, none⟩) 1 1] 24))
            have G5 := (hgr.trans (hgk.trans g5)).alloc (.cells #[.slice (some ⟨L, 0, none⟩) 1 1] 24)
            go_wp2_with (at_builtin; go_loud (refine app_one rowTy _ _ base (fun b => base ≤ b ∧ (Value.slice fa' l'.length fc).ownBlock ≠ some b) _ done ⟨w5.heap.size, 0, none⟩ [a] [.slice (some ⟨L, 0, none⟩) 1 1] (by rfl) (by rfl) (by rfl) (by rfl) (hOk5.alloc _) (one_cell _ _ _) hon hn1 hn2 hle ?_; intro v6 w6 ho6 hgs6 hgb6 hat6))
            go_roundw
            case rel =>
              refine ⟨n, l', done ++ [[a]], ownI_low (hl5a.grown hgb6 ?_) (by omega), ho6, Lib.hid fun b hb e => ?_, hgs6 w (by rw [← HBASE.out]; exact Nat.le_refl _) G5, hl9, by simp; omega, HN⟩
              · cases hq : (Value.slice fa' l'.length fc).ownBlock with
                | none => exact .inl rfl
                | some b =>
                  refine .inr fun e => ?_
                  have e1 := (HLB.out b hq).1
                  have e2 := HOB.out b e.symm
                  omega
              · have e1 := HLB.out b hb
                rcases hat6 with h | h
                · have e2 := HOB.out b (by rw [← h]; exact e)
                  omega
                · have e2 : b = (w5.alloc (.cells #[.slice (some ⟨L, 0, none⟩) 1 1] 24)).heap.size := by rw [h] at e; exact (Option.some.inj e).symm
                  have e3 := g5.le
                  simp at e2
                  omega
            case measure => exact hm9
          · have hgn : g ≠ [] := fun e => by rw [e] at hg0; simp at hg0
            obtain ⟨g1, rfl, hg1, hg1w⟩ : ∃ g1, ga = some ⟨g1, 0, none⟩ ∧ wo.heap.size ≤ g1 ∧ g1 < wk.heap.size := by
              rcases hGo.form with ⟨_, h2⟩ | ⟨g1, cap, h1, h2, h3, _⟩
              · exact absurd h2 hgn
              · cases h1; exact ⟨g1, rfl, h2, h3⟩
            have hgl' : g.length < 4611686018427387904 := by omega
            clear HGP
            go_wp2_with fail
            refine (Sort_calls g1 gc _ g _ hGo hgl').mono ?_
            rintro _ w5 ⟨rfl, hS5, hgb5⟩
            rw [sortI_isI] at hS5
            have hsp5 : Spares wo.heap.size wk w5 (.slice (some ⟨g1, 0, none⟩) g.length gc) := ⟨_, hgb5, fun b hb => ⟨hb, by cases hb; exact hg1⟩⟩
            have g5' : wk.heap.size ≤ w5.heap.size := hgb5.size
            have hOk5 := (hsp5.out hOk HOB.out).sets (S' := fun b => base ≤ b ∧ (Value.slice fa' l'.length fc).ownBlock ≠ some b) fun b _ hs => ⟨hs.1, fun e => by have := (HLB.out b e).1; omega⟩
            have hL5 := hsp5.own hLo hLap
            have hg5 : Gr wo w5 := hgk.grown hgb5 (fun b hb => by cases hb; exact hg1)
            have hisl : (isI g).length = g.length := (isI_perm g).length_eq
            have HISL := Lib.hid hisl
            have hS5' : OwnI 3 wo.heap.size w5 (.slice (some ⟨g1, 0, none⟩) g.length gc) (isI g) := hS5
            clear hisl hS5
            have hle : base ≤ (w5.alloc (.cells #[.slice (some ⟨g1, 0, none⟩) g.length gc] 24)).heap.size := by have := (Lib.hid g5').out; simp; omega
            have hon0 := ((Ints.on_own hS5').gr ((Gr.refl _).alloc (.cells #[.slice (some ⟨g1, 0, none⟩) g.length gc] 24))).mono (S' := fun b => (base ≤ b ∧ (Value.slice fa' l'.length fc).ownBlock ≠ some b) ∧ (Value.slice oa done.length oc).ownBlock ≠ some b) fun b _ hb => by
              have e1 : g1 = b := by cases hb; rfl
              subst e1
              refine ⟨⟨by omega, fun e => hLap _ e rfl⟩, fun e => ?_⟩
              have := HOB.out _ e
              omega
            have hon : On (fun b => (base ≤ b ∧ (Value.slice fa' l'.length fc).ownBlock ≠ some b) ∧ (Value.slice oa done.length oc).ownBlock ≠ some b) (fun w => rowK.R w [.slice (some ⟨g1, 0, none⟩) g.length gc] (isI g)) (w5.alloc (.cells #[.slice (some ⟨g1, 0, none⟩) g.length gc] 24)) := hon0.imp fun w h => ⟨_, rfl, h⟩
            have hl5a := hL5.gr ((Gr.refl _).alloc (.cells #[.slice (some ⟨g1, 0, none⟩) g.length gc] 24))
            have G5 := (hgr.trans (hg5)).alloc (.cells #[.slice (some ⟨g1, 0, none⟩) g.length gc] 24)
            go_wp2_with (at_builtin; go_loud (refine app_one rowTy _ _ base (fun b => base ≤ b ∧ (Value.slice fa' l'.length fc).ownBlock ≠ some b) _ done ⟨w5.heap.size, 0, none⟩ (isI g) [.slice (some ⟨g1, 0, none⟩) g.length gc] (by rfl) (by rfl) (by rfl) (by rfl) (hOk5.alloc _) (one_cell _ _ _) hon hn1 hn2 hle ?_; intro v6 w6 ho6 hgs6 hgb6 hat6))
            go_roundw
            case rel =>
              refine ⟨n, l', done ++ [isI g], ownI_low (hl5a.grown hgb6 ?_) (by omega), ho6, Lib.hid fun b hb e => ?_, hgs6 w (by rw [← HBASE.out]; exact Nat.le_refl _) G5, hl9, by simp; omega, HN⟩
              · cases hq : (Value.slice fa' l'.length fc).ownBlock with
                | none => exact .inl rfl
                | some b =>
                  refine .inr fun e => ?_
                  have e1 := (HLB.out b hq).1
                  have e2 := HOB.out b e.symm
                  omega
              · have e1 := HLB.out b hb
                rcases hat6 with h | h
                · have e2 := HOB.out b (by rw [← h]; exact e)
                  omega
                · have e2 : b = (w5.alloc (.cells #[.slice (some ⟨g1, 0, none⟩) g.length gc] 24)).heap.size := by rw [h] at e; exact (Option.some.inj e).symm
                  have e3 := (Lib.hid g5').out
                  simp at e2
                  omega
            case measure => exact hm9
end Go.Proofs.YtagdccgbcmnehaaGreat

namespace Go.Proofs.YtagdccgbcmnehaaGreat
open Go.RowKit Go.Tok
set_option linter.unusedVariables false
/-- block b is a map that has a one at each of the pairs l, and nothing else -/
def OneAt (w : World) (b : Nat) (l : List (Int × Int)) : Prop := MAt Tryz.prog 127 w b (l.map fun p => (pairV p, .int .i64 1))
section
variable {w w' : World} {b : Nat} {l : List (Int × Int)}
theorem OneAt.new (w : World) : OneAt (w.alloc (.map #[] 0)) w.heap.size [] := MAt.new w
theorem OneAt.lt (h : OneAt w b l) : b < w.heap.size := MAt.lt h
theorem OneAt.gr (h : OneAt w b l) (g : Gr w w') : OneAt w' b l := MAt.gr h g
theorem zero_int : ∀ u : World, (zeroValue 3).run Tryz.prog u = .ok (.int .i64 0) u := fun u => by kernel_rfl
theorem OneAt.look (h : OneAt w b l) (x y : Int) (hx : I64 x) (hy : I64 y) : (Instr.lookup 269 (.map (some b)) (.agg #[.int .i64 x, .int .i64 y]) false).run Tryz.prog w = .ok (.int .i64 (if hasP l x y then 1 else 0)) w := by
  obtain ⟨kl, hk⟩ := pair_key (x, y) hx hy
  cases hc : hasP l x y with
  | true =>
    exact MAt.look_yes pairKeyed Tryz.underlying269 h hk (List.mem_map.2 ⟨(x, y), hasP_iff.1 hc, rfl⟩)
  | false =>
    refine MAt.look_no pairKeyed Tryz.underlying269 zero_int h hk fun q hq e => ?_
    obtain ⟨p, hp, rfl⟩ := List.mem_map.1 hq
    have : p = (x, y) := pairV_inj p (x, y) e
    subst this
    rw [hasP_iff.2 hp] at hc; cases hc
theorem OneAt.add (h : OneAt w b l) (x y : Int) (hx : I64 x) (hy : I64 y) :
    ∃ w', (Instr.mapUpdate 269 (.map (some b)) (.agg #[.int .i64 x, .int .i64 y]) (.int .i64 1)).run Tryz.prog w = .ok () w' ∧ OnlyAt b w w' ∧ OneAt w' b (ins l (x, y)) := by
  obtain ⟨kl, hk⟩ := pair_key (x, y) hx hy
  by_cases hm : (x, y) ∈ l
  · obtain ⟨w', j, h1, h2, h3, h4⟩ := MAt.store_old pairKeyed Tryz.underlying269 h (.int .i64 1) hk (List.mem_map.2 ⟨(x, y), hm, rfl⟩)
    refine ⟨w', h1, h2, ?_⟩
    rw [ins_yes hm]
    rw [putAt_same _ _ _ (fun q hq => by obtain ⟨z, _, rfl⟩ := List.mem_map.1 hq; rfl)] at h4
    exact h4
  · obtain ⟨w', h1, h2, h3⟩ := MAt.store_new pairKeyed Tryz.underlying269 h (.int .i64 1) hk (fun q hq e => by
      obtain ⟨z, hz, rfl⟩ := List.mem_map.1 hq
      have : z = (x, y) := pairV_inj z (x, y) e
      exact hm (this ▸ hz))
    refine ⟨w', h1, h2, ?_⟩
    rw [ins_no hm]
    unfold OneAt
    rw [List.map_append]; exact h3
end
attribute [irreducible] OneAt
set_option maxHeartbeats 1000000 in
theorem leads1_calls (x y : Int) (hx : I64 x) (hy : I64 y) (c b : Nat) (s : List (Int × Int)) (w : World) (hc : w.cell? ⟨c, 0, none⟩ = some (.map (some b))) (h : OneAt w b s) :
    Calls Tryz.prog 184 #[.int .i64 x, .int .i64 y, .pointer (some ⟨c, 0, none⟩)] w fun e w' => e = .returned (.bool (hasP s x y)) ∧ w = w' := by
  have hl := h.look x y hx hy
  cases hs : hasP s x y with
  | true =>
    rw [hs] at hl
    have hl' : (Instr.lookup 269 (.map (some b)) (.agg #[.int .i64 x, .int .i64 y]) false).run Tryz.prog w = .ok (.int .i64 1) w := hl
    clear hl h
    go_enter Tryz.func184, Tryz.ntmps184
    go_wp2_with fail
    go_ret
    exact ⟨rfl, rfl⟩
  | false =>
    rw [hs] at hl
    have hl' : (Instr.lookup 269 (.map (some b)) (.agg #[.int .i64 x, .int .i64 y]) false).run Tryz.prog w = .ok (.int .i64 0) w := hl
    clear hl h
    go_enter Tryz.func184, Tryz.ntmps184
    go_wp2_with fail
    go_ret
    exact ⟨rfl, rfl⟩
end Go.Proofs.YtagdccgbcmnehaaGreat

