/- Contract of tracks.Of: what a log shows. -/
import Derived.Test.YtkanaoebpajbfaaTrk3
import Derived.Test.YtkanaoebpajbfaaPB
namespace Go.Tok
open Go.RowKit
set_option linter.unusedVariables false
theorem trace_ok {log : List (List Int)} (h : wrongT log = 0) : log.length ≤ 60 ∧ ∀ t ∈ log, t.length ≤ 60 ∧ ∀ x ∈ t, 1 ≤ x ∧ x ≤ 26 := by
  unfold wrongT at h
  by_cases h1 : 60 < log.length
  · rw [if_pos h1] at h; cases h
  · rw [if_neg h1] at h
    refine ⟨by omega, fun t ht => ?_⟩
    cases h2 : log.any traceBad with
    | true => rw [h2] at h; cases h
    | false =>
      have h3 := List.any_eq_false.1 h2 t ht
      unfold traceBad at h3
      simp only [Bool.or_eq_true, decide_eq_true_eq, List.any_eq_true, not_or, not_exists, not_and] at h3
      refine ⟨by omega, fun x hx => ?_⟩
      have := h3.2 x hx
      omega
theorem trace_at {log : List (List Int)} (h : wrongT log = 0) {k j : Nat} (hk : k < log.length) (hj : j < (ix log k).length) : 1 ≤ nth (ix log k) j ∧ nth (ix log k) j ≤ 26 := by
  rw [nth_lt hj]
  exact ((trace_ok h).2 _ (ix_mem hk)).2 _ (List.getElem_mem hj)
/-- all that is collected is a label -/
def Labs (s : TrkD) : Prop := (∀ x ∈ s.all, 1 ≤ x ∧ x ≤ 26) ∧ (∀ x ∈ s.first, 1 ≤ x ∧ x ≤ 26) ∧ (∀ x ∈ s.last, 1 ≤ x ∧ x ≤ 26) ∧ ∀ x ∈ s.behind, (1 ≤ x.1 ∧ x.1 ≤ 26) ∧ 1 ≤ x.2 ∧ x.2 ≤ 26
theorem labs_log {log : List (List Int)} (h : wrongT log = 0) : Labs (trkLog log) := by
  obtain ⟨h1, h2, h3, h4⟩ := shows_log log
  have key : ∀ t ∈ log, ∀ j, j < t.length → 1 ≤ nth t j ∧ nth t j ≤ 26 := fun t ht j hj => by
    rw [nth_lt hj]; exact ((trace_ok h).2 t ht).2 _ (List.getElem_mem hj)
  refine ⟨fun x hx => ?_, fun x hx => ?_, fun x hx => ?_, fun x hx => ?_⟩
  · obtain ⟨t, ht, j, hj, rfl⟩ := (h1 x).1 hx; exact key t ht j hj
  · obtain ⟨t, ht, hj, rfl⟩ := (h2 x).1 hx; exact key t ht 0 hj
  · obtain ⟨t, ht, j, hj, rfl⟩ := (h3 x).1 hx; exact key t ht j (by omega)
  · obtain ⟨t, ht, j, hj, rfl⟩ := (h4 x).1 hx; exact ⟨key t ht j (by omega), key t ht (j + 1) hj⟩
/-- a row of different labels is short -/
theorem labs_short {l : List Int} (hn : l.Nodup) (h : ∀ x ∈ l, 1 ≤ x ∧ x ≤ 26) : l.length ≤ 26 := by
  have hs : l ⊆ (List.range 26).map fun i : Nat => (i : Int) + 1 := fun x hx => by
    have := h x hx
    exact List.mem_map.2 ⟨(x - 1).toNat, by simp; omega, by omega⟩
  have := nodup_sub _ _ hn hs
  simpa using this
theorem pairs_short {l : List (Int × Int)} (hn : l.Nodup) (h : ∀ x ∈ l, (1 ≤ x.1 ∧ x.1 ≤ 26) ∧ 1 ≤ x.2 ∧ x.2 ≤ 26) : l.length ≤ 676 := by
  have hs : l ⊆ (List.range 676).map fun i : Nat => (((i / 26 : Nat) : Int) + 1, ((i % 26 : Nat) : Int) + 1) := fun x hx => by
    have := h x hx
    refine List.mem_map.2 ⟨(x.1 - 1).toNat * 26 + (x.2 - 1).toNat, by simp; omega, ?_⟩
    apply Prod.ext
    · simp; omega
    · simp; omega
  have := nodup_sub _ _ hn hs
  simpa using this
end Go.Tok
namespace Go.Proofs.Ytkanaoebpajbfaa
open Go.RowKit Go.Tok
set_option linter.unusedVariables false
structure Sets (w0 w : World) (b : Nat) (A F L : List Int) (B : List (Int × Int)) : Prop where
  a : ISet w b A
  f : ISet w (b + 1) F
  l : ISet w (b + 2) L
  p : PSet w (b + 3) B
  g : Gr w0 w
  le : w0.heap.size ≤ b
section
variable {w0 w w' : World} {b : Nat} {A F L : List Int} {B : List (Int × Int)}
theorem Sets.setA {A' : List Int} (h : Sets w0 w b A F L B) (g : w.grownBy w' (some b)) (h' : ISet w' b A') : Sets w0 w' b A' F L B :=
  ⟨h', h.f.grown g (by simp), h.l.grown g (by simp), h.p.grown g (by simp), OnlyAt.gr h.g g h.le, h.le⟩
theorem Sets.setF {F' : List Int} (h : Sets w0 w b A F L B) (g : w.grownBy w' (some (b + 1))) (h' : ISet w' (b + 1) F') : Sets w0 w' b A F' L B :=
  ⟨h.a.grown g (by simp), h', h.l.grown g (by simp), h.p.grown g (by simp), OnlyAt.gr h.g g (by have := h.le; omega), h.le⟩
theorem Sets.setL {L' : List Int} (h : Sets w0 w b A F L B) (g : w.grownBy w' (some (b + 2))) (h' : ISet w' (b + 2) L') : Sets w0 w' b A F L' B :=
  ⟨h.a.grown g (by simp), h.f.grown g (by simp), h', h.p.grown g (by simp), OnlyAt.gr h.g g (by have := h.le; omega), h.le⟩
theorem Sets.setB {B' : List (Int × Int)} (h : Sets w0 w b A F L B) (g : w.grownBy w' (some (b + 3))) (h' : PSet w' (b + 3) B') : Sets w0 w' b A F L B' :=
  ⟨h.a.grown g (by simp), h.f.grown g (by simp), h.l.grown g (by simp), h', OnlyAt.gr h.g g (by have := h.le; omega), h.le⟩
theorem Sets.gr (h : Sets w0 w b A F L B) (g : Gr w w') : Sets w0 w' b A F L B := ⟨h.a.gr g, h.f.gr g, h.l.gr g, h.p.gr g, h.g.trans g, h.le⟩
theorem Sets.new (w : World) : Sets w ((((w.alloc (.map #[] 0)).alloc (.map #[] 0)).alloc (.map #[] 0)).alloc (.map #[] 0)) w.heap.size [] [] [] [] := by
  have g1 : Gr w (w.alloc (.map #[] 0)) := (Gr.refl _).alloc _
  have g2 : Gr (w.alloc (.map #[] 0)) ((w.alloc (.map #[] 0)).alloc (.map #[] 0)) := (Gr.refl _).alloc _
  have g3 : Gr ((w.alloc (.map #[] 0)).alloc (.map #[] 0)) (((w.alloc (.map #[] 0)).alloc (.map #[] 0)).alloc (.map #[] 0)) := (Gr.refl _).alloc _
  have g4 : Gr (((w.alloc (.map #[] 0)).alloc (.map #[] 0)).alloc (.map #[] 0)) ((((w.alloc (.map #[] 0)).alloc (.map #[] 0)).alloc (.map #[] 0)).alloc (.map #[] 0)) := (Gr.refl _).alloc _
  have s1 := SetAt.new (P := Try.prog) (k := 3) (enc := Value.int .i64) w
  have s2 := SetAt.new (P := Try.prog) (k := 3) (enc := Value.int .i64) (w.alloc (.map #[] 0))
  have s3 := SetAt.new (P := Try.prog) (k := 3) (enc := Value.int .i64) ((w.alloc (.map #[] 0)).alloc (.map #[] 0))
  have s4 := SetAt.new (P := Try.prog) (k := 71) (enc := pairV) (((w.alloc (.map #[] 0)).alloc (.map #[] 0)).alloc (.map #[] 0))
  have e2 : (w.alloc (.map #[] 0)).heap.size = w.heap.size + 1 := by simp
  have e3 : ((w.alloc (.map #[] 0)).alloc (.map #[] 0)).heap.size = w.heap.size + 2 := by simp
  have e4 : (((w.alloc (.map #[] 0)).alloc (.map #[] 0)).alloc (.map #[] 0)).heap.size = w.heap.size + 3 := by simp
  rw [e2] at s2
  rw [e3] at s3
  rw [e4] at s4
  exact ⟨s1.gr (g2.trans (g3.trans g4)), s2.gr (g3.trans g4), s3.gr g4, s4, g1.trans (g2.trans (g3.trans g4)), Nat.le_refl _⟩
end
/-- what Of hands back -/
def RetPr (w : World) (r : PrintD × Int) (e : Ending) (w' : World) : Prop :=
  ∃ v1 v2 v3 v4, e = .returned (.tuple #[.agg #[v1, v2, v3, v4], .int .i64 r.2]) ∧ OwnI 3 w.heap.size w' v1 r.1.labels ∧ OwnI 3 w.heap.size w' v2 r.1.first ∧ OwnI 3 w.heap.size w' v3 r.1.last ∧ OwnR pairK 71 w.heap.size NoS w' v4 r.1.behind ∧ Gr w w'
abbrev SetsT (w0 w : World) (b : Nat) (s : TrkD) : Prop := Sets w0 w b s.all s.first s.last s.behind
theorem trkStep_all (t : List Int) (s : TrkD) (j : Nat) : (trkStep t s j).all = ins s.all (nth t j) := rfl
theorem trkStep_00 {t : List Int} {s : TrkD} (h : 0 + 1 ≠ t.length) : trkStep t s 0 = ⟨ins s.all (nth t 0), ins s.first (nth t 0), s.last, s.behind⟩ := by simp [trkStep, h]
theorem trkStep_01 {t : List Int} {s : TrkD} (h : 0 + 1 = t.length) : trkStep t s 0 = ⟨ins s.all (nth t 0), ins s.first (nth t 0), ins s.last (nth t 0), s.behind⟩ := by simp [trkStep, h.symm]
theorem trkStep_q0 {t : List Int} {s : TrkD} {q : Nat} (h : q + 1 + 1 ≠ t.length) : trkStep t s (q + 1) = ⟨ins s.all (nth t (q + 1)), s.first, s.last, ins s.behind (nth t q, nth t (q + 1))⟩ := by simp [trkStep, h]
theorem trkStep_q1 {t : List Int} {s : TrkD} {q : Nat} (h : q + 1 + 1 = t.length) : trkStep t s (q + 1) = ⟨ins s.all (nth t (q + 1)), s.first, ins s.last (nth t (q + 1)), ins s.behind (nth t q, nth t (q + 1))⟩ := by simp [trkStep, h.symm]
theorem _root_.Go.Tok.OwnI.aside {e base : Nat} {w : World} {v : Value} {xs : List Int} (h : OwnI e base w v xs) {b i : Nat} (hb : b < base) (u : Value) : OwnI e base (w.setCell ⟨b, i, none⟩ u) v xs := h.other (fun e => by have := (h.lt e).1; simp at this; omega) u
theorem _root_.Go.Tok.OwnR.aside {α : Type} {K : Kind α} {e base : Nat} {w : World} {v : Value} {xs : List α} (h : OwnR K e base NoS w v xs) {b i : Nat} (hb : b < base) (u : Value) : OwnR K e base NoS (w.setCell ⟨b, i, none⟩ u) v xs := h.other (fun e => by have := (h.lt e).1; simp at this; omega) (fun h => h) u
set_option maxRecDepth 100000 in
set_option maxHeartbeats 4000000 in
theorem Of_calls (v : Value) (log : List (List Int)) (w : World) (hv : Rd rowK w v log) : Calls Try.prog 29 #[v] w (RetPr w (ofT log)) := by
  obtain ⟨a, cap, rfl, hlc, hcap⟩ := hv.len
  have b0 : Blk (w.alloc (.cells #[.slice none 0 0, .slice none 0 0, .slice none 0 0, .slice none 0 0] 66)) w.heap.size 66 #[.slice none 0 0, .slice none 0 0, .slice none 0 0, .slice none 0 0] := Blk.new rfl
  have G0 : Gr w (w.alloc (.cells #[.slice none 0 0, .slice none 0 0, .slice none 0 0, .slice none 0 0] 66)) := (Gr.refl _).alloc _
  by_cases hw : wrongT log = 0
  case neg =>
    have q1 : (wrongT log == 0) = false := by simpa using hw
    have q2 : (wrongT log != 0) = true := by simpa using hw
    have HO := Lib.hid (show ofT log = (⟨[], [], [], []⟩, wrongT log) by unfold ofT; rw [if_neg hw])
    clear hw
    go_enter Try.func29, Try.ntmps29
    go_wp2_with fail
    refine (TWrong_calls _ log _ (hv.gr G0)).mono ?_
    rintro _ w1 ⟨rfl, g1⟩
    have b1 := b0.gr g1
    have GW := G0.trans g1
    have hsz := b1.lt
    have D0 := b1.cell (i := 0) rfl
    have F0 := b1.frozen 0
    have bq1 := b1.set 0 (.slice none 0 0)
    have D1 := bq1.cell (i := 1) rfl
    have F1 := bq1.frozen 1
    have bq2 := bq1.set 1 (.slice none 0 0)
    have D2 := bq2.cell (i := 2) rfl
    have F2 := bq2.frozen 2
    have bq3 := bq2.set 2 (.slice none 0 0)
    have D3 := bq3.cell (i := 3) rfl
    have F3 := bq3.frozen 3
    have bq4 := bq3.set 3 (.slice none 0 0)
    have E0 := bq4.cell (i := 0) rfl
    have E1 := bq4.cell (i := 1) rfl
    have E2 := bq4.cell (i := 2) rfl
    have E3 := bq4.cell (i := 3) rfl
    have GF := (((GW.setCell (p := ⟨w.heap.size, 0, none⟩) (Nat.le_refl _) (.slice none 0 0)).setCell (p := ⟨w.heap.size, 1, none⟩) (Nat.le_refl _) (.slice none 0 0)).setCell (p := ⟨w.heap.size, 2, none⟩) (Nat.le_refl _) (.slice none 0 0)).setCell (p := ⟨w.heap.size, 3, none⟩) (Nat.le_refl _) (.slice none 0 0)
    clear b0 b1 bq1 bq2 bq3 bq4 G0 g1
    have HGF := Lib.hid GF
    clear GF GW
    go_wp2_with fail
    refine bodyPost_ret (v := .tuple #[.agg #[.slice none 0 0, .slice none 0 0, .slice none 0 0, .slice none 0 0], .int .i64 (wrongT log)]) (by simp [results, Try.results29, go_sem, E0, E1, E2, E3]) rfl ?_
    unfold RetPr
    rw [HO.out]
    exact ⟨_, _, _, _, rfl, OwnI.nil _ _ _, OwnI.nil _ _ _, OwnI.nil _ _ _, OwnR.nil _ _ _ _, HGF.out⟩
  case pos =>
    have HW := Lib.hid hw
    have HO := Lib.hid (show ofT log = (⟨sortI (trkLog log).all, sortI (trkLog log).first, sortI (trkLog log).last, sortP (trkLog log).behind⟩, 0) by unfold ofT; rw [if_pos hw])
    have hlog := (trace_ok hw).1
    have HT := Lib.hid fun t ht => ((trace_ok hw).2 t ht).1
    have q0 : wrongT log = 0 := hw
    clear hw
    go_enter Try.func29, Try.ntmps29
    go_wp2_with fail
    refine (TWrong_calls _ log _ (hv.gr G0)).mono ?_
    rw [q0]; rintro _ w1 ⟨rfl, g1⟩
    clear q0
    have b1 := b0.gr g1
    have GW := G0.trans g1
    have hS0 := Sets.new w1
    clear b0 G0 g1
    have hmm := @run_makeMap Try.prog
    go_wp2_with fail
    clear hmm
    go_loopw [25] (fun i wr => ∃ k : Nat, k ≤ log.length ∧ i = .int .i64 k ∧ SetsT w1 wr w1.heap.size (trkLog (log.take k))) (fun i _ => log.length - (intOf i).toNat)
    case atStart => exact ⟨0, Nat.zero_le _, rfl, hS0⟩
    case round =>
      rename World => wo
      obtain ⟨k, hk, rfl, hS⟩ := hrel
      by_cases hlt : k < log.length
      · have HN := Lib.hid (trkLog_succ hlt)
        obtain ⟨b, o, u, rfl, c0w, hIw⟩ := hv.row hlt
        have c0 := cell_gr c0w (GW.trans hS.g)
        obtain ⟨ua, uc, rfl, hul, huc⟩ := hIw.len
        have hkI : (k : Int) < (log.length : Int) := by omega
        have hk0 : (0 : Int) ≤ (k : Int) := by omega
        have ht60 := HT.out _ (ix_mem hlt)
        have HAT := Lib.hid fun j hj => trace_at HW.out hlt (j := j) hj
        obtain ⟨s, hs⟩ : ∃ s, s = trkLog (log.take k) := ⟨_, rfl⟩
        obtain ⟨t, htt⟩ : ∃ t, t = ix log k := ⟨_, rfl⟩
        rw [← hs] at hS
        rw [← htt] at c0 hIw ht60 hul
        have HTT := Lib.hid htt
        have HSS := Lib.hid hs
        clear htt hs c0w
        go_wp2_with fail
        go_loopw [31] (fun i wr => ∃ j : Nat, j ≤ t.length ∧ i = .int .i64 j ∧ SetsT w1 wr w1.heap.size (trkTo t s j)) (fun i _ => t.length - (intOf i).toNat)
        case atStart => exact ⟨0, Nat.zero_le _, rfl, hS⟩
        case round =>
          rename World => wq
          obtain ⟨j, hj, rfl, hQ⟩ := hrel
          by_cases hjt : j < t.length
          · have hJ := hIw.gr (GW.trans hQ.g)
            obtain ⟨b', o', rfl, d0⟩ := hJ.cell hjt
            have hx := HAT.out j (by rw [← HTT.out]; exact hjt)
            rw [← HTT.out] at hx
            have hxI : I64 (nth t j) := by unfold I64; omega
            have hjI : (j : Int) < (t.length : Int) := by omega
            have hj0 : (0 : Int) ≤ (j : Int) := by omega
            have HU := Lib.hid (trkTo_succ t s j)
            obtain ⟨s', hs'⟩ : ∃ s', s' = trkTo t s j := ⟨_, rfl⟩
            rw [← hs'] at hQ
            have HU2 := Lib.hid (show trkTo t s (j + 1) = trkStep t s' j by rw [hs']; exact HU.out)
            clear hs' c0 HU
            go_wp2_with fail
            refine (addI_calls w1.heap.size _ _ _ hQ.a hxI).mono ?_
            rintro _ w2 ⟨rfl, g2, h2⟩
            have hS2 := hQ.setA g2 h2
            have hJ2 := hIw.gr (GW.trans hS2.g)
            rcases j with _ | q
            · go_wp2_with fail
              refine (addI_calls (w1.heap.size + 1) _ _ _ hS2.f hxI).mono ?_
              rintro _ w4 ⟨rfl, g4, h4⟩
              have hS3 := hS2.setF g4 h4
              by_cases hlast : 0 + 1 = t.length
              · skip
                have HL := Lib.hid (trkStep_01 (s := s') hlast)
                have q1 : (0 : Int) = (t.length : Int) - 1 := by omega
                have q2 : ((0 : Int) == (t.length : Int) - 1) = true := by simpa using q1
                have q3 : IntKind.i64.wrap ((t.length : Int) - 1) = (t.length : Int) - 1 := IntWalk.i64_in _ (by omega)
                clear q1
                go_wp2_with fail
                refine (addI_calls (w1.heap.size + 2) _ _ _ hS3.l hxI).mono ?_
                rintro _ w5 ⟨rfl, g5, h5⟩
                have hS4 := hS3.setL g5 h5
                clear q2 q3
                go_wp2_with fail
                go_roundw
                case rel => exact ⟨_, hjt, by go_num, by rw [HU2.out, HL.out]; exact hS4⟩
                case measure => simp [intOf]; omega
              · skip
                have HL := Lib.hid (trkStep_00 (s := s') hlast)
                have q2 : ((0 : Int) == (t.length : Int) - 1) = false := by simp; omega
                have q3 : IntKind.i64.wrap ((t.length : Int) - 1) = (t.length : Int) - 1 := IntWalk.i64_in _ (by omega)
                go_wp2_with fail
                go_roundw
                case rel => exact ⟨_, hjt, by go_num, by rw [HU2.out, HL.out]; exact hS3⟩
                case measure => simp [intOf]; omega
            · obtain ⟨b2, o2, hb2, d1⟩ := hJ2.cell (show q < t.length by omega)
              cases hb2
              have hy := HAT.out q (by rw [← HTT.out]; omega)
              rw [← HTT.out] at hy
              have hyI : I64 (nth t q) := by unfold I64; omega
              have r1 : (((q + 1 : Nat) : Int) == 0) = false := by simp; omega
              have r2 : IntKind.i64.wrap (((q + 1 : Nat) : Int) - 1) = (q : Int) := by rw [IntWalk.i64_in _ (by omega)]; omega
              have r3 : ((q + 1 : Nat) : Int) - 1 = (q : Int) := by omega
              have hqI : (q : Int) < (t.length : Int) := by omega
              have hq0 : (0 : Int) ≤ (q : Int) := by omega
              go_wp2_with fail
              refine (addP_calls (w1.heap.size + 3) _ (nth t q, nth t (q + 1)) _ hS2.p hyI hxI).mono ?_
              rintro _ w4 ⟨rfl, g4, h4⟩
              have hS3 := hS2.setB g4 h4
              clear r1 r2 r3
              by_cases hlast : q + 1 + 1 = t.length
              · skip
                have HL := Lib.hid (trkStep_q1 (s := s') hlast)
                have q1 : (((q + 1 : Nat) : Int) : Int) = (t.length : Int) - 1 := by omega
                have q2 : ((((q + 1 : Nat) : Int) : Int) == (t.length : Int) - 1) = true := by simpa using q1
                have q3 : IntKind.i64.wrap ((t.length : Int) - 1) = (t.length : Int) - 1 := IntWalk.i64_in _ (by omega)
                clear q1
                go_wp2_with fail
                refine (addI_calls (w1.heap.size + 2) _ _ _ hS3.l hxI).mono ?_
                rintro _ w5 ⟨rfl, g5, h5⟩
                have hS4 := hS3.setL g5 h5
                clear q2 q3
                go_wp2_with fail
                go_roundw
                case rel => exact ⟨_, hjt, by go_num, by rw [HU2.out, HL.out]; exact hS4⟩
                case measure => simp [intOf]; omega
              · skip
                have HL := Lib.hid (trkStep_q0 (s := s') hlast)
                have q2 : ((((q + 1 : Nat) : Int) : Int) == (t.length : Int) - 1) = false := by simp; omega
                have q3 : IntKind.i64.wrap ((t.length : Int) - 1) = (t.length : Int) - 1 := IntWalk.i64_in _ (by omega)
                go_wp2_with fail
                go_roundw
                case rel => exact ⟨_, hjt, by go_num, by rw [HU2.out, HL.out]; exact hS3⟩
                case measure => simp [intOf]; omega
          · obtain rfl : j = t.length := by omega
            have HF := Lib.hid (show trkLog (log.take (k + 1)) = trkTo t s t.length by rw [HN.out, ← HTT.out, ← HSS.out])
            go_wp2_with fail
            go_roundw
            case rel => exact ⟨k + 1, by omega, by go_num, by rw [HF.out]; exact hQ⟩
            case measure => simp [intOf]; omega
      · obtain rfl : k = log.length := by omega
        rw [List.take_length] at hS
        obtain ⟨l1, l2, l3, l4⟩ := labs_log HW.out
        obtain ⟨n1, n2, n3, n4⟩ := onces_log log
        have k1 := labs_short n1 l1
        have k2 := labs_short n2 l2
        have k3 := labs_short n3 l3
        have k4 := pairs_short n4 l4
        have r1 : ∀ x ∈ (trkLog log).all, 0 ≤ x ∧ x ≤ 1000000 := fun x hx => by have := l1 x hx; omega
        have r2 : ∀ x ∈ (trkLog log).first, 0 ≤ x ∧ x ≤ 1000000 := fun x hx => by have := l2 x hx; omega
        have r3 : ∀ x ∈ (trkLog log).last, 0 ≤ x ∧ x ≤ 1000000 := fun x hx => by have := l3 x hx; omega
        have r4 : ∀ x ∈ (trkLog log).behind, pairI x := fun x hx => by have := l4 x hx; unfold pairI I64; omega
        clear l1 l2 l3 l4 n1 n2 n3 n4
        have b2 := b1.gr hS.g
        have GW2 := GW.trans hS.g
        have hlt2 := b2.lt
        clear b1
        go_wp2_with fail
        refine (sortedI_calls w1.heap.size _ _ hS.a r1 (by omega)).mono ?_
        rintro _ w3 ⟨v1, rfl, o1, g1⟩
        have z1 := g1.le
        have hS := hS.gr g1
        go_wp2_with fail
        refine (sortedI_calls (w1.heap.size + 1) _ _ hS.f r2 (by omega)).mono ?_
        rintro _ w4 ⟨v2, rfl, o2, g2⟩
        have z2 := g2.le
        have hS := hS.gr g2
        go_wp2_with fail
        refine (sortedI_calls (w1.heap.size + 2) _ _ hS.l r3 (by omega)).mono ?_
        rintro _ w5 ⟨v3, rfl, o3, g3⟩
        have z3 := g3.le
        have hS := hS.gr g3
        go_wp2_with fail
        refine (sortedP_calls (w1.heap.size + 3) _ _ hS.p r4 (by omega)).mono ?_
        rintro _ w6 ⟨v4, rfl, o4, g4⟩
        have P1 := o1.gr (g2.trans (g3.trans g4))
        have P2 := o2.gr (g3.trans g4)
        have P3 := o3.gr g4
        obtain ⟨a1, m1, c1, rfl⟩ : ∃ a n c, v1 = .slice a n c := by obtain ⟨a, c, h, _⟩ := P1.ints.len; exact ⟨a, _, c, h⟩
        obtain ⟨a2, m2, c2, rfl⟩ : ∃ a n c, v2 = .slice a n c := by obtain ⟨a, c, h, _⟩ := P2.ints.len; exact ⟨a, _, c, h⟩
        obtain ⟨a3, m3, c3, rfl⟩ : ∃ a n c, v3 = .slice a n c := by obtain ⟨a, c, h, _⟩ := P3.ints.len; exact ⟨a, _, c, h⟩
        obtain ⟨a4, m4, c4, rfl⟩ : ∃ a n c, v4 = .slice a n c := by obtain ⟨a, c, h, _⟩ := o4.len; exact ⟨a, _, c, h⟩
        have GA := g1.trans (g2.trans (g3.trans g4))
        have b3 := b2.gr GA
        have GW3 := GW2.trans GA
        have D0 := b3.cell (i := 0) rfl
        have F0 := b3.frozen 0
        have bq1 := b3.set 0 (.slice a1 m1 c1)
        have D1 := bq1.cell (i := 1) rfl
        have F1 := bq1.frozen 1
        have bq2 := bq1.set 1 (.slice a2 m2 c2)
        have D2 := bq2.cell (i := 2) rfl
        have F2 := bq2.frozen 2
        have bq3 := bq2.set 2 (.slice a3 m3 c3)
        have D3 := bq3.cell (i := 3) rfl
        have F3 := bq3.frozen 3
        have bq4 := bq3.set 3 (.slice a4 m4 c4)
        have E0 := bq4.cell (i := 0) rfl
        have E1 := bq4.cell (i := 1) rfl
        have E2 := bq4.cell (i := 2) rfl
        have E3 := bq4.cell (i := 3) rfl
        have GF := (((GW3.setCell (p := ⟨w.heap.size, 0, none⟩) (Nat.le_refl _) (.slice a1 m1 c1)).setCell (p := ⟨w.heap.size, 1, none⟩) (Nat.le_refl _) (.slice a2 m2 c2)).setCell (p := ⟨w.heap.size, 2, none⟩) (Nat.le_refl _) (.slice a3 m3 c3)).setCell (p := ⟨w.heap.size, 3, none⟩) (Nat.le_refl _) (.slice a4 m4 c4)
        have Q1 := Lib.hid ((((P1.aside hlt2 (i := 0) (.slice a1 m1 c1)).aside hlt2 (i := 1) (.slice a2 m2 c2)).aside hlt2 (i := 2) (.slice a3 m3 c3)).aside hlt2 (i := 3) (.slice a4 m4 c4))
        have Q2 := Lib.hid ((((P2.aside (show w.heap.size < w3.heap.size by omega) (i := 0) (.slice a1 m1 c1)).aside (show w.heap.size < w3.heap.size by omega) (i := 1) (.slice a2 m2 c2)).aside (show w.heap.size < w3.heap.size by omega) (i := 2) (.slice a3 m3 c3)).aside (show w.heap.size < w3.heap.size by omega) (i := 3) (.slice a4 m4 c4))
        have Q3 := Lib.hid ((((P3.aside (show w.heap.size < w4.heap.size by omega) (i := 0) (.slice a1 m1 c1)).aside (show w.heap.size < w4.heap.size by omega) (i := 1) (.slice a2 m2 c2)).aside (show w.heap.size < w4.heap.size by omega) (i := 2) (.slice a3 m3 c3)).aside (show w.heap.size < w4.heap.size by omega) (i := 3) (.slice a4 m4 c4))
        have Q4 := Lib.hid ((((o4.aside (show w.heap.size < w5.heap.size by omega) (i := 0) (.slice a1 m1 c1)).aside (show w.heap.size < w5.heap.size by omega) (i := 1) (.slice a2 m2 c2)).aside (show w.heap.size < w5.heap.size by omega) (i := 2) (.slice a3 m3 c3)).aside (show w.heap.size < w5.heap.size by omega) (i := 3) (.slice a4 m4 c4))
        have HGF := Lib.hid GF
        have hle := Lib.hid (show w.heap.size ≤ wo.heap.size ∧ w.heap.size ≤ w3.heap.size ∧ w.heap.size ≤ w4.heap.size ∧ w.heap.size ≤ w5.heap.size by omega)
        clear b3 b2 bq1 bq2 bq3 bq4 GF GW3 GA GW2 P1 P2 P3 o1 o2 o3 o4 g1 g2 g3 g4 hS GW r1 r2 r3 r4 k1 k2 k3 k4 hlt2 z1 z2 z3
        go_wp2_with fail
        refine bodyPost_ret (v := .tuple #[.agg #[.slice a1 m1 c1, .slice a2 m2 c2, .slice a3 m3 c3, .slice a4 m4 c4], .int .i64 0]) (by simp [results, Try.results29, go_sem, E0, E1, E2, E3]) rfl ?_
        unfold RetPr
        rw [HO.out]
        exact ⟨_, _, _, _, rfl, Q1.out.low hle.out.1, Q2.out.low hle.out.2.1, Q3.out.low hle.out.2.2.1, Q4.out.low hle.out.2.2.2, HGF.out⟩
end Go.Proofs.Ytkanaoebpajbfaa
