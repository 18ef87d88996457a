/- Contract of grow.grow: loops. -/
import Derived.Test.YtajmccjnoejmfaaGrow2
namespace Go.Proofs.Ytajmccjnoejmfaa
open Go.RowKit Go.Tok
set_option linter.unusedVariables false
set_option maxHeartbeats 4000000 in
set_option maxRecDepth 100000 in
theorem grow_loop {w0 : World} {gb : Nat} {n : Nat} (ih : GrowC w0 gb n) {b : BlockD} {a : Option Addr} {cap : Nat} {w : World} {lv : Value} {s : GS} {f t : Int} (hk : b.kind = 6) (hb : OkB (n + 1) b) (hB : Rd (blkK n) w0 (.slice a b.kids.length cap) b.kids) (h : GW w0 w gb lv s) (ok : GOk s) (hf0 : 0 ≤ f) (hf1 : f < s.places) (ht0 : 0 ≤ t) (ht1 : t < s.places) :
    Calls Try.prog 35 #[.pointer (some ⟨gb, 0, none⟩), .agg #[.int .i64 b.kind, .int .i64 b.label, .slice a b.kids.length cap], .int .i64 f, .int .i64 t] w (RetG w0 w gb lv (growF (n + 1) b f t s) (.tuple #[])) := by
  have hg : growF (n + 1) b f t s = (placeF s).bind fun s1 => (placeF s1).bind fun s2 => (linkF ⟨0, [f], [s.places]⟩ s2).bind fun s3 => (growF n (ix b.kids 0) s.places (s.places + 1) s3).bind fun s4 => (growF n (ix b.kids 1) (s.places + 1) s.places s4).bind fun s5 => linkF ⟨0, [s.places + 1], [t]⟩ s5 := by simp [growF, hk]
  have hkids : ∀ k ∈ b.kids, OkB n k := hb.2.2.2.2.2.2
  have hlen2 : b.kids.length = 2 := hb.2.2.2.2.2.1 hk
  have hk0 : OkB n (ix b.kids 0) := hkids _ (ix_mem (by omega))
  have hk1 : OkB n (ix b.kids 1) := hkids _ (ix_mem (by omega))
  obtain ⟨_, _, e, hcl, hcm⟩ := hB.len
  cases e
  obtain ⟨gp, go, ka, kc, hadd, c0, c1, c2, hkr0⟩ := kid_in hB (Gr.refl _) (i := 0) (by omega)
  subst hadd
  obtain ⟨_, _, kb, kd, hadd, d0, d1, d2, hkr1⟩ := kid_in hB (Gr.refl _) (i := 1) (by omega)
  cases hadd
  rw [Nat.zero_mul, Nat.add_zero] at c0 c1 c2
  rw [Nat.one_mul] at d0 d1 d2
  have HG := Lib.hid hg
  have hlo := ok.lo
  have hhi := ok.hi
  have hIf := i64_place ok hf0 hf1
  have hIt := i64_place ok ht0 ht1
  have hIx : I64 s.places := by unfold I64; omega
  have hIy : I64 (s.places + 1) := by unfold I64; omega
  clear hg hb hkids
  have GB := (Gr.refl w).alloc (.cells #[.int .i64 b.kind, .int .i64 b.label, .slice (some ⟨gp, go, none⟩) b.kids.length cap] 24)
  have b0 : (w.alloc (.cells #[.int .i64 b.kind, .int .i64 b.label, .slice (some ⟨gp, go, none⟩) b.kids.length cap] 24)).cell? ⟨w.heap.size, 0, none⟩ = some (.int .i64 b.kind) := box_cell (Gr.refl _) (i := 0) rfl
  have b2 : (w.alloc (.cells #[.int .i64 b.kind, .int .i64 b.label, .slice (some ⟨gp, go, none⟩) b.kids.length cap] 24)).cell? ⟨w.heap.size, 2, none⟩ = some (.slice (some ⟨gp, go, none⟩) b.kids.length cap) := box_cell (Gr.refl _) (i := 2) rfl
  rw [hk] at b0 GB b2 ⊢
  rw [hlen2] at b0 GB b2 ⊢
  have hbx := h.lt (Nat.le_refl w.heap.size)
  have hS : w.heap.size ≠ gb ∧ lv.ownBlock ≠ some w.heap.size := ⟨by omega, fun e => by have := hbx.2 _ e; omega⟩
  clear hbx hlen2
  go_enter Try.func35, Try.ntmps35
  go_wp2_with fail
  refine (place_calls (h.gr' GB) (by omega) hhi).mono ?_
  rintro _ w1 hr
  rcases hr.cases with ⟨s1, lv1, h1, rfl, G1, T1⟩ | ⟨h1, rfl, G1⟩
  case inr =>
    have H1 := Lib.hid h1
    clear h1
    go_wp2_with fail
    refine bodyPost_panic rfl ?_
    exact RetG.no (by rw [HG.out, H1.out]; rfl) G1
  have H1 := Lib.hid h1
  have ok1 := ok.place h1
  obtain ⟨rfl, hp16⟩ := place_some h1
  clear h1
  go_wp2_with fail
  refine (place_calls G1 (by show 0 ≤ s.places + 1; omega) hp16).mono ?_
  rintro _ w2 hr
  rcases hr.cases with ⟨s2, lv2, h2, rfl, G2, T2⟩ | ⟨h2, rfl, G2⟩
  case inr =>
    have H2 := Lib.hid h2
    clear h2
    go_wp2_with fail
    refine bodyPost_panic rfl ?_
    exact RetG.no (by rw [HG.out, H1.out, Option.bind_some, H2.out]; rfl) G2
  have H2 := Lib.hid h2
  have ok2 := ok1.place h2
  obtain ⟨rfl, hp17⟩ := place_some h2
  clear h2
  go_wp2_with fail
  refine (grow1_calls f _ hIf).mono ?_
  rintro _ w3 ⟨v3, rfl, o3, g3⟩
  go_wp2_with fail
  refine (grow1_calls s.places _ hIx).mono ?_
  rintro _ w4 ⟨v4, rfl, o4, g4⟩
  have hlt1 := G2.lt (Nat.le_refl _)
  have hlt2 := G2.lt g3.le
  have hlen := ok2.len
  go_wp2_with fail
  refine (link_calls (l := ⟨0, [f], [s.places]⟩) (G2.gr' (g3.trans g4)) hlen (show I64 0 by decide) (fresh_on G2.lo (o3.gr g4) hlt1) (fresh_on G2.lo o4 hlt2)).mono ?_
  rintro _ w5 hr
  rcases hr.cases with ⟨s3, lv3, h3, rfl, G3, T3⟩ | ⟨h3, rfl, G3⟩
  case inr =>
    have H3 := Lib.hid h3
    clear h3
    go_wp2_with fail
    refine bodyPost_panic rfl ?_
    exact RetG.no (by rw [HG.out, H1.out, Option.bind_some, H2.out, Option.bind_some, H3.out]; rfl) G3
  have H3 := Lib.hid h3
  have ok3 := ok2.link h3 (by simp) (PlIn.one hf0 (by show f < s.places + 1 + 1; omega)) (PlIn.one (by omega) (by show s.places < s.places + 1 + 1; omega))
  obtain ⟨rfl, hl24⟩ := link_some h3
  clear h3
  have TT := ((T1.trans T2).trans (GStep.of_gr (g3.trans g4))).trans T3
  have B2 := cell_kp TT.1 b2 hS
  replace c0 := cell_gr c0 G3.gr
  replace c1 := cell_gr c1 G3.gr
  replace c2 := cell_gr c2 G3.gr
  have hc1 := ih (ix b.kids 0) ka kc w5 lv3 _ s.places (s.places + 1) hk0 hkr0 G3 ok3 (by omega) (by show s.places < s.places + 1 + 1; omega) (by omega) (by show s.places + 1 < s.places + 1 + 1; omega)
  have HK1 := Lib.hid (fun s4 e => grow_keep n (ix b.kids 0) s.places (s.places + 1) _ s4 hk0 ok3 (by omega) (by show s.places < s.places + 1 + 1; omega) (by omega) (by show s.places + 1 < s.places + 1 + 1; omega) e)
  clear hlt1 hlt2 o3 o4 g3 g4 T1 T2 T3 G1 G2
  go_wp2_with fail
  refine hc1.mono ?_
  rintro _ w6 hr
  rcases hr.cases with ⟨s4, lv4, h4, rfl, G4, T4⟩ | ⟨h4, rfl, G4⟩
  case inr =>
    have H4 := Lib.hid h4
    clear h4
    go_wp2_with fail
    refine bodyPost_panic rfl ?_
    exact RetG.no (by rw [HG.out, H1.out, Option.bind_some, H2.out, Option.bind_some, H3.out, Option.bind_some, H4.out]; rfl) G4
  obtain ⟨ok4, hp4⟩ := HK1.out s4 h4
  have hp4 : s.places + 1 + 1 ≤ s4.places := hp4
  have H4 := Lib.hid h4
  clear h4
  have TT2 := TT.trans T4
  have B3 := cell_kp TT2.1 b2 hS
  replace d0 := cell_gr d0 G4.gr
  replace d1 := cell_gr d1 G4.gr
  replace d2 := cell_gr d2 G4.gr
  have hc2 := ih (ix b.kids 1) kb kd w6 lv4 s4 (s.places + 1) s.places hk1 hkr1 G4 ok4 (by omega) (by omega) (by omega) (by omega)
  have HK2 := Lib.hid (fun s5 e => grow_keep n (ix b.kids 1) (s.places + 1) s.places s4 s5 hk1 ok4 (by omega) (by omega) (by omega) (by omega) e)
  clear TT T4 B2 c0 c1 c2 G3 hc1
  go_wp2_with fail
  refine hc2.mono ?_
  rintro _ w7 hr
  rcases hr.cases with ⟨s5, lv5, h5, rfl, G5, T5⟩ | ⟨h5, rfl, G5⟩
  case inr =>
    have H5 := Lib.hid h5
    clear h5
    go_wp2_with fail
    refine bodyPost_panic rfl ?_
    exact RetG.no (by rw [HG.out, H1.out, Option.bind_some, H2.out, Option.bind_some, H3.out, Option.bind_some, H4.out, Option.bind_some, H5.out]; rfl) G5
  obtain ⟨ok5, hp5⟩ := HK2.out s5 h5
  have H5 := Lib.hid h5
  clear h5
  have TT3 := TT2.trans T5
  clear TT2 T5 B3 d0 d1 d2 G4 hc2
  go_wp2_with fail
  refine (grow1_calls (s.places + 1) _ hIy).mono ?_
  rintro _ w8 ⟨v8, rfl, o8, g8⟩
  go_wp2_with fail
  refine (grow1_calls t _ hIt).mono ?_
  rintro _ w9 ⟨v9, rfl, o9, g9⟩
  have hlt1 := G5.lt (Nat.le_refl _)
  have hlt2 := G5.lt g8.le
  have hlen5 := ok5.len
  go_wp2_with fail
  refine (link_calls (l := ⟨0, [s.places + 1], [t]⟩) (G5.gr' (g8.trans g9)) hlen5 (show I64 0 by decide) (fresh_on G5.lo (o8.gr g9) hlt1) (fresh_on G5.lo o9 hlt2)).mono ?_
  rintro _ w10 hr
  rcases hr.cases with ⟨s6, lv6, h6, rfl, G6, T6⟩ | ⟨h6, rfl, G6⟩
  case inr =>
    have H6 := Lib.hid h6
    clear h6
    go_wp2_with fail
    refine bodyPost_panic rfl ?_
    exact RetG.no (by rw [HG.out, H1.out, Option.bind_some, H2.out, Option.bind_some, H3.out, Option.bind_some, H4.out, Option.bind_some, H5.out, Option.bind_some, H6.out]) G6
  have H6 := Lib.hid h6
  clear h6
  go_wp2_with fail
  refine bodyPost_end (results_none rfl _ _ _) rfl ?_
  exact RetG.yes (by rw [HG.out, H1.out, Option.bind_some, H2.out, Option.bind_some, H3.out, Option.bind_some, H4.out, Option.bind_some, H5.out, Option.bind_some, H6.out]) G6 ((((GStep.of_gr GB).trans TT3).trans (GStep.of_gr (g8.trans g9))).trans T6)
end Go.Proofs.Ytajmccjnoejmfaa
