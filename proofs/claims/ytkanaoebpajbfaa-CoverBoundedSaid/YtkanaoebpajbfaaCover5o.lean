/- The contract of cover.Tree, where a mark has places: each knot's mark lies in a block of its own. -/
import Derived.Test.YtkanaoebpajbfaaCover5
import Derived.Test.YtkanaoebpajbfaaRowO
import Derived.Test.YtkanaoebpajbfaaCoverL2
import Derived.Test.YtkanaoebpajbfaaGN
import Derived.Test.YtkanaoebpajbfaaLast31
import Derived.Test.YtkanaoebpajbfaaTwoApp
namespace Go.Proofs.Ytkanaoebpajbfaa
open Go.RowKit Go.Tok
set_option linter.unusedVariables false
set_option linter.unusedSimpArgs false
theorem knoTy (base : Nat) : KTy Try.prog 27 33 (knO 3 base) 40 (.agg #[.int .i64 0, .int .i64 0, .slice none 0 0]) := ⟨Try.underlying27, by kernel_rfl, rfl, (by show 0 < 3; decide)⟩
/-- what Tree hands back: its knots' marks lie in blocks of their own -/
def RetTreeO (w : World) (r : List KnotD × Int) (e : Ending) (w' : World) : Prop := ∃ v' B tb, e = .returned (.tuple #[v', .int .i64 r.2]) ∧ Rd knK w' v' r.1 ∧ Gr w w' ∧ (r.2 = 0 → OwnK 33 3 B tb w' v' r.1 ∧ w.heap.size ≤ B)
theorem tree_memO {w : World} {tb base t2 : Nat} {kv : Value} {ks : List KnotD} (h : OwnK 33 3 base t2 w kv ks) (hc : w.cell? ⟨tb, 2, none⟩ = some kv) (h0 : 0 < ks.length) : TreeM w tb ks := by
  have hr := h.rd
  rcases h.form with ⟨_, rfl⟩ | ⟨g, cap, rfl, _, _, _, _⟩
  · simp at h0
  · exact ⟨g, 0, cap, hc, hr⟩
set_option maxRecDepth 100000 in
set_option maxHeartbeats 8000000 in
theorem Tree_callsO (v u : Value) (N : NetD) (m : List Int) (most : Int) (w : World) (hN : NetR w v N) (hu : Ints w u m) (hI : I64 most) (hm0 : 0 < m.length) :
    Calls Try.prog 10 #[v, u, .int .i64 most] w (RetTreeO w (treeF N m most)) := by
  have hN' := hN
  obtain ⟨a, cap, rfl, hnl, hncap, hpl, hT⟩ := hN.open_
  have hpl1 := hpl.1
  have hpl2 := hpl.2
  obtain ⟨ua, uc, rfl, ul, ul'⟩ := hu.len
  have GA : Gr w (w.alloc (.cells #[.int .i64 N.places, .slice a N.trans.length cap] 24)) := (Gr.refl w).alloc _
  go_enter Try.func10, Try.ntmps10
  by_cases p1 : most < 1
  · have HF := Lib.hid (treeF_range (N := N) (m := m) (.inl p1))
    go_wp2_with fail
    go_ret2
    rw [HF.out]
    exact ⟨_, 0, 0, rfl, Rd.nil _, GA, fun e => absurd e (by decide)⟩
  by_cases p2 : 300 < most
  · have HF := Lib.hid (treeF_range (N := N) (m := m) (.inr p2))
    go_wp2_with fail
    go_ret2
    rw [HF.out]
    exact ⟨_, 0, 0, rfl, Rd.nil _, GA, fun e => absurd e (by decide)⟩
  have hrng : ¬ (most < 1 ∨ 300 < most) := by omega
  go_wp2_with fail
  refine (Enabled_calls _ _ N m _ (hN'.gr GA) (hu.gr GA)).mono ?_
  rcases hf : fitsB N m with _ | _
  · have HF := Lib.hid (treeF_unfit hrng hf)
    rw [show enabledF N m = ([], 2) by simp [enabledF, hf]]
    rintro _ w1 ⟨v1, rfl, -, g1⟩
    go_wp2_with fail
    go_ret2
    rw [HF.out]
    exact ⟨_, 0, 0, rfl, Rd.nil _, GA.trans g1, fun e => absurd e (by decide)⟩
  · rw [show enabledF N m = (enabledL N m, 0) by simp [enabledF, hf]]
    rintro _ w1 ⟨v1, rfl, -, g1⟩
    have GW := GA.trans g1
    have B0 := box_cell g1 (i := 0) (v := .int .i64 N.places) rfl
    have B1 := box_cell g1 (i := 1) (v := .slice a N.trans.length cap) rfl
    have Bl := box_lt g1
    obtain ⟨s1, s2, s3, s4, s5, s6, s7⟩ := fits_sizes hf
    have HU1 := Lib.hid (hu.gr GW)
    have HB0 := Lib.hid B0
    have HB1 := Lib.hid B1
    have HGW := Lib.hid GW
    have HGA := Lib.hid GA
    clear GA g1 GW
    go_wp2_with fail
    refine wp_region_held_drew (S := fun w' => w'.cell? ⟨w.heap.size, 0, none⟩ = some (.int .i64 N.places) ∧ w'.cell? ⟨w.heap.size, 1, none⟩ = some (.slice a N.trans.length cap)) (by kernel_rfl) ⟨cell_gr HB0.out ((Gr.refl _).drew), cell_gr HB1.out ((Gr.refl _).drew)⟩ (fun hHeld => ?_)
    obtain ⟨y0, hy⟩ : ∃ y, y = w1.drew := ⟨_, rfl⟩
    have G : Gr w1 y0 := by rw [hy]; exact (Gr.refl _).drew
    rw [← hy] at hHeld ⊢
    clear hy
    (refine hold0 (v := ?_) (by kernel_rfl) (by kernel_rfl) (by kernel_rfl) (fun _ _ _ h => h) (by rfl) (fun w' hSw => ?_) (by assumption) ?_; rotate_left 1; · ((try dsimp only at hSw); (try go_simp); (try (with_reducible rfl))); (try simp only [Act.put, List.setIfInBounds_toArray, List.set_cons_zero, List.set_cons_succ]))
    (refine hold1 (v := ?_) (by kernel_rfl) (by kernel_rfl) (by kernel_rfl) (fun _ _ _ h => h) (by rfl) (fun w' hSw => ?_) (by assumption) ?_; rotate_left 1; · ((try dsimp only at hSw); (try go_simp); (try (with_reducible rfl))); (try simp only [Act.put, List.setIfInBounds_toArray, List.set_cons_zero, List.set_cons_succ]))
    refine next2 (by kernel_rfl) (fun K hK => ?_)
    go_simp
    go_at_call 44
    (with_reducible refine (Clone_calls _ m _ (HU1.out.gr ?_) (by omega)).mono ?_)
    · exact G
    rintro _ y1 ⟨vm, rfl, oM, gM⟩
    obtain ⟨va, vc, rfl, -, -⟩ := oM.ints.len
    have hmb : ∀ b, (Value.slice va m.length vc).ownBlock = some b → b < y1.heap.size := fun b hb => (oM.lt hb).2
    have onM := (oM.low G.le).on_block
    have oML := oM.low G.le
    replace G := G.trans gM
    (refine hK.out _ _ ?_ (fun hHeld => ?_); · (exact ⟨cell_gr HB0.out G, cell_gr HB1.out G⟩))
    clear hK K
    try simp only [Act.put, List.setIfInBounds_toArray, List.set_cons_zero, List.set_cons_succ]
    (refine hold3 (v := ?_) (by kernel_rfl) (by kernel_rfl) (by kernel_rfl) (fun _ _ _ h => h) (by rfl) (fun w' hSw => ?_) (by assumption) ?_; rotate_left 1; · ((try dsimp only at hSw); (try go_simp); (try (with_reducible rfl))); (try simp only [Act.put, List.setIfInBounds_toArray, List.set_cons_zero, List.set_cons_succ]))
    refine next4 (by kernel_rfl) (fun K hK => ?_)
    go_simp
    (refine hK.out _ _ ?_ (fun hHeld => ?_); · (exact ⟨cell_gr HB0.out (G.alloc _), cell_gr HB1.out (G.alloc _)⟩))
    clear hK K
    try simp only [Act.put, List.setIfInBounds_toArray, List.set_cons_zero, List.set_cons_succ]
    obtain ⟨kb, hkb⟩ : ∃ x, x = y1.heap.size := ⟨_, rfl⟩
    obtain ⟨y2, hy2⟩ : ∃ y, y = y1.alloc (.cells #[.int .i64 (-1), .int .i64 (-1), .slice va m.length vc] 33) := ⟨_, rfl⟩
    rw [← hy2] at hHeld
    rw [← hy2, ← hkb]
    have G2 : Gr w1 y2 := by rw [hy2]; exact G.alloc _
    have HY2 := Lib.hid hy2
    have HKB := Lib.hid hkb
    clear hy2 hkb
    (refine hold5 (v := ?_) (by kernel_rfl) (by kernel_rfl) (by kernel_rfl) (fun _ _ _ h => h) (by rfl) (fun w' hSw => ?_) (by assumption) ?_; rotate_left 1; · ((try dsimp only at hSw); (try go_simp); (try (with_reducible rfl))); (try simp only [Act.put, List.setIfInBounds_toArray, List.set_cons_zero, List.set_cons_succ]))
    refine next6 (by kernel_rfl) (fun K hK => ?_)
    go_simp
    (refine hK.out _ _ ?_ (fun hHeld => ?_); · (exact ⟨cell_gr HB0.out (G2.alloc _), cell_gr HB1.out (G2.alloc _)⟩))
    clear hK K
    try simp only [Act.put, List.setIfInBounds_toArray, List.set_cons_zero, List.set_cons_succ]
    obtain ⟨tb, htb⟩ : ∃ x, x = y2.heap.size := ⟨_, rfl⟩
    obtain ⟨y3, hy3⟩ : ∃ y, y = y2.alloc (.cells #[.int .i64 N.places, .slice a N.trans.length cap, .slice (some ⟨kb, 0, none⟩) 1 1] 94) := ⟨_, rfl⟩
    rw [← hy3] at hHeld
    rw [← hy3, ← htb]
    have G3 : Gr w1 y3 := by rw [hy3]; exact G2.alloc _
    have bT : Blk y3 tb 94 #[.int .i64 N.places, .slice a N.trans.length cap, .slice (some ⟨kb, 0, none⟩) 1 1] := by rw [hy3]; exact Blk.new htb.symm
    have hwl : w.heap.size ≤ y1.heap.size := Nat.le_trans HGW.out.le G.le
    have htk : tb = kb + 1 := by rw [htb, HY2.out, HKB.out]; simp
    have HOB := Lib.hid (show (Value.slice (some ⟨kb, 0, none⟩) 1 1).ownBlock ≠ some tb from fun e => by have := own_eq e; omega)
    have hwl1 : w1.heap.size ≤ y1.heap.size := G.le
    have oK : OwnK 33 3 w1.heap.size tb y3 (.slice (some ⟨kb, 0, none⟩) 1 1) [⟨-1, -1, m⟩] := by
      rw [hy3, HY2.out]
      refine ⟨[((⟨-1, -1, m⟩ : KnotD), .slice va m.length vc)], rfl, (OwnR.lit (K := knO 3 w1.heap.size) (xs := [((⟨-1, -1, m⟩ : KnotD), Value.slice va m.length vc)]) (cs := #[.int .i64 (-1), .int .i64 (-1), .slice va m.length vc]) ([(((⟨-1, -1, m⟩ : KnotD), Value.slice va m.length vc), [.int .i64 (-1), .int .i64 (-1), .slice va m.length vc])] : List ((KnotD × Value) × List Value)) rfl HKB.out.symm rfl rfl (by simp [cellsOf]) (by simp) hwl1 ?_).gr ((Gr.refl _).alloc _), ?_, ?_⟩
      · intro r hr
        rw [List.mem_singleton.1 hr]
        refine (onM.imp fun W h => ⟨rfl, h⟩).mono fun b hb hb' => ?_
        have := hmb b hb'
        rw [← HKB.out] at this
        exact ⟨by omega, by omega⟩
      · intro i j hi hj hne
        simp at hi hj
        omega
      · intro i hi b hb e
        have hi0 : i = 0 := by simpa using hi
        subst hi0
        have h2 := hmb b (by rw [ix_zero] at hb; exact hb)
        have h3 := own_eq e
        rw [← HKB.out] at h2
        omega
    have htw : w.heap.size ≤ tb := by rw [htk, HKB.out]; omega
    have htw1 : w1.heap.size ≤ tb := by have := G2.le; rw [htb]; exact this
    clear htk htb hy3
    (refine hold7 (v := ?_) (by kernel_rfl) (by kernel_rfl) (by kernel_rfl) (fun _ _ _ h => h) (by rfl) (fun w' hSw => ?_) (by assumption) ?_; rotate_left 1; · ((try dsimp only at hSw); (try go_simp); (try (with_reducible rfl))); (try simp only [Act.put, List.setIfInBounds_toArray, List.set_cons_zero, List.set_cons_succ]))
    refine wpAnyH_done (by kernel_rfl) ?_ _
    have HOK := Lib.hid oK
    have HBT := Lib.hid bT
    have HT3 := Lib.hid (show tb < y3.heap.size from bT.lt)
    have HG3 := Lib.hid G3
    clear hHeld G2 G3 G onM oM oML hmb oK bT gM
    go_wp2_with fail
    go_loopw [11] (fun q wr => ∃ (k : Nat) (ks : List KnotD) (kv : Value), q = .int .i64 k ∧ k ≤ ks.length ∧ TreeTo N m most.toNat ks k 0 ∧ treeGo N most.toNat (301 - k) k ks = treeGo N most.toNat 301 0 [⟨-1, -1, m⟩] ∧ OwnK 33 3 w1.heap.size tb wr kv ks ∧ kv.ownBlock ≠ some tb ∧ wr.cell? ⟨tb, 2, none⟩ = some kv ∧ (∀ i, wr.frozen? ⟨tb, i, none⟩ = false) ∧ Gr w1 wr) (fun q _ => 301 - (intOf q).toNat)
    case atStart => exact ⟨0, [⟨-1, -1, m⟩], _, rfl, Nat.zero_le _, tree_root N m (by omega), rfl, HOK.out, HOB.out, HBT.out.cell (i := 2) rfl, HBT.out.frozen, HG3.out⟩
    case round =>
      rename World => wr
      obtain ⟨k, ks, kv, rfl, hkl, hTT, hgo, hO, hOB, hC, hF, hGr⟩ := hrel
      have hle := hTT.le
      have hpos := hTT.pos
      have hmarks := hTT.marks hf
      have hTM := tree_memO hO hC hpos
      obtain ⟨ka, kc, hkv, -, -⟩ := hO.len
      subst hkv
      have hkI0 : (0 : Int) ≤ (k : Int) := by omega
      have HTT := Lib.hid hTT
      have HGO := Lib.hid hgo
      have HO := Lib.hid hO
      have HF := Lib.hid hF
      have HOB := Lib.hid hOB
      have htl : tb < wr.heap.size := cell_block hC
      have HGR := Lib.hid hGr
      have HMK := Lib.hid hmarks
      have HTM := Lib.hid hTM
      have hms : most.toNat ≤ 300 := by omega
      by_cases hlt : k < ks.length
      · have hkI : (k : Int) < (ks.length : Int) := by omega
        have h301 : 301 - k = (301 - (k + 1)) + 1 := by omega
        clear hTT hgo hO hOB hF hGr hmarks hTM
        rcases hag : againB ks k with _ | _
        · have HAG := Lib.hid hag
          clear hag
          go_wp2_with (go_at_call 45; refine (again_calls tb k ks _ HTM.out HTT.out.ups hlt (by omega) (fun j hj => by have := (HMK.out j hj).1; omega)).mono ?_; rw [HAG.out]; rintro _ wA ⟨rfl, gA⟩; have D0 := cell_gr HB0.out (HGR.out.trans gA); have D1 := cell_gr HB1.out (HGR.out.trans gA))
          go_loopw [51] (fun q w2 => ∃ (i : Nat) (ks2 : List KnotD) (kv2 : Value), q = .int .i64 i ∧ i ≤ N.trans.length ∧ TreeTo N m most.toNat ks2 k i ∧ treeTo N most.toNat k ks i = some ks2 ∧ ks.length ≤ ks2.length ∧ OwnK 33 3 w1.heap.size tb w2 kv2 ks2 ∧ kv2.ownBlock ≠ some tb ∧ w2.cell? ⟨tb, 2, none⟩ = some kv2 ∧ (∀ i, w2.frozen? ⟨tb, i, none⟩ = false) ∧ Gr w1 w2) (fun q _ => N.trans.length - (intOf q).toNat)
          case atStart => exact ⟨0, ks, _, rfl, Nat.zero_le _, HTT.out, rfl, Nat.le_refl _, HO.out.gr gA, HOB.out, cell_gr hC gA, fz_gr HF.out gA htl, HGR.out.trans gA⟩
          case round =>
            rename World => w2
            obtain ⟨i, ks2, kv2, rfl, hil, hT2, hto, hks, hO2, hOB2, hC2, hF2, hG2⟩ := hrel
            clear hC D0 D1 gA htl
            by_cases hi : i < N.trans.length
            · obtain ⟨xb, xo, vp, vq, rfl, c0, c1, c2, hl, hp, hq⟩ := (hT.gr (HGW.out.trans hG2)).at_ hi
              obtain ⟨pa, pc, rfl, -, -⟩ := hp.len
              obtain ⟨qa, qc, rfl, -, -⟩ := hq.len
              have hkn : k < ks2.length := by omega
              have hmk2 := hT2.marks hf
              obtain ⟨ka2, kc2, rfl, -, -⟩ := hO2.len
              obtain ⟨g, ko, um, rfl, e0, e1, e2, hum⟩ := hO2.rd.knot hkn
              obtain ⟨ma, mc, rfl, -, -⟩ := hum.len
              have hle2 := hT2.le
              have TF := netOk_tr s7 hi
              have hkI2 : (k : Int) < (ks2.length : Int) := by omega
              have hiI : (i : Int) < (N.trans.length : Int) := by omega
              have hi0 : (0 : Int) ≤ (i : Int) := by omega
              have hpl : (N.tr i).pre.length ≤ (ix ks2 k).mark.length := by have h1 := (hmk2 k hkn).1; have h2 := TF.pre; omega
              have HT2 := Lib.hid hT2
              have HTO := Lib.hid hto
              have HO2 := Lib.hid hO2
              have HF2 := Lib.hid hF2
              have HG2 := Lib.hid hG2
              have HMK2 := Lib.hid hmk2
              have HTF := Lib.hid TF
              have HPL := Lib.hid hpl
              have HOB2 := Lib.hid hOB2
              have HP := Lib.hid hp
              have HQ := Lib.hid hq
              have HUM := Lib.hid hum
              have hl2 : tb < w2.heap.size := cell_block hC2
              obtain ⟨w3, hw3⟩ : ∃ y, y = w2.alloc (.cells #[.int .i64 (N.tr i).label, .slice pa (N.tr i).pre.length pc, .slice qa (N.tr i).post.length qc] 86) := ⟨_, rfl⟩
              have HW3 := Lib.hid hw3
              have g23 : Gr w2 w3 := by rw [hw3]; exact (Gr.refl _).alloc _
              have bX : Blk w3 w2.heap.size 86 #[.int .i64 (N.tr i).label, .slice pa (N.tr i).pre.length pc, .slice qa (N.tr i).post.length qc] := by rw [hw3]; exact Blk.new rfl
              have X0 := bX.cell (i := 0) (v := .int .i64 (N.tr i).label) rfl
              have X1 := bX.cell (i := 1) (v := .slice pa (N.tr i).pre.length pc) rfl
              have X2 := bX.cell (i := 2) (v := .slice qa (N.tr i).post.length qc) rfl
              have T3 := cell_gr hC2 g23
              have M3 := cell_gr e2 g23
              have HP3 := Lib.hid (hp.gr g23)
              have HQ3 := Lib.hid (hq.gr g23)
              have HUM3 := Lib.hid (hum.gr g23)
              have HG23 := Lib.hid g23
              clear hT2 hto hO2 hF2 hG2 hmk2 TF hpl hOB2 hp hq hum e0 e1 bX hw3 g23 e2 hC2
              rcases hbl : belowB (N.tr i).pre (ix ks2 k).mark with _ | _
              · have HBL := Lib.hid hbl
                clear hbl
                go_wp2_with fail
                rw [← HW3.out]
                have hcb : ∀ n, Calls Try.prog 46 #[.slice pa (N.tr i).pre.length pc, .slice ma (ix ks2 k).mark.length mc] (w3.drewN n) fun e w' => e = .returned (.bool false) ∧ w3.drewN n = w' := fun n => by
                  rw [← HBL.out]; exact below_calls _ _ (N.tr i).pre (ix ks2 k).mark _ (HP3.out.gr ((Gr.refl _).drewN n)) (HUM3.out.gr ((Gr.refl _).drewN n)) HPL.out
                go_quiet ((go_at_call 46; exact Calls.quiet_of_same (same_quiet (hcb _))))
                clear hcb
                have g4 : Gr w3 (w3.drewN nq) := (Gr.refl _).drewN nq
                obtain ⟨w4, hw4⟩ : ∃ y, y = w3.drewN nq := ⟨_, rfl⟩
                rw [← hw4] at g4 ⊢
                have T4 := cell_gr T3 g4
                have M4 := cell_gr M3 g4
                have X04 := cell_gr X0 g4
                have X14 := cell_gr X1 g4
                have X24 := cell_gr X2 g4
                have HG4 := Lib.hid (HG23.out.trans g4)
                clear T3 M3 X0 X1 X2 g4 hw4 c0 c1 c2
                go_wp2_with fail
                go_roundw
                case rel => exact ⟨i + 1, ks2, _, by go_num, hi, HT2.out.skip HBL.out, treeTo_skip HTO.out HBL.out, hks, HO2.out.gr HG4.out, HOB2.out, T4, fz_gr HF2.out HG4.out hl2, HG2.out.trans HG4.out⟩
                case measure => simp [intOf]; omega
              · have HBL := Lib.hid hbl
                clear hbl
                go_wp2_with fail
                rw [← HW3.out]
                have hcb : ∀ n, Calls Try.prog 46 #[.slice pa (N.tr i).pre.length pc, .slice ma (ix ks2 k).mark.length mc] (w3.drewN n) fun e w' => e = .returned (.bool true) ∧ w3.drewN n = w' := fun n => by
                  rw [← HBL.out]; exact below_calls _ _ (N.tr i).pre (ix ks2 k).mark _ (HP3.out.gr ((Gr.refl _).drewN n)) (HUM3.out.gr ((Gr.refl _).drewN n)) HPL.out
                go_quiet ((go_at_call 46; exact Calls.quiet_of_same (same_quiet (hcb _))))
                clear hcb
                have g4 : Gr w3 (w3.drewN nq) := (Gr.refl _).drewN nq
                obtain ⟨w4, hw4⟩ : ∃ y, y = w3.drewN nq := ⟨_, rfl⟩
                rw [← hw4] at g4 ⊢
                have T4 := cell_gr T3 g4
                have M4 := cell_gr M3 g4
                have X04 := cell_gr X0 g4
                have X14 := cell_gr X1 g4
                have X24 := cell_gr X2 g4
                have HG4 := Lib.hid (HG23.out.trans g4)
                clear T3 M3 X0 X1 X2 g4 hw4 c0 c1 c2
                by_cases hfull : ks2.length = most.toNat
                · have hfI : (ks2.length : Int) = most := by omega
                  have hfB : ((ks2.length : Int) == most) = true := by simpa using hfI
                  have HFU := Lib.hid (treeF_full hrng hf (by rw [← HGO.out, h301]; exact treeGo_full hlt HAG.out (treeTo_none (treeTo_stop HTO.out HBL.out hfull) _ hi)))
                  clear hfI
                  go_wp2_with fail
                  go_ret2
                  rw [HFU.out]
                  exact ⟨_, 0, 0, rfl, Rd.nil _, (HGW.out.trans HG2.out).trans HG4.out, fun e => absurd e (by decide)⟩
                · have hfB : ((ks2.length : Int) == most) = false := by simpa using (show ¬ (ks2.length : Int) = most by omega)
                  go_wp2_with fail
                  have HS4 := Lib.hid (And.intro T4 (And.intro X04 (And.intro X14 X24)))
                  refine cut25 (S := fun w' => w'.cell? ⟨tb, 2, none⟩ = some (.slice (some ⟨g, ko, none⟩) ks2.length kc2) ∧ w'.cell? ⟨w2.heap.size, 0, none⟩ = some (.int .i64 (N.tr i).label) ∧ w'.cell? ⟨w2.heap.size, 1, none⟩ = some (.slice pa (N.tr i).pre.length pc) ∧ w'.cell? ⟨w2.heap.size, 2, none⟩ = some (.slice qa (N.tr i).post.length qc)) (by kernel_rfl) (by kernel_rfl) (by exact ⟨T4, X04, X14, X24⟩) (fun hHeld => ?_)
                  obtain ⟨y0, hy⟩ : ∃ y, y = w4.drew := ⟨_, rfl⟩
                  have G : Gr w4 y0 := by rw [hy]; exact (Gr.refl _).drew
                  rw [← hy] at hHeld ⊢
                  have M5 := cell_gr M4 G
                  have T5 := cell_gr T4 G
                  have HG0 := Lib.hid (HG4.out.trans G)
                  have HP5 := Lib.hid (HP.out.gr HG0.out)
                  have HQ5 := Lib.hid (HQ.out.gr HG0.out)
                  have HUM5 := Lib.hid (HUM.out.gr HG0.out)
                  have HTM5 := Lib.hid (tree_memO (HO2.out.gr HG0.out) T5 (by omega))
                  clear hy T4 X04 X14 X24 M4 T5
                  (refine hold0 (v := ?_) (by kernel_rfl) (by kernel_rfl) (by kernel_rfl) (fun _ _ _ h => h) (by rfl) (fun w' hSw => ?_) (by assumption) ?_; rotate_left 1; · ((try dsimp only at hSw); (try go_simp); (try (with_reducible rfl))); (try simp only [Act.put, List.setIfInBounds_toArray, List.set_cons_zero, List.set_cons_succ]))
                  (refine hold1 (v := ?_) (by kernel_rfl) (by kernel_rfl) (by kernel_rfl) (fun _ _ _ h => h) (by rfl) (fun w' hSw => ?_) (by assumption) ?_; rotate_left 1; · ((try dsimp only at hSw); (try go_simp); (try (with_reducible rfl))); (try simp only [Act.put, List.setIfInBounds_toArray, List.set_cons_zero, List.set_cons_succ]))
                  (refine hold2 (v := ?_) (by kernel_rfl) (by kernel_rfl) (by kernel_rfl) (fun _ _ _ h => h) (by rfl) (fun w' hSw => ?_) (by assumption) ?_; rotate_left 1; · ((try dsimp only at hSw); (try go_simp); (try (with_reducible rfl))); (try simp only [Act.put, List.setIfInBounds_toArray, List.set_cons_zero, List.set_cons_succ]))
                  (refine hold3 (v := ?_) (by kernel_rfl) (by kernel_rfl) (by kernel_rfl) (fun _ _ _ h => h) (by rfl) (fun w' hSw => ?_) (by assumption) ?_; rotate_left 1; · ((try dsimp only at hSw); (try go_simp); (try (with_reducible rfl))); (try simp only [Act.put, List.setIfInBounds_toArray, List.set_cons_zero, List.set_cons_succ]))
                  (refine hold4 (v := ?_) (by kernel_rfl) (by kernel_rfl) (by kernel_rfl) (fun _ _ _ h => h) (by rfl) (fun w' hSw => ?_) (by assumption) ?_; rotate_left 1; · ((try dsimp only at hSw); (try go_simp); (try (with_reducible rfl))); (try simp only [Act.put, List.setIfInBounds_toArray, List.set_cons_zero, List.set_cons_succ]))
                  (refine hold5 (v := ?_) (by kernel_rfl) (by kernel_rfl) (by kernel_rfl) (fun _ _ _ h => h) (by rfl) (fun w' hSw => ?_) (by assumption) ?_; rotate_left 1; · ((try dsimp only at hSw); (try go_simp); (try (with_reducible rfl))); (try simp only [Act.put, List.setIfInBounds_toArray, List.set_cons_zero, List.set_cons_succ]))
                  (refine hold6 (v := ?_) (by kernel_rfl) (by kernel_rfl) (by kernel_rfl) (fun _ _ _ h => h) (by rfl) (fun w' hSw => ?_) (by assumption) ?_; rotate_left 1; · ((try dsimp only at hSw); (try go_simp); (try (with_reducible rfl))); (try simp only [Act.put, List.setIfInBounds_toArray, List.set_cons_zero, List.set_cons_succ]))
                  (refine hold7 (v := ?_) (by kernel_rfl) (by kernel_rfl) (by kernel_rfl) (fun _ _ _ h => h) (by rfl) (fun w' hSw => ?_) (by assumption) ?_; rotate_left 1; · ((try dsimp only at hSw); (try go_simp); (try (with_reducible rfl))); (try simp only [Act.put, List.setIfInBounds_toArray, List.set_cons_zero, List.set_cons_succ]))
                  (refine hold8 (v := ?_) (by kernel_rfl) (by kernel_rfl) (by kernel_rfl) (fun _ _ _ h => h) (by rfl) (fun w' hSw => ?_) (by assumption) ?_; rotate_left 1; · ((try dsimp only at hSw); (try go_simp); (try (with_reducible rfl))); (try simp only [Act.put, List.setIfInBounds_toArray, List.set_cons_zero, List.set_cons_succ]))
                  (refine hold9 (v := ?_) (by kernel_rfl) (by kernel_rfl) (by kernel_rfl) (fun _ _ _ h => h) (by rfl) (fun w' hSw => ?_) (by assumption) ?_; rotate_left 1; · ((try dsimp only at hSw); (try go_simp); (try (with_reducible rfl))); (try simp only [Act.put, List.setIfInBounds_toArray, List.set_cons_zero, List.set_cons_succ]))
                  (refine hold10 (v := ?_) (by kernel_rfl) (by kernel_rfl) (by kernel_rfl) (fun _ _ _ h => h) (by rfl) (fun w' hSw => ?_) (by assumption) ?_; rotate_left 1; · ((try dsimp only at hSw); (try go_simp); (try (with_reducible rfl))); (try simp only [Act.put, List.setIfInBounds_toArray, List.set_cons_zero, List.set_cons_succ]))
                  (refine hold11 (v := ?_) (by kernel_rfl) (by kernel_rfl) (by kernel_rfl) (fun _ _ _ h => h) (by rfl) (fun w' hSw => ?_) (by assumption) ?_; rotate_left 1; · ((try dsimp only at hSw); (try go_simp); (try (with_reducible rfl))); (try simp only [Act.put, List.setIfInBounds_toArray, List.set_cons_zero, List.set_cons_succ]))
                  (refine hold12 (v := ?_) (by kernel_rfl) (by kernel_rfl) (by kernel_rfl) (fun _ _ _ h => h) (by rfl) (fun w' hSw => ?_) (by assumption) ?_; rotate_left 1; · ((try dsimp only at hSw); (try go_simp); (try (with_reducible rfl))); (try simp only [Act.put, List.setIfInBounds_toArray, List.set_cons_zero, List.set_cons_succ]))
                  (refine hold13 (v := ?_) (by kernel_rfl) (by kernel_rfl) (by kernel_rfl) (fun _ _ _ h => h) (by rfl) (fun w' hSw => ?_) (by assumption) ?_; rotate_left 1; · ((try dsimp only at hSw); (try go_simp); (try (with_reducible rfl))); (try simp only [Act.put, List.setIfInBounds_toArray, List.set_cons_zero, List.set_cons_succ]))
                  (refine hold14 (v := ?_) (by kernel_rfl) (by kernel_rfl) (by kernel_rfl) (fun _ _ _ h => h) (by rfl) (fun w' hSw => ?_) (by assumption) ?_; rotate_left 1; · ((try dsimp only at hSw); (try go_simp); (try (with_reducible rfl))); (try simp only [Act.put, List.setIfInBounds_toArray, List.set_cons_zero, List.set_cons_succ]))
                  (refine hold15 (v := ?_) (by kernel_rfl) (by kernel_rfl) (by kernel_rfl) (fun _ _ _ h => h) (by rfl) (fun w' hSw => ?_) (by assumption) ?_; rotate_left 1; · ((try dsimp only at hSw); (try go_simp); (try (with_reducible rfl))); (try simp only [Act.put, List.setIfInBounds_toArray, List.set_cons_zero, List.set_cons_succ]))
                  (refine hold18 (v := ?_) (by kernel_rfl) (by kernel_rfl) (by kernel_rfl) (fun _ _ _ h => h) (by rfl) (fun w' hSw => ?_) (by assumption) ?_; rotate_left 1; · ((try dsimp only at hSw); (try go_simp); (try (with_reducible rfl))); (try simp only [Act.put, List.setIfInBounds_toArray, List.set_cons_zero, List.set_cons_succ]))
                  refine next16 (by kernel_rfl) (fun K hK => ?_)
                  go_simp
                  (refine hK.out _ _ ?_ (fun hHeld => ?_); · (exact ⟨cell_gr HS4.out.1 G, cell_gr HS4.out.2.1 G, cell_gr HS4.out.2.2.1 G, cell_gr HS4.out.2.2.2 G⟩))
                  clear hK K
                  try simp only [Act.put, List.setIfInBounds_toArray, List.set_cons_zero, List.set_cons_succ]
                  refine next17 (by kernel_rfl) (fun K hK => ?_)
                  go_simp
                  go_at_call 48
                  (with_reducible refine (Kfire_calls _ _ _ (N.tr i) (ix ks2 k).mark _ HP5.out HQ5.out HUM5.out ?_ ?_ ?_ ?_ ?_ ?_).mono ?_)
                  · have h1 := (HMK2.out k hkn).1; have h2 := HTF.out.pre; omega
                  · have h1 := (HMK2.out k hkn).1; have h2 := HTF.out.post; omega
                  · have h1 := (HMK2.out k hkn).1; omega
                  · intro p; have h1 := (HMK2.out k hkn).2 p; omega
                  · intro p; have h1 := w_nth HTF.out p; omega
                  · intro p; have h1 := w_nth HTF.out p; omega
                  rintro _ z1 ⟨vf, rfl, oF, g1⟩
                  obtain ⟨fa, fc, rfl, -, -⟩ := oF.ints.len
                  have G1 := G.trans g1
                  have HOF := Lib.hid oF
                  have HG1 := Lib.hid g1
                  (refine hK.out _ _ ?_ (fun hHeld => ?_); · (exact ⟨cell_gr HS4.out.1 G1, cell_gr HS4.out.2.1 G1, cell_gr HS4.out.2.2.1 G1, cell_gr HS4.out.2.2.2 G1⟩))
                  clear hK K
                  try simp only [Act.put, List.setIfInBounds_toArray, List.set_cons_zero, List.set_cons_succ]
                  clear oF g1
                  refine next19 (by kernel_rfl) (fun K hK => ?_)
                  go_simp
                  go_at_call 47
                  (with_reducible refine (growO_calls tb _ (k : Int) ks2 (fireK (N.tr i) (ix ks2 k).mark) y0 _ HTM5.out HG1.out HOF.out ?_ HT2.out.ups ?_ ?_ ?_ ?_ ?_).mono ?_)
                  · rw [fireK_len, (HMK2.out k hkn).1]; exact hm0
                  · omega
                  · omega
                  · omega
                  · intro j hj; rw [fireK_len, (HMK2.out j hj).1, (HMK2.out k hkn).1]
                  · rw [fireK_len, (HMK2.out k hkn).1]; omega
                  rintro _ z2 ⟨rfl, onG, g2⟩
                  have G2 := G.trans g2
                  have HG20 := Lib.hid g2
                  (refine hK.out _ _ ?_ (fun hHeld => ?_); · (exact ⟨cell_gr HS4.out.1 G2, cell_gr HS4.out.2.1 G2, cell_gr HS4.out.2.2.1 G2, cell_gr HS4.out.2.2.2 G2⟩))
                  clear hK K
                  try simp only [Act.put, List.setIfInBounds_toArray, List.set_cons_zero, List.set_cons_succ]
                  clear g2
                  (refine hold20 (v := ?_) (by kernel_rfl) (by kernel_rfl) (by kernel_rfl) (fun _ _ _ h => h) (by rfl) (fun w' hSw => ?_) (by assumption) ?_; rotate_left 1; · ((try dsimp only at hSw); (try go_simp); (try (with_reducible rfl))); (try simp only [Act.put, List.setIfInBounds_toArray, List.set_cons_zero, List.set_cons_succ]))
                  refine next21 (by kernel_rfl) (fun K hK => ?_)
                  go_simp
                  (refine hK.out _ _ ?_ (fun hHeld => ?_); · (exact ⟨cell_gr HS4.out.1 (G2.alloc _), cell_gr HS4.out.2.1 (G2.alloc _), cell_gr HS4.out.2.2.1 (G2.alloc _), cell_gr HS4.out.2.2.2 (G2.alloc _)⟩))
                  clear hK K
                  try simp only [Act.put, List.setIfInBounds_toArray, List.set_cons_zero, List.set_cons_succ]
                  obtain ⟨H, hH⟩ : ∃ x, x = z2.heap.size := ⟨_, rfl⟩
                  obtain ⟨z3, hz3⟩ : ∃ y, y = z2.alloc (.cells #[.int .i64 k, .int .i64 i, .slice fa (fireK (N.tr i) (ix ks2 k).mark).length fc] 33) := ⟨_, rfl⟩
                  rw [← hz3] at hHeld
                  rw [← hz3, ← hH]
                  have gz : Gr z2 z3 := by rw [hz3]; exact (Gr.refl _).alloc _
                  have hLit : ∀ (j : Nat) (u : Value), ([.int .i64 k, .int .i64 i, .slice fa (fireK (N.tr i) (ix ks2 k).mark).length fc] : List Value)[j]? = some u → z3.cell? ((⟨H, 0, none⟩ : Addr).add j) = some u := by rw [hz3]; exact lit_cellsH hH.symm
                  have G3 := G2.trans gz
                  have HG3 := Lib.hid ((HG2.out.trans HG4.out).trans G3)
                  have HZ0 := Lib.hid (HG20.out.trans gz)
                  have HO3 := Lib.hid (HO2.out.gr (HG4.out.trans G3))
                  have hown : ∀ b, (Value.slice (some ⟨g, ko, none⟩) ks2.length kc2).ownBlock = some b → b < w2.heap.size := fun b hb => (HO2.out.lt hb).2
                  have hy0 : w2.heap.size ≤ y0.heap.size := HG0.out.le
                  have hyw : w1.heap.size ≤ y0.heap.size := by have := HG2.out.le; omega
                  have onL := (onG.low hyw).gr gz
                  have hfb : ∀ b, (Value.slice fa (fireK (N.tr i) (ix ks2 k).mark).length fc).ownBlock = some b → y0.heap.size ≤ b ∧ b < z2.heap.size := fun b hb => onG.lt hb
                  have onK : On (fun b => b ≠ tb ∧ (Value.slice (some ⟨g, ko, none⟩) ks2.length kc2).ownBlock ≠ some b) (fun W => (knO 3 w1.heap.size).R W [.int .i64 k, .int .i64 i, .slice fa (fireK (N.tr i) (ix ks2 k).mark).length fc] ((⟨k, i, growF (anc ks2 k) (fireK (N.tr i) (ix ks2 k).mark)⟩ : KnotD), Value.slice fa (fireK (N.tr i) (ix ks2 k).mark).length fc)) z3 := (onL.on_block.imp fun W h => ⟨rfl, h⟩).mono fun b _ hb => ⟨by have := (hfb b hb).1; omega, fun e => by have := hown b e; have := (hfb b hb).1; omega⟩
                  obtain ⟨xs2, hx2, hOx2, hbm, hdis, hkvb⟩ := HO2.out.marks
                  have hOx3 := hOx2.gr (HG4.out.trans G3)
                  have hxl : xs2.length = ks2.length := by rw [hx2, List.length_map]
                  have HFB := Lib.hid hfb
                  have HXS := Lib.hid (And.intro hx2 (And.intro hbm (And.intro hdis hkvb)))
                  have HZZ := Lib.hid gz.le
                  have HOX3 := Lib.hid hOx3
                  have HXL := Lib.hid hxl
                  clear hx2 hOx2 hbm hdis hkvb hOx3 hfb onL hxl
                  have HOWN := Lib.hid hown
                  clear hz3 hH gz onG hown
                  refine next22 (by kernel_rfl) (fun K hK => ?_)
                  refine step_app_one (knoTy w1.heap.size) ?_ (.tmp 79) (.tmp 96) ?_ w1.heap.size (fun b => b ≠ tb) (.slice (some ⟨g, ko, none⟩) ks2.length kc2) xs2 ⟨H, 0, none⟩ ((⟨k, i, growF (anc ks2 k) (fireK (N.tr i) (ix ks2 k).mark)⟩ : KnotD), Value.slice fa (fireK (N.tr i) (ix ks2 k).mark).length fc) [.int .i64 k, .int .i64 i, .slice fa (fireK (N.tr i) (ix ks2 k).mark).length fc] ?_ ?_ ?_ ?_ ?_ ?_ ?_ ?_ ?_
                  · rfl
                  · rfl
                  · rfl
                  · rfl
                  · exact HOX3.out
                  · exact hLit
                  · exact onK
                  · have := HXL.out; omega
                  · have := HXL.out; unfold maxLen; omega
                  · exact HG3.out.le
                  intro g6 cp6 z4 o6 hgs6 hgb6 hat6 hlt6
                  rw [HXL.out] at o6 ⊢
                  replace o6 := OwnK.add (kv := .slice (some ⟨g, ko, none⟩) ks2.length kc2) (B := w2.heap.size) (Z := z2.heap.size) (Z' := z3.heap.size) HXS.out.1 HXS.out.2.1 HXS.out.2.2.1 HXS.out.2.2.2 (fun b hb => ⟨by have := (HFB.out b hb).1; omega, (HFB.out b hb).2⟩) rfl hat6 HZZ.out (by have := HZZ.out; have := HG20.out.le; omega) HOWN.out o6
                  have G6 : Gr w1 z4 := hgs6 w1 (Nat.le_refl _) HG3.out
                  have T3' := cell_gr HS4.out.1 G3
                  have T6 := cell_grown T3' hgb6 (fun e => HOB2.out e.symm)
                  have hz3l : tb < z3.heap.size := cell_block T3'
                  have F6 := fz_grown (fz_gr HF2.out (HG4.out.trans G3) hl2) hgb6 hz3l (fun e => HOB2.out e.symm)
                  have hxn : some w2.heap.size ≠ (Value.slice (some ⟨g, ko, none⟩) ks2.length kc2).ownBlock := fun e => by have := HOWN.out _ e.symm; omega
                  have X06 := cell_grown (cell_gr HS4.out.2.1 G3) hgb6 hxn
                  have X16 := cell_grown (cell_gr HS4.out.2.2.1 G3) hgb6 hxn
                  have X26 := cell_grown (cell_gr HS4.out.2.2.2 G3) hgb6 hxn
                  (refine hK.out _ _ ?_ (fun hHeld => ?_); · (exact ⟨T6, X06, X16, X26⟩))
                  clear hK K
                  try simp only [Act.put, List.setIfInBounds_toArray, List.set_cons_zero, List.set_cons_succ]
                  have HO6 := Lib.hid o6
                  have HN6 := Lib.hid (show g6 ≠ tb from fun e => by rcases hat6 with h | h; exact HOB2.out (by rw [h, e]); omega)
                  have F62 := F6 2
                  have HF6 := Lib.hid F6
                  clear o6 hgs6 hgb6 hat6 hlt6 F6 T3'
                  (refine hold23 (v := ?_) (by kernel_rfl) (by kernel_rfl) (by kernel_rfl) (fun _ _ _ h => h) (by rfl) (fun w' hSw => ?_) (by assumption) ?_; rotate_left 1; · ((try dsimp only at hSw); (try go_simp); (try (with_reducible rfl))); (try simp only [Act.put, List.setIfInBounds_toArray, List.set_cons_zero, List.set_cons_succ]))
                  (refine hold24 (v := ?_) (by kernel_rfl) (by kernel_rfl) (by kernel_rfl) (fun _ _ _ h => h) (by rfl) (fun w' hSw => ?_) (by assumption) ?_; rotate_left 1; · ((try dsimp only at hSw); (try go_simp); (try (with_reducible rfl))); (try simp only [Act.put, List.setIfInBounds_toArray, List.set_cons_zero, List.set_cons_succ]))
                  refine ends25 (by kernel_rfl) (fun K hK => ?_)
                  go_simp
                  refine hK.out _ _ ?_
                  clear hK K
                  go_wp2_with fail
                  have hoc : (Value.slice (some ⟨g6, 0, none⟩) (ks2.length + 1) cp6).ownBlock ≠ some tb := fun e => HN6.out (own_eq e).symm
                  refine ⟨⟨i + 1, ks2 ++ [⟨k, i, growF (anc ks2 k) (fireK (N.tr i) (ix ks2 k).mark)⟩], .slice (some ⟨g6, 0, none⟩) (ks2.length + 1) cp6, by go_num, hi, HT2.out.add hkn hi HBL.out hfull, treeTo_add HTO.out HBL.out hfull, by rw [List.length_append]; simp only [List.length_singleton]; omega, HO6.out.other hoc (by simp) _, hoc, World.cell?_setCell_same' _ _ _ (by rw [T6]; rfl), fun j => by rw [World.frozen?_setCell]; exact HF6.out j, G6.setCell (by show w1.heap.size ≤ tb; exact htw1) _⟩, by simp [intOf]; omega⟩
            · obtain rfl : i = N.trans.length := by omega
              have HT2 := Lib.hid hT2
              have HTO := Lib.hid hto
              have HO2 := Lib.hid hO2
              have HF2 := Lib.hid hF2
              have HG2 := Lib.hid hG2
              have HOB2 := Lib.hid hOB2
              clear hT2 hto hO2 hF2 hG2 hOB2
              go_wp2_with fail
              go_roundw
              case rel => exact ⟨k + 1, ks2, kv2, by go_num, by omega, HT2.out.next, by rw [← HGO.out, h301, treeGo_on hlt HAG.out HTO.out], HO2.out, HOB2.out, hC2, HF2.out, HG2.out⟩
              case measure => simp [intOf]; omega
        · have HAG := Lib.hid hag
          clear hag
          go_wp2_with (go_at_call 45; refine (again_calls tb k ks _ HTM.out HTT.out.ups hlt (by omega) (fun j hj => by have := (HMK.out j hj).1; omega)).mono ?_; rw [HAG.out]; rintro _ wA ⟨rfl, gA⟩)
          go_roundw
          case rel => exact ⟨k + 1, ks, _, by go_num, hlt, HTT.out.pass HAG.out, by rw [← HGO.out, h301, treeGo_again hlt HAG.out], HO.out.gr gA, HOB.out, cell_gr hC gA, fz_gr HF.out gA htl, HGR.out.trans gA⟩
          case measure => simp [intOf]; omega
      · have hstop : treeF N m most = (ks, 0) := treeF_some hrng hf (by rw [← hgo, show 301 - k = (300 - k) + 1 by omega]; exact treeGo_stop hlt)
        have HST := Lib.hid hstop
        have hkI : ¬ (k : Int) < (ks.length : Int) := by omega
        clear hTT hgo hO hOB hF hGr hmarks hTM hstop
        go_wp2_with fail
        go_ret2
        rw [HST.out]
        exact ⟨_, w1.heap.size, tb, rfl, HO.out.rd, HGW.out.trans HGR.out, fun _ => ⟨HO.out, HGW.out.le⟩⟩
end Go.Proofs.Ytkanaoebpajbfaa
