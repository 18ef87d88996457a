/- Contract of hall.Play. -/
import Derived.Test.YtidpppfimkhgkaaHall5
namespace Go.Tok
open Go.RowKit
set_option linter.unusedVariables false
section
variable {N : NetD} {roles : List (List Int)} {c : CaseD} {h : HalD} {o : HopD}
theorem deskL_items (l : List OpD) : (deskL N roles ⟨c, []⟩ l).1.items.length ≤ l.length := by
  rw [← deskTo_all]; exact deskTo_items _ _ _ _ _
theorem i64_2 : I64 2 := by decide
theorem hallF_ansI (hl : h.done.length ≤ 3518437208873) (ho : hopI o) : ansI (hallF N roles ⟨c, []⟩ h o).2 := by
  unfold hallF
  split
  · unfold hdoF
    split
    · exact ⟨i64_2, i64_0⟩
    · have := deskF_ansI (N := N) (roles := roles) (k := (deskL N roles ⟨c, []⟩ h.done).1) (o := o.op) (Nat.le_trans (deskL_items _) hl) ho.2.2
      split
      · exact this
      · exact this
  split
  · exact ⟨i64_0, i64_0⟩
  split
  · exact ⟨i64_0, i64_0⟩
  · exact ⟨i64_5, i64_0⟩
theorem hallF_1 (k0 : DeskD) (h1 : o.kind = 1) : hallF N roles k0 h o = hdoF N roles k0 h o.op := if_pos h1
theorem hallF_2 (k0 : DeskD) (h1 : o.kind = 2) : hallF N roles k0 h o = (⟨h.done, 7 * h.done.length⟩, ⟨0, 0⟩) := by unfold hallF; rw [if_neg (by omega), if_pos h1]
theorem hallF_3 (k0 : DeskD) (h1 : o.kind = 3) : hallF N roles k0 h o = (crashF h o.keep, ⟨0, 0⟩) := by unfold hallF; rw [if_neg (by omega), if_neg (by omega), if_pos h1]
theorem hallF_0 (k0 : DeskD) (h1 : o.kind ≠ 1) (h2 : o.kind ≠ 2) (h3 : o.kind ≠ 3) : hallF N roles k0 h o = (h, ⟨5, 0⟩) := by unfold hallF; rw [if_neg h1, if_neg h2, if_neg h3]
theorem hallL_next {k0 : DeskD} {ops : List HopD} {k : Nat} {h h2 : HalD} {l : List AnsD} {an : AnsD} (hk : k < ops.length) (h1 : hallL N roles k0 (ops.take k) = (h, l)) (h3 : hallF N roles k0 h (ix ops k) = (h2, an)) : hallL N roles k0 (ops.take (k + 1)) = (h2, l ++ [an]) := by
  rw [take_ix hk, hallL_snoc, h1]; simp only []; rw [h3]
theorem hallL_none (k0 : DeskD) (ops : List HopD) : hallL N roles k0 (ops.take 0) = (zeroH, []) := rfl
end
end Go.Tok
namespace Go.Proofs.Ytidpppfimkhgkaa
open Go.RowKit Go.Tok
set_option linter.unusedVariables false
set_option linter.unusedSimpArgs false
set_option maxHeartbeats 4000000 in
set_option maxRecDepth 100000 in
theorem HallPlay2_calls (v vr u : Value) (N : NetD) (i : Int) (roles : List (List Int)) (ops : List HopD) (w : World) (hN : NetR w v N) (hi : I64 i) (hr : Rd rowK w vr roles) (hu : Rd hopK w u ops) (hl : ops.length ≤ 2513169434916) :
    Calls Try.prog 31 #[v, .int .i64 i, vr, u] w (RetDP2 w (hallPlay N i roles ops)) := by
  have hN' := hN
  obtain ⟨a, cap, rfl, hnl, hncap, hpl, hT⟩ := hN.open_
  have hpl1 := hpl.1
  have hpl2 := hpl.2
  obtain ⟨ua, uc, rfl, ul, ul'⟩ := hu.len
  obtain ⟨ra, rc, rfl, rl, rl'⟩ := hr.len
  obtain ⟨wB, hwB⟩ : ∃ wB, wB = (w.alloc (.cells #[.int .i64 N.places, .slice a N.trans.length cap] 28)).alloc (.cells #[.slice none 0 0, .slice none 0 0, .slice none 0 0] 66) := ⟨_, rfl⟩
  have b0 : Blk wB w.heap.size 28 #[.int .i64 N.places, .slice a N.trans.length cap] := by rw [hwB]; exact (Blk.new rfl).gr ((Gr.refl _).alloc _)
  have b3 : Blk wB (w.heap.size + 1) 66 #[.slice none 0 0, .slice none 0 0, .slice none 0 0] := by rw [hwB]; exact Blk.new (by simp)
  have GA : Gr w wB := by rw [hwB]; exact ((Gr.refl _).alloc _).alloc _
  have hsB : wB.heap.size = w.heap.size + 1 + 1 := by rw [hwB]; simp
  have HSB := Lib.hid hsB
  have bH : Blk (wB.alloc (.cells #[.int .i64 N.places, .slice a N.trans.length cap, .int .i64 i, .slice ra roles.length rc, .slice none 0 0, .slice none 0 0, .int .i64 0] 160)) wB.heap.size 160 #[.int .i64 N.places, .slice a N.trans.length cap, .int .i64 i, .slice ra roles.length rc, .slice none 0 0, .slice none 0 0, .int .i64 0] := Blk.new rfl
  have GH : Gr wB (wB.alloc (.cells #[.int .i64 N.places, .slice a N.trans.length cap, .int .i64 i, .slice ra roles.length rc, .slice none 0 0, .slice none 0 0, .int .i64 0] 160)) := (Gr.refl _).alloc _
  have B0 : ((w.alloc (.cells #[.int .i64 N.places, .slice a N.trans.length cap] 28)).alloc (.cells #[.slice none 0 0, .slice none 0 0, .slice none 0 0] 66)).cell? ⟨w.heap.size, 0, none⟩ = some (.int .i64 N.places) := by rw [← hwB]; exact b0.cell (i := 0) rfl
  have B1 : ((w.alloc (.cells #[.int .i64 N.places, .slice a N.trans.length cap] 28)).alloc (.cells #[.slice none 0 0, .slice none 0 0, .slice none 0 0] 66)).cell? ⟨w.heap.size, 1, none⟩ = some (.slice a N.trans.length cap) := by rw [← hwB]; exact b0.cell (i := 1) rfl
  rcases hbg : beginF N i with ⟨c, e⟩
  have HBG := Lib.hid hbg
  have HB0 := Lib.hid b0
  go_enter Try.func31, Try.ntmps31
  go_wp2_with fail
  rw [← hwB, ← hsB]
  clear hwB B0 B1 hsB
  by_cases he : e = 0
  case neg =>
    have q1 : (e != 0) = true := by simpa using he
    have HC := Lib.hid (hallPlay_bad (roles := roles) (ops := ops) hbg he)
    have HP := Lib.hid (deskPlay_bad (roles := roles) (ops := []) hbg he)
    refine (hdesk_calls HP bH (hN.gr (GA.trans GH)) hi (hr.gr (GA.trans GH)) (Rd.nil _) (by simp)).mono ?_
    rintro _ w1 ⟨ma, ba, ia, la, mn, bn, jn, lc, rfl, i1, j1, g1⟩
    have GE : Gr w1 (w1.alloc (.cells #[.slice ma zeroK.case.mark.length mn, .slice ba zeroK.case.busy.length bn, .slice ia zeroK.items.length jn] 66)) := (Gr.refl _).alloc _
    have GZ : Gr wB (w1.alloc (.cells #[.slice ma zeroK.case.mark.length mn, .slice ba zeroK.case.busy.length bn, .slice ia zeroK.items.length jn] 66)) := (GH.trans g1).trans GE
    replace b3 := b3.gr GZ
    replace GA := GA.trans GZ
    clear hbg he bH i1 j1 g1 GE GZ GH b0
    have D0 := b3.cell (i := 0) rfl
    have F0 := b3.frozen 0
    have bq1 := b3.set 0 (.slice none 0 0)
    have D1 := bq1.cell (i := 1) rfl
    have F1 := bq1.frozen 1
    have bq2 := bq1.set 1 (.slice none 0 0)
    have D2 := bq2.cell (i := 2) rfl
    have F2 := bq2.frozen 2
    have bq3 := bq2.set 2 (.slice none 0 0)
    have E0 := bq3.cell (i := 0) rfl
    have E1 := bq3.cell (i := 1) rfl
    have E2 := bq3.cell (i := 2) rfl
    clear b3 bq1 bq2 bq3
    go_wp2_with fail
    refine bodyPost_ret (v := .tuple #[.agg #[.slice none 0 0, .slice none 0 0, .slice none 0 0], .slice none 0 0, .int .i64 e]) (by simp [results, Try.results31, go_sem, E0, E1, E2]) rfl ?_
    refine RetDP2.mk HC.out ((On.true (p := True) trivial).imp fun w _ => DeskR.mk_ (k := zeroK) (Ints.nil _) (Ints.nil _) (Rd.nil _)) ((On.true (p := True) trivial).imp fun w _ => Rd.nil _) ?_
    iterate 3 (refine Gr.setCell ?_ (by simp; try omega) _)
    exact GA
  subst he
  have HC := Lib.hid (hallPlay_ok (roles := roles) (ops := ops) hbg)
  have HP := Lib.hid (show deskPlay N i roles [] = ((⟨c, []⟩, []), 0) from hall_desk hbg [])
  refine (hdesk_calls HP bH (hN.gr (GA.trans GH)) hi (hr.gr (GA.trans GH)) (Rd.nil _) (by simp)).mono ?_
  rintro _ w1 ⟨ma, ba, ia, la, mn, bn, jn, lc, rfl, i1, j1, g1⟩
  have GE : Gr w1 (w1.alloc (.cells #[.slice ma c.mark.length mn, .slice ba c.busy.length bn, .slice ia 0 jn] 66)) := (Gr.refl _).alloc _
  have GZ := (g1.trans GE)
  have bHZ := bH.gr GZ
  have GBZ := GH.trans GZ
  have HW0 : HOwn 59 5 75 wB wB.heap.size w.heap.size 28 #[.int .i64 N.places, .slice a N.trans.length cap] (.slice none 0 0) [] (.slice none 0 0) [] (.slice none 0 0) [] (w1.alloc (.cells #[.slice ma c.mark.length mn, .slice ba c.busy.length bn, .slice ia 0 jn] 66)) :=
    ⟨OwnR.nil _ _ _ _, OwnR.nil _ _ _ _, OwnR.nil _ _ _ _, Nat.le_refl _, bHZ.lt, (by simp [Value.ownBlock]), (by simp [Value.ownBlock]), (by simp [Value.ownBlock]), (fun b h => by simp [Value.ownBlock] at h), (fun b h => by simp [Value.ownBlock] at h), (fun b h => by simp [Value.ownBlock] at h), GBZ, b0.gr GBZ, (by have := HSB.out; omega), (by simp [Value.ownBlock]), (by simp [Value.ownBlock]), (by simp [Value.ownBlock])⟩
  have RH0 : RetH w.heap.size 28 #[.int .i64 N.places, .slice a N.trans.length cap] wB N a cap i ra roles.length rc wB.heap.size (.slice none 0 0) [] zeroH (w1.alloc (.cells #[.slice ma c.mark.length mn, .slice ba c.busy.length bn, .slice ia 0 jn] 66)) := ⟨_, _, bHZ, by rw [show wrL zeroH.done = [] from (by rw [wrL_flat]; rfl)]; exact HW0⟩
  clear bH bHZ HW0 i1 j1 g1 GE GH hbg b0
  go_wp2_with fail
  generalize w1.alloc (.cells #[.slice ma c.mark.length mn, .slice ba c.busy.length bn, .slice ia 0 jn] 66) = wS at RH0 GZ GBZ ⊢
  have HN0 := Lib.hid (hN.gr GA)
  have HR0 := Lib.hid (hr.gr GA)
  have HU0 := Lib.hid (hu.gr GA)
  have HB3 := Lib.hid b3
  have HGA := Lib.hid GA
  clear GZ GBZ hN' hN hT hr hu b3 GA
  go_loopw [15, 39] (fun outv q wr => ∃ (k : Nat) (h : HalD) (l : List AnsD), k ≤ ops.length ∧ q = .int .i64 k ∧ Hid (hallL N roles ⟨c, []⟩ (ops.take k) = (h, l)) ∧ RetH w.heap.size 28 #[.int .i64 N.places, .slice a N.trans.length cap] wB N a cap i ra roles.length rc wB.heap.size outv l h wr) (fun _ q _ => ops.length - (intOf q).toNat)
  case atStart => exact ⟨0, zeroH, [], Nat.zero_le _, rfl, Lib.hid (hallL_none _ _), RH0⟩
  case round =>
    rename_i wr
    obtain ⟨k, h, l, hk, rfl, HPL, hRH⟩ := hrel
    have hgr := hRH.gr
    by_cases hlt : k < ops.length
    · obtain ⟨ub, uo, rfl, u0, u1, u2, u3, u4, u5, u6, hI⟩ := (HU0.out.gr hgr).hop hlt
      have hkI : (k : Int) < (ops.length : Int) := by omega
      have hdn := hallL_done (N := N) (roles := roles) (k0 := ⟨c, []⟩) (ops.take k)
      have hll := hallL_len (N := N) (roles := roles) (k0 := ⟨c, []⟩) (ops.take k)
      have hok := hallL_ok (N := N) (roles := roles) (k0 := ⟨c, []⟩) (ops.take k)
      rw [HPL.out] at hdn hll hok
      simp only [List.length_take] at hdn hll hok
      have hd3 : h.done.length + 1 ≤ 3518437208873 := by omega
      have hd4 : h.done.length ≤ 3518437208873 := by omega
      have hn1 : (l.length + 1) * 16 ≤ 140737488355328 := by omega
      have hn2 : l.length + 1 ≤ maxLen := by unfold maxLen; omega
      rcases hF : hallF N roles ⟨c, []⟩ h (ix ops k) with ⟨h2, an⟩
      have HPL2 := Lib.hid (hallL_next hlt HPL.out hF)
      have hai := hallF_ansI (N := N) (roles := roles) (c := c) hd4 hI
      rw [hF] at hai
      simp only [] at hai
      have HF := Lib.hid hF
      have GO : Gr wr ((wr.alloc (.cells #[.int .i64 (ix ops k).kind, .int .i64 (ix ops k).keep, .int .i64 (ix ops k).op.kind, .int .i64 (ix ops k).op.user, .int .i64 (ix ops k).op.tran, .int .i64 (ix ops k).op.item, .int .i64 (ix ops k).op.to] 61)).alloc (.cells #[.int .i64 0, .int .i64 0] 75)) := ((Gr.refl _).alloc _).alloc _
      have bO : Blk ((wr.alloc (.cells #[.int .i64 (ix ops k).kind, .int .i64 (ix ops k).keep, .int .i64 (ix ops k).op.kind, .int .i64 (ix ops k).op.user, .int .i64 (ix ops k).op.tran, .int .i64 (ix ops k).op.item, .int .i64 (ix ops k).op.to] 61)).alloc (.cells #[.int .i64 0, .int .i64 0] 75)) wr.heap.size 61 #[.int .i64 (ix ops k).kind, .int .i64 (ix ops k).keep, .int .i64 (ix ops k).op.kind, .int .i64 (ix ops k).op.user, .int .i64 (ix ops k).op.tran, .int .i64 (ix ops k).op.item, .int .i64 (ix ops k).op.to] := (Blk.new rfl).gr ((Gr.refl _).alloc _)
      have bA : Blk ((wr.alloc (.cells #[.int .i64 (ix ops k).kind, .int .i64 (ix ops k).keep, .int .i64 (ix ops k).op.kind, .int .i64 (ix ops k).op.user, .int .i64 (ix ops k).op.tran, .int .i64 (ix ops k).op.item, .int .i64 (ix ops k).op.to] 61)).alloc (.cells #[.int .i64 0, .int .i64 0] 75)) (wr.heap.size + 1) 75 #[.int .i64 0, .int .i64 0] := Blk.new (by simp)
      have HRH := Lib.hid hRH
      obtain ⟨dv, bv, bH, H⟩ := hRH
      have hhbl := H.hl
      have HQ : RetH (wr.heap.size + 1) 75 #[.int .i64 0, .int .i64 0] wB N a cap i ra roles.length rc wB.heap.size u15 l h ((wr.alloc (.cells #[.int .i64 (ix ops k).kind, .int .i64 (ix ops k).keep, .int .i64 (ix ops k).op.kind, .int .i64 (ix ops k).op.user, .int .i64 (ix ops k).op.tran, .int .i64 (ix ops k).op.item, .int .i64 (ix ops k).op.to] 61)).alloc (.cells #[.int .i64 0, .int .i64 0] 75)) :=
        ⟨dv, bv, bH.gr GO, (H.mv GO).spare bA (by omega) (fun e => by have := (H.done.lt e).2; omega) (fun e => by have := (H.bytes.lt e).2; omega) (fun e => by have := (H.ans.lt e).2; omega)⟩
      have O0 := bO.cell (i := 0) rfl
      have O1 := bO.cell (i := 1) rfl
      have O2 := bO.cell (i := 2) rfl
      have O3 := bO.cell (i := 3) rfl
      have O4 := bO.cell (i := 4) rfl
      have O5 := bO.cell (i := 5) rfl
      have O6 := bO.cell (i := 6) rfl
      have hwa : wB.heap.size ≤ wr.heap.size + 1 := by have := hgr.le; omega
      clear bO bA bH H hF GO HPL hdn hll
      by_cases p1 : (ix ops k).kind = 1
      · have q1 : ((ix ops k).kind == 1) = true := by simpa using p1
        have HD := Lib.hid ((hallF_1 (N := N) (roles := roles) ⟨c, []⟩ p1).symm.trans HF.out)
        clear p1
        obtain ⟨er, it⟩ := an
        go_wp2_with fail
        generalize (wr.alloc (.cells #[.int .i64 (ix ops k).kind, .int .i64 (ix ops k).keep, .int .i64 (ix ops k).op.kind, .int .i64 (ix ops k).op.user, .int .i64 (ix ops k).op.tran, .int .i64 (ix ops k).op.item, .int .i64 (ix ops k).op.to] 61)).alloc (.cells #[.int .i64 0, .int .i64 0] 75) = wC at HQ O0 O1 O2 O3 O4 O5 O6 ⊢
        refine (hdo_calls HN0.out hi HR0.out HBG.out HQ hI.2.2 hd3 HD).mono ?_
        rintro _ w2 ⟨rfl, dv2, bv2, bH2, H2⟩
        have E0 := H2.eb.cell (i := 0) (v := .int .i64 0) rfl
        have EF0 := H2.eb.frozen 0
        have H2a := H2.fill hwa 0 (.int .i64 er)
        have E1 := H2a.eb.cell (i := 1) (v := .int .i64 0) rfl
        have EF1 := H2a.eb.frozen 1
        have H2b := H2a.fill hwa 1 (.int .i64 it)
        have HQ3 : RetH (wr.heap.size + 1) 75 #[.int .i64 er, .int .i64 it] wB N a cap i ra roles.length rc wB.heap.size u15 l h2 ((w2.setCell ⟨wr.heap.size + 1, 0, none⟩ (.int .i64 er)).setCell ⟨wr.heap.size + 1, 1, none⟩ (.int .i64 it)) :=
          ⟨dv2, bv2, (bH2.other (a := ⟨wr.heap.size + 1, 0, none⟩) (by simp; omega) (.int .i64 er)).other (a := ⟨wr.heap.size + 1, 1, none⟩) (by simp; omega) (.int .i64 it), H2b⟩
        clear bH2 H2 H2a H2b HQ O0 O1 O2 O3 O4 O5 O6 u0 u1 u2 u3 u4 u5 u6
        obtain ⟨dv3, bv3, bH3, H3⟩ := HQ3
        have Z0 := H3.eb.cell (i := 0) (v := .int .i64 (er)) rfl
        have Z1 := H3.eb.cell (i := 1) (v := .int .i64 (it)) rfl
        have GE3 : Gr ((w2.setCell ⟨wr.heap.size + 1, 0, none⟩ (.int .i64 er)).setCell ⟨wr.heap.size + 1, 1, none⟩ (.int .i64 it)) (((w2.setCell ⟨wr.heap.size + 1, 0, none⟩ (.int .i64 er)).setCell ⟨wr.heap.size + 1, 1, none⟩ (.int .i64 it)).alloc (.cells #[.int .i64 (er), .int .i64 (it)] 75)) := (Gr.refl _).alloc _
        have hlit : ∀ (j : Nat) (u : Value), (#[Value.int .i64 (er), .int .i64 (it)] : Array Value).toList[j]? = some u → (((w2.setCell ⟨wr.heap.size + 1, 0, none⟩ (.int .i64 er)).setCell ⟨wr.heap.size + 1, 1, none⟩ (.int .i64 it)).alloc (.cells #[.int .i64 (er), .int .i64 (it)] 75)).cell? ((⟨w2.heap.size, 0, none⟩ : Addr).add j) = some u := by
          have hq := lit_cells ((w2.setCell ⟨wr.heap.size + 1, 0, none⟩ (.int .i64 er)).setCell ⟨wr.heap.size + 1, 1, none⟩ (.int .i64 it)) #[.int .i64 (er), .int .i64 (it)] 75
          rw [show ((w2.setCell ⟨wr.heap.size + 1, 0, none⟩ (.int .i64 er)).setCell ⟨wr.heap.size + 1, 1, none⟩ (.int .i64 it)).heap.size = w2.heap.size from by simp] at hq
          exact hq
        have HL := Lib.hid hlit
        have HH4 := Lib.hid (H3.mv GE3)
        have HB4 := Lib.hid (bH3.gr GE3)
        have HAI := Lib.hid hai
        clear bH3 H3 GE3 hlit hai
        go_wp2_with (at_builtin; go_loud (refine app_one ansTy _ _ wB.heap.size NoB u15 l ⟨w2.heap.size, 0, none⟩ ⟨er, it⟩ [.int .i64 (er), .int .i64 (it)] (by rfl) (by rfl) (by rfl) (by rfl) HH4.out.ans HL.out (On.true (p := [Value.int .i64 (er), .int .i64 (it)] = ansCells ⟨er, it⟩ ∧ ansI ⟨er, it⟩) ⟨rfl, HAI.out⟩) hn1 hn2 HH4.out.gr.le ?_; intro v' w5 ho5 hgs hgb hat))
        go_roundw
        case rel =>
          have H5 := HH4.out.appA ho5 hgs hgb hat
          have bH5 := HB4.out.grown hgb (fun e => HH4.out.d3 e.symm)
          have hfb : wB.heap.size = w.heap.size + 1 + 1 := HSB.out
          refine ⟨k + 1, h2, l ++ [⟨er, it⟩], by omega, by go_num, HPL2, _, _, bH5, H5.spare (HB0.out.gr H5.gr) (by omega) (fun e => ?_) (fun e => ?_) (fun e => ?_)⟩
          · have := (H5.done.lt e).1; omega
          · have := (H5.bytes.lt e).1; omega
          · have := (H5.ans.lt e).1; omega
        case measure => simp [intOf]; omega
      have q1 : ((ix ops k).kind == 1) = false := by simpa using p1
      by_cases p2 : (ix ops k).kind = 2
      · have q2 : ((ix ops k).kind == 2) = true := by simpa using p2
        obtain ⟨e2, rfl⟩ := Prod.mk.inj ((hallF_2 (N := N) (roles := roles) ⟨c, []⟩ p2).symm.trans HF.out)
        obtain ⟨dv, bv, bH, H⟩ := HQ
        obtain ⟨ba, bc, hbv, -, -⟩ := H.bytes.len
        rw [wrL_len] at hbv
        subst hbv
        have C5 := bH.cell (i := 5) (v := .slice ba (7 * h.done.length) bc) rfl
        have C6 := bH.cell (i := 6) (v := .int .i64 (h.sure : Int)) rfl
        have CF6 := bH.frozen 6
        have e7 : ((7 * h.done.length : Nat) : Int) = 7 * (h.done.length : Int) := by omega
        obtain ⟨dw, bw, bHw, Hw⟩ := HRH.out
        obtain ⟨ba2, bc2, hbw, -, -⟩ := Hw.bytes.len
        rw [wrL_len] at hbw
        subst hbw
        have hsz6 : (wr.setCell ⟨wB.heap.size, 6, none⟩ (.int .i64 (7 * (h.done.length : Int)))).heap.size = wr.heap.size := by simp
        have bH2 := bHw.set 6 (.int .i64 (7 * (h.done.length : Int)))
        have H2 := Hw.set 6 (.int .i64 (7 * (h.done.length : Int)))
        have bH3 : Blk (wr.setCell ⟨wB.heap.size, 6, none⟩ (.int .i64 (7 * (h.done.length : Int)))) wB.heap.size 160 #[.int .i64 N.places, .slice a N.trans.length cap, .int .i64 i, .slice ra roles.length rc, dw, .slice ba2 (7 * h.done.length) bc2, .int .i64 ((7 * h.done.length : Nat) : Int)] := by rw [e7]; exact bH2
        have GO6 : Gr (wr.setCell ⟨wB.heap.size, 6, none⟩ (.int .i64 (7 * (h.done.length : Int)))) (((wr.setCell ⟨wB.heap.size, 6, none⟩ (.int .i64 (7 * (h.done.length : Int)))).alloc (.cells #[.int .i64 (ix ops k).kind, .int .i64 (ix ops k).keep, .int .i64 (ix ops k).op.kind, .int .i64 (ix ops k).op.user, .int .i64 (ix ops k).op.tran, .int .i64 (ix ops k).op.item, .int .i64 (ix ops k).op.to] 61)).alloc (.cells #[.int .i64 0, .int .i64 0] 75)) := ((Gr.refl _).alloc _).alloc _
        have bA6 : Blk (((wr.setCell ⟨wB.heap.size, 6, none⟩ (.int .i64 (7 * (h.done.length : Int)))).alloc (.cells #[.int .i64 (ix ops k).kind, .int .i64 (ix ops k).keep, .int .i64 (ix ops k).op.kind, .int .i64 (ix ops k).op.user, .int .i64 (ix ops k).op.tran, .int .i64 (ix ops k).op.item, .int .i64 (ix ops k).op.to] 61)).alloc (.cells #[.int .i64 0, .int .i64 0] 75)) (wr.heap.size + 1) 75 #[.int .i64 0, .int .i64 0] := Blk.new (by simp)
        have HQ3 : RetH (wr.heap.size + 1) 75 #[.int .i64 0, .int .i64 0] wB N a cap i ra roles.length rc wB.heap.size u15 l h2 (((wr.setCell ⟨wB.heap.size, 6, none⟩ (.int .i64 (7 * (h.done.length : Int)))).alloc (.cells #[.int .i64 (ix ops k).kind, .int .i64 (ix ops k).keep, .int .i64 (ix ops k).op.kind, .int .i64 (ix ops k).op.user, .int .i64 (ix ops k).op.tran, .int .i64 (ix ops k).op.item, .int .i64 (ix ops k).op.to] 61)).alloc (.cells #[.int .i64 0, .int .i64 0] 75)) := by
          rw [← e2]; exact ⟨dw, _, bH3.gr GO6, (H2.mv GO6).spare bA6 (by omega) (fun e => by have := (Hw.done.lt e).2; omega) (fun e => by have := (Hw.bytes.lt e).2; omega) (fun e => by have := (Hw.ans.lt e).2; omega)⟩
        clear p1 p2 e2 e7 bH bH2 bH3 H H2 Hw bHw GO6 bA6 hsz6
        obtain ⟨dv3, bv3, bH3, H3⟩ := HQ3
        have Z0 := H3.eb.cell (i := 0) (v := .int .i64 (0)) rfl
        have Z1 := H3.eb.cell (i := 1) (v := .int .i64 (0)) rfl
        have GE3 : Gr (((wr.setCell ⟨wB.heap.size, 6, none⟩ (.int .i64 (7 * (h.done.length : Int)))).alloc (.cells #[.int .i64 (ix ops k).kind, .int .i64 (ix ops k).keep, .int .i64 (ix ops k).op.kind, .int .i64 (ix ops k).op.user, .int .i64 (ix ops k).op.tran, .int .i64 (ix ops k).op.item, .int .i64 (ix ops k).op.to] 61)).alloc (.cells #[.int .i64 0, .int .i64 0] 75)) ((((wr.setCell ⟨wB.heap.size, 6, none⟩ (.int .i64 (7 * (h.done.length : Int)))).alloc (.cells #[.int .i64 (ix ops k).kind, .int .i64 (ix ops k).keep, .int .i64 (ix ops k).op.kind, .int .i64 (ix ops k).op.user, .int .i64 (ix ops k).op.tran, .int .i64 (ix ops k).op.item, .int .i64 (ix ops k).op.to] 61)).alloc (.cells #[.int .i64 0, .int .i64 0] 75)).alloc (.cells #[.int .i64 (0), .int .i64 (0)] 75)) := (Gr.refl _).alloc _
        have hlit : ∀ (j : Nat) (u : Value), (#[Value.int .i64 (0), .int .i64 (0)] : Array Value).toList[j]? = some u → ((((wr.setCell ⟨wB.heap.size, 6, none⟩ (.int .i64 (7 * (h.done.length : Int)))).alloc (.cells #[.int .i64 (ix ops k).kind, .int .i64 (ix ops k).keep, .int .i64 (ix ops k).op.kind, .int .i64 (ix ops k).op.user, .int .i64 (ix ops k).op.tran, .int .i64 (ix ops k).op.item, .int .i64 (ix ops k).op.to] 61)).alloc (.cells #[.int .i64 0, .int .i64 0] 75)).alloc (.cells #[.int .i64 (0), .int .i64 (0)] 75)).cell? ((⟨wr.heap.size + 1 + 1, 0, none⟩ : Addr).add j) = some u := by
          have hq := lit_cells (((wr.setCell ⟨wB.heap.size, 6, none⟩ (.int .i64 (7 * (h.done.length : Int)))).alloc (.cells #[.int .i64 (ix ops k).kind, .int .i64 (ix ops k).keep, .int .i64 (ix ops k).op.kind, .int .i64 (ix ops k).op.user, .int .i64 (ix ops k).op.tran, .int .i64 (ix ops k).op.item, .int .i64 (ix ops k).op.to] 61)).alloc (.cells #[.int .i64 0, .int .i64 0] 75)) #[.int .i64 (0), .int .i64 (0)] 75
          rw [show (((wr.setCell ⟨wB.heap.size, 6, none⟩ (.int .i64 (7 * (h.done.length : Int)))).alloc (.cells #[.int .i64 (ix ops k).kind, .int .i64 (ix ops k).keep, .int .i64 (ix ops k).op.kind, .int .i64 (ix ops k).op.user, .int .i64 (ix ops k).op.tran, .int .i64 (ix ops k).op.item, .int .i64 (ix ops k).op.to] 61)).alloc (.cells #[.int .i64 0, .int .i64 0] 75)).heap.size = wr.heap.size + 1 + 1 from by simp] at hq
          exact hq
        have HL := Lib.hid hlit
        have HH4 := Lib.hid (H3.mv GE3)
        have HB4 := Lib.hid (bH3.gr GE3)
        have HAI := Lib.hid hai
        clear bH3 H3 GE3 hlit hai
        go_wp2_with (at_builtin; go_loud (refine app_one ansTy _ _ wB.heap.size NoB u15 l ⟨wr.heap.size + 1 + 1, 0, none⟩ ⟨0, 0⟩ [.int .i64 (0), .int .i64 (0)] (by rfl) (by rfl) (by rfl) (by rfl) HH4.out.ans HL.out (On.true (p := [Value.int .i64 (0), .int .i64 (0)] = ansCells ⟨0, 0⟩ ∧ ansI ⟨0, 0⟩) ⟨rfl, HAI.out⟩) hn1 hn2 HH4.out.gr.le ?_; intro v' w5 ho5 hgs hgb hat))
        go_roundw
        case rel =>
          have H5 := HH4.out.appA ho5 hgs hgb hat
          have bH5 := HB4.out.grown hgb (fun e => HH4.out.d3 e.symm)
          have hfb : wB.heap.size = w.heap.size + 1 + 1 := HSB.out
          refine ⟨k + 1, h2, l ++ [⟨0, 0⟩], by omega, by go_num, HPL2, _, _, bH5, H5.spare (HB0.out.gr H5.gr) (by omega) (fun e => ?_) (fun e => ?_) (fun e => ?_)⟩
          · have := (H5.done.lt e).1; omega
          · have := (H5.bytes.lt e).1; omega
          · have := (H5.ans.lt e).1; omega
        case measure => simp [intOf]; omega
      have q2 : ((ix ops k).kind == 2) = false := by simpa using p2
      by_cases p3 : (ix ops k).kind = 3
      · have q3 : ((ix ops k).kind == 3) = true := by simpa using p3
        obtain ⟨e2, rfl⟩ := Prod.mk.inj ((hallF_3 (N := N) (roles := roles) ⟨c, []⟩ p3).symm.trans HF.out)
        have HE2 := Lib.hid e2
        clear p1 p2 p3 e2
        go_wp2_with fail
        generalize (wr.alloc (.cells #[.int .i64 (ix ops k).kind, .int .i64 (ix ops k).keep, .int .i64 (ix ops k).op.kind, .int .i64 (ix ops k).op.user, .int .i64 (ix ops k).op.tran, .int .i64 (ix ops k).op.item, .int .i64 (ix ops k).op.to] 61)).alloc (.cells #[.int .i64 0, .int .i64 0] 75) = wC at HQ O0 O1 O2 O3 O4 O5 O6 ⊢
        refine (hcrash_calls HQ hok hI.2.1 hd4).mono ?_
        rw [HE2.out]; rintro _ w2 ⟨rfl, HQ3⟩
        clear HQ O0 O1 O2 O3 O4 O5 O6 u0 u1 u2 u3 u4 u5 u6
        obtain ⟨dv3, bv3, bH3, H3⟩ := HQ3
        have Z0 := H3.eb.cell (i := 0) (v := .int .i64 (0)) rfl
        have Z1 := H3.eb.cell (i := 1) (v := .int .i64 (0)) rfl
        have GE3 : Gr (w2) ((w2).alloc (.cells #[.int .i64 (0), .int .i64 (0)] 75)) := (Gr.refl _).alloc _
        have hlit : ∀ (j : Nat) (u : Value), (#[Value.int .i64 (0), .int .i64 (0)] : Array Value).toList[j]? = some u → ((w2).alloc (.cells #[.int .i64 (0), .int .i64 (0)] 75)).cell? ((⟨w2.heap.size, 0, none⟩ : Addr).add j) = some u := by
          have hq := lit_cells (w2) #[.int .i64 (0), .int .i64 (0)] 75
          rw [show (w2).heap.size = w2.heap.size from by simp] at hq
          exact hq
        have HL := Lib.hid hlit
        have HH4 := Lib.hid (H3.mv GE3)
        have HB4 := Lib.hid (bH3.gr GE3)
        have HAI := Lib.hid hai
        clear bH3 H3 GE3 hlit hai
        go_wp2_with (at_builtin; go_loud (refine app_one ansTy _ _ wB.heap.size NoB u15 l ⟨w2.heap.size, 0, none⟩ ⟨0, 0⟩ [.int .i64 (0), .int .i64 (0)] (by rfl) (by rfl) (by rfl) (by rfl) HH4.out.ans HL.out (On.true (p := [Value.int .i64 (0), .int .i64 (0)] = ansCells ⟨0, 0⟩ ∧ ansI ⟨0, 0⟩) ⟨rfl, HAI.out⟩) hn1 hn2 HH4.out.gr.le ?_; intro v' w5 ho5 hgs hgb hat))
        go_roundw
        case rel =>
          have H5 := HH4.out.appA ho5 hgs hgb hat
          have bH5 := HB4.out.grown hgb (fun e => HH4.out.d3 e.symm)
          have hfb : wB.heap.size = w.heap.size + 1 + 1 := HSB.out
          refine ⟨k + 1, h2, l ++ [⟨0, 0⟩], by omega, by go_num, HPL2, _, _, bH5, H5.spare (HB0.out.gr H5.gr) (by omega) (fun e => ?_) (fun e => ?_) (fun e => ?_)⟩
          · have := (H5.done.lt e).1; omega
          · have := (H5.bytes.lt e).1; omega
          · have := (H5.ans.lt e).1; omega
        case measure => simp [intOf]; omega
      · have q3 : ((ix ops k).kind == 3) = false := by simpa using p3
        obtain ⟨e2, rfl⟩ := Prod.mk.inj ((hallF_0 (N := N) (roles := roles) ⟨c, []⟩ p1 p2 p3).symm.trans HF.out)
        obtain ⟨dv, bv, bH, H⟩ := HRH.out
        have GO6 : Gr wr ((wr.alloc (.cells #[.int .i64 (ix ops k).kind, .int .i64 (ix ops k).keep, .int .i64 (ix ops k).op.kind, .int .i64 (ix ops k).op.user, .int .i64 (ix ops k).op.tran, .int .i64 (ix ops k).op.item, .int .i64 (ix ops k).op.to] 61)).alloc (.cells #[.int .i64 5, .int .i64 0] 75)) := ((Gr.refl _).alloc _).alloc _
        have bA6 : Blk ((wr.alloc (.cells #[.int .i64 (ix ops k).kind, .int .i64 (ix ops k).keep, .int .i64 (ix ops k).op.kind, .int .i64 (ix ops k).op.user, .int .i64 (ix ops k).op.tran, .int .i64 (ix ops k).op.item, .int .i64 (ix ops k).op.to] 61)).alloc (.cells #[.int .i64 5, .int .i64 0] 75)) (wr.heap.size + 1) 75 #[.int .i64 5, .int .i64 0] := Blk.new (by simp)
        have HQ3 : RetH (wr.heap.size + 1) 75 #[.int .i64 5, .int .i64 0] wB N a cap i ra roles.length rc wB.heap.size u15 l h2 ((wr.alloc (.cells #[.int .i64 (ix ops k).kind, .int .i64 (ix ops k).keep, .int .i64 (ix ops k).op.kind, .int .i64 (ix ops k).op.user, .int .i64 (ix ops k).op.tran, .int .i64 (ix ops k).op.item, .int .i64 (ix ops k).op.to] 61)).alloc (.cells #[.int .i64 5, .int .i64 0] 75)) := by
          rw [← e2]; exact ⟨dv, bv, bH.gr GO6, (H.mv GO6).spare bA6 (by omega) (fun e => by have := (H.done.lt e).2; omega) (fun e => by have := (H.bytes.lt e).2; omega) (fun e => by have := (H.ans.lt e).2; omega)⟩
        clear p1 p2 p3 e2 bH H GO6 bA6
        obtain ⟨dv3, bv3, bH3, H3⟩ := HQ3
        have Z0 := H3.eb.cell (i := 0) (v := .int .i64 (5)) rfl
        have Z1 := H3.eb.cell (i := 1) (v := .int .i64 (0)) rfl
        have GE3 : Gr ((wr.alloc (.cells #[.int .i64 (ix ops k).kind, .int .i64 (ix ops k).keep, .int .i64 (ix ops k).op.kind, .int .i64 (ix ops k).op.user, .int .i64 (ix ops k).op.tran, .int .i64 (ix ops k).op.item, .int .i64 (ix ops k).op.to] 61)).alloc (.cells #[.int .i64 5, .int .i64 0] 75)) (((wr.alloc (.cells #[.int .i64 (ix ops k).kind, .int .i64 (ix ops k).keep, .int .i64 (ix ops k).op.kind, .int .i64 (ix ops k).op.user, .int .i64 (ix ops k).op.tran, .int .i64 (ix ops k).op.item, .int .i64 (ix ops k).op.to] 61)).alloc (.cells #[.int .i64 5, .int .i64 0] 75)).alloc (.cells #[.int .i64 (5), .int .i64 (0)] 75)) := (Gr.refl _).alloc _
        have hlit : ∀ (j : Nat) (u : Value), (#[Value.int .i64 (5), .int .i64 (0)] : Array Value).toList[j]? = some u → (((wr.alloc (.cells #[.int .i64 (ix ops k).kind, .int .i64 (ix ops k).keep, .int .i64 (ix ops k).op.kind, .int .i64 (ix ops k).op.user, .int .i64 (ix ops k).op.tran, .int .i64 (ix ops k).op.item, .int .i64 (ix ops k).op.to] 61)).alloc (.cells #[.int .i64 5, .int .i64 0] 75)).alloc (.cells #[.int .i64 (5), .int .i64 (0)] 75)).cell? ((⟨wr.heap.size + 1 + 1, 0, none⟩ : Addr).add j) = some u := by
          have hq := lit_cells ((wr.alloc (.cells #[.int .i64 (ix ops k).kind, .int .i64 (ix ops k).keep, .int .i64 (ix ops k).op.kind, .int .i64 (ix ops k).op.user, .int .i64 (ix ops k).op.tran, .int .i64 (ix ops k).op.item, .int .i64 (ix ops k).op.to] 61)).alloc (.cells #[.int .i64 5, .int .i64 0] 75)) #[.int .i64 (5), .int .i64 (0)] 75
          rw [show ((wr.alloc (.cells #[.int .i64 (ix ops k).kind, .int .i64 (ix ops k).keep, .int .i64 (ix ops k).op.kind, .int .i64 (ix ops k).op.user, .int .i64 (ix ops k).op.tran, .int .i64 (ix ops k).op.item, .int .i64 (ix ops k).op.to] 61)).alloc (.cells #[.int .i64 5, .int .i64 0] 75)).heap.size = wr.heap.size + 1 + 1 from by simp] at hq
          exact hq
        have HL := Lib.hid hlit
        have HH4 := Lib.hid (H3.mv GE3)
        have HB4 := Lib.hid (bH3.gr GE3)
        have HAI := Lib.hid hai
        clear bH3 H3 GE3 hlit hai
        go_wp2_with (at_builtin; go_loud (refine app_one ansTy _ _ wB.heap.size NoB u15 l ⟨wr.heap.size + 1 + 1, 0, none⟩ ⟨5, 0⟩ [.int .i64 (5), .int .i64 (0)] (by rfl) (by rfl) (by rfl) (by rfl) HH4.out.ans HL.out (On.true (p := [Value.int .i64 (5), .int .i64 (0)] = ansCells ⟨5, 0⟩ ∧ ansI ⟨5, 0⟩) ⟨rfl, HAI.out⟩) hn1 hn2 HH4.out.gr.le ?_; intro v' w5 ho5 hgs hgb hat))
        go_roundw
        case rel =>
          have H5 := HH4.out.appA ho5 hgs hgb hat
          have bH5 := HB4.out.grown hgb (fun e => HH4.out.d3 e.symm)
          have hfb : wB.heap.size = w.heap.size + 1 + 1 := HSB.out
          refine ⟨k + 1, h2, l ++ [⟨5, 0⟩], by omega, by go_num, HPL2, _, _, bH5, H5.spare (HB0.out.gr H5.gr) (by omega) (fun e => ?_) (fun e => ?_) (fun e => ?_)⟩
          · have := (H5.done.lt e).1; omega
          · have := (H5.bytes.lt e).1; omega
          · have := (H5.ans.lt e).1; omega
        case measure => simp [intOf]; omega
    · obtain rfl : k = ops.length := by omega
      have hdn := hallL_done (N := N) (roles := roles) (k0 := ⟨c, []⟩) (ops.take ops.length)
      rw [HPL.out] at hdn
      simp only [List.length_take] at hdn
      have hd4 : h.done.length ≤ 3518437208873 := by omega
      have HPF : hallL N roles ⟨c, []⟩ ops = (h, l) := by have := HPL.out; rwa [List.take_length] at this
      rcases hdk : deskL N roles ⟨c, []⟩ h.done with ⟨kd, ld⟩
      have HP2 := Lib.hid (show deskPlay N i roles h.done = ((kd, ld), 0) from (hall_desk HBG.out h.done).trans (by rw [hdk]))
      have HC2 := Lib.hid (show hallPlay N i roles ops = ((kd, l), 0) from by rw [HC.out, HPF]; simp only []; rw [hdk])
      obtain ⟨dv, bv, bH, H⟩ := hRH
      obtain ⟨oa, on, rfl, -, -⟩ := H.ans.len
      clear hdk HPF hdn
      go_wp2_with fail
      refine (hdesk_calls HP2 bH (HN0.out.gr hgr) hi (HR0.out.gr hgr) H.done.rd hd4).mono ?_
      rintro _ w2 ⟨ma2, ba2, ia2, la2, mn2, bn2, jn2, lc2, rfl, i2, j2, g2⟩
      have GE2 : Gr w2 (w2.alloc (.cells #[.slice ma2 kd.case.mark.length mn2, .slice ba2 kd.case.busy.length bn2, .slice ia2 kd.items.length jn2] 66)) := (Gr.refl _).alloc _
      have bK : Blk (w2.alloc (.cells #[.slice ma2 kd.case.mark.length mn2, .slice ba2 kd.case.busy.length bn2, .slice ia2 kd.items.length jn2] 66)) w2.heap.size 66 #[.slice ma2 kd.case.mark.length mn2, .slice ba2 kd.case.busy.length bn2, .slice ia2 kd.items.length jn2] := Blk.new rfl
      have K0 := bK.cell (i := 0) rfl
      have K1 := bK.cell (i := 1) rfl
      have K2 := bK.cell (i := 2) rfl
      have b3Z := ((HB3.out.gr hgr).gr g2).gr GE2
      have hsb := HSB.out
      have hle := hgr.le
      have D0 := b3Z.cell (i := 0) rfl
      have F0 := b3Z.frozen 0
      have bq1 := b3Z.set 0 (.slice ma2 kd.case.mark.length mn2)
      have D1 := bq1.cell (i := 1) rfl
      have F1 := bq1.frozen 1
      have bq2 := bq1.set 1 (.slice ba2 kd.case.busy.length bn2)
      have D2 := bq2.cell (i := 2) rfl
      have F2 := bq2.frozen 2
      have bq3 := bq2.set 2 (.slice ia2 kd.items.length jn2)
      have E0 := bq3.cell (i := 0) rfl
      have E1 := bq3.cell (i := 1) rfl
      have E2 := bq3.cell (i := 2) rfl
      have hnw : ∀ j : Nat, ¬ ((fun b => wr.heap.size ≤ b) (⟨w.heap.size + 1, j, none⟩ : Addr).block) := fun j h => by simp at h; omega
      have OKZ := ((i2.gr GE2).kp (((set_kp (a := ⟨w.heap.size + 1, 0, none⟩) (hnw 0) (.slice ma2 kd.case.mark.length mn2)).trans (set_kp (a := ⟨w.heap.size + 1, 1, none⟩) (hnw 1) (.slice ba2 kd.case.busy.length bn2))).trans (set_kp (a := ⟨w.heap.size + 1, 2, none⟩) (hnw 2) (.slice ia2 kd.items.length jn2))))
      have hon : (Value.slice oa l.length on).ownBlock ≠ some (w.heap.size + 1) := fun e => by have := (H.ans.lt e).1; omega
      have hoz := (((((H.ans.gr g2).gr GE2).other (a := ⟨w.heap.size + 1, 0, none⟩) hon (fun h => h) (.slice ma2 kd.case.mark.length mn2)).other (a := ⟨w.heap.size + 1, 1, none⟩) hon (fun h => h) (.slice ba2 kd.case.busy.length bn2)).other (a := ⟨w.heap.size + 1, 2, none⟩) hon (fun h => h) (.slice ia2 kd.items.length jn2))
      have hGAl := HGA.out.le
      have HZ := Lib.hid (OKZ.mono (S' := fun b => w.heap.size ≤ b) (fun b _ h => Nat.le_trans (Nat.le_trans hGAl hle) h))
      have HY := Lib.hid ((hoz.fresh (fun _ _ h => h.elim)).mono (S' := fun b => w.heap.size ≤ b) (fun b _ h => Nat.le_trans hGAl h))
      have HGR := Lib.hid (((HGA.out.trans hgr).trans g2).trans GE2)
      clear OKZ hoz hon hnw bK b3Z bq1 bq2 bq3 i2 j2 H bH hsb
      go_wp2_with fail
      refine bodyPost_ret (v := .tuple #[.agg #[.slice ma2 kd.case.mark.length mn2, .slice ba2 kd.case.busy.length bn2, .slice ia2 kd.items.length jn2], .slice oa l.length on, .int .i64 0]) (by simp [results, Try.results31, go_sem, E0, E1, E2]) rfl ?_
      refine RetDP2.mk HC2.out HZ.out HY.out ?_
      iterate 3 (refine Gr.setCell ?_ (by simp; try omega) _)
      exact HGR.out
theorem HallPlay_calls (v vr u : Value) (N : NetD) (i : Int) (roles : List (List Int)) (ops : List HopD) (w : World) (hN : NetR w v N) (hi : I64 i) (hr : Rd rowK w vr roles) (hu : Rd hopK w u ops) (hl : ops.length ≤ 2513169434916) :
    Calls Try.prog 31 #[v, .int .i64 i, vr, u] w (RetDP w (hallPlay N i roles ops)) := (HallPlay2_calls v vr u N i roles ops w hN hi hr hu hl).mono fun _ _ h => h.plain
end Go.Proofs.Ytidpppfimkhgkaa
