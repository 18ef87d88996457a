/- The call DeskRefused answers true at any net, place, roles and operations that read as data; nothing that lay there turns. -/
import Derived.Test.YtbopachnkbjmfaaAlive17
import Derived.Test.YtbopachnkbjmfaaDeskLaw4
import Derived.Test.YtbopachnkbjmfaaTwoApp
namespace Go.Proofs.Ytbopachnkbjmfaa
open Go.RowKit Go.Tok
set_option linter.unusedVariables false
theorem opTyK : KTy Try.prog 43 59 opK 40 (.agg #[.int .i64 0, .int .i64 0, .int .i64 0, .int .i64 0, .int .i64 0]) := ⟨Try.underlying43, by kernel_rfl, rfl, by decide⟩
/-- the blocks of w that are no row's own -/
def SX (w : World) (g h : Option Nat) (b : Nat) : Prop := b < w.heap.size ∧ some b ≠ g ∧ some b ≠ h
set_option maxHeartbeats 8000000 in
set_option maxRecDepth 100000 in
theorem DeskRefused_walk {v vr u : Value} {N : NetD} {i : Int} {roles : List (List Int)} {ops : List OpD} (w : World) (hN : NetR w v N) (hi : I64 i) (hr0 : Rd rowK w vr roles ∧ roles.length ≤ 5864062014805) (hu0 : Rd opK w u ops ∧ ops.length ≤ 3518437208873) :
    Calls Try.prog 7 #[v, .int .i64 i, vr, u] w fun e w' => e = .returned (.bool true) ∧ Gr w w' := by
  obtain ⟨hr, _⟩ := hr0
  obtain ⟨hu, hul⟩ := hu0
  have hN' := hN
  obtain ⟨a, cap, rfl, hnl, hncap, hpl, hT⟩ := hN.open_
  have hpl1 := hpl.1
  have hpl2 := hpl.2
  obtain ⟨ua, uc, rfl, ul, ul'⟩ := hu.len
  obtain ⟨ra, rc, rfl, rl, rl'⟩ := hr.len
  rcases hp : deskPlay N i roles ops with ⟨⟨k, l⟩, e⟩
  have HP := Lib.hid hp
  by_cases he : e = 0
  case neg =>
    have q1 : (e != 0) = true := by simpa using he
    clear hp he
    go_enter Try.func7, Try.ntmps7
    go_wp2_with fail
    refine (alive17_calls _).mono ?_
    rintro _ w1 ⟨rfl, g1⟩
    have B0 := box_cell g1 (i := 0) rfl
    have B1 := box_cell g1 (i := 1) rfl
    have GW : Gr w w1 := ((Gr.refl w).alloc _).trans g1
    go_wp2_with fail
    refine (DeskPlay_calls _ _ _ N i roles ops _ (hN'.gr GW) hi (hr.gr GW) (hu.gr GW) hul).mono ?_
    rw [HP.out]; rintro _ w2 ⟨v2, u2, rfl, i2, j2, g2⟩
    simp only [] at i2 j2
    have i3 := i2
    obtain ⟨ma, mn, ba, bn, ia, jn, rfl, _, _, _, _, hil, hil2, iM, iB, iI⟩ := i2.open_
    obtain ⟨la, lc, rfl, hll, hlc⟩ := j2.len
    have GE : Gr w2 (w2.alloc (.cells #[.slice ma k.case.mark.length mn, .slice ba k.case.busy.length bn, .slice ia k.items.length jn] 48)) := (Gr.refl _).alloc _
    have bk : Blk (w2.alloc (.cells #[.slice ma k.case.mark.length mn, .slice ba k.case.busy.length bn, .slice ia k.items.length jn] 48)) w2.heap.size 48 #[.slice ma k.case.mark.length mn, .slice ba k.case.busy.length bn, .slice ia k.items.length jn] := Blk.new rfl
    replace B0 := cell_gr (cell_gr B0 g2) GE
    replace B1 := cell_gr (cell_gr B1 g2) GE
    replace GW := (GW.trans g2).trans GE
    replace iM := iM.gr GE
    replace iB := iB.gr GE
    replace iI := iI.gr GE
    replace i3 := i3.gr GE
    replace j2 := j2.gr GE
    have K0 := bk.cell (i := 0) rfl
    have K1 := bk.cell (i := 1) rfl
    have K2 := bk.cell (i := 2) rfl
    clear g1 g2 GE i2
    go_wp2_with fail
    generalize w2.alloc (.cells #[.slice ma k.case.mark.length mn, .slice ba k.case.busy.length bn, .slice ia k.items.length jn] 48) = w3 at bk B0 B1 GW iM iB iI i3 j2 K0 K1 K2 ⊢
    generalize w2.heap.size = kb at bk K0 K1 K2 ⊢
    go_wp2_with fail
    go_ret
    exact ⟨rfl, GW⟩
  case pos =>
    subst he
    have hll0 := desk_len hp
    have HLL := Lib.hid hll0
    have q1 : ((l.length : Int) != (ops.length : Int)) = false := by rw [hll0]; simp
    have q2 : (l.length != ops.length) = false := by rw [hll0]; simp
    have HP2 := Lib.hid (goods_play hp)
    have HGL := Lib.hid (goodsTo_len ops l)
    have HWL := Lib.hid (wantsTo_len l)
    have HGI := Lib.hid (show ∀ x, x < ops.length → opI (ix ops x) from fun x hx => by
      obtain ⟨_, _, _, _, _, _, _, _, h⟩ := hu.op hx; exact h)
    clear hp hll0
    go_enter Try.func7, Try.ntmps7
    go_wp2_with fail
    refine (alive17_calls _).mono ?_
    rintro _ w1 ⟨rfl, g1⟩
    have B0 := box_cell g1 (i := 0) rfl
    have B1 := box_cell g1 (i := 1) rfl
    have GW : Gr w w1 := ((Gr.refl w).alloc _).trans g1
    go_wp2_with fail
    refine (DeskPlay_calls _ _ _ N i roles ops _ (hN'.gr GW) hi (hr.gr GW) (hu.gr GW) hul).mono ?_
    rw [HP.out]; rintro _ w2 ⟨v2, u2, rfl, i2, j2, g2⟩
    simp only [] at i2 j2
    have i3 := i2
    obtain ⟨ma, mn, ba, bn, ia, jn, rfl, _, _, _, _, hil, hil2, iM, iB, iI⟩ := i2.open_
    obtain ⟨la, lc, rfl, hll, hlc⟩ := j2.len
    have GE : Gr w2 (w2.alloc (.cells #[.slice ma k.case.mark.length mn, .slice ba k.case.busy.length bn, .slice ia k.items.length jn] 48)) := (Gr.refl _).alloc _
    have bk : Blk (w2.alloc (.cells #[.slice ma k.case.mark.length mn, .slice ba k.case.busy.length bn, .slice ia k.items.length jn] 48)) w2.heap.size 48 #[.slice ma k.case.mark.length mn, .slice ba k.case.busy.length bn, .slice ia k.items.length jn] := Blk.new rfl
    replace B0 := cell_gr (cell_gr B0 g2) GE
    replace B1 := cell_gr (cell_gr B1 g2) GE
    replace GW := (GW.trans g2).trans GE
    replace iM := iM.gr GE
    replace iB := iB.gr GE
    replace iI := iI.gr GE
    replace i3 := i3.gr GE
    replace j2 := j2.gr GE
    have K0 := bk.cell (i := 0) rfl
    have K1 := bk.cell (i := 1) rfl
    have K2 := bk.cell (i := 2) rfl
    clear g1 g2 GE i2
    go_wp2_with fail
    generalize w2.alloc (.cells #[.slice ma k.case.mark.length mn, .slice ba k.case.busy.length bn, .slice ia k.items.length jn] 48) = w3 at bk B0 B1 GW iM iB iI i3 j2 K0 K1 K2 ⊢
    generalize w2.heap.size = kb at bk K0 K1 K2 ⊢
    clear iM iB iI
    have hkw := bk.lt
    have hgw := GW.le
    go_loopw [12, 13, 43] (fun g h q wr => ∃ x : Nat, q = .int .i64 x ∧ x ≤ ops.length ∧ OwnR opK 59 w3.heap.size (fun _ => False) wr g (goodsTo ops l x) ∧ OwnR ansK 61 w3.heap.size (fun _ => False) wr h (wantsTo l x) ∧ (∀ b, g.ownBlock = some b → h.ownBlock ≠ some b) ∧ Gr w3 wr) (fun _ _ q _ => ops.length - (intOf q).toNat)
    case atStart => exact ⟨0, rfl, Nat.zero_le _, OwnR.nil _ _ _ _, OwnR.nil _ _ _ _, (fun b e => by cases e), Gr.refl _⟩
    case round =>
      rename World => wo
      obtain ⟨x, rfl, hx, hog, how, hne, hgr⟩ := hrel
      by_cases hlt : x < ops.length
      · obtain ⟨ub, uo, rfl, u0, u1, u2, u3, u4, hI⟩ := ((hu.gr GW).gr hgr).op hlt
        obtain ⟨lb, lo, rfl, l0, l1, hAI⟩ := (j2.gr hgr).ans (i := x) (by rw [HLL.out]; exact hlt)
        have hxI : (x : Int) < (ops.length : Int) := by omega
        have hxL : (x : Int) < (l.length : Int) := by rw [HLL.out]; exact hxI
        have hx0 : (0 : Int) ≤ (x : Int) := by omega
        by_cases he : (ix l x).err = 0
        · have HGS := Lib.hid (show goodsTo ops l (x + 1) = goodsTo ops l x ++ [ix ops x] by rw [goodsTo, if_pos he])
          have HWS := Lib.hid (show wantsTo l (x + 1) = wantsTo l x ++ [ix l x] by rw [wantsTo, if_pos he])
          have q3 : ((ix l x).err == 0) = true := by simpa using he
          have hgl := HGL.out x
          have hwl := HWL.out x
          obtain ⟨uG, huG⟩ : ∃ uG, uG = u12 := ⟨_, rfl⟩
          obtain ⟨uW, huW⟩ : ∃ uW, uW = u13 := ⟨_, rfl⟩
          rw [← huG] at hog hne ⊢
          rw [← huW] at how hne ⊢
          clear huG huW he
          have GA : Gr wo (wo.alloc (.cells #[.int .i64 (ix ops x).kind, .int .i64 (ix ops x).user, .int .i64 (ix ops x).tran, .int .i64 (ix ops x).item, .int .i64 (ix ops x).to] 59)) := (Gr.refl _).alloc _
          have bO : Blk (wo.alloc (.cells #[.int .i64 (ix ops x).kind, .int .i64 (ix ops x).user, .int .i64 (ix ops x).tran, .int .i64 (ix ops x).item, .int .i64 (ix ops x).to] 59)) wo.heap.size 59 #[.int .i64 (ix ops x).kind, .int .i64 (ix ops x).user, .int .i64 (ix ops x).tran, .int .i64 (ix ops x).item, .int .i64 (ix ops x).to] := Blk.new rfl
          have O0 := bO.cell (i := 0) rfl
          have O1 := bO.cell (i := 1) rfl
          have O2 := bO.cell (i := 2) rfl
          have O3 := bO.cell (i := 3) rfl
          have O4 := bO.cell (i := 4) rfl
          have hOl := bO.lt
          have hlb := cell_block (cell_gr l0 GA)
          have L0 := cell_gr l0 GA
          have L1 := cell_gr l1 GA
          have HG := hog.gr GA
          have HW := how.gr GA
          have hlbw : lb < w3.heap.size := by
            obtain ⟨lb', lo', hh, c0, _, _⟩ := j2.ans (i := x) (by rw [HLL.out]; exact hlt)
            cases hh; exact cell_block c0
          have GG := hgr.trans GA
          have hogl : ∀ b, uG.ownBlock = some b → w3.heap.size ≤ b ∧ b < wo.heap.size := fun b h => hog.lt h
          have howl : ∀ b, uW.ownBlock = some b → w3.heap.size ≤ b ∧ b < wo.heap.size := fun b h => how.lt h
          clear hog how bO GA
          go_wp2_with fail
          generalize wo.alloc (.cells #[.int .i64 (ix ops x).kind, .int .i64 (ix ops x).user, .int .i64 (ix ops x).tran, .int .i64 (ix ops x).item, .int .i64 (ix ops x).to] 59) = wa at O0 O1 O2 O3 O4 hOl hlb L0 L1 HG HW GG ⊢
          have sO : SX wa uG.ownBlock uW.ownBlock wo.heap.size := ⟨hOl, fun e => by have := hogl _ e.symm; omega, fun e => by have := howl _ e.symm; omega⟩
          have sL : SX wa uG.ownBlock uW.ownBlock lb := ⟨hlb, fun e => by have := hogl _ e.symm; omega, fun e => by have := howl _ e.symm; omega⟩
          have hn1 : ((goodsTo ops l x).length + 1) * 40 ≤ 140737488355328 := by omega
          have hn2 : (goodsTo ops l x).length + 1 ≤ maxLen := by unfold maxLen; omega
          have hm1 : ((wantsTo l x).length + 1) * 16 ≤ 140737488355328 := by omega
          have hm2 : (wantsTo l x).length + 1 ≤ maxLen := by unfold maxLen; omega
          have hrA : ∀ b, uG.ownBlock = some b → b < wa.heap.size := fun b h => by have := hogl b h; omega
          have hrB : ∀ b, uW.ownBlock = some b → b < wa.heap.size := fun b h => by have := howl b h; omega
          have hrA' : ∀ (o : Obj) b, uG.ownBlock = some b → b < (wa.alloc o).heap.size := fun o b h => by have := hrA b h; simp; omega
          have hrB' : ∀ (o : Obj) b, uW.ownBlock = some b → b < (wa.alloc o).heap.size := fun o b h => by have := hrB b h; simp; omega
          have HNE := hne
          go_region_held3 (fun w' => w'.cell? ⟨wo.heap.size, 0, none⟩ = some (.int .i64 (ix ops x).kind) ∧ w'.cell? ⟨wo.heap.size, 1, none⟩ = some (.int .i64 (ix ops x).user) ∧ w'.cell? ⟨wo.heap.size, 2, none⟩ = some (.int .i64 (ix ops x).tran) ∧ w'.cell? ⟨wo.heap.size, 3, none⟩ = some (.int .i64 (ix ops x).item) ∧ w'.cell? ⟨wo.heap.size, 4, none⟩ = some (.int .i64 (ix ops x).to) ∧ w'.cell? ⟨lb, lo + x * 2, none⟩ = some (.int .i64 (ix l x).err) ∧ w'.cell? ⟨lb, lo + x * 2 + 1, none⟩ = some (.int .i64 (ix l x).item)) (first | go_keep | ((refine ⟨cell_kp (S := SX wa uG.ownBlock uW.ownBlock) (w := wa) ?_ O0 sO, cell_kp (S := SX wa uG.ownBlock uW.ownBlock) (w := wa) ?_ O1 sO, cell_kp (S := SX wa uG.ownBlock uW.ownBlock) (w := wa) ?_ O2 sO, cell_kp (S := SX wa uG.ownBlock uW.ownBlock) (w := wa) ?_ O3 sO, cell_kp (S := SX wa uG.ownBlock uW.ownBlock) (w := wa) ?_ O4 sO, cell_kp (S := SX wa uG.ownBlock uW.ownBlock) (w := wa) ?_ L0 sL, cell_kp (S := SX wa uG.ownBlock uW.ownBlock) (w := wa) ?_ L1 sL⟩); (all_goals (focus ((first | exact Kp.refl _ _ | (refine Kp.trans (show Kp (SX wa uG.ownBlock uW.ownBlock) wa _ from by assumption) (Gr.kp ?_); (focus ((repeat (first | exact Gr.refl _ | assumption | apply Gr.alloc | apply Gr.drew | apply Gr.drewN | refine Gr.trans ?_ (by assumption))); done))) | (refine Gr.kp ?_; (focus ((repeat (first | exact Gr.refl _ | assumption | apply Gr.alloc | apply Gr.drew | apply Gr.drewN | refine Gr.trans ?_ (by assumption))); done)))); done))))) (first | (go_loud ((refine step_app_lit opTyK (.tmp 54) (.tmp 56) w3.heap.size (fun _ => False) uG (goodsTo ops l x) (ix ops x) (opCells (ix ops x)) (by rfl) (by rfl) ?_ ?_ ?_ hn1 hn2 ?_ ?_); ((focus ((refine HG.gr ?_); (repeat (first | exact Gr.refl _ | assumption | apply Gr.alloc | apply Gr.drew | apply Gr.drewN | refine Gr.trans ?_ (by assumption))); done))); ((focus ((first | exact lit_cellsH rfl | exact lit_cellsH (World.size_alloc _ _) | exact lit_gr ((Gr.refl _).drew) rfl | exact lit_gr ((Gr.refl _).drew) (World.size_alloc _ _) | exact lit_gr ((Gr.refl _).alloc _) rfl | exact lit_gr ((Gr.refl _).alloc _) (World.size_alloc _ _) | exact lit_gr (((Gr.refl _).alloc _).drew) rfl | exact lit_gr (((Gr.refl _).alloc _).drew) (World.size_alloc _ _) | exact lit_far hgbB (Gr.refl _) (Gr.refl _) hrB rfl | exact lit_far hgbB (Gr.refl _) (Gr.refl _) (hrB' _) (World.size_alloc _ _) | exact lit_far hgbB (Gr.refl _) ((Gr.refl _).drew) hrB rfl | exact lit_far hgbB (Gr.refl _) ((Gr.refl _).drew) (hrB' _) (World.size_alloc _ _) | exact lit_far hgbB (Gr.refl _) ((Gr.refl _).alloc _) hrB rfl | exact lit_far hgbB (Gr.refl _) ((Gr.refl _).alloc _) (hrB' _) (World.size_alloc _ _) | exact lit_far hgbB (Gr.refl _) (((Gr.refl _).alloc _).drew) hrB rfl | exact lit_far hgbB (Gr.refl _) (((Gr.refl _).alloc _).drew) (hrB' _) (World.size_alloc _ _) | exact lit_far hgbB ((Gr.refl _).drew) (Gr.refl _) hrB rfl | exact lit_far hgbB ((Gr.refl _).drew) (Gr.refl _) (hrB' _) (World.size_alloc _ _) | exact lit_far hgbB ((Gr.refl _).drew) ((Gr.refl _).drew) hrB rfl | exact lit_far hgbB ((Gr.refl _).drew) ((Gr.refl _).drew) (hrB' _) (World.size_alloc _ _) | exact lit_far hgbB ((Gr.refl _).drew) ((Gr.refl _).alloc _) hrB rfl | exact lit_far hgbB ((Gr.refl _).drew) ((Gr.refl _).alloc _) (hrB' _) (World.size_alloc _ _) | exact lit_far hgbB ((Gr.refl _).drew) (((Gr.refl _).alloc _).drew) hrB rfl | exact lit_far hgbB ((Gr.refl _).drew) (((Gr.refl _).alloc _).drew) (hrB' _) (World.size_alloc _ _) | exact lit_far hgbB ((Gr.refl _).alloc _) (Gr.refl _) hrB rfl | exact lit_far hgbB ((Gr.refl _).alloc _) (Gr.refl _) (hrB' _) (World.size_alloc _ _) | exact lit_far hgbB ((Gr.refl _).alloc _) ((Gr.refl _).drew) hrB rfl | exact lit_far hgbB ((Gr.refl _).alloc _) ((Gr.refl _).drew) (hrB' _) (World.size_alloc _ _) | exact lit_far hgbB ((Gr.refl _).alloc _) ((Gr.refl _).alloc _) hrB rfl | exact lit_far hgbB ((Gr.refl _).alloc _) ((Gr.refl _).alloc _) (hrB' _) (World.size_alloc _ _) | exact lit_far hgbB ((Gr.refl _).alloc _) (((Gr.refl _).alloc _).drew) hrB rfl | exact lit_far hgbB ((Gr.refl _).alloc _) (((Gr.refl _).alloc _).drew) (hrB' _) (World.size_alloc _ _) | exact lit_far hgbB (((Gr.refl _).alloc _).drew) (Gr.refl _) hrB rfl | exact lit_far hgbB (((Gr.refl _).alloc _).drew) (Gr.refl _) (hrB' _) (World.size_alloc _ _) | exact lit_far hgbB (((Gr.refl _).alloc _).drew) ((Gr.refl _).drew) hrB rfl | exact lit_far hgbB (((Gr.refl _).alloc _).drew) ((Gr.refl _).drew) (hrB' _) (World.size_alloc _ _) | exact lit_far hgbB (((Gr.refl _).alloc _).drew) ((Gr.refl _).alloc _) hrB rfl | exact lit_far hgbB (((Gr.refl _).alloc _).drew) ((Gr.refl _).alloc _) (hrB' _) (World.size_alloc _ _) | exact lit_far hgbB (((Gr.refl _).alloc _).drew) (((Gr.refl _).alloc _).drew) hrB rfl | exact lit_far hgbB (((Gr.refl _).alloc _).drew) (((Gr.refl _).alloc _).drew) (hrB' _) (World.size_alloc _ _))))); ((focus (exact On.true (p := opCells (ix ops x) = opCells (ix ops x) ∧ opI (ix ops x)) ⟨rfl, hI⟩))); ((focus (refine Gr.le (GG.trans ?_); (repeat (first | exact Gr.refl _ | assumption | apply Gr.alloc | apply Gr.drew | apply Gr.drewN | refine Gr.trans ?_ (by assumption))); done))); intro g1 cp1 wA HG' hgsA hgbA hatA hltA; (have HKA : Kp (SX wa uG.ownBlock uW.ownBlock) wa wA := by (refine Kp.trans ?_ (grown_kp hgbA (fun b hb => hb.2.1))); (first | exact Kp.refl _ _ | (refine Kp.trans (show Kp (SX wa uG.ownBlock uW.ownBlock) wa _ from by assumption) (Gr.kp ?_); (focus ((repeat (first | exact Gr.refl _ | assumption | apply Gr.alloc | apply Gr.drew | apply Gr.drewN | refine Gr.trans ?_ (by assumption))); done))) | (refine Gr.kp ?_; (focus ((repeat (first | exact Gr.refl _ | assumption | apply Gr.alloc | apply Gr.drew | apply Gr.drewN | refine Gr.trans ?_ (by assumption))); done))))); (obtain ⟨HW', HNE'⟩ := arm_other HW (by (repeat (first | exact Gr.refl _ | assumption | apply Gr.alloc | apply Gr.drew | apply Gr.drewN | refine Gr.trans ?_ (by assumption)))) HNE hgbA ((goodsTo ops l x).length + 1) cp1 hatA); (have GG' := hgsA w3 (Nat.le_refl _) (GG.trans (by (repeat (first | exact Gr.refl _ | assumption | apply Gr.alloc | apply Gr.drew | apply Gr.drewN | refine Gr.trans ?_ (by assumption)))))); (replace HG := HG'); (replace HW := HW'); (replace HNE := HNE'); (replace GG := GG'); clear HG' HW' HNE' GG')) | (go_loud ((refine step_app_lit ansTy (.tmp 58) (.tmp 63) w3.heap.size (fun _ => False) uW (wantsTo l x) (ix l x) [.int .i64 (ix l x).err, .int .i64 (ix l x).item] (by rfl) (by rfl) ?_ ?_ ?_ hm1 hm2 ?_ ?_); ((focus ((refine HW.gr ?_); (repeat (first | exact Gr.refl _ | assumption | apply Gr.alloc | apply Gr.drew | apply Gr.drewN | refine Gr.trans ?_ (by assumption))); done))); ((focus ((first | exact lit_cellsH rfl | exact lit_cellsH (World.size_alloc _ _) | exact lit_gr ((Gr.refl _).drew) rfl | exact lit_gr ((Gr.refl _).drew) (World.size_alloc _ _) | exact lit_gr ((Gr.refl _).alloc _) rfl | exact lit_gr ((Gr.refl _).alloc _) (World.size_alloc _ _) | exact lit_gr (((Gr.refl _).alloc _).drew) rfl | exact lit_gr (((Gr.refl _).alloc _).drew) (World.size_alloc _ _) | exact lit_far hgbA (Gr.refl _) (Gr.refl _) hrA rfl | exact lit_far hgbA (Gr.refl _) (Gr.refl _) (hrA' _) (World.size_alloc _ _) | exact lit_far hgbA (Gr.refl _) ((Gr.refl _).drew) hrA rfl | exact lit_far hgbA (Gr.refl _) ((Gr.refl _).drew) (hrA' _) (World.size_alloc _ _) | exact lit_far hgbA (Gr.refl _) ((Gr.refl _).alloc _) hrA rfl | exact lit_far hgbA (Gr.refl _) ((Gr.refl _).alloc _) (hrA' _) (World.size_alloc _ _) | exact lit_far hgbA (Gr.refl _) (((Gr.refl _).alloc _).drew) hrA rfl | exact lit_far hgbA (Gr.refl _) (((Gr.refl _).alloc _).drew) (hrA' _) (World.size_alloc _ _) | exact lit_far hgbA ((Gr.refl _).drew) (Gr.refl _) hrA rfl | exact lit_far hgbA ((Gr.refl _).drew) (Gr.refl _) (hrA' _) (World.size_alloc _ _) | exact lit_far hgbA ((Gr.refl _).drew) ((Gr.refl _).drew) hrA rfl | exact lit_far hgbA ((Gr.refl _).drew) ((Gr.refl _).drew) (hrA' _) (World.size_alloc _ _) | exact lit_far hgbA ((Gr.refl _).drew) ((Gr.refl _).alloc _) hrA rfl | exact lit_far hgbA ((Gr.refl _).drew) ((Gr.refl _).alloc _) (hrA' _) (World.size_alloc _ _) | exact lit_far hgbA ((Gr.refl _).drew) (((Gr.refl _).alloc _).drew) hrA rfl | exact lit_far hgbA ((Gr.refl _).drew) (((Gr.refl _).alloc _).drew) (hrA' _) (World.size_alloc _ _) | exact lit_far hgbA ((Gr.refl _).alloc _) (Gr.refl _) hrA rfl | exact lit_far hgbA ((Gr.refl _).alloc _) (Gr.refl _) (hrA' _) (World.size_alloc _ _) | exact lit_far hgbA ((Gr.refl _).alloc _) ((Gr.refl _).drew) hrA rfl | exact lit_far hgbA ((Gr.refl _).alloc _) ((Gr.refl _).drew) (hrA' _) (World.size_alloc _ _) | exact lit_far hgbA ((Gr.refl _).alloc _) ((Gr.refl _).alloc _) hrA rfl | exact lit_far hgbA ((Gr.refl _).alloc _) ((Gr.refl _).alloc _) (hrA' _) (World.size_alloc _ _) | exact lit_far hgbA ((Gr.refl _).alloc _) (((Gr.refl _).alloc _).drew) hrA rfl | exact lit_far hgbA ((Gr.refl _).alloc _) (((Gr.refl _).alloc _).drew) (hrA' _) (World.size_alloc _ _) | exact lit_far hgbA (((Gr.refl _).alloc _).drew) (Gr.refl _) hrA rfl | exact lit_far hgbA (((Gr.refl _).alloc _).drew) (Gr.refl _) (hrA' _) (World.size_alloc _ _) | exact lit_far hgbA (((Gr.refl _).alloc _).drew) ((Gr.refl _).drew) hrA rfl | exact lit_far hgbA (((Gr.refl _).alloc _).drew) ((Gr.refl _).drew) (hrA' _) (World.size_alloc _ _) | exact lit_far hgbA (((Gr.refl _).alloc _).drew) ((Gr.refl _).alloc _) hrA rfl | exact lit_far hgbA (((Gr.refl _).alloc _).drew) ((Gr.refl _).alloc _) (hrA' _) (World.size_alloc _ _) | exact lit_far hgbA (((Gr.refl _).alloc _).drew) (((Gr.refl _).alloc _).drew) hrA rfl | exact lit_far hgbA (((Gr.refl _).alloc _).drew) (((Gr.refl _).alloc _).drew) (hrA' _) (World.size_alloc _ _))))); ((focus (exact On.true (p := [Value.int .i64 (ix l x).err, .int .i64 (ix l x).item] = ansCells (ix l x) ∧ ansI (ix l x)) ⟨rfl, hAI⟩))); ((focus (refine Gr.le (GG.trans ?_); (repeat (first | exact Gr.refl _ | assumption | apply Gr.alloc | apply Gr.drew | apply Gr.drewN | refine Gr.trans ?_ (by assumption))); done))); intro g2 cp2 wB HW' hgsB hgbB hatB hltB; (have HKB : Kp (SX wa uG.ownBlock uW.ownBlock) wa wB := by (refine Kp.trans ?_ (grown_kp hgbB (fun b hb => hb.2.2))); (first | exact Kp.refl _ _ | (refine Kp.trans (show Kp (SX wa uG.ownBlock uW.ownBlock) wa _ from by assumption) (Gr.kp ?_); (focus ((repeat (first | exact Gr.refl _ | assumption | apply Gr.alloc | apply Gr.drew | apply Gr.drewN | refine Gr.trans ?_ (by assumption))); done))) | (refine Gr.kp ?_; (focus ((repeat (first | exact Gr.refl _ | assumption | apply Gr.alloc | apply Gr.drew | apply Gr.drewN | refine Gr.trans ?_ (by assumption))); done))))); (obtain ⟨HG', HNE'⟩ := arm_other HG (by (repeat (first | exact Gr.refl _ | assumption | apply Gr.alloc | apply Gr.drew | apply Gr.drewN | refine Gr.trans ?_ (by assumption)))) (fun b h1 h2 => HNE b h2 h1) hgbB ((wantsTo l x).length + 1) cp2 hatB); (have GG' := hgsB w3 (Nat.le_refl _) (GG.trans (by (repeat (first | exact Gr.refl _ | assumption | apply Gr.alloc | apply Gr.drew | apply Gr.drewN | refine Gr.trans ?_ (by assumption)))))); (replace HG := HG'); (replace HW := HW'); (replace HNE := fun b h1 h2 => HNE' b h2 h1); (replace GG := GG'); clear HG' HW' HNE' GG')))
          all_goals
            go_wp2_with fail
            go_roundw
            case rel => exact ⟨x + 1, by go_num, by omega, by rw [HGS.out]; exact HG.gr (by (repeat (first | exact Gr.refl _ | assumption | apply Gr.alloc | apply Gr.drew | apply Gr.drewN | refine Gr.trans ?_ (by assumption)))), by rw [HWS.out]; exact HW.gr (by (repeat (first | exact Gr.refl _ | assumption | apply Gr.alloc | apply Gr.drew | apply Gr.drewN | refine Gr.trans ?_ (by assumption)))), HNE, GG.trans (by (repeat (first | exact Gr.refl _ | assumption | apply Gr.alloc | apply Gr.drew | apply Gr.drewN | refine Gr.trans ?_ (by assumption))))⟩
            case measure => simp [intOf]; omega
        · have HGS := Lib.hid (show goodsTo ops l (x + 1) = goodsTo ops l x by rw [goodsTo, if_neg he])
          have HWS := Lib.hid (show wantsTo l (x + 1) = wantsTo l x by rw [wantsTo, if_neg he])
          have q3 : ((ix l x).err == 0) = false := by simpa using he
          have L0 := cell_gr l0 ((Gr.refl wo).alloc (.cells #[.int .i64 (ix ops x).kind, .int .i64 (ix ops x).user, .int .i64 (ix ops x).tran, .int .i64 (ix ops x).item, .int .i64 (ix ops x).to] 59))
          clear he
          go_wp2_with fail
          go_roundw
          case rel => exact ⟨x + 1, by go_num, by omega, by rw [HGS.out]; exact hog.alloc _, by rw [HWS.out]; exact how.alloc _, hne, hgr.alloc _⟩
          case measure => simp [intOf]; omega
      · obtain rfl : x = ops.length := by omega
        have B0' := cell_gr B0 hgr
        have B1' := cell_gr B1 hgr
        have GW2 := GW.trans hgr
        have hgl := HGL.out ops.length
        obtain ⟨ga, gc, rfl, _, _⟩ := hog.len
        obtain ⟨ha, hc, rfl, _, _⟩ := how.len
        clear B0 B1
        go_wp2_with fail
        refine (DeskPlay_calls _ _ _ N i roles (goodsTo ops l ops.length) _ (hN'.gr GW2) hi (hr.gr GW2) hog.rd (by omega)).mono ?_
        rw [HP2.out]; rintro _ w5 ⟨v5, u5, rfl, i5, j5, g5⟩
        simp only [] at i5 j5
        have i6 := i5
        obtain ⟨ma', mn', ba', bn', ia', jn', rfl, _, _, _, _, _, _, _, _, _⟩ := i5.open_
        obtain ⟨la', lc', rfl, _, _⟩ := j5.len
        have GE : Gr w5 (w5.alloc (.cells #[.slice ma' k.case.mark.length mn', .slice ba' k.case.busy.length bn', .slice ia' k.items.length jn'] 48)) := (Gr.refl _).alloc _
        have b5 : Blk (w5.alloc (.cells #[.slice ma' k.case.mark.length mn', .slice ba' k.case.busy.length bn', .slice ia' k.items.length jn'] 48)) w5.heap.size 48 #[.slice ma' k.case.mark.length mn', .slice ba' k.case.busy.length bn', .slice ia' k.items.length jn'] := Blk.new rfl
        have A0 := b5.cell (i := 0) rfl
        have A1 := b5.cell (i := 1) rfl
        have A2 := b5.cell (i := 2) rfl
        have GG := (hgr.trans g5).trans GE
        have K0' := cell_gr K0 GG
        have K1' := cell_gr K1 GG
        have K2' := cell_gr K2 GG
        have HS1 := i3.gr GG
        have HS2 := i6.gr GE
        have HA1 := j5.gr GE
        have HA2 := (how.rd.gr g5).gr GE
        have GZ := GW.trans GG
        clear K0 K1 K2 B0' B1' hog how g5 GE b5 i6 j5 GG
        go_wp2_with fail
        refine (SameDesk_self _ _ k _ HS1 HS2).mono ?_
        rintro _ w6 ⟨rfl, g6⟩
        go_wp2_with fail
        refine (EqualAns_self _ _ (wantsTo l ops.length) _ (HA1.gr g6) (HA2.gr g6)).mono ?_
        rintro _ w7 ⟨rfl, g7⟩
        go_wp2_with fail
        go_ret
        exact ⟨rfl, (GZ.trans g6).trans g7⟩
end Go.Proofs.Ytbopachnkbjmfaa
