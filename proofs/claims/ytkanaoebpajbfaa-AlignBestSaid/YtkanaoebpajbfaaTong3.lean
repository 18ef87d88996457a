/- Contract of tongue.speak. -/
import Derived.Test.YtkanaoebpajbfaaTong2
import Derived.Test.YtkanaoebpajbfaaGR
import Derived.Test.YtkanaoebpajbfaaGM
import Derived.Test.YtkanaoebpajbfaaGS
import Derived.Test.YtkanaoebpajbfaaArcsLe
import Derived.Test.YtkanaoebpajbfaaPC
import Derived.Test.YtkanaoebpajbfaaPA
import Derived.Deep.RegionHeld3
namespace Go.Tok
open Go.RowKit
set_option linter.unusedVariables false
open Go.Proofs.Ytkanaoebpajbfaa
/-- what is wrong with a net's words -/
def hasErr (N : NetD) (i o : Int) : Int := if shapeC N i o ≠ 0 then shapeC N i o else (graphF N (oneN (startLen N) i) 300).2
theorem hasErr_bad {N : NetD} {i o : Int} (h : shapeC N i o ≠ 0) : hasErr N i o = shapeC N i o := if_pos h
theorem hasErr_ok {N : NetD} {i o : Int} {A : SpaceD} {e : Int} (h : shapeC N i o = 0) (hg : graphF N (oneN (startLen N) i) 300 = (A, e)) : hasErr N i o = e := by unfold hasErr; rw [if_neg (by rw [h]; simp), hg]
theorem ix_mapB {α : Type} [Inhabited α] {f : α → Bool} {xs : List α} {k : Nat} (hk : k < xs.length) : ix (xs.map f) k = f (ix xs k) := by
  rw [ix_lt (by simpa using hk), ix_lt hk, List.getElem_map]
theorem map_takeS {α β : Type} [Inhabited α] {f : α → β} {xs : List α} {k : Nat} (hk : k < xs.length) : (xs.map f).take (k + 1) = (xs.map f).take k ++ [f (ix xs k)] := by
  rw [List.take_succ_eq_append_getElem (by simpa using hk), List.getElem_map, ix_lt hk]
end Go.Tok
namespace Go.Proofs.Ytkanaoebpajbfaa
open Go.RowKit Go.Tok
set_option linter.unusedVariables false
set_option linter.unusedSimpArgs false
theorem boolTy : KTy Try.prog 134 4 boolK 1 (.bool false) := ⟨Try.underlying134, by kernel_rfl, rfl, by decide⟩
/-- what speak hands back -/
def RetSk (N : NetD) (i o : Int) (w : World) (e : Ending) (w' : World) : Prop :=
  Gr w w' ∧ ((hasErr N i o ≠ 0 ∧ e = .returned (.tuple #[.pointer none, .int .i64 (hasErr N i o)])) ∨
    (hasErr N i o = 0 ∧ ∃ pb A, e = .returned (.tuple #[.pointer (some ⟨pb, 0, none⟩), .int .i64 0]) ∧ shapeC N i o = 0 ∧ graphF N (oneN (startLen N) i) 300 = (A, 0) ∧ Spk w' pb A.marks A.arcs (labN N) (A.marks.map fun m => eqB m (oneN (startLen N) o))))
set_option maxHeartbeats 8000000 in
set_option maxRecDepth 100000 in
theorem speak_calls (v : Value) (N : NetD) (i o : Int) (w : World) (hN : NetR w v N) (hi : I64 i) (ho : I64 o) :
    Calls Try.prog 98 #[v, .int .i64 i, .int .i64 o] w (RetSk N i o w) := by
  have hN' := hN
  obtain ⟨a, cap, rfl, hnl, hncap, hpl, hT⟩ := hN.open_
  have hpl1 := hpl.1
  have hpl2 := hpl.2
  have GA : Gr w (w.alloc (.cells #[.int .i64 N.places, .slice a N.trans.length cap] 24)) := (Gr.refl _).alloc _
  have b0 : Blk (w.alloc (.cells #[.int .i64 N.places, .slice a N.trans.length cap] 24)) w.heap.size 24 #[.int .i64 N.places, .slice a N.trans.length cap] := Blk.new rfl
  by_cases hs0 : shapeC N i o = 0
  case neg =>
    have q1 : (shapeC N i o != 0) = true := by simpa using hs0
    have HC := Lib.hid (hasErr_bad hs0)
    have HEN := Lib.hid hs0
    clear hs0
    go_enter Try.func98, Try.ntmps98
    go_wp2_with fail
    refine (ShapeWrong_calls _ N i o _ (hN'.gr GA) hi ho).mono ?_
    rintro _ w1 ⟨rfl, g1⟩
    replace GA := GA.trans g1
    clear b0 g1
    go_wp2_with fail
    go_ret2
    exact ⟨GA, .inl ⟨by rw [HC.out]; exact HEN.out, by rw [HC.out]; rfl⟩⟩
  case pos =>
    rcases hg : graphF N (oneN (startLen N) i) 300 with ⟨A, e⟩
    have HGR := Lib.hid hg
    have HC := Lib.hid (hasErr_ok hs0 hg)
    by_cases he : e = 0
    case neg =>
      have q2 : (e != 0) = true := by simpa using he
      have HEN := Lib.hid he
      clear he hg
      go_enter Try.func98, Try.ntmps98
      go_wp2_with fail
      refine (ShapeWrong_calls _ N i o _ (hN'.gr GA) hi ho).mono ?_
      rw [hs0]
      rintro _ w1 ⟨rfl, g1⟩
      have HS0 := Lib.hid hs0
      clear hs0
      replace b0 := b0.gr g1
      replace GA := GA.trans g1
      have C0 := b0.cell (i := 0) rfl
      have C1 := b0.cell (i := 1) rfl
      have K1 := hN'.gr GA
      have hb0 := b0.lt
      clear g1
      go_wp2_with fail
      go_region_held3 (fun w' => w'.cell? ⟨w.heap.size, 0, none⟩ = some (.int .i64 N.places) ∧ w'.cell? ⟨w.heap.size, 1, none⟩ = some (.slice a N.trans.length cap)) (first | go_keep | ((refine ⟨cell_gr C0 ?_, cell_gr C1 ?_⟩); (all_goals (focus ((repeat (first | exact Gr.refl _ | assumption | apply Gr.drewN | apply Gr.drew | apply Gr.alloc | (refine Gr.setCell ?_ (by simp; try omega) _) | refine Gr.trans ?_ (by assumption))); done))))) (first | (go_at_call 71; (with_reducible refine (Start_calls _ N _ _ (K1.gr ?_) hi).mono ?_); ((focus ((repeat (first | exact Gr.refl _ | assumption | apply Gr.alloc | apply Gr.drew | apply Gr.drewN | refine Gr.trans ?_ (by assumption))); done))); rintro _ w3 ⟨v3, rfl, o3, g3⟩; obtain ⟨ia, ic, rfl, _, _⟩ := o3.ints.len; have hw3 := g3.le; (try simp at hw3); have hw3' : w1.heap.size ≤ w3.heap.size := (by omega); (first | have bsA : Blk w3 w1.heap.size 39 #[.slice none 0 0, .slice none 0 0] := (Blk.new (w := w1.drew) rfl).gr g3 | skip)) | (go_at_call 14; (with_reducible refine (Graph_own _ _ N (oneN (startLen N) i) 300 _ (K1.gr ?_) (o3.ints.gr ?_) (by decide)).mono ?_); ((focus ((repeat (first | exact Gr.refl _ | assumption | apply Gr.alloc | apply Gr.drew | apply Gr.drewN | refine Gr.trans ?_ (by assumption))); done))); ((focus ((repeat (first | exact Gr.refl _ | assumption | apply Gr.alloc | apply Gr.drew | apply Gr.drewN | refine Gr.trans ?_ (by assumption))); done))); rw [HGR.out]; rintro _ w4 ⟨v4, rfl, i4, g4⟩; obtain ⟨ma, mc, aa, ac, rfl, hc1, hc2, hc3, hc4, hM, hA⟩ := i4.now.open_; clear hM hA; have hw4 := g4.le; (try simp at hw4); have hw4' : w1.heap.size ≤ w4.heap.size := (by omega); (first | have bs := bsA.gr g4 | have bs : Blk w4 w3.heap.size 39 #[.slice none 0 0, .slice none 0 0] := (Blk.new (w := w3) rfl).gr g4 | have bs : Blk (w4.alloc (.cells #[.slice none 0 0, .slice none 0 0] 39)) w4.heap.size 39 #[.slice none 0 0, .slice none 0 0] := Blk.new rfl); have S0 := bs.cell (i := 0) rfl; have SF0 := bs.frozen 0; have bs1 := bs.set 0 (.slice ma A.marks.length mc); have S1 := bs1.cell (i := 1) rfl; have SF1 := bs1.frozen 1; have bs2 := bs1.set 1 (.slice aa A.arcs.length ac)))
      · have bS : Blk (w4.alloc (.cells #[.slice ma A.marks.length mc, .slice aa A.arcs.length ac] 39)) w4.heap.size 39 #[.slice ma A.marks.length mc, .slice aa A.arcs.length ac] := Blk.new rfl
        have hOn : SpaceR (w4.alloc (.cells #[.slice ma A.marks.length mc, .slice aa A.arcs.length ac] 39)) (.agg #[.slice ma A.marks.length mc, .slice aa A.arcs.length ac]) A := (i4.gr ((Gr.refl w4).alloc _)).now
        have GF : Gr w1 (w4.alloc (.cells #[.slice ma A.marks.length mc, .slice aa A.arcs.length ac] 39)) := by (repeat (first | exact Gr.refl _ | assumption | apply Gr.drewN | apply Gr.drew | apply Gr.alloc | (refine Gr.setCell ?_ (by simp; try omega) _) | refine Gr.trans ?_ (by assumption)))
        clear bs bs1 S0 S1 SF0 SF1 K1 C0 C1 o3 g4 i4
        generalize w4.alloc (.cells #[.slice ma A.marks.length mc, .slice aa A.arcs.length ac] 39) = wf at bS hOn GF ⊢
        generalize w4.heap.size = sb at bS ⊢
        replace b0 := b0.gr GF
        replace GA := GA.trans GF
        clear b0 bS hOn GF
        go_wp2_with fail
        go_ret2
        exact ⟨GA, .inl ⟨by rw [HC.out]; exact HEN.out, by rw [HC.out]; rfl⟩⟩
      · have bS : Blk ((w4.setCell ⟨w3.heap.size, 0, none⟩ (.slice ma A.marks.length mc)).setCell ⟨w3.heap.size, 1, none⟩ (.slice aa A.arcs.length ac)) w3.heap.size 39 #[.slice ma A.marks.length mc, .slice aa A.arcs.length ac] := bs2
        have hOn : SpaceR ((w4.setCell ⟨w3.heap.size, 0, none⟩ (.slice ma A.marks.length mc)).setCell ⟨w3.heap.size, 1, none⟩ (.slice aa A.arcs.length ac)) (.agg #[.slice ma A.marks.length mc, .slice aa A.arcs.length ac]) A := (i4.kp (Kp.trans (set_kp (by simp) _) (set_kp (by simp) _))).now
        have GF : Gr w1 ((w4.setCell ⟨w3.heap.size, 0, none⟩ (.slice ma A.marks.length mc)).setCell ⟨w3.heap.size, 1, none⟩ (.slice aa A.arcs.length ac)) := by (repeat (first | exact Gr.refl _ | assumption | apply Gr.drewN | apply Gr.drew | apply Gr.alloc | (refine Gr.setCell ?_ (by simp; try omega) _) | refine Gr.trans ?_ (by assumption)))
        clear bs bs1 S0 S1 SF0 SF1 K1 C0 C1 o3 g4 i4
        generalize (w4.setCell ⟨w3.heap.size, 0, none⟩ (.slice ma A.marks.length mc)).setCell ⟨w3.heap.size, 1, none⟩ (.slice aa A.arcs.length ac) = wf at bS hOn GF ⊢
        generalize w3.heap.size = sb at bS ⊢
        replace b0 := b0.gr GF
        replace GA := GA.trans GF
        clear b0 bS hOn GF
        go_wp2_with fail
        go_ret2
        exact ⟨GA, .inl ⟨by rw [HC.out]; exact HEN.out, by rw [HC.out]; rfl⟩⟩
      · have bS : Blk ((w4.setCell ⟨w1.heap.size, 0, none⟩ (.slice ma A.marks.length mc)).setCell ⟨w1.heap.size, 1, none⟩ (.slice aa A.arcs.length ac)) w1.heap.size 39 #[.slice ma A.marks.length mc, .slice aa A.arcs.length ac] := bs2
        have hOn : SpaceR ((w4.setCell ⟨w1.heap.size, 0, none⟩ (.slice ma A.marks.length mc)).setCell ⟨w1.heap.size, 1, none⟩ (.slice aa A.arcs.length ac)) (.agg #[.slice ma A.marks.length mc, .slice aa A.arcs.length ac]) A := (i4.kp (Kp.trans (set_kp (by simp; omega) _) (set_kp (by simp; omega) _))).now
        have GF : Gr w1 ((w4.setCell ⟨w1.heap.size, 0, none⟩ (.slice ma A.marks.length mc)).setCell ⟨w1.heap.size, 1, none⟩ (.slice aa A.arcs.length ac)) := by (repeat (first | exact Gr.refl _ | assumption | apply Gr.drewN | apply Gr.drew | apply Gr.alloc | (refine Gr.setCell ?_ (by simp; try omega) _) | refine Gr.trans ?_ (by assumption)))
        clear bs bs1 S0 S1 SF0 SF1 K1 C0 C1 o3 g4 i4
        generalize (w4.setCell ⟨w1.heap.size, 0, none⟩ (.slice ma A.marks.length mc)).setCell ⟨w1.heap.size, 1, none⟩ (.slice aa A.arcs.length ac) = wf at bS hOn GF ⊢
        generalize w1.heap.size = sb at bS ⊢
        replace b0 := b0.gr GF
        replace GA := GA.trans GF
        clear b0 bS hOn GF
        go_wp2_with fail
        go_ret2
        exact ⟨GA, .inl ⟨by rw [HC.out]; exact HEN.out, by rw [HC.out]; rfl⟩⟩
    case pos =>
      subst he
      obtain ⟨hml, hal, hn24⟩ : A.marks.length ≤ 300 ∧ A.arcs.length ≤ 7300 ∧ N.trans.length ≤ 24 := by
        obtain ⟨s, h1, rfl, h2, h3, h4, hW⟩ := search_of_graph hg
        exact ⟨by have := hW.le; simp only []; omega, search_arcs h1, (fits_sizes h4).1⟩
      clear hg
      go_enter Try.func98, Try.ntmps98
      go_wp2_with fail
      refine (ShapeWrong_calls _ N i o _ (hN'.gr GA) hi ho).mono ?_
      rw [hs0]
      rintro _ w1 ⟨rfl, g1⟩
      have HS0 := Lib.hid hs0
      clear hs0
      replace b0 := b0.gr g1
      replace GA := GA.trans g1
      have C0 := b0.cell (i := 0) rfl
      have C1 := b0.cell (i := 1) rfl
      have K1 := hN'.gr GA
      have hb0 := b0.lt
      clear g1
      go_wp2_with fail
      go_region_held3 (fun w' => w'.cell? ⟨w.heap.size, 0, none⟩ = some (.int .i64 N.places) ∧ w'.cell? ⟨w.heap.size, 1, none⟩ = some (.slice a N.trans.length cap)) (first | go_keep | ((refine ⟨cell_gr C0 ?_, cell_gr C1 ?_⟩); (all_goals (focus ((repeat (first | exact Gr.refl _ | assumption | apply Gr.drewN | apply Gr.drew | apply Gr.alloc | (refine Gr.setCell ?_ (by simp; try omega) _) | refine Gr.trans ?_ (by assumption))); done))))) (first | (go_at_call 71; (with_reducible refine (Start_calls _ N _ _ (K1.gr ?_) hi).mono ?_); ((focus ((repeat (first | exact Gr.refl _ | assumption | apply Gr.alloc | apply Gr.drew | apply Gr.drewN | refine Gr.trans ?_ (by assumption))); done))); rintro _ w3 ⟨v3, rfl, o3, g3⟩; obtain ⟨ia, ic, rfl, _, _⟩ := o3.ints.len; have hw3 := g3.le; (try simp at hw3); have hw3' : w1.heap.size ≤ w3.heap.size := (by omega); (first | have bsA : Blk w3 w1.heap.size 39 #[.slice none 0 0, .slice none 0 0] := (Blk.new (w := w1.drew) rfl).gr g3 | skip)) | (go_at_call 14; (with_reducible refine (Graph_own _ _ N (oneN (startLen N) i) 300 _ (K1.gr ?_) (o3.ints.gr ?_) (by decide)).mono ?_); ((focus ((repeat (first | exact Gr.refl _ | assumption | apply Gr.alloc | apply Gr.drew | apply Gr.drewN | refine Gr.trans ?_ (by assumption))); done))); ((focus ((repeat (first | exact Gr.refl _ | assumption | apply Gr.alloc | apply Gr.drew | apply Gr.drewN | refine Gr.trans ?_ (by assumption))); done))); rw [HGR.out]; rintro _ w4 ⟨v4, rfl, i4, g4⟩; obtain ⟨ma, mc, aa, ac, rfl, hc1, hc2, hc3, hc4, hM, hA⟩ := i4.now.open_; clear hM hA; have hw4 := g4.le; (try simp at hw4); have hw4' : w1.heap.size ≤ w4.heap.size := (by omega); (first | have bs := bsA.gr g4 | have bs : Blk w4 w3.heap.size 39 #[.slice none 0 0, .slice none 0 0] := (Blk.new (w := w3) rfl).gr g4 | have bs : Blk (w4.alloc (.cells #[.slice none 0 0, .slice none 0 0] 39)) w4.heap.size 39 #[.slice none 0 0, .slice none 0 0] := Blk.new rfl); have S0 := bs.cell (i := 0) rfl; have SF0 := bs.frozen 0; have bs1 := bs.set 0 (.slice ma A.marks.length mc); have S1 := bs1.cell (i := 1) rfl; have SF1 := bs1.frozen 1; have bs2 := bs1.set 1 (.slice aa A.arcs.length ac)))
      · have bS : Blk (w4.alloc (.cells #[.slice ma A.marks.length mc, .slice aa A.arcs.length ac] 39)) w4.heap.size 39 #[.slice ma A.marks.length mc, .slice aa A.arcs.length ac] := Blk.new rfl
        have hOn : SpaceR (w4.alloc (.cells #[.slice ma A.marks.length mc, .slice aa A.arcs.length ac] 39)) (.agg #[.slice ma A.marks.length mc, .slice aa A.arcs.length ac]) A := (i4.gr ((Gr.refl w4).alloc _)).now
        have GF : Gr w1 (w4.alloc (.cells #[.slice ma A.marks.length mc, .slice aa A.arcs.length ac] 39)) := by (repeat (first | exact Gr.refl _ | assumption | apply Gr.drewN | apply Gr.drew | apply Gr.alloc | (refine Gr.setCell ?_ (by simp; try omega) _) | refine Gr.trans ?_ (by assumption)))
        clear bs bs1 S0 S1 SF0 SF1 K1 C0 C1 o3 g4 i4
        generalize w4.alloc (.cells #[.slice ma A.marks.length mc, .slice aa A.arcs.length ac] 39) = wf at bS hOn GF ⊢
        generalize w4.heap.size = sb at bS ⊢
        replace b0 := b0.gr GF
        replace GA := GA.trans GF
        have hTf := hT.gr GA
        have S0 := bS.cell (i := 0) (v := .slice ma A.marks.length mc) rfl
        have S1 := bS.cell (i := 1) (v := .slice aa A.arcs.length ac) rfl
        obtain ⟨vm, va, e1, hM, hA⟩ := hOn
        simp only [Value.agg.injEq, Array.mk.injEq, List.cons.injEq, and_true] at e1
        obtain ⟨rfl, rfl⟩ := e1
        have bP : Blk (wf.alloc (.cells #[.slice ma A.marks.length mc, .slice aa A.arcs.length ac, .slice none 0 0, .slice none 0 0] 180)) wf.heap.size 180 #[.slice ma A.marks.length mc, .slice aa A.arcs.length ac, .slice none 0 0, .slice none 0 0] := Blk.new rfl
        have GP : Gr wf (wf.alloc (.cells #[.slice ma A.marks.length mc, .slice aa A.arcs.length ac, .slice none 0 0, .slice none 0 0] 180)) := (Gr.refl _).alloc _
        have N1 := (b0.gr GP).cell (i := 1) (v := .slice a N.trans.length cap) rfl
        clear GF
        go_wp2_with fail
        generalize wf.alloc (.cells #[.slice ma A.marks.length mc, .slice aa A.arcs.length ac, .slice none 0 0, .slice none 0 0] 180) = wp at bP GP N1 ⊢
        go_loopw [41] (fun q wr => ∃ (k : Nat) (lv : Value), q = .int .i64 k ∧ k ≤ N.trans.length ∧ Blk wr wf.heap.size 180 #[.slice ma A.marks.length mc, .slice aa A.arcs.length ac, lv, .slice none 0 0] ∧ OwnI 3 (wf.heap.size + 1) wr lv ((labN N).take k) ∧ Gr wf wr) (fun q _ => N.trans.length - (intOf q).toNat)
        case atStart => exact ⟨0, _, rfl, Nat.zero_le _, bP, by rw [List.take_zero]; exact OwnI.nil _ _ _, GP⟩
        case round =>
          rename World => wr
          obtain ⟨k, lv, rfl, hk, bR, hl, hgr⟩ := hrel
          by_cases hlt : k < N.trans.length
          · obtain ⟨tb, tf, vp, vq, rfl, t0, t1, t2, hlI, hp, hq⟩ := (hTf.gr hgr).at_ hlt
            obtain ⟨pa, pc, rfl, _, _⟩ := hp.len
            obtain ⟨qa, qc, rfl, _, _⟩ := hq.len
            obtain ⟨la, lc, hlv, _, _⟩ := hl.ints.len
            have htk : ((labN N).take k).length = k := by rw [List.length_take, labN_len]; omega
            rw [htk] at hlv
            subst hlv
            have HTK := Lib.hid htk
            have HT2 := Lib.hid (show (labN N).take (k + 1) = (labN N).take k ++ [(N.tr k).label] by unfold labN; rw [map_takeS hlt, tr_ix])
            have HLT := Lib.hid (fun q (hq : (Value.slice la k lc).ownBlock = some q) => hl.lt hq)
            have hkI : (k : Int) < (N.trans.length : Int) := by omega
            have GB : Gr wr (wr.alloc (.cells #[.int .i64 (N.tr k).label, .slice pa (N.tr k).pre.length pc, .slice qa (N.tr k).post.length qc] 86)) := (Gr.refl _).alloc _
            have bT : Blk (wr.alloc (.cells #[.int .i64 (N.tr k).label, .slice pa (N.tr k).pre.length pc, .slice qa (N.tr k).post.length qc] 86)) wr.heap.size 86 #[.int .i64 (N.tr k).label, .slice pa (N.tr k).pre.length pc, .slice qa (N.tr k).post.length qc] := Blk.new rfl
            have bR2 := bR.gr GB
            have hl2 := hl.gr GB
            have hpw := bR.lt
            have P2 := bR2.cell (i := 2) (v := .slice la k lc) rfl
            have L0 := bT.cell (i := 0) (v := .int .i64 (N.tr k).label) rfl
            clear hp hq bR hl htk
            go_wp2_with fail
            generalize wr.alloc (.cells #[.int .i64 (N.tr k).label, .slice pa (N.tr k).pre.length pc, .slice qa (N.tr k).post.length qc] 86) = wb at GB bT bR2 hl2 P2 L0 ⊢
            refine cut11 (S := fun w' => w'.cell? ⟨wf.heap.size, 2, none⟩ = some (.slice la k lc) ∧ w'.cell? ⟨wr.heap.size, 0, none⟩ = some (.int .i64 (N.tr k).label)) (by kernel_rfl) (by kernel_rfl) ⟨cell_gr P2 (by (repeat (first | exact Gr.refl _ | assumption | apply Gr.alloc | apply Gr.drew | apply Gr.drewN | refine Gr.trans ?_ (by assumption)))), cell_gr L0 (by (repeat (first | exact Gr.refl _ | assumption | apply Gr.alloc | apply Gr.drew | apply Gr.drewN | refine Gr.trans ?_ (by assumption))))⟩ (fun hHeld => ?_)
            (refine hold0 (v := ?_) (by kernel_rfl) (by kernel_rfl) (by kernel_rfl) (fun _ _ _ h => h) (by rfl) (fun w' hSw => ?_) (by assumption) ?_; rotate_left 1; · ((try dsimp only at hSw); (try go_simp); (try (with_reducible rfl))); (try simp only [Act.put, List.setIfInBounds_toArray, List.set_cons_zero, List.set_cons_succ]))
            (refine hold1 (v := ?_) (by kernel_rfl) (by kernel_rfl) (by kernel_rfl) (fun _ _ _ h => h) (by rfl) (fun w' hSw => ?_) (by assumption) ?_; rotate_left 1; · ((try dsimp only at hSw); (try go_simp); (try (with_reducible rfl))); (try simp only [Act.put, List.setIfInBounds_toArray, List.set_cons_zero, List.set_cons_succ]))
            (refine hold2 (v := ?_) (by kernel_rfl) (by kernel_rfl) (by kernel_rfl) (fun _ _ _ h => h) (by rfl) (fun w' hSw => ?_) (by assumption) ?_; rotate_left 1; · ((try dsimp only at hSw); (try go_simp); (try (with_reducible rfl))); (try simp only [Act.put, List.setIfInBounds_toArray, List.set_cons_zero, List.set_cons_succ]))
            (refine hold3 (v := ?_) (by kernel_rfl) (by kernel_rfl) (by kernel_rfl) (fun _ _ _ h => h) (by rfl) (fun w' hSw => ?_) (by assumption) ?_; rotate_left 1; · ((try dsimp only at hSw); (try go_simp); (try (with_reducible rfl))); (try simp only [Act.put, List.setIfInBounds_toArray, List.set_cons_zero, List.set_cons_succ]))
            (refine hold4 (v := ?_) (by kernel_rfl) (by kernel_rfl) (by kernel_rfl) (fun _ _ _ h => h) (by rfl) (fun w' hSw => ?_) (by assumption) ?_; rotate_left 1; · ((try dsimp only at hSw); (try go_simp); (try (with_reducible rfl))); (try simp only [Act.put, List.setIfInBounds_toArray, List.set_cons_zero, List.set_cons_succ]))
            (refine hold5 (v := ?_) (by kernel_rfl) (by kernel_rfl) (by kernel_rfl) (fun _ _ _ h => h) (by rfl) (fun w' hSw => ?_) (by assumption) ?_; rotate_left 1; · ((try dsimp only at hSw); (try go_simp); (try (with_reducible rfl))); (try simp only [Act.put, List.setIfInBounds_toArray, List.set_cons_zero, List.set_cons_succ]))
            (refine hold6 (v := ?_) (by kernel_rfl) (by kernel_rfl) (by kernel_rfl) (fun _ _ _ h => h) (by rfl) (fun w' hSw => ?_) (by assumption) ?_; rotate_left 1; · ((try dsimp only at hSw); (try go_simp); (try (with_reducible rfl))); (try simp only [Act.put, List.setIfInBounds_toArray, List.set_cons_zero, List.set_cons_succ]))
            refine next7 (by kernel_rfl) (fun K hK => ?_)
            go_simp
            (refine hK.out _ _ ?_ (fun hHeld => ?_); · (exact ⟨cell_gr P2 (by (repeat (first | exact Gr.refl _ | assumption | apply Gr.alloc | apply Gr.drew | apply Gr.drewN | refine Gr.trans ?_ (by assumption)))), cell_gr L0 (by (repeat (first | exact Gr.refl _ | assumption | apply Gr.alloc | apply Gr.drew | apply Gr.drewN | refine Gr.trans ?_ (by assumption))))⟩))
            clear hK K
            try simp only [Act.put, List.setIfInBounds_toArray, List.set_cons_zero, List.set_cons_succ]
            refine next8 (by kernel_rfl) (fun K hK => ?_)
            refine step_app_int intTy (by rfl) _ _ (by rfl) (wf.heap.size + 1) (.slice la k lc) ((labN N).take k) ⟨wb.heap.size, 0, none⟩ (N.tr k).label (by rfl) (by rfl) (hl2.gr (by (repeat (first | exact Gr.refl _ | assumption | apply Gr.alloc | apply Gr.drew | apply Gr.drewN | refine Gr.trans ?_ (by assumption))))) (cell_gr (lit_cell rfl) (by (repeat (first | exact Gr.refl _ | assumption | apply Gr.alloc | apply Gr.drew | apply Gr.drewN | refine Gr.trans ?_ (by assumption))))) hlI (by rw [HTK.out]; omega) (by have := GB.le; simp; omega) ?_
            intro g cp w5 ho5 hgs5 hgb5 hat5 hlt5
            rw [HTK.out] at ho5 ⊢
            have GX : Gr wb ((wb.alloc (.cells #[.int .i64 (N.tr k).label] 3)).drew) := ((Gr.refl _).alloc _).drew
            have bR5 := (bR2.gr GX).grown hgb5 (fun e => by have := (HLT.out _ e.symm).1; omega)
            have bT5 := (bT.gr GX).grown hgb5 (fun e => by have := (HLT.out _ e.symm).2; omega)
            have P2' := bR5.cell (i := 2) (v := .slice la k lc) rfl
            have PF := bR5.frozen 2
            have L0' := bT5.cell (i := 0) (v := .int .i64 (N.tr k).label) rfl
            have G5 := hgs5 wf (Nat.le_succ _) (((hgr.trans GB).trans GX))
            (refine hK.out _ _ ?_ (fun hHeld => ?_); · (exact ⟨P2', L0'⟩))
            clear hK K
            try simp only [Act.put, List.setIfInBounds_toArray, List.set_cons_zero, List.set_cons_succ]
            (refine hold9 (v := ?_) (by kernel_rfl) (by kernel_rfl) (by kernel_rfl) (fun _ _ _ h => h) (by rfl) (fun w' hSw => ?_) (by assumption) ?_; rotate_left 1; · ((try dsimp only at hSw); (try go_simp); (try (with_reducible rfl))); (try simp only [Act.put, List.setIfInBounds_toArray, List.set_cons_zero, List.set_cons_succ]))
            (refine hold10 (v := ?_) (by kernel_rfl) (by kernel_rfl) (by kernel_rfl) (fun _ _ _ h => h) (by rfl) (fun w' hSw => ?_) (by assumption) ?_; rotate_left 1; · ((try dsimp only at hSw); (try go_simp); (try (with_reducible rfl))); (try simp only [Act.put, List.setIfInBounds_toArray, List.set_cons_zero, List.set_cons_succ]))
            refine ends11 (by kernel_rfl) (fun K hK => ?_)
            go_simp
            refine hK.out _ _ ?_
            go_wp2_with fail
            go_roundw
            case rel => exact ⟨k + 1, .slice (some ⟨g, 0, none⟩) (k + 1) cp, by go_num, by omega, bR5.set 2 _, by rw [HT2.out]; exact ho5.other (by intro e; have := (ho5.lt e).1; simp at this; omega) _, G5.setCell (Nat.le_refl _) _⟩
            case measure => simp [intOf]; omega
          · obtain rfl : k = N.trans.length := by omega
            have hlf : (labN N).take N.trans.length = labN N := List.take_of_length_le (by rw [labN_len]; omega)
            rw [hlf] at hl
            obtain ⟨la, lc, hlv, _, _⟩ := hl.ints.len
            subst hlv
            have D0 := (b0.gr hgr).cell (i := 0) (v := .int .i64 N.places) rfl
            have D1 := (b0.gr hgr).cell (i := 1) (v := .slice a N.trans.length cap) rfl
            have hpw := bR.lt
            clear hlf S0 S1 N1 bP GP
            go_wp2_with fail
            refine (Start_calls _ N o _ (hN'.gr (GA.trans hgr)) ho).mono ?_
            rintro _ w5 ⟨v5, rfl, o5, g5⟩
            obtain ⟨ea, ec, rfl, _, _⟩ := o5.ints.len
            have HLT := Lib.hid (fun q (hq : (Value.slice la (labN N).length lc).ownBlock = some q) => hl.lt hq)
            have HET := Lib.hid (fun q (hq : (Value.slice ea (oneN (startLen N) o).length ec).ownBlock = some q) => o5.lt hq)
            have S0 := ((bS.gr hgr).gr g5).cell (i := 0) (v := .slice ma A.marks.length mc) rfl
            have bR6 := bR.gr g5
            have hl6 := hl.gr g5
            have G6 := hgr.trans g5
            have hle5 := g5.le
            have hpe : ∀ q, (Value.slice ea (oneN (startLen N) o).length ec).ownBlock = some q → q ≠ wf.heap.size := fun q hq => by have := (HET.out q hq).1; omega
            clear D0 D1 bR hl hgr g5 bS
            go_wp2_with fail
            go_loopw [63] (fun q wr => ∃ (k : Nat) (ev : Value), q = .int .i64 k ∧ k ≤ A.marks.length ∧ Blk wr wf.heap.size 180 #[.slice ma A.marks.length mc, .slice aa A.arcs.length ac, .slice la (labN N).length lc, ev] ∧ OwnI 3 (wf.heap.size + 1) wr (.slice la (labN N).length lc) (labN N) ∧ OwnI 3 (wf.heap.size + 1) wr (.slice ea (oneN (startLen N) o).length ec) (oneN (startLen N) o) ∧ OwnB 4 w5.heap.size wr ev ((A.marks.map fun m => eqB m (oneN (startLen N) o)).take k) ∧ Gr wf wr ∧ w5.heap.size ≤ wr.heap.size) (fun q _ => A.marks.length - (intOf q).toNat)
            case atStart => exact ⟨0, _, rfl, Nat.zero_le _, bR6, hl6, o5.lower (by omega), by rw [List.take_zero]; exact OwnR.nil _ _ _ _, G6, Nat.le_refl _⟩
            case round =>
              rename World => wr
              obtain ⟨k, ev, rfl, hk, bR, hl, hE, hv, hgr, hw5⟩ := hrel
              by_cases hlt : k < A.marks.length
              · obtain ⟨mb, mf, mv, rfl, m0, hI⟩ := (hM.gr hgr).row hlt
                obtain ⟨ra, rc, rfl, _, _⟩ := hI.len
                obtain ⟨va, vc, hvv, _, _⟩ := OwnR.len hv
                have htk : ((A.marks.map fun m => eqB m (oneN (startLen N) o)).take k).length = k := by rw [List.length_take, List.length_map]; omega
                rw [htk] at hvv
                subst hvv
                have HTK := Lib.hid htk
                have HT2 := Lib.hid (show (A.marks.map fun m => eqB m (oneN (startLen N) o)).take (k + 1) = (A.marks.map fun m => eqB m (oneN (startLen N) o)).take k ++ [eqB (ix A.marks k) (oneN (startLen N) o)] from map_takeS hlt)
                have HVT := Lib.hid (fun q (hq : (Value.slice va k vc).ownBlock = some q) => OwnR.lt hv hq)
                have hkI : (k : Int) < (A.marks.length : Int) := by omega
                have P3 := bR.cell (i := 3) (v := .slice va k vc) rfl
                have HBR := Lib.hid bR
                have HL := Lib.hid hl
                have HE := Lib.hid hE
                have HV := Lib.hid hv
                have hn1 : (k + 1) * 1 ≤ 140737488355328 := by omega
                have hn2 : k + 1 ≤ maxLen := by unfold maxLen; omega
                clear bR hl hE hv htk
                go_wp2_with fail
                refine cut12 (S := fun w' => w'.cell? ⟨wf.heap.size, 3, none⟩ = some (.slice va k vc)) (by kernel_rfl) (by kernel_rfl) (cell_gr P3 (by (repeat (first | exact Gr.refl _ | assumption | apply Gr.alloc | apply Gr.drew | apply Gr.drewN | refine Gr.trans ?_ (by assumption))))) (fun hHeld => ?_)
                (refine hold0 (v := ?_) (by kernel_rfl) (by kernel_rfl) (by kernel_rfl) (fun _ _ _ h => h) (by rfl) (fun w' hSw => ?_) (by assumption) ?_; rotate_left 1; · ((try dsimp only at hSw); (try go_simp); (try (with_reducible rfl))); (try simp only [Act.put, List.setIfInBounds_toArray, List.set_cons_zero, List.set_cons_succ]))
                (refine hold1 (v := ?_) (by kernel_rfl) (by kernel_rfl) (by kernel_rfl) (fun _ _ _ h => h) (by rfl) (fun w' hSw => ?_) (by assumption) ?_; rotate_left 1; · ((try dsimp only at hSw); (try go_simp); (try (with_reducible rfl))); (try simp only [Act.put, List.setIfInBounds_toArray, List.set_cons_zero, List.set_cons_succ]))
                (refine hold2 (v := ?_) (by kernel_rfl) (by kernel_rfl) (by kernel_rfl) (fun _ _ _ h => h) (by rfl) (fun w' hSw => ?_) (by assumption) ?_; rotate_left 1; · ((try dsimp only at hSw); (try go_simp); (try (with_reducible rfl))); (try simp only [Act.put, List.setIfInBounds_toArray, List.set_cons_zero, List.set_cons_succ]))
                (refine hold3 (v := ?_) (by kernel_rfl) (by kernel_rfl) (by kernel_rfl) (fun _ _ _ h => h) (by rfl) (fun w' hSw => ?_) (by assumption) ?_; rotate_left 1; · ((try dsimp only at hSw); (try go_simp); (try (with_reducible rfl))); (try simp only [Act.put, List.setIfInBounds_toArray, List.set_cons_zero, List.set_cons_succ]))
                (refine hold4 (v := ?_) (by kernel_rfl) (by kernel_rfl) (by kernel_rfl) (fun _ _ _ h => h) (by rfl) (fun w' hSw => ?_) (by assumption) ?_; rotate_left 1; · ((try dsimp only at hSw); (try go_simp); (try (with_reducible rfl))); (try simp only [Act.put, List.setIfInBounds_toArray, List.set_cons_zero, List.set_cons_succ]))
                (refine hold5 (v := ?_) (by kernel_rfl) (by kernel_rfl) (by kernel_rfl) (fun _ _ _ h => h) (by rfl) (fun w' hSw => ?_) (by assumption) ?_; rotate_left 1; · ((try dsimp only at hSw); (try go_simp); (try (with_reducible rfl))); (try simp only [Act.put, List.setIfInBounds_toArray, List.set_cons_zero, List.set_cons_succ]))
                (refine hold6 (v := ?_) (by kernel_rfl) (by kernel_rfl) (by kernel_rfl) (fun _ _ _ h => h) (by rfl) (fun w' hSw => ?_) (by assumption) ?_; rotate_left 1; · ((try dsimp only at hSw); (try go_simp); (try (with_reducible rfl))); (try simp only [Act.put, List.setIfInBounds_toArray, List.set_cons_zero, List.set_cons_succ]))
                refine next7 (by kernel_rfl) (fun K hK => ?_)
                go_simp
                go_at_call 18
                refine (Equal_calls _ _ (ix A.marks k) (oneN (startLen N) o) _ (hI.gr (by (repeat (first | exact Gr.refl _ | assumption | apply Gr.alloc | apply Gr.drew | apply Gr.drewN | refine Gr.trans ?_ (by assumption))))) (HE.out.ints.gr (by (repeat (first | exact Gr.refl _ | assumption | apply Gr.alloc | apply Gr.drew | apply Gr.drewN | refine Gr.trans ?_ (by assumption)))))).mono ?_
                rintro _ x1 ⟨rfl, g7⟩
                (refine hK.out _ _ ?_ (fun hHeld => ?_); · (exact cell_gr P3 (by (repeat (first | exact Gr.refl _ | assumption | apply Gr.alloc | apply Gr.drew | apply Gr.drewN | refine Gr.trans ?_ (by assumption))))))
                clear hK K
                try simp only [Act.put, List.setIfInBounds_toArray, List.set_cons_zero, List.set_cons_succ]
                have G7 : Gr wr x1 := by (repeat (first | exact Gr.refl _ | assumption | apply Gr.alloc | apply Gr.drew | apply Gr.drewN | refine Gr.trans ?_ (by assumption)))
                refine next8 (by kernel_rfl) (fun K hK => ?_)
                go_simp
                (refine hK.out _ _ ?_ (fun hHeld => ?_); · (exact cell_gr P3 (by (repeat (first | exact Gr.refl _ | assumption | apply Gr.alloc | apply Gr.drew | apply Gr.drewN | refine Gr.trans ?_ (by assumption))))))
                clear hK K
                try simp only [Act.put, List.setIfInBounds_toArray, List.set_cons_zero, List.set_cons_succ]
                refine next9 (by kernel_rfl) (fun K hK => ?_)
                refine step_app_one boolTy (by rfl) _ _ (by rfl) w5.heap.size (fun _ => False) (.slice va k vc) ((A.marks.map fun m => eqB m (oneN (startLen N) o)).take k) ⟨x1.heap.size, 0, none⟩ (eqB (ix A.marks k) (oneN (startLen N) o)) [.bool (eqB (ix A.marks k) (oneN (startLen N) o))] (by rfl) (by rfl) (OwnR.gr HV.out (by (repeat (first | exact Gr.refl _ | assumption | apply Gr.alloc | apply Gr.drew | apply Gr.drewN | refine Gr.trans ?_ (by assumption))))) (World.news_of_block (cs := #[.bool (eqB (ix A.marks k) (oneN (startLen N) o))]) (t := 4) (fr := (0, 0)) (heap_alloc_new x1 _)) (On.true (p := [Value.bool (eqB (ix A.marks k) (oneN (startLen N) o))] = [.bool (eqB (ix A.marks k) (oneN (startLen N) o))] ∧ True) ⟨rfl, trivial⟩) (by rw [HTK.out]; exact hn1) (by rw [HTK.out]; exact hn2) (by have := G7.le; simp; omega) ?_
                intro g cp w6 ho6 hgs6 hgb6 hat6 hlt6
                rw [HTK.out] at ho6 ⊢
                have GX : Gr wr (x1.alloc (.cells #[.bool (eqB (ix A.marks k) (oneN (startLen N) o))] 4)) := G7.alloc _
                have bR6 := (HBR.out.gr GX).grown hgb6 (fun e => by have := (HVT.out _ e.symm).1; omega)
                have P3' := bR6.cell (i := 3) (v := .slice va k vc) rfl
                have PF := bR6.frozen 3
                have hl6 := (HL.out.gr GX).grown hgb6 (by
                  cases hq : (Value.slice la (labN N).length lc).ownBlock with
                  | none => exact .inl rfl
                  | some q => exact .inr (fun e => by have := (HLT.out q hq).2; have := (HVT.out q e.symm).1; omega))
                have hE6 := (HE.out.gr GX).grown hgb6 (by
                  cases hq : (Value.slice ea (oneN (startLen N) o).length ec).ownBlock with
                  | none => exact .inl rfl
                  | some q => exact .inr (fun e => by have := (HET.out q hq).2; have := (HVT.out q e.symm).1; omega))
                have hs7 : w5.heap.size ≤ w6.heap.size := by have := G7.le; have := hgb6.size; simp at this; omega
                have G6' := hgs6 wf (by omega) (hgr.trans GX)
                have hs6 := hgb6.size
                (refine hK.out _ _ ?_ (fun hHeld => ?_); · (exact P3'))
                clear hK K
                try simp only [Act.put, List.setIfInBounds_toArray, List.set_cons_zero, List.set_cons_succ]
                (refine hold10 (v := ?_) (by kernel_rfl) (by kernel_rfl) (by kernel_rfl) (fun _ _ _ h => h) (by rfl) (fun w' hSw => ?_) (by assumption) ?_; rotate_left 1; · ((try dsimp only at hSw); (try go_simp); (try (with_reducible rfl))); (try simp only [Act.put, List.setIfInBounds_toArray, List.set_cons_zero, List.set_cons_succ]))
                (refine hold11 (v := ?_) (by kernel_rfl) (by kernel_rfl) (by kernel_rfl) (fun _ _ _ h => h) (by rfl) (fun w' hSw => ?_) (by assumption) ?_; rotate_left 1; · ((try dsimp only at hSw); (try go_simp); (try (with_reducible rfl))); (try simp only [Act.put, List.setIfInBounds_toArray, List.set_cons_zero, List.set_cons_succ]))
                refine ends12 (by kernel_rfl) (fun K hK => ?_)
                go_simp
                refine hK.out _ _ ?_
                go_wp2_with fail
                go_roundw
                case rel => exact ⟨k + 1, .slice (some ⟨g, 0, none⟩) (k + 1) cp, by go_num, by omega, bR6.set 3 _, hl6.other (by intro e; have := (hl6.lt e).1; simp at this; omega) _, hE6.other (by intro e; have := (hE6.lt e).1; simp at this; omega) _, by rw [HT2.out]; exact OwnB.other ho6 (by intro e; have := (OwnR.lt ho6 e).1; simp at this; omega) _, G6'.setCell (Nat.le_refl _) _, by simpa using hs7⟩
                case measure => simp [intOf]; omega
              · obtain rfl : k = A.marks.length := by omega
                have hef : (A.marks.map fun m => eqB m (oneN (startLen N) o)).take A.marks.length = A.marks.map fun m => eqB m (oneN (startLen N) o) := List.take_of_length_le (by simp)
                rw [hef] at hv
                obtain ⟨va, vc, hvv, _, _⟩ := OwnR.len hv
                subst hvv
                have HSP := Lib.hid (show Spk wr wf.heap.size A.marks A.arcs (labN N) (A.marks.map fun m => eqB m (oneN (startLen N) o)) from ⟨ma, aa, la, va, mc, ac, lc, vc, bR, hM.gr hgr, hA.gr hgr, hl.ints, hv.rd⟩)
                have HGZ := Lib.hid (GA.trans hgr)
                clear hef hv bR hl hE
                go_wp2_with fail
                go_ret2
                exact ⟨HGZ.out, .inr ⟨HC.out, _, A, rfl, HS0.out, HGR.out, HSP.out⟩⟩
      · have bS : Blk ((w4.setCell ⟨w3.heap.size, 0, none⟩ (.slice ma A.marks.length mc)).setCell ⟨w3.heap.size, 1, none⟩ (.slice aa A.arcs.length ac)) w3.heap.size 39 #[.slice ma A.marks.length mc, .slice aa A.arcs.length ac] := bs2
        have hOn : SpaceR ((w4.setCell ⟨w3.heap.size, 0, none⟩ (.slice ma A.marks.length mc)).setCell ⟨w3.heap.size, 1, none⟩ (.slice aa A.arcs.length ac)) (.agg #[.slice ma A.marks.length mc, .slice aa A.arcs.length ac]) A := (i4.kp (Kp.trans (set_kp (by simp) _) (set_kp (by simp) _))).now
        have GF : Gr w1 ((w4.setCell ⟨w3.heap.size, 0, none⟩ (.slice ma A.marks.length mc)).setCell ⟨w3.heap.size, 1, none⟩ (.slice aa A.arcs.length ac)) := by (repeat (first | exact Gr.refl _ | assumption | apply Gr.drewN | apply Gr.drew | apply Gr.alloc | (refine Gr.setCell ?_ (by simp; try omega) _) | refine Gr.trans ?_ (by assumption)))
        clear bs bs1 S0 S1 SF0 SF1 K1 C0 C1 o3 g4 i4
        generalize (w4.setCell ⟨w3.heap.size, 0, none⟩ (.slice ma A.marks.length mc)).setCell ⟨w3.heap.size, 1, none⟩ (.slice aa A.arcs.length ac) = wf at bS hOn GF ⊢
        generalize w3.heap.size = sb at bS ⊢
        replace b0 := b0.gr GF
        replace GA := GA.trans GF
        have hTf := hT.gr GA
        have S0 := bS.cell (i := 0) (v := .slice ma A.marks.length mc) rfl
        have S1 := bS.cell (i := 1) (v := .slice aa A.arcs.length ac) rfl
        obtain ⟨vm, va, e1, hM, hA⟩ := hOn
        simp only [Value.agg.injEq, Array.mk.injEq, List.cons.injEq, and_true] at e1
        obtain ⟨rfl, rfl⟩ := e1
        have bP : Blk (wf.alloc (.cells #[.slice ma A.marks.length mc, .slice aa A.arcs.length ac, .slice none 0 0, .slice none 0 0] 180)) wf.heap.size 180 #[.slice ma A.marks.length mc, .slice aa A.arcs.length ac, .slice none 0 0, .slice none 0 0] := Blk.new rfl
        have GP : Gr wf (wf.alloc (.cells #[.slice ma A.marks.length mc, .slice aa A.arcs.length ac, .slice none 0 0, .slice none 0 0] 180)) := (Gr.refl _).alloc _
        have N1 := (b0.gr GP).cell (i := 1) (v := .slice a N.trans.length cap) rfl
        clear GF
        go_wp2_with fail
        generalize wf.alloc (.cells #[.slice ma A.marks.length mc, .slice aa A.arcs.length ac, .slice none 0 0, .slice none 0 0] 180) = wp at bP GP N1 ⊢
        go_loopw [41] (fun q wr => ∃ (k : Nat) (lv : Value), q = .int .i64 k ∧ k ≤ N.trans.length ∧ Blk wr wf.heap.size 180 #[.slice ma A.marks.length mc, .slice aa A.arcs.length ac, lv, .slice none 0 0] ∧ OwnI 3 (wf.heap.size + 1) wr lv ((labN N).take k) ∧ Gr wf wr) (fun q _ => N.trans.length - (intOf q).toNat)
        case atStart => exact ⟨0, _, rfl, Nat.zero_le _, bP, by rw [List.take_zero]; exact OwnI.nil _ _ _, GP⟩
        case round =>
          rename World => wr
          obtain ⟨k, lv, rfl, hk, bR, hl, hgr⟩ := hrel
          by_cases hlt : k < N.trans.length
          · obtain ⟨tb, tf, vp, vq, rfl, t0, t1, t2, hlI, hp, hq⟩ := (hTf.gr hgr).at_ hlt
            obtain ⟨pa, pc, rfl, _, _⟩ := hp.len
            obtain ⟨qa, qc, rfl, _, _⟩ := hq.len
            obtain ⟨la, lc, hlv, _, _⟩ := hl.ints.len
            have htk : ((labN N).take k).length = k := by rw [List.length_take, labN_len]; omega
            rw [htk] at hlv
            subst hlv
            have HTK := Lib.hid htk
            have HT2 := Lib.hid (show (labN N).take (k + 1) = (labN N).take k ++ [(N.tr k).label] by unfold labN; rw [map_takeS hlt, tr_ix])
            have HLT := Lib.hid (fun q (hq : (Value.slice la k lc).ownBlock = some q) => hl.lt hq)
            have hkI : (k : Int) < (N.trans.length : Int) := by omega
            have GB : Gr wr (wr.alloc (.cells #[.int .i64 (N.tr k).label, .slice pa (N.tr k).pre.length pc, .slice qa (N.tr k).post.length qc] 86)) := (Gr.refl _).alloc _
            have bT : Blk (wr.alloc (.cells #[.int .i64 (N.tr k).label, .slice pa (N.tr k).pre.length pc, .slice qa (N.tr k).post.length qc] 86)) wr.heap.size 86 #[.int .i64 (N.tr k).label, .slice pa (N.tr k).pre.length pc, .slice qa (N.tr k).post.length qc] := Blk.new rfl
            have bR2 := bR.gr GB
            have hl2 := hl.gr GB
            have hpw := bR.lt
            have P2 := bR2.cell (i := 2) (v := .slice la k lc) rfl
            have L0 := bT.cell (i := 0) (v := .int .i64 (N.tr k).label) rfl
            clear hp hq bR hl htk
            go_wp2_with fail
            generalize wr.alloc (.cells #[.int .i64 (N.tr k).label, .slice pa (N.tr k).pre.length pc, .slice qa (N.tr k).post.length qc] 86) = wb at GB bT bR2 hl2 P2 L0 ⊢
            refine cut11 (S := fun w' => w'.cell? ⟨wf.heap.size, 2, none⟩ = some (.slice la k lc) ∧ w'.cell? ⟨wr.heap.size, 0, none⟩ = some (.int .i64 (N.tr k).label)) (by kernel_rfl) (by kernel_rfl) ⟨cell_gr P2 (by (repeat (first | exact Gr.refl _ | assumption | apply Gr.alloc | apply Gr.drew | apply Gr.drewN | refine Gr.trans ?_ (by assumption)))), cell_gr L0 (by (repeat (first | exact Gr.refl _ | assumption | apply Gr.alloc | apply Gr.drew | apply Gr.drewN | refine Gr.trans ?_ (by assumption))))⟩ (fun hHeld => ?_)
            (refine hold0 (v := ?_) (by kernel_rfl) (by kernel_rfl) (by kernel_rfl) (fun _ _ _ h => h) (by rfl) (fun w' hSw => ?_) (by assumption) ?_; rotate_left 1; · ((try dsimp only at hSw); (try go_simp); (try (with_reducible rfl))); (try simp only [Act.put, List.setIfInBounds_toArray, List.set_cons_zero, List.set_cons_succ]))
            (refine hold1 (v := ?_) (by kernel_rfl) (by kernel_rfl) (by kernel_rfl) (fun _ _ _ h => h) (by rfl) (fun w' hSw => ?_) (by assumption) ?_; rotate_left 1; · ((try dsimp only at hSw); (try go_simp); (try (with_reducible rfl))); (try simp only [Act.put, List.setIfInBounds_toArray, List.set_cons_zero, List.set_cons_succ]))
            (refine hold2 (v := ?_) (by kernel_rfl) (by kernel_rfl) (by kernel_rfl) (fun _ _ _ h => h) (by rfl) (fun w' hSw => ?_) (by assumption) ?_; rotate_left 1; · ((try dsimp only at hSw); (try go_simp); (try (with_reducible rfl))); (try simp only [Act.put, List.setIfInBounds_toArray, List.set_cons_zero, List.set_cons_succ]))
            (refine hold3 (v := ?_) (by kernel_rfl) (by kernel_rfl) (by kernel_rfl) (fun _ _ _ h => h) (by rfl) (fun w' hSw => ?_) (by assumption) ?_; rotate_left 1; · ((try dsimp only at hSw); (try go_simp); (try (with_reducible rfl))); (try simp only [Act.put, List.setIfInBounds_toArray, List.set_cons_zero, List.set_cons_succ]))
            (refine hold4 (v := ?_) (by kernel_rfl) (by kernel_rfl) (by kernel_rfl) (fun _ _ _ h => h) (by rfl) (fun w' hSw => ?_) (by assumption) ?_; rotate_left 1; · ((try dsimp only at hSw); (try go_simp); (try (with_reducible rfl))); (try simp only [Act.put, List.setIfInBounds_toArray, List.set_cons_zero, List.set_cons_succ]))
            (refine hold5 (v := ?_) (by kernel_rfl) (by kernel_rfl) (by kernel_rfl) (fun _ _ _ h => h) (by rfl) (fun w' hSw => ?_) (by assumption) ?_; rotate_left 1; · ((try dsimp only at hSw); (try go_simp); (try (with_reducible rfl))); (try simp only [Act.put, List.setIfInBounds_toArray, List.set_cons_zero, List.set_cons_succ]))
            (refine hold6 (v := ?_) (by kernel_rfl) (by kernel_rfl) (by kernel_rfl) (fun _ _ _ h => h) (by rfl) (fun w' hSw => ?_) (by assumption) ?_; rotate_left 1; · ((try dsimp only at hSw); (try go_simp); (try (with_reducible rfl))); (try simp only [Act.put, List.setIfInBounds_toArray, List.set_cons_zero, List.set_cons_succ]))
            refine next7 (by kernel_rfl) (fun K hK => ?_)
            go_simp
            (refine hK.out _ _ ?_ (fun hHeld => ?_); · (exact ⟨cell_gr P2 (by (repeat (first | exact Gr.refl _ | assumption | apply Gr.alloc | apply Gr.drew | apply Gr.drewN | refine Gr.trans ?_ (by assumption)))), cell_gr L0 (by (repeat (first | exact Gr.refl _ | assumption | apply Gr.alloc | apply Gr.drew | apply Gr.drewN | refine Gr.trans ?_ (by assumption))))⟩))
            clear hK K
            try simp only [Act.put, List.setIfInBounds_toArray, List.set_cons_zero, List.set_cons_succ]
            refine next8 (by kernel_rfl) (fun K hK => ?_)
            refine step_app_int intTy (by rfl) _ _ (by rfl) (wf.heap.size + 1) (.slice la k lc) ((labN N).take k) ⟨wb.heap.size, 0, none⟩ (N.tr k).label (by rfl) (by rfl) (hl2.gr (by (repeat (first | exact Gr.refl _ | assumption | apply Gr.alloc | apply Gr.drew | apply Gr.drewN | refine Gr.trans ?_ (by assumption))))) (cell_gr (lit_cell rfl) (by (repeat (first | exact Gr.refl _ | assumption | apply Gr.alloc | apply Gr.drew | apply Gr.drewN | refine Gr.trans ?_ (by assumption))))) hlI (by rw [HTK.out]; omega) (by have := GB.le; simp; omega) ?_
            intro g cp w5 ho5 hgs5 hgb5 hat5 hlt5
            rw [HTK.out] at ho5 ⊢
            have GX : Gr wb ((wb.alloc (.cells #[.int .i64 (N.tr k).label] 3)).drew) := ((Gr.refl _).alloc _).drew
            have bR5 := (bR2.gr GX).grown hgb5 (fun e => by have := (HLT.out _ e.symm).1; omega)
            have bT5 := (bT.gr GX).grown hgb5 (fun e => by have := (HLT.out _ e.symm).2; omega)
            have P2' := bR5.cell (i := 2) (v := .slice la k lc) rfl
            have PF := bR5.frozen 2
            have L0' := bT5.cell (i := 0) (v := .int .i64 (N.tr k).label) rfl
            have G5 := hgs5 wf (Nat.le_succ _) (((hgr.trans GB).trans GX))
            (refine hK.out _ _ ?_ (fun hHeld => ?_); · (exact ⟨P2', L0'⟩))
            clear hK K
            try simp only [Act.put, List.setIfInBounds_toArray, List.set_cons_zero, List.set_cons_succ]
            (refine hold9 (v := ?_) (by kernel_rfl) (by kernel_rfl) (by kernel_rfl) (fun _ _ _ h => h) (by rfl) (fun w' hSw => ?_) (by assumption) ?_; rotate_left 1; · ((try dsimp only at hSw); (try go_simp); (try (with_reducible rfl))); (try simp only [Act.put, List.setIfInBounds_toArray, List.set_cons_zero, List.set_cons_succ]))
            (refine hold10 (v := ?_) (by kernel_rfl) (by kernel_rfl) (by kernel_rfl) (fun _ _ _ h => h) (by rfl) (fun w' hSw => ?_) (by assumption) ?_; rotate_left 1; · ((try dsimp only at hSw); (try go_simp); (try (with_reducible rfl))); (try simp only [Act.put, List.setIfInBounds_toArray, List.set_cons_zero, List.set_cons_succ]))
            refine ends11 (by kernel_rfl) (fun K hK => ?_)
            go_simp
            refine hK.out _ _ ?_
            go_wp2_with fail
            go_roundw
            case rel => exact ⟨k + 1, .slice (some ⟨g, 0, none⟩) (k + 1) cp, by go_num, by omega, bR5.set 2 _, by rw [HT2.out]; exact ho5.other (by intro e; have := (ho5.lt e).1; simp at this; omega) _, G5.setCell (Nat.le_refl _) _⟩
            case measure => simp [intOf]; omega
          · obtain rfl : k = N.trans.length := by omega
            have hlf : (labN N).take N.trans.length = labN N := List.take_of_length_le (by rw [labN_len]; omega)
            rw [hlf] at hl
            obtain ⟨la, lc, hlv, _, _⟩ := hl.ints.len
            subst hlv
            have D0 := (b0.gr hgr).cell (i := 0) (v := .int .i64 N.places) rfl
            have D1 := (b0.gr hgr).cell (i := 1) (v := .slice a N.trans.length cap) rfl
            have hpw := bR.lt
            clear hlf S0 S1 N1 bP GP
            go_wp2_with fail
            refine (Start_calls _ N o _ (hN'.gr (GA.trans hgr)) ho).mono ?_
            rintro _ w5 ⟨v5, rfl, o5, g5⟩
            obtain ⟨ea, ec, rfl, _, _⟩ := o5.ints.len
            have HLT := Lib.hid (fun q (hq : (Value.slice la (labN N).length lc).ownBlock = some q) => hl.lt hq)
            have HET := Lib.hid (fun q (hq : (Value.slice ea (oneN (startLen N) o).length ec).ownBlock = some q) => o5.lt hq)
            have S0 := ((bS.gr hgr).gr g5).cell (i := 0) (v := .slice ma A.marks.length mc) rfl
            have bR6 := bR.gr g5
            have hl6 := hl.gr g5
            have G6 := hgr.trans g5
            have hle5 := g5.le
            have hpe : ∀ q, (Value.slice ea (oneN (startLen N) o).length ec).ownBlock = some q → q ≠ wf.heap.size := fun q hq => by have := (HET.out q hq).1; omega
            clear D0 D1 bR hl hgr g5 bS
            go_wp2_with fail
            go_loopw [63] (fun q wr => ∃ (k : Nat) (ev : Value), q = .int .i64 k ∧ k ≤ A.marks.length ∧ Blk wr wf.heap.size 180 #[.slice ma A.marks.length mc, .slice aa A.arcs.length ac, .slice la (labN N).length lc, ev] ∧ OwnI 3 (wf.heap.size + 1) wr (.slice la (labN N).length lc) (labN N) ∧ OwnI 3 (wf.heap.size + 1) wr (.slice ea (oneN (startLen N) o).length ec) (oneN (startLen N) o) ∧ OwnB 4 w5.heap.size wr ev ((A.marks.map fun m => eqB m (oneN (startLen N) o)).take k) ∧ Gr wf wr ∧ w5.heap.size ≤ wr.heap.size) (fun q _ => A.marks.length - (intOf q).toNat)
            case atStart => exact ⟨0, _, rfl, Nat.zero_le _, bR6, hl6, o5.lower (by omega), by rw [List.take_zero]; exact OwnR.nil _ _ _ _, G6, Nat.le_refl _⟩
            case round =>
              rename World => wr
              obtain ⟨k, ev, rfl, hk, bR, hl, hE, hv, hgr, hw5⟩ := hrel
              by_cases hlt : k < A.marks.length
              · obtain ⟨mb, mf, mv, rfl, m0, hI⟩ := (hM.gr hgr).row hlt
                obtain ⟨ra, rc, rfl, _, _⟩ := hI.len
                obtain ⟨va, vc, hvv, _, _⟩ := OwnR.len hv
                have htk : ((A.marks.map fun m => eqB m (oneN (startLen N) o)).take k).length = k := by rw [List.length_take, List.length_map]; omega
                rw [htk] at hvv
                subst hvv
                have HTK := Lib.hid htk
                have HT2 := Lib.hid (show (A.marks.map fun m => eqB m (oneN (startLen N) o)).take (k + 1) = (A.marks.map fun m => eqB m (oneN (startLen N) o)).take k ++ [eqB (ix A.marks k) (oneN (startLen N) o)] from map_takeS hlt)
                have HVT := Lib.hid (fun q (hq : (Value.slice va k vc).ownBlock = some q) => OwnR.lt hv hq)
                have hkI : (k : Int) < (A.marks.length : Int) := by omega
                have P3 := bR.cell (i := 3) (v := .slice va k vc) rfl
                have HBR := Lib.hid bR
                have HL := Lib.hid hl
                have HE := Lib.hid hE
                have HV := Lib.hid hv
                have hn1 : (k + 1) * 1 ≤ 140737488355328 := by omega
                have hn2 : k + 1 ≤ maxLen := by unfold maxLen; omega
                clear bR hl hE hv htk
                go_wp2_with fail
                refine cut12 (S := fun w' => w'.cell? ⟨wf.heap.size, 3, none⟩ = some (.slice va k vc)) (by kernel_rfl) (by kernel_rfl) (cell_gr P3 (by (repeat (first | exact Gr.refl _ | assumption | apply Gr.alloc | apply Gr.drew | apply Gr.drewN | refine Gr.trans ?_ (by assumption))))) (fun hHeld => ?_)
                (refine hold0 (v := ?_) (by kernel_rfl) (by kernel_rfl) (by kernel_rfl) (fun _ _ _ h => h) (by rfl) (fun w' hSw => ?_) (by assumption) ?_; rotate_left 1; · ((try dsimp only at hSw); (try go_simp); (try (with_reducible rfl))); (try simp only [Act.put, List.setIfInBounds_toArray, List.set_cons_zero, List.set_cons_succ]))
                (refine hold1 (v := ?_) (by kernel_rfl) (by kernel_rfl) (by kernel_rfl) (fun _ _ _ h => h) (by rfl) (fun w' hSw => ?_) (by assumption) ?_; rotate_left 1; · ((try dsimp only at hSw); (try go_simp); (try (with_reducible rfl))); (try simp only [Act.put, List.setIfInBounds_toArray, List.set_cons_zero, List.set_cons_succ]))
                (refine hold2 (v := ?_) (by kernel_rfl) (by kernel_rfl) (by kernel_rfl) (fun _ _ _ h => h) (by rfl) (fun w' hSw => ?_) (by assumption) ?_; rotate_left 1; · ((try dsimp only at hSw); (try go_simp); (try (with_reducible rfl))); (try simp only [Act.put, List.setIfInBounds_toArray, List.set_cons_zero, List.set_cons_succ]))
                (refine hold3 (v := ?_) (by kernel_rfl) (by kernel_rfl) (by kernel_rfl) (fun _ _ _ h => h) (by rfl) (fun w' hSw => ?_) (by assumption) ?_; rotate_left 1; · ((try dsimp only at hSw); (try go_simp); (try (with_reducible rfl))); (try simp only [Act.put, List.setIfInBounds_toArray, List.set_cons_zero, List.set_cons_succ]))
                (refine hold4 (v := ?_) (by kernel_rfl) (by kernel_rfl) (by kernel_rfl) (fun _ _ _ h => h) (by rfl) (fun w' hSw => ?_) (by assumption) ?_; rotate_left 1; · ((try dsimp only at hSw); (try go_simp); (try (with_reducible rfl))); (try simp only [Act.put, List.setIfInBounds_toArray, List.set_cons_zero, List.set_cons_succ]))
                (refine hold5 (v := ?_) (by kernel_rfl) (by kernel_rfl) (by kernel_rfl) (fun _ _ _ h => h) (by rfl) (fun w' hSw => ?_) (by assumption) ?_; rotate_left 1; · ((try dsimp only at hSw); (try go_simp); (try (with_reducible rfl))); (try simp only [Act.put, List.setIfInBounds_toArray, List.set_cons_zero, List.set_cons_succ]))
                (refine hold6 (v := ?_) (by kernel_rfl) (by kernel_rfl) (by kernel_rfl) (fun _ _ _ h => h) (by rfl) (fun w' hSw => ?_) (by assumption) ?_; rotate_left 1; · ((try dsimp only at hSw); (try go_simp); (try (with_reducible rfl))); (try simp only [Act.put, List.setIfInBounds_toArray, List.set_cons_zero, List.set_cons_succ]))
                refine next7 (by kernel_rfl) (fun K hK => ?_)
                go_simp
                go_at_call 18
                refine (Equal_calls _ _ (ix A.marks k) (oneN (startLen N) o) _ (hI.gr (by (repeat (first | exact Gr.refl _ | assumption | apply Gr.alloc | apply Gr.drew | apply Gr.drewN | refine Gr.trans ?_ (by assumption))))) (HE.out.ints.gr (by (repeat (first | exact Gr.refl _ | assumption | apply Gr.alloc | apply Gr.drew | apply Gr.drewN | refine Gr.trans ?_ (by assumption)))))).mono ?_
                rintro _ x1 ⟨rfl, g7⟩
                (refine hK.out _ _ ?_ (fun hHeld => ?_); · (exact cell_gr P3 (by (repeat (first | exact Gr.refl _ | assumption | apply Gr.alloc | apply Gr.drew | apply Gr.drewN | refine Gr.trans ?_ (by assumption))))))
                clear hK K
                try simp only [Act.put, List.setIfInBounds_toArray, List.set_cons_zero, List.set_cons_succ]
                have G7 : Gr wr x1 := by (repeat (first | exact Gr.refl _ | assumption | apply Gr.alloc | apply Gr.drew | apply Gr.drewN | refine Gr.trans ?_ (by assumption)))
                refine next8 (by kernel_rfl) (fun K hK => ?_)
                go_simp
                (refine hK.out _ _ ?_ (fun hHeld => ?_); · (exact cell_gr P3 (by (repeat (first | exact Gr.refl _ | assumption | apply Gr.alloc | apply Gr.drew | apply Gr.drewN | refine Gr.trans ?_ (by assumption))))))
                clear hK K
                try simp only [Act.put, List.setIfInBounds_toArray, List.set_cons_zero, List.set_cons_succ]
                refine next9 (by kernel_rfl) (fun K hK => ?_)
                refine step_app_one boolTy (by rfl) _ _ (by rfl) w5.heap.size (fun _ => False) (.slice va k vc) ((A.marks.map fun m => eqB m (oneN (startLen N) o)).take k) ⟨x1.heap.size, 0, none⟩ (eqB (ix A.marks k) (oneN (startLen N) o)) [.bool (eqB (ix A.marks k) (oneN (startLen N) o))] (by rfl) (by rfl) (OwnR.gr HV.out (by (repeat (first | exact Gr.refl _ | assumption | apply Gr.alloc | apply Gr.drew | apply Gr.drewN | refine Gr.trans ?_ (by assumption))))) (World.news_of_block (cs := #[.bool (eqB (ix A.marks k) (oneN (startLen N) o))]) (t := 4) (fr := (0, 0)) (heap_alloc_new x1 _)) (On.true (p := [Value.bool (eqB (ix A.marks k) (oneN (startLen N) o))] = [.bool (eqB (ix A.marks k) (oneN (startLen N) o))] ∧ True) ⟨rfl, trivial⟩) (by rw [HTK.out]; exact hn1) (by rw [HTK.out]; exact hn2) (by have := G7.le; simp; omega) ?_
                intro g cp w6 ho6 hgs6 hgb6 hat6 hlt6
                rw [HTK.out] at ho6 ⊢
                have GX : Gr wr (x1.alloc (.cells #[.bool (eqB (ix A.marks k) (oneN (startLen N) o))] 4)) := G7.alloc _
                have bR6 := (HBR.out.gr GX).grown hgb6 (fun e => by have := (HVT.out _ e.symm).1; omega)
                have P3' := bR6.cell (i := 3) (v := .slice va k vc) rfl
                have PF := bR6.frozen 3
                have hl6 := (HL.out.gr GX).grown hgb6 (by
                  cases hq : (Value.slice la (labN N).length lc).ownBlock with
                  | none => exact .inl rfl
                  | some q => exact .inr (fun e => by have := (HLT.out q hq).2; have := (HVT.out q e.symm).1; omega))
                have hE6 := (HE.out.gr GX).grown hgb6 (by
                  cases hq : (Value.slice ea (oneN (startLen N) o).length ec).ownBlock with
                  | none => exact .inl rfl
                  | some q => exact .inr (fun e => by have := (HET.out q hq).2; have := (HVT.out q e.symm).1; omega))
                have hs7 : w5.heap.size ≤ w6.heap.size := by have := G7.le; have := hgb6.size; simp at this; omega
                have G6' := hgs6 wf (by omega) (hgr.trans GX)
                have hs6 := hgb6.size
                (refine hK.out _ _ ?_ (fun hHeld => ?_); · (exact P3'))
                clear hK K
                try simp only [Act.put, List.setIfInBounds_toArray, List.set_cons_zero, List.set_cons_succ]
                (refine hold10 (v := ?_) (by kernel_rfl) (by kernel_rfl) (by kernel_rfl) (fun _ _ _ h => h) (by rfl) (fun w' hSw => ?_) (by assumption) ?_; rotate_left 1; · ((try dsimp only at hSw); (try go_simp); (try (with_reducible rfl))); (try simp only [Act.put, List.setIfInBounds_toArray, List.set_cons_zero, List.set_cons_succ]))
                (refine hold11 (v := ?_) (by kernel_rfl) (by kernel_rfl) (by kernel_rfl) (fun _ _ _ h => h) (by rfl) (fun w' hSw => ?_) (by assumption) ?_; rotate_left 1; · ((try dsimp only at hSw); (try go_simp); (try (with_reducible rfl))); (try simp only [Act.put, List.setIfInBounds_toArray, List.set_cons_zero, List.set_cons_succ]))
                refine ends12 (by kernel_rfl) (fun K hK => ?_)
                go_simp
                refine hK.out _ _ ?_
                go_wp2_with fail
                go_roundw
                case rel => exact ⟨k + 1, .slice (some ⟨g, 0, none⟩) (k + 1) cp, by go_num, by omega, bR6.set 3 _, hl6.other (by intro e; have := (hl6.lt e).1; simp at this; omega) _, hE6.other (by intro e; have := (hE6.lt e).1; simp at this; omega) _, by rw [HT2.out]; exact OwnB.other ho6 (by intro e; have := (OwnR.lt ho6 e).1; simp at this; omega) _, G6'.setCell (Nat.le_refl _) _, by simpa using hs7⟩
                case measure => simp [intOf]; omega
              · obtain rfl : k = A.marks.length := by omega
                have hef : (A.marks.map fun m => eqB m (oneN (startLen N) o)).take A.marks.length = A.marks.map fun m => eqB m (oneN (startLen N) o) := List.take_of_length_le (by simp)
                rw [hef] at hv
                obtain ⟨va, vc, hvv, _, _⟩ := OwnR.len hv
                subst hvv
                have HSP := Lib.hid (show Spk wr wf.heap.size A.marks A.arcs (labN N) (A.marks.map fun m => eqB m (oneN (startLen N) o)) from ⟨ma, aa, la, va, mc, ac, lc, vc, bR, hM.gr hgr, hA.gr hgr, hl.ints, hv.rd⟩)
                have HGZ := Lib.hid (GA.trans hgr)
                clear hef hv bR hl hE
                go_wp2_with fail
                go_ret2
                exact ⟨HGZ.out, .inr ⟨HC.out, _, A, rfl, HS0.out, HGR.out, HSP.out⟩⟩
      · have bS : Blk ((w4.setCell ⟨w1.heap.size, 0, none⟩ (.slice ma A.marks.length mc)).setCell ⟨w1.heap.size, 1, none⟩ (.slice aa A.arcs.length ac)) w1.heap.size 39 #[.slice ma A.marks.length mc, .slice aa A.arcs.length ac] := bs2
        have hOn : SpaceR ((w4.setCell ⟨w1.heap.size, 0, none⟩ (.slice ma A.marks.length mc)).setCell ⟨w1.heap.size, 1, none⟩ (.slice aa A.arcs.length ac)) (.agg #[.slice ma A.marks.length mc, .slice aa A.arcs.length ac]) A := (i4.kp (Kp.trans (set_kp (by simp; omega) _) (set_kp (by simp; omega) _))).now
        have GF : Gr w1 ((w4.setCell ⟨w1.heap.size, 0, none⟩ (.slice ma A.marks.length mc)).setCell ⟨w1.heap.size, 1, none⟩ (.slice aa A.arcs.length ac)) := by (repeat (first | exact Gr.refl _ | assumption | apply Gr.drewN | apply Gr.drew | apply Gr.alloc | (refine Gr.setCell ?_ (by simp; try omega) _) | refine Gr.trans ?_ (by assumption)))
        clear bs bs1 S0 S1 SF0 SF1 K1 C0 C1 o3 g4 i4
        generalize (w4.setCell ⟨w1.heap.size, 0, none⟩ (.slice ma A.marks.length mc)).setCell ⟨w1.heap.size, 1, none⟩ (.slice aa A.arcs.length ac) = wf at bS hOn GF ⊢
        generalize w1.heap.size = sb at bS ⊢
        replace b0 := b0.gr GF
        replace GA := GA.trans GF
        have hTf := hT.gr GA
        have S0 := bS.cell (i := 0) (v := .slice ma A.marks.length mc) rfl
        have S1 := bS.cell (i := 1) (v := .slice aa A.arcs.length ac) rfl
        obtain ⟨vm, va, e1, hM, hA⟩ := hOn
        simp only [Value.agg.injEq, Array.mk.injEq, List.cons.injEq, and_true] at e1
        obtain ⟨rfl, rfl⟩ := e1
        have bP : Blk (wf.alloc (.cells #[.slice ma A.marks.length mc, .slice aa A.arcs.length ac, .slice none 0 0, .slice none 0 0] 180)) wf.heap.size 180 #[.slice ma A.marks.length mc, .slice aa A.arcs.length ac, .slice none 0 0, .slice none 0 0] := Blk.new rfl
        have GP : Gr wf (wf.alloc (.cells #[.slice ma A.marks.length mc, .slice aa A.arcs.length ac, .slice none 0 0, .slice none 0 0] 180)) := (Gr.refl _).alloc _
        have N1 := (b0.gr GP).cell (i := 1) (v := .slice a N.trans.length cap) rfl
        clear GF
        go_wp2_with fail
        generalize wf.alloc (.cells #[.slice ma A.marks.length mc, .slice aa A.arcs.length ac, .slice none 0 0, .slice none 0 0] 180) = wp at bP GP N1 ⊢
        go_loopw [41] (fun q wr => ∃ (k : Nat) (lv : Value), q = .int .i64 k ∧ k ≤ N.trans.length ∧ Blk wr wf.heap.size 180 #[.slice ma A.marks.length mc, .slice aa A.arcs.length ac, lv, .slice none 0 0] ∧ OwnI 3 (wf.heap.size + 1) wr lv ((labN N).take k) ∧ Gr wf wr) (fun q _ => N.trans.length - (intOf q).toNat)
        case atStart => exact ⟨0, _, rfl, Nat.zero_le _, bP, by rw [List.take_zero]; exact OwnI.nil _ _ _, GP⟩
        case round =>
          rename World => wr
          obtain ⟨k, lv, rfl, hk, bR, hl, hgr⟩ := hrel
          by_cases hlt : k < N.trans.length
          · obtain ⟨tb, tf, vp, vq, rfl, t0, t1, t2, hlI, hp, hq⟩ := (hTf.gr hgr).at_ hlt
            obtain ⟨pa, pc, rfl, _, _⟩ := hp.len
            obtain ⟨qa, qc, rfl, _, _⟩ := hq.len
            obtain ⟨la, lc, hlv, _, _⟩ := hl.ints.len
            have htk : ((labN N).take k).length = k := by rw [List.length_take, labN_len]; omega
            rw [htk] at hlv
            subst hlv
            have HTK := Lib.hid htk
            have HT2 := Lib.hid (show (labN N).take (k + 1) = (labN N).take k ++ [(N.tr k).label] by unfold labN; rw [map_takeS hlt, tr_ix])
            have HLT := Lib.hid (fun q (hq : (Value.slice la k lc).ownBlock = some q) => hl.lt hq)
            have hkI : (k : Int) < (N.trans.length : Int) := by omega
            have GB : Gr wr (wr.alloc (.cells #[.int .i64 (N.tr k).label, .slice pa (N.tr k).pre.length pc, .slice qa (N.tr k).post.length qc] 86)) := (Gr.refl _).alloc _
            have bT : Blk (wr.alloc (.cells #[.int .i64 (N.tr k).label, .slice pa (N.tr k).pre.length pc, .slice qa (N.tr k).post.length qc] 86)) wr.heap.size 86 #[.int .i64 (N.tr k).label, .slice pa (N.tr k).pre.length pc, .slice qa (N.tr k).post.length qc] := Blk.new rfl
            have bR2 := bR.gr GB
            have hl2 := hl.gr GB
            have hpw := bR.lt
            have P2 := bR2.cell (i := 2) (v := .slice la k lc) rfl
            have L0 := bT.cell (i := 0) (v := .int .i64 (N.tr k).label) rfl
            clear hp hq bR hl htk
            go_wp2_with fail
            generalize wr.alloc (.cells #[.int .i64 (N.tr k).label, .slice pa (N.tr k).pre.length pc, .slice qa (N.tr k).post.length qc] 86) = wb at GB bT bR2 hl2 P2 L0 ⊢
            refine cut11 (S := fun w' => w'.cell? ⟨wf.heap.size, 2, none⟩ = some (.slice la k lc) ∧ w'.cell? ⟨wr.heap.size, 0, none⟩ = some (.int .i64 (N.tr k).label)) (by kernel_rfl) (by kernel_rfl) ⟨cell_gr P2 (by (repeat (first | exact Gr.refl _ | assumption | apply Gr.alloc | apply Gr.drew | apply Gr.drewN | refine Gr.trans ?_ (by assumption)))), cell_gr L0 (by (repeat (first | exact Gr.refl _ | assumption | apply Gr.alloc | apply Gr.drew | apply Gr.drewN | refine Gr.trans ?_ (by assumption))))⟩ (fun hHeld => ?_)
            (refine hold0 (v := ?_) (by kernel_rfl) (by kernel_rfl) (by kernel_rfl) (fun _ _ _ h => h) (by rfl) (fun w' hSw => ?_) (by assumption) ?_; rotate_left 1; · ((try dsimp only at hSw); (try go_simp); (try (with_reducible rfl))); (try simp only [Act.put, List.setIfInBounds_toArray, List.set_cons_zero, List.set_cons_succ]))
            (refine hold1 (v := ?_) (by kernel_rfl) (by kernel_rfl) (by kernel_rfl) (fun _ _ _ h => h) (by rfl) (fun w' hSw => ?_) (by assumption) ?_; rotate_left 1; · ((try dsimp only at hSw); (try go_simp); (try (with_reducible rfl))); (try simp only [Act.put, List.setIfInBounds_toArray, List.set_cons_zero, List.set_cons_succ]))
            (refine hold2 (v := ?_) (by kernel_rfl) (by kernel_rfl) (by kernel_rfl) (fun _ _ _ h => h) (by rfl) (fun w' hSw => ?_) (by assumption) ?_; rotate_left 1; · ((try dsimp only at hSw); (try go_simp); (try (with_reducible rfl))); (try simp only [Act.put, List.setIfInBounds_toArray, List.set_cons_zero, List.set_cons_succ]))
            (refine hold3 (v := ?_) (by kernel_rfl) (by kernel_rfl) (by kernel_rfl) (fun _ _ _ h => h) (by rfl) (fun w' hSw => ?_) (by assumption) ?_; rotate_left 1; · ((try dsimp only at hSw); (try go_simp); (try (with_reducible rfl))); (try simp only [Act.put, List.setIfInBounds_toArray, List.set_cons_zero, List.set_cons_succ]))
            (refine hold4 (v := ?_) (by kernel_rfl) (by kernel_rfl) (by kernel_rfl) (fun _ _ _ h => h) (by rfl) (fun w' hSw => ?_) (by assumption) ?_; rotate_left 1; · ((try dsimp only at hSw); (try go_simp); (try (with_reducible rfl))); (try simp only [Act.put, List.setIfInBounds_toArray, List.set_cons_zero, List.set_cons_succ]))
            (refine hold5 (v := ?_) (by kernel_rfl) (by kernel_rfl) (by kernel_rfl) (fun _ _ _ h => h) (by rfl) (fun w' hSw => ?_) (by assumption) ?_; rotate_left 1; · ((try dsimp only at hSw); (try go_simp); (try (with_reducible rfl))); (try simp only [Act.put, List.setIfInBounds_toArray, List.set_cons_zero, List.set_cons_succ]))
            (refine hold6 (v := ?_) (by kernel_rfl) (by kernel_rfl) (by kernel_rfl) (fun _ _ _ h => h) (by rfl) (fun w' hSw => ?_) (by assumption) ?_; rotate_left 1; · ((try dsimp only at hSw); (try go_simp); (try (with_reducible rfl))); (try simp only [Act.put, List.setIfInBounds_toArray, List.set_cons_zero, List.set_cons_succ]))
            refine next7 (by kernel_rfl) (fun K hK => ?_)
            go_simp
            (refine hK.out _ _ ?_ (fun hHeld => ?_); · (exact ⟨cell_gr P2 (by (repeat (first | exact Gr.refl _ | assumption | apply Gr.alloc | apply Gr.drew | apply Gr.drewN | refine Gr.trans ?_ (by assumption)))), cell_gr L0 (by (repeat (first | exact Gr.refl _ | assumption | apply Gr.alloc | apply Gr.drew | apply Gr.drewN | refine Gr.trans ?_ (by assumption))))⟩))
            clear hK K
            try simp only [Act.put, List.setIfInBounds_toArray, List.set_cons_zero, List.set_cons_succ]
            refine next8 (by kernel_rfl) (fun K hK => ?_)
            refine step_app_int intTy (by rfl) _ _ (by rfl) (wf.heap.size + 1) (.slice la k lc) ((labN N).take k) ⟨wb.heap.size, 0, none⟩ (N.tr k).label (by rfl) (by rfl) (hl2.gr (by (repeat (first | exact Gr.refl _ | assumption | apply Gr.alloc | apply Gr.drew | apply Gr.drewN | refine Gr.trans ?_ (by assumption))))) (cell_gr (lit_cell rfl) (by (repeat (first | exact Gr.refl _ | assumption | apply Gr.alloc | apply Gr.drew | apply Gr.drewN | refine Gr.trans ?_ (by assumption))))) hlI (by rw [HTK.out]; omega) (by have := GB.le; simp; omega) ?_
            intro g cp w5 ho5 hgs5 hgb5 hat5 hlt5
            rw [HTK.out] at ho5 ⊢
            have GX : Gr wb ((wb.alloc (.cells #[.int .i64 (N.tr k).label] 3)).drew) := ((Gr.refl _).alloc _).drew
            have bR5 := (bR2.gr GX).grown hgb5 (fun e => by have := (HLT.out _ e.symm).1; omega)
            have bT5 := (bT.gr GX).grown hgb5 (fun e => by have := (HLT.out _ e.symm).2; omega)
            have P2' := bR5.cell (i := 2) (v := .slice la k lc) rfl
            have PF := bR5.frozen 2
            have L0' := bT5.cell (i := 0) (v := .int .i64 (N.tr k).label) rfl
            have G5 := hgs5 wf (Nat.le_succ _) (((hgr.trans GB).trans GX))
            (refine hK.out _ _ ?_ (fun hHeld => ?_); · (exact ⟨P2', L0'⟩))
            clear hK K
            try simp only [Act.put, List.setIfInBounds_toArray, List.set_cons_zero, List.set_cons_succ]
            (refine hold9 (v := ?_) (by kernel_rfl) (by kernel_rfl) (by kernel_rfl) (fun _ _ _ h => h) (by rfl) (fun w' hSw => ?_) (by assumption) ?_; rotate_left 1; · ((try dsimp only at hSw); (try go_simp); (try (with_reducible rfl))); (try simp only [Act.put, List.setIfInBounds_toArray, List.set_cons_zero, List.set_cons_succ]))
            (refine hold10 (v := ?_) (by kernel_rfl) (by kernel_rfl) (by kernel_rfl) (fun _ _ _ h => h) (by rfl) (fun w' hSw => ?_) (by assumption) ?_; rotate_left 1; · ((try dsimp only at hSw); (try go_simp); (try (with_reducible rfl))); (try simp only [Act.put, List.setIfInBounds_toArray, List.set_cons_zero, List.set_cons_succ]))
            refine ends11 (by kernel_rfl) (fun K hK => ?_)
            go_simp
            refine hK.out _ _ ?_
            go_wp2_with fail
            go_roundw
            case rel => exact ⟨k + 1, .slice (some ⟨g, 0, none⟩) (k + 1) cp, by go_num, by omega, bR5.set 2 _, by rw [HT2.out]; exact ho5.other (by intro e; have := (ho5.lt e).1; simp at this; omega) _, G5.setCell (Nat.le_refl _) _⟩
            case measure => simp [intOf]; omega
          · obtain rfl : k = N.trans.length := by omega
            have hlf : (labN N).take N.trans.length = labN N := List.take_of_length_le (by rw [labN_len]; omega)
            rw [hlf] at hl
            obtain ⟨la, lc, hlv, _, _⟩ := hl.ints.len
            subst hlv
            have D0 := (b0.gr hgr).cell (i := 0) (v := .int .i64 N.places) rfl
            have D1 := (b0.gr hgr).cell (i := 1) (v := .slice a N.trans.length cap) rfl
            have hpw := bR.lt
            clear hlf S0 S1 N1 bP GP
            go_wp2_with fail
            refine (Start_calls _ N o _ (hN'.gr (GA.trans hgr)) ho).mono ?_
            rintro _ w5 ⟨v5, rfl, o5, g5⟩
            obtain ⟨ea, ec, rfl, _, _⟩ := o5.ints.len
            have HLT := Lib.hid (fun q (hq : (Value.slice la (labN N).length lc).ownBlock = some q) => hl.lt hq)
            have HET := Lib.hid (fun q (hq : (Value.slice ea (oneN (startLen N) o).length ec).ownBlock = some q) => o5.lt hq)
            have S0 := ((bS.gr hgr).gr g5).cell (i := 0) (v := .slice ma A.marks.length mc) rfl
            have bR6 := bR.gr g5
            have hl6 := hl.gr g5
            have G6 := hgr.trans g5
            have hle5 := g5.le
            have hpe : ∀ q, (Value.slice ea (oneN (startLen N) o).length ec).ownBlock = some q → q ≠ wf.heap.size := fun q hq => by have := (HET.out q hq).1; omega
            clear D0 D1 bR hl hgr g5 bS
            go_wp2_with fail
            go_loopw [63] (fun q wr => ∃ (k : Nat) (ev : Value), q = .int .i64 k ∧ k ≤ A.marks.length ∧ Blk wr wf.heap.size 180 #[.slice ma A.marks.length mc, .slice aa A.arcs.length ac, .slice la (labN N).length lc, ev] ∧ OwnI 3 (wf.heap.size + 1) wr (.slice la (labN N).length lc) (labN N) ∧ OwnI 3 (wf.heap.size + 1) wr (.slice ea (oneN (startLen N) o).length ec) (oneN (startLen N) o) ∧ OwnB 4 w5.heap.size wr ev ((A.marks.map fun m => eqB m (oneN (startLen N) o)).take k) ∧ Gr wf wr ∧ w5.heap.size ≤ wr.heap.size) (fun q _ => A.marks.length - (intOf q).toNat)
            case atStart => exact ⟨0, _, rfl, Nat.zero_le _, bR6, hl6, o5.lower (by omega), by rw [List.take_zero]; exact OwnR.nil _ _ _ _, G6, Nat.le_refl _⟩
            case round =>
              rename World => wr
              obtain ⟨k, ev, rfl, hk, bR, hl, hE, hv, hgr, hw5⟩ := hrel
              by_cases hlt : k < A.marks.length
              · obtain ⟨mb, mf, mv, rfl, m0, hI⟩ := (hM.gr hgr).row hlt
                obtain ⟨ra, rc, rfl, _, _⟩ := hI.len
                obtain ⟨va, vc, hvv, _, _⟩ := OwnR.len hv
                have htk : ((A.marks.map fun m => eqB m (oneN (startLen N) o)).take k).length = k := by rw [List.length_take, List.length_map]; omega
                rw [htk] at hvv
                subst hvv
                have HTK := Lib.hid htk
                have HT2 := Lib.hid (show (A.marks.map fun m => eqB m (oneN (startLen N) o)).take (k + 1) = (A.marks.map fun m => eqB m (oneN (startLen N) o)).take k ++ [eqB (ix A.marks k) (oneN (startLen N) o)] from map_takeS hlt)
                have HVT := Lib.hid (fun q (hq : (Value.slice va k vc).ownBlock = some q) => OwnR.lt hv hq)
                have hkI : (k : Int) < (A.marks.length : Int) := by omega
                have P3 := bR.cell (i := 3) (v := .slice va k vc) rfl
                have HBR := Lib.hid bR
                have HL := Lib.hid hl
                have HE := Lib.hid hE
                have HV := Lib.hid hv
                have hn1 : (k + 1) * 1 ≤ 140737488355328 := by omega
                have hn2 : k + 1 ≤ maxLen := by unfold maxLen; omega
                clear bR hl hE hv htk
                go_wp2_with fail
                refine cut12 (S := fun w' => w'.cell? ⟨wf.heap.size, 3, none⟩ = some (.slice va k vc)) (by kernel_rfl) (by kernel_rfl) (cell_gr P3 (by (repeat (first | exact Gr.refl _ | assumption | apply Gr.alloc | apply Gr.drew | apply Gr.drewN | refine Gr.trans ?_ (by assumption))))) (fun hHeld => ?_)
                (refine hold0 (v := ?_) (by kernel_rfl) (by kernel_rfl) (by kernel_rfl) (fun _ _ _ h => h) (by rfl) (fun w' hSw => ?_) (by assumption) ?_; rotate_left 1; · ((try dsimp only at hSw); (try go_simp); (try (with_reducible rfl))); (try simp only [Act.put, List.setIfInBounds_toArray, List.set_cons_zero, List.set_cons_succ]))
                (refine hold1 (v := ?_) (by kernel_rfl) (by kernel_rfl) (by kernel_rfl) (fun _ _ _ h => h) (by rfl) (fun w' hSw => ?_) (by assumption) ?_; rotate_left 1; · ((try dsimp only at hSw); (try go_simp); (try (with_reducible rfl))); (try simp only [Act.put, List.setIfInBounds_toArray, List.set_cons_zero, List.set_cons_succ]))
                (refine hold2 (v := ?_) (by kernel_rfl) (by kernel_rfl) (by kernel_rfl) (fun _ _ _ h => h) (by rfl) (fun w' hSw => ?_) (by assumption) ?_; rotate_left 1; · ((try dsimp only at hSw); (try go_simp); (try (with_reducible rfl))); (try simp only [Act.put, List.setIfInBounds_toArray, List.set_cons_zero, List.set_cons_succ]))
                (refine hold3 (v := ?_) (by kernel_rfl) (by kernel_rfl) (by kernel_rfl) (fun _ _ _ h => h) (by rfl) (fun w' hSw => ?_) (by assumption) ?_; rotate_left 1; · ((try dsimp only at hSw); (try go_simp); (try (with_reducible rfl))); (try simp only [Act.put, List.setIfInBounds_toArray, List.set_cons_zero, List.set_cons_succ]))
                (refine hold4 (v := ?_) (by kernel_rfl) (by kernel_rfl) (by kernel_rfl) (fun _ _ _ h => h) (by rfl) (fun w' hSw => ?_) (by assumption) ?_; rotate_left 1; · ((try dsimp only at hSw); (try go_simp); (try (with_reducible rfl))); (try simp only [Act.put, List.setIfInBounds_toArray, List.set_cons_zero, List.set_cons_succ]))
                (refine hold5 (v := ?_) (by kernel_rfl) (by kernel_rfl) (by kernel_rfl) (fun _ _ _ h => h) (by rfl) (fun w' hSw => ?_) (by assumption) ?_; rotate_left 1; · ((try dsimp only at hSw); (try go_simp); (try (with_reducible rfl))); (try simp only [Act.put, List.setIfInBounds_toArray, List.set_cons_zero, List.set_cons_succ]))
                (refine hold6 (v := ?_) (by kernel_rfl) (by kernel_rfl) (by kernel_rfl) (fun _ _ _ h => h) (by rfl) (fun w' hSw => ?_) (by assumption) ?_; rotate_left 1; · ((try dsimp only at hSw); (try go_simp); (try (with_reducible rfl))); (try simp only [Act.put, List.setIfInBounds_toArray, List.set_cons_zero, List.set_cons_succ]))
                refine next7 (by kernel_rfl) (fun K hK => ?_)
                go_simp
                go_at_call 18
                refine (Equal_calls _ _ (ix A.marks k) (oneN (startLen N) o) _ (hI.gr (by (repeat (first | exact Gr.refl _ | assumption | apply Gr.alloc | apply Gr.drew | apply Gr.drewN | refine Gr.trans ?_ (by assumption))))) (HE.out.ints.gr (by (repeat (first | exact Gr.refl _ | assumption | apply Gr.alloc | apply Gr.drew | apply Gr.drewN | refine Gr.trans ?_ (by assumption)))))).mono ?_
                rintro _ x1 ⟨rfl, g7⟩
                (refine hK.out _ _ ?_ (fun hHeld => ?_); · (exact cell_gr P3 (by (repeat (first | exact Gr.refl _ | assumption | apply Gr.alloc | apply Gr.drew | apply Gr.drewN | refine Gr.trans ?_ (by assumption))))))
                clear hK K
                try simp only [Act.put, List.setIfInBounds_toArray, List.set_cons_zero, List.set_cons_succ]
                have G7 : Gr wr x1 := by (repeat (first | exact Gr.refl _ | assumption | apply Gr.alloc | apply Gr.drew | apply Gr.drewN | refine Gr.trans ?_ (by assumption)))
                refine next8 (by kernel_rfl) (fun K hK => ?_)
                go_simp
                (refine hK.out _ _ ?_ (fun hHeld => ?_); · (exact cell_gr P3 (by (repeat (first | exact Gr.refl _ | assumption | apply Gr.alloc | apply Gr.drew | apply Gr.drewN | refine Gr.trans ?_ (by assumption))))))
                clear hK K
                try simp only [Act.put, List.setIfInBounds_toArray, List.set_cons_zero, List.set_cons_succ]
                refine next9 (by kernel_rfl) (fun K hK => ?_)
                refine step_app_one boolTy (by rfl) _ _ (by rfl) w5.heap.size (fun _ => False) (.slice va k vc) ((A.marks.map fun m => eqB m (oneN (startLen N) o)).take k) ⟨x1.heap.size, 0, none⟩ (eqB (ix A.marks k) (oneN (startLen N) o)) [.bool (eqB (ix A.marks k) (oneN (startLen N) o))] (by rfl) (by rfl) (OwnR.gr HV.out (by (repeat (first | exact Gr.refl _ | assumption | apply Gr.alloc | apply Gr.drew | apply Gr.drewN | refine Gr.trans ?_ (by assumption))))) (World.news_of_block (cs := #[.bool (eqB (ix A.marks k) (oneN (startLen N) o))]) (t := 4) (fr := (0, 0)) (heap_alloc_new x1 _)) (On.true (p := [Value.bool (eqB (ix A.marks k) (oneN (startLen N) o))] = [.bool (eqB (ix A.marks k) (oneN (startLen N) o))] ∧ True) ⟨rfl, trivial⟩) (by rw [HTK.out]; exact hn1) (by rw [HTK.out]; exact hn2) (by have := G7.le; simp; omega) ?_
                intro g cp w6 ho6 hgs6 hgb6 hat6 hlt6
                rw [HTK.out] at ho6 ⊢
                have GX : Gr wr (x1.alloc (.cells #[.bool (eqB (ix A.marks k) (oneN (startLen N) o))] 4)) := G7.alloc _
                have bR6 := (HBR.out.gr GX).grown hgb6 (fun e => by have := (HVT.out _ e.symm).1; omega)
                have P3' := bR6.cell (i := 3) (v := .slice va k vc) rfl
                have PF := bR6.frozen 3
                have hl6 := (HL.out.gr GX).grown hgb6 (by
                  cases hq : (Value.slice la (labN N).length lc).ownBlock with
                  | none => exact .inl rfl
                  | some q => exact .inr (fun e => by have := (HLT.out q hq).2; have := (HVT.out q e.symm).1; omega))
                have hE6 := (HE.out.gr GX).grown hgb6 (by
                  cases hq : (Value.slice ea (oneN (startLen N) o).length ec).ownBlock with
                  | none => exact .inl rfl
                  | some q => exact .inr (fun e => by have := (HET.out q hq).2; have := (HVT.out q e.symm).1; omega))
                have hs7 : w5.heap.size ≤ w6.heap.size := by have := G7.le; have := hgb6.size; simp at this; omega
                have G6' := hgs6 wf (by omega) (hgr.trans GX)
                have hs6 := hgb6.size
                (refine hK.out _ _ ?_ (fun hHeld => ?_); · (exact P3'))
                clear hK K
                try simp only [Act.put, List.setIfInBounds_toArray, List.set_cons_zero, List.set_cons_succ]
                (refine hold10 (v := ?_) (by kernel_rfl) (by kernel_rfl) (by kernel_rfl) (fun _ _ _ h => h) (by rfl) (fun w' hSw => ?_) (by assumption) ?_; rotate_left 1; · ((try dsimp only at hSw); (try go_simp); (try (with_reducible rfl))); (try simp only [Act.put, List.setIfInBounds_toArray, List.set_cons_zero, List.set_cons_succ]))
                (refine hold11 (v := ?_) (by kernel_rfl) (by kernel_rfl) (by kernel_rfl) (fun _ _ _ h => h) (by rfl) (fun w' hSw => ?_) (by assumption) ?_; rotate_left 1; · ((try dsimp only at hSw); (try go_simp); (try (with_reducible rfl))); (try simp only [Act.put, List.setIfInBounds_toArray, List.set_cons_zero, List.set_cons_succ]))
                refine ends12 (by kernel_rfl) (fun K hK => ?_)
                go_simp
                refine hK.out _ _ ?_
                go_wp2_with fail
                go_roundw
                case rel => exact ⟨k + 1, .slice (some ⟨g, 0, none⟩) (k + 1) cp, by go_num, by omega, bR6.set 3 _, hl6.other (by intro e; have := (hl6.lt e).1; simp at this; omega) _, hE6.other (by intro e; have := (hE6.lt e).1; simp at this; omega) _, by rw [HT2.out]; exact OwnB.other ho6 (by intro e; have := (OwnR.lt ho6 e).1; simp at this; omega) _, G6'.setCell (Nat.le_refl _) _, by simpa using hs7⟩
                case measure => simp [intOf]; omega
              · obtain rfl : k = A.marks.length := by omega
                have hef : (A.marks.map fun m => eqB m (oneN (startLen N) o)).take A.marks.length = A.marks.map fun m => eqB m (oneN (startLen N) o) := List.take_of_length_le (by simp)
                rw [hef] at hv
                obtain ⟨va, vc, hvv, _, _⟩ := OwnR.len hv
                subst hvv
                have HSP := Lib.hid (show Spk wr wf.heap.size A.marks A.arcs (labN N) (A.marks.map fun m => eqB m (oneN (startLen N) o)) from ⟨ma, aa, la, va, mc, ac, lc, vc, bR, hM.gr hgr, hA.gr hgr, hl.ints, hv.rd⟩)
                have HGZ := Lib.hid (GA.trans hgr)
                clear hef hv bR hl hE
                go_wp2_with fail
                go_ret2
                exact ⟨HGZ.out, .inr ⟨HC.out, _, A, rfl, HS0.out, HGR.out, HSP.out⟩⟩
end Go.Proofs.Ytkanaoebpajbfaa
