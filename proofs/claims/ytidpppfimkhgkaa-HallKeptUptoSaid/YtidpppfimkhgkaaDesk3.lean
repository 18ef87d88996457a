/- Contract of desk's begin. -/
import Derived.Test.YtidpppfimkhgkaaDesk2
namespace Go.Tok
open Go.RowKit
set_option linter.unusedVariables false
theorem Rd.clip {α : Type} [Inhabited α] {K : Kind α} {w : World} {a : Option Addr} {c : Nat} {xs : List α} (h : Rd K w (.slice a xs.length c) xs) : Rd K w (.slice a xs.length xs.length) xs := by
  rcases h.form with ⟨h1, h0⟩ | ⟨ad, cap, h1, h2, h3⟩
  · subst h0
    cases h1
    exact Rd.nil _
  · cases h1
    by_cases h0 : xs.length = 0
    · obtain rfl : xs = [] := List.eq_nil_of_length_eq_zero h0
      exact rd_mk (a := some ad) rfl (Nat.le_refl _) (by unfold maxLen; simp) (fun h => by cases h) (fun i hi => by simp at hi)
    · obtain ⟨b, o, vs, hb, _⟩ := h.at_ (i := 0) (by omega)
      cases hb
      have := h.sub (i := 0) (m := xs.length) (c := xs.length) (o' := o) (by omega) (Nat.le_refl _) (by omega) (by omega)
      rwa [List.drop_zero, List.take_length] at this
theorem DeskR.parts {w : World} {vm vb vi : Value} {k : DeskD} (h : DeskR w (.agg #[vm, vb, vi]) k) : Ints w vm k.case.mark ∧ Ints w vb k.case.busy ∧ Rd itemK w vi k.items := by
  obtain ⟨a, b, c, h1, h2, h3, h4⟩ := h
  simp only [Value.agg.injEq, Array.mk.injEq, List.cons.injEq, and_true] at h1
  obtain ⟨rfl, rfl, rfl⟩ := h1
  exact ⟨h2, h3, h4⟩
/-- the blocks of S, and those from base on -/
def SOr (S : Nat → Prop) (base b : Nat) : Prop := S b ∨ base ≤ b
theorem On.sor {S : Nat → Prop} {base : Nat} {p : World → Prop} {w w' : World} (h : On S p w) (g : Gr w w') : On (SOr S base) p w' := (h.gr g).mono fun _ _ h => .inl h
theorem On.fresh_sor {S : Nat → Prop} {base base' : Nat} {p : World → Prop} {w : World} (h : On (fun b => base' ≤ b) p w) (hb : base ≤ base') : On (SOr S base) p w := h.mono fun _ _ h => .inr (Nat.le_trans hb h)
theorem On.set3 {S : Nat → Prop} {p : World → Prop} {w : World} (h : On S p w) {b : Nat} (hb : ¬ S b) (x y z : Value) : On S p (((w.setCell ⟨b, 0, none⟩ x).setCell ⟨b, 1, none⟩ y).setCell ⟨b, 2, none⟩ z) :=
  ((h.kp (set_kp (a := ⟨b, 0, none⟩) hb x)).kp (set_kp (a := ⟨b, 1, none⟩) hb y)).kp (set_kp (a := ⟨b, 2, none⟩) hb z)
theorem on_desk {S : Nat → Prop} {w : World} {vm vb vi : Value} {k : DeskD} (h1 : On S (fun w => Ints w vm k.case.mark) w) (h2 : On S (fun w => Ints w vb k.case.busy) w) (h3 : On S (fun w => Rd itemK w vi k.items) w) : On S (fun w => DeskR w (.agg #[vm, vb, vi]) k) w :=
  ((h1.and h2).and h3).imp fun w h => DeskR.mk_ h.1.1 h.1.2 h.2
theorem on_mark {S : Nat → Prop} {w : World} {vm vb vi : Value} {k : DeskD} (h : On S (fun w => DeskR w (.agg #[vm, vb, vi]) k) w) : On S (fun w => Ints w vm k.case.mark) w := h.imp fun w h => h.parts.1
theorem on_busy {S : Nat → Prop} {w : World} {vm vb vi : Value} {k : DeskD} (h : On S (fun w => DeskR w (.agg #[vm, vb, vi]) k) w) : On S (fun w => Ints w vb k.case.busy) w := h.imp fun w h => h.parts.2.1
theorem on_items {S : Nat → Prop} {w : World} {vm vb vi : Value} {k : DeskD} (h : On S (fun w => DeskR w (.agg #[vm, vb, vi]) k) w) : On S (fun w => Rd itemK w vi k.items) w := h.imp fun w h => h.parts.2.2
end Go.Tok
namespace Go.Proofs.Ytidpppfimkhgkaa
open Go.RowKit Go.Tok
set_option linter.unusedVariables false
set_option linter.unusedSimpArgs false
def RetDK (S : Nat → Prop) (w : World) (r : (DeskD × Int) × Int) (e : Ending) (w' : World) : Prop := ∃ v, e = .returned (.tuple #[v, .int .i64 r.1.2, .int .i64 r.2]) ∧ On (SOr S w.heap.size) (fun w => DeskR w v r.1.1) w' ∧ Gr w w'
theorem RetDK.mk {S : Nat → Prop} {w w' : World} {v : Value} {k : DeskD} {n e : Int} {r : (DeskD × Int) × Int} (hr : r = ((k, n), e)) (h : On (SOr S w.heap.size) (fun w => DeskR w v k) w') (g : Gr w w') : RetDK S w r (.returned (.tuple #[v, .int .i64 n, .int .i64 e])) w' := by subst hr; exact ⟨v, rfl, h, g⟩
theorem RetDK.old {S : Nat → Prop} {w w' : World} {v : Value} {k : DeskD} {n e : Int} {r : (DeskD × Int) × Int} (hr : r = ((k, n), e)) (h : On S (fun w => DeskR w v k) w) (g : Gr w w') : RetDK S w r (.returned (.tuple #[v, .int .i64 n, .int .i64 e])) w' := RetDK.mk hr (h.sor g) g
set_option maxHeartbeats 4000000 in
set_option maxRecDepth 100000 in
theorem begin_calls (v u : Value) (N : NetD) (roles : List (List Int)) (k : DeskD) (o : OpD) (w : World) (S : Nat → Prop) (hv : DesksR w v N roles) (hk : On S (fun w => DeskR w u k) w) (ho : opI o) (hil : k.items.length ≤ 3518437208873) :
    Calls Try.prog 131 #[v, u, opV o] w (RetDK S w (beginK N roles k o)) := by
  obtain ⟨a, c, r, d, rfl, htl, htc, hrd, hd, hpl, hN, hT, hR⟩ := hv.open_
  obtain ⟨ma, mc, ba, bc, ia, ic, rfl, _, _, _, _, hil1, hic, hM, hB, hI⟩ := hk.now.open_
  obtain ⟨ho1, ho2, ho3, ho4, ho5⟩ := ho
  have hpl1 := hpl.1
  have hpl2 := hpl.2
  have ho31 := ho3.1
  have ho32 := ho3.2
  unfold opV
  have b0 : Blk ((((w.alloc (.cells #[.int .i64 N.places, .slice a N.trans.length c, .slice r roles.length d] 168)).alloc (.cells #[.slice ma k.case.mark.length mc, .slice ba k.case.busy.length bc, .slice ia k.items.length ic] 66)).alloc (.cells #[.int .i64 o.kind, .int .i64 o.user, .int .i64 o.tran, .int .i64 o.item, .int .i64 o.to] 59)).alloc (.cells #[.slice none 0 0, .slice none 0 0, .slice none 0 0] 66)) w.heap.size 168 #[.int .i64 N.places, .slice a N.trans.length c, .slice r roles.length d] := (((Blk.new rfl).gr ((Gr.refl _).alloc _)).gr ((Gr.refl _).alloc _)).gr ((Gr.refl _).alloc _)
  have b1 : Blk ((((w.alloc (.cells #[.int .i64 N.places, .slice a N.trans.length c, .slice r roles.length d] 168)).alloc (.cells #[.slice ma k.case.mark.length mc, .slice ba k.case.busy.length bc, .slice ia k.items.length ic] 66)).alloc (.cells #[.int .i64 o.kind, .int .i64 o.user, .int .i64 o.tran, .int .i64 o.item, .int .i64 o.to] 59)).alloc (.cells #[.slice none 0 0, .slice none 0 0, .slice none 0 0] 66)) (w.heap.size + 1) 66 #[.slice ma k.case.mark.length mc, .slice ba k.case.busy.length bc, .slice ia k.items.length ic] := ((Blk.new (by simp)).gr ((Gr.refl _).alloc _)).gr ((Gr.refl _).alloc _)
  have b2 : Blk ((((w.alloc (.cells #[.int .i64 N.places, .slice a N.trans.length c, .slice r roles.length d] 168)).alloc (.cells #[.slice ma k.case.mark.length mc, .slice ba k.case.busy.length bc, .slice ia k.items.length ic] 66)).alloc (.cells #[.int .i64 o.kind, .int .i64 o.user, .int .i64 o.tran, .int .i64 o.item, .int .i64 o.to] 59)).alloc (.cells #[.slice none 0 0, .slice none 0 0, .slice none 0 0] 66)) (w.heap.size + 1 + 1) 59 #[.int .i64 o.kind, .int .i64 o.user, .int .i64 o.tran, .int .i64 o.item, .int .i64 o.to] := (Blk.new (by simp)).gr ((Gr.refl _).alloc _)
  have b3 : Blk ((((w.alloc (.cells #[.int .i64 N.places, .slice a N.trans.length c, .slice r roles.length d] 168)).alloc (.cells #[.slice ma k.case.mark.length mc, .slice ba k.case.busy.length bc, .slice ia k.items.length ic] 66)).alloc (.cells #[.int .i64 o.kind, .int .i64 o.user, .int .i64 o.tran, .int .i64 o.item, .int .i64 o.to] 59)).alloc (.cells #[.slice none 0 0, .slice none 0 0, .slice none 0 0] 66)) (w.heap.size + 1 + 1 + 1) 66 #[.slice none 0 0, .slice none 0 0, .slice none 0 0] := Blk.new (by simp)
  have GA : Gr w ((((w.alloc (.cells #[.int .i64 N.places, .slice a N.trans.length c, .slice r roles.length d] 168)).alloc (.cells #[.slice ma k.case.mark.length mc, .slice ba k.case.busy.length bc, .slice ia k.items.length ic] 66)).alloc (.cells #[.int .i64 o.kind, .int .i64 o.user, .int .i64 o.tran, .int .i64 o.item, .int .i64 o.to] 59)).alloc (.cells #[.slice none 0 0, .slice none 0 0, .slice none 0 0] 66)) := ((((Gr.refl _).alloc _).alloc _).alloc _).alloc _
  by_cases h0 : o.tran < 0
  · have HC := Lib.hid (beginK_none (N := N) (roles := roles) (k := k) (.inl h0))
    have A0 := b0.cell (i := 0) rfl
    have A1 := b0.cell (i := 1) rfl
    have A2 := b0.cell (i := 2) rfl
    have K0 := b1.cell (i := 0) rfl
    have K1 := b1.cell (i := 1) rfl
    have K2 := b1.cell (i := 2) rfl
    have P0 := b2.cell (i := 0) rfl
    have P1 := b2.cell (i := 1) rfl
    have P2 := b2.cell (i := 2) rfl
    have P3 := b2.cell (i := 3) rfl
    have P4 := b2.cell (i := 4) rfl
    have D0 := b3.cell (i := 0) rfl
    have F0 := b3.frozen 0
    have bq1 := b3.set 0 (.slice ma k.case.mark.length mc)
    have D1 := bq1.cell (i := 1) rfl
    have F1 := bq1.frozen 1
    have bq2 := bq1.set 1 (.slice ba k.case.busy.length bc)
    have D2 := bq2.cell (i := 2) rfl
    have F2 := bq2.frozen 2
    have bq3 := bq2.set 2 (.slice ia k.items.length ic)
    have E0 := bq3.cell (i := 0) rfl
    have E1 := bq3.cell (i := 1) rfl
    have E2 := bq3.cell (i := 2) rfl
    go_enter Try.func131, Try.ntmps131
    go_wp2_with fail
    refine bodyPost_ret (v := .tuple #[.agg #[.slice ma k.case.mark.length mc, .slice ba k.case.busy.length bc, .slice ia k.items.length ic], .int .i64 0, .int .i64 3]) (by simp [results, Try.results131, go_sem, E0, E1, E2]) rfl ?_
    refine RetDK.old HC.out hk ?_
    (repeat (first | exact Gr.refl _ | assumption | apply Gr.drewN | apply Gr.drew | apply Gr.alloc | (refine Gr.setCell ?_ (by simp; try omega) _) | refine Gr.trans ?_ (by assumption)))
  · obtain ⟨j, hj⟩ := Int.eq_ofNat_of_zero_le (show 0 ≤ o.tran by omega)
    rw [hj] at ho31 ho32 h0
    by_cases h1 : (N.trans.length : Int) ≤ (j : Int)
    · have HC := Lib.hid (beginK_none (N := N) (roles := roles) (k := k) (o := o) (.inr (by rw [hj]; exact h1)))
      rw [hj] at b0 b1 b2 b3 GA ⊢
      have A0 := b0.cell (i := 0) rfl
      have A1 := b0.cell (i := 1) rfl
      have A2 := b0.cell (i := 2) rfl
      have K0 := b1.cell (i := 0) rfl
      have K1 := b1.cell (i := 1) rfl
      have K2 := b1.cell (i := 2) rfl
      have P0 := b2.cell (i := 0) rfl
      have P1 := b2.cell (i := 1) rfl
      have P2 := b2.cell (i := 2) rfl
      have P3 := b2.cell (i := 3) rfl
      have P4 := b2.cell (i := 4) rfl
      have D0 := b3.cell (i := 0) rfl
      have F0 := b3.frozen 0
      have bq1 := b3.set 0 (.slice ma k.case.mark.length mc)
      have D1 := bq1.cell (i := 1) rfl
      have F1 := bq1.frozen 1
      have bq2 := bq1.set 1 (.slice ba k.case.busy.length bc)
      have D2 := bq2.cell (i := 2) rfl
      have F2 := bq2.frozen 2
      have bq3 := bq2.set 2 (.slice ia k.items.length ic)
      have E0 := bq3.cell (i := 0) rfl
      have E1 := bq3.cell (i := 1) rfl
      have E2 := bq3.cell (i := 2) rfl
      go_enter Try.func131, Try.ntmps131
      go_wp2_with fail
      refine bodyPost_ret (v := .tuple #[.agg #[.slice ma k.case.mark.length mc, .slice ba k.case.busy.length bc, .slice ia k.items.length ic], .int .i64 0, .int .i64 3]) (by simp [results, Try.results131, go_sem, E0, E1, E2]) rfl ?_
      refine RetDK.old HC.out hk ?_
      (repeat (first | exact Gr.refl _ | assumption | apply Gr.drewN | apply Gr.drew | apply Gr.alloc | (refine Gr.setCell ?_ (by simp; try omega) _) | refine Gr.trans ?_ (by assumption)))
    · have hjl : j < N.trans.length := by omega
      have hjl' : (j : Int) < (N.trans.length : Int) := by omega
      obtain ⟨tb, to, vp, vq, rfl, t0, t1, t2, hl, _, _⟩ := hT.at_ hjl
      rw [hj] at b0 b1 b2 b3 GA ⊢
      have A0 := b0.cell (i := 0) rfl
      have A1 := b0.cell (i := 1) rfl
      have A2 := b0.cell (i := 2) rfl
      have K0 := b1.cell (i := 0) rfl
      have K1 := b1.cell (i := 1) rfl
      have K2 := b1.cell (i := 2) rfl
      have P0 := b2.cell (i := 0) rfl
      have P1 := b2.cell (i := 1) rfl
      have P2 := b2.cell (i := 2) rfl
      have P3 := b2.cell (i := 3) rfl
      have P4 := b2.cell (i := 4) rfl
      have hjt : (j : Int).toNat = j := Int.toNat_natCast j
      go_enter Try.func131, Try.ntmps131
      go_wp2_with fail
      clear A0 A1 A2 K0 K1 K2 P0 P1 P2 P3 P4
      generalize ((((w.alloc (.cells #[.int .i64 N.places, .slice (some ⟨tb, to, none⟩) N.trans.length c, .slice r roles.length d] 168)).alloc (.cells #[.slice ma k.case.mark.length mc, .slice ba k.case.busy.length bc, .slice ia k.items.length ic] 66)).alloc (.cells #[.int .i64 o.kind, .int .i64 o.user, .int .i64 (j : Int), .int .i64 o.item, .int .i64 o.to] 59)).alloc (.cells #[.slice none 0 0, .slice none 0 0, .slice none 0 0] 66)) = wA at b0 b1 b2 b3 GA ⊢
      have A0 := b0.cell (i := 0) rfl
      have A1 := b0.cell (i := 1) rfl
      have A2 := b0.cell (i := 2) rfl
      have K0 := b1.cell (i := 0) rfl
      have K1 := b1.cell (i := 1) rfl
      have K2 := b1.cell (i := 2) rfl
      have P0 := b2.cell (i := 0) rfl
      have P1 := b2.cell (i := 1) rfl
      have P2 := b2.cell (i := 2) rfl
      have P3 := b2.cell (i := 3) rfl
      have P4 := b2.cell (i := 4) rfl
      have T0 := cell_gr t0 GA
      clear t1 t2
      go_region_held3 (fun w' => w'.cell? ⟨w.heap.size, 0, none⟩ = some (.int .i64 N.places) ∧ w'.cell? ⟨w.heap.size, 1, none⟩ = some (.slice (some ⟨tb, to, none⟩) N.trans.length c) ∧ w'.cell? ⟨w.heap.size, 2, none⟩ = some (.slice r roles.length d) ∧ w'.cell? ⟨w.heap.size + 1 + 1, 1, none⟩ = some (.int .i64 o.user) ∧ w'.cell? ⟨w.heap.size + 1 + 1, 2, none⟩ = some (.int .i64 (j : Int)) ∧ w'.cell? ⟨tb, to + j * 3, none⟩ = some (.int .i64 (N.tr j).label)) (first | go_keep | ((refine ⟨cell_gr A0 ?_, cell_gr A1 ?_, cell_gr A2 ?_, cell_gr P1 ?_, cell_gr P2 ?_, cell_gr T0 ?_⟩); (all_goals (focus ((repeat (first | exact Gr.refl _ | assumption | apply Gr.alloc | apply Gr.drew | apply Gr.drewN | refine Gr.trans ?_ (by assumption))); done))))) (first | (go_at_call 161; (with_reducible refine (may_calls _ N roles o.user (N.tr j).label _ (hv.gr ?_) ho2).mono ?_); ((focus (exact GA.trans (by (repeat (first | exact Gr.refl _ | assumption | apply Gr.alloc | apply Gr.drew | apply Gr.drewN | refine Gr.trans ?_ (by assumption)))); done))); rintro _ w4 ⟨rfl, g4⟩))
      have G4 : Gr wA w4 := by (repeat (first | exact Gr.refl _ | assumption | apply Gr.alloc | apply Gr.drew | apply Gr.drewN | refine Gr.trans ?_ (by assumption)))
      clear g4 A0 A1 A2 K0 K1 K2 P0 P1 P2 P3 P4 T0
      replace b0 := b0.gr G4
      replace b1 := b1.gr G4
      replace b2 := b2.gr G4
      replace b3 := b3.gr G4
      replace GA := GA.trans G4
      have A0 := b0.cell (i := 0) rfl
      have A1 := b0.cell (i := 1) rfl
      have A2 := b0.cell (i := 2) rfl
      have K0 := b1.cell (i := 0) rfl
      have K1 := b1.cell (i := 1) rfl
      have K2 := b1.cell (i := 2) rfl
      have P0 := b2.cell (i := 0) rfl
      have P1 := b2.cell (i := 1) rfl
      have P2 := b2.cell (i := 2) rfl
      have P3 := b2.cell (i := 3) rfl
      have P4 := b2.cell (i := 4) rfl
      have T0 := cell_gr t0 GA
      cases hm : mayF roles o.user (N.tr j).label
      · have HC := Lib.hid (beginK_role hj hjl hm (k := k))
        clear hm
        have D0 := b3.cell (i := 0) rfl
        have F0 := b3.frozen 0
        have bq1 := b3.set 0 (.slice ma k.case.mark.length mc)
        have D1 := bq1.cell (i := 1) rfl
        have F1 := bq1.frozen 1
        have bq2 := bq1.set 1 (.slice ba k.case.busy.length bc)
        have D2 := bq2.cell (i := 2) rfl
        have F2 := bq2.frozen 2
        have bq3 := bq2.set 2 (.slice ia k.items.length ic)
        have E0 := bq3.cell (i := 0) rfl
        have E1 := bq3.cell (i := 1) rfl
        have E2 := bq3.cell (i := 2) rfl
        go_wp2_with fail
        refine bodyPost_ret (v := .tuple #[.agg #[.slice ma k.case.mark.length mc, .slice ba k.case.busy.length bc, .slice ia k.items.length ic], .int .i64 0, .int .i64 6]) (by simp [results, Try.results131, go_sem, E0, E1, E2]) rfl ?_
        refine RetDK.old HC.out hk ?_
        (repeat (first | exact Gr.refl _ | assumption | apply Gr.drewN | apply Gr.drew | apply Gr.alloc | (refine Gr.setCell ?_ (by simp; try omega) _) | refine Gr.trans ?_ (by assumption)))
      · rcases hd2 : doF N k.case 2 (j : Int) with ⟨c2, e⟩
        have HD := Lib.hid hd2
        have jI : I64 (j : Int) := ⟨ho31, ho32⟩
        by_cases he : e = 0
        · subst he
          have HC := Lib.hid (beginK_ok hj hjl hm hd2)
          clear hm hd2
          go_wp2_with fail
          refine (Do_calls _ _ N k.case _ _ _ (hN.gr GA) (CaseR.mk_ (hM.gr GA) (hB.gr GA)) (by decide) jI).mono ?_
          rw [HD.out]; rintro _ w5 ⟨v5, rfl, ⟨pm, pb, rfl, i6, i7⟩, g5⟩
          obtain ⟨pa, pn, rfl, _, _⟩ := i6.ints.len
          obtain ⟨qa, qn, rfl, _, _⟩ := i7.ints.len
          have hw4 := Lib.hid b3.lt
          replace b0 := b0.gr g5
          replace b1 := b1.gr g5
          replace b2 := b2.gr g5
          replace b3 := b3.gr g5
          replace GA := GA.trans g5
          clear A0 A1 A2 K0 K1 K2 P0 P1 P2 P3 P4 T0
          go_wp2_with fail
          have GX : Gr w5 (w5.alloc (.cells #[.slice pa c2.mark.length pn, .slice qa c2.busy.length qn] 63)) := (Gr.refl _).alloc _
          have X0 : (w5.alloc (.cells #[.slice pa c2.mark.length pn, .slice qa c2.busy.length qn] 63)).cell? ⟨w5.heap.size, 0, none⟩ = some (.slice pa c2.mark.length pn) := box_cell (Gr.refl _) (i := 0) rfl
          have X1 : (w5.alloc (.cells #[.slice pa c2.mark.length pn, .slice qa c2.busy.length qn] 63)).cell? ⟨w5.heap.size, 1, none⟩ = some (.slice qa c2.busy.length qn) := box_cell (Gr.refl _) (i := 1) rfl
          generalize w5.alloc (.cells #[.slice pa c2.mark.length pn, .slice qa c2.busy.length qn] 63) = wX at GX X0 X1 ⊢
          replace b0 := b0.gr GX
          replace b1 := b1.gr GX
          replace b2 := b2.gr GX
          replace b3 := b3.gr GX
          replace GA := GA.trans GX
          replace i6 := i6.gr GX
          replace i7 := i7.gr GX
          have K2 := b1.cell (i := 2) rfl
          have P1 := b2.cell (i := 1) rfl
          have P2 := b2.cell (i := 2) rfl
          have hxs := item_okI hI
          have hI6 : Rd itemK wX (.slice ia k.items.length k.items.length) k.items := (hI.gr GA).clip
          have hyI : itemI ⟨o.user, (j : Int), true⟩ := ⟨ho2, jI⟩
          go_region_held3 (fun w' => w'.cell? ⟨w.heap.size + 1, 2, none⟩ = some (.slice ia k.items.length ic) ∧ w'.cell? ⟨w.heap.size + 1 + 1, 1, none⟩ = some (.int .i64 o.user) ∧ w'.cell? ⟨w.heap.size + 1 + 1, 2, none⟩ = some (.int .i64 (j : Int))) (first | go_keep | ((refine ⟨cell_gr K2 ?_, cell_gr P1 ?_, cell_gr P2 ?_⟩); (all_goals (focus ((repeat (first | exact Gr.refl _ | assumption | apply Gr.alloc | apply Gr.drew | apply Gr.drewN | refine Gr.trans ?_ (by assumption))); done))))) (first | (go_at_call 162; (with_reducible refine (ClipItem_calls _ _ _ k.items _ (hI.gr ?_)).mono ?_); ((focus (exact GA.trans (by (repeat (first | exact Gr.refl _ | assumption | apply Gr.alloc | apply Gr.drew | apply Gr.drewN | refine Gr.trans ?_ (by assumption)))); done))); rintro _ w6 ⟨rfl, _, rfl⟩) | (refine step_grow_one itemTy (by rfl) _ _ (by rfl) ia k.items _ ⟨o.user, (j : Int), true⟩ (by rfl) (by rfl) (Rd.gr hI6 ?_) hxs (World.news_of_block (cs := #[.int .i64 o.user, .int .i64 (j : Int), .bool true]) (t := 156) (fr := (0, 0)) ?_) hyI (by omega) (by unfold maxLen; omega) ?_; ((focus ((repeat (first | exact Gr.refl _ | assumption | apply Gr.alloc | apply Gr.drew | apply Gr.drewN | refine Gr.trans ?_ (by assumption))); done))); ((focus ((first | exact heap_alloc_new wX _ | exact heap_alloc_new wX.drew _ | exact heap_alloc_new _ _); done))); intro g cp w7 o7 g7))
          all_goals
            have G7 : Gr wX w7 := by (repeat (first | exact Gr.refl _ | assumption | apply Gr.alloc | apply Gr.drew | apply Gr.drewN | refine Gr.trans ?_ (by assumption)))
            have o8 : On (fun b => wX.heap.size ≤ b) (fun w => Rd itemK w (.slice (some ⟨g, 0, none⟩) (k.items.length + 1) cp) (k.items ++ [⟨o.user, (j : Int), true⟩])) w7 := (o7.fresh (fun _ _ h => h.elim)).mono (fun b _ hb => Nat.le_trans (Gr.le (by (repeat (first | exact Gr.refl _ | assumption | apply Gr.alloc | apply Gr.drew | apply Gr.drewN | refine Gr.trans ?_ (by assumption))))) hb)
            clear o7 g7 K2 P1 P2 b0 b1 b2
            replace b3 := b3.gr G7
            replace X0 := cell_gr X0 G7
            replace X1 := cell_gr X1 G7
            replace i6 := i6.gr G7
            replace i7 := i7.gr G7
            have hwX := GX.le
            have hw5 := g5.le
            replace GA := GA.trans G7
            clear G7 GX g5
            have hq : ((k.items.length + 1 : Nat) : Int) - 1 = (k.items.length : Int) := by omega
            have D0 := b3.cell (i := 0) rfl
            have F0 := b3.frozen 0
            have bq1 := b3.set 0 (.slice pa c2.mark.length pn)
            have D1 := bq1.cell (i := 1) rfl
            have F1 := bq1.frozen 1
            have bq2 := bq1.set 1 (.slice qa c2.busy.length qn)
            have D2 := bq2.cell (i := 2) rfl
            have F2 := bq2.frozen 2
            have bq3 := bq2.set 2 (.slice (some ⟨g, 0, none⟩) (k.items.length + 1) cp)
            have E0 := bq3.cell (i := 0) rfl
            have E1 := bq3.cell (i := 1) rfl
            have E2 := bq3.cell (i := 2) rfl
            go_wp2_with fail
            refine bodyPost_ret (v := .tuple #[.agg #[.slice pa c2.mark.length pn, .slice qa c2.busy.length qn, .slice (some ⟨g, 0, none⟩) (k.items.length + 1) cp], .int .i64 k.items.length, .int .i64 0]) (by simp [results, Try.results131, go_sem, E0, E1, E2]) rfl ?_
            have hlt := hw4.out
            refine RetDK.mk HC.out (on_desk (k := ⟨c2, k.items ++ [⟨o.user, (j : Int), true⟩]⟩) (((Ints.on_fresh i6).set3 ?_ _ _ _).fresh_sor ?_) (((Ints.on_fresh i7).set3 ?_ _ _ _).fresh_sor ?_) ((o8.set3 ?_ _ _ _).fresh_sor ?_)) ?_
            · omega
            · omega
            · omega
            · omega
            · omega
            · omega
            (repeat (first | exact Gr.refl _ | assumption | apply Gr.drewN | apply Gr.drew | apply Gr.alloc | (refine Gr.setCell ?_ (by simp; try omega) _) | refine Gr.trans ?_ (by assumption)))
        · have q1 : (e != 0) = true := by simpa using he
          have HC := Lib.hid (beginK_bad hj hjl hm hd2 he)
          clear hm hd2 he
          go_wp2_with fail
          refine (Do_calls _ _ N k.case _ _ _ (hN.gr GA) (CaseR.mk_ (hM.gr GA) (hB.gr GA)) (by decide) jI).mono ?_
          rw [HD.out]; rintro _ w5 ⟨v5, rfl, ⟨pm, pb, rfl, i6, i7⟩, g5⟩
          obtain ⟨pa, pn, rfl, _, _⟩ := i6.ints.len
          obtain ⟨qa, qn, rfl, _, _⟩ := i7.ints.len
          have GY : Gr w4 (w5.alloc (.cells #[.slice pa c2.mark.length pn, .slice qa c2.busy.length qn] 63)) := g5.alloc _
          replace b0 := b0.gr GY
          replace b1 := b1.gr GY
          replace b3 := b3.gr GY
          clear A0 A1 A2 K0 K1 K2 P0 P1 P2 P3 P4 T0
          have K0 := b1.cell (i := 0) rfl
          have K1 := b1.cell (i := 1) rfl
          have K2 := b1.cell (i := 2) rfl
          have D0 := b3.cell (i := 0) rfl
          have F0 := b3.frozen 0
          have bq1 := b3.set 0 (.slice ma k.case.mark.length mc)
          have D1 := bq1.cell (i := 1) rfl
          have F1 := bq1.frozen 1
          have bq2 := bq1.set 1 (.slice ba k.case.busy.length bc)
          have D2 := bq2.cell (i := 2) rfl
          have F2 := bq2.frozen 2
          have bq3 := bq2.set 2 (.slice ia k.items.length ic)
          have E0 := bq3.cell (i := 0) rfl
          have E1 := bq3.cell (i := 1) rfl
          have E2 := bq3.cell (i := 2) rfl
          go_wp2_with fail
          refine bodyPost_ret (v := .tuple #[.agg #[.slice ma k.case.mark.length mc, .slice ba k.case.busy.length bc, .slice ia k.items.length ic], .int .i64 0, .int .i64 e]) (by simp [results, Try.results131, go_sem, E0, E1, E2]) rfl ?_
          refine RetDK.old HC.out hk ?_
          (repeat (first | exact Gr.refl _ | assumption | apply Gr.drewN | apply Gr.drew | apply Gr.alloc | (refine Gr.setCell ?_ (by simp; try omega) _) | refine Gr.trans ?_ (by assumption)))
end Go.Proofs.Ytidpppfimkhgkaa
