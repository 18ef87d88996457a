/- Contract of desk's do. -/
import Derived.Test.YtidpppfimkhgkaaDesk4
namespace Go.Proofs.Ytidpppfimkhgkaa
open Go.RowKit Go.Tok
set_option linter.unusedVariables false
set_option linter.unusedSimpArgs false
def ansV (a : AnsD) : Value := .agg #[.int .i64 a.err, .int .i64 a.item]
def RetDD (S : Nat → Prop) (w : World) (r : DeskD × AnsD) (e : Ending) (w' : World) : Prop := ∃ v, e = .returned (.tuple #[v, ansV r.2]) ∧ On (SOr S w.heap.size) (fun w => DeskR w v r.1) w' ∧ Gr w w'
theorem RetDD.mk {S : Nat → Prop} {w w' : World} {v : Value} {k : DeskD} {n e : Int} {r : DeskD × AnsD} (hr : r = (k, ⟨e, n⟩)) (h : On (SOr S w.heap.size) (fun w => DeskR w v k) w') (g : Gr w w') : RetDD S w r (.returned (.tuple #[v, .agg #[.int .i64 e, .int .i64 n]])) w' := by subst hr; exact ⟨v, rfl, h, g⟩
theorem RetDD.old {S : Nat → Prop} {w w' : World} {v : Value} {k : DeskD} {n e : Int} {r : DeskD × AnsD} (hr : r = (k, ⟨e, n⟩)) (h : On S (fun w => DeskR w v k) w) (g : Gr w w') : RetDD S w r (.returned (.tuple #[v, .agg #[.int .i64 e, .int .i64 n]])) w' := RetDD.mk hr (h.sor g) g
set_option maxHeartbeats 4000000 in
set_option maxRecDepth 100000 in
theorem deskdo_calls (v u : Value) (N : NetD) (roles : List (List Int)) (k : DeskD) (o : OpD) (w : World) (S : Nat → Prop) (hv : DesksR w v N roles) (hk : On S (fun w => DeskR w u k) w) (ho : opI o) (hok : DeskOk N roles k) (hil : k.items.length ≤ 3518437208873) :
    Calls Try.prog 82 #[v, u, opV o] w (RetDD S w (deskF N roles k o)) := by
  have hoo := ho
  obtain ⟨a, c, r, d, rfl, htl, htc, hrd, hd, hpl, hN, hT, hR⟩ := hv.open_
  obtain ⟨ma, mc, ba, bc, ia, ic, rfl, _, _, _, _, hil1, hic, hM, hB, hI⟩ := hk.now.open_
  obtain ⟨ho1, ho2, ho3, ho4, ho5⟩ := ho
  have hpl1 := hpl.1
  have hpl2 := hpl.2
  have ho31 := ho3.1
  have ho32 := ho3.2
  unfold opV
  have b0 : Blk ((((w.alloc (.cells #[.int .i64 N.places, .slice a N.trans.length c, .slice r roles.length d] 168)).alloc (.cells #[.slice ma k.case.mark.length mc, .slice ba k.case.busy.length bc, .slice ia k.items.length ic] 66)).alloc (.cells #[.int .i64 o.kind, .int .i64 o.user, .int .i64 o.tran, .int .i64 o.item, .int .i64 o.to] 59)).alloc (.cells #[.slice none 0 0, .slice none 0 0, .slice none 0 0] 66)) w.heap.size 168 #[.int .i64 N.places, .slice a N.trans.length c, .slice r roles.length d] := (((Blk.new rfl).gr ((Gr.refl _).alloc _)).gr ((Gr.refl _).alloc _)).gr ((Gr.refl _).alloc _)
  have b1 : Blk ((((w.alloc (.cells #[.int .i64 N.places, .slice a N.trans.length c, .slice r roles.length d] 168)).alloc (.cells #[.slice ma k.case.mark.length mc, .slice ba k.case.busy.length bc, .slice ia k.items.length ic] 66)).alloc (.cells #[.int .i64 o.kind, .int .i64 o.user, .int .i64 o.tran, .int .i64 o.item, .int .i64 o.to] 59)).alloc (.cells #[.slice none 0 0, .slice none 0 0, .slice none 0 0] 66)) (w.heap.size + 1) 66 #[.slice ma k.case.mark.length mc, .slice ba k.case.busy.length bc, .slice ia k.items.length ic] := ((Blk.new (by simp)).gr ((Gr.refl _).alloc _)).gr ((Gr.refl _).alloc _)
  have b2 : Blk ((((w.alloc (.cells #[.int .i64 N.places, .slice a N.trans.length c, .slice r roles.length d] 168)).alloc (.cells #[.slice ma k.case.mark.length mc, .slice ba k.case.busy.length bc, .slice ia k.items.length ic] 66)).alloc (.cells #[.int .i64 o.kind, .int .i64 o.user, .int .i64 o.tran, .int .i64 o.item, .int .i64 o.to] 59)).alloc (.cells #[.slice none 0 0, .slice none 0 0, .slice none 0 0] 66)) (w.heap.size + 1 + 1) 59 #[.int .i64 o.kind, .int .i64 o.user, .int .i64 o.tran, .int .i64 o.item, .int .i64 o.to] := (Blk.new (by simp)).gr ((Gr.refl _).alloc _)
  have b3 : Blk ((((w.alloc (.cells #[.int .i64 N.places, .slice a N.trans.length c, .slice r roles.length d] 168)).alloc (.cells #[.slice ma k.case.mark.length mc, .slice ba k.case.busy.length bc, .slice ia k.items.length ic] 66)).alloc (.cells #[.int .i64 o.kind, .int .i64 o.user, .int .i64 o.tran, .int .i64 o.item, .int .i64 o.to] 59)).alloc (.cells #[.slice none 0 0, .slice none 0 0, .slice none 0 0] 66)) (w.heap.size + 1 + 1 + 1) 66 #[.slice none 0 0, .slice none 0 0, .slice none 0 0] := Blk.new (by simp)
  have GA : Gr w ((((w.alloc (.cells #[.int .i64 N.places, .slice a N.trans.length c, .slice r roles.length d] 168)).alloc (.cells #[.slice ma k.case.mark.length mc, .slice ba k.case.busy.length bc, .slice ia k.items.length ic] 66)).alloc (.cells #[.int .i64 o.kind, .int .i64 o.user, .int .i64 o.tran, .int .i64 o.item, .int .i64 o.to] 59)).alloc (.cells #[.slice none 0 0, .slice none 0 0, .slice none 0 0] 66)) := ((((Gr.refl _).alloc _).alloc _).alloc _).alloc _
  have GB := GA.alloc (.cells #[.int .i64 0, .int .i64 0] 75)
  have b4 : Blk (World.alloc _ (.cells #[.int .i64 0, .int .i64 0] 75)) (w.heap.size + 1 + 1 + 1 + 1) 75 #[.int .i64 0, .int .i64 0] := Blk.new (w := ((((w.alloc (.cells #[.int .i64 N.places, .slice a N.trans.length c, .slice r roles.length d] 168)).alloc (.cells #[.slice ma k.case.mark.length mc, .slice ba k.case.busy.length bc, .slice ia k.items.length ic] 66)).alloc (.cells #[.int .i64 o.kind, .int .i64 o.user, .int .i64 o.tran, .int .i64 o.item, .int .i64 o.to] 59)).alloc (.cells #[.slice none 0 0, .slice none 0 0, .slice none 0 0] 66))) (by simp)
  replace b0 := b0.gr ((Gr.refl _).alloc (.cells #[.int .i64 0, .int .i64 0] 75))
  replace b1 := b1.gr ((Gr.refl _).alloc (.cells #[.int .i64 0, .int .i64 0] 75))
  replace b2 := b2.gr ((Gr.refl _).alloc (.cells #[.int .i64 0, .int .i64 0] 75))
  replace b3 := b3.gr ((Gr.refl _).alloc (.cells #[.int .i64 0, .int .i64 0] 75))
  clear GA
  have HB4 := Lib.hid b4.lt
  have hdk := hk.now
  by_cases hk1 : o.kind = 1
  · have q1 : (o.kind == 1) = true := by simpa using hk1
    rcases hb : beginK N roles k o with ⟨⟨k2, n⟩, e⟩
    have HBK := Lib.hid hb
    have HC := Lib.hid (deskF_begin hk1 hb)
    clear hb hk1
    have A0 := b0.cell (i := 0) rfl
    have A1 := b0.cell (i := 1) rfl
    have A2 := b0.cell (i := 2) rfl
    have K0 := b1.cell (i := 0) rfl
    have K1 := b1.cell (i := 1) rfl
    have K2 := b1.cell (i := 2) rfl
    have P0 := b2.cell (i := 0) rfl
    have P1 := b2.cell (i := 1) rfl
    have P2 := b2.cell (i := 2) rfl
    have P3 := b2.cell (i := 3) rfl
    have P4 := b2.cell (i := 4) rfl
    go_enter Try.func82, Try.ntmps82
    go_wp2_with fail
    clear A0 A1 A2 K0 K1 K2 P0 P1 P2 P3 P4
    generalize World.alloc _ (.cells #[.int .i64 0, .int .i64 0] 75) = wA at b0 b1 b2 b3 b4 GB HB4 ⊢
    refine (begin_calls _ _ N roles k o _ (fun b => S b ∧ b < w.heap.size) (hv.gr GB) ((hk.mono fun b hb h => ⟨h, hb⟩).gr GB) hoo hil).mono ?_
    rw [HBK.out]; rintro _ w4 ⟨v4, rfl, o4, g4⟩
    have hTA := HB4.out
    have hT1 : ¬ SOr (fun b => S b ∧ b < w.heap.size) wA.heap.size (w.heap.size + 1) := fun h => by
      rcases h with h | h
      · have := h.2; omega
      · omega
    have hT3 : ¬ SOr (fun b => S b ∧ b < w.heap.size) wA.heap.size (w.heap.size + 1 + 1 + 1) := fun h => by
      rcases h with h | h
      · have := h.2; omega
      · omega
    have hT4 : ¬ SOr (fun b => S b ∧ b < w.heap.size) wA.heap.size (w.heap.size + 1 + 1 + 1 + 1) := fun h => by
      rcases h with h | h
      · have := h.2; omega
      · omega
    have hTS : ∀ b, SOr (fun b => S b ∧ b < w.heap.size) wA.heap.size b → SOr S w.heap.size b := fun b h => by
      rcases h with h | h
      · exact .inl h.1
      · exact .inr (by omega)
    obtain ⟨xa, xn, ya, yn, za, zn, rfl, _, _, _, _, _, _, _, _, _⟩ := o4.now.open_
    replace b1 := b1.gr g4
    replace b3 := b3.gr g4
    replace b4 := b4.gr g4
    replace GB := GB.trans g4
    clear b0 b2 g4
    have D0 := b1.cell (i := 0) rfl
    have F0 := b1.frozen 0
    have bq1 := b1.set 0 (.slice xa k2.case.mark.length xn)
    have D1 := bq1.cell (i := 1) rfl
    have F1 := bq1.frozen 1
    have bq2 := bq1.set 1 (.slice ya k2.case.busy.length yn)
    have D2 := bq2.cell (i := 2) rfl
    have F2 := bq2.frozen 2
    have bq3 := bq2.set 2 (.slice za k2.items.length zn)
    have E0 := bq3.cell (i := 0) rfl
    have E1 := bq3.cell (i := 1) rfl
    have E2 := bq3.cell (i := 2) rfl
    have bK := bq3
    replace b3 := ((b3.other (a := ⟨w.heap.size + 1, 0, none⟩) (by simp; try omega) (.slice xa k2.case.mark.length xn)).other (a := ⟨w.heap.size + 1, 1, none⟩) (by simp; try omega) (.slice ya k2.case.busy.length yn)).other (a := ⟨w.heap.size + 1, 2, none⟩) (by simp; try omega) (.slice za k2.items.length zn)
    replace b4 := ((b4.other (a := ⟨w.heap.size + 1, 0, none⟩) (by simp; try omega) (.slice xa k2.case.mark.length xn)).other (a := ⟨w.heap.size + 1, 1, none⟩) (by simp; try omega) (.slice ya k2.case.busy.length yn)).other (a := ⟨w.heap.size + 1, 2, none⟩) (by simp; try omega) (.slice za k2.items.length zn)
    replace o4 := o4.set3 hT1 (.slice xa k2.case.mark.length xn) (.slice ya k2.case.busy.length yn) (.slice za k2.items.length zn)
    replace o4 := o4.set3 hT3 (.slice xa k2.case.mark.length xn) (.slice ya k2.case.busy.length yn) (.slice za k2.items.length zn)
    replace o4 := (o4.kp (set_kp (a := ⟨w.heap.size + 1 + 1 + 1 + 1, 0, none⟩) hT4 (.int .i64 e))).kp (set_kp (a := ⟨w.heap.size + 1 + 1 + 1 + 1, 1, none⟩) hT4 (.int .i64 n))
    have K0 := bK.cell (i := 0) rfl
    have K1 := bK.cell (i := 1) rfl
    have K2 := bK.cell (i := 2) rfl
    have D0 := b3.cell (i := 0) rfl
    have F0 := b3.frozen 0
    have bq1 := b3.set 0 (.slice xa k2.case.mark.length xn)
    have D1 := bq1.cell (i := 1) rfl
    have F1 := bq1.frozen 1
    have bq2 := bq1.set 1 (.slice ya k2.case.busy.length yn)
    have D2 := bq2.cell (i := 2) rfl
    have F2 := bq2.frozen 2
    have bq3 := bq2.set 2 (.slice za k2.items.length zn)
    have E0 := bq3.cell (i := 0) rfl
    have E1 := bq3.cell (i := 1) rfl
    have E2 := bq3.cell (i := 2) rfl
    have c4 := ((b4.other (a := ⟨w.heap.size + 1 + 1 + 1, 0, none⟩) (by simp; try omega) (.slice xa k2.case.mark.length xn)).other (a := ⟨w.heap.size + 1 + 1 + 1, 1, none⟩) (by simp; try omega) (.slice ya k2.case.busy.length yn)).other (a := ⟨w.heap.size + 1 + 1 + 1, 2, none⟩) (by simp; try omega) (.slice za k2.items.length zn)
    have J0 := c4.cell (i := 0) rfl
    have JF := c4.frozen 0
    have c41 := c4.set 0 (.int .i64 e)
    have J1 := c41.cell (i := 1) rfl
    have JF1 := c41.frozen 1
    have c42 := c41.set 1 (.int .i64 n)
    have M0 := c42.cell (i := 0) rfl
    have M1 := c42.cell (i := 1) rfl
    have bq5 := (bq3.other (a := ⟨w.heap.size + 1 + 1 + 1 + 1, 0, none⟩) (by simp; try omega) (.int .i64 e)).other (a := ⟨w.heap.size + 1 + 1 + 1 + 1, 1, none⟩) (by simp; try omega) (.int .i64 n)
    have E0' := bq5.cell (i := 0) rfl
    have E1' := bq5.cell (i := 1) rfl
    have E2' := bq5.cell (i := 2) rfl
    have HTS := Lib.hid hTS
    have HO4 := Lib.hid o4
    clear hTS hT1 hT3 hT4 hTA o4 bK c4 c41 bq1 bq2 bq3 hdk hok hoo b1 b3 b4
    go_wp2_with fail
    refine bodyPost_ret (v := .tuple #[.agg #[.slice xa k2.case.mark.length xn, .slice ya k2.case.busy.length yn, .slice za k2.items.length zn], .agg #[.int .i64 e, .int .i64 n]]) (by simp [results, Try.results82, go_sem, E0', E1', E2', M0, M1]) rfl ?_
    refine RetDD.mk HC.out (HO4.out.mono (fun b _ h => HTS.out b h)) ?_
    iterate 8 (refine Gr.setCell ?_ (by simp; try omega) _)
    exact GB
  · have q1 : (o.kind == 1) = false := by simpa using hk1
    by_cases hkc : o.kind = 2 ∨ o.kind = 3 ∨ o.kind = 4
    · rcases hb : changeK N roles k o with ⟨⟨k2, n⟩, e⟩
      have HBK := Lib.hid hb
      have HC := Lib.hid (deskF_change hkc hb)
      clear hb hk1
      have A0 := b0.cell (i := 0) rfl
      have A1 := b0.cell (i := 1) rfl
      have A2 := b0.cell (i := 2) rfl
      have K0 := b1.cell (i := 0) rfl
      have K1 := b1.cell (i := 1) rfl
      have K2 := b1.cell (i := 2) rfl
      have P0 := b2.cell (i := 0) rfl
      have P1 := b2.cell (i := 1) rfl
      have P2 := b2.cell (i := 2) rfl
      have P3 := b2.cell (i := 3) rfl
      have P4 := b2.cell (i := 4) rfl
      have hq : ∃ p2 p3 : Bool, (o.kind == 2) = p2 ∧ (o.kind == 3) = p3 ∧ ((p2 = true) ∨ (p2 = false ∧ p3 = true) ∨ (p2 = false ∧ p3 = false ∧ (o.kind == 4) = true)) := by
        refine ⟨_, _, rfl, rfl, ?_⟩
        rcases hkc with h | h | h <;> simp [h]
      clear hkc
      obtain ⟨p2, p3, q2, q3, hp⟩ := hq
      rcases hp with rfl | ⟨rfl, rfl⟩ | ⟨rfl, rfl, q4⟩
      · skip
        go_enter Try.func82, Try.ntmps82
        go_wp2_with fail
        clear A0 A1 A2 K0 K1 K2 P0 P1 P2 P3 P4
        generalize World.alloc _ (.cells #[.int .i64 0, .int .i64 0] 75) = wA at b0 b1 b2 b3 b4 GB HB4 ⊢
        refine (change_calls _ _ N roles k o _ (fun b => S b ∧ b < w.heap.size) (hv.gr GB) ((hk.mono fun b hb h => ⟨h, hb⟩).gr GB) hoo hok hil).mono ?_
        rw [HBK.out]; rintro _ w4 ⟨v4, rfl, o4, g4⟩
        have hTA := HB4.out
        have hT1 : ¬ SOr (fun b => S b ∧ b < w.heap.size) wA.heap.size (w.heap.size + 1) := fun h => by
          rcases h with h | h
          · have := h.2; omega
          · omega
        have hT3 : ¬ SOr (fun b => S b ∧ b < w.heap.size) wA.heap.size (w.heap.size + 1 + 1 + 1) := fun h => by
          rcases h with h | h
          · have := h.2; omega
          · omega
        have hT4 : ¬ SOr (fun b => S b ∧ b < w.heap.size) wA.heap.size (w.heap.size + 1 + 1 + 1 + 1) := fun h => by
          rcases h with h | h
          · have := h.2; omega
          · omega
        have hTS : ∀ b, SOr (fun b => S b ∧ b < w.heap.size) wA.heap.size b → SOr S w.heap.size b := fun b h => by
          rcases h with h | h
          · exact .inl h.1
          · exact .inr (by omega)
        obtain ⟨xa, xn, ya, yn, za, zn, rfl, _, _, _, _, _, _, _, _, _⟩ := o4.now.open_
        replace b1 := b1.gr g4
        replace b3 := b3.gr g4
        replace b4 := b4.gr g4
        replace GB := GB.trans g4
        clear b0 b2 g4
        have D0 := b1.cell (i := 0) rfl
        have F0 := b1.frozen 0
        have bq1 := b1.set 0 (.slice xa k2.case.mark.length xn)
        have D1 := bq1.cell (i := 1) rfl
        have F1 := bq1.frozen 1
        have bq2 := bq1.set 1 (.slice ya k2.case.busy.length yn)
        have D2 := bq2.cell (i := 2) rfl
        have F2 := bq2.frozen 2
        have bq3 := bq2.set 2 (.slice za k2.items.length zn)
        have E0 := bq3.cell (i := 0) rfl
        have E1 := bq3.cell (i := 1) rfl
        have E2 := bq3.cell (i := 2) rfl
        have bK := bq3
        replace b3 := ((b3.other (a := ⟨w.heap.size + 1, 0, none⟩) (by simp; try omega) (.slice xa k2.case.mark.length xn)).other (a := ⟨w.heap.size + 1, 1, none⟩) (by simp; try omega) (.slice ya k2.case.busy.length yn)).other (a := ⟨w.heap.size + 1, 2, none⟩) (by simp; try omega) (.slice za k2.items.length zn)
        replace b4 := ((b4.other (a := ⟨w.heap.size + 1, 0, none⟩) (by simp; try omega) (.slice xa k2.case.mark.length xn)).other (a := ⟨w.heap.size + 1, 1, none⟩) (by simp; try omega) (.slice ya k2.case.busy.length yn)).other (a := ⟨w.heap.size + 1, 2, none⟩) (by simp; try omega) (.slice za k2.items.length zn)
        replace o4 := o4.set3 hT1 (.slice xa k2.case.mark.length xn) (.slice ya k2.case.busy.length yn) (.slice za k2.items.length zn)
        replace o4 := o4.set3 hT3 (.slice xa k2.case.mark.length xn) (.slice ya k2.case.busy.length yn) (.slice za k2.items.length zn)
        replace o4 := (o4.kp (set_kp (a := ⟨w.heap.size + 1 + 1 + 1 + 1, 0, none⟩) hT4 (.int .i64 e))).kp (set_kp (a := ⟨w.heap.size + 1 + 1 + 1 + 1, 1, none⟩) hT4 (.int .i64 n))
        have K0 := bK.cell (i := 0) rfl
        have K1 := bK.cell (i := 1) rfl
        have K2 := bK.cell (i := 2) rfl
        have D0 := b3.cell (i := 0) rfl
        have F0 := b3.frozen 0
        have bq1 := b3.set 0 (.slice xa k2.case.mark.length xn)
        have D1 := bq1.cell (i := 1) rfl
        have F1 := bq1.frozen 1
        have bq2 := bq1.set 1 (.slice ya k2.case.busy.length yn)
        have D2 := bq2.cell (i := 2) rfl
        have F2 := bq2.frozen 2
        have bq3 := bq2.set 2 (.slice za k2.items.length zn)
        have E0 := bq3.cell (i := 0) rfl
        have E1 := bq3.cell (i := 1) rfl
        have E2 := bq3.cell (i := 2) rfl
        have c4 := ((b4.other (a := ⟨w.heap.size + 1 + 1 + 1, 0, none⟩) (by simp; try omega) (.slice xa k2.case.mark.length xn)).other (a := ⟨w.heap.size + 1 + 1 + 1, 1, none⟩) (by simp; try omega) (.slice ya k2.case.busy.length yn)).other (a := ⟨w.heap.size + 1 + 1 + 1, 2, none⟩) (by simp; try omega) (.slice za k2.items.length zn)
        have J0 := c4.cell (i := 0) rfl
        have JF := c4.frozen 0
        have c41 := c4.set 0 (.int .i64 e)
        have J1 := c41.cell (i := 1) rfl
        have JF1 := c41.frozen 1
        have c42 := c41.set 1 (.int .i64 n)
        have M0 := c42.cell (i := 0) rfl
        have M1 := c42.cell (i := 1) rfl
        have bq5 := (bq3.other (a := ⟨w.heap.size + 1 + 1 + 1 + 1, 0, none⟩) (by simp; try omega) (.int .i64 e)).other (a := ⟨w.heap.size + 1 + 1 + 1 + 1, 1, none⟩) (by simp; try omega) (.int .i64 n)
        have E0' := bq5.cell (i := 0) rfl
        have E1' := bq5.cell (i := 1) rfl
        have E2' := bq5.cell (i := 2) rfl
        have HTS := Lib.hid hTS
        have HO4 := Lib.hid o4
        clear hTS hT1 hT3 hT4 hTA o4 bK c4 c41 bq1 bq2 bq3 hdk hok hoo b1 b3 b4
        go_wp2_with fail
        refine bodyPost_ret (v := .tuple #[.agg #[.slice xa k2.case.mark.length xn, .slice ya k2.case.busy.length yn, .slice za k2.items.length zn], .agg #[.int .i64 e, .int .i64 n]]) (by simp [results, Try.results82, go_sem, E0', E1', E2', M0, M1]) rfl ?_
        refine RetDD.mk HC.out (HO4.out.mono (fun b _ h => HTS.out b h)) ?_
        iterate 8 (refine Gr.setCell ?_ (by simp; try omega) _)
        exact GB
      · skip
        go_enter Try.func82, Try.ntmps82
        go_wp2_with fail
        clear A0 A1 A2 K0 K1 K2 P0 P1 P2 P3 P4
        generalize World.alloc _ (.cells #[.int .i64 0, .int .i64 0] 75) = wA at b0 b1 b2 b3 b4 GB HB4 ⊢
        refine (change_calls _ _ N roles k o _ (fun b => S b ∧ b < w.heap.size) (hv.gr GB) ((hk.mono fun b hb h => ⟨h, hb⟩).gr GB) hoo hok hil).mono ?_
        rw [HBK.out]; rintro _ w4 ⟨v4, rfl, o4, g4⟩
        have hTA := HB4.out
        have hT1 : ¬ SOr (fun b => S b ∧ b < w.heap.size) wA.heap.size (w.heap.size + 1) := fun h => by
          rcases h with h | h
          · have := h.2; omega
          · omega
        have hT3 : ¬ SOr (fun b => S b ∧ b < w.heap.size) wA.heap.size (w.heap.size + 1 + 1 + 1) := fun h => by
          rcases h with h | h
          · have := h.2; omega
          · omega
        have hT4 : ¬ SOr (fun b => S b ∧ b < w.heap.size) wA.heap.size (w.heap.size + 1 + 1 + 1 + 1) := fun h => by
          rcases h with h | h
          · have := h.2; omega
          · omega
        have hTS : ∀ b, SOr (fun b => S b ∧ b < w.heap.size) wA.heap.size b → SOr S w.heap.size b := fun b h => by
          rcases h with h | h
          · exact .inl h.1
          · exact .inr (by omega)
        obtain ⟨xa, xn, ya, yn, za, zn, rfl, _, _, _, _, _, _, _, _, _⟩ := o4.now.open_
        replace b1 := b1.gr g4
        replace b3 := b3.gr g4
        replace b4 := b4.gr g4
        replace GB := GB.trans g4
        clear b0 b2 g4
        have D0 := b1.cell (i := 0) rfl
        have F0 := b1.frozen 0
        have bq1 := b1.set 0 (.slice xa k2.case.mark.length xn)
        have D1 := bq1.cell (i := 1) rfl
        have F1 := bq1.frozen 1
        have bq2 := bq1.set 1 (.slice ya k2.case.busy.length yn)
        have D2 := bq2.cell (i := 2) rfl
        have F2 := bq2.frozen 2
        have bq3 := bq2.set 2 (.slice za k2.items.length zn)
        have E0 := bq3.cell (i := 0) rfl
        have E1 := bq3.cell (i := 1) rfl
        have E2 := bq3.cell (i := 2) rfl
        have bK := bq3
        replace b3 := ((b3.other (a := ⟨w.heap.size + 1, 0, none⟩) (by simp; try omega) (.slice xa k2.case.mark.length xn)).other (a := ⟨w.heap.size + 1, 1, none⟩) (by simp; try omega) (.slice ya k2.case.busy.length yn)).other (a := ⟨w.heap.size + 1, 2, none⟩) (by simp; try omega) (.slice za k2.items.length zn)
        replace b4 := ((b4.other (a := ⟨w.heap.size + 1, 0, none⟩) (by simp; try omega) (.slice xa k2.case.mark.length xn)).other (a := ⟨w.heap.size + 1, 1, none⟩) (by simp; try omega) (.slice ya k2.case.busy.length yn)).other (a := ⟨w.heap.size + 1, 2, none⟩) (by simp; try omega) (.slice za k2.items.length zn)
        replace o4 := o4.set3 hT1 (.slice xa k2.case.mark.length xn) (.slice ya k2.case.busy.length yn) (.slice za k2.items.length zn)
        replace o4 := o4.set3 hT3 (.slice xa k2.case.mark.length xn) (.slice ya k2.case.busy.length yn) (.slice za k2.items.length zn)
        replace o4 := (o4.kp (set_kp (a := ⟨w.heap.size + 1 + 1 + 1 + 1, 0, none⟩) hT4 (.int .i64 e))).kp (set_kp (a := ⟨w.heap.size + 1 + 1 + 1 + 1, 1, none⟩) hT4 (.int .i64 n))
        have K0 := bK.cell (i := 0) rfl
        have K1 := bK.cell (i := 1) rfl
        have K2 := bK.cell (i := 2) rfl
        have D0 := b3.cell (i := 0) rfl
        have F0 := b3.frozen 0
        have bq1 := b3.set 0 (.slice xa k2.case.mark.length xn)
        have D1 := bq1.cell (i := 1) rfl
        have F1 := bq1.frozen 1
        have bq2 := bq1.set 1 (.slice ya k2.case.busy.length yn)
        have D2 := bq2.cell (i := 2) rfl
        have F2 := bq2.frozen 2
        have bq3 := bq2.set 2 (.slice za k2.items.length zn)
        have E0 := bq3.cell (i := 0) rfl
        have E1 := bq3.cell (i := 1) rfl
        have E2 := bq3.cell (i := 2) rfl
        have c4 := ((b4.other (a := ⟨w.heap.size + 1 + 1 + 1, 0, none⟩) (by simp; try omega) (.slice xa k2.case.mark.length xn)).other (a := ⟨w.heap.size + 1 + 1 + 1, 1, none⟩) (by simp; try omega) (.slice ya k2.case.busy.length yn)).other (a := ⟨w.heap.size + 1 + 1 + 1, 2, none⟩) (by simp; try omega) (.slice za k2.items.length zn)
        have J0 := c4.cell (i := 0) rfl
        have JF := c4.frozen 0
        have c41 := c4.set 0 (.int .i64 e)
        have J1 := c41.cell (i := 1) rfl
        have JF1 := c41.frozen 1
        have c42 := c41.set 1 (.int .i64 n)
        have M0 := c42.cell (i := 0) rfl
        have M1 := c42.cell (i := 1) rfl
        have bq5 := (bq3.other (a := ⟨w.heap.size + 1 + 1 + 1 + 1, 0, none⟩) (by simp; try omega) (.int .i64 e)).other (a := ⟨w.heap.size + 1 + 1 + 1 + 1, 1, none⟩) (by simp; try omega) (.int .i64 n)
        have E0' := bq5.cell (i := 0) rfl
        have E1' := bq5.cell (i := 1) rfl
        have E2' := bq5.cell (i := 2) rfl
        have HTS := Lib.hid hTS
        have HO4 := Lib.hid o4
        clear hTS hT1 hT3 hT4 hTA o4 bK c4 c41 bq1 bq2 bq3 hdk hok hoo b1 b3 b4
        go_wp2_with fail
        refine bodyPost_ret (v := .tuple #[.agg #[.slice xa k2.case.mark.length xn, .slice ya k2.case.busy.length yn, .slice za k2.items.length zn], .agg #[.int .i64 e, .int .i64 n]]) (by simp [results, Try.results82, go_sem, E0', E1', E2', M0, M1]) rfl ?_
        refine RetDD.mk HC.out (HO4.out.mono (fun b _ h => HTS.out b h)) ?_
        iterate 8 (refine Gr.setCell ?_ (by simp; try omega) _)
        exact GB
      · skip
        go_enter Try.func82, Try.ntmps82
        go_wp2_with fail
        clear A0 A1 A2 K0 K1 K2 P0 P1 P2 P3 P4
        generalize World.alloc _ (.cells #[.int .i64 0, .int .i64 0] 75) = wA at b0 b1 b2 b3 b4 GB HB4 ⊢
        refine (change_calls _ _ N roles k o _ (fun b => S b ∧ b < w.heap.size) (hv.gr GB) ((hk.mono fun b hb h => ⟨h, hb⟩).gr GB) hoo hok hil).mono ?_
        rw [HBK.out]; rintro _ w4 ⟨v4, rfl, o4, g4⟩
        have hTA := HB4.out
        have hT1 : ¬ SOr (fun b => S b ∧ b < w.heap.size) wA.heap.size (w.heap.size + 1) := fun h => by
          rcases h with h | h
          · have := h.2; omega
          · omega
        have hT3 : ¬ SOr (fun b => S b ∧ b < w.heap.size) wA.heap.size (w.heap.size + 1 + 1 + 1) := fun h => by
          rcases h with h | h
          · have := h.2; omega
          · omega
        have hT4 : ¬ SOr (fun b => S b ∧ b < w.heap.size) wA.heap.size (w.heap.size + 1 + 1 + 1 + 1) := fun h => by
          rcases h with h | h
          · have := h.2; omega
          · omega
        have hTS : ∀ b, SOr (fun b => S b ∧ b < w.heap.size) wA.heap.size b → SOr S w.heap.size b := fun b h => by
          rcases h with h | h
          · exact .inl h.1
          · exact .inr (by omega)
        obtain ⟨xa, xn, ya, yn, za, zn, rfl, _, _, _, _, _, _, _, _, _⟩ := o4.now.open_
        replace b1 := b1.gr g4
        replace b3 := b3.gr g4
        replace b4 := b4.gr g4
        replace GB := GB.trans g4
        clear b0 b2 g4
        have D0 := b1.cell (i := 0) rfl
        have F0 := b1.frozen 0
        have bq1 := b1.set 0 (.slice xa k2.case.mark.length xn)
        have D1 := bq1.cell (i := 1) rfl
        have F1 := bq1.frozen 1
        have bq2 := bq1.set 1 (.slice ya k2.case.busy.length yn)
        have D2 := bq2.cell (i := 2) rfl
        have F2 := bq2.frozen 2
        have bq3 := bq2.set 2 (.slice za k2.items.length zn)
        have E0 := bq3.cell (i := 0) rfl
        have E1 := bq3.cell (i := 1) rfl
        have E2 := bq3.cell (i := 2) rfl
        have bK := bq3
        replace b3 := ((b3.other (a := ⟨w.heap.size + 1, 0, none⟩) (by simp; try omega) (.slice xa k2.case.mark.length xn)).other (a := ⟨w.heap.size + 1, 1, none⟩) (by simp; try omega) (.slice ya k2.case.busy.length yn)).other (a := ⟨w.heap.size + 1, 2, none⟩) (by simp; try omega) (.slice za k2.items.length zn)
        replace b4 := ((b4.other (a := ⟨w.heap.size + 1, 0, none⟩) (by simp; try omega) (.slice xa k2.case.mark.length xn)).other (a := ⟨w.heap.size + 1, 1, none⟩) (by simp; try omega) (.slice ya k2.case.busy.length yn)).other (a := ⟨w.heap.size + 1, 2, none⟩) (by simp; try omega) (.slice za k2.items.length zn)
        replace o4 := o4.set3 hT1 (.slice xa k2.case.mark.length xn) (.slice ya k2.case.busy.length yn) (.slice za k2.items.length zn)
        replace o4 := o4.set3 hT3 (.slice xa k2.case.mark.length xn) (.slice ya k2.case.busy.length yn) (.slice za k2.items.length zn)
        replace o4 := (o4.kp (set_kp (a := ⟨w.heap.size + 1 + 1 + 1 + 1, 0, none⟩) hT4 (.int .i64 e))).kp (set_kp (a := ⟨w.heap.size + 1 + 1 + 1 + 1, 1, none⟩) hT4 (.int .i64 n))
        have K0 := bK.cell (i := 0) rfl
        have K1 := bK.cell (i := 1) rfl
        have K2 := bK.cell (i := 2) rfl
        have D0 := b3.cell (i := 0) rfl
        have F0 := b3.frozen 0
        have bq1 := b3.set 0 (.slice xa k2.case.mark.length xn)
        have D1 := bq1.cell (i := 1) rfl
        have F1 := bq1.frozen 1
        have bq2 := bq1.set 1 (.slice ya k2.case.busy.length yn)
        have D2 := bq2.cell (i := 2) rfl
        have F2 := bq2.frozen 2
        have bq3 := bq2.set 2 (.slice za k2.items.length zn)
        have E0 := bq3.cell (i := 0) rfl
        have E1 := bq3.cell (i := 1) rfl
        have E2 := bq3.cell (i := 2) rfl
        have c4 := ((b4.other (a := ⟨w.heap.size + 1 + 1 + 1, 0, none⟩) (by simp; try omega) (.slice xa k2.case.mark.length xn)).other (a := ⟨w.heap.size + 1 + 1 + 1, 1, none⟩) (by simp; try omega) (.slice ya k2.case.busy.length yn)).other (a := ⟨w.heap.size + 1 + 1 + 1, 2, none⟩) (by simp; try omega) (.slice za k2.items.length zn)
        have J0 := c4.cell (i := 0) rfl
        have JF := c4.frozen 0
        have c41 := c4.set 0 (.int .i64 e)
        have J1 := c41.cell (i := 1) rfl
        have JF1 := c41.frozen 1
        have c42 := c41.set 1 (.int .i64 n)
        have M0 := c42.cell (i := 0) rfl
        have M1 := c42.cell (i := 1) rfl
        have bq5 := (bq3.other (a := ⟨w.heap.size + 1 + 1 + 1 + 1, 0, none⟩) (by simp; try omega) (.int .i64 e)).other (a := ⟨w.heap.size + 1 + 1 + 1 + 1, 1, none⟩) (by simp; try omega) (.int .i64 n)
        have E0' := bq5.cell (i := 0) rfl
        have E1' := bq5.cell (i := 1) rfl
        have E2' := bq5.cell (i := 2) rfl
        have HTS := Lib.hid hTS
        have HO4 := Lib.hid o4
        clear hTS hT1 hT3 hT4 hTA o4 bK c4 c41 bq1 bq2 bq3 hdk hok hoo b1 b3 b4
        go_wp2_with fail
        refine bodyPost_ret (v := .tuple #[.agg #[.slice xa k2.case.mark.length xn, .slice ya k2.case.busy.length yn, .slice za k2.items.length zn], .agg #[.int .i64 e, .int .i64 n]]) (by simp [results, Try.results82, go_sem, E0', E1', E2', M0, M1]) rfl ?_
        refine RetDD.mk HC.out (HO4.out.mono (fun b _ h => HTS.out b h)) ?_
        iterate 8 (refine Gr.setCell ?_ (by simp; try omega) _)
        exact GB
    · have q2 : (o.kind == 2) = false := by simp; exact fun h => hkc (.inl h)
      have q3 : (o.kind == 3) = false := by simp; exact fun h => hkc (.inr (.inl h))
      have q4 : (o.kind == 4) = false := by simp; exact fun h => hkc (.inr (.inr h))
      by_cases hk5 : o.kind = 5
      · have q5 : (o.kind == 5) = true := by simpa using hk5
        rcases hd2 : doF N k.case 1 o.tran with ⟨c2, e⟩
        have HD := Lib.hid hd2
        have HSK := Lib.hid (fun (h : doF N k.case 1 o.tran = (c2, 0)) => deskF_skip (roles := roles) hk5 h)
        have HSN := Lib.hid (fun (h : doF N k.case 1 o.tran = (c2, e)) (he : e ≠ 0) => deskF_skipno (roles := roles) hk5 h he)
        clear hk5 hkc hk1 hd2 hdk
        have GX := (Gr.refl _).alloc (.cells #[.slice none 0 0, .slice none 0 0] 63) (a := World.alloc ((((w.alloc (.cells #[.int .i64 N.places, .slice a N.trans.length c, .slice r roles.length d] 168)).alloc (.cells #[.slice ma k.case.mark.length mc, .slice ba k.case.busy.length bc, .slice ia k.items.length ic] 66)).alloc (.cells #[.int .i64 o.kind, .int .i64 o.user, .int .i64 o.tran, .int .i64 o.item, .int .i64 o.to] 59)).alloc (.cells #[.slice none 0 0, .slice none 0 0, .slice none 0 0] 66)) (.cells #[.int .i64 0, .int .i64 0] 75))
        have bC : Blk (World.alloc (World.alloc ((((w.alloc (.cells #[.int .i64 N.places, .slice a N.trans.length c, .slice r roles.length d] 168)).alloc (.cells #[.slice ma k.case.mark.length mc, .slice ba k.case.busy.length bc, .slice ia k.items.length ic] 66)).alloc (.cells #[.int .i64 o.kind, .int .i64 o.user, .int .i64 o.tran, .int .i64 o.item, .int .i64 o.to] 59)).alloc (.cells #[.slice none 0 0, .slice none 0 0, .slice none 0 0] 66)) (.cells #[.int .i64 0, .int .i64 0] 75)) (.cells #[.slice none 0 0, .slice none 0 0] 63)) (w.heap.size + 1 + 1 + 1 + 1 + 1) 63 #[.slice none 0 0, .slice none 0 0] := Blk.new (by simp)
        have P0 := b2.cell (i := 0) rfl
        replace b0 := b0.gr GX
        replace b1 := b1.gr GX
        replace b2 := b2.gr GX
        replace b3 := b3.gr GX
        replace b4 := b4.gr GX
        replace GB := GB.trans GX
        clear GX
        have A0 := b0.cell (i := 0) rfl
        have A1 := b0.cell (i := 1) rfl
        have K0 := b1.cell (i := 0) rfl
        have K1 := b1.cell (i := 1) rfl
        have P2 := b2.cell (i := 2) rfl
        go_enter Try.func82, Try.ntmps82
        go_wp2_with fail
        clear A0 A1 K0 K1 P0 P2
        generalize World.alloc _ (.cells #[.slice none 0 0, .slice none 0 0] 63) = wA at b0 b1 b2 b3 b4 bC GB ⊢
        refine (Do_calls _ _ N k.case 1 o.tran _ (hN.gr GB) (CaseR.mk_ (hM.gr GB) (hB.gr GB)) (by decide) ho3).mono ?_
        rw [HD.out]; rintro _ w5 ⟨v5, rfl, ⟨pm, pb, rfl, i6, i7⟩, g5⟩
        obtain ⟨pa, pn, rfl, _, _⟩ := i6.ints.len
        obtain ⟨qa, qn, rfl, _, _⟩ := i7.ints.len
        have HAC := Lib.hid bC.lt
        replace b1 := b1.gr g5
        replace b3 := b3.gr g5
        replace b4 := b4.gr g5
        replace bC := bC.gr g5
        replace GB := GB.trans g5
        clear b0 b2
        have C0 := bC.cell (i := 0) rfl
        have CF := bC.frozen 0
        have bC1 := bC.set 0 (.slice pa c2.mark.length pn)
        have C1 := bC1.cell (i := 1) rfl
        have CF1 := bC1.frozen 1
        have bC2 := bC1.set 1 (.slice qa c2.busy.length qn)
        replace b1 := (b1.other (a := ⟨w.heap.size + 1 + 1 + 1 + 1 + 1, 0, none⟩) (by simp; try omega) (.slice pa c2.mark.length pn)).other (a := ⟨w.heap.size + 1 + 1 + 1 + 1 + 1, 1, none⟩) (by simp; try omega) (.slice qa c2.busy.length qn)
        replace b3 := (b3.other (a := ⟨w.heap.size + 1 + 1 + 1 + 1 + 1, 0, none⟩) (by simp; try omega) (.slice pa c2.mark.length pn)).other (a := ⟨w.heap.size + 1 + 1 + 1 + 1 + 1, 1, none⟩) (by simp; try omega) (.slice qa c2.busy.length qn)
        replace b4 := (b4.other (a := ⟨w.heap.size + 1 + 1 + 1 + 1 + 1, 0, none⟩) (by simp; try omega) (.slice pa c2.mark.length pn)).other (a := ⟨w.heap.size + 1 + 1 + 1 + 1 + 1, 1, none⟩) (by simp; try omega) (.slice qa c2.busy.length qn)
        by_cases he : e = 0
        · subst he
          have HC := Lib.hid (HSK.out HD.out)
          have Y0 := bC2.cell (i := 0) rfl
          have Y1 := bC2.cell (i := 1) rfl
          have V0 := b1.cell (i := 0) rfl
          have VF := b1.frozen 0
          have bV := b1.set 0 (.slice pa c2.mark.length pn)
          have V1 := bV.cell (i := 1) rfl
          have VF1 := bV.frozen 1
          have bK := bV.set 1 (.slice qa c2.busy.length qn)
          replace b3 := (b3.other (a := ⟨w.heap.size + 1, 0, none⟩) (by simp; try omega) (.slice pa c2.mark.length pn)).other (a := ⟨w.heap.size + 1, 1, none⟩) (by simp; try omega) (.slice qa c2.busy.length qn)
          replace b4 := (b4.other (a := ⟨w.heap.size + 1, 0, none⟩) (by simp; try omega) (.slice pa c2.mark.length pn)).other (a := ⟨w.heap.size + 1, 1, none⟩) (by simp; try omega) (.slice qa c2.busy.length qn)
          have K0 := bK.cell (i := 0) rfl
          have K1 := bK.cell (i := 1) rfl
          have K2 := bK.cell (i := 2) rfl
          have D0 := b3.cell (i := 0) rfl
          have F0 := b3.frozen 0
          have bq1 := b3.set 0 (.slice pa c2.mark.length pn)
          have D1 := bq1.cell (i := 1) rfl
          have F1 := bq1.frozen 1
          have bq2 := bq1.set 1 (.slice qa c2.busy.length qn)
          have D2 := bq2.cell (i := 2) rfl
          have F2 := bq2.frozen 2
          have bq3 := bq2.set 2 (.slice ia k.items.length ic)
          have E0 := bq3.cell (i := 0) rfl
          have E1 := bq3.cell (i := 1) rfl
          have E2 := bq3.cell (i := 2) rfl
          have c4 := ((b4.other (a := ⟨w.heap.size + 1 + 1 + 1, 0, none⟩) (by simp; try omega) (.slice pa c2.mark.length pn)).other (a := ⟨w.heap.size + 1 + 1 + 1, 1, none⟩) (by simp; try omega) (.slice qa c2.busy.length qn)).other (a := ⟨w.heap.size + 1 + 1 + 1, 2, none⟩) (by simp; try omega) (.slice ia k.items.length ic)
          have J0 := c4.cell (i := 0) rfl
          have JF := c4.frozen 0
          have c41 := c4.set 0 (.int .i64 0)
          have J1 := c41.cell (i := 1) rfl
          have JF1 := c41.frozen 1
          have c42 := c41.set 1 (.int .i64 0)
          have M0 := c42.cell (i := 0) rfl
          have M1 := c42.cell (i := 1) rfl
          have bq5 := (bq3.other (a := ⟨w.heap.size + 1 + 1 + 1 + 1, 0, none⟩) (by simp; try omega) (.int .i64 0)).other (a := ⟨w.heap.size + 1 + 1 + 1 + 1, 1, none⟩) (by simp; try omega) (.int .i64 0)
          have E0' := bq5.cell (i := 0) rfl
          have E1' := bq5.cell (i := 1) rfl
          have E2' := bq5.cell (i := 2) rfl
          have HI6 := Lib.hid i6
          have HI7 := Lib.hid i7
          have G5 := Lib.hid g5.le
          clear b1 b3 b4 bK bV c4 c41 bq1 bq2 bq3 c42 bq5 bC bC1 bC2 hok hoo i6 i7 g5
          go_wp2_with fail
          refine bodyPost_ret (v := .tuple #[.agg #[.slice pa c2.mark.length pn, .slice qa c2.busy.length qn, .slice ia k.items.length ic], .agg #[.int .i64 0, .int .i64 0]]) (by simp [results, Try.results82, go_sem, E0', E1', E2', M0, M1]) rfl ?_
          have hAC := HAC.out
          have h5 := G5.out
          obtain ⟨T, hT⟩ : ∃ T : Nat → Prop, T = fun b => wA.heap.size ≤ b ∧ b < w5.heap.size := ⟨_, rfl⟩
          have hTn : ∀ b, b ≤ w.heap.size + 1 + 1 + 1 + 1 + 1 → ¬ T b := fun b hb h => by rw [hT] at h; have := h.1; omega
          have hTS : ∀ b, T b → SOr S w.heap.size b := fun b h => by rw [hT] at h; have := h.1; exact .inr (by omega)
          have t6 : On T (fun w => Ints w (.slice pa c2.mark.length pn) c2.mark) w5 := (Ints.on_fresh HI6.out).mono (fun b hb h => by rw [hT]; exact ⟨h, hb⟩)
          have t7 : On T (fun w => Ints w (.slice qa c2.busy.length qn) c2.busy) w5 := (Ints.on_fresh HI7.out).mono (fun b hb h => by rw [hT]; exact ⟨h, hb⟩)
          clear hT
          refine RetDD.mk HC.out (on_desk (k := ⟨c2, k.items⟩) (On.mono (S := T) ?_ (fun b _ h => hTS b h)) (On.mono (S := T) ?_ (fun b _ h => hTS b h)) ((on_items hk).sor ?_)) ?_
          · iterate 9 (refine On.kp (S := T) ?_ (set_kp (hTn _ (by simp; try omega)) _))
            exact t6
          · iterate 9 (refine On.kp (S := T) ?_ (set_kp (hTn _ (by simp; try omega)) _))
            exact t7
          · iterate 9 (refine Gr.setCell ?_ (by simp; try omega) _)
            exact GB
          · iterate 9 (refine Gr.setCell ?_ (by simp; try omega) _)
            exact GB
        · have q6 : (e == 0) = false := by simpa using he
          have HC := Lib.hid (HSN.out HD.out he)
          clear he
          have bK := b1
          have K0 := bK.cell (i := 0) rfl
          have K1 := bK.cell (i := 1) rfl
          have K2 := bK.cell (i := 2) rfl
          have D0 := b3.cell (i := 0) rfl
          have F0 := b3.frozen 0
          have bq1 := b3.set 0 (.slice ma k.case.mark.length mc)
          have D1 := bq1.cell (i := 1) rfl
          have F1 := bq1.frozen 1
          have bq2 := bq1.set 1 (.slice ba k.case.busy.length bc)
          have D2 := bq2.cell (i := 2) rfl
          have F2 := bq2.frozen 2
          have bq3 := bq2.set 2 (.slice ia k.items.length ic)
          have E0 := bq3.cell (i := 0) rfl
          have E1 := bq3.cell (i := 1) rfl
          have E2 := bq3.cell (i := 2) rfl
          have c4 := ((b4.other (a := ⟨w.heap.size + 1 + 1 + 1, 0, none⟩) (by simp; try omega) (.slice ma k.case.mark.length mc)).other (a := ⟨w.heap.size + 1 + 1 + 1, 1, none⟩) (by simp; try omega) (.slice ba k.case.busy.length bc)).other (a := ⟨w.heap.size + 1 + 1 + 1, 2, none⟩) (by simp; try omega) (.slice ia k.items.length ic)
          have J0 := c4.cell (i := 0) rfl
          have JF := c4.frozen 0
          have c41 := c4.set 0 (.int .i64 e)
          have J1 := c41.cell (i := 1) rfl
          have JF1 := c41.frozen 1
          have c42 := c41.set 1 (.int .i64 0)
          have M0 := c42.cell (i := 0) rfl
          have M1 := c42.cell (i := 1) rfl
          have bq5 := (bq3.other (a := ⟨w.heap.size + 1 + 1 + 1 + 1, 0, none⟩) (by simp; try omega) (.int .i64 e)).other (a := ⟨w.heap.size + 1 + 1 + 1 + 1, 1, none⟩) (by simp; try omega) (.int .i64 0)
          have E0' := bq5.cell (i := 0) rfl
          have E1' := bq5.cell (i := 1) rfl
          have E2' := bq5.cell (i := 2) rfl
          clear b1 b3 b4 bK c4 c41 bq1 bq2 bq3 c42 bq5 bC bC1 bC2 hok hoo
          go_wp2_with fail
          refine bodyPost_ret (v := .tuple #[.agg #[.slice ma k.case.mark.length mc, .slice ba k.case.busy.length bc, .slice ia k.items.length ic], .agg #[.int .i64 e, .int .i64 0]]) (by simp [results, Try.results82, go_sem, E0', E1', E2', M0, M1]) rfl ?_
          refine RetDD.old HC.out hk ?_
          iterate 7 (refine Gr.setCell ?_ (by simp; try omega) _)
          exact GB
      · have q5 : (o.kind == 5) = false := by simpa using hk5
        have HC := Lib.hid (deskF_kind (N := N) (roles := roles) (k := k) (o := o) (by omega))
        clear hk5 hkc hk1 hdk hok hoo
        have P0 := b2.cell (i := 0) rfl
        have bK := b1
        have K0 := bK.cell (i := 0) rfl
        have K1 := bK.cell (i := 1) rfl
        have K2 := bK.cell (i := 2) rfl
        have D0 := b3.cell (i := 0) rfl
        have F0 := b3.frozen 0
        have bq1 := b3.set 0 (.slice ma k.case.mark.length mc)
        have D1 := bq1.cell (i := 1) rfl
        have F1 := bq1.frozen 1
        have bq2 := bq1.set 1 (.slice ba k.case.busy.length bc)
        have D2 := bq2.cell (i := 2) rfl
        have F2 := bq2.frozen 2
        have bq3 := bq2.set 2 (.slice ia k.items.length ic)
        have E0 := bq3.cell (i := 0) rfl
        have E1 := bq3.cell (i := 1) rfl
        have E2 := bq3.cell (i := 2) rfl
        have c4 := ((b4.other (a := ⟨w.heap.size + 1 + 1 + 1, 0, none⟩) (by simp; try omega) (.slice ma k.case.mark.length mc)).other (a := ⟨w.heap.size + 1 + 1 + 1, 1, none⟩) (by simp; try omega) (.slice ba k.case.busy.length bc)).other (a := ⟨w.heap.size + 1 + 1 + 1, 2, none⟩) (by simp; try omega) (.slice ia k.items.length ic)
        have J0 := c4.cell (i := 0) rfl
        have JF := c4.frozen 0
        have c41 := c4.set 0 (.int .i64 5)
        have J1 := c41.cell (i := 1) rfl
        have JF1 := c41.frozen 1
        have c42 := c41.set 1 (.int .i64 0)
        have M0 := c42.cell (i := 0) rfl
        have M1 := c42.cell (i := 1) rfl
        have bq5 := (bq3.other (a := ⟨w.heap.size + 1 + 1 + 1 + 1, 0, none⟩) (by simp; try omega) (.int .i64 5)).other (a := ⟨w.heap.size + 1 + 1 + 1 + 1, 1, none⟩) (by simp; try omega) (.int .i64 0)
        have E0' := bq5.cell (i := 0) rfl
        have E1' := bq5.cell (i := 1) rfl
        have E2' := bq5.cell (i := 2) rfl
        clear b0 b1 b2 b3 b4 bK c4 c41 bq1 bq2 bq3 c42 bq5
        go_enter Try.func82, Try.ntmps82
        go_wp2_with fail
        refine bodyPost_ret (v := .tuple #[.agg #[.slice ma k.case.mark.length mc, .slice ba k.case.busy.length bc, .slice ia k.items.length ic], .agg #[.int .i64 5, .int .i64 0]]) (by simp [results, Try.results82, go_sem, E0', E1', E2', M0, M1]) rfl ?_
        refine RetDD.old HC.out hk ?_
        iterate 5 (apply Gr.alloc)
        exact Gr.refl _
end Go.Proofs.Ytidpppfimkhgkaa
