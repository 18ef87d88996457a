/- Contract of a hall's do, where something can be written down. -/
import Derived.Test.YtidpppfimkhgkaaHall3
import Derived.Test.YtidpppfimkhgkaaPC
namespace Go.Proofs.Ytidpppfimkhgkaa
open Go.RowKit Go.Tok
set_option linter.unusedVariables false
set_option linter.unusedSimpArgs false
set_option maxHeartbeats 4000000 in
set_option maxRecDepth 100000 in
theorem hdo_go_calls {fb : Nat} {tF : TypeId} {cF : Array Value} {N : NetD} {i : Int} {roles : List (List Int)} {c : CaseD} {w0 w : World} {hb : Nat} {a ra : Option Addr} {cap rc : Nat} {out : Value} {l : List AnsD} {h : HalD} {o : OpD} (hN0 : NetR w0 (.agg #[.int .i64 N.places, .slice a N.trans.length cap]) N) (hi : I64 i) (hr0 : Rd rowK w0 (.slice ra roles.length rc) roles) (hbg : beginF N i = (c, 0))
    (HH : RetH fb tF cF w0 N a cap i ra roles.length rc hb out l h w) (ho : opI o) (hok : opOkB o = true) (hl : h.done.length + 1 ≤ 3518437208873) :
    Calls Try.prog 78 #[.pointer (some ⟨hb, 0, none⟩), .agg #[.int .i64 o.kind, .int .i64 o.user, .int .i64 o.tran, .int .i64 o.item, .int .i64 o.to]] w fun e w' => e = .returned (.agg #[.int .i64 (hdoF N roles ⟨c, []⟩ h o).2.err, .int .i64 (hdoF N roles ⟨c, []⟩ h o).2.item]) ∧ RetH fb tF cF w0 N a cap i ra roles.length rc hb out l (hdoF N roles ⟨c, []⟩ h o).1 w' := by
  obtain ⟨dv, bv, bH, H⟩ := HH
  obtain ⟨da, dc, rfl, hdl, hdc⟩ := H.done.len
  obtain ⟨k, l2, hp, hl1, hl2⟩ := hall_last (roles := roles) hbg h.done h.sure o
  have HP := Lib.hid hp
  have HL1 := Lib.hid hl1
  have HL2 := Lib.hid hl2
  have HW0 := Lib.hid H.gr.le
  have HBW := Lib.hid H.hl
  have HDB := Lib.hid (fun q (hq : (Value.slice da h.done.length dc).ownBlock = some q) => (H.done.lt hq).2)
  clear hp hl1 hl2
  have HBV := Lib.hid (fun q (hq : bv.ownBlock = some q) => (H.bytes.lt hq).2)
  have HOV := Lib.hid (fun q (hq : out.ownBlock = some q) => (H.ans.lt hq).2)
  have HHB := Lib.hid H.hh
  have HFB := Lib.hid H.eb.lt
  have b0 : Blk ((w.alloc (.cells #[.int .i64 o.kind, .int .i64 o.user, .int .i64 o.tran, .int .i64 o.item, .int .i64 o.to] 59)).alloc (.cells #[.int .i64 0, .int .i64 0] 75)) w.heap.size 59 #[.int .i64 o.kind, .int .i64 o.user, .int .i64 o.tran, .int .i64 o.item, .int .i64 o.to] := (Blk.new rfl).gr ((Gr.refl _).alloc _)
  have bA : Blk ((w.alloc (.cells #[.int .i64 o.kind, .int .i64 o.user, .int .i64 o.tran, .int .i64 o.item, .int .i64 o.to] 59)).alloc (.cells #[.int .i64 0, .int .i64 0] 75)) (w.heap.size + 1) 75 #[.int .i64 0, .int .i64 0] := Blk.new (by simp)
  have GA : Gr w ((w.alloc (.cells #[.int .i64 o.kind, .int .i64 o.user, .int .i64 o.tran, .int .i64 o.item, .int .i64 o.to] 59)).alloc (.cells #[.int .i64 0, .int .i64 0] 75)) := ((Gr.refl _).alloc _).alloc _
  have P0 := b0.cell (i := 0) (v := .int .i64 o.kind) rfl
  have P1 := b0.cell (i := 1) (v := .int .i64 o.user) rfl
  have P2 := b0.cell (i := 2) (v := .int .i64 o.tran) rfl
  have P3 := b0.cell (i := 3) (v := .int .i64 o.item) rfl
  have P4 := b0.cell (i := 4) (v := .int .i64 o.to) rfl
  go_enter Try.func78, Try.ntmps78
  go_wp2_with fail
  generalize (w.alloc (.cells #[.int .i64 o.kind, .int .i64 o.user, .int .i64 o.tran, .int .i64 o.item, .int .i64 o.to] 59)).alloc (.cells #[.int .i64 0, .int .i64 0] 75) = wA at b0 bA GA P0 P1 P2 P3 P4 ⊢
  have HWA := Lib.hid bA.lt
  refine (Write_ok o _ ho hok).mono ?_
  rintro _ w1 ⟨v1, rfl, oB, g1⟩
  obtain ⟨va, vc, rfl, -, -⟩ := oB.len
  replace GA := GA.trans g1
  replace b0 := b0.gr g1
  replace bA := bA.gr g1
  replace bH := bH.gr GA
  replace H := H.mv GA
  have hw0 : w0.heap.size ≤ w.heap.size := HW0.out
  have hb1 := H.hl
  have hbw : hb < w.heap.size := HBW.out
  have hdb : ∀ q, (Value.slice da h.done.length dc).ownBlock = some q → q < w.heap.size := HDB.out
  have P0 := b0.cell (i := 0) (v := .int .i64 o.kind) rfl
  have P1 := b0.cell (i := 1) (v := .int .i64 o.user) rfl
  have P2 := b0.cell (i := 2) (v := .int .i64 o.tran) rfl
  have P3 := b0.cell (i := 3) (v := .int .i64 o.item) rfl
  have P4 := b0.cell (i := 4) (v := .int .i64 o.to) rfl
  have D4 := bH.cell (i := 4) (v := .slice da h.done.length dc) rfl
  clear g1
  go_wp2_with fail
  refine cut10 (S := fun w' => w'.cell? ⟨hb, 4, none⟩ = some (.slice da h.done.length dc) ∧ w'.cell? ⟨w.heap.size, 0, none⟩ = some (.int .i64 o.kind) ∧ w'.cell? ⟨w.heap.size, 1, none⟩ = some (.int .i64 o.user) ∧ w'.cell? ⟨w.heap.size, 2, none⟩ = some (.int .i64 o.tran) ∧ w'.cell? ⟨w.heap.size, 3, none⟩ = some (.int .i64 o.item) ∧ w'.cell? ⟨w.heap.size, 4, none⟩ = some (.int .i64 o.to)) (by kernel_rfl) (by kernel_rfl) ⟨cell_gr D4 (by (repeat (first | exact Gr.refl _ | assumption | apply Gr.alloc | apply Gr.drew | apply Gr.drewN | refine Gr.trans ?_ (by assumption)))), cell_gr P0 (by (repeat (first | exact Gr.refl _ | assumption | apply Gr.alloc | apply Gr.drew | apply Gr.drewN | refine Gr.trans ?_ (by assumption)))), cell_gr P1 (by (repeat (first | exact Gr.refl _ | assumption | apply Gr.alloc | apply Gr.drew | apply Gr.drewN | refine Gr.trans ?_ (by assumption)))), cell_gr P2 (by (repeat (first | exact Gr.refl _ | assumption | apply Gr.alloc | apply Gr.drew | apply Gr.drewN | refine Gr.trans ?_ (by assumption)))), cell_gr P3 (by (repeat (first | exact Gr.refl _ | assumption | apply Gr.alloc | apply Gr.drew | apply Gr.drewN | refine Gr.trans ?_ (by assumption)))), cell_gr P4 (by (repeat (first | exact Gr.refl _ | assumption | apply Gr.alloc | apply Gr.drew | apply Gr.drewN | refine Gr.trans ?_ (by assumption))))⟩ (fun hHeld => ?_)
  (refine hold0 (v := ?_) (by kernel_rfl) (by kernel_rfl) (by kernel_rfl) (fun _ _ _ h => h) (by rfl) (fun w' hSw => ?_) (by assumption) ?_; rotate_left 1; · ((try dsimp only at hSw); (try go_simp); (try (with_reducible rfl))); (try simp only [Act.put, List.setIfInBounds_toArray, List.set_cons_zero, List.set_cons_succ]))
  (refine hold1 (v := ?_) (by kernel_rfl) (by kernel_rfl) (by kernel_rfl) (fun _ _ _ h => h) (by rfl) (fun w' hSw => ?_) (by assumption) ?_; rotate_left 1; · ((try dsimp only at hSw); (try go_simp); (try (with_reducible rfl))); (try simp only [Act.put, List.setIfInBounds_toArray, List.set_cons_zero, List.set_cons_succ]))
  (refine hold2 (v := ?_) (by kernel_rfl) (by kernel_rfl) (by kernel_rfl) (fun _ _ _ h => h) (by rfl) (fun w' hSw => ?_) (by assumption) ?_; rotate_left 1; · ((try dsimp only at hSw); (try go_simp); (try (with_reducible rfl))); (try simp only [Act.put, List.setIfInBounds_toArray, List.set_cons_zero, List.set_cons_succ]))
  (refine hold3 (v := ?_) (by kernel_rfl) (by kernel_rfl) (by kernel_rfl) (fun _ _ _ h => h) (by rfl) (fun w' hSw => ?_) (by assumption) ?_; rotate_left 1; · ((try dsimp only at hSw); (try go_simp); (try (with_reducible rfl))); (try simp only [Act.put, List.setIfInBounds_toArray, List.set_cons_zero, List.set_cons_succ]))
  (refine hold4 (v := ?_) (by kernel_rfl) (by kernel_rfl) (by kernel_rfl) (fun _ _ _ h => h) (by rfl) (fun w' hSw => ?_) (by assumption) ?_; rotate_left 1; · ((try dsimp only at hSw); (try go_simp); (try (with_reducible rfl))); (try simp only [Act.put, List.setIfInBounds_toArray, List.set_cons_zero, List.set_cons_succ]))
  (refine hold5 (v := ?_) (by kernel_rfl) (by kernel_rfl) (by kernel_rfl) (fun _ _ _ h => h) (by rfl) (fun w' hSw => ?_) (by assumption) ?_; rotate_left 1; · ((try dsimp only at hSw); (try go_simp); (try (with_reducible rfl))); (try simp only [Act.put, List.setIfInBounds_toArray, List.set_cons_zero, List.set_cons_succ]))
  refine next6 (by kernel_rfl) (fun K hK => ?_)
  go_simp
  (refine hK.out _ _ ?_ (fun hHeld => ?_); · (exact ⟨cell_gr D4 (by (repeat (first | exact Gr.refl _ | assumption | apply Gr.alloc | apply Gr.drew | apply Gr.drewN | refine Gr.trans ?_ (by assumption)))), cell_gr P0 (by (repeat (first | exact Gr.refl _ | assumption | apply Gr.alloc | apply Gr.drew | apply Gr.drewN | refine Gr.trans ?_ (by assumption)))), cell_gr P1 (by (repeat (first | exact Gr.refl _ | assumption | apply Gr.alloc | apply Gr.drew | apply Gr.drewN | refine Gr.trans ?_ (by assumption)))), cell_gr P2 (by (repeat (first | exact Gr.refl _ | assumption | apply Gr.alloc | apply Gr.drew | apply Gr.drewN | refine Gr.trans ?_ (by assumption)))), cell_gr P3 (by (repeat (first | exact Gr.refl _ | assumption | apply Gr.alloc | apply Gr.drew | apply Gr.drewN | refine Gr.trans ?_ (by assumption)))), cell_gr P4 (by (repeat (first | exact Gr.refl _ | assumption | apply Gr.alloc | apply Gr.drew | apply Gr.drewN | refine Gr.trans ?_ (by assumption))))⟩))
  clear hK K
  try simp only [Act.put, List.setIfInBounds_toArray, List.set_cons_zero, List.set_cons_succ]
  refine next7 (by kernel_rfl) (fun K hK => ?_)
  refine step_app_one opTy (by rfl) _ _ (by rfl) w0.heap.size NoB (.slice da h.done.length dc) h.done ⟨w1.heap.size, 0, none⟩ o [.int .i64 o.kind, .int .i64 o.user, .int .i64 o.tran, .int .i64 o.item, .int .i64 o.to] (by rfl) (by rfl) (H.done.gr (by (repeat (first | exact Gr.refl _ | assumption | apply Gr.alloc | apply Gr.drew | apply Gr.drewN | refine Gr.trans ?_ (by assumption))))) (World.news_of_block (cs := #[.int .i64 o.kind, .int .i64 o.user, .int .i64 o.tran, .int .i64 o.item, .int .i64 o.to]) (t := 59) (fr := (0, 0)) (heap_alloc_new w1 _)) (On.true (p := [Value.int .i64 o.kind, .int .i64 o.user, .int .i64 o.tran, .int .i64 o.item, .int .i64 o.to] = opCells o ∧ opI o) ⟨rfl, ho⟩) (by omega) (by unfold maxLen; omega) (by have := GA.le; simp; omega) ?_
  intro g cp w3 ho3 hgs3 hgr3 hat hlt3
  have hBne : (Value.slice va (seven o).length vc).ownBlock = none ∨ (Value.slice va (seven o).length vc).ownBlock ≠ (Value.slice da h.done.length dc).ownBlock := by
    cases hq : (Value.slice va (seven o).length vc).ownBlock with
    | none => exact .inl rfl
    | some q => exact .inr (fun e => by have := (oB.lt hq).1; have := hdb q e.symm; have := HWA.out; omega)
  have hBhb : (Value.slice va (seven o).length vc).ownBlock ≠ some hb := by intro e; have := (oB.lt e).1; have := HWA.out; omega
  have hga : g ≠ w.heap.size + 1 := by
    rcases hat with e | e
    · have := hdb g e; omega
    · have := bA.lt; simp at e; omega
  have GX : Gr w1 ((w1.alloc (.cells #[.int .i64 o.kind, .int .i64 o.user, .int .i64 o.tran, .int .i64 o.item, .int .i64 o.to] 59)).drew) := ((Gr.refl _).alloc _).drew
  have hb3 := (bH.gr GX).grown hgr3 (fun e => H.d1 e.symm)
  have bo3 := (b0.gr GX).grown hgr3 (fun e => by have := hdb _ e.symm; omega)
  have D4 := hb3.cell (i := 4) (v := .slice da h.done.length dc) rfl
  have DF := hb3.frozen 4
  have P0 := bo3.cell (i := 0) (v := .int .i64 o.kind) rfl
  have P1 := bo3.cell (i := 1) (v := .int .i64 o.user) rfl
  have P2 := bo3.cell (i := 2) (v := .int .i64 o.tran) rfl
  have P3 := bo3.cell (i := 3) (v := .int .i64 o.item) rfl
  have P4 := bo3.cell (i := 4) (v := .int .i64 o.to) rfl
  (refine hK.out _ _ ?_ (fun hHeld => ?_); · (exact ⟨D4, P0, P1, P2, P3, P4⟩))
  clear hK K
  try simp only [Act.put, List.setIfInBounds_toArray, List.set_cons_zero, List.set_cons_succ]
  (refine hold8 (v := ?_) (by kernel_rfl) (by kernel_rfl) (by kernel_rfl) (fun _ _ _ h => h) (by rfl) (fun w' hSw => ?_) (by assumption) ?_; rotate_left 1; · ((try dsimp only at hSw); (try go_simp); (try (with_reducible rfl))); (try simp only [Act.put, List.setIfInBounds_toArray, List.set_cons_zero, List.set_cons_succ]))
  (refine hold9 (v := ?_) (by kernel_rfl) (by kernel_rfl) (by kernel_rfl) (fun _ _ _ h => h) (by rfl) (fun w' hSw => ?_) (by assumption) ?_; rotate_left 1; · ((try dsimp only at hSw); (try go_simp); (try (with_reducible rfl))); (try simp only [Act.put, List.setIfInBounds_toArray, List.set_cons_zero, List.set_cons_succ]))
  refine ends10 (by kernel_rfl) (fun K hK => ?_)
  go_simp
  refine hK.out _ _ ?_
  have H4 := ((H.mv GX).appD ho3 hgs3 hgr3 (hat.imp (fun h => by rw [h]; rfl) (fun h => by rw [h]; rfl))).set 4 (.slice (some ⟨g, 0, none⟩) (h.done.length + 1) cp)
  have b4 := hb3.set 4 (.slice (some ⟨g, 0, none⟩) (h.done.length + 1) cp)
  have b5 : Blk (w3.setCell ⟨hb, 4, none⟩ (.slice (some ⟨g, 0, none⟩) (h.done.length + 1) cp)) hb 160 #[.int .i64 N.places, .slice a N.trans.length cap, .int .i64 i, .slice ra roles.length rc, .slice (some ⟨g, 0, none⟩) (h.done.length + 1) cp, bv, .int .i64 (h.sure : Int)] := b4
  have bA4 := (((bA.gr GX).grown hgr3 (fun e => by have := hdb _ e.symm; omega)).other (a := ⟨hb, 4, none⟩) (by simp; omega) (.slice (some ⟨g, 0, none⟩) (h.done.length + 1) cp))
  have oB4 := (((oB.flat_any (S' := NoB)).gr GX).kept (S' := NoB) hgr3 hBne (fun _ _ h => h.elim)).other (a := ⟨hb, 4, none⟩) hBhb (fun h => h) (.slice (some ⟨g, 0, none⟩) (h.done.length + 1) cp)
  have HBHB := Lib.hid hBhb
  have HGA := Lib.hid hga
  have hsv : (wrL h.done).length = 7 * h.done.length := wrL_len _
  have HSV := Lib.hid hsv
  clear oB hBne hBhb hga hsv
  have HBL := Lib.hid (show (h.done ++ [o]).length ≤ 3518437208873 by simp; omega)
  clear hb3 bo3 b4 P0 P1 P2 P3 P4 hgr3 hgs3 hat ho3 H bH b0
  go_wp2_with fail
  generalize w3.setCell ⟨hb, 4, none⟩ (.slice (some ⟨g, 0, none⟩) (h.done.length + 1) cp) = w4 at H4 b5 bA4 oB4 ⊢
  refine (hdesk_calls HP b5 (hN0.gr H4.gr) hi (hr0.gr H4.gr) H4.done.rd HBL.out).mono ?_
  rintro _ w5 ⟨ma, ba, ia, la, mn, bn, jn, lc, rfl, i1, j1, g5⟩
  have GE : Gr w5 (w5.alloc (.cells #[.slice ma k.case.mark.length mn, .slice ba k.case.busy.length bn, .slice ia k.items.length jn] 66)) := (Gr.refl _).alloc _
  replace H4 := (H4.mv g5).mv GE
  replace b5 := (b5.gr g5).gr GE
  replace bA4 := (bA4.gr g5).gr GE
  replace oB4 := (oB4.gr g5).gr GE
  have j2 := j1.now.gr GE
  clear i1 j1
  rw [HL1.out]
  rw [HL1.out] at j2
  obtain ⟨lb, lo, rfl, c0, c1, hI⟩ := j2.ans (i := h.done.length) (by rw [HL1.out]; omega)
  have ePos : ((h.done.length + 1 : Nat) : Int) - 1 = (h.done.length : Int) := by omega
  have hlt1 : (h.done.length : Int) < ((h.done.length + 1 : Nat) : Int) := by omega
  have hge1 : (0 : Int) ≤ (h.done.length : Int) := by omega
  clear g5 GE
  rcases han : hansF N roles ⟨c, []⟩ h o with ⟨er, it⟩
  have HAN := Lib.hid han
  have e2 : ix l2 h.done.length = ⟨er, it⟩ := HL2.out.trans han
  rw [e2] at c0 c1 hI
  simp only [] at c0 c1
  clear e2 j2 HL2 HP
  have bN : Blk ((w5.alloc (.cells #[.slice ma k.case.mark.length mn, .slice ba k.case.busy.length bn, .slice ia k.items.length jn] 66)).alloc (.cells #[.int .i64 er, .int .i64 it] 75)) (w5.heap.size + 1) 75 #[.int .i64 er, .int .i64 it] := Blk.new (by simp)
  have N0 := bN.cell (i := 0) (v := .int .i64 er) rfl
  have N1 := bN.cell (i := 1) (v := .int .i64 it) rfl
  by_cases he : er = 0
  · subst he
    have HD := Lib.hid (hdo_ok (N := N) (roles := roles) (k0 := ⟨c, []⟩) (h := h) hok (by rw [han]))
    have GN : Gr (w5.alloc (.cells #[.slice ma k.case.mark.length mn, .slice ba k.case.busy.length bn, .slice ia k.items.length jn] 66)) ((w5.alloc (.cells #[.slice ma k.case.mark.length mn, .slice ba k.case.busy.length bn, .slice ia k.items.length jn] 66)).alloc (.cells #[.int .i64 0, .int .i64 it] 75)) := (Gr.refl _).alloc _
    have C5 := (b5.gr GN).cell (i := 5) (v := bv) rfl
    have hsl : (seven o).length = 7 := seven_len o
    have hn1 : ((wrL h.done).length + (seven o).length) * 1 ≤ 140737488355328 := by rw [HSV.out, hsl]; omega
    have hn2 : (wrL h.done).length + (seven o).length ≤ maxLen := by rw [HSV.out, hsl]; unfold maxLen; omega
    have HSB := Lib.hid (show ∀ y ∈ seven o, y < 256 from (seven_bytes hok).mem)
    have H5 := H4.mv GN
    have oB5 := (oB4.gr GN).rd
    have hbq := HBV.out
    have hwE : (w5.alloc (.cells #[.slice ma k.case.mark.length mn, .slice ba k.case.busy.length bn, .slice ia k.items.length jn] 66)).heap.size = w5.heap.size + 1 := by simp
    have h1q : ∀ q, bv.ownBlock = some q → q < w5.heap.size + 1 := fun q hq => by have := (H4.bytes.lt hq).2; rw [hwE] at this; exact this
    have hA5 : w.heap.size + 1 < w5.heap.size + 1 := by have := bA4.lt; rw [hwE] at this; exact this
    clear hsl
    go_wp2_with (at_builtin; go_loud (refine app_flat byteTy _ _ w0.heap.size NoB bv _ (wrL h.done) (seven o) rfl rfl (by rfl) (by rfl) H5.bytes oB5 HSB.out hn1 hn2 H5.gr.le ?_; intro v' w6 ho6 hgs6 hgr6 hat6; obtain ⟨xa, xc, hv6, -, -⟩ := ho6.len; rw [List.length_append] at hv6; subst hv6; have b6 := (b5.gr GN).grown hgr6 (fun e => H5.d2 e.symm); have BF5 := b6.frozen 5; have BC5 := b6.cell (i := 5) (v := bv) rfl; have b7 := b6.set 5 (.slice xa ((wrL h.done).length + (seven o).length) xc); have bN7 := (bN.grown hgr6 (fun e => absurd (h1q _ e.symm) (by omega))).other (a := ⟨hb, 5, none⟩) (by simp; omega) (.slice xa ((wrL h.done).length + (seven o).length) xc); have bA7 := ((bA4.gr GN).grown hgr6 (fun e => absurd (hbq _ e.symm) (by omega))).other (a := ⟨hb, 5, none⟩) (by simp; omega) (.slice xa ((wrL h.done).length + (seven o).length) xc); have N0 := bN7.cell (i := 0) (v := .int .i64 0) rfl; have N1 := bN7.cell (i := 1) (v := .int .i64 it) rfl; have AF0 := bA7.frozen 0; have AC0 := bA7.cell (i := 0) (v := .int .i64 0) rfl; have bA8 := bA7.set 0 (.int .i64 0); have N3 := (bN7.other (a := ⟨w.heap.size + 1, 0, none⟩) (by simp; omega) (.int .i64 0)).cell (i := 1) (v := .int .i64 it) rfl; have AF1 := bA8.frozen 1; have AC1 := bA8.cell (i := 1) (v := .int .i64 0) rfl; have bA9 := bA8.set 1 (.int .i64 it); have Z0 := bA9.cell (i := 0) (v := .int .i64 0) rfl; have Z1 := bA9.cell (i := 1) (v := .int .i64 it) rfl))
    refine bodyPost_ret (v := .agg #[.int .i64 0, .int .i64 it]) (by simp [results, Try.results78, go_sem, Z0, Z1]) rfl ?_
    rw [HD.out, HAN.out]
    refine ⟨rfl, ?_⟩
    have hA4 := bA4.lt
    have hfb := HFB.out
    have hov := HOV.out
    have hq1 : (Value.slice xa ((wrL h.done).length + (seven o).length) xc).ownBlock ≠ some (w.heap.size + 1) := by
      rcases hat6 with e | e
      · rw [e]; intro h; have := hbq _ h; omega
      · rw [e]; intro h; have := Option.some.inj h; simp at this; omega
    have hq2 : (Value.slice (some ⟨g, 0, none⟩) (h.done.length + 1) cp).ownBlock ≠ some (w.heap.size + 1) := fun e => HGA.out (Option.some.inj e)
    have hq3 : out.ownBlock ≠ some (w.heap.size + 1) := fun e => by have := hov _ e; omega
    have hq0 : w0.heap.size ≤ w.heap.size + 1 := by omega
    have H8 := ((((H5.appB ho6 hgs6 hgr6 hat6).set 5 (.slice xa ((wrL h.done).length + (seven o).length) xc)).put hq0 hq2 hq1 hq3 (by omega) 0 (.int .i64 0)).put hq0 hq2 hq1 hq3 (by omega) 1 (.int .i64 it))
    have b9 := (b7.other (a := ⟨w.heap.size + 1, 0, none⟩) (by simp; omega) (.int .i64 0)).other (a := ⟨w.heap.size + 1, 1, none⟩) (by simp; omega) (.int .i64 it)
    exact ⟨_, _, b9, by show HOwn _ _ _ _ _ _ _ _ _ _ _ (h.done ++ [o]) _ (wrL (h.done ++ [o])) _; rw [wrL_snoc]; exact H8⟩
  · have q1 : (er != 0) = true := by simpa using he
    have HD := Lib.hid (hdo_no (N := N) (roles := roles) (k0 := ⟨c, []⟩) (h := h) hok (by rw [han]; exact he))
    have GN : Gr (w5.alloc (.cells #[.slice ma k.case.mark.length mn, .slice ba k.case.busy.length bn, .slice ia k.items.length jn] 66)) ((w5.alloc (.cells #[.slice ma k.case.mark.length mn, .slice ba k.case.busy.length bn, .slice ia k.items.length jn] 66)).alloc (.cells #[.int .i64 er, .int .i64 it] 75)) := (Gr.refl _).alloc _
    have b6 := b5.gr GN
    have C4 := b6.cell (i := 4) (v := .slice (some ⟨g, 0, none⟩) (h.done.length + 1) cp) rfl
    have C4F := b6.frozen 4
    have hcp : h.done.length + 1 ≤ cp ∧ cp ≤ 9223372036854775807 := by
      obtain ⟨_, _, e, h1, h2⟩ := H4.done.len
      injection e with e1 e2 e3
      subst e3
      exact ⟨by simpa using h1, h2⟩
    have hcp1 := hcp.1
    have hcp2 := hcp.2
    have hwr : IntKind.i64.wrap (h.done.length : Int) = (h.done.length : Int) := IntWalk.i64_in _ ⟨by omega, by omega⟩
    have hlc : (h.done.length : Int) ≤ (cp : Int) := by omega
    have hl0 : (0 : Int) ≤ (h.done.length : Int) := by omega
    have hwE : (w5.alloc (.cells #[.slice ma k.case.mark.length mn, .slice ba k.case.busy.length bn, .slice ia k.items.length jn] 66)).heap.size = w5.heap.size + 1 := by simp
    have hA5 : w.heap.size + 1 < w5.heap.size + 1 := by have := bA4.lt; rw [hwE] at this; exact this
    have hfb := HFB.out
    have hov := HOV.out
    have hbq := HBV.out
    obtain ⟨wE, hE⟩ : ∃ wE, wE = (w5.alloc (.cells #[.slice ma k.case.mark.length mn, .slice ba k.case.busy.length bn, .slice ia k.items.length jn] 66)).alloc (.cells #[.int .i64 er, .int .i64 it] 75) := ⟨_, rfl⟩
    obtain ⟨V, hV⟩ : ∃ V, V = (Value.slice (some ⟨g, 0, none⟩) h.done.length cp) := ⟨_, rfl⟩
    have bE := b6
    have bNE := bN
    have bAE := bA4.gr GN
    have HE := H4.mv GN
    rw [← hE] at bE bNE bAE HE
    have hq1 : bv.ownBlock ≠ some (w.heap.size + 1) := fun e => by have := hbq _ e; omega
    have hq2 : V.ownBlock ≠ some (w.heap.size + 1) := fun e => by rw [hV] at e; exact HGA.out (Option.some.inj e)
    have hq3 : out.ownBlock ≠ some (w.heap.size + 1) := fun e => by have := hov _ e; omega
    have hq0 : w0.heap.size ≤ w.heap.size + 1 := by omega
    have bN7 := bNE.other (a := ⟨hb, 4, none⟩) (by simp; omega) V
    have bA7 := bAE.other (a := ⟨hb, 4, none⟩) (by simp; omega) V
    have N0 := (bN7.gr ((Gr.refl _).drew)).cell (i := 0) (v := .int .i64 er) rfl
    have N1 := (bN7.gr ((Gr.refl _).drew)).cell (i := 1) (v := .int .i64 it) rfl
    have AC0 := (bA7.gr ((Gr.refl _).drew)).cell (i := 0) (v := .int .i64 0) rfl
    have AF0 := (bA7.gr ((Gr.refl _).drew)).frozen 0
    have bA8 := bA7.set 0 (.int .i64 er)
    have AC1 := (bA8.gr ((Gr.refl _).drew)).cell (i := 1) (v := .int .i64 0) rfl
    have AF1 := (bA8.gr ((Gr.refl _).drew)).frozen 1
    have bA9 := bA8.set 1 (.int .i64 it)
    have Z0 := (bA9.gr ((Gr.refl _).drew)).cell (i := 0) (v := .int .i64 er) rfl
    have Z1 := (bA9.gr ((Gr.refl _).drew)).cell (i := 1) (v := .int .i64 it) rfl
    have hpop : OwnR opK 59 w0.heap.size NoB wE V h.done := by rw [hV]; exact HE.done.pop rfl
    have H8 := (((((HE.dropD (v' := V) hpop (by rw [hV]; rfl)).set 4 V).put hq0 hq2 hq1 hq3 (by omega) 0 (.int .i64 er)).put hq0 hq2 hq1 hq3 (by omega) 1 (.int .i64 it)).mv ((Gr.refl _).drew))
    have b9 := ((((bE.set 4 V).other (a := ⟨w.heap.size + 1, 0, none⟩) (by simp; omega) (.int .i64 er)).other (a := ⟨w.heap.size + 1, 1, none⟩) (by simp; omega) (.int .i64 it)).gr ((Gr.refl _).drew))
    have HH8 := Lib.hid H8
    have HB9 := Lib.hid b9
    clear hcp bE bNE bAE HE H8 b9 bN7 bA7 bA8 bA9 hpop bA4 H4 oB4 b6 b5
    subst hE
    subst hV
    go_wp2_with fail
    refine cut14 (S := fun w' => w'.cell? ⟨hb, 4, none⟩ = some (.slice (some ⟨g, 0, none⟩) (h.done.length + 1) cp)) (by kernel_rfl) (by kernel_rfl) (cell_gr C4 (by (repeat (first | exact Gr.refl _ | assumption | apply Gr.alloc | apply Gr.drew | apply Gr.drewN | refine Gr.trans ?_ (by assumption))))) (fun hHeld => ?_)
    (refine hold0 (v := ?_) (by kernel_rfl) (by kernel_rfl) (by kernel_rfl) (fun _ _ _ h => h) (by rfl) (fun w' hSw => ?_) (by assumption) ?_; rotate_left 1; · ((try dsimp only at hSw); (try go_simp); (try (with_reducible rfl))); (try simp only [Act.put, List.setIfInBounds_toArray, List.set_cons_zero, List.set_cons_succ]))
    (refine hold1 (v := ?_) (by kernel_rfl) (by kernel_rfl) (by kernel_rfl) (fun _ _ _ h => h) (by rfl) (fun w' hSw => ?_) (by assumption) ?_; rotate_left 1; · ((try dsimp only at hSw); (try go_simp); (try (with_reducible rfl))); (try simp only [Act.put, List.setIfInBounds_toArray, List.set_cons_zero, List.set_cons_succ]))
    (refine hold2 (v := ?_) (by kernel_rfl) (by kernel_rfl) (by kernel_rfl) (fun _ _ _ h => h) (by rfl) (fun w' hSw => ?_) (by assumption) ?_; rotate_left 1; · ((try dsimp only at hSw); (try go_simp); (try (with_reducible rfl))); (try simp only [Act.put, List.setIfInBounds_toArray, List.set_cons_zero, List.set_cons_succ]))
    (refine hold3 (v := ?_) (by kernel_rfl) (by kernel_rfl) (by kernel_rfl) (fun _ _ _ h => h) (by rfl) (fun w' hSw => ?_) (by assumption) ?_; rotate_left 1; · ((try dsimp only at hSw); (try go_simp); (try (with_reducible rfl))); (try simp only [Act.put, List.setIfInBounds_toArray, List.set_cons_zero, List.set_cons_succ]))
    (refine hold4 (v := ?_) (by kernel_rfl) (by kernel_rfl) (by kernel_rfl) (fun _ _ _ h => h) (by rfl) (fun w' hSw => ?_) (by assumption) ?_; rotate_left 1; · ((try dsimp only at hSw); (try go_simp); (try (with_reducible rfl))); (try simp only [Act.put, List.setIfInBounds_toArray, List.set_cons_zero, List.set_cons_succ]))
    (refine hold5 (v := ?_) (by kernel_rfl) (by kernel_rfl) (by kernel_rfl) (fun _ _ _ h => h) (by rfl) (fun w' hSw => ?_) (by assumption) ?_; rotate_left 1; · ((try dsimp only at hSw); (try go_simp); (try (with_reducible rfl))); (try simp only [Act.put, List.setIfInBounds_toArray, List.set_cons_zero, List.set_cons_succ]))
    (refine hold6 (v := ?_) (by kernel_rfl) (by kernel_rfl) (by kernel_rfl) (fun _ _ _ h => h) (by rfl) (fun w' hSw => ?_) (by assumption) ?_; rotate_left 1; · ((try dsimp only at hSw); (try go_simp); (try (with_reducible rfl))); (try simp only [Act.put, List.setIfInBounds_toArray, List.set_cons_zero, List.set_cons_succ]))
    (refine hold7 (v := ?_) (by kernel_rfl) (by kernel_rfl) (by kernel_rfl) (fun _ _ _ h => h) (by rfl) (fun w' hSw => ?_) (by assumption) ?_; rotate_left 1; · ((try dsimp only at hSw); (try go_simp); (try (with_reducible rfl))); (try simp only [Act.put, List.setIfInBounds_toArray, List.set_cons_zero, List.set_cons_succ]))
    (refine hold8 (v := ?_) (by kernel_rfl) (by kernel_rfl) (by kernel_rfl) (fun _ _ _ h => h) (by rfl) (fun w' hSw => ?_) (by assumption) ?_; rotate_left 1; · ((try dsimp only at hSw); (try go_simp); (try (with_reducible rfl))); (try simp only [Act.put, List.setIfInBounds_toArray, List.set_cons_zero, List.set_cons_succ]))
    (refine hold9 (v := ?_) (by kernel_rfl) (by kernel_rfl) (by kernel_rfl) (fun _ _ _ h => h) (by rfl) (fun w' hSw => ?_) (by assumption) ?_; rotate_left 1; · ((try dsimp only at hSw); (try go_simp); (try (with_reducible rfl))); (try simp only [Act.put, List.setIfInBounds_toArray, List.set_cons_zero, List.set_cons_succ]))
    (refine hold10 (v := ?_) (by kernel_rfl) (by kernel_rfl) (by kernel_rfl) (fun _ _ _ h => h) (by rfl) (fun w' hSw => ?_) (by assumption) ?_; rotate_left 1; · ((try dsimp only at hSw); (try go_simp); (try (with_reducible rfl))); (try simp only [Act.put, List.setIfInBounds_toArray, List.set_cons_zero, List.set_cons_succ]))
    (refine hold11 (v := ?_) (by kernel_rfl) (by kernel_rfl) (by kernel_rfl) (fun _ _ _ h => h) (by rfl) (fun w' hSw => ?_) (by assumption) ?_; rotate_left 1; · ((try dsimp only at hSw); (try go_simp); (try (with_reducible rfl))); (try simp only [Act.put, List.setIfInBounds_toArray, List.set_cons_zero, List.set_cons_succ]))
    (refine hold12 (v := ?_) (by kernel_rfl) (by kernel_rfl) (by kernel_rfl) (fun _ _ _ h => h) (by rfl) (fun w' hSw => ?_) (by assumption) ?_; rotate_left 1; · ((try dsimp only at hSw); (try go_simp); (try (with_reducible rfl))); (try simp only [Act.put, List.setIfInBounds_toArray, List.set_cons_zero, List.set_cons_succ]))
    (refine hold13 (v := ?_) (by kernel_rfl) (by kernel_rfl) (by kernel_rfl) (fun _ _ _ h => h) (by rfl) (fun w' hSw => ?_) (by assumption) ?_; rotate_left 1; · ((try dsimp only at hSw); (try go_simp); (try (with_reducible rfl))); (try simp only [Act.put, List.setIfInBounds_toArray, List.set_cons_zero, List.set_cons_succ]))
    refine ends14 (by kernel_rfl) (fun K hK => ?_)
    go_simp
    refine hK.out _ _ ?_
    go_wp2_with fail
    refine bodyPost_ret (v := .agg #[.int .i64 er, .int .i64 it]) (by simp [results, Try.results78, go_sem, Z0, Z1]) rfl ?_
    rw [HD.out, HAN.out]
    exact ⟨rfl, _, _, HB9.out, HH8.out⟩
end Go.Proofs.Ytidpppfimkhgkaa
