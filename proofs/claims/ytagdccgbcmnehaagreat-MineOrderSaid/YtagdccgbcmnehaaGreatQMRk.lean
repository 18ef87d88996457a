/- Texts of one family, joined; what the claim does not need is left out. -/
import Derived.Test.YtagdccgbcmnehaaGreatQMRj
import Derived.Test.YtagdccgbcmnehaaGreatQMRg
import Derived.Test.YtagdccgbcmnehaaGreatQMRe
import Derived.Test.YtagdccgbcmnehaaGreatQMRh
import Derived.Test.YtagdccgbcmnehaaGreatQMRf
import Derived.Laws.EntriesVeiled
namespace Go.Proofs.YtagdccgbcmnehaaGreat
open Go.RowKit Go.Tok Go.Sort
set_option linter.unusedVariables false
def leadV (d : Nat) : Value := .func (.func 184) #[] #[.pointer (some ⟨d, 0, none⟩)]
set_option maxHeartbeats 400000 in
set_option maxRecDepth 100000 in
theorem order1_calls (x y : Int) (hx : I64 x) (hy : I64 y) (c d b : Nat) (s : List (Int × Int)) (w : World) (hc : w.cell? ⟨c, 0, none⟩ = some (leadV d)) (hd : w.cell? ⟨d, 0, none⟩ = some (.map (some b))) (h : OneAt w b s) :
    Calls Tryz.prog 157 #[.int .i64 x, .int .i64 y, .pointer (some ⟨c, 0, none⟩)] w fun e w' => e = .returned (.bool (hasP s x y == hasP s y x)) ∧ Gr w w' := by
  unfold leadV at hc
  go_enter Tryz.func157, Tryz.ntmps157
  go_wp2_with fail
  go_region_held3 (fun w' => w'.cell? ⟨c, 0, none⟩ = some (.func (.func 184) #[] #[.pointer (some ⟨d, 0, none⟩)])) (first | go_keep | exact (cell_gr hc (by (repeat (first | exact Gr.refl _ | assumption | apply Gr.alloc | apply Gr.drew | apply Gr.drewN | refine Gr.trans ?_ (by assumption)))))) (first | (go_at_call 184; (with_reducible refine (leads1_calls x y hx hy d b s _ (cell_gr hd ?_) (h.gr ?_)).mono ?_); ((focus ((repeat (first | exact Gr.refl _ | assumption | apply Gr.alloc | apply Gr.drew | apply Gr.drewN | refine Gr.trans ?_ (by assumption))); done))); ((focus ((repeat (first | exact Gr.refl _ | assumption | apply Gr.alloc | apply Gr.drew | apply Gr.drewN | refine Gr.trans ?_ (by assumption))); done))); rintro _ _ ⟨rfl, rfl⟩) | (go_at_call 184; (with_reducible refine (leads1_calls y x hy hx d b s _ (cell_gr hd ?_) (h.gr ?_)).mono ?_); ((focus ((repeat (first | exact Gr.refl _ | assumption | apply Gr.alloc | apply Gr.drew | apply Gr.drewN | refine Gr.trans ?_ (by assumption))); done))); ((focus ((repeat (first | exact Gr.refl _ | assumption | apply Gr.alloc | apply Gr.drew | apply Gr.drewN | refine Gr.trans ?_ (by assumption))); done))); rintro _ _ ⟨rfl, rfl⟩))
  go_wp2_with fail
  go_ret
  exact ⟨rfl, by (repeat (first | exact Gr.refl _ | assumption | apply Gr.alloc | apply Gr.drew | apply Gr.drewN | refine Gr.trans ?_ (by assumption)))⟩

set_option maxHeartbeats 400000 in
set_option maxRecDepth 100000 in
theorem order2_calls (u v : Value) (x y : List Int) (c d b : Nat) (s : List (Int × Int)) (w : World) (hu : Ints w u x) (hv : Ints w v y) (hnx : x ≠ []) (hny : y ≠ []) (hc : w.cell? ⟨c, 0, none⟩ = some (leadV d)) (hd : w.cell? ⟨d, 0, none⟩ = some (.map (some b))) (h : OneAt w b s) :
    Calls Tryz.prog 159 #[u, v, .pointer (some ⟨c, 0, none⟩)] w fun e w' => e = .returned (.int .i64 (cmpG s x y)) ∧ ∃ q os', w' = grow (w.drewN q) os' := by
  obtain ⟨ua, uc, rfl, _, _⟩ := hu.len
  obtain ⟨va, vc, rfl, _, _⟩ := hv.len
  have hx : I64 (nth x 0) := hu.range 0
  have hy : I64 (nth y 0) := hv.range 0
  have hlx := List.length_pos_iff.2 hnx
  have hly := List.length_pos_iff.2 hny
  obtain ⟨ub, uo, rfl, c0⟩ := hu.cell hlx
  obtain ⟨vb, vo, rfl, c1⟩ := hv.cell hly
  have hzx : (0 : Int) < (x.length : Int) := by omega
  have hzy : (0 : Int) < (y.length : Int) := by omega
  rw [show uo + 0 = uo by omega] at c0
  rw [show vo + 0 = vo by omega] at c1
  unfold leadV at hc
  clear hu hv
  cases e1 : hasP s (nth x 0) (nth y 0)
  · have HR : Hid (cmpG s x y = 1) := Lib.hid (by unfold cmpG; rw [e1]; rfl)
    go_enter Tryz.func159, Tryz.ntmps159
    go_wp2_with fail
    go_region_held3 (fun w' => w'.cell? ⟨c, 0, none⟩ = some (.func (.func 184) #[] #[.pointer (some ⟨d, 0, none⟩)]) ∧ w'.cell? ⟨ub, uo, none⟩ = some (.int .i64 (nth x 0)) ∧ w'.cell? ⟨vb, vo, none⟩ = some (.int .i64 (nth y 0))) (first | go_keep | exact ⟨cell_gr hc (by (repeat (first | exact Gr.refl _ | assumption | apply Gr.alloc | apply Gr.drew | apply Gr.drewN | refine Gr.trans ?_ (by assumption)))), cell_gr c0 (by (repeat (first | exact Gr.refl _ | assumption | apply Gr.alloc | apply Gr.drew | apply Gr.drewN | refine Gr.trans ?_ (by assumption)))), cell_gr c1 (by (repeat (first | exact Gr.refl _ | assumption | apply Gr.alloc | apply Gr.drew | apply Gr.drewN | refine Gr.trans ?_ (by assumption))))⟩) (first | (go_at_call 184; (with_reducible refine (leads1_calls (nth x 0) (nth y 0) hx hy d b s _ (cell_gr hd ?_) (h.gr ?_)).mono ?_); ((focus ((repeat (first | exact Gr.refl _ | assumption | apply Gr.alloc | apply Gr.drew | apply Gr.drewN | refine Gr.trans ?_ (by assumption))); done))); ((focus ((repeat (first | exact Gr.refl _ | assumption | apply Gr.alloc | apply Gr.drew | apply Gr.drewN | refine Gr.trans ?_ (by assumption))); done))); rw [e1]; rintro _ _ ⟨rfl, rfl⟩))
    all_goals (go_wp2_with fail; go_ret)
    all_goals exact ⟨ret_i64 HR.out.symm, 1, #[], by rw [grow_empty]; rfl⟩
  · have HR : Hid (cmpG s x y = -1) := Lib.hid (by unfold cmpG; rw [e1]; rfl)
    go_enter Tryz.func159, Tryz.ntmps159
    go_wp2_with fail
    go_region_held3 (fun w' => w'.cell? ⟨c, 0, none⟩ = some (.func (.func 184) #[] #[.pointer (some ⟨d, 0, none⟩)]) ∧ w'.cell? ⟨ub, uo, none⟩ = some (.int .i64 (nth x 0)) ∧ w'.cell? ⟨vb, vo, none⟩ = some (.int .i64 (nth y 0))) (first | go_keep | exact ⟨cell_gr hc (by (repeat (first | exact Gr.refl _ | assumption | apply Gr.alloc | apply Gr.drew | apply Gr.drewN | refine Gr.trans ?_ (by assumption)))), cell_gr c0 (by (repeat (first | exact Gr.refl _ | assumption | apply Gr.alloc | apply Gr.drew | apply Gr.drewN | refine Gr.trans ?_ (by assumption)))), cell_gr c1 (by (repeat (first | exact Gr.refl _ | assumption | apply Gr.alloc | apply Gr.drew | apply Gr.drewN | refine Gr.trans ?_ (by assumption))))⟩) (first | (go_at_call 184; (with_reducible refine (leads1_calls (nth x 0) (nth y 0) hx hy d b s _ (cell_gr hd ?_) (h.gr ?_)).mono ?_); ((focus ((repeat (first | exact Gr.refl _ | assumption | apply Gr.alloc | apply Gr.drew | apply Gr.drewN | refine Gr.trans ?_ (by assumption))); done))); ((focus ((repeat (first | exact Gr.refl _ | assumption | apply Gr.alloc | apply Gr.drew | apply Gr.drewN | refine Gr.trans ?_ (by assumption))); done))); rw [e1]; rintro _ _ ⟨rfl, rfl⟩))
    all_goals (go_wp2_with fail; go_ret)
    all_goals exact ⟨ret_i64 HR.out.symm, 1, #[], by rw [grow_empty]; rfl⟩
end Go.Proofs.YtagdccgbcmnehaaGreat

namespace Go.Proofs.YtagdccgbcmnehaaGreat
open Go.RowKit Go.Tok
set_option linter.unusedVariables false
theorem beh_len {log : List (List Int)} (h : RightT log) : (ofM log).behind.length ≤ 100000 := by
  obtain ⟨l1, l2, l3, l4⟩ := labs_log ((right_iff log).2 h)
  have := pairs_short (onces_log log).2.2.2 l4
  have e : (ofM log).behind.length = (trkLog log).behind.length := (isP_perm _).length_eq
  omega
theorem lab_len {log : List (List Int)} (h : RightT log) : (ofM log).labels.length ≤ 26 := by
  have := measM_le fun t ht => (h.2 t ht).2
  unfold measM at this
  split at this <;> omega
set_option maxHeartbeats 1000000 in
set_option maxRecDepth 100000 in
theorem mineOf_calls (v : Value) (log : List (List Int)) (w : World) (hv : Rd rowK w v log) (hr : RightT log) :
    Calls Tryz.prog 109 #[v] w fun e w' => ∃ v', e = .returned v' ∧ LogV w' v' log (ofM log) ∧ Gr w w' := by
  obtain ⟨ta, tc, rfl, _, _⟩ := hv.len
  have b0 : Blk (w.alloc (.cells #[.slice none 0 0, .slice none 0 0, .slice none 0 0, .slice none 0 0, .slice none 0 0] 204)) w.heap.size 204 #[.slice none 0 0, .slice none 0 0, .slice none 0 0, .slice none 0 0, .slice none 0 0] := Blk.new rfl
  have G0 : Gr w (w.alloc (.cells #[.slice none 0 0, .slice none 0 0, .slice none 0 0, .slice none 0 0, .slice none 0 0] 204)) := (Gr.refl _).alloc _
  have hO := Of_calls _ log _ (hv.gr G0)
  rw [ofM_is ((right_iff log).2 hr)] at hO
  have HO := Lib.hid hO
  clear hO
  go_enter Tryz.func109, Tryz.ntmps109
  go_wp2_with fail
  refine HO.out.mono ?_
  rintro _ w2 hret
  unfold RetPr at hret
  obtain ⟨v1, v2, v3, v4, rfl, o1, o2, o3, o4, g2⟩ := hret
  obtain ⟨a1, c1, rfl⟩ := o1.len_eq
  obtain ⟨a2, c2, rfl⟩ := o2.len_eq
  obtain ⟨a3, c3, rfl⟩ := o3.len_eq
  obtain ⟨a4, c4, rfl, _, _⟩ := o4.len
  have k0 := b0.gr g2
  have hlt := k0.lt
  have GW := G0.trans g2
  clear HO b0
  obtain ⟨p, hp⟩ : ∃ p, p = ofM log := ⟨_, rfl⟩
  have HP := Lib.hid hp
  rw [← hp] at o1 o2 o3 o4 ⊢
  generalize hl1 : p.labels.length = n1 at *
  generalize hl2 : p.first.length = n2 at *
  generalize hl3 : p.last.length = n3 at *
  generalize hl4 : p.behind.length = n4 at *
  generalize hl0 : log.length = n0 at *
  have HL := Lib.hid (And.intro hl0 (And.intro hl1 (And.intro hl2 (And.intro hl3 hl4))))
  clear hl0 hl1 hl2 hl3 hl4 hp
  have kB : Blk (w2.alloc (.cells #[.slice a1 n1 c1, .slice a2 n2 c2, .slice a3 n3 c3, .slice a4 n4 c4] 60)) w.heap.size 204 #[.slice none 0 0, .slice none 0 0, .slice none 0 0, .slice none 0 0, .slice none 0 0] := k0.gr ((Gr.refl _).alloc _)
  have D0 := kB.cell (i := 0) rfl
  have F0 := kB.frozen 0
  have bq1 := kB.set 0 (.slice ta n0 tc)
  have D1 := bq1.cell (i := 1) rfl
  have F1 := bq1.frozen 1
  have bq2 := bq1.set 1 (.slice a1 n1 c1)
  have D2 := bq2.cell (i := 2) rfl
  have F2 := bq2.frozen 2
  have bq3 := bq2.set 2 (.slice a2 n2 c2)
  have D3 := bq3.cell (i := 3) rfl
  have F3 := bq3.frozen 3
  have bq4 := bq3.set 3 (.slice a3 n3 c3)
  have D4 := bq4.cell (i := 4) rfl
  have F4 := bq4.frozen 4
  have bq5 := bq4.set 4 (.slice a4 n4 c4)
  have E0 := bq5.cell (i := 0) rfl
  have E1 := bq5.cell (i := 1) rfl
  have E2 := bq5.cell (i := 2) rfl
  have E3 := bq5.cell (i := 3) rfl
  have E4 := bq5.cell (i := 4) rfl
  have GB : Gr w2 (w2.alloc (.cells #[.slice a1 n1 c1, .slice a2 n2 c2, .slice a3 n3 c3, .slice a4 n4 c4] 60)) := (Gr.refl w2).alloc _
  have GX := (((((GW.trans GB).setCell (p := ⟨w.heap.size, 0, none⟩) (Nat.le_refl _) (.slice ta n0 tc)).setCell (p := ⟨w.heap.size, 1, none⟩) (Nat.le_refl _) (.slice a1 n1 c1)).setCell (p := ⟨w.heap.size, 2, none⟩) (Nat.le_refl _) (.slice a2 n2 c2)).setCell (p := ⟨w.heap.size, 3, none⟩) (Nat.le_refl _) (.slice a3 n3 c3)).setCell (p := ⟨w.heap.size, 4, none⟩) (Nat.le_refl _) (.slice a4 n4 c4)
  have GF := Lib.hid GX
  have HVE := Lib.hid (hv.gr GX)
  have hlt0 : w.heap.size < (w.alloc (.cells #[.slice none 0 0, .slice none 0 0, .slice none 0 0, .slice none 0 0, .slice none 0 0] 204)).heap.size := by simp
  have J1 := Lib.hid (((((((o1.gr GB).aside hlt0 (i := 0) (.slice ta n0 tc)).aside hlt0 (i := 1) (.slice a1 n1 c1)).aside hlt0 (i := 2) (.slice a2 n2 c2)).aside hlt0 (i := 3) (.slice a3 n3 c3)).aside hlt0 (i := 4) (.slice a4 n4 c4))).ints
  have J2 := Lib.hid (((((((o2.gr GB).aside hlt0 (i := 0) (.slice ta n0 tc)).aside hlt0 (i := 1) (.slice a1 n1 c1)).aside hlt0 (i := 2) (.slice a2 n2 c2)).aside hlt0 (i := 3) (.slice a3 n3 c3)).aside hlt0 (i := 4) (.slice a4 n4 c4))).ints
  have J3 := Lib.hid (((((((o3.gr GB).aside hlt0 (i := 0) (.slice ta n0 tc)).aside hlt0 (i := 1) (.slice a1 n1 c1)).aside hlt0 (i := 2) (.slice a2 n2 c2)).aside hlt0 (i := 3) (.slice a3 n3 c3)).aside hlt0 (i := 4) (.slice a4 n4 c4))).ints
  have J4 := Lib.hid (((((((o4.gr GB).aside hlt0 (i := 0) (.slice ta n0 tc)).aside hlt0 (i := 1) (.slice a1 n1 c1)).aside hlt0 (i := 2) (.slice a2 n2 c2)).aside hlt0 (i := 3) (.slice a3 n3 c3)).aside hlt0 (i := 4) (.slice a4 n4 c4))).rd
  clear hlt0 o1 o2 o3 o4
  clear kB k0 hlt bq1 bq2 bq3 bq4 bq5 GB GW G0 g2 hv GX
  go_wp2_with fail
  refine bodyPost_ret (v := .agg #[.slice ta n0 tc, .slice a1 n1 c1, .slice a2 n2 c2, .slice a3 n3 c3, .slice a4 n4 c4]) (by simp [results, Tryz.results109, go_sem, E0, E1, E2, E3, E4]) rfl ?_
  obtain ⟨e0, e1, e2, e3, e4⟩ := HL.out
  have ep := HP.out
  subst ep
  subst e0 e1 e2 e3 e4
  exact ⟨_, rfl, ⟨_, _, _, _, _, _, _, _, _, _, rfl, HVE.out, J1.out, J2.out, J3.out, J4.out⟩, GF.out⟩
end Go.Proofs.YtagdccgbcmnehaaGreat

namespace Go.Proofs.YtagdccgbcmnehaaGreat
open Go.RowKit Go.Tok
set_option linter.unusedVariables false
set_option maxHeartbeats 1000000 in
set_option maxRecDepth 100000 in
theorem choose1_calls (u : Value) (t : List Int) (gv : Value) (g : List Int) (c : Nat) (w : World) (hu : Ints w u t) (hne : t ≠ []) (hc : w.cell? ⟨c, 0, none⟩ = some gv) (hg : Ints w gv g) :
    Calls Tryz.prog 154 #[u, .pointer (some ⟨c, 0, none⟩)] w fun e w' => e = .returned (.bool (!hasB g (nth t 0))) ∧ Gr w w' := by
  obtain ⟨ua, uc, rfl, _, _⟩ := hu.len
  obtain ⟨ga, gc, rfl, _, _⟩ := hg.len
  have hlen := List.length_pos_iff.2 hne
  obtain ⟨b, o, rfl, c0⟩ := hu.cell hlen
  have hz : (0 : Int) < (t.length : Int) := by omega
  rw [show o + 0 = o by omega] at c0
  clear hu
  go_enter Tryz.func154, Tryz.ntmps154
  go_wp2_with fail
  go_quiet ((go_at_call 155; exact Calls.quiet_of_same (same_quiet (Contains_calls _ g (nth t 0) _ (hg.gr ((Gr.refl _).drewN _))))))
  go_wp2_with fail
  go_ret
  exact ⟨rfl, by (repeat (first | exact Gr.refl _ | assumption | apply Gr.alloc | apply Gr.drew | apply Gr.drewN | refine Gr.trans ?_ (by assumption)))⟩
/-- the box b has a log that is looked at -/
structure LogB (w : World) (b : Nat) (log : List (List Int)) (p : PrintD) : Prop where
  ex : ∃ cs, Blk w b 204 cs ∧ LogV w (.agg cs) log p
theorem LogB.gr {w w' : World} {b : Nat} {log : List (List Int)} {p : PrintD} (h : LogB w b log p) (g : Gr w w') : LogB w' b log p := by
  obtain ⟨cs, h1, h2⟩ := h.ex
  exact ⟨cs, h1.gr g, h2.gr g⟩
set_option maxHeartbeats 1000000 in
set_option maxRecDepth 100000 in
theorem beside1_calls (x y : Int) (hx : I64 x) (hy : I64 y) (b : Nat) (log : List (List Int)) (p : PrintD) (w : World) (h : LogB w b log p) :
    Calls Tryz.prog 161 #[.int .i64 x, .int .i64 y, .pointer (some ⟨b, 0, none⟩)] w fun e w' => e = .returned (.bool (!hasP p.behind x y || !hasP p.behind y x)) ∧ Gr w w' := by
  obtain ⟨cs, hb, hv⟩ := h.ex
  have HV := Lib.hid hv
  obtain ⟨ta, la, fa, za, ba, tc, lc, fc, zc, bc, e, hT, hL, hFi, hZ, hB⟩ := hv.ex
  cases e
  have c0 := hb.cell (i := 0) rfl
  have c1 := hb.cell (i := 1) rfl
  have c2 := hb.cell (i := 2) rfl
  have c3 := hb.cell (i := 3) rfl
  have c4 := hb.cell (i := 4) rfl
  clear hv hT hL hFi hZ hB h
  have H1 := Lib.hid (behind_calls _ log p x y w HV.out)
  cases e1 : hasP p.behind x y
  · rw [e1] at H1
    go_enter Tryz.func161, Tryz.ntmps161
    go_wp2_with fail
    refine H1.out.mono ?_
    rintro _ w2 ⟨rfl, g2⟩
    go_wp2_with fail
    go_ret
    exact ⟨rfl, g2⟩
  · rw [e1] at H1
    go_enter Tryz.func161, Tryz.ntmps161
    go_wp2_with fail
    refine H1.out.mono ?_
    rintro _ w2 ⟨rfl, g2⟩
    have k2 := hb.gr g2
    clear c0 c1 c2 c3 c4 hb
    have c0 := k2.cell (i := 0) rfl
    have c1 := k2.cell (i := 1) rfl
    have c2 := k2.cell (i := 2) rfl
    have c3 := k2.cell (i := 3) rfl
    have c4 := k2.cell (i := 4) rfl
    go_wp2_with fail
    refine (behind_calls _ log p y x w2 (HV.out.gr g2)).mono ?_
    rintro _ w3 ⟨rfl, g3⟩
    go_wp2_with fail
    go_ret
    exact ⟨rfl, g2.trans g3⟩
set_option maxHeartbeats 1000000 in
theorem beside21_calls (x : Int) (c : Nat) (sv : Value) (some_ : List Int) (w : World) (hc : w.cell? ⟨c, 0, none⟩ = some sv) (hs : Ints w sv some_) :
    Calls Tryz.prog 163 #[.int .i64 x, .pointer (some ⟨c, 0, none⟩)] w fun e w' => e = .returned (.bool (hasB some_ x)) ∧ Gr w w' := by
  obtain ⟨sa, sc, rfl, _, _⟩ := hs.len
  have HC := Lib.hid (Contains_calls _ some_ x w hs)
  clear hs
  go_enter Tryz.func163, Tryz.ntmps163
  go_wp2_with fail
  refine HC.out.mono ?_
  rintro _ w2 ⟨rfl, rfl⟩
  go_wp2_with fail
  go_ret
  exact ⟨rfl, by (repeat (first | exact Gr.refl _ | assumption | apply Gr.alloc | apply Gr.drew | apply Gr.drewN | refine Gr.trans ?_ (by assumption)))⟩
set_option maxHeartbeats 1000000 in
theorem beside2_calls (gv : Value) (g : List Int) (sv : Value) (some_ : List Int) (w : World) (hg : Ints w gv g) (hs : Ints w sv some_) :
    Calls Tryz.prog 162 #[gv, sv] w fun e w' => e = .returned (.bool (meetsB g some_)) ∧ Gr w w' := by
  obtain ⟨ga, gc, rfl, _, _⟩ := hg.len
  obtain ⟨sa, sc, rfl, _, _⟩ := hs.len
  have b0 : Blk (w.alloc (.cells #[.slice sa some_.length sc] 24)) w.heap.size 24 #[.slice sa some_.length sc] := Blk.new rfl
  have G0 : Gr w (w.alloc (.cells #[.slice sa some_.length sc] 24)) := (Gr.refl _).alloc _
  have c0 := b0.cell (i := 0) (v := .slice sa some_.length sc) rfl
  have HC := Lib.hid (ContainsFuncI_calls _ g 163 #[.pointer (some ⟨w.heap.size, 0, none⟩)] (hasB some_) _ (fun args w => by kernel_rfl) (hg.gr G0) (fun W x _ k _ => beside21_calls x _ _ some_ W (cell_gr c0 k) ((hs.gr G0).gr k)))
  clear hg hs b0 c0
  go_enter Tryz.func162, Tryz.ntmps162
  go_wp2_with fail
  refine HC.out.mono ?_
  rintro _ w2 ⟨rfl, g2⟩
  go_wp2_with fail
  go_ret
  exact ⟨rfl, G0.trans g2⟩
set_option maxHeartbeats 1000000 in
set_option maxRecDepth 100000 in
theorem beside3_calls (gv : Value) (g : List Int) (c b : Nat) (log : List (List Int)) (p : PrintD) (w : World) (hg : Ints w gv g) (hc : w.cell? ⟨c, 0, none⟩ = some (.func (.func 162) #[] #[])) (h : LogB w b log p) :
    Calls Tryz.prog 164 #[gv, .pointer (some ⟨c, 0, none⟩), .pointer (some ⟨b, 0, none⟩)] w fun e w' => e = .returned (.bool (apartB p g)) ∧ Gr w w' := by
  obtain ⟨cs, hb, hv⟩ := h.ex
  have HG := Lib.hid hg
  obtain ⟨ga, gc, rfl, _, _⟩ := hg.len
  obtain ⟨ta, la, fa, za, ba, tc, lc, fc, zc, bc, e, hT, hL, hFi, hZ, hB⟩ := hv.ex
  cases e
  have c0 := hb.cell (i := 0) rfl
  have c1 := hb.cell (i := 1) rfl
  have c2 := hb.cell (i := 2) rfl
  have c3 := hb.cell (i := 3) rfl
  have c4 := hb.cell (i := 4) rfl
  have HZ := Lib.hid hZ
  have H1 := Lib.hid (beside2_calls _ g _ p.first w hg hFi)
  clear hv hT hL hFi hZ hB h hg
  cases e1 : meetsB g p.first
  · rw [e1] at H1
    have HR : Hid (apartB p g = true) := Lib.hid (by unfold apartB; rw [e1]; rfl)
    clear e1
    go_enter Tryz.func164, Tryz.ntmps164
    go_wp2_with fail
    refine H1.out.mono ?_
    rintro _ w2 ⟨rfl, g2⟩
    go_wp2_with fail
    go_ret
    exact ⟨ret_bool HR.out.symm, g2⟩
  · rw [e1] at H1
    have HR : Hid (apartB p g = !meetsB g p.last) := Lib.hid (by unfold apartB; rw [e1]; rfl)
    clear e1
    go_enter Tryz.func164, Tryz.ntmps164
    go_wp2_with fail
    refine H1.out.mono ?_
    rintro _ w2 ⟨rfl, g2⟩
    have k2 := hb.gr g2
    have hc2 := cell_gr hc g2
    clear c0 c1 c2 c3 c4 hb hc
    have c0 := k2.cell (i := 0) rfl
    have c1 := k2.cell (i := 1) rfl
    have c2 := k2.cell (i := 2) rfl
    have c3 := k2.cell (i := 3) rfl
    have c4 := k2.cell (i := 4) rfl
    go_wp2_with fail
    refine (beside2_calls _ g _ p.last w2 (HG.out.gr g2) (HZ.out.gr g2)).mono ?_
    rintro _ w3 ⟨rfl, g3⟩
    go_wp2_with fail
    go_ret
    exact ⟨ret_bool HR.out.symm, g2.trans g3⟩
end Go.Proofs.YtagdccgbcmnehaaGreat

namespace Go.Proofs.YtagdccgbcmnehaaGreat
open Go.RowKit Go.Tok
set_option linter.unusedVariables false
theorem blkTyW : KTy Tryz.prog 53 55 blkW 40 (.agg #[.int .i64 0, .int .i64 0, .slice none 0 0]) := ⟨Tryz.underlying53, by kernel_rfl, rfl, by decide⟩
/-- v is the block b, and hangs on no memory below base -/
def BlkF (base : Nat) (w : World) (v : Value) (b : BlockD) : Prop := On (fun x => base ≤ x) (fun W => BlkW W v b) w
/-- what find hands back, with n steps to go -/
def FindOk (n : Nat) : Prop := ∀ (v : Value) (log : List (List Int)) (w : World), Rd rowK w v log → RightT log → Fuel n log →
  Calls Tryz.prog 55 #[v] w fun e w' => ∃ v', e = .returned v' ∧ BlkF w.heap.size w' v' (mineF0 n log) ∧ Gr w w'
theorem BlkF.now {base : Nat} {w : World} {v : Value} {b : BlockD} (h : BlkF base w v b) : BlkW w v b := On.now h
theorem BlkF.gr {base : Nat} {w w' : World} {v : Value} {b : BlockD} (h : BlkF base w v b) (g : Gr w w') : BlkF base w' v b := On.gr h g
theorem BlkF.low {base m : Nat} {w : World} {v : Value} {b : BlockD} (h : BlkF base w v b) (hm : m ≤ base) : BlkF m w v b := On.mono h fun x _ hx => Nat.le_trans hm hx
theorem BlkF.kp {base : Nat} {w w' : World} {v : Value} {b : BlockD} (h : BlkF base w v b) (k : Kp (fun x => base ≤ x) w w') : BlkF base w' v b := On.kp h k
theorem BlkF.form {base : Nat} {w : World} {v : Value} {b : BlockD} (h : BlkF base w v b) : I64 b.kind ∧ I64 b.label ∧ ∃ a cap, v = .agg #[.int .i64 b.kind, .int .i64 b.label, .slice a b.kids.length cap] := by
  obtain ⟨h1, h2, a, cap, h3, _⟩ := h.now.open_
  exact ⟨h1, h2, a, cap, h3⟩
theorem BlkF.cells {base : Nat} {w : World} {a : Option Addr} {cap : Nat} {b : BlockD} (h : BlkF base w (.agg #[.int .i64 b.kind, .int .i64 b.label, .slice a b.kids.length cap]) b) : On (fun x => base ≤ x) (fun W => blkW.R W [.int .i64 b.kind, .int .i64 b.label, .slice a b.kids.length cap] b) w := On.imp h fun W h => blkW_cells h
theorem BlkF.flat {base : Nat} {w : World} {k l : Int} (hk : I64 k) (hl : I64 l) : BlkF base w (.agg #[.int .i64 k, .int .i64 l, .slice none 0 0]) (.mk k l []) := on_intro fun W _ => BlkW.mk_ (b := .mk k l []) hk hl (Rd.nil W)
/-- a block around a row of kids of the call's own -/
theorem BlkF.of {m base : Nat} {S : Nat → Prop} {w : World} {v : Value} {ks : List BlockD} {k : Int} (h : OwnR blkW 55 base S w v ks) (hk : I64 k) (hS : ∀ x, S x → m ≤ x) (hb : m ≤ base) : BlkF m w (.agg #[.int .i64 k, .int .i64 0, v]) (manyD k ks) := by
  have := OwnR.on (S' := fun x => m ≤ x) h (fun x _ hx => hS x hx) (fun x hx => Nat.le_trans hb (h.lt hx).1)
  exact this.imp fun W hW => BlkW.mk_ (b := .mk k 0 ks) hk (show I64 0 by decide) hW
attribute [irreducible] BlkF
set_option maxHeartbeats 4000000 in
set_option maxRecDepth 100000 in
theorem parts_calls (n : Nat) (hF : FindOk n) (v : Value) (log : List (List Int)) (p : PrintD) (k : Int) (gv : Value) (gs : List (List Int)) (w : World) (hk : I64 k) (hv : LogV w v log p) (hg : Rd rowK w gv gs) (hr : RightT log) (hfu : ∀ g ∈ gs, Fuel n (ontoT log g)) (hl : gs.length ≤ 1000) :
    Calls Tryz.prog 160 #[v, .int .i64 k, gv] w fun e w' => ∃ v', e = .returned v' ∧ BlkF w.heap.size w' v' (manyD k ((gs.map (ontoT log)).map (mineF0 n))) ∧ Gr w w' := by
  obtain ⟨ta, la, fa, za, ba, tc, lc, fc, zc, bc, rfl, hT, hL, hFi, hZ, hB⟩ := hv.ex
  obtain ⟨ga, gc, rfl, hg1, hg2⟩ := hg.len
  have T := blkTyW
  have b0 : Blk ((w.alloc (.cells #[.slice ta log.length tc, .slice la p.labels.length lc, .slice fa p.first.length fc, .slice za p.last.length zc, .slice ba p.behind.length bc] 204)).alloc (.cells #[.int .i64 0, .int .i64 0, .slice none 0 0] 55)) w.heap.size 204 #[.slice ta log.length tc, .slice la p.labels.length lc, .slice fa p.first.length fc, .slice za p.last.length zc, .slice ba p.behind.length bc] := (Blk.new rfl).gr ((Gr.refl _).alloc _)
  have r0 : Blk ((w.alloc (.cells #[.slice ta log.length tc, .slice la p.labels.length lc, .slice fa p.first.length fc, .slice za p.last.length zc, .slice ba p.behind.length bc] 204)).alloc (.cells #[.int .i64 0, .int .i64 0, .slice none 0 0] 55)) (w.heap.size + 1) 55 #[.int .i64 0, .int .i64 0, .slice none 0 0] := Blk.new (by simp)
  have G0 : Gr w ((w.alloc (.cells #[.slice ta log.length tc, .slice la p.labels.length lc, .slice fa p.first.length fc, .slice za p.last.length zc, .slice ba p.behind.length bc] 204)).alloc (.cells #[.int .i64 0, .int .i64 0, .slice none 0 0] 55)) := ((Gr.refl _).alloc _).alloc _
  have hsz0 : ((w.alloc (.cells #[.slice ta log.length tc, .slice la p.labels.length lc, .slice fa p.first.length fc, .slice za p.last.length zc, .slice ba p.behind.length bc] 204)).alloc (.cells #[.int .i64 0, .int .i64 0, .slice none 0 0] 55)).heap.size = w.heap.size + 2 := by simp
  have HSZ := Lib.hid hsz0
  have HT := Lib.hid hT
  have HG := Lib.hid hg
  have HFU := Lib.hid hfu
  clear hT hg hfu hv hL hFi hZ hB hsz0
  go_enter Tryz.func160, Tryz.ntmps160
  go_wp2_with fail
  go_loopw [7, 12] (fun out iv wr => ∃ i : Nat, iv = .int .i64 i ∧ i ≤ gs.length ∧ Gr w wr ∧ w.heap.size + 2 ≤ wr.heap.size ∧ Blk wr w.heap.size 204 #[.slice ta log.length tc, .slice la p.labels.length lc, .slice fa p.first.length fc, .slice za p.last.length zc, .slice ba p.behind.length bc] ∧ Blk wr (w.heap.size + 1) 55 #[.int .i64 0, .int .i64 0, .slice none 0 0] ∧ OwnR blkW 55 (w.heap.size + 2) (fun b => w.heap.size + 2 ≤ b) wr out (((gs.take i).map (ontoT log)).map (mineF0 n))) (fun out iv _ => gs.length - (intOf iv).toNat)
  case atStart => exact ⟨0, rfl, Nat.zero_le _, G0, Nat.le_of_eq HSZ.out.symm, b0, r0, OwnR.nil _ _ _ _⟩
  case round =>
    rename World => wr
    obtain ⟨i, rfl, hi, hgr, hle, hb, hrb, hO⟩ := hrel
    clear b0 r0 G0
    have hol : (((gs.take i).map (ontoT log)).map (mineF0 n)).length = i := by simp; omega
    obtain ⟨oa, oc, rfl, ho1, ho2⟩ := hO.len
    rw [hol] at hO ho1 ⊢
    have HOL := Lib.hid hol
    generalize hdn : ((gs.take i).map (ontoT log)).map (mineF0 n) = done at *
    have HDN := Lib.hid hdn
    clear hdn hol
    by_cases hlt : i < gs.length
    · obtain ⟨gb, go, gu, rfl, c0, hI⟩ := (HG.out.gr hgr).row hlt
      obtain ⟨gua, guc, rfl, _, _⟩ := hI.len
      obtain ⟨g, hgd⟩ : ∃ g, g = ix gs i := ⟨_, rfl⟩
      rw [← hgd] at c0 hI
      have HFN := Lib.hid (HFU.out g (by rw [hgd]; exact ix_mem hlt))
      have HNX : Hid (((gs.take (i + 1)).map (ontoT log)).map (mineF0 n) = done ++ [mineF0 n (ontoT log g)]) := Lib.hid (by rw [take_ix hlt, List.map_append, List.map_append, HDN.out, hgd]; rfl)
      have hiz : (i : Int) < (gs.length : Int) := by omega
      have hi0 : (0 : Int) ≤ (i : Int) := by omega
      have l0 := hb.cell (i := 0) (v := .slice ta log.length tc) rfl
      have HLL := Lib.hid (show log.length ≤ 5864062014805 ∧ ∀ t ∈ log, t.length ≤ 17592186044415 from ⟨by have := hr.1; omega, fun t ht => by have := (hr.2 t ht).1; omega⟩)
      have hOn := Onto_calls _ _ log g wr (HT.out.gr hgr) hI HLL.out.1 HLL.out.2
      have HON := Lib.hid hOn
      clear hOn hgd hI
      go_wp2_with fail
      refine HON.out.mono ?_
      rintro _ w2 ⟨v2, rfl, o2, g2⟩
      obtain ⟨a2, c2, rfl, _, _⟩ := o2.len
      have R2 := o2.rd
      clear HON o2
      go_wp2_with fail
      refine (hF _ (ontoT log g) w2 R2 (hr.onto g) HFN.out).mono ?_
      rintro _ w3 ⟨v3, rfl, f3, g3⟩
      obtain ⟨k1, k2, a3, c3, rfl⟩ := f3.form
      obtain ⟨bf, hbf⟩ : ∃ b, b = mineF0 n (ontoT log g) := ⟨_, rfl⟩
      rw [← hbf] at f3 k1 k2 HNX ⊢
      clear hbf R2 HFN
      have hlt2 := g2.le
      have hlt3 := g3.le
      have hO3 := hO.gr (g2.trans g3)
      have hrow := fun x (hx : (Value.slice oa i oc).ownBlock = some x) => hO.lt hx
      have hon0 := f3.cells
      have hon : On (fun x => w.heap.size + 2 ≤ x ∧ (Value.slice oa i oc).ownBlock ≠ some x) (fun W => blkW.R W [.int .i64 bf.kind, .int .i64 bf.label, .slice a3 bf.kids.length c3] bf) (w3.alloc (.cells #[.int .i64 bf.kind, .int .i64 bf.label, .slice a3 bf.kids.length c3] 55)) :=
        (hon0.gr ((Gr.refl _).alloc _)).mono fun x _ hx => ⟨by omega, fun e => by have := (hrow x e).2; omega⟩
      have bx : Blk (w3.alloc (.cells #[.int .i64 bf.kind, .int .i64 bf.label, .slice a3 bf.kids.length c3] 55)) w3.heap.size 55 #[.int .i64 bf.kind, .int .i64 bf.label, .slice a3 bf.kids.length c3] := Blk.new rfl
      have hcl : ∀ (j : Nat) u, [Value.int .i64 bf.kind, .int .i64 bf.label, .slice a3 bf.kids.length c3][j]? = some u → (w3.alloc (.cells #[.int .i64 bf.kind, .int .i64 bf.label, .slice a3 bf.kids.length c3] 55)).cell? ((⟨w3.heap.size, 0, none⟩ : Addr).add j) = some u := fun j u hj => by
        have := bx.cell (i := j) (v := u) (by simpa using hj)
        rw [show (⟨w3.heap.size, 0, none⟩ : Addr).add j = ⟨w3.heap.size, j, none⟩ by unfold Addr.add; split <;> simp_all]
        exact this
      have HCL := Lib.hid hcl
      have hbb := hb.gr ((g2.trans g3).alloc (.cells #[.int .i64 bf.kind, .int .i64 bf.label, .slice a3 bf.kids.length c3] 55))
      have hrb2 := hrb.gr ((g2.trans g3).alloc (.cells #[.int .i64 bf.kind, .int .i64 bf.label, .slice a3 bf.kids.length c3] 55))
      have hgr2 := (hgr.trans (g2.trans g3)).alloc (.cells #[.int .i64 bf.kind, .int .i64 bf.label, .slice a3 bf.kids.length c3] 55)
      have hO4 := hO3.alloc (.cells #[.int .i64 bf.kind, .int .i64 bf.label, .slice a3 bf.kids.length c3] 55)
      have HB3 := Lib.hid (And.intro hbb (And.intro hrb2 hgr2))
      have hn1 : (done.length + 1) * 40 ≤ 140737488355328 := by rw [HOL.out]; omega
      have hn2 : done.length + 1 ≤ maxLen := by rw [HOL.out]; unfold maxLen; omega
      have hbs : w.heap.size + 2 ≤ (w3.alloc (.cells #[.int .i64 bf.kind, .int .i64 bf.label, .slice a3 bf.kids.length c3] 55)).heap.size := by simp; omega
      have HLE := Lib.hid (show w.heap.size + 2 ≤ w3.heap.size by omega)
      clear hcl f3 hon0 hrow hO hO3 hb hrb l0 c0 hlt2 hlt3 bx hbb hrb2 hgr2
      go_wp2_with (at_builtin; go_loud (refine app_one T _ _ (w.heap.size + 2) (fun x => w.heap.size + 2 ≤ x) (.slice oa i oc) done ⟨w3.heap.size, 0, none⟩ bf [.int .i64 bf.kind, .int .i64 bf.label, .slice a3 bf.kids.length c3] (by rfl) (by rfl) (by rfl) (by rfl) hO4 HCL.out hon hn1 hn2 hbs ?_; intro v6 w6 ho6 hgs6 hgb6 hat6))
      go_roundw
      case rel => exact ⟨i + 1, by go_num, by omega, hgs6 w (by omega) HB3.out.2.2, Nat.le_trans hbs hgb6.size, HB3.out.1.grown hgb6 (fun e => by have := (hO4.lt e.symm).1; omega), HB3.out.2.1.grown hgb6 (fun e => by have := (hO4.lt e.symm).1; omega), by rw [HNX.out]; exact ho6⟩
      case measure => simp [intOf]; omega
    · obtain rfl : i = gs.length := by omega
      rw [List.take_length] at HDN
      have hnz : ¬ (gs.length : Int) < (gs.length : Int) := by omega
      go_wp2_with fail
      refine (mineBlock_calls k oa gs.length oc wr).mono ?_
      rintro _ w2 ⟨rfl, g2⟩
      have hr2 := hrb.gr g2
      have hO2 := hO.gr g2
      have hG2 := hgr.trans g2
      have D0 := hr2.cell (i := 0) rfl
      have bq0 := hr2.set 0 (.int .i64 k)
      have bq1 := bq0.set 1 (.int .i64 0)
      have bq2 := bq1.set 2 (.slice oa gs.length oc)
      have E0 := bq2.cell (i := 0) rfl
      have E1 := bq2.cell (i := 1) rfl
      have E2 := bq2.cell (i := 2) rfl
      have F0 := hr2.frozen 0
      have F1 := hr2.frozen 1
      have F2 := hr2.frozen 2
      have D1 := bq0.cell (i := 1) rfl
      have D2 := bq1.cell (i := 2) rfl
      have FF1 := bq0.frozen 1
      have FF2 := bq1.frozen 2
      have hf := BlkF.of (m := w.heap.size + 2) hO2 hk (fun x hx => hx) (Nat.le_refl _)
      have HF3 := Lib.hid (((hf.kp (set_kp (a := ⟨w.heap.size + 1, 0, none⟩) (fun h => by have h' : w.heap.size + 2 ≤ w.heap.size + 1 := h; omega) (.int .i64 k))).kp (set_kp (a := ⟨w.heap.size + 1, 1, none⟩) (fun h => by have h' : w.heap.size + 2 ≤ w.heap.size + 1 := h; omega) (.int .i64 0))).kp (set_kp (a := ⟨w.heap.size + 1, 2, none⟩) (fun h => by have h' : w.heap.size + 2 ≤ w.heap.size + 1 := h; omega) (.slice oa gs.length oc)))
      have HG3 := Lib.hid (((hG2.setCell (p := ⟨w.heap.size + 1, 0, none⟩) (by simp) (.int .i64 k)).setCell (p := ⟨w.heap.size + 1, 1, none⟩) (by simp) (.int .i64 0)).setCell (p := ⟨w.heap.size + 1, 2, none⟩) (by simp) (.slice oa gs.length oc))
      clear hf hO2 hO hb hrb hr2 hG2 hgr
      go_wp2_with fail
      refine bodyPost_ret (v := .agg #[.int .i64 k, .int .i64 0, .slice oa gs.length oc]) (by simp [results, Tryz.results160, go_sem, E0, E1, E2]) rfl ?_
      rw [HDN.out]
      exact ⟨_, rfl, HF3.out.low (by omega), HG3.out⟩
end Go.Proofs.YtagdccgbcmnehaaGreat

namespace Go.Proofs.YtagdccgbcmnehaaGreat
open Go.RowKit Go.Tok
set_option linter.unusedVariables false
/-- what a cut hands back -/
def RetCut (n : Nat) (k : Int) (o : Option (List (List (List Int)))) (w : World) (e : Ending) (w' : World) : Prop :=
  Gr w w' ∧ ((o = none ∧ e = .returned (.tuple #[.agg #[.int .i64 0, .int .i64 0, .slice none 0 0], .bool false])) ∨ ∃ ls vb, o = some ls ∧ e = .returned (.tuple #[vb, .bool true]) ∧ BlkF w.heap.size w' vb (manyD k (ls.map (mineF0 n))))
theorem filt_yes (g : List Int) (log : List (List Int)) : (log.filter fun t => !(!hasB g (nth t 0))) = log.filter fun t => hasB g (nth t 0) := by simp
/-- choose$1 at each trace of the log -/
theorem asks_choose {log : List (List Int)} {g : List Int} {c q : Nat} {gv : Value} {w : World} (hne : ∀ t ∈ log, t ≠ []) (hc : w.cell? ⟨c, 0, none⟩ = some gv) (hg : Ints w gv g) (hon : On (fun x => x < q) (fun W => Ints W gv g) w) (hcq : c < q) :
    ∀ r, q ≤ r → AsksRow r 154 #[.pointer (some ⟨c, 0, none⟩)] log (fun t => !hasB g (nth t 0)) w := by
  intro r hr W u x hx k hu
  have hk : Kp (fun x => x < q) w W := k.mono fun b _ hb => by show b ≠ r; omega
  exact choose1_calls u x gv g c W hu (hne x hx) (cell_kp hk hc hcq) (hon.kp hk).now
theorem blk_adds {w : World} {g : Nat} {t : TypeId} {cs : Array Value} (b : Blk w g t cs) : ∀ (j : Nat) u, cs.toList[j]? = some u → w.cell? ((⟨g, 0, none⟩ : Addr).add j) = some u := fun j u hj => by
  have := b.cell (i := j) (v := u) (by rw [← Array.getElem?_toList]; exact hj)
  rw [show (⟨g, 0, none⟩ : Addr).add j = ⟨g, j, none⟩ by unfold Addr.add; split <;> simp_all]
  exact this
theorem grp_count {lk : Int → Int → Bool} {ls : List Int} {gs : List (List Int)} (h : Grps lk ls gs) : gs.length ≤ ls.length := by
  rw [← h.perm.length_eq]
  have hne := h.ne
  clear h
  induction gs with
  | nil => simp
  | cons g r ih =>
    have h1 := List.length_pos_iff.2 (hne g (by simp))
    have h2 := ih fun x hx => hne x (by simp [hx])
    rw [List.flatten_cons, List.length_append, List.length_cons]; omega
set_option maxHeartbeats 4000000 in
set_option maxRecDepth 100000 in
theorem choose_calls (n : Nat) (hF : FindOk n) (v : Value) (log : List (List Int)) (w : World) (hv : LogV w v log (ofM log)) (hr : RightT log) (hne : ∀ t ∈ log, t ≠ []) (hfu : ∀ ls, chooseF (ofM log) log = some ls → ∀ l ∈ ls, Fuel n l) :
    Calls Tryz.prog 113 #[v] w (RetCut n 4 (chooseF (ofM log) log) w) := by
  have hll := lab_len hr
  have hcg : (chooseG (ofM log)).length ≤ 26 := by
    have hG : Grps (hasP (ofM log).behind) (ofM log).labels (chooseG (ofM log)) := grps _ _
    have := grp_count hG
    omega
  obtain ⟨p, hp⟩ : ∃ p, p = ofM log := ⟨_, rfl⟩
  rw [← hp] at hv hfu hll hcg ⊢
  clear hp
  have HV := Lib.hid hv
  obtain ⟨ta, la, fa, za, ba, tc, lc, fc, zc, bc, rfl, hT, hL, hFi, hZ, hB⟩ := hv.ex
  have T := blkTyW
  obtain ⟨B, hB5⟩ : ∃ B, B = #[Value.slice ta log.length tc, .slice la p.labels.length lc, .slice fa p.first.length fc, .slice za p.last.length zc, .slice ba p.behind.length bc] := ⟨_, rfl⟩
  have b0 : Blk ((w.alloc (.cells #[.slice ta log.length tc, .slice la p.labels.length lc, .slice fa p.first.length fc, .slice za p.last.length zc, .slice ba p.behind.length bc] 204)).alloc (.cells #[.int .i64 0, .int .i64 0, .slice none 0 0] 55)) w.heap.size 204 #[.slice ta log.length tc, .slice la p.labels.length lc, .slice fa p.first.length fc, .slice za p.last.length zc, .slice ba p.behind.length bc] := (Blk.new rfl).gr ((Gr.refl _).alloc _)
  have r0 : Blk ((w.alloc (.cells #[.slice ta log.length tc, .slice la p.labels.length lc, .slice fa p.first.length fc, .slice za p.last.length zc, .slice ba p.behind.length bc] 204)).alloc (.cells #[.int .i64 0, .int .i64 0, .slice none 0 0] 55)) (w.heap.size + 1) 55 #[.int .i64 0, .int .i64 0, .slice none 0 0] := Blk.new (by simp)
  have G0 : Gr w ((w.alloc (.cells #[.slice ta log.length tc, .slice la p.labels.length lc, .slice fa p.first.length fc, .slice za p.last.length zc, .slice ba p.behind.length bc] 204)).alloc (.cells #[.int .i64 0, .int .i64 0, .slice none 0 0] 55)) := ((Gr.refl _).alloc _).alloc _
  have hsz0 : ((w.alloc (.cells #[.slice ta log.length tc, .slice la p.labels.length lc, .slice fa p.first.length fc, .slice za p.last.length zc, .slice ba p.behind.length bc] 204)).alloc (.cells #[.int .i64 0, .int .i64 0, .slice none 0 0] 55)).heap.size = w.heap.size + 2 := by simp
  have HSZ := Lib.hid hsz0
  have c0 := b0.cell (i := 0) rfl
  have c1 := b0.cell (i := 1) rfl
  have c2 := b0.cell (i := 2) rfl
  have c3 := b0.cell (i := 3) rfl
  have c4 := b0.cell (i := 4) rfl
  have HGC := Lib.hid (groups_calls _ p.labels (hasP p.behind) 153 _ #[] _ (hL.gr G0) (by omega) (fun args w => by kernel_rfl) (asks_behind (HV.out.gr G0)))
  have HT := Lib.hid hT
  have HFU := Lib.hid hfu
  have HNE := Lib.hid hne
  clear hT hfu hv hL hFi hZ hB hsz0 hne
  go_enter Tryz.func113, Tryz.ntmps113
  go_wp2_with fail
  refine HGC.out.mono ?_
  rintro _ w2 ⟨v2, rfl, o2, g2⟩
  obtain ⟨ga, gc, rfl, _, _⟩ := o2.len
  have b2 := b0.gr g2
  have r2 := r0.gr g2
  have G2 := G0.trans g2
  have HG := Lib.hid o2.rd
  have hsz2 : w.heap.size + 2 ≤ w2.heap.size := by have := g2.le; have := HSZ.out; omega
  obtain ⟨gs, hgs⟩ : ∃ gs, gs = chooseG p := ⟨_, rfl⟩
  have e0 : groupsF (hasP p.behind) p.labels.length p.labels = gs := hgs.symm
  rw [← hgs] at hcg
  rw [e0] at HG ⊢
  clear c0 c1 c2 c3 c4 b0 r0 G0 g2 o2 HGC e0 HSZ
  by_cases h2 : gs.length < 2
  · have HR : Hid (chooseF p log = none) := Lib.hid (by unfold chooseF; rw [if_pos (by rw [← hgs]; exact h2)])
    have hz : (gs.length : Int) < 2 := by omega
    have D0 := r2.cell (i := 0) rfl
    have bq0 := r2.set 0 (.int .i64 0)
    have bq1 := bq0.set 1 (.int .i64 0)
    have bq2 := bq1.set 2 (.slice none 0 0)
    have E0 := bq2.cell (i := 0) rfl
    have E1 := bq2.cell (i := 1) rfl
    have E2 := bq2.cell (i := 2) rfl
    have F0 := r2.frozen 0
    have F1 := r2.frozen 1
    have F2 := r2.frozen 2
    have D1 := bq0.cell (i := 1) rfl
    have D2 := bq1.cell (i := 2) rfl
    have FF1 := bq0.frozen 1
    have FF2 := bq1.frozen 2
    have HG3 := Lib.hid (((G2.setCell (p := ⟨w.heap.size + 1, 0, none⟩) (by simp) (.int .i64 0)).setCell (p := ⟨w.heap.size + 1, 1, none⟩) (by simp) (.int .i64 0)).setCell (p := ⟨w.heap.size + 1, 2, none⟩) (by simp) (.slice none 0 0))
    clear hgs
    go_wp2_with fail
    refine bodyPost_ret (v := .tuple #[.agg #[.int .i64 0, .int .i64 0, .slice none 0 0], .bool false]) (by simp [results, Tryz.results113, go_sem, E0, E1, E2]) rfl ?_
    exact ⟨HG3.out, .inl ⟨HR.out, rfl⟩⟩
  · have HR : Hid (chooseF p log = some (gs.map fun g => log.filter fun t => hasB g (nth t 0))) := Lib.hid (by unfold chooseF; rw [if_neg (by rw [← hgs]; exact h2), hgs])
    have hz : ¬ (gs.length : Int) < 2 := by omega
    clear hgs
    go_wp2_with fail
    go_loopw [5, 21] (fun out iv wr => ∃ i : Nat, iv = .int .i64 i ∧ i ≤ gs.length ∧ Gr w wr ∧ Gr w2 wr ∧ Blk wr w.heap.size 204 B ∧ Blk wr (w.heap.size + 1) 55 #[.int .i64 0, .int .i64 0, .slice none 0 0] ∧ OwnR blkW 55 w2.heap.size (fun b => w2.heap.size ≤ b) wr out (((gs.take i).map fun g => log.filter fun t => hasB g (nth t 0)).map (mineF0 n))) (fun out iv _ => gs.length - (intOf iv).toNat)
    case atStart => exact ⟨0, rfl, Nat.zero_le _, G2, Gr.refl _, by rw [hB5]; exact b2, r2, OwnR.nil _ _ _ _⟩
    case round =>
      rename World => wr
      obtain ⟨i, rfl, hi, hgr, hg2, hb, hrb, hO⟩ := hrel
      clear b2 r2 G2
      have hol : (((gs.take i).map fun g => log.filter fun t => hasB g (nth t 0)).map (mineF0 n)).length = i := by simp; omega
      obtain ⟨oa, oc, rfl, ho1, ho2⟩ := hO.len
      rw [hol] at hO ho1 ⊢
      have HOL := Lib.hid hol
      generalize hdn : ((gs.take i).map fun g => log.filter fun t => hasB g (nth t 0)).map (mineF0 n) = done at *
      have HDN := Lib.hid hdn
      clear hdn hol
      by_cases hlt : i < gs.length
      · obtain ⟨gb, go, gu, rfl, c0, hI⟩ := (HG.out.gr hg2).row hlt
        obtain ⟨gua, guc, rfl, _, _⟩ := hI.len
        obtain ⟨g, hgd⟩ : ∃ g, g = ix gs i := ⟨_, rfl⟩
        rw [← hgd] at c0 hI
        have HFN := Lib.hid (HFU.out _ HR.out (log.filter fun t => hasB g (nth t 0)) (List.mem_map.2 ⟨g, by rw [hgd]; exact ix_mem hlt, rfl⟩))
        have HNX : Hid (((gs.take (i + 1)).map fun g => log.filter fun t => hasB g (nth t 0)).map (mineF0 n) = done ++ [mineF0 n (log.filter fun t => hasB g (nth t 0))]) := Lib.hid (by rw [take_ix hlt, List.map_append, List.map_append, HDN.out, hgd]; rfl)
        have hiz : (i : Int) < (gs.length : Int) := by omega
        have hi0 : (0 : Int) ≤ (i : Int) := by omega
        clear hgd
        -- the closure's own group
        have Gb : Gr wr (wr.alloc (.cells #[.slice gua g.length guc] 24)) := (Gr.refl _).alloc _
        have ba : Blk (wr.alloc (.cells #[.slice gua g.length guc] 24)) wr.heap.size 24 #[.slice gua g.length guc] := Blk.new rfl
        have c7 := ba.cell (i := 0) (v := .slice gua g.length guc) rfl
        have hb2 := hb.gr Gb
        have l0 := hb2.cell (i := 0) (v := .slice ta log.length tc) (by rw [hB5]; rfl)
        have hwb1 : wr.heap.size < ((wr.alloc (.cells #[.slice gua g.length guc] 24))).heap.size := cell_block c7
        have HCl := Lib.hid (CloneRow_calls _ log (wr.alloc (.cells #[.slice gua g.length guc] 24)) (HT.out.gr (hgr.trans Gb)) (by have := hr.1; omega))
        have HIO := Lib.hid (hI.gr Gb)
        have HC7 := Lib.hid (And.intro c7 hwb1)
        have HGB := Lib.hid Gb
        clear ba Gb hI hb2 hwb1
        go_wp2_with fail
        refine HCl.out.mono ?_
        rintro _ w3 ⟨v3, rfl, o3, g3⟩
        obtain ⟨a3, c3, rfl, _, _⟩ := o3.len
        have hon3 : On (fun x => x < ((wr.alloc (.cells #[.slice gua g.length guc] 24))).heap.size) (fun W => Ints W (.slice gua g.length guc) g) w3 := on_old (fun _ _ k h => Ints.kp h k) HIO.out g3.kp
        have HD := Lib.hid (DeleteFuncR_calls _ _ _ log 154 #[.pointer (some ⟨wr.heap.size, 0, none⟩)] (fun t => !hasB g (nth t 0)) _ w3 (fun args w => by kernel_rfl) o3 g3 (Nat.le_refl _) (asks_choose HNE.out (cell_gr HC7.out.1 g3) hon3.now hon3 HC7.out.2))
        clear HCl o3 hon3 l0 c7
        go_wp2_with fail
        refine HD.out.mono ?_
        rintro _ w4 ⟨v4, rfl, R4, g4⟩
        rw [filt_yes] at R4
        obtain ⟨a4, c4, rfl, _, _⟩ := R4.len
        have g04 := HGB.out.trans g4
        clear HD HGB HC7 HIO g3 g4 c0
        go_wp2_with fail
        refine (hF _ _ w4 R4 (hr.filt _) HFN.out).mono ?_
        rintro _ w5 ⟨v5, rfl, f5, g5⟩
        obtain ⟨k1, k2, a5, c5, rfl⟩ := f5.form
        obtain ⟨bf, hbf⟩ : ∃ b, b = mineF0 n (log.filter fun t => hasB g (nth t 0)) := ⟨_, rfl⟩
        rw [← hbf] at f5 k1 k2 HNX ⊢
        clear hbf R4 HFN
        have hlt4 := g04.le
        have hlt5 := g5.le
        have hw2 := hg2.le
        have hO3 := hO.gr (g04.trans g5)
        have hrow := fun x (hx : (Value.slice oa i oc).ownBlock = some x) => hO.lt hx
        have hon0 := f5.cells
        have hon : On (fun x => w2.heap.size ≤ x ∧ (Value.slice oa i oc).ownBlock ≠ some x) (fun W => blkW.R W [.int .i64 bf.kind, .int .i64 bf.label, .slice a5 bf.kids.length c5] bf) (w5.alloc (.cells #[.int .i64 bf.kind, .int .i64 bf.label, .slice a5 bf.kids.length c5] 55)) :=
          (hon0.gr ((Gr.refl _).alloc _)).mono fun x _ hx => ⟨by omega, fun e => by have := (hrow x e).2; omega⟩
        have bx : Blk (w5.alloc (.cells #[.int .i64 bf.kind, .int .i64 bf.label, .slice a5 bf.kids.length c5] 55)) w5.heap.size 55 #[.int .i64 bf.kind, .int .i64 bf.label, .slice a5 bf.kids.length c5] := Blk.new rfl
        have hcl : ∀ (j : Nat) u, [Value.int .i64 bf.kind, .int .i64 bf.label, .slice a5 bf.kids.length c5][j]? = some u → (w5.alloc (.cells #[.int .i64 bf.kind, .int .i64 bf.label, .slice a5 bf.kids.length c5] 55)).cell? ((⟨w5.heap.size, 0, none⟩ : Addr).add j) = some u := blk_adds bx
        have HCL := Lib.hid hcl
        have hbb := hb.gr ((g04.trans g5).alloc (.cells #[.int .i64 bf.kind, .int .i64 bf.label, .slice a5 bf.kids.length c5] 55))
        have hrb2 := hrb.gr ((g04.trans g5).alloc (.cells #[.int .i64 bf.kind, .int .i64 bf.label, .slice a5 bf.kids.length c5] 55))
        have hgr2 := (hgr.trans (g04.trans g5)).alloc (.cells #[.int .i64 bf.kind, .int .i64 bf.label, .slice a5 bf.kids.length c5] 55)
        have hgr3 := (hg2.trans (g04.trans g5)).alloc (.cells #[.int .i64 bf.kind, .int .i64 bf.label, .slice a5 bf.kids.length c5] 55)
        have hO4 := hO3.alloc (.cells #[.int .i64 bf.kind, .int .i64 bf.label, .slice a5 bf.kids.length c5] 55)
        have HB3 := Lib.hid (And.intro hbb (And.intro hrb2 (And.intro hgr2 hgr3)))
        have hn1 : (done.length + 1) * 40 ≤ 140737488355328 := by rw [HOL.out]; omega
        have hn2 : done.length + 1 ≤ maxLen := by rw [HOL.out]; unfold maxLen; omega
        have hbs : w2.heap.size ≤ (w5.alloc (.cells #[.int .i64 bf.kind, .int .i64 bf.label, .slice a5 bf.kids.length c5] 55)).heap.size := by simp; omega
        clear hcl f5 hon0 hrow hO hO3 hb hrb hlt4 hlt5 hw2 bx hbb hrb2 hgr2 hgr3
        go_wp2_with (at_builtin; go_loud (refine app_one T _ _ w2.heap.size (fun x => w2.heap.size ≤ x) (.slice oa i oc) done ⟨w5.heap.size, 0, none⟩ bf [.int .i64 bf.kind, .int .i64 bf.label, .slice a5 bf.kids.length c5] (by rfl) (by rfl) (by rfl) (by rfl) hO4 HCL.out hon hn1 hn2 hbs ?_; intro v6 w6 ho6 hgs6 hgb6 hat6))
        go_roundw
        case rel => exact ⟨i + 1, by go_num, by omega, hgs6 w (by omega) HB3.out.2.2.1, hgs6 w2 (Nat.le_refl _) HB3.out.2.2.2, HB3.out.1.grown hgb6 (fun e => by have := (hO4.lt e.symm).1; omega), HB3.out.2.1.grown hgb6 (fun e => by have := (hO4.lt e.symm).1; omega), by rw [HNX.out]; exact ho6⟩
        case measure => simp [intOf]; omega
      · obtain rfl : i = gs.length := by omega
        rw [List.take_length] at HDN
        have hnz : ¬ (gs.length : Int) < (gs.length : Int) := by omega
        go_wp2_with fail
        refine (mineBlock_calls 4 oa gs.length oc wr).mono ?_
        rintro _ w3 ⟨rfl, g3⟩
        have hr2 := hrb.gr g3
        have hO2 := hO.gr g3
        have hG2 := hgr.trans g3
        have D0 := hr2.cell (i := 0) rfl
        have bq0 := hr2.set 0 (.int .i64 4)
        have bq1 := bq0.set 1 (.int .i64 0)
        have bq2 := bq1.set 2 (.slice oa gs.length oc)
        have E0 := bq2.cell (i := 0) rfl
        have E1 := bq2.cell (i := 1) rfl
        have E2 := bq2.cell (i := 2) rfl
        have F0 := hr2.frozen 0
        have F1 := hr2.frozen 1
        have F2 := hr2.frozen 2
        have D1 := bq0.cell (i := 1) rfl
        have D2 := bq1.cell (i := 2) rfl
        have FF1 := bq0.frozen 1
        have FF2 := bq1.frozen 2
        have hf := BlkF.of (m := w2.heap.size) hO2 (show I64 4 by decide) (fun x hx => hx) (Nat.le_refl _)
        have HF3 := Lib.hid (((hf.kp (set_kp (a := ⟨w.heap.size + 1, 0, none⟩) (fun h => by have h' : w2.heap.size ≤ w.heap.size + 1 := h; omega) (.int .i64 4))).kp (set_kp (a := ⟨w.heap.size + 1, 1, none⟩) (fun h => by have h' : w2.heap.size ≤ w.heap.size + 1 := h; omega) (.int .i64 0))).kp (set_kp (a := ⟨w.heap.size + 1, 2, none⟩) (fun h => by have h' : w2.heap.size ≤ w.heap.size + 1 := h; omega) (.slice oa gs.length oc)))
        have HG3 := Lib.hid (((hG2.setCell (p := ⟨w.heap.size + 1, 0, none⟩) (by simp) (.int .i64 4)).setCell (p := ⟨w.heap.size + 1, 1, none⟩) (by simp) (.int .i64 0)).setCell (p := ⟨w.heap.size + 1, 2, none⟩) (by simp) (.slice oa gs.length oc))
        clear hf hO2 hO hb hrb hr2 hG2 hgr
        go_wp2_with fail
        refine bodyPost_ret (v := .tuple #[.agg #[.int .i64 4, .int .i64 0, .slice oa gs.length oc], .bool true]) (by simp [results, Tryz.results113, go_sem, E0, E1, E2]) rfl ?_
        refine ⟨HG3.out, .inr ⟨_, _, HR.out, rfl, ?_⟩⟩
        rw [HDN.out]
        exact HF3.out.low (by omega)
end Go.Proofs.YtagdccgbcmnehaaGreat

namespace Go.Proofs.YtagdccgbcmnehaaGreat
open Go.RowKit Go.Tok
set_option linter.unusedVariables false
theorem OneAt.kp {S : Nat → Prop} {w w' : World} {b : Nat} {l : List (Int × Int)} (h : OneAt w b l) (k : Kp S w w') (hs : S b) : OneAt w' b l := by
  have hlt := h.lt
  unfold OneAt at *
  unfold Kp at k
  exact h.block (k.2 b hlt hs)
set_option maxHeartbeats 2000000 in
set_option maxRecDepth 100000 in
theorem order_calls (n : Nat) (hF : FindOk n) (v : Value) (log : List (List Int)) (w : World) (hv : LogV w v log (ofM log)) (hr : RightT log) (hfu : ∀ ls, orderF (ofM log) log = some ls → ∀ l ∈ ls, Fuel n l) :
    Calls Tryz.prog 114 #[v] w (RetCut n 3 (orderF (ofM log) log) w) := by
  have hll := lab_len hr
  have hbl := beh_len hr
  have hway := order_ways log
  have hcg : (orderG (ofM log)).length ≤ 26 := by
    have hG : Grps (fun a b => hasP (leadsF (ofM log)) a b == hasP (leadsF (ofM log)) b a) (ofM log).labels (orderG (ofM log)) := grps _ _
    have := grp_count hG
    omega
  obtain ⟨p, hp⟩ : ∃ p, p = ofM log := ⟨_, rfl⟩
  rw [← hp] at hv hfu hll hcg hbl hway ⊢
  clear hp
  have HV := Lib.hid hv
  obtain ⟨ta, la, fa, za, ba, tc, lc, fc, zc, bc, rfl, hT, hL, hFi, hZ, hB⟩ := hv.ex
  have b0 : Blk ((w.alloc (.cells #[.slice ta log.length tc, .slice la p.labels.length lc, .slice fa p.first.length fc, .slice za p.last.length zc, .slice ba p.behind.length bc] 204)).alloc (.cells #[.int .i64 0, .int .i64 0, .slice none 0 0] 55)) w.heap.size 204 #[.slice ta log.length tc, .slice la p.labels.length lc, .slice fa p.first.length fc, .slice za p.last.length zc, .slice ba p.behind.length bc] := (Blk.new rfl).gr ((Gr.refl _).alloc _)
  have r0 : Blk ((w.alloc (.cells #[.slice ta log.length tc, .slice la p.labels.length lc, .slice fa p.first.length fc, .slice za p.last.length zc, .slice ba p.behind.length bc] 204)).alloc (.cells #[.int .i64 0, .int .i64 0, .slice none 0 0] 55)) (w.heap.size + 1) 55 #[.int .i64 0, .int .i64 0, .slice none 0 0] := Blk.new (by simp)
  have G0 : Gr w ((w.alloc (.cells #[.slice ta log.length tc, .slice la p.labels.length lc, .slice fa p.first.length fc, .slice za p.last.length zc, .slice ba p.behind.length bc] 204)).alloc (.cells #[.int .i64 0, .int .i64 0, .slice none 0 0] 55)) := ((Gr.refl _).alloc _).alloc _
  have hsz0 : ((w.alloc (.cells #[.slice ta log.length tc, .slice la p.labels.length lc, .slice fa p.first.length fc, .slice za p.last.length zc, .slice ba p.behind.length bc] 204)).alloc (.cells #[.int .i64 0, .int .i64 0, .slice none 0 0] 55)).heap.size = w.heap.size + 2 := by simp
  have HSZ := Lib.hid hsz0
  have c0 := b0.cell (i := 0) rfl
  have c1 := b0.cell (i := 1) rfl
  have c2 := b0.cell (i := 2) rfl
  have c3 := b0.cell (i := 3) rfl
  have c4 := b0.cell (i := 4) rfl
  have HLd := Lib.hid (leads_calls _ log p _ (HV.out.gr G0) (by omega) hbl)
  have HFU := Lib.hid hfu
  have HWY := Lib.hid hway
  have HLb := Lib.hid hL
  clear hT hfu hv hL hFi hZ hB hsz0 hway hbl
  go_enter Tryz.func114, Tryz.ntmps114
  go_wp2_with fail
  refine HLd.out.mono ?_
  rintro _ w2 ⟨c, b, rfl, hc, h1, hb1, hc1, g2⟩
  have hclt := cell_block hc
  have hblt := h1.lt
  have b2 := (b0.gr g2).gr ((Gr.refl _).alloc (.cells #[.func (.func 184) #[] #[.pointer (some ⟨c, 0, none⟩)]] 218))
  have r2 := (r0.gr g2).gr ((Gr.refl _).alloc (.cells #[.func (.func 184) #[] #[.pointer (some ⟨c, 0, none⟩)]] 218))
  have G2 := (G0.trans g2).alloc (.cells #[.func (.func 184) #[] #[.pointer (some ⟨c, 0, none⟩)]] 218)
  have l2 : Blk (w2.alloc (.cells #[.func (.func 184) #[] #[.pointer (some ⟨c, 0, none⟩)]] 218)) w2.heap.size 218 #[.func (.func 184) #[] #[.pointer (some ⟨c, 0, none⟩)]] := Blk.new rfl
  have f2 := l2.cell (i := 0) (v := leadV c) rfl
  have hc2 := cell_gr hc ((Gr.refl w2).alloc (.cells #[.func (.func 184) #[] #[.pointer (some ⟨c, 0, none⟩)]] 218))
  have h2 := h1.gr ((Gr.refl w2).alloc (.cells #[.func (.func 184) #[] #[.pointer (some ⟨c, 0, none⟩)]] 218))
  have hsz2 : (w2.alloc (.cells #[.func (.func 184) #[] #[.pointer (some ⟨c, 0, none⟩)]] 218)).heap.size = w2.heap.size + 1 := by simp
  have hle2 : w.heap.size + 2 ≤ w2.heap.size := by have := g2.le; have := HSZ.out; omega
  obtain ⟨s, hs⟩ : ∃ s, s = leadsF p := ⟨_, rfl⟩
  have HS := Lib.hid hs
  rw [← hs] at h1 h2 HWY
  have hask : Asks2 157 #[] #[.pointer (some ⟨w2.heap.size, 0, none⟩)] (fun a b => hasP s a b == hasP s b a) (w2.alloc (.cells #[.func (.func 184) #[] #[.pointer (some ⟨c, 0, none⟩)]] 218)) := fun W x y hx hy g => order1_calls x y hx hy _ c b s W (cell_gr f2 g) (cell_gr hc2 g) (h2.gr g)
  have HGC := Lib.hid (groups_calls _ p.labels (fun a b => hasP s a b == hasP s b a) 157 #[] _ _ (HLb.out.gr G2) (by omega) (fun args w => by kernel_rfl) hask)
  have HF2 := Lib.hid (And.intro f2 (And.intro hc2 h2))
  have HSZ2 := Lib.hid (And.intro hsz2 (And.intro hclt (And.intro hblt hle2)))
  clear c0 c1 c2 c3 c4
  have c0 := b2.cell (i := 0) rfl
  have c1 := b2.cell (i := 1) rfl
  have c2 := b2.cell (i := 2) rfl
  have c3 := b2.cell (i := 3) rfl
  have c4 := b2.cell (i := 4) rfl
  clear b0 r0 G0 g2 hc h1 hb1 hc1 l2 f2 hc2 h2 HLd HSZ hask hsz2 hclt hblt hle2 hs
  go_wp2_with fail
  refine HGC.out.mono ?_
  rintro _ w4 ⟨v4, rfl, o4, g4⟩
  obtain ⟨gs, hgs⟩ : ∃ gs, gs = orderG p := ⟨_, rfl⟩
  have e0 : groupsF (fun a b => hasP s a b == hasP s b a) p.labels.length p.labels = gs := by rw [hgs, HS.out]; rfl
  rw [e0] at o4
  rw [← hgs] at hcg HWY
  have b4 := b2.gr g4
  have r4 := r2.gr g4
  have G4 := G2.trans g4
  have hg4 := g4.le
  have HF4 := Lib.hid (And.intro (cell_gr HF2.out.1 g4) (And.intro (cell_gr HF2.out.2.1 g4) (HF2.out.2.2.gr g4)))
  obtain ⟨ga, gc, rfl, _, _⟩ := o4.len
  clear c0 c1 c2 c3 c4 b2 r2 G2 HGC e0 g4
  by_cases h2 : gs.length < 2
  · have HR : Hid (orderF p log = none) := Lib.hid (by unfold orderF; rw [if_pos (by rw [← hgs]; exact h2)])
    have hz : (gs.length : Int) < 2 := by omega
    have D0 := r4.cell (i := 0) rfl
    have bq0 := r4.set 0 (.int .i64 0)
    have bq1 := bq0.set 1 (.int .i64 0)
    have bq2 := bq1.set 2 (.slice none 0 0)
    have E0 := bq2.cell (i := 0) rfl
    have E1 := bq2.cell (i := 1) rfl
    have E2 := bq2.cell (i := 2) rfl
    have F0 := r4.frozen 0
    have F1 := r4.frozen 1
    have F2 := r4.frozen 2
    have D1 := bq0.cell (i := 1) rfl
    have D2 := bq1.cell (i := 2) rfl
    have FF1 := bq0.frozen 1
    have FF2 := bq1.frozen 2
    have HG3 := Lib.hid (((G4.setCell (p := ⟨w.heap.size + 1, 0, none⟩) (by simp) (.int .i64 0)).setCell (p := ⟨w.heap.size + 1, 1, none⟩) (by simp) (.int .i64 0)).setCell (p := ⟨w.heap.size + 1, 2, none⟩) (by simp) (.slice none 0 0))
    clear hgs o4 hg4
    go_wp2_with fail
    refine bodyPost_ret (v := .tuple #[.agg #[.int .i64 0, .int .i64 0, .slice none 0 0], .bool false]) (by simp [results, Tryz.results114, go_sem, E0, E1, E2]) rfl ?_
    exact ⟨HG3.out, .inl ⟨HR.out, rfl⟩⟩
  · have HR : Hid (orderF p log = some ((sortG s gs).map (ontoT log))) := Lib.hid (by unfold orderF; rw [if_neg (by rw [← hgs]; exact h2), hgs, HS.out])
    have hz : ¬ (gs.length : Int) < 2 := by omega
    obtain ⟨g, rfl, hgb⟩ : ∃ g, ga = some ⟨g, 0, none⟩ ∧ (w2.alloc (.cells #[.func (.func 184) #[] #[.pointer (some ⟨c, 0, none⟩)]] 218)).heap.size ≤ g := by
      rcases o4.form with ⟨_, e⟩ | ⟨g, cap, e, hb, _⟩
      · rw [e] at h2; simp at h2
      · cases e; exact ⟨g, rfl, hb⟩
    obtain ⟨z1, z2, z3, z4⟩ := HSZ2.out
    rw [z1] at hgb hg4
    have hne := HWY.out.ne
    have HST := Lib.hid (SortStableRow_calls g gc _ _ gs s w4 o4 (by omega) (by omega) HWY.out 159 #[.pointer (some ⟨w2.heap.size, 0, none⟩)] (fun args w => by kernel_rfl) (fun W u v x y hx hy k hu hv =>
      order2_calls u v x y w2.heap.size c b s W hu hv (hne x hx) (hne y hy) (cell_kp k HF4.out.1 (by show w2.heap.size ≠ g; omega)) (cell_kp k HF4.out.2.1 (by show c ≠ g; omega)) (OneAt.kp HF4.out.2.2 k (by show b ≠ g; omega))))
    clear o4 hgs
    go_wp2_with fail
    refine HST.out.mono ?_
    rintro _ w5 ⟨rfl, o5, hgr5⟩
    have G5 := G4.grown hgr5 (fun k hk => by cases hk; omega)
    have b5 := b4.grown hgr5 (fun e => by cases e; omega)
    have r5 := r4.grown hgr5 (fun e => by cases e; omega)
    have hg5 := hgr5.size
    have hln : (sortG s gs).length ≤ 1000 := by rw [(sortG_perm s gs).length_eq]; omega
    have HPT := Lib.hid (parts_calls n hF _ log p 3 _ (sortG s gs) w5 (by decide) (HV.out.gr G5) o5.rd hr (fun q hq => HFU.out _ HR.out _ (List.mem_map.2 ⟨q, hq, rfl⟩)) hln)
    have hle5 := Lib.hid (show w.heap.size + 2 ≤ w5.heap.size by omega)
    have c0 := b5.cell (i := 0) rfl
    have c1 := b5.cell (i := 1) rfl
    have c2 := b5.cell (i := 2) rfl
    have c3 := b5.cell (i := 3) rfl
    have c4 := b5.cell (i := 4) rfl
    clear HST o5 hgr5 hgb z1 z2 z3 z4 hne b4 r4 G4 hg4 hg5 hln
    go_wp2_with fail
    refine HPT.out.mono ?_
    rintro _ w6 ⟨v6, rfl, f6, g6⟩
    obtain ⟨k1, k2, a6, c6, rfl⟩ := f6.form
    obtain ⟨bf, hbf⟩ : ∃ b, b = manyD 3 (((sortG s gs).map (ontoT log)).map (mineF0 n)) := ⟨_, rfl⟩
    rw [← hbf] at f6 k1 k2 ⊢
    have HBF := Lib.hid hbf
    have r6 := r5.gr g6
    have G6 := G5.trans g6
    have D0 := r6.cell (i := 0) rfl
    have bq0 := r6.set 0 (.int .i64 bf.kind)
    have bq1 := bq0.set 1 (.int .i64 bf.label)
    have bq2 := bq1.set 2 (.slice a6 bf.kids.length c6)
    have E0 := bq2.cell (i := 0) rfl
    have E1 := bq2.cell (i := 1) rfl
    have E2 := bq2.cell (i := 2) rfl
    have F0 := r6.frozen 0
    have F1 := r6.frozen 1
    have F2 := r6.frozen 2
    have D1 := bq0.cell (i := 1) rfl
    have D2 := bq1.cell (i := 2) rfl
    have FF1 := bq0.frozen 1
    have FF2 := bq1.frozen 2
    have HF3 := Lib.hid (((f6.kp (set_kp (a := ⟨w.heap.size + 1, 0, none⟩) (fun h => by have h' : w5.heap.size ≤ w.heap.size + 1 := h; have := hle5.out; omega) (.int .i64 bf.kind))).kp (set_kp (a := ⟨w.heap.size + 1, 1, none⟩) (fun h => by have h' : w5.heap.size ≤ w.heap.size + 1 := h; have := hle5.out; omega) (.int .i64 bf.label))).kp (set_kp (a := ⟨w.heap.size + 1, 2, none⟩) (fun h => by have h' : w5.heap.size ≤ w.heap.size + 1 := h; have := hle5.out; omega) (.slice a6 bf.kids.length c6)))
    have HG3 := Lib.hid (((G6.setCell (p := ⟨w.heap.size + 1, 0, none⟩) (by simp) (.int .i64 bf.kind)).setCell (p := ⟨w.heap.size + 1, 1, none⟩) (by simp) (.int .i64 bf.label)).setCell (p := ⟨w.heap.size + 1, 2, none⟩) (by simp) (.slice a6 bf.kids.length c6))
    clear hbf f6 g6 r5 G5 b5 r6 G6 HPT c0 c1 c2 c3 c4
    go_wp2_with fail
    refine bodyPost_ret (v := .tuple #[.agg #[.int .i64 bf.kind, .int .i64 bf.label, .slice a6 bf.kids.length c6], .bool true]) (by simp [results, Tryz.results114, go_sem, E0, E1, E2]) rfl ?_
    refine ⟨HG3.out, .inr ⟨_, _, HR.out, rfl, ?_⟩⟩
    have e := HBF.out
    subst e
    exact HF3.out.low (by have := hle5.out; omega)
end Go.Proofs.YtagdccgbcmnehaaGreat

namespace Go.Proofs.YtagdccgbcmnehaaGreat
open Go.RowKit Go.Tok
set_option linter.unusedVariables false
set_option maxHeartbeats 2000000 in
set_option maxRecDepth 100000 in
theorem beside_calls (n : Nat) (hF : FindOk n) (v : Value) (log : List (List Int)) (w : World) (hv : LogV w v log (ofM log)) (hr : RightT log) (hfu : ∀ ls, besideF (ofM log) log = some ls → ∀ l ∈ ls, Fuel n l) :
    Calls Tryz.prog 115 #[v] w (RetCut n 5 (besideF (ofM log) log) w) := by
  have hll := lab_len hr
  have hcg : (besideG (ofM log)).length ≤ 26 := by
    have hG : Grps (fun a b => !hasP (ofM log).behind a b || !hasP (ofM log).behind b a) (ofM log).labels (besideG (ofM log)) := grps _ _
    have := grp_count hG
    omega
  obtain ⟨p, hp⟩ : ∃ p, p = ofM log := ⟨_, rfl⟩
  rw [← hp] at hv hfu hll hcg ⊢
  clear hp
  have HV := Lib.hid hv
  obtain ⟨ta, la, fa, za, ba, tc, lc, fc, zc, bc, rfl, hT, hL, hFi, hZ, hB⟩ := hv.ex
  have b0 : Blk ((w.alloc (.cells #[.slice ta log.length tc, .slice la p.labels.length lc, .slice fa p.first.length fc, .slice za p.last.length zc, .slice ba p.behind.length bc] 204)).alloc (.cells #[.int .i64 0, .int .i64 0, .slice none 0 0] 55)) w.heap.size 204 #[.slice ta log.length tc, .slice la p.labels.length lc, .slice fa p.first.length fc, .slice za p.last.length zc, .slice ba p.behind.length bc] := (Blk.new rfl).gr ((Gr.refl _).alloc _)
  have r0 : Blk ((w.alloc (.cells #[.slice ta log.length tc, .slice la p.labels.length lc, .slice fa p.first.length fc, .slice za p.last.length zc, .slice ba p.behind.length bc] 204)).alloc (.cells #[.int .i64 0, .int .i64 0, .slice none 0 0] 55)) (w.heap.size + 1) 55 #[.int .i64 0, .int .i64 0, .slice none 0 0] := Blk.new (by simp)
  have G0 : Gr w ((w.alloc (.cells #[.slice ta log.length tc, .slice la p.labels.length lc, .slice fa p.first.length fc, .slice za p.last.length zc, .slice ba p.behind.length bc] 204)).alloc (.cells #[.int .i64 0, .int .i64 0, .slice none 0 0] 55)) := ((Gr.refl _).alloc _).alloc _
  have hsz0 : ((w.alloc (.cells #[.slice ta log.length tc, .slice la p.labels.length lc, .slice fa p.first.length fc, .slice za p.last.length zc, .slice ba p.behind.length bc] 204)).alloc (.cells #[.int .i64 0, .int .i64 0, .slice none 0 0] 55)).heap.size = w.heap.size + 2 := by simp
  have HSZ := Lib.hid hsz0
  have HLB : LogB ((w.alloc (.cells #[.slice ta log.length tc, .slice la p.labels.length lc, .slice fa p.first.length fc, .slice za p.last.length zc, .slice ba p.behind.length bc] 204)).alloc (.cells #[.int .i64 0, .int .i64 0, .slice none 0 0] 55)) w.heap.size log p := ⟨⟨_, b0, HV.out.gr G0⟩⟩
  have hask : Asks2 161 #[] #[.pointer (some ⟨w.heap.size, 0, none⟩)] (fun a b => !hasP p.behind a b || !hasP p.behind b a) ((w.alloc (.cells #[.slice ta log.length tc, .slice la p.labels.length lc, .slice fa p.first.length fc, .slice za p.last.length zc, .slice ba p.behind.length bc] 204)).alloc (.cells #[.int .i64 0, .int .i64 0, .slice none 0 0] 55)) := fun W x y hx hy g => beside1_calls x y hx hy _ log p W (HLB.gr g)
  have HGC := Lib.hid (groups_calls _ p.labels (fun a b => !hasP p.behind a b || !hasP p.behind b a) 161 #[] _ _ (hL.gr G0) (by omega) (fun args w => by kernel_rfl) hask)
  have HFU := Lib.hid hfu
  have HB0 := Lib.hid HLB
  have c0 := b0.cell (i := 0) rfl
  have c1 := b0.cell (i := 1) rfl
  have c2 := b0.cell (i := 2) rfl
  have c3 := b0.cell (i := 3) rfl
  have c4 := b0.cell (i := 4) rfl
  clear hT hfu hv hL hFi hZ hB hsz0 hask HLB
  go_enter Tryz.func115, Tryz.ntmps115
  go_wp2_with fail
  refine HGC.out.mono ?_
  rintro _ w2 ⟨v2, rfl, o2, g2⟩
  obtain ⟨gs, hgs⟩ : ∃ gs, gs = besideG p := ⟨_, rfl⟩
  have e0 : groupsF (fun a b => !hasP p.behind a b || !hasP p.behind b a) p.labels.length p.labels = gs := by rw [hgs]; rfl
  rw [e0] at o2
  rw [← hgs] at hcg
  have HGS := Lib.hid hgs
  have gq : Gr ((w.alloc (.cells #[.slice ta log.length tc, .slice la p.labels.length lc, .slice fa p.first.length fc, .slice za p.last.length zc, .slice ba p.behind.length bc] 204)).alloc (.cells #[.int .i64 0, .int .i64 0, .slice none 0 0] 55)) (w2.alloc (.cells #[.func (.func 162) #[] #[]] 65)) := g2.alloc _
  have b2 := b0.gr gq
  have r2 := r0.gr gq
  have G2 := G0.trans gq
  have l2 : Blk (w2.alloc (.cells #[.func (.func 162) #[] #[]] 65)) w2.heap.size 65 #[.func (.func 162) #[] #[]] := Blk.new rfl
  have f2 := l2.cell (i := 0) (v := .func (.func 162) #[] #[]) rfl
  have HB2 := Lib.hid (HB0.out.gr gq)
  have hle2 := Lib.hid (show w.heap.size + 2 ≤ w2.heap.size by have := g2.le; have := HSZ.out; omega)
  obtain ⟨ga, gc, rfl, _, _⟩ := o2.len
  have HR2 := Lib.hid (o2.rd.gr ((Gr.refl _).alloc (.cells #[.func (.func 162) #[] #[]] 65)))
  clear c0 c1 c2 c3 c4 b0 r0 G0 g2 gq l2 HGC HSZ HB0 o2 e0 hgs
  have c0 := b2.cell (i := 0) rfl
  have c1 := b2.cell (i := 1) rfl
  have c2 := b2.cell (i := 2) rfl
  have c3 := b2.cell (i := 3) rfl
  have c4 := b2.cell (i := 4) rfl
  by_cases h2 : gs.length < 2
  · have HR : Hid (besideF p log = none) := Lib.hid (by unfold besideF; rw [if_pos (.inl (by rw [← HGS.out]; exact h2))])
    have hz : (gs.length : Int) < 2 := by omega
    clear f2
    clear c0 c1 c2 c3 c4
    have D0 := r2.cell (i := 0) rfl
    have bq0 := r2.set 0 (.int .i64 0)
    have bq1 := bq0.set 1 (.int .i64 0)
    have bq2 := bq1.set 2 (.slice none 0 0)
    have E0 := bq2.cell (i := 0) rfl
    have E1 := bq2.cell (i := 1) rfl
    have E2 := bq2.cell (i := 2) rfl
    have F0 := r2.frozen 0
    have F1 := r2.frozen 1
    have F2 := r2.frozen 2
    have D1 := bq0.cell (i := 1) rfl
    have D2 := bq1.cell (i := 2) rfl
    have FF1 := bq0.frozen 1
    have FF2 := bq1.frozen 2
    have HG3 := Lib.hid (((G2.setCell (p := ⟨w.heap.size + 1, 0, none⟩) (by simp) (.int .i64 0)).setCell (p := ⟨w.heap.size + 1, 1, none⟩) (by simp) (.int .i64 0)).setCell (p := ⟨w.heap.size + 1, 2, none⟩) (by simp) (.slice none 0 0))
    go_wp2_with fail
    refine bodyPost_ret (v := .tuple #[.agg #[.int .i64 0, .int .i64 0, .slice none 0 0], .bool false]) (by simp [results, Tryz.results115, go_sem, E0, E1, E2]) rfl ?_
    exact ⟨HG3.out, .inl ⟨HR.out, rfl⟩⟩
  · have hz : ¬ (gs.length : Int) < 2 := by omega
    have HCF := Lib.hid (ContainsFuncRow_calls _ gs 164 #[.pointer (some ⟨w2.heap.size, 0, none⟩), .pointer (some ⟨w.heap.size, 0, none⟩)] (apartB p) (w2.alloc (.cells #[.func (.func 162) #[] #[]] 65)) (fun args w => by kernel_rfl) HR2.out (fun W u x _ g hu => beside3_calls u x w2.heap.size w.heap.size log p W hu (cell_gr f2 g) (HB2.out.gr g)))
    clear f2
    cases e1 : gs.any (apartB p) with
    | true =>
      rw [e1] at HCF
      have HR : Hid (besideF p log = none) := Lib.hid (by unfold besideF; rw [if_pos (.inr (by rw [← HGS.out]; exact e1))])
      clear e1
      go_wp2_with fail
      refine HCF.out.mono ?_
      rintro _ w4 ⟨rfl, g4⟩
      have r4 := r2.gr g4
      have G4 := G2.trans g4
      clear c0 c1 c2 c3 c4
      have D0 := r4.cell (i := 0) rfl
      have bq0 := r4.set 0 (.int .i64 0)
      have bq1 := bq0.set 1 (.int .i64 0)
      have bq2 := bq1.set 2 (.slice none 0 0)
      have E0 := bq2.cell (i := 0) rfl
      have E1 := bq2.cell (i := 1) rfl
      have E2 := bq2.cell (i := 2) rfl
      have F0 := r4.frozen 0
      have F1 := r4.frozen 1
      have F2 := r4.frozen 2
      have D1 := bq0.cell (i := 1) rfl
      have D2 := bq1.cell (i := 2) rfl
      have FF1 := bq0.frozen 1
      have FF2 := bq1.frozen 2
      have HG3 := Lib.hid (((G4.setCell (p := ⟨w.heap.size + 1, 0, none⟩) (by simp) (.int .i64 0)).setCell (p := ⟨w.heap.size + 1, 1, none⟩) (by simp) (.int .i64 0)).setCell (p := ⟨w.heap.size + 1, 2, none⟩) (by simp) (.slice none 0 0))
      go_wp2_with fail
      refine bodyPost_ret (v := .tuple #[.agg #[.int .i64 0, .int .i64 0, .slice none 0 0], .bool false]) (by simp [results, Tryz.results115, go_sem, E0, E1, E2]) rfl ?_
      exact ⟨HG3.out, .inl ⟨HR.out, rfl⟩⟩
    | false =>
      rw [e1] at HCF
      have HR : Hid (besideF p log = some (gs.map (ontoT log))) := Lib.hid (by unfold besideF; rw [if_neg (by rw [← HGS.out, e1]; rintro (k | k); exact h2 k; cases k), HGS.out])
      clear e1
      go_wp2_with fail
      refine HCF.out.mono ?_
      rintro _ w4 ⟨rfl, g4⟩
      have r5 := r2.gr g4
      have G5 := G2.trans g4
      have b5 := b2.gr g4
      have hle5 := Lib.hid (show w.heap.size + 2 ≤ w4.heap.size by have h4 := g4.le; simp at h4; have h5 := hle2.out; omega)
      have hln : gs.length ≤ 1000 := by omega
      have HPT := Lib.hid (parts_calls n hF _ log p 5 _ gs w4 (by decide) (HV.out.gr G5) (HR2.out.gr g4) hr (fun q hq => HFU.out _ HR.out _ (List.mem_map.2 ⟨q, hq, rfl⟩)) hln)
      clear c0 c1 c2 c3 c4 b2 r2 G2 HCF g4 hln
      have c0 := b5.cell (i := 0) rfl
      have c1 := b5.cell (i := 1) rfl
      have c2 := b5.cell (i := 2) rfl
      have c3 := b5.cell (i := 3) rfl
      have c4 := b5.cell (i := 4) rfl
      go_wp2_with fail
      refine HPT.out.mono ?_
      rintro _ w6 ⟨v6, rfl, f6, g6⟩
      obtain ⟨k1, k2, a6, c6, rfl⟩ := f6.form
      obtain ⟨bf, hbf⟩ : ∃ b, b = manyD 5 ((gs.map (ontoT log)).map (mineF0 n)) := ⟨_, rfl⟩
      rw [← hbf] at f6 k1 k2 ⊢
      have HBF := Lib.hid hbf
      have r6 := r5.gr g6
      have G6 := G5.trans g6
      have D0 := r6.cell (i := 0) rfl
      have bq0 := r6.set 0 (.int .i64 bf.kind)
      have bq1 := bq0.set 1 (.int .i64 bf.label)
      have bq2 := bq1.set 2 (.slice a6 bf.kids.length c6)
      have E0 := bq2.cell (i := 0) rfl
      have E1 := bq2.cell (i := 1) rfl
      have E2 := bq2.cell (i := 2) rfl
      have F0 := r6.frozen 0
      have F1 := r6.frozen 1
      have F2 := r6.frozen 2
      have D1 := bq0.cell (i := 1) rfl
      have D2 := bq1.cell (i := 2) rfl
      have FF1 := bq0.frozen 1
      have FF2 := bq1.frozen 2
      have HF3 := Lib.hid (((f6.kp (set_kp (a := ⟨w.heap.size + 1, 0, none⟩) (fun h => by have h' : w4.heap.size ≤ w.heap.size + 1 := h; have := hle5.out; omega) (.int .i64 bf.kind))).kp (set_kp (a := ⟨w.heap.size + 1, 1, none⟩) (fun h => by have h' : w4.heap.size ≤ w.heap.size + 1 := h; have := hle5.out; omega) (.int .i64 bf.label))).kp (set_kp (a := ⟨w.heap.size + 1, 2, none⟩) (fun h => by have h' : w4.heap.size ≤ w.heap.size + 1 := h; have := hle5.out; omega) (.slice a6 bf.kids.length c6)))
      have HG3 := Lib.hid (((G6.setCell (p := ⟨w.heap.size + 1, 0, none⟩) (by simp) (.int .i64 bf.kind)).setCell (p := ⟨w.heap.size + 1, 1, none⟩) (by simp) (.int .i64 bf.label)).setCell (p := ⟨w.heap.size + 1, 2, none⟩) (by simp) (.slice a6 bf.kids.length c6))
      clear hbf f6 g6 r5 G5 b5 r6 G6 HPT c0 c1 c2 c3 c4
      go_wp2_with fail
      refine bodyPost_ret (v := .tuple #[.agg #[.int .i64 bf.kind, .int .i64 bf.label, .slice a6 bf.kids.length c6], .bool true]) (by simp [results, Tryz.results115, go_sem, E0, E1, E2]) rfl ?_
      refine ⟨HG3.out, .inr ⟨_, _, HR.out, rfl, ?_⟩⟩
      have e := HBF.out
      subst e
      exact HF3.out.low (by have := hle5.out; omega)
end Go.Proofs.YtagdccgbcmnehaaGreat

