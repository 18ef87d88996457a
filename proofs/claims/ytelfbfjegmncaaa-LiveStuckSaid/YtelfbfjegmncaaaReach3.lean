/- Contract of the search's look-up of a mark (find). -/
import Derived.Test.YtelfbfjegmncaaaReach2
import Derived.Deep.RegionHeld3
import Derived.Deep.DeepCutAuto
namespace Go.Proofs.Ytelfbfjegmncaaa
open Go.RowKit Go.Tok
open Go.WideMaps (keyOf_string_mk)
set_option linter.unusedVariables false
theorem name_key {m : List Int} (h : m.length ≤ 100) : keyOf Try.prog 9 (.string (nameS m)) = some (.string (nameS m).data.toList) :=
  keyOf_string_mk Try.underlying9 (by rw [nameS_size]; unfold maxLen; omega)
section
variable {N : NetD} {na : Option Addr} {ncap : Nat} {most : Int} {fb mb : Nat} {vm va vf : Value} {w0 w : World} {marks : List (List Int)} {arcs : List ArcD} {first : List Int}
set_option maxHeartbeats 4000000 in
theorem find_old {mv : Value} {m : List Int} {c : Int} (h : FinO N na ncap most fb mb vm va vf w0 w marks (keyedM marks) arcs first) (hm : Ints w mv m) (hr : ∀ x ∈ m, 0 ≤ x ∧ x ≤ 1000000) (hl : m.length ≤ 100) (hin : m ∈ marks) (hc : I64 c) :
    Calls Try.prog 109 #[.pointer (some ⟨fb, 0, none⟩), mv, .int .i64 c] w fun e w' => e = .returned (.tuple #[.int .i64 ((marks.idxOf m : Nat) : Int), .bool true]) ∧ Gr w w' := by
  have c3 := h.blk.cell (i := 3) rfl
  have hk := name_key hl
  have hmem := keyedM_mem hin
  have hmap := h.map
  obtain ⟨n, hn⟩ : ∃ n, n = marks.idxOf m := ⟨_, rfl⟩
  rw [← hn] at hmem ⊢
  have HL : ∀ w', Gr w w' → (Instr.lookup 133 (.map (some mb)) (.string (nameS m)) true).run Try.prog w' = .ok (.tuple #[.int .i64 (n : Int), .bool true]) w' := fun w' g => (hmap.gr g).look_yes_ok nameLaw Try.underlying133 hk hmem
  have HLH := Lib.hid HL
  have l0 := HL w.drew (by (repeat (first | exact Gr.refl _ | assumption | apply Gr.alloc | apply Gr.drew | apply Gr.drewN | refine Gr.trans ?_ (by assumption))))
  clear HL hmap hn hmem hk h
  go_enter Try.func109, Try.ntmps109
  go_wp2_with fail
  go_region_held3 (fun w' => w'.cell? ⟨fb, 3, none⟩ = some (.map (some mb)) ∧ (Instr.lookup 133 (.map (some mb)) (.string (nameS m)) true).run Try.prog w' = .ok (.tuple #[.int .i64 (n : Int), .bool true]) w') (first | go_keep | ((refine ⟨cell_gr c3 ?_, HLH.out _ ?_⟩); ((focus ((repeat (first | exact Gr.refl _ | assumption | apply Gr.alloc | apply Gr.drew | apply Gr.drewN | refine Gr.trans ?_ (by assumption))); done))); ((focus ((repeat (first | exact Gr.refl _ | assumption | apply Gr.alloc | apply Gr.drew | apply Gr.drewN | refine Gr.trans ?_ (by assumption))); done))))) (first | (go_at_call 125; (with_reducible refine (name_calls _ m _ (hm.gr ?_) hr hl).mono ?_); ((focus ((repeat (first | exact Gr.refl _ | assumption | apply Gr.alloc | apply Gr.drew | apply Gr.drewN | refine Gr.trans ?_ (by assumption))); done))); rintro _ w2 ⟨rfl, g2⟩))
  go_wp2_with fail
  go_ret2
  exact ⟨rfl, by (repeat (first | exact Gr.refl _ | assumption | apply Gr.alloc | apply Gr.drew | apply Gr.drewN | refine Gr.trans ?_ (by assumption)))⟩
set_option maxHeartbeats 4000000 in
/-- a mark that is not there, at the end of all room -/
theorem find_full {mv : Value} {m : List Int} {c : Int} (h : FinO N na ncap most fb mb vm va vf w0 w marks (keyedM marks) arcs first) (hm : Ints w mv m) (hr : ∀ x ∈ m, 0 ≤ x ∧ x ≤ 1000000) (hl : m.length ≤ 100) (hin : m ∉ marks) (hms : ∀ y ∈ marks, ∀ x ∈ y, 0 ≤ x ∧ x ≤ 1000000) (hc : I64 c) (hmo : (marks.length : Int) = most) :
    Calls Try.prog 109 #[.pointer (some ⟨fb, 0, none⟩), mv, .int .i64 c] w fun e w' => e = .returned (.tuple #[.int .i64 0, .bool false]) ∧ Gr w w' := by
  have c3 := h.blk.cell (i := 3) rfl
  have c2 := h.blk.cell (i := 2) rfl
  obtain ⟨ma, mc, rfl, _, _⟩ := h.ms.len
  have c4 := h.blk.cell (i := 4) rfl
  have hk := name_key hl
  have hmem := keyedM_not hin hr hms
  have hmap := h.map
  have HL : ∀ w', Gr w w' → (Instr.lookup 133 (.map (some mb)) (.string (nameS m)) true).run Try.prog w' = .ok (.tuple #[.int .i64 0, .bool false]) w' := fun w' g => (hmap.gr g).look_no_ok nameLaw Try.underlying133 zeroInt2 hk hmem
  have HLH := Lib.hid HL
  have l0 := HL w.drew (by (repeat (first | exact Gr.refl _ | assumption | apply Gr.alloc | apply Gr.drew | apply Gr.drewN | refine Gr.trans ?_ (by assumption))))
  have q1 : ((marks.length : Int) == most) = true := by simpa using hmo
  clear HL hmap hmem hk h hmo
  go_enter Try.func109, Try.ntmps109
  go_wp2_with fail
  go_region_held3 (fun w' => w'.cell? ⟨fb, 3, none⟩ = some (.map (some mb)) ∧ (Instr.lookup 133 (.map (some mb)) (.string (nameS m)) true).run Try.prog w' = .ok (.tuple #[.int .i64 0, .bool false]) w') (first | go_keep | ((refine ⟨cell_gr c3 ?_, HLH.out _ ?_⟩); ((focus ((repeat (first | exact Gr.refl _ | assumption | apply Gr.alloc | apply Gr.drew | apply Gr.drewN | refine Gr.trans ?_ (by assumption))); done))); ((focus ((repeat (first | exact Gr.refl _ | assumption | apply Gr.alloc | apply Gr.drew | apply Gr.drewN | refine Gr.trans ?_ (by assumption))); done))))) (first | (go_at_call 125; (with_reducible refine (name_calls _ m _ (hm.gr ?_) hr hl).mono ?_); ((focus ((repeat (first | exact Gr.refl _ | assumption | apply Gr.alloc | apply Gr.drew | apply Gr.drewN | refine Gr.trans ?_ (by assumption))); done))); rintro _ w2 ⟨rfl, g2⟩))
  have G2 : Gr w w2 := by (repeat (first | exact Gr.refl _ | assumption | apply Gr.alloc | apply Gr.drew | apply Gr.drewN | refine Gr.trans ?_ (by assumption)))
  replace c2 := cell_gr c2 G2
  replace c4 := cell_gr c4 G2
  go_wp2_with fail
  go_ret2
  exact ⟨rfl, G2⟩
theorem cell_only {b : Nat} {w w' : World} {a : Addr} {v : Value} (h : w.cell? a = some v) (o : OnlyAt b w w') (hne : a.block ≠ b) : w'.cell? a = some v := by
  rw [World.cell?_of_block (o.2.2.2.2 a.block hne)]; exact h
theorem _root_.Go.Tok.OwnR.len1 {α : Type} {K : Kind α} {e base : Nat} {S : Nat → Prop} {w : World} {v : Value} {xs : List α} {x : α} (h : OwnR K e base S w v (xs ++ [x])) : ∃ a cap, v = .slice a (xs.length + 1) cap := by
  obtain ⟨a, cap, h1, _⟩ := h.len
  exact ⟨a, cap, by rw [h1, List.length_append, List.length_singleton]⟩
theorem _root_.Go.Tok.OwnI.len1 {e base : Nat} {w : World} {v : Value} {xs : List Int} {x : Int} (h : OwnI e base w v (xs ++ [x])) : ∃ a cap, v = .slice a (xs.length + 1) cap := by
  obtain ⟨a, cap, h1, _⟩ := h.ints.len
  exact ⟨a, cap, by rw [h1, List.length_append, List.length_singleton]⟩
theorem on_row {mv : Value} {m : List Int} (h : On (fun b => ¬ FinB w0.heap.size fb mb vm va vf b) (fun w => Ints w mv m) w) : On (fun b => (w0.heap.size ≤ b ∧ b ≠ fb ∧ b ≠ mb ∧ va.ownBlock ≠ some b ∧ vf.ownBlock ≠ some b) ∧ vm.ownBlock ≠ some b) (fun w => rowK.R w [mv] m) w :=
  (h.mono (S' := fun b => (w0.heap.size ≤ b ∧ b ≠ fb ∧ b ≠ mb ∧ va.ownBlock ≠ some b ∧ vf.ownBlock ≠ some b) ∧ vm.ownBlock ≠ some b) fun b _ hb => ⟨⟨Nat.le_of_not_lt fun e => hb (.inl e), fun e => hb (.inr (.inl e)), fun e => hb (.inr (.inr (.inl e))), fun e => hb (.inr (.inr (.inr (.inr (.inl e))))), fun e => hb (.inr (.inr (.inr (.inr (.inr e)))))⟩, fun e => hb (.inr (.inr (.inr (.inl e))))⟩).imp fun w hw => ⟨mv, rfl, hw⟩
theorem one_cell (w : World) (v : Value) (t : TypeId) : ∀ (j : Nat) (u : Value), [v][j]? = some u → (w.alloc (.cells #[v] t)).cell? ((⟨w.heap.size, 0, none⟩ : Addr).add j) = some u := by
  intro j u hj
  cases j with
  | zero => simp at hj; subst hj; rw [add_none]; exact lit_cell rfl
  | succ j => simp at hj
set_option maxHeartbeats 4000000 in
set_option maxRecDepth 100000 in
theorem find_new {mv : Value} {m : List Int} {c : Int} (h : FinO N na ncap most fb mb vm va vf w0 w marks (keyedM marks) arcs first) (hm : On (fun b => ¬ FinB w0.heap.size fb mb vm va vf b) (fun w => Ints w mv m) w) (hr : ∀ x ∈ m, 0 ≤ x ∧ x ≤ 1000000) (hl : m.length ≤ 100) (hin : m ∉ marks) (hms : ∀ y ∈ marks, ∀ x ∈ y, 0 ≤ x ∧ x ≤ 1000000) (hc : I64 c) (hmo : (marks.length : Int) ≠ most) (hml : marks.length ≤ 1000) (hfl : first.length ≤ 1000) :
    Calls Try.prog 109 #[.pointer (some ⟨fb, 0, none⟩), mv, .int .i64 c] w fun e w' => ∃ vm' vf', e = .returned (.tuple #[.int .i64 (marks.length : Int), .bool true]) ∧ FinO N na ncap most fb mb vm' va vf' w0 w' (marks ++ [m]) (keyedM (marks ++ [m])) arcs (first ++ [c]) ∧ Bes (FinB w0.heap.size fb mb vm va vf) (FinB w0.heap.size fb mb vm' va vf') w w' := by
  have c3 := h.blk.cell (i := 3) rfl
  have c2 := h.blk.cell (i := 2) rfl
  obtain ⟨ma, mc, rfl, _, _⟩ := h.ms.len
  have c4 := h.blk.cell (i := 4) rfl
  have hk := name_key hl
  have hmem := keyedM_not hin hr hms
  have hmap := h.map
  have HL : ∀ w', Gr w w' → (Instr.lookup 133 (.map (some mb)) (.string (nameS m)) true).run Try.prog w' = .ok (.tuple #[.int .i64 0, .bool false]) w' := fun w' g => (hmap.gr g).look_no_ok nameLaw Try.underlying133 zeroInt2 hk hmem
  have HLH := Lib.hid HL
  have l0 := HL w.drew (by (repeat (first | exact Gr.refl _ | assumption | apply Gr.alloc | apply Gr.drew | apply Gr.drewN | refine Gr.trans ?_ (by assumption))))
  have q1 : ((marks.length : Int) == most) = false := by simpa using hmo
  have hmn := hm.now
  have HK := Lib.hid hk
  have HM := Lib.hid hmem
  have hfm : fb ≠ mb := h.ap.fm
  clear HL hmap hmem hmo hk
  go_enter Try.func109, Try.ntmps109
  go_wp2_with fail
  go_region_held3 (fun w' => w'.cell? ⟨fb, 3, none⟩ = some (.map (some mb)) ∧ (Instr.lookup 133 (.map (some mb)) (.string (nameS m)) true).run Try.prog w' = .ok (.tuple #[.int .i64 0, .bool false]) w') (first | go_keep | ((refine ⟨cell_gr c3 ?_, HLH.out _ ?_⟩); ((focus ((repeat (first | exact Gr.refl _ | assumption | apply Gr.alloc | apply Gr.drew | apply Gr.drewN | refine Gr.trans ?_ (by assumption))); done))); ((focus ((repeat (first | exact Gr.refl _ | assumption | apply Gr.alloc | apply Gr.drew | apply Gr.drewN | refine Gr.trans ?_ (by assumption))); done))))) (first | (go_at_call 125; (with_reducible refine (name_calls _ m _ (hmn.gr ?_) hr hl).mono ?_); ((focus ((repeat (first | exact Gr.refl _ | assumption | apply Gr.alloc | apply Gr.drew | apply Gr.drewN | refine Gr.trans ?_ (by assumption))); done))); rintro _ w2 ⟨rfl, g2⟩))
  have G2 : Gr w w2 := by (repeat (first | exact Gr.refl _ | assumption | apply Gr.alloc | apply Gr.drew | apply Gr.drewN | refine Gr.trans ?_ (by assumption)))
  replace c2 := cell_gr c2 G2
  replace c3 := cell_gr c3 G2
  replace c4 := cell_gr c4 G2
  replace hmn := hmn.gr G2
  have h2 := h.gr' G2
  replace hm := hm.gr G2
  have hmap := h2.map
  obtain ⟨f, hf⟩ := MAt.store_fn nameLaw Try.underlying133 hmap (.int .i64 (marks.length : Int)) HK.out HM.out
  have HF := Lib.hid hf
  clear l0 HLH g2 hf hmap
  go_wp2_with fail
  go_region_held3 (fun w' => w'.cell? ⟨fb, 3, none⟩ = some (.map (some mb))) (first | go_keep | ((refine cell_gr c3 ?_); ((focus ((repeat (first | exact Gr.refl _ | assumption | apply Gr.alloc | apply Gr.drew | apply Gr.drewN | refine Gr.trans ?_ (by assumption))); done)))) | ((refine cell_only (cell_gr c3 ?_) o4 hfm); ((focus ((repeat (first | exact Gr.refl _ | assumption | apply Gr.alloc | apply Gr.drew | apply Gr.drewN | refine Gr.trans ?_ (by assumption))); done))))) (first | (go_at_call 125; (with_reducible refine (name_calls _ m _ (hmn.gr ?_) hr hl).mono ?_); ((focus ((repeat (first | exact Gr.refl _ | assumption | apply Gr.alloc | apply Gr.drew | apply Gr.drewN | refine Gr.trans ?_ (by assumption))); done))); rintro _ w3 ⟨rfl, g3⟩; have r4 := (HF.out _ ((Gr.refl _).drew.trans g3)).1; have o4 := (HF.out _ ((Gr.refl _).drew.trans g3)).2.1))
  have m4 := (HF.out _ ((Gr.refl _).drew.trans g3)).2.2
  have G3 : Gr w2 w3 := by (repeat (first | exact Gr.refl _ | assumption | apply Gr.alloc | apply Gr.drew | apply Gr.drewN | refine Gr.trans ?_ (by assumption)))
  have h4 := (h2.gr' G3).put_map o4 m4
  have bs4 := (h2.gr' G3).put_map_bes o4
  have hm4 := (hm.gr G3).bes bs4
  have b24 : Bes (FinB w0.heap.size fb mb (.slice ma marks.length mc) va vf) (FinB w0.heap.size fb mb (.slice ma marks.length mc) va vf) w (f w3) := ((G2.trans G3).bes).trans bs4
  clear o4 m4 r4 bs4 hm h2 HF g3
  generalize f w3 = w4 at h4 hm4 b24 ⊢
  have c5 := h4.blk.cell (i := 4) rfl
  have hrow := on_row hm4
  have GA : Gr w4 (w4.alloc (.cells #[mv] 32)) := (Gr.refl _).alloc _
  have h4a := h4.gr' GA
  obtain ⟨mva, mvc, rfl, _, _⟩ := hmn.len
  go_upto_region 9 with (at_builtin; refine app_one rowTy _ _ w0.heap.size _ (.slice ma marks.length mc) marks ⟨w4.heap.size, 0, none⟩ m [.slice mva m.length mvc] (by rfl) (by rfl) (by rfl) (by rfl) h4a.ms (one_cell _ _ _) (hrow.gr GA) (by omega) (by unfold maxLen; omega) h4a.gr.le ?_; intro v' w5 ho hgs hgb hat; obtain ⟨a5, n5, rfl⟩ := ho.len1; have bk5 : Blk w5 fb _ _ := h4a.blk.grown hgb (fun e => h4a.ap.vmf e.symm); have f5 := bk5.frozen 4; have d5 := bk5.cell (i := 4) rfl)
  obtain ⟨h5, bs5⟩ := h4a.put_mark hgb ho hat
  have b25 := (b24.trans GA.bes).trans bs5
  clear hgs hgb hat bk5 f5 d5 ho bs5 b24 h4 h4a hrow
  generalize (w5.setCell ⟨fb, 4, none⟩ _) = w6 at h5 b25 ⊢
  have c6 := h5.blk.cell (i := 6) rfl
  obtain ⟨fa, fc, rfl, _, _⟩ := h5.fi.ints.len
  have T := intTy
  have h6a := h5.gr' ((Gr.refl _).alloc (.cells #[.int .i64 c] 3))
  go_upto_region 10 with (at_builtin; refine app_int T _ _ w0.heap.size (.slice fa first.length fc) first ⟨w6.heap.size, 0, none⟩ c (by rfl) (by rfl) (by rfl) (by rfl) h6a.fi (lit_cell rfl) hc (by omega) h6a.gr.le ?_; intro v' w7 ho hgs hgb hat; obtain ⟨a7, n7, rfl⟩ := ho.len1; have bk7 : Blk w7 fb _ _ := h6a.blk.grown hgb (fun e => h6a.ap.vff e.symm); have f7 := bk7.frozen 6; have d7 := bk7.cell (i := 6) rfl)
  obtain ⟨h7, bs7⟩ := h6a.put_first hgb ho hat
  have b27 := (b25.trans ((Gr.refl _).alloc _).bes).trans bs7
  clear hgs hgb hat bk7 f7 d7 ho bs7 b25 h6a h5
  generalize (w7.setCell ⟨fb, 6, none⟩ _) = w8 at h7 b27 ⊢
  go_wp2_with fail
  go_ret2
  refine ⟨_, _, rfl, ?_, b27⟩
  rw [keyedM_snoc]
  exact h7
end
end Go.Proofs.Ytelfbfjegmncaaa
