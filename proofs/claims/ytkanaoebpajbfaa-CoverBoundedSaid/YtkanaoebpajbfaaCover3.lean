/- Contracts of the tree's ahead and again: a range over the way up. -/
import Derived.Test.YtkanaoebpajbfaaCover2
namespace Go.Proofs.Ytkanaoebpajbfaa
open Go.RowKit Go.Tok Go.Shelf
set_option linter.unusedVariables false
set_option linter.unusedSimpArgs false
attribute [local go_sem] Oper.semAt_some
/-- a post that asks for no panic -/
def calmPost (Q : Exit → Act → World → Prop) : Exit → Act → World → Prop
  | .normal, a, w => Q .normal a w
  | .ret, a, w => Q .ret a w
  | .exit i, a, w => Q (.exit i) a w
  | .goto t, a, w => Q (.goto t) a w
  | .panic _, _, _ => False
  | .outgrown, _, _ => False
theorem calm_wp {P : Program} {c : Code} {Q : Exit → Act → World → Prop} {a : Act} {w : World} (h : c.wp P (calmPost Q) a w) : c.wp P Q a w :=
  Code.wp_mono (fun e a w q => by cases e <;> first | exact q | exact q.elim) h
theorem ahead_calls (p : Option Addr) (k : Int) (w : World) :
    Calls Try.prog 108 #[.pointer p, .int .i64 k] w fun e w' => e = .returned (.func (.func 155) #[] #[.pointer (some ⟨w.heap.size + 1, 0, none⟩), .pointer (some ⟨w.heap.size, 0, none⟩)]) ∧
      w' = (w.alloc (.cells #[.pointer p] 91)).alloc (.cells #[.int .i64 k] 3) := by
  go_enter Try.func108, Try.ntmps108
  go_wp2_with fail
  go_ret
  exact ⟨rfl, rfl⟩
theorem keepsFrom_gr {A B : World} (n : Nat) (g : Gr A B) : KeepsFrom n A B := ⟨g.le, fun k o _ hk _ => (g.below.block k (Array.getElem?_eq_some_iff.1 hk).1).trans hk⟩
/-- the tree in memory, as ahead reads it -/
def TreeM (w : World) (tb : Nat) (ks : List KnotD) : Prop := ∃ kn ko kc, w.cell? ⟨tb, 2, none⟩ = some (.slice (some ⟨kn, ko, none⟩) ks.length kc) ∧ Rd knK w (.slice (some ⟨kn, ko, none⟩) ks.length kc) ks
set_option maxRecDepth 100000 in
set_option maxHeartbeats 2000000 in
theorem again_calls (tb k : Nat) (ks : List KnotD) (w : World) (hT : TreeM w tb ks) (hup : UpOk ks) (hk : k < ks.length) (hlen : ks.length ≤ 1000) (hml : ∀ j, j < ks.length → (ix ks j).mark.length ≤ 1000) :
    Calls Try.prog 45 #[.pointer (some ⟨tb, 0, none⟩), .int .i64 k] w fun e w' => e = .returned (.bool (againB ks k)) ∧ Gr w w' := by
  obtain ⟨kn, ko, kc, hc2, hR⟩ := hT
  obtain ⟨mv, hKA, hKM⟩ := hR.knots
  obtain ⟨l0, hch, hanc⟩ := chain_anc hup (k := (ix ks k).up) (by have := (hup k hk).2; omega)
  refine (callsIn_wide (n := 5)).1 ?_
  refine callsIn_of_wp_marks Try.func45 rfl trivial ?_ rfl
  simp only [Try.ntmps45, List.size_toArray, List.length_cons, List.length_nil, Nat.reduceAdd, Nat.reduceSub, Array.replicate_succ, Array.replicate_zero, List.push_toArray, List.append_toArray, List.nil_append, List.cons_append]
  refine wpIn_wide.2 (calm_wp ?_)
  obtain ⟨wb, hwb⟩ : ∃ y, y = ((w.alloc (.cells #[.pointer (some ⟨tb, 0, none⟩)] 91)).alloc (.cells #[.int .i64 k] 3)).alloc (.cells #[.bool false] 4) := ⟨_, rfl⟩
  have GB : Gr w wb := by rw [hwb]; exact (((Gr.refl w).alloc _).alloc _).alloc _
  have HWB := Lib.hid hwb
  have b0 : Blk wb w.heap.size 91 #[.pointer (some ⟨tb, 0, none⟩)] := by rw [hwb]; exact (Blk.new rfl).gr (((Gr.refl _).alloc _).alloc _)
  have b1 : Blk wb (w.heap.size + 1) 3 #[.int .i64 k] := by rw [hwb]; exact (Blk.new (by simp)).gr ((Gr.refl _).alloc _)
  have b2 : Blk wb (w.heap.size + 1 + 1) 4 #[.bool false] := by rw [hwb]; exact Blk.new (by simp)
  have HKX := Lib.hid (show KnAt wb kn ko ks mv from hKA.kp GB.kp (S := All) trivial)
  have hX2 := cell_gr hc2 GB
  have HKX0 := Lib.hid hKA
  obtain ⟨x1, x2⟩ := HKX.out k hk
  have y0 := b0.cell (i := 0) (v := .pointer (some ⟨tb, 0, none⟩)) rfl
  have y1 := b1.cell (i := 0) (v := .int .i64 k) rfl
  have hk0 : (0 : Int) ≤ (k : Int) := by omega
  have hkI : (k : Int) < (ks.length : Int) := by omega
  have HB0 := Lib.hid b0
  have HB1 := Lib.hid b1
  have HB2 := Lib.hid b2
  have HM := Lib.hid hKM
  have HCH := Lib.hid hch
  have HAN := Lib.hid hanc
  clear hwb b0 b1 b2 hKA hKM hR hch hanc
  go_wp2_with fail
  rw [← HWB.out]
  refine cut9 (S := fun w' => w'.cell? ⟨w.heap.size, 0, none⟩ = some (.pointer (some ⟨tb, 0, none⟩)) ∧ w'.cell? ⟨w.heap.size + 1, 0, none⟩ = some (.int .i64 k) ∧ w'.cell? ⟨tb, 2, none⟩ = some (.slice (some ⟨kn, ko, none⟩) ks.length kc) ∧ w'.cell? ⟨kn, ko + k * 3, none⟩ = some (.int .i64 (ix ks k).up)) (by kernel_rfl) (by kernel_rfl) (by exact ⟨y0, y1, hX2, x1⟩) (fun hHeld => ?_)
  (refine hold0 (v := ?_) (by kernel_rfl) (by kernel_rfl) (by kernel_rfl) (fun _ _ _ h => h) (by rfl) (fun w' hSw => ?_) (by assumption) ?_; rotate_left 1; · ((try dsimp only at hSw); (try go_simp); (try (with_reducible rfl))); (try simp only [Act.put, List.setIfInBounds_toArray, List.set_cons_zero, List.set_cons_succ]))
  (refine hold1 (v := ?_) (by kernel_rfl) (by kernel_rfl) (by kernel_rfl) (fun _ _ _ h => h) (by rfl) (fun w' hSw => ?_) (by assumption) ?_; rotate_left 1; · ((try dsimp only at hSw); (try go_simp); (try (with_reducible rfl))); (try simp only [Act.put, List.setIfInBounds_toArray, List.set_cons_zero, List.set_cons_succ]))
  (refine hold2 (v := ?_) (by kernel_rfl) (by kernel_rfl) (by kernel_rfl) (fun _ _ _ h => h) (by rfl) (fun w' hSw => ?_) (by assumption) ?_; rotate_left 1; · ((try dsimp only at hSw); (try go_simp); (try (with_reducible rfl))); (try simp only [Act.put, List.setIfInBounds_toArray, List.set_cons_zero, List.set_cons_succ]))
  (refine hold3 (v := ?_) (by kernel_rfl) (by kernel_rfl) (by kernel_rfl) (fun _ _ _ h => h) (by rfl) (fun w' hSw => ?_) (by assumption) ?_; rotate_left 1; · ((try dsimp only at hSw); (try go_simp); (try (with_reducible rfl))); (try simp only [Act.put, List.setIfInBounds_toArray, List.set_cons_zero, List.set_cons_succ]))
  (refine hold4 (v := ?_) (by kernel_rfl) (by kernel_rfl) (by kernel_rfl) (fun _ _ _ h => h) (by rfl) (fun w' hSw => ?_) (by assumption) ?_; rotate_left 1; · ((try dsimp only at hSw); (try go_simp); (try (with_reducible rfl))); (try simp only [Act.put, List.setIfInBounds_toArray, List.set_cons_zero, List.set_cons_succ]))
  (refine hold5 (v := ?_) (by kernel_rfl) (by kernel_rfl) (by kernel_rfl) (fun _ _ _ h => h) (by rfl) (fun w' hSw => ?_) (by assumption) ?_; rotate_left 1; · ((try dsimp only at hSw); (try go_simp); (try (with_reducible rfl))); (try simp only [Act.put, List.setIfInBounds_toArray, List.set_cons_zero, List.set_cons_succ]))
  (refine hold6 (v := ?_) (by kernel_rfl) (by kernel_rfl) (by kernel_rfl) (fun _ _ _ h => h) (by rfl) (fun w' hSw => ?_) (by assumption) ?_; rotate_left 1; · ((try dsimp only at hSw); (try go_simp); (try (with_reducible rfl))); (try simp only [Act.put, List.setIfInBounds_toArray, List.set_cons_zero, List.set_cons_succ]))
  (refine hold7 (v := ?_) (by kernel_rfl) (by kernel_rfl) (by kernel_rfl) (fun _ _ _ h => h) (by rfl) (fun w' hSw => ?_) (by assumption) ?_; rotate_left 1; · ((try dsimp only at hSw); (try go_simp); (try (with_reducible rfl))); (try simp only [Act.put, List.setIfInBounds_toArray, List.set_cons_zero, List.set_cons_succ]))
  (refine hold8 (v := ?_) (by kernel_rfl) (by kernel_rfl) (by kernel_rfl) (fun _ _ _ h => h) (by rfl) (fun w' hSw => ?_) (by assumption) ?_; rotate_left 1; · ((try dsimp only at hSw); (try go_simp); (try (with_reducible rfl))); (try simp only [Act.put, List.setIfInBounds_toArray, List.set_cons_zero, List.set_cons_succ]))
  refine ends9 (by kernel_rfl) (fun K hK => ?_)
  go_simp
  go_at_call 108
  refine (ahead_calls _ _ _).mono ?_
  rintro _ w2 ⟨rfl, hw2⟩
  refine hK.out _ _ ?_
  clear hK K
  go_wp2_with fail
  obtain ⟨tx, htx⟩ : ∃ x, x = wb.drew.heap.size := ⟨_, rfl⟩
  rw [← htx]
  have htb : tx = wb.heap.size := htx
  have hs2 : w2.heap.size = tx + 1 + 1 := by rw [hw2]; simp [htb]
  have G2 : Gr wb w2 := by rw [hw2]; exact (((Gr.refl _).drew).alloc _).alloc _
  have c0 : w2.cell? ⟨tx, 0, none⟩ = some (.pointer (some ⟨tb, 0, none⟩)) := by rw [hw2, htb]; exact ((Blk.new rfl : Blk (wb.drew.alloc (.cells #[.pointer (some ⟨tb, 0, none⟩)] 91)) wb.heap.size 91 #[.pointer (some ⟨tb, 0, none⟩)]).gr ((Gr.refl _).alloc _)).cell (i := 0) rfl
  have bk : Blk w2 (tx + 1) 3 #[.int .i64 (ix ks k).up] := by rw [hw2, htb]; exact Blk.new (by simp)
  have hKW := cell_gr hX2 G2
  have htbl : tb < w.heap.size := cell_block hc2
  have hknl : kn < w.heap.size := cell_block (HKX0.out k hk).1
  have hwbl := GB.le
  have hb2l := HB2.out.lt
  have hAA : AheadAt w2 tx tb kn ko kc ks mv := ⟨c0, hKW, HKX.out.kp G2.kp (S := All) trivial⟩
  have HDW := Lib.hid (Nat.le_trans GB.le G2.le)
  refine (wpIn_wide (n := 5)).1 ?_
  refine wpIn_rangeFunc_S (F := Fence.wide) rfl (by omega) (gf := 155) (lb := #[.pointer (some ⟨tx + 1, 0, none⟩), .pointer (some ⟨tx, 0, none⟩)]) rfl trivial (Go.Proofs.enters_of Try.func155 (by kernel_rfl) rfl)
    (encs := fun j : Nat => #[mv j]) (R := AheadR tx tb kn (tx + 1)) (kb := tx + 1) (S := fun xs => xs = l0) (Sp := fun pre => pre <+: l0) ?hR ?hkb
    (ahead1_seq (5 - 1) (by omega) w2 HCH.out hAA (bk.cell (i := 0) rfl) (bk.frozen 0) ?n1 ?n2 ?n3 ?n4 hlen hup) (fun _ => rfl)
    (fun pre W => (∀ j ∈ pre, eqB (ix ks j).mark (ix ks k).mark = false) ∧ Gr wb W)
    (fun c pre W => c = .ret ∧ (∃ j ∈ pre, eqB (ix ks j).mark (ix ks k).mark = true) ∧ W.cell? ⟨w.heap.size + 1 + 1, 0, none⟩ = some (.bool true) ∧ Gr w W)
    ?hI ?hIx ⟨by simp, G2⟩
    (fun x => { tmps := #[.pointer (some ⟨tb, 0, none⟩), .int .i64 k, .pointer (some ⟨w.heap.size, 0, none⟩), .pointer (some ⟨w.heap.size + 1, 0, none⟩), .pointer (some ⟨w.heap.size + 1 + 1, 0, none⟩), mv x, .pointer (some ⟨tb, 0, none⟩), .pointer (some ⟨tb, 0, none⟩), .pointer (some ⟨tb, 0, none⟩), .pointer (some ⟨tb, 2, none⟩), .slice (some ⟨kn, ko, none⟩) ks.length kc, .int .i64 k, .pointer (some ⟨kn, ko + k * 3, none⟩), .pointer (some ⟨kn, ko + k * 3, none⟩), .int .i64 (ix ks k).up, .func (.func 155) #[] #[.pointer (some ⟨tx + 1, 0, none⟩), .pointer (some ⟨tx, 0, none⟩)], mv x, undef, undef, undef, undef, undef, undef, undef, undef, undef, undef], defers := [] }) ?assign ?body ?done ?stop
  case hR => rintro b (rfl | rfl | rfl | rfl) <;> omega
  case hkb => omega
  case n1 => omega
  case n2 => omega
  case n3 => omega
  case n4 => exact ⟨by omega, by omega, by omega, by omega⟩
  case hI => exact fun s A B h kk => ⟨h.1, h.2.kpb_on kk fun b hb => ⟨by omega, by omega⟩⟩
  case hIx => exact fun c s A B h kk => ⟨h.1, h.2.1, cell_kp kk.kp h.2.2.1 ⟨(by show w.heap.size + 1 + 1 < w2.heap.size; omega), (by show w.heap.size + 1 + 1 ≠ tx + 1; omega)⟩, h.2.2.2.kpb_on kk fun b hb => ⟨by omega, by omega⟩⟩
  case assign =>
    clear htx htb hs2
    intro l x W K hK
    gi_wp2
    exact hK
  case body =>
    rintro l pre x W hWs ⟨hpre, hG⟩ hsp
    have hx : x < ks.length := chain_lt HCH.out x (hsp.subset (by simp))
    have HW := Lib.hid hWs
    have hmx : Try.prog.follows .mixedOrders = true := by kernel_rfl
    have z0 := cell_gr y0 hG
    have z1 := cell_gr y1 hG
    have z2 := cell_gr hX2 hG
    have z3 := cell_gr x2 hG
    have HS2 := Lib.hid hs2
    have bR := (HB2.out.gr hG)
    have z4 := bR.cell (i := 0) (v := .bool false) rfl
    have z5 := bR.frozen 0
    have HBR := Lib.hid bR
    have e1 := ((HM.out x hx).gr (GB.trans hG))
    have e2 := ((HM.out k hk).gr (GB.trans hG))
    have HE1 := Lib.hid (e1.gr ((Gr.refl _).drew))
    have HE2 := Lib.hid (e2.gr ((Gr.refl _).drew))
    have HGB := Lib.hid GB
    have HG := Lib.hid hG
    clear htx htb hs2 hWs c0 bk hAA hKW hw2 G2 hwbl hb2l htbl hknl y0 y1 hX2 x1 x2 e1 e2 bR GB hG
    gi_wp2
    gi_region_with_o (refine ⟨trivial, ?_⟩; gi_at_call 18; refine (CallsIn.inRound l (callsIn_wide.2 (Equal_calls _ _ (ix ks x).mark (ix ks k).mark _ HE1.out HE2.out))).mono ?_; rintro _ W4 ⟨rfl, g4⟩)
    all_goals have g5 : Gr W W4 := ((Gr.refl W).drew).trans g4
    all_goals have bR4 := HBR.out.gr g5
    all_goals have q4 := bR4.cell (i := 0) (v := .bool false) rfl
    all_goals have q5 := bR4.frozen 0
    all_goals have HG5 := Lib.hid g5
    all_goals clear bR4 z0 z1 z2 z3 z4 z5 g4 g5
    all_goals rcases hb : eqB (ix ks x).mark (ix ks k).mark with _ | _
    all_goals gi_wp2
    all_goals first
      | exact ⟨keepsFrom_gr _ HG5.out, HG5.out.kp, fun j hj => (List.mem_append.1 hj).elim (hpre j) (fun e => by rw [List.mem_singleton.1 e]; exact hb), HG.out.trans HG5.out⟩
      | exact ⟨(keepsFrom_gr _ HG5.out).trans ((KeepsOthers.setCell _ _ _).from _), rfl, ⟨x, by simp, hb⟩, World.cell?_setCell_same' _ _ _ (by rw [q4]; rfl), ((HGB.out.trans HG.out).trans HG5.out).setCell (by show w.heap.size ≤ w.heap.size + 1 + 1; omega) _⟩
  case done =>
    clear htx htb hs2
    rintro D ys W hD rfl ⟨hne, hG⟩ hK
    have bR := (HB2.out.gr hG)
    have z4 := bR.cell (i := 0) (v := .bool false) rfl
    have z5 := bR.frozen 0
    have HZ4 := Lib.hid z4
    clear y0 y1 hX2 x1 x2 c0 bk hAA hKW hw2 G2 bR
    go_wp2_with fail
    have hK' := (KeepsOthers.setCell W ⟨w.heap.size + 1 + 1, 0, none⟩ (.bool false)).same D _ hK rfl
    refine ⟨by simp, .inl ⟨_, _, rfl, run_takeDeferred hK', ?_⟩⟩
    have hc5 := cell_kept (World.cell?_setCell_same' W ⟨w.heap.size + 1 + 1, 0, none⟩ (.bool false) (by rw [HZ4.out]; rfl)) (grownBy_putObj' _ D (.deferred none)) (fun r e => by cases e; exact ⟨_, hK', rfl⟩)
    have hag : againB ks k = false := by
      unfold againB
      rw [← HAN.out, List.any_map]
      exact List.any_eq_false.2 fun j hj => by simp [hne j hj]
    refine ⟨.bool false, ?_, by rw [hag], (((GB.trans hG).setCell (by show w.heap.size ≤ w.heap.size + 1 + 1; omega) _).kpb_on (S := fun b => b < w.heap.size) (put_kpb _ (by have := HDW.out; omega)) (fun b hb => hb))⟩
    simp [results, Try.f45, go_sem, hc5]
  case stop =>
    clear htx htb hs2
    rintro D c pre W hD hpre ⟨rfl, hin, hcr, hG⟩ hK
    have HCR := Lib.hid hcr
    clear y0 y1 hX2 x1 x2 c0 bk hAA hKW hw2 G2 hcr
    gi_wp2
    refine ⟨by simp, .inl ⟨_, _, rfl, run_takeDeferred hK, ?_⟩⟩
    have hc5 := cell_kept HCR.out (grownBy_putObj' _ D (.deferred none)) (fun r e => by cases e; exact ⟨_, hK, rfl⟩)
    have hag : againB ks k = true := by
      unfold againB
      rw [← HAN.out, List.any_map]
      obtain ⟨j, hj, he⟩ := hin
      exact List.any_eq_true.2 ⟨j, hpre.subset hj, he⟩
    refine ⟨.bool true, ?_, by rw [hag], hG.kpb_on (S := fun b => b < w.heap.size) (put_kpb _ (by have := HDW.out; omega)) (fun b hb => hb)⟩
    simp [results, Try.f45, go_sem, hc5]
end Go.Proofs.Ytkanaoebpajbfaa
