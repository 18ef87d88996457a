/- The call CasesSaid answers true at any net, places and operations that read as data (at most 8796093022208 operations); nothing that lay there turns. -/
import Derived.Test.YtidpppfimkhgkaaAlive16
import Derived.Test.YtidpppfimkhgkaaTongCase
import Derived.Test.YtidpppfimkhgkaaTong4
import Derived.Test.YtidpppfimkhgkaaGM
import Derived.Test.YtidpppfimkhgkaaLast24n
namespace Go.Tok
open Go.Proofs.Ytidpppfimkhgkaa Go.RowKit
theorem csaid_len {N : NetD} {i : Int} {ops : List CopD} {c : CaseD} {l : List Int} (h : playF N i ops = ((c, l), 0)) : ∃ j : Nat, i = j ∧ netOkB N = true ∧ j < N.places.toNat ∧ l.length = ops.length ∧ (c, l) = playTo N ⟨oneN N.places.toNat (j : Int), List.replicate N.trans.length 0⟩ ops ops.length := by
  cases hok : netOkB N
  · rw [playF_bad (begin_wrong hok) (by decide)] at h; cases h
  by_cases hi : i < 0 ∨ N.places ≤ i
  · rw [playF_bad (begin_none hok hi) (by decide)] at h; cases h
  · obtain ⟨j, rfl⟩ := Int.eq_ofNat_of_zero_le (show 0 ≤ i by omega)
    rw [playF_ok (begin_ok hok (by omega) (by omega))] at h
    have h1 := congrArg Prod.fst h
    simp only [] at h1
    have h2 := playTo_len N ⟨oneN N.places.toNat (j : Int), List.replicate N.trans.length 0⟩ ops ops.length (Nat.le_refl _)
    refine ⟨j, rfl, rfl, by omega, ?_, h1.symm⟩
    rw [h1] at h2
    exact h2
theorem play_busy {N : NetD} {c0 : CaseD} {ops : List CopD} {n : Nat} (h0 : c0.busy.length = n) : ∀ k, k ≤ ops.length → (playTo N c0 ops k).1.busy.length = n := by
  intro k
  induction k with
  | zero => intro _; exact h0
  | succ k ih =>
    intro hk
    have hb := ih (by omega)
    rw [play_step (by omega)]
    split
    · rename_i hz
      obtain ⟨hck, h14, j, hj, hjl, hf, hd⟩ := doF_zero hz
      rcases hd2 : doK N (playTo N c0 ops k).1 (ix ops k).kind j with ⟨c', e⟩
      rw [hd2] at hd
      rw [hd] at hz ⊢
      have he0 : e = 0 := hz
      subst he0
      have F := netOk_tr hck.ok hjl
      show c'.busy.length = n
      by_cases h1 : (ix ops k).kind = 1
      · rw [h1, doK1] at hd2
        by_cases h5 : (fireF N (playTo N c0 ops k).1.mark j).2 = 0
        · rw [withM_ok h5] at hd2; cases hd2; exact hb
        · rw [withM_bad h5] at hd2; exact absurd (Prod.mk.inj hd2).2 h5
      by_cases h2 : (ix ops k).kind = 2
      · rw [h2] at hd2
        rcases doK2_cases hck hjl (kind2 (by omega) hf) with ⟨e, h5, h6⟩ | ⟨x, h5, B⟩
        · rw [hd2] at h5; cases h5; exact absurd rfl h6
        · rw [hd2] at h5; cases h5; rw [B.busy, List.length_set]; exact hb
      by_cases h3 : (ix ops k).kind = 3
      · rw [h3, doK3] at hd2
        have := (back_cases hck hjl (by have := F.post; have := hck.ml; omega) hd2).2.2.1
        rw [this, List.length_set]; exact hb
      · have h4 : (ix ops k).kind = 4 := by omega
        rw [h4, doK4] at hd2
        have := (back_cases hck hjl (by have := F.pre; have := hck.ml; omega) hd2).2.2.1
        rw [this, List.length_set]; exact hb
    · exact hb
/-- what CasesSaid stands on -/
structure CsOk (N : NetD) (i o : Int) (ops : List CopD) (c0 c : CaseD) (l : List Int) : Prop where
  ll : l.length = ops.length
  bl : c.busy.length ≤ 24
  err : ∀ k, k < ops.length → nth l k = (doF N (playTo N c0 ops k).1 (ix ops k).kind (ix ops k).tran).2
  word : c.mark = oneN (startLen N) o → maxF (c.busy ++ [0]) ≤ 0 → ∀ b, HasMeans N i o (endTo N c0 ops ops.length) b → hasErr N i o = 0 → b = true
theorem csOk_mk {N : NetD} {i o : Int} {ops : List CopD} {c : CaseD} {l : List Int} (h : playF N i ops = ((c, l), 0)) : ∃ c0, CsOk N i o ops c0 c l := by
  obtain ⟨j, rfl, hok, hj, hl, hp⟩ := csaid_len h
  have e1 : c = (playTo N ⟨oneN N.places.toNat (j : Int), List.replicate N.trans.length 0⟩ ops ops.length).1 := by rw [← hp]
  have e2 : l = (playTo N ⟨oneN N.places.toNat (j : Int), List.replicate N.trans.length 0⟩ ops ops.length).2 := by rw [← hp]
  refine ⟨_, hl, by rw [e1, play_busy (n := N.trans.length) (by simp) ops.length (Nat.le_refl _)]; exact netOk_len hok, fun k hk => by rw [e2]; exact play_err ops.length (Nat.le_refl _) k hk, fun hm hb b hM h0 => ?_⟩
  obtain ⟨a, d, s, ha, hd, hO, hW, hiff⟩ := hM.2 h0
  rw [hiff]
  have hs := startLen_ok hok
  obtain rfl : a = j := by omega
  rw [hd] at hm
  refine case_word (c := ⟨oneN N.places.toNat (a : Int), List.replicate N.trans.length 0⟩) hW ?_ (by rw [← e1]; exact hm) (fun t => ?_)
  · rw [hs]; exact flat_start hok hj
  · rw [← e1]
    have h3 := (maxF_le 0).1 hb
    by_cases ht : t < c.busy.length
    · rw [nth_lt ht]; exact h3.2 _ (List.getElem_mem ht)
    · rw [nth_ge (by omega)]; exact Int.le_refl _
end Go.Tok
namespace Go.Proofs.Ytidpppfimkhgkaa
open Go.RowKit Go.Tok
set_option linter.unusedVariables false
set_option maxHeartbeats 600000 in
set_option maxRecDepth 100000 in
theorem CasesSaid_walk {v u : Value} {N : NetD} {i o : Int} {ops : List CopD} (w : World) (hN : NetR w v N) (hi : I64 i) (ho : I64 o) (hu0 : Rd copK w u ops ∧ ops.length ≤ 8796093022208) :
    Calls Try.prog 14 #[v, .int .i64 i, .int .i64 o, u] w fun e w' => e = .returned (.bool true) ∧ Gr w w' := by
  obtain ⟨hu, hul⟩ := hu0
  have hN' := hN
  obtain ⟨a, cap, rfl, hnl, hncap, hpl, hT⟩ := hN.open_
  have hpl1 := hpl.1
  have hpl2 := hpl.2
  obtain ⟨ua, uc, rfl, ul, ul'⟩ := hu.len
  rcases hp : playF N i ops with ⟨⟨c, l⟩, e⟩
  have HP := Lib.hid hp
  by_cases he : e = 0
  case neg =>
    have q1 : (e != 0) = true := by simpa using he
    clear hp he
    go_enter Try.func14, Try.ntmps14
    go_wp2_with fail
    refine (alive16_calls _).mono ?_
    rintro _ w1 ⟨rfl, g1⟩
    have B0 := box_cell g1 (i := 0) rfl
    have B1 := box_cell g1 (i := 1) rfl
    have GW : Gr w w1 := ((Gr.refl w).alloc _).trans g1
    go_wp2_with fail
    refine (Play_calls _ _ N i ops _ (hN'.gr GW) hi (hu.gr GW) hul).mono ?_
    rw [HP.out]; rintro _ w2 ⟨v2, u2, rfl, i2, j2, g2⟩
    simp only [] at i2 j2
    obtain ⟨ma, mc, ba, bc, rfl, _, _, _, _, hM, hB⟩ := i2.open_
    obtain ⟨la, lc, rfl, _, _⟩ := j2.len
    have GE : Gr w2 (w2.alloc (.cells #[.slice ma c.mark.length mc, .slice ba c.busy.length bc] 63)) := (Gr.refl _).alloc _
    have bC : Blk (w2.alloc (.cells #[.slice ma c.mark.length mc, .slice ba c.busy.length bc] 63)) w2.heap.size 63 #[.slice ma c.mark.length mc, .slice ba c.busy.length bc] := Blk.new rfl
    have D0 := cell_gr (cell_gr B0 g2) GE
    have D1 := cell_gr (cell_gr B1 g2) GE
    have C0 := bC.cell (i := 0) (v := .slice ma c.mark.length mc) rfl
    have C1 := bC.cell (i := 1) (v := .slice ba c.busy.length bc) rfl
    have GX := (GW.trans g2).trans GE
    have KN := hN'.gr GX
    have KM := hM.gr GE
    have KB := hB.gr GE
    have JL := j2.gr GE
    clear g1 g2 B0 B1 GW i2 j2 hM hB bC
    go_wp2_with fail
    generalize w2.alloc (.cells #[.slice ma c.mark.length mc, .slice ba c.busy.length bc] 63) = wE at GE D0 D1 C0 C1 GX KN KM KB JL ⊢
    refine cut26 (S := fun w' => w'.cell? ⟨w.heap.size, 0, none⟩ = some (.int .i64 N.places) ∧ w'.cell? ⟨w.heap.size, 1, none⟩ = some (.slice a N.trans.length cap) ∧ w'.cell? ⟨w2.heap.size, 0, none⟩ = some (.slice ma c.mark.length mc) ∧ w'.cell? ⟨w2.heap.size, 1, none⟩ = some (.slice ba c.busy.length bc)) (by kernel_rfl) (by kernel_rfl) (by exact ⟨cell_gr D0 (by (repeat (first | exact Gr.refl _ | assumption | apply Gr.alloc | apply Gr.drew | apply Gr.drewN | refine Gr.trans ?_ (by assumption)))), cell_gr D1 (by (repeat (first | exact Gr.refl _ | assumption | apply Gr.alloc | apply Gr.drew | apply Gr.drewN | refine Gr.trans ?_ (by assumption)))), cell_gr C0 (by (repeat (first | exact Gr.refl _ | assumption | apply Gr.alloc | apply Gr.drew | apply Gr.drewN | refine Gr.trans ?_ (by assumption)))), cell_gr C1 (by (repeat (first | exact Gr.refl _ | assumption | apply Gr.alloc | apply Gr.drew | apply Gr.drewN | refine Gr.trans ?_ (by assumption))))⟩) (fun hHeld => ?_)
    (refine hold0 (v := ?_) (by kernel_rfl) (by kernel_rfl) (by kernel_rfl) (fun _ _ _ h => h) (by kernel_rfl) (fun w' hSw => ?_) (by assumption) ?_; rotate_left 1; · ((try dsimp only at hSw); (try go_simp); (try (with_reducible rfl))); (try simp only [Act.put, List.setIfInBounds_toArray, List.set_cons_zero, List.set_cons_succ]))
    (refine hold1 (v := ?_) (by kernel_rfl) (by kernel_rfl) (by kernel_rfl) (fun _ _ _ h => h) (by kernel_rfl) (fun w' hSw => ?_) (by assumption) ?_; rotate_left 1; · ((try dsimp only at hSw); (try go_simp); (try (with_reducible rfl))); (try simp only [Act.put, List.setIfInBounds_toArray, List.set_cons_zero, List.set_cons_succ]))
    (refine hold2 (v := ?_) (by kernel_rfl) (by kernel_rfl) (by kernel_rfl) (fun _ _ _ h => h) (by kernel_rfl) (fun w' hSw => ?_) (by assumption) ?_; rotate_left 1; · ((try dsimp only at hSw); (try go_simp); (try (with_reducible rfl))); (try simp only [Act.put, List.setIfInBounds_toArray, List.set_cons_zero, List.set_cons_succ]))
    (refine skip3 (by kernel_rfl) (by kernel_rfl) (by kernel_rfl) (fun _ _ _ h => h) (by kernel_rfl) (by assumption) ?_; (try simp only [Act.put, List.setIfInBounds_toArray, List.set_cons_zero, List.set_cons_succ]))
    (refine skip4 (by kernel_rfl) (by kernel_rfl) (by kernel_rfl) (fun _ _ _ h => h) (by kernel_rfl) (by assumption) ?_; (try simp only [Act.put, List.setIfInBounds_toArray, List.set_cons_zero, List.set_cons_succ]))
    (refine skip5 (by kernel_rfl) (by kernel_rfl) (by kernel_rfl) (fun _ _ _ h => h) (by kernel_rfl) (by assumption) ?_; (try simp only [Act.put, List.setIfInBounds_toArray, List.set_cons_zero, List.set_cons_succ]))
    (refine skip6 (by kernel_rfl) (by kernel_rfl) (by kernel_rfl) (fun _ _ _ h => h) (by kernel_rfl) (by assumption) ?_; (try simp only [Act.put, List.setIfInBounds_toArray, List.set_cons_zero, List.set_cons_succ]))
    (refine skip7 (by kernel_rfl) (by kernel_rfl) (by kernel_rfl) (fun _ _ _ h => h) (by kernel_rfl) (by assumption) ?_; (try simp only [Act.put, List.setIfInBounds_toArray, List.set_cons_zero, List.set_cons_succ]))
    (refine hold8 (v := ?_) (by kernel_rfl) (by kernel_rfl) (by kernel_rfl) (fun _ _ _ h => h) (by kernel_rfl) (fun w' hSw => ?_) (by assumption) ?_; rotate_left 1; · ((try dsimp only at hSw); (try go_simp); (try (with_reducible rfl))); (try simp only [Act.put, List.setIfInBounds_toArray, List.set_cons_zero, List.set_cons_succ]))
    (refine hold9 (v := ?_) (by kernel_rfl) (by kernel_rfl) (by kernel_rfl) (fun _ _ _ h => h) (by kernel_rfl) (fun w' hSw => ?_) (by assumption) ?_; rotate_left 1; · ((try dsimp only at hSw); (try go_simp); (try (with_reducible rfl))); (try simp only [Act.put, List.setIfInBounds_toArray, List.set_cons_zero, List.set_cons_succ]))
    (refine skip10 (by kernel_rfl) (by kernel_rfl) (by kernel_rfl) (fun _ _ _ h => h) (by kernel_rfl) (by assumption) ?_; (try simp only [Act.put, List.setIfInBounds_toArray, List.set_cons_zero, List.set_cons_succ]))
    (refine skip11 (by kernel_rfl) (by kernel_rfl) (by kernel_rfl) (fun _ _ _ h => h) (by kernel_rfl) (by assumption) ?_; (try simp only [Act.put, List.setIfInBounds_toArray, List.set_cons_zero, List.set_cons_succ]))
    (refine skip12 (by kernel_rfl) (by kernel_rfl) (by kernel_rfl) (fun _ _ _ h => h) (by kernel_rfl) (by assumption) ?_; (try simp only [Act.put, List.setIfInBounds_toArray, List.set_cons_zero, List.set_cons_succ]))
    (refine skip13 (by kernel_rfl) (by kernel_rfl) (by kernel_rfl) (fun _ _ _ h => h) (by kernel_rfl) (by assumption) ?_; (try simp only [Act.put, List.setIfInBounds_toArray, List.set_cons_zero, List.set_cons_succ]))
    (refine skip14 (by kernel_rfl) (by kernel_rfl) (by kernel_rfl) (fun _ _ _ h => h) (by kernel_rfl) (by assumption) ?_; (try simp only [Act.put, List.setIfInBounds_toArray, List.set_cons_zero, List.set_cons_succ]))
    (refine skip15 (by kernel_rfl) (by kernel_rfl) (by kernel_rfl) (fun _ _ _ h => h) (by kernel_rfl) (by assumption) ?_; (try simp only [Act.put, List.setIfInBounds_toArray, List.set_cons_zero, List.set_cons_succ]))
    (refine skip16 (by kernel_rfl) (by kernel_rfl) (by kernel_rfl) (fun _ _ _ h => h) (by kernel_rfl) (by assumption) ?_; (try simp only [Act.put, List.setIfInBounds_toArray, List.set_cons_zero, List.set_cons_succ]))
    (refine hold17 (v := ?_) (by kernel_rfl) (by kernel_rfl) (by kernel_rfl) (fun _ _ _ h => h) (by kernel_rfl) (fun w' hSw => ?_) (by assumption) ?_; rotate_left 1; · ((try dsimp only at hSw); (try go_simp); (try (with_reducible rfl))); (try simp only [Act.put, List.setIfInBounds_toArray, List.set_cons_zero, List.set_cons_succ]))
    (refine hold18 (v := ?_) (by kernel_rfl) (by kernel_rfl) (by kernel_rfl) (fun _ _ _ h => h) (by kernel_rfl) (fun w' hSw => ?_) (by assumption) ?_; rotate_left 1; · ((try dsimp only at hSw); (try go_simp); (try (with_reducible rfl))); (try simp only [Act.put, List.setIfInBounds_toArray, List.set_cons_zero, List.set_cons_succ]))
    (refine skip19 (by kernel_rfl) (by kernel_rfl) (by kernel_rfl) (fun _ _ _ h => h) (by kernel_rfl) (by assumption) ?_; (try simp only [Act.put, List.setIfInBounds_toArray, List.set_cons_zero, List.set_cons_succ]))
    (refine skip20 (by kernel_rfl) (by kernel_rfl) (by kernel_rfl) (fun _ _ _ h => h) (by kernel_rfl) (by assumption) ?_; (try simp only [Act.put, List.setIfInBounds_toArray, List.set_cons_zero, List.set_cons_succ]))
    (refine skip21 (by kernel_rfl) (by kernel_rfl) (by kernel_rfl) (fun _ _ _ h => h) (by kernel_rfl) (by assumption) ?_; (try simp only [Act.put, List.setIfInBounds_toArray, List.set_cons_zero, List.set_cons_succ]))
    (refine skip22 (by kernel_rfl) (by kernel_rfl) (by kernel_rfl) (fun _ _ _ h => h) (by kernel_rfl) (by assumption) ?_; (try simp only [Act.put, List.setIfInBounds_toArray, List.set_cons_zero, List.set_cons_succ]))
    (refine skip23 (by kernel_rfl) (by kernel_rfl) (by kernel_rfl) (fun _ _ _ h => h) (by kernel_rfl) (by assumption) ?_; (try simp only [Act.put, List.setIfInBounds_toArray, List.set_cons_zero, List.set_cons_succ]))
    (refine skip24 (by kernel_rfl) (by kernel_rfl) (by kernel_rfl) (fun _ _ _ h => h) (by kernel_rfl) (by assumption) ?_; (try simp only [Act.put, List.setIfInBounds_toArray, List.set_cons_zero, List.set_cons_succ]))
    (refine skip25 (by kernel_rfl) (by kernel_rfl) (by kernel_rfl) (fun _ _ _ h => h) (by kernel_rfl) (by assumption) ?_; (try simp only [Act.put, List.setIfInBounds_toArray, List.set_cons_zero, List.set_cons_succ]))
    refine ends26 (by kernel_rfl) (fun K hK => ?_)
    go_simp
    refine hK.out _ _ ?_
    go_wp2_with fail
    go_ret
    exact ⟨rfl, GX.trans (by (repeat (first | exact Gr.refl _ | assumption | apply Gr.alloc | apply Gr.drew | apply Gr.drewN | refine Gr.trans ?_ (by assumption))))⟩
  case pos =>
    subst he
    obtain ⟨c0, hCS⟩ := csOk_mk (o := o) hp
    have HCS := Lib.hid hCS
    have q2 : ((l.length : Int) != (ops.length : Int)) = false := by rw [hCS.ll]; simp
    clear hp hCS
    cases heq : eqB c.mark (oneN (startLen N) o)
    · have HEQ := Lib.hid heq
      clear heq
      go_enter Try.func14, Try.ntmps14
      go_wp2_with fail
      refine (alive16_calls _).mono ?_
      rintro _ w1 ⟨rfl, g1⟩
      have B0 := box_cell g1 (i := 0) rfl
      have B1 := box_cell g1 (i := 1) rfl
      have GW : Gr w w1 := ((Gr.refl w).alloc _).trans g1
      go_wp2_with fail
      refine (Play_calls _ _ N i ops _ (hN'.gr GW) hi (hu.gr GW) hul).mono ?_
      rw [HP.out]; rintro _ w2 ⟨v2, u2, rfl, i2, j2, g2⟩
      simp only [] at i2 j2
      obtain ⟨ma, mc, ba, bc, rfl, _, _, _, _, hM, hB⟩ := i2.open_
      obtain ⟨la, lc, rfl, _, _⟩ := j2.len
      have GE : Gr w2 (w2.alloc (.cells #[.slice ma c.mark.length mc, .slice ba c.busy.length bc] 63)) := (Gr.refl _).alloc _
      have bC : Blk (w2.alloc (.cells #[.slice ma c.mark.length mc, .slice ba c.busy.length bc] 63)) w2.heap.size 63 #[.slice ma c.mark.length mc, .slice ba c.busy.length bc] := Blk.new rfl
      have D0 := cell_gr (cell_gr B0 g2) GE
      have D1 := cell_gr (cell_gr B1 g2) GE
      have C0 := bC.cell (i := 0) (v := .slice ma c.mark.length mc) rfl
      have C1 := bC.cell (i := 1) (v := .slice ba c.busy.length bc) rfl
      have GX := (GW.trans g2).trans GE
      have KN := hN'.gr GX
      have KM := hM.gr GE
      have KB := hB.gr GE
      have JL := j2.gr GE
      clear g1 g2 B0 B1 GW i2 j2 hM hB bC
      go_wp2_with fail
      generalize w2.alloc (.cells #[.slice ma c.mark.length mc, .slice ba c.busy.length bc] 63) = wE at GE D0 D1 C0 C1 GX KN KM KB JL ⊢
      refine cut26 (S := fun w' => w'.cell? ⟨w.heap.size, 0, none⟩ = some (.int .i64 N.places) ∧ w'.cell? ⟨w.heap.size, 1, none⟩ = some (.slice a N.trans.length cap) ∧ w'.cell? ⟨w2.heap.size, 0, none⟩ = some (.slice ma c.mark.length mc) ∧ w'.cell? ⟨w2.heap.size, 1, none⟩ = some (.slice ba c.busy.length bc)) (by kernel_rfl) (by kernel_rfl) (by exact ⟨cell_gr D0 (by (repeat (first | exact Gr.refl _ | assumption | apply Gr.alloc | apply Gr.drew | apply Gr.drewN | refine Gr.trans ?_ (by assumption)))), cell_gr D1 (by (repeat (first | exact Gr.refl _ | assumption | apply Gr.alloc | apply Gr.drew | apply Gr.drewN | refine Gr.trans ?_ (by assumption)))), cell_gr C0 (by (repeat (first | exact Gr.refl _ | assumption | apply Gr.alloc | apply Gr.drew | apply Gr.drewN | refine Gr.trans ?_ (by assumption)))), cell_gr C1 (by (repeat (first | exact Gr.refl _ | assumption | apply Gr.alloc | apply Gr.drew | apply Gr.drewN | refine Gr.trans ?_ (by assumption))))⟩) (fun hHeld => ?_)
      (refine hold0 (v := ?_) (by kernel_rfl) (by kernel_rfl) (by kernel_rfl) (fun _ _ _ h => h) (by kernel_rfl) (fun w' hSw => ?_) (by assumption) ?_; rotate_left 1; · ((try dsimp only at hSw); (try go_simp); (try (with_reducible rfl))); (try simp only [Act.put, List.setIfInBounds_toArray, List.set_cons_zero, List.set_cons_succ]))
      (refine hold1 (v := ?_) (by kernel_rfl) (by kernel_rfl) (by kernel_rfl) (fun _ _ _ h => h) (by kernel_rfl) (fun w' hSw => ?_) (by assumption) ?_; rotate_left 1; · ((try dsimp only at hSw); (try go_simp); (try (with_reducible rfl))); (try simp only [Act.put, List.setIfInBounds_toArray, List.set_cons_zero, List.set_cons_succ]))
      (refine hold2 (v := ?_) (by kernel_rfl) (by kernel_rfl) (by kernel_rfl) (fun _ _ _ h => h) (by kernel_rfl) (fun w' hSw => ?_) (by assumption) ?_; rotate_left 1; · ((try dsimp only at hSw); (try go_simp); (try (with_reducible rfl))); (try simp only [Act.put, List.setIfInBounds_toArray, List.set_cons_zero, List.set_cons_succ]))
      (refine hold3 (v := ?_) (by kernel_rfl) (by kernel_rfl) (by kernel_rfl) (fun _ _ _ h => h) (by kernel_rfl) (fun w' hSw => ?_) (by assumption) ?_; rotate_left 1; · ((try dsimp only at hSw); (try go_simp); (try (with_reducible rfl))); (try simp only [Act.put, List.setIfInBounds_toArray, List.set_cons_zero, List.set_cons_succ]))
      (refine hold4 (v := ?_) (by kernel_rfl) (by kernel_rfl) (by kernel_rfl) (fun _ _ _ h => h) (by kernel_rfl) (fun w' hSw => ?_) (by assumption) ?_; rotate_left 1; · ((try dsimp only at hSw); (try go_simp); (try (with_reducible rfl))); (try simp only [Act.put, List.setIfInBounds_toArray, List.set_cons_zero, List.set_cons_succ]))
      (refine hold5 (v := ?_) (by kernel_rfl) (by kernel_rfl) (by kernel_rfl) (fun _ _ _ h => h) (by kernel_rfl) (fun w' hSw => ?_) (by assumption) ?_; rotate_left 1; · ((try dsimp only at hSw); (try go_simp); (try (with_reducible rfl))); (try simp only [Act.put, List.setIfInBounds_toArray, List.set_cons_zero, List.set_cons_succ]))
      (refine hold6 (v := ?_) (by kernel_rfl) (by kernel_rfl) (by kernel_rfl) (fun _ _ _ h => h) (by kernel_rfl) (fun w' hSw => ?_) (by assumption) ?_; rotate_left 1; · ((try dsimp only at hSw); (try go_simp); (try (with_reducible rfl))); (try simp only [Act.put, List.setIfInBounds_toArray, List.set_cons_zero, List.set_cons_succ]))
      (refine hold7 (v := ?_) (by kernel_rfl) (by kernel_rfl) (by kernel_rfl) (fun _ _ _ h => h) (by kernel_rfl) (fun w' hSw => ?_) (by assumption) ?_; rotate_left 1; · ((try dsimp only at hSw); (try go_simp); (try (with_reducible rfl))); (try simp only [Act.put, List.setIfInBounds_toArray, List.set_cons_zero, List.set_cons_succ]))
      (refine hold8 (v := ?_) (by kernel_rfl) (by kernel_rfl) (by kernel_rfl) (fun _ _ _ h => h) (by kernel_rfl) (fun w' hSw => ?_) (by assumption) ?_; rotate_left 1; · ((try dsimp only at hSw); (try go_simp); (try (with_reducible rfl))); (try simp only [Act.put, List.setIfInBounds_toArray, List.set_cons_zero, List.set_cons_succ]))
      (refine hold9 (v := ?_) (by kernel_rfl) (by kernel_rfl) (by kernel_rfl) (fun _ _ _ h => h) (by kernel_rfl) (fun w' hSw => ?_) (by assumption) ?_; rotate_left 1; · ((try dsimp only at hSw); (try go_simp); (try (with_reducible rfl))); (try simp only [Act.put, List.setIfInBounds_toArray, List.set_cons_zero, List.set_cons_succ]))
      (refine hold10 (v := ?_) (by kernel_rfl) (by kernel_rfl) (by kernel_rfl) (fun _ _ _ h => h) (by kernel_rfl) (fun w' hSw => ?_) (by assumption) ?_; rotate_left 1; · ((try dsimp only at hSw); (try go_simp); (try (with_reducible rfl))); (try simp only [Act.put, List.setIfInBounds_toArray, List.set_cons_zero, List.set_cons_succ]))
      (refine hold11 (v := ?_) (by kernel_rfl) (by kernel_rfl) (by kernel_rfl) (fun _ _ _ h => h) (by kernel_rfl) (fun w' hSw => ?_) (by assumption) ?_; rotate_left 1; · ((try dsimp only at hSw); (try go_simp); (try (with_reducible rfl))); (try simp only [Act.put, List.setIfInBounds_toArray, List.set_cons_zero, List.set_cons_succ]))
      (refine hold12 (v := ?_) (by kernel_rfl) (by kernel_rfl) (by kernel_rfl) (fun _ _ _ h => h) (by kernel_rfl) (fun w' hSw => ?_) (by assumption) ?_; rotate_left 1; · ((try dsimp only at hSw); (try go_simp); (try (with_reducible rfl))); (try simp only [Act.put, List.setIfInBounds_toArray, List.set_cons_zero, List.set_cons_succ]))
      (refine hold13 (v := ?_) (by kernel_rfl) (by kernel_rfl) (by kernel_rfl) (fun _ _ _ h => h) (by kernel_rfl) (fun w' hSw => ?_) (by assumption) ?_; rotate_left 1; · ((try dsimp only at hSw); (try go_simp); (try (with_reducible rfl))); (try simp only [Act.put, List.setIfInBounds_toArray, List.set_cons_zero, List.set_cons_succ]))
      refine next14 (by kernel_rfl) (fun K hK => ?_)
      go_simp
      go_at_call 20
      refine (Start_calls _ N o _ (KN.gr (by (repeat (first | exact Gr.refl _ | assumption | apply Gr.alloc | apply Gr.drew | apply Gr.drewN | refine Gr.trans ?_ (by assumption))))) ho).mono ?_
      rintro _ x1 ⟨y1, rfl, o1, f1⟩
      obtain ⟨ea, ec, rfl, _, _⟩ := o1.ints.len
      (refine hK.out _ _ ?_ (fun hHeld => ?_); · (exact ⟨cell_gr D0 (by (repeat (first | exact Gr.refl _ | assumption | apply Gr.alloc | apply Gr.drew | apply Gr.drewN | refine Gr.trans ?_ (by assumption)))), cell_gr D1 (by (repeat (first | exact Gr.refl _ | assumption | apply Gr.alloc | apply Gr.drew | apply Gr.drewN | refine Gr.trans ?_ (by assumption)))), cell_gr C0 (by (repeat (first | exact Gr.refl _ | assumption | apply Gr.alloc | apply Gr.drew | apply Gr.drewN | refine Gr.trans ?_ (by assumption)))), cell_gr C1 (by (repeat (first | exact Gr.refl _ | assumption | apply Gr.alloc | apply Gr.drew | apply Gr.drewN | refine Gr.trans ?_ (by assumption))))⟩))
      clear hK K
      try simp only [Act.put, List.setIfInBounds_toArray, List.set_cons_zero, List.set_cons_succ]
      refine next15 (by kernel_rfl) (fun K hK => ?_)
      go_simp
      go_at_call 18
      refine (Equal_calls _ _ c.mark (oneN (startLen N) o) _ (KM.gr (by (repeat (first | exact Gr.refl _ | assumption | apply Gr.alloc | apply Gr.drew | apply Gr.drewN | refine Gr.trans ?_ (by assumption))))) (o1.ints.gr (by (repeat (first | exact Gr.refl _ | assumption | apply Gr.alloc | apply Gr.drew | apply Gr.drewN | refine Gr.trans ?_ (by assumption)))))).mono ?_
      rw [HEQ.out]; rintro _ x2 ⟨rfl, f2⟩
      (refine hK.out _ _ ?_ (fun hHeld => ?_); · (exact ⟨cell_gr D0 (by (repeat (first | exact Gr.refl _ | assumption | apply Gr.alloc | apply Gr.drew | apply Gr.drewN | refine Gr.trans ?_ (by assumption)))), cell_gr D1 (by (repeat (first | exact Gr.refl _ | assumption | apply Gr.alloc | apply Gr.drew | apply Gr.drewN | refine Gr.trans ?_ (by assumption)))), cell_gr C0 (by (repeat (first | exact Gr.refl _ | assumption | apply Gr.alloc | apply Gr.drew | apply Gr.drewN | refine Gr.trans ?_ (by assumption)))), cell_gr C1 (by (repeat (first | exact Gr.refl _ | assumption | apply Gr.alloc | apply Gr.drew | apply Gr.drewN | refine Gr.trans ?_ (by assumption))))⟩))
      clear hK K
      try simp only [Act.put, List.setIfInBounds_toArray, List.set_cons_zero, List.set_cons_succ]
      (refine hold16 (v := ?_) (by kernel_rfl) (by kernel_rfl) (by kernel_rfl) (fun _ _ _ h => h) (by kernel_rfl) (fun w' hSw => ?_) (by assumption) ?_; rotate_left 1; · ((try dsimp only at hSw); (try go_simp); (try (with_reducible rfl))); (try simp only [Act.put, List.setIfInBounds_toArray, List.set_cons_zero, List.set_cons_succ]))
      (refine hold17 (v := ?_) (by kernel_rfl) (by kernel_rfl) (by kernel_rfl) (fun _ _ _ h => h) (by kernel_rfl) (fun w' hSw => ?_) (by assumption) ?_; rotate_left 1; · ((try dsimp only at hSw); (try go_simp); (try (with_reducible rfl))); (try simp only [Act.put, List.setIfInBounds_toArray, List.set_cons_zero, List.set_cons_succ]))
      (refine hold18 (v := ?_) (by kernel_rfl) (by kernel_rfl) (by kernel_rfl) (fun _ _ _ h => h) (by kernel_rfl) (fun w' hSw => ?_) (by assumption) ?_; rotate_left 1; · ((try dsimp only at hSw); (try go_simp); (try (with_reducible rfl))); (try simp only [Act.put, List.setIfInBounds_toArray, List.set_cons_zero, List.set_cons_succ]))
      (refine skip19 (by kernel_rfl) (by kernel_rfl) (by kernel_rfl) (fun _ _ _ h => h) (by kernel_rfl) (by assumption) ?_; (try simp only [Act.put, List.setIfInBounds_toArray, List.set_cons_zero, List.set_cons_succ]))
      (refine skip20 (by kernel_rfl) (by kernel_rfl) (by kernel_rfl) (fun _ _ _ h => h) (by kernel_rfl) (by assumption) ?_; (try simp only [Act.put, List.setIfInBounds_toArray, List.set_cons_zero, List.set_cons_succ]))
      (refine skip21 (by kernel_rfl) (by kernel_rfl) (by kernel_rfl) (fun _ _ _ h => h) (by kernel_rfl) (by assumption) ?_; (try simp only [Act.put, List.setIfInBounds_toArray, List.set_cons_zero, List.set_cons_succ]))
      (refine skip22 (by kernel_rfl) (by kernel_rfl) (by kernel_rfl) (fun _ _ _ h => h) (by kernel_rfl) (by assumption) ?_; (try simp only [Act.put, List.setIfInBounds_toArray, List.set_cons_zero, List.set_cons_succ]))
      (refine skip23 (by kernel_rfl) (by kernel_rfl) (by kernel_rfl) (fun _ _ _ h => h) (by kernel_rfl) (by assumption) ?_; (try simp only [Act.put, List.setIfInBounds_toArray, List.set_cons_zero, List.set_cons_succ]))
      (refine skip24 (by kernel_rfl) (by kernel_rfl) (by kernel_rfl) (fun _ _ _ h => h) (by kernel_rfl) (by assumption) ?_; (try simp only [Act.put, List.setIfInBounds_toArray, List.set_cons_zero, List.set_cons_succ]))
      (refine skip25 (by kernel_rfl) (by kernel_rfl) (by kernel_rfl) (fun _ _ _ h => h) (by kernel_rfl) (by assumption) ?_; (try simp only [Act.put, List.setIfInBounds_toArray, List.set_cons_zero, List.set_cons_succ]))
      refine ends26 (by kernel_rfl) (fun K hK => ?_)
      go_simp
      refine hK.out _ _ ?_
      go_wp2_with fail
      go_ret
      exact ⟨rfl, GX.trans (by (repeat (first | exact Gr.refl _ | assumption | apply Gr.alloc | apply Gr.drew | apply Gr.drewN | refine Gr.trans ?_ (by assumption))))⟩
    · have HEQ := Lib.hid heq
      have HMK := Lib.hid ((eqB_iff _ _).1 heq)
      clear heq
      have hbl : c.busy.length ≤ 17592186044416 := by have := HCS.out.bl; omega
      have hbl1 : c.busy.length + 1 ≤ 17592186044416 := by have := HCS.out.bl; omega
      by_cases hmx : 0 < maxF (c.busy ++ [0])
      · have q5 : (0 : Int) < maxF (c.busy ++ [0]) := hmx
        go_enter Try.func14, Try.ntmps14
        go_wp2_with fail
        refine (alive16_calls _).mono ?_
        rintro _ w1 ⟨rfl, g1⟩
        have B0 := box_cell g1 (i := 0) rfl
        have B1 := box_cell g1 (i := 1) rfl
        have GW : Gr w w1 := ((Gr.refl w).alloc _).trans g1
        go_wp2_with fail
        refine (Play_calls _ _ N i ops _ (hN'.gr GW) hi (hu.gr GW) hul).mono ?_
        rw [HP.out]; rintro _ w2 ⟨v2, u2, rfl, i2, j2, g2⟩
        simp only [] at i2 j2
        obtain ⟨ma, mc, ba, bc, rfl, _, _, _, _, hM, hB⟩ := i2.open_
        obtain ⟨la, lc, rfl, _, _⟩ := j2.len
        have GE : Gr w2 (w2.alloc (.cells #[.slice ma c.mark.length mc, .slice ba c.busy.length bc] 63)) := (Gr.refl _).alloc _
        have bC : Blk (w2.alloc (.cells #[.slice ma c.mark.length mc, .slice ba c.busy.length bc] 63)) w2.heap.size 63 #[.slice ma c.mark.length mc, .slice ba c.busy.length bc] := Blk.new rfl
        have D0 := cell_gr (cell_gr B0 g2) GE
        have D1 := cell_gr (cell_gr B1 g2) GE
        have C0 := bC.cell (i := 0) (v := .slice ma c.mark.length mc) rfl
        have C1 := bC.cell (i := 1) (v := .slice ba c.busy.length bc) rfl
        have GX := (GW.trans g2).trans GE
        have KN := hN'.gr GX
        have KM := hM.gr GE
        have KB := hB.gr GE
        have JL := j2.gr GE
        clear g1 g2 B0 B1 GW i2 j2 hM hB bC
        go_wp2_with fail
        generalize w2.alloc (.cells #[.slice ma c.mark.length mc, .slice ba c.busy.length bc] 63) = wE at GE D0 D1 C0 C1 GX KN KM KB JL ⊢
        refine cut26 (S := fun w' => w'.cell? ⟨w.heap.size, 0, none⟩ = some (.int .i64 N.places) ∧ w'.cell? ⟨w.heap.size, 1, none⟩ = some (.slice a N.trans.length cap) ∧ w'.cell? ⟨w2.heap.size, 0, none⟩ = some (.slice ma c.mark.length mc) ∧ w'.cell? ⟨w2.heap.size, 1, none⟩ = some (.slice ba c.busy.length bc)) (by kernel_rfl) (by kernel_rfl) (by exact ⟨cell_gr D0 (by (repeat (first | exact Gr.refl _ | assumption | apply Gr.alloc | apply Gr.drew | apply Gr.drewN | refine Gr.trans ?_ (by assumption)))), cell_gr D1 (by (repeat (first | exact Gr.refl _ | assumption | apply Gr.alloc | apply Gr.drew | apply Gr.drewN | refine Gr.trans ?_ (by assumption)))), cell_gr C0 (by (repeat (first | exact Gr.refl _ | assumption | apply Gr.alloc | apply Gr.drew | apply Gr.drewN | refine Gr.trans ?_ (by assumption)))), cell_gr C1 (by (repeat (first | exact Gr.refl _ | assumption | apply Gr.alloc | apply Gr.drew | apply Gr.drewN | refine Gr.trans ?_ (by assumption))))⟩) (fun hHeld => ?_)
        (refine hold0 (v := ?_) (by kernel_rfl) (by kernel_rfl) (by kernel_rfl) (fun _ _ _ h => h) (by kernel_rfl) (fun w' hSw => ?_) (by assumption) ?_; rotate_left 1; · ((try dsimp only at hSw); (try go_simp); (try (with_reducible rfl))); (try simp only [Act.put, List.setIfInBounds_toArray, List.set_cons_zero, List.set_cons_succ]))
        (refine hold1 (v := ?_) (by kernel_rfl) (by kernel_rfl) (by kernel_rfl) (fun _ _ _ h => h) (by kernel_rfl) (fun w' hSw => ?_) (by assumption) ?_; rotate_left 1; · ((try dsimp only at hSw); (try go_simp); (try (with_reducible rfl))); (try simp only [Act.put, List.setIfInBounds_toArray, List.set_cons_zero, List.set_cons_succ]))
        (refine hold2 (v := ?_) (by kernel_rfl) (by kernel_rfl) (by kernel_rfl) (fun _ _ _ h => h) (by kernel_rfl) (fun w' hSw => ?_) (by assumption) ?_; rotate_left 1; · ((try dsimp only at hSw); (try go_simp); (try (with_reducible rfl))); (try simp only [Act.put, List.setIfInBounds_toArray, List.set_cons_zero, List.set_cons_succ]))
        (refine hold3 (v := ?_) (by kernel_rfl) (by kernel_rfl) (by kernel_rfl) (fun _ _ _ h => h) (by kernel_rfl) (fun w' hSw => ?_) (by assumption) ?_; rotate_left 1; · ((try dsimp only at hSw); (try go_simp); (try (with_reducible rfl))); (try simp only [Act.put, List.setIfInBounds_toArray, List.set_cons_zero, List.set_cons_succ]))
        (refine hold4 (v := ?_) (by kernel_rfl) (by kernel_rfl) (by kernel_rfl) (fun _ _ _ h => h) (by kernel_rfl) (fun w' hSw => ?_) (by assumption) ?_; rotate_left 1; · ((try dsimp only at hSw); (try go_simp); (try (with_reducible rfl))); (try simp only [Act.put, List.setIfInBounds_toArray, List.set_cons_zero, List.set_cons_succ]))
        (refine hold5 (v := ?_) (by kernel_rfl) (by kernel_rfl) (by kernel_rfl) (fun _ _ _ h => h) (by kernel_rfl) (fun w' hSw => ?_) (by assumption) ?_; rotate_left 1; · ((try dsimp only at hSw); (try go_simp); (try (with_reducible rfl))); (try simp only [Act.put, List.setIfInBounds_toArray, List.set_cons_zero, List.set_cons_succ]))
        (refine hold6 (v := ?_) (by kernel_rfl) (by kernel_rfl) (by kernel_rfl) (fun _ _ _ h => h) (by kernel_rfl) (fun w' hSw => ?_) (by assumption) ?_; rotate_left 1; · ((try dsimp only at hSw); (try go_simp); (try (with_reducible rfl))); (try simp only [Act.put, List.setIfInBounds_toArray, List.set_cons_zero, List.set_cons_succ]))
        (refine hold7 (v := ?_) (by kernel_rfl) (by kernel_rfl) (by kernel_rfl) (fun _ _ _ h => h) (by kernel_rfl) (fun w' hSw => ?_) (by assumption) ?_; rotate_left 1; · ((try dsimp only at hSw); (try go_simp); (try (with_reducible rfl))); (try simp only [Act.put, List.setIfInBounds_toArray, List.set_cons_zero, List.set_cons_succ]))
        (refine hold8 (v := ?_) (by kernel_rfl) (by kernel_rfl) (by kernel_rfl) (fun _ _ _ h => h) (by kernel_rfl) (fun w' hSw => ?_) (by assumption) ?_; rotate_left 1; · ((try dsimp only at hSw); (try go_simp); (try (with_reducible rfl))); (try simp only [Act.put, List.setIfInBounds_toArray, List.set_cons_zero, List.set_cons_succ]))
        (refine hold9 (v := ?_) (by kernel_rfl) (by kernel_rfl) (by kernel_rfl) (fun _ _ _ h => h) (by kernel_rfl) (fun w' hSw => ?_) (by assumption) ?_; rotate_left 1; · ((try dsimp only at hSw); (try go_simp); (try (with_reducible rfl))); (try simp only [Act.put, List.setIfInBounds_toArray, List.set_cons_zero, List.set_cons_succ]))
        (refine hold10 (v := ?_) (by kernel_rfl) (by kernel_rfl) (by kernel_rfl) (fun _ _ _ h => h) (by kernel_rfl) (fun w' hSw => ?_) (by assumption) ?_; rotate_left 1; · ((try dsimp only at hSw); (try go_simp); (try (with_reducible rfl))); (try simp only [Act.put, List.setIfInBounds_toArray, List.set_cons_zero, List.set_cons_succ]))
        (refine hold11 (v := ?_) (by kernel_rfl) (by kernel_rfl) (by kernel_rfl) (fun _ _ _ h => h) (by kernel_rfl) (fun w' hSw => ?_) (by assumption) ?_; rotate_left 1; · ((try dsimp only at hSw); (try go_simp); (try (with_reducible rfl))); (try simp only [Act.put, List.setIfInBounds_toArray, List.set_cons_zero, List.set_cons_succ]))
        (refine hold12 (v := ?_) (by kernel_rfl) (by kernel_rfl) (by kernel_rfl) (fun _ _ _ h => h) (by kernel_rfl) (fun w' hSw => ?_) (by assumption) ?_; rotate_left 1; · ((try dsimp only at hSw); (try go_simp); (try (with_reducible rfl))); (try simp only [Act.put, List.setIfInBounds_toArray, List.set_cons_zero, List.set_cons_succ]))
        (refine hold13 (v := ?_) (by kernel_rfl) (by kernel_rfl) (by kernel_rfl) (fun _ _ _ h => h) (by kernel_rfl) (fun w' hSw => ?_) (by assumption) ?_; rotate_left 1; · ((try dsimp only at hSw); (try go_simp); (try (with_reducible rfl))); (try simp only [Act.put, List.setIfInBounds_toArray, List.set_cons_zero, List.set_cons_succ]))
        refine next14 (by kernel_rfl) (fun K hK => ?_)
        go_simp
        go_at_call 20
        refine (Start_calls _ N o _ (KN.gr (by (repeat (first | exact Gr.refl _ | assumption | apply Gr.alloc | apply Gr.drew | apply Gr.drewN | refine Gr.trans ?_ (by assumption))))) ho).mono ?_
        rintro _ x1 ⟨y1, rfl, o1, f1⟩
        obtain ⟨ea, ec, rfl, _, _⟩ := o1.ints.len
        (refine hK.out _ _ ?_ (fun hHeld => ?_); · (exact ⟨cell_gr D0 (by (repeat (first | exact Gr.refl _ | assumption | apply Gr.alloc | apply Gr.drew | apply Gr.drewN | refine Gr.trans ?_ (by assumption)))), cell_gr D1 (by (repeat (first | exact Gr.refl _ | assumption | apply Gr.alloc | apply Gr.drew | apply Gr.drewN | refine Gr.trans ?_ (by assumption)))), cell_gr C0 (by (repeat (first | exact Gr.refl _ | assumption | apply Gr.alloc | apply Gr.drew | apply Gr.drewN | refine Gr.trans ?_ (by assumption)))), cell_gr C1 (by (repeat (first | exact Gr.refl _ | assumption | apply Gr.alloc | apply Gr.drew | apply Gr.drewN | refine Gr.trans ?_ (by assumption))))⟩))
        clear hK K
        try simp only [Act.put, List.setIfInBounds_toArray, List.set_cons_zero, List.set_cons_succ]
        refine next15 (by kernel_rfl) (fun K hK => ?_)
        go_simp
        go_at_call 18
        refine (Equal_calls _ _ c.mark (oneN (startLen N) o) _ (KM.gr (by (repeat (first | exact Gr.refl _ | assumption | apply Gr.alloc | apply Gr.drew | apply Gr.drewN | refine Gr.trans ?_ (by assumption))))) (o1.ints.gr (by (repeat (first | exact Gr.refl _ | assumption | apply Gr.alloc | apply Gr.drew | apply Gr.drewN | refine Gr.trans ?_ (by assumption)))))).mono ?_
        rw [HEQ.out]; rintro _ x2 ⟨rfl, f2⟩
        (refine hK.out _ _ ?_ (fun hHeld => ?_); · (exact ⟨cell_gr D0 (by (repeat (first | exact Gr.refl _ | assumption | apply Gr.alloc | apply Gr.drew | apply Gr.drewN | refine Gr.trans ?_ (by assumption)))), cell_gr D1 (by (repeat (first | exact Gr.refl _ | assumption | apply Gr.alloc | apply Gr.drew | apply Gr.drewN | refine Gr.trans ?_ (by assumption)))), cell_gr C0 (by (repeat (first | exact Gr.refl _ | assumption | apply Gr.alloc | apply Gr.drew | apply Gr.drewN | refine Gr.trans ?_ (by assumption)))), cell_gr C1 (by (repeat (first | exact Gr.refl _ | assumption | apply Gr.alloc | apply Gr.drew | apply Gr.drewN | refine Gr.trans ?_ (by assumption))))⟩))
        clear hK K
        try simp only [Act.put, List.setIfInBounds_toArray, List.set_cons_zero, List.set_cons_succ]
        (refine hold16 (v := ?_) (by kernel_rfl) (by kernel_rfl) (by kernel_rfl) (fun _ _ _ h => h) (by kernel_rfl) (fun w' hSw => ?_) (by assumption) ?_; rotate_left 1; · ((try dsimp only at hSw); (try go_simp); (try (with_reducible rfl))); (try simp only [Act.put, List.setIfInBounds_toArray, List.set_cons_zero, List.set_cons_succ]))
        (refine hold17 (v := ?_) (by kernel_rfl) (by kernel_rfl) (by kernel_rfl) (fun _ _ _ h => h) (by kernel_rfl) (fun w' hSw => ?_) (by assumption) ?_; rotate_left 1; · ((try dsimp only at hSw); (try go_simp); (try (with_reducible rfl))); (try simp only [Act.put, List.setIfInBounds_toArray, List.set_cons_zero, List.set_cons_succ]))
        (refine hold18 (v := ?_) (by kernel_rfl) (by kernel_rfl) (by kernel_rfl) (fun _ _ _ h => h) (by kernel_rfl) (fun w' hSw => ?_) (by assumption) ?_; rotate_left 1; · ((try dsimp only at hSw); (try go_simp); (try (with_reducible rfl))); (try simp only [Act.put, List.setIfInBounds_toArray, List.set_cons_zero, List.set_cons_succ]))
        (refine hold19 (v := ?_) (by kernel_rfl) (by kernel_rfl) (by kernel_rfl) (fun _ _ _ h => h) (by kernel_rfl) (fun w' hSw => ?_) (by assumption) ?_; rotate_left 1; · ((try dsimp only at hSw); (try go_simp); (try (with_reducible rfl))); (try simp only [Act.put, List.setIfInBounds_toArray, List.set_cons_zero, List.set_cons_succ]))
        (refine hold20 (v := ?_) (by kernel_rfl) (by kernel_rfl) (by kernel_rfl) (fun _ _ _ h => h) (by kernel_rfl) (fun w' hSw => ?_) (by assumption) ?_; rotate_left 1; · ((try dsimp only at hSw); (try go_simp); (try (with_reducible rfl))); (try simp only [Act.put, List.setIfInBounds_toArray, List.set_cons_zero, List.set_cons_succ]))
        refine next21b (by kernel_rfl) (fun K hK => ?_) (fun K hK => ?_)
        · skip
          go_simp
          go_at_call 44
          refine (Clone_calls _ c.busy _ (KB.gr (by (repeat (first | exact Gr.refl _ | assumption | apply Gr.alloc | apply Gr.drew | apply Gr.drewN | refine Gr.trans ?_ (by assumption))))) hbl).mono ?_
          rintro _ x3 ⟨y3, rfl, o3, f3⟩
          obtain ⟨fa, fc, rfl, _, _⟩ := o3.ints.len
          (refine hK.out _ _ ?_ (fun hHeld => ?_); · (exact ⟨cell_gr D0 (by (repeat (first | exact Gr.refl _ | assumption | apply Gr.alloc | apply Gr.drew | apply Gr.drewN | refine Gr.trans ?_ (by assumption)))), cell_gr D1 (by (repeat (first | exact Gr.refl _ | assumption | apply Gr.alloc | apply Gr.drew | apply Gr.drewN | refine Gr.trans ?_ (by assumption)))), cell_gr C0 (by (repeat (first | exact Gr.refl _ | assumption | apply Gr.alloc | apply Gr.drew | apply Gr.drewN | refine Gr.trans ?_ (by assumption)))), cell_gr C1 (by (repeat (first | exact Gr.refl _ | assumption | apply Gr.alloc | apply Gr.drew | apply Gr.drewN | refine Gr.trans ?_ (by assumption))))⟩))
          clear hK K
          try simp only [Act.put, List.setIfInBounds_toArray, List.set_cons_zero, List.set_cons_succ]
          refine next22 (by kernel_rfl) (fun K hK => ?_)
          go_simp
          (refine hK.out _ _ ?_ (fun hHeld => ?_); · (exact ⟨cell_gr D0 (by (repeat (first | exact Gr.refl _ | assumption | apply Gr.alloc | apply Gr.drew | apply Gr.drewN | refine Gr.trans ?_ (by assumption)))), cell_gr D1 (by (repeat (first | exact Gr.refl _ | assumption | apply Gr.alloc | apply Gr.drew | apply Gr.drewN | refine Gr.trans ?_ (by assumption)))), cell_gr C0 (by (repeat (first | exact Gr.refl _ | assumption | apply Gr.alloc | apply Gr.drew | apply Gr.drewN | refine Gr.trans ?_ (by assumption)))), cell_gr C1 (by (repeat (first | exact Gr.refl _ | assumption | apply Gr.alloc | apply Gr.drew | apply Gr.drewN | refine Gr.trans ?_ (by assumption))))⟩))
          clear hK K
          try simp only [Act.put, List.setIfInBounds_toArray, List.set_cons_zero, List.set_cons_succ]
          refine next23 (by kernel_rfl) (fun K hK => ?_)
          rw [if_pos (by rfl)]
          refine wp_app_int intTy _ _ (by rfl) _ (.slice fa c.busy.length fc) c.busy ⟨x3.heap.size, 0, none⟩ 0 (by rfl) (by rfl) (o3.gr (by (repeat (first | exact Gr.refl _ | assumption | apply Gr.alloc | apply Gr.drew | apply Gr.drewN | refine Gr.trans ?_ (by assumption))))) (cell_gr (lit_cell rfl) (by (repeat (first | exact Gr.refl _ | assumption | apply Gr.alloc | apply Gr.drew | apply Gr.drewN | refine Gr.trans ?_ (by assumption))))) (by decide) hbl1 (Nat.le_trans f3.le (Gr.le (by (repeat (first | exact Gr.refl _ | assumption | apply Gr.alloc | apply Gr.drew | apply Gr.drewN | refine Gr.trans ?_ (by assumption)))))) ?_
          intro g cp x4 o4 hgs4 hgb4 hat4 hlt4
          have G4 : Gr wE x4 := hgs4 wE (Gr.le (by (repeat (first | exact Gr.refl _ | assumption | apply Gr.alloc | apply Gr.drew | apply Gr.drewN | refine Gr.trans ?_ (by assumption))))) (by (repeat (first | exact Gr.refl _ | assumption | apply Gr.alloc | apply Gr.drew | apply Gr.drewN | refine Gr.trans ?_ (by assumption))))
          (refine hK.out _ _ ?_ (fun hHeld => ?_); · (exact ⟨cell_gr D0 (by (repeat (first | exact Gr.refl _ | assumption | apply Gr.alloc | apply Gr.drew | apply Gr.drewN | refine Gr.trans ?_ (by assumption)))), cell_gr D1 (by (repeat (first | exact Gr.refl _ | assumption | apply Gr.alloc | apply Gr.drew | apply Gr.drewN | refine Gr.trans ?_ (by assumption)))), cell_gr C0 (by (repeat (first | exact Gr.refl _ | assumption | apply Gr.alloc | apply Gr.drew | apply Gr.drewN | refine Gr.trans ?_ (by assumption)))), cell_gr C1 (by (repeat (first | exact Gr.refl _ | assumption | apply Gr.alloc | apply Gr.drew | apply Gr.drewN | refine Gr.trans ?_ (by assumption))))⟩))
          clear hK K
          try simp only [Act.put, List.setIfInBounds_toArray, List.set_cons_zero, List.set_cons_succ]
          refine next24 (by kernel_rfl) (fun K hK => ?_)
          go_simp
          go_at_call 49
          refine (Max_calls _ (c.busy ++ [0]) _ (o4.ints.gr (by (repeat (first | exact Gr.refl _ | assumption | apply Gr.alloc | apply Gr.drew | apply Gr.drewN | refine Gr.trans ?_ (by assumption))))) (by simp)).mono ?_
          rintro _ _ ⟨rfl, rfl⟩
          (refine hK.out _ _ ?_ (fun hHeld => ?_); · (exact ⟨cell_gr D0 (by (repeat (first | exact Gr.refl _ | assumption | apply Gr.alloc | apply Gr.drew | apply Gr.drewN | refine Gr.trans ?_ (by assumption)))), cell_gr D1 (by (repeat (first | exact Gr.refl _ | assumption | apply Gr.alloc | apply Gr.drew | apply Gr.drewN | refine Gr.trans ?_ (by assumption)))), cell_gr C0 (by (repeat (first | exact Gr.refl _ | assumption | apply Gr.alloc | apply Gr.drew | apply Gr.drewN | refine Gr.trans ?_ (by assumption)))), cell_gr C1 (by (repeat (first | exact Gr.refl _ | assumption | apply Gr.alloc | apply Gr.drew | apply Gr.drewN | refine Gr.trans ?_ (by assumption))))⟩))
          clear hK K
          try simp only [Act.put, List.setIfInBounds_toArray, List.set_cons_zero, List.set_cons_succ]
          (refine hold25 (v := ?_) (by kernel_rfl) (by kernel_rfl) (by kernel_rfl) (fun _ _ _ h => h) (by kernel_rfl) (fun w' hSw => ?_) (by assumption) ?_; rotate_left 1; · ((try dsimp only at hSw); (try go_simp); (try (with_reducible rfl))); (try simp only [Act.put, List.setIfInBounds_toArray, List.set_cons_zero, List.set_cons_succ]))
          refine ends26 (by kernel_rfl) (fun K hK => ?_)
          go_simp
          refine hK.out _ _ ?_
          go_wp2_with fail
          go_ret
          exact ⟨rfl, GX.trans (by (repeat (first | exact Gr.refl _ | assumption | apply Gr.alloc | apply Gr.drew | apply Gr.drewN | refine Gr.trans ?_ (by assumption))))⟩
        · skip
          go_simp
          (refine hK.out _ _ ?_ (fun hHeld => ?_); · (exact ⟨cell_gr D0 (by (repeat (first | exact Gr.refl _ | assumption | apply Gr.alloc | apply Gr.drew | apply Gr.drewN | refine Gr.trans ?_ (by assumption)))), cell_gr D1 (by (repeat (first | exact Gr.refl _ | assumption | apply Gr.alloc | apply Gr.drew | apply Gr.drewN | refine Gr.trans ?_ (by assumption)))), cell_gr C0 (by (repeat (first | exact Gr.refl _ | assumption | apply Gr.alloc | apply Gr.drew | apply Gr.drewN | refine Gr.trans ?_ (by assumption)))), cell_gr C1 (by (repeat (first | exact Gr.refl _ | assumption | apply Gr.alloc | apply Gr.drew | apply Gr.drewN | refine Gr.trans ?_ (by assumption))))⟩))
          clear hK K
          try simp only [Act.put, List.setIfInBounds_toArray, List.set_cons_zero, List.set_cons_succ]
          refine next21 (by kernel_rfl) (fun K hK => ?_)
          go_simp
          go_at_call 44
          refine (Clone_calls _ c.busy _ (KB.gr (by (repeat (first | exact Gr.refl _ | assumption | apply Gr.alloc | apply Gr.drew | apply Gr.drewN | refine Gr.trans ?_ (by assumption))))) hbl).mono ?_
          rintro _ x3 ⟨y3, rfl, o3, f3⟩
          obtain ⟨fa, fc, rfl, _, _⟩ := o3.ints.len
          (refine hK.out _ _ ?_ (fun hHeld => ?_); · (exact ⟨cell_gr D0 (by (repeat (first | exact Gr.refl _ | assumption | apply Gr.alloc | apply Gr.drew | apply Gr.drewN | refine Gr.trans ?_ (by assumption)))), cell_gr D1 (by (repeat (first | exact Gr.refl _ | assumption | apply Gr.alloc | apply Gr.drew | apply Gr.drewN | refine Gr.trans ?_ (by assumption)))), cell_gr C0 (by (repeat (first | exact Gr.refl _ | assumption | apply Gr.alloc | apply Gr.drew | apply Gr.drewN | refine Gr.trans ?_ (by assumption)))), cell_gr C1 (by (repeat (first | exact Gr.refl _ | assumption | apply Gr.alloc | apply Gr.drew | apply Gr.drewN | refine Gr.trans ?_ (by assumption))))⟩))
          clear hK K
          try simp only [Act.put, List.setIfInBounds_toArray, List.set_cons_zero, List.set_cons_succ]
          refine next23 (by kernel_rfl) (fun K hK => ?_)
          rw [if_pos (by rfl)]
          refine wp_app_int intTy _ _ (by rfl) _ (.slice fa c.busy.length fc) c.busy ⟨x2.heap.size, 0, none⟩ 0 (by rfl) (by rfl) (o3.gr (by (repeat (first | exact Gr.refl _ | assumption | apply Gr.alloc | apply Gr.drew | apply Gr.drewN | refine Gr.trans ?_ (by assumption))))) (cell_gr (lit_cell rfl) (by (repeat (first | exact Gr.refl _ | assumption | apply Gr.alloc | apply Gr.drew | apply Gr.drewN | refine Gr.trans ?_ (by assumption))))) (by decide) hbl1 (Nat.le_trans f3.le (Gr.le (by (repeat (first | exact Gr.refl _ | assumption | apply Gr.alloc | apply Gr.drew | apply Gr.drewN | refine Gr.trans ?_ (by assumption)))))) ?_
          intro g cp x4 o4 hgs4 hgb4 hat4 hlt4
          have G4 : Gr wE x4 := hgs4 wE (Gr.le (by (repeat (first | exact Gr.refl _ | assumption | apply Gr.alloc | apply Gr.drew | apply Gr.drewN | refine Gr.trans ?_ (by assumption))))) (by (repeat (first | exact Gr.refl _ | assumption | apply Gr.alloc | apply Gr.drew | apply Gr.drewN | refine Gr.trans ?_ (by assumption))))
          (refine hK.out _ _ ?_ (fun hHeld => ?_); · (exact ⟨cell_gr D0 (by (repeat (first | exact Gr.refl _ | assumption | apply Gr.alloc | apply Gr.drew | apply Gr.drewN | refine Gr.trans ?_ (by assumption)))), cell_gr D1 (by (repeat (first | exact Gr.refl _ | assumption | apply Gr.alloc | apply Gr.drew | apply Gr.drewN | refine Gr.trans ?_ (by assumption)))), cell_gr C0 (by (repeat (first | exact Gr.refl _ | assumption | apply Gr.alloc | apply Gr.drew | apply Gr.drewN | refine Gr.trans ?_ (by assumption)))), cell_gr C1 (by (repeat (first | exact Gr.refl _ | assumption | apply Gr.alloc | apply Gr.drew | apply Gr.drewN | refine Gr.trans ?_ (by assumption))))⟩))
          clear hK K
          try simp only [Act.put, List.setIfInBounds_toArray, List.set_cons_zero, List.set_cons_succ]
          refine next24 (by kernel_rfl) (fun K hK => ?_)
          go_simp
          go_at_call 49
          refine (Max_calls _ (c.busy ++ [0]) _ (o4.ints.gr (by (repeat (first | exact Gr.refl _ | assumption | apply Gr.alloc | apply Gr.drew | apply Gr.drewN | refine Gr.trans ?_ (by assumption))))) (by simp)).mono ?_
          rintro _ _ ⟨rfl, rfl⟩
          (refine hK.out _ _ ?_ (fun hHeld => ?_); · (exact ⟨cell_gr D0 (by (repeat (first | exact Gr.refl _ | assumption | apply Gr.alloc | apply Gr.drew | apply Gr.drewN | refine Gr.trans ?_ (by assumption)))), cell_gr D1 (by (repeat (first | exact Gr.refl _ | assumption | apply Gr.alloc | apply Gr.drew | apply Gr.drewN | refine Gr.trans ?_ (by assumption)))), cell_gr C0 (by (repeat (first | exact Gr.refl _ | assumption | apply Gr.alloc | apply Gr.drew | apply Gr.drewN | refine Gr.trans ?_ (by assumption)))), cell_gr C1 (by (repeat (first | exact Gr.refl _ | assumption | apply Gr.alloc | apply Gr.drew | apply Gr.drewN | refine Gr.trans ?_ (by assumption))))⟩))
          clear hK K
          try simp only [Act.put, List.setIfInBounds_toArray, List.set_cons_zero, List.set_cons_succ]
          (refine hold25 (v := ?_) (by kernel_rfl) (by kernel_rfl) (by kernel_rfl) (fun _ _ _ h => h) (by kernel_rfl) (fun w' hSw => ?_) (by assumption) ?_; rotate_left 1; · ((try dsimp only at hSw); (try go_simp); (try (with_reducible rfl))); (try simp only [Act.put, List.setIfInBounds_toArray, List.set_cons_zero, List.set_cons_succ]))
          refine ends26 (by kernel_rfl) (fun K hK => ?_)
          go_simp
          refine hK.out _ _ ?_
          go_wp2_with fail
          go_ret
          exact ⟨rfl, GX.trans (by (repeat (first | exact Gr.refl _ | assumption | apply Gr.alloc | apply Gr.drew | apply Gr.drewN | refine Gr.trans ?_ (by assumption))))⟩
      · have HMX := Lib.hid (show maxF (c.busy ++ [0]) ≤ 0 by omega)
        have q5 : ¬ (0 : Int) < maxF (c.busy ++ [0]) := hmx
        go_enter Try.func14, Try.ntmps14
        go_wp2_with fail
        refine (alive16_calls _).mono ?_
        rintro _ w1 ⟨rfl, g1⟩
        have B0 := box_cell g1 (i := 0) rfl
        have B1 := box_cell g1 (i := 1) rfl
        have GW : Gr w w1 := ((Gr.refl w).alloc _).trans g1
        go_wp2_with fail
        refine (Play_calls _ _ N i ops _ (hN'.gr GW) hi (hu.gr GW) hul).mono ?_
        rw [HP.out]; rintro _ w2 ⟨v2, u2, rfl, i2, j2, g2⟩
        simp only [] at i2 j2
        obtain ⟨ma, mc, ba, bc, rfl, _, _, _, _, hM, hB⟩ := i2.open_
        obtain ⟨la, lc, rfl, _, _⟩ := j2.len
        have GE : Gr w2 (w2.alloc (.cells #[.slice ma c.mark.length mc, .slice ba c.busy.length bc] 63)) := (Gr.refl _).alloc _
        have bC : Blk (w2.alloc (.cells #[.slice ma c.mark.length mc, .slice ba c.busy.length bc] 63)) w2.heap.size 63 #[.slice ma c.mark.length mc, .slice ba c.busy.length bc] := Blk.new rfl
        have D0 := cell_gr (cell_gr B0 g2) GE
        have D1 := cell_gr (cell_gr B1 g2) GE
        have C0 := bC.cell (i := 0) (v := .slice ma c.mark.length mc) rfl
        have C1 := bC.cell (i := 1) (v := .slice ba c.busy.length bc) rfl
        have GX := (GW.trans g2).trans GE
        have KN := hN'.gr GX
        have KM := hM.gr GE
        have KB := hB.gr GE
        have JL := j2.gr GE
        clear g1 g2 B0 B1 GW i2 j2 hM hB bC
        go_wp2_with fail
        generalize w2.alloc (.cells #[.slice ma c.mark.length mc, .slice ba c.busy.length bc] 63) = wE at GE D0 D1 C0 C1 GX KN KM KB JL ⊢
        refine cut26 (S := fun w' => w'.cell? ⟨w.heap.size, 0, none⟩ = some (.int .i64 N.places) ∧ w'.cell? ⟨w.heap.size, 1, none⟩ = some (.slice a N.trans.length cap) ∧ w'.cell? ⟨w2.heap.size, 0, none⟩ = some (.slice ma c.mark.length mc) ∧ w'.cell? ⟨w2.heap.size, 1, none⟩ = some (.slice ba c.busy.length bc)) (by kernel_rfl) (by kernel_rfl) (by exact ⟨cell_gr D0 (by (repeat (first | exact Gr.refl _ | assumption | apply Gr.alloc | apply Gr.drew | apply Gr.drewN | refine Gr.trans ?_ (by assumption)))), cell_gr D1 (by (repeat (first | exact Gr.refl _ | assumption | apply Gr.alloc | apply Gr.drew | apply Gr.drewN | refine Gr.trans ?_ (by assumption)))), cell_gr C0 (by (repeat (first | exact Gr.refl _ | assumption | apply Gr.alloc | apply Gr.drew | apply Gr.drewN | refine Gr.trans ?_ (by assumption)))), cell_gr C1 (by (repeat (first | exact Gr.refl _ | assumption | apply Gr.alloc | apply Gr.drew | apply Gr.drewN | refine Gr.trans ?_ (by assumption))))⟩) (fun hHeld => ?_)
        (refine hold0 (v := ?_) (by kernel_rfl) (by kernel_rfl) (by kernel_rfl) (fun _ _ _ h => h) (by kernel_rfl) (fun w' hSw => ?_) (by assumption) ?_; rotate_left 1; · ((try dsimp only at hSw); (try go_simp); (try (with_reducible rfl))); (try simp only [Act.put, List.setIfInBounds_toArray, List.set_cons_zero, List.set_cons_succ]))
        (refine hold1 (v := ?_) (by kernel_rfl) (by kernel_rfl) (by kernel_rfl) (fun _ _ _ h => h) (by kernel_rfl) (fun w' hSw => ?_) (by assumption) ?_; rotate_left 1; · ((try dsimp only at hSw); (try go_simp); (try (with_reducible rfl))); (try simp only [Act.put, List.setIfInBounds_toArray, List.set_cons_zero, List.set_cons_succ]))
        (refine hold2 (v := ?_) (by kernel_rfl) (by kernel_rfl) (by kernel_rfl) (fun _ _ _ h => h) (by kernel_rfl) (fun w' hSw => ?_) (by assumption) ?_; rotate_left 1; · ((try dsimp only at hSw); (try go_simp); (try (with_reducible rfl))); (try simp only [Act.put, List.setIfInBounds_toArray, List.set_cons_zero, List.set_cons_succ]))
        (refine hold3 (v := ?_) (by kernel_rfl) (by kernel_rfl) (by kernel_rfl) (fun _ _ _ h => h) (by kernel_rfl) (fun w' hSw => ?_) (by assumption) ?_; rotate_left 1; · ((try dsimp only at hSw); (try go_simp); (try (with_reducible rfl))); (try simp only [Act.put, List.setIfInBounds_toArray, List.set_cons_zero, List.set_cons_succ]))
        (refine hold4 (v := ?_) (by kernel_rfl) (by kernel_rfl) (by kernel_rfl) (fun _ _ _ h => h) (by kernel_rfl) (fun w' hSw => ?_) (by assumption) ?_; rotate_left 1; · ((try dsimp only at hSw); (try go_simp); (try (with_reducible rfl))); (try simp only [Act.put, List.setIfInBounds_toArray, List.set_cons_zero, List.set_cons_succ]))
        (refine hold5 (v := ?_) (by kernel_rfl) (by kernel_rfl) (by kernel_rfl) (fun _ _ _ h => h) (by kernel_rfl) (fun w' hSw => ?_) (by assumption) ?_; rotate_left 1; · ((try dsimp only at hSw); (try go_simp); (try (with_reducible rfl))); (try simp only [Act.put, List.setIfInBounds_toArray, List.set_cons_zero, List.set_cons_succ]))
        (refine hold6 (v := ?_) (by kernel_rfl) (by kernel_rfl) (by kernel_rfl) (fun _ _ _ h => h) (by kernel_rfl) (fun w' hSw => ?_) (by assumption) ?_; rotate_left 1; · ((try dsimp only at hSw); (try go_simp); (try (with_reducible rfl))); (try simp only [Act.put, List.setIfInBounds_toArray, List.set_cons_zero, List.set_cons_succ]))
        (refine hold7 (v := ?_) (by kernel_rfl) (by kernel_rfl) (by kernel_rfl) (fun _ _ _ h => h) (by kernel_rfl) (fun w' hSw => ?_) (by assumption) ?_; rotate_left 1; · ((try dsimp only at hSw); (try go_simp); (try (with_reducible rfl))); (try simp only [Act.put, List.setIfInBounds_toArray, List.set_cons_zero, List.set_cons_succ]))
        (refine hold8 (v := ?_) (by kernel_rfl) (by kernel_rfl) (by kernel_rfl) (fun _ _ _ h => h) (by kernel_rfl) (fun w' hSw => ?_) (by assumption) ?_; rotate_left 1; · ((try dsimp only at hSw); (try go_simp); (try (with_reducible rfl))); (try simp only [Act.put, List.setIfInBounds_toArray, List.set_cons_zero, List.set_cons_succ]))
        (refine hold9 (v := ?_) (by kernel_rfl) (by kernel_rfl) (by kernel_rfl) (fun _ _ _ h => h) (by kernel_rfl) (fun w' hSw => ?_) (by assumption) ?_; rotate_left 1; · ((try dsimp only at hSw); (try go_simp); (try (with_reducible rfl))); (try simp only [Act.put, List.setIfInBounds_toArray, List.set_cons_zero, List.set_cons_succ]))
        (refine hold10 (v := ?_) (by kernel_rfl) (by kernel_rfl) (by kernel_rfl) (fun _ _ _ h => h) (by kernel_rfl) (fun w' hSw => ?_) (by assumption) ?_; rotate_left 1; · ((try dsimp only at hSw); (try go_simp); (try (with_reducible rfl))); (try simp only [Act.put, List.setIfInBounds_toArray, List.set_cons_zero, List.set_cons_succ]))
        (refine hold11 (v := ?_) (by kernel_rfl) (by kernel_rfl) (by kernel_rfl) (fun _ _ _ h => h) (by kernel_rfl) (fun w' hSw => ?_) (by assumption) ?_; rotate_left 1; · ((try dsimp only at hSw); (try go_simp); (try (with_reducible rfl))); (try simp only [Act.put, List.setIfInBounds_toArray, List.set_cons_zero, List.set_cons_succ]))
        (refine hold12 (v := ?_) (by kernel_rfl) (by kernel_rfl) (by kernel_rfl) (fun _ _ _ h => h) (by kernel_rfl) (fun w' hSw => ?_) (by assumption) ?_; rotate_left 1; · ((try dsimp only at hSw); (try go_simp); (try (with_reducible rfl))); (try simp only [Act.put, List.setIfInBounds_toArray, List.set_cons_zero, List.set_cons_succ]))
        (refine hold13 (v := ?_) (by kernel_rfl) (by kernel_rfl) (by kernel_rfl) (fun _ _ _ h => h) (by kernel_rfl) (fun w' hSw => ?_) (by assumption) ?_; rotate_left 1; · ((try dsimp only at hSw); (try go_simp); (try (with_reducible rfl))); (try simp only [Act.put, List.setIfInBounds_toArray, List.set_cons_zero, List.set_cons_succ]))
        refine next14 (by kernel_rfl) (fun K hK => ?_)
        go_simp
        go_at_call 20
        refine (Start_calls _ N o _ (KN.gr (by (repeat (first | exact Gr.refl _ | assumption | apply Gr.alloc | apply Gr.drew | apply Gr.drewN | refine Gr.trans ?_ (by assumption))))) ho).mono ?_
        rintro _ x1 ⟨y1, rfl, o1, f1⟩
        obtain ⟨ea, ec, rfl, _, _⟩ := o1.ints.len
        (refine hK.out _ _ ?_ (fun hHeld => ?_); · (exact ⟨cell_gr D0 (by (repeat (first | exact Gr.refl _ | assumption | apply Gr.alloc | apply Gr.drew | apply Gr.drewN | refine Gr.trans ?_ (by assumption)))), cell_gr D1 (by (repeat (first | exact Gr.refl _ | assumption | apply Gr.alloc | apply Gr.drew | apply Gr.drewN | refine Gr.trans ?_ (by assumption)))), cell_gr C0 (by (repeat (first | exact Gr.refl _ | assumption | apply Gr.alloc | apply Gr.drew | apply Gr.drewN | refine Gr.trans ?_ (by assumption)))), cell_gr C1 (by (repeat (first | exact Gr.refl _ | assumption | apply Gr.alloc | apply Gr.drew | apply Gr.drewN | refine Gr.trans ?_ (by assumption))))⟩))
        clear hK K
        try simp only [Act.put, List.setIfInBounds_toArray, List.set_cons_zero, List.set_cons_succ]
        refine next15 (by kernel_rfl) (fun K hK => ?_)
        go_simp
        go_at_call 18
        refine (Equal_calls _ _ c.mark (oneN (startLen N) o) _ (KM.gr (by (repeat (first | exact Gr.refl _ | assumption | apply Gr.alloc | apply Gr.drew | apply Gr.drewN | refine Gr.trans ?_ (by assumption))))) (o1.ints.gr (by (repeat (first | exact Gr.refl _ | assumption | apply Gr.alloc | apply Gr.drew | apply Gr.drewN | refine Gr.trans ?_ (by assumption)))))).mono ?_
        rw [HEQ.out]; rintro _ x2 ⟨rfl, f2⟩
        (refine hK.out _ _ ?_ (fun hHeld => ?_); · (exact ⟨cell_gr D0 (by (repeat (first | exact Gr.refl _ | assumption | apply Gr.alloc | apply Gr.drew | apply Gr.drewN | refine Gr.trans ?_ (by assumption)))), cell_gr D1 (by (repeat (first | exact Gr.refl _ | assumption | apply Gr.alloc | apply Gr.drew | apply Gr.drewN | refine Gr.trans ?_ (by assumption)))), cell_gr C0 (by (repeat (first | exact Gr.refl _ | assumption | apply Gr.alloc | apply Gr.drew | apply Gr.drewN | refine Gr.trans ?_ (by assumption)))), cell_gr C1 (by (repeat (first | exact Gr.refl _ | assumption | apply Gr.alloc | apply Gr.drew | apply Gr.drewN | refine Gr.trans ?_ (by assumption))))⟩))
        clear hK K
        try simp only [Act.put, List.setIfInBounds_toArray, List.set_cons_zero, List.set_cons_succ]
        (refine hold16 (v := ?_) (by kernel_rfl) (by kernel_rfl) (by kernel_rfl) (fun _ _ _ h => h) (by kernel_rfl) (fun w' hSw => ?_) (by assumption) ?_; rotate_left 1; · ((try dsimp only at hSw); (try go_simp); (try (with_reducible rfl))); (try simp only [Act.put, List.setIfInBounds_toArray, List.set_cons_zero, List.set_cons_succ]))
        (refine hold17 (v := ?_) (by kernel_rfl) (by kernel_rfl) (by kernel_rfl) (fun _ _ _ h => h) (by kernel_rfl) (fun w' hSw => ?_) (by assumption) ?_; rotate_left 1; · ((try dsimp only at hSw); (try go_simp); (try (with_reducible rfl))); (try simp only [Act.put, List.setIfInBounds_toArray, List.set_cons_zero, List.set_cons_succ]))
        (refine hold18 (v := ?_) (by kernel_rfl) (by kernel_rfl) (by kernel_rfl) (fun _ _ _ h => h) (by kernel_rfl) (fun w' hSw => ?_) (by assumption) ?_; rotate_left 1; · ((try dsimp only at hSw); (try go_simp); (try (with_reducible rfl))); (try simp only [Act.put, List.setIfInBounds_toArray, List.set_cons_zero, List.set_cons_succ]))
        (refine hold19 (v := ?_) (by kernel_rfl) (by kernel_rfl) (by kernel_rfl) (fun _ _ _ h => h) (by kernel_rfl) (fun w' hSw => ?_) (by assumption) ?_; rotate_left 1; · ((try dsimp only at hSw); (try go_simp); (try (with_reducible rfl))); (try simp only [Act.put, List.setIfInBounds_toArray, List.set_cons_zero, List.set_cons_succ]))
        (refine hold20 (v := ?_) (by kernel_rfl) (by kernel_rfl) (by kernel_rfl) (fun _ _ _ h => h) (by kernel_rfl) (fun w' hSw => ?_) (by assumption) ?_; rotate_left 1; · ((try dsimp only at hSw); (try go_simp); (try (with_reducible rfl))); (try simp only [Act.put, List.setIfInBounds_toArray, List.set_cons_zero, List.set_cons_succ]))
        refine next21b (by kernel_rfl) (fun K hK => ?_) (fun K hK => ?_)
        · skip
          go_simp
          go_at_call 44
          refine (Clone_calls _ c.busy _ (KB.gr (by (repeat (first | exact Gr.refl _ | assumption | apply Gr.alloc | apply Gr.drew | apply Gr.drewN | refine Gr.trans ?_ (by assumption))))) hbl).mono ?_
          rintro _ x3 ⟨y3, rfl, o3, f3⟩
          obtain ⟨fa, fc, rfl, _, _⟩ := o3.ints.len
          (refine hK.out _ _ ?_ (fun hHeld => ?_); · (exact ⟨cell_gr D0 (by (repeat (first | exact Gr.refl _ | assumption | apply Gr.alloc | apply Gr.drew | apply Gr.drewN | refine Gr.trans ?_ (by assumption)))), cell_gr D1 (by (repeat (first | exact Gr.refl _ | assumption | apply Gr.alloc | apply Gr.drew | apply Gr.drewN | refine Gr.trans ?_ (by assumption)))), cell_gr C0 (by (repeat (first | exact Gr.refl _ | assumption | apply Gr.alloc | apply Gr.drew | apply Gr.drewN | refine Gr.trans ?_ (by assumption)))), cell_gr C1 (by (repeat (first | exact Gr.refl _ | assumption | apply Gr.alloc | apply Gr.drew | apply Gr.drewN | refine Gr.trans ?_ (by assumption))))⟩))
          clear hK K
          try simp only [Act.put, List.setIfInBounds_toArray, List.set_cons_zero, List.set_cons_succ]
          refine next22 (by kernel_rfl) (fun K hK => ?_)
          go_simp
          (refine hK.out _ _ ?_ (fun hHeld => ?_); · (exact ⟨cell_gr D0 (by (repeat (first | exact Gr.refl _ | assumption | apply Gr.alloc | apply Gr.drew | apply Gr.drewN | refine Gr.trans ?_ (by assumption)))), cell_gr D1 (by (repeat (first | exact Gr.refl _ | assumption | apply Gr.alloc | apply Gr.drew | apply Gr.drewN | refine Gr.trans ?_ (by assumption)))), cell_gr C0 (by (repeat (first | exact Gr.refl _ | assumption | apply Gr.alloc | apply Gr.drew | apply Gr.drewN | refine Gr.trans ?_ (by assumption)))), cell_gr C1 (by (repeat (first | exact Gr.refl _ | assumption | apply Gr.alloc | apply Gr.drew | apply Gr.drewN | refine Gr.trans ?_ (by assumption))))⟩))
          clear hK K
          try simp only [Act.put, List.setIfInBounds_toArray, List.set_cons_zero, List.set_cons_succ]
          refine next23 (by kernel_rfl) (fun K hK => ?_)
          rw [if_pos (by rfl)]
          refine wp_app_int intTy _ _ (by rfl) _ (.slice fa c.busy.length fc) c.busy ⟨x3.heap.size, 0, none⟩ 0 (by rfl) (by rfl) (o3.gr (by (repeat (first | exact Gr.refl _ | assumption | apply Gr.alloc | apply Gr.drew | apply Gr.drewN | refine Gr.trans ?_ (by assumption))))) (cell_gr (lit_cell rfl) (by (repeat (first | exact Gr.refl _ | assumption | apply Gr.alloc | apply Gr.drew | apply Gr.drewN | refine Gr.trans ?_ (by assumption))))) (by decide) hbl1 (Nat.le_trans f3.le (Gr.le (by (repeat (first | exact Gr.refl _ | assumption | apply Gr.alloc | apply Gr.drew | apply Gr.drewN | refine Gr.trans ?_ (by assumption)))))) ?_
          intro g cp x4 o4 hgs4 hgb4 hat4 hlt4
          have G4 : Gr wE x4 := hgs4 wE (Gr.le (by (repeat (first | exact Gr.refl _ | assumption | apply Gr.alloc | apply Gr.drew | apply Gr.drewN | refine Gr.trans ?_ (by assumption))))) (by (repeat (first | exact Gr.refl _ | assumption | apply Gr.alloc | apply Gr.drew | apply Gr.drewN | refine Gr.trans ?_ (by assumption))))
          (refine hK.out _ _ ?_ (fun hHeld => ?_); · (exact ⟨cell_gr D0 (by (repeat (first | exact Gr.refl _ | assumption | apply Gr.alloc | apply Gr.drew | apply Gr.drewN | refine Gr.trans ?_ (by assumption)))), cell_gr D1 (by (repeat (first | exact Gr.refl _ | assumption | apply Gr.alloc | apply Gr.drew | apply Gr.drewN | refine Gr.trans ?_ (by assumption)))), cell_gr C0 (by (repeat (first | exact Gr.refl _ | assumption | apply Gr.alloc | apply Gr.drew | apply Gr.drewN | refine Gr.trans ?_ (by assumption)))), cell_gr C1 (by (repeat (first | exact Gr.refl _ | assumption | apply Gr.alloc | apply Gr.drew | apply Gr.drewN | refine Gr.trans ?_ (by assumption))))⟩))
          clear hK K
          try simp only [Act.put, List.setIfInBounds_toArray, List.set_cons_zero, List.set_cons_succ]
          refine next24 (by kernel_rfl) (fun K hK => ?_)
          go_simp
          go_at_call 49
          refine (Max_calls _ (c.busy ++ [0]) _ (o4.ints.gr (by (repeat (first | exact Gr.refl _ | assumption | apply Gr.alloc | apply Gr.drew | apply Gr.drewN | refine Gr.trans ?_ (by assumption))))) (by simp)).mono ?_
          rintro _ _ ⟨rfl, rfl⟩
          (refine hK.out _ _ ?_ (fun hHeld => ?_); · (exact ⟨cell_gr D0 (by (repeat (first | exact Gr.refl _ | assumption | apply Gr.alloc | apply Gr.drew | apply Gr.drewN | refine Gr.trans ?_ (by assumption)))), cell_gr D1 (by (repeat (first | exact Gr.refl _ | assumption | apply Gr.alloc | apply Gr.drew | apply Gr.drewN | refine Gr.trans ?_ (by assumption)))), cell_gr C0 (by (repeat (first | exact Gr.refl _ | assumption | apply Gr.alloc | apply Gr.drew | apply Gr.drewN | refine Gr.trans ?_ (by assumption)))), cell_gr C1 (by (repeat (first | exact Gr.refl _ | assumption | apply Gr.alloc | apply Gr.drew | apply Gr.drewN | refine Gr.trans ?_ (by assumption))))⟩))
          clear hK K
          try simp only [Act.put, List.setIfInBounds_toArray, List.set_cons_zero, List.set_cons_succ]
          (refine hold25 (v := ?_) (by kernel_rfl) (by kernel_rfl) (by kernel_rfl) (fun _ _ _ h => h) (by kernel_rfl) (fun w' hSw => ?_) (by assumption) ?_; rotate_left 1; · ((try dsimp only at hSw); (try go_simp); (try (with_reducible rfl))); (try simp only [Act.put, List.setIfInBounds_toArray, List.set_cons_zero, List.set_cons_succ]))
          refine ends26 (by kernel_rfl) (fun K hK => ?_)
          go_simp
          refine hK.out _ _ ?_
          have GR : Gr wE x4 := G4
          have E0 := cell_gr D0 GR
          have E1 := cell_gr D1 GR
          have GXX := GX.trans GR
          have KN2 := hN'.gr GXX
          have HTX := Lib.hid (hT.gr GXX)
          have KU := hu.gr GXX
          have KL := JL.gr GR
          clear D0 D1 C0 C1 GR o4 hgs4 hgb4 hat4 KN KM KB JL GX GE hu hN hN' hT
          go_wp2_with fail
          go_loopw [12, 56] (fun wv q wr => ∃ k : Nat, q = .int .i64 k ∧ k ≤ ops.length ∧ OwnI 3 x4.heap.size wr wv (endTo N c0 ops k) ∧ Gr x4 wr) (fun _ q _ => ops.length - (intOf q).toNat)
          case atStart => exact ⟨0, rfl, Nat.zero_le _, OwnI.nil _ _ _, Gr.refl _⟩
          case round =>
            rename World => wr
            obtain ⟨k, rfl, hk, hw, hgr⟩ := hrel
            by_cases hlt : k < ops.length
            · obtain ⟨ub, uo, rfl, u0, u1, hI⟩ := (KU.gr hgr).cop hlt
              obtain ⟨lb, lo, rfl, l0⟩ := (KL.gr hgr).cell (i := k) (by have := HCS.out.ll; omega)
              have hkI : (k : Int) < (ops.length : Int) := by omega
              have hkL : (k : Int) < (l.length : Int) := by have := HCS.out.ll; omega
              have hk0 : (0 : Int) ≤ (k : Int) := by omega
              rw [HCS.out.err k hlt] at l0
              have hlen := endTo_len N c0 ops k
              have hn1 : (endTo N c0 ops k).length + 1 ≤ 17592186044416 := by omega
              by_cases h1 : (doF N (playTo N c0 ops k).1 (ix ops k).kind (ix ops k).tran).2 = 0
              · by_cases h3 : (ix ops k).kind = 3
                · obtain ⟨hck, _, j, hj, hjl, _, _⟩ := doF_zero h1
                  have HS := Lib.hid (endTo_yes h1 h3 hj)
                  rw [h1] at l0
                  rw [h3] at u0
                  rw [hj] at u1
                  obtain ⟨tb, tf, vp, vq, hta, t0, _, _, hlI, _, _⟩ := (HTX.out.gr hgr).at_ hjl
                  have GB : Gr wr (wr.alloc (.cells #[.int .i64 (3), .int .i64 ((j : Int))] 105)) := (Gr.refl _).alloc _
                  have P0 : (wr.alloc (.cells #[.int .i64 (3), .int .i64 ((j : Int))] 105)).cell? ⟨wr.heap.size, 0, none⟩ = some (.int .i64 3) := box_cell (Gr.refl _) (i := 0) rfl
                  have P1 : (wr.alloc (.cells #[.int .i64 (3), .int .i64 ((j : Int))] 105)).cell? ⟨wr.heap.size, 1, none⟩ = some (.int .i64 (j : Int)) := box_cell (Gr.refl _) (i := 1) rfl
                  have N1 := cell_gr E1 (hgr.trans GB)
                  have L1 := cell_gr l0 GB
                  rw [hta] at N1
                  have T0 := cell_gr t0 GB
                  have hjI : (j : Int) < (N.trans.length : Int) := by omega
                  have hj0 : (0 : Int) ≤ (j : Int) := by omega
                  have GB2 : Gr wr ((wr.alloc (.cells #[.int .i64 (3), .int .i64 ((j : Int))] 105)).alloc (.cells #[.int .i64 (N.tr j).label] 3)) := GB.alloc _
                  have hw2 := hw.gr GB2
                  have hbs := (hgr.trans GB2).le
                  have q6 : decide ((j : Int) < 0) = false := by simp
                  have q7 : decide ((N.trans.length : Int) ≤ (j : Int)) = false := by simp; omega
                  clear h1 h3 hj hck hta
                  go_wp2_with (at_builtin; go_loud (refine app_int intTy _ _ x4.heap.size _ (endTo N c0 ops k) ⟨wr.heap.size + 1, 0, none⟩ (N.tr j).label (by rfl) (by rfl) (by rfl) (by rfl) hw2 (lit_cell (by simp)) hlI hn1 hbs ?_; intro v' w5 ho5 hgs hgb hat))
                  go_roundw
                  case rel => exact ⟨k + 1, by go_num, by omega, by rw [HS.out]; exact ho5, hgs x4 (Nat.le_refl _) (hgr.trans GB2)⟩
                  case measure => simp [intOf]; omega
                · have q3 : ((ix ops k).kind == 3) = false := by simpa using h3
                  rw [h1] at l0
                  have HS := Lib.hid (endTo_no (N := N) (c := c0) (ops := ops) (k := k) (fun h => h3 h.2))
                  have GB : Gr wr (wr.alloc (.cells #[.int .i64 ((ix ops k).kind), .int .i64 ((ix ops k).tran)] 105)) := (Gr.refl _).alloc _
                  have L1 := cell_gr l0 GB
                  have P0 : (wr.alloc (.cells #[.int .i64 ((ix ops k).kind), .int .i64 ((ix ops k).tran)] 105)).cell? ⟨wr.heap.size, 0, none⟩ = some (.int .i64 (ix ops k).kind) := box_cell (Gr.refl _) (i := 0) rfl
                  clear h1
                  go_wp2_with fail
                  go_roundw
                  case rel => exact ⟨k + 1, by go_num, by omega, by rw [HS.out]; exact hw.gr (by (repeat (first | exact Gr.refl _ | assumption | apply Gr.alloc | apply Gr.drew | apply Gr.drewN | refine Gr.trans ?_ (by assumption)))), hgr.trans (by (repeat (first | exact Gr.refl _ | assumption | apply Gr.alloc | apply Gr.drew | apply Gr.drewN | refine Gr.trans ?_ (by assumption))))⟩
                  case measure => simp [intOf]; omega
              · have q3 : ((doF N (playTo N c0 ops k).1 (ix ops k).kind (ix ops k).tran).2 == 0) = false := by simpa using h1
                have HS := Lib.hid (endTo_no (N := N) (c := c0) (ops := ops) (k := k) (fun h => h1 h.1))
                have GB : Gr wr (wr.alloc (.cells #[.int .i64 ((ix ops k).kind), .int .i64 ((ix ops k).tran)] 105)) := (Gr.refl _).alloc _
                have L1 := cell_gr l0 GB
                have P0 : (wr.alloc (.cells #[.int .i64 ((ix ops k).kind), .int .i64 ((ix ops k).tran)] 105)).cell? ⟨wr.heap.size, 0, none⟩ = some (.int .i64 (ix ops k).kind) := box_cell (Gr.refl _) (i := 0) rfl
                clear h1
                go_wp2_with fail
                go_roundw
                case rel => exact ⟨k + 1, by go_num, by omega, by rw [HS.out]; exact hw.gr (by (repeat (first | exact Gr.refl _ | assumption | apply Gr.alloc | apply Gr.drew | apply Gr.drewN | refine Gr.trans ?_ (by assumption)))), hgr.trans (by (repeat (first | exact Gr.refl _ | assumption | apply Gr.alloc | apply Gr.drew | apply Gr.drewN | refine Gr.trans ?_ (by assumption))))⟩
                case measure => simp [intOf]; omega
            · obtain rfl : k = ops.length := by omega
              obtain ⟨wa, wc, rfl, _, _⟩ := hw.ints.len
              have F0 := cell_gr E0 hgr
              have F1 := cell_gr E1 hgr
              have hlen := endTo_len N c0 ops ops.length
              clear E0 E1 KL KU
              go_wp2_with fail
              refine (Has_calls _ _ N i o (endTo N c0 ops ops.length) _ (KN2.gr hgr) hi ho hw.ints (by omega)).mono ?_
              rintro _ w6 ⟨b, rfl, g6, hM⟩
              have GZ := (GXX.trans hgr).trans g6
              have hcase : (hasErr N i o != 0) = true ∨ ((hasErr N i o != 0) = false ∧ b = true) := by
                by_cases h0 : hasErr N i o = 0
                · exact .inr ⟨by simpa using h0, HCS.out.word HMK.out HMX.out b hM h0⟩
                · exact .inl (by simpa using h0)
              clear hM F0 F1 hgr g6 GXX hw KN2
              generalize hasErr N i o = he at hcase ⊢
              rcases hcase with q1 | ⟨q1, rfl⟩
              · go_wp2_with fail
                go_ret
                exact ⟨rfl, GZ⟩
              · go_wp2_with fail
                go_ret
                exact ⟨rfl, GZ⟩
        · skip
          go_simp
          (refine hK.out _ _ ?_ (fun hHeld => ?_); · (exact ⟨cell_gr D0 (by (repeat (first | exact Gr.refl _ | assumption | apply Gr.alloc | apply Gr.drew | apply Gr.drewN | refine Gr.trans ?_ (by assumption)))), cell_gr D1 (by (repeat (first | exact Gr.refl _ | assumption | apply Gr.alloc | apply Gr.drew | apply Gr.drewN | refine Gr.trans ?_ (by assumption)))), cell_gr C0 (by (repeat (first | exact Gr.refl _ | assumption | apply Gr.alloc | apply Gr.drew | apply Gr.drewN | refine Gr.trans ?_ (by assumption)))), cell_gr C1 (by (repeat (first | exact Gr.refl _ | assumption | apply Gr.alloc | apply Gr.drew | apply Gr.drewN | refine Gr.trans ?_ (by assumption))))⟩))
          clear hK K
          try simp only [Act.put, List.setIfInBounds_toArray, List.set_cons_zero, List.set_cons_succ]
          refine next21 (by kernel_rfl) (fun K hK => ?_)
          go_simp
          go_at_call 44
          refine (Clone_calls _ c.busy _ (KB.gr (by (repeat (first | exact Gr.refl _ | assumption | apply Gr.alloc | apply Gr.drew | apply Gr.drewN | refine Gr.trans ?_ (by assumption))))) hbl).mono ?_
          rintro _ x3 ⟨y3, rfl, o3, f3⟩
          obtain ⟨fa, fc, rfl, _, _⟩ := o3.ints.len
          (refine hK.out _ _ ?_ (fun hHeld => ?_); · (exact ⟨cell_gr D0 (by (repeat (first | exact Gr.refl _ | assumption | apply Gr.alloc | apply Gr.drew | apply Gr.drewN | refine Gr.trans ?_ (by assumption)))), cell_gr D1 (by (repeat (first | exact Gr.refl _ | assumption | apply Gr.alloc | apply Gr.drew | apply Gr.drewN | refine Gr.trans ?_ (by assumption)))), cell_gr C0 (by (repeat (first | exact Gr.refl _ | assumption | apply Gr.alloc | apply Gr.drew | apply Gr.drewN | refine Gr.trans ?_ (by assumption)))), cell_gr C1 (by (repeat (first | exact Gr.refl _ | assumption | apply Gr.alloc | apply Gr.drew | apply Gr.drewN | refine Gr.trans ?_ (by assumption))))⟩))
          clear hK K
          try simp only [Act.put, List.setIfInBounds_toArray, List.set_cons_zero, List.set_cons_succ]
          refine next23 (by kernel_rfl) (fun K hK => ?_)
          rw [if_pos (by rfl)]
          refine wp_app_int intTy _ _ (by rfl) _ (.slice fa c.busy.length fc) c.busy ⟨x2.heap.size, 0, none⟩ 0 (by rfl) (by rfl) (o3.gr (by (repeat (first | exact Gr.refl _ | assumption | apply Gr.alloc | apply Gr.drew | apply Gr.drewN | refine Gr.trans ?_ (by assumption))))) (cell_gr (lit_cell rfl) (by (repeat (first | exact Gr.refl _ | assumption | apply Gr.alloc | apply Gr.drew | apply Gr.drewN | refine Gr.trans ?_ (by assumption))))) (by decide) hbl1 (Nat.le_trans f3.le (Gr.le (by (repeat (first | exact Gr.refl _ | assumption | apply Gr.alloc | apply Gr.drew | apply Gr.drewN | refine Gr.trans ?_ (by assumption)))))) ?_
          intro g cp x4 o4 hgs4 hgb4 hat4 hlt4
          have G4 : Gr wE x4 := hgs4 wE (Gr.le (by (repeat (first | exact Gr.refl _ | assumption | apply Gr.alloc | apply Gr.drew | apply Gr.drewN | refine Gr.trans ?_ (by assumption))))) (by (repeat (first | exact Gr.refl _ | assumption | apply Gr.alloc | apply Gr.drew | apply Gr.drewN | refine Gr.trans ?_ (by assumption))))
          (refine hK.out _ _ ?_ (fun hHeld => ?_); · (exact ⟨cell_gr D0 (by (repeat (first | exact Gr.refl _ | assumption | apply Gr.alloc | apply Gr.drew | apply Gr.drewN | refine Gr.trans ?_ (by assumption)))), cell_gr D1 (by (repeat (first | exact Gr.refl _ | assumption | apply Gr.alloc | apply Gr.drew | apply Gr.drewN | refine Gr.trans ?_ (by assumption)))), cell_gr C0 (by (repeat (first | exact Gr.refl _ | assumption | apply Gr.alloc | apply Gr.drew | apply Gr.drewN | refine Gr.trans ?_ (by assumption)))), cell_gr C1 (by (repeat (first | exact Gr.refl _ | assumption | apply Gr.alloc | apply Gr.drew | apply Gr.drewN | refine Gr.trans ?_ (by assumption))))⟩))
          clear hK K
          try simp only [Act.put, List.setIfInBounds_toArray, List.set_cons_zero, List.set_cons_succ]
          refine next24 (by kernel_rfl) (fun K hK => ?_)
          go_simp
          go_at_call 49
          refine (Max_calls _ (c.busy ++ [0]) _ (o4.ints.gr (by (repeat (first | exact Gr.refl _ | assumption | apply Gr.alloc | apply Gr.drew | apply Gr.drewN | refine Gr.trans ?_ (by assumption))))) (by simp)).mono ?_
          rintro _ _ ⟨rfl, rfl⟩
          (refine hK.out _ _ ?_ (fun hHeld => ?_); · (exact ⟨cell_gr D0 (by (repeat (first | exact Gr.refl _ | assumption | apply Gr.alloc | apply Gr.drew | apply Gr.drewN | refine Gr.trans ?_ (by assumption)))), cell_gr D1 (by (repeat (first | exact Gr.refl _ | assumption | apply Gr.alloc | apply Gr.drew | apply Gr.drewN | refine Gr.trans ?_ (by assumption)))), cell_gr C0 (by (repeat (first | exact Gr.refl _ | assumption | apply Gr.alloc | apply Gr.drew | apply Gr.drewN | refine Gr.trans ?_ (by assumption)))), cell_gr C1 (by (repeat (first | exact Gr.refl _ | assumption | apply Gr.alloc | apply Gr.drew | apply Gr.drewN | refine Gr.trans ?_ (by assumption))))⟩))
          clear hK K
          try simp only [Act.put, List.setIfInBounds_toArray, List.set_cons_zero, List.set_cons_succ]
          (refine hold25 (v := ?_) (by kernel_rfl) (by kernel_rfl) (by kernel_rfl) (fun _ _ _ h => h) (by kernel_rfl) (fun w' hSw => ?_) (by assumption) ?_; rotate_left 1; · ((try dsimp only at hSw); (try go_simp); (try (with_reducible rfl))); (try simp only [Act.put, List.setIfInBounds_toArray, List.set_cons_zero, List.set_cons_succ]))
          refine ends26 (by kernel_rfl) (fun K hK => ?_)
          go_simp
          refine hK.out _ _ ?_
          have GR : Gr wE x4 := G4
          have E0 := cell_gr D0 GR
          have E1 := cell_gr D1 GR
          have GXX := GX.trans GR
          have KN2 := hN'.gr GXX
          have HTX := Lib.hid (hT.gr GXX)
          have KU := hu.gr GXX
          have KL := JL.gr GR
          clear D0 D1 C0 C1 GR o4 hgs4 hgb4 hat4 KN KM KB JL GX GE hu hN hN' hT
          go_wp2_with fail
          go_loopw [12, 56] (fun wv q wr => ∃ k : Nat, q = .int .i64 k ∧ k ≤ ops.length ∧ OwnI 3 x4.heap.size wr wv (endTo N c0 ops k) ∧ Gr x4 wr) (fun _ q _ => ops.length - (intOf q).toNat)
          case atStart => exact ⟨0, rfl, Nat.zero_le _, OwnI.nil _ _ _, Gr.refl _⟩
          case round =>
            rename World => wr
            obtain ⟨k, rfl, hk, hw, hgr⟩ := hrel
            by_cases hlt : k < ops.length
            · obtain ⟨ub, uo, rfl, u0, u1, hI⟩ := (KU.gr hgr).cop hlt
              obtain ⟨lb, lo, rfl, l0⟩ := (KL.gr hgr).cell (i := k) (by have := HCS.out.ll; omega)
              have hkI : (k : Int) < (ops.length : Int) := by omega
              have hkL : (k : Int) < (l.length : Int) := by have := HCS.out.ll; omega
              have hk0 : (0 : Int) ≤ (k : Int) := by omega
              rw [HCS.out.err k hlt] at l0
              have hlen := endTo_len N c0 ops k
              have hn1 : (endTo N c0 ops k).length + 1 ≤ 17592186044416 := by omega
              by_cases h1 : (doF N (playTo N c0 ops k).1 (ix ops k).kind (ix ops k).tran).2 = 0
              · by_cases h3 : (ix ops k).kind = 3
                · obtain ⟨hck, _, j, hj, hjl, _, _⟩ := doF_zero h1
                  have HS := Lib.hid (endTo_yes h1 h3 hj)
                  rw [h1] at l0
                  rw [h3] at u0
                  rw [hj] at u1
                  obtain ⟨tb, tf, vp, vq, hta, t0, _, _, hlI, _, _⟩ := (HTX.out.gr hgr).at_ hjl
                  have GB : Gr wr (wr.alloc (.cells #[.int .i64 (3), .int .i64 ((j : Int))] 105)) := (Gr.refl _).alloc _
                  have P0 : (wr.alloc (.cells #[.int .i64 (3), .int .i64 ((j : Int))] 105)).cell? ⟨wr.heap.size, 0, none⟩ = some (.int .i64 3) := box_cell (Gr.refl _) (i := 0) rfl
                  have P1 : (wr.alloc (.cells #[.int .i64 (3), .int .i64 ((j : Int))] 105)).cell? ⟨wr.heap.size, 1, none⟩ = some (.int .i64 (j : Int)) := box_cell (Gr.refl _) (i := 1) rfl
                  have N1 := cell_gr E1 (hgr.trans GB)
                  have L1 := cell_gr l0 GB
                  rw [hta] at N1
                  have T0 := cell_gr t0 GB
                  have hjI : (j : Int) < (N.trans.length : Int) := by omega
                  have hj0 : (0 : Int) ≤ (j : Int) := by omega
                  have GB2 : Gr wr ((wr.alloc (.cells #[.int .i64 (3), .int .i64 ((j : Int))] 105)).alloc (.cells #[.int .i64 (N.tr j).label] 3)) := GB.alloc _
                  have hw2 := hw.gr GB2
                  have hbs := (hgr.trans GB2).le
                  have q6 : decide ((j : Int) < 0) = false := by simp
                  have q7 : decide ((N.trans.length : Int) ≤ (j : Int)) = false := by simp; omega
                  clear h1 h3 hj hck hta
                  go_wp2_with (at_builtin; go_loud (refine app_int intTy _ _ x4.heap.size _ (endTo N c0 ops k) ⟨wr.heap.size + 1, 0, none⟩ (N.tr j).label (by rfl) (by rfl) (by rfl) (by rfl) hw2 (lit_cell (by simp)) hlI hn1 hbs ?_; intro v' w5 ho5 hgs hgb hat))
                  go_roundw
                  case rel => exact ⟨k + 1, by go_num, by omega, by rw [HS.out]; exact ho5, hgs x4 (Nat.le_refl _) (hgr.trans GB2)⟩
                  case measure => simp [intOf]; omega
                · have q3 : ((ix ops k).kind == 3) = false := by simpa using h3
                  rw [h1] at l0
                  have HS := Lib.hid (endTo_no (N := N) (c := c0) (ops := ops) (k := k) (fun h => h3 h.2))
                  have GB : Gr wr (wr.alloc (.cells #[.int .i64 ((ix ops k).kind), .int .i64 ((ix ops k).tran)] 105)) := (Gr.refl _).alloc _
                  have L1 := cell_gr l0 GB
                  have P0 : (wr.alloc (.cells #[.int .i64 ((ix ops k).kind), .int .i64 ((ix ops k).tran)] 105)).cell? ⟨wr.heap.size, 0, none⟩ = some (.int .i64 (ix ops k).kind) := box_cell (Gr.refl _) (i := 0) rfl
                  clear h1
                  go_wp2_with fail
                  go_roundw
                  case rel => exact ⟨k + 1, by go_num, by omega, by rw [HS.out]; exact hw.gr (by (repeat (first | exact Gr.refl _ | assumption | apply Gr.alloc | apply Gr.drew | apply Gr.drewN | refine Gr.trans ?_ (by assumption)))), hgr.trans (by (repeat (first | exact Gr.refl _ | assumption | apply Gr.alloc | apply Gr.drew | apply Gr.drewN | refine Gr.trans ?_ (by assumption))))⟩
                  case measure => simp [intOf]; omega
              · have q3 : ((doF N (playTo N c0 ops k).1 (ix ops k).kind (ix ops k).tran).2 == 0) = false := by simpa using h1
                have HS := Lib.hid (endTo_no (N := N) (c := c0) (ops := ops) (k := k) (fun h => h1 h.1))
                have GB : Gr wr (wr.alloc (.cells #[.int .i64 ((ix ops k).kind), .int .i64 ((ix ops k).tran)] 105)) := (Gr.refl _).alloc _
                have L1 := cell_gr l0 GB
                have P0 : (wr.alloc (.cells #[.int .i64 ((ix ops k).kind), .int .i64 ((ix ops k).tran)] 105)).cell? ⟨wr.heap.size, 0, none⟩ = some (.int .i64 (ix ops k).kind) := box_cell (Gr.refl _) (i := 0) rfl
                clear h1
                go_wp2_with fail
                go_roundw
                case rel => exact ⟨k + 1, by go_num, by omega, by rw [HS.out]; exact hw.gr (by (repeat (first | exact Gr.refl _ | assumption | apply Gr.alloc | apply Gr.drew | apply Gr.drewN | refine Gr.trans ?_ (by assumption)))), hgr.trans (by (repeat (first | exact Gr.refl _ | assumption | apply Gr.alloc | apply Gr.drew | apply Gr.drewN | refine Gr.trans ?_ (by assumption))))⟩
                case measure => simp [intOf]; omega
            · obtain rfl : k = ops.length := by omega
              obtain ⟨wa, wc, rfl, _, _⟩ := hw.ints.len
              have F0 := cell_gr E0 hgr
              have F1 := cell_gr E1 hgr
              have hlen := endTo_len N c0 ops ops.length
              clear E0 E1 KL KU
              go_wp2_with fail
              refine (Has_calls _ _ N i o (endTo N c0 ops ops.length) _ (KN2.gr hgr) hi ho hw.ints (by omega)).mono ?_
              rintro _ w6 ⟨b, rfl, g6, hM⟩
              have GZ := (GXX.trans hgr).trans g6
              have hcase : (hasErr N i o != 0) = true ∨ ((hasErr N i o != 0) = false ∧ b = true) := by
                by_cases h0 : hasErr N i o = 0
                · exact .inr ⟨by simpa using h0, HCS.out.word HMK.out HMX.out b hM h0⟩
                · exact .inl (by simpa using h0)
              clear hM F0 F1 hgr g6 GXX hw KN2
              generalize hasErr N i o = he at hcase ⊢
              rcases hcase with q1 | ⟨q1, rfl⟩
              · go_wp2_with fail
                go_ret
                exact ⟨rfl, GZ⟩
              · go_wp2_with fail
                go_ret
                exact ⟨rfl, GZ⟩
end Go.Proofs.Ytidpppfimkhgkaa
