/- Contract of a hall's desk: what was done, played. -/
import Derived.Test.YtidpppfimkhgkaaHall1
namespace Go.Proofs.Ytidpppfimkhgkaa
open Go.RowKit Go.Tok
set_option linter.unusedVariables false
set_option linter.unusedSimpArgs false
def RetDX (w : World) (k : DeskD) (l : List AnsD) (r : Int) (e : Ending) (w' : World) : Prop :=
  ∃ (ma ba ia la : Option Addr) (mn bn jn lc : Nat), e = .returned (.tuple #[.agg #[.slice ma k.case.mark.length mn, .slice ba k.case.busy.length bn, .slice ia k.items.length jn], .slice la l.length lc, .int .i64 r]) ∧
    On (fun b => w.heap.size ≤ b) (fun w => DeskR w (.agg #[.slice ma k.case.mark.length mn, .slice ba k.case.busy.length bn, .slice ia k.items.length jn]) k) w' ∧ On (fun b => w.heap.size ≤ b) (fun w => Rd ansK w (.slice la l.length lc) l) w' ∧ Gr w w'
theorem DeskPlay_open {v vr u : Value} {N : NetD} {i : Int} {roles : List (List Int)} {ops : List OpD} {w : World} {k : DeskD} {l : List AnsD} {e : Int} (hp : Hid (deskPlay N i roles ops = ((k, l), e))) (hN : NetR w v N) (hi : I64 i) (hr : Rd rowK w vr roles) (hu : Rd opK w u ops) (hl : ops.length ≤ 3518437208873) :
    Calls Try.prog 33 #[v, .int .i64 i, vr, u] w (RetDX w k l e) := by
  refine (DeskPlay2_calls v vr u N i roles ops w hN hi hr hu hl).mono ?_
  rw [hp.out]; rintro _ w1 ⟨v1, u1, rfl, i1, j1, g1⟩
  obtain ⟨ma, mn, ba, bn, ia, jn, rfl, -⟩ := i1.now.open_
  obtain ⟨la, lc, rfl, -⟩ := j1.now.len
  exact ⟨ma, ba, ia, la, mn, bn, jn, lc, rfl, i1, j1, g1⟩
set_option maxHeartbeats 4000000 in
set_option maxRecDepth 100000 in
theorem hdesk_calls {N : NetD} {i : Int} {roles : List (List Int)} {d : List OpD} {w : World} {hb : Nat} {a ra : Option Addr} {cap rc : Nat} {dv bv sv : Value} {k : DeskD} {l : List AnsD} {e : Int} (hp : Hid (deskPlay N i roles d = ((k, l), e)))
    (bH : Blk w hb 160 #[.int .i64 N.places, .slice a N.trans.length cap, .int .i64 i, .slice ra roles.length rc, dv, bv, sv])
    (hN : NetR w (.agg #[.int .i64 N.places, .slice a N.trans.length cap]) N) (hi : I64 i) (hr : Rd rowK w (.slice ra roles.length rc) roles) (hu : Rd opK w dv d) (hl : d.length ≤ 3518437208873) :
    Calls Try.prog 77 #[.pointer (some ⟨hb, 0, none⟩)] w (RetDX w k l e) := by
  have GA : Gr w (w.alloc (.cells #[.slice none 0 0, .slice none 0 0, .slice none 0 0] 66)) := (Gr.refl _).alloc _
  have bB : Blk (w.alloc (.cells #[.slice none 0 0, .slice none 0 0, .slice none 0 0] 66)) w.heap.size 66 #[.slice none 0 0, .slice none 0 0, .slice none 0 0] := Blk.new rfl
  have h0 := (bH.gr GA).cell (i := 0) (v := .int .i64 N.places) rfl
  have h1 := (bH.gr GA).cell (i := 1) (v := .slice a N.trans.length cap) rfl
  have h2 := (bH.gr GA).cell (i := 2) (v := .int .i64 i) rfl
  have h3 := (bH.gr GA).cell (i := 3) (v := .slice ra roles.length rc) rfl
  obtain ⟨ua, uc, rfl, _, _⟩ := hu.len
  have h4 := (bH.gr GA).cell (i := 4) (v := .slice ua d.length uc) rfl
  have k0 := bH.cell (i := 0) (v := .int .i64 N.places) rfl
  have k1 := bH.cell (i := 1) (v := .slice a N.trans.length cap) rfl
  have k2 := bH.cell (i := 2) (v := .int .i64 i) rfl
  have k3 := bH.cell (i := 3) (v := .slice ra roles.length rc) rfl
  have k4 := bH.cell (i := 4) (v := .slice ua d.length uc) rfl
  replace hN := hN.gr GA
  replace hr := hr.gr GA
  replace hu := hu.gr GA
  clear bH
  go_enter Try.func77, Try.ntmps77
  go_wp2_with fail
  generalize w.alloc (.cells #[.slice none 0 0, .slice none 0 0, .slice none 0 0] 66) = wA at GA bB h0 h1 h2 h3 h4 hN hr hu ⊢
  go_region_held3 (fun w' => w'.cell? ⟨hb, 0, none⟩ = some (.int .i64 N.places) ∧ w'.cell? ⟨hb, 1, none⟩ = some (.slice a N.trans.length cap) ∧ w'.cell? ⟨hb, 2, none⟩ = some (.int .i64 i) ∧ w'.cell? ⟨hb, 3, none⟩ = some (.slice ra roles.length rc) ∧ w'.cell? ⟨hb, 4, none⟩ = some (.slice ua d.length uc)) (first | go_keep | (exact ⟨cell_gr k0 GZ, cell_gr k1 GZ, cell_gr k2 GZ, cell_gr k3 GZ, cell_gr k4 GZ⟩) | ((refine ⟨cell_gr h0 ?_, cell_gr h1 ?_, cell_gr h2 ?_, cell_gr h3 ?_, cell_gr h4 ?_⟩); (all_goals (focus ((repeat (first | exact Gr.refl _ | assumption | apply Gr.alloc | apply Gr.drew | apply Gr.drewN | refine Gr.trans ?_ (by assumption))); done))))) (first | (go_at_call 33; (with_reducible refine (DeskPlay_open hp (hN.gr (by (repeat (first | exact Gr.refl _ | assumption | apply Gr.alloc | apply Gr.drew | apply Gr.drewN | refine Gr.trans ?_ (by assumption))))) hi (hr.gr (by (repeat (first | exact Gr.refl _ | assumption | apply Gr.alloc | apply Gr.drew | apply Gr.drewN | refine Gr.trans ?_ (by assumption))))) (hu.gr (by (repeat (first | exact Gr.refl _ | assumption | apply Gr.alloc | apply Gr.drew | apply Gr.drewN | refine Gr.trans ?_ (by assumption))))) hl).mono ?_); rintro _ w1 ⟨ma, ba, ia, la, mn, bn, jn, lc, rfl, i1, j1, g1⟩; have g2 := (Gr.refl wA).drew.trans g1; have bq0 := bB.gr g2; have D0 := bq0.cell (i := 0) (v := .slice none 0 0) rfl; have F0 := bq0.frozen 0; have bq1 := bq0.set 0 (.slice ma k.case.mark.length mn); have D1 := bq1.cell (i := 1) (v := .slice none 0 0) rfl; have F1 := bq1.frozen 1; have bq2 := bq1.set 1 (.slice ba k.case.busy.length bn); have D2 := bq2.cell (i := 2) (v := .slice none 0 0) rfl; have F2 := bq2.frozen 2; have bq3 := bq2.set 2 (.slice ia k.items.length jn); have GZ : Gr w (((w1.setCell ⟨w.heap.size, 0, none⟩ (.slice ma k.case.mark.length mn)).setCell ⟨w.heap.size, 1, none⟩ (.slice ba k.case.busy.length bn)).setCell ⟨w.heap.size, 2, none⟩ (.slice ia k.items.length jn)) := (((GA.trans g2).setCell (p := ⟨w.heap.size, 0, none⟩) (Nat.le_refl _) _).setCell (p := ⟨w.heap.size, 1, none⟩) (Nat.le_refl _) _).setCell (p := ⟨w.heap.size, 2, none⟩) (Nat.le_refl _) _))
  · have E0 := bq3.cell (i := 0) (v := .slice ma k.case.mark.length mn) rfl
    have E1 := bq3.cell (i := 1) (v := .slice ba k.case.busy.length bn) rfl
    have E2 := bq3.cell (i := 2) (v := .slice ia k.items.length jn) rfl
    go_wp2_with fail
    refine bodyPost_ret (v := .tuple #[.agg #[.slice ma k.case.mark.length mn, .slice ba k.case.busy.length bn, .slice ia k.items.length jn], .slice la l.length lc, .int .i64 e]) (by simp [results, Try.results77, go_sem, E0, E1, E2]) rfl ?_
    have hne : ∀ k : Nat, ¬ ((fun b => wA.drew.heap.size ≤ b) (⟨w.heap.size, k, none⟩ : Addr).block) := fun k h => by have := bB.lt; simp at h; omega
    have KZ := ((set_kp (w := w1) (S := fun b => wA.drew.heap.size ≤ b) (a := ⟨w.heap.size, 0, none⟩) (hne 0) (.slice ma k.case.mark.length mn)).trans (set_kp (a := ⟨w.heap.size, 1, none⟩) (hne 1) (.slice ba k.case.busy.length bn))).trans (set_kp (a := ⟨w.heap.size, 2, none⟩) (hne 2) (.slice ia k.items.length jn))
    have hle : w.heap.size ≤ wA.drew.heap.size := by have := GA.le; simpa using this
    exact ⟨ma, ba, ia, la, mn, bn, jn, lc, rfl, (i1.kp KZ).mono (fun b _ h => Nat.le_trans hle h), (j1.kp KZ).mono (fun b _ h => Nat.le_trans hle h), GZ⟩
end Go.Proofs.Ytidpppfimkhgkaa
