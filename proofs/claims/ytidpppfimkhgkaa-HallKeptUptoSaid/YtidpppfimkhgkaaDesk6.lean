/- Contract of desk.Play. -/
import Derived.Test.YtidpppfimkhgkaaDesk5
import Derived.Test.YtidpppfimkhgkaaDeskLaw2
import Derived.Test.YtidpppfimkhgkaaCases6
namespace Go.Tok
open Go.RowKit
set_option linter.unusedVariables false
theorem i64_0 : I64 0 := by decide
theorem i64_3 : I64 3 := by decide
theorem i64_5 : I64 5 := by decide
theorem i64_6 : I64 6 := by decide
theorem itemF_I (k : DeskD) (o : OpD) : I64 (itemF k o).2 := by
  rcases item_cases k o with ⟨e, h1, _, h3⟩ | ⟨i, _, _, _, _, h⟩
  · rw [h1]; exact h3
  · rw [h]; exact ⟨by simp, by simp⟩
theorem beginK_I (N : NetD) (roles : List (List Int)) {k : DeskD} (o : OpD) (hl : k.items.length ≤ 3518437208873) : I64 (beginK N roles k o).1.2 ∧ I64 (beginK N roles k o).2 := by
  unfold beginK
  split
  · exact ⟨i64_0, i64_3⟩
  split
  · exact ⟨i64_0, i64_6⟩
  split
  · exact ⟨i64_0, doF_I N k.case 2 o.tran⟩
  · exact ⟨i64_nat (by omega), i64_0⟩
theorem changeK_I (N : NetD) (roles : List (List Int)) (k : DeskD) {o : OpD} (ho : I64 o.item) : I64 (changeK N roles k o).1.2 ∧ I64 (changeK N roles k o).2 := by
  unfold changeK
  split
  · exact ⟨i64_0, itemF_I k o⟩
  split
  · split
    · exact ⟨i64_0, i64_6⟩
    · exact ⟨ho, i64_0⟩
  split
  · exact ⟨i64_0, doF_I N k.case _ _⟩
  · exact ⟨ho, i64_0⟩
theorem deskF_ansI {N : NetD} {roles : List (List Int)} {k : DeskD} {o : OpD} (hl : k.items.length ≤ 3518437208873) (ho : opI o) : ansI (deskF N roles k o).2 := by
  unfold deskF
  split
  · exact ⟨(beginK_I N roles o hl).2, (beginK_I N roles o hl).1⟩
  split
  · exact ⟨(changeK_I N roles k ho.2.2.2.1).2, (changeK_I N roles k ho.2.2.2.1).1⟩
  split
  · split
    · exact ⟨i64_0, i64_0⟩
    · exact ⟨doF_I N k.case 1 o.tran, i64_0⟩
  · exact ⟨i64_5, i64_0⟩
end Go.Tok
namespace Go.Proofs.Ytidpppfimkhgkaa
open Go.RowKit Go.Tok
set_option linter.unusedVariables false
set_option linter.unusedSimpArgs false
def RetDP (w : World) (r : (DeskD × List AnsD) × Int) (e : Ending) (w' : World) : Prop := ∃ v u, e = .returned (.tuple #[v, u, .int .i64 r.2]) ∧ DeskR w' v r.1.1 ∧ Rd ansK w' u r.1.2 ∧ Gr w w'
theorem RetDP.mk {w w' : World} {v u : Value} {x : Int} {r : (DeskD × List AnsD) × Int} {k : DeskD} {l : List AnsD} (hr : r = ((k, l), x)) (hv : DeskR w' v k) (hu : Rd ansK w' u l) (hb : Gr w w') : RetDP w r (.returned (.tuple #[v, u, .int .i64 x])) w' := by subst hr; exact ⟨v, u, rfl, hv, hu, hb⟩
/-- the same, and what is handed back hangs on blocks of the call's own -/
def RetDP2 (w : World) (r : (DeskD × List AnsD) × Int) (e : Ending) (w' : World) : Prop := ∃ v u, e = .returned (.tuple #[v, u, .int .i64 r.2]) ∧ On (fun b => w.heap.size ≤ b) (fun w => DeskR w v r.1.1) w' ∧ On (fun b => w.heap.size ≤ b) (fun w => Rd ansK w u r.1.2) w' ∧ Gr w w'
theorem RetDP2.mk {w w' : World} {v u : Value} {x : Int} {r : (DeskD × List AnsD) × Int} {k : DeskD} {l : List AnsD} (hr : r = ((k, l), x)) (hv : On (fun b => w.heap.size ≤ b) (fun w => DeskR w v k) w') (hu : On (fun b => w.heap.size ≤ b) (fun w => Rd ansK w u l) w') (hb : Gr w w') : RetDP2 w r (.returned (.tuple #[v, u, .int .i64 x])) w' := by subst hr; exact ⟨v, u, rfl, hv, hu, hb⟩
theorem RetDP2.plain {w w' : World} {r : (DeskD × List AnsD) × Int} {e : Ending} (h : RetDP2 w r e w') : RetDP w r e w' := by
  obtain ⟨v, u, h1, h2, h3, h4⟩ := h
  exact ⟨v, u, h1, h2.now, h3.now, h4⟩
theorem lit_cells (w : World) (cs : Array Value) (t : TypeId) : ∀ (j : Nat) (u : Value), cs.toList[j]? = some u → (w.alloc (.cells cs t)).cell? ((⟨w.heap.size, 0, none⟩ : Addr).add j) = some u := by
  intro j u hj
  rw [add_none, Nat.zero_add]
  exact box_cell (Gr.refl _) (by rw [← Array.getElem?_toList]; exact hj)
def SD (kg rb : Nat) (o : Option Nat) (b : Nat) : Prop := b ≠ kg ∧ rb < b ∧ o ≠ some b
theorem onSD_app {kg rb : Nat} {p : World → Prop} {w w' : World} {o o' : Option Nat} (h : On (SD kg rb o) p w) (hg : w.grownBy w' o) (hat : o' = o ∨ o' = some w.heap.size) : On (SD kg rb o') p w' :=
  h.moved hg.size fun b hb hs => ⟨⟨hs.1, hs.2.1, by
    rcases hat with h1 | h1
    · rw [h1]; exact hs.2.2
    · rw [h1]; intro e; have := Option.some.inj e; omega⟩, hg.block b hb (fun e => hs.2.2 e.symm)⟩
set_option maxHeartbeats 4000000 in
set_option maxRecDepth 100000 in
theorem DeskPlay2_calls (v vr u : Value) (N : NetD) (i : Int) (roles : List (List Int)) (ops : List OpD) (w : World) (hN : NetR w v N) (hi : I64 i) (hr : Rd rowK w vr roles) (hu : Rd opK w u ops) (hl : ops.length ≤ 3518437208873) :
    Calls Try.prog 33 #[v, .int .i64 i, vr, u] w (RetDP2 w (deskPlay N i roles ops)) := by
  have hN' := hN
  obtain ⟨a, cap, rfl, hnl, hncap, hpl, hT⟩ := hN.open_
  have hpl1 := hpl.1
  have hpl2 := hpl.2
  obtain ⟨ua, uc, rfl, ul, ul'⟩ := hu.len
  obtain ⟨ra, rc, rfl, rl, rl'⟩ := hr.len
  have b0 : Blk ((w.alloc (.cells #[.int .i64 N.places, .slice a N.trans.length cap] 28)).alloc (.cells #[.slice none 0 0, .slice none 0 0, .slice none 0 0] 66)) w.heap.size 28 #[.int .i64 N.places, .slice a N.trans.length cap] := (Blk.new rfl).gr ((Gr.refl _).alloc _)
  have b3 : Blk ((w.alloc (.cells #[.int .i64 N.places, .slice a N.trans.length cap] 28)).alloc (.cells #[.slice none 0 0, .slice none 0 0, .slice none 0 0] 66)) (w.heap.size + 1) 66 #[.slice none 0 0, .slice none 0 0, .slice none 0 0] := Blk.new (by simp)
  have GA : Gr w ((w.alloc (.cells #[.int .i64 N.places, .slice a N.trans.length cap] 28)).alloc (.cells #[.slice none 0 0, .slice none 0 0, .slice none 0 0] 66)) := ((Gr.refl _).alloc _).alloc _
  rcases hb : beginF N i with ⟨c, e⟩
  have HB := Lib.hid hb
  have A0 := b0.cell (i := 0) rfl
  have A1 := b0.cell (i := 1) rfl
  go_enter Try.func33, Try.ntmps33
  go_wp2_with fail
  clear A0 A1
  refine (Begin_calls _ N i _ (hN'.gr GA) hi).mono ?_
  rw [HB.out]; rintro _ w1 ⟨v1, rfl, ⟨pm, pb, rfl, i6, i7⟩, g1⟩
  obtain ⟨pa, pn, rfl, _, _⟩ := i6.ints.len
  obtain ⟨qa, qn, rfl, _, _⟩ := i7.ints.len
  have HAC := Lib.hid (b3.gr g1).lt
  have GX : Gr w1 (w1.alloc (.cells #[.slice pa c.mark.length pn, .slice qa c.busy.length qn] 63)) := (Gr.refl _).alloc _
  have bC : Blk (w1.alloc (.cells #[.slice pa c.mark.length pn, .slice qa c.busy.length qn] 63)) w1.heap.size 63 #[.slice pa c.mark.length pn, .slice qa c.busy.length qn] := Blk.new rfl
  by_cases he : e = 0
  · subst he
    have HC := Lib.hid (deskPlay_ok (roles := roles) (ops := ops) hb)
    clear hb
    replace b0 := (b0.gr g1).gr GX
    replace b3 := (b3.gr g1).gr GX
    replace GA := (GA.trans g1).trans GX
    have g1s := Lib.hid (Nat.le_refl w1.heap.size)
    have X6 := Ints.on_fresh i6
    have X7 := Ints.on_fresh i7
    replace X6 := (X6.mono (S' := fun b => w.heap.size + 1 < b ∧ b < w1.heap.size) (fun b hb hx => ⟨by simp at hx; omega, hb⟩)).gr GX
    replace X7 := (X7.mono (S' := fun b => w.heap.size + 1 < b ∧ b < w1.heap.size) (fun b hb hx => ⟨by simp at hx; omega, hb⟩)).gr GX
    clear i6 i7 g1
    have A0 := b0.cell (i := 0) rfl
    have A1 := b0.cell (i := 1) rfl
    have C0 := bC.cell (i := 0) rfl
    have C1 := bC.cell (i := 1) rfl
    go_wp2_with fail
    generalize w1.alloc (.cells #[.slice pa c.mark.length pn, .slice qa c.busy.length qn] 63) = wX at b0 b3 GA GX bC A0 A1 C0 C1 X6 X7 ⊢
    go_region_held3 (fun w' => w'.cell? ⟨w.heap.size, 0, none⟩ = some (.int .i64 N.places) ∧ w'.cell? ⟨w.heap.size, 1, none⟩ = some (.slice a N.trans.length cap) ∧ w'.cell? ⟨w1.heap.size, 0, none⟩ = some (.slice pa c.mark.length pn) ∧ w'.cell? ⟨w1.heap.size, 1, none⟩ = some (.slice qa c.busy.length qn)) (first | go_keep | ((refine ⟨cell_gr A0 ?_, cell_gr A1 ?_, cell_gr C0 ?_, cell_gr C1 ?_⟩); (all_goals (focus ((repeat (first | exact Gr.refl _ | assumption | apply Gr.alloc | apply Gr.drew | apply Gr.drewN | refine Gr.trans ?_ (by assumption))); done))))) (fail)
    · rename_i hHeldX
      clear hHeldX
      have GS : Gr wX ((wX.alloc (.cells #[.int .i64 N.places, .slice a N.trans.length cap, .slice ra roles.length rc] 168)).alloc (.cells #[.slice pa c.mark.length pn, .slice qa c.busy.length qn, .slice none 0 0] 66)).drew := by (repeat (first | exact Gr.refl _ | assumption | apply Gr.alloc | apply Gr.drew | apply Gr.drewN | refine Gr.trans ?_ (by assumption)))
      have bD : Blk ((wX.alloc (.cells #[.int .i64 N.places, .slice a N.trans.length cap, .slice ra roles.length rc] 168)).alloc (.cells #[.slice pa c.mark.length pn, .slice qa c.busy.length qn, .slice none 0 0] 66)).drew (wX.heap.size) 168 #[.int .i64 N.places, .slice a N.trans.length cap, .slice ra roles.length rc] := ((Blk.new rfl).gr ((Gr.refl _).alloc _)).gr ((Gr.refl _).drew)
      have bK : Blk ((wX.alloc (.cells #[.int .i64 N.places, .slice a N.trans.length cap, .slice ra roles.length rc] 168)).alloc (.cells #[.slice pa c.mark.length pn, .slice qa c.busy.length qn, .slice none 0 0] 66)).drew (wX.heap.size + 1) 66 #[.slice pa c.mark.length pn, .slice qa c.busy.length qn, .slice none 0 0] := (Blk.new (by simp)).gr ((Gr.refl _).drew)
      have hdk : wX.heap.size ≠ wX.heap.size + 1 := by omega
      obtain ⟨dg, hdg⟩ : ∃ dg, dg = wX.heap.size := ⟨_, rfl⟩
      obtain ⟨kg, hkg⟩ : ∃ kg, kg = wX.heap.size + 1 := ⟨_, rfl⟩
      have hD : wX.heap.size ≤ dg := by omega
      have hKX : wX.heap.size ≤ kg := by omega
      have hrb := HAC.out
      have hle1 := GX.le
      have OK0 : On (SD (wX.heap.size + 1) (w.heap.size + 1) none) (fun w => DeskR w (.agg #[.slice pa c.mark.length pn, .slice qa c.busy.length qn, .slice none 0 0]) ⟨c, []⟩) ((wX.alloc (.cells #[.int .i64 N.places, .slice a N.trans.length cap, .slice ra roles.length rc] 168)).alloc (.cells #[.slice pa c.mark.length pn, .slice qa c.busy.length qn, .slice none 0 0] 66)).drew := (on_desk (k := ⟨c, []⟩) (X6.gr GS) (X7.gr GS) ((On.true (p := True) trivial).imp fun w _ => Rd.nil w)).mono (fun b _ hb => ⟨by omega, by omega, by simp⟩)
      generalize ((wX.alloc (.cells #[.int .i64 N.places, .slice a N.trans.length cap, .slice ra roles.length rc] 168)).alloc (.cells #[.slice pa c.mark.length pn, .slice qa c.busy.length qn, .slice none 0 0] 66)).drew = wS at GS bD bK OK0 ⊢
      rw [← hkg] at bK hdk OK0 ⊢; rw [← hdg] at bD hdk ⊢
      clear X6 X7 A0 A1 C0 C1 bC b0 hdg hkg
      have GW : Gr w wS := GA.trans GS
      have hS1 : wX.heap.size ≤ wS.heap.size := GS.le
      have hkgS := bK.lt
      have hdgS := bD.lt
      go_wp2_with fail
      go_loopw [15, 36] (fun out q wr => ∃ (k : Nat) (d : DeskD) (l : List AnsD) (ma ba ia : Option Addr) (mn bn jn : Nat), k ≤ ops.length ∧ q = .int .i64 k ∧ Hid (deskTo N roles ⟨c, []⟩ ops k = (d, l)) ∧ Blk wr dg 168 #[.int .i64 N.places, .slice a N.trans.length cap, .slice ra roles.length rc] ∧ Blk wr kg 66 #[.slice ma d.case.mark.length mn, .slice ba d.case.busy.length bn, .slice ia d.items.length jn] ∧ On (SD kg (w.heap.size + 1) out.ownBlock) (fun w => DeskR w (.agg #[.slice ma d.case.mark.length mn, .slice ba d.case.busy.length bn, .slice ia d.items.length jn]) d) wr ∧ OwnR ansK 75 wS.heap.size (fun _ => False) wr out l ∧ Gr wX wr ∧ wS.heap.size ≤ wr.heap.size) (fun _ q _ => ops.length - (intOf q).toNat)
      case atStart => exact ⟨0, ⟨c, []⟩, [], pa, qa, none, pn, qn, 0, Nat.zero_le _, rfl, Lib.hid (deskTo_zero _ _ _ _), bD, bK, OK0, OwnR.nil _ _ _ _, GS, Nat.le_refl _⟩
      case round =>
        rename_i wr
        obtain ⟨k, d, l, ma, ba, ia, mn, bn, jn, hk, rfl, HPL, bD, bK, OK, ho, hgr, hle⟩ := hrel
        by_cases hlt : k < ops.length
        · have hdl := deskTo_items N roles c ops k
          have hll := deskTo_len N roles ⟨c, []⟩ ops k
          rw [HPL.out] at hdl hll
          simp only [] at hdl hll
          have hdl2 : d.items.length ≤ 3518437208873 := by omega
          have hok := deskTo_ok (roles := roles) (N := N) (k := ⟨c, []⟩) (DeskOk.zero _ _ _) ops k
          rw [HPL.out] at hok
          simp only [] at hok
          obtain ⟨ub, uo, rfl, u0, u1, u2, u3, u4, hI⟩ := (hu.gr (GA.trans hgr)).op hlt
          have hkI : (k : Int) < (ops.length : Int) := by omega
          rcases hd : deskF N roles d (ix ops k) with ⟨d2, an⟩
          have HD := Lib.hid hd
          have HPL2 := Lib.hid (deskTo_succ HPL.out hd)
          have hai := deskF_ansI (N := N) (roles := roles) hdl2 hI
          rw [hd] at hai
          clear hd HPL
          have GO : Gr wr ((wr.alloc (.cells #[.int .i64 (ix ops k).kind, .int .i64 (ix ops k).user, .int .i64 (ix ops k).tran, .int .i64 (ix ops k).item, .int .i64 (ix ops k).to] 59)).alloc (.cells #[.int .i64 0, .int .i64 0] 75)) := ((Gr.refl _).alloc _).alloc _
          have bO : Blk ((wr.alloc (.cells #[.int .i64 (ix ops k).kind, .int .i64 (ix ops k).user, .int .i64 (ix ops k).tran, .int .i64 (ix ops k).item, .int .i64 (ix ops k).to] 59)).alloc (.cells #[.int .i64 0, .int .i64 0] 75)) wr.heap.size 59 #[.int .i64 (ix ops k).kind, .int .i64 (ix ops k).user, .int .i64 (ix ops k).tran, .int .i64 (ix ops k).item, .int .i64 (ix ops k).to] := (Blk.new rfl).gr ((Gr.refl _).alloc _)
          have bA : Blk ((wr.alloc (.cells #[.int .i64 (ix ops k).kind, .int .i64 (ix ops k).user, .int .i64 (ix ops k).tran, .int .i64 (ix ops k).item, .int .i64 (ix ops k).to] 59)).alloc (.cells #[.int .i64 0, .int .i64 0] 75)) (wr.heap.size + 1) 75 #[.int .i64 0, .int .i64 0] := Blk.new (by simp)
          have hklt := bK.lt
          have OKC := (OK.mono (S' := fun b => SD kg (w.heap.size + 1) u15.ownBlock b ∧ b ≠ wr.heap.size + 1) (fun b hb h => ⟨h, by omega⟩)).gr GO
          replace bK := bK.gr GO
          replace bD := bD.gr GO
          have GWC := (GA.trans hgr).trans GO
          have hol : ∀ {q : Nat}, u15.ownBlock = some q → wS.heap.size ≤ q ∧ q < wr.heap.size := fun h => ho.lt h
          replace ho := ho.gr GO
          have hszC : ((wr.alloc (.cells #[.int .i64 (ix ops k).kind, .int .i64 (ix ops k).user, .int .i64 (ix ops k).tran, .int .i64 (ix ops k).item, .int .i64 (ix ops k).to] 59)).alloc (.cells #[.int .i64 0, .int .i64 0] 75)).heap.size = wr.heap.size + 2 := by simp
          have D0 := bD.cell (i := 0) rfl
          have D1 := bD.cell (i := 1) rfl
          have D2 := bD.cell (i := 2) rfl
          have K0 := bK.cell (i := 0) rfl
          have K1 := bK.cell (i := 1) rfl
          have K2 := bK.cell (i := 2) rfl
          have O0 := bO.cell (i := 0) rfl
          have O1 := bO.cell (i := 1) rfl
          have O2 := bO.cell (i := 2) rfl
          have O3 := bO.cell (i := 3) rfl
          have O4 := bO.cell (i := 4) rfl
          clear OK bO
          go_wp2_with fail
          generalize (wr.alloc (.cells #[.int .i64 (ix ops k).kind, .int .i64 (ix ops k).user, .int .i64 (ix ops k).tran, .int .i64 (ix ops k).item, .int .i64 (ix ops k).to] 59)).alloc (.cells #[.int .i64 0, .int .i64 0] 75) = wC at GO bA bK bD OKC GWC ho hszC D0 D1 D2 K0 K1 K2 O0 O1 O2 O3 O4 ⊢
          refine (deskdo_calls _ _ N roles d (ix ops k) wC _ ⟨_, _, rfl, hN'.gr GWC, hr.gr GWC⟩ OKC hI hok (by omega)).mono ?_
          rw [HD.out]; rintro _ w2 ⟨v2, rfl, OK2, g2⟩
          simp only [] at OK2
          obtain ⟨ma2, mn2, ba2, bn2, ia2, jn2, rfl, _, _, _, _, _, _, _, _, _⟩ := OK2.now.open_
          replace bK := bK.gr g2
          replace bA := bA.gr g2
          replace bD := bD.gr g2
          replace ho := ho.gr g2
          have hw2 := g2.le
          clear D0 D1 D2 K0 K1 K2 O0 O1 O2 O3 O4 OKC u0 u1 u2 u3 u4
          simp only [ansV]
          have hak : wr.heap.size + 1 ≠ kg := by omega
          have K0 := bK.cell (i := 0) (v := .slice ma d.case.mark.length mn) rfl
          have KF0 := bK.frozen 0
          have bq1 := bK.set 0 (.slice ma2 d2.case.mark.length mn2)
          have K1 := bq1.cell (i := 1) (v := .slice ba d.case.busy.length bn) rfl
          have KF1 := bq1.frozen 1
          have bq2 := bq1.set 1 (.slice ba2 d2.case.busy.length bn2)
          have K2 := bq2.cell (i := 2) (v := .slice ia d.items.length jn) rfl
          have KF2 := bq2.frozen 2
          have bq3 := bq2.set 2 (.slice ia2 d2.items.length jn2)
          have ba3 := ((bA.other (a := ⟨kg, 0, none⟩) (by simpa using hak) (.slice ma2 d2.case.mark.length mn2)).other (a := ⟨kg, 1, none⟩) (by simpa using hak) (.slice ba2 d2.case.busy.length bn2)).other (a := ⟨kg, 2, none⟩) (by simpa using hak) (.slice ia2 d2.items.length jn2)
          have A0 := ba3.cell (i := 0) (v := .int .i64 0) rfl
          have AF0 := ba3.frozen 0
          have ba4 := ba3.set 0 (.int .i64 an.err)
          have A1 := ba4.cell (i := 1) (v := .int .i64 0) rfl
          have AF1 := ba4.frozen 1
          have ba5 := ba4.set 1 (.int .i64 an.item)
          have Z0 := ba5.cell (i := 0) (v := .int .i64 an.err) rfl
          have Z1 := ba5.cell (i := 1) (v := .int .i64 an.item) rfl
          have bq5 := (bq3.other (a := ⟨wr.heap.size + 1, 0, none⟩) (by simpa using Ne.symm hak) (.int .i64 an.err)).other (a := ⟨wr.heap.size + 1, 1, none⟩) (by simpa using Ne.symm hak) (.int .i64 an.item)
          have bd5 := ((((bD.other (a := ⟨kg, 0, none⟩) (by simpa using hdk) (.slice ma2 d2.case.mark.length mn2)).other (a := ⟨kg, 1, none⟩) (by simpa using hdk) (.slice ba2 d2.case.busy.length bn2)).other (a := ⟨kg, 2, none⟩) (by simpa using hdk) (.slice ia2 d2.items.length jn2)).other (a := ⟨wr.heap.size + 1, 0, none⟩) (by have := bD.lt; simp; omega) (.int .i64 an.err)).other (a := ⟨wr.heap.size + 1, 1, none⟩) (by have := bD.lt; simp; omega) (.int .i64 an.item)
          have hnk : ¬ SOr (fun b => SD kg (w.heap.size + 1) u15.ownBlock b ∧ b ≠ wr.heap.size + 1) wC.heap.size kg := by
            rintro (⟨h, _⟩ | h)
            · exact h.1 rfl
            · omega
          have hna : ¬ SOr (fun b => SD kg (w.heap.size + 1) u15.ownBlock b ∧ b ≠ wr.heap.size + 1) wC.heap.size (wr.heap.size + 1) := by
            rintro (⟨_, h⟩ | h)
            · exact h rfl
            · omega
          have OK3 := OK2.kp (((((set_kp (a := ⟨kg, 0, none⟩) hnk (.slice ma2 d2.case.mark.length mn2)).trans (set_kp (a := ⟨kg, 1, none⟩) hnk (.slice ba2 d2.case.busy.length bn2))).trans (set_kp (a := ⟨kg, 2, none⟩) hnk (.slice ia2 d2.items.length jn2))).trans (set_kp (a := ⟨wr.heap.size + 1, 0, none⟩) hna (.int .i64 an.err))).trans (set_kp (a := ⟨wr.heap.size + 1, 1, none⟩) hna (.int .i64 an.item)))
          have hok1 : u15.ownBlock ≠ some kg := fun e => by have := hol e; omega
          have hok2 : u15.ownBlock ≠ some (wr.heap.size + 1) := fun e => by have := hol e; omega
          have ho3 := ((((ho.other (a := ⟨kg, 0, none⟩) hok1 (fun h => h) (.slice ma2 d2.case.mark.length mn2)).other (a := ⟨kg, 1, none⟩) hok1 (fun h => h) (.slice ba2 d2.case.busy.length bn2)).other (a := ⟨kg, 2, none⟩) hok1 (fun h => h) (.slice ia2 d2.items.length jn2)).other (a := ⟨wr.heap.size + 1, 0, none⟩) hok2 (fun h => h) (.int .i64 an.err)).other (a := ⟨wr.heap.size + 1, 1, none⟩) hok2 (fun h => h) (.int .i64 an.item)
          have hwX : wX.heap.size ≤ wr.heap.size + 1 := by omega
          have GR3 : Gr wX (((((w2.setCell ⟨kg, 0, none⟩ (.slice ma2 d2.case.mark.length mn2)).setCell ⟨kg, 1, none⟩ (.slice ba2 d2.case.busy.length bn2)).setCell ⟨kg, 2, none⟩ (.slice ia2 d2.items.length jn2)).setCell ⟨wr.heap.size + 1, 0, none⟩ (.int .i64 an.err)).setCell ⟨wr.heap.size + 1, 1, none⟩ (.int .i64 an.item)) := (((((((hgr.trans GO).trans g2).setCell (p := ⟨kg, 0, none⟩) hKX _).setCell (p := ⟨kg, 1, none⟩) hKX _).setCell (p := ⟨kg, 2, none⟩) hKX _).setCell (p := ⟨wr.heap.size + 1, 0, none⟩) hwX _).setCell (p := ⟨wr.heap.size + 1, 1, none⟩) hwX _)
          have hsub : ∀ b, SOr (fun b => SD kg (w.heap.size + 1) u15.ownBlock b ∧ b ≠ wr.heap.size + 1) wC.heap.size b → SD kg (w.heap.size + 1) u15.ownBlock b := by
            rintro b (⟨h, _⟩ | h)
            · exact h
            · exact ⟨by omega, by omega, fun e => by have := hol e; omega⟩
          have OK4 := OK3.mono (fun b _ h => hsub b h)
          have hsz3 : (((((w2.setCell ⟨kg, 0, none⟩ (.slice ma2 d2.case.mark.length mn2)).setCell ⟨kg, 1, none⟩ (.slice ba2 d2.case.busy.length bn2)).setCell ⟨kg, 2, none⟩ (.slice ia2 d2.items.length jn2)).setCell ⟨wr.heap.size + 1, 0, none⟩ (.int .i64 an.err)).setCell ⟨wr.heap.size + 1, 1, none⟩ (.int .i64 an.item)).heap.size = w2.heap.size := by simp
          clear bK bA bD ho OK2 OK3 bq1 bq2 bq3 ba3 ba4 ba5 hnk hna hok1 hok2 hsub g2
          generalize hw3 : ((((w2.setCell ⟨kg, 0, none⟩ (.slice ma2 d2.case.mark.length mn2)).setCell ⟨kg, 1, none⟩ (.slice ba2 d2.case.busy.length bn2)).setCell ⟨kg, 2, none⟩ (.slice ia2 d2.items.length jn2)).setCell ⟨wr.heap.size + 1, 0, none⟩ (.int .i64 an.err)).setCell ⟨wr.heap.size + 1, 1, none⟩ (.int .i64 an.item) = w3 at Z0 Z1 bq5 bd5 OK4 ho3 GR3 hsz3
          have HW3 := Lib.hid hw3
          clear hw3
          have GE : Gr w3 (w3.alloc (.cells #[.int .i64 an.err, .int .i64 an.item] 75)) := (Gr.refl _).alloc _
          have hbse : wS.heap.size ≤ (w3.alloc (.cells #[.int .i64 an.err, .int .i64 an.item] 75)).heap.size := by simp; omega
          have hn1 : (l.length + 1) * 16 ≤ 140737488355328 := by omega
          have hn2 : l.length + 1 ≤ maxLen := by unfold maxLen; omega
          have HBQ := Lib.hid bq5
          have HBD := Lib.hid bd5
          have HOK := Lib.hid OK4
          have HAI := Lib.hid hai
          have hoE := ho3.gr GE
          have HGR3 := Lib.hid GR3
          have HB3 := Lib.hid b3
          have HOE := Lib.hid hoE
          have HHU := Lib.hid hu
          have HHR := Lib.hid hr
          have HHT := Lib.hid hT
          clear bq5 bd5 OK4 ho3 hai hle GR3 b3 hoE hu hr hT hN hN' GS GW GX GA GO hgr GWC hok hI hll hdl hdl2 hkI
          clear bK bD OK0
          clear hszC hw2 hsz3
          iterate 18 (go_step)
          rw [HW3.out]
          clear K0 KF0 K1 KF1 K2 KF2 A0 AF0 A1 AF1
          go_wp2_with (at_builtin; go_loud (refine app_one ansTy _ _ wS.heap.size (fun _ => False) u15 l ⟨w3.heap.size, 0, none⟩ an [.int .i64 an.err, .int .i64 an.item] (by rfl) (by rfl) (by rfl) (by rfl) HOE.out (lit_cells _ _ _) (On.true (p := [Value.int .i64 an.err, .int .i64 an.item] = ansCells an ∧ ansI an) ⟨rfl, HAI.out⟩) hn1 hn2 hbse ?_; intro v' w5 ho5 hgs hgb hat))
          go_roundw
          case rel =>
            refine ⟨k + 1, d2, l ++ [an], ma2, ba2, ia2, mn2, bn2, jn2, by omega, by go_num, HPL2, (HBD.out.gr GE).grown hgb (fun e => ?_), (HBQ.out.gr GE).grown hgb (fun e => ?_), onSD_app (HOK.out.gr GE) hgb hat, ho5, hgs wX hS1 (HGR3.out.trans GE), ?_⟩
            · have := hol e.symm; omega
            · have := hol e.symm; omega
            · exact Nat.le_trans hbse hgb.size
          case measure => simp [intOf]; omega
        · obtain rfl : k = ops.length := by omega
          have bR := b3.gr hgr
          have DW : On (fun b => b ≠ w.heap.size + 1) (fun w => DeskR w (.agg #[.slice ma d.case.mark.length mn, .slice ba d.case.busy.length bn, .slice ia d.items.length jn]) d) wr ∨ True := .inr trivial
          have K0 := bK.cell (i := 0) rfl
          have K1 := bK.cell (i := 1) rfl
          have K2 := bK.cell (i := 2) rfl
          obtain ⟨sa, sn, rfl, _, _⟩ := ho.len
          have D0 := bR.cell (i := 0) rfl
          have F0 := bR.frozen 0
          have bq1 := bR.set 0 (.slice ma d.case.mark.length mn)
          have D1 := bq1.cell (i := 1) rfl
          have F1 := bq1.frozen 1
          have bq2 := bq1.set 1 (.slice ba d.case.busy.length bn)
          have D2 := bq2.cell (i := 2) rfl
          have F2 := bq2.frozen 2
          have bq3 := bq2.set 2 (.slice ia d.items.length jn)
          have E0 := bq3.cell (i := 0) rfl
          have E1 := bq3.cell (i := 1) rfl
          have E2 := bq3.cell (i := 2) rfl
          have OKZ := OK.kp (((set_kp (a := ⟨w.heap.size + 1, 0, none⟩) (fun h => Nat.lt_irrefl _ h.2.1) (.slice ma d.case.mark.length mn)).trans (set_kp (a := ⟨w.heap.size + 1, 1, none⟩) (fun h => Nat.lt_irrefl _ h.2.1) (.slice ba d.case.busy.length bn))).trans (set_kp (a := ⟨w.heap.size + 1, 2, none⟩) (fun h => Nat.lt_irrefl _ h.2.1) (.slice ia d.items.length jn)))
          have hon : ∀ b, (Value.slice sa l.length sn).ownBlock = some b → w.heap.size + 1 < b := fun b hb => by have := (ho.lt hb).1; omega
          have hoz := ((ho.other (a := ⟨w.heap.size + 1, 0, none⟩) (fun e => by have := hon _ e; simp at this) (fun h => h) (.slice ma d.case.mark.length mn)).other (a := ⟨w.heap.size + 1, 1, none⟩) (fun e => by have := hon _ e; simp at this) (fun h => h) (.slice ba d.case.busy.length bn)).other (a := ⟨w.heap.size + 1, 2, none⟩) (fun e => by have := hon _ e; simp at this) (fun h => h) (.slice ia d.items.length jn)
          have HZ := Lib.hid (OKZ.mono (S' := fun b => w.heap.size ≤ b) (fun b _ h => by have := h.2.1; omega))
          have HY := Lib.hid ((hoz.fresh (fun _ _ h => h.elim)).mono (S' := fun b => w.heap.size ≤ b) (fun b _ h => Nat.le_trans GW.le h))
          have HGR := Lib.hid (GA.trans hgr)
          clear OK OKZ ho hoz hon bD bK bR bq1 bq2 bq3 b3 DW
          go_wp2_with fail
          refine bodyPost_ret (v := .tuple #[.agg #[.slice ma d.case.mark.length mn, .slice ba d.case.busy.length bn, .slice ia d.items.length jn], .slice sa l.length sn, .int .i64 0]) (by simp [results, Try.results33, go_sem, E0, E1, E2]) rfl ?_
          refine RetDP2.mk (HC.out.trans (by rw [HPL.out])) HZ.out HY.out ?_
          iterate 3 (refine Gr.setCell ?_ (by simp; try omega) _)
          exact HGR.out
    · rename_i hHeldX
      clear hHeldX
      have GS : Gr wX ((wX.alloc (.cells #[.slice pa c.mark.length pn, .slice qa c.busy.length qn, .slice none 0 0] 66)).alloc (.cells #[.int .i64 N.places, .slice a N.trans.length cap, .slice ra roles.length rc] 168)).drew := by (repeat (first | exact Gr.refl _ | assumption | apply Gr.alloc | apply Gr.drew | apply Gr.drewN | refine Gr.trans ?_ (by assumption)))
      have bD : Blk ((wX.alloc (.cells #[.slice pa c.mark.length pn, .slice qa c.busy.length qn, .slice none 0 0] 66)).alloc (.cells #[.int .i64 N.places, .slice a N.trans.length cap, .slice ra roles.length rc] 168)).drew (wX.heap.size + 1) 168 #[.int .i64 N.places, .slice a N.trans.length cap, .slice ra roles.length rc] := (Blk.new (by simp)).gr ((Gr.refl _).drew)
      have bK : Blk ((wX.alloc (.cells #[.slice pa c.mark.length pn, .slice qa c.busy.length qn, .slice none 0 0] 66)).alloc (.cells #[.int .i64 N.places, .slice a N.trans.length cap, .slice ra roles.length rc] 168)).drew (wX.heap.size) 66 #[.slice pa c.mark.length pn, .slice qa c.busy.length qn, .slice none 0 0] := ((Blk.new rfl).gr ((Gr.refl _).alloc _)).gr ((Gr.refl _).drew)
      have hdk : wX.heap.size + 1 ≠ wX.heap.size := by omega
      obtain ⟨dg, hdg⟩ : ∃ dg, dg = wX.heap.size + 1 := ⟨_, rfl⟩
      obtain ⟨kg, hkg⟩ : ∃ kg, kg = wX.heap.size := ⟨_, rfl⟩
      have hD : wX.heap.size ≤ dg := by omega
      have hKX : wX.heap.size ≤ kg := by omega
      have hrb := HAC.out
      have hle1 := GX.le
      have OK0 : On (SD (wX.heap.size) (w.heap.size + 1) none) (fun w => DeskR w (.agg #[.slice pa c.mark.length pn, .slice qa c.busy.length qn, .slice none 0 0]) ⟨c, []⟩) ((wX.alloc (.cells #[.slice pa c.mark.length pn, .slice qa c.busy.length qn, .slice none 0 0] 66)).alloc (.cells #[.int .i64 N.places, .slice a N.trans.length cap, .slice ra roles.length rc] 168)).drew := (on_desk (k := ⟨c, []⟩) (X6.gr GS) (X7.gr GS) ((On.true (p := True) trivial).imp fun w _ => Rd.nil w)).mono (fun b _ hb => ⟨by omega, by omega, by simp⟩)
      generalize ((wX.alloc (.cells #[.slice pa c.mark.length pn, .slice qa c.busy.length qn, .slice none 0 0] 66)).alloc (.cells #[.int .i64 N.places, .slice a N.trans.length cap, .slice ra roles.length rc] 168)).drew = wS at GS bD bK OK0 ⊢
      rw [← hdg] at bD hdk ⊢; rw [← hkg] at bK hdk OK0 ⊢
      clear X6 X7 A0 A1 C0 C1 bC b0 hdg hkg
      have GW : Gr w wS := GA.trans GS
      have hS1 : wX.heap.size ≤ wS.heap.size := GS.le
      have hkgS := bK.lt
      have hdgS := bD.lt
      go_wp2_with fail
      go_loopw [15, 36] (fun out q wr => ∃ (k : Nat) (d : DeskD) (l : List AnsD) (ma ba ia : Option Addr) (mn bn jn : Nat), k ≤ ops.length ∧ q = .int .i64 k ∧ Hid (deskTo N roles ⟨c, []⟩ ops k = (d, l)) ∧ Blk wr dg 168 #[.int .i64 N.places, .slice a N.trans.length cap, .slice ra roles.length rc] ∧ Blk wr kg 66 #[.slice ma d.case.mark.length mn, .slice ba d.case.busy.length bn, .slice ia d.items.length jn] ∧ On (SD kg (w.heap.size + 1) out.ownBlock) (fun w => DeskR w (.agg #[.slice ma d.case.mark.length mn, .slice ba d.case.busy.length bn, .slice ia d.items.length jn]) d) wr ∧ OwnR ansK 75 wS.heap.size (fun _ => False) wr out l ∧ Gr wX wr ∧ wS.heap.size ≤ wr.heap.size) (fun _ q _ => ops.length - (intOf q).toNat)
      case atStart => exact ⟨0, ⟨c, []⟩, [], pa, qa, none, pn, qn, 0, Nat.zero_le _, rfl, Lib.hid (deskTo_zero _ _ _ _), bD, bK, OK0, OwnR.nil _ _ _ _, GS, Nat.le_refl _⟩
      case round =>
        rename_i wr
        obtain ⟨k, d, l, ma, ba, ia, mn, bn, jn, hk, rfl, HPL, bD, bK, OK, ho, hgr, hle⟩ := hrel
        by_cases hlt : k < ops.length
        · have hdl := deskTo_items N roles c ops k
          have hll := deskTo_len N roles ⟨c, []⟩ ops k
          rw [HPL.out] at hdl hll
          simp only [] at hdl hll
          have hdl2 : d.items.length ≤ 3518437208873 := by omega
          have hok := deskTo_ok (roles := roles) (N := N) (k := ⟨c, []⟩) (DeskOk.zero _ _ _) ops k
          rw [HPL.out] at hok
          simp only [] at hok
          obtain ⟨ub, uo, rfl, u0, u1, u2, u3, u4, hI⟩ := (hu.gr (GA.trans hgr)).op hlt
          have hkI : (k : Int) < (ops.length : Int) := by omega
          rcases hd : deskF N roles d (ix ops k) with ⟨d2, an⟩
          have HD := Lib.hid hd
          have HPL2 := Lib.hid (deskTo_succ HPL.out hd)
          have hai := deskF_ansI (N := N) (roles := roles) hdl2 hI
          rw [hd] at hai
          clear hd HPL
          have GO : Gr wr ((wr.alloc (.cells #[.int .i64 (ix ops k).kind, .int .i64 (ix ops k).user, .int .i64 (ix ops k).tran, .int .i64 (ix ops k).item, .int .i64 (ix ops k).to] 59)).alloc (.cells #[.int .i64 0, .int .i64 0] 75)) := ((Gr.refl _).alloc _).alloc _
          have bO : Blk ((wr.alloc (.cells #[.int .i64 (ix ops k).kind, .int .i64 (ix ops k).user, .int .i64 (ix ops k).tran, .int .i64 (ix ops k).item, .int .i64 (ix ops k).to] 59)).alloc (.cells #[.int .i64 0, .int .i64 0] 75)) wr.heap.size 59 #[.int .i64 (ix ops k).kind, .int .i64 (ix ops k).user, .int .i64 (ix ops k).tran, .int .i64 (ix ops k).item, .int .i64 (ix ops k).to] := (Blk.new rfl).gr ((Gr.refl _).alloc _)
          have bA : Blk ((wr.alloc (.cells #[.int .i64 (ix ops k).kind, .int .i64 (ix ops k).user, .int .i64 (ix ops k).tran, .int .i64 (ix ops k).item, .int .i64 (ix ops k).to] 59)).alloc (.cells #[.int .i64 0, .int .i64 0] 75)) (wr.heap.size + 1) 75 #[.int .i64 0, .int .i64 0] := Blk.new (by simp)
          have hklt := bK.lt
          have OKC := (OK.mono (S' := fun b => SD kg (w.heap.size + 1) u15.ownBlock b ∧ b ≠ wr.heap.size + 1) (fun b hb h => ⟨h, by omega⟩)).gr GO
          replace bK := bK.gr GO
          replace bD := bD.gr GO
          have GWC := (GA.trans hgr).trans GO
          have hol : ∀ {q : Nat}, u15.ownBlock = some q → wS.heap.size ≤ q ∧ q < wr.heap.size := fun h => ho.lt h
          replace ho := ho.gr GO
          have hszC : ((wr.alloc (.cells #[.int .i64 (ix ops k).kind, .int .i64 (ix ops k).user, .int .i64 (ix ops k).tran, .int .i64 (ix ops k).item, .int .i64 (ix ops k).to] 59)).alloc (.cells #[.int .i64 0, .int .i64 0] 75)).heap.size = wr.heap.size + 2 := by simp
          have D0 := bD.cell (i := 0) rfl
          have D1 := bD.cell (i := 1) rfl
          have D2 := bD.cell (i := 2) rfl
          have K0 := bK.cell (i := 0) rfl
          have K1 := bK.cell (i := 1) rfl
          have K2 := bK.cell (i := 2) rfl
          have O0 := bO.cell (i := 0) rfl
          have O1 := bO.cell (i := 1) rfl
          have O2 := bO.cell (i := 2) rfl
          have O3 := bO.cell (i := 3) rfl
          have O4 := bO.cell (i := 4) rfl
          clear OK bO
          go_wp2_with fail
          generalize (wr.alloc (.cells #[.int .i64 (ix ops k).kind, .int .i64 (ix ops k).user, .int .i64 (ix ops k).tran, .int .i64 (ix ops k).item, .int .i64 (ix ops k).to] 59)).alloc (.cells #[.int .i64 0, .int .i64 0] 75) = wC at GO bA bK bD OKC GWC ho hszC D0 D1 D2 K0 K1 K2 O0 O1 O2 O3 O4 ⊢
          refine (deskdo_calls _ _ N roles d (ix ops k) wC _ ⟨_, _, rfl, hN'.gr GWC, hr.gr GWC⟩ OKC hI hok (by omega)).mono ?_
          rw [HD.out]; rintro _ w2 ⟨v2, rfl, OK2, g2⟩
          simp only [] at OK2
          obtain ⟨ma2, mn2, ba2, bn2, ia2, jn2, rfl, _, _, _, _, _, _, _, _, _⟩ := OK2.now.open_
          replace bK := bK.gr g2
          replace bA := bA.gr g2
          replace bD := bD.gr g2
          replace ho := ho.gr g2
          have hw2 := g2.le
          clear D0 D1 D2 K0 K1 K2 O0 O1 O2 O3 O4 OKC u0 u1 u2 u3 u4
          simp only [ansV]
          have hak : wr.heap.size + 1 ≠ kg := by omega
          have K0 := bK.cell (i := 0) (v := .slice ma d.case.mark.length mn) rfl
          have KF0 := bK.frozen 0
          have bq1 := bK.set 0 (.slice ma2 d2.case.mark.length mn2)
          have K1 := bq1.cell (i := 1) (v := .slice ba d.case.busy.length bn) rfl
          have KF1 := bq1.frozen 1
          have bq2 := bq1.set 1 (.slice ba2 d2.case.busy.length bn2)
          have K2 := bq2.cell (i := 2) (v := .slice ia d.items.length jn) rfl
          have KF2 := bq2.frozen 2
          have bq3 := bq2.set 2 (.slice ia2 d2.items.length jn2)
          have ba3 := ((bA.other (a := ⟨kg, 0, none⟩) (by simpa using hak) (.slice ma2 d2.case.mark.length mn2)).other (a := ⟨kg, 1, none⟩) (by simpa using hak) (.slice ba2 d2.case.busy.length bn2)).other (a := ⟨kg, 2, none⟩) (by simpa using hak) (.slice ia2 d2.items.length jn2)
          have A0 := ba3.cell (i := 0) (v := .int .i64 0) rfl
          have AF0 := ba3.frozen 0
          have ba4 := ba3.set 0 (.int .i64 an.err)
          have A1 := ba4.cell (i := 1) (v := .int .i64 0) rfl
          have AF1 := ba4.frozen 1
          have ba5 := ba4.set 1 (.int .i64 an.item)
          have Z0 := ba5.cell (i := 0) (v := .int .i64 an.err) rfl
          have Z1 := ba5.cell (i := 1) (v := .int .i64 an.item) rfl
          have bq5 := (bq3.other (a := ⟨wr.heap.size + 1, 0, none⟩) (by simpa using Ne.symm hak) (.int .i64 an.err)).other (a := ⟨wr.heap.size + 1, 1, none⟩) (by simpa using Ne.symm hak) (.int .i64 an.item)
          have bd5 := ((((bD.other (a := ⟨kg, 0, none⟩) (by simpa using hdk) (.slice ma2 d2.case.mark.length mn2)).other (a := ⟨kg, 1, none⟩) (by simpa using hdk) (.slice ba2 d2.case.busy.length bn2)).other (a := ⟨kg, 2, none⟩) (by simpa using hdk) (.slice ia2 d2.items.length jn2)).other (a := ⟨wr.heap.size + 1, 0, none⟩) (by have := bD.lt; simp; omega) (.int .i64 an.err)).other (a := ⟨wr.heap.size + 1, 1, none⟩) (by have := bD.lt; simp; omega) (.int .i64 an.item)
          have hnk : ¬ SOr (fun b => SD kg (w.heap.size + 1) u15.ownBlock b ∧ b ≠ wr.heap.size + 1) wC.heap.size kg := by
            rintro (⟨h, _⟩ | h)
            · exact h.1 rfl
            · omega
          have hna : ¬ SOr (fun b => SD kg (w.heap.size + 1) u15.ownBlock b ∧ b ≠ wr.heap.size + 1) wC.heap.size (wr.heap.size + 1) := by
            rintro (⟨_, h⟩ | h)
            · exact h rfl
            · omega
          have OK3 := OK2.kp (((((set_kp (a := ⟨kg, 0, none⟩) hnk (.slice ma2 d2.case.mark.length mn2)).trans (set_kp (a := ⟨kg, 1, none⟩) hnk (.slice ba2 d2.case.busy.length bn2))).trans (set_kp (a := ⟨kg, 2, none⟩) hnk (.slice ia2 d2.items.length jn2))).trans (set_kp (a := ⟨wr.heap.size + 1, 0, none⟩) hna (.int .i64 an.err))).trans (set_kp (a := ⟨wr.heap.size + 1, 1, none⟩) hna (.int .i64 an.item)))
          have hok1 : u15.ownBlock ≠ some kg := fun e => by have := hol e; omega
          have hok2 : u15.ownBlock ≠ some (wr.heap.size + 1) := fun e => by have := hol e; omega
          have ho3 := ((((ho.other (a := ⟨kg, 0, none⟩) hok1 (fun h => h) (.slice ma2 d2.case.mark.length mn2)).other (a := ⟨kg, 1, none⟩) hok1 (fun h => h) (.slice ba2 d2.case.busy.length bn2)).other (a := ⟨kg, 2, none⟩) hok1 (fun h => h) (.slice ia2 d2.items.length jn2)).other (a := ⟨wr.heap.size + 1, 0, none⟩) hok2 (fun h => h) (.int .i64 an.err)).other (a := ⟨wr.heap.size + 1, 1, none⟩) hok2 (fun h => h) (.int .i64 an.item)
          have hwX : wX.heap.size ≤ wr.heap.size + 1 := by omega
          have GR3 : Gr wX (((((w2.setCell ⟨kg, 0, none⟩ (.slice ma2 d2.case.mark.length mn2)).setCell ⟨kg, 1, none⟩ (.slice ba2 d2.case.busy.length bn2)).setCell ⟨kg, 2, none⟩ (.slice ia2 d2.items.length jn2)).setCell ⟨wr.heap.size + 1, 0, none⟩ (.int .i64 an.err)).setCell ⟨wr.heap.size + 1, 1, none⟩ (.int .i64 an.item)) := (((((((hgr.trans GO).trans g2).setCell (p := ⟨kg, 0, none⟩) hKX _).setCell (p := ⟨kg, 1, none⟩) hKX _).setCell (p := ⟨kg, 2, none⟩) hKX _).setCell (p := ⟨wr.heap.size + 1, 0, none⟩) hwX _).setCell (p := ⟨wr.heap.size + 1, 1, none⟩) hwX _)
          have hsub : ∀ b, SOr (fun b => SD kg (w.heap.size + 1) u15.ownBlock b ∧ b ≠ wr.heap.size + 1) wC.heap.size b → SD kg (w.heap.size + 1) u15.ownBlock b := by
            rintro b (⟨h, _⟩ | h)
            · exact h
            · exact ⟨by omega, by omega, fun e => by have := hol e; omega⟩
          have OK4 := OK3.mono (fun b _ h => hsub b h)
          have hsz3 : (((((w2.setCell ⟨kg, 0, none⟩ (.slice ma2 d2.case.mark.length mn2)).setCell ⟨kg, 1, none⟩ (.slice ba2 d2.case.busy.length bn2)).setCell ⟨kg, 2, none⟩ (.slice ia2 d2.items.length jn2)).setCell ⟨wr.heap.size + 1, 0, none⟩ (.int .i64 an.err)).setCell ⟨wr.heap.size + 1, 1, none⟩ (.int .i64 an.item)).heap.size = w2.heap.size := by simp
          clear bK bA bD ho OK2 OK3 bq1 bq2 bq3 ba3 ba4 ba5 hnk hna hok1 hok2 hsub g2
          generalize hw3 : ((((w2.setCell ⟨kg, 0, none⟩ (.slice ma2 d2.case.mark.length mn2)).setCell ⟨kg, 1, none⟩ (.slice ba2 d2.case.busy.length bn2)).setCell ⟨kg, 2, none⟩ (.slice ia2 d2.items.length jn2)).setCell ⟨wr.heap.size + 1, 0, none⟩ (.int .i64 an.err)).setCell ⟨wr.heap.size + 1, 1, none⟩ (.int .i64 an.item) = w3 at Z0 Z1 bq5 bd5 OK4 ho3 GR3 hsz3
          have HW3 := Lib.hid hw3
          clear hw3
          have GE : Gr w3 (w3.alloc (.cells #[.int .i64 an.err, .int .i64 an.item] 75)) := (Gr.refl _).alloc _
          have hbse : wS.heap.size ≤ (w3.alloc (.cells #[.int .i64 an.err, .int .i64 an.item] 75)).heap.size := by simp; omega
          have hn1 : (l.length + 1) * 16 ≤ 140737488355328 := by omega
          have hn2 : l.length + 1 ≤ maxLen := by unfold maxLen; omega
          have HBQ := Lib.hid bq5
          have HBD := Lib.hid bd5
          have HOK := Lib.hid OK4
          have HAI := Lib.hid hai
          have hoE := ho3.gr GE
          have HGR3 := Lib.hid GR3
          have HB3 := Lib.hid b3
          have HOE := Lib.hid hoE
          have HHU := Lib.hid hu
          have HHR := Lib.hid hr
          have HHT := Lib.hid hT
          clear bq5 bd5 OK4 ho3 hai hle GR3 b3 hoE hu hr hT hN hN' GS GW GX GA GO hgr GWC hok hI hll hdl hdl2 hkI
          clear bK bD OK0
          clear hszC hw2 hsz3
          iterate 18 (go_step)
          rw [HW3.out]
          clear K0 KF0 K1 KF1 K2 KF2 A0 AF0 A1 AF1
          go_wp2_with (at_builtin; go_loud (refine app_one ansTy _ _ wS.heap.size (fun _ => False) u15 l ⟨w3.heap.size, 0, none⟩ an [.int .i64 an.err, .int .i64 an.item] (by rfl) (by rfl) (by rfl) (by rfl) HOE.out (lit_cells _ _ _) (On.true (p := [Value.int .i64 an.err, .int .i64 an.item] = ansCells an ∧ ansI an) ⟨rfl, HAI.out⟩) hn1 hn2 hbse ?_; intro v' w5 ho5 hgs hgb hat))
          go_roundw
          case rel =>
            refine ⟨k + 1, d2, l ++ [an], ma2, ba2, ia2, mn2, bn2, jn2, by omega, by go_num, HPL2, (HBD.out.gr GE).grown hgb (fun e => ?_), (HBQ.out.gr GE).grown hgb (fun e => ?_), onSD_app (HOK.out.gr GE) hgb hat, ho5, hgs wX hS1 (HGR3.out.trans GE), ?_⟩
            · have := hol e.symm; omega
            · have := hol e.symm; omega
            · exact Nat.le_trans hbse hgb.size
          case measure => simp [intOf]; omega
        · obtain rfl : k = ops.length := by omega
          have bR := b3.gr hgr
          have DW : On (fun b => b ≠ w.heap.size + 1) (fun w => DeskR w (.agg #[.slice ma d.case.mark.length mn, .slice ba d.case.busy.length bn, .slice ia d.items.length jn]) d) wr ∨ True := .inr trivial
          have K0 := bK.cell (i := 0) rfl
          have K1 := bK.cell (i := 1) rfl
          have K2 := bK.cell (i := 2) rfl
          obtain ⟨sa, sn, rfl, _, _⟩ := ho.len
          have D0 := bR.cell (i := 0) rfl
          have F0 := bR.frozen 0
          have bq1 := bR.set 0 (.slice ma d.case.mark.length mn)
          have D1 := bq1.cell (i := 1) rfl
          have F1 := bq1.frozen 1
          have bq2 := bq1.set 1 (.slice ba d.case.busy.length bn)
          have D2 := bq2.cell (i := 2) rfl
          have F2 := bq2.frozen 2
          have bq3 := bq2.set 2 (.slice ia d.items.length jn)
          have E0 := bq3.cell (i := 0) rfl
          have E1 := bq3.cell (i := 1) rfl
          have E2 := bq3.cell (i := 2) rfl
          have OKZ := OK.kp (((set_kp (a := ⟨w.heap.size + 1, 0, none⟩) (fun h => Nat.lt_irrefl _ h.2.1) (.slice ma d.case.mark.length mn)).trans (set_kp (a := ⟨w.heap.size + 1, 1, none⟩) (fun h => Nat.lt_irrefl _ h.2.1) (.slice ba d.case.busy.length bn))).trans (set_kp (a := ⟨w.heap.size + 1, 2, none⟩) (fun h => Nat.lt_irrefl _ h.2.1) (.slice ia d.items.length jn)))
          have hon : ∀ b, (Value.slice sa l.length sn).ownBlock = some b → w.heap.size + 1 < b := fun b hb => by have := (ho.lt hb).1; omega
          have hoz := ((ho.other (a := ⟨w.heap.size + 1, 0, none⟩) (fun e => by have := hon _ e; simp at this) (fun h => h) (.slice ma d.case.mark.length mn)).other (a := ⟨w.heap.size + 1, 1, none⟩) (fun e => by have := hon _ e; simp at this) (fun h => h) (.slice ba d.case.busy.length bn)).other (a := ⟨w.heap.size + 1, 2, none⟩) (fun e => by have := hon _ e; simp at this) (fun h => h) (.slice ia d.items.length jn)
          have HZ := Lib.hid (OKZ.mono (S' := fun b => w.heap.size ≤ b) (fun b _ h => by have := h.2.1; omega))
          have HY := Lib.hid ((hoz.fresh (fun _ _ h => h.elim)).mono (S' := fun b => w.heap.size ≤ b) (fun b _ h => Nat.le_trans GW.le h))
          have HGR := Lib.hid (GA.trans hgr)
          clear OK OKZ ho hoz hon bD bK bR bq1 bq2 bq3 b3 DW
          go_wp2_with fail
          refine bodyPost_ret (v := .tuple #[.agg #[.slice ma d.case.mark.length mn, .slice ba d.case.busy.length bn, .slice ia d.items.length jn], .slice sa l.length sn, .int .i64 0]) (by simp [results, Try.results33, go_sem, E0, E1, E2]) rfl ?_
          refine RetDP2.mk (HC.out.trans (by rw [HPL.out])) HZ.out HY.out ?_
          iterate 3 (refine Gr.setCell ?_ (by simp; try omega) _)
          exact HGR.out
  · have q1 : (e != 0) = true := by simpa using he
    have HC := Lib.hid (deskPlay_bad (roles := roles) (ops := ops) hb he)
    clear hb he
    replace b3 := (b3.gr g1).gr GX
    replace GA := (GA.trans g1).trans GX
    clear b0 GX bC g1
    have D0 := b3.cell (i := 0) rfl
    have F0 := b3.frozen 0
    have bq1 := b3.set 0 (.slice none 0 0)
    have D1 := bq1.cell (i := 1) rfl
    have F1 := bq1.frozen 1
    have bq2 := bq1.set 1 (.slice none 0 0)
    have D2 := bq2.cell (i := 2) rfl
    have F2 := bq2.frozen 2
    have bq3 := bq2.set 2 (.slice none 0 0)
    have E0 := bq3.cell (i := 0) rfl
    have E1 := bq3.cell (i := 1) rfl
    have E2 := bq3.cell (i := 2) rfl
    clear b3 bq1 bq2 bq3
    go_wp2_with fail
    refine bodyPost_ret (v := .tuple #[.agg #[.slice none 0 0, .slice none 0 0, .slice none 0 0], .slice none 0 0, .int .i64 e]) (by simp [results, Try.results33, go_sem, E0, E1, E2]) rfl ?_
    refine RetDP2.mk HC.out ((On.true (p := True) trivial).imp fun w _ => DeskR.mk_ (k := zeroK) (Ints.nil _) (Ints.nil _) (Rd.nil _)) ((On.true (p := True) trivial).imp fun w _ => Rd.nil _) ?_
    iterate 3 (refine Gr.setCell ?_ (by simp; try omega) _)
    exact GA
theorem DeskPlay_calls (v vr u : Value) (N : NetD) (i : Int) (roles : List (List Int)) (ops : List OpD) (w : World) (hN : NetR w v N) (hi : I64 i) (hr : Rd rowK w vr roles) (hu : Rd opK w u ops) (hl : ops.length ≤ 3518437208873) :
    Calls Try.prog 33 #[v, .int .i64 i, vr, u] w (RetDP w (deskPlay N i roles ops)) := (DeskPlay2_calls v vr u N i roles ops w hN hi hr hu hl).mono fun _ _ h => h.plain
end Go.Proofs.Ytidpppfimkhgkaa
