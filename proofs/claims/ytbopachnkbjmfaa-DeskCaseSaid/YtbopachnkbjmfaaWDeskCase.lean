/- The call DeskCase answers true at any net, place, roles and operations that read as data; nothing that lay there turns. -/
import Derived.Test.YtbopachnkbjmfaaAlive17
import Derived.Test.YtbopachnkbjmfaaDeskLaw4
import Derived.Test.YtbopachnkbjmfaaTwoApp
import Derived.Test.YtbopachnkbjmfaaPA
namespace Go.Tok
open Go.RowKit
theorem wf_i64D {x : Int} (h : I64 x) : (Lit.int .i64 x).wf = true := by
  simp only [Lit.wf, IntKind.min, IntKind.max, IntKind.bits, IntKind.signed]
  unfold I64 at h
  simp; omega
end Go.Tok
namespace Go.Proofs.Ytbopachnkbjmfaa
open Go.RowKit Go.Tok
set_option linter.unusedVariables false
theorem copTyK : KTy Try.prog 64 67 copK 16 (.agg #[.int .i64 0, .int .i64 0]) := ⟨Try.underlying64, by kernel_rfl, rfl, by decide⟩
theorem intLawD : Go.Maps.Keyed Try.prog 3 := Go.Maps.int_keyed Try.underlying3
theorem int_keyD {x : Int} (h : I64 x) : keyOf Try.prog 3 (.int .i64 x) = some (.int .i64 x) := Go.Maps.keyOf_int_mk Try.underlying3 (wf_i64D h)
set_option maxHeartbeats 400000 in
theorem IndexFuncE_calls (v : Value) (xs : List Int) (g : Nat) (lb : Array Value) (p : Int → Bool) (w : World) (eg : ∀ args w, (callFunc g args).run Try.prog w = .ok (.enter g args) w)
    (hv : Ints w v xs) (hg : Answers Try.prog g lb p) :
    Calls Try.prog 70 #[v, .func (.func g) #[] lb] w fun e w' => e = .returned (.int .i64 (firstOf p xs)) ∧ w = w' := by
  obtain ⟨a, cap, rfl, hlc, hcap⟩ := hv.len
  go_enter Try.func70, Try.ntmps70
  go_wp2
  go_loop [8] (fun i => ∃ k : Nat, k ≤ xs.length ∧ i = .int .i64 k ∧ NoneUpto p xs k) (fun i => xs.length - (intOf i).toNat)
  case atStart => exact ⟨0, Nat.zero_le _, rfl, NoneUpto.zero _ _⟩
  case round =>
    obtain ⟨k, hk, rfl, hall⟩ := hrel
    by_cases hlt : k < xs.length
    · obtain ⟨b, o, rfl, hcell⟩ := hv.cell hlt
      have hr := hv.range k
      cases hp : p (nth xs k)
      · have hcall := hg w (nth xs k) hr
        rw [hp] at hcall
        go_wp2_with (go_at_fn g; refine hcall.mono ?_; rintro e w' ⟨rfl, rfl⟩)
        go_round
        case rel => exact ⟨k + 1, by omega, by go_num, hall.succ hp⟩
        case measure => simp [intOf]; omega
      · have hcall := hg w (nth xs k) hr
        rw [hp] at hcall
        go_wp2_with (go_at_fn g; refine hcall.mono ?_; rintro e w' ⟨rfl, rfl⟩)
        go_ret
        exact ⟨ret_i64 (firstOf_hit hall hlt hp).symm, rfl⟩
    · obtain rfl : k = xs.length := by omega
      go_wp2
      go_ret
      exact ⟨ret_i64 (firstOf_miss hall).symm, rfl⟩
set_option maxHeartbeats 400000 in
theorem ContainsFuncE_calls (v : Value) (xs : List Int) (g : Nat) (lb : Array Value) (p : Int → Bool) (w : World) (eg : ∀ args w, (callFunc g args).run Try.prog w = .ok (.enter g args) w)
    (hv : Ints w v xs) (hg : Answers Try.prog g lb p) :
    Calls Try.prog 32 #[v, .func (.func g) #[] lb] w fun e w' => e = .returned (.bool (xs.any p)) ∧ w = w' := by
  go_enter Try.func32, Try.ntmps32
  go_wp2_with (go_at_call 70; refine (IndexFuncE_calls _ _ _ _ _ _ eg hv hg).mono ?_; rintro e w' ⟨rfl, rfl⟩)
  go_ret
  exact ⟨ret_bool (firstOf_any p xs), rfl⟩
theorem DeskCase1_answers : Answers Try.prog 33 #[] (fun n => n != 0) := by
  intro W x hx
  go_enter Try.func33, Try.ntmps33
  go_wp2
  go_ret
  exact ⟨rfl, rfl⟩
set_option maxHeartbeats 8000000 in
set_option maxRecDepth 100000 in
theorem DeskCase_walk {v vr u : Value} {N : NetD} {i : Int} {roles : List (List Int)} {ops : List OpD} (w : World) (hN : NetR w v N) (hi : I64 i) (hr0 : Rd rowK w vr roles ∧ roles.length ≤ 5864062014805) (hu0 : Rd opK w u ops ∧ ops.length ≤ 3518437208873) :
    Calls Try.prog 8 #[v, .int .i64 i, vr, u] w fun e w' => e = .returned (.bool true) ∧ Gr w w' := by
  obtain ⟨hr, _⟩ := hr0
  obtain ⟨hu, hul⟩ := hu0
  have hN' := hN
  have hmm := @run_makeMap Try.prog
  have eg : ∀ args w, (callFunc 33 args).run Try.prog w = .ok (.enter 33 args) w := (Go.Proofs.enters_of Try.func33 (by kernel_rfl) rfl)
  obtain ⟨a, cap, rfl, hnl, hncap, hpl, hT⟩ := hN.open_
  have hpl1 := hpl.1
  have hpl2 := hpl.2
  obtain ⟨ua, uc, rfl, ul, ul'⟩ := hu.len
  obtain ⟨ra, rc, rfl, rl, rl'⟩ := hr.len
  rcases hp : deskPlay N i roles ops with ⟨⟨k, l⟩, e⟩
  have HP := Lib.hid hp
  by_cases he : e = 0
  case neg =>
    have q1 : (e != 0) = true := by simpa using he
    clear hp he hmm
    go_enter Try.func8, Try.ntmps8
    go_wp2_with fail
    refine (alive17_calls _).mono ?_
    rintro _ w1 ⟨rfl, g1⟩
    have B0 := box_cell g1 (i := 0) rfl
    have B1 := box_cell g1 (i := 1) rfl
    have GW : Gr w w1 := ((Gr.refl w).alloc _).trans g1
    go_wp2_with fail
    refine (DeskPlay_calls _ _ _ N i roles ops _ (hN'.gr GW) hi (hr.gr GW) (hu.gr GW) hul).mono ?_
    rw [HP.out]; rintro _ w2 ⟨v2, u2, rfl, i2, j2, g2⟩
    simp only [] at i2 j2
    have i3 := i2
    obtain ⟨ma, mn, ba, bn, ia, jn, rfl, _, _, _, _, hil, hil2, iM, iB, iI⟩ := i2.open_
    obtain ⟨la, lc, rfl, hll, hlc⟩ := j2.len
    have GE : Gr w2 (w2.alloc (.cells #[.slice ma k.case.mark.length mn, .slice ba k.case.busy.length bn, .slice ia k.items.length jn] 48)) := (Gr.refl _).alloc _
    have bk : Blk (w2.alloc (.cells #[.slice ma k.case.mark.length mn, .slice ba k.case.busy.length bn, .slice ia k.items.length jn] 48)) w2.heap.size 48 #[.slice ma k.case.mark.length mn, .slice ba k.case.busy.length bn, .slice ia k.items.length jn] := Blk.new rfl
    replace B0 := cell_gr (cell_gr B0 g2) GE
    replace B1 := cell_gr (cell_gr B1 g2) GE
    replace GW := (GW.trans g2).trans GE
    replace iM := iM.gr GE
    replace iB := iB.gr GE
    replace iI := iI.gr GE
    replace i3 := i3.gr GE
    replace j2 := j2.gr GE
    have K0 := bk.cell (i := 0) rfl
    have K1 := bk.cell (i := 1) rfl
    have K2 := bk.cell (i := 2) rfl
    clear g1 g2 GE i2
    go_wp2_with fail
    generalize w2.alloc (.cells #[.slice ma k.case.mark.length mn, .slice ba k.case.busy.length bn, .slice ia k.items.length jn] 48) = w3 at bk B0 B1 GW iM iB iI i3 j2 K0 K1 K2 ⊢
    generalize w2.heap.size = kb at bk K0 K1 K2 ⊢
    go_wp2_with fail
    go_ret
    exact ⟨rfl, GW⟩
  case pos =>
    subst he
    have hll0 := desk_len hp
    have HLL := Lib.hid hll0
    have q1 : ((l.length : Int) != (ops.length : Int)) = false := by rw [hll0]; simp
    have q2 : (l.length != ops.length) = false := by rw [hll0]; simp
    have HPC := Lib.hid (desk_case hp)
    have HKD := Lib.hid (show ∀ n, n < ops.length → (ix l n).err = 0 → (ix ops n).kind = 1 ∨ (ix ops n).kind = 4 ∨ (((ix ops n).kind = 2 ∨ (ix ops n).kind = 3) ∧ ∃ i : Nat, (ix l n).item = i ∧ i < k.items.length) ∨ (ix ops n).kind = 5 from by
      obtain ⟨_, c, _, hd⟩ := desk_begun hp
      exact fun n hn he => done_kind hd hn he)
    have HDL := Lib.hid (doneTo_len k ops l)
    clear hp hll0
    go_enter Try.func8, Try.ntmps8
    go_wp2_with fail
    refine (alive17_calls _).mono ?_
    rintro _ w1 ⟨rfl, g1⟩
    have B0 := box_cell g1 (i := 0) rfl
    have B1 := box_cell g1 (i := 1) rfl
    have GW : Gr w w1 := ((Gr.refl w).alloc _).trans g1
    go_wp2_with fail
    refine (DeskPlay_calls _ _ _ N i roles ops _ (hN'.gr GW) hi (hr.gr GW) (hu.gr GW) hul).mono ?_
    rw [HP.out]; rintro _ w2 ⟨v2, u2, rfl, i2, j2, g2⟩
    simp only [] at i2 j2
    have i3 := i2
    obtain ⟨ma, mn, ba, bn, ia, jn, rfl, _, _, _, _, hil, hil2, iM, iB, iI⟩ := i2.open_
    obtain ⟨la, lc, rfl, hll, hlc⟩ := j2.len
    have GE : Gr w2 (w2.alloc (.cells #[.slice ma k.case.mark.length mn, .slice ba k.case.busy.length bn, .slice ia k.items.length jn] 48)) := (Gr.refl _).alloc _
    have bk : Blk (w2.alloc (.cells #[.slice ma k.case.mark.length mn, .slice ba k.case.busy.length bn, .slice ia k.items.length jn] 48)) w2.heap.size 48 #[.slice ma k.case.mark.length mn, .slice ba k.case.busy.length bn, .slice ia k.items.length jn] := Blk.new rfl
    replace B0 := cell_gr (cell_gr B0 g2) GE
    replace B1 := cell_gr (cell_gr B1 g2) GE
    replace GW := (GW.trans g2).trans GE
    replace iM := iM.gr GE
    replace iB := iB.gr GE
    replace iI := iI.gr GE
    replace i3 := i3.gr GE
    replace j2 := j2.gr GE
    have K0 := bk.cell (i := 0) rfl
    have K1 := bk.cell (i := 1) rfl
    have K2 := bk.cell (i := 2) rfl
    clear g1 g2 GE i2
    go_wp2_with fail
    generalize w2.alloc (.cells #[.slice ma k.case.mark.length mn, .slice ba k.case.busy.length bn, .slice ia k.items.length jn] 48) = w3 at bk B0 B1 GW iM iB iI i3 j2 K0 K1 K2 ⊢
    generalize w2.heap.size = kb at bk K0 K1 K2 ⊢
    have hkw := bk.lt
    go_loopw [12, 43] (fun g q wr => ∃ x : Nat, q = .int .i64 x ∧ x ≤ ops.length ∧ OwnR copK 67 w3.heap.size (fun _ => False) wr g (doneTo k ops l x) ∧ Gr w3 wr) (fun _ q _ => ops.length - (intOf q).toNat)
    case atStart => exact ⟨0, rfl, Nat.zero_le _, OwnR.nil _ _ _ _, Gr.refl _⟩
    case round =>
      rename World => wo
      obtain ⟨x, rfl, hx, hog, hgr⟩ := hrel
      by_cases hlt : x < ops.length
      · obtain ⟨ub, uo, rfl, u0, u1, u2, u3, u4, hI⟩ := ((hu.gr GW).gr hgr).op hlt
        obtain ⟨lb, lo, rfl, l0, l1, hAI⟩ := (j2.gr hgr).ans (i := x) (by rw [HLL.out]; exact hlt)
        have hxI : (x : Int) < (ops.length : Int) := by omega
        have hxL : (x : Int) < (l.length : Int) := by rw [HLL.out]; exact hxI
        have hx0 : (0 : Int) ≤ (x : Int) := by omega
        have hdl := HDL.out x
        have hn1 : ((doneTo k ops l x).length + 1) * 16 ≤ 140737488355328 := by omega
        have hn2 : (doneTo k ops l x).length + 1 ≤ maxLen := by unfold maxLen; omega
        replace l0 := cell_gr l0 ((Gr.refl wo).alloc (.cells #[.int .i64 (ix ops x).kind, .int .i64 (ix ops x).user, .int .i64 (ix ops x).tran, .int .i64 (ix ops x).item, .int .i64 (ix ops x).to] 59))
        by_cases he : (ix l x).err = 0
        · have q3 : ((ix l x).err != 0) = false := by rw [he]; rfl
          rcases HKD.out x hlt he with hkd | hkd | ⟨hkd | hkd, it, hit, hil3⟩ | hkd
          · rw [hkd] at l0
            rw [hkd] at u0
            have HS := Lib.hid (show doneTo k ops l (x + 1) = doneTo k ops l x ++ [⟨2, (ix ops x).tran⟩] by rw [doneTo, if_neg (by rw [he, hkd]; decide)]; unfold copOf kindOf; rw [hkd]; rfl)
            have GA : Gr wo (wo.alloc (.cells #[.int .i64 1, .int .i64 (ix ops x).user, .int .i64 (ix ops x).tran, .int .i64 (ix ops x).item, .int .i64 (ix ops x).to] 59)) := (Gr.refl _).alloc _
            have bO : Blk (wo.alloc (.cells #[.int .i64 1, .int .i64 (ix ops x).user, .int .i64 (ix ops x).tran, .int .i64 (ix ops x).item, .int .i64 (ix ops x).to] 59)) wo.heap.size 59 #[.int .i64 1, .int .i64 (ix ops x).user, .int .i64 (ix ops x).tran, .int .i64 (ix ops x).item, .int .i64 (ix ops x).to] := Blk.new rfl
            have O0 := bO.cell (i := 0) (v := .int .i64 1) rfl
            have O2 := bO.cell (i := 2) (v := .int .i64 (ix ops x).tran) rfl
            have hsa : (wo.alloc (.cells #[.int .i64 1, .int .i64 (ix ops x).user, .int .i64 (ix ops x).tran, .int .i64 (ix ops x).item, .int .i64 (ix ops x).to] 59)).heap.size = wo.heap.size + 1 := by simp
            have M0 := MAt.new (P := Try.prog) (k := 3) (wo.alloc (.cells #[.int .i64 1, .int .i64 (ix ops x).user, .int .i64 (ix ops x).tran, .int .i64 (ix ops x).item, .int .i64 (ix ops x).to] 59))
            rw [hsa] at M0
            obtain ⟨x1, r1, o1, m1⟩ := M0.store_new intLawD Try.underlying65 (.int .i64 2) (int_keyD (x := 1) (by decide)) (by simp)
            obtain ⟨x2, r2, o2, m2⟩ := m1.store_new intLawD Try.underlying65 (.int .i64 3) (int_keyD (x := 2) (by decide)) (by simp)
            obtain ⟨x3, r3, o3, m3⟩ := m2.store_new intLawD Try.underlying65 (.int .i64 4) (int_keyD (x := 3) (by decide)) (by simp)
            obtain ⟨x4, r4, o4, m4⟩ := m3.store_new intLawD Try.underlying65 (.int .i64 1) (int_keyD (x := 5) (by decide)) (by simp)
            have lk := m4.look_yes intLawD Try.underlying65 (int_keyD (x := 1) (by decide)) (v := .int .i64 2) (by simp)
            have GM : Gr (wo.alloc (.cells #[.int .i64 1, .int .i64 (ix ops x).user, .int .i64 (ix ops x).tran, .int .i64 (ix ops x).item, .int .i64 (ix ops x).to] 59)) x4 := (((((Gr.refl _).alloc (.map #[] 0)).grown o1.grown (fun q hq => by cases hq; rw [hsa]; exact Nat.le_refl _)).grown o2.grown (fun q hq => by cases hq; rw [hsa]; exact Nat.le_refl _)).grown o3.grown (fun q hq => by cases hq; rw [hsa]; exact Nat.le_refl _)).grown o4.grown (fun q hq => by cases hq; rw [hsa]; exact Nat.le_refl _)
            have P0 := cell_gr O0 GM
            have P2 := cell_gr O2 GM
            have GG := hgr.trans (GA.trans GM)
            have Q0 := cell_gr P0 ((Gr.refl x4).alloc (.cells #[.int .i64 2, .int .i64 (ix ops x).tran] 67))
            have hogl : ∀ b, u12.ownBlock = some b → b < x4.heap.size := fun b h => by have h1 := (hog.lt h).2; have h2 := (GA.trans GM).le; omega
            have hok := hog.gr (GA.trans GM)
            clear O0 O2 M0 m1 m2 m3 m4 o1 o2 o3 o4 bO hog GA GM hsa
            have L0 := l0
            have GE : Gr x4 ((x4.alloc (.cells #[.int .i64 2, .int .i64 (ix ops x).tran] 67)).alloc (.cells #[.int .i64 2, .int .i64 (ix ops x).tran] 67)) := ((Gr.refl _).alloc _).alloc _
            have hokE := hok.gr GE
            have hbs := (GG.trans GE).le
            have hcI : copI ⟨2, (ix ops x).tran⟩ := ⟨(by decide : I64 2), hI.2.2.1⟩
            clear he hkd
            go_wp2_with (at_builtin; go_loud (refine app_one copTyK _ _ w3.heap.size (fun _ => False) u12 (doneTo k ops l x) ⟨x4.heap.size + 1, 0, none⟩ ⟨2, (ix ops x).tran⟩ [.int .i64 2, .int .i64 (ix ops x).tran] (by rfl) (by rfl) (by rfl) (by rfl) hokE (lit_cellsH (World.size_alloc _ _)) (On.true (p := [Value.int .i64 2, .int .i64 (ix ops x).tran] = copCells ⟨2, (ix ops x).tran⟩ ∧ copI ⟨2, (ix ops x).tran⟩) ⟨rfl, hcI⟩) hn1 hn2 hbs ?_; intro v' w5 ho5 hgs hgb hat))
            go_roundw
            case rel => exact ⟨x + 1, by go_num, by omega, by rw [HS.out]; exact ho5, hgs w3 (Nat.le_refl _) (GG.trans GE)⟩
            case measure => simp [intOf]; omega
          · have HS := Lib.hid (show doneTo k ops l (x + 1) = doneTo k ops l x by rw [doneTo, if_pos (.inr hkd)])
            have q4 : ((ix ops x).kind == 4) = true := by rw [hkd]; rfl
            have O0 : (wo.alloc (.cells #[.int .i64 (ix ops x).kind, .int .i64 (ix ops x).user, .int .i64 (ix ops x).tran, .int .i64 (ix ops x).item, .int .i64 (ix ops x).to] 59)).cell? ⟨wo.heap.size, 0, none⟩ = some (.int .i64 (ix ops x).kind) := box_cell (Gr.refl _) (i := 0) rfl
            clear he hkd
            go_wp2_with fail
            go_roundw
            case rel => exact ⟨x + 1, by go_num, by omega, by rw [HS.out]; exact hog.alloc _, hgr.alloc _⟩
            case measure => simp [intOf]; omega
          · rw [hkd] at l0
            rw [hkd] at u0
            have HS := Lib.hid (show doneTo k ops l (x + 1) = doneTo k ops l x ++ [⟨3, (ix k.items it).tran⟩] by rw [doneTo, if_neg (by rw [he, hkd]; decide)]; unfold copOf kindOf; rw [hkd]; (rw [hit, Int.toNat_natCast]; rfl))
            have GA : Gr wo (wo.alloc (.cells #[.int .i64 2, .int .i64 (ix ops x).user, .int .i64 (ix ops x).tran, .int .i64 (ix ops x).item, .int .i64 (ix ops x).to] 59)) := (Gr.refl _).alloc _
            have bO : Blk (wo.alloc (.cells #[.int .i64 2, .int .i64 (ix ops x).user, .int .i64 (ix ops x).tran, .int .i64 (ix ops x).item, .int .i64 (ix ops x).to] 59)) wo.heap.size 59 #[.int .i64 2, .int .i64 (ix ops x).user, .int .i64 (ix ops x).tran, .int .i64 (ix ops x).item, .int .i64 (ix ops x).to] := Blk.new rfl
            have O0 := bO.cell (i := 0) (v := .int .i64 2) rfl
            have O2 := bO.cell (i := 2) (v := .int .i64 (ix ops x).tran) rfl
            have hsa : (wo.alloc (.cells #[.int .i64 2, .int .i64 (ix ops x).user, .int .i64 (ix ops x).tran, .int .i64 (ix ops x).item, .int .i64 (ix ops x).to] 59)).heap.size = wo.heap.size + 1 := by simp
            have M0 := MAt.new (P := Try.prog) (k := 3) (wo.alloc (.cells #[.int .i64 2, .int .i64 (ix ops x).user, .int .i64 (ix ops x).tran, .int .i64 (ix ops x).item, .int .i64 (ix ops x).to] 59))
            rw [hsa] at M0
            obtain ⟨x1, r1, o1, m1⟩ := M0.store_new intLawD Try.underlying65 (.int .i64 2) (int_keyD (x := 1) (by decide)) (by simp)
            obtain ⟨x2, r2, o2, m2⟩ := m1.store_new intLawD Try.underlying65 (.int .i64 3) (int_keyD (x := 2) (by decide)) (by simp)
            obtain ⟨x3, r3, o3, m3⟩ := m2.store_new intLawD Try.underlying65 (.int .i64 4) (int_keyD (x := 3) (by decide)) (by simp)
            obtain ⟨x4, r4, o4, m4⟩ := m3.store_new intLawD Try.underlying65 (.int .i64 1) (int_keyD (x := 5) (by decide)) (by simp)
            have lk := m4.look_yes intLawD Try.underlying65 (int_keyD (x := 2) (by decide)) (v := .int .i64 3) (by simp)
            have GM : Gr (wo.alloc (.cells #[.int .i64 2, .int .i64 (ix ops x).user, .int .i64 (ix ops x).tran, .int .i64 (ix ops x).item, .int .i64 (ix ops x).to] 59)) x4 := (((((Gr.refl _).alloc (.map #[] 0)).grown o1.grown (fun q hq => by cases hq; rw [hsa]; exact Nat.le_refl _)).grown o2.grown (fun q hq => by cases hq; rw [hsa]; exact Nat.le_refl _)).grown o3.grown (fun q hq => by cases hq; rw [hsa]; exact Nat.le_refl _)).grown o4.grown (fun q hq => by cases hq; rw [hsa]; exact Nat.le_refl _)
            have P0 := cell_gr O0 GM
            have P2 := cell_gr O2 GM
            have GG := hgr.trans (GA.trans GM)
            have Q0 := cell_gr P0 ((Gr.refl x4).alloc (.cells #[.int .i64 3, .int .i64 (ix ops x).tran] 67))
            have hogl : ∀ b, u12.ownBlock = some b → b < x4.heap.size := fun b h => by have h1 := (hog.lt h).2; have h2 := (GA.trans GM).le; omega
            have hok := hog.gr (GA.trans GM)
            clear O0 O2 M0 m1 m2 m3 m4 o1 o2 o3 o4 bO hog GA GM hsa
            obtain ⟨ib, io, rfl, -, t1, -, hII⟩ := iI.item hil3
            obtain ⟨lb', lo', hh, -, z1, -⟩ := j2.ans (i := x) (by rw [HLL.out]; exact hlt)
            cases hh
            rw [hit] at z1
            have GC : Gr w3 (x4.alloc (.cells #[.int .i64 3, .int .i64 (ix ops x).tran] 67)) := GG.alloc _
            have bC : Blk (x4.alloc (.cells #[.int .i64 3, .int .i64 (ix ops x).tran] 67)) x4.heap.size 67 #[.int .i64 3, .int .i64 (ix ops x).tran] := Blk.new rfl
            have T1 := cell_gr t1 GC
            have Z1 := cell_gr z1 GC
            have Y2 := cell_gr K2 GC
            have hok2 := hok.gr ((Gr.refl x4).alloc (.cells #[.int .i64 3, .int .i64 (ix ops x).tran] 67))
            have hcI : copI ⟨3, (ix k.items it).tran⟩ := ⟨(by decide : I64 3), hII.2⟩
            have hitI : (it : Int) < (k.items.length : Int) := by omega
            have hit0 : (0 : Int) ≤ (it : Int) := by omega
            have d1 : decide ((it : Int) < 0) = false := by simp
            have d2 : decide ((k.items.length : Int) ≤ (it : Int)) = false := by simp; omega
            have d3 : decide (k.items.length ≤ it) = false := by simp; omega
            have hx3 := GG.le
            clear he hkd hit hok hII hAI
            go_wp2_with fail
            generalize x4.alloc (.cells #[.int .i64 3, .int .i64 (ix ops x).tran] 67) = wc at GC bC T1 Z1 Y2 hok2 Q0 ⊢
            generalize x4.heap.size = cb at bC hogl hx3 ⊢
            go_region_held3 (fun w' => w'.cell? ⟨lb, lo + x * 2 + 1, none⟩ = some (.int .i64 (it : Int)) ∧ w'.cell? ⟨kb, 2, none⟩ = some (.slice (some ⟨ib, io, none⟩) k.items.length jn)) (first | go_keep | ((refine ⟨cell_gr Z1 ?_, cell_gr Y2 ?_⟩); (all_goals (focus ((repeat (first | exact Gr.refl _ | assumption | apply Gr.alloc | apply Gr.drew | apply Gr.drewN | refine Gr.trans ?_ (by assumption))); done))))) (fail)
            have GD : Gr wc wc.drew := (Gr.refl _).drew
            replace bC := bC.gr GD
            replace T1 := cell_gr T1 GD
            replace Z1 := cell_gr Z1 GD
            replace Y2 := cell_gr Y2 GD
            replace hok2 := hok2.gr GD
            replace GC := GC.trans GD
            generalize wc.drew = wd at bC T1 Z1 Y2 hok2 GC ⊢
            have C1 := bC.cell (i := 1) (v := .int .i64 (ix ops x).tran) rfl
            have FZ := bC.frozen 1
            have bS := bC.set 1 (.int .i64 (ix k.items it).tran)
            have hok3 := (hok2.other (a := ⟨cb, 1, none⟩) (fun e => by have := hogl _ e; simp at this) (fun h => h) (.int .i64 (ix k.items it).tran)).drew
            have GS3 : Gr w3 (wd.setCell ⟨cb, 1, none⟩ (.int .i64 (ix k.items it).tran)).drew := (GC.setCell (p := ⟨cb, 1, none⟩) hx3 _).drew
            have S0 := cell_gr (bS.cell (i := 0) (v := .int .i64 3) rfl) ((Gr.refl _).drew)
            have S1 := cell_gr (bS.cell (i := 1) (v := .int .i64 (ix k.items it).tran) rfl) ((Gr.refl _).drew)
            have N1 := cell_gr z1 GS3
            have N2 := cell_gr K2 GS3
            have N3 := cell_gr t1 GS3
            clear GD hok2 bS
            go_wp2_with fail
            go_region_held3 (fun w' => w'.cell? ⟨lb, lo + x * 2 + 1, none⟩ = some (.int .i64 (it : Int)) ∧ w'.cell? ⟨kb, 2, none⟩ = some (.slice (some ⟨ib, io, none⟩) k.items.length jn) ∧ w'.cell? ⟨ib, io + it * 3 + 1, none⟩ = some (.int .i64 (ix k.items it).tran)) (first | go_keep | go_loud (exact ⟨N1, N2, N3⟩) | ((refine ⟨cell_gr Z1 ?_, cell_gr Y2 ?_, cell_gr T1 ?_⟩); (all_goals (focus ((repeat (first | exact Gr.refl _ | assumption | apply Gr.alloc | apply Gr.drew | apply Gr.drewN | refine Gr.trans ?_ (by assumption))); done))))) (fail)
            generalize (wd.setCell ⟨cb, 1, none⟩ (.int .i64 (ix k.items it).tran)).drew = we at hok3 GS3 S0 S1 ⊢
            have GE : Gr we (we.alloc (.cells #[.int .i64 3, .int .i64 (ix k.items it).tran] 67)) := (Gr.refl _).alloc _
            have hokE := hok3.gr GE
            have hbs := (GS3.trans GE).le
            clear T1 Z1 Y2 C1 FZ bC hok3
            go_wp2_with (at_builtin; go_loud (refine app_one copTyK _ _ w3.heap.size (fun _ => False) u12 (doneTo k ops l x) ⟨we.heap.size, 0, none⟩ ⟨3, (ix k.items it).tran⟩ [.int .i64 3, .int .i64 (ix k.items it).tran] (by rfl) (by rfl) (by rfl) (by rfl) hokE (lit_cellsH rfl) (On.true (p := [Value.int .i64 3, .int .i64 (ix k.items it).tran] = copCells ⟨3, (ix k.items it).tran⟩ ∧ copI ⟨3, (ix k.items it).tran⟩) ⟨rfl, hcI⟩) hn1 hn2 hbs ?_; intro v' w5 ho5 hgs hgb hat))
            go_roundw
            case rel => exact ⟨x + 1, by go_num, by omega, by rw [HS.out]; exact ho5, hgs w3 (Nat.le_refl _) (GS3.trans GE)⟩
            case measure => simp [intOf]; omega
          · rw [hkd] at l0
            rw [hkd] at u0
            have HS := Lib.hid (show doneTo k ops l (x + 1) = doneTo k ops l x ++ [⟨4, (ix k.items it).tran⟩] by rw [doneTo, if_neg (by rw [he, hkd]; decide)]; unfold copOf kindOf; rw [hkd]; (rw [hit, Int.toNat_natCast]; rfl))
            have GA : Gr wo (wo.alloc (.cells #[.int .i64 3, .int .i64 (ix ops x).user, .int .i64 (ix ops x).tran, .int .i64 (ix ops x).item, .int .i64 (ix ops x).to] 59)) := (Gr.refl _).alloc _
            have bO : Blk (wo.alloc (.cells #[.int .i64 3, .int .i64 (ix ops x).user, .int .i64 (ix ops x).tran, .int .i64 (ix ops x).item, .int .i64 (ix ops x).to] 59)) wo.heap.size 59 #[.int .i64 3, .int .i64 (ix ops x).user, .int .i64 (ix ops x).tran, .int .i64 (ix ops x).item, .int .i64 (ix ops x).to] := Blk.new rfl
            have O0 := bO.cell (i := 0) (v := .int .i64 3) rfl
            have O2 := bO.cell (i := 2) (v := .int .i64 (ix ops x).tran) rfl
            have hsa : (wo.alloc (.cells #[.int .i64 3, .int .i64 (ix ops x).user, .int .i64 (ix ops x).tran, .int .i64 (ix ops x).item, .int .i64 (ix ops x).to] 59)).heap.size = wo.heap.size + 1 := by simp
            have M0 := MAt.new (P := Try.prog) (k := 3) (wo.alloc (.cells #[.int .i64 3, .int .i64 (ix ops x).user, .int .i64 (ix ops x).tran, .int .i64 (ix ops x).item, .int .i64 (ix ops x).to] 59))
            rw [hsa] at M0
            obtain ⟨x1, r1, o1, m1⟩ := M0.store_new intLawD Try.underlying65 (.int .i64 2) (int_keyD (x := 1) (by decide)) (by simp)
            obtain ⟨x2, r2, o2, m2⟩ := m1.store_new intLawD Try.underlying65 (.int .i64 3) (int_keyD (x := 2) (by decide)) (by simp)
            obtain ⟨x3, r3, o3, m3⟩ := m2.store_new intLawD Try.underlying65 (.int .i64 4) (int_keyD (x := 3) (by decide)) (by simp)
            obtain ⟨x4, r4, o4, m4⟩ := m3.store_new intLawD Try.underlying65 (.int .i64 1) (int_keyD (x := 5) (by decide)) (by simp)
            have lk := m4.look_yes intLawD Try.underlying65 (int_keyD (x := 3) (by decide)) (v := .int .i64 4) (by simp)
            have GM : Gr (wo.alloc (.cells #[.int .i64 3, .int .i64 (ix ops x).user, .int .i64 (ix ops x).tran, .int .i64 (ix ops x).item, .int .i64 (ix ops x).to] 59)) x4 := (((((Gr.refl _).alloc (.map #[] 0)).grown o1.grown (fun q hq => by cases hq; rw [hsa]; exact Nat.le_refl _)).grown o2.grown (fun q hq => by cases hq; rw [hsa]; exact Nat.le_refl _)).grown o3.grown (fun q hq => by cases hq; rw [hsa]; exact Nat.le_refl _)).grown o4.grown (fun q hq => by cases hq; rw [hsa]; exact Nat.le_refl _)
            have P0 := cell_gr O0 GM
            have P2 := cell_gr O2 GM
            have GG := hgr.trans (GA.trans GM)
            have Q0 := cell_gr P0 ((Gr.refl x4).alloc (.cells #[.int .i64 4, .int .i64 (ix ops x).tran] 67))
            have hogl : ∀ b, u12.ownBlock = some b → b < x4.heap.size := fun b h => by have h1 := (hog.lt h).2; have h2 := (GA.trans GM).le; omega
            have hok := hog.gr (GA.trans GM)
            clear O0 O2 M0 m1 m2 m3 m4 o1 o2 o3 o4 bO hog GA GM hsa
            obtain ⟨ib, io, rfl, -, t1, -, hII⟩ := iI.item hil3
            obtain ⟨lb', lo', hh, -, z1, -⟩ := j2.ans (i := x) (by rw [HLL.out]; exact hlt)
            cases hh
            rw [hit] at z1
            have GC : Gr w3 (x4.alloc (.cells #[.int .i64 4, .int .i64 (ix ops x).tran] 67)) := GG.alloc _
            have bC : Blk (x4.alloc (.cells #[.int .i64 4, .int .i64 (ix ops x).tran] 67)) x4.heap.size 67 #[.int .i64 4, .int .i64 (ix ops x).tran] := Blk.new rfl
            have T1 := cell_gr t1 GC
            have Z1 := cell_gr z1 GC
            have Y2 := cell_gr K2 GC
            have hok2 := hok.gr ((Gr.refl x4).alloc (.cells #[.int .i64 4, .int .i64 (ix ops x).tran] 67))
            have hcI : copI ⟨4, (ix k.items it).tran⟩ := ⟨(by decide : I64 4), hII.2⟩
            have hitI : (it : Int) < (k.items.length : Int) := by omega
            have hit0 : (0 : Int) ≤ (it : Int) := by omega
            have d1 : decide ((it : Int) < 0) = false := by simp
            have d2 : decide ((k.items.length : Int) ≤ (it : Int)) = false := by simp; omega
            have d3 : decide (k.items.length ≤ it) = false := by simp; omega
            have hx3 := GG.le
            clear he hkd hit hok hII hAI
            go_wp2_with fail
            generalize x4.alloc (.cells #[.int .i64 4, .int .i64 (ix ops x).tran] 67) = wc at GC bC T1 Z1 Y2 hok2 Q0 ⊢
            generalize x4.heap.size = cb at bC hogl hx3 ⊢
            go_region_held3 (fun w' => w'.cell? ⟨lb, lo + x * 2 + 1, none⟩ = some (.int .i64 (it : Int)) ∧ w'.cell? ⟨kb, 2, none⟩ = some (.slice (some ⟨ib, io, none⟩) k.items.length jn)) (first | go_keep | ((refine ⟨cell_gr Z1 ?_, cell_gr Y2 ?_⟩); (all_goals (focus ((repeat (first | exact Gr.refl _ | assumption | apply Gr.alloc | apply Gr.drew | apply Gr.drewN | refine Gr.trans ?_ (by assumption))); done))))) (fail)
            have GD : Gr wc wc.drew := (Gr.refl _).drew
            replace bC := bC.gr GD
            replace T1 := cell_gr T1 GD
            replace Z1 := cell_gr Z1 GD
            replace Y2 := cell_gr Y2 GD
            replace hok2 := hok2.gr GD
            replace GC := GC.trans GD
            generalize wc.drew = wd at bC T1 Z1 Y2 hok2 GC ⊢
            have C1 := bC.cell (i := 1) (v := .int .i64 (ix ops x).tran) rfl
            have FZ := bC.frozen 1
            have bS := bC.set 1 (.int .i64 (ix k.items it).tran)
            have hok3 := (hok2.other (a := ⟨cb, 1, none⟩) (fun e => by have := hogl _ e; simp at this) (fun h => h) (.int .i64 (ix k.items it).tran)).drew
            have GS3 : Gr w3 (wd.setCell ⟨cb, 1, none⟩ (.int .i64 (ix k.items it).tran)).drew := (GC.setCell (p := ⟨cb, 1, none⟩) hx3 _).drew
            have S0 := cell_gr (bS.cell (i := 0) (v := .int .i64 4) rfl) ((Gr.refl _).drew)
            have S1 := cell_gr (bS.cell (i := 1) (v := .int .i64 (ix k.items it).tran) rfl) ((Gr.refl _).drew)
            have N1 := cell_gr z1 GS3
            have N2 := cell_gr K2 GS3
            have N3 := cell_gr t1 GS3
            clear GD hok2 bS
            go_wp2_with fail
            go_region_held3 (fun w' => w'.cell? ⟨lb, lo + x * 2 + 1, none⟩ = some (.int .i64 (it : Int)) ∧ w'.cell? ⟨kb, 2, none⟩ = some (.slice (some ⟨ib, io, none⟩) k.items.length jn) ∧ w'.cell? ⟨ib, io + it * 3 + 1, none⟩ = some (.int .i64 (ix k.items it).tran)) (first | go_keep | go_loud (exact ⟨N1, N2, N3⟩) | ((refine ⟨cell_gr Z1 ?_, cell_gr Y2 ?_, cell_gr T1 ?_⟩); (all_goals (focus ((repeat (first | exact Gr.refl _ | assumption | apply Gr.alloc | apply Gr.drew | apply Gr.drewN | refine Gr.trans ?_ (by assumption))); done))))) (fail)
            generalize (wd.setCell ⟨cb, 1, none⟩ (.int .i64 (ix k.items it).tran)).drew = we at hok3 GS3 S0 S1 ⊢
            have GE : Gr we (we.alloc (.cells #[.int .i64 4, .int .i64 (ix k.items it).tran] 67)) := (Gr.refl _).alloc _
            have hokE := hok3.gr GE
            have hbs := (GS3.trans GE).le
            clear T1 Z1 Y2 C1 FZ bC hok3
            go_wp2_with (at_builtin; go_loud (refine app_one copTyK _ _ w3.heap.size (fun _ => False) u12 (doneTo k ops l x) ⟨we.heap.size, 0, none⟩ ⟨4, (ix k.items it).tran⟩ [.int .i64 4, .int .i64 (ix k.items it).tran] (by rfl) (by rfl) (by rfl) (by rfl) hokE (lit_cellsH rfl) (On.true (p := [Value.int .i64 4, .int .i64 (ix k.items it).tran] = copCells ⟨4, (ix k.items it).tran⟩ ∧ copI ⟨4, (ix k.items it).tran⟩) ⟨rfl, hcI⟩) hn1 hn2 hbs ?_; intro v' w5 ho5 hgs hgb hat))
            go_roundw
            case rel => exact ⟨x + 1, by go_num, by omega, by rw [HS.out]; exact ho5, hgs w3 (Nat.le_refl _) (GS3.trans GE)⟩
            case measure => simp [intOf]; omega
          · rw [hkd] at l0
            rw [hkd] at u0
            have HS := Lib.hid (show doneTo k ops l (x + 1) = doneTo k ops l x ++ [⟨1, (ix ops x).tran⟩] by rw [doneTo, if_neg (by rw [he, hkd]; decide)]; unfold copOf kindOf; rw [hkd]; rfl)
            have GA : Gr wo (wo.alloc (.cells #[.int .i64 5, .int .i64 (ix ops x).user, .int .i64 (ix ops x).tran, .int .i64 (ix ops x).item, .int .i64 (ix ops x).to] 59)) := (Gr.refl _).alloc _
            have bO : Blk (wo.alloc (.cells #[.int .i64 5, .int .i64 (ix ops x).user, .int .i64 (ix ops x).tran, .int .i64 (ix ops x).item, .int .i64 (ix ops x).to] 59)) wo.heap.size 59 #[.int .i64 5, .int .i64 (ix ops x).user, .int .i64 (ix ops x).tran, .int .i64 (ix ops x).item, .int .i64 (ix ops x).to] := Blk.new rfl
            have O0 := bO.cell (i := 0) (v := .int .i64 5) rfl
            have O2 := bO.cell (i := 2) (v := .int .i64 (ix ops x).tran) rfl
            have hsa : (wo.alloc (.cells #[.int .i64 5, .int .i64 (ix ops x).user, .int .i64 (ix ops x).tran, .int .i64 (ix ops x).item, .int .i64 (ix ops x).to] 59)).heap.size = wo.heap.size + 1 := by simp
            have M0 := MAt.new (P := Try.prog) (k := 3) (wo.alloc (.cells #[.int .i64 5, .int .i64 (ix ops x).user, .int .i64 (ix ops x).tran, .int .i64 (ix ops x).item, .int .i64 (ix ops x).to] 59))
            rw [hsa] at M0
            obtain ⟨x1, r1, o1, m1⟩ := M0.store_new intLawD Try.underlying65 (.int .i64 2) (int_keyD (x := 1) (by decide)) (by simp)
            obtain ⟨x2, r2, o2, m2⟩ := m1.store_new intLawD Try.underlying65 (.int .i64 3) (int_keyD (x := 2) (by decide)) (by simp)
            obtain ⟨x3, r3, o3, m3⟩ := m2.store_new intLawD Try.underlying65 (.int .i64 4) (int_keyD (x := 3) (by decide)) (by simp)
            obtain ⟨x4, r4, o4, m4⟩ := m3.store_new intLawD Try.underlying65 (.int .i64 1) (int_keyD (x := 5) (by decide)) (by simp)
            have lk := m4.look_yes intLawD Try.underlying65 (int_keyD (x := 5) (by decide)) (v := .int .i64 1) (by simp)
            have GM : Gr (wo.alloc (.cells #[.int .i64 5, .int .i64 (ix ops x).user, .int .i64 (ix ops x).tran, .int .i64 (ix ops x).item, .int .i64 (ix ops x).to] 59)) x4 := (((((Gr.refl _).alloc (.map #[] 0)).grown o1.grown (fun q hq => by cases hq; rw [hsa]; exact Nat.le_refl _)).grown o2.grown (fun q hq => by cases hq; rw [hsa]; exact Nat.le_refl _)).grown o3.grown (fun q hq => by cases hq; rw [hsa]; exact Nat.le_refl _)).grown o4.grown (fun q hq => by cases hq; rw [hsa]; exact Nat.le_refl _)
            have P0 := cell_gr O0 GM
            have P2 := cell_gr O2 GM
            have GG := hgr.trans (GA.trans GM)
            have Q0 := cell_gr P0 ((Gr.refl x4).alloc (.cells #[.int .i64 1, .int .i64 (ix ops x).tran] 67))
            have hogl : ∀ b, u12.ownBlock = some b → b < x4.heap.size := fun b h => by have h1 := (hog.lt h).2; have h2 := (GA.trans GM).le; omega
            have hok := hog.gr (GA.trans GM)
            clear O0 O2 M0 m1 m2 m3 m4 o1 o2 o3 o4 bO hog GA GM hsa
            have L0 := l0
            have GE : Gr x4 ((x4.alloc (.cells #[.int .i64 1, .int .i64 (ix ops x).tran] 67)).alloc (.cells #[.int .i64 1, .int .i64 (ix ops x).tran] 67)) := ((Gr.refl _).alloc _).alloc _
            have hokE := hok.gr GE
            have hbs := (GG.trans GE).le
            have hcI : copI ⟨1, (ix ops x).tran⟩ := ⟨(by decide : I64 1), hI.2.2.1⟩
            clear he hkd
            go_wp2_with (at_builtin; go_loud (refine app_one copTyK _ _ w3.heap.size (fun _ => False) u12 (doneTo k ops l x) ⟨x4.heap.size + 1, 0, none⟩ ⟨1, (ix ops x).tran⟩ [.int .i64 1, .int .i64 (ix ops x).tran] (by rfl) (by rfl) (by rfl) (by rfl) hokE (lit_cellsH (World.size_alloc _ _)) (On.true (p := [Value.int .i64 1, .int .i64 (ix ops x).tran] = copCells ⟨1, (ix ops x).tran⟩ ∧ copI ⟨1, (ix ops x).tran⟩) ⟨rfl, hcI⟩) hn1 hn2 hbs ?_; intro v' w5 ho5 hgs hgb hat))
            go_roundw
            case rel => exact ⟨x + 1, by go_num, by omega, by rw [HS.out]; exact ho5, hgs w3 (Nat.le_refl _) (GG.trans GE)⟩
            case measure => simp [intOf]; omega
        · have HS := Lib.hid (show doneTo k ops l (x + 1) = doneTo k ops l x by rw [doneTo, if_pos (.inl he)])
          have q3 : ((ix l x).err != 0) = true := by simpa using he
          clear he
          go_wp2_with fail
          go_roundw
          case rel => exact ⟨x + 1, by go_num, by omega, by rw [HS.out]; exact hog.alloc _, hgr.alloc _⟩
          case measure => simp [intOf]; omega
      · obtain rfl : x = ops.length := by omega
        have B0' := cell_gr B0 hgr
        have B1' := cell_gr B1 hgr
        have GW2 := GW.trans hgr
        have hdl := HDL.out ops.length
        have hz : (List.replicate (doneTo k ops l ops.length).length (0 : Int)).any (fun n => n != 0) = false := List.any_eq_false.2 (fun z hz => by rw [List.eq_of_mem_replicate hz]; decide)
        have hs : sameC k.case k.case = true := sameC_self _
        obtain ⟨ga, gc, rfl, _, _⟩ := hog.len
        clear B0 B1 hmm
        go_wp2_with fail
        refine (Play_calls _ _ N i (doneTo k ops l ops.length) _ (hN'.gr GW2) hi hog.rd (by omega)).mono ?_
        rw [HPC.out]; rintro _ w5 ⟨v5, u5, rfl, i5, j5, g5⟩
        simp only [] at i5 j5
        obtain ⟨ma', mn', ba', bn', rfl, _, _, _, _, iM5, iB5⟩ := i5.open_
        obtain ⟨la', lc', rfl, _, _⟩ := j5.len
        have GE : Gr w5 (w5.alloc (.cells #[.slice ma' k.case.mark.length mn', .slice ba' k.case.busy.length bn'] 45)) := (Gr.refl _).alloc _
        have b5 : Blk (w5.alloc (.cells #[.slice ma' k.case.mark.length mn', .slice ba' k.case.busy.length bn'] 45)) w5.heap.size 45 #[.slice ma' k.case.mark.length mn', .slice ba' k.case.busy.length bn'] := Blk.new rfl
        have A0 := b5.cell (i := 0) rfl
        have A1 := b5.cell (i := 1) rfl
        have GG := (hgr.trans g5).trans GE
        have K0' := cell_gr K0 GG
        have K1' := cell_gr K1 GG
        have C1 := CaseR.mk_ (c := k.case) (iM5.gr GE) (iB5.gr GE)
        have C2 := CaseR.mk_ (c := k.case) (iM.gr GG) (iB.gr GG)
        have j6 := j5.gr GE
        have GZ := GW.trans GG
        clear K0 K1 K2 B0' B1' hog g5 GE b5 i5 j5 GG iM5 iB5
        go_wp2_with fail
        refine (SameCase_calls _ _ k.case k.case _ C1 C2).mono ?_
        rw [hs]; rintro _ w6 ⟨rfl, g6⟩
        have j7 := j6.gr g6
        rw [List.length_replicate] at j7
        go_wp2_with fail
        refine (ContainsFuncE_calls _ (List.replicate (doneTo k ops l ops.length).length 0) 33 _ (fun n => n != 0) _ eg j7 DeskCase1_answers).mono ?_
        rw [hz]; rintro _ _ ⟨rfl, rfl⟩
        go_wp2_with fail
        go_ret
        exact ⟨rfl, GZ.trans g6⟩
end Go.Proofs.Ytbopachnkbjmfaa
