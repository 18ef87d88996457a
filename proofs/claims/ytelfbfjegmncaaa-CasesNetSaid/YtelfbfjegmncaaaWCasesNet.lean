/- The call CasesNet answers true at any net and operations that read as data; nothing that lay there turns. -/
import Derived.Test.YtelfbfjegmncaaaAlive16
import Derived.Test.YtelfbfjegmncaaaCaseNetLaw
import Derived.Test.YtelfbfjegmncaaaCopFn
import Derived.Test.YtelfbfjegmncaaaNet3
import Derived.Deep.RegionHeld3
import Derived.BigQuiet
import Derived.Deep.QuietTactic
namespace Go.Tok
open Go.Proofs.Ytelfbfjegmncaaa Go.RowKit
/-- two values that do not share a block -/
def ApartV (u v : Value) : Prop := ∀ b, u.ownBlock = some b → v.ownBlock ≠ some b
theorem ApartV.symm {u v : Value} (h : ApartV u v) : ApartV v u := fun b hv hu => h b hu hv
theorem ApartV.or {u v : Value} (h : ApartV u v) : v.ownBlock = none ∨ v.ownBlock ≠ u.ownBlock := by
  cases hv : v.ownBlock with
  | none => exact .inl rfl
  | some b => exact .inr fun e => h b e.symm hv
theorem ApartV.app {u v u' : Value} {e base : Nat} {W : World} {ys : List Int} (h : ApartV u v) (hv : OwnI e base W v ys) (hat : u'.ownBlock = u.ownBlock ∨ u'.ownBlock = some W.heap.size) : ApartV u' v := fun b hb hvb => by
  rcases hat with h1 | h1
  · exact h b (h1.symm.trans hb) hvb
  · have h2 := (hv.lt hvb).2
    rw [h1] at hb
    have := Option.some.inj hb
    omega
theorem Ints.front {w : World} {a : Option Addr} {n cap k : Nat} {xs : List Int} (h : Ints w (.slice a n cap) xs) (hk : k ≤ xs.length) : Ints w (.slice a k cap) (xs.take k) := by
  have h' := h
  unfold Ints at h'
  obtain ⟨a', cap', h1, h2, h3, h4, h5, h6⟩ := h'
  obtain ⟨rfl, rfl, rfl⟩ : a = a' ∧ n = xs.length ∧ cap = cap' := by cases h1; exact ⟨rfl, rfl, rfl⟩
  have hl : (xs.take k).length = k := by rw [List.length_take]; omega
  refine Ints.intro (a := a) (cap := cap) (by rw [hl]) (by rw [hl]; omega) h3 (fun x hx => h4 x (List.mem_of_mem_take hx)) h5 fun i hi => ?_
  rw [hl] at hi
  obtain ⟨b, o, h7, h8⟩ := h6 i (by omega)
  refine ⟨b, o, h7, ?_⟩
  rw [h8, nth_take hi, nth_def]
theorem busyNF_cases (N : NetD) : (∃ e, busyNF N = (⟨0, []⟩, e) ∧ e ≠ 0) ∨ (busyNF N = (busyN N, 0) ∧ netOkB N = true ∧ busyP N ≤ 16 ∧ N.trans.length + visTo N.trans N.trans.length ≤ 24) := by
  cases h : netOkB N
  · exact .inl ⟨2, busyNF_wrong h, by decide⟩
  · by_cases h1 : 16 < busyP N ∨ 24 < N.trans.length + visTo N.trans N.trans.length
    · exact .inl ⟨4, busyNF_full h h1, by decide⟩
    · exact .inr ⟨busyNF_ok h (by omega) (by omega), rfl, by omega, by omega⟩
theorem play_len {N : NetD} {i : Int} {ops : List CopD} {c : CaseD} {l : List Int} (h : playF N i ops = ((c, l), 0)) : l.length = ops.length := by
  rcases hb : beginF N i with ⟨c0, e⟩
  by_cases he : e = 0
  · subst he
    rw [playF_ok hb] at h
    have := playTo_len N c0 ops ops.length (Nat.le_refl _)
    cases hp : playTo N c0 ops ops.length with
    | mk a b => rw [hp] at h this; cases h; exact this
  · rw [playF_bad hb he] at h; cases h; exact absurd rfl he
theorem play_begun {N : NetD} {i : Int} {ops : List CopD} {c : CaseD} {l : List Int} (hok : netOkB N = true) (h : playF N i ops = ((c, l), 0)) : ∃ j : Nat, i = j ∧ j < N.places.toNat ∧ (c, l) = playTo N ⟨oneN N.places.toNat (j : Int), List.replicate N.trans.length 0⟩ ops ops.length := by
  by_cases hi : i < 0 ∨ N.places ≤ i
  · rw [playF_bad (begin_none hok hi) (by decide)] at h; cases h
  · obtain ⟨j, rfl⟩ := Int.eq_ofNat_of_zero_le (show 0 ≤ i by omega)
    rw [playF_ok (begin_ok hok (by omega) (by omega))] at h
    refine ⟨j, rfl, by omega, ?_⟩
    have := congrArg Prod.fst h
    exact this.symm
end Go.Tok
namespace Go.Proofs.Ytelfbfjegmncaaa
open Go.RowKit Go.Tok
set_option linter.unusedVariables false
set_option maxRecDepth 100000 in
theorem CasesNet1_answers (w0 : World) (ts : List CopD) : AnswersCop Try.prog 47 #[] ts (fun t => decide (t.kind = 4)) w0 := by
  intro W t ht g hI
  have O0 : (W.alloc (.cells #[.int .i64 t.kind, .int .i64 t.tran] 82)).cell? ⟨W.heap.size, 0, none⟩ = some (.int .i64 t.kind) := box_cell (Gr.refl _) (i := 0) rfl
  go_enter Try.func47, Try.ntmps47
  go_wp2_with fail
  go_ret
  exact ⟨ret_bool (by rw [Bool.eq_iff_iff]; simp), by (repeat (first | exact Gr.refl _ | assumption | apply Gr.alloc | apply Gr.drew | apply Gr.drewN | refine Gr.trans ?_ (by assumption)))⟩
set_option maxHeartbeats 20000000 in
set_option maxRecDepth 100000 in
theorem CasesNet_walk {v u : Value} {N : NetD} {i : Int} {ops : List CopD} (w : World) (hN : NetR w v N) (hi : I64 i) (h2 : Rd copK w u ops ∧ ops.length ≤ 8796093022208) :
    Calls Try.prog 11 #[v, .int .i64 i, u] w fun e w' => e = .returned (.bool true) ∧ Gr w w' := by
  obtain ⟨hu, hl⟩ := h2
  have hN' := hN
  have T := intTy
  have eg : ∀ args w, (callFunc 47 args).run Try.prog w = .ok (.enter 47 args) w := (Go.Proofs.enters_of Try.func47 (by kernel_rfl) rfl)
  obtain ⟨a, cap, rfl, hnl, hncap, hpl, hT⟩ := hN.open_
  have hpl1 := hpl.1
  have hpl2 := hpl.2
  obtain ⟨ua, uc, rfl, ul, ul'⟩ := hu.len
  rcases hp : playF N i ops with ⟨⟨c, l⟩, f⟩
  have HP := Lib.hid hp
  rcases hb : busyNF N with ⟨M, e⟩
  have HB := Lib.hid hb
  by_cases hf : f = 0
  case neg =>
    have q1 : (f != 0) = true := by simpa using hf
    clear hp hb hf
    by_cases he : e = 0
    · subst he
      go_enter Try.func11, Try.ntmps11
      go_wp2_with fail
      refine (alive16_calls _).mono ?_
      rintro _ w1 ⟨rfl, g1⟩
      have B0 := box_cell g1 (i := 0) rfl
      have B1 := box_cell g1 (i := 1) rfl
      have GW : Gr w w1 := ((Gr.refl w).alloc _).trans g1
      go_wp2_with fail
      refine (Busy_calls _ N _ (hN'.gr GW)).mono ?_
      rw [HB.out]; rintro _ w2 ⟨v2, rfl, n2, g2⟩
      obtain ⟨na, nc, rfl, nl, nl', _, _⟩ := n2.open_
      have GM : Gr w2 (w2.alloc (.cells #[.int .i64 M.places, .slice na M.trans.length nc] 28)) := (Gr.refl _).alloc _
      have M0 : (w2.alloc (.cells #[.int .i64 M.places, .slice na M.trans.length nc] 28)).cell? ⟨w2.heap.size, 0, none⟩ = some (.int .i64 M.places) := box_cell (Gr.refl _) (i := 0) rfl
      have M1 : (w2.alloc (.cells #[.int .i64 M.places, .slice na M.trans.length nc] 28)).cell? ⟨w2.heap.size, 1, none⟩ = some (.slice na M.trans.length nc) := box_cell (Gr.refl _) (i := 1) rfl
      replace B0 := cell_gr (cell_gr B0 g2) GM
      replace B1 := cell_gr (cell_gr B1 g2) GM
      replace GW := (GW.trans g2).trans GM
      replace n2 := n2.gr GM
      clear g1 g2
      go_wp2_with fail
      refine (Play_calls _ _ N _ ops _ (hN'.gr GW) hi (hu.gr GW) hl).mono ?_
      rw [HP.out]; rintro _ w3 ⟨v3, u3, rfl, i3, j3, g3⟩
      obtain ⟨ma, mc, ba, bc, rfl, _, _, _, _, iM, iB⟩ := i3.open_
      obtain ⟨ja, jc, rfl, _, _⟩ := j3.len
      have GC : Gr w3 (w3.alloc (.cells #[.slice ma c.mark.length mc, .slice ba c.busy.length bc] 76)) := (Gr.refl _).alloc _
      have C0 : (w3.alloc (.cells #[.slice ma c.mark.length mc, .slice ba c.busy.length bc] 76)).cell? ⟨w3.heap.size, 0, none⟩ = some (.slice ma c.mark.length mc) := box_cell (Gr.refl _) (i := 0) rfl
      have C1 : (w3.alloc (.cells #[.slice ma c.mark.length mc, .slice ba c.busy.length bc] 76)).cell? ⟨w3.heap.size, 1, none⟩ = some (.slice ba c.busy.length bc) := box_cell (Gr.refl _) (i := 1) rfl
      replace B0 := cell_gr (cell_gr B0 g3) GC
      replace B1 := cell_gr (cell_gr B1 g3) GC
      replace M0 := cell_gr (cell_gr M0 g3) GC
      replace M1 := cell_gr (cell_gr M1 g3) GC
      replace GW := (GW.trans g3).trans GC
      replace n2 := (n2.gr g3).gr GC
      replace iM := iM.gr GC
      replace iB := iB.gr GC
      replace j3 := j3.gr GC
      clear GM g3
      go_wp2_with fail
      go_ret
      exact ⟨rfl, GW⟩
    · have q2 : (e != 0) = true := by simpa using he
      clear he
      go_enter Try.func11, Try.ntmps11
      go_wp2_with fail
      refine (alive16_calls _).mono ?_
      rintro _ w1 ⟨rfl, g1⟩
      have B0 := box_cell g1 (i := 0) rfl
      have B1 := box_cell g1 (i := 1) rfl
      have GW : Gr w w1 := ((Gr.refl w).alloc _).trans g1
      go_wp2_with fail
      refine (Busy_calls _ N _ (hN'.gr GW)).mono ?_
      rw [HB.out]; rintro _ w2 ⟨v2, rfl, n2, g2⟩
      obtain ⟨na, nc, rfl, nl, nl', _, _⟩ := n2.open_
      have GM : Gr w2 (w2.alloc (.cells #[.int .i64 M.places, .slice na M.trans.length nc] 28)) := (Gr.refl _).alloc _
      have M0 : (w2.alloc (.cells #[.int .i64 M.places, .slice na M.trans.length nc] 28)).cell? ⟨w2.heap.size, 0, none⟩ = some (.int .i64 M.places) := box_cell (Gr.refl _) (i := 0) rfl
      have M1 : (w2.alloc (.cells #[.int .i64 M.places, .slice na M.trans.length nc] 28)).cell? ⟨w2.heap.size, 1, none⟩ = some (.slice na M.trans.length nc) := box_cell (Gr.refl _) (i := 1) rfl
      replace B0 := cell_gr (cell_gr B0 g2) GM
      replace B1 := cell_gr (cell_gr B1 g2) GM
      replace GW := (GW.trans g2).trans GM
      replace n2 := n2.gr GM
      clear g1 g2
      go_wp2_with fail
      refine (Play_calls _ _ N _ ops _ (hN'.gr GW) hi (hu.gr GW) hl).mono ?_
      rw [HP.out]; rintro _ w3 ⟨v3, u3, rfl, i3, j3, g3⟩
      obtain ⟨ma, mc, ba, bc, rfl, _, _, _, _, iM, iB⟩ := i3.open_
      obtain ⟨ja, jc, rfl, _, _⟩ := j3.len
      have GC : Gr w3 (w3.alloc (.cells #[.slice ma c.mark.length mc, .slice ba c.busy.length bc] 76)) := (Gr.refl _).alloc _
      have C0 : (w3.alloc (.cells #[.slice ma c.mark.length mc, .slice ba c.busy.length bc] 76)).cell? ⟨w3.heap.size, 0, none⟩ = some (.slice ma c.mark.length mc) := box_cell (Gr.refl _) (i := 0) rfl
      have C1 : (w3.alloc (.cells #[.slice ma c.mark.length mc, .slice ba c.busy.length bc] 76)).cell? ⟨w3.heap.size, 1, none⟩ = some (.slice ba c.busy.length bc) := box_cell (Gr.refl _) (i := 1) rfl
      replace B0 := cell_gr (cell_gr B0 g3) GC
      replace B1 := cell_gr (cell_gr B1 g3) GC
      replace M0 := cell_gr (cell_gr M0 g3) GC
      replace M1 := cell_gr (cell_gr M1 g3) GC
      replace GW := (GW.trans g3).trans GC
      replace n2 := (n2.gr g3).gr GC
      replace iM := iM.gr GC
      replace iB := iB.gr GC
      replace j3 := j3.gr GC
      clear GM g3
      go_wp2_with fail
      go_ret
      exact ⟨rfl, GW⟩
  case pos =>
    subst hf
    have hll := play_len hp
    have q2 : ((l.length : Int) != (ops.length : Int)) = false := by simp [hll]
    have q3 : ((l.length : Int) == (ops.length : Int)) = true := by simp [hll]
    by_cases he : e = 0
    case neg =>
      have q1 : (e != 0) = true := by simpa using he
      clear hp hb he hll
      go_enter Try.func11, Try.ntmps11
      go_wp2_with fail
      refine (alive16_calls _).mono ?_
      rintro _ w1 ⟨rfl, g1⟩
      have B0 := box_cell g1 (i := 0) rfl
      have B1 := box_cell g1 (i := 1) rfl
      have GW : Gr w w1 := ((Gr.refl w).alloc _).trans g1
      go_wp2_with fail
      refine (Busy_calls _ N _ (hN'.gr GW)).mono ?_
      rw [HB.out]; rintro _ w2 ⟨v2, rfl, n2, g2⟩
      obtain ⟨na, nc, rfl, nl, nl', _, _⟩ := n2.open_
      have GM : Gr w2 (w2.alloc (.cells #[.int .i64 M.places, .slice na M.trans.length nc] 28)) := (Gr.refl _).alloc _
      have M0 : (w2.alloc (.cells #[.int .i64 M.places, .slice na M.trans.length nc] 28)).cell? ⟨w2.heap.size, 0, none⟩ = some (.int .i64 M.places) := box_cell (Gr.refl _) (i := 0) rfl
      have M1 : (w2.alloc (.cells #[.int .i64 M.places, .slice na M.trans.length nc] 28)).cell? ⟨w2.heap.size, 1, none⟩ = some (.slice na M.trans.length nc) := box_cell (Gr.refl _) (i := 1) rfl
      replace B0 := cell_gr (cell_gr B0 g2) GM
      replace B1 := cell_gr (cell_gr B1 g2) GM
      replace GW := (GW.trans g2).trans GM
      replace n2 := n2.gr GM
      clear g1 g2
      go_wp2_with fail
      refine (Play_calls _ _ N _ ops _ (hN'.gr GW) hi (hu.gr GW) hl).mono ?_
      rw [HP.out]; rintro _ w3 ⟨v3, u3, rfl, i3, j3, g3⟩
      obtain ⟨ma, mc, ba, bc, rfl, _, _, _, _, iM, iB⟩ := i3.open_
      obtain ⟨ja, jc, rfl, _, _⟩ := j3.len
      have GC : Gr w3 (w3.alloc (.cells #[.slice ma c.mark.length mc, .slice ba c.busy.length bc] 76)) := (Gr.refl _).alloc _
      have C0 : (w3.alloc (.cells #[.slice ma c.mark.length mc, .slice ba c.busy.length bc] 76)).cell? ⟨w3.heap.size, 0, none⟩ = some (.slice ma c.mark.length mc) := box_cell (Gr.refl _) (i := 0) rfl
      have C1 : (w3.alloc (.cells #[.slice ma c.mark.length mc, .slice ba c.busy.length bc] 76)).cell? ⟨w3.heap.size, 1, none⟩ = some (.slice ba c.busy.length bc) := box_cell (Gr.refl _) (i := 1) rfl
      replace B0 := cell_gr (cell_gr B0 g3) GC
      replace B1 := cell_gr (cell_gr B1 g3) GC
      replace M0 := cell_gr (cell_gr M0 g3) GC
      replace M1 := cell_gr (cell_gr M1 g3) GC
      replace GW := (GW.trans g3).trans GC
      replace n2 := (n2.gr g3).gr GC
      replace iM := iM.gr GC
      replace iB := iB.gr GC
      replace j3 := j3.gr GC
      clear GM g3
      go_wp2_with fail
      go_ret
      exact ⟨rfl, GW⟩
    case pos =>
      subst he
      cases hany : ops.any (fun t => decide (t.kind = 4))
      case true =>
        clear hp hb hll
        go_enter Try.func11, Try.ntmps11
        go_wp2_with fail
        refine (alive16_calls _).mono ?_
        rintro _ w1 ⟨rfl, g1⟩
        have B0 := box_cell g1 (i := 0) rfl
        have B1 := box_cell g1 (i := 1) rfl
        have GW : Gr w w1 := ((Gr.refl w).alloc _).trans g1
        go_wp2_with fail
        refine (Busy_calls _ N _ (hN'.gr GW)).mono ?_
        rw [HB.out]; rintro _ w2 ⟨v2, rfl, n2, g2⟩
        obtain ⟨na, nc, rfl, nl, nl', _, _⟩ := n2.open_
        have GM : Gr w2 (w2.alloc (.cells #[.int .i64 M.places, .slice na M.trans.length nc] 28)) := (Gr.refl _).alloc _
        have M0 : (w2.alloc (.cells #[.int .i64 M.places, .slice na M.trans.length nc] 28)).cell? ⟨w2.heap.size, 0, none⟩ = some (.int .i64 M.places) := box_cell (Gr.refl _) (i := 0) rfl
        have M1 : (w2.alloc (.cells #[.int .i64 M.places, .slice na M.trans.length nc] 28)).cell? ⟨w2.heap.size, 1, none⟩ = some (.slice na M.trans.length nc) := box_cell (Gr.refl _) (i := 1) rfl
        replace B0 := cell_gr (cell_gr B0 g2) GM
        replace B1 := cell_gr (cell_gr B1 g2) GM
        replace GW := (GW.trans g2).trans GM
        replace n2 := n2.gr GM
        clear g1 g2
        go_wp2_with fail
        refine (Play_calls _ _ N _ ops _ (hN'.gr GW) hi (hu.gr GW) hl).mono ?_
        rw [HP.out]; rintro _ w3 ⟨v3, u3, rfl, i3, j3, g3⟩
        obtain ⟨ma, mc, ba, bc, rfl, _, _, _, _, iM, iB⟩ := i3.open_
        obtain ⟨ja, jc, rfl, _, _⟩ := j3.len
        have GC : Gr w3 (w3.alloc (.cells #[.slice ma c.mark.length mc, .slice ba c.busy.length bc] 76)) := (Gr.refl _).alloc _
        have C0 : (w3.alloc (.cells #[.slice ma c.mark.length mc, .slice ba c.busy.length bc] 76)).cell? ⟨w3.heap.size, 0, none⟩ = some (.slice ma c.mark.length mc) := box_cell (Gr.refl _) (i := 0) rfl
        have C1 : (w3.alloc (.cells #[.slice ma c.mark.length mc, .slice ba c.busy.length bc] 76)).cell? ⟨w3.heap.size, 1, none⟩ = some (.slice ba c.busy.length bc) := box_cell (Gr.refl _) (i := 1) rfl
        replace B0 := cell_gr (cell_gr B0 g3) GC
        replace B1 := cell_gr (cell_gr B1 g3) GC
        replace M0 := cell_gr (cell_gr M0 g3) GC
        replace M1 := cell_gr (cell_gr M1 g3) GC
        replace GW := (GW.trans g3).trans GC
        replace n2 := (n2.gr g3).gr GC
        replace iM := iM.gr GC
        replace iB := iB.gr GC
        replace j3 := j3.gr GC
        clear GM g3
        go_wp2_with fail
        refine (ContainsFuncCop_calls _ ops _ _ (fun t => decide (t.kind = 4)) _ eg (hu.gr GW) (CasesNet1_answers _ _)).mono ?_
        rw [hany]; rintro _ w5 ⟨rfl, g5⟩
        go_wp2_with fail
        go_ret
        exact ⟨rfl, GW.trans g5⟩
      case false =>
        rcases busyNF_cases N with ⟨e', h1, h2⟩ | ⟨h1, hok, hP16, hT24⟩
        · rw [hb] at h1; cases h1; exact absurd rfl h2
        have hM : M = busyN N := by rw [hb] at h1; exact congrArg Prod.fst h1
        have hMp : M.places = (busyP N : Int) := by rw [hM]; rfl
        obtain ⟨j, rfl, hj, hpt⟩ := play_begun hok hp
        obtain ⟨c0, hc0⟩ : ∃ c0 : CaseD, c0 = ⟨oneN N.places.toNat (j : Int), List.replicate N.trans.length 0⟩ := ⟨_, rfl⟩
        rw [← hc0] at hpt
        have hu4 : ∀ k, k < ops.length → (ix ops k).kind ≠ 4 := fun k hk e => by
          have := List.any_eq_false.1 hany (ix ops k) (ix_mem hk)
          rw [e] at this; exact this rfl
        obtain ⟨m, hrun, hE⟩ := cases_net hok hP16 hT24 hj hu4 hc0
        have hcE : (playTo N c0 ops ops.length).1 = c := congrArg Prod.fst hpt.symm
        have hlE : (playTo N c0 ops ops.length).2 = l := congrArg Prod.snd hpt.symm
        rw [hcE] at hE
        rw [← hM] at hrun
        have herr : ∀ k, k < ops.length → nth l k = (doF N (playTo N c0 ops k).1 (ix ops k).kind (ix ops k).tran).2 := fun k hk => by rw [← hlE]; exact play_err ops.length (Nat.le_refl _) k hk
        obtain ⟨ht1, ht2, ht3⟩ := emb_take hE
        have h16 := netOk_places hok
        have h24 := netOk_len hok
        have hml := hE.ok.ml
        have hbl := hE.ok.bl
        obtain ⟨n0, hn0⟩ : ∃ n0, n0 = N.places.toNat := ⟨_, rfl⟩
        have hpn : N.places = (n0 : Int) := by omega
        rw [← hn0] at ht1 ht2 hj
        have HRUN := Lib.hid hrun
        have HERR := Lib.hid herr
        have HU4 := Lib.hid hu4
        have HE := Lib.hid hE
        have HTK := Lib.hid ht1
        have HM16 := Lib.hid (show m.length ≤ 16 by omega)
        have HML := Lib.hid ht2
        have HN0 := Lib.hid hn0
        have HPN := Lib.hid hpn
        have HOKN := Lib.hid hok
        have HLL := Lib.hid hll
        have HCM := Lib.hid hml
        have HCB := Lib.hid hbl
        have hn16 : n0 ≤ 16 := by omega
        have HJ0 := Lib.hid (show 0 < n0 by omega)
        clear hp hb h1 hM hMp hpt hc0 hu4 hrun hE hcE hlE herr ht1 ht2 ht3 h16 hml hbl hn0 hpn hP16 hT24 hj hok hll
        go_enter Try.func11, Try.ntmps11
        go_wp2_with fail
        refine (alive16_calls _).mono ?_
        rintro _ w1 ⟨rfl, g1⟩
        have B0 := box_cell g1 (i := 0) rfl
        have B1 := box_cell g1 (i := 1) rfl
        have GW : Gr w w1 := ((Gr.refl w).alloc _).trans g1
        go_wp2_with fail
        refine (Busy_calls _ N _ (hN'.gr GW)).mono ?_
        rw [HB.out]; rintro _ w2 ⟨v2, rfl, n2, g2⟩
        obtain ⟨na, nc, rfl, nl, nl', _, _⟩ := n2.open_
        have GM : Gr w2 (w2.alloc (.cells #[.int .i64 M.places, .slice na M.trans.length nc] 28)) := (Gr.refl _).alloc _
        have M0 : (w2.alloc (.cells #[.int .i64 M.places, .slice na M.trans.length nc] 28)).cell? ⟨w2.heap.size, 0, none⟩ = some (.int .i64 M.places) := box_cell (Gr.refl _) (i := 0) rfl
        have M1 : (w2.alloc (.cells #[.int .i64 M.places, .slice na M.trans.length nc] 28)).cell? ⟨w2.heap.size, 1, none⟩ = some (.slice na M.trans.length nc) := box_cell (Gr.refl _) (i := 1) rfl
        replace B0 := cell_gr (cell_gr B0 g2) GM
        replace B1 := cell_gr (cell_gr B1 g2) GM
        replace GW := (GW.trans g2).trans GM
        replace n2 := n2.gr GM
        clear g1 g2
        go_wp2_with fail
        refine (Play_calls _ _ N _ ops _ (hN'.gr GW) hi (hu.gr GW) hl).mono ?_
        rw [HP.out]; rintro _ w3 ⟨v3, u3, rfl, i3, j3, g3⟩
        obtain ⟨ma, mc, ba, bc, rfl, _, _, _, _, iM, iB⟩ := i3.open_
        obtain ⟨ja, jc, rfl, _, _⟩ := j3.len
        have GC : Gr w3 (w3.alloc (.cells #[.slice ma c.mark.length mc, .slice ba c.busy.length bc] 76)) := (Gr.refl _).alloc _
        have C0 : (w3.alloc (.cells #[.slice ma c.mark.length mc, .slice ba c.busy.length bc] 76)).cell? ⟨w3.heap.size, 0, none⟩ = some (.slice ma c.mark.length mc) := box_cell (Gr.refl _) (i := 0) rfl
        have C1 : (w3.alloc (.cells #[.slice ma c.mark.length mc, .slice ba c.busy.length bc] 76)).cell? ⟨w3.heap.size, 1, none⟩ = some (.slice ba c.busy.length bc) := box_cell (Gr.refl _) (i := 1) rfl
        replace B0 := cell_gr (cell_gr B0 g3) GC
        replace B1 := cell_gr (cell_gr B1 g3) GC
        replace M0 := cell_gr (cell_gr M0 g3) GC
        replace M1 := cell_gr (cell_gr M1 g3) GC
        replace GW := (GW.trans g3).trans GC
        replace n2 := (n2.gr g3).gr GC
        replace iM := iM.gr GC
        replace iB := iB.gr GC
        replace j3 := j3.gr GC
        clear GM g3
        go_wp2_with fail
        refine (ContainsFuncCop_calls _ ops _ _ (fun t => decide (t.kind = 4)) _ eg (hu.gr GW) (CasesNet1_answers _ _)).mono ?_
        rw [hany]; rintro _ w5 ⟨rfl, g5⟩
        replace B0 := cell_gr B0 g5
        replace B1 := cell_gr B1 g5
        replace M0 := cell_gr M0 g5
        replace M1 := cell_gr M1 g5
        replace C0 := cell_gr C0 g5
        replace C1 := cell_gr C1 g5
        replace GW := GW.trans g5
        replace n2 := n2.gr g5
        replace iM := iM.gr g5
        replace iB := iB.gr g5
        replace j3 := j3.gr g5
        clear g5 GC
        go_wp2_with fail
        go_quiet (fail)
        have gd : Gr w5 (w5.drewN nq) := (Gr.refl _).drewN _
        generalize w5.drewN nq = w6 at gd ⊢
        replace B0 := cell_gr B0 gd
        replace B1 := cell_gr B1 gd
        replace M0 := cell_gr M0 gd
        replace M1 := cell_gr M1 gd
        replace C0 := cell_gr C0 gd
        replace C1 := cell_gr C1 gd
        replace GW := GW.trans gd
        replace n2 := n2.gr gd
        replace iM := iM.gr gd
        replace iB := iB.gr gd
        replace j3 := j3.gr gd
        clear gd
        go_wp2_with fail
        go_loopw [12, 13, 14, 15, 71] (fun av pv kv sv q wr => ∃ k : Nat, k ≤ N.trans.length ∧ q = .int .i64 k ∧ kv = .int .i64 ((k + visTo N.trans k : Nat) : Int) ∧ sv = .int .i64 ((n0 + visTo N.trans k : Nat) : Int) ∧ OwnI 3 w6.heap.size wr av (atTo N k) ∧ OwnI 3 w6.heap.size wr pv (placeTo N k) ∧ ApartV av pv ∧ Gr w6 wr) (fun _ _ _ _ q _ => N.trans.length - (intOf q).toNat)
        case atStart => exact ⟨0, Nat.zero_le _, rfl, by rw [visTo_zero]; rfl, by rw [visTo_zero, HPN.out]; rfl, by rw [atTo_zero]; exact OwnI.nil _ _ _, by rw [placeTo_zero]; exact OwnI.nil _ _ _, fun b h => by simp [Value.ownBlock] at h, Gr.refl _⟩
        case round =>
          rename_i wr
          obtain ⟨k, hk, rfl, rfl, rfl, hav, hpv, hap, hgr⟩ := hrel
          have hvk := visTo_le N.trans k
          by_cases hlt : k < N.trans.length
          · obtain ⟨tb, to, vp, vq, rfl, c0', c1', c2', hlI, hpp, hqq⟩ := (hT.gr (GW.trans hgr)).at_ hlt
            obtain ⟨pa, pc, rfl, _, _⟩ := hpp.len
            obtain ⟨qa, qc, rfl, _, _⟩ := hqq.len
            have GT : Gr wr (wr.alloc (.cells #[.int .i64 (N.tr k).label, .slice pa (N.tr k).pre.length pc, .slice qa (N.tr k).post.length qc] 34)) := (Gr.refl _).alloc _
            have T0 : (wr.alloc (.cells #[.int .i64 (N.tr k).label, .slice pa (N.tr k).pre.length pc, .slice qa (N.tr k).post.length qc] 34)).cell? ⟨wr.heap.size, 0, none⟩ = some (.int .i64 (N.tr k).label) := box_cell (Gr.refl _) (i := 0) rfl
            have G2 : Gr wr ((wr.alloc (.cells #[.int .i64 (N.tr k).label, .slice pa (N.tr k).pre.length pc, .slice qa (N.tr k).post.length qc] 34)).alloc (.cells #[.int .i64 ((k + visTo N.trans k : Nat) : Int)] 3)) := GT.alloc _
            have T1 := cell_gr T0 ((Gr.refl _).alloc (.cells #[.int .i64 ((k + visTo N.trans k : Nat) : Int)] 3))
            have hI1 : I64 ((k + visTo N.trans k : Nat) : Int) := by unfold I64; omega
            have hI2 : I64 ((n0 + visTo N.trans k : Nat) : Int) := by unfold I64; omega
            have hla := atTo_len N k
            have hlp := placeTo_len N k
            have bt2 : Blk ((wr.alloc (.cells #[.int .i64 (N.tr k).label, .slice pa (N.tr k).pre.length pc, .slice qa (N.tr k).post.length qc] 34)).alloc (.cells #[.int .i64 ((k + visTo N.trans k : Nat) : Int)] 3)) wr.heap.size 34 #[.int .i64 (N.tr k).label, .slice pa (N.tr k).pre.length pc, .slice qa (N.tr k).post.length qc] := (Blk.new rfl).gr ((Gr.refl _).alloc _)
            have hnt : ∀ e : some wr.heap.size = u12.ownBlock, False := fun e => by have := (hav.lt e.symm).2; omega
            have hnp : ∀ e : some wr.heap.size = u13.ownBlock, False := fun e => by have := (hpv.lt e.symm).2; omega
            have hla' : (atTo N k).length + 1 ≤ 17592186044416 := by omega
            have hlp' : (placeTo N k).length + 1 ≤ 17592186044416 := by omega
            clear hla hlp
            by_cases hv : 0 < (N.tr k).label
            · have HV := Lib.hid (visTo_yes hlt hv)
              go_wp2_with (first | (at_builtin; refine app_int T _ _ w6.heap.size _ (atTo N k) ⟨wr.heap.size + 1, 0, none⟩ ((k + visTo N.trans k : Nat) : Int) (by rfl) (by rfl) (by rfl) (by rfl) (hav.gr G2) (lit_cell (by simp)) hI1 hla' (Nat.le_trans hgr.le G2.le) ?_; intro va wa hoa hga hgba hata; have bta := bt2.grown hgba hnt; have hpa := (hpv.gr G2).grown hgba hap.or; have hap2 := hap.app (hpv.gr G2) hata; have GA := hga w6 (Nat.le_refl _) (hgr.trans G2)) | (at_builtin; refine app_int T _ _ w6.heap.size _ (placeTo N k) ⟨wa.heap.size, 0, none⟩ ((n0 + visTo N.trans k : Nat) : Int) (by rfl) (by rfl) (by rfl) (by rfl) (hpa.alloc _) (lit_cell rfl) hI2 hlp' (Gr.le (GA.alloc _)) ?_; intro vp wp hop hgp hgbp hatp; have btp := (bta.gr ((Gr.refl _).alloc _)).grown hgbp hnp; have hoa2 := (hoa.alloc _).grown hgbp hap2.symm.or; have hap3 := (hap2.symm.app (hoa.alloc _) hatp).symm; have TP := btp.cell (i := 0) rfl; have GP := hgp w6 (Nat.le_refl _) (GA.alloc _)))
              go_roundw
              case rel => exact ⟨k + 1, by omega, by go_num, by rw [HV.out]; congr 1; push_cast; omega, by rw [HV.out]; congr 1, by rw [atTo_succ]; exact hoa2, by rw [placeTo_succ, ← HN0.out]; exact hop, hap3, GP⟩
              case measure => simp [intOf]; omega
            · have HV := Lib.hid (visTo_no hlt hv)
              go_wp2_with (first | (at_builtin; refine app_int T _ _ w6.heap.size _ (atTo N k) ⟨wr.heap.size + 1, 0, none⟩ ((k + visTo N.trans k : Nat) : Int) (by rfl) (by rfl) (by rfl) (by rfl) (hav.gr G2) (lit_cell (by simp)) hI1 hla' (Nat.le_trans hgr.le G2.le) ?_; intro va wa hoa hga hgba hata; have bta := bt2.grown hgba hnt; have hpa := (hpv.gr G2).grown hgba hap.or; have hap2 := hap.app (hpv.gr G2) hata; have GA := hga w6 (Nat.le_refl _) (hgr.trans G2)) | (at_builtin; refine app_int T _ _ w6.heap.size _ (placeTo N k) ⟨wa.heap.size, 0, none⟩ ((n0 + visTo N.trans k : Nat) : Int) (by rfl) (by rfl) (by rfl) (by rfl) (hpa.alloc _) (lit_cell rfl) hI2 hlp' (Gr.le (GA.alloc _)) ?_; intro vp wp hop hgp hgbp hatp; have btp := (bta.gr ((Gr.refl _).alloc _)).grown hgbp hnp; have hoa2 := (hoa.alloc _).grown hgbp hap2.symm.or; have hap3 := (hap2.symm.app (hoa.alloc _) hatp).symm; have TP := btp.cell (i := 0) rfl; have GP := hgp w6 (Nat.le_refl _) (GA.alloc _)))
              go_roundw
              case rel => exact ⟨k + 1, by omega, by go_num, by rw [HV.out]; congr 1; push_cast; omega, by rw [HV.out]; congr 1, by rw [atTo_succ]; exact hoa2, by rw [placeTo_succ, ← HN0.out]; exact hop, hap3, GP⟩
              case measure => simp [intOf]; omega
          · obtain rfl : k = N.trans.length := by omega
            generalize ((N.trans.length + visTo N.trans N.trans.length : Nat) : Int) = z14
            generalize ((n0 + visTo N.trans N.trans.length : Nat) : Int) = z15
            have IA := hav.ints
            have IP := hpv.ints
            obtain ⟨aa, ac, haa, _, hac⟩ := IA.len
            obtain ⟨pa, pc, hpa, _, hpc⟩ := IP.len
            rw [atTo_len] at haa
            rw [placeTo_len] at hpa
            subst haa
            subst hpa
            replace B0 := cell_gr B0 hgr
            replace B1 := cell_gr B1 hgr
            replace M0 := cell_gr M0 hgr
            replace M1 := cell_gr M1 hgr
            replace C0 := cell_gr C0 hgr
            replace C1 := cell_gr C1 hgr
            replace GW := GW.trans hgr
            replace n2 := n2.gr hgr
            replace iM := iM.gr hgr
            replace iB := iB.gr hgr
            replace j3 := j3.gr hgr
            clear hav hpv hap hgr hvk
            go_wp2_with fail
            rename World => w7
            go_loopw [18, 95] (fun sv q wr => ∃ k : Nat, k ≤ ops.length ∧ q = .int .i64 k ∧ OwnI 3 w7.heap.size wr sv (seqTo N c0 ops k) ∧ Gr w7 wr) (fun _ q _ => ops.length - (intOf q).toNat)
            case atStart => exact ⟨0, Nat.zero_le _, rfl, by rw [seqTo_zero]; exact OwnI.nil _ _ _, Gr.refl _⟩
            case round =>
              obtain ⟨k, hk, rfl, hsv, hgz⟩ := hrel
              have hls0 := seqTo_len N c0 ops k
              have hls : (seqTo N c0 ops k).length + 1 ≤ 17592186044416 := by omega
              clear hls0
              by_cases hlt : k < ops.length
              · obtain ⟨ub, uo, rfl, u0, u1, hI⟩ := (hu.gr (GW.trans hgz)).cop hlt
                have hkl : k < l.length := by rw [HLL.out]; exact hlt
                have hkl2 : (k : Int) < (l.length : Int) := by omega
                obtain ⟨eb, eo, rfl, ecell⟩ := (j3.gr hgz).cell hkl
                by_cases hz0 : nth l k = 0
                · have hz := HERR.out k hlt
                  rw [hz0] at hz
                  replace hz := hz.symm
                  rw [hz0] at ecell
                  obtain ⟨_, h14, jt, hjt, hjl, _, _⟩ := doF_zero hz
                  have h4 := HU4.out k hlt
                  have hkc : (ix ops k).kind = 1 ∨ (ix ops k).kind = 2 ∨ (ix ops k).kind = 3 := by omega
                  rw [hjt] at u1
                  have hjv := visTo_le N.trans jt
                  have hjl2 : (jt : Int) < (N.trans.length : Int) := by omega
                  obtain ⟨ab, ao, rfl, acell⟩ := (IA.gr hgz).cell (i := jt) (by rw [atTo_len]; exact hjl)
                  rw [atTo_nth hjl] at acell
                  clear hz0 h14 h4 hI
                  rcases hkc with hk1 | hk2 | hk3
                  · rw [hk1] at u0
                    have O0 : (wr.alloc (.cells #[.int .i64 1, .int .i64 (jt : Int)] 82)).cell? ⟨wr.heap.size, 0, none⟩ = some (.int .i64 1) := box_cell (Gr.refl _) (i := 0) rfl
                    have O1 : (wr.alloc (.cells #[.int .i64 1, .int .i64 (jt : Int)] 82)).cell? ⟨wr.heap.size, 1, none⟩ = some (.int .i64 (jt : Int)) := box_cell (Gr.refl _) (i := 1) rfl
                    have GO : Gr wr (wr.alloc (.cells #[.int .i64 1, .int .i64 (jt : Int)] 82)) := (Gr.refl _).alloc _
                    have AC := cell_gr acell GO
                    have E1 := cell_gr ecell GO
                    have hIv : I64 ((jt + visTo N.trans jt : Nat) : Int) := by unfold I64; omega
                    have HSQ := Lib.hid (seqTo_yes hz hjt (by rw [hk1]; decide))
                    clear hz hjt hk1
                    go_wp2_with (at_builtin; refine app_int T _ _ w7.heap.size _ (seqTo N c0 ops k) ⟨wr.heap.size + 1, 0, none⟩ ((jt + visTo N.trans jt : Nat) : Int) (by rfl) (by rfl) (by rfl) (by rfl) ((hsv.gr GO).alloc _) (lit_cell (by simp)) hIv hls (Nat.le_trans hgz.le (Gr.le (GO.alloc _))) ?_; intro vs ws hos hgs hgbs hats)
                    go_roundw
                    case rel => exact ⟨k + 1, by omega, by go_num, by rw [HSQ.out]; exact hos, hgs w7 (Nat.le_refl _) ((hgz.trans GO).alloc _)⟩
                    case measure => simp [intOf]; omega
                  · rw [hk2] at u0
                    have O0 : (wr.alloc (.cells #[.int .i64 2, .int .i64 (jt : Int)] 82)).cell? ⟨wr.heap.size, 0, none⟩ = some (.int .i64 2) := box_cell (Gr.refl _) (i := 0) rfl
                    have O1 : (wr.alloc (.cells #[.int .i64 2, .int .i64 (jt : Int)] 82)).cell? ⟨wr.heap.size, 1, none⟩ = some (.int .i64 (jt : Int)) := box_cell (Gr.refl _) (i := 1) rfl
                    have GO : Gr wr (wr.alloc (.cells #[.int .i64 2, .int .i64 (jt : Int)] 82)) := (Gr.refl _).alloc _
                    have AC := cell_gr acell GO
                    have E1 := cell_gr ecell GO
                    have hIv : I64 ((jt + visTo N.trans jt : Nat) : Int) := by unfold I64; omega
                    have HSQ := Lib.hid (seqTo_yes hz hjt (by rw [hk2]; decide))
                    clear hz hjt hk2
                    go_wp2_with (at_builtin; refine app_int T _ _ w7.heap.size _ (seqTo N c0 ops k) ⟨wr.heap.size + 1, 0, none⟩ ((jt + visTo N.trans jt : Nat) : Int) (by rfl) (by rfl) (by rfl) (by rfl) ((hsv.gr GO).alloc _) (lit_cell (by simp)) hIv hls (Nat.le_trans hgz.le (Gr.le (GO.alloc _))) ?_; intro vs ws hos hgs hgbs hats)
                    go_roundw
                    case rel => exact ⟨k + 1, by omega, by go_num, by rw [HSQ.out]; exact hos, hgs w7 (Nat.le_refl _) ((hgz.trans GO).alloc _)⟩
                    case measure => simp [intOf]; omega
                  · rw [hk3] at u0
                    have O0 : (wr.alloc (.cells #[.int .i64 3, .int .i64 (jt : Int)] 82)).cell? ⟨wr.heap.size, 0, none⟩ = some (.int .i64 3) := box_cell (Gr.refl _) (i := 0) rfl
                    have O1 : (wr.alloc (.cells #[.int .i64 3, .int .i64 (jt : Int)] 82)).cell? ⟨wr.heap.size, 1, none⟩ = some (.int .i64 (jt : Int)) := box_cell (Gr.refl _) (i := 1) rfl
                    have GO : Gr wr (wr.alloc (.cells #[.int .i64 3, .int .i64 (jt : Int)] 82)) := (Gr.refl _).alloc _
                    have AC := cell_gr acell GO
                    have E1 := cell_gr ecell GO
                    have hIv : I64 ((jt + visTo N.trans jt + 1 : Nat) : Int) := by unfold I64; omega
                    have HSQ := Lib.hid (seqTo_end hz hjt hk3)
                    clear hz hjt hk3
                    go_wp2_with (at_builtin; refine app_int T _ _ w7.heap.size _ (seqTo N c0 ops k) ⟨wr.heap.size + 1, 0, none⟩ ((jt + visTo N.trans jt + 1 : Nat) : Int) (by rfl) (by rfl) (by rfl) (by rfl) ((hsv.gr GO).alloc _) (lit_cell (by simp)) hIv hls (Nat.le_trans hgz.le (Gr.le (GO.alloc _))) ?_; intro vs ws hos hgs hgbs hats)
                    go_roundw
                    case rel => exact ⟨k + 1, by omega, by go_num, by rw [HSQ.out]; exact hos, hgs w7 (Nat.le_refl _) ((hgz.trans GO).alloc _)⟩
                    case measure => simp [intOf]; omega
                · have q1 : (nth l k != 0) = true := by simpa using hz0
                  have HSQ := Lib.hid (seqTo_no (N := N) (c := c0) (ops := ops) (k := k) (by rw [← HERR.out k hlt]; exact hz0))
                  have GO : Gr wr (wr.alloc (.cells #[.int .i64 (ix ops k).kind, .int .i64 (ix ops k).tran] 82)) := (Gr.refl _).alloc _
                  have E1 := cell_gr ecell GO
                  clear hz0
                  go_wp2_with fail
                  go_roundw
                  case rel => exact ⟨k + 1, by omega, by go_num, by rw [HSQ.out]; exact hsv.gr GO, hgz.trans GO⟩
                  case measure => simp [intOf]; omega
              · obtain rfl : k = ops.length := by omega
                have IS := hsv.ints
                obtain ⟨sa, sc, rfl, _, _⟩ := IS.len
                replace B0 := cell_gr B0 hgz
                replace B1 := cell_gr B1 hgz
                replace M0 := cell_gr M0 hgz
                replace M1 := cell_gr M1 hgz
                replace C0 := cell_gr C0 hgz
                replace C1 := cell_gr C1 hgz
                replace GW := GW.trans hgz
                replace n2 := n2.gr hgz
                replace iM := iM.gr hgz
                replace iB := iB.gr hgz
                replace IP := IP.gr hgz
                clear hsv hgz hls IA
                rename World => w8
                go_wp2_with fail
                go_region_held3 (fun w' => w'.cell? ⟨w2.heap.size, 0, none⟩ = some (.int .i64 M.places) ∧ w'.cell? ⟨w2.heap.size, 1, none⟩ = some (.slice na M.trans.length nc)) (first | go_keep | ((refine ⟨cell_gr M0 ?_, cell_gr M1 ?_⟩); ((focus ((repeat (first | exact Gr.refl _ | assumption | apply Gr.alloc | apply Gr.drew | apply Gr.drewN | refine Gr.trans ?_ (by assumption))); done))); ((focus ((repeat (first | exact Gr.refl _ | assumption | apply Gr.alloc | apply Gr.drew | apply Gr.drewN | refine Gr.trans ?_ (by assumption))); done))))) (first | (go_at_call 34; (with_reducible refine (Start_calls _ M _ _ (n2.gr ?_) hi).mono ?_); ((focus ((repeat (first | exact Gr.refl _ | assumption | apply Gr.alloc | apply Gr.drew | apply Gr.drewN | refine Gr.trans ?_ (by assumption))); done))); rintro _ w9 ⟨v9, rfl, o9, g9⟩) | (go_at_call 29; (with_reducible refine (Run_calls _ _ _ M _ (seqTo N c0 ops ops.length) _ (n2.gr ?_) (o9.ints.gr ?_) (IS.gr ?_)).mono ?_); ((focus ((repeat (first | exact Gr.refl _ | assumption | apply Gr.alloc | apply Gr.drew | apply Gr.drewN | refine Gr.trans ?_ (by assumption))); done))); ((focus ((repeat (first | exact Gr.refl _ | assumption | apply Gr.alloc | apply Gr.drew | apply Gr.drewN | refine Gr.trans ?_ (by assumption))); done))); ((focus ((repeat (first | exact Gr.refl _ | assumption | apply Gr.alloc | apply Gr.drew | apply Gr.drewN | refine Gr.trans ?_ (by assumption))); done))); rw [HRUN.out]; rintro _ w10 ⟨v10, rfl, i10, g10⟩))
                have G10 : Gr w8 w10 := by (repeat (first | exact Gr.refl _ | assumption | apply Gr.alloc | apply Gr.drew | apply Gr.drewN | refine Gr.trans ?_ (by assumption)))
                obtain ⟨xa, xc, rfl, _, hxc⟩ := i10.len
                replace B0 := cell_gr B0 G10
                replace B1 := cell_gr B1 G10
                replace C0 := cell_gr C0 G10
                replace C1 := cell_gr C1 G10
                replace GW := GW.trans G10
                replace iM := iM.gr G10
                replace iB := iB.gr G10
                replace IP := IP.gr G10
                clear g9 g10 G10 IS n2 M0 M1 o9
                have hml2 := HML.out
                have hm16 := HM16.out
                obtain ⟨xb, xo, rfl, _⟩ := i10.cell (i := 0) (by have := HJ0.out; omega)
                have IT := i10.front (k := n0) hml2
                rw [HTK.out] at IT
                rw [HPN.out] at B0
                have r1 : ((c.mark.length : Int) != (n0 : Int)) = false := by have h1 := HCM.out; have h2 := HPN.out; simp; omega
                have r2 : ((c.busy.length : Int) != (N.trans.length : Int)) = false := by have h1 := HCB.out; simp; omega
                have r3 : (0 : Int) ≤ (n0 : Int) := by omega
                have r4 : (n0 : Int) ≤ (xc : Int) := by omega
                have e5 := eqB_yes (rfl : c.mark = c.mark)
                go_wp2_with fail
                go_region_held3 (fun w' => w'.cell? ⟨w.heap.size, 0, none⟩ = some (.int .i64 (n0 : Int)) ∧ w'.cell? ⟨w.heap.size, 1, none⟩ = some (.slice a N.trans.length cap) ∧ w'.cell? ⟨w3.heap.size, 0, none⟩ = some (.slice ma c.mark.length mc) ∧ w'.cell? ⟨w3.heap.size, 1, none⟩ = some (.slice ba c.busy.length bc)) (first | go_keep | ((refine ⟨cell_gr B0 ?_, cell_gr B1 ?_, cell_gr C0 ?_, cell_gr C1 ?_⟩); ((focus ((repeat (first | exact Gr.refl _ | assumption | apply Gr.alloc | apply Gr.drew | apply Gr.drewN | refine Gr.trans ?_ (by assumption))); done))); ((focus ((repeat (first | exact Gr.refl _ | assumption | apply Gr.alloc | apply Gr.drew | apply Gr.drewN | refine Gr.trans ?_ (by assumption))); done))); ((focus ((repeat (first | exact Gr.refl _ | assumption | apply Gr.alloc | apply Gr.drew | apply Gr.drewN | refine Gr.trans ?_ (by assumption))); done))); ((focus ((repeat (first | exact Gr.refl _ | assumption | apply Gr.alloc | apply Gr.drew | apply Gr.drewN | refine Gr.trans ?_ (by assumption))); done))))) (first | (go_at_call 19; (with_reducible refine (Equal_calls _ _ c.mark c.mark _ (IT.gr ?_) (iM.gr ?_)).mono ?_); ((focus ((repeat (first | exact Gr.refl _ | assumption | apply Gr.alloc | apply Gr.drew | apply Gr.drewN | refine Gr.trans ?_ (by assumption))); done))); ((focus ((repeat (first | exact Gr.refl _ | assumption | apply Gr.alloc | apply Gr.drew | apply Gr.drewN | refine Gr.trans ?_ (by assumption))); done))); rw [e5]; rintro _ w11 ⟨rfl, g11⟩))
                have G11 : Gr w10 w11 := by (repeat (first | exact Gr.refl _ | assumption | apply Gr.alloc | apply Gr.drew | apply Gr.drewN | refine Gr.trans ?_ (by assumption)))
                replace B1 := cell_gr B1 G11
                replace C1 := cell_gr C1 G11
                replace GW := GW.trans G11
                replace iB := iB.gr G11
                replace IP := IP.gr G11
                replace i10 := i10.gr G11
                clear g11 G11 IT B0 C0 iM e5 r1 r2
                go_wp2_with fail
                go_loopw [181] (fun q wr => ∃ k : Nat, k ≤ N.trans.length ∧ q = .int .i64 k ∧ Gr w11 wr) (fun q _ => N.trans.length - (intOf q).toNat)
                case atStart => exact ⟨0, Nat.zero_le _, rfl, Gr.refl _⟩
                case round =>
                  obtain ⟨k, hk, rfl, hgr⟩ := hrel
                  try clear hu
                  try clear j3
                  try clear hi
                  try clear HRUN
                  try clear HERR
                  try clear HU4
                  try clear HTK
                  try clear HML
                  try clear HM16
                  try clear HB
                  try clear HP
                  try clear eg
                  try clear i3
                  try clear hany
                  try clear q2
                  try clear q3
                  try clear HLL
                  try clear HPN
                  try clear HJ0
                  try clear hN
                  try clear hN'
                  try clear hl
                  try clear r3
                  try clear r4
                  try clear hxc
                  try clear hac
                  try clear hpc
                  try clear ul
                  try clear ul'
                  try clear nl
                  try clear nl'
                  try clear hn16
                  try clear hm16
                  try clear hml2
                  by_cases hlt : k < N.trans.length
                  · obtain ⟨tb, to, vp, vq, rfl, c0', c1', c2', hlI, hpp, hqq⟩ := (hT.gr (GW.trans hgr)).at_ hlt
                    obtain ⟨pa', pc', rfl, _, _⟩ := hpp.len
                    obtain ⟨qa', qc', rfl, _, _⟩ := hqq.len
                    have hbk : k < c.busy.length := by rw [HCB.out]; exact hlt
                    have hbk2 : (k : Int) < (c.busy.length : Int) := by omega
                    have hlab := (tr_facts HOKN.out hlt).2.2.2.2.1
                    by_cases hl0 : (N.tr k).label = 0
                    · rw [hl0] at c0'
                      have GT : Gr wr (wr.alloc (.cells #[.int .i64 0, .slice pa' (N.tr k).pre.length pc', .slice qa' (N.tr k).post.length qc'] 34)) := (Gr.refl _).alloc _
                      have T0 : (wr.alloc (.cells #[.int .i64 0, .slice pa' (N.tr k).pre.length pc', .slice qa' (N.tr k).post.length qc'] 34)).cell? ⟨wr.heap.size, 0, none⟩ = some (.int .i64 0) := box_cell (Gr.refl _) (i := 0) rfl
                      have C2 := cell_gr (cell_gr C1 hgr) GT
                      obtain ⟨bb, bo, rfl, bcell⟩ := (iB.gr (hgr.trans GT)).cell hbk
                      have hq := HE.out.quiet k hlt hl0
                      rw [hq] at bcell
                      clear hq hlab hl0 hlI
                      go_wp2_with fail
                      go_quiet (fail)
                      go_wp2_with fail
                      go_roundw
                      case rel => exact ⟨k + 1, by omega, by go_num, hgr.trans (by (repeat (first | exact Gr.refl _ | assumption | apply Gr.alloc | apply Gr.drew | apply Gr.drewN | refine Gr.trans ?_ (by assumption))))⟩
                      case measure => simp [intOf]; omega
                    · obtain ⟨lb, hlb⟩ : ∃ lb, lb = (N.tr k).label := ⟨_, rfl⟩
                      rw [← hlb] at c0' hlI
                      have GT : Gr wr (wr.alloc (.cells #[.int .i64 lb, .slice pa' (N.tr k).pre.length pc', .slice qa' (N.tr k).post.length qc'] 34)) := (Gr.refl _).alloc _
                      have T0 : (wr.alloc (.cells #[.int .i64 lb, .slice pa' (N.tr k).pre.length pc', .slice qa' (N.tr k).post.length qc'] 34)).cell? ⟨wr.heap.size, 0, none⟩ = some (.int .i64 lb) := box_cell (Gr.refl _) (i := 0) rfl
                      have C2 := cell_gr (cell_gr C1 hgr) GT
                      obtain ⟨bb, bo, rfl, bcell⟩ := (iB.gr (hgr.trans GT)).cell hbk
                      have hlp : 0 < lb := by omega
                      have hlz : (lb == 0) = false := by simp; omega
                      have hlq : decide (0 < lb) = true := by simpa using hlp
                      have hbz := HE.out.busy k hlt hl0
                      rw [← HN0.out] at hbz
                      obtain ⟨pb, po, rfl, pcell⟩ := (IP.gr (hgr.trans GT)).cell (i := k) (by rw [placeTo_len]; exact hlt)
                      rw [placeTo_nth hlt, ← HN0.out] at pcell
                      have hpm : n0 + visTo N.trans k < m.length := by have h1 := place_lt HOKN.out hlt hl0; have h2 := (emb_take HE.out).2.2; have h3 := HN0.out; omega
                      obtain ⟨_, _, hxx, mcell⟩ := (i10.gr (hgr.trans GT)).cell hpm
                      cases hxx
                      rw [hbz] at mcell
                      obtain ⟨pl, hpl⟩ : ∃ pl, pl = n0 + visTo N.trans k := ⟨_, rfl⟩
                      rw [← hpl] at pcell mcell hpm
                      have hpm2 : (pl : Int) < (m.length : Int) := by omega
                      have hpm3 : (0 : Int) ≤ (pl : Int) := by omega
                      have hpk : (k : Int) < ((placeTo N N.trans.length).length : Int) := by rw [placeTo_len]; omega
                      obtain ⟨bz, hbzz⟩ : ∃ bz, bz = nth c.busy k := ⟨_, rfl⟩
                      rw [← hbzz] at bcell mcell
                      have hne : (bz != bz) = false := by simp
                      clear hbz hpl hlab hl0 hlb hbzz hlI
                      go_wp2_with fail
                      go_quiet (fail)
                      go_wp2_with fail
                      go_roundw
                      case rel => exact ⟨k + 1, by omega, by go_num, hgr.trans (by (repeat (first | exact Gr.refl _ | assumption | apply Gr.alloc | apply Gr.drew | apply Gr.drewN | refine Gr.trans ?_ (by assumption))))⟩
                      case measure => simp [intOf]; omega
                  · go_wp2_with fail
                    go_ret
                    exact ⟨rfl, GW.trans hgr⟩
end Go.Proofs.Ytelfbfjegmncaaa
