/- Contracts of shape.one, Start, Wrong$1, Wrong. -/
import Derived.Test.YtmigejcejnofiaaShape3
import Derived.Test.YtmigejcejnofiaaTranFn
import Derived.Test.YtmigejcejnofiaaNet4
import Derived.Test.YtmigejcejnofiaaSkip
import Derived.Test.YtmigejcejnofiaaZip
import Derived.Test.YtmigejcejnofiaaStep
namespace Go.Tok
open Go.RowKit
theorem MSet.len_run {P : Program} {t k e : TypeId} {w : World} {b : Nat} {xs : List Value} (h : MSet P k w b xs) (ht : P.underlying t = some (.map k e)) (ty : TypeId) :
    (Builtin.len_ #[t] ty #[.map (some b)]).run P w = .ok (.int .i64 (xs.length : Int)) w := by
  obtain ⟨es, clock, hb, _, rfl, _⟩ := h
  simp [Builtin.len_, run_underlying ht, MapKept.run_getObj_map hb, goInt, Result.andThen]

/-- one token at a place -/
def oneN (n : Nat) (p : Int) : List Int := if 0 ≤ p ∧ p < n then (List.replicate n 0).set p.toNat 1 else List.replicate n 0
theorem oneN_in {n : Nat} {p : Int} (h : 0 ≤ p) (h' : p < n) : (List.replicate n 0).set p.toNat 1 = oneN n p := by unfold oneN; rw [if_pos ⟨h, h'⟩]
theorem oneN_out {n : Nat} {p : Int} (h : ¬ (0 ≤ p ∧ p < n)) : List.replicate n 0 = oneN n p := by unfold oneN; rw [if_neg h]
theorem oneN_len (n : Nat) (p : Int) : (oneN n p).length = n := by unfold oneN; split <;> simp
/-- a transition at the end of it all, or at the beginning -/
def endB (i o : Nat) (t : TranD) : Bool := decide (0 < nth t.post i) || decide (0 < nth t.pre o)
def shapeC (N : NetD) (i o : Int) : Int :=
  if netOkB N then
    (if i < 0 ∨ o < 0 ∨ N.places ≤ i ∨ N.places ≤ o ∨ i = o then 1
     else if N.trans.any (endB i.toNat o.toNat) then 1
     else if (walkN N i.toNat).length < sizeN N ∨ (walkN (turnN N) o.toNat).length < sizeN N then 1 else 0)
  else 2
theorem shapeC_bad {N : NetD} (h : netOkB N = false) (i o : Int) : shapeC N i o = 2 := by unfold shapeC; rw [h]; rfl
theorem shapeC_range {N : NetD} (h : netOkB N = true) {i o : Int} (hr : i < 0 ∨ o < 0 ∨ N.places ≤ i ∨ N.places ≤ o ∨ i = o) : shapeC N i o = 1 := by unfold shapeC; rw [if_pos h, if_pos hr]
theorem shapeC_end {N : NetD} (h : netOkB N = true) {i o : Nat} (hr : ¬ ((i : Int) < 0 ∨ (o : Int) < 0 ∨ N.places ≤ (i : Int) ∨ N.places ≤ (o : Int) ∨ (i : Int) = o)) (he : N.trans.any (endB i o) = true) : shapeC N i o = 1 := by
  unfold shapeC; rw [if_pos h, if_neg hr, Int.toNat_natCast, Int.toNat_natCast, if_pos he]
theorem shapeC_walk {N : NetD} (h : netOkB N = true) {i o : Nat} (hr : ¬ ((i : Int) < 0 ∨ (o : Int) < 0 ∨ N.places ≤ (i : Int) ∨ N.places ≤ (o : Int) ∨ (i : Int) = o)) (he : N.trans.any (endB i o) = false) :
    shapeC N i o = if (walkN N i).length < sizeN N ∨ (walkN (turnN N) o).length < sizeN N then 1 else 0 := by
  unfold shapeC; rw [if_pos h, if_neg hr, Int.toNat_natCast, Int.toNat_natCast, if_neg (by rw [he]; decide)]
end Go.Tok
namespace Go.Proofs.Ytmigejcejnofiaa
open Go.RowKit Go.Tok
set_option linter.unusedVariables false

set_option maxRecDepth 100000 in
theorem one_calls (n : Nat) (c p : Int) (w : World) (hc : max c 0 = (n : Int)) (hc1 : -9223372036854775808 ≤ c) (hn : n ≤ 16) (hp : I64 p) :
    Calls Try.prog 87 #[.int .i64 c, .int .i64 p] w fun e w' => ∃ v', e = .returned v' ∧ OwnI 3 w.heap.size w' v' (oneN n p) ∧ Gr w w' := by
  have T := intTy
  have p1 := hp.1
  have p2 := hp.2
  by_cases h0 : 0 ≤ p ∧ p < n
  · obtain ⟨h1, h2⟩ := h0
    have HE := Lib.hid (oneN_in h1 h2)
    obtain ⟨k, rfl⟩ := Int.eq_ofNat_of_zero_le h1
    go_enter Try.func87, Try.ntmps87
    go_wp2_with (at_make; refine mk_ints T _ _ w.heap.size n _ _ rfl rfl rfl rfl (by omega) (by omega) (by omega) (Nat.le_refl _) ?_; intro w1 hown hb hlt; have hc' := hown.cell (i := k) (by simp; omega); have hfz := hown.frozen k)
    all_goals go_ret
    all_goals exact ⟨_, rfl, by rw [← HE.out]; exact hown.set k 1 ⟨by omega, by omega⟩, hb.setCell (Nat.le_refl _) _⟩
  · have HE := Lib.hid (oneN_out h0)
    go_enter Try.func87, Try.ntmps87
    go_wp2_with (at_make; refine mk_ints T _ _ w.heap.size n _ _ rfl rfl rfl rfl (by omega) (by omega) (by omega) (Nat.le_refl _) ?_; intro w1 hown hb hlt)
    all_goals go_ret
    all_goals exact ⟨_, rfl, by rw [← HE.out]; exact hown, hb⟩

def startLen (N : NetD) : Nat := (max (min N.places 16) 0).toNat
theorem startLen_le (N : NetD) : startLen N ≤ 16 := by unfold startLen; omega
theorem startLen_ok {N : NetD} (h : netOkB N = true) : startLen N = N.places.toNat := by
  have := netOk_p16 h
  unfold startLen; omega

set_option maxRecDepth 100000 in
theorem Start_calls (v : Value) (N : NetD) (i : Int) (w : World) (hN : NetR w v N) (hi : I64 i) :
    Calls Try.prog 41 #[v, .int .i64 i] w fun e w' => ∃ v', e = .returned v' ∧ OwnI 3 w.heap.size w' v' (oneN (startLen N) i) ∧ Gr w w' := by
  obtain ⟨a, cap, rfl, hnl, hncap, hpl, hT⟩ := hN.open_
  have hpl1 := hpl.1
  have hpl2 := hpl.2
  have hm1 : max (min N.places 16) 0 = (startLen N : Int) := by unfold startLen; omega
  have hm2 := startLen_le N
  rcases (show N.places ≤ 16 ∨ 16 < N.places by omega) with hm3 | hm3
  · have hm4 : min N.places 16 = N.places := by omega
    rw [hm4] at hm1
    have HM := Lib.hid hm1
    clear hm1
    go_enter Try.func41, Try.ntmps41
    go_wp2_with (go_at_call 87; refine (one_calls (startLen N) _ i _ HM.out (by omega) hm2 hi).mono ?_; rintro e w1 ⟨v1, rfl, o1, g1⟩)
    all_goals go_ret
    all_goals exact ⟨_, rfl, o1.low (by rw [World.size_alloc]; omega), by (repeat (first | exact Gr.refl _ | assumption | apply Gr.alloc | apply Gr.drew | apply Gr.drewN | refine Gr.trans ?_ (by assumption)))⟩
  · have hm4 : min N.places 16 = 16 := by omega
    rw [hm4] at hm1
    have HM := Lib.hid hm1
    clear hm1
    go_enter Try.func41, Try.ntmps41
    go_wp2_with (go_at_call 87; refine (one_calls (startLen N) _ i _ HM.out (by omega) hm2 hi).mono ?_; rintro e w1 ⟨v1, rfl, o1, g1⟩)
    all_goals go_ret
    all_goals exact ⟨_, rfl, o1.low (by rw [World.size_alloc]; omega), by (repeat (first | exact Gr.refl _ | assumption | apply Gr.alloc | apply Gr.drew | apply Gr.drewN | refine Gr.trans ?_ (by assumption)))⟩

set_option maxRecDepth 100000 in
theorem ShapeWrong1_answers (w0 : World) (ib ob i o : Nat) (ts : List TranD) (hi : w0.cell? ⟨ib, 0, none⟩ = some (.int .i64 (i : Int))) (ho : w0.cell? ⟨ob, 0, none⟩ = some (.int .i64 (o : Int))) (hl : ∀ t ∈ ts, i < t.post.length ∧ o < t.pre.length ∧ t.pre.length ≤ 16 ∧ t.post.length ≤ 16) :
    AnswersTr Try.prog 57 #[.pointer (some ⟨ib, 0, none⟩), .pointer (some ⟨ob, 0, none⟩)] ts (endB i o) w0 := by
  intro W vp vq t ht g hlab hp hq
  obtain ⟨l1, l2, l3, l4⟩ := hl t ht
  obtain ⟨pa, pc, rfl, _, _⟩ := hp.len
  obtain ⟨qa, qc, rfl, _, _⟩ := hq.len
  have G1 : Gr W (W.alloc (.cells #[.int .i64 t.label, .slice pa t.pre.length pc, .slice qa t.post.length qc] 74)) := (Gr.refl _).alloc _
  have hi' := cell_gr (cell_gr hi g) G1
  have ho' := cell_gr (cell_gr ho g) G1
  obtain ⟨pb, po, rfl, hpc⟩ := (hp.gr G1).cell l2
  obtain ⟨qb, qo, rfl, hqc⟩ := (hq.gr G1).cell l1
  have i0 : (i : Int) < (t.post.length : Int) := by omega
  have i1 : (o : Int) < (t.pre.length : Int) := by omega
  have hb : endB i o t = (decide (0 < nth t.post i) || decide (0 < nth t.pre o)) := rfl
  by_cases h1 : 0 < nth t.post i
  · have HB := Lib.hid (show endB i o t = true by rw [hb]; simp [h1])
    clear hb
    go_enter Try.func57, Try.ntmps57
    go_wp2_with fail
    all_goals go_ret
    all_goals exact ⟨ret_bool (by first | exact HB.out.symm | rfl), by (repeat (first | exact Gr.refl _ | assumption | apply Gr.alloc | apply Gr.drew | apply Gr.drewN | refine Gr.trans ?_ (by assumption)))⟩
  · have h1' : nth t.post i ≤ 0 := by omega
    by_cases h2 : 0 < nth t.pre o
    · have HB := Lib.hid (show endB i o t = true by rw [hb]; simp [h2])
      clear hb h1
      go_enter Try.func57, Try.ntmps57
      go_wp2_with fail
      all_goals go_ret
      all_goals exact ⟨ret_bool (by first | exact HB.out.symm | rfl), by (repeat (first | exact Gr.refl _ | assumption | apply Gr.alloc | apply Gr.drew | apply Gr.drewN | refine Gr.trans ?_ (by assumption)))⟩
    · have h2' : nth t.pre o ≤ 0 := by omega
      have HB := Lib.hid (show endB i o t = false by rw [hb]; simp [h1', h2'])
      clear hb h1 h2
      go_enter Try.func57, Try.ntmps57
      go_wp2_with fail
      all_goals go_ret
      all_goals exact ⟨ret_bool (by first | exact HB.out.symm | rfl), by (repeat (first | exact Gr.refl _ | assumption | apply Gr.alloc | apply Gr.drew | apply Gr.drewN | refine Gr.trans ?_ (by assumption)))⟩

theorem walk_le {N : NetD} (h : netOkB N = true) {i : Nat} (hi : i < N.places.toNat) : (walkN N i).length ≤ sizeN N := by
  have g := walk_grown h hi
  exact nodes_le (g.nodup List.nodup_nil) (g.nodes (by simp))

theorem boxes3 (w : World) (cs : Array Value) (u v : Value) (t0 t1 t2 : TypeId) (u0 u1 : Value) (h0 : cs[0]? = some u0) (h1 : cs[1]? = some u1) :
    ∀ W, W = ((w.alloc (.cells cs t0)).alloc (.cells #[u] t1)).alloc (.cells #[v] t2) →
      W.cell? ⟨w.heap.size, 0, none⟩ = some u0 ∧ W.cell? ⟨w.heap.size, 1, none⟩ = some u1 ∧ W.cell? ⟨w.heap.size + 1, 0, none⟩ = some u ∧ W.cell? ⟨w.heap.size + 1 + 1, 0, none⟩ = some v ∧ Gr w W := by
  rintro W rfl
  have G2 : Gr (w.alloc (.cells cs t0)) (((w.alloc (.cells cs t0)).alloc (.cells #[u] t1)).alloc (.cells #[v] t2)) := ((Gr.refl _).alloc _).alloc _
  refine ⟨cell_gr (box_cell (Gr.refl _) (i := 0) h0) G2, cell_gr (box_cell (Gr.refl _) (i := 1) h1) G2, ?_, ?_, ((Gr.refl w).alloc _).trans G2⟩
  · have := box_cell (w := w.alloc (.cells cs t0)) (cs := #[u]) (t := t1) (Gr.refl _) (i := 0) rfl
    rw [World.size_alloc] at this
    exact cell_gr this ((Gr.refl _).alloc _)
  · have := box_cell (w := (w.alloc (.cells cs t0)).alloc (.cells #[u] t1)) (cs := #[v]) (t := t2) (Gr.refl _) (i := 0) rfl
    rw [World.size_alloc, World.size_alloc] at this
    exact this

theorem netOk_n24 {N : NetD} (h : netOkB N = true) : N.trans.length ≤ 24 := by
  unfold netOkB at h
  simp only [Bool.and_eq_true, decide_eq_true_eq] at h
  exact h.1.2
set_option maxHeartbeats 4000000 in
set_option maxRecDepth 100000 in
theorem ShapeWrong_calls (v : Value) (N : NetD) (i o : Int) (w : World) (hN : NetR w v N) (hi : I64 i) (ho : I64 o) :
    Calls Try.prog 18 #[v, .int .i64 i, .int .i64 o] w fun e w' => e = .returned (.int .i64 (shapeC N i o)) ∧ Gr w w' := by
  obtain ⟨a, cap, rfl, hnl, hncap, hpl, hT⟩ := hN.open_
  have hpl1 := hpl.1
  have hpl2 := hpl.2
  have i1 := hi.1
  have i2 := hi.2
  have o1 := ho.1
  have o2 := ho.2
  cases hok : netOkB N
  case false =>
    have HC := Lib.hid (shapeC_bad hok i o)
    have e1 := wrongC_no hok
    obtain ⟨B0, B1, B2, B3, G0⟩ := boxes3 w #[.int .i64 N.places, .slice a N.trans.length cap] (.int .i64 i) (.int .i64 o) 24 3 3 _ _ rfl rfl _ rfl
    go_enter Try.func18, Try.ntmps18
    go_wp2_with fail
    refine (Wrong_calls _ N _ (hN.gr (by (repeat (first | exact Gr.refl _ | assumption | apply Gr.alloc | apply Gr.drew | apply Gr.drewN | refine Gr.trans ?_ (by assumption)))))).mono ?_
    rw [e1]; rintro _ w1 ⟨rfl, g1⟩
    go_wp2_with fail
    go_ret
    exact ⟨ret_i64 HC.out.symm, by (repeat (first | exact Gr.refl _ | assumption | apply Gr.alloc | apply Gr.drew | apply Gr.drewN | refine Gr.trans ?_ (by assumption)))⟩
  case true =>
    have e1 := wrongC_yes hok
    by_cases hr : i < 0 ∨ o < 0 ∨ N.places ≤ i ∨ N.places ≤ o ∨ i = o
    · have HC := Lib.hid (shapeC_range hok hr)
      rcases (show i < 0 ∨ (0 ≤ i ∧ o < 0) ∨ (0 ≤ i ∧ 0 ≤ o ∧ N.places ≤ i) ∨ (0 ≤ i ∧ 0 ≤ o ∧ i < N.places ∧ N.places ≤ o) ∨ (0 ≤ i ∧ 0 ≤ o ∧ i < N.places ∧ o < N.places ∧ o = i) by omega) with h | ⟨h, h1⟩ | ⟨h, h1, h2⟩ | ⟨h, h1, h2, h3⟩ | ⟨h, h1, h2, h3, h4⟩
      all_goals clear hr
      iterate 4
        focus
          obtain ⟨B0, B1, B2, B3, G0⟩ := boxes3 w #[.int .i64 N.places, .slice a N.trans.length cap] (.int .i64 i) (.int .i64 o) 24 3 3 _ _ rfl rfl _ rfl
          go_enter Try.func18, Try.ntmps18
          go_wp2_with fail
          refine (Wrong_calls _ N _ (hN.gr (by (repeat (first | exact Gr.refl _ | assumption | apply Gr.alloc | apply Gr.drew | apply Gr.drewN | refine Gr.trans ?_ (by assumption)))))).mono ?_
          rw [e1]; rintro _ w1 ⟨rfl, g1⟩
          replace B0 := cell_gr B0 g1
          replace B2 := cell_gr B2 g1
          replace B3 := cell_gr B3 g1
          go_wp2_with fail
          go_ret
          exact ⟨ret_i64 HC.out.symm, by (repeat (first | exact Gr.refl _ | assumption | apply Gr.alloc | apply Gr.drew | apply Gr.drewN | refine Gr.trans ?_ (by assumption)))⟩
      subst h4
      obtain ⟨B0, B1, B2, B3, G0⟩ := boxes3 w #[.int .i64 N.places, .slice a N.trans.length cap] (.int .i64 o) (.int .i64 o) 24 3 3 _ _ rfl rfl _ rfl
      go_enter Try.func18, Try.ntmps18
      go_wp2_with fail
      refine (Wrong_calls _ N _ (hN.gr (by (repeat (first | exact Gr.refl _ | assumption | apply Gr.alloc | apply Gr.drew | apply Gr.drewN | refine Gr.trans ?_ (by assumption)))))).mono ?_
      rw [e1]; rintro _ w1 ⟨rfl, g1⟩
      replace B0 := cell_gr B0 g1
      replace B2 := cell_gr B2 g1
      replace B3 := cell_gr B3 g1
      go_wp2_with fail
      go_ret
      exact ⟨ret_i64 HC.out.symm, by (repeat (first | exact Gr.refl _ | assumption | apply Gr.alloc | apply Gr.drew | apply Gr.drewN | refine Gr.trans ?_ (by assumption)))⟩
    · obtain ⟨i, rfl⟩ := Int.eq_ofNat_of_zero_le (show 0 ≤ i by omega)
      obtain ⟨o, rfl⟩ := Int.eq_ofNat_of_zero_le (show 0 ≤ o by omega)
      have hio : ((i : Int) == (o : Int)) = false := by simp; omega
      have hi' : i < N.places.toNat := by omega
      have ho' : o < N.places.toNat := by omega
      have hip : (i : Int) < N.places := by omega
      have hop : (o : Int) < N.places := by omega
      have h16 := netOk_p16 hok
      have hi0 : (0 : Int) ≤ (i : Int) := by omega
      have ho0 : (0 : Int) ≤ (o : Int) := by omega
      have eg : ∀ args w, (callFunc 57 args).run Try.prog w = .ok (.enter 57 args) w := (Go.Proofs.enters_of Try.func57 (by kernel_rfl) rfl)
      have hl : ∀ t ∈ N.trans, i < t.post.length ∧ o < t.pre.length ∧ t.pre.length ≤ 16 ∧ t.post.length ≤ 16 := fun t ht => by
        obtain ⟨j, hj, rfl⟩ := List.getElem_of_mem ht
        have F := netOk_tr hok hj
        rw [NetD.tr, List.getD_eq_getElem?_getD, List.getElem?_eq_getElem hj] at F
        have f1 := F.pre
        have f2 := F.post
        simp only [Option.getD_some] at f1 f2
        omega
      have HL0 := Lib.hid hl
      clear hl
      cases he : N.trans.any (endB i o)
      case true =>
        have HC := Lib.hid (shapeC_end hok hr he)
        clear hr
        obtain ⟨B0, B1, B2, B3, G0⟩ := boxes3 w #[.int .i64 N.places, .slice a N.trans.length cap] (.int .i64 i) (.int .i64 o) 24 3 3 _ _ rfl rfl _ rfl
        go_enter Try.func18, Try.ntmps18
        go_wp2_with fail
        refine (Wrong_calls _ N _ (hN.gr (by (repeat (first | exact Gr.refl _ | assumption | apply Gr.alloc | apply Gr.drew | apply Gr.drewN | refine Gr.trans ?_ (by assumption)))))).mono ?_
        rw [e1]; rintro _ w1 ⟨rfl, g1⟩
        replace B0 := cell_gr B0 g1
        replace B1 := cell_gr B1 g1
        replace B2 := cell_gr B2 g1
        replace B3 := cell_gr B3 g1
        go_wp2_with fail
        refine (ContainsFuncTr_calls _ N.trans 57 _ _ _ eg (hT.gr (by (repeat (first | exact Gr.refl _ | assumption | apply Gr.alloc | apply Gr.drew | apply Gr.drewN | refine Gr.trans ?_ (by assumption))))) (ShapeWrong1_answers _ _ _ i o _ B2 B3 HL0.out)).mono ?_
        rw [he]; rintro _ w2 ⟨rfl, g2⟩
        go_wp2_with fail
        go_ret
        exact ⟨ret_i64 HC.out.symm, by (repeat (first | exact Gr.refl _ | assumption | apply Gr.alloc | apply Gr.drew | apply Gr.drewN | refine Gr.trans ?_ (by assumption)))⟩
      case false =>
        have hS := netSmall_ok hok
        have hok' := netOk_turn hok
        obtain ⟨L, hL⟩ : ∃ L, (walkN N i).length = L := ⟨_, rfl⟩
        obtain ⟨R, hR⟩ : ∃ R, (walkN (turnN N) o).length = R := ⟨_, rfl⟩
        have hC := shapeC_walk hok hr he
        have hLle := walk_le hok hi'
        have ho2 : o < (turnN N).places.toNat := by rw [turnN_places]; exact ho'
        have hRle := walk_le hok' ho2
        rw [hL, hR] at hC
        rw [hL] at hLle
        rw [hR] at hRle
        have hsz : sizeN (turnN N) = sizeN N := by unfold sizeN; rw [turnN_len, turnN_places]
        rw [hsz] at hRle
        have hsz0 : (sizeN N : Int) = N.places + (N.trans.length : Int) := by unfold sizeN; omega
        have hn24 := netOk_n24 hok
        have HL := Lib.hid hL
        have HR := Lib.hid hR
        clear hL hR hr hsz
        by_cases hcL : L < sizeN N
        · have HC := Lib.hid (show shapeC N i o = 1 by rw [hC, if_pos (.inl hcL)])
          have q1 : decide ((L : Int) < N.places + (N.trans.length : Int)) = true := by rw [decide_eq_true_eq]; omega
          clear hC
          obtain ⟨B0, B1, B2, B3, G0⟩ := boxes3 w #[.int .i64 N.places, .slice a N.trans.length cap] (.int .i64 i) (.int .i64 o) 24 3 3 _ _ rfl rfl _ rfl
          go_enter Try.func18, Try.ntmps18
          go_wp2_with fail
          refine (Wrong_calls _ N _ (hN.gr (by (repeat (first | exact Gr.refl _ | assumption | apply Gr.alloc | apply Gr.drew | apply Gr.drewN | refine Gr.trans ?_ (by assumption)))))).mono ?_
          rw [e1]; rintro _ w1 ⟨rfl, g1⟩
          replace B0 := cell_gr B0 g1
          replace B1 := cell_gr B1 g1
          replace B2 := cell_gr B2 g1
          replace B3 := cell_gr B3 g1
          go_wp2_with fail
          refine (ContainsFuncTr_calls _ N.trans 57 _ _ _ eg (hT.gr (by (repeat (first | exact Gr.refl _ | assumption | apply Gr.alloc | apply Gr.drew | apply Gr.drewN | refine Gr.trans ?_ (by assumption))))) (ShapeWrong1_answers _ _ _ i o _ B2 B3 HL0.out)).mono ?_
          rw [he]; rintro _ w2 ⟨rfl, g2⟩
          replace B0 := cell_gr B0 g2
          replace B1 := cell_gr B1 g2
          replace B2 := cell_gr B2 g2
          replace B3 := cell_gr B3 g2
          have G2 : Gr w w2 := by (repeat (first | exact Gr.refl _ | assumption | apply Gr.alloc | apply Gr.drew | apply Gr.drewN | refine Gr.trans ?_ (by assumption)))
          have K0 := hN.gr G2
          clear G0 g1 g2
          go_wp2_with fail
          refine cut14 (S := fun w' => w'.cell? ⟨w.heap.size, 0, none⟩ = some (.int .i64 N.places) ∧ w'.cell? ⟨w.heap.size, 1, none⟩ = some (.slice a N.trans.length cap) ∧ w'.cell? ⟨w.heap.size + 1, 0, none⟩ = some (.int .i64 (i : Int)) ∧ w'.cell? ⟨w.heap.size + 1 + 1, 0, none⟩ = some (.int .i64 (o : Int))) (by kernel_rfl) (by kernel_rfl) (by exact ⟨cell_gr B0 (by (repeat (first | exact Gr.refl _ | assumption | apply Gr.alloc | apply Gr.drew | apply Gr.drewN | refine Gr.trans ?_ (by assumption)))), cell_gr B1 (by (repeat (first | exact Gr.refl _ | assumption | apply Gr.alloc | apply Gr.drew | apply Gr.drewN | refine Gr.trans ?_ (by assumption)))), cell_gr B2 (by (repeat (first | exact Gr.refl _ | assumption | apply Gr.alloc | apply Gr.drew | apply Gr.drewN | refine Gr.trans ?_ (by assumption)))), cell_gr B3 (by (repeat (first | exact Gr.refl _ | assumption | apply Gr.alloc | apply Gr.drew | apply Gr.drewN | refine Gr.trans ?_ (by assumption))))⟩) (fun hHeld => ?_)
          (refine hold0 (v := ?_) (by kernel_rfl) (by kernel_rfl) (by kernel_rfl) (fun _ _ _ h => h) (by rfl) (fun w' hSw => ?_) (by assumption) ?_; rotate_left 1; · ((try dsimp only at hSw); (try go_simp); (try (with_reducible rfl))); (try simp only [Act.put, List.setIfInBounds_toArray, List.set_cons_zero, List.set_cons_succ]))
          (refine hold1 (v := ?_) (by kernel_rfl) (by kernel_rfl) (by kernel_rfl) (fun _ _ _ h => h) (by rfl) (fun w' hSw => ?_) (by assumption) ?_; rotate_left 1; · ((try dsimp only at hSw); (try go_simp); (try (with_reducible rfl))); (try simp only [Act.put, List.setIfInBounds_toArray, List.set_cons_zero, List.set_cons_succ]))
          (refine hold4 (v := ?_) (by kernel_rfl) (by kernel_rfl) (by kernel_rfl) (fun _ _ _ h => h) (by rfl) (fun w' hSw => ?_) (by assumption) ?_; rotate_left 1; · ((try dsimp only at hSw); (try go_simp); (try (with_reducible rfl))); (try simp only [Act.put, List.setIfInBounds_toArray, List.set_cons_zero, List.set_cons_succ]))
          refine next2 (by kernel_rfl) (fun K hK => ?_)
          go_simp
          refine (walk_calls _ N i _ (K0.gr (by (repeat (first | exact Gr.refl _ | assumption | apply Gr.alloc | apply Gr.drew | apply Gr.drewN | refine Gr.trans ?_ (by assumption))))) hok hi').mono ?_
          rintro _ w2 ⟨b2, rfl, m2, g2⟩
          have l2 := (m2.gr ((Gr.refl _).drew)).len_run Try.underlying85 3
          have l2' := m2.len_run Try.underlying85 3
          rw [List.length_map, HL.out] at l2 l2'
          (refine hK.out _ _ ?_ (fun hHeld => ?_); · (exact ⟨cell_gr B0 (by (repeat (first | exact Gr.refl _ | assumption | apply Gr.alloc | apply Gr.drew | apply Gr.drewN | refine Gr.trans ?_ (by assumption)))), cell_gr B1 (by (repeat (first | exact Gr.refl _ | assumption | apply Gr.alloc | apply Gr.drew | apply Gr.drewN | refine Gr.trans ?_ (by assumption)))), cell_gr B2 (by (repeat (first | exact Gr.refl _ | assumption | apply Gr.alloc | apply Gr.drew | apply Gr.drewN | refine Gr.trans ?_ (by assumption)))), cell_gr B3 (by (repeat (first | exact Gr.refl _ | assumption | apply Gr.alloc | apply Gr.drew | apply Gr.drewN | refine Gr.trans ?_ (by assumption))))⟩))
          clear hK K
          try simp only [Act.put, List.setIfInBounds_toArray, List.set_cons_zero, List.set_cons_succ]
          refine next3 (by kernel_rfl) (fun K hK => ?_)
          go_simp
          (refine hK.out _ _ ?_ (fun hHeld => ?_); · (exact ⟨cell_gr B0 (by (repeat (first | exact Gr.refl _ | assumption | apply Gr.alloc | apply Gr.drew | apply Gr.drewN | refine Gr.trans ?_ (by assumption)))), cell_gr B1 (by (repeat (first | exact Gr.refl _ | assumption | apply Gr.alloc | apply Gr.drew | apply Gr.drewN | refine Gr.trans ?_ (by assumption)))), cell_gr B2 (by (repeat (first | exact Gr.refl _ | assumption | apply Gr.alloc | apply Gr.drew | apply Gr.drewN | refine Gr.trans ?_ (by assumption)))), cell_gr B3 (by (repeat (first | exact Gr.refl _ | assumption | apply Gr.alloc | apply Gr.drew | apply Gr.drewN | refine Gr.trans ?_ (by assumption))))⟩))
          clear hK K
          try simp only [Act.put, List.setIfInBounds_toArray, List.set_cons_zero, List.set_cons_succ]
          (refine hold5 (v := ?_) (by kernel_rfl) (by kernel_rfl) (by kernel_rfl) (fun _ _ _ h => h) (by rfl) (fun w' hSw => ?_) (by assumption) ?_; rotate_left 1; · ((try dsimp only at hSw); (try go_simp); (try (with_reducible rfl))); (try simp only [Act.put, List.setIfInBounds_toArray, List.set_cons_zero, List.set_cons_succ]))
          (refine hold6 (v := ?_) (by kernel_rfl) (by kernel_rfl) (by kernel_rfl) (fun _ _ _ h => h) (by rfl) (fun w' hSw => ?_) (by assumption) ?_; rotate_left 1; · ((try dsimp only at hSw); (try go_simp); (try (with_reducible rfl))); (try simp only [Act.put, List.setIfInBounds_toArray, List.set_cons_zero, List.set_cons_succ]))
          (refine skip7 (by kernel_rfl) (by kernel_rfl) (by kernel_rfl) (fun _ _ _ h => h) (by rfl) (by assumption) ?_; (try simp only [Act.put, List.setIfInBounds_toArray, List.set_cons_zero, List.set_cons_succ]))
          (refine skip8 (by kernel_rfl) (by kernel_rfl) (by kernel_rfl) (fun _ _ _ h => h) (by rfl) (by assumption) ?_; (try simp only [Act.put, List.setIfInBounds_toArray, List.set_cons_zero, List.set_cons_succ]))
          (refine skip9 (by kernel_rfl) (by kernel_rfl) (by kernel_rfl) (fun _ _ _ h => h) (by rfl) (by assumption) ?_; (try simp only [Act.put, List.setIfInBounds_toArray, List.set_cons_zero, List.set_cons_succ]))
          (refine skip10 (by kernel_rfl) (by kernel_rfl) (by kernel_rfl) (fun _ _ _ h => h) (by rfl) (by assumption) ?_; (try simp only [Act.put, List.setIfInBounds_toArray, List.set_cons_zero, List.set_cons_succ]))
          (refine skip11 (by kernel_rfl) (by kernel_rfl) (by kernel_rfl) (fun _ _ _ h => h) (by rfl) (by assumption) ?_; (try simp only [Act.put, List.setIfInBounds_toArray, List.set_cons_zero, List.set_cons_succ]))
          (refine skip12 (by kernel_rfl) (by kernel_rfl) (by kernel_rfl) (fun _ _ _ h => h) (by rfl) (by assumption) ?_; (try simp only [Act.put, List.setIfInBounds_toArray, List.set_cons_zero, List.set_cons_succ]))
          (refine skip13 (by kernel_rfl) (by kernel_rfl) (by kernel_rfl) (fun _ _ _ h => h) (by rfl) (by assumption) ?_; (try simp only [Act.put, List.setIfInBounds_toArray, List.set_cons_zero, List.set_cons_succ]))
          refine ends14 (by kernel_rfl) (fun K hK => ?_)
          go_simp
          refine hK.out _ _ ?_
          go_wp2_with fail
          go_ret
          exact ⟨ret_i64 HC.out.symm, by (repeat (first | exact Gr.refl _ | assumption | apply Gr.alloc | apply Gr.drew | apply Gr.drewN | refine Gr.trans ?_ (by assumption)))⟩
        · have q1 : decide ((L : Int) < N.places + (N.trans.length : Int)) = false := by rw [decide_eq_false_iff_not]; omega
          by_cases hcR : R < sizeN N
          · have HC := Lib.hid (show shapeC N i o = 1 by rw [hC, if_pos (.inr hcR)])
            have q2 : decide ((R : Int) < N.places + (N.trans.length : Int)) = true := by rw [decide_eq_true_eq]; omega
            clear hC
            obtain ⟨B0, B1, B2, B3, G0⟩ := boxes3 w #[.int .i64 N.places, .slice a N.trans.length cap] (.int .i64 i) (.int .i64 o) 24 3 3 _ _ rfl rfl _ rfl
            go_enter Try.func18, Try.ntmps18
            go_wp2_with fail
            refine (Wrong_calls _ N _ (hN.gr (by (repeat (first | exact Gr.refl _ | assumption | apply Gr.alloc | apply Gr.drew | apply Gr.drewN | refine Gr.trans ?_ (by assumption)))))).mono ?_
            rw [e1]; rintro _ w1 ⟨rfl, g1⟩
            replace B0 := cell_gr B0 g1
            replace B1 := cell_gr B1 g1
            replace B2 := cell_gr B2 g1
            replace B3 := cell_gr B3 g1
            go_wp2_with fail
            refine (ContainsFuncTr_calls _ N.trans 57 _ _ _ eg (hT.gr (by (repeat (first | exact Gr.refl _ | assumption | apply Gr.alloc | apply Gr.drew | apply Gr.drewN | refine Gr.trans ?_ (by assumption))))) (ShapeWrong1_answers _ _ _ i o _ B2 B3 HL0.out)).mono ?_
            rw [he]; rintro _ w2 ⟨rfl, g2⟩
            replace B0 := cell_gr B0 g2
            replace B1 := cell_gr B1 g2
            replace B2 := cell_gr B2 g2
            replace B3 := cell_gr B3 g2
            have G2 : Gr w w2 := by (repeat (first | exact Gr.refl _ | assumption | apply Gr.alloc | apply Gr.drew | apply Gr.drewN | refine Gr.trans ?_ (by assumption)))
            have K0 := hN.gr G2
            clear G0 g1 g2
            go_wp2_with fail
            refine cut14 (S := fun w' => w'.cell? ⟨w.heap.size, 0, none⟩ = some (.int .i64 N.places) ∧ w'.cell? ⟨w.heap.size, 1, none⟩ = some (.slice a N.trans.length cap) ∧ w'.cell? ⟨w.heap.size + 1, 0, none⟩ = some (.int .i64 (i : Int)) ∧ w'.cell? ⟨w.heap.size + 1 + 1, 0, none⟩ = some (.int .i64 (o : Int))) (by kernel_rfl) (by kernel_rfl) (by exact ⟨cell_gr B0 (by (repeat (first | exact Gr.refl _ | assumption | apply Gr.alloc | apply Gr.drew | apply Gr.drewN | refine Gr.trans ?_ (by assumption)))), cell_gr B1 (by (repeat (first | exact Gr.refl _ | assumption | apply Gr.alloc | apply Gr.drew | apply Gr.drewN | refine Gr.trans ?_ (by assumption)))), cell_gr B2 (by (repeat (first | exact Gr.refl _ | assumption | apply Gr.alloc | apply Gr.drew | apply Gr.drewN | refine Gr.trans ?_ (by assumption)))), cell_gr B3 (by (repeat (first | exact Gr.refl _ | assumption | apply Gr.alloc | apply Gr.drew | apply Gr.drewN | refine Gr.trans ?_ (by assumption))))⟩) (fun hHeld => ?_)
            (refine hold0 (v := ?_) (by kernel_rfl) (by kernel_rfl) (by kernel_rfl) (fun _ _ _ h => h) (by rfl) (fun w' hSw => ?_) (by assumption) ?_; rotate_left 1; · ((try dsimp only at hSw); (try go_simp); (try (with_reducible rfl))); (try simp only [Act.put, List.setIfInBounds_toArray, List.set_cons_zero, List.set_cons_succ]))
            (refine hold1 (v := ?_) (by kernel_rfl) (by kernel_rfl) (by kernel_rfl) (fun _ _ _ h => h) (by rfl) (fun w' hSw => ?_) (by assumption) ?_; rotate_left 1; · ((try dsimp only at hSw); (try go_simp); (try (with_reducible rfl))); (try simp only [Act.put, List.setIfInBounds_toArray, List.set_cons_zero, List.set_cons_succ]))
            (refine hold4 (v := ?_) (by kernel_rfl) (by kernel_rfl) (by kernel_rfl) (fun _ _ _ h => h) (by rfl) (fun w' hSw => ?_) (by assumption) ?_; rotate_left 1; · ((try dsimp only at hSw); (try go_simp); (try (with_reducible rfl))); (try simp only [Act.put, List.setIfInBounds_toArray, List.set_cons_zero, List.set_cons_succ]))
            refine next2 (by kernel_rfl) (fun K hK => ?_)
            go_simp
            refine (walk_calls _ N i _ (K0.gr (by (repeat (first | exact Gr.refl _ | assumption | apply Gr.alloc | apply Gr.drew | apply Gr.drewN | refine Gr.trans ?_ (by assumption))))) hok hi').mono ?_
            rintro _ w2 ⟨b2, rfl, m2, g2⟩
            have l2 := (m2.gr ((Gr.refl _).drew)).len_run Try.underlying85 3
            have l2' := m2.len_run Try.underlying85 3
            rw [List.length_map, HL.out] at l2 l2'
            (refine hK.out _ _ ?_ (fun hHeld => ?_); · (exact ⟨cell_gr B0 (by (repeat (first | exact Gr.refl _ | assumption | apply Gr.alloc | apply Gr.drew | apply Gr.drewN | refine Gr.trans ?_ (by assumption)))), cell_gr B1 (by (repeat (first | exact Gr.refl _ | assumption | apply Gr.alloc | apply Gr.drew | apply Gr.drewN | refine Gr.trans ?_ (by assumption)))), cell_gr B2 (by (repeat (first | exact Gr.refl _ | assumption | apply Gr.alloc | apply Gr.drew | apply Gr.drewN | refine Gr.trans ?_ (by assumption)))), cell_gr B3 (by (repeat (first | exact Gr.refl _ | assumption | apply Gr.alloc | apply Gr.drew | apply Gr.drewN | refine Gr.trans ?_ (by assumption))))⟩))
            clear hK K
            try simp only [Act.put, List.setIfInBounds_toArray, List.set_cons_zero, List.set_cons_succ]
            refine next3 (by kernel_rfl) (fun K hK => ?_)
            go_simp
            (refine hK.out _ _ ?_ (fun hHeld => ?_); · (exact ⟨cell_gr B0 (by (repeat (first | exact Gr.refl _ | assumption | apply Gr.alloc | apply Gr.drew | apply Gr.drewN | refine Gr.trans ?_ (by assumption)))), cell_gr B1 (by (repeat (first | exact Gr.refl _ | assumption | apply Gr.alloc | apply Gr.drew | apply Gr.drewN | refine Gr.trans ?_ (by assumption)))), cell_gr B2 (by (repeat (first | exact Gr.refl _ | assumption | apply Gr.alloc | apply Gr.drew | apply Gr.drewN | refine Gr.trans ?_ (by assumption)))), cell_gr B3 (by (repeat (first | exact Gr.refl _ | assumption | apply Gr.alloc | apply Gr.drew | apply Gr.drewN | refine Gr.trans ?_ (by assumption))))⟩))
            clear hK K
            try simp only [Act.put, List.setIfInBounds_toArray, List.set_cons_zero, List.set_cons_succ]
            (refine hold5 (v := ?_) (by kernel_rfl) (by kernel_rfl) (by kernel_rfl) (fun _ _ _ h => h) (by rfl) (fun w' hSw => ?_) (by assumption) ?_; rotate_left 1; · ((try dsimp only at hSw); (try go_simp); (try (with_reducible rfl))); (try simp only [Act.put, List.setIfInBounds_toArray, List.set_cons_zero, List.set_cons_succ]))
            (refine hold6 (v := ?_) (by kernel_rfl) (by kernel_rfl) (by kernel_rfl) (fun _ _ _ h => h) (by rfl) (fun w' hSw => ?_) (by assumption) ?_; rotate_left 1; · ((try dsimp only at hSw); (try go_simp); (try (with_reducible rfl))); (try simp only [Act.put, List.setIfInBounds_toArray, List.set_cons_zero, List.set_cons_succ]))
            (refine hold7 (v := ?_) (by kernel_rfl) (by kernel_rfl) (by kernel_rfl) (fun _ _ _ h => h) (by rfl) (fun w' hSw => ?_) (by assumption) ?_; rotate_left 1; · ((try dsimp only at hSw); (try go_simp); (try (with_reducible rfl))); (try simp only [Act.put, List.setIfInBounds_toArray, List.set_cons_zero, List.set_cons_succ]))
            (refine hold9 (v := ?_) (by kernel_rfl) (by kernel_rfl) (by kernel_rfl) (fun _ _ _ h => h) (by rfl) (fun w' hSw => ?_) (by assumption) ?_; rotate_left 1; · ((try dsimp only at hSw); (try go_simp); (try (with_reducible rfl))); (try simp only [Act.put, List.setIfInBounds_toArray, List.set_cons_zero, List.set_cons_succ]))
            (refine hold12 (v := ?_) (by kernel_rfl) (by kernel_rfl) (by kernel_rfl) (fun _ _ _ h => h) (by rfl) (fun w' hSw => ?_) (by assumption) ?_; rotate_left 1; · ((try dsimp only at hSw); (try go_simp); (try (with_reducible rfl))); (try simp only [Act.put, List.setIfInBounds_toArray, List.set_cons_zero, List.set_cons_succ]))
            refine next8 (by kernel_rfl) (fun K hK => ?_)
            go_simp
            refine (Turned_calls _ N _ (K0.gr (by (repeat (first | exact Gr.refl _ | assumption | apply Gr.alloc | apply Gr.drew | apply Gr.drewN | refine Gr.trans ?_ (by assumption))))) hS).mono ?_
            rintro _ w3 ⟨v3, rfl, n3, g3⟩
            (refine hK.out _ _ ?_ (fun hHeld => ?_); · (exact ⟨cell_gr B0 (by (repeat (first | exact Gr.refl _ | assumption | apply Gr.alloc | apply Gr.drew | apply Gr.drewN | refine Gr.trans ?_ (by assumption)))), cell_gr B1 (by (repeat (first | exact Gr.refl _ | assumption | apply Gr.alloc | apply Gr.drew | apply Gr.drewN | refine Gr.trans ?_ (by assumption)))), cell_gr B2 (by (repeat (first | exact Gr.refl _ | assumption | apply Gr.alloc | apply Gr.drew | apply Gr.drewN | refine Gr.trans ?_ (by assumption)))), cell_gr B3 (by (repeat (first | exact Gr.refl _ | assumption | apply Gr.alloc | apply Gr.drew | apply Gr.drewN | refine Gr.trans ?_ (by assumption))))⟩))
            clear hK K
            try simp only [Act.put, List.setIfInBounds_toArray, List.set_cons_zero, List.set_cons_succ]
            refine next10 (by kernel_rfl) (fun K hK => ?_)
            go_simp
            refine (walk_calls _ (turnN N) o _ (n3.gr (by (repeat (first | exact Gr.refl _ | assumption | apply Gr.alloc | apply Gr.drew | apply Gr.drewN | refine Gr.trans ?_ (by assumption))))) hok' ho2).mono ?_
            rintro _ w4 ⟨b4, rfl, m4, g4⟩
            have l4 := (m4.gr ((Gr.refl _).drew)).len_run Try.underlying85 3
            have l4' := m4.len_run Try.underlying85 3
            rw [List.length_map, HR.out] at l4 l4'
            (refine hK.out _ _ ?_ (fun hHeld => ?_); · (exact ⟨cell_gr B0 (by (repeat (first | exact Gr.refl _ | assumption | apply Gr.alloc | apply Gr.drew | apply Gr.drewN | refine Gr.trans ?_ (by assumption)))), cell_gr B1 (by (repeat (first | exact Gr.refl _ | assumption | apply Gr.alloc | apply Gr.drew | apply Gr.drewN | refine Gr.trans ?_ (by assumption)))), cell_gr B2 (by (repeat (first | exact Gr.refl _ | assumption | apply Gr.alloc | apply Gr.drew | apply Gr.drewN | refine Gr.trans ?_ (by assumption)))), cell_gr B3 (by (repeat (first | exact Gr.refl _ | assumption | apply Gr.alloc | apply Gr.drew | apply Gr.drewN | refine Gr.trans ?_ (by assumption))))⟩))
            clear hK K
            try simp only [Act.put, List.setIfInBounds_toArray, List.set_cons_zero, List.set_cons_succ]
            refine next11 (by kernel_rfl) (fun K hK => ?_)
            go_simp
            (refine hK.out _ _ ?_ (fun hHeld => ?_); · (exact ⟨cell_gr B0 (by (repeat (first | exact Gr.refl _ | assumption | apply Gr.alloc | apply Gr.drew | apply Gr.drewN | refine Gr.trans ?_ (by assumption)))), cell_gr B1 (by (repeat (first | exact Gr.refl _ | assumption | apply Gr.alloc | apply Gr.drew | apply Gr.drewN | refine Gr.trans ?_ (by assumption)))), cell_gr B2 (by (repeat (first | exact Gr.refl _ | assumption | apply Gr.alloc | apply Gr.drew | apply Gr.drewN | refine Gr.trans ?_ (by assumption)))), cell_gr B3 (by (repeat (first | exact Gr.refl _ | assumption | apply Gr.alloc | apply Gr.drew | apply Gr.drewN | refine Gr.trans ?_ (by assumption))))⟩))
            clear hK K
            try simp only [Act.put, List.setIfInBounds_toArray, List.set_cons_zero, List.set_cons_succ]
            (refine hold13 (v := ?_) (by kernel_rfl) (by kernel_rfl) (by kernel_rfl) (fun _ _ _ h => h) (by rfl) (fun w' hSw => ?_) (by assumption) ?_; rotate_left 1; · ((try dsimp only at hSw); (try go_simp); (try (with_reducible rfl))); (try simp only [Act.put, List.setIfInBounds_toArray, List.set_cons_zero, List.set_cons_succ]))
            refine ends14 (by kernel_rfl) (fun K hK => ?_)
            go_simp
            refine hK.out _ _ ?_
            go_wp2_with fail
            go_ret
            exact ⟨ret_i64 HC.out.symm, by (repeat (first | exact Gr.refl _ | assumption | apply Gr.alloc | apply Gr.drew | apply Gr.drewN | refine Gr.trans ?_ (by assumption)))⟩
          · have HC := Lib.hid (show shapeC N i o = 0 by rw [hC, if_neg (fun h => h.elim hcL hcR)])
            have q2 : decide ((R : Int) < N.places + (N.trans.length : Int)) = false := by rw [decide_eq_false_iff_not]; omega
            clear hC
            obtain ⟨B0, B1, B2, B3, G0⟩ := boxes3 w #[.int .i64 N.places, .slice a N.trans.length cap] (.int .i64 i) (.int .i64 o) 24 3 3 _ _ rfl rfl _ rfl
            go_enter Try.func18, Try.ntmps18
            go_wp2_with fail
            refine (Wrong_calls _ N _ (hN.gr (by (repeat (first | exact Gr.refl _ | assumption | apply Gr.alloc | apply Gr.drew | apply Gr.drewN | refine Gr.trans ?_ (by assumption)))))).mono ?_
            rw [e1]; rintro _ w1 ⟨rfl, g1⟩
            replace B0 := cell_gr B0 g1
            replace B1 := cell_gr B1 g1
            replace B2 := cell_gr B2 g1
            replace B3 := cell_gr B3 g1
            go_wp2_with fail
            refine (ContainsFuncTr_calls _ N.trans 57 _ _ _ eg (hT.gr (by (repeat (first | exact Gr.refl _ | assumption | apply Gr.alloc | apply Gr.drew | apply Gr.drewN | refine Gr.trans ?_ (by assumption))))) (ShapeWrong1_answers _ _ _ i o _ B2 B3 HL0.out)).mono ?_
            rw [he]; rintro _ w2 ⟨rfl, g2⟩
            replace B0 := cell_gr B0 g2
            replace B1 := cell_gr B1 g2
            replace B2 := cell_gr B2 g2
            replace B3 := cell_gr B3 g2
            have G2 : Gr w w2 := by (repeat (first | exact Gr.refl _ | assumption | apply Gr.alloc | apply Gr.drew | apply Gr.drewN | refine Gr.trans ?_ (by assumption)))
            have K0 := hN.gr G2
            clear G0 g1 g2
            go_wp2_with fail
            refine cut14 (S := fun w' => w'.cell? ⟨w.heap.size, 0, none⟩ = some (.int .i64 N.places) ∧ w'.cell? ⟨w.heap.size, 1, none⟩ = some (.slice a N.trans.length cap) ∧ w'.cell? ⟨w.heap.size + 1, 0, none⟩ = some (.int .i64 (i : Int)) ∧ w'.cell? ⟨w.heap.size + 1 + 1, 0, none⟩ = some (.int .i64 (o : Int))) (by kernel_rfl) (by kernel_rfl) (by exact ⟨cell_gr B0 (by (repeat (first | exact Gr.refl _ | assumption | apply Gr.alloc | apply Gr.drew | apply Gr.drewN | refine Gr.trans ?_ (by assumption)))), cell_gr B1 (by (repeat (first | exact Gr.refl _ | assumption | apply Gr.alloc | apply Gr.drew | apply Gr.drewN | refine Gr.trans ?_ (by assumption)))), cell_gr B2 (by (repeat (first | exact Gr.refl _ | assumption | apply Gr.alloc | apply Gr.drew | apply Gr.drewN | refine Gr.trans ?_ (by assumption)))), cell_gr B3 (by (repeat (first | exact Gr.refl _ | assumption | apply Gr.alloc | apply Gr.drew | apply Gr.drewN | refine Gr.trans ?_ (by assumption))))⟩) (fun hHeld => ?_)
            (refine hold0 (v := ?_) (by kernel_rfl) (by kernel_rfl) (by kernel_rfl) (fun _ _ _ h => h) (by rfl) (fun w' hSw => ?_) (by assumption) ?_; rotate_left 1; · ((try dsimp only at hSw); (try go_simp); (try (with_reducible rfl))); (try simp only [Act.put, List.setIfInBounds_toArray, List.set_cons_zero, List.set_cons_succ]))
            (refine hold1 (v := ?_) (by kernel_rfl) (by kernel_rfl) (by kernel_rfl) (fun _ _ _ h => h) (by rfl) (fun w' hSw => ?_) (by assumption) ?_; rotate_left 1; · ((try dsimp only at hSw); (try go_simp); (try (with_reducible rfl))); (try simp only [Act.put, List.setIfInBounds_toArray, List.set_cons_zero, List.set_cons_succ]))
            (refine hold4 (v := ?_) (by kernel_rfl) (by kernel_rfl) (by kernel_rfl) (fun _ _ _ h => h) (by rfl) (fun w' hSw => ?_) (by assumption) ?_; rotate_left 1; · ((try dsimp only at hSw); (try go_simp); (try (with_reducible rfl))); (try simp only [Act.put, List.setIfInBounds_toArray, List.set_cons_zero, List.set_cons_succ]))
            refine next2 (by kernel_rfl) (fun K hK => ?_)
            go_simp
            refine (walk_calls _ N i _ (K0.gr (by (repeat (first | exact Gr.refl _ | assumption | apply Gr.alloc | apply Gr.drew | apply Gr.drewN | refine Gr.trans ?_ (by assumption))))) hok hi').mono ?_
            rintro _ w2 ⟨b2, rfl, m2, g2⟩
            have l2 := (m2.gr ((Gr.refl _).drew)).len_run Try.underlying85 3
            have l2' := m2.len_run Try.underlying85 3
            rw [List.length_map, HL.out] at l2 l2'
            (refine hK.out _ _ ?_ (fun hHeld => ?_); · (exact ⟨cell_gr B0 (by (repeat (first | exact Gr.refl _ | assumption | apply Gr.alloc | apply Gr.drew | apply Gr.drewN | refine Gr.trans ?_ (by assumption)))), cell_gr B1 (by (repeat (first | exact Gr.refl _ | assumption | apply Gr.alloc | apply Gr.drew | apply Gr.drewN | refine Gr.trans ?_ (by assumption)))), cell_gr B2 (by (repeat (first | exact Gr.refl _ | assumption | apply Gr.alloc | apply Gr.drew | apply Gr.drewN | refine Gr.trans ?_ (by assumption)))), cell_gr B3 (by (repeat (first | exact Gr.refl _ | assumption | apply Gr.alloc | apply Gr.drew | apply Gr.drewN | refine Gr.trans ?_ (by assumption))))⟩))
            clear hK K
            try simp only [Act.put, List.setIfInBounds_toArray, List.set_cons_zero, List.set_cons_succ]
            refine next3 (by kernel_rfl) (fun K hK => ?_)
            go_simp
            (refine hK.out _ _ ?_ (fun hHeld => ?_); · (exact ⟨cell_gr B0 (by (repeat (first | exact Gr.refl _ | assumption | apply Gr.alloc | apply Gr.drew | apply Gr.drewN | refine Gr.trans ?_ (by assumption)))), cell_gr B1 (by (repeat (first | exact Gr.refl _ | assumption | apply Gr.alloc | apply Gr.drew | apply Gr.drewN | refine Gr.trans ?_ (by assumption)))), cell_gr B2 (by (repeat (first | exact Gr.refl _ | assumption | apply Gr.alloc | apply Gr.drew | apply Gr.drewN | refine Gr.trans ?_ (by assumption)))), cell_gr B3 (by (repeat (first | exact Gr.refl _ | assumption | apply Gr.alloc | apply Gr.drew | apply Gr.drewN | refine Gr.trans ?_ (by assumption))))⟩))
            clear hK K
            try simp only [Act.put, List.setIfInBounds_toArray, List.set_cons_zero, List.set_cons_succ]
            (refine hold5 (v := ?_) (by kernel_rfl) (by kernel_rfl) (by kernel_rfl) (fun _ _ _ h => h) (by rfl) (fun w' hSw => ?_) (by assumption) ?_; rotate_left 1; · ((try dsimp only at hSw); (try go_simp); (try (with_reducible rfl))); (try simp only [Act.put, List.setIfInBounds_toArray, List.set_cons_zero, List.set_cons_succ]))
            (refine hold6 (v := ?_) (by kernel_rfl) (by kernel_rfl) (by kernel_rfl) (fun _ _ _ h => h) (by rfl) (fun w' hSw => ?_) (by assumption) ?_; rotate_left 1; · ((try dsimp only at hSw); (try go_simp); (try (with_reducible rfl))); (try simp only [Act.put, List.setIfInBounds_toArray, List.set_cons_zero, List.set_cons_succ]))
            (refine hold7 (v := ?_) (by kernel_rfl) (by kernel_rfl) (by kernel_rfl) (fun _ _ _ h => h) (by rfl) (fun w' hSw => ?_) (by assumption) ?_; rotate_left 1; · ((try dsimp only at hSw); (try go_simp); (try (with_reducible rfl))); (try simp only [Act.put, List.setIfInBounds_toArray, List.set_cons_zero, List.set_cons_succ]))
            (refine hold9 (v := ?_) (by kernel_rfl) (by kernel_rfl) (by kernel_rfl) (fun _ _ _ h => h) (by rfl) (fun w' hSw => ?_) (by assumption) ?_; rotate_left 1; · ((try dsimp only at hSw); (try go_simp); (try (with_reducible rfl))); (try simp only [Act.put, List.setIfInBounds_toArray, List.set_cons_zero, List.set_cons_succ]))
            (refine hold12 (v := ?_) (by kernel_rfl) (by kernel_rfl) (by kernel_rfl) (fun _ _ _ h => h) (by rfl) (fun w' hSw => ?_) (by assumption) ?_; rotate_left 1; · ((try dsimp only at hSw); (try go_simp); (try (with_reducible rfl))); (try simp only [Act.put, List.setIfInBounds_toArray, List.set_cons_zero, List.set_cons_succ]))
            refine next8 (by kernel_rfl) (fun K hK => ?_)
            go_simp
            refine (Turned_calls _ N _ (K0.gr (by (repeat (first | exact Gr.refl _ | assumption | apply Gr.alloc | apply Gr.drew | apply Gr.drewN | refine Gr.trans ?_ (by assumption))))) hS).mono ?_
            rintro _ w3 ⟨v3, rfl, n3, g3⟩
            (refine hK.out _ _ ?_ (fun hHeld => ?_); · (exact ⟨cell_gr B0 (by (repeat (first | exact Gr.refl _ | assumption | apply Gr.alloc | apply Gr.drew | apply Gr.drewN | refine Gr.trans ?_ (by assumption)))), cell_gr B1 (by (repeat (first | exact Gr.refl _ | assumption | apply Gr.alloc | apply Gr.drew | apply Gr.drewN | refine Gr.trans ?_ (by assumption)))), cell_gr B2 (by (repeat (first | exact Gr.refl _ | assumption | apply Gr.alloc | apply Gr.drew | apply Gr.drewN | refine Gr.trans ?_ (by assumption)))), cell_gr B3 (by (repeat (first | exact Gr.refl _ | assumption | apply Gr.alloc | apply Gr.drew | apply Gr.drewN | refine Gr.trans ?_ (by assumption))))⟩))
            clear hK K
            try simp only [Act.put, List.setIfInBounds_toArray, List.set_cons_zero, List.set_cons_succ]
            refine next10 (by kernel_rfl) (fun K hK => ?_)
            go_simp
            refine (walk_calls _ (turnN N) o _ (n3.gr (by (repeat (first | exact Gr.refl _ | assumption | apply Gr.alloc | apply Gr.drew | apply Gr.drewN | refine Gr.trans ?_ (by assumption))))) hok' ho2).mono ?_
            rintro _ w4 ⟨b4, rfl, m4, g4⟩
            have l4 := (m4.gr ((Gr.refl _).drew)).len_run Try.underlying85 3
            have l4' := m4.len_run Try.underlying85 3
            rw [List.length_map, HR.out] at l4 l4'
            (refine hK.out _ _ ?_ (fun hHeld => ?_); · (exact ⟨cell_gr B0 (by (repeat (first | exact Gr.refl _ | assumption | apply Gr.alloc | apply Gr.drew | apply Gr.drewN | refine Gr.trans ?_ (by assumption)))), cell_gr B1 (by (repeat (first | exact Gr.refl _ | assumption | apply Gr.alloc | apply Gr.drew | apply Gr.drewN | refine Gr.trans ?_ (by assumption)))), cell_gr B2 (by (repeat (first | exact Gr.refl _ | assumption | apply Gr.alloc | apply Gr.drew | apply Gr.drewN | refine Gr.trans ?_ (by assumption)))), cell_gr B3 (by (repeat (first | exact Gr.refl _ | assumption | apply Gr.alloc | apply Gr.drew | apply Gr.drewN | refine Gr.trans ?_ (by assumption))))⟩))
            clear hK K
            try simp only [Act.put, List.setIfInBounds_toArray, List.set_cons_zero, List.set_cons_succ]
            refine next11 (by kernel_rfl) (fun K hK => ?_)
            go_simp
            (refine hK.out _ _ ?_ (fun hHeld => ?_); · (exact ⟨cell_gr B0 (by (repeat (first | exact Gr.refl _ | assumption | apply Gr.alloc | apply Gr.drew | apply Gr.drewN | refine Gr.trans ?_ (by assumption)))), cell_gr B1 (by (repeat (first | exact Gr.refl _ | assumption | apply Gr.alloc | apply Gr.drew | apply Gr.drewN | refine Gr.trans ?_ (by assumption)))), cell_gr B2 (by (repeat (first | exact Gr.refl _ | assumption | apply Gr.alloc | apply Gr.drew | apply Gr.drewN | refine Gr.trans ?_ (by assumption)))), cell_gr B3 (by (repeat (first | exact Gr.refl _ | assumption | apply Gr.alloc | apply Gr.drew | apply Gr.drewN | refine Gr.trans ?_ (by assumption))))⟩))
            clear hK K
            try simp only [Act.put, List.setIfInBounds_toArray, List.set_cons_zero, List.set_cons_succ]
            (refine hold13 (v := ?_) (by kernel_rfl) (by kernel_rfl) (by kernel_rfl) (fun _ _ _ h => h) (by rfl) (fun w' hSw => ?_) (by assumption) ?_; rotate_left 1; · ((try dsimp only at hSw); (try go_simp); (try (with_reducible rfl))); (try simp only [Act.put, List.setIfInBounds_toArray, List.set_cons_zero, List.set_cons_succ]))
            refine ends14 (by kernel_rfl) (fun K hK => ?_)
            go_simp
            refine hK.out _ _ ?_
            go_wp2_with fail
            go_ret
            exact ⟨ret_i64 HC.out.symm, by (repeat (first | exact Gr.refl _ | assumption | apply Gr.alloc | apply Gr.drew | apply Gr.drewN | refine Gr.trans ?_ (by assumption)))⟩
end Go.Proofs.Ytmigejcejnofiaa
