/- Contract of align.Align. -/
import Derived.Test.YtkanaoebpajbfaaAl3
import Derived.Test.YtkanaoebpajbfaaRevM
import Derived.Test.YtkanaoebpajbfaaTong4
import Derived.Test.YtkanaoebpajbfaaGS
import Derived.Deep.LoopGhost
import Derived.Laws.EntriesVeiled
namespace Go.Tok
open Go.RowKit Go.Proofs.Ytkanaoebpajbfaa
set_option linter.unusedVariables false
/-- the end's place among the marks, or -1 -/
def endF (N : NetD) (A : SpaceD) (o : Int) : Int := firstI (fun m => eqB m (oneN (startLen N) o)) A.marks
theorem firstI_at {α : Type} [Inhabited α] (p : α → Bool) : ∀ (xs : List α), 0 ≤ firstI p xs → ∃ k, k < xs.length ∧ firstI p xs = (k : Int) ∧ p (ix xs k) = true := by
  intro xs h
  have hany : xs.any p = true := by rw [← firstI_any]; simpa using h
  obtain ⟨k, hk⟩ : ∃ k, k < xs.length ∧ p (ix xs k) = true := by
    obtain ⟨x, hx, hp⟩ := List.any_eq_true.1 hany
    obtain ⟨i, hi, rfl⟩ := List.getElem_of_mem hx
    exact ⟨i, hi, by rw [ix_lt hi]; exact hp⟩
  -- the least such
  have least : ∀ n, (∃ k, k < n ∧ k < xs.length ∧ p (ix xs k) = true) → ∃ k, k < xs.length ∧ p (ix xs k) = true ∧ ∀ j, j < k → p (ix xs j) = false := by
    intro n
    induction n with
    | zero => rintro ⟨k, hk, _⟩; omega
    | succ n ih =>
      rintro ⟨k, hk, hl, hp⟩
      by_cases hq : ∃ j, j < k ∧ p (ix xs j) = true
      · obtain ⟨j, hj, hpj⟩ := hq
        exact ih ⟨j, by omega, by omega, hpj⟩
      · refine ⟨k, hl, hp, fun j hj => ?_⟩
        cases hb : p (ix xs j) with
        | false => rfl
        | true => exact absurd ⟨j, hj, hb⟩ hq
  obtain ⟨k, hl, hp, hn⟩ := least (k + 1) ⟨k, by omega, hk.1, hk.2⟩
  exact ⟨k, hl, firstI_hit (by unfold NoneI; exact hn) hl hp, hp⟩
theorem firstI_no {α : Type} [Inhabited α] (p : α → Bool) {xs : List α} (h : firstI p xs < 0) {k : Nat} (hk : k < xs.length) : p (ix xs k) = false := by
  have hany : xs.any p = false := by rw [← firstI_any]; simp; omega
  rw [List.any_eq_false] at hany
  have := hany _ (ix_mem hk)
  simpa using this
/-- what Align says -/
def AlMeans (N : NetD) (i o : Int) (tr : List Int) (l : List MoveD) (c : Nat) (code : Int) : Prop :=
  (code ≠ 0 → l = [] ∧ c = 0) ∧ (hasErr N i o ≠ 0 → code = hasErr N i o) ∧ (hasErr N i o = 0 → 60 < tr.length → code = 2) ∧
  (hasErr N i o = 0 → tr.length ≤ 60 → ∃ A, shapeC N i o = 0 ∧ graphF N (oneN (startLen N) i) 300 = (A, 0) ∧
    ((code = 0 ∧ ∃ k, k < A.marks.length ∧ ix A.marks k = oneN (startLen N) o ∧ Pth (labN N) A.arcs tr spot0 l ⟨tr.length, k⟩ c ∧ Least1 (labN N) A.arcs tr ⟨tr.length, k⟩ c) ∨
      (code = 3 ∧ ∀ k, k < A.marks.length → ix A.marks k = oneN (startLen N) o → ∀ l c, ¬ Pth (labN N) A.arcs tr spot0 l ⟨tr.length, k⟩ c)))
theorem AlMeans.bad {N : NetD} {i o : Int} {tr : List Int} (h : hasErr N i o ≠ 0) : AlMeans N i o tr [] 0 (hasErr N i o) := ⟨fun _ => ⟨rfl, rfl⟩, fun _ => rfl, fun e => absurd e h, fun e => absurd e h⟩
theorem AlMeans.long {N : NetD} {i o : Int} {tr : List Int} (h : hasErr N i o = 0) (hl : 60 < tr.length) : AlMeans N i o tr [] 0 2 := ⟨fun _ => ⟨rfl, rfl⟩, fun e => absurd h e, fun _ _ => rfl, fun _ e => by omega⟩
theorem AlMeans.none {N : NetD} {i o : Int} {tr : List Int} {A : SpaceD} (h : hasErr N i o = 0) (hl : tr.length ≤ 60) (hs : shapeC N i o = 0) (hg : graphF N (oneN (startLen N) i) 300 = (A, 0)) (hn : ∀ k, k < A.marks.length → ix A.marks k = oneN (startLen N) o → ∀ l c, ¬ Pth (labN N) A.arcs tr spot0 l ⟨tr.length, k⟩ c) : AlMeans N i o tr [] 0 3 :=
  ⟨fun _ => ⟨rfl, rfl⟩, fun e => absurd h e, fun _ e => by omega, fun _ _ => ⟨A, hs, hg, .inr ⟨rfl, hn⟩⟩⟩
theorem AlMeans.good {N : NetD} {i o : Int} {tr : List Int} {A : SpaceD} {l : List MoveD} {c k : Nat} (h : hasErr N i o = 0) (hl : tr.length ≤ 60) (hs : shapeC N i o = 0) (hg : graphF N (oneN (startLen N) i) 300 = (A, 0)) (hk : k < A.marks.length) (he : ix A.marks k = oneN (startLen N) o) (hp : Pth (labN N) A.arcs tr spot0 l ⟨tr.length, k⟩ c) (hm : Least1 (labN N) A.arcs tr ⟨tr.length, k⟩ c) : AlMeans N i o tr l c 0 :=
  ⟨fun e => absurd rfl e, fun e => absurd h e, fun _ e => by omega, fun _ _ => ⟨A, hs, hg, .inl ⟨rfl, k, hk, he, hp, hm⟩⟩⟩
end Go.Tok
namespace Go.Proofs.Ytkanaoebpajbfaa
open Go.RowKit Go.Tok
set_option linter.unusedVariables false
def RetAl (N : NetD) (i o : Int) (tr : List Int) (w : World) (e : Ending) (w' : World) : Prop :=
  ∃ v l c code, e = .returned (.tuple #[v, .int .i64 ((c : Nat) : Int), .int .i64 code]) ∧ Rd moveK w' v l ∧ Gr w w' ∧ AlMeans N i o tr l c code ∧ c ≤ 20000 ∧ l.length ≤ 20000
theorem RetAl.no {N : NetD} {i o : Int} {tr : List Int} {w w' : World} {x : Int} (h : AlMeans N i o tr [] 0 x) (g : Gr w w') : RetAl N i o tr w (.returned (.tuple #[.slice none 0 0, .int .i64 0, .int .i64 x])) w' := ⟨_, [], 0, x, rfl, Rd.nil _, g, h, by omega, by simp⟩
theorem marks_one {N : NetD} {i : Int} {A : SpaceD} (hg : graphF N (oneN (startLen N) i) 300 = (A, 0)) {j k : Nat} (hj : j < A.marks.length) (hk : k < A.marks.length) (h : ix A.marks j = ix A.marks k) : j = k := by
  obtain ⟨s, _, rfl, _, _, _, hW⟩ := search_of_graph hg
  exact hW.inj hj hk h
theorem AlS.other {N : NetD} {na : Option Addr} {nc : Nat} {A : SpaceD} {ma : Option Addr} {mc : Nat} {aa : Option Addr} {ac : Nat} {tr : List Int} {ta : Option Addr} {tc : Nat} {w0 w w' : World} {ab mb Y : Nat} {kvs : Kvs} (h : AlS N na nc A ma mc aa ac tr ta tc w0 ab mb w kvs) (g : w.grownBy w' (some Y)) (h1 : ab ≠ Y) (h2 : mb ≠ Y) (h3 : w0.heap.size ≤ Y) : AlS N na nc A ma mc aa ac tr ta tc w0 ab mb w' kvs :=
  ⟨h.blk.grown g (by simpa using h1), MAt.grown h.map g (by simpa using h2), h.gr.grown g fun k hk => by cases hk; exact h3, h.ne, h.mle, h.ale⟩
theorem AlS.rowO {N : NetD} {na : Option Addr} {nc : Nat} {A : SpaceD} {ma : Option Addr} {mc : Nat} {aa : Option Addr} {ac : Nat} {tr : List Int} {ta : Option Addr} {tc : Nat} {w0 w w' : World} {ab mb : Nat} {kvs : Kvs} {row : Option Nat} (h : AlS N na nc A ma mc aa ac tr ta tc w0 ab mb w kvs) (g : w.grownBy w' row) (h1 : some ab ≠ row) (h2 : some mb ≠ row) (h3 : ∀ k, row = some k → w0.heap.size ≤ k) : AlS N na nc A ma mc aa ac tr ta tc w0 ab mb w' kvs :=
  ⟨h.blk.grown g h1, MAt.grown h.map g h2, h.gr.grown g h3, h.ne, h.mle, h.ale⟩
theorem move_ok {N : NetD} {na : Option Addr} {nc : Nat} {A : SpaceD} {aa : Option Addr} {ac : Nat} {tr : List Int} {ta : Option Addr} {tc : Nat} {w0 : World} (G : AlG N na nc A aa ac tr ta tc w0) {s u : SpotD} {mv : MoveD} {e : Nat} (h : Mv (labN N) A.arcs tr s mv u e) : moveI mv := by
  have lb : ∀ m t m' : Nat, (⟨(m : Int), (t : Int), (m' : Int)⟩ : ArcD) ∈ A.arcs → I64 (nth (labN N) t) ∧ I64 (t : Int) := by
    intro m t m' hm
    obtain ⟨j, t', q, e, _, ht, _⟩ := G.ok _ hm
    simp only [ArcD.mk.injEq] at e
    have ht2 : t < N.trans.length := by omega
    have h1 := G.lab t ht2
    have h2 := G.nl
    rw [labN_nth ht2]
    unfold I64
    exact ⟨by omega, by omega⟩
  cases h with
  | skip h => exact ⟨by show I64 2; unfold I64; omega, G.trace.range _, by show I64 0; unfold I64; omega⟩
  | net h => exact ⟨by show I64 3; unfold I64; omega, lb _ _ _ h⟩
  | both h _ _ _ => exact ⟨by show I64 1; unfold I64; omega, lb _ _ _ h⟩
theorem set_grown (w : World) (c i : Nat) (u : Value) : w.grownBy (w.setCell ⟨c, i, none⟩ u) (some c) := ⟨rfl, rfl, rfl, by simp [World.setCell], fun k hk hne => Below.heap_setCell _ _ _ _ (by intro h; subst h; exact hne rfl)⟩
set_option maxRecDepth 100000 in
theorem run_eq_spot (a b c d : Int) (w : World) : (Op.equalIn 10000 160 (.agg #[.int .i64 a, .int .i64 b]) (.agg #[.int .i64 c, .int .i64 d])).run Try.prog w = .ok ((a == c) && (b == d)) w := by
  show (Op.equalIn (9998 + 1 + 1) 160 _ _).run Try.prog w = _
  rw [Op.equalIn]
  simp only [Sem.run_bind, run_underlying Try.underlying160, Result.andThen_ok]
  rcases h1 : a == c with _ | _ <;> rcases h2 : b == d with _ | _ <;>
    simp [go_sem, h1, h2, Try.underlying3, Try.sizeOf3]
theorem endC_calls (q p : Nat) (N : NetD) (o : Int) (m : List Int) (u : Value) {a : Option Addr} {cap : Nat} (w : World) (hN : NetR w (.agg #[.int .i64 N.places, .slice a N.trans.length cap]) N) (ho : I64 o) (h0 : w.cell? ⟨q, 0, none⟩ = some (.int .i64 N.places)) (h1 : w.cell? ⟨q, 1, none⟩ = some (.slice a N.trans.length cap)) (h2 : w.cell? ⟨p, 0, none⟩ = some (.int .i64 o)) (hu : Ints w u m) :
    Calls Try.prog 94 #[u, .pointer (some ⟨q, 0, none⟩), .pointer (some ⟨p, 0, none⟩)] w fun e w' => e = .returned (.bool (eqB m (oneN (startLen N) o))) ∧ Gr w w' := by
  obtain ⟨ua, uc, rfl, _, _⟩ := hu.len
  go_enter Try.func94, Try.ntmps94
  go_wp2_with fail
  refine (Start_calls _ N o _ hN ho).mono ?_
  rintro _ w1 ⟨v1, rfl, o1, g1⟩
  obtain ⟨sa, sc, rfl, _, _⟩ := o1.ints.len
  go_wp2_with fail
  refine (Equal_calls _ _ m (oneN (startLen N) o) _ (hu.gr g1) o1.ints).mono ?_
  rintro _ w2 ⟨rfl, g2⟩
  go_wp2_with fail
  go_ret
  exact ⟨rfl, g1.trans g2⟩
set_option maxHeartbeats 8000000 in
set_option maxRecDepth 100000 in
theorem Align_calls (v u : Value) (N : NetD) (i o : Int) (tr : List Int) (w : World) (hN : NetR w v N) (hi : I64 i) (ho : I64 o) (hu : Ints w u tr) :
    Calls Try.prog 39 #[v, .int .i64 i, .int .i64 o, u] w (RetAl N i o tr w) := by
  have hN' := hN
  obtain ⟨a, cap, rfl, hnl, hncap, hpl, hT⟩ := hN.open_
  have hpl1 := hpl.1
  have hpl2 := hpl.2
  obtain ⟨ta, tc, rfl, htc1, htc2⟩ := hu.len
  obtain ⟨wA, hwA⟩ : ∃ wA, wA = (w.alloc (.cells #[.int .i64 N.places, .slice a N.trans.length cap] 24)).alloc (.cells #[.int .i64 o] 3) := ⟨_, rfl⟩
  have GA : Gr w wA := by rw [hwA]; exact ((Gr.refl _).alloc _).alloc _
  have b0 : Blk wA w.heap.size 24 #[.int .i64 N.places, .slice a N.trans.length cap] := by rw [hwA]; exact (Blk.new rfl).gr ((Gr.refl _).alloc _)
  have bo : Blk wA (w.heap.size + 1) 3 #[.int .i64 o] := by rw [hwA]; exact Blk.new (by simp)
  have HWA := Lib.hid hwA
  clear hwA
  go_enter Try.func39, Try.ntmps39
  go_wp2_with fail
  rw [← HWA.out]
  refine (ShapeWrong_calls _ N i o _ (hN'.gr GA) hi ho).mono ?_
  rintro _ w1 ⟨rfl, g1⟩
  replace GA := GA.trans g1
  replace b0 := b0.gr g1
  replace bo := bo.gr g1
  clear g1 HWA
  by_cases hs0 : shapeC N i o = 0
  case neg =>
    have q1 : (shapeC N i o != 0) = true := by simpa using hs0
    have HC := Lib.hid (show AlMeans N i o tr [] 0 (shapeC N i o) by have := AlMeans.bad (tr := tr) (show hasErr N i o ≠ 0 by rw [hasErr_bad hs0]; exact hs0); rw [hasErr_bad hs0] at this; exact this)
    clear hs0 b0 bo
    go_wp2_with fail
    go_ret3
    exact RetAl.no HC.out GA
  case pos =>
    rw [hs0]
    have HS0 := Lib.hid hs0
    rcases hg : graphF N (oneN (startLen N) i) 300 with ⟨A, e⟩
    have HGR := Lib.hid hg
    have HC := Lib.hid (hasErr_ok hs0 hg)
    clear hs0
    have C0 := b0.cell (i := 0) rfl
    have C1 := b0.cell (i := 1) rfl
    have K1 := hN'.gr GA
    have hb0 := b0.lt
    have hbo := bo.lt
    go_upto_region 4 with fail
    go_cut [12, 13] (fun px ev wx => ∃ (X : Nat) (ma : Option Addr) (mc : Nat) (aa : Option Addr) (ac : Nat), px = .pointer (some ⟨X, 0, none⟩) ∧ ev = .int .i64 e ∧ Blk wx X 39 #[.slice ma A.marks.length mc, .slice aa A.arcs.length ac] ∧ SpaceR wx (.agg #[.slice ma A.marks.length mc, .slice aa A.arcs.length ac]) A ∧ Gr w1 wx)
    case first =>
      go_region_held3 (fun w' => w'.cell? ⟨w.heap.size, 0, none⟩ = some (.int .i64 N.places) ∧ w'.cell? ⟨w.heap.size, 1, none⟩ = some (.slice a N.trans.length cap)) (first | go_keep | ((refine ⟨cell_gr C0 ?_, cell_gr C1 ?_⟩); (all_goals (focus ((repeat (first | exact Gr.refl _ | assumption | apply Gr.drewN | apply Gr.drew | apply Gr.alloc | (refine Gr.setCell ?_ (by simp; try omega) _) | refine Gr.trans ?_ (by assumption))); done))))) (first | (go_at_call 71; (with_reducible refine (Start_calls _ N _ _ (K1.gr ?_) hi).mono ?_); ((focus ((repeat (first | exact Gr.refl _ | assumption | apply Gr.alloc | apply Gr.drew | apply Gr.drewN | refine Gr.trans ?_ (by assumption))); done))); rintro _ w3 ⟨v3, rfl, o3, g3⟩; obtain ⟨ia, ic, rfl, _, _⟩ := o3.ints.len; have hw3 := g3.le; (try simp at hw3); have hw3' : w1.heap.size ≤ w3.heap.size := (by omega); (first | have bsA : Blk w3 w1.heap.size 39 #[.slice none 0 0, .slice none 0 0] := (Blk.new (w := w1.drew) rfl).gr g3 | skip)) | (go_at_call 14; (with_reducible refine (Graph_own _ _ N (oneN (startLen N) i) 300 _ (K1.gr ?_) (o3.ints.gr ?_) (by decide)).mono ?_); ((focus ((repeat (first | exact Gr.refl _ | assumption | apply Gr.alloc | apply Gr.drew | apply Gr.drewN | refine Gr.trans ?_ (by assumption))); done))); ((focus ((repeat (first | exact Gr.refl _ | assumption | apply Gr.alloc | apply Gr.drew | apply Gr.drewN | refine Gr.trans ?_ (by assumption))); done))); rw [HGR.out]; rintro _ w4 ⟨v4, rfl, i4, g4⟩; obtain ⟨ma, mc, aa, ac, rfl, hc1, hc2, hc3, hc4, hM, hA⟩ := i4.now.open_; clear hM hA; have hw4 := g4.le; (try simp at hw4); have hw4' : w1.heap.size ≤ w4.heap.size := (by omega); (first | have bs := bsA.gr g4 | have bs : Blk w4 w3.heap.size 39 #[.slice none 0 0, .slice none 0 0] := (Blk.new (w := w3) rfl).gr g4 | have bs : Blk (w4.alloc (.cells #[.slice none 0 0, .slice none 0 0] 39)) w4.heap.size 39 #[.slice none 0 0, .slice none 0 0] := Blk.new rfl); have S0 := bs.cell (i := 0) rfl; have SF0 := bs.frozen 0; have bs1 := bs.set 0 (.slice ma A.marks.length mc); have S1 := bs1.cell (i := 1) rfl; have SF1 := bs1.frozen 1; have bs2 := bs1.set 1 (.slice aa A.arcs.length ac)))
      · have bS : Blk (w4.alloc (.cells #[.slice ma A.marks.length mc, .slice aa A.arcs.length ac] 39)) w4.heap.size 39 #[.slice ma A.marks.length mc, .slice aa A.arcs.length ac] := Blk.new rfl
        have hOn : SpaceR (w4.alloc (.cells #[.slice ma A.marks.length mc, .slice aa A.arcs.length ac] 39)) (.agg #[.slice ma A.marks.length mc, .slice aa A.arcs.length ac]) A := (i4.gr ((Gr.refl w4).alloc _)).now
        have GF : Gr w1 (w4.alloc (.cells #[.slice ma A.marks.length mc, .slice aa A.arcs.length ac] 39)) := by (repeat (first | exact Gr.refl _ | assumption | apply Gr.drewN | apply Gr.drew | apply Gr.alloc | (refine Gr.setCell ?_ (by simp; try omega) _) | refine Gr.trans ?_ (by assumption)))
        clear bs bs1 S0 S1 SF0 SF1 K1 C0 C1 o3 g4 i4
        generalize w4.alloc (.cells #[.slice ma A.marks.length mc, .slice aa A.arcs.length ac] 39) = wf at bS hOn GF ⊢
        generalize w4.heap.size = sb at bS ⊢
        go_wp2_with fail
        go_meet
        case rel => exact ⟨sb, ma, mc, aa, ac, rfl, rfl, bS, hOn, GF⟩
      · have bS : Blk ((w4.setCell ⟨w3.heap.size, 0, none⟩ (.slice ma A.marks.length mc)).setCell ⟨w3.heap.size, 1, none⟩ (.slice aa A.arcs.length ac)) w3.heap.size 39 #[.slice ma A.marks.length mc, .slice aa A.arcs.length ac] := bs2
        have hOn : SpaceR ((w4.setCell ⟨w3.heap.size, 0, none⟩ (.slice ma A.marks.length mc)).setCell ⟨w3.heap.size, 1, none⟩ (.slice aa A.arcs.length ac)) (.agg #[.slice ma A.marks.length mc, .slice aa A.arcs.length ac]) A := (i4.kp (Kp.trans (set_kp (by simp) _) (set_kp (by simp) _))).now
        have GF : Gr w1 ((w4.setCell ⟨w3.heap.size, 0, none⟩ (.slice ma A.marks.length mc)).setCell ⟨w3.heap.size, 1, none⟩ (.slice aa A.arcs.length ac)) := by (repeat (first | exact Gr.refl _ | assumption | apply Gr.drewN | apply Gr.drew | apply Gr.alloc | (refine Gr.setCell ?_ (by simp; try omega) _) | refine Gr.trans ?_ (by assumption)))
        clear bs bs1 S0 S1 SF0 SF1 K1 C0 C1 o3 g4 i4
        generalize (w4.setCell ⟨w3.heap.size, 0, none⟩ (.slice ma A.marks.length mc)).setCell ⟨w3.heap.size, 1, none⟩ (.slice aa A.arcs.length ac) = wf at bS hOn GF ⊢
        generalize w3.heap.size = sb at bS ⊢
        go_wp2_with fail
        go_meet
        case rel => exact ⟨sb, ma, mc, aa, ac, rfl, rfl, bS, hOn, GF⟩
      · have bS : Blk ((w4.setCell ⟨w1.heap.size, 0, none⟩ (.slice ma A.marks.length mc)).setCell ⟨w1.heap.size, 1, none⟩ (.slice aa A.arcs.length ac)) w1.heap.size 39 #[.slice ma A.marks.length mc, .slice aa A.arcs.length ac] := bs2
        have hOn : SpaceR ((w4.setCell ⟨w1.heap.size, 0, none⟩ (.slice ma A.marks.length mc)).setCell ⟨w1.heap.size, 1, none⟩ (.slice aa A.arcs.length ac)) (.agg #[.slice ma A.marks.length mc, .slice aa A.arcs.length ac]) A := (i4.kp (Kp.trans (set_kp (by simp; omega) _) (set_kp (by simp; omega) _))).now
        have GF : Gr w1 ((w4.setCell ⟨w1.heap.size, 0, none⟩ (.slice ma A.marks.length mc)).setCell ⟨w1.heap.size, 1, none⟩ (.slice aa A.arcs.length ac)) := by (repeat (first | exact Gr.refl _ | assumption | apply Gr.drewN | apply Gr.drew | apply Gr.alloc | (refine Gr.setCell ?_ (by simp; try omega) _) | refine Gr.trans ?_ (by assumption)))
        clear bs bs1 S0 S1 SF0 SF1 K1 C0 C1 o3 g4 i4
        generalize (w4.setCell ⟨w1.heap.size, 0, none⟩ (.slice ma A.marks.length mc)).setCell ⟨w1.heap.size, 1, none⟩ (.slice aa A.arcs.length ac) = wf at bS hOn GF ⊢
        generalize w1.heap.size = sb at bS ⊢
        go_wp2_with fail
        go_meet
        case rel => exact ⟨sb, ma, mc, aa, ac, rfl, rfl, bS, hOn, GF⟩
    case rest =>
      obtain ⟨X, ma, mc, aa, ac, rfl, rfl, bS, hOn, gF⟩ := hcut
      have GC := GA.trans gF
      by_cases he : e = 0
      case neg =>
        have q2 : (e != 0) = true := by simpa using he
        have HB := Lib.hid (show AlMeans N i o tr [] 0 e by have := AlMeans.bad (tr := tr) (show hasErr N i o ≠ 0 by rw [HC.out]; exact he); rw [HC.out] at this; exact this)
        clear he bS hOn C0 C1 K1
        go_wp2_with fail
        go_ret3
        exact RetAl.no HB.out GC
      case pos =>
        subst he
        by_cases hl : 60 < tr.length
        case pos =>
          have q1 : decide ((60 : Int) < (tr.length : Int)) = true := by simp; omega
          have q2 : (60 : Int) < (tr.length : Int) := by omega
          have HB := Lib.hid (AlMeans.long HC.out hl)
          clear hl bS hOn C0 C1 K1
          go_wp2_with fail
          go_ret3
          exact RetAl.no HB.out GC
        case neg =>
          have q1 : decide ((60 : Int) < (tr.length : Int)) = false := by simp; omega
          have q2 : ¬ (60 : Int) < (tr.length : Int) := by omega
          have htl : tr.length ≤ 60 := by omega
          have HK := Lib.hid (hasOk_mk HC.out HS0.out HGR.out)
          obtain ⟨vm, va, e1, hM, hAr⟩ := hOn
          simp only [Value.agg.injEq, Array.mk.injEq, List.cons.injEq, and_true] at e1
          obtain ⟨rfl, rfl⟩ := e1
          have S0 := bS.cell (i := 0) (v := .slice ma A.marks.length mc) rfl
          have bn := b0.gr gF
          have bo2 := bo.gr gF
          have D0 := bn.cell (i := 0) (v := .int .i64 N.places) rfl
          have D1 := bn.cell (i := 1) (v := .slice a N.trans.length cap) rfl
          have D2 := bo2.cell (i := 0) (v := .int .i64 o) rfl
          have EG1 : ∀ args w, (callFunc 94 args).run Try.prog w = .ok (.enter 94 args) w := (Go.Proofs.enters_of Try.func94 (by kernel_rfl) rfl)
          have hans : AnswersRow Try.prog 94 #[.pointer (some ⟨w.heap.size, 0, none⟩), .pointer (some ⟨w.heap.size + 1, 0, none⟩)] A.marks (fun m => eqB m (oneN (startLen N) o)) wc := fun W u x hx g hu => endC_calls _ _ N o x u W (hN'.gr (GC.trans g)) ho (cell_gr D0 g) (cell_gr D1 g) (cell_gr D2 g) hu
          clear C0 C1 K1 hl bo b0
          go_wp2_with fail
          refine (IndexFuncRow_calls _ A.marks _ _ _ _ EG1 hM hans).mono ?_
          rintro _ w5 ⟨rfl, g5⟩
          clear D0 D1 D2 hans EG1 S0
          by_cases hend : firstI (fun m => eqB m (oneN (startLen N) o)) A.marks < 0
          case pos =>
            have r1 : decide (firstI (fun m => eqB m (oneN (startLen N) o)) A.marks < 0) = true := by simpa using hend
            have HB := Lib.hid (AlMeans.none HC.out htl HS0.out HGR.out (fun k hk he => by have := firstI_no _ hend hk; rw [he, eqB_yes rfl] at this; cases this))
            have GZ := GC.trans g5
            clear hM hAr bn bo2
            generalize firstI (fun m => eqB m (oneN (startLen N) o)) A.marks = fe at hend r1 ⊢
            go_wp2_with fail
            go_ret3
            exact RetAl.no HB.out GZ
          case neg =>
            obtain ⟨k, hk, hfe, hkp⟩ := firstI_at (fun m => eqB m (oneN (startLen N) o)) A.marks (by omega)
            rw [hfe]
            clear hfe hend
            have hkg := (eqB_iff _ _).1 hkp
            have r1 : decide ((k : Int) < 0) = false := by simp
            have r2 : ¬ (k : Int) < 0 := by omega
            have GZ := GC.trans g5
            have bS5 := bS.gr g5
            have bn5 := bn.gr g5
            have hM5 := hM.gr g5
            have hA5 := hAr.gr g5
            have hN5 := hN'.gr GZ
            have hT5 := hT.gr GZ
            have hU5 := hu.gr GZ
            clear bS bn hM hAr bo2 g5 GC GA hb0 hbo gF hkp
            have hN0 : 0 < A.marks.length := HK.out.n0
            have hXlt := bS5.lt
            have hwlt := bn5.lt
            have GM : Gr w5 (w5.alloc (.map #[] 0)) := (Gr.refl _).alloc _
            obtain ⟨f, hf⟩ := fn_of (w := w5.alloc (.map #[] 0)) (fun w' g => AMap.offer (kvs := []) (MAt.gr (MAt.new (P := Try.prog) (k := 160) w5) g) (s := spot0) (by decide) stp0 (.inl rfl))
            unfold spotV stpV stp0 spot0 at hf
            simp only [Int.cast_ofNat_Int] at hf
            have HF := Lib.hid hf
            have KS := Lib.hid (show ∀ w', Gr w5 w' → w'.cell? ⟨w.heap.size, 0, none⟩ = some (.int .i64 N.places) ∧ w'.cell? ⟨w.heap.size, 1, none⟩ = some (.slice a N.trans.length cap) ∧ w'.cell? ⟨X, 0, none⟩ = some (.slice ma A.marks.length mc) ∧ w'.cell? ⟨X, 1, none⟩ = some (.slice aa A.arcs.length ac) from fun w' g => ⟨(bn5.gr g).cell (i := 0) rfl, (bn5.gr g).cell (i := 1) rfl, (bS5.gr g).cell (i := 0) rfl, (bS5.gr g).cell (i := 1) rfl⟩)
            have KU := Lib.hid (show ∀ w', Gr (w5.alloc (.map #[] 0)) w' → Gr w5 (f w') from fun w' g => (GM.trans g).grown (hf w' g).2.1.grown fun k hk => by cases hk; exact Nat.le_refl _)
            have k1 := (hf (w5.alloc (.map #[] 0)).drew ((Gr.refl _).drew)).1
            have k2 := (hf ((w5.alloc (.map #[] 0)).alloc (.cells #[.int .i64 N.places, .slice a N.trans.length cap, .slice ma A.marks.length mc, .slice aa A.arcs.length ac, .slice ta tr.length tc, .map (some w5.heap.size)] 167)).drew (((Gr.refl _).alloc _).drew)).1
            have hmm := @run_makeMap Try.prog

            have L1 := Lib.hid (show AlS N a cap A ma mc aa ac tr ta tc w5 (f (w5.alloc (.map #[] 0)).drew).heap.size w5.heap.size ((f (w5.alloc (.map #[] 0)).drew).alloc (.cells #[.int .i64 N.places, .slice a N.trans.length cap, .slice ma A.marks.length mc, .slice aa A.arcs.length ac, .slice ta tr.length tc, .map (some w5.heap.size)] 167)) [(spot0, stp0)] by
              have hh := hf (w5.alloc (.map #[] 0)).drew ((Gr.refl _).drew)
              have hz : (f (w5.alloc (.map #[] 0)).drew).heap.size = w5.heap.size + 1 := by rw [hh.2.1.2.2.2.1]; simp
              have g6 : Gr w5 (f (w5.alloc (.map #[] 0)).drew) := KU.out _ ((Gr.refl _).drew)
              exact ⟨Blk.new rfl, MAt.gr hh.2.2 ((Gr.refl _).alloc _), g6.alloc _, by omega, Nat.le_refl _, by omega⟩)
            have L2 := Lib.hid (show AlS N a cap A ma mc aa ac tr ta tc w5 (w5.heap.size + 1) w5.heap.size (f ((w5.alloc (.map #[] 0)).alloc (.cells #[.int .i64 N.places, .slice a N.trans.length cap, .slice ma A.marks.length mc, .slice aa A.arcs.length ac, .slice ta tr.length tc, .map (some w5.heap.size)] 167)).drew) [(spot0, stp0)] by
              have hh := hf ((w5.alloc (.map #[] 0)).alloc (.cells #[.int .i64 N.places, .slice a N.trans.length cap, .slice ma A.marks.length mc, .slice aa A.arcs.length ac, .slice ta tr.length tc, .map (some w5.heap.size)] 167)).drew (((Gr.refl _).alloc _).drew)
              have g6 : Gr w5 (f ((w5.alloc (.map #[] 0)).alloc (.cells #[.int .i64 N.places, .slice a N.trans.length cap, .slice ma A.marks.length mc, .slice aa A.arcs.length ac, .slice ta tr.length tc, .map (some w5.heap.size)] 167)).drew) := KU.out _ (((Gr.refl _).alloc _).drew)
              have hb : Blk ((w5.alloc (.map #[] 0)).alloc (.cells #[.int .i64 N.places, .slice a N.trans.length cap, .slice ma A.marks.length mc, .slice aa A.arcs.length ac, .slice ta tr.length tc, .map (some w5.heap.size)] 167)).drew (w5.heap.size + 1) 167 #[.int .i64 N.places, .slice a N.trans.length cap, .slice ma A.marks.length mc, .slice aa A.arcs.length ac, .slice ta tr.length tc, .map (some w5.heap.size)] := (Blk.new (by simp)).gr ((Gr.refl _).drew)
              exact ⟨hb.grown hh.2.1.grown (by simp), hh.2.2, g6, by omega, Nat.le_refl _, by omega⟩)
            clear hf
            go_upto_region 12 with fail
            go_cut [15] (fun pa wx => ∃ ab mb : Nat, pa = .pointer (some ⟨ab, 0, none⟩) ∧ AlS N a cap A ma mc aa ac tr ta tc w5 ab mb wx [(spot0, stp0)])
            case first =>
              go_region_held3 (fun w' => w'.cell? ⟨w.heap.size, 0, none⟩ = some (.int .i64 N.places) ∧ w'.cell? ⟨w.heap.size, 1, none⟩ = some (.slice a N.trans.length cap) ∧ w'.cell? ⟨X, 0, none⟩ = some (.slice ma A.marks.length mc) ∧ w'.cell? ⟨X, 1, none⟩ = some (.slice aa A.arcs.length ac)) (first | ((refine KS.out _ ?_); ((focus ((repeat (first | exact Gr.refl _ | assumption | apply Gr.alloc | apply Gr.drew | apply Gr.drewN | refine Gr.trans ?_ (by assumption))); done)))) | ((refine KS.out _ (KU.out _ ?_)); ((focus ((repeat (first | exact Gr.refl _ | assumption | apply Gr.alloc | apply Gr.drew | apply Gr.drewN | refine Gr.trans ?_ (by assumption))); done)))) | ((refine KS.out _ (Gr.drew (KU.out _ ?_))); ((focus ((repeat (first | exact Gr.refl _ | assumption | apply Gr.alloc | apply Gr.drew | apply Gr.drewN | refine Gr.trans ?_ (by assumption))); done)))) | ((refine KS.out _ (Gr.drew (Gr.alloc (KU.out _ ?_) _))); ((focus ((repeat (first | exact Gr.refl _ | assumption | apply Gr.alloc | apply Gr.drew | apply Gr.drewN | refine Gr.trans ?_ (by assumption))); done)))) | go_keep) (fail)
              all_goals (
                go_wp2_with fail
                go_meet
                first | (case rel => exact ⟨_, w5.heap.size, rfl, L1.out⟩) | (case rel => exact ⟨_, w5.heap.size, rfl, L2.out⟩))
            case rest =>
              obtain ⟨ab, mb, rfl, hS0⟩ := hcut
              clear L1 L2 k1 k2 hmm KU KS HF GM
              have GB : Gr wc (wc.alloc (.cells #[.int .i64 (tr.length : Int), .int .i64 (k : Int)] 160)) := (Gr.refl _).alloc _
              have bg0 : Blk (wc.alloc (.cells #[.int .i64 (tr.length : Int), .int .i64 (k : Int)] 160)) wc.heap.size 160 #[.int .i64 (tr.length : Int), .int .i64 (k : Int)] := Blk.new rfl
              have hS1 := hS0.gr' GB
              have hgmb : wc.heap.size ≠ mb := by have := hS0.map.lt; omega
              have hgle := hS0.gr.le
              have HGEN := Lib.hid (show AlG N a cap A aa ac tr ta tc w5 from ⟨hT5, hA5, hU5, by have := HK.out.arcs; rw [labN_len] at this; exact this, by
                obtain ⟨s, h1, _, h2, h3, h4, hW⟩ := search_of_graph HGR.out
                obtain ⟨_, _, _, _, hO⟩ := shape_ok HS0.out
                intro t ht
                exact ⟨(netOk_tr hO.ok ht).lab0, (netOk_tr hO.ok ht).lab1⟩, htl, HK.out.nl, HK.out.al, htc1, hnl, by
                obtain ⟨s, h1, _, h2, h3, h4, hW⟩ := search_of_graph HGR.out
                exact (fits_sizes h4).1⟩)
              clear hS0 GB hT5 hA5 hU5
              go_wp2_with fail
              generalize wc.heap.size = gb at bg0 hgmb hgle ⊢
              go_loopg [18] ((tr.length + 1) * A.marks.length + 1) (fun f bv wr => ∃ kvs D, AlS N a cap A ma mc aa ac tr ta tc w5 ab mb wr kvs ∧ AInv (labN N) A.arcs tr kvs D ∧ Clo (labN N) A.arcs tr kvs D ∧ OkS A.marks.length tr.length kvs ∧ (⟨tr.length, k⟩ : SpotD) ∉ D ∧ Blk wr gb 160 #[.int .i64 (tr.length : Int), .int .i64 (k : Int)] ∧ D.length + f = (tr.length + 1) * A.marks.length + 1)
              case atStart => exact ⟨_, [], hS1, AInv.start, (fun s hs => by cases hs), OkS.start hN0, by simp, bg0, by simp⟩
              case round =>
                clear hS1 bg0
                rename World => wr
                obtain ⟨kvs, D, hS, hI, hCl, hO, hgD, bg, hf⟩ := hrel
                have hfew := hI.few hO
                obtain ⟨f, rfl⟩ : ∃ f, gk = f + 1 := ⟨gk - 1, by omega⟩
                have hmarks := HK.out.nl
                have hbig : (tr.length + 1) * A.marks.length ≤ 61 * 300 := Nat.mul_le_mul (by omega) hmarks
                have hsm : ∀ s x, lookF kvs s = some x → s.seen ≤ 1000000 ∧ s.mark ≤ 1000000 := fun s x hx => by have := hO s x hx; omega
                go_wp2_with fail
                refine (nearest_calls hS hI.zero_look hsm).mono ?_
                rintro _ w6 ⟨b, sm, rfl, g6, hA⟩
                rcases hA with ⟨rfl, hall⟩ | ⟨rfl, x, hx, hxf, hmin⟩
                · have HB := Lib.hid (AlMeans.none HC.out htl HS0.out HGR.out (fun k' hk' he l c => by
                    have hkk : k' = k := marks_one HGR.out hk' hk (he.trans hkg.symm)
                    subst hkk
                    exact hI.none hCl hgD hall l c))
                  have GZZ := (GZ.trans hS.gr).trans g6
                  clear hI hCl hO hS bg hfew hbig hsm hf hall
                  go_wp2_with fail
                  go_ret3
                  exact RetAl.no HB.out (by (repeat (first | exact Gr.refl _ | assumption | apply Gr.drewN | apply Gr.drew | apply Gr.alloc | (refine Gr.setCell ?_ (by simp; try omega) _) | refine Gr.trans ?_ (by assumption))))
                · have hb := hO b x hx
                  have hbD := hI.not_in hx hxf
                  have hmore := hI.more hO hx hbD
                  have hS6 := hS.gr' g6
                  have bg6 := bg.gr g6
                  obtain ⟨w7, hw7⟩ : ∃ w7, w7 = w6.alloc (.cells #[.int .i64 (b.seen : Int), .int .i64 (b.mark : Int)] 160) := ⟨_, rfl⟩
                  have G7 : Gr w6 w7 := by rw [hw7]; exact (Gr.refl _).alloc _
                  have bb : Blk w7 w6.heap.size 160 #[.int .i64 (b.seen : Int), .int .i64 (b.mark : Int)] := by rw [hw7]; exact Blk.new rfl
                  have hS7 := hS6.gr' G7
                  have bg7 := bg6.gr G7
                  have c5 := hS7.blk.cell (i := 5) (v := .map (some mb)) rfl
                  have s0 := bb.cell (i := 0) (v := .int .i64 (b.seen : Int)) rfl
                  have s1 := bb.cell (i := 1) (v := .int .i64 (b.mark : Int)) rfl
                  have hbk : b.seen ≤ 1000000 ∧ b.mark ≤ 1000000 := hsm b x hx
                  obtain ⟨l, hkey⟩ := spot_key b hbk.1 hbk.2
                  have HL : ∀ w', Gr w7 w' → (Instr.lookup 165 (.map (some mb)) (.agg #[.int .i64 (b.seen : Int), .int .i64 (b.mark : Int)]) false).run Try.prog w' = .ok (.agg #[.int .i64 (x.cost : Int), .int .i64 (x.src.seen : Int), .int .i64 (x.src.mark : Int), .int .i64 x.move.kind, .int .i64 x.move.label, .int .i64 x.move.tran, .bool x.fin]) w' := fun w' gg => (MAt.gr hS7.map gg).look_yes spotKeyed Try.underlying165 hkey (kvV_mem hx)
                  have l0 := HL w7.drew ((Gr.refl _).drew)
                  have KS := Lib.hid (show ∀ w', Gr w7 w' → w'.cell? ⟨ab, 5, none⟩ = some (.map (some mb)) ∧ w'.cell? ⟨w6.heap.size, 0, none⟩ = some (.int .i64 (b.seen : Int)) ∧ w'.cell? ⟨w6.heap.size, 1, none⟩ = some (.int .i64 (b.mark : Int)) ∧ (Instr.lookup 165 (.map (some mb)) (.agg #[.int .i64 (b.seen : Int), .int .i64 (b.mark : Int)]) false).run Try.prog w' = .ok (.agg #[.int .i64 (x.cost : Int), .int .i64 (x.src.seen : Int), .int .i64 (x.src.mark : Int), .int .i64 x.move.kind, .int .i64 x.move.label, .int .i64 x.move.tran, .bool x.fin]) w' from fun w' g => ⟨cell_gr c5 g, cell_gr s0 g, cell_gr s1 g, HL w' g⟩)
                  have hmlt := hS6.map.lt
                  have halt := hS6.blk.lt
                  have h65 := hS6.gr.le
                  have HXF := Lib.hid hxf
                  clear hkey HL hS hS6 bg bg6 g6 hsm hxf
                  go_upto_region 17 with fail
                  rw [← hw7]
                  clear hw7
                  go_cut [19] (fun px wx => ∃ Y : Nat, px = .pointer (some ⟨Y, 0, none⟩) ∧ Y ≠ mb ∧ Y ≠ ab ∧ Y ≠ gb ∧ Y ≠ w6.heap.size ∧ w5.heap.size ≤ Y ∧ Blk wx Y 164 #[.int .i64 (x.cost : Int), .int .i64 (x.src.seen : Int), .int .i64 (x.src.mark : Int), .int .i64 x.move.kind, .int .i64 x.move.label, .int .i64 x.move.tran, .bool x.fin] ∧ Gr w7 wx)
                  case first =>
                    have h7 := G7.le
                    have hbl := bb.lt
                    have hgl := bg7.lt
                    have hYY := Lib.hid (show w7.heap.size ≠ mb ∧ w7.heap.size ≠ ab ∧ w7.heap.size ≠ gb ∧ w7.heap.size ≠ w6.heap.size ∧ w5.heap.size ≤ w7.heap.size by omega)
                    clear h7 hbl hgl hmlt halt h65
                    go_region_held3 (fun w' => w'.cell? ⟨ab, 5, none⟩ = some (.map (some mb)) ∧ w'.cell? ⟨w6.heap.size, 0, none⟩ = some (.int .i64 (b.seen : Int)) ∧ w'.cell? ⟨w6.heap.size, 1, none⟩ = some (.int .i64 (b.mark : Int)) ∧ (Instr.lookup 165 (.map (some mb)) (.agg #[.int .i64 (b.seen : Int), .int .i64 (b.mark : Int)]) false).run Try.prog w' = .ok (.agg #[.int .i64 (x.cost : Int), .int .i64 (x.src.seen : Int), .int .i64 (x.src.mark : Int), .int .i64 x.move.kind, .int .i64 x.move.label, .int .i64 x.move.tran, .bool x.fin]) w') (first | ((refine KS.out _ ?_); ((focus ((repeat (first | exact Gr.refl _ | assumption | apply Gr.alloc | apply Gr.drew | apply Gr.drewN | refine Gr.trans ?_ (by assumption))); done)))) | go_keep) (fail)
                    all_goals (
                      have hbb : Blk (w7.alloc (.cells #[.int .i64 (x.cost : Int), .int .i64 (x.src.seen : Int), .int .i64 (x.src.mark : Int), .int .i64 x.move.kind, .int .i64 x.move.label, .int .i64 x.move.tran, .bool x.fin] 164)).drew w7.heap.size 164 #[.int .i64 (x.cost : Int), .int .i64 (x.src.seen : Int), .int .i64 (x.src.mark : Int), .int .i64 x.move.kind, .int .i64 x.move.label, .int .i64 x.move.tran, .bool x.fin] := (Blk.new rfl).gr ((Gr.refl _).drew)
                      have hgg : Gr w7 (w7.alloc (.cells #[.int .i64 (x.cost : Int), .int .i64 (x.src.seen : Int), .int .i64 (x.src.mark : Int), .int .i64 x.move.kind, .int .i64 x.move.label, .int .i64 x.move.tran, .bool x.fin] 164)).drew := ((Gr.refl _).alloc _).drew
                      go_wp2_with fail
                      go_meet
                      case rel => exact ⟨_, rfl, hYY.out.1, hYY.out.2.1, hYY.out.2.2.1, hYY.out.2.2.2.1, hYY.out.2.2.2.2, hbb, hgg⟩)
                  case rest =>
                    obtain ⟨Y, rfl, hY1, hY2, hY3, hY4, hY5, bY, gY⟩ := hcut
                    have hSc := hS7.gr' gY
                    have bbc := bb.gr gY
                    have bgc := bg7.gr gY
                    have f6 := bY.frozen 6
                    have y6 := bY.cell (i := 6) (v := .bool x.fin) rfl
                    have bY6 := bY.set 6 (.bool true)
                    have gs := set_grown wc Y 6 (.bool true)
                    have hS8 := hSc.other gs hY2.symm hY1.symm hY5
                    have bb8 := bbc.grown gs (by simpa using hY4.symm)
                    have bg8 := bgc.grown gs (by simpa using hY3.symm)
                    clear KS l0 c5 s0 s1 hS7 bb bg7 hSc bbc bgc gs gY
                    obtain ⟨w8, hw8⟩ : ∃ w8, w8 = wc.setCell ⟨Y, 6, none⟩ (.bool true) := ⟨_, rfl⟩
                    rw [← hw8] at bY6 hS8 bb8 bg8
                    obtain ⟨fn, hfn⟩ := fn_of (w := w8) (fun w' g => AMap.setOld (MAt.gr hS8.map g) hbk hx { x with fin := true })
                    unfold spotV stpV at hfn
                    have r0 := (hfn w8.drew ((Gr.refl _).drew)).1
                    simp only [] at r0
                    have HFN := Lib.hid hfn
                    have n1 : w6.heap.size ≠ mb := by omega
                    have bY8 : Blk w8 Y 164 #[.int .i64 (x.cost : Int), .int .i64 (x.src.seen : Int), .int .i64 (x.src.mark : Int), .int .i64 x.move.kind, .int .i64 x.move.label, .int .i64 x.move.tran, .bool true] := bY6
                    have KT := Lib.hid (show ∀ w', Gr w8 w' → w'.cell? ⟨ab, 5, none⟩ = some (.map (some mb)) ∧ w'.cell? ⟨w6.heap.size, 0, none⟩ = some (.int .i64 (b.seen : Int)) ∧ w'.cell? ⟨w6.heap.size, 1, none⟩ = some (.int .i64 (b.mark : Int)) ∧ w'.cell? ⟨Y, 0, none⟩ = some (.int .i64 (x.cost : Int)) ∧ w'.cell? ⟨Y, 1, none⟩ = some (.int .i64 (x.src.seen : Int)) ∧ w'.cell? ⟨Y, 2, none⟩ = some (.int .i64 (x.src.mark : Int)) ∧ w'.cell? ⟨Y, 3, none⟩ = some (.int .i64 x.move.kind) ∧ w'.cell? ⟨Y, 4, none⟩ = some (.int .i64 x.move.label) ∧ w'.cell? ⟨Y, 5, none⟩ = some (.int .i64 x.move.tran) ∧ w'.cell? ⟨Y, 6, none⟩ = some (.bool true) from fun w' g => ⟨(hS8.blk.gr g).cell (i := 5) rfl, (bb8.gr g).cell (i := 0) rfl, (bb8.gr g).cell (i := 1) rfl, (bY8.gr g).cell (i := 0) rfl, (bY8.gr g).cell (i := 1) rfl, (bY8.gr g).cell (i := 2) rfl, (bY8.gr g).cell (i := 3) rfl, (bY8.gr g).cell (i := 4) rfl, (bY8.gr g).cell (i := 5) rfl, (bY8.gr g).cell (i := 6) rfl⟩)
                    have KU := Lib.hid (show ∀ w', Gr w8 w' → (fn w').cell? ⟨ab, 5, none⟩ = some (.map (some mb)) ∧ (fn w').cell? ⟨w6.heap.size, 0, none⟩ = some (.int .i64 (b.seen : Int)) ∧ (fn w').cell? ⟨w6.heap.size, 1, none⟩ = some (.int .i64 (b.mark : Int)) ∧ (fn w').cell? ⟨Y, 0, none⟩ = some (.int .i64 (x.cost : Int)) ∧ (fn w').cell? ⟨Y, 1, none⟩ = some (.int .i64 (x.src.seen : Int)) ∧ (fn w').cell? ⟨Y, 2, none⟩ = some (.int .i64 (x.src.mark : Int)) ∧ (fn w').cell? ⟨Y, 3, none⟩ = some (.int .i64 x.move.kind) ∧ (fn w').cell? ⟨Y, 4, none⟩ = some (.int .i64 x.move.label) ∧ (fn w').cell? ⟨Y, 5, none⟩ = some (.int .i64 x.move.tran) ∧ (fn w').cell? ⟨Y, 6, none⟩ = some (.bool true) from fun w' g => by
                      have g2 := (hfn w' g).2.1.grown
                      exact ⟨((hS8.blk.gr g).grown g2 (by simpa using hS8.ne)).cell (i := 5) rfl, ((bb8.gr g).grown g2 (by simpa using n1)).cell (i := 0) rfl, ((bb8.gr g).grown g2 (by simpa using n1)).cell (i := 1) rfl, ((bY8.gr g).grown g2 (by simpa using hY1)).cell (i := 0) rfl, ((bY8.gr g).grown g2 (by simpa using hY1)).cell (i := 1) rfl, ((bY8.gr g).grown g2 (by simpa using hY1)).cell (i := 2) rfl, ((bY8.gr g).grown g2 (by simpa using hY1)).cell (i := 3) rfl, ((bY8.gr g).grown g2 (by simpa using hY1)).cell (i := 4) rfl, ((bY8.gr g).grown g2 (by simpa using hY1)).cell (i := 5) rfl, ((bY8.gr g).grown g2 (by simpa using hY1)).cell (i := 6) rfl⟩)
                    have KP := Lib.hid (show AlS N a cap A ma mc aa ac tr ta tc w5 ab mb (fn w8.drew) (setF kvs b { x with fin := true }) ∧ Blk (fn w8.drew) w6.heap.size 160 #[.int .i64 (b.seen : Int), .int .i64 (b.mark : Int)] ∧ Blk (fn w8.drew) gb 160 #[.int .i64 (tr.length : Int), .int .i64 (k : Int)] by
                      have hh := hfn w8.drew ((Gr.refl _).drew)
                      exact ⟨(hS8.gr' ((Gr.refl _).drew)).put hh.2.1.grown hh.2.2, (bb8.gr ((Gr.refl _).drew)).grown hh.2.1.grown (by simpa using n1), (bg8.gr ((Gr.refl _).drew)).grown hh.2.1.grown (by simpa using hgmb)⟩)
                    clear hfn bY bY6 bY8 bb8 bg8 hS8 n1
                    go_upto_region 19 with fail
                    rw [← hw8]
                    clear hw8 f6 y6
                    go_cut [19] (fun px wx => px = .pointer (some ⟨Y, 0, none⟩) ∧ AlS N a cap A ma mc aa ac tr ta tc w5 ab mb wx (setF kvs b { x with fin := true }) ∧ Blk wx w6.heap.size 160 #[.int .i64 (b.seen : Int), .int .i64 (b.mark : Int)] ∧ Blk wx gb 160 #[.int .i64 (tr.length : Int), .int .i64 (k : Int)])
                    case first =>
                      go_region_held3 (fun w' => w'.cell? ⟨ab, 5, none⟩ = some (.map (some mb)) ∧ w'.cell? ⟨w6.heap.size, 0, none⟩ = some (.int .i64 (b.seen : Int)) ∧ w'.cell? ⟨w6.heap.size, 1, none⟩ = some (.int .i64 (b.mark : Int)) ∧ w'.cell? ⟨Y, 0, none⟩ = some (.int .i64 (x.cost : Int)) ∧ w'.cell? ⟨Y, 1, none⟩ = some (.int .i64 (x.src.seen : Int)) ∧ w'.cell? ⟨Y, 2, none⟩ = some (.int .i64 (x.src.mark : Int)) ∧ w'.cell? ⟨Y, 3, none⟩ = some (.int .i64 x.move.kind) ∧ w'.cell? ⟨Y, 4, none⟩ = some (.int .i64 x.move.label) ∧ w'.cell? ⟨Y, 5, none⟩ = some (.int .i64 x.move.tran) ∧ w'.cell? ⟨Y, 6, none⟩ = some (.bool true)) (first | ((refine KT.out _ ?_); ((focus ((repeat (first | exact Gr.refl _ | assumption | apply Gr.alloc | apply Gr.drew | apply Gr.drewN | refine Gr.trans ?_ (by assumption))); done)))) | ((refine KU.out _ ?_); ((focus ((repeat (first | exact Gr.refl _ | assumption | apply Gr.alloc | apply Gr.drew | apply Gr.drewN | refine Gr.trans ?_ (by assumption))); done)))) | go_keep) (fail)
                      all_goals (
                        go_wp2_with fail
                        go_meet
                        case rel => exact ⟨rfl, KP.out.1, KP.out.2.1, KP.out.2.2⟩)
                    case rest =>
                      obtain ⟨rfl, hS9, bb9, bg9⟩ := hcut
                      clear KT KU KP r0 HFN
                      have hxf := HXF.out
                      have LG := Lib.hid (hI.leaveG A.marks.length hx hxf)
                      have HI9 := Lib.hid (hI.pop hx hxf hmin)
                      have HO9 := Lib.hid (hO.set (s := b) (x := { x with fin := true }))
                      have HCP := Lib.hid (hCl.pop hx hbD)
                      have HLM := Lib.hid (fun (e : b = ⟨tr.length, k⟩) => hI.least hCl (goal := ⟨tr.length, k⟩) (x := x) (by rw [← e]; exact hx) hmin)
                      have HGD := Lib.hid hgD
                      have HX := Lib.hid hx
                      have b0' := bb9.cell (i := 0) (v := .int .i64 (b.seen : Int)) rfl
                      have b1' := bb9.cell (i := 1) (v := .int .i64 (b.mark : Int)) rfl
                      have g0' := bg9.cell (i := 0) (v := .int .i64 (tr.length : Int)) rfl
                      have g1' := bg9.cell (i := 1) (v := .int .i64 (k : Int)) rfl
                      clear hI hO hCl hmin hgD hx hxf HXF
                      by_cases hbg : b = ⟨tr.length, k⟩
                      case neg =>
                        have heq : ∀ w, (Op.equalIn 10000 160 (.agg #[.int .i64 (b.seen : Int), .int .i64 (b.mark : Int)]) (.agg #[.int .i64 (tr.length : Int), .int .i64 (k : Int)])).run Try.prog w = .ok false w := fun w => by
                          rw [run_eq_spot]
                          have : ((b.seen : Int) == (tr.length : Int) && ((b.mark : Int) == (k : Int))) = false := by
                            rw [Bool.eq_false_iff]
                            intro h
                            rw [Bool.and_eq_true, beq_iff_eq, beq_iff_eq] at h
                            exact hbg (by obtain ⟨p, q⟩ := b; simp only [SpotD.mk.injEq]; simp at h; omega)
                          rw [this]
                        have HBG := Lib.hid hbg
                        clear hbg
                        go_wp2_with fail
                        refine (leave_calls b { x with fin := true } hS9 HGEN.out LG.out HI9.out HO9.out (by simp; omega)).mono ?_
                        rintro _ wl ⟨rfl, kv', h10, hL, g10⟩
                        have HL10 := Lib.hid hL
                        have bg10 := bg9.grown g10 (by simpa using hgmb)
                        have HCL := Lib.hid (hL.done LG.out (fun D0 hD => by
                          have : D0 = D := List.append_cancel_right hD.symm
                          rw [this]; exact HCP.out) rfl)
                        clear hL b0' b1' g0' g1' hS9 bb9 bg9 heq g10
                        go_wp2_with fail
                        go_roundg f
                        case measure => omega
                        case rel => exact ⟨kv', D ++ [b], h10, HL10.out.inv, HCL.out, HL10.out.ok, (fun h => by
                          rcases List.mem_append.1 h with h | h
                          · exact HGD.out h
                          · exact HBG.out (List.mem_singleton.1 h).symm), bg10, by simp; omega⟩
                      case pos =>
                        have heq : ∀ w, (Op.equalIn 10000 160 (.agg #[.int .i64 (b.seen : Int), .int .i64 (b.mark : Int)]) (.agg #[.int .i64 (tr.length : Int), .int .i64 (k : Int)])).run Try.prog w = .ok true w := fun w => by
                          rw [run_eq_spot, hbg]; simp
                        have HLE := Lib.hid (HLM.out hbg)
                        have hbg2 := Lib.hid hbg
                        clear hbg
                        have hgl : lookF (setF kvs b { x with fin := true }) ⟨tr.length, k⟩ = some { x with fin := true } := by rw [← hbg2.out, look_set, if_pos rfl, HX.out]; rfl
                        have hgD9 : (⟨tr.length, k⟩ : SpotD) ∈ D ++ [b] := by rw [← hbg2.out]; simp
                        obtain ⟨kv9, hkv⟩ : ∃ kv, kv = setF kvs b { x with fin := true } := ⟨_, rfl⟩
                        obtain ⟨D9, hD9⟩ : ∃ E, E = D ++ [b] := ⟨_, rfl⟩
                        obtain ⟨cg, hcg⟩ : ∃ c, c = x.cost := ⟨_, rfl⟩
                        rw [← hkv] at hS9 hgl
                        rw [← hD9] at hgD9
                        have HBK := Lib.hid (BackI.start (lab := labN N) (arcs := A.arcs) (tr := tr) hgD9 hgl)
                        have HI := Lib.hid (show AInv (labN N) A.arcs tr kv9 D9 by rw [hkv, hD9]; exact HI9.out)
                        have HO := Lib.hid (show OkS A.marks.length tr.length kv9 by rw [hkv]; exact HO9.out)
                        have HLS := Lib.hid (show Least1 (labN N) A.arcs tr ⟨tr.length, k⟩ cg by rw [hcg]; exact HLE.out)
                        have hDl : D9.length ≤ 61 * 300 := by rw [hD9]; simp; omega
                        rw [show ({ x with fin := true } : StpD).cost = cg from hcg.symm] at HBK
                        have HGL := Lib.hid (show ∃ xg, lookF kv9 ⟨tr.length, k⟩ = some xg ∧ xg.cost = cg from ⟨_, hgl, hcg.symm⟩)
                        have HCB := Lib.hid (show cg ≤ 20000 by have h1 := LG.out.le; rw [← hD9] at h1; simp only [] at h1; omega)
                        clear LG HI9 HO9 HCP HLM HGD HX HLE hbg2 hkv hD9 hcg hgl bb9 hf hfew hmore hY1 hY2 hY3 hY4 hY5 hb hbD hbk h65 halt hmlt
                        have GP : Gr wc (wc.alloc (.cells #[.int .i64 (tr.length : Int), .int .i64 (k : Int)] 160)) := (Gr.refl _).alloc _
                        have bP : Blk (wc.alloc (.cells #[.int .i64 (tr.length : Int), .int .i64 (k : Int)] 160)) wc.heap.size 160 #[.int .i64 (tr.length : Int), .int .i64 (k : Int)] := Blk.new rfl
                        have hSP := hS9.gr' GP
                        have bgP := bg9.gr GP
                        have hzm := hS9.map.lt
                        have hza := hS9.blk.lt
                        have hzg := bg9.lt
                        have HWZ := Lib.hid hS9.gr.le
                        go_wp2_with fail
                        clear hS9 bg9 g0' g1' b0' b1' GP heq
                        go_loopg [20, 21] (D9.idxOf ⟨tr.length, k⟩ + 1) (fun f ov pv wr => ∃ out at_ P, pv = .pointer (some ⟨P, 0, none⟩) ∧ OwnR moveK 162 wc.heap.size (fun _ => False) wr ov out ∧ Blk wr P 160 #[.int .i64 ((at_ : SpotD).seen : Int), .int .i64 (at_.mark : Int)] ∧ AlS N a cap A ma mc aa ac tr ta tc w5 ab mb wr kv9 ∧ BackI (labN N) A.arcs tr kv9 D9 ⟨tr.length, k⟩ cg at_ out ∧ Blk wr gb 160 #[.int .i64 (tr.length : Int), .int .i64 (k : Int)] ∧ wc.heap.size ≤ P ∧ ov.ownBlock ≠ some P ∧ wc.heap.size ≤ wr.heap.size ∧ D9.idxOf at_ + 1 = f ∧ out.length + D9.idxOf at_ ≤ D9.length)
                        case atStart => exact ⟨[], ⟨tr.length, k⟩, _, rfl, OwnR.nil _ _ _ _, bP, hSP, HBK.out, bgP, Nat.le_refl _, (fun h => by have h' : (none : Option Nat) = some _ := h; cases h'), (by simp), rfl, by have := List.idxOf_le_length (a := (⟨tr.length, k⟩ : SpotD)) (l := D9); simp; omega⟩
                        case round =>
                          clear bP hSP bgP
                          rename World => wr
                          obtain ⟨out, at_, P, rfl, hO2, bP, hS, hBk, bg, hP, hne, hwz, hf, hol⟩ := hrel
                          have p0 := bP.cell (i := 0) (v := .int .i64 (at_.seen : Int)) rfl
                          have p1 := bP.cell (i := 1) (v := .int .i64 (at_.mark : Int)) rfl
                          obtain ⟨oa, oc, hov, _, _⟩ := OwnR.len hO2
                          subst hov
                          by_cases hz : at_ = spot0
                          case pos =>
                            have heq : ∀ w, (Op.equalIn 10000 160 (.agg #[.int .i64 (at_.seen : Int), .int .i64 (at_.mark : Int)]) (.agg #[.int .i64 0, .int .i64 0])).run Try.prog w = .ok true w := fun w => by
                              rw [run_eq_spot, hz]; rfl
                            rw [hz] at hBk
                            have HBD := Lib.hid (BackI.done HI.out hBk)
                            clear hBk
                            go_wp2_with fail
                            refine (ReverseMove_calls _ out wc.heap.size (fun _ => False) _ hO2).mono ?_
                            rintro _ wv ⟨rfl, hO3, g3⟩
                            have hS3 := AlS.rowO hS g3 (fun e => by have := (hO2.lt e.symm).1; omega) (fun e => by have := (hO2.lt e.symm).1; omega) (fun q e => by have := (hO2.lt e).1; have := hS.gr.le; have := HWZ.out; omega)
                            have bg3 := bg.grown g3 (fun e => by have := (hO2.lt e.symm).1; omega)
                            obtain ⟨xg, hgx, rfl⟩ := HGL.out
                            have hos := HO.out _ xg hgx
                            have hml := HGEN.out.ml
                            obtain ⟨l, hkey⟩ := spot_key ⟨tr.length, k⟩ (by simp; omega) (by simp; omega)
                            have l0 : (Instr.lookup 165 (.map (some mb)) (.agg #[.int .i64 (tr.length : Int), .int .i64 (k : Int)]) false).run Try.prog wv = .ok (.agg #[.int .i64 (xg.cost : Int), .int .i64 (xg.src.seen : Int), .int .i64 (xg.src.mark : Int), .int .i64 xg.move.kind, .int .i64 xg.move.label, .int .i64 xg.move.tran, .bool xg.fin]) wv := (MAt.gr hS3.map (Gr.refl _)).look_yes spotKeyed Try.underlying165 hkey (kvV_mem hgx)
                            have hf0 : ∀ w, (Instr.field 164 (.agg #[.int .i64 (xg.cost : Int), .int .i64 (xg.src.seen : Int), .int .i64 (xg.src.mark : Int), .int .i64 xg.move.kind, .int .i64 xg.move.label, .int .i64 xg.move.tran, .bool xg.fin]) 0).run Try.prog w = .ok (.int .i64 (xg.cost : Int)) w := fun w => by kernel_rfl
                            have c5 := hS3.blk.cell (i := 5) (v := .map (some mb)) rfl
                            have g0' := bg3.cell (i := 0) (v := .int .i64 (tr.length : Int)) rfl
                            have g1' := bg3.cell (i := 1) (v := .int .i64 (k : Int)) rfl
                            have KS := Lib.hid (show ∀ w', Gr wv w' → w'.cell? ⟨ab, 5, none⟩ = some (.map (some mb)) ∧ w'.cell? ⟨gb, 0, none⟩ = some (.int .i64 (tr.length : Int)) ∧ w'.cell? ⟨gb, 1, none⟩ = some (.int .i64 (k : Int)) ∧ (Instr.lookup 165 (.map (some mb)) (.agg #[.int .i64 (tr.length : Int), .int .i64 (k : Int)]) false).run Try.prog w' = .ok (.agg #[.int .i64 (xg.cost : Int), .int .i64 (xg.src.seen : Int), .int .i64 (xg.src.mark : Int), .int .i64 xg.move.kind, .int .i64 xg.move.label, .int .i64 xg.move.tran, .bool xg.fin]) w' from fun w' g => ⟨cell_gr c5 g, cell_gr g0' g, cell_gr g1' g, (MAt.gr hS3.map g).look_yes spotKeyed Try.underlying165 hkey (kvV_mem hgx)⟩)
                            clear heq p0 p1 bP hS bg hO2 g3 hos hml l0 hkey
                            go_wp2_with fail
                            go_region_held3 (fun w' => w'.cell? ⟨ab, 5, none⟩ = some (.map (some mb)) ∧ w'.cell? ⟨gb, 0, none⟩ = some (.int .i64 (tr.length : Int)) ∧ w'.cell? ⟨gb, 1, none⟩ = some (.int .i64 (k : Int)) ∧ (Instr.lookup 165 (.map (some mb)) (.agg #[.int .i64 (tr.length : Int), .int .i64 (k : Int)]) false).run Try.prog w' = .ok (.agg #[.int .i64 (xg.cost : Int), .int .i64 (xg.src.seen : Int), .int .i64 (xg.src.mark : Int), .int .i64 xg.move.kind, .int .i64 xg.move.label, .int .i64 xg.move.tran, .bool xg.fin]) w') (first | ((refine KS.out _ ?_); ((focus ((repeat (first | exact Gr.refl _ | assumption | apply Gr.alloc | apply Gr.drew | apply Gr.drewN | refine Gr.trans ?_ (by assumption))); done)))) | go_keep) (fail)
                            all_goals (
                              go_wp2_with fail
                              go_ret3
                              exact ⟨_, out.reverse, xg.cost, 0, rfl, (OwnR.gr hO3 (by (repeat (first | exact Gr.refl _ | assumption | apply Gr.alloc | apply Gr.drew | apply Gr.drewN | refine Gr.trans ?_ (by assumption))))).rd, (GZ.trans hS3.gr).trans (by (repeat (first | exact Gr.refl _ | assumption | apply Gr.alloc | apply Gr.drew | apply Gr.drewN | refine Gr.trans ?_ (by assumption)))), AlMeans.good HC.out htl HS0.out HGR.out hk hkg HBD.out HLS.out, HCB.out, by have h1 := hol; have h2 := hDl; simp; omega⟩)
                          case neg =>
                            have heq : ∀ w, (Op.equalIn 10000 160 (.agg #[.int .i64 (at_.seen : Int), .int .i64 (at_.mark : Int)]) (.agg #[.int .i64 0, .int .i64 0])).run Try.prog w = .ok false w := fun w => by
                              rw [run_eq_spot]
                              have : ((at_.seen : Int) == 0 && ((at_.mark : Int) == 0)) = false := by
                                rw [Bool.eq_false_iff]
                                intro h
                                rw [Bool.and_eq_true, beq_iff_eq, beq_iff_eq] at h
                                exact hz (by obtain ⟨p, q⟩ := at_; unfold spot0; simp only [SpotD.mk.injEq]; simp at h; omega)
                              rw [this]
                            obtain ⟨x1, hx1, hB1, hi1⟩ := BackI.next HI.out hBk hz
                            have hmv : moveI x1.move := by
                              obtain ⟨_, _, _, _, _, b4, _⟩ := HI.out.back _ x1 hx1 hz
                              exact move_ok HGEN.out b4
                            have hos := HO.out _ x1 hx1
                            have hml := HGEN.out.ml
                            obtain ⟨l, hkey⟩ := spot_key at_ (by omega) (by omega)
                            have hlook : ∀ w', AMap w' mb kv9 → (Instr.lookup 165 (.map (some mb)) (.agg #[.int .i64 (at_.seen : Int), .int .i64 (at_.mark : Int)]) false).run Try.prog w' = .ok (.agg #[.int .i64 (x1.cost : Int), .int .i64 (x1.src.seen : Int), .int .i64 (x1.src.mark : Int), .int .i64 x1.move.kind, .int .i64 x1.move.label, .int .i64 x1.move.tran, .bool x1.fin]) w' := fun w' h => (MAt.gr h (Gr.refl _)).look_yes spotKeyed Try.underlying165 hkey (kvV_mem hx1)
                            have c5 := hS.blk.cell (i := 5) (v := .map (some mb)) rfl
                            have KS := Lib.hid (show ∀ w', Gr wr w' → w'.cell? ⟨ab, 5, none⟩ = some (.map (some mb)) ∧ w'.cell? ⟨P, 0, none⟩ = some (.int .i64 (at_.seen : Int)) ∧ w'.cell? ⟨P, 1, none⟩ = some (.int .i64 (at_.mark : Int)) ∧ (Instr.lookup 165 (.map (some mb)) (.agg #[.int .i64 (at_.seen : Int), .int .i64 (at_.mark : Int)]) false).run Try.prog w' = .ok (.agg #[.int .i64 (x1.cost : Int), .int .i64 (x1.src.seen : Int), .int .i64 (x1.src.mark : Int), .int .i64 x1.move.kind, .int .i64 x1.move.label, .int .i64 x1.move.tran, .bool x1.fin]) w' from fun w' g => ⟨cell_gr c5 g, cell_gr p0 g, cell_gr p1 g, hlook w' (hS.gr' g).map⟩)
                            have hf2 : ∀ w, (Instr.field 164 (.agg #[.int .i64 (x1.cost : Int), .int .i64 (x1.src.seen : Int), .int .i64 (x1.src.mark : Int), .int .i64 x1.move.kind, .int .i64 x1.move.label, .int .i64 x1.move.tran, .bool x1.fin]) 2).run Try.prog w = .ok (.agg #[.int .i64 x1.move.kind, .int .i64 x1.move.label, .int .i64 x1.move.tran]) w := fun w => by kernel_rfl
                            have hf1 : ∀ w, (Instr.field 164 (.agg #[.int .i64 (x1.cost : Int), .int .i64 (x1.src.seen : Int), .int .i64 (x1.src.mark : Int), .int .i64 x1.move.kind, .int .i64 x1.move.label, .int .i64 x1.move.tran, .bool x1.fin]) 1).run Try.prog w = .ok (.agg #[.int .i64 (x1.src.seen : Int), .int .i64 (x1.src.mark : Int)]) w := fun w => by kernel_rfl
                            have HB1 := Lib.hid hB1
                            have HMV := Lib.hid hmv
                            have HLK := Lib.hid hlook
                            clear hBk hB1 hos hml hkey hx1 hmv hlook hz
                            go_wp2_with fail
                            refine cut10 (S := fun w' => w'.cell? ⟨ab, 5, none⟩ = some (.map (some mb)) ∧ w'.cell? ⟨P, 0, none⟩ = some (.int .i64 (at_.seen : Int)) ∧ w'.cell? ⟨P, 1, none⟩ = some (.int .i64 (at_.mark : Int)) ∧ (Instr.lookup 165 (.map (some mb)) (.agg #[.int .i64 (at_.seen : Int), .int .i64 (at_.mark : Int)]) false).run Try.prog w' = .ok (.agg #[.int .i64 (x1.cost : Int), .int .i64 (x1.src.seen : Int), .int .i64 (x1.src.mark : Int), .int .i64 x1.move.kind, .int .i64 x1.move.label, .int .i64 x1.move.tran, .bool x1.fin]) w') (by kernel_rfl) (by kernel_rfl) (KS.out _ (by (repeat (first | exact Gr.refl _ | assumption | apply Gr.alloc | apply Gr.drew | apply Gr.drewN | refine Gr.trans ?_ (by assumption))))) (fun hHeld => ?_)
                            (refine hold0 (v := ?_) (by kernel_rfl) (by kernel_rfl) (by kernel_rfl) (fun _ _ _ h => h) (by rfl) (fun w' hSw => ?_) (by assumption) ?_; rotate_left 1; · ((try dsimp only at hSw); (try go_simp); (try (with_reducible rfl))); (try simp only [Act.put, List.setIfInBounds_toArray, List.set_cons_zero, List.set_cons_succ]))
                            (refine hold1 (v := ?_) (by kernel_rfl) (by kernel_rfl) (by kernel_rfl) (fun _ _ _ h => h) (by rfl) (fun w' hSw => ?_) (by assumption) ?_; rotate_left 1; · ((try dsimp only at hSw); (try go_simp); (try (with_reducible rfl))); (try simp only [Act.put, List.setIfInBounds_toArray, List.set_cons_zero, List.set_cons_succ]))
                            (refine hold2 (v := ?_) (by kernel_rfl) (by kernel_rfl) (by kernel_rfl) (fun _ _ _ h => h) (by rfl) (fun w' hSw => ?_) (by assumption) ?_; rotate_left 1; · ((try dsimp only at hSw); (try go_simp); (try (with_reducible rfl))); (try simp only [Act.put, List.setIfInBounds_toArray, List.set_cons_zero, List.set_cons_succ]))
                            (refine hold3 (v := ?_) (by kernel_rfl) (by kernel_rfl) (by kernel_rfl) (fun _ _ _ h => h) (by rfl) (fun w' hSw => ?_) (by assumption) ?_; rotate_left 1; · ((try dsimp only at hSw); (try go_simp); (try (with_reducible rfl))); (try simp only [Act.put, List.setIfInBounds_toArray, List.set_cons_zero, List.set_cons_succ]))
                            (refine hold4 (v := ?_) (by kernel_rfl) (by kernel_rfl) (by kernel_rfl) (fun _ _ _ h => h) (by rfl) (fun w' hSw => ?_) (by assumption) ?_; rotate_left 1; · ((try dsimp only at hSw); (try go_simp); (try (with_reducible rfl))); (try simp only [Act.put, List.setIfInBounds_toArray, List.set_cons_zero, List.set_cons_succ]))
                            (refine hold5 (v := ?_) (by kernel_rfl) (by kernel_rfl) (by kernel_rfl) (fun _ _ _ h => h) (by rfl) (fun w' hSw => ?_) (by assumption) ?_; rotate_left 1; · ((try dsimp only at hSw); (try go_simp); (try (with_reducible rfl))); (try simp only [Act.put, List.setIfInBounds_toArray, List.set_cons_zero, List.set_cons_succ]))
                            (refine hold6 (v := ?_) (by kernel_rfl) (by kernel_rfl) (by kernel_rfl) (fun _ _ _ h => h) (by rfl) (fun w' hSw => ?_) (by assumption) ?_; rotate_left 1; · ((try dsimp only at hSw); (try go_simp); (try (with_reducible rfl))); (try simp only [Act.put, List.setIfInBounds_toArray, List.set_cons_zero, List.set_cons_succ]))
                            (refine hold7 (v := ?_) (by kernel_rfl) (by kernel_rfl) (by kernel_rfl) (fun _ _ _ h => h) (by rfl) (fun w' hSw => ?_) (by assumption) ?_; rotate_left 1; · ((try dsimp only at hSw); (try go_simp); (try (with_reducible rfl))); (try simp only [Act.put, List.setIfInBounds_toArray, List.set_cons_zero, List.set_cons_succ]))
                            refine next8 (by kernel_rfl) (fun K hK => ?_)
                            go_simp
                            (refine hK.out _ _ ?_ (fun hHeld => ?_); · (exact KS.out _ (by (repeat (first | exact Gr.refl _ | assumption | apply Gr.alloc | apply Gr.drew | apply Gr.drewN | refine Gr.trans ?_ (by assumption))))))
                            clear hK K
                            try simp only [Act.put, List.setIfInBounds_toArray, List.set_cons_zero, List.set_cons_succ]
                            refine next9 (by kernel_rfl) (fun K hK => ?_)
                            refine step_app_one moveTy (by rfl) _ _ (by rfl) wc.heap.size (fun _ => False) (.slice oa out.length oc) out ⟨wr.heap.size, 0, none⟩ x1.move [.int .i64 x1.move.kind, .int .i64 x1.move.label, .int .i64 x1.move.tran] (by rfl) (by rfl) (OwnR.gr hO2 (by (repeat (first | exact Gr.refl _ | assumption | apply Gr.alloc | apply Gr.drew | apply Gr.drewN | refine Gr.trans ?_ (by assumption))))) (World.news_of_block (cs := #[.int .i64 x1.move.kind, .int .i64 x1.move.label, .int .i64 x1.move.tran]) (t := 162) (fr := (0, 0)) (heap_alloc_new _ _)) (On.true (p := [Value.int .i64 x1.move.kind, .int .i64 x1.move.label, .int .i64 x1.move.tran] = moveCells x1.move ∧ moveI x1.move) ⟨rfl, HMV.out⟩) (by omega) (by unfold maxLen; omega) (by simp; omega) ?_
                            intro g cp w6' ho6 hgs6 hgb6 hat6 hlt6
                            have hO2lt := Lib.hid (fun q (hq : (Value.slice oa out.length oc).ownBlock = some q) => (OwnR.lt hO2 hq).1)
                            have hs6 := hgb6.size
                            simp at hs6
                            have hS6' := AlS.rowO (hS.gr' (by (repeat (first | exact Gr.refl _ | assumption | apply Gr.alloc | apply Gr.drew | apply Gr.drewN | refine Gr.trans ?_ (by assumption))))) hgb6 (fun e => by have := hO2lt.out _ e.symm; omega) (fun e => by have := hO2lt.out _ e.symm; omega) (fun q e => by have := hO2lt.out _ e; have := HWZ.out; omega)
                            have bP6 := (bP.gr (by (repeat (first | exact Gr.refl _ | assumption | apply Gr.alloc | apply Gr.drew | apply Gr.drewN | refine Gr.trans ?_ (by assumption))))).grown hgb6 (fun e => hne e.symm)
                            have bg6' := (bg.gr (by (repeat (first | exact Gr.refl _ | assumption | apply Gr.alloc | apply Gr.drew | apply Gr.drewN | refine Gr.trans ?_ (by assumption))))).grown hgb6 (fun e => by have := hO2lt.out _ e.symm; omega)
                            have c5' := hS6'.blk.cell (i := 5) (v := .map (some mb)) rfl
                            have p0' := bP6.cell (i := 0) (v := .int .i64 (at_.seen : Int)) rfl
                            have p1' := bP6.cell (i := 1) (v := .int .i64 (at_.mark : Int)) rfl
                            (refine hK.out _ _ ?_ (fun hHeld => ?_); · (exact ⟨c5', p0', p1', HLK.out _ hS6'.map⟩))
                            clear hK K
                            try simp only [Act.put, List.setIfInBounds_toArray, List.set_cons_zero, List.set_cons_succ]
                            clear KS c5 p0 p1 hS bP bg hO2
                            refine ends10 (by kernel_rfl) (fun K hK => ?_)
                            go_simp
                            refine hK.out _ _ ?_
                            have G7 : Gr w6' (w6'.alloc (.cells #[.int .i64 (at_.seen : Int), .int .i64 (at_.mark : Int)] 160)) := (Gr.refl _).alloc _
                            have b7 : Blk (w6'.alloc (.cells #[.int .i64 (at_.seen : Int), .int .i64 (at_.mark : Int)] 160)) w6'.heap.size 160 #[.int .i64 (at_.seen : Int), .int .i64 (at_.mark : Int)] := Blk.new rfl
                            clear heq
                            go_wp2_with fail
                            generalize w6'.alloc (.cells #[.int .i64 (at_.seen : Int), .int .i64 (at_.mark : Int)] 160) = w7' at G7 b7 ⊢
                            have hS7' := hS6'.gr' G7
                            have bg7' := bg6'.gr G7
                            have ho7 := OwnR.gr ho6 G7
                            clear c5' p0' p1' bP6 bg6' ho6 hgs6 hgb6
                            have c5 := hS7'.blk.cell (i := 5) (v := .map (some mb)) rfl
                            have p0 := b7.cell (i := 0) (v := .int .i64 (at_.seen : Int)) rfl
                            have p1 := b7.cell (i := 1) (v := .int .i64 (at_.mark : Int)) rfl
                            have KS := Lib.hid (show ∀ w', Gr w7' w' → w'.cell? ⟨ab, 5, none⟩ = some (.map (some mb)) ∧ w'.cell? ⟨w6'.heap.size, 0, none⟩ = some (.int .i64 (at_.seen : Int)) ∧ w'.cell? ⟨w6'.heap.size, 1, none⟩ = some (.int .i64 (at_.mark : Int)) ∧ (Instr.lookup 165 (.map (some mb)) (.agg #[.int .i64 (at_.seen : Int), .int .i64 (at_.mark : Int)]) false).run Try.prog w' = .ok (.agg #[.int .i64 (x1.cost : Int), .int .i64 (x1.src.seen : Int), .int .i64 (x1.src.mark : Int), .int .i64 x1.move.kind, .int .i64 x1.move.label, .int .i64 x1.move.tran, .bool x1.fin]) w' from fun w' g => ⟨cell_gr c5 g, cell_gr p0 g, cell_gr p1 g, HLK.out w' (hS7'.gr' g).map⟩)
                            refine cut7 (S := fun w' => w'.cell? ⟨ab, 5, none⟩ = some (.map (some mb)) ∧ w'.cell? ⟨w6'.heap.size, 0, none⟩ = some (.int .i64 (at_.seen : Int)) ∧ w'.cell? ⟨w6'.heap.size, 1, none⟩ = some (.int .i64 (at_.mark : Int)) ∧ (Instr.lookup 165 (.map (some mb)) (.agg #[.int .i64 (at_.seen : Int), .int .i64 (at_.mark : Int)]) false).run Try.prog w' = .ok (.agg #[.int .i64 (x1.cost : Int), .int .i64 (x1.src.seen : Int), .int .i64 (x1.src.mark : Int), .int .i64 x1.move.kind, .int .i64 x1.move.label, .int .i64 x1.move.tran, .bool x1.fin]) w') (by kernel_rfl) (by kernel_rfl) (KS.out _ (by (repeat (first | exact Gr.refl _ | assumption | apply Gr.alloc | apply Gr.drew | apply Gr.drewN | refine Gr.trans ?_ (by assumption))))) (fun hHeld => ?_)
                            (refine hold0 (v := ?_) (by kernel_rfl) (by kernel_rfl) (by kernel_rfl) (fun _ _ _ h => h) (by rfl) (fun w' hSw => ?_) (by assumption) ?_; rotate_left 1; · ((try dsimp only at hSw); (try go_simp); (try (with_reducible rfl))); (try simp only [Act.put, List.setIfInBounds_toArray, List.set_cons_zero, List.set_cons_succ]))
                            (refine hold1 (v := ?_) (by kernel_rfl) (by kernel_rfl) (by kernel_rfl) (fun _ _ _ h => h) (by rfl) (fun w' hSw => ?_) (by assumption) ?_; rotate_left 1; · ((try dsimp only at hSw); (try go_simp); (try (with_reducible rfl))); (try simp only [Act.put, List.setIfInBounds_toArray, List.set_cons_zero, List.set_cons_succ]))
                            (refine hold2 (v := ?_) (by kernel_rfl) (by kernel_rfl) (by kernel_rfl) (fun _ _ _ h => h) (by rfl) (fun w' hSw => ?_) (by assumption) ?_; rotate_left 1; · ((try dsimp only at hSw); (try go_simp); (try (with_reducible rfl))); (try simp only [Act.put, List.setIfInBounds_toArray, List.set_cons_zero, List.set_cons_succ]))
                            (refine hold3 (v := ?_) (by kernel_rfl) (by kernel_rfl) (by kernel_rfl) (fun _ _ _ h => h) (by rfl) (fun w' hSw => ?_) (by assumption) ?_; rotate_left 1; · ((try dsimp only at hSw); (try go_simp); (try (with_reducible rfl))); (try simp only [Act.put, List.setIfInBounds_toArray, List.set_cons_zero, List.set_cons_succ]))
                            (refine hold4 (v := ?_) (by kernel_rfl) (by kernel_rfl) (by kernel_rfl) (fun _ _ _ h => h) (by rfl) (fun w' hSw => ?_) (by assumption) ?_; rotate_left 1; · ((try dsimp only at hSw); (try go_simp); (try (with_reducible rfl))); (try simp only [Act.put, List.setIfInBounds_toArray, List.set_cons_zero, List.set_cons_succ]))
                            (refine hold5 (v := ?_) (by kernel_rfl) (by kernel_rfl) (by kernel_rfl) (fun _ _ _ h => h) (by rfl) (fun w' hSw => ?_) (by assumption) ?_; rotate_left 1; · ((try dsimp only at hSw); (try go_simp); (try (with_reducible rfl))); (try simp only [Act.put, List.setIfInBounds_toArray, List.set_cons_zero, List.set_cons_succ]))
                            (refine hold6 (v := ?_) (by kernel_rfl) (by kernel_rfl) (by kernel_rfl) (fun _ _ _ h => h) (by rfl) (fun w' hSw => ?_) (by assumption) ?_; rotate_left 1; · ((try dsimp only at hSw); (try go_simp); (try (with_reducible rfl))); (try simp only [Act.put, List.setIfInBounds_toArray, List.set_cons_zero, List.set_cons_succ]))
                            have SF0 := b7.frozen 0
                            have FF1 := b7.frozen 1
                            have bd1 := b7.set 0 (.int .i64 (x1.src.seen : Int))
                            have bd2 := (bd1.set 1 (.int .i64 (x1.src.mark : Int))).gr ((Gr.refl _).drew)
                            refine ends7 (by kernel_rfl) (fun K hK => ?_)
                            go_simp
                            refine hK.out _ _ ?_
                            have gs1 := set_grown w7' w6'.heap.size 0 (.int .i64 (x1.src.seen : Int))
                            have gs2 := set_grown (w7'.setCell ⟨w6'.heap.size, 0, none⟩ (.int .i64 (x1.src.seen : Int))) w6'.heap.size 1 (.int .i64 (x1.src.mark : Int))
                            have na1 : ab ≠ w6'.heap.size := by omega
                            have na2 : mb ≠ w6'.heap.size := by omega
                            have na3 : w5.heap.size ≤ w6'.heap.size := by have := HWZ.out; omega
                            have na4 : some gb ≠ some w6'.heap.size := fun e => by have := Option.some.inj e; omega
                            have na5 : (Value.slice (some ⟨g, 0, none⟩) (out.length + 1) cp).ownBlock ≠ some w6'.heap.size := fun e => by
                              have e2 : some g = some w6'.heap.size := e
                              have := Option.some.inj e2
                              omega
                            have hSz := ((hS7'.other gs1 na1 na2 na3).other gs2 na1 na2 na3).gr' ((Gr.refl _).drew)
                            have bgz := ((bg7'.grown gs1 na4).grown gs2 na4).gr ((Gr.refl _).drew)
                            have hoz := OwnR.gr ((OwnR.other ho7 (a := ⟨w6'.heap.size, 0, none⟩) na5 (fun h => h) (.int .i64 (x1.src.seen : Int))).other (a := ⟨w6'.heap.size, 1, none⟩) na5 (fun h => h) (.int .i64 (x1.src.mark : Int))) ((Gr.refl _).drew)
                            have HSZ := Lib.hid (gs2.size)
                            have HSY := Lib.hid (gs1.size)
                            have HG7 := Lib.hid G7.le
                            go_wp2_with fail
                            go_roundg (D9.idxOf x1.src + 1)
                            case measure => omega
                            case rel => exact ⟨out ++ [x1.move], x1.src, w6'.heap.size, rfl, hoz, bd2, hSz, HB1.out, bgz, by omega, na5, by have h1 := HSZ.out; have h2 := HSY.out; have h3 := HG7.out; simp at h1 h2; simp; omega, rfl, by rw [List.length_append]; simp; omega⟩
end Go.Proofs.Ytkanaoebpajbfaa
