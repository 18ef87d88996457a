/- Texts of one family, joined; what the claim does not need is left out. -/
import Derived.Test.YtagdccgbcmnehaaGreatQMRa
import Derived.Test.YtagdccgbcmnehaaGreatProg
import Derived.BigQuiet
import Derived.Deep.QuietTactic
import Derived.Deep.RegionHeld3
namespace Go.Tok
open Go.RowKit Go.ChangeShapes Go.WideShapes Go.ChangeAt
set_option linter.unusedVariables false
theorem weightsAll_mem {H : Type} {P : Program} {e : TypeId} : ∀ {l : List (DataW H)} {i : Nat} {d : DataW H} {n : Nat}, l[i]? = some d → n ∈ d.weights P e → n ∈ DataW.weightsAll P e l
  | x :: l, 0, d, n, h, hn => by
    simp at h; subst h
    rw [DataW.weightsAll]; exact List.mem_append_left _ hn
  | x :: l, i + 1, d, n, h, hn => by
    rw [DataW.weightsAll]; exact List.mem_append_right _ (weightsAll_mem (by simpa using h) hn)
theorem RowOf.rows {H : Type} {P : Program} {d : DataW H} {ys : List (List Int)} {t e f : TypeId} (h : RowOf (fun e z => LenOf e z.length) d ys) (ht : P.underlying t = some (.slice e)) (he : P.underlying e = some (.slice f)) (hb : P.bytesOf f = 8)
    (hw : ∀ m ∈ d.weights P t, m ≤ reachBytes) : ∀ y ∈ ys, y.length ≤ 17592186043904 := by
  intro y hy
  rcases h with ⟨h1, rfl⟩ | ⟨es, sp, rfl, h2, h3⟩
  · simp at hy
  · obtain ⟨i, hi, rfl⟩ := List.getElem_of_mem hy
    obtain ⟨e0, he0, hl⟩ := h3 i hi
    rw [ix_lt hi] at hl
    refine hl.reach he hb fun k hk => hw k ?_
    rw [DataW.weights]
    simp only [ht]
    exact List.mem_cons_of_mem _ (List.mem_append_left _ (weightsAll_mem he0 hk))
end Go.Tok
namespace Go.Proofs.YtagdccgbcmnehaaGreat
open Go.RowKit Go.Tok Go.ChangeShapes Go.WideShapes Go.ChangeAt
set_option linter.unusedVariables false
section
variable {H : Type} {enc : TypeId × Value → H}
/-- a log among the arguments -/
structure LogR (W : World) (v : Value) (xs : List (List Int)) : Prop where
  rd : Rd rowK W v xs
  le : xs.length ≤ 5864062014805
  rows : ∀ t ∈ xs, t.length ≤ 17592186043904
set_option maxRecDepth 100000 in
theorem log_arg (W : World) {base : Nat} {v : Value} {d : DataW H} {ps : List MemPlace} (hval : Value.okWide Tryz.prog W .any base 28 v) (hd : DataW.Trod enc Tryz.prog W 0 (fun _ => true) true 28 v d ps)
    (hw : ∀ n ∈ d.weights Tryz.prog 28, n ≤ reachBytes) : ∃ xs, LogR W v xs := by
  obtain ⟨xs, h1, h2⟩ := rd_open (K := rowK) (D := fun e z => LenOf e z.length) Tryz.underlying28 (by kernel_rfl) (by decide) (fun n cs y h => row_trod Tryz.underlying24 Tryz.underlying3 (by kernel_rfl) h) hval hd
  exact ⟨xs, h1, by have := h2.lenOf.reachB (k := 24) Tryz.underlying28 (by kernel_rfl) hw; omega, h2.rows Tryz.underlying28 Tryz.underlying24 (by kernel_rfl) hw⟩
end
end Go.Proofs.YtagdccgbcmnehaaGreat

namespace Go.Proofs.YtagdccgbcmnehaaGreat
open Go.RowKit Go.Tok
set_option linter.unusedVariables false

theorem intTy : IntTy Tryz.prog 24 3 := ⟨Tryz.underlying24, by kernel_rfl⟩


end Go.Proofs.YtagdccgbcmnehaaGreat

namespace Go.Proofs.YtagdccgbcmnehaaGreat
open Go.RowKit Go.Tok
set_option linter.unusedVariables false

set_option maxHeartbeats 1000000 in
theorem Clone_calls (v : Value) (xs : List Int) (w : World) (hv : Ints w v xs) (hl : xs.length ≤ 17592186044416) :
    Calls Tryz.prog 97 #[v] w fun e w' => ∃ v', e = .returned v' ∧ OwnI 3 w.heap.size w' v' xs ∧ Gr w w' := by
  have T := intTy
  rcases hv.form with ⟨rfl, rfl⟩ | ⟨ad, cap, rfl, h1, h2⟩
  · have he := fun w n c => Lib.run_eql_slice_nil (P := Tryz.prog) w 24 3 none 0 0 n c Tryz.underlying24
    go_enter Tryz.func97, Tryz.ntmps97
    go_wp2
    go_ret
    exact ⟨_, rfl, OwnI.nil _ _ _, Gr.refl _⟩
  · have he := fun w n c n' c' => Lib.run_eql_slice_nil (P := Tryz.prog) w 24 3 (some ad) n c n' c' Tryz.underlying24
    go_enter Tryz.func97, Tryz.ntmps97
    go_wp2_with (at_builtin; refine app_ints T _ _ w.heap.size (.slice (some ⟨w.heap.size, 0, none⟩) 0 0) (.slice (some ad) xs.length cap) [] xs rfl rfl rfl rfl (OwnI.lit rfl rfl rfl rfl (by simp) (by simp) (Nat.le_refl _)) (hv.alloc _) (by simpa using hl) (by simp) ?_; intro v' w' ho hgr _ _)
    go_ret
    exact ⟨_, rfl, ho, hgr w (Nat.le_refl _) (by (repeat (first | exact Gr.refl _ | assumption | apply Gr.alloc | apply Gr.drew | apply Gr.drewN | refine Gr.trans ?_ (by assumption))))⟩

set_option maxHeartbeats 400000 in
theorem Index_calls (v : Value) (xs : List Int) (x : Int) (w : World) (hv : Ints w v xs) :
    Calls Tryz.prog 183 #[v, .int .i64 x] w fun e w' => e = .returned (.int .i64 (firstOf (fun y => decide (x = y)) xs)) ∧ w = w' := by
  obtain ⟨a, cap, rfl, hlc, hcap⟩ := hv.len
  go_enter Tryz.func183, Tryz.ntmps183
  go_wp2
  go_loop [8] (fun i => ∃ k : Nat, k ≤ xs.length ∧ i = .int .i64 k ∧ NoneUpto (fun y => decide (x = y)) xs k) (fun i => xs.length - (intOf i).toNat)
  case atStart => exact ⟨0, Nat.zero_le _, rfl, NoneUpto.zero _ _⟩
  case round =>
    obtain ⟨k, hk, rfl, hall⟩ := hrel
    by_cases hlt : k < xs.length
    · obtain ⟨b, o, rfl, hcell⟩ := hv.cell hlt
      have hr := hv.range k
      by_cases hp : x = nth xs k
      · have hb : (x == nth xs k) = true := by simpa using hp
        have HP := Lib.hid hp
        clear hp
        go_wp2
        go_ret
        exact ⟨ret_i64 (firstOf_hit hall hlt (decide_eq_true HP.out)).symm, rfl⟩
      · have hb : (x == nth xs k) = false := by simpa using hp
        have HP := Lib.hid hp
        clear hp
        go_wp2
        go_round
        case rel => exact ⟨k + 1, by omega, by go_num, hall.succ (decide_eq_false HP.out)⟩
        case measure => simp [intOf]; omega
    · obtain rfl : k = xs.length := by omega
      go_wp2
      go_ret
      exact ⟨ret_i64 (firstOf_miss hall).symm, rfl⟩

set_option maxHeartbeats 400000 in
theorem Contains_calls (v : Value) (xs : List Int) (x : Int) (w : World) (hv : Ints w v xs) :
    Calls Tryz.prog 155 #[v, .int .i64 x] w fun e w' => e = .returned (.bool (hasB xs x)) ∧ w = w' := by
  go_enter Tryz.func155, Tryz.ntmps155
  go_wp2_with (go_at_call 183; refine (Index_calls _ _ _ _ hv).mono ?_; rintro e w' ⟨rfl, rfl⟩)
  go_ret
  exact ⟨ret_bool ((firstOf_any _ xs).trans (hasB_def xs x).symm), rfl⟩
end Go.Proofs.YtagdccgbcmnehaaGreat

namespace Go.Tok
open Go.RowKit
theorem Rd.row {w : World} {a : Option Addr} {n cap : Nat} {xs : List (List Int)} (h : Rd rowK w (.slice a n cap) xs) {i : Nat} (hi : i < xs.length) :
    ∃ b o u, a = some ⟨b, o, none⟩ ∧ w.cell? ⟨b, o + i, none⟩ = some u ∧ Ints w u (ix xs i) := by
  obtain ⟨b, o, vs, ha, ⟨u, rfl, hu⟩, hc⟩ := h.at_ hi
  refine ⟨b, o, u, ha, ?_, hu⟩
  have := hc 0 u rfl
  rwa [show o + i * rowK.size + 0 = o + i by show o + i * 1 + 0 = _; omega] at this
end Go.Tok
namespace Go.Proofs.YtagdccgbcmnehaaGreat
open Go.RowKit Go.Tok
set_option linter.unusedVariables false

/-- the function g, bound to lb, answers p at each row of xs, in w0 and in every later world -/
def AnswersRow (P : Program) (g : Nat) (lb : Array Value) (xs : List (List Int)) (p : List Int → Bool) (w0 : World) : Prop :=
  ∀ (W : World) (u : Value) (x : List Int), x ∈ xs → Gr w0 W → Ints W u x → Calls P g (#[u] ++ lb) W fun e w' => e = .returned (.bool (p x)) ∧ Gr W w'

set_option maxHeartbeats 1000000 in
theorem IndexFuncRow_calls (v : Value) (xs : List (List Int)) (g : Nat) (lb : Array Value) (p : List Int → Bool) (w : World) (eg : ∀ args w, (callFunc g args).run Tryz.prog w = .ok (.enter g args) w)
    (hv : Rd rowK w v xs) (hg : AnswersRow Tryz.prog g lb xs p w) :
    Calls Tryz.prog 77 #[v, .func (.func g) #[] lb] w fun e w' => e = .returned (.int .i64 (firstI p xs)) ∧ Gr w w' := by
  obtain ⟨a, cap, rfl, hlc, hcap⟩ := hv.len
  go_enter Tryz.func77, Tryz.ntmps77
  go_wp2
  go_loopw [8] (fun i wr => ∃ k : Nat, k ≤ xs.length ∧ i = .int .i64 k ∧ NoneI p xs k ∧ Gr w wr) (fun i _ => xs.length - (intOf i).toNat)
  case atStart => exact ⟨0, Nat.zero_le _, rfl, NoneI.zero _ _, Gr.refl _⟩
  case round =>
    rename_i wr _
    obtain ⟨k, hk, rfl, hall, hgr⟩ := hrel
    by_cases hlt : k < xs.length
    · obtain ⟨b, o, u, rfl, c0, hI⟩ := (hv.gr hgr).row hlt
      have hcall := hg wr u (ix xs k) (ix_mem hlt) hgr hI
      obtain ⟨ua, uc, rfl, _, _⟩ := hI.len
      cases hb : p (ix xs k)
      · rw [hb] at hcall
        go_wp2_with (go_at_fn g; refine hcall.mono ?_; rintro e w' ⟨rfl, g2⟩)
        go_roundw
        case rel => exact ⟨k + 1, by omega, by go_num, hall.succ hb, by (repeat (first | exact Gr.refl _ | assumption | apply Gr.alloc | apply Gr.drew | apply Gr.drewN | refine Gr.trans ?_ (by assumption)))⟩
        case measure => simp [intOf]; omega
      · rw [hb] at hcall
        go_wp2_with (go_at_fn g; refine hcall.mono ?_; rintro e w' ⟨rfl, g2⟩)
        go_ret
        exact ⟨ret_i64 (firstI_hit hall hlt hb).symm, by (repeat (first | exact Gr.refl _ | assumption | apply Gr.alloc | apply Gr.drew | apply Gr.drewN | refine Gr.trans ?_ (by assumption)))⟩
    · obtain rfl : k = xs.length := by omega
      go_wp2
      go_ret
      exact ⟨ret_i64 (firstI_miss hall).symm, hgr⟩
set_option maxHeartbeats 400000 in
theorem ContainsFuncRow_calls (v : Value) (xs : List (List Int)) (g : Nat) (lb : Array Value) (p : List Int → Bool) (w : World) (eg : ∀ args w, (callFunc g args).run Tryz.prog w = .ok (.enter g args) w)
    (hv : Rd rowK w v xs) (hg : AnswersRow Tryz.prog g lb xs p w) :
    Calls Tryz.prog 111 #[v, .func (.func g) #[] lb] w fun e w' => e = .returned (.bool (xs.any p)) ∧ Gr w w' := by
  go_enter Tryz.func111, Tryz.ntmps111
  go_wp2_with (go_at_call 77; refine (IndexFuncRow_calls _ _ _ _ _ _ eg hv hg).mono ?_; rintro e w' ⟨rfl, g1⟩)
  go_ret
  exact ⟨ret_bool (firstI_any p xs), g1⟩
end Go.Proofs.YtagdccgbcmnehaaGreat

namespace Go.Proofs.YtagdccgbcmnehaaGreat
open Go.RowKit Go.Tok
set_option linter.unusedVariables false
set_option maxRecDepth 100000 in
theorem kstep_calls (n : Int) (w : World) : Calls Tryz.prog 54 #[.int .i64 n] w fun e w' => e = .returned (.agg #[.int .i64 2, .int .i64 n, .slice none 0 0]) ∧ Gr w w' := by
  have b := Blk.new (w := w) (H := w.heap.size) (t := 55) (cs := #[.int .i64 2, .int .i64 n, .slice none 0 0]) rfl
  have c0 := b.cell (i := 0) (v := .int .i64 2) rfl
  have c1 := b.cell (i := 1) (v := .int .i64 n) rfl
  have c2 := b.cell (i := 2) (v := .slice none 0 0) rfl
  go_enter Tryz.func54, Tryz.ntmps54
  go_wp2_with fail
  refine bodyPost_ret (v := .agg #[.int .i64 2, .int .i64 n, .slice none 0 0]) (by simp [results, Tryz.results54, go_sem, c0, c1, c2]) rfl ?_
  exact ⟨rfl, (Gr.refl _).alloc _⟩
set_option maxRecDepth 100000 in
theorem kmany_calls (k : Int) (a : Option Addr) (n c : Nat) (w : World) : Calls Tryz.prog 53 #[.int .i64 k, .slice a n c] w fun e w' => e = .returned (.agg #[.int .i64 k, .int .i64 0, .slice a n c]) ∧ Gr w w' := by
  have b := Blk.new (w := w) (H := w.heap.size) (t := 55) (cs := #[.int .i64 k, .int .i64 0, .slice a n c]) rfl
  have c0 := b.cell (i := 0) (v := .int .i64 k) rfl
  have c1 := b.cell (i := 1) (v := .int .i64 0) rfl
  have c2 := b.cell (i := 2) (v := .slice a n c) rfl
  go_enter Tryz.func53, Tryz.ntmps53
  go_wp2_with fail
  refine bodyPost_ret (v := .agg #[.int .i64 k, .int .i64 0, .slice a n c]) (by simp [results, Tryz.results53, go_sem, c0, c1, c2]) rfl ?_
  exact ⟨rfl, (Gr.refl _).alloc _⟩
end Go.Proofs.YtagdccgbcmnehaaGreat

namespace Go.Tok
open Go.RowKit
set_option linter.unusedVariables false
inductive BlockD where
  | mk (kind label : Int) (kids : List BlockD)
namespace BlockD
def kind : BlockD → Int | mk k _ _ => k
def label : BlockD → Int | mk _ l _ => l
def kids : BlockD → List BlockD | mk _ _ ks => ks
end BlockD
instance : Inhabited BlockD := ⟨.mk 0 0 []⟩
/-- a block whose kids are of a given kind -/
def blkOver (K : Kind BlockD) : Kind BlockD :=
  ⟨3, fun w vs b => ∃ s, vs = [.int .i64 b.kind, .int .i64 b.label, s] ∧ I64 b.kind ∧ I64 b.label ∧ Rd K w s b.kids,
    fun ⟨s, h, _⟩ => by rw [h]; rfl,
    fun ⟨s, h, _, _, hs⟩ => by
      subst h
      obtain ⟨a, c, rfl, _⟩ := hs.len
      intro x hx
      rcases List.mem_cons.1 hx with rfl | hx
      · rfl
      · rcases List.mem_cons.1 hx with rfl | hx
        · rfl
        · rw [List.mem_singleton.1 hx]; rfl,
    fun k ⟨s, h, h1, h2, hs⟩ => ⟨s, h, h1, h2, hs.kp k⟩⟩
def blkNone : Kind BlockD := ⟨3, fun _ _ _ => False, fun h => h.elim, fun h => h.elim, fun _ h => h⟩
/-- blocks as elements of rows, at most n deep -/
def blkK : Nat → Kind BlockD
  | 0 => blkNone
  | n + 1 => blkOver (blkK n)
theorem blkK_size (n : Nat) : (blkK n).size = 3 := by cases n <;> rfl
/-- v reads in w as the block b, its kids at most n deep -/
def BlockR (n : Nat) (w : World) (v : Value) (b : BlockD) : Prop := ∃ s, v = .agg #[.int .i64 b.kind, .int .i64 b.label, s] ∧ I64 b.kind ∧ I64 b.label ∧ Rd (blkK n) w s b.kids
theorem BlockR.gr {n : Nat} {w w' : World} {v : Value} {b : BlockD} (h : BlockR n w v b) (g : Gr w w') : BlockR n w' v b := by
  obtain ⟨s, h1, h2, h3, h4⟩ := h
  exact ⟨s, h1, h2, h3, h4.gr g⟩
theorem BlockR.open_ {n : Nat} {w : World} {v : Value} {b : BlockD} (h : BlockR n w v b) : I64 b.kind ∧ I64 b.label ∧ ∃ a cap, v = .agg #[.int .i64 b.kind, .int .i64 b.label, .slice a b.kids.length cap] ∧ b.kids.length ≤ cap ∧ cap ≤ 9223372036854775807 ∧ Rd (blkK n) w (.slice a b.kids.length cap) b.kids := by
  obtain ⟨s, h1, h2, h3, h4⟩ := h
  obtain ⟨a, cap, rfl, h5, h6⟩ := h4.len
  exact ⟨h2, h3, a, cap, h1, h5, h6, h4⟩
theorem BlockR.mk_ {n : Nat} {w : World} {s : Value} {b : BlockD} (h1 : I64 b.kind) (h2 : I64 b.label) (h : Rd (blkK n) w s b.kids) : BlockR n w (.agg #[.int .i64 b.kind, .int .i64 b.label, s]) b := ⟨s, rfl, h1, h2, h⟩
/-- kid i -/
theorem kid_at {n : Nat} {w : World} {a : Option Addr} {l cap : Nat} {ks : List BlockD} (h : Rd (blkK n) w (.slice a l cap) ks) {i : Nat} (hi : i < ks.length) :
    ∃ m g o s, n = m + 1 ∧ a = some ⟨g, o, none⟩ ∧ w.cell? ⟨g, o + i * 3, none⟩ = some (.int .i64 (ix ks i).kind) ∧ w.cell? ⟨g, o + i * 3 + 1, none⟩ = some (.int .i64 (ix ks i).label) ∧ w.cell? ⟨g, o + i * 3 + 2, none⟩ = some s ∧ BlockR m w (.agg #[.int .i64 (ix ks i).kind, .int .i64 (ix ks i).label, s]) (ix ks i) := by
  obtain ⟨g, o, vs, ha, hr, hc⟩ := h.at_ hi
  cases n with
  | zero => exact hr.elim
  | succ m =>
    obtain ⟨s, rfl, h1, h2, h3⟩ := hr
    exact ⟨m, g, o, s, rfl, ha, hc 0 _ rfl, hc 1 _ rfl, hc 2 _ rfl, s, rfl, h1, h2, h3⟩

/-- what is wrong with the block itself -/
def formF (b : BlockD) : Int :=
  if b.kind < 1 ∨ 6 < b.kind then 5
  else if b.kind = 2 ∧ (b.label < 1 ∨ 26 < b.label) then 2
  else if b.kind < 3 ∧ 0 < b.kids.length ∨ 3 ≤ b.kind ∧ b.kids.length = 0 ∨ b.kind = 6 ∧ b.kids.length ≠ 2 then 1
  else 0
def checkL (f : BlockD → Nat → Nat × Int) : List BlockD → Nat → Nat × Int
  | [], c => (c, 0)
  | k :: ks, c => if (f k c).2 = 0 then checkL f ks (f k c).1 else f k c
/-- how many were counted, and what is wrong -/
def checkF : Nat → BlockD → Nat → Nat × Int
  | 0, _, c => (c + 1, 4)
  | n + 1, b, c => if 40 < c + 1 then (c + 1, 4) else if formF b = 0 then checkL (checkF n) b.kids (c + 1) else (c + 1, formF b)
/-- the block is right, at most n deep -/
def OkB : Nat → BlockD → Prop
  | 0, _ => False
  | n + 1, b => 1 ≤ b.kind ∧ b.kind ≤ 6 ∧ (b.kind = 2 → 1 ≤ b.label ∧ b.label ≤ 26) ∧ (b.kind < 3 → b.kids = []) ∧ (3 ≤ b.kind → b.kids ≠ []) ∧ (b.kind = 6 → b.kids.length = 2) ∧ ∀ k ∈ b.kids, OkB n k
/-- blocks.Wrong -/
def wrongB (n : Nat) (b : BlockD) : Int := (checkF n b 0).2
end Go.Tok

namespace Go.Proofs.YtagdccgbcmnehaaGreat
open Go.RowKit Go.Tok
set_option linter.unusedVariables false
def KidsR (n : Nat) (w0 : World) (sl : Value) (b : BlockD) : Prop := ∃ m, n = m + 1 ∧ Rd (blkK m) w0 sl b.kids
/-- kid i, at a later world -/
theorem kid_in {n : Nat} {w0 w : World} {a : Option Addr} {l cap : Nat} {ks : List BlockD} (h : Rd (blkK n) w0 (.slice a l cap) ks) (g : Gr w0 w) {i : Nat} (hi : i < ks.length) :
    ∃ p o ka kc, a = some ⟨p, o, none⟩ ∧ w.cell? ⟨p, o + i * 3, none⟩ = some (.int .i64 (ix ks i).kind) ∧ w.cell? ⟨p, o + i * 3 + 1, none⟩ = some (.int .i64 (ix ks i).label) ∧ w.cell? ⟨p, o + i * 3 + 2, none⟩ = some (.slice ka (ix ks i).kids.length kc) ∧ KidsR n w0 (.slice ka (ix ks i).kids.length kc) (ix ks i) := by
  obtain ⟨m, p, o, s, rfl, rfl, c0, c1, c2, hr⟩ := kid_at h hi
  obtain ⟨_, _, ka, kc, e, _, _, hk⟩ := hr.open_
  obtain rfl : s = .slice ka (ix ks i).kids.length kc := by
    have := congrArg (fun v => match v with | .agg cs => cs[2]? | _ => none) e
    simpa using this
  exact ⟨p, o, ka, kc, rfl, cell_gr c0 g, cell_gr c1 g, cell_gr c2 g, m, rfl, hk⟩
end Go.Proofs.YtagdccgbcmnehaaGreat

