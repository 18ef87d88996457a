/- Rows of bools; contract of live.spread. -/
import Derived.Test.YtelfbfjegmncaaaLiveLaw
import Derived.Test.YtelfbfjegmncaaaRowFn
import Derived.Test.YtelfbfjegmncaaaSl
import Derived.Test.YtelfbfjegmncaaaRetO
import Derived.Deep.LoopGhost
namespace Go.Tok
open Go.RowKit
set_option linter.unusedVariables false
def boolK : Kind Bool := flat 1 (fun b => [.bool b]) (fun _ => True) (fun _ => rfl) (fun b u hu => by
  simp only [List.mem_cons, List.not_mem_nil, or_false] at hu
  subst hu; rfl)
theorem Rd.bool {w : World} {a : Option Addr} {n cap : Nat} {xs : List Bool} (h : Rd boolK w (.slice a n cap) xs) {i : Nat} (hi : i < xs.length) :
    ∃ b o, a = some ⟨b, o, none⟩ ∧ w.cell? ⟨b, o + i, none⟩ = some (.bool (ix xs i)) := by
  obtain ⟨b, o, vs, ha, ⟨rfl, _⟩, hc⟩ := h.at_ hi
  refine ⟨b, o, ha, ?_⟩
  have := hc 0 _ rfl
  rwa [show o + i * boolK.size + 0 = o + i by show o + i * 1 + 0 = _; omega] at this
/-- a row of bools of the call's own -/
def OwnB (e base : Nat) (w : World) (v : Value) (xs : List Bool) : Prop := OwnR boolK e base (fun _ => False) w v xs
theorem OwnB.rd {e base : Nat} {w : World} {v : Value} {xs : List Bool} (h : OwnB e base w v xs) : Rd boolK w v xs := OwnR.rd h
theorem OwnB.gr {e base : Nat} {w w' : World} {v : Value} {xs : List Bool} (h : OwnB e base w v xs) (g : Gr w w') : OwnB e base w' v xs := OwnR.gr h g
theorem OwnB.low {e base base' : Nat} {w : World} {v : Value} {xs : List Bool} (h : OwnB e base w v xs) (hb : base' ≤ base) : OwnB e base' w v xs := OwnR.low h hb
theorem OwnB.at_ {e base : Nat} {w : World} {g n cap : Nat} {xs : List Bool} (h : OwnB e base w (.slice (some ⟨g, 0, none⟩) n cap) xs) {i : Nat} (hi : i < xs.length) : w.cell? ⟨g, i, none⟩ = some (.bool (ix xs i)) := by
  obtain ⟨b, o, hb, hc⟩ := h.rd.bool hi
  cases hb
  rwa [Nat.zero_add] at hc
theorem OwnB.set {e base : Nat} {w : World} {g n cap : Nat} {xs : List Bool} (h : OwnB e base w (.slice (some ⟨g, 0, none⟩) n cap) xs) (i : Nat) (b : Bool) : OwnB e base (w.setCell ⟨g, i, none⟩ (.bool b)) (.slice (some ⟨g, 0, none⟩) n cap) (xs.set i b) :=
  OwnR.set1 rfl h i (On.true (p := [Value.bool b] = [.bool b] ∧ True) ⟨rfl, trivial⟩)
theorem OwnB.other {e base : Nat} {w : World} {v : Value} {xs : List Bool} (h : OwnB e base w v xs) {a : Addr} (ha : v.ownBlock ≠ some a.block) (u : Value) : OwnB e base (w.setCell a u) v xs := OwnR.other h ha (fun e => e) u
theorem OwnB.grown {e base : Nat} {w w' : World} {v : Value} {xs : List Bool} {row : Option Nat} (h : OwnB e base w v xs) (hg : w.grownBy w' row) (hne : v.ownBlock = none ∨ v.ownBlock ≠ row) : OwnB e base w' v xs := OwnR.kept h hg hne (fun _ _ hb => hb.elim)
theorem OwnB.made {e base : Nat} {w : World} {g n : Nat} (h : w.ownsRow base e 1 (.slice (some ⟨g, 0, none⟩) n n) n (List.replicate n (.bool false))) : OwnB e base w (.slice (some ⟨g, 0, none⟩) n n) (List.replicate n false) := by
  unfold OwnB OwnR
  refine ⟨List.replicate n (false, [.bool false]), by simp, ?_, fun r hr => ?_⟩
  · have : cellsOf (List.replicate n (false, [Value.bool false])) = List.replicate n (.bool false) := by
      unfold cellsOf
      clear h
      induction n with
      | zero => rfl
      | succ n ih => rw [List.replicate_succ, List.flatMap_cons, ih, List.replicate_succ]; rfl
    rw [this, List.length_replicate]; exact h
  · rw [(List.mem_replicate.1 hr).2]
    exact On.true (p := [Value.bool false] = [.bool false] ∧ True) ⟨rfl, trivial⟩
/-- 'xs[:len(xs)-1]' of a row of the call's own -/
theorem OwnI.pop {e base : Nat} {w : World} {g n cap : Nat} {xs : List Int} {x : Int} (h : OwnI e base w (.slice (some ⟨g, 0, none⟩) n cap) (xs ++ [x])) : OwnI e base w (.slice (some ⟨g, 0, none⟩) xs.length cap) xs := by
  unfold OwnI at *
  obtain ⟨⟨h1, h2⟩, h3⟩ := h
  refine ⟨⟨by simp, ?_⟩, fun y hy => h3 y (List.mem_append_left _ hy)⟩
  rcases h2 with ⟨h4, _⟩ | ⟨g', cap', cur, h4, h5, h6, h7, h8, h9, h10⟩
  · cases h4
  · simp only [Value.slice.injEq, Option.some.injEq, Addr.mk.injEq] at h4
    obtain ⟨⟨rfl, _⟩, rfl, rfl⟩ := h4
    rw [List.length_append, List.length_singleton] at h7 h10
    refine .inr ⟨g, cap, cur, rfl, h5, h6, by omega, h8, h9, ?_⟩
    have h11 : (cur.toList.take ((xs.length + 1) * 1)).take (xs.length * 1) = ((xs ++ [x]).map (Value.int .i64)).take (xs.length * 1) := by rw [h10]
    rw [List.take_take, Nat.min_eq_left (by omega)] at h11
    rw [h11]; simp
end Go.Tok
namespace Go.Proofs.Ytelfbfjegmncaaa
open Go.RowKit Go.Tok
set_option linter.unusedVariables false
theorem boolInfo : (Try.prog.info? 4).map (fun i => (i.zero, i.size, i.bytes)) = some (some (.bool false), 1, 1) := by kernel_rfl
set_option maxHeartbeats 4000000 in
set_option maxRecDepth 100000 in
theorem spread_calls (v u : Value) (L : List (List Int)) (xs : List Int) (w : World) (hv : Rd rowK w v L) (hu : Ints w u xs) (hL : LinksOk L) (hx : ∀ f ∈ xs, ∃ k : Nat, f = k ∧ k < L.length) (hsz : todoW L (List.replicate L.length false) + xs.length ≤ 17592186044416) :
    Calls Try.prog 68 #[v, u] w fun e w' => ∃ v', e = .returned v' ∧ OwnB 4 w.heap.size w' v' (spreadF L xs) ∧ Gr w w' := by
  have T := intTy
  obtain ⟨a, cap, rfl, hlc, hcap⟩ := hv.len
  obtain ⟨a', cap', rfl, hlc', hcap'⟩ := hu.len
  obtain ⟨i, hi, hz, hs, hb⟩ := info_parts boolInfo
  obtain ⟨R, hR⟩ : ∃ R, R = spreadF L xs := ⟨_, rfl⟩
  rw [← hR]
  have HR := Lib.hid hR
  have hll : L.length ≤ 17592186044416 := by
    have : L.length ≤ todoW L (List.replicate L.length false) := by
      unfold todoW
      have h1 : ∀ n, n ≤ L.length → n ≤ ((List.range n).map fun k => if ix (List.replicate L.length false) k = true then 0 else (ix L k).length + 1).sum := by
        intro n
        induction n with
        | zero => intro _; simp
        | succ n ih =>
          intro h
          have := ih (by omega)
          rw [List.range_succ, List.map_append, List.sum_append]
          have h2 : ix (List.replicate L.length false) n = false := by rw [ix_lt (by simp; omega)]; simp
          simp only [List.map_cons, List.map_nil, List.sum_cons, List.sum_nil, h2]
          simp; omega
      exact h1 _ (Nat.le_refl _)
    omega
  have hxl : xs.length ≤ 17592186044416 := by omega
  clear hR
  go_enter Try.func68, Try.ntmps68
  go_wp2_with (at_make; refine wpList_make_full w rfl _ _ _ rfl w.heap.size 4 i _ 1 Try.underlying125 hi hz hs .i64 .i64 _ _ L.length rfl rfl rfl rfl (by rw [hb]; omega) (by unfold maxLen; omega) (Nat.le_refl _) ?_; intro w1 ho1 hg1)
  have ob1 : OwnB 4 w.heap.size w1 (.slice (some ⟨w.heap.size, 0, none⟩) L.length L.length) (List.replicate L.length false) := by
    simp only [Value.cells, Nat.mul_one, toList_madeCells_one] at ho1
    exact OwnB.made (by simpa using ho1)
  have hlt1 : w.heap.size < w1.heap.size := (ho1.lt w.heap.size rfl).2
  have G1 : Gr w w1 := (Gr.refl w).grown hg1 (by simp)
  clear ho1 hg1 hi hz hs hb
  go_wp2_with fail
  refine (Clone_calls _ xs _ (hu.gr G1) hxl).mono ?_
  rintro _ w2 ⟨v2, rfl, o2, g2⟩
  have ob2 := ob1.gr g2
  have G2 := G1.trans g2
  have hS0 := Spr.zero hx
  go_wp2_with fail
  go_loopg [6] (todoW L (List.replicate L.length false) + xs.length + 1) (fun f tv wr => ∃ (inn : List Bool) (T : List Int), OwnI 3 (w.heap.size + 1) wr tv T ∧ OwnB 4 w.heap.size wr (.slice (some ⟨w.heap.size, 0, none⟩) L.length L.length) inn ∧ Spr L xs inn T ∧ Hid (spreadL L f inn T = R) ∧ todoW L inn + T.length < f ∧ todoW L inn + T.length ≤ 17592186044416 ∧ Gr w wr ∧ w.heap.size < wr.heap.size)
  case atStart => exact ⟨_, xs, o2.lower (by omega), ob2, hS0, Lib.hid HR.out.symm, Nat.lt_succ_self _, hsz, G2, by have := g2.le; omega⟩
  case round =>
    obtain ⟨inn, T', ho, hob, hS, HS, hf, hcap3, hgr, hwl⟩ := hrel
    rcases List.eq_nil_or_concat T' with rfl | ⟨T2, t, rfl⟩
    · have hRe : inn = R := by rw [← HS.out, spread_nil]
      have HRE := Lib.hid hRe
      obtain ⟨ta, tc, rfl, _, _⟩ := ho.ints.len
      clear hRe
      go_wp2_with fail
      go_ret
      exact ⟨_, rfl, by rw [← HRE.out]; exact hob, hgr⟩
    · rw [List.concat_eq_append] at ho hS HS hf hcap3
      obtain ⟨k, rfl, hk, _⟩ := hS.todo t (by simp)
      obtain ⟨f, rfl⟩ : ∃ f, gk = f + 1 := ⟨gk - 1, by omega⟩
      have hlen := hS.len
      have hT2 : (T2 ++ [(k : Int)]).length = T2.length + 1 := by simp
      have hlI : (k : Int) < (L.length : Int) := by omega
      have hob' := hob.at_ (i := k) (by omega)
      obtain ⟨lb, lo, rv, rfl, lc0, hI⟩ := hv.row hk
      obtain ⟨ra, rc, rfl, _, _⟩ := hI.len
      have hlb : lb ≠ w.heap.size := Nat.ne_of_lt (cell_block lc0)
      have lc := cell_gr lc0 hgr
      rcases ho.form with ⟨_, h0⟩ | ⟨g, tcap, rfl, hg1, hg2, hc1, hc2⟩
      · simp at h0
      rw [hT2] at ho hc1 hf hcap3
      have hc := ho.cell (i := T2.length) (by rw [hT2]; omega)
      rw [nth_append_one] at hc
      have hpop := ho.pop
      have e1 : ((T2.length + 1 : Nat) : Int) - 1 = (T2.length : Int) := by omega
      have hne : g ≠ w.heap.size := by omega
      rw [hT2]
      cases hb : ix inn k
      · rw [hb] at hob'
        have HS2 : Hid (spreadL L f (inn.set k true) (T2 ++ ix L k) = R) := Lib.hid (by rw [← HS.out, spread_out hb])
        have hS2 := hS.push hL hk
        have hm := sum_map_set hk hlen hb
        have hbs := hob.set k true
        clear hS hT2
        have GS : Gr w (wr.setCell ⟨w.heap.size, k, none⟩ (.bool true)) := hgr.setCell (Nat.le_refl _) _
        have hpo := hpop.other (a := ⟨w.heap.size, k, none⟩) (by simp [Value.ownBlock]; omega) (.bool true)
        have lc2 := cell_gr lc0 GS
        have hws : w.heap.size + 1 ≤ (wr.setCell ⟨w.heap.size, k, none⟩ (.bool true)).heap.size := by simp [World.setCell]; omega
        have hF := OwnR.frozen (K := boolK) hob k
        go_wp2_with (at_builtin; go_loud (refine app_ints T _ _ (w.heap.size + 1) _ _ T2 (ix L k) (by rfl) (by rfl) (by rfl) (by rfl) hpo (hI.gr GS) (by omega) hws ?_; intro v' w5 ho5 hgs hgb hat))
        have hgw := hgs w (Nat.le_succ _) GS
        have hb5 := hbs.grown hgb (.inr (by simp [Value.ownBlock]; omega))
        go_roundg f
        case measure => omega
        case rel => exact ⟨inn.set k true, T2 ++ ix L k, ho5, hb5, hS2, HS2, by rw [List.length_append]; omega, by rw [List.length_append]; omega, hgw, Nat.lt_of_lt_of_le hws hgb.size⟩
      · rw [hb] at hob'
        have HS2 : Hid (spreadL L f inn T2 = R) := Lib.hid (by rw [← HS.out, spread_in hb])
        have hS2 := hS.pop hb
        clear hS hT2
        go_wp2_with fail
        go_roundg f
        case measure => omega
        case rel => exact ⟨inn, T2, hpop, hob, hS2, HS2, by omega, by omega, hgr, hwl⟩
end Go.Proofs.Ytelfbfjegmncaaa
