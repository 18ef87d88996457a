/- Rows of bools; contract of live.spread. -/
import Derived.Test.YtjpapgbdhflgnaaPB
import Derived.Test.YtjpapgbdhflgnaaBoolRow
import Derived.Test.YtjpapgbdhflgnaaGM
import Derived.Test.YtjpapgbdhflgnaaPA
import Derived.Deep.LoopGhost
import Derived.Test.YtjpapgbdhflgnaaGR
import Derived.BigQuiet
import Derived.Deep.QuietTactic
import Derived.Lib.Hide
import Derived.Deep.RegionHeld3
namespace Go.Proofs.Ytjpapgbdhflgnaa
open Go.RowKit Go.Tok
set_option linter.unusedVariables false
set_option maxHeartbeats 4000000 in
set_option maxRecDepth 100000 in
theorem spread_calls (v u : Value) (L : List (List Int)) (xs : List Int) (w : World) (hv : Rd rowK w v L) (hu : Ints w u xs) (hL : LinksOk L) (hx : ∀ f ∈ xs, ∃ k : Nat, f = k ∧ k < L.length) (hsz : todoW L (List.replicate L.length false) + xs.length ≤ 17592186044416) :
    Calls Try.prog 62 #[v, u] w fun e w' => ∃ v', e = .returned v' ∧ OwnB 4 w.heap.size w' v' (spreadF L xs) ∧ Gr w w' := by
  have T := intTy
  obtain ⟨a, cap, rfl, hlc, hcap⟩ := hv.len
  obtain ⟨a', cap', rfl, hlc', hcap'⟩ := hu.len
  obtain ⟨i, hi, hz, hs, hb⟩ := info_parts boolInfo
  obtain ⟨R, hR⟩ : ∃ R, R = spreadF L xs := ⟨_, rfl⟩
  rw [← hR]
  have HR := Lib.hid hR
  have hll : L.length ≤ 17592186044416 := by
    have : L.length ≤ todoW L (List.replicate L.length false) := by
      unfold todoW
      have h1 : ∀ n, n ≤ L.length → n ≤ ((List.range n).map fun k => if ix (List.replicate L.length false) k = true then 0 else (ix L k).length + 1).sum := by
        intro n
        induction n with
        | zero => intro _; simp
        | succ n ih =>
          intro h
          have := ih (by omega)
          rw [List.range_succ, List.map_append, List.sum_append]
          have h2 : ix (List.replicate L.length false) n = false := by rw [ix_lt (by simp; omega)]; simp
          simp only [List.map_cons, List.map_nil, List.sum_cons, List.sum_nil, h2]
          simp; omega
      exact h1 _ (Nat.le_refl _)
    omega
  have hxl : xs.length ≤ 17592186044416 := by omega
  clear hR
  go_enter Try.func62, Try.ntmps62
  go_wp2_with (at_make; refine wpList_make_full w rfl _ _ _ rfl w.heap.size 4 i _ 1 Try.underlying81 hi hz hs .i64 .i64 _ _ L.length rfl rfl rfl rfl (by rw [hb]; omega) (by unfold maxLen; omega) (Nat.le_refl _) ?_; intro w1 ho1 hg1)
  have ob1 : OwnB 4 w.heap.size w1 (.slice (some ⟨w.heap.size, 0, none⟩) L.length L.length) (List.replicate L.length false) := by
    simp only [Value.cells, Nat.mul_one, toList_madeCells_one] at ho1
    exact OwnB.made (by simpa using ho1)
  have hlt1 : w.heap.size < w1.heap.size := (ho1.lt w.heap.size rfl).2
  have G1 : Gr w w1 := (Gr.refl w).grown hg1 (by simp)
  clear ho1 hg1 hi hz hs hb
  go_wp2_with fail
  refine (Clone_calls _ xs _ (hu.gr G1) hxl).mono ?_
  rintro _ w2 ⟨v2, rfl, o2, g2⟩
  have ob2 := ob1.gr g2
  have G2 := G1.trans g2
  have hS0 := Spr.zero hx
  go_wp2_with fail
  go_loopg [6] (todoW L (List.replicate L.length false) + xs.length + 1) (fun f tv wr => ∃ (inn : List Bool) (T : List Int), OwnI 3 (w.heap.size + 1) wr tv T ∧ OwnB 4 w.heap.size wr (.slice (some ⟨w.heap.size, 0, none⟩) L.length L.length) inn ∧ Spr L xs inn T ∧ Hid (spreadL L f inn T = R) ∧ todoW L inn + T.length < f ∧ todoW L inn + T.length ≤ 17592186044416 ∧ Gr w wr ∧ w.heap.size < wr.heap.size)
  case atStart => exact ⟨_, xs, o2.lower (by omega), ob2, hS0, Lib.hid HR.out.symm, Nat.lt_succ_self _, hsz, G2, by have := g2.le; omega⟩
  case round =>
    obtain ⟨inn, T', ho, hob, hS, HS, hf, hcap3, hgr, hwl⟩ := hrel
    rcases List.eq_nil_or_concat T' with rfl | ⟨T2, t, rfl⟩
    · have hRe : inn = R := by rw [← HS.out, spread_nil]
      have HRE := Lib.hid hRe
      obtain ⟨ta, tc, rfl, _, _⟩ := ho.ints.len
      clear hRe
      go_wp2_with fail
      go_ret
      exact ⟨_, rfl, by rw [← HRE.out]; exact hob, hgr⟩
    · rw [List.concat_eq_append] at ho hS HS hf hcap3
      obtain ⟨k, rfl, hk, _⟩ := hS.todo t (by simp)
      obtain ⟨f, rfl⟩ : ∃ f, gk = f + 1 := ⟨gk - 1, by omega⟩
      have hlen := hS.len
      have hT2 : (T2 ++ [(k : Int)]).length = T2.length + 1 := by simp
      have hlI : (k : Int) < (L.length : Int) := by omega
      have hob' := hob.at_ (i := k) (by omega)
      obtain ⟨lb, lo, rv, rfl, lc0, hI⟩ := hv.row hk
      obtain ⟨ra, rc, rfl, _, _⟩ := hI.len
      have hlb : lb ≠ w.heap.size := Nat.ne_of_lt (cell_block lc0)
      have lc := cell_gr lc0 hgr
      rcases ho.form with ⟨_, h0⟩ | ⟨g, tcap, rfl, hg1, hg2, hc1, hc2⟩
      · simp at h0
      rw [hT2] at ho hc1 hf hcap3
      have hc := ho.cell (i := T2.length) (by rw [hT2]; omega)
      rw [nth_append_one] at hc
      have hpop := ho.pop
      have e1 : ((T2.length + 1 : Nat) : Int) - 1 = (T2.length : Int) := by omega
      have hne : g ≠ w.heap.size := by omega
      rw [hT2]
      cases hb : ix inn k
      · rw [hb] at hob'
        have HS2 : Hid (spreadL L f (inn.set k true) (T2 ++ ix L k) = R) := Lib.hid (by rw [← HS.out, spread_out hb])
        have hS2 := hS.push hL hk
        have hm := sum_map_set hk hlen hb
        have hbs := hob.set k true
        clear hS hT2
        have GS : Gr w (wr.setCell ⟨w.heap.size, k, none⟩ (.bool true)) := hgr.setCell (Nat.le_refl _) _
        have hpo := hpop.other (a := ⟨w.heap.size, k, none⟩) (by simp [Value.ownBlock]; omega) (.bool true)
        have lc2 := cell_gr lc0 GS
        have hws : w.heap.size + 1 ≤ (wr.setCell ⟨w.heap.size, k, none⟩ (.bool true)).heap.size := by simp [World.setCell]; omega
        have hF := OwnR.frozen (K := boolK) hob k
        go_wp2_with (at_builtin; go_loud (refine app_ints T _ _ (w.heap.size + 1) _ _ T2 (ix L k) (by rfl) (by rfl) (by rfl) (by rfl) hpo (hI.gr GS) (by omega) hws ?_; intro v' w5 ho5 hgs hgb hat))
        have hgw := hgs w (Nat.le_succ _) GS
        have hb5 := hbs.grown hgb (.inr (by simp [Value.ownBlock]; omega))
        go_roundg f
        case measure => omega
        case rel => exact ⟨inn.set k true, T2 ++ ix L k, ho5, hb5, hS2, HS2, by rw [List.length_append]; omega, by rw [List.length_append]; omega, hgw, Nat.lt_of_lt_of_le hws hgb.size⟩
      · rw [hb] at hob'
        have HS2 : Hid (spreadL L f inn T2 = R) := Lib.hid (by rw [← HS.out, spread_in hb])
        have hS2 := hS.pop hb
        clear hS hT2
        go_wp2_with fail
        go_roundg f
        case measure => omega
        case rel => exact ⟨inn, T2, hpop, hob, hS2, HS2, by omega, by omega, hgr, hwl⟩
end Go.Proofs.Ytjpapgbdhflgnaa

/- Rows of rows that a call makes and appends to one by one; contract of live.links. -/
namespace Go.Tok
open Go.RowKit
set_option linter.unusedVariables false
def uat (us : List Value) (i : Nat) : Value := us.getD i (.slice none 0 0)
theorem uat_lt {us : List Value} {i : Nat} (h : i < us.length) : uat us i = us[i] := by simp [uat, h]
theorem uat_set_self {us : List Value} {i : Nat} (h : i < us.length) (v : Value) : uat (us.set i v) i = v := by rw [uat_lt (by simpa using h)]; simp
theorem uat_set_ne {us : List Value} {i j : Nat} (h : i ≠ j) (v : Value) : uat (us.set i v) j = uat us j := by
  unfold uat; simp [List.getD, List.getElem?_set_ne h]
/-- block g holds the rows us, each a row of the call's own, no two in one block -/
structure Grid (t e base : Nat) (w : World) (g : Nat) (us : List Value) (rows : List (List Int)) : Prop where
  blk : Blk w g t us.toArray
  len : us.length = rows.length
  own : ∀ i, i < rows.length → OwnI e base w (uat us i) (ix rows i)
  ne : ∀ i, i < rows.length → (uat us i).ownBlock ≠ some g
  ap : ∀ i j, i < rows.length → j < rows.length → i ≠ j → ∀ b, (uat us i).ownBlock = some b → (uat us j).ownBlock ≠ some b
section
variable {t e base : Nat} {w w' : World} {g : Nat} {us : List Value} {rows : List (List Int)}
theorem Grid.gr (h : Grid t e base w g us rows) (k : Gr w w') : Grid t e base w' g us rows := ⟨h.blk.gr k, h.len, fun i hi => (h.own i hi).gr k, h.ne, h.ap⟩
theorem Grid.made {n base0 : Nat} (h : w.ownsRow base0 t 1 (.slice (some ⟨g, 0, none⟩) n n) n (List.replicate n (.slice none 0 0))) : Grid t e base w g (List.replicate n (.slice none 0 0)) (List.replicate n []) := by
  have hu : ∀ i, uat (List.replicate n (.slice none 0 0)) i = .slice none 0 0 := fun i => by
    unfold uat; by_cases hi : i < n <;> simp [List.getD, hi]
  have hr : ∀ i, ix (List.replicate n ([] : List Int)) i = [] := fun i => by
    by_cases hi : i < n
    · rw [ix_lt (by simpa using hi)]; simp
    · rw [ix_ge (by simpa using hi)]; rfl
  refine ⟨?_, by simp, fun i _ => by rw [hu, hr]; exact OwnI.nil _ _ _, fun i _ => by rw [hu]; simp [Value.ownBlock], fun i j _ _ _ b hb => by rw [hu] at hb; simp [Value.ownBlock] at hb⟩
  rcases h.2 with ⟨h1, _⟩ | ⟨g', cap', cur, h1, h2, h3, h4, h5, h6, h7⟩
  · cases h1
  · simp only [Value.slice.injEq, Option.some.injEq, Addr.mk.injEq] at h1
    obtain ⟨⟨rfl, _⟩, _, rfl⟩ := h1
    have : cur = (List.replicate n (Value.slice none 0 0)).toArray := by
      apply Array.ext'
      rw [List.take_of_length_le (by rw [Array.length_toList]; omega)] at h7
      simpa using h7
    unfold Blk
    rw [← this]; exact h3
theorem Grid.put (h : Grid t e base w g us rows) {f : Nat} (hf : f < rows.length) {x : Int} {v' : Value} (hg : w.grownBy w' (uat us f).ownBlock) (ho : OwnI e base w' v' (ix rows f ++ [x])) (hat : v'.ownBlock = (uat us f).ownBlock ∨ v'.ownBlock = some w.heap.size) (hgl : g < base) :
    Grid t e base (w'.setCell ⟨g, f, none⟩ v') g (us.set f v') (rows.set f (ix rows f ++ [x])) := by
  have hfu : f < us.length := by rw [h.len]; exact hf
  have hir : ∀ i, i ≠ f → ix (rows.set f (ix rows f ++ [x])) i = ix rows i := fun i hi => by
    by_cases hil : i < rows.length
    · rw [ix_lt (by simpa using hil), ix_lt hil, List.getElem_set_ne (Ne.symm hi)]
    · rw [ix_ge (by simpa using hil), ix_ge (by omega)]
  have hrf : ix (rows.set f (ix rows f ++ [x])) f = ix rows f ++ [x] := by rw [ix_lt (by simpa using hf)]; simp
  have hvg : v'.ownBlock ≠ some g := fun e => by have := (ho.lt e).1; omega
  have hnew : ∀ j, j < rows.length → j ≠ f → ∀ b, v'.ownBlock = some b → (uat us j).ownBlock ≠ some b := by
    intro j hj hjf b hb hjb
    rcases hat with h1 | h1
    · exact h.ap f j hf hj (Ne.symm hjf) b (h1.symm.trans hb) hjb
    · rw [h1] at hb
      have := Option.some.inj hb
      have := ((h.own j hj).lt hjb).2
      omega
  refine ⟨?_, by simp [h.len], fun i hi => ?_, fun i hi => ?_, fun i j hi hj hij b => ?_⟩
  · have b1 : Blk w' g t us.toArray := h.blk.grown hg (fun e => h.ne f hf e.symm)
    have := b1.set f v'
    simpa using this
  · rw [List.length_set] at hi
    by_cases hif : i = f
    · subst hif
      rw [uat_set_self hfu, hrf]
      exact ho.other hvg _
    · rw [uat_set_ne (Ne.symm hif), hir i hif]
      refine ((h.own i hi).grown hg ?_).other (h.ne i hi) _
      cases hb : (uat us i).ownBlock with
      | none => exact .inl rfl
      | some b => exact .inr fun e => h.ap i f hi hf hif b hb e.symm
  · rw [List.length_set] at hi
    by_cases hif : i = f
    · subst hif; rw [uat_set_self hfu]; exact hvg
    · rw [uat_set_ne (Ne.symm hif)]; exact h.ne i hi
  · rw [List.length_set] at hi hj
    by_cases hif : i = f
    · subst hif
      rw [uat_set_self hfu, uat_set_ne hij]
      exact hnew j hj (Ne.symm hij) b
    · rw [uat_set_ne (Ne.symm hif)]
      by_cases hjf : j = f
      · subst hjf
        rw [uat_set_self hfu]
        exact fun h1 h2 => hnew i hi hif b h2 h1
      · rw [uat_set_ne (Ne.symm hjf)]; exact h.ap i j hi hj hij b
theorem Grid.cell (h : Grid t e base w g us rows) {i : Nat} (hi : i < rows.length) : w.cell? ⟨g, i, none⟩ = some (uat us i) :=
  h.blk.cell (by have : i < us.length := by rw [h.len]; exact hi
                 rw [uat_lt this]; simp [this])
theorem Grid.rd (h : Grid t e base w g us rows) (hn : rows.length ≤ maxLen) : Rd rowK w (.slice (some ⟨g, 0, none⟩) rows.length rows.length) rows := by
  refine rd_mk rfl (Nat.le_refl _) hn (fun e => by cases e) fun i hi => ⟨g, 0, [uat us i], rfl, ⟨_, rfl, (h.own i hi).ints⟩, fun j u hj => ?_⟩
  cases j with
  | zero =>
    simp at hj; subst hj
    have := h.cell hi
    rwa [show 0 + i * rowK.size + 0 = i by show 0 + i * 1 + 0 = _; omega]
  | succ j => simp at hj
end
theorem edges_len (arcs : List ArcD) (b : Bool) : (edgesF arcs b).length = arcs.length := by simp [edgesF]
theorem edges_ix {arcs : List ArcD} {b : Bool} {k : Nat} (h : k < arcs.length) : ix (edgesF arcs b) k = if b then ((ix arcs k).dst, (ix arcs k).src) else ((ix arcs k).src, (ix arcs k).dst) := by
  rw [ix_lt (by rw [edges_len]; exact h), ix_lt h]; simp [edgesF]
theorem links_step {n : Nat} {arcs : List ArcD} {b : Bool} {k f : Nat} {t : Int} (h : k < arcs.length) (he : ix (edgesF arcs b) k = ((f : Int), t)) (hf : f < n) :
    linksF n ((edgesF arcs b).take (k + 1)) = (linksF n ((edgesF arcs b).take k)).set f (ix (linksF n ((edgesF arcs b).take k)) f ++ [t]) := by
  rw [take_ix (by rw [edges_len]; exact h), he, linksF_snoc _ _ _ hf, linksF_ix _ hf]
theorem linkRow_len (es : Edges) (k : Nat) : (linkRow es k).length ≤ es.length := by
  unfold linkRow; rw [List.length_map]; exact List.length_filter_le _ _
end Go.Tok
namespace Go.Proofs.Ytjpapgbdhflgnaa
open Go.RowKit Go.Tok
set_option linter.unusedVariables false
theorem rowInfo : (Try.prog.info? 39).map (fun i => (i.zero, i.size, i.bytes)) = some (some (.slice none 0 0), 1, 24) := by kernel_rfl
set_option maxHeartbeats 8000000 in
set_option maxRecDepth 100000 in
theorem links_calls (v : Value) (S : SpaceD) (back : Bool) (w : World) (hv : SpaceR w v S) (hok : ∀ k, k < S.arcs.length → ∃ (f : Nat) (t : Int), ix (edgesF S.arcs back) k = ((f : Int), t) ∧ f < S.marks.length) (hm : S.marks.length ≤ 5864062014805) (ha : S.arcs.length ≤ 5864062014805) :
    Calls Try.prog 63 #[v, .bool back] w fun e w' => ∃ v', e = .returned v' ∧ Rd rowK w' v' (linksF S.marks.length (edgesF S.arcs back)) ∧ Gr w w' := by
  have T := intTy
  obtain ⟨ma, mc, aa, ac, rfl, hc1, hc2, hc3, hc4, hM, hA⟩ := hv.open_
  obtain ⟨i, hi, hz, hs, hb⟩ := info_parts rowInfo
  have HOK := Lib.hid hok
  clear hok
  go_enter Try.func63, Try.ntmps63
  go_wp2_with (at_make; refine wpList_make_full _ rfl _ _ _ rfl (w.heap.size + 1) 39 i _ 1 Try.underlying74 hi hz hs .i64 .i64 _ _ S.marks.length rfl rfl rfl rfl (by rw [hb]; omega) (by unfold maxLen; omega) (by simp) ?_; intro w1 ho1 hg1; have B1 := box_cell (show Gr (w.alloc (.cells #[.slice ma S.marks.length mc, .slice aa S.arcs.length ac] 77)) w1 from (Gr.refl _).grown hg1 (by simp)) (i := 1) rfl)
  have gd1 : Grid 39 3 (w.heap.size + 2) w1 (w.heap.size + 1) (List.replicate S.marks.length (.slice none 0 0)) (linksF S.marks.length ((edgesF S.arcs back).take 0)) := by
    simp only [Value.cells, Nat.mul_one, toList_madeCells_one] at ho1
    rw [List.take_zero, linksF_nil]
    exact Grid.made (by simpa using ho1)
  have hlt1 : w.heap.size + 1 < w1.heap.size := (ho1.lt (w.heap.size + 1) (by simp [Value.ownBlock])).2
  have G1' : Gr (w.alloc (.cells #[.slice ma S.marks.length mc, .slice aa S.arcs.length ac] 77)) w1 := (Gr.refl _).grown hg1 (by simp)
  have G1 := ((Gr.refl w).alloc _).trans G1'
  clear ho1 hg1 hi hz hs hb G1'
  go_loopw [17] (fun q wr => ∃ (k : Nat) (us : List Value), q = .int .i64 k ∧ k ≤ S.arcs.length ∧ Grid 39 3 (w.heap.size + 2) wr (w.heap.size + 1) us (linksF S.marks.length ((edgesF S.arcs back).take k)) ∧ Gr w wr ∧ w.heap.size + 1 < wr.heap.size) (fun q _ => S.arcs.length - (intOf q).toNat)
  case atStart => exact ⟨0, _, rfl, Nat.zero_le _, gd1, G1, hlt1⟩
  case round =>
    rename World => wo
    obtain ⟨k, us, rfl, hk, hG, hgr, hwl⟩ := hrel
    by_cases hlt : k < S.arcs.length
    · obtain ⟨ab, ao, rfl, c0, c1, c2, hI⟩ := (hA.gr hgr).arc hlt
      obtain ⟨f, t, he, hf⟩ := HOK.out k hlt
      have hstep := links_step hlt he hf
      rw [edges_ix hlt] at he
      have hrl : (linksF S.marks.length ((edgesF S.arcs back).take k)).length = S.marks.length := linksF_len _ _
      have hrow := linkRow_len ((edgesF S.arcs back).take k) f
      rw [List.length_take, edges_len, ← linksF_ix _ hf] at hrow
      have hfI : (f : Int) < (S.marks.length : Int) := by omega
      have hkI : (k : Int) < (S.arcs.length : Int) := by omega
      have huo := hG.own f (by rw [hrl]; exact hf)
      have hcell := hG.cell (i := f) (by rw [hrl]; exact hf)
      have hne := hG.ne f (by rw [hrl]; exact hf)
      obtain ⟨rows, hrows⟩ : ∃ rows, rows = linksF S.marks.length ((edgesF S.arcs back).take k) := ⟨_, rfl⟩
      rw [← hrows] at hstep hG hrl hrow huo
      have HST := Lib.hid hstep
      obtain ⟨uf, huf⟩ : ∃ uf, uf = uat us f := ⟨_, rfl⟩
      rw [← huf] at huo hcell hne
      have HUF := Lib.hid huf
      obtain ⟨ua, uc, rfl, _, _⟩ := huo.ints.len
      have hfu : f < us.length := by rw [hG.len, hrl]; exact hf
      have HUS := Lib.hid (show us.toArray[f]? = some (.slice ua (ix rows f).length uc) by rw [HUF.out, uat_lt hfu]; simp [hfu])
      clear hstep hrows huf HOK
      cases back
      · simp only [Bool.false_eq_true, if_false, Prod.mk.injEq] at he
        rw [he.1] at c0
        rw [he.2] at c2
        have htI : I64 t := by have h := hI.2.2; rw [he.2] at h; exact h
        clear he hI
        have GA : Gr wo (wo.alloc (.cells #[.int .i64 ((f : Int)), .int .i64 ((ix S.arcs k).tran), .int .i64 (t)] 114)) := (Gr.refl _).alloc _
        have A0 : (wo.alloc (.cells #[.int .i64 ((f : Int)), .int .i64 ((ix S.arcs k).tran), .int .i64 (t)] 114)).cell? ⟨wo.heap.size, 0, none⟩ = some (.int .i64 ((f : Int))) := box_cell (Gr.refl _) (i := 0) rfl
        have A2 : (wo.alloc (.cells #[.int .i64 ((f : Int)), .int .i64 ((ix S.arcs k).tran), .int .i64 (t)] 114)).cell? ⟨wo.heap.size, 2, none⟩ = some (.int .i64 (t)) := box_cell (Gr.refl _) (i := 2) rfl
        go_wp2_with fail
        go_quiet (fail)
        have gd : Gr (wo.alloc (.cells #[.int .i64 ((f : Int)), .int .i64 ((ix S.arcs k).tran), .int .i64 (t)] 114)) ((wo.alloc (.cells #[.int .i64 ((f : Int)), .int .i64 ((ix S.arcs k).tran), .int .i64 (t)] 114)).drewN nq) := (Gr.refl _).drewN _
        generalize (wo.alloc (.cells #[.int .i64 ((f : Int)), .int .i64 ((ix S.arcs k).tran), .int .i64 (t)] 114)).drewN nq = wd at gd ⊢
        have Gd : Gr wo wd := GA.trans gd
        have GdL : Gr wo (wd.alloc (.cells #[.int .i64 t] 3)) := Gd.alloc _
        have cd := cell_gr hcell Gd
        have hbs : w.heap.size + 2 ≤ (wd.alloc (.cells #[.int .i64 t] 3)).heap.size := by have := GdL.le; omega
        have hGd := hG.gr GdL
        clear A0 A2 c0 c1 c2 gd GA
        go_wp2_with (at_builtin; go_loud (refine app_int T _ _ (w.heap.size + 2) (.slice ua (ix rows f).length uc) (ix rows f) ⟨wd.heap.size, 0, none⟩ t (by rfl) (by rfl) (by rfl) (by rfl) (huo.gr GdL) (lit_cell rfl) htI (by omega) hbs ?_; intro v' w5 ho5 hgs hgb hat; obtain ⟨a5, n5, rfl⟩ := ho5.len1; have b5 := hGd.blk.grown hgb (fun e => hne e.symm); have f5 := b5.frozen f; have d5 := cell_gr cd (Gr.refl _); have d6 := b5.cell (i := f) HUS.out))
        have hput := hGd.put (f := f) (x := t) (v' := .slice a5 ((ix rows f).length + 1) n5) (by rw [hrl]; exact hf) (by rw [← HUF.out]; exact hgb) ho5 (by rw [← HUF.out]; exact hat) (by omega)
        rw [← HST.out] at hput
        have hgw := (hgs w (by omega) (hgr.trans GdL)).setCell (p := ⟨w.heap.size + 1, f, none⟩) (by simp) (.slice a5 ((ix rows f).length + 1) n5)
        go_roundw
        case rel => exact ⟨k + 1, _, by go_num, by omega, hput, hgw, by have := hgb.size; simp [World.setCell]; omega⟩
        case measure => simp [intOf]; omega
      · simp only [if_true, Prod.mk.injEq] at he
        rw [he.2] at c0
        rw [he.1] at c2
        have htI : I64 t := by have h := hI.1; rw [he.2] at h; exact h
        clear he hI
        have GA : Gr wo (wo.alloc (.cells #[.int .i64 (t), .int .i64 ((ix S.arcs k).tran), .int .i64 ((f : Int))] 114)) := (Gr.refl _).alloc _
        have A0 : (wo.alloc (.cells #[.int .i64 (t), .int .i64 ((ix S.arcs k).tran), .int .i64 ((f : Int))] 114)).cell? ⟨wo.heap.size, 0, none⟩ = some (.int .i64 (t)) := box_cell (Gr.refl _) (i := 0) rfl
        have A2 : (wo.alloc (.cells #[.int .i64 (t), .int .i64 ((ix S.arcs k).tran), .int .i64 ((f : Int))] 114)).cell? ⟨wo.heap.size, 2, none⟩ = some (.int .i64 ((f : Int))) := box_cell (Gr.refl _) (i := 2) rfl
        go_wp2_with fail
        go_quiet (fail)
        have gd : Gr (wo.alloc (.cells #[.int .i64 (t), .int .i64 ((ix S.arcs k).tran), .int .i64 ((f : Int))] 114)) ((wo.alloc (.cells #[.int .i64 (t), .int .i64 ((ix S.arcs k).tran), .int .i64 ((f : Int))] 114)).drewN nq) := (Gr.refl _).drewN _
        generalize (wo.alloc (.cells #[.int .i64 (t), .int .i64 ((ix S.arcs k).tran), .int .i64 ((f : Int))] 114)).drewN nq = wd at gd ⊢
        have Gd : Gr wo wd := GA.trans gd
        have GdL : Gr wo (wd.alloc (.cells #[.int .i64 t] 3)) := Gd.alloc _
        have cd := cell_gr hcell Gd
        have hbs : w.heap.size + 2 ≤ (wd.alloc (.cells #[.int .i64 t] 3)).heap.size := by have := GdL.le; omega
        have hGd := hG.gr GdL
        clear A0 A2 c0 c1 c2 gd GA
        go_wp2_with (at_builtin; go_loud (refine app_int T _ _ (w.heap.size + 2) (.slice ua (ix rows f).length uc) (ix rows f) ⟨wd.heap.size, 0, none⟩ t (by rfl) (by rfl) (by rfl) (by rfl) (huo.gr GdL) (lit_cell rfl) htI (by omega) hbs ?_; intro v' w5 ho5 hgs hgb hat; obtain ⟨a5, n5, rfl⟩ := ho5.len1; have b5 := hGd.blk.grown hgb (fun e => hne e.symm); have f5 := b5.frozen f; have d5 := cell_gr cd (Gr.refl _); have d6 := b5.cell (i := f) HUS.out))
        have hput := hGd.put (f := f) (x := t) (v' := .slice a5 ((ix rows f).length + 1) n5) (by rw [hrl]; exact hf) (by rw [← HUF.out]; exact hgb) ho5 (by rw [← HUF.out]; exact hat) (by omega)
        rw [← HST.out] at hput
        have hgw := (hgs w (by omega) (hgr.trans GdL)).setCell (p := ⟨w.heap.size + 1, f, none⟩) (by simp) (.slice a5 ((ix rows f).length + 1) n5)
        go_roundw
        case rel => exact ⟨k + 1, _, by go_num, by omega, hput, hgw, by have := hgb.size; simp [World.setCell]; omega⟩
        case measure => simp [intOf]; omega
    · obtain rfl : k = S.arcs.length := by omega
      rw [List.take_of_length_le (by rw [edges_len]; omega)] at hG
      have hrd := hG.rd (by rw [linksF_len]; unfold maxLen; omega)
      rw [linksF_len] at hrd
      go_wp2_with fail
      go_ret
      exact ⟨_, rfl, hrd, hgr⟩
end Go.Proofs.Ytjpapgbdhflgnaa

/- Contracts of live.Right, Live, Home and of the library's Contains at '[]bool', ContainsFunc at '[]api.Arc'. -/
namespace Go.Proofs.Ytjpapgbdhflgnaa
open Go.RowKit Go.Tok
set_option linter.unusedVariables false
set_option maxHeartbeats 400000 in
theorem IndexB_calls (v : Value) (xs : List Bool) (x : Bool) (w : World) (hv : Rd boolK w v xs) :
    Calls Try.prog 37 #[v, .bool x] w fun e w' => e = .returned (.int .i64 (firstI (fun y => x == y) xs)) ∧ w = w' := by
  obtain ⟨a, cap, rfl, hlc, hcap⟩ := hv.len
  go_enter Try.func37, Try.ntmps37
  go_wp2
  go_loop [8] (fun i => ∃ k : Nat, k ≤ xs.length ∧ i = .int .i64 k ∧ NoneI (fun y => x == y) xs k) (fun i => xs.length - (intOf i).toNat)
  case atStart => exact ⟨0, Nat.zero_le _, rfl, NoneI.zero _ _⟩
  case round =>
    obtain ⟨k, hk, rfl, hall⟩ := hrel
    by_cases hlt : k < xs.length
    · obtain ⟨b, o, rfl, hcell⟩ := hv.bool hlt
      cases hp : (x == ix xs k)
      · go_wp2
        go_round
        case rel => exact ⟨k + 1, by omega, by go_num, hall.succ hp⟩
        case measure => simp [intOf]; omega
      · go_wp2
        go_ret
        exact ⟨ret_i64 (firstI_hit hall hlt hp).symm, rfl⟩
    · obtain rfl : k = xs.length := by omega
      go_wp2
      go_ret
      exact ⟨ret_i64 (firstI_miss hall).symm, rfl⟩
/-- the function g, bound to lb, answers p at each arc, in w0 and in every later world -/
def AnswersArc (P : Program) (g : Nat) (lb : Array Value) (xs : List ArcD) (p : ArcD → Bool) (w0 : World) : Prop :=
  ∀ (W : World) (a : ArcD), a ∈ xs → Gr w0 W → arcI a → Calls P g (#[.agg #[.int .i64 a.src, .int .i64 a.tran, .int .i64 a.dst]] ++ lb) W fun e w' => e = .returned (.bool (p a)) ∧ Gr W w'
end Go.Proofs.Ytjpapgbdhflgnaa

/- Contracts of live.Live, Home. -/
namespace Go.Tok
open Go.RowKit
set_option linter.unusedVariables false
theorem one_row (e : Int × Int) : ∀ n : Nat, ((List.range n).map fun (k : Nat) => if e.1 = (k : Int) then 1 else 0).sum ≤ 1 := by
  have key : ∀ n : Nat, ((List.range n).map fun (k : Nat) => if e.1 = (k : Int) then 1 else 0).sum = if 0 ≤ e.1 ∧ e.1 < n then 1 else 0 := by
    intro n
    induction n with
    | zero => rw [if_neg (by omega)]; rfl
    | succ n ih =>
      rw [List.range_succ, List.map_append, List.sum_append, ih]
      simp only [List.map_cons, List.map_nil, List.sum_cons, List.sum_nil]
      by_cases h : e.1 = (n : Int)
      · have a1 : (if e.1 = (n : Int) then 1 else 0) = 1 := if_pos h
        have a2 : (if 0 ≤ e.1 ∧ e.1 < ((n : Nat) : Int) then 1 else 0) = 0 := if_neg (by omega)
        have a3 : (if 0 ≤ e.1 ∧ e.1 < ((n + 1 : Nat) : Int) then 1 else 0) = 1 := if_pos (by omega)
        rw [a1, a2, a3]; try omega
      · have a1 : (if e.1 = (n : Int) then 1 else 0) = 0 := if_neg h
        rw [a1]
        by_cases h2 : 0 ≤ e.1 ∧ e.1 < (n : Int)
        · have a2 : (if 0 ≤ e.1 ∧ e.1 < ((n : Nat) : Int) then 1 else 0) = 1 := if_pos h2
          have a3 : (if 0 ≤ e.1 ∧ e.1 < ((n + 1 : Nat) : Int) then 1 else 0) = 1 := if_pos (by omega)
          rw [a2, a3]; try omega
        · have a2 : (if 0 ≤ e.1 ∧ e.1 < ((n : Nat) : Int) then 1 else 0) = 0 := if_neg h2
          have a3 : (if 0 ≤ e.1 ∧ e.1 < ((n + 1 : Nat) : Int) then 1 else 0) = 0 := if_neg (by omega)
          rw [a2, a3]; try omega
  intro n
  rw [key]; split <;> omega
theorem sum_add (f g : Nat → Nat) : ∀ l : List Nat, (l.map fun k => f k + g k).sum = (l.map f).sum + (l.map g).sum
  | [] => rfl
  | k :: l => by simp only [List.map_cons, List.sum_cons, sum_add f g l]; omega
theorem sum_links (n : Nat) : ∀ es : Edges, ((List.range n).map fun k => (linkRow es k).length).sum ≤ es.length
  | [] => by
    have : (fun k => (linkRow [] k).length) = fun _ => 0 := by funext k; rfl
    rw [this]
    have h : ∀ l : List Nat, (l.map fun _ => 0).sum = 0 := fun l => by induction l with
      | nil => rfl
      | cons a r ih => simp [ih]
    rw [h]; exact Nat.zero_le _
  | e :: es => by
    have he : (fun (k : Nat) => (linkRow (e :: es) k).length) = fun (k : Nat) => (if e.1 = (k : Int) then 1 else 0) + (linkRow es k).length := by
      funext k
      unfold linkRow
      by_cases h : e.1 = (k : Int)
      · rw [if_pos h, List.filter_cons_of_pos (by simpa using h), List.map_cons, List.length_cons]; omega
      · rw [if_neg h, List.filter_cons_of_neg (by simpa using h)]; omega
    rw [he, sum_add (fun (k : Nat) => if e.1 = (k : Int) then 1 else 0) (fun k => (linkRow es k).length), List.length_cons]
    have := one_row e n
    have := sum_links n es
    omega
theorem todo_links (n : Nat) (es : Edges) : todoW (linksF n es) (List.replicate (linksF n es).length false) ≤ n + es.length := by
  unfold todoW
  rw [linksF_len]
  have h1 : ((List.range n).map fun k => if ix (List.replicate n false) k = true then 0 else (ix (linksF n es) k).length + 1) = (List.range n).map fun k => (linkRow es k).length + 1 := by
    apply List.map_congr_left
    intro k hk
    have hk := List.mem_range.1 hk
    rw [linksF_ix es hk, ix_lt (by simpa using hk)]; simp
  rw [h1, sum_add (fun k => (linkRow es k).length) (fun _ => 1)]
  have h2 := sum_links n es
  have h3 : ∀ l : List Nat, (l.map fun _ => 1).sum = l.length := fun l => by induction l with
    | nil => rfl
    | cons a r ih => simp [ih]; omega
  rw [h3, List.length_range]; omega
theorem froms_len (S : SpaceD) (t : Int) : (froms S t).length ≤ S.arcs.length := by
  unfold froms; rw [List.length_map]; exact List.length_filter_le _ _
def fromsTo (S : SpaceD) (t : Int) (j : Nat) : List Int := ((S.arcs.take j).filter fun a => decide (a.tran = t)).map (·.src)
theorem fromsTo_zero (S : SpaceD) (t : Int) : fromsTo S t 0 = [] := rfl
theorem fromsTo_yes {S : SpaceD} {t : Int} {j : Nat} (h : j < S.arcs.length) (ht : (ix S.arcs j).tran = t) : fromsTo S t (j + 1) = fromsTo S t j ++ [(ix S.arcs j).src] := by
  unfold fromsTo; rw [take_ix h, List.filter_append, List.map_append]; simp [ht]
theorem fromsTo_no {S : SpaceD} {t : Int} {j : Nat} (h : j < S.arcs.length) (ht : (ix S.arcs j).tran ≠ t) : fromsTo S t (j + 1) = fromsTo S t j := by
  unfold fromsTo; rw [take_ix h, List.filter_append, List.map_append]; simp [ht]
theorem fromsTo_all (S : SpaceD) (t : Int) : fromsTo S t S.arcs.length = froms S t := by unfold fromsTo froms; rw [List.take_length]
theorem fromsTo_len {S : SpaceD} {t : Int} {j : Nat} : (fromsTo S t j).length ≤ S.arcs.length := by
  unfold fromsTo; rw [List.length_map]
  refine Nat.le_trans (List.length_filter_le _ _) ?_
  rw [List.length_take]; omega
/-- those of the first k for which p holds -/
def pickTo (p : Nat → Bool) (k : Nat) : List Int := ((List.range k).filter p).map Int.ofNat
theorem pickTo_zero (p : Nat → Bool) : pickTo p 0 = [] := rfl
theorem pickTo_yes {p : Nat → Bool} {k : Nat} (h : p k = true) : pickTo p (k + 1) = pickTo p k ++ [(k : Int)] := by unfold pickTo; rw [List.range_succ, List.filter_append]; simp [h]
theorem pickTo_no {p : Nat → Bool} {k : Nat} (h : p k = false) : pickTo p (k + 1) = pickTo p k := by unfold pickTo; rw [List.range_succ, List.filter_append]; simp [h]
theorem pickTo_len (p : Nat → Bool) (k : Nat) : (pickTo p k).length ≤ k := by
  unfold pickTo; rw [List.length_map]; exact Nat.le_trans (List.length_filter_le _ _) (by simp)
def liveP (S : SpaceD) (t : Nat) : Bool := allIn (spreadF (backL S) (froms S (t : Int)))
theorem live_pick {S : SpaceD} (h : sRightB S = true) (trans : Int) : liveF S trans = pickTo (liveP S) (upTo trans) := by unfold liveF; rw [if_pos h]; rfl
def homeP (S : SpaceD) (k : Nat) : Bool := allIn (spreadF (backL S) [(k : Int)])
theorem home_pick {S : SpaceD} (h : sRightB S = true) : homeF S = pickTo (homeP S) S.marks.length := by unfold homeF; rw [if_pos h]; rfl
theorem allIn_def (bs : List Bool) : allIn bs = !(bs.contains false) := rfl
theorem back_edges {S : SpaceD} (h : sRightB S = true) : ∀ k, k < S.arcs.length → ∃ (f : Nat) (t : Int), ix (edgesF S.arcs true) k = ((f : Int), t) ∧ f < S.marks.length := by
  intro k hk
  obtain ⟨i, j, h1, h2, h3, h4⟩ := sRight_arc h (ix_mem hk)
  exact ⟨j, _, by rw [edges_ix hk, if_pos rfl, h2], h4⟩
end Go.Tok
namespace Go.Proofs.Ytjpapgbdhflgnaa
open Go.RowKit Go.Tok
set_option linter.unusedVariables false
/-- what hands back a list of ints of its own -/
def RetI (w : World) (xs : List Int) (e : Ending) (w' : World) : Prop := ∃ v', e = .returned v' ∧ OwnI 3 w.heap.size w' v' xs ∧ Gr w w'
theorem RetI.mk {w w' : World} {xs ys : List Int} {base : Nat} {v : Value} (he : xs = ys) (h : OwnI 3 base w' v ys) (hb : w.heap.size ≤ base) (g : Gr w w') : RetI w xs (.returned v) w' := by
  subst he; exact ⟨v, rfl, h.lower hb, g⟩
theorem upTo_min {trans : Int} (h : 0 ≤ min trans 24) : ((upTo trans : Nat) : Int) = min trans 24 := by unfold upTo; omega
end Go.Proofs.Ytjpapgbdhflgnaa

/- Contracts of live.Stuck (at a right space), Dead, Bound, and of the library's Clone at '[]api.Arc', DeleteFunc where nothing is to go. -/
namespace Go.Tok
open Go.RowKit
set_option linter.unusedVariables false
theorem srcOk_all {S : SpaceD} (h : sRightB S = true) : S.arcs.filter (srcOk S.marks.length) = S.arcs := by
  rw [List.filter_eq_self]
  intro a ha
  obtain ⟨i, j, h1, h2, h3, h4⟩ := sRight_arc h ha
  unfold srcOk
  simp; omega
theorem onL_right {S : SpaceD} (h : sRightB S = true) : onL S = linksF S.marks.length (edgesF S.arcs false) := by unfold onL; rw [srcOk_all h]
theorem on_edges {S : SpaceD} (h : sRightB S = true) : ∀ k, k < S.arcs.length → ∃ (f : Nat) (t : Int), ix (edgesF S.arcs false) k = ((f : Int), t) ∧ f < S.marks.length := by
  intro k hk
  obtain ⟨i, j, h1, h2, h3, h4⟩ := sRight_arc h (ix_mem hk)
  exact ⟨i, _, by rw [edges_ix hk, if_neg (by decide), h1], h3⟩
def srcBad (n : Nat) (a : ArcD) : Bool := decide (a.src < 0) || decide ((n : Int) ≤ a.src)
theorem srcBad_none {S : SpaceD} (h : sRightB S = true) : firstI (srcBad S.marks.length) S.arcs = -1 := by
  refine firstI_miss (NoneI.intro fun i hi => ?_)
  obtain ⟨i', j, h1, h2, h3, h4⟩ := sRight_arc h (ix_mem hi)
  unfold srcBad; simp; omega
def stuckP (S : SpaceD) (k : Nat) : Bool := (ix (onL S) k).isEmpty
theorem stuck_pick (S : SpaceD) : stuckF S = pickTo (stuckP S) S.marks.length := rfl
end Go.Tok
namespace Go.Proofs.Ytjpapgbdhflgnaa
open Go.RowKit Go.Tok
set_option linter.unusedVariables false
end Go.Proofs.Ytjpapgbdhflgnaa

/- Contracts of live.Stuck (at a right space), Dead, Bound. -/
namespace Go.Proofs.Ytjpapgbdhflgnaa
open Go.RowKit Go.Tok
set_option linter.unusedVariables false
end Go.Proofs.Ytjpapgbdhflgnaa

/- Contracts of live.Dead, Bound. -/
namespace Go.Tok
open Go.RowKit
set_option linter.unusedVariables false
/-- what was counted of the first j arcs -/
structure CntA (arcs : List ArcD) (j : Nat) (kvs : List (Value × Value)) : Prop where
  ok : ∀ x ∈ kvs, ∃ t c : Int, x = (.int .i64 t, .int .i64 c) ∧ 1 ≤ c ∧ c ≤ j ∧ ∃ a ∈ arcs.take j, a.tran = t
  all : ∀ a ∈ arcs.take j, ∃ c : Int, (Value.int .i64 a.tran, Value.int .i64 c) ∈ kvs
theorem CntA.zero (arcs : List ArcD) : CntA arcs 0 [] := ⟨by simp, by simp⟩
theorem take_sub {arcs : List ArcD} {j : Nat} (h : j < arcs.length) {a : ArcD} (ha : a ∈ arcs.take j) : a ∈ arcs.take (j + 1) := by rw [take_ix h]; exact List.mem_append_left _ ha
theorem CntA.new {arcs : List ArcD} {j : Nat} {kvs : List (Value × Value)} (h : CntA arcs j kvs) (hj : j < arcs.length) : CntA arcs (j + 1) (kvs ++ [(.int .i64 (ix arcs j).tran, .int .i64 1)]) := by
  refine ⟨fun x hx => ?_, fun a ha => ?_⟩
  · rcases List.mem_append.1 hx with h1 | h1
    · obtain ⟨t, c, h2, h3, h4, a, h5, h6⟩ := h.ok x h1
      exact ⟨t, c, h2, h3, by omega, a, take_sub hj h5, h6⟩
    · rw [List.mem_singleton.1 h1]
      exact ⟨_, 1, rfl, by omega, by omega, ix arcs j, by rw [take_ix hj]; simp, rfl⟩
  · rw [take_ix hj] at ha
    rcases List.mem_append.1 ha with h1 | h1
    · obtain ⟨c, hc⟩ := h.all a h1
      exact ⟨c, List.mem_append_left _ hc⟩
    · rw [List.mem_singleton.1 h1]
      exact ⟨1, by simp⟩
theorem putAt_mem {kvs : List (Value × Value)} {jj : Nat} {v : Value} {x : Value × Value} (hx : x ∈ putAt kvs jj v) : x ∈ kvs ∨ ∃ y, kvs[jj]? = some y ∧ x = (y.1, v) := by
  unfold putAt at hx
  obtain ⟨i, hi, rfl⟩ := List.getElem_of_mem hx
  rw [List.getElem_modify]
  have hi' : i < kvs.length := by simpa using hi
  split
  · rename_i h; subst h
    exact .inr ⟨kvs[jj], List.getElem?_eq_getElem hi', rfl⟩
  · exact .inl (List.getElem_mem hi')
theorem mem_putAt {kvs : List (Value × Value)} {jj : Nat} {v : Value} {x : Value × Value} (hx : x ∈ kvs) : x ∈ putAt kvs jj v ∨ (kvs[jj]? = some x ∧ (x.1, v) ∈ putAt kvs jj v) := by
  obtain ⟨i, hi, rfl⟩ := List.getElem_of_mem hx
  have hi' : i < (putAt kvs jj v).length := by unfold putAt; simpa using hi
  have he : (putAt kvs jj v)[i] = if jj = i then (kvs[i].1, v) else kvs[i] := by simp [putAt, List.getElem_modify]
  by_cases h : jj = i
  · subst h
    refine .inr ⟨List.getElem?_eq_getElem hi, ?_⟩
    rw [if_pos rfl] at he
    rw [← he]; exact List.getElem_mem hi'
  · rw [if_neg h] at he
    rw [← he]; exact .inl (List.getElem_mem hi')
theorem CntA.old {arcs : List ArcD} {j jj : Nat} {kvs : List (Value × Value)} {c : Int} (h : CntA arcs j kvs) (hj : j < arcs.length) (hk : kvs[jj]? = some (.int .i64 (ix arcs j).tran, .int .i64 c)) (h1 : 1 ≤ c) (h2 : c ≤ j) : CntA arcs (j + 1) (putAt kvs jj (.int .i64 (c + 1))) := by
  refine ⟨fun x hx => ?_, fun a ha => ?_⟩
  · rcases putAt_mem hx with h3 | ⟨y, h3, rfl⟩
    · obtain ⟨t, c', h4, h5, h6, a, h7, h8⟩ := h.ok x h3
      exact ⟨t, c', h4, h5, by omega, a, take_sub hj h7, h8⟩
    · rw [hk] at h3; cases h3
      exact ⟨_, c + 1, rfl, by omega, by omega, ix arcs j, by rw [take_ix hj]; simp, rfl⟩
  · rw [take_ix hj] at ha
    rcases List.mem_append.1 ha with h3 | h3
    · obtain ⟨c', hc⟩ := h.all a h3
      rcases mem_putAt (jj := jj) (v := .int .i64 (c + 1)) hc with h4 | ⟨_, h4⟩
      · exact ⟨c', h4⟩
      · exact ⟨_, h4⟩
    · rw [List.mem_singleton.1 h3]
      rcases mem_putAt (jj := jj) (v := .int .i64 (c + 1)) (List.mem_of_getElem? hk) with h4 | ⟨_, h4⟩
      · exact ⟨c, h4⟩
      · exact ⟨_, h4⟩
def deadP (S : SpaceD) (t : Nat) : Bool := !(S.arcs.any fun a => decide (a.tran = (t : Int)))
theorem dead_pick (S : SpaceD) (trans : Int) : deadF S trans = pickTo (deadP S) (upTo trans) := rfl
theorem CntA.dead {S : SpaceD} {kvs : List (Value × Value)} (h : CntA S.arcs S.arcs.length kvs) {t : Nat} (hp : deadP S t = true) : ∀ x ∈ kvs, x.1 ≠ .int .i64 (t : Int) := by
  intro x hx he
  obtain ⟨t', c, rfl, _, _, a, h1, h2⟩ := h.ok x hx
  have : t' = (t : Int) := by simpa using he
  rw [List.take_length] at h1
  unfold deadP at hp
  rw [Bool.not_eq_true', List.any_eq_false] at hp
  exact hp a h1 (by simp; omega)
theorem CntA.alive {S : SpaceD} {kvs : List (Value × Value)} (h : CntA S.arcs S.arcs.length kvs) {t : Nat} (hp : deadP S t = false) : ∃ c : Int, (Value.int .i64 (t : Int), Value.int .i64 c) ∈ kvs ∧ 1 ≤ c := by
  unfold deadP at hp
  rw [Bool.not_eq_false', List.any_eq_true] at hp
  obtain ⟨a, h1, h2⟩ := hp
  obtain ⟨c, hc⟩ := h.all a (by rw [List.take_length]; exact h1)
  have : a.tran = (t : Int) := by simpa using h2
  rw [this] at hc
  obtain ⟨t', c', he, h3, _⟩ := h.ok _ hc
  cases he
  exact ⟨c, hc, h3⟩
end Go.Tok
namespace Go.Proofs.Ytjpapgbdhflgnaa
open Go.RowKit Go.Tok
set_option linter.unusedVariables false
theorem intLaw : Go.Maps.Keyed Try.prog 3 := Go.Maps.int_keyed Try.underlying3
theorem wf_i64 {x : Int} (h : I64 x) : (Lit.int .i64 x).wf = true := by
  unfold I64 at h
  simp [Lit.wf, IntKind.min, IntKind.max, IntKind.bits, IntKind.signed]
  omega
theorem int_key {x : Int} (h : I64 x) : keyOf Try.prog 3 (.int .i64 x) = some (.int .i64 x) := Go.Maps.keyOf_int_mk Try.underlying3 (wf_i64 h)
set_option maxHeartbeats 8000000 in
set_option maxRecDepth 100000 in
theorem Dead_calls (v : Value) (S : SpaceD) (trans : Int) (w : World) (hv : SpaceR w v S) (ht : I64 trans) (ha : S.arcs.length ≤ 5864062014805) :
    Calls Try.prog 38 #[v, .int .i64 trans] w (RetI w (deadF S trans)) := by
  have T := intTy
  have ht1 := ht.1
  have ht2 := ht.2
  obtain ⟨ma, mc, aa, ac, rfl, hc1, hc2, hc3, hc4, hM, hA⟩ := hv.open_
  have hv' := hv
  have B0 := box_cell (Gr.refl (w.alloc (.cells #[.slice ma S.marks.length mc, .slice aa S.arcs.length ac] 77))) (i := 0) rfl
  have B1 := box_cell (Gr.refl (w.alloc (.cells #[.slice ma S.marks.length mc, .slice aa S.arcs.length ac] 77))) (i := 1) rfl
  have GA : Gr w (w.alloc (.cells #[.slice ma S.marks.length mc, .slice aa S.arcs.length ac] 77)) := (Gr.refl _).alloc _
  have hmm := @run_makeMap Try.prog
  have HC := Lib.hid (dead_pick S trans)
  have hM0 := (MAt.new (P := Try.prog) (k := 3) (w.alloc (.cells #[.slice ma S.marks.length mc, .slice aa S.arcs.length ac] 77)))
  rw [show (w.alloc (.cells #[.slice ma S.marks.length mc, .slice aa S.arcs.length ac] 77)).heap.size = w.heap.size + 1 by simp] at hM0
  have B1' := cell_gr B1 ((Gr.refl _).alloc (.map #[] 0))
  clear B0
  rcases (show trans ≤ 24 ∨ 24 < trans by omega) with h24 | h24
  · have hmin : min trans 24 = trans := by omega
    have hup : upTo trans = trans.toNat := by unfold upTo; rw [hmin]
    rw [hup] at HC
    clear hup
    go_enter Try.func38, Try.ntmps38
    go_wp2_with fail
    go_loopw [16] (fun q wr => ∃ (j : Nat) (kvs : List (Value × Value)), q = .int .i64 j ∧ j ≤ S.arcs.length ∧ MAt Try.prog 3 wr (w.heap.size + 1) kvs ∧ CntA S.arcs j kvs ∧ Gr w wr ∧ w.heap.size + 1 < wr.heap.size) (fun q _ => S.arcs.length - (intOf q).toNat)
    case atStart => exact ⟨0, [], rfl, Nat.zero_le _, hM0, CntA.zero _, ((Gr.refl _).alloc _).alloc _, by simp⟩
    case round =>
      rename World => wo
      obtain ⟨j, kvs, rfl, hj, hmap, hcnt, hgr, hwl⟩ := hrel
      by_cases hlt : j < S.arcs.length
      · obtain ⟨ab, ao, rfl, c0, c1, c2, hI⟩ := (hA.gr hgr).arc hlt
        have GX : Gr wo (wo.alloc (.cells #[.int .i64 (ix S.arcs j).src, .int .i64 (ix S.arcs j).tran, .int .i64 (ix S.arcs j).dst] 114)) := (Gr.refl _).alloc _
        have A1 : (wo.alloc (.cells #[.int .i64 (ix S.arcs j).src, .int .i64 (ix S.arcs j).tran, .int .i64 (ix S.arcs j).dst] 114)).cell? ⟨wo.heap.size, 1, none⟩ = some (.int .i64 (ix S.arcs j).tran) := box_cell (Gr.refl _) (i := 1) rfl
        have hjI : (j : Int) < (S.arcs.length : Int) := by omega
        have hkey := int_key hI.2.1
        have hmx := hmap.gr GX
        by_cases hin : ∃ c : Int, (Value.int .i64 (ix S.arcs j).tran, Value.int .i64 c) ∈ kvs
        · obtain ⟨c, hc⟩ := hin
          obtain ⟨t', c', he, h1, h2, _⟩ := hcnt.ok _ hc
          cases he
          have lk := hmx.look_yes intLaw Try.underlying112 hkey hc
          obtain ⟨w3, jj, r3, o3, hk3, m3⟩ := hmx.store_old intLaw Try.underlying112 (.int .i64 (c + 1)) hkey hc
          have HN := Lib.hid (hcnt.old hlt hk3 h1 h2)
          have h2' : c ≤ 5864062014805 := by omega
          clear hcnt hmap hmx hkey hk3 hc h2 hI
          go_wp2_with fail
          go_roundw
          case rel => exact ⟨j + 1, _, by go_num, by omega, m3, HN.out, (hgr.trans GX).grown o3.grown (fun k hk => by cases hk; omega), by have := o3.2.2.2.1; rw [this]; simp; omega⟩
          case measure => simp [intOf]; omega
        · have hn : ∀ x ∈ kvs, x.1 ≠ .int .i64 (ix S.arcs j).tran := by
            intro x hx he
            obtain ⟨t', c', rfl, _⟩ := hcnt.ok x hx
            simp only [] at he
            rw [he] at hx
            exact hin ⟨c', hx⟩
          have lk := hmx.look_no intLaw Try.underlying112 zeroInt2 hkey hn
          obtain ⟨w3, r3, o3, m3⟩ := hmx.store_new intLaw Try.underlying112 (.int .i64 1) hkey hn
          have HN := Lib.hid (hcnt.new hlt)
          clear hcnt hmap hmx hkey hn hin hI
          go_wp2_with fail
          go_roundw
          case rel => exact ⟨j + 1, _, by go_num, by omega, m3, HN.out, (hgr.trans GX).grown o3.grown (fun k hk => by cases hk; omega), by have := o3.2.2.2.1; rw [this]; simp; omega⟩
          case measure => simp [intOf]; omega
      · obtain rfl : j = S.arcs.length := by omega
        have HCN := Lib.hid hcnt
        clear hcnt hM0
        go_wp2_with fail
        go_loopw [8, 27] (fun out q wr => ∃ k : Nat, q = .int .i64 k ∧ k ≤ (trans).toNat ∧ OwnI 3 wo.heap.size wr out (pickTo (deadP S) k) ∧ Gr wo wr) (fun _ q _ => (trans).toNat - (intOf q).toNat)
        case atStart => exact ⟨0, rfl, Nat.zero_le _, OwnI.nil _ _ _, Gr.refl _⟩
        case round =>
          rename World => wi
          obtain ⟨k, rfl, hk, ho, hgi⟩ := hrel
          obtain ⟨oa, oc, rfl, _, _⟩ := ho.ints.len
          by_cases hlt : (k : Int) < (trans)
          · have hkm : k < (trans).toNat := by omega
            have hks : I64 (k : Int) := by unfold I64; omega
            have hkey := int_key hks
            have hmx := hmap.gr hgi
            have hpl := pickTo_len (deadP S) k
            have hbs := hgi.le
            cases hp : deadP S k
            · obtain ⟨c, hc, h1⟩ := HCN.out.alive hp
              have lk := hmx.look_yes intLaw Try.underlying112 hkey hc
              have HS := Lib.hid (pickTo_no hp)
              have q1 : (c == 0) = false := by simp; omega
              clear hp hmx hkey hc
              go_wp2_with fail
              go_roundw
              case rel => exact ⟨k + 1, by go_num, by omega, by rw [HS.out]; exact ho, hgi⟩
              case measure => simp [intOf]; omega
            · have hn := HCN.out.dead hp
              have lk := hmx.look_no intLaw Try.underlying112 zeroInt2 hkey hn
              have HS := Lib.hid (pickTo_yes hp)
              clear hp hmx hkey hn
              go_wp2_with (at_builtin; go_loud (refine app_int T _ _ wo.heap.size _ (pickTo (deadP S) k) ⟨wi.heap.size, 0, none⟩ (k : Int) (by rfl) (by rfl) (by rfl) (by rfl) (ho.alloc _) (lit_cell rfl) hks (by omega) (Nat.le_trans hbs (Gr.le ((Gr.refl _).alloc _))) ?_; intro v' w7 ho7 hgs hgb hat))
              go_roundw
              case rel => exact ⟨k + 1, by go_num, by omega, by rw [HS.out]; exact ho7, hgs wo (Nat.le_refl _) (hgi.alloc _)⟩
              case measure => simp [intOf]; omega
          · obtain rfl : k = (trans).toNat := by omega
            have hge : (trans) ≤ (((trans).toNat : Nat) : Int) := by omega
            go_wp2_with fail
            go_ret
            exact RetI.mk HC.out ho hgr.le (hgr.trans hgi)
  · have hmin : min trans 24 = 24 := by omega
    have hup : upTo trans = (24 : Int).toNat := by unfold upTo; rw [hmin]
    rw [hup] at HC
    clear hup
    go_enter Try.func38, Try.ntmps38
    go_wp2_with fail
    go_loopw [16] (fun q wr => ∃ (j : Nat) (kvs : List (Value × Value)), q = .int .i64 j ∧ j ≤ S.arcs.length ∧ MAt Try.prog 3 wr (w.heap.size + 1) kvs ∧ CntA S.arcs j kvs ∧ Gr w wr ∧ w.heap.size + 1 < wr.heap.size) (fun q _ => S.arcs.length - (intOf q).toNat)
    case atStart => exact ⟨0, [], rfl, Nat.zero_le _, hM0, CntA.zero _, ((Gr.refl _).alloc _).alloc _, by simp⟩
    case round =>
      rename World => wo
      obtain ⟨j, kvs, rfl, hj, hmap, hcnt, hgr, hwl⟩ := hrel
      by_cases hlt : j < S.arcs.length
      · obtain ⟨ab, ao, rfl, c0, c1, c2, hI⟩ := (hA.gr hgr).arc hlt
        have GX : Gr wo (wo.alloc (.cells #[.int .i64 (ix S.arcs j).src, .int .i64 (ix S.arcs j).tran, .int .i64 (ix S.arcs j).dst] 114)) := (Gr.refl _).alloc _
        have A1 : (wo.alloc (.cells #[.int .i64 (ix S.arcs j).src, .int .i64 (ix S.arcs j).tran, .int .i64 (ix S.arcs j).dst] 114)).cell? ⟨wo.heap.size, 1, none⟩ = some (.int .i64 (ix S.arcs j).tran) := box_cell (Gr.refl _) (i := 1) rfl
        have hjI : (j : Int) < (S.arcs.length : Int) := by omega
        have hkey := int_key hI.2.1
        have hmx := hmap.gr GX
        by_cases hin : ∃ c : Int, (Value.int .i64 (ix S.arcs j).tran, Value.int .i64 c) ∈ kvs
        · obtain ⟨c, hc⟩ := hin
          obtain ⟨t', c', he, h1, h2, _⟩ := hcnt.ok _ hc
          cases he
          have lk := hmx.look_yes intLaw Try.underlying112 hkey hc
          obtain ⟨w3, jj, r3, o3, hk3, m3⟩ := hmx.store_old intLaw Try.underlying112 (.int .i64 (c + 1)) hkey hc
          have HN := Lib.hid (hcnt.old hlt hk3 h1 h2)
          have h2' : c ≤ 5864062014805 := by omega
          clear hcnt hmap hmx hkey hk3 hc h2 hI
          go_wp2_with fail
          go_roundw
          case rel => exact ⟨j + 1, _, by go_num, by omega, m3, HN.out, (hgr.trans GX).grown o3.grown (fun k hk => by cases hk; omega), by have := o3.2.2.2.1; rw [this]; simp; omega⟩
          case measure => simp [intOf]; omega
        · have hn : ∀ x ∈ kvs, x.1 ≠ .int .i64 (ix S.arcs j).tran := by
            intro x hx he
            obtain ⟨t', c', rfl, _⟩ := hcnt.ok x hx
            simp only [] at he
            rw [he] at hx
            exact hin ⟨c', hx⟩
          have lk := hmx.look_no intLaw Try.underlying112 zeroInt2 hkey hn
          obtain ⟨w3, r3, o3, m3⟩ := hmx.store_new intLaw Try.underlying112 (.int .i64 1) hkey hn
          have HN := Lib.hid (hcnt.new hlt)
          clear hcnt hmap hmx hkey hn hin hI
          go_wp2_with fail
          go_roundw
          case rel => exact ⟨j + 1, _, by go_num, by omega, m3, HN.out, (hgr.trans GX).grown o3.grown (fun k hk => by cases hk; omega), by have := o3.2.2.2.1; rw [this]; simp; omega⟩
          case measure => simp [intOf]; omega
      · obtain rfl : j = S.arcs.length := by omega
        have HCN := Lib.hid hcnt
        clear hcnt hM0
        go_wp2_with fail
        go_loopw [8, 27] (fun out q wr => ∃ k : Nat, q = .int .i64 k ∧ k ≤ ((24 : Int)).toNat ∧ OwnI 3 wo.heap.size wr out (pickTo (deadP S) k) ∧ Gr wo wr) (fun _ q _ => ((24 : Int)).toNat - (intOf q).toNat)
        case atStart => exact ⟨0, rfl, Nat.zero_le _, OwnI.nil _ _ _, Gr.refl _⟩
        case round =>
          rename World => wi
          obtain ⟨k, rfl, hk, ho, hgi⟩ := hrel
          obtain ⟨oa, oc, rfl, _, _⟩ := ho.ints.len
          by_cases hlt : (k : Int) < ((24 : Int))
          · have hkm : k < ((24 : Int)).toNat := by omega
            have hks : I64 (k : Int) := by unfold I64; omega
            have hkey := int_key hks
            have hmx := hmap.gr hgi
            have hpl := pickTo_len (deadP S) k
            have hbs := hgi.le
            cases hp : deadP S k
            · obtain ⟨c, hc, h1⟩ := HCN.out.alive hp
              have lk := hmx.look_yes intLaw Try.underlying112 hkey hc
              have HS := Lib.hid (pickTo_no hp)
              have q1 : (c == 0) = false := by simp; omega
              clear hp hmx hkey hc
              go_wp2_with fail
              go_roundw
              case rel => exact ⟨k + 1, by go_num, by omega, by rw [HS.out]; exact ho, hgi⟩
              case measure => simp [intOf]; omega
            · have hn := HCN.out.dead hp
              have lk := hmx.look_no intLaw Try.underlying112 zeroInt2 hkey hn
              have HS := Lib.hid (pickTo_yes hp)
              clear hp hmx hkey hn
              go_wp2_with (at_builtin; go_loud (refine app_int T _ _ wo.heap.size _ (pickTo (deadP S) k) ⟨wi.heap.size, 0, none⟩ (k : Int) (by rfl) (by rfl) (by rfl) (by rfl) (ho.alloc _) (lit_cell rfl) hks (by omega) (Nat.le_trans hbs (Gr.le ((Gr.refl _).alloc _))) ?_; intro v' w7 ho7 hgs hgb hat))
              go_roundw
              case rel => exact ⟨k + 1, by go_num, by omega, by rw [HS.out]; exact ho7, hgs wo (Nat.le_refl _) (hgi.alloc _)⟩
              case measure => simp [intOf]; omega
          · obtain rfl : k = ((24 : Int)).toNat := by omega
            have hge : ((24 : Int)) ≤ ((((24 : Int)).toNat : Nat) : Int) := by omega
            go_wp2_with fail
            go_ret
            exact RetI.mk HC.out ho hgr.le (hgr.trans hgi)
end Go.Proofs.Ytjpapgbdhflgnaa
