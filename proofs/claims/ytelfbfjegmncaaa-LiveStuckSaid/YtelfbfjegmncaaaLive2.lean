/- Rows of rows that a call makes and appends to one by one; contract of live.links. -/
import Derived.Test.YtelfbfjegmncaaaLive1
import Derived.Test.YtelfbfjegmncaaaReach5
import Derived.Test.YtelfbfjegmncaaaNetOwn
import Derived.BigQuiet
import Derived.Deep.QuietTactic
namespace Go.Tok
open Go.RowKit
set_option linter.unusedVariables false
def uat (us : List Value) (i : Nat) : Value := us.getD i (.slice none 0 0)
theorem uat_lt {us : List Value} {i : Nat} (h : i < us.length) : uat us i = us[i] := by simp [uat, h]
theorem uat_set_self {us : List Value} {i : Nat} (h : i < us.length) (v : Value) : uat (us.set i v) i = v := by rw [uat_lt (by simpa using h)]; simp
theorem uat_set_ne {us : List Value} {i j : Nat} (h : i ≠ j) (v : Value) : uat (us.set i v) j = uat us j := by
  unfold uat; simp [List.getD, List.getElem?_set_ne h]
/-- block g holds the rows us, each a row of the call's own, no two in one block -/
structure Grid (t e base : Nat) (w : World) (g : Nat) (us : List Value) (rows : List (List Int)) : Prop where
  blk : Blk w g t us.toArray
  len : us.length = rows.length
  own : ∀ i, i < rows.length → OwnI e base w (uat us i) (ix rows i)
  ne : ∀ i, i < rows.length → (uat us i).ownBlock ≠ some g
  ap : ∀ i j, i < rows.length → j < rows.length → i ≠ j → ∀ b, (uat us i).ownBlock = some b → (uat us j).ownBlock ≠ some b
section
variable {t e base : Nat} {w w' : World} {g : Nat} {us : List Value} {rows : List (List Int)}
theorem Grid.gr (h : Grid t e base w g us rows) (k : Gr w w') : Grid t e base w' g us rows := ⟨h.blk.gr k, h.len, fun i hi => (h.own i hi).gr k, h.ne, h.ap⟩
theorem Grid.made {n base0 : Nat} (h : w.ownsRow base0 t 1 (.slice (some ⟨g, 0, none⟩) n n) n (List.replicate n (.slice none 0 0))) : Grid t e base w g (List.replicate n (.slice none 0 0)) (List.replicate n []) := by
  have hu : ∀ i, uat (List.replicate n (.slice none 0 0)) i = .slice none 0 0 := fun i => by
    unfold uat; by_cases hi : i < n <;> simp [List.getD, hi]
  have hr : ∀ i, ix (List.replicate n ([] : List Int)) i = [] := fun i => by
    by_cases hi : i < n
    · rw [ix_lt (by simpa using hi)]; simp
    · rw [ix_ge (by simpa using hi)]; rfl
  refine ⟨?_, by simp, fun i _ => by rw [hu, hr]; exact OwnI.nil _ _ _, fun i _ => by rw [hu]; simp [Value.ownBlock], fun i j _ _ _ b hb => by rw [hu] at hb; simp [Value.ownBlock] at hb⟩
  rcases h.2 with ⟨h1, _⟩ | ⟨g', cap', cur, h1, h2, h3, h4, h5, h6, h7⟩
  · cases h1
  · simp only [Value.slice.injEq, Option.some.injEq, Addr.mk.injEq] at h1
    obtain ⟨⟨rfl, _⟩, _, rfl⟩ := h1
    have : cur = (List.replicate n (Value.slice none 0 0)).toArray := by
      apply Array.ext'
      rw [List.take_of_length_le (by rw [Array.length_toList]; omega)] at h7
      simpa using h7
    unfold Blk
    rw [← this]; exact h3
theorem Grid.put (h : Grid t e base w g us rows) {f : Nat} (hf : f < rows.length) {x : Int} {v' : Value} (hg : w.grownBy w' (uat us f).ownBlock) (ho : OwnI e base w' v' (ix rows f ++ [x])) (hat : v'.ownBlock = (uat us f).ownBlock ∨ v'.ownBlock = some w.heap.size) (hgl : g < base) :
    Grid t e base (w'.setCell ⟨g, f, none⟩ v') g (us.set f v') (rows.set f (ix rows f ++ [x])) := by
  have hfu : f < us.length := by rw [h.len]; exact hf
  have hir : ∀ i, i ≠ f → ix (rows.set f (ix rows f ++ [x])) i = ix rows i := fun i hi => by
    by_cases hil : i < rows.length
    · rw [ix_lt (by simpa using hil), ix_lt hil, List.getElem_set_ne (Ne.symm hi)]
    · rw [ix_ge (by simpa using hil), ix_ge (by omega)]
  have hrf : ix (rows.set f (ix rows f ++ [x])) f = ix rows f ++ [x] := by rw [ix_lt (by simpa using hf)]; simp
  have hvg : v'.ownBlock ≠ some g := fun e => by have := (ho.lt e).1; omega
  have hnew : ∀ j, j < rows.length → j ≠ f → ∀ b, v'.ownBlock = some b → (uat us j).ownBlock ≠ some b := by
    intro j hj hjf b hb hjb
    rcases hat with h1 | h1
    · exact h.ap f j hf hj (Ne.symm hjf) b (h1.symm.trans hb) hjb
    · rw [h1] at hb
      have := Option.some.inj hb
      have := ((h.own j hj).lt hjb).2
      omega
  refine ⟨?_, by simp [h.len], fun i hi => ?_, fun i hi => ?_, fun i j hi hj hij b => ?_⟩
  · have b1 : Blk w' g t us.toArray := h.blk.grown hg (fun e => h.ne f hf e.symm)
    have := b1.set f v'
    simpa using this
  · rw [List.length_set] at hi
    by_cases hif : i = f
    · subst hif
      rw [uat_set_self hfu, hrf]
      exact ho.other hvg _
    · rw [uat_set_ne (Ne.symm hif), hir i hif]
      refine ((h.own i hi).grown hg ?_).other (h.ne i hi) _
      cases hb : (uat us i).ownBlock with
      | none => exact .inl rfl
      | some b => exact .inr fun e => h.ap i f hi hf hif b hb e.symm
  · rw [List.length_set] at hi
    by_cases hif : i = f
    · subst hif; rw [uat_set_self hfu]; exact hvg
    · rw [uat_set_ne (Ne.symm hif)]; exact h.ne i hi
  · rw [List.length_set] at hi hj
    by_cases hif : i = f
    · subst hif
      rw [uat_set_self hfu, uat_set_ne hij]
      exact hnew j hj (Ne.symm hij) b
    · rw [uat_set_ne (Ne.symm hif)]
      by_cases hjf : j = f
      · subst hjf
        rw [uat_set_self hfu]
        exact fun h1 h2 => hnew i hi hif b h2 h1
      · rw [uat_set_ne (Ne.symm hjf)]; exact h.ap i j hi hj hij b
theorem Grid.cell (h : Grid t e base w g us rows) {i : Nat} (hi : i < rows.length) : w.cell? ⟨g, i, none⟩ = some (uat us i) :=
  h.blk.cell (by have : i < us.length := by rw [h.len]; exact hi
                 rw [uat_lt this]; simp [this])
theorem Grid.rd (h : Grid t e base w g us rows) (hn : rows.length ≤ maxLen) : Rd rowK w (.slice (some ⟨g, 0, none⟩) rows.length rows.length) rows := by
  refine rd_mk rfl (Nat.le_refl _) hn (fun e => by cases e) fun i hi => ⟨g, 0, [uat us i], rfl, ⟨_, rfl, (h.own i hi).ints⟩, fun j u hj => ?_⟩
  cases j with
  | zero =>
    simp at hj; subst hj
    have := h.cell hi
    rwa [show 0 + i * rowK.size + 0 = i by show 0 + i * 1 + 0 = _; omega]
  | succ j => simp at hj
end
theorem edges_len (arcs : List ArcD) (b : Bool) : (edgesF arcs b).length = arcs.length := by simp [edgesF]
theorem edges_ix {arcs : List ArcD} {b : Bool} {k : Nat} (h : k < arcs.length) : ix (edgesF arcs b) k = if b then ((ix arcs k).dst, (ix arcs k).src) else ((ix arcs k).src, (ix arcs k).dst) := by
  rw [ix_lt (by rw [edges_len]; exact h), ix_lt h]; simp [edgesF]
theorem links_step {n : Nat} {arcs : List ArcD} {b : Bool} {k f : Nat} {t : Int} (h : k < arcs.length) (he : ix (edgesF arcs b) k = ((f : Int), t)) (hf : f < n) :
    linksF n ((edgesF arcs b).take (k + 1)) = (linksF n ((edgesF arcs b).take k)).set f (ix (linksF n ((edgesF arcs b).take k)) f ++ [t]) := by
  rw [take_ix (by rw [edges_len]; exact h), he, linksF_snoc _ _ _ hf, linksF_ix _ hf]
theorem linkRow_len (es : Edges) (k : Nat) : (linkRow es k).length ≤ es.length := by
  unfold linkRow; rw [List.length_map]; exact List.length_filter_le _ _
end Go.Tok
namespace Go.Proofs.Ytelfbfjegmncaaa
open Go.RowKit Go.Tok
set_option linter.unusedVariables false
theorem rowInfo : (Try.prog.info? 32).map (fun i => (i.zero, i.size, i.bytes)) = some (some (.slice none 0 0), 1, 24) := by kernel_rfl
set_option maxHeartbeats 8000000 in
set_option maxRecDepth 100000 in
theorem links_calls (v : Value) (S : SpaceD) (back : Bool) (w : World) (hv : SpaceR w v S) (hok : ∀ k, k < S.arcs.length → ∃ (f : Nat) (t : Int), ix (edgesF S.arcs back) k = ((f : Int), t) ∧ f < S.marks.length) (hm : S.marks.length ≤ 5864062014805) (ha : S.arcs.length ≤ 5864062014805) :
    Calls Try.prog 66 #[v, .bool back] w fun e w' => ∃ v', e = .returned v' ∧ Rd rowK w' v' (linksF S.marks.length (edgesF S.arcs back)) ∧ Gr w w' := by
  have T := intTy
  obtain ⟨ma, mc, aa, ac, rfl, hc1, hc2, hc3, hc4, hM, hA⟩ := hv.open_
  obtain ⟨i, hi, hz, hs, hb⟩ := info_parts rowInfo
  have HOK := Lib.hid hok
  clear hok
  go_enter Try.func66, Try.ntmps66
  go_wp2_with (at_make; refine wpList_make_full _ rfl _ _ _ rfl (w.heap.size + 1) 32 i _ 1 Try.underlying37 hi hz hs .i64 .i64 _ _ S.marks.length rfl rfl rfl rfl (by rw [hb]; omega) (by unfold maxLen; omega) (by simp) ?_; intro w1 ho1 hg1; have B1 := box_cell (show Gr (w.alloc (.cells #[.slice ma S.marks.length mc, .slice aa S.arcs.length ac] 40)) w1 from (Gr.refl _).grown hg1 (by simp)) (i := 1) rfl)
  have gd1 : Grid 32 3 (w.heap.size + 2) w1 (w.heap.size + 1) (List.replicate S.marks.length (.slice none 0 0)) (linksF S.marks.length ((edgesF S.arcs back).take 0)) := by
    simp only [Value.cells, Nat.mul_one, toList_madeCells_one] at ho1
    rw [List.take_zero, linksF_nil]
    exact Grid.made (by simpa using ho1)
  have hlt1 : w.heap.size + 1 < w1.heap.size := (ho1.lt (w.heap.size + 1) (by simp [Value.ownBlock])).2
  have G1' : Gr (w.alloc (.cells #[.slice ma S.marks.length mc, .slice aa S.arcs.length ac] 40)) w1 := (Gr.refl _).grown hg1 (by simp)
  have G1 := ((Gr.refl w).alloc _).trans G1'
  clear ho1 hg1 hi hz hs hb G1'
  go_loopw [17] (fun q wr => ∃ (k : Nat) (us : List Value), q = .int .i64 k ∧ k ≤ S.arcs.length ∧ Grid 32 3 (w.heap.size + 2) wr (w.heap.size + 1) us (linksF S.marks.length ((edgesF S.arcs back).take k)) ∧ Gr w wr ∧ w.heap.size + 1 < wr.heap.size) (fun q _ => S.arcs.length - (intOf q).toNat)
  case atStart => exact ⟨0, _, rfl, Nat.zero_le _, gd1, G1, hlt1⟩
  case round =>
    rename World => wo
    obtain ⟨k, us, rfl, hk, hG, hgr, hwl⟩ := hrel
    by_cases hlt : k < S.arcs.length
    · obtain ⟨ab, ao, rfl, c0, c1, c2, hI⟩ := (hA.gr hgr).arc hlt
      obtain ⟨f, t, he, hf⟩ := HOK.out k hlt
      have hstep := links_step hlt he hf
      rw [edges_ix hlt] at he
      have hrl : (linksF S.marks.length ((edgesF S.arcs back).take k)).length = S.marks.length := linksF_len _ _
      have hrow := linkRow_len ((edgesF S.arcs back).take k) f
      rw [List.length_take, edges_len, ← linksF_ix _ hf] at hrow
      have hfI : (f : Int) < (S.marks.length : Int) := by omega
      have hkI : (k : Int) < (S.arcs.length : Int) := by omega
      have huo := hG.own f (by rw [hrl]; exact hf)
      have hcell := hG.cell (i := f) (by rw [hrl]; exact hf)
      have hne := hG.ne f (by rw [hrl]; exact hf)
      obtain ⟨rows, hrows⟩ : ∃ rows, rows = linksF S.marks.length ((edgesF S.arcs back).take k) := ⟨_, rfl⟩
      rw [← hrows] at hstep hG hrl hrow huo
      have HST := Lib.hid hstep
      obtain ⟨uf, huf⟩ : ∃ uf, uf = uat us f := ⟨_, rfl⟩
      rw [← huf] at huo hcell hne
      have HUF := Lib.hid huf
      obtain ⟨ua, uc, rfl, _, _⟩ := huo.ints.len
      have hfu : f < us.length := by rw [hG.len, hrl]; exact hf
      have HUS := Lib.hid (show us.toArray[f]? = some (.slice ua (ix rows f).length uc) by rw [HUF.out, uat_lt hfu]; simp [hfu])
      clear hstep hrows huf HOK
      cases back
      · simp only [Bool.false_eq_true, if_false, Prod.mk.injEq] at he
        rw [he.1] at c0
        rw [he.2] at c2
        have htI : I64 t := by have h := hI.2.2; rw [he.2] at h; exact h
        clear he hI
        have GA : Gr wo (wo.alloc (.cells #[.int .i64 ((f : Int)), .int .i64 ((ix S.arcs k).tran), .int .i64 (t)] 56)) := (Gr.refl _).alloc _
        have A0 : (wo.alloc (.cells #[.int .i64 ((f : Int)), .int .i64 ((ix S.arcs k).tran), .int .i64 (t)] 56)).cell? ⟨wo.heap.size, 0, none⟩ = some (.int .i64 ((f : Int))) := box_cell (Gr.refl _) (i := 0) rfl
        have A2 : (wo.alloc (.cells #[.int .i64 ((f : Int)), .int .i64 ((ix S.arcs k).tran), .int .i64 (t)] 56)).cell? ⟨wo.heap.size, 2, none⟩ = some (.int .i64 (t)) := box_cell (Gr.refl _) (i := 2) rfl
        go_wp2_with fail
        go_quiet (fail)
        have gd : Gr (wo.alloc (.cells #[.int .i64 ((f : Int)), .int .i64 ((ix S.arcs k).tran), .int .i64 (t)] 56)) ((wo.alloc (.cells #[.int .i64 ((f : Int)), .int .i64 ((ix S.arcs k).tran), .int .i64 (t)] 56)).drewN nq) := (Gr.refl _).drewN _
        generalize (wo.alloc (.cells #[.int .i64 ((f : Int)), .int .i64 ((ix S.arcs k).tran), .int .i64 (t)] 56)).drewN nq = wd at gd ⊢
        have Gd : Gr wo wd := GA.trans gd
        have GdL : Gr wo (wd.alloc (.cells #[.int .i64 t] 3)) := Gd.alloc _
        have cd := cell_gr hcell Gd
        have hbs : w.heap.size + 2 ≤ (wd.alloc (.cells #[.int .i64 t] 3)).heap.size := by have := GdL.le; omega
        have hGd := hG.gr GdL
        clear A0 A2 c0 c1 c2 gd GA
        go_wp2_with (at_builtin; go_loud (refine app_int T _ _ (w.heap.size + 2) (.slice ua (ix rows f).length uc) (ix rows f) ⟨wd.heap.size, 0, none⟩ t (by rfl) (by rfl) (by rfl) (by rfl) (huo.gr GdL) (lit_cell rfl) htI (by omega) hbs ?_; intro v' w5 ho5 hgs hgb hat; obtain ⟨a5, n5, rfl⟩ := ho5.len1; have b5 := hGd.blk.grown hgb (fun e => hne e.symm); have f5 := b5.frozen f; have d5 := cell_gr cd (Gr.refl _); have d6 := b5.cell (i := f) HUS.out))
        have hput := hGd.put (f := f) (x := t) (v' := .slice a5 ((ix rows f).length + 1) n5) (by rw [hrl]; exact hf) (by rw [← HUF.out]; exact hgb) ho5 (by rw [← HUF.out]; exact hat) (by omega)
        rw [← HST.out] at hput
        have hgw := (hgs w (by omega) (hgr.trans GdL)).setCell (p := ⟨w.heap.size + 1, f, none⟩) (by simp) (.slice a5 ((ix rows f).length + 1) n5)
        go_roundw
        case rel => exact ⟨k + 1, _, by go_num, by omega, hput, hgw, by have := hgb.size; simp [World.setCell]; omega⟩
        case measure => simp [intOf]; omega
      · simp only [if_true, Prod.mk.injEq] at he
        rw [he.2] at c0
        rw [he.1] at c2
        have htI : I64 t := by have h := hI.1; rw [he.2] at h; exact h
        clear he hI
        have GA : Gr wo (wo.alloc (.cells #[.int .i64 (t), .int .i64 ((ix S.arcs k).tran), .int .i64 ((f : Int))] 56)) := (Gr.refl _).alloc _
        have A0 : (wo.alloc (.cells #[.int .i64 (t), .int .i64 ((ix S.arcs k).tran), .int .i64 ((f : Int))] 56)).cell? ⟨wo.heap.size, 0, none⟩ = some (.int .i64 (t)) := box_cell (Gr.refl _) (i := 0) rfl
        have A2 : (wo.alloc (.cells #[.int .i64 (t), .int .i64 ((ix S.arcs k).tran), .int .i64 ((f : Int))] 56)).cell? ⟨wo.heap.size, 2, none⟩ = some (.int .i64 ((f : Int))) := box_cell (Gr.refl _) (i := 2) rfl
        go_wp2_with fail
        go_quiet (fail)
        have gd : Gr (wo.alloc (.cells #[.int .i64 (t), .int .i64 ((ix S.arcs k).tran), .int .i64 ((f : Int))] 56)) ((wo.alloc (.cells #[.int .i64 (t), .int .i64 ((ix S.arcs k).tran), .int .i64 ((f : Int))] 56)).drewN nq) := (Gr.refl _).drewN _
        generalize (wo.alloc (.cells #[.int .i64 (t), .int .i64 ((ix S.arcs k).tran), .int .i64 ((f : Int))] 56)).drewN nq = wd at gd ⊢
        have Gd : Gr wo wd := GA.trans gd
        have GdL : Gr wo (wd.alloc (.cells #[.int .i64 t] 3)) := Gd.alloc _
        have cd := cell_gr hcell Gd
        have hbs : w.heap.size + 2 ≤ (wd.alloc (.cells #[.int .i64 t] 3)).heap.size := by have := GdL.le; omega
        have hGd := hG.gr GdL
        clear A0 A2 c0 c1 c2 gd GA
        go_wp2_with (at_builtin; go_loud (refine app_int T _ _ (w.heap.size + 2) (.slice ua (ix rows f).length uc) (ix rows f) ⟨wd.heap.size, 0, none⟩ t (by rfl) (by rfl) (by rfl) (by rfl) (huo.gr GdL) (lit_cell rfl) htI (by omega) hbs ?_; intro v' w5 ho5 hgs hgb hat; obtain ⟨a5, n5, rfl⟩ := ho5.len1; have b5 := hGd.blk.grown hgb (fun e => hne e.symm); have f5 := b5.frozen f; have d5 := cell_gr cd (Gr.refl _); have d6 := b5.cell (i := f) HUS.out))
        have hput := hGd.put (f := f) (x := t) (v' := .slice a5 ((ix rows f).length + 1) n5) (by rw [hrl]; exact hf) (by rw [← HUF.out]; exact hgb) ho5 (by rw [← HUF.out]; exact hat) (by omega)
        rw [← HST.out] at hput
        have hgw := (hgs w (by omega) (hgr.trans GdL)).setCell (p := ⟨w.heap.size + 1, f, none⟩) (by simp) (.slice a5 ((ix rows f).length + 1) n5)
        go_roundw
        case rel => exact ⟨k + 1, _, by go_num, by omega, hput, hgw, by have := hgb.size; simp [World.setCell]; omega⟩
        case measure => simp [intOf]; omega
    · obtain rfl : k = S.arcs.length := by omega
      rw [List.take_of_length_le (by rw [edges_len]; omega)] at hG
      have hrd := hG.rd (by rw [linksF_len]; unfold maxLen; omega)
      rw [linksF_len] at hrd
      go_wp2_with fail
      go_ret
      exact ⟨_, rfl, hrd, hgr⟩
end Go.Proofs.Ytelfbfjegmncaaa
