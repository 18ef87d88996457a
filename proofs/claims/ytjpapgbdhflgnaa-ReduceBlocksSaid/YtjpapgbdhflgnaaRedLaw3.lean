/- Reduction keeps the shape of a net. No program is in sight here. -/
import Derived.Test.YtjpapgbdhflgnaaRedLaw2
import Derived.Test.YtjpapgbdhflgnaaGS
import Derived.Test.YtjpapgbdhflgnaaGP
namespace Go.Tok
open Go.RowKit Go.Proofs.Ytjpapgbdhflgnaa
set_option linter.unusedVariables false
/-! ### nodes and arcs -/
def Arc (N : NetD) (x y : NodeD) : Prop := isNode N x ∧ isNode N y ∧
  ((x.tran = false ∧ y.tran = true ∧ 0 < nth (ix N.trans y.n).pre x.n) ∨ (x.tran = true ∧ y.tran = false ∧ 0 < nth (ix N.trans x.n).post y.n))
inductive RchA (R : NodeD → NodeD → Prop) (x : NodeD) : NodeD → Prop
  | refl : RchA R x x
  | step {y z : NodeD} : RchA R x y → R y z → RchA R x z
theorem RchA.mono {R R' : NodeD → NodeD → Prop} (h : ∀ a b, R a b → R' a b) {x y : NodeD} (k : RchA R x y) : RchA R' x y := by
  induction k with
  | refl => exact .refl
  | step _ hs ih => exact .step ih (h _ _ hs)
theorem RchA.map {R R' : NodeD → NodeD → Prop} {f : NodeD → NodeD} (h : ∀ a b, R a b → f a = f b ∨ R' (f a) (f b)) {x y : NodeD} (k : RchA R x y) : RchA R' (f x) (f y) := by
  induction k with
  | refl => exact .refl
  | step _ hs ih =>
    rcases h _ _ hs with e | e
    · rw [← e]; exact ih
    · exact .step ih e
theorem nodeP {N : NetD} {p : Nat} : isNode N ⟨false, p⟩ ↔ p < N.places.toNat := ⟨fun h => node_place (x := ⟨false, p⟩) rfl h, fun h => by unfold isNode; simpa using h⟩
theorem nodeT {N : NetD} {k : Nat} : isNode N ⟨true, k⟩ ↔ k < N.trans.length := ⟨fun h => node_tran (x := ⟨true, k⟩) rfl h, fun h => by unfold isNode; simpa using h⟩
theorem arc_next {N : NetD} (h : netOkB N = true) {x : NodeD} (hx : isNode N x) {j : Nat} (hj : j < degN N x) (hw : 0 < wtN N x j) : Arc N x (nextN x j) := by
  refine ⟨hx, next_node h hx hj, ?_⟩
  obtain ⟨b, n⟩ := x
  cases b
  · rw [wt_place N rfl, tr_ix] at hw
    exact .inl ⟨rfl, rfl, hw⟩
  · rw [wt_tran N rfl, tr_ix] at hw
    exact .inr ⟨rfl, rfl, hw⟩
theorem arc_wt {N : NetD} (h : netOkB N = true) {x y : NodeD} (a : Arc N x y) : ∃ j, j < degN N x ∧ 0 < wtN N x j ∧ y = nextN x j := by
  obtain ⟨hx, hy, hc⟩ := a
  obtain ⟨b, n⟩ := x
  obtain ⟨c, m⟩ := y
  rcases hc with ⟨h1, h2, h3⟩ | ⟨h1, h2, h3⟩
  · simp only at h1 h2 h3
    subst h1 h2
    exact ⟨m, by rw [deg_place N rfl]; exact nodeT.1 hy, by rw [wt_place N rfl, tr_ix]; exact h3, rfl⟩
  · simp only at h1 h2 h3
    subst h1 h2
    have := (netOk_tr h (nodeT.1 hx)).post
    have := nodeP.1 hy
    exact ⟨m, by rw [deg_tran N rfl]; simp only; omega, by rw [wt_tran N rfl, tr_ix]; exact h3, rfl⟩
theorem arc_turn {N : NetD} {x y : NodeD} (a : Arc (turnN N) x y) : Arc N y x := by
  obtain ⟨hx, hy, hc⟩ := a
  obtain ⟨b, n⟩ := x
  obtain ⟨c, m⟩ := y
  rcases hc with ⟨h1, h2, h3⟩ | ⟨h1, h2, h3⟩
  · simp only at h1 h2 h3
    subst h1 h2
    have hm := nodeT.1 hy
    rw [turnN_len] at hm
    have hn := nodeP.1 hx
    rw [turnN_places] at hn
    rw [← tr_ix, turnN_tr _ hm, turnT_pre, tr_ix] at h3
    exact ⟨nodeT.2 hm, nodeP.2 hn, .inr ⟨rfl, rfl, h3⟩⟩
  · simp only at h1 h2 h3
    subst h1 h2
    have hm := nodeT.1 hx
    rw [turnN_len] at hm
    have hn := nodeP.1 hy
    rw [turnN_places] at hn
    rw [← tr_ix, turnN_tr _ hm, turnT_post, tr_ix] at h3
    exact ⟨nodeP.2 hn, nodeT.2 hm, .inl ⟨rfl, rfl, h3⟩⟩
theorem node_turn {N : NetD} {x : NodeD} : isNode (turnN N) x ↔ isNode N x := by
  obtain ⟨b, n⟩ := x
  cases b
  · rw [nodeP, nodeP, turnN_places]
  · rw [nodeT, nodeT, turnN_len]
theorem arc_turned {N : NetD} {x y : NodeD} (a : Arc N y x) : Arc (turnN N) x y := by
  have h := arc_turn (N := turnN N) (x := y) (y := x) (by rw [turnN_turnN]; exact a)
  exact h
/-- the search finds nothing but what is led to -/
theorem dfs_all {N : NetD} (h : netOkB N = true) {Q : NodeD → Prop} (hQ : ∀ x j, Q x → isNode N x → j < degN N x → 0 < wtN N x j → Q (nextN x j)) : ∀ (m : Nat) (vis : List NodeD) (x : NodeD), isNode N x → Q x → (∀ y ∈ vis, Q y) → ∀ y ∈ dfsF N m vis x, Q y := by
  intro m
  induction m with
  | zero => intro vis x _ _ hv y hy; exact hv y (by unfold dfsF at hy; exact hy)
  | succ m ih =>
    intro vis x hx hqx hv
    by_cases hm : x ∈ vis
    · rw [dfs_in hm]; exact hv
    · rw [dfs_out hm]
      have key : ∀ k, k ≤ degN N x → ∀ y ∈ foldTo (dfsF N m) (vis ++ [x]) N x k, Q y := by
        intro k
        induction k with
        | zero =>
          intro _ y hy
          rw [foldTo_zero] at hy
          rcases List.mem_append.1 hy with h1 | h1
          · exact hv y h1
          · rw [List.mem_singleton.1 h1]; exact hqx
        | succ k ihk =>
          intro hk
          have h1 := ihk (by omega)
          rcases Int.lt_or_le 0 (wtN N x k) with h2 | h2
          · rw [foldTo_yes h2]
            exact ih _ _ (next_node h hx (by omega)) (hQ x k hqx hx (by omega) h2) h1
          · rw [foldTo_no h2]; exact h1
      exact key _ (Nat.le_refl _)
theorem walk_rch {N : NetD} (h : netOkB N = true) {i : Nat} (hi : i < N.places.toNat) : ∀ y ∈ walkN N i, RchA (Arc N) ⟨false, i⟩ y := by
  rw [walkN_def]
  exact dfs_all h (fun x j hr hx hj hw => .step hr (arc_next h hx hj hw)) _ _ _ (nodeP.2 hi) .refl (fun y hy => by cases hy)
theorem rch_walk {N : NetD} (h : netOkB N = true) {i : Nat} (hi : i < N.places.toNat) {y : NodeD} (r : RchA (Arc N) ⟨false, i⟩ y) : y ∈ walkN N i := by
  induction r with
  | refl => exact walk_start h hi
  | step _ ha ih =>
    obtain ⟨j, h1, h2, rfl⟩ := arc_wt h ha
    exact walk_on h hi ih h1 h2
/-! ### the shape, said by arcs -/
structure ShapeP (N : NetD) (i o : Nat) : Prop where
  ok : netOkB N = true
  hi : i < N.places.toNat
  ho : o < N.places.toNat
  ne : i ≠ o
  post : ∀ t ∈ N.trans, nth t.post i ≤ 0
  pre : ∀ t ∈ N.trans, nth t.pre o ≤ 0
  fwd : ∀ y, isNode N y → RchA (Arc N) ⟨false, i⟩ y
  bwd : ∀ y, isNode N y → RchA (fun a b => Arc N b a) ⟨false, o⟩ y
theorem ShapeOk.arcs {N : NetD} {i o : Nat} (h : ShapeOk N i o) : ShapeP N i o := by
  have hmem : ∀ t ∈ N.trans, ∃ k, k < N.trans.length ∧ N.tr k = t := fun t ht => by
    obtain ⟨k, hk, rfl⟩ := List.getElem_of_mem ht
    exact ⟨k, hk, by rw [tr_ix, ix_lt hk]⟩
  have hok' : netOkB (turnN N) = true := netOk_turn h.ok
  refine ⟨h.ok, h.hi, h.ho, h.ne, fun t ht => ?_, fun t ht => ?_, fun y hy => ?_, fun y hy => ?_⟩
  · obtain ⟨k, hk, rfl⟩ := hmem t ht; exact h.post k hk
  · obtain ⟨k, hk, rfl⟩ := hmem t ht; exact h.pre k hk
  · have g := walk_grown h.ok h.hi
    exact walk_rch h.ok h.hi y (nodes_full (g.nodup List.nodup_nil) (g.nodes (by simp)) h.full hy)
  · have ho : o < (turnN N).places.toNat := by rw [turnN_places]; exact h.ho
    have g := walk_grown hok' ho
    have hb := h.back
    rw [← sizeN_turn] at hb
    exact (walk_rch hok' ho y (nodes_full (g.nodup List.nodup_nil) (g.nodes (by simp)) hb (node_turn.2 hy))).mono fun a b hab => arc_turn hab
theorem ShapeP.code {N : NetD} {i o : Nat} (h : ShapeP N i o) : shapeC N i o = 0 := by
  have he : N.trans.any (endB i o) = false := by
    rw [List.any_eq_false]
    intro t ht hb
    have h1 := h.post t ht
    have h2 := h.pre t ht
    unfold endB at hb
    simp at hb
    omega
  have hok' : netOkB (turnN N) = true := netOk_turn h.ok
  have h1 := h.hi
  have h2 := h.ho
  have h3 := h.ne
  rw [shapeC_walk h.ok (by omega) he]
  have f1 := walk_full (N := N) (i := i) (fun p hp => rch_walk h.ok h.hi (h.fwd _ (nodeP.2 hp))) (fun k hk => rch_walk h.ok h.hi (h.fwd _ (nodeT.2 hk)))
  have ho : o < (turnN N).places.toNat := by rw [turnN_places]; exact h.ho
  have f2 := walk_full (N := turnN N) (i := o) (fun p hp => rch_walk hok' ho ((h.bwd _ (node_turn.1 (nodeP.2 hp))).mono fun a b hab => arc_turned hab)) (fun k hk => rch_walk hok' ho ((h.bwd _ (node_turn.1 (nodeT.2 hk))).mono fun a b hab => arc_turned hab))
  rw [sizeN_turn] at f2
  rw [if_neg (by omega)]
/-- what maps onto another net, arc to arc or to nothing, hands on its shape -/
theorem ShapeP.sim {N N' : NetD} {i o i' o' : Nat} (h : ShapeP N i o) (f : NodeD → NodeD) (ok : netOkB N' = true) (hi : i' < N'.places.toNat) (ho : o' < N'.places.toNat) (ne : i' ≠ o')
    (post : ∀ t ∈ N'.trans, nth t.post i' ≤ 0) (pre : ∀ t ∈ N'.trans, nth t.pre o' ≤ 0) (hf : ∀ a b, Arc N a b → f a = f b ∨ Arc N' (f a) (f b)) (hs : ∀ y, isNode N' y → ∃ x, isNode N x ∧ f x = y)
    (fi : f ⟨false, i⟩ = ⟨false, i'⟩) (fo : f ⟨false, o⟩ = ⟨false, o'⟩) : ShapeP N' i' o' := by
  refine ⟨ok, hi, ho, ne, post, pre, fun y hy => ?_, fun y hy => ?_⟩
  · obtain ⟨x, hx, rfl⟩ := hs y hy
    rw [← fi]
    exact (h.fwd x hx).map hf
  · obtain ⟨x, hx, rfl⟩ := hs y hy
    rw [← fo]
    exact (h.bwd x hx).map fun a b hab => (hf b a hab).imp Eq.symm id
/-! ### which nets are right, transition by transition -/
theorem netOk_iff {N : NetD} : netOkB N = true ↔ (0 ≤ N.places ∧ N.places ≤ 16) ∧ N.trans.length ≤ 24 ∧ ∀ t ∈ N.trans, TranFacts N t := by
  constructor
  · intro h
    refine ⟨netOk_p16 h, netOk_n24 h, fun t ht => ?_⟩
    obtain ⟨k, hk, rfl⟩ := List.getElem_of_mem ht
    have := netOk_tr h hk
    rw [tr_ix, ix_lt hk] at this
    exact this
  · rintro ⟨⟨h1, h2⟩, h3, h4⟩
    unfold netOkB
    simp only [h1, h2, h3, decide_true, Bool.true_and, List.all_eq_true]
    intro t ht
    have F := h4 t ht
    unfold tranOkB
    have a1 : t.pre.any badW = false := by
      rw [List.any_eq_false]
      intro x hx hb
      have := F.preW x hx
      unfold badW at hb; simp at hb; omega
    have a2 : t.post.any badW = false := by
      rw [List.any_eq_false]
      intro x hx hb
      have := F.postW x hx
      unfold badW at hb; simp at hb; omega
    simp [F.lab0, F.lab1, F.pre, F.post, a1, a2]
theorem ix_erase (l : List TranD) (k u : Nat) : ix (l.eraseIdx k) u = if u < k then ix l u else ix l (u + 1) := by
  simp only [ix_def, List.getD_eq_getElem?_getD, List.getElem?_eraseIdx]
  split <;> rfl
theorem ix_less (l : List TranD) (p u : Nat) : ix (l.map (lessP p)) u = lessP p (ix l u) := by
  simp only [ix_def, List.getD_eq_getElem?_getD, List.getElem?_map]
  cases l[u]? with
  | none => rfl
  | some t => rfl
/-- where a number goes, when p goes away -/
def sh (p x : Nat) : Nat := if x < p then x else x - 1
def un (p y : Nat) : Nat := if y < p then y else y + 1
theorem sh_un (p y : Nat) : sh p (un p y) = y := by
  unfold sh un
  by_cases h : y < p
  · rw [if_pos h, if_pos h]
  · rw [if_neg h, if_neg (by omega)]; omega
theorem un_ne (p y : Nat) : un p y ≠ p := by unfold un; split <;> omega
theorem un_lt {p y n : Nat} (hp : p < n) (h : y < n - 1) : un p y < n := by unfold un; split <;> omega
theorem sh_lt {p x n : Nat} (hp : p < n) (hx : x < n) (h : x ≠ p) : sh p x < n - 1 := by unfold sh; split <;> omega
theorem sh_inj {p x y : Nat} (hx : x ≠ p) (hy : y ≠ p) (h : sh p x = sh p y) : x = y := by unfold sh at h; split at h <;> split at h <;> omega
theorem un_sh {p x : Nat} (hx : x ≠ p) : un p (sh p x) = x := by
  unfold un sh
  by_cases h : x < p
  · rw [if_pos h, if_pos h]
  · rw [if_neg h, if_neg (by omega)]; omega
theorem shiftP_sh {p a : Nat} (h : a ≠ p) : shiftP p (a : Int) = ((sh p a : Nat) : Int) := by
  unfold shiftP sh
  by_cases e : a < p
  · rw [if_neg (by omega), if_pos e]
  · rw [if_pos (by omega), if_neg e]; omega
theorem nth_sh (l : List Int) {p x : Nat} (h : x ≠ p) : nth (l.eraseIdx p) (sh p x) = nth l x := by
  rw [nth_erase]
  unfold sh
  by_cases h1 : x < p
  · rw [if_pos h1, if_pos h1]
  · rw [if_neg h1, if_neg (by omega), show x - 1 + 1 = x by omega]
theorem ix_sh (l : List TranD) {p x : Nat} (h : x ≠ p) : ix (l.eraseIdx p) (sh p x) = ix l x := by
  rw [ix_erase]
  unfold sh
  by_cases h1 : x < p
  · rw [if_pos h1, if_pos h1]
  · rw [if_neg h1, if_neg (by omega), show x - 1 + 1 = x by omega]
theorem facts_less {N N' : NetD} {t : TranD} {p : Nat} (F : TranFacts N t) (hp : p < N.places.toNat) (e : N'.places = N.places - 1) : TranFacts N' (lessP p t) := by
  have h1 := F.pre
  have h2 := F.post
  refine ⟨F.lab0, F.lab1, ?_, ?_, fun x hx => F.preW x (List.mem_of_mem_eraseIdx hx), fun x hx => F.postW x (List.mem_of_mem_eraseIdx hx)⟩
  · show (((t.pre.eraseIdx p).length : Nat) : Int) = _
    rw [List.length_eraseIdx_of_lt (by omega), e]; omega
  · show (((t.post.eraseIdx p).length : Nat) : Int) = _
    rw [List.length_eraseIdx_of_lt (by omega), e]; omega
theorem ok_dropT {s : SmD} (h : netOkB s.net = true) (k : Nat) : netOkB (dropT s k).net = true := by
  obtain ⟨h1, h2, h3⟩ := netOk_iff.1 h
  refine netOk_iff.2 ⟨h1, ?_, fun t ht => ?_⟩
  · show (s.net.trans.eraseIdx k).length ≤ 24
    have := List.length_eraseIdx_le s.net.trans k
    omega
  · have F := h3 t (List.mem_of_mem_eraseIdx ht)
    exact ⟨F.lab0, F.lab1, F.pre, F.post, F.preW, F.postW⟩
theorem ok_dropP {s : SmD} (h : netOkB s.net = true) {p : Nat} (hp : p < s.net.places.toNat) : netOkB (dropP s p).net = true := by
  obtain ⟨h1, h2, h3⟩ := netOk_iff.1 h
  refine netOk_iff.2 ⟨?_, ?_, fun t ht => ?_⟩
  · show 0 ≤ s.net.places - 1 ∧ s.net.places - 1 ≤ 16
    omega
  · show (s.net.trans.map (lessP p)).length ≤ 24
    rw [List.length_map]; exact h2
  · obtain ⟨u, hu, rfl⟩ := List.mem_map.1 (show t ∈ s.net.trans.map (lessP p) from ht)
    exact facts_less (h3 u hu) hp rfl
theorem nth_ext {x y : List Int} (hl : x.length = y.length) (h : ∀ p, nth x p = nth y p) : x = y := by
  apply List.ext_getElem hl
  intro i h1 h2
  have := h i
  rw [nth_lt h1, nth_lt h2] at this
  exact this
theorem erase_one {n a q : Nat} (ha : a < n) (hq : q < n) (h : a ≠ q) : (oneN n (a : Int)).eraseIdx q = oneN (n - 1) ((sh q a : Nat) : Int) := by
  apply nth_ext
  · rw [List.length_eraseIdx_of_lt (by rw [oneN_len]; exact hq), oneN_len, oneN_len]
  · intro p
    have e := sh_un q p
    have hne := un_ne q p
    rw [← e, nth_sh _ hne, nth_oneN _ _ _ ha, nth_oneN _ _ _ (sh_lt hq ha h)]
    by_cases hp : un q p = a
    · rw [if_pos hp, if_pos (by rw [hp])]
    · rw [if_neg hp, if_neg fun e => hp (sh_inj hne h e)]
/-! ### one transition that another one is like -/
theorem dup_at {ts : List TranD} {k : Nat} (h : dupB ts k = true) : ∃ j, j < k ∧ (ix ts k).pre = (ix ts j).pre ∧ (ix ts k).post = (ix ts j).post := by
  unfold dupB at h
  obtain ⟨j, hj, h1⟩ := List.any_eq_true.1 h
  unfold dupT at h1
  rw [Bool.and_eq_true] at h1
  exact ⟨j, List.mem_range.1 hj, (eqB_iff _ _).1 h1.1, (eqB_iff _ _).1 h1.2⟩
theorem shape_dropT {s : SmD} {i o k : Nat} (h : ShapeP s.net i o) (hk : k < s.net.trans.length) (hd : dupB s.net.trans k = true) : ShapeP (dropT s k).net i o := by
  obtain ⟨j, hj, e1, e2⟩ := dup_at hd
  have hlen : (dropT s k).net.trans.length = s.net.trans.length - 1 := by unfold dropT; exact List.length_eraseIdx_of_lt hk
  have hpl : (dropT s k).net.places = s.net.places := rfl
  have hm : ∀ t ∈ (dropT s k).net.trans, t ∈ s.net.trans := fun t ht => List.mem_of_mem_eraseIdx ht
  have htr : ∀ t, (ix (dropT s k).net.trans (if t = k then j else sh k t)).pre = (ix s.net.trans t).pre ∧ (ix (dropT s k).net.trans (if t = k then j else sh k t)).post = (ix s.net.trans t).post := fun t => by
    show (ix (s.net.trans.eraseIdx k) _).pre = _ ∧ (ix (s.net.trans.eraseIdx k) _).post = _
    by_cases ht : t = k
    · rw [if_pos ht, ix_erase, if_pos hj, ht]; exact ⟨e1.symm, e2.symm⟩
    · rw [if_neg ht, ix_sh _ ht]; exact ⟨rfl, rfl⟩
  have hlt : ∀ t, t < s.net.trans.length → (if t = k then j else sh k t) < (dropT s k).net.trans.length := fun t ht => by
    rw [hlen]
    split
    · omega
    · next hne => exact sh_lt hk ht hne
  refine h.sim (fun x => if x.tran = true then ⟨true, if x.n = k then j else sh k x.n⟩ else x) (ok_dropT h.ok k) h.hi h.ho h.ne (fun t ht => h.post t (hm t ht)) (fun t ht => h.pre t (hm t ht)) ?_ ?_ rfl rfl
  · rintro ⟨b, n⟩ ⟨c, m⟩ ⟨hx, hy, hc⟩
    right
    rcases hc with ⟨h1, h2, h3⟩ | ⟨h1, h2, h3⟩
    · simp only at h1 h2 h3
      subst h1 h2
      refine ⟨nodeP.2 (show n < s.net.places.toNat from nodeP.1 hx), nodeT.2 (hlt m (nodeT.1 hy)), .inl ⟨rfl, rfl, ?_⟩⟩
      show 0 < nth (ix (dropT s k).net.trans (if m = k then j else sh k m)).pre n
      rw [(htr m).1]; exact h3
    · simp only at h1 h2 h3
      subst h1 h2
      refine ⟨nodeT.2 (hlt n (nodeT.1 hx)), nodeP.2 (show m < s.net.places.toNat from nodeP.1 hy), .inr ⟨rfl, rfl, ?_⟩⟩
      show 0 < nth (ix (dropT s k).net.trans (if n = k then j else sh k n)).post m
      rw [(htr n).2]; exact h3
  · rintro ⟨b, n⟩ hy
    cases b
    · exact ⟨⟨false, n⟩, nodeP.2 (show n < (dropT s k).net.places.toNat from nodeP.1 hy), rfl⟩
    · have hn := nodeT.1 hy
      rw [hlen] at hn
      refine ⟨⟨true, un k n⟩, nodeT.2 (un_lt hk hn), ?_⟩
      simp only [if_true]
      rw [if_neg (un_ne k n), sh_un]
/-! ### one place that another one is like -/
theorem col_eq {p q : Nat} : ∀ {ts : List TranD}, colF ts p = colF ts q → ∀ t ∈ ts, nth t.pre p = nth t.pre q ∧ nth t.post p = nth t.post q
  | [], _, t, ht => by cases ht
  | u :: r, h, t, ht => by
    unfold colF at h
    simp only [List.flatMap_cons, List.cons_append, List.nil_append, List.cons.injEq] at h
    rcases List.mem_cons.1 ht with rfl | ht
    · exact ⟨h.1, h.2.1⟩
    · exact col_eq (ts := r) h.2.2 t ht
theorem pair_at {s : SmD} {q p : Nat} (h : pairB s q p = true) : ((p : Int) ≠ s.i ∧ (p : Int) ≠ s.o) ∧ ((q : Int) ≠ s.i ∧ (q : Int) ≠ s.o) ∧ ∀ t ∈ s.net.trans, nth t.pre p = nth t.pre q ∧ nth t.post p = nth t.post q := by
  unfold pairB innerB at h
  simp only [Bool.and_eq_true, bne_iff_ne, ne_eq] at h
  exact ⟨h.1, h.2.1, col_eq ((eqB_iff _ _).1 h.2.2)⟩
theorem shape_dropP {s : SmD} {i o q p : Nat} (h : ShapeP s.net i o) (ei : s.i = i) (eo : s.o = o) (hq : q < s.net.places.toNat) (hpq : p < q) (hp : pairB s q p = true) : ShapeP (dropP s q).net (sh q i) (sh q o) := by
  obtain ⟨_, ⟨n1, n2⟩, hcol⟩ := pair_at hp
  have n1 : i ≠ q := fun e => n1 (by rw [ei, e])
  have n2 : o ≠ q := fun e => n2 (by rw [eo, e])
  have hpl : (dropP s q).net.places.toNat = s.net.places.toNat - 1 := by show (s.net.places - 1).toNat = _; omega
  have hlen : (dropP s q).net.trans.length = s.net.trans.length := by show (s.net.trans.map (lessP q)).length = _; rw [List.length_map]
  have hm : ∀ t ∈ (dropP s q).net.trans, ∃ u ∈ s.net.trans, t = lessP q u := fun t ht => by
    obtain ⟨u, hu, rfl⟩ := List.mem_map.1 (show t ∈ s.net.trans.map (lessP q) from ht)
    exact ⟨u, hu, rfl⟩
  have hpi : ∀ (l : List Int) x, nth l p = nth l q → nth (l.eraseIdx q) (if x = q then p else sh q x) = nth l x := fun l x hl => by
    by_cases hx : x = q
    · rw [if_pos hx, nth_erase, if_pos hpq, hx, hl]
    · rw [if_neg hx, nth_sh _ hx]
  have hlt : ∀ x, x < s.net.places.toNat → (if x = q then p else sh q x) < (dropP s q).net.places.toNat := fun x hx => by
    rw [hpl]
    split
    · omega
    · next hne => exact sh_lt hq hx hne
  have htr : ∀ t, ix (dropP s q).net.trans t = lessP q (ix s.net.trans t) := fun t => ix_less _ _ _
  refine h.sim (fun x => if x.tran = true then x else ⟨false, if x.n = q then p else sh q x.n⟩) (ok_dropP h.ok hq) (by rw [hpl]; exact sh_lt hq h.hi n1) (by rw [hpl]; exact sh_lt hq h.ho n2) (fun e => h.ne (sh_inj n1 n2 e)) (fun t ht => ?_) (fun t ht => ?_) ?_ ?_ ?_ ?_
  · obtain ⟨u, hu, rfl⟩ := hm t ht
    show nth (u.post.eraseIdx q) _ ≤ 0
    rw [nth_sh _ n1]; exact h.post u hu
  · obtain ⟨u, hu, rfl⟩ := hm t ht
    show nth (u.pre.eraseIdx q) _ ≤ 0
    rw [nth_sh _ n2]; exact h.pre u hu
  · rintro ⟨b, n⟩ ⟨c, m⟩ ⟨hx, hy, hc⟩
    right
    rcases hc with ⟨h1, h2, h3⟩ | ⟨h1, h2, h3⟩
    · simp only at h1 h2 h3
      subst h1 h2
      have hmT := nodeT.1 hy
      refine ⟨nodeP.2 (hlt n (nodeP.1 hx)), nodeT.2 (by rw [hlen]; exact hmT), .inl ⟨rfl, rfl, ?_⟩⟩
      show 0 < nth (ix (dropP s q).net.trans m).pre (if n = q then p else sh q n)
      rw [htr m]
      show 0 < nth ((ix s.net.trans m).pre.eraseIdx q) _
      rw [hpi _ _ (hcol _ (by rw [ix_lt hmT]; exact List.getElem_mem hmT)).1]
      exact h3
    · simp only at h1 h2 h3
      subst h1 h2
      have hmT := nodeT.1 hx
      refine ⟨nodeT.2 (by rw [hlen]; exact hmT), nodeP.2 (hlt m (nodeP.1 hy)), .inr ⟨rfl, rfl, ?_⟩⟩
      show 0 < nth (ix (dropP s q).net.trans n).post (if m = q then p else sh q m)
      rw [htr n]
      show 0 < nth ((ix s.net.trans n).post.eraseIdx q) _
      rw [hpi _ _ (hcol _ (by rw [ix_lt hmT]; exact List.getElem_mem hmT)).2]
      exact h3
  · rintro ⟨b, n⟩ hy
    cases b
    · have hn := nodeP.1 hy
      rw [hpl] at hn
      refine ⟨⟨false, un q n⟩, nodeP.2 (un_lt hq hn), ?_⟩
      simp only [Bool.false_eq_true, if_false]
      rw [if_neg (un_ne q n), sh_un]
    · exact ⟨⟨true, n⟩, nodeT.2 (by rw [← hlen]; exact nodeT.1 hy), rfl⟩
  · simp only [Bool.false_eq_true, if_false]
    rw [if_neg n1]
  · simp only [Bool.false_eq_true, if_false]
    rw [if_neg n2]
/-! ### two transitions of which one feeds the other alone -/
theorem only_at {f : TranD → Int} {ts : List TranD} {k : Nat} (h : onlyF f ts = some k) : f (ix ts k) = 1 ∧ ∀ j, j < ts.length → j ≠ k → f (ix ts j) ≤ 0 := by
  unfold onlyF at h
  rcases e : (List.range ts.length).find? (fun k => decide (0 < f (ix ts k))) with _ | k'
  · rw [e] at h; cases h
  · rw [e] at h
    simp only at h
    split at h
    · rename_i hc
      obtain rfl : k' = k := by injection h
      refine ⟨hc.1, fun j hj hne => ?_⟩
      rcases Nat.lt_or_ge j k' with h1 | h1
      · have := List.find?_range_eq_some.1 e
        have h2 := this.2.2 j h1
        simpa using h2
      · have h2 := List.any_eq_false.1 hc.2 (ix ts j) (by
          rw [ix_lt hj]
          exact List.mem_iff_getElem.2 ⟨j - (k' + 1), by rw [List.length_drop]; omega, by rw [List.getElem_drop]; congr 1; omega⟩)
        simpa using h2
    · cases h
theorem foldl_add : ∀ (l : List Int) (a : Int), l.foldl (· + ·) a = a + sumF l
  | [], a => by simp [sumF]
  | x :: r, a => by
    unfold sumF
    rw [List.foldl_cons, List.foldl_cons, foldl_add r (a + x), foldl_add r (0 + x)]
    omega
theorem sumF_cons (x : Int) (r : List Int) : sumF (x :: r) = x + sumF r := by
  rw [show sumF (x :: r) = r.foldl (· + ·) (0 + x) from rfl, foldl_add]; omega
theorem sumF_ge : ∀ {l : List Int}, (∀ x ∈ l, 0 ≤ x) → ∀ q, nth l q ≤ sumF l ∧ 0 ≤ sumF l
  | [], _, q => by rw [nth_ge (by simp)]; simp [sumF]
  | x :: r, h, q => by
    have h0 := h x (by simp)
    have hr := fun q => sumF_ge (l := r) (fun y hy => h y (List.mem_cons_of_mem _ hy)) q
    rw [sumF_cons]
    cases q with
    | zero => have := hr 0; rw [nth_def]; simp; omega
    | succ q => have := hr q; rw [nth_def] at this ⊢; simp at this ⊢; omega
/-- where all is 0 but one, by the sum -/
theorem sumF_one : ∀ {l : List Int}, (∀ x ∈ l, 0 ≤ x) → sumF l = 1 → ∀ p, nth l p = 1 → ∀ q, q ≠ p → nth l q = 0
  | [], _, h, p, hp, q, hq => by rw [nth_ge (by simp)]
  | x :: r, h, hs, p, hp, q, hq => by
    have h0 := h x (by simp)
    have hr : ∀ y ∈ r, 0 ≤ y := fun y hy => h y (List.mem_cons_of_mem _ hy)
    have hg := fun q => sumF_ge hr q
    rw [sumF_cons] at hs
    have n0 : nth (x :: r) 0 = x := by rw [nth_def]; rfl
    have nS : ∀ m, nth (x :: r) (m + 1) = nth r m := fun m => by rw [nth_def, nth_def]; simp
    have nn : ∀ m, 0 ≤ nth r m := fun m => by
      by_cases hm : m < r.length
      · rw [nth_lt hm]; exact hr _ (List.getElem_mem hm)
      · rw [nth_ge (by omega)]; omega
    cases p with
    | zero =>
      rw [n0] at hp
      cases q with
      | zero => exact absurd rfl hq
      | succ q => rw [nS]; have := hg q; have := nn q; omega
    | succ p =>
      rw [nS] at hp
      have h1 := hg p
      cases q with
      | zero => rw [n0]; omega
      | succ q =>
        rw [nS]
        exact sumF_one hr (by omega) p hp q (by omega)
/-- the facts of a series, said by weights -/
structure SerW (s : SmD) (p k l : Nat) : Prop where
  hp : p < s.net.places.toNat
  hk : k < s.net.trans.length
  hl : l < s.net.trans.length
  ne : k ≠ l
  pi : (p : Int) ≠ s.i
  po : (p : Int) ≠ s.o
  k1 : nth (ix s.net.trans k).post p = 1
  l1 : nth (ix s.net.trans l).pre p = 1
  ko : ∀ j, j < s.net.trans.length → j ≠ k → nth (ix s.net.trans j).post p = 0
  lo : ∀ j, j < s.net.trans.length → j ≠ l → nth (ix s.net.trans j).pre p = 0
  l0 : ∀ q, q ≠ p → nth (ix s.net.trans l).pre q = 0
theorem SerieAt.w {s s' : SmD} {p k l : Nat} (a : SerieAt s p k l s') (h : netOkB s.net = true) : SerW s p k l := by
  have h1 := only_at a.ok
  have h2 := only_at a.ol
  have hin := a.inn
  unfold innerB at hin
  simp only [Bool.and_eq_true, bne_iff_ne, ne_eq] at hin
  have F := fun {j} (hj : j < s.net.trans.length) => netOk_tr h hj
  simp only [tr_ix] at F
  have hw := fun {j} (hj : j < s.net.trans.length) => w_nth (F hj) p
  exact ⟨a.hp, a.hk, a.hl, a.ne, hin.1, hin.2, h1.1, h2.1, fun j hj hne => by have := h1.2 j hj hne; have := hw hj; omega, fun j hj hne => by have := h2.2 j hj hne; have := hw hj; omega,
    sumF_one (fun x hx => ((F a.hl).preW x hx).1) a.sum p h2.1⟩
def mergeT (s : SmD) (p k l : Nat) : TranD := ⟨(ix s.net.trans k).label, (ix s.net.trans k).pre, joinF (ix s.net.trans k).post (ix s.net.trans l).post p⟩
theorem SerieAt.eq {s s' : SmD} {p k l : Nat} (a : SerieAt s p k l s') : s' = dropP (dropT ⟨⟨s.net.places, s.net.trans.set k (mergeT s p k l)⟩, s.i, s.o⟩ l) p := a.is
theorem ix_setk (l : List TranD) {k : Nat} (hk : k < l.length) (x : TranD) (t : Nat) : ix (l.set k x) t = if t = k then x else ix l t := by
  simp only [ix_def, List.getD_eq_getElem?_getD, List.getElem?_set]
  by_cases h : t = k
  · subst h; simp [hk]
  · rw [if_neg h, if_neg (fun e => h e.symm)]
theorem ser_tr {s : SmD} {p k l : Nat} (hk : k < s.net.trans.length) {t : Nat} (ht : t ≠ l) :
    ix (dropP (dropT ⟨⟨s.net.places, s.net.trans.set k (mergeT s p k l)⟩, s.i, s.o⟩ l) p).net.trans (sh l t) = lessP p (if t = k then mergeT s p k l else ix s.net.trans t) := by
  show ix (((s.net.trans.set k (mergeT s p k l)).eraseIdx l).map (lessP p)) _ = _
  rw [ix_less, ix_sh _ ht, ix_setk _ hk]
theorem merge_post {s : SmD} {p k l : Nat} (h : netOkB s.net = true) (hk : k < s.net.trans.length) (hl : l < s.net.trans.length) {q : Nat} (hq : q ≠ p) : nth (mergeT s p k l).post q = nth (ix s.net.trans k).post q + nth (ix s.net.trans l).post q := by
  have Fk := netOk_tr h hk
  have Fl := netOk_tr h hl
  rw [tr_ix] at Fk Fl
  have h1 := Fk.post
  have h2 := Fl.post
  show nth (joinF _ _ p) q = _
  by_cases hlt : q < (ix s.net.trans k).post.length
  · rw [join_nth hlt, if_neg hq]
  · rw [nth_ge (by rw [joinF_len]; omega), nth_ge (by omega), nth_ge (by omega)]; rfl
theorem ser_ok {s s' : SmD} {p k l : Nat} (h : netOkB s.net = true) (a : SerieAt s p k l s') : netOkB s'.net = true := by
  have W := a.w h
  obtain ⟨h1, h2, h3⟩ := netOk_iff.1 h
  have Fk := netOk_tr h a.hk
  have Fl := netOk_tr h a.hl
  rw [tr_ix] at Fk Fl
  have hset : netOkB (⟨⟨s.net.places, s.net.trans.set k (mergeT s p k l)⟩, s.i, s.o⟩ : SmD).net = true := by
    refine netOk_iff.2 ⟨h1, by simpa using h2, fun t ht => ?_⟩
    rcases List.mem_or_eq_of_mem_set ht with h4 | rfl
    · have F := h3 t h4
      exact ⟨F.lab0, F.lab1, F.pre, F.post, F.preW, F.postW⟩
    · refine ⟨Fk.lab0, Fk.lab1, Fk.pre, ?_, Fk.preW, fun x hx => ?_⟩
      · show (((joinF _ _ p).length : Nat) : Int) = _
        rw [joinF_len]; exact Fk.post
      · obtain ⟨q, hq, rfl⟩ := List.getElem_of_mem hx
        have hq' : q < (joinF (ix s.net.trans k).post (ix s.net.trans l).post p).length := hq
        rw [joinF_len] at hq'
        rw [← nth_lt hq]
        have hm := a.mx
        rw [maxF_def, maxTo_le, joinF_len] at hm
        refine ⟨?_, hm q (by omega)⟩
        show 0 ≤ nth (joinF _ _ p) q
        rw [join_nth hq']
        have := w_nth Fk q
        have := w_nth Fl q
        split <;> omega
  rw [a.eq]
  exact ok_dropP (ok_dropT hset l) W.hp
theorem shape_serie {s s' : SmD} {i o p k l : Nat} (h : ShapeP s.net i o) (ei : s.i = i) (eo : s.o = o) (a : SerieAt s p k l s') : ShapeP s'.net (sh p i) (sh p o) := by
  have W := a.w h.ok
  have hok := ser_ok h.ok a
  have n1 : i ≠ p := fun e => W.pi (by rw [ei, e])
  have n2 : o ≠ p := fun e => W.po (by rw [eo, e])
  have hpl : s'.net.places.toNat = s.net.places.toNat - 1 := by rw [a.eq]; show (s.net.places - 1).toNat = _; omega
  have hlen : s'.net.trans.length = s.net.trans.length - 1 := by
    rw [a.eq]
    show (((s.net.trans.set k (mergeT s p k l)).eraseIdx l).map (lessP p)).length = _
    rw [List.length_map, List.length_eraseIdx_of_lt (by rw [List.length_set]; exact W.hl), List.length_set]
  have htr : ∀ t, t ≠ l → ix s'.net.trans (sh l t) = lessP p (if t = k then mergeT s p k l else ix s.net.trans t) := fun t ht => by rw [a.eq]; exact ser_tr W.hk ht
  have hpre : ∀ t, t ≠ l → ∀ q, q ≠ p → nth (ix s'.net.trans (sh l t)).pre (sh p q) = nth (ix s.net.trans t).pre q := fun t ht q hq => by
    rw [htr t ht]
    show nth (List.eraseIdx _ p) _ = _
    rw [nth_sh _ hq]
    by_cases e : t = k
    · rw [if_pos e, e]; rfl
    · rw [if_neg e]
  have hpost : ∀ t, t ≠ l → t ≠ k → ∀ q, q ≠ p → nth (ix s'.net.trans (sh l t)).post (sh p q) = nth (ix s.net.trans t).post q := fun t ht e q hq => by
    rw [htr t ht]
    show nth (List.eraseIdx _ p) _ = _
    rw [nth_sh _ hq, if_neg e]
  have hpk : ∀ q, q ≠ p → nth (ix s'.net.trans (sh l k)).post (sh p q) = nth (ix s.net.trans k).post q + nth (ix s.net.trans l).post q := fun q hq => by
    rw [htr k W.ne, if_pos rfl]
    show nth (List.eraseIdx _ p) _ = _
    rw [nth_sh _ hq, merge_post h.ok W.hk W.hl hq]
  have hix : ∀ t ∈ s'.net.trans, ∃ v, v < s.net.trans.length ∧ v ≠ l ∧ ix s'.net.trans (sh l v) = t := fun t ht => by
    obtain ⟨u, hu, rfl⟩ := List.getElem_of_mem ht
    refine ⟨un l u, un_lt W.hl (by omega), un_ne l u, ?_⟩
    rw [sh_un, ix_lt hu]
  have F := fun {j} (hj : j < s.net.trans.length) => netOk_tr h.ok hj
  simp only [tr_ix] at F
  have hmm : ∀ {j}, j < s.net.trans.length → ix s.net.trans j ∈ s.net.trans := fun hj => by rw [ix_lt hj]; exact List.getElem_mem hj
  refine h.sim (fun x => if x.tran = true then ⟨true, if x.n = l then sh l k else sh l x.n⟩ else if x.n = p then ⟨true, sh l k⟩ else ⟨false, sh p x.n⟩) hok (by rw [hpl]; exact sh_lt W.hp h.hi n1) (by rw [hpl]; exact sh_lt W.hp h.ho n2) (fun e => h.ne (sh_inj n1 n2 e)) (fun t ht => ?_) (fun t ht => ?_) ?_ ?_ ?_ ?_
  · obtain ⟨v, hv, hvl, rfl⟩ := hix t ht
    by_cases e : v = k
    · rw [e, hpk i n1]
      have := h.post _ (hmm W.hk)
      have := h.post _ (hmm W.hl)
      omega
    · rw [hpost v hvl e i n1]
      exact h.post _ (hmm hv)
  · obtain ⟨v, hv, hvl, rfl⟩ := hix t ht
    rw [hpre v hvl o n2]
    exact h.pre _ (hmm hv)
  · rintro ⟨b, n⟩ ⟨c, m⟩ ⟨hx, hy, hc⟩
    rcases hc with ⟨h1, h2, h3⟩ | ⟨h1, h2, h3⟩
    · simp only at h1 h2 h3
      subst h1 h2
      have hmT := nodeT.1 hy
      have hnP := nodeP.1 hx
      simp only [Bool.false_eq_true, if_false, if_true]
      by_cases en : n = p
      · subst en
        left
        have em : m = l := Classical.byContradiction fun hne => by have := W.lo m hmT hne; omega
        rw [if_pos rfl, if_pos em]
      · right
        have em : m ≠ l := fun e => by rw [e, W.l0 n en] at h3; omega
        rw [if_neg en, if_neg em]
        refine ⟨nodeP.2 (by rw [hpl]; exact sh_lt W.hp hnP en), nodeT.2 (by rw [hlen]; exact sh_lt W.hl hmT em), .inl ⟨rfl, rfl, ?_⟩⟩
        show 0 < nth (ix s'.net.trans (sh l m)).pre (sh p n)
        rw [hpre m em n en]; exact h3
    · simp only at h1 h2 h3
      subst h1 h2
      have hnT := nodeT.1 hx
      have hmP := nodeP.1 hy
      simp only [Bool.false_eq_true, if_false, if_true]
      by_cases em : m = p
      · subst em
        left
        have en : n = k := Classical.byContradiction fun hne => by have := W.ko n hnT hne; omega
        rw [if_pos rfl, en, if_neg W.ne]
      · right
        rw [if_neg em]
        have wk := w_nth (F W.hk) m
        have wl := w_nth (F W.hl) m
        have hP : isNode s'.net ⟨false, sh p m⟩ := nodeP.2 (by rw [hpl]; exact sh_lt W.hp hmP em)
        have hK : isNode s'.net ⟨true, sh l k⟩ := nodeT.2 (by rw [hlen]; exact sh_lt W.hl W.hk W.ne)
        by_cases en : n = l
        · rw [if_pos en]
          refine ⟨hK, hP, .inr ⟨rfl, rfl, ?_⟩⟩
          show 0 < nth (ix s'.net.trans (sh l k)).post (sh p m)
          rw [hpk m em]; rw [en] at h3; omega
        · rw [if_neg en]
          refine ⟨nodeT.2 (by rw [hlen]; exact sh_lt W.hl hnT en), hP, .inr ⟨rfl, rfl, ?_⟩⟩
          show 0 < nth (ix s'.net.trans (sh l n)).post (sh p m)
          by_cases ek : n = k
          · rw [ek, hpk m em]; rw [ek] at h3; omega
          · rw [hpost n en ek m em]; exact h3
  · rintro ⟨b, n⟩ hy
    cases b
    · have hn := nodeP.1 hy
      rw [hpl] at hn
      refine ⟨⟨false, un p n⟩, nodeP.2 (un_lt W.hp hn), ?_⟩
      simp only [Bool.false_eq_true, if_false]
      rw [if_neg (un_ne p n), sh_un]
    · have hn := nodeT.1 hy
      rw [hlen] at hn
      refine ⟨⟨true, un l n⟩, nodeT.2 (un_lt W.hl hn), ?_⟩
      simp only [if_true]
      rw [if_neg (un_ne l n), sh_un]
  · simp only [Bool.false_eq_true, if_false]
    rw [if_neg n1]
  · simp only [Bool.false_eq_true, if_false]
    rw [if_neg n2]
/-! ### all steps -/
def ShapeS (s : SmD) : Prop := ∃ i o : Nat, s.i = i ∧ s.o = o ∧ ShapeP s.net i o
theorem shapeS_of {s : SmD} (h : shapeC s.net s.i s.o = 0) : ShapeS s := by
  obtain ⟨a, b, h1, h2, h3⟩ := shape_ok h
  exact ⟨a, b, h1, h2, h3.arcs⟩
theorem ShapeS.code {s : SmD} (h : ShapeS s) : shapeC s.net s.i s.o = 0 := by
  obtain ⟨i, o, h1, h2, h3⟩ := h
  rw [h1, h2]; exact h3.code
theorem ShapeS.step {s s' : SmD} (h : ShapeS s) (e : redStep s = some s') : ShapeS s' := by
  obtain ⟨i, o, h1, h2, h3⟩ := h
  rcases red_cases e with ⟨k, hk, hd, rfl⟩ | ⟨q, p, hq, hpq, hp, rfl⟩ | ⟨p, k, l, a⟩
  · exact ⟨i, o, h1, h2, shape_dropT h3 hk hd⟩
  · obtain ⟨_, ⟨n1, n2⟩, _⟩ := pair_at hp
    refine ⟨sh q i, sh q o, ?_, ?_, shape_dropP h3 h1 h2 hq hpq hp⟩
    · show shiftP q s.i = _
      rw [h1, shiftP_sh fun e => n1 (by rw [h1, e])]
    · show shiftP q s.o = _
      rw [h2, shiftP_sh fun e => n2 (by rw [h2, e])]
  · have W := a.w h3.ok
    refine ⟨sh p i, sh p o, ?_, ?_, shape_serie h3 h1 h2 a⟩
    · rw [a.eq]
      show shiftP p s.i = _
      rw [h1, shiftP_sh fun e => W.pi (by rw [h1, e])]
    · rw [a.eq]
      show shiftP p s.o = _
      rw [h2, shiftP_sh fun e => W.po (by rw [h2, e])]
/-- what Reduce makes of a net with a shape -/
structure RedOk (s0 : SmD) (r : SmD × Nat) : Prop where
  shape : ShapeS r.1
  done : redStep r.1 = none
  lo : meas r.1 + r.2 ≤ meas s0
  hi : meas s0 ≤ meas r.1 + 2 * r.2
  zero : r.2 = 0 → r.1 = s0
theorem redF_ok {s0 : SmD} (h : ShapeS s0) : RedOk s0 (reduceF s0) := by
  have key := redF_ind (P := fun s n => ShapeS s ∧ meas s + n ≤ meas s0 ∧ meas s0 ≤ meas s + 2 * n ∧ (n = 0 → s = s0)) (fun s s' n hP e => by
    have := meas_step e
    exact ⟨hP.1.step e, by omega, by omega, fun h => by omega⟩) (meas s0) s0 0 ⟨h, by omega, by omega, fun _ => rfl⟩
  exact ⟨key.1, redF_done _ _ _ (Nat.le_refl _), key.2.1, key.2.2.1, key.2.2.2⟩
theorem reduce_again {s0 : SmD} (h : redStep s0 = none) : reduceF s0 = (s0, 0) := by unfold reduceF; rw [red_none h]
end Go.Tok
