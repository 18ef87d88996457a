/- To which nodes arcs of a net lead from a place: the plain search, and what it finds. No program is in sight here. -/
import Derived.Test.YtmigejcejnofiaaNetLaw
import Derived.Test.YtmigejcejnofiaaNetOwn
namespace Go.Tok
set_option linter.unusedVariables false

/-- a place, or a transition -/
structure NodeD where
  tran : Bool
  n : Nat
deriving DecidableEq
instance : Inhabited NodeD := ⟨⟨false, 0⟩⟩
def isNode (N : NetD) (x : NodeD) : Prop := if x.tran = true then x.n < N.trans.length else x.n < N.places.toNat
/-- the weight of the arc from x to the j-th node of the other kind -/
def wtN (N : NetD) (x : NodeD) (j : Nat) : Int := if x.tran = true then nth (N.tr x.n).post j else nth (N.tr j).pre x.n
def degN (N : NetD) (x : NodeD) : Nat := if x.tran = true then (N.tr x.n).post.length else N.trans.length
def nextN (x : NodeD) (j : Nat) : NodeD := ⟨!x.tran, j⟩
def foldTo (f : List NodeD → NodeD → List NodeD) (vis : List NodeD) (N : NetD) (x : NodeD) : Nat → List NodeD
  | 0 => vis
  | k + 1 => if 0 < wtN N x k then f (foldTo f vis N x k) (nextN x k) else foldTo f vis N x k
theorem foldTo_zero (f : List NodeD → NodeD → List NodeD) (vis : List NodeD) (N : NetD) (x : NodeD) : foldTo f vis N x 0 = vis := rfl
theorem foldTo_yes {f : List NodeD → NodeD → List NodeD} {vis : List NodeD} {N : NetD} {x : NodeD} {k : Nat} (h : 0 < wtN N x k) : foldTo f vis N x (k + 1) = f (foldTo f vis N x k) (nextN x k) := by rw [foldTo, if_pos h]
theorem foldTo_no {f : List NodeD → NodeD → List NodeD} {vis : List NodeD} {N : NetD} {x : NodeD} {k : Nat} (h : wtN N x k ≤ 0) : foldTo f vis N x (k + 1) = foldTo f vis N x k := by rw [foldTo, if_neg (by omega)]
def dfsF (N : NetD) : Nat → List NodeD → NodeD → List NodeD
  | 0, vis, _ => vis
  | m + 1, vis, x => if x ∈ vis then vis else foldTo (dfsF N m) (vis ++ [x]) N x (degN N x)
theorem dfs_in {N : NetD} {m : Nat} {vis : List NodeD} {x : NodeD} (h : x ∈ vis) : dfsF N (m + 1) vis x = vis := by rw [dfsF, if_pos h]
theorem dfs_out {N : NetD} {m : Nat} {vis : List NodeD} {x : NodeD} (h : x ∉ vis) : dfsF N (m + 1) vis x = foldTo (dfsF N m) (vis ++ [x]) N x (degN N x) := by rw [dfsF, if_neg h]

/-- the next of a node is a node -/
theorem next_node {N : NetD} (h : netOkB N = true) {x : NodeD} (hx : isNode N x) {j : Nat} (hj : j < degN N x) : isNode N (nextN x j) := by
  unfold isNode degN nextN at *
  cases hb : x.tran
  · rw [hb] at hx hj
    simp at hx hj ⊢
    exact hj
  · rw [hb] at hx hj
    simp at hx hj ⊢
    have := (netOk_tr h hx).post
    omega
structure Grown (N : NetD) (vis out : List NodeD) : Prop where
  pre : vis <+: out
  nodes : (∀ y ∈ vis, isNode N y) → ∀ y ∈ out, isNode N y
  nodup : vis.Nodup → out.Nodup
theorem Grown.refl (N : NetD) (v : List NodeD) : Grown N v v := ⟨List.prefix_refl _, id, id⟩
theorem Grown.trans {N : NetD} {a b c : List NodeD} (h : Grown N a b) (k : Grown N b c) : Grown N a c := ⟨h.pre.trans k.pre, fun x => k.nodes (h.nodes x), fun x => k.nodup (h.nodup x)⟩
theorem dfs_grown {N : NetD} (h : netOkB N = true) : ∀ (m : Nat) (vis : List NodeD) (x : NodeD), isNode N x → Grown N vis (dfsF N m vis x) := by
  intro m
  induction m with
  | zero => intro vis x _; exact Grown.refl N vis
  | succ m ih =>
    intro vis x hx
    by_cases hv : x ∈ vis
    · rw [dfs_in hv]; exact Grown.refl N vis
    · rw [dfs_out hv]
      have h0 : Grown N vis (vis ++ [x]) := ⟨List.prefix_append _ _, fun hn y hy => by
        rcases List.mem_append.1 hy with h1 | h1
        · exact hn y h1
        · rw [List.mem_singleton.1 h1]; exact hx, fun hn => List.nodup_append.2 ⟨hn, by simp, fun a ha b hb e => by
          rw [List.mem_singleton.1 hb] at e; subst e; exact hv ha⟩⟩
      have key : ∀ k, k ≤ degN N x → Grown N vis (foldTo (dfsF N m) (vis ++ [x]) N x k) := by
        intro k
        induction k with
        | zero => intro _; rw [foldTo_zero]; exact h0
        | succ k ihk =>
          intro hk
          have h1 := ihk (by omega)
          rcases Int.lt_or_le 0 (wtN N x k) with h2 | h2
          · rw [foldTo_yes h2]; exact h1.trans (ih _ _ (next_node h hx (by omega)))
          · rw [foldTo_no h2]; exact h1
      exact key _ (Nat.le_refl _)
theorem fold_grown {N : NetD} (h : netOkB N = true) {m : Nat} {vis : List NodeD} {x : NodeD} (hx : isNode N x) : ∀ k, k ≤ degN N x → Grown N vis (foldTo (dfsF N m) vis N x k) := by
  intro k
  induction k with
  | zero => intro _; rw [foldTo_zero]; exact Grown.refl _ _
  | succ k ihk =>
    intro hk
    have h1 := ihk (by omega)
    rcases Int.lt_or_le 0 (wtN N x k) with h2 | h2
    · rw [foldTo_yes h2]; exact h1.trans (dfs_grown h _ _ _ (next_node h hx (by omega)))
    · rw [foldTo_no h2]; exact h1
/-! ### there are no more than so many nodes -/
theorem nat_pigeon : ∀ (T : Nat) (l : List Nat), l.Nodup → (∀ x ∈ l, x < T) → l.length ≤ T := by
  intro T
  induction T with
  | zero =>
    intro l _ h
    cases l with
    | nil => simp
    | cons a r => have := h a (by simp); omega
  | succ T ih =>
    intro l hn h
    have h1 := ih (l.erase T) (hn.erase T) fun x hx => by
      have h2 := h x (List.mem_of_mem_erase hx)
      have h3 : x ≠ T := fun e => by subst e; exact hn.not_mem_erase hx
      omega
    have h2 := List.length_erase (a := T) (l := l)
    split at h2 <;> omega
def sizeN (N : NetD) : Nat := N.places.toNat + N.trans.length
def codeN (N : NetD) (x : NodeD) : Nat := if x.tran = true then N.places.toNat + x.n else x.n
theorem code_lt {N : NetD} {x : NodeD} (h : isNode N x) : codeN N x < sizeN N := by
  unfold isNode at h; unfold codeN sizeN
  split at h <;> simp_all <;> omega
theorem code_inj {N : NetD} {x y : NodeD} (hx : isNode N x) (hy : isNode N y) (h : codeN N x = codeN N y) : x = y := by
  obtain ⟨a, m⟩ := x
  obtain ⟨b, n⟩ := y
  unfold isNode at hx hy; unfold codeN at h
  cases a <;> cases b <;> simp at hx hy h <;> simp <;> omega
theorem nodes_le {N : NetD} {l : List NodeD} (hn : l.Nodup) (h : ∀ x ∈ l, isNode N x) : l.length ≤ sizeN N := by
  have h1 := nat_pigeon (sizeN N) (l.map (codeN N)) (by
    rw [List.Nodup, List.pairwise_map]
    refine List.Pairwise.imp_of_mem (fun {a b} ha hb hne e => hne (code_inj (h a ha) (h b hb) e)) hn) (fun x hx => by
    obtain ⟨y, hy, rfl⟩ := List.mem_map.1 hx
    exact code_lt (h y hy))
  rwa [List.length_map] at h1
theorem nodes_full {N : NetD} {l : List NodeD} {x : NodeD} (hn : l.Nodup) (h : ∀ x ∈ l, isNode N x) (hl : sizeN N ≤ l.length) (hx : isNode N x) : x ∈ l := by
  rcases Classical.em (x ∈ l) with h1 | h1
  · exact h1
  · have := nodes_le (l := x :: l) (List.nodup_cons.2 ⟨h1, hn⟩) (fun y hy => by
      rcases List.mem_cons.1 hy with rfl | hy
      · exact hx
      · exact h y hy)
    simp at this; omega
/-- all to which arcs lead from a place -/
def walkN (N : NetD) (i : Nat) : List NodeD := dfsF N (sizeN N + 1) [] ⟨false, i⟩
theorem walkN_def (N : NetD) (i : Nat) : walkN N i = dfsF N (sizeN N + 1) [] ⟨false, i⟩ := rfl
theorem walk_grown {N : NetD} (h : netOkB N = true) {i : Nat} (hi : i < N.places.toNat) : Grown N [] (walkN N i) := dfs_grown h _ _ _ (by unfold isNode; simpa using hi)
/-- whatever is found, but for the first, was led to by an arc from what is found -/
def Led (N : NetD) (vis out : List NodeD) (x : NodeD) : Prop := ∀ y ∈ out, y ∈ vis ∨ y = x ∨ ∃ z ∈ out, ∃ j, j < degN N z ∧ 0 < wtN N z j ∧ y = nextN z j
theorem dfs_led {N : NetD} (h : netOkB N = true) : ∀ (m : Nat) (vis : List NodeD) (x : NodeD), isNode N x → Led N vis (dfsF N m vis x) x := by
  intro m
  induction m with
  | zero => intro vis x _ y hy; exact .inl hy
  | succ m ih =>
    intro vis x hx
    by_cases hv : x ∈ vis
    · rw [dfs_in hv]; exact fun y hy => .inl hy
    · rw [dfs_out hv]
      have key : ∀ k, k ≤ degN N x → Led N vis (foldTo (dfsF N m) (vis ++ [x]) N x k) x := by
        intro k
        induction k with
        | zero =>
          intro _ y hy
          rw [foldTo_zero] at hy
          rcases List.mem_append.1 hy with h1 | h1
          · exact .inl h1
          · exact .inr (.inl (List.mem_singleton.1 h1))
        | succ k ihk =>
          intro hk
          have h1 := ihk (by omega)
          rcases Int.lt_or_le 0 (wtN N x k) with h2 | h2
          · rw [foldTo_yes h2]
            have hg := dfs_grown h m (foldTo (dfsF N m) (vis ++ [x]) N x k) (nextN x k) (next_node h hx (by omega))
            have hx0 : x ∈ foldTo (dfsF N m) (vis ++ [x]) N x k := (fold_grown h (m := m) (vis := vis ++ [x]) hx k (by omega)).pre.subset (by simp)
            intro y hy
            rcases ih _ _ (next_node h hx (by omega)) y hy with h3 | rfl | ⟨z, hz, j, h4, h5, h6⟩
            · rcases h1 y h3 with h4 | h4 | ⟨z, hz, j, h4, h5, h6⟩
              · exact .inl h4
              · exact .inr (.inl h4)
              · exact .inr (.inr ⟨z, hg.pre.subset hz, j, h4, h5, h6⟩)
            · exact .inr (.inr ⟨x, hg.pre.subset hx0, k, by omega, h2, rfl⟩)
            · exact .inr (.inr ⟨z, hz, j, h4, h5, h6⟩)
          · rw [foldTo_no h2]; exact h1
      exact key _ (Nat.le_refl _)
theorem walk_led {N : NetD} (h : netOkB N = true) {i : Nat} (hi : i < N.places.toNat) : ∀ y ∈ walkN N i, y = ⟨false, i⟩ ∨ ∃ z ∈ walkN N i, ∃ j, j < degN N z ∧ 0 < wtN N z j ∧ y = nextN z j := fun y hy => by
  rcases dfs_led h _ _ _ (by unfold isNode; simpa using hi) y hy with h1 | h1 | h1
  · cases h1
  · exact .inl h1
  · exact .inr h1
theorem wt_tran (N : NetD) {x : NodeD} (h : x.tran = true) (j : Nat) : wtN N x j = nth (N.tr x.n).post j := by unfold wtN; rw [if_pos h]
theorem wt_place (N : NetD) {x : NodeD} (h : x.tran = false) (j : Nat) : wtN N x j = nth (N.tr j).pre x.n := by unfold wtN; rw [if_neg (by rw [h]; decide)]
theorem deg_tran (N : NetD) {x : NodeD} (h : x.tran = true) : degN N x = (N.tr x.n).post.length := by unfold degN; rw [if_pos h]
theorem deg_place (N : NetD) {x : NodeD} (h : x.tran = false) : degN N x = N.trans.length := by unfold degN; rw [if_neg (by rw [h]; decide)]
theorem node_tran {N : NetD} {x : NodeD} (h : x.tran = true) (hx : isNode N x) : x.n < N.trans.length := by unfold isNode at hx; rwa [if_pos h] at hx
theorem node_place {N : NetD} {x : NodeD} (h : x.tran = false) (hx : isNode N x) : x.n < N.places.toNat := by unfold isNode at hx; rwa [if_neg (by rw [h]; decide)] at hx
attribute [irreducible] isNode wtN degN dfsF walkN
end Go.Tok
