/- Of what grows of a block: it is sound as a whole; every node is led to and leads on. No program is in sight here. -/
import Derived.Test.YtajmccjnoejmfaaGrowLaw4
import Derived.Test.YtajmccjnoejmfaaPB
namespace Go.Tok
open Go.RowKit
set_option linter.unusedVariables false
theorem seq_sound {f : GF} {P : BlockD → Prop} (hf : SoundF f P) : ∀ {ks : List BlockD} {x y : Int} {s s' : GS}, (∀ k ∈ ks, P k) → x < s.places → y < s.places → x ≠ y → seqF f ks x y s = some s' → SoundG x y s s' := by
  intro ks
  induction ks with
  | nil => intro x y s s' _ _ _ _ e; cases e
  | cons k r ih =>
    intro x y s s' hP hx hy hne e
    cases r with
    | nil => exact hf k x y s s' (hP k (by simp)) hx hy hne e
    | cons k2 ks =>
      unfold seqF at e
      replace e := Option.bind_eq_some_iff.1 e
      obtain ⟨s1, e1, e⟩ := e
      replace e := Option.bind_eq_some_iff.1 e
      obtain ⟨s2, e2, e⟩ := e
      obtain ⟨rfl, _⟩ := place_some e1
      have h1 := hf k x s.places _ s2 (hP k (by simp)) (by simp only []; omega) (by simp only []; omega) (by omega) e2
      have hl := h1.1
      simp only [] at hl
      have h2 := ih (fun k hk => hP k (List.mem_cons_of_mem _ hk)) (show s.places < s2.places by omega) (show y < s2.places by omega) (by omega) e
      exact seq_comp hx hy hne h1 h2
theorem choice_sound {f : GF} {P : BlockD → Prop} (hf : SoundF f P) : ∀ {ks : List BlockD} {x y : Int} {s s' : GS}, ks ≠ [] → (∀ k ∈ ks, P k) → x < s.places → y < s.places → x ≠ y → choiceF f ks x y s = some s' → SoundG x y s s' := by
  intro ks
  induction ks with
  | nil => intro x y s s' h; exact absurd rfl h
  | cons k r ih =>
    intro x y s s' _ hP hx hy hne e
    unfold choiceF at e
    replace e := Option.bind_eq_some_iff.1 e
    obtain ⟨s1, e1, e⟩ := e
    have h1 := hf k x y s s1 (hP k (by simp)) hx hy hne e1
    by_cases hr : r = []
    · subst hr
      cases e
      exact h1
    · have hl := h1.1
      exact choice_comp hx hy hne h1 (ih hr (fun k hk => hP k (List.mem_cons_of_mem _ hk)) (by omega) (by omega) hne e)
theorem grow_sound : ∀ (n : Nat), SoundF (growF n) (OkB n) := by
  intro n
  induction n with
  | zero => intro b x y s s' h; exact h.elim
  | succ n ih =>
    intro b x y s s' hb hx hy hne e
    obtain ⟨k1, k2, k3, k4, k5, k6, k7⟩ := hb
    unfold growF at e
    split at e
    · exact sound_link hne e
    · split at e
      · exact sound_link hne e
      · split at e
        · exact seq_sound ih k7 hx hy hne e
        · split at e
          · exact choice_sound ih (k5 (by omega)) k7 hx hy hne e
          · split at e
            · replace e := Option.bind_eq_some_iff.1 e
              obtain ⟨s1, e1, e⟩ := e
              replace e := Option.bind_eq_some_iff.1 e
              obtain ⟨s2, e2, e⟩ := e
              replace e := Option.bind_eq_some_iff.1 e
              obtain ⟨s3, e3, e⟩ := e
              obtain ⟨rfl, _⟩ := places_some e1
              obtain ⟨rfl, _⟩ := link_some e2
              obtain ⟨l3, L, hL, A, hA⟩ := both_sound ih k7 (by simp only []; omega) e3
              obtain ⟨rfl, _⟩ := link_some e
              simp only [] at l3 hL hA
              have hne0 : b.kids ≠ [] := k5 (by omega)
              have hlen : 0 < b.kids.length := by cases h : b.kids with | nil => exact absurd h hne0 | cons => simp
              exact both_comp hx hy hne hlen (by omega) hL hA
            · replace e := Option.bind_eq_some_iff.1 e
              obtain ⟨s1, e1, e⟩ := e
              replace e := Option.bind_eq_some_iff.1 e
              obtain ⟨s2, e2, e⟩ := e
              replace e := Option.bind_eq_some_iff.1 e
              obtain ⟨s3, e3, e⟩ := e
              replace e := Option.bind_eq_some_iff.1 e
              obtain ⟨s4, e4, e⟩ := e
              replace e := Option.bind_eq_some_iff.1 e
              obtain ⟨s5, e5, e⟩ := e
              have hlen := k6 (by omega)
              obtain ⟨rfl, _⟩ := place_some e1
              obtain ⟨rfl, _⟩ := place_some e2
              obtain ⟨rfl, _⟩ := link_some e3
              have h1 := ih _ _ _ _ _ (k7 _ (ix_mem (by omega))) (by simp only []; omega) (by simp only []; omega) (by omega) e4
              have hl := h1.1
              simp only [] at hl
              have h2 := ih _ _ _ _ _ (k7 _ (ix_mem (by omega))) (by omega) (by omega) (by omega) e5
              obtain ⟨rfl, _⟩ := link_some e
              exact loop_comp hx hy hne h1 h2
theorem grown_sound {n : Nat} {b : BlockD} {s : GS} (hb : OkB n b) (h : growF n b 0 1 ⟨2, []⟩ = some s) : ∃ A, SoundA 0 1 2 s.places s.links A := by
  obtain ⟨_, L, hL, A, hA⟩ := grow_sound n b 0 1 ⟨2, []⟩ s hb (by simp) (by simp) (by simp) h
  simp only [] at hL hA
  rw [List.nil_append] at hL
  subst hL
  exact ⟨A, hA⟩

/-! ### the search finds all that is led to -/
theorem pre_sub {α : Type} {a b : List α} (h : a <+: b) {x : α} (hx : x ∈ a) : x ∈ b := h.subset hx
theorem dfs_closed {N : NetD} (h : netOkB N = true) : ∀ (m : Nat) (vis : List NodeD) (x : NodeD), isNode N x → (∀ y ∈ vis, isNode N y) → vis.Nodup → sizeN N ≤ vis.length + m →
    x ∈ dfsF N (m + 1) vis x ∧ ∀ y ∈ dfsF N (m + 1) vis x, y ∈ vis ∨ ∀ j, j < degN N y → 0 < wtN N y j → nextN y j ∈ dfsF N (m + 1) vis x := by
  intro m
  induction m with
  | zero =>
    intro vis x hx hv hn hs
    have hm := nodes_full hn hv (by omega) hx
    rw [dfs_in hm]
    exact ⟨hm, fun y hy => .inl hy⟩
  | succ m ih =>
    intro vis x hx hv hn hs
    by_cases hm : x ∈ vis
    · rw [dfs_in hm]
      exact ⟨hm, fun y hy => .inl hy⟩
    · rw [dfs_out hm]
      have hv1 : ∀ y ∈ vis ++ [x], isNode N y := fun y hy => by
        rcases List.mem_append.1 hy with h1 | h1
        · exact hv y h1
        · rw [List.mem_singleton.1 h1]; exact hx
      have hn1 : (vis ++ [x]).Nodup := List.nodup_append.2 ⟨hn, by simp, fun a ha c hc e => by
        rw [List.mem_singleton.1 hc] at e; subst e; exact hm ha⟩
      have key : ∀ k, k ≤ degN N x → (∀ y ∈ foldTo (dfsF N (m + 1)) (vis ++ [x]) N x k, y ∈ vis ++ [x] ∨ ∀ j, j < degN N y → 0 < wtN N y j → nextN y j ∈ foldTo (dfsF N (m + 1)) (vis ++ [x]) N x k) ∧ ∀ j, j < k → 0 < wtN N x j → nextN x j ∈ foldTo (dfsF N (m + 1)) (vis ++ [x]) N x k := by
        intro k
        induction k with
        | zero => intro _; rw [foldTo_zero]; exact ⟨fun y hy => .inl hy, fun j hj => by omega⟩
        | succ k ihk =>
          intro hk
          obtain ⟨a1, a2⟩ := ihk (by omega)
          by_cases hw : 0 < wtN N x k
          · rw [foldTo_yes hw]
            have g := fold_grown h (m := m + 1) (vis := vis ++ [x]) hx k (by omega)
            have hlen := g.pre.length_le
            rw [List.length_append, List.length_singleton] at hlen
            have hnode := next_node h hx (j := k) (by omega)
            obtain ⟨b1, b2⟩ := ih _ (nextN x k) hnode (g.nodes hv1) (g.nodup hn1) (by omega)
            have g2 := dfs_grown h (m + 1) (foldTo (dfsF N (m + 1)) (vis ++ [x]) N x k) (nextN x k) hnode
            refine ⟨fun y hy => ?_, fun j hj hwj => ?_⟩
            · rcases b2 y hy with h1 | h1
              · rcases a1 y h1 with h2 | h2
                · exact .inl h2
                · exact .inr fun j hj hwj => pre_sub g2.pre (h2 j hj hwj)
              · exact .inr h1
            · rcases Nat.lt_or_ge j k with h1 | h1
              · exact pre_sub g2.pre (a2 j h1 hwj)
              · obtain rfl : j = k := by omega
                exact b1
          · rw [foldTo_no (by omega)]
            refine ⟨a1, fun j hj hwj => ?_⟩
            rcases Nat.lt_or_ge j k with h1 | h1
            · exact a2 j h1 hwj
            · obtain rfl : j = k := by omega
              exact absurd hwj hw
      obtain ⟨a1, a2⟩ := key (degN N x) (Nat.le_refl _)
      have g := fold_grown h (m := m + 1) (vis := vis ++ [x]) hx (degN N x) (Nat.le_refl _)
      refine ⟨pre_sub g.pre (by simp), fun y hy => ?_⟩
      rcases a1 y hy with h1 | h1
      · rcases List.mem_append.1 h1 with h2 | h2
        · exact .inl h2
        · rw [List.mem_singleton.1 h2]; exact .inr a2
      · exact .inr h1
theorem walk_start {N : NetD} (h : netOkB N = true) {i : Nat} (hi : i < N.places.toNat) : (⟨false, i⟩ : NodeD) ∈ walkN N i := by
  rw [walkN_def]
  exact (dfs_closed h (sizeN N) [] ⟨false, i⟩ (by unfold isNode; simpa using hi) (by simp) List.nodup_nil (by simp)).1
theorem walk_on {N : NetD} (h : netOkB N = true) {i : Nat} (hi : i < N.places.toNat) {y : NodeD} (hy : y ∈ walkN N i) {j : Nat} (hj : j < degN N y) (hw : 0 < wtN N y j) : nextN y j ∈ walkN N i := by
  rw [walkN_def] at hy ⊢
  rcases (dfs_closed h (sizeN N) [] ⟨false, i⟩ (by unfold isNode; simpa using hi) (by simp) List.nodup_nil (by simp)).2 y hy with h1 | h1
  · cases h1
  · exact h1 j hj hw
theorem nat_cover : ∀ (T : Nat) (l : List Nat), (∀ k, k < T → k ∈ l) → T ≤ l.length := by
  intro T
  induction T with
  | zero => intro l _; omega
  | succ T ih =>
    intro l h
    have hT := h T (by omega)
    have := ih (l.erase T) fun k hk => (List.mem_erase_of_ne (by omega)).2 (h k (by omega))
    rw [List.length_erase_of_mem hT] at this
    have : 0 < l.length := List.length_pos_of_mem hT
    omega
theorem walk_full {N : NetD} {i : Nat} (h1 : ∀ p, p < N.places.toNat → (⟨false, p⟩ : NodeD) ∈ walkN N i) (h2 : ∀ k, k < N.trans.length → (⟨true, k⟩ : NodeD) ∈ walkN N i) : sizeN N ≤ (walkN N i).length := by
  have := nat_cover (sizeN N) ((walkN N i).map (codeN N)) fun k hk => by
    unfold sizeN at hk
    by_cases hp : k < N.places.toNat
    · exact List.mem_map.2 ⟨_, h1 k hp, by simp [codeN]⟩
    · exact List.mem_map.2 ⟨_, h2 (k - N.places.toNat) (by omega), by simp [codeN]; omega⟩
  rwa [List.length_map] at this

/-! ### markings as functions -/
def netM (x : List Int) : Mk := fun q => if 0 ≤ q then nth x q.toNat else 0
theorem netM_nat (x : List Int) (p : Nat) : netM x (p : Int) = nth x p := by unfold netM; rw [if_pos (by omega), Int.toNat_natCast]
theorem netM_neg {x : List Int} {q : Int} (h : q < 0) : netM x q = 0 := by unfold netM; rw [if_neg (by omega)]
theorem weights_use {n : Nat} {l : List Int} (h : PlIn n l) (p : Nat) : nth (weightsF n l) p = useM l (p : Int) := by
  by_cases hp : p < n
  · rw [weights_nth (fun q hq => (h q hq).1) hp]; rfl
  · rw [nth_ge (by rw [weights_len]; omega), useM_out fun hq => by have := (h _ hq).2; omega]
theorem use_neg {n : Int} {l : List Int} (h : PlIn n l) {q : Int} (hq : q < 0) : useM l q = 0 := useM_out fun hm => by have := (h q hm).1; omega
theorem mark_ext {x y : List Int} (hl : x.length = y.length) (h : netM x = netM y) : x = y := by
  apply List.ext_getElem hl
  intro i h1 h2
  have := congrFun h (i : Int)
  rw [netM_nat, netM_nat, nth_lt h1, nth_lt h2] at this
  exact this
section
variable {s : GS} {A : Mk → Prop}
theorem net_len (s : GS) : (netOf s).trans.length = s.links.length := by simp [netOf]
theorem pl_nat (ok : GOk s) : ((s.places.toNat : Nat) : Int) = s.places := Int.toNat_of_nonneg (by have := ok.lo; omega)
theorem link_pre (ok : GOk s) {k : Nat} (hk : k < s.links.length) (p : Nat) : nth ((netOf s).tr k).pre p = useM (ix s.links k).pre (p : Int) := by
  rw [net_tr hk]
  exact weights_use (by rw [pl_nat ok]; exact ok.pre _ (ix_mem hk)) p
theorem link_post (ok : GOk s) {k : Nat} (hk : k < s.links.length) (p : Nat) : nth ((netOf s).tr k).post p = useM (ix s.links k).post (p : Int) := by
  rw [net_tr hk]
  exact weights_use (by rw [pl_nat ok]; exact ok.post _ (ix_mem hk)) p
theorem fires_after (ok : GOk s) {x y : List Int} {k : Nat} (hF : Fires (netOf s) x k y) : CanM (ix s.links k) (netM x) ∧ netM y = afterM (ix s.links k) (netM x) := by
  have hk : k < s.links.length := by have := hF.lt; rwa [net_len] at this
  have hpre := ok.pre _ (ix_mem hk)
  have hpost := ok.post _ (ix_mem hk)
  refine ⟨fun p hp => ?_, ?_⟩
  · obtain ⟨q, rfl⟩ := Int.eq_ofNat_of_zero_le (hpre p hp).1
    rw [netM_nat]
    have := hF.pre q
    rw [link_pre ok hk, useM_in hp] at this
    exact this
  · funext q
    unfold afterM
    by_cases hq : 0 ≤ q
    · obtain ⟨p, rfl⟩ := Int.eq_ofNat_of_zero_le hq
      rw [netM_nat, netM_nat, hF.eq p, link_pre ok hk, link_post ok hk]
    · rw [netM_neg (by omega), netM_neg (by omega), use_neg hpre (by omega), use_neg hpost (by omega)]; rfl
theorem runs_in (ok : GOk s) (hA : SoundA 0 1 2 s.places s.links A) {x q y : List Int} (h : Runs (netOf s) x q y) : A (netM x) → A (netM y) := by
  induction h with
  | nil => exact id
  | @cons x1 y1 z1 s1 k1 hF _ ih =>
    intro ha
    have hk : k1 < s.links.length := by have := hF.lt; rwa [net_len] at this
    obtain ⟨h1, h2⟩ := fires_after ok hF
    refine ih ?_
    rw [h2]
    exact hA.step _ _ ha (ix_mem hk) h1
/-! ### every node is led to, and leads on -/
theorem wt_pl (N : NetD) (p j : Nat) : wtN N ⟨false, p⟩ j = nth (N.tr j).pre p := wt_place N rfl j
theorem wt_tr (N : NetD) (k j : Nat) : wtN N ⟨true, k⟩ j = nth (N.tr k).post j := wt_tran N rfl j
theorem deg_pl (N : NetD) (p : Nat) : degN N ⟨false, p⟩ = N.trans.length := deg_place N rfl
theorem deg_tr (N : NetD) (k : Nat) : degN N ⟨true, k⟩ = (N.tr k).post.length := deg_tran N rfl
theorem post_len (ok : GOk s) {k : Nat} (hk : k < s.links.length) : ((netOf s).tr k).post.length = s.places.toNat := by rw [net_tr hk]; exact weights_len _ _
theorem pre_len (ok : GOk s) {k : Nat} (hk : k < s.links.length) : ((netOf s).tr k).pre.length = s.places.toNat := by rw [net_tr hk]; exact weights_len _ _
theorem pre_ne (hA : SoundA 0 1 2 s.places s.links A) {l : TranD} (hl : l ∈ s.links) : ∃ p, p ∈ l.pre := by
  rcases hA.pre l hl with e | ⟨e, _⟩
  · exact ⟨0, by rw [e]; simp⟩
  · exact List.exists_mem_of_ne_nil _ e
theorem post_ne (hA : SoundA 0 1 2 s.places s.links A) {l : TranD} (hl : l ∈ s.links) : ∃ p, p ∈ l.post := by
  rcases hA.post l hl with e | ⟨e, _⟩
  · exact ⟨1, by rw [e]; simp⟩
  · exact List.exists_mem_of_ne_nil _ e
/-- from a place to a transition that takes from it, and on to where it puts -/
theorem fore_tran (ok : GOk s) (i : Nat) (hi : i < s.places.toNat) {k p : Nat} (hk : k < s.links.length) (hp : (p : Int) ∈ (ix s.links k).pre) (h : (⟨false, p⟩ : NodeD) ∈ walkN (netOf s) i) : (⟨true, k⟩ : NodeD) ∈ walkN (netOf s) i := by
  have := walk_on (grown_net ok) hi h (j := k) (by rw [deg_pl, net_len]; exact hk) (by rw [wt_pl, link_pre ok hk, useM_in hp]; omega)
  exact this
theorem fore_place (ok : GOk s) (i : Nat) (hi : i < s.places.toNat) {k p : Nat} (hk : k < s.links.length) (hp : (p : Int) ∈ (ix s.links k).post) (h : (⟨true, k⟩ : NodeD) ∈ walkN (netOf s) i) : (⟨false, p⟩ : NodeD) ∈ walkN (netOf s) i := by
  have hlt := (ok.post _ (ix_mem hk) _ hp).2
  have hpl := pl_nat ok
  have := walk_on (grown_net ok) hi h (j := p) (by rw [deg_tr, post_len ok hk]; omega) (by rw [wt_tr, link_post ok hk, useM_in hp]; omega)
  exact this
theorem ix_of_mem {l : TranD} (h : l ∈ s.links) : ∃ k, k < s.links.length ∧ ix s.links k = l := by
  obtain ⟨k, hk, rfl⟩ := List.getElem_of_mem h
  exact ⟨k, hk, ix_lt hk⟩
theorem fore_run (ok : GOk s) (hA : SoundA 0 1 2 s.places s.links A) {a c : Mk} (h : RunM s.links a c) : (∀ q : Nat, 1 ≤ a q → (⟨false, q⟩ : NodeD) ∈ walkN (netOf s) 0) → ∀ q : Nat, 1 ≤ c q → (⟨false, q⟩ : NodeD) ∈ walkN (netOf s) 0 := by
  have hlo := ok.lo
  induction h with
  | nil => exact id
  | @cons l M M' hl hc _ ih =>
    intro ha
    refine ih fun q hq => ?_
    obtain ⟨k, hk, rfl⟩ := ix_of_mem hl
    by_cases hp : (q : Int) ∈ (ix s.links k).post
    · obtain ⟨p, hpp⟩ := pre_ne hA hl
      obtain ⟨p, rfl⟩ := Int.eq_ofNat_of_zero_le (ok.pre _ hl p hpp).1
      exact fore_place ok 0 (by omega) hk hp (fore_tran ok 0 (by omega) hk hpp (ha p (hc _ hpp)))
    · refine ha q ?_
      unfold afterM at hq
      rw [useM_out hp] at hq
      have := useM_nn (ix s.links k).pre (q : Int)
      omega
theorem fore_full (ok : GOk s) (hA : SoundA 0 1 2 s.places s.links A) : sizeN (netOf s) ≤ (walkN (netOf s) 0).length := by
  have hlo := ok.lo
  have hpl := pl_nat ok
  have h0 : (⟨false, 0⟩ : NodeD) ∈ walkN (netOf s) 0 := walk_start (grown_net ok) (by show 0 < s.places.toNat; omega)
  have ht : ∀ k, k < s.links.length → (⟨true, k⟩ : NodeD) ∈ walkN (netOf s) 0 := fun k hk => by
    obtain ⟨M, h1, h2, h3⟩ := hA.live _ (ix_mem hk)
    obtain ⟨p, hp⟩ := pre_ne hA (ix_mem hk)
    obtain ⟨p, rfl⟩ := Int.eq_ofNat_of_zero_le (ok.pre _ (ix_mem hk) p hp).1
    refine fore_tran ok 0 (by omega) hk hp (fore_run ok hA h1 (fun q hq => ?_) p (h3 _ hp))
    have := oneM_ge hq
    obtain rfl : q = 0 := by omega
    exact h0
  refine walk_full (fun p hp => ?_) (fun k hk => ht k (by rwa [net_len] at hk))
  have hp' : p < s.places.toNat := hp
  by_cases hz : p = 0
  · subst hz; exact h0
  · obtain ⟨l, hl, hm⟩ := hA.inPost p (by omega)
    obtain ⟨k, hk, rfl⟩ := ix_of_mem hl
    exact fore_place ok 0 (by omega) hk hm (ht k hk)
theorem turned_ok (ok : GOk s) : netOkB (turnN (netOf s)) = true := netOk_turn (grown_net ok)
theorem turn_len (s : GS) : (turnN (netOf s)).trans.length = s.links.length := by rw [turnN_len, net_len]
theorem turn_places (s : GS) : (turnN (netOf s)).places = s.places := by rw [turnN_places]; rfl
theorem turn_tr {k : Nat} (hk : k < s.links.length) : (turnN (netOf s)).tr k = turnT ((netOf s).tr k) := turnN_tr _ (by rw [net_len]; exact hk)
theorem back_tran (ok : GOk s) (i : Nat) (hi : i < s.places.toNat) {k p : Nat} (hk : k < s.links.length) (hp : (p : Int) ∈ (ix s.links k).post) (h : (⟨false, p⟩ : NodeD) ∈ walkN (turnN (netOf s)) i) : (⟨true, k⟩ : NodeD) ∈ walkN (turnN (netOf s)) i := by
  have := walk_on (turned_ok ok) (by rw [turn_places]; exact hi) h (j := k) (by rw [deg_pl, turn_len]; exact hk) (by rw [wt_pl, turn_tr hk, turnT_pre, link_post ok hk, useM_in hp]; omega)
  exact this
theorem back_place (ok : GOk s) (i : Nat) (hi : i < s.places.toNat) {k p : Nat} (hk : k < s.links.length) (hp : (p : Int) ∈ (ix s.links k).pre) (h : (⟨true, k⟩ : NodeD) ∈ walkN (turnN (netOf s)) i) : (⟨false, p⟩ : NodeD) ∈ walkN (turnN (netOf s)) i := by
  have hlt := (ok.pre _ (ix_mem hk) _ hp).2
  have hpl := pl_nat ok
  have := walk_on (turned_ok ok) (by rw [turn_places]; exact hi) h (j := p) (by rw [deg_tr, turn_tr hk, turnT_post, pre_len ok hk]; omega) (by rw [wt_tr, turn_tr hk, turnT_post, link_pre ok hk, useM_in hp]; omega)
  exact this
theorem back_run (ok : GOk s) (hA : SoundA 0 1 2 s.places s.links A) {a c : Mk} (h : RunM s.links a c) : (∀ q, 0 ≤ a q) → (∀ q : Nat, 1 ≤ c q → (⟨false, q⟩ : NodeD) ∈ walkN (turnN (netOf s)) 1) → ∀ q : Nat, 1 ≤ a q → (⟨false, q⟩ : NodeD) ∈ walkN (turnN (netOf s)) 1 := by
  have hlo := ok.lo
  induction h with
  | nil => exact fun _ h => h
  | @cons l M M' hl hc _ ih =>
    intro hn hcc q hq
    have hx := ih (after_nn hn hc) hcc
    obtain ⟨k, hk, rfl⟩ := ix_of_mem hl
    by_cases hp : (q : Int) ∈ (ix s.links k).pre
    · obtain ⟨p, hpp⟩ := post_ne hA hl
      have h1 := after_post hn hc hpp
      obtain ⟨p, rfl⟩ := Int.eq_ofNat_of_zero_le (ok.post _ hl p hpp).1
      exact back_place ok 1 (by omega) hk hp (back_tran ok 1 (by omega) hk hpp (hx p h1))
    · refine hx q ?_
      unfold afterM
      rw [useM_out hp]
      have := useM_nn (ix s.links k).post (q : Int)
      omega
theorem back_full (ok : GOk s) (hA : SoundA 0 1 2 s.places s.links A) : sizeN (netOf s) ≤ (walkN (turnN (netOf s)) 1).length := by
  have hlo := ok.lo
  have hpl := pl_nat ok
  have h1 : (⟨false, 1⟩ : NodeD) ∈ walkN (turnN (netOf s)) 1 := walk_start (turned_ok ok) (by rw [turn_places]; omega)
  have hend : ∀ q : Nat, 1 ≤ oneM 1 (q : Int) → (⟨false, q⟩ : NodeD) ∈ walkN (turnN (netOf s)) 1 := fun q hq => by
    have := oneM_ge hq
    obtain rfl : q = 1 := by omega
    exact h1
  have ht : ∀ k, k < s.links.length → (⟨true, k⟩ : NodeD) ∈ walkN (turnN (netOf s)) 1 := fun k hk => by
    obtain ⟨M, _, h2, h3⟩ := hA.live _ (ix_mem hk)
    have h4 := hA.step _ _ h2 (ix_mem hk) h3
    obtain ⟨p, hp⟩ := post_ne hA (ix_mem hk)
    have h5 := after_post (hA.nn _ h2) h3 hp
    obtain ⟨p, rfl⟩ := Int.eq_ofNat_of_zero_le (ok.post _ (ix_mem hk) p hp).1
    exact back_tran ok 1 (by omega) hk hp (back_run ok hA (hA.ends _ h4) (hA.nn _ h4) hend p h5)
  have hw := walk_full (N := turnN (netOf s)) (i := 1) (fun p hp => ?_) (fun k hk => ht k (by rwa [turn_len] at hk))
  · have e : sizeN (turnN (netOf s)) = sizeN (netOf s) := by unfold sizeN; rw [turnN_len, turnN_places]
    rwa [e] at hw
  · have hp' : p < s.places.toNat := by rwa [turn_places] at hp
    by_cases hz : p = 1
    · subst hz; exact h1
    · obtain ⟨l, hl, hm⟩ := hA.inPre p (by omega)
      obtain ⟨k, hk, rfl⟩ := ix_of_mem hl
      exact back_place ok 1 (by omega) hk hm (ht k hk)
end
end Go.Tok
