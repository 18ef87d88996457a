/- Reduction keeps the kind of verdict. No program is in sight here. -/
import Derived.Test.YtjpapgbdhflgnaaRedLaw3
import Derived.Test.YtjpapgbdhflgnaaGU
namespace Go.Tok
open Go.RowKit Go.Proofs.Ytjpapgbdhflgnaa
set_option linter.unusedVariables false
/-- the transition k takes no more than is there -/
def EnT (N : NetD) (m : List Int) (k : Nat) : Prop := ∀ p, nth (ix N.trans k).pre p ≤ nth m p
/-- two nets that go alongside each other: m is followed by f m; in the first net m comes to h m, that is as f m -/
structure Sim (N N' : NetD) (e e' : List Int) (C : List (List Int)) (f h : List Int → List Int) : Prop where
  gf : ∀ m ∈ C, ∃ q, Runs N m q (h m)
  fit : ∀ m ∈ C, fitsB N' (f m) = true
  up : ∀ m ∈ C, ∀ k y, y ∈ C → Fires N m k y → ∃ q, Runs N' (f m) q (f y)
  down : ∀ m ∈ C, ∀ k, k < N'.trans.length → EnT N' (f m) k → ∃ q z, Runs N (h m) q z ∧ Fires N' (f m) k (f z)
  fe : f e = e'
  ge : ∀ m ∈ C, f m = e' → h m = e
  ex : ∀ m ∈ C, extraB e m = true → extraB e' (f m) = true
  ex' : ∀ m ∈ C, extraB e' (f m) = true → extraB e (h m) = true
  dead : (∃ k, k < N.trans.length ∧ ∀ m ∈ C, ¬ EnT N m k) ↔ ∃ k, k < N'.trans.length ∧ ∀ m ∈ C, ¬ EnT N' (f m) k
section
variable {N N' : NetD} {e e' m0 : List Int} {most : Int} {s : FinD} {f h : List Int → List Int}
theorem Runs.app {N : NetD} {x y z q r : List Int} (h1 : Runs N x q y) (h2 : Runs N y r z) : Runs N x (q ++ r) z := by
  induction h1 with
  | nil => exact h2
  | cons hf _ ih => exact .cons hf (ih h2)
theorem Sim.closed (S : Sim N N' e e' s.marks f h) (W : Whole N m0 most.toNat s) : ClosedC N' (s.marks.map f) := by
  refine ⟨fun x hx => ?_, fun x hx k hk hp => ?_⟩
  · obtain ⟨m, hm, rfl⟩ := List.mem_map.1 hx
    exact S.fit m hm
  · obtain ⟨m, hm, rfl⟩ := List.mem_map.1 hx
    obtain ⟨q, z, h1, h2⟩ := S.down m hm k hk fun p => by have := hp p; rw [tr_ix] at this; exact this
    obtain ⟨q0, h0⟩ := S.gf m hm
    exact ⟨f z, List.mem_map.2 ⟨z, W.runs h1 (W.runs h0 hm), rfl⟩, h2⟩
theorem Sim.ups (S : Sim N N' e e' s.marks f h) (W : Whole N m0 most.toNat s) {x q y : List Int} (hr : Runs N x q y) : x ∈ s.marks → ∃ q', Runs N' (f x) q' (f y) := by
  induction hr with
  | nil x => exact fun _ => ⟨[], .nil _⟩
  | @cons x y z r k hf _ ih =>
    intro hx
    have hy := W.next hx hf
    obtain ⟨q1, h1⟩ := S.up x hx k y hy hf
    obtain ⟨q2, h2⟩ := ih hy
    exact ⟨q1 ++ q2, h1.app h2⟩
theorem Sim.downs (S : Sim N N' e e' s.marks f h) (W : Whole N m0 most.toNat s) {a q b : List Int} (hr : Runs N' a q b) : ∀ {m}, m ∈ s.marks → f m = a → ∃ q' z, Runs N m q' z ∧ f z = b := by
  induction hr with
  | nil a => intro m hm e; exact ⟨[], m, .nil _, e⟩
  | @cons a c d r k hf _ ih =>
    intro m hm e
    subst e
    obtain ⟨q0, h0⟩ := S.gf m hm
    obtain ⟨q1, z, h1, h2⟩ := S.down m hm k hf.lt fun p => by have := hf.pre p; rw [tr_ix] at this; exact this
    have hz := W.runs h1 (W.runs h0 hm)
    obtain ⟨q2, y, h3, h4⟩ := ih hz (h2.unique hf)
    exact ⟨q0 ++ (q1 ++ q2), y, h0.app (h1.app h3), h4⟩
theorem Sim.ends (S : Sim N N' e e' s.marks f h) (W : Whole N m0 most.toNat s) {m : List Int} (hm : m ∈ s.marks) : (∃ q, Runs N m q e) ↔ ∃ q, Runs N' (f m) q e' := by
  constructor
  · rintro ⟨q, hq⟩
    rw [← S.fe]
    exact S.ups W hq hm
  · rintro ⟨q, hq⟩
    obtain ⟨q1, z, h1, h2⟩ := S.downs W hq hm rfl
    have hz := W.runs h1 hm
    obtain ⟨q2, h3⟩ := S.gf z hz
    rw [S.ge z hz h2] at h3
    exact ⟨q1 ++ q2, h1.app h3⟩
/-- the second net's search ends well too, and tells as much -/
theorem Sim.kind (S : Sim N N' e e' s.marks f h) (W : Whole N m0 most.toNat s) (h1 : 1 ≤ most) (h2 : most ≤ 300) :
    ∃ s', searchF N' (f m0) most = (s', 0) ∧ (verdF ⟨s'.marks, s'.arcs⟩ N'.trans.length e').kind = (verdF ⟨s.marks, s.arcs⟩ N.trans.length e).kind := by
  have hC := S.closed W
  have hle := W.le
  obtain ⟨s', hs', W'⟩ := search_sub hC (List.mem_map.2 ⟨m0, W.start, rfl⟩) h1 h2 (by rw [List.length_map]; omega)
  refine ⟨s', hs', ?_⟩
  have in1 : ∀ m ∈ s.marks, f m ∈ s'.marks := fun m hm => by
    obtain ⟨q, hq⟩ := W.reach hm
    obtain ⟨q', hq'⟩ := S.ups W hq W.start
    exact W'.runs hq' W'.start
  have in2 : ∀ x ∈ s'.marks, ∃ m ∈ s.marks, f m = x := fun x hx => by
    obtain ⟨q, hq⟩ := W'.reach hx
    have := hC.runs hq (List.mem_map.2 ⟨m0, W.start, rfl⟩)
    obtain ⟨m, hm, e⟩ := List.mem_map.1 this
    exact ⟨m, hm, e⟩
  have dd : (∃ t, t ∈ deadF ⟨s.marks, s.arcs⟩ (N.trans.length : Int)) ↔ ∃ t, t ∈ deadF ⟨s'.marks, s'.arcs⟩ (N'.trans.length : Int) := by
    have a1 : (∃ t, t ∈ deadF ⟨s.marks, s.arcs⟩ (N.trans.length : Int)) ↔ ∃ k, k < N.trans.length ∧ ∀ m ∈ s.marks, ¬ EnT N m k := by
      constructor
      · rintro ⟨t, ht⟩
        obtain ⟨k, _, hk, hd⟩ := W.dead.1 ht
        refine ⟨k, hk, fun m hm he => ?_⟩
        obtain ⟨y, hy, _⟩ := W.fires hm hk (fun p => by rw [tr_ix]; exact he p)
        exact hd m hm y hy
      · rintro ⟨k, hk, hd⟩
        exact ⟨(k : Int), W.dead.2 ⟨k, rfl, hk, fun m hm z hz => hd m hm fun p => by have := hz.pre p; rw [tr_ix] at this; exact this⟩⟩
    have a2 : (∃ t, t ∈ deadF ⟨s'.marks, s'.arcs⟩ (N'.trans.length : Int)) ↔ ∃ k, k < N'.trans.length ∧ ∀ m ∈ s.marks, ¬ EnT N' (f m) k := by
      constructor
      · rintro ⟨t, ht⟩
        obtain ⟨k, _, hk, hd⟩ := W'.dead.1 ht
        refine ⟨k, hk, fun m hm he => ?_⟩
        obtain ⟨y, hy, _⟩ := W'.fires (in1 m hm) hk (fun p => by rw [tr_ix]; exact he p)
        exact hd _ (in1 m hm) y hy
      · rintro ⟨k, hk, hd⟩
        refine ⟨(k : Int), W'.dead.2 ⟨k, rfl, hk, fun x hx z hz => ?_⟩⟩
        obtain ⟨m, hm, rfl⟩ := in2 x hx
        exact hd m hm fun p => by have := hz.pre p; rw [tr_ix] at this; exact this
    rw [a1, a2]; exact S.dead
  rcases verd_cases W e N.trans.length with ⟨k, k1, k2, k3⟩ | ⟨k1, ⟨k, k2, k3, k4⟩ | ⟨k2, k3⟩⟩
  · rw [k3]
    have hx := S.ex _ (ix_mem k1) k2
    rcases verd_cases W' e' N'.trans.length with ⟨j, j1, j2, j3⟩ | ⟨j1, _⟩
    · rw [j3]
    · rw [j1 _ (in1 _ (ix_mem k1))] at hx; cases hx
  · rw [k4]
    rcases verd_cases W' e' N'.trans.length with ⟨j, j1, j2, j3⟩ | ⟨j1, ⟨j, j2, j3, j4⟩ | ⟨j2, _⟩⟩
    · obtain ⟨m, hm, he⟩ := in2 _ (ix_mem j1)
      rw [← he] at j2
      have := S.ex' m hm j2
      obtain ⟨q, hq⟩ := S.gf m hm
      rw [k1 _ (W.runs hq hm)] at this; cases this
    · rw [j4]
    · obtain ⟨q, hq⟩ := (S.ends W (ix_mem k2)).2 (j2 _ (in1 _ (ix_mem k2)))
      exact absurd hq (k3 q)
  · rcases verd_cases W' e' N'.trans.length with ⟨j, j1, j2, j3⟩ | ⟨j1, ⟨j, j2, j3, j4⟩ | ⟨j2, j3⟩⟩
    · obtain ⟨m, hm, he⟩ := in2 _ (ix_mem j1)
      rw [← he] at j2
      have := S.ex' m hm j2
      obtain ⟨q, hq⟩ := S.gf m hm
      rw [k1 _ (W.runs hq hm)] at this; cases this
    · obtain ⟨m, hm, he⟩ := in2 _ (ix_mem j2)
      obtain ⟨q, hq⟩ := (S.ends W hm).1 (k2 m hm)
      rw [he] at hq
      exact absurd hq (j3 q)
    · rcases k3 with ⟨t, t1, t2⟩ | ⟨t1, t2⟩
      · rw [t2]
        rcases j3 with ⟨u, u1, u2⟩ | ⟨u1, u2⟩
        · rw [u2]
        · obtain ⟨u, hu⟩ := dd.1 ⟨t, t1⟩
          rw [u1] at hu; cases hu
      · rw [t2]
        rcases j3 with ⟨u, u1, u2⟩ | ⟨u1, u2⟩
        · obtain ⟨t, ht⟩ := dd.2 ⟨u, u1⟩
          rw [t1] at ht; cases ht
        · rw [u2]
end
/-! ### the three steps -/
def KindS (most : Int) (c : Int) (s : SmD) : Prop := ∃ v, judgeF s.net s.i s.o most = (v, 0) ∧ v.kind = c
theorem judge_mk {N : NetD} {i o most : Int} {s : FinD} (h : shapeC N i o = 0) (hs : searchF N (oneN (startLen N) i) most = (s, 0)) : judgeF N i o most = (verdF ⟨s.marks, s.arcs⟩ N.trans.length (oneN (startLen N) o), 0) := by
  have := graph_of hs
  unfold judgeF
  rw [if_neg (by rw [h]; simp), this]
  simp
theorem sim_kind {s s' : SmD} {i o i' o' : Nat} {most : Int} {F : FinD} {f h : List Int → List Int} (hs : ShapeP s.net i o) (hs' : ShapeP s'.net i' o') (ei : s.i = i) (eo : s.o = o) (ei' : s'.i = i') (eo' : s'.o = o')
    (W : Whole s.net (oneN s.net.places.toNat (i : Int)) most.toNat F) (h1 : 1 ≤ most) (h2 : most ≤ 300) (f0 : f (oneN s.net.places.toNat (i : Int)) = oneN s'.net.places.toNat (i' : Int))
    (S : Sim s.net s'.net (oneN s.net.places.toNat (o : Int)) (oneN s'.net.places.toNat (o' : Int)) F.marks f h) :
    KindS most (verdF ⟨F.marks, F.arcs⟩ s.net.trans.length (oneN s.net.places.toNat (o : Int))).kind s' := by
  obtain ⟨F', k1, k2⟩ := S.kind W h1 h2
  rw [f0, ← startLen_ok hs'.ok, ← ei'] at k1
  have hc : shapeC s'.net s'.i s'.o = 0 := by rw [ei', eo']; exact hs'.code
  refine ⟨_, judge_mk hc k1, ?_⟩
  rw [eo', startLen_ok hs'.ok]
  exact k2
/-- one transition goes that another one is like -/
theorem sim_dropT {s : SmD} {i o k : Nat} {e : List Int} {C : List (List Int)} (h : ShapeP s.net i o) (hk : k < s.net.trans.length) (hd : dupB s.net.trans k = true) (hfit : ∀ m ∈ C, fitsB s.net m = true)
    (hnext : ∀ m ∈ C, ∀ t, t < s.net.trans.length → EnT s.net m t → ∃ y, Fires s.net m t y) : Sim s.net (dropT s k).net e e C id id := by
  obtain ⟨j, hj, e1, e2⟩ := dup_at hd
  have hlen : (dropT s k).net.trans.length = s.net.trans.length - 1 := by unfold dropT; exact List.length_eraseIdx_of_lt hk
  have htr : ∀ t, ix (dropT s k).net.trans t = ix s.net.trans (un k t) := fun t => by
    show ix (s.net.trans.eraseIdx k) t = _
    rw [ix_erase]; unfold un; split <;> rfl
  have hto : ∀ t, t < s.net.trans.length → ∃ u, u < (dropT s k).net.trans.length ∧ (ix (dropT s k).net.trans u).pre = (ix s.net.trans t).pre ∧ (ix (dropT s k).net.trans u).post = (ix s.net.trans t).post := fun t ht => by
    by_cases e : t = k
    · refine ⟨j, by rw [hlen]; omega, ?_⟩
      rw [htr, show un k j = j from by unfold un; rw [if_pos hj], e]
      exact ⟨e1.symm, e2.symm⟩
    · refine ⟨sh k t, by rw [hlen]; exact sh_lt hk ht e, ?_⟩
      rw [htr, un_sh e]; exact ⟨rfl, rfl⟩
  refine ⟨fun m _ => ⟨[], .nil _⟩, fun m hm => ?_, fun m hm t y _ hf => ?_, fun m hm t ht he => ?_, rfl, fun m _ e => e, fun m _ e => e, fun m _ e => e, ?_⟩
  · have := hfit m hm
    exact fits_mk (x := m) (ok_dropT h.ok k) (show (m.length : Int) = s.net.places from fits_len this) (fits_sizes this).2.2.2.2.2.1
  · obtain ⟨u, hu, p1, p2⟩ := hto t hf.lt
    refine ⟨_, .cons ⟨hu, hf.len, fun p => ?_, fun p => ?_, hf.le⟩ (.nil _)⟩
    · have := hf.pre p
      rw [tr_ix] at this ⊢
      rw [p1]; exact this
    · have := hf.eq p
      rw [tr_ix] at this ⊢
      rw [p1, p2]; exact this
  · rw [hlen] at ht
    have hut := un_lt hk ht
    obtain ⟨y, hy⟩ := hnext m hm (un k t) hut (fun p => by have := he p; rw [htr] at this; exact this)
    refine ⟨[((un k t : Nat) : Int)], y, .cons hy (.nil _), ⟨by rw [hlen]; exact ht, hy.len, fun p => ?_, fun p => ?_, hy.le⟩⟩
    · have := hy.pre p
      rw [tr_ix] at this ⊢
      rw [htr]; exact this
    · have := hy.eq p
      rw [tr_ix] at this ⊢
      rw [htr]; exact this
  · constructor
    · rintro ⟨t, ht, hn⟩
      obtain ⟨u, hu, p1, p2⟩ := hto t ht
      exact ⟨u, hu, fun m hm he => hn m hm fun p => by have := he p; rw [p1] at this; exact this⟩
    · rintro ⟨t, ht, hn⟩
      rw [hlen] at ht
      exact ⟨un k t, un_lt hk ht, fun m hm he => hn m hm fun p => by rw [htr]; exact he p⟩
theorem fits_erase {s : SmD} {m : List Int} {q : Nat} (h : fitsB s.net m = true) (hq : q < s.net.places.toNat) {N' : NetD} (hok : netOkB N' = true) (e : N'.places = s.net.places - 1) : fitsB N' (m.eraseIdx q) = true := by
  have hl := fits_len h
  refine fits_mk hok ?_ (right_of_nth fun p _ => ?_)
  · rw [List.length_eraseIdx_of_lt (by omega), e]; omega
  · rw [nth_erase]; split <;> exact fits_nth h _
/-- what is as another one is after a row has lost a place -/
theorem erase_inj {x y : List Int} {q : Nat} (hl : x.length = y.length) (hq : q < x.length) (h : x.eraseIdx q = y.eraseIdx q) (h' : nth x q = nth y q) : x = y := by
  refine nth_ext hl fun p => ?_
  by_cases e : p = q
  · rw [e]; exact h'
  · rw [← nth_sh x e, ← nth_sh y e, h]
theorem covers_erase {e m : List Int} {q : Nat} (h : ∀ p, nth (e.eraseIdx q) p ≤ nth (m.eraseIdx q) p) {p : Nat} (hp : p ≠ q) : nth e p ≤ nth m p := by
  have := h (sh q p)
  rw [nth_sh _ hp, nth_sh _ hp] at this
  exact this
theorem erase_covers {e m : List Int} {q : Nat} (h : ∀ p, p ≠ q → nth e p ≤ nth m p) (p : Nat) : nth (e.eraseIdx q) p ≤ nth (m.eraseIdx q) p := by
  rw [← sh_un q p, nth_sh _ (un_ne q p), nth_sh _ (un_ne q p)]
  exact h _ (un_ne q p)
/-- one place goes that another one is like -/
theorem sim_dropP {s : SmD} {i o q p : Nat} {C : List (List Int)} (h : ShapeP s.net i o) (ei : s.i = i) (eo : s.o = o) (hq : q < s.net.places.toNat) (hpq : p < q) (hp : pairB s q p = true) (hfit : ∀ m ∈ C, fitsB s.net m = true)
    (heq : ∀ m ∈ C, nth m p = nth m q) (hnext : ∀ m ∈ C, ∀ t, t < s.net.trans.length → EnT s.net m t → ∃ y, Fires s.net m t y) :
    Sim s.net (dropP s q).net (oneN s.net.places.toNat (o : Int)) (oneN (dropP s q).net.places.toNat ((sh q o : Nat) : Int)) C (fun m => m.eraseIdx q) id := by
  obtain ⟨⟨_, n4⟩, ⟨n1, n2⟩, hcol⟩ := pair_at hp
  have n1 : i ≠ q := fun e => n1 (by rw [ei, e])
  have n2 : o ≠ q := fun e => n2 (by rw [eo, e])
  have n4 : o ≠ p := fun e => n4 (by rw [eo, e])
  have hpl : (dropP s q).net.places.toNat = s.net.places.toNat - 1 := by show (s.net.places - 1).toNat = _; omega
  have hlen : (dropP s q).net.trans.length = s.net.trans.length := by show (s.net.trans.map (lessP q)).length = _; rw [List.length_map]
  have htr : ∀ t, ix (dropP s q).net.trans t = lessP q (ix s.net.trans t) := fun t => ix_less _ _ _
  have hml : ∀ m ∈ C, m.length = s.net.places.toNat := fun m hm => by have := fits_len (hfit m hm); omega
  have hfires : ∀ m ∈ C, ∀ t y, Fires s.net m t y → Fires (dropP s q).net (m.eraseIdx q) t (y.eraseIdx q) := fun m hm t y hf => by
    have hl := hml m hm
    refine ⟨by rw [hlen]; exact hf.lt, ?_, fun x => ?_, fun x => ?_, fun x => ?_⟩
    · rw [List.length_eraseIdx_of_lt (by rw [hf.len]; omega), List.length_eraseIdx_of_lt (by omega), hf.len]
    · rw [tr_ix, htr, ← sh_un q x, nth_sh _ (un_ne q x)]
      show nth (List.eraseIdx _ q) _ ≤ _
      rw [nth_sh _ (un_ne q x)]
      have := hf.pre (un q x)
      rw [tr_ix] at this; exact this
    · rw [tr_ix, htr, ← sh_un q x, nth_sh _ (un_ne q x), nth_sh _ (un_ne q x)]
      show _ = _ - nth (List.eraseIdx _ q) _ + nth (List.eraseIdx _ q) _
      rw [nth_sh _ (un_ne q x), nth_sh _ (un_ne q x)]
      have := hf.eq (un q x)
      rw [tr_ix] at this; exact this
    · rw [← sh_un q x, nth_sh _ (un_ne q x)]; exact hf.le _
  have hen : ∀ m ∈ C, ∀ t, t < s.net.trans.length → EnT (dropP s q).net (m.eraseIdx q) t → EnT s.net m t := fun m hm t ht he x => by
    have hmt : ix s.net.trans t ∈ s.net.trans := by rw [ix_lt ht]; exact List.getElem_mem ht
    have hx : ∀ y, y ≠ q → nth (ix s.net.trans t).pre y ≤ nth m y := fun y hy => by
      have := he (sh q y)
      rw [htr, nth_sh _ hy] at this
      rw [← nth_sh (ix s.net.trans t).pre hy]; exact this
    by_cases e : x = q
    · rw [e, ← (hcol _ hmt).1, ← heq m hm]; exact hx p (by omega)
    · exact hx x e
  have eo1 : nth (oneN s.net.places.toNat (o : Int)) p = 0 := by rw [nth_oneN _ _ _ h.ho, if_neg (fun e => n4 e.symm)]
  have eo2 : nth (oneN s.net.places.toNat (o : Int)) q = 0 := by rw [nth_oneN _ _ _ h.ho, if_neg (fun e => n2 e.symm)]
  have hinj : ∀ m ∈ C, m.eraseIdx q = (oneN s.net.places.toNat (o : Int)).eraseIdx q → m = oneN s.net.places.toNat (o : Int) := fun m hm e => by
    refine erase_inj (by rw [hml m hm, oneN_len]) (by rw [hml m hm]; exact hq) e ?_
    have h1 : nth (m.eraseIdx q) p = nth ((oneN s.net.places.toNat (o : Int)).eraseIdx q) p := by rw [e]
    rw [nth_erase, nth_erase, if_pos hpq, if_pos hpq, eo1, heq m hm] at h1
    rw [h1, eo2]
  rw [hpl, ← erase_one h.ho hq n2]
  refine ⟨fun m _ => ⟨[], .nil _⟩, fun m hm => fits_erase (hfit m hm) hq (ok_dropP h.ok hq) rfl, fun m hm t y _ hf => ⟨_, .cons (hfires m hm t y hf) (.nil _)⟩, fun m hm t ht he => ?_, rfl, hinj, fun m hm e => ?_, fun m hm e => ?_, ?_⟩
  · rw [hlen] at ht
    obtain ⟨y, hy⟩ := hnext m hm t ht (hen m hm t ht he)
    exact ⟨_, y, .cons hy (.nil _), hfires m hm t y hy⟩
  · obtain ⟨h1, h2⟩ := extra_iff.1 e
    exact extra_iff.2 ⟨erase_covers fun x _ => h1 x, fun e => h2 (hinj m hm e)⟩
  · obtain ⟨h1, h2⟩ := extra_iff.1 e
    refine extra_iff.2 ⟨fun x => ?_, fun e => h2 (by rw [show m = oneN s.net.places.toNat (o : Int) from e])⟩
    show _ ≤ nth m x
    by_cases ex : x = q
    · rw [ex, eo2]; exact (fits_nth (hfit m hm) q).1
    · exact covers_erase h1 ex
  · constructor
    · rintro ⟨t, ht, hn⟩
      exact ⟨t, by rw [hlen]; exact ht, fun m hm he => hn m hm (hen m hm t ht he)⟩
    · rintro ⟨t, ht, hn⟩
      rw [hlen] at ht
      refine ⟨t, ht, fun m hm he => hn m hm fun x => ?_⟩
      rw [htr]
      exact erase_covers (fun y _ => he y) x
/-! ### the series -/
def normF (p : Nat) (u m : List Int) : List Int := (List.range m.length).map fun q => if q = p then 0 else nth m q + nth m p * nth u q
theorem norm_len (p : Nat) (u m : List Int) : (normF p u m).length = m.length := by unfold normF; simp
theorem norm_nth {p : Nat} {u m : List Int} (hl : u.length = m.length) (q : Nat) : nth (normF p u m) q = if q = p then 0 else nth m q + nth m p * nth u q := by
  by_cases hq : q < m.length
  · rw [nth_lt (by rw [norm_len]; exact hq)]
    unfold normF
    simp
  · rw [nth_ge (by rw [norm_len]; omega), nth_ge (by omega : m.length ≤ q), nth_ge (by omega : u.length ≤ q)]
    split <;> simp
section
variable {s s' : SmD} {i o p k l : Nat} {m0 : List Int} {n : Nat} {F : FinD}
/-- what a series does to the marks that are found -/
structure SerC (s : SmD) (p k l : Nat) (C : List (List Int)) : Prop where
  w : SerW s p k l
  ok : netOkB s.net = true
  fit : ∀ m ∈ C, fitsB s.net m = true
  next : ∀ m ∈ C, ∀ t, t < s.net.trans.length → EnT s.net m t → ∃ y ∈ C, Fires s.net m t y
def SmD.nm (s : SmD) (p l : Nat) (m : List Int) : List Int := normF p (ix s.net.trans l).post m
theorem SerC.len {C : List (List Int)} (c : SerC s p k l C) {m : List Int} (hm : m ∈ C) : m.length = s.net.places.toNat := by have := fits_len (c.fit m hm); omega
theorem SerC.facts {C : List (List Int)} (c : SerC s p k l C) {t : Nat} (ht : t < s.net.trans.length) : TranFacts s.net (ix s.net.trans t) := by
  have := netOk_tr c.ok ht
  rw [tr_ix] at this; exact this
theorem SerC.nth_ {C : List (List Int)} (c : SerC s p k l C) {m : List Int} (hm : m ∈ C) (q : Nat) : nth (s.nm p l m) q = if q = p then 0 else nth m q + nth m p * nth (ix s.net.trans l).post q :=
  norm_nth (by have := (c.facts c.w.hl).post; have := c.len hm; have := (netOk_iff.1 c.ok).1; omega) q
theorem SerC.len_ {C : List (List Int)} (c : SerC s p k l C) {m : List Int} (hm : m ∈ C) : (s.nm p l m).length = s.net.places.toNat := by
  unfold SmD.nm; rw [norm_len, c.len hm]
theorem SerC.eq_ {C : List (List Int)} (c : SerC s p k l C) {m : List Int} (hm : m ∈ C) (h0 : nth m p = 0) : s.nm p l m = m := by
  refine nth_ext (by rw [c.len_ hm, c.len hm]) fun q => ?_
  rw [c.nth_ hm]
  split
  · next e => rw [e, h0]
  · rw [h0]; simp
theorem SerC.ge_ {C : List (List Int)} (c : SerC s p k l C) {m : List Int} (hm : m ∈ C) {q : Nat} (hq : q ≠ p) : nth m q ≤ nth (s.nm p l m) q := by
  rw [c.nth_ hm, if_neg hq]
  have h1 := (fits_nth (c.fit m hm) p).1
  have h2 := (w_nth (c.facts c.w.hl) q).2.2.1
  have := Int.mul_nonneg h1 h2
  omega
/-- firing the second transition takes one token off p, and the rest comes to the same -/
theorem SerC.push {C : List (List Int)} (c : SerC s p k l C) {m y : List Int} (hm : m ∈ C) (hy : y ∈ C) (hf : Fires s.net m l y) : nth y p = nth m p - 1 ∧ s.nm p l y = s.nm p l m := by
  have e1 := hf.eq p
  rw [tr_ix, c.w.l1, c.w.ko l c.w.hl (fun e => c.w.ne e.symm)] at e1
  have ep : nth y p = nth m p - 1 := by omega
  refine ⟨ep, nth_ext (by rw [c.len_ hy, c.len_ hm]) fun q => ?_⟩
  rw [c.nth_ hy, c.nth_ hm]
  split
  · rfl
  · next hq =>
    have e2 := hf.eq q
    rw [tr_ix, c.w.l0 q hq] at e2
    rw [ep, e2, Int.sub_mul]
    omega
theorem SerC.comes {C : List (List Int)} (c : SerC s p k l C) : ∀ (n : Nat) (m : List Int), m ∈ C → nth m p = n → ∃ q, Runs s.net m q (s.nm p l m) ∧ s.nm p l m ∈ C
  | 0, m, hm, h0 => by
    rw [c.eq_ hm h0]; exact ⟨[], .nil _, hm⟩
  | n + 1, m, hm, h0 => by
    obtain ⟨y, hy, hf⟩ := c.next m hm l c.w.hl (fun q => by
      by_cases e : q = p
      · rw [e, c.w.l1, h0]; omega
      · rw [c.w.l0 q e]; exact (fits_nth (c.fit m hm) q).1)
    obtain ⟨h1, h2⟩ := c.push hm hy hf
    obtain ⟨q, hq, hC⟩ := c.comes n y hy (by rw [h1, h0]; omega)
    rw [h2] at hq hC
    exact ⟨_, .cons hf hq, hC⟩
theorem SerC.norm_in {C : List (List Int)} (c : SerC s p k l C) {m : List Int} (hm : m ∈ C) : ∃ q, Runs s.net m q (s.nm p l m) ∧ s.nm p l m ∈ C := by
  obtain ⟨n, hn⟩ := Int.eq_ofNat_of_zero_le (fits_nth (c.fit m hm) p).1
  exact c.comes n m hm hn
theorem SerC.norm_p {C : List (List Int)} (c : SerC s p k l C) {m : List Int} (hm : m ∈ C) : nth (s.nm p l m) p = 0 := by rw [c.nth_ hm, if_pos rfl]
end
section
variable {s s' : SmD} {i o p k l : Nat} {C : List (List Int)}
theorem sim_serie (h : ShapeP s.net i o) (ei : s.i = i) (eo : s.o = o) (a : SerieAt s p k l s') (hfit : ∀ m ∈ C, fitsB s.net m = true)
    (hnext : ∀ m ∈ C, ∀ t, t < s.net.trans.length → EnT s.net m t → ∃ y ∈ C, Fires s.net m t y) :
    Sim s.net s'.net (oneN s.net.places.toNat (o : Int)) (oneN s'.net.places.toNat ((sh p o : Nat) : Int)) C (fun m => (s.nm p l m).eraseIdx p) (s.nm p l) := by
  have W := a.w h.ok
  have c : SerC s p k l C := ⟨W, h.ok, hfit, hnext⟩
  have hok := ser_ok h.ok a
  have n2 : o ≠ p := fun e => W.po (by rw [eo, e])
  have hpl : s'.net.places.toNat = s.net.places.toNat - 1 := by rw [a.eq]; show (s.net.places - 1).toNat = _; omega
  have hpl' : s'.net.places = s.net.places - 1 := by rw [a.eq]; rfl
  have hlen : s'.net.trans.length = s.net.trans.length - 1 := by
    rw [a.eq]
    show (((s.net.trans.set k (mergeT s p k l)).eraseIdx l).map (lessP p)).length = _
    rw [List.length_map, List.length_eraseIdx_of_lt (by rw [List.length_set]; exact W.hl), List.length_set]
  have htr : ∀ t, t ≠ l → ix s'.net.trans (sh l t) = lessP p (if t = k then mergeT s p k l else ix s.net.trans t) := fun t ht => by rw [a.eq]; exact ser_tr W.hk ht
  have hpre : ∀ t, t ≠ l → ∀ q, q ≠ p → nth (ix s'.net.trans (sh l t)).pre (sh p q) = nth (ix s.net.trans t).pre q := fun t ht q hq => by
    rw [htr t ht]
    show nth (List.eraseIdx _ p) _ = _
    rw [nth_sh _ hq]
    by_cases e : t = k
    · rw [if_pos e, e]; rfl
    · rw [if_neg e]
  have hpost : ∀ t, t ≠ l → t ≠ k → ∀ q, q ≠ p → nth (ix s'.net.trans (sh l t)).post (sh p q) = nth (ix s.net.trans t).post q := fun t ht e q hq => by
    rw [htr t ht]
    show nth (List.eraseIdx _ p) _ = _
    rw [nth_sh _ hq, if_neg e]
  have hpk : ∀ q, q ≠ p → nth (ix s'.net.trans (sh l k)).post (sh p q) = nth (ix s.net.trans k).post q + nth (ix s.net.trans l).post q := fun q hq => by
    rw [htr k W.ne, if_pos rfl]
    show nth (List.eraseIdx _ p) _ = _
    rw [nth_sh _ hq, merge_post h.ok W.hk W.hl hq]
  -- a firing that a mark without tokens at p sees
  have hfire : ∀ t, t < s.net.trans.length → t ≠ l → ∀ x y : List Int, x.length = s.net.places.toNat → y.length = s.net.places.toNat → (∀ q, q ≠ p → nth (ix s.net.trans t).pre q ≤ nth x q) → (∀ q, nth y q ≤ 1000000) →
      (∀ q, q ≠ p → nth y q = nth x q - nth (ix s.net.trans t).pre q + (if t = k then nth (ix s.net.trans k).post q + nth (ix s.net.trans l).post q else nth (ix s.net.trans t).post q)) → Fires s'.net (x.eraseIdx p) (sh l t) (y.eraseIdx p) := by
    intro t ht htl x y hx hy h1 h2 h3
    refine ⟨by rw [hlen]; exact sh_lt W.hl ht htl, by rw [List.length_eraseIdx_of_lt (by have := W.hp; omega), List.length_eraseIdx_of_lt (by have := W.hp; omega), hx, hy], fun q => ?_, fun q => ?_, fun q => ?_⟩
    · rw [tr_ix, ← sh_un p q, hpre t htl _ (un_ne p q), nth_sh _ (un_ne p q)]
      exact h1 _ (un_ne p q)
    · rw [tr_ix, ← sh_un p q, hpre t htl _ (un_ne p q), nth_sh _ (un_ne p q), nth_sh _ (un_ne p q)]
      have := h3 _ (un_ne p q)
      by_cases e : t = k
      · rw [e, hpk _ (un_ne p q)]
        rw [if_pos e, e] at this; exact this
      · rw [hpost t htl e _ (un_ne p q)]
        rw [if_neg e] at this; exact this
    · rw [← sh_un p q, nth_sh _ (un_ne p q)]; exact h2 _
  have ho1 : nth (oneN s.net.places.toNat (o : Int)) p = 0 := by rw [nth_oneN _ _ _ h.ho, if_neg (fun e => n2 e.symm)]
  have hinj : ∀ m ∈ C, (s.nm p l m).eraseIdx p = (oneN s.net.places.toNat (o : Int)).eraseIdx p → s.nm p l m = oneN s.net.places.toNat (o : Int) := fun m hm e =>
    erase_inj (by rw [c.len_ hm, oneN_len]) (by rw [c.len_ hm]; exact W.hp) e (by rw [c.norm_p hm, ho1])
  have hK := c.facts W.hk
  have hL := c.facts W.hl
  rw [hpl, ← erase_one h.ho W.hp n2]
  refine ⟨fun m hm => ?_, fun m hm => ?_, fun m hm t y hy hf => ?_, fun m hm t ht he => ?_, ?_, hinj, fun m hm e => ?_, fun m hm e => ?_, ?_⟩
  · obtain ⟨q, hq, _⟩ := c.norm_in hm
    exact ⟨q, hq⟩
  · obtain ⟨q, _, hC⟩ := c.norm_in hm
    exact fits_erase (hfit _ hC) W.hp hok hpl'
  · by_cases e : t = l
    · subst e
      have h1 := (c.push hm hy hf).2
      rw [h1]
      exact ⟨[], .nil _⟩
    · obtain ⟨_, _, hCy⟩ := c.norm_in hy
      have ht := hf.lt
      have hpre' := hf.pre
      have heq' := hf.eq
      simp only [tr_ix] at hpre' heq'
      have p0 := W.lo t ht e
      refine ⟨_, .cons (hfire t ht e (s.nm p l m) (s.nm p l y) (c.len_ hm) (c.len_ hy) (fun q hq => Int.le_trans (hpre' q) (c.ge_ hm hq)) (fun q => (fits_nth (hfit _ hCy) q).2) fun q hq => ?_) (.nil _)⟩
      rw [c.nth_ hm, c.nth_ hy, if_neg hq, if_neg hq]
      have e1 := heq' q
      have e2 := heq' p
      rw [p0] at e2
      by_cases ek : t = k
      · subst ek
        rw [W.k1] at e2
        rw [if_pos rfl, show nth y p = nth m p + 1 by omega, e1, Int.add_mul]
        omega
      · rw [W.ko t ht ek] at e2
        rw [if_neg ek, show nth y p = nth m p by omega, e1]
        omega
  · rw [hlen] at ht
    have hut := un_lt W.hl ht
    have hul := un_ne l t
    rw [← sh_un l t] at he
    have p0 := W.lo _ hut hul
    obtain ⟨_, _, hCm⟩ := c.norm_in hm
    have hz := c.norm_p hm
    have hen : EnT s.net (s.nm p l m) (un l t) := fun q => by
      by_cases e : q = p
      · rw [e, p0, hz]; exact Int.le_refl _
      · have := he (sh p q)
        rw [hpre _ hul q e, nth_sh _ e] at this
        exact this
    obtain ⟨y, hy, hf⟩ := hnext _ hCm _ hut hen
    have heq' := hf.eq
    simp only [tr_ix] at heq'
    have e2 := heq' p
    rw [p0, hz] at e2
    by_cases ek : un l t = k
    · rw [ek] at e2 heq' hf
      rw [W.k1] at e2
      obtain ⟨z, hz', hg⟩ := hnext _ hy l W.hl (fun q => by
        by_cases e : q = p
        · rw [e, W.l1]; omega
        · rw [W.l0 q e]; exact (fits_nth (hfit y hy) q).1)
      have hg' := hg.eq
      simp only [tr_ix] at hg'
      have e3 := hg' p
      rw [W.l1, W.ko l W.hl (fun e => W.ne e.symm)] at e3
      have hn := c.eq_ hz' (by omega)
      refine ⟨_, z, .cons hf (.cons hg (.nil _)), ?_⟩
      rw [hn, ← sh_un l t, ek]
      refine hfire k W.hk W.ne _ _ (c.len_ hm) (c.len hz') (fun q hq => ?_) (fun q => (fits_nth (hfit _ hz') q).2) fun q hq => ?_
      · have := hen q; rw [ek] at this; exact this
      · rw [if_pos rfl, hg' q, heq' q, W.l0 q hq]; omega
    · rw [W.ko _ hut ek] at e2
      have hn := c.eq_ hy (by omega)
      refine ⟨_, y, .cons hf (.nil _), ?_⟩
      rw [hn]
      have := hfire _ hut hul (s.nm p l m) y (c.len_ hm) (c.len hy) (fun q hq => hen q) (fun q => (fits_nth (hfit _ hy) q).2) fun q hq => by rw [if_neg ek]; exact heq' q
      rw [sh_un] at this
      exact this
  · show (normF p (ix s.net.trans l).post (oneN s.net.places.toNat (o : Int))).eraseIdx p = _
    congr 1
    refine nth_ext (by rw [norm_len]) fun q => ?_
    rw [norm_nth (by rw [oneN_len]; have := hL.post; have := (netOk_iff.1 h.ok).1; omega)]
    split
    · next e => rw [e, ho1]
    · rw [ho1]; simp
  · obtain ⟨h1, h2⟩ := extra_iff.1 e
    refine extra_iff.2 ⟨erase_covers fun x hx => Int.le_trans (h1 x) (c.ge_ hm hx), fun e2 => h2 ?_⟩
    have e3 := hinj m hm e2
    have hp0 := (fits_nth (hfit m hm) p).1
    have hq : ∀ q, q ≠ p → nth m q = nth (oneN s.net.places.toNat (o : Int)) q ∧ nth m p * nth (ix s.net.trans l).post q = 0 := fun q hq => by
      have h4 := h1 q
      have h5 : nth (s.nm p l m) q = nth (oneN s.net.places.toNat (o : Int)) q := by rw [e3]
      rw [c.nth_ hm, if_neg hq] at h5
      have := Int.mul_nonneg hp0 (w_nth hL q).2.2.1
      omega
    have hm0 : nth m p = 0 := by
      -- the second transition puts something somewhere
      have hnode := h.bwd ⟨true, l⟩ (nodeT.2 W.hl)
      have hout : ∃ x, 0 < nth (ix s.net.trans l).post x := by
        cases hnode with
        | step _ ha =>
          obtain ⟨_, _, hc⟩ := ha
          rcases hc with ⟨h6, _⟩ | ⟨_, _, h6⟩
          · cases h6
          · exact ⟨_, h6⟩
      obtain ⟨x, hx⟩ := hout
      have hxp : x ≠ p := fun e => by rw [e, W.ko l W.hl (fun e => W.ne e.symm)] at hx; omega
      have := (hq x hxp).2
      rcases Int.mul_eq_zero.1 this with h7 | h7
      · exact h7
      · omega
    refine nth_ext (by rw [c.len hm, oneN_len]) fun q => ?_
    by_cases e : q = p
    · rw [e, hm0, ho1]
    · exact (hq q e).1
  · obtain ⟨h1, h2⟩ := extra_iff.1 e
    refine extra_iff.2 ⟨fun x => ?_, fun e => h2 (by rw [e])⟩
    by_cases ex : x = p
    · rw [ex, ho1, c.norm_p hm]; exact Int.le_refl _
    · exact covers_erase h1 ex
  · have hen1 : ∀ m ∈ C, ∀ t, t < s.net.trans.length → t ≠ l → EnT s.net m t → EnT s'.net ((s.nm p l m).eraseIdx p) (sh l t) := fun m hm t ht htl he q => by
      rw [← sh_un p q, hpre t htl _ (un_ne p q), nth_sh _ (un_ne p q)]
      exact Int.le_trans (he _) (c.ge_ hm (un_ne p q))
    constructor
    · rintro ⟨t, ht, hn⟩
      -- a dead one of the first net
      have key : ∃ t, t < s.net.trans.length ∧ t ≠ l ∧ ∀ m ∈ C, ¬ EnT s.net m t := by
        by_cases e : t = l
        · subst e
          refine ⟨k, W.hk, W.ne, fun m hm he => ?_⟩
          obtain ⟨y, hy, hf⟩ := hnext m hm k W.hk he
          have e1 := hf.eq p
          rw [tr_ix, W.k1, W.lo k W.hk W.ne] at e1
          have := (fits_nth (hfit m hm) p).1
          refine hn y hy fun q => ?_
          by_cases e : q = p
          · rw [e, W.l1]; omega
          · rw [W.l0 q e]; exact (fits_nth (hfit y hy) q).1
        · exact ⟨t, ht, e, hn⟩
      obtain ⟨t, ht, htl, hn⟩ := key
      refine ⟨sh l t, by rw [hlen]; exact sh_lt W.hl ht htl, fun m hm he => ?_⟩
      obtain ⟨_, _, hCm⟩ := c.norm_in hm
      refine hn _ hCm fun q => ?_
      by_cases e : q = p
      · rw [e, W.lo t ht htl, c.norm_p hm]; exact Int.le_refl _
      · have := he (sh p q)
        rw [hpre t htl q e, nth_sh _ e] at this
        exact this
    · rintro ⟨t, ht, hn⟩
      rw [hlen] at ht
      refine ⟨un l t, un_lt W.hl ht, fun m hm he => hn m hm ?_⟩
      have := hen1 m hm (un l t) (un_lt W.hl ht) (un_ne l t) he
      rw [sh_un] at this
      exact this
end
/-! ### all steps -/
theorem runs_pair {N : NetD} {p q : Nat} (hcol : ∀ t ∈ N.trans, nth t.pre p = nth t.pre q ∧ nth t.post p = nth t.post q) {x r y : List Int} (h : Runs N x r y) : nth x p = nth x q → nth y p = nth y q := by
  induction h with
  | nil => exact id
  | @cons x y z r k hf _ ih =>
    intro e
    refine ih ?_
    have hm : ix N.trans k ∈ N.trans := by rw [ix_lt hf.lt]; exact List.getElem_mem hf.lt
    have e1 := hf.eq p
    have e2 := hf.eq q
    rw [tr_ix] at e1 e2
    have := hcol _ hm
    omega
theorem KindS.step {most c : Int} {s s' : SmD} (h : ShapeS s) (hk : KindS most c s) (e : redStep s = some s') : KindS most c s' := by
  have hS' := h.step e
  obtain ⟨i, o, ei, eo, hP⟩ := h
  obtain ⟨v, hv, rfl⟩ := hk
  obtain ⟨a, b, F, ea, eb, hA, _, hs, h1, h2, hfit, W, _, rfl⟩ := judge_ok hv
  obtain rfl : a = i := by omega
  obtain rfl : b = o := by omega
  rw [startLen_ok hP.ok] at hs hfit W ⊢
  have hnext : ∀ m ∈ F.marks, ∀ t, t < s.net.trans.length → EnT s.net m t → ∃ y ∈ F.marks, Fires s.net m t y := fun m hm t ht he => by
    obtain ⟨y, h3, h4⟩ := W.fires hm ht (fun p => by rw [tr_ix]; exact he p)
    exact ⟨y, h4, h3⟩
  have hnext' : ∀ m ∈ F.marks, ∀ t, t < s.net.trans.length → EnT s.net m t → ∃ y, Fires s.net m t y := fun m hm t ht he => by
    obtain ⟨y, _, h3⟩ := hnext m hm t ht he
    exact ⟨y, h3⟩
  rcases red_cases e with ⟨k, hk, hd, rfl⟩ | ⟨q, p, hq, hpq, hp, rfl⟩ | ⟨p, k, l, A⟩
  · exact sim_kind hP (shape_dropT hP hk hd) ei eo ei eo W h1 h2 rfl (sim_dropT hP hk hd W.fit hnext')
  · obtain ⟨⟨n3, n4⟩, ⟨n1, n2⟩, hcol⟩ := pair_at hp
    have n1' : a ≠ q := fun e => n1 (by rw [ei, e])
    have n2' : b ≠ q := fun e => n2 (by rw [eo, e])
    have n3' : a ≠ p := fun e => n3 (by rw [ei, e])
    have hpl : (dropP s q).net.places.toNat = s.net.places.toNat - 1 := by show (s.net.places - 1).toNat = _; omega
    refine sim_kind hP (shape_dropP hP ei eo hq hpq hp) ei eo (by show shiftP q s.i = _; rw [ei, shiftP_sh n1']) (by show shiftP q s.o = _; rw [eo, shiftP_sh n2']) W h1 h2 ?_ (sim_dropP hP ei eo hq hpq hp W.fit (fun m hm => ?_) hnext')
    · rw [erase_one hP.hi hq n1', hpl]
    · obtain ⟨r, hr⟩ := W.reach hm
      refine runs_pair hcol hr ?_
      rw [nth_oneN _ _ _ hP.hi, nth_oneN _ _ _ hP.hi, if_neg (fun e => n3' e.symm), if_neg (fun e => n1' e.symm)]
  · have Wt := A.w hP.ok
    have n1' : a ≠ p := fun e => Wt.pi (by rw [ei, e])
    have n2' : b ≠ p := fun e => Wt.po (by rw [eo, e])
    have hpl : s'.net.places.toNat = s.net.places.toNat - 1 := by rw [A.eq]; show (s.net.places - 1).toNat = _; omega
    refine sim_kind hP (shape_serie hP ei eo A) ei eo (by rw [A.eq]; show shiftP p s.i = _; rw [ei, shiftP_sh n1']) (by rw [A.eq]; show shiftP p s.o = _; rw [eo, shiftP_sh n2']) W h1 h2 ?_ (sim_serie hP ei eo A W.fit hnext)
    have c : SerC s p k l F.marks := ⟨Wt, hP.ok, W.fit, hnext⟩
    rw [c.eq_ W.start (by rw [nth_oneN _ _ _ hP.hi, if_neg (fun e => n1' e.symm)]), erase_one hP.hi Wt.hp n1', hpl]
theorem reduce_kind {s0 : SmD} {most c : Int} (h : ShapeS s0) (hk : KindS most c s0) : KindS most c (reduceF s0).1 := by
  have := redF_ind (P := fun s _ => ShapeS s ∧ KindS most c s) (fun s s' _ hP e => ⟨hP.1.step e, hP.2.step hP.1 e⟩) (meas s0) s0 0 ⟨h, hk⟩
  exact this.2
end Go.Tok
