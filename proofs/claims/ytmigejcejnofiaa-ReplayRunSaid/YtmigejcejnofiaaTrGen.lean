/- Rows of transitions as rows of a kind (Gen): how they read, what they hang on; the cells of a row. No program is in sight here. -/
import Derived.Test.YtmigejcejnofiaaGen
import Derived.Test.YtmigejcejnofiaaNetOwn
namespace Go.Tok
open Go.RowKit
set_option linter.unusedVariables false

def trK : Kind TranD :=
  ⟨3, fun w vs t => ∃ p q, vs = [.int .i64 t.label, p, q] ∧ I64 t.label ∧ Ints w p t.pre ∧ Ints w q t.post,
    fun ⟨p, q, h, _⟩ => by rw [h]; rfl,
    fun ⟨p, q, h, _, hp, hq⟩ => by
      subst h
      obtain ⟨a, c, rfl, _⟩ := hp.len
      obtain ⟨a', c', rfl, _⟩ := hq.len
      intro x hx
      rcases List.mem_cons.1 hx with rfl | hx
      · rfl
      · rcases List.mem_cons.1 hx with rfl | hx
        · rfl
        · rw [List.mem_singleton.1 hx]; rfl,
    fun k ⟨p, q, h, hl, hp, hq⟩ => ⟨p, q, h, hl, hp.kp k, hq.kp k⟩⟩

theorem trans_of_rd {w : World} {v : Value} {ts : List TranD} (h : Rd trK w v ts) : TransR w v ts := by
  obtain ⟨a, cap, rfl, h1, h2⟩ := h.len
  refine TransR.intro rfl h1 (by unfold maxLen; omega) fun i hi => ?_
  obtain ⟨b, o, vs, rfl, ⟨p, q, rfl, hl, hp, hq⟩, hc⟩ := h.at_ hi
  rw [ix_def] at hl hp hq hc
  refine ⟨b, o, p, q, rfl, ?_, ?_, ?_, hl, hp, hq⟩
  · exact hc 0 _ rfl
  · exact hc 1 _ rfl
  · exact hc 2 _ rfl
theorem rd_of_trans {w : World} {ad : Addr} {n cap : Nat} {ts : List TranD} (h : TransR w (.slice (some ad) n cap) ts) : Rd trK w (.slice (some ad) n cap) ts := by
  unfold TransR at h
  obtain ⟨a, cap', h1, h2, h3, h4⟩ := h
  cases h1
  refine rd_mk rfl h2 h3 (by simp) fun i hi => ?_
  obtain ⟨b, o, p, q, ha, c0, c1, c2, hl, hp, hq⟩ := h4 i hi
  refine ⟨b, o, [.int .i64 (ix ts i).label, p, q], ha, ⟨p, q, rfl, by rw [ix_def]; exact hl, by rw [ix_def]; exact hp, by rw [ix_def]; exact hq⟩, fun j u hj => ?_⟩
  rw [ix_def] at hj
  match j, hj with
  | 0, hj => cases hj; exact c0
  | 1, hj => cases hj; exact c1
  | 2, hj => cases hj; exact c2
theorem trans_none {w : World} {n cap : Nat} {ts : List TranD} (h : TransR w (.slice none n cap) ts) : ts = [] ∧ n = 0 := by
  unfold TransR at h
  obtain ⟨a, cap', h1, h2, h3, h4⟩ := h
  cases h1
  rcases Nat.eq_zero_or_pos ts.length with h5 | h5
  · exact ⟨List.eq_nil_of_length_eq_zero h5, h5⟩
  · obtain ⟨b, o, p, q, ha, _⟩ := h4 0 h5
    cases ha
/-- the cells of a row that reads -/
theorem Rd.cells {α : Type} [Inhabited α] {K : Kind α} {w : World} {ad : Addr} {n c : Nat} {ys : List α} (h : Rd K w (.slice (some ad) n c) ys) (hp : 0 < K.size) :
    ∃ vss : List (List Value), vss.length = ys.length ∧ (∀ i, i < ys.length → K.R w (vss.getD i []) (ix ys i)) ∧ ∀ j x, vss.flatten[j]? = some x → w.cell? (ad.add j) = some x := by
  have hf : ∀ i : Fin ys.length, ∃ vs, K.R w vs (ix ys i) ∧ ∀ j u, vs[j]? = some u → w.cell? (ad.add (i * K.size + j)) = some u := by
    intro i
    obtain ⟨b, o, vs, ha, hr, hc⟩ := h.at_ i.2
    cases ha
    refine ⟨vs, hr, fun j u hj => ?_⟩
    rw [add_none, ← Nat.add_assoc]
    exact hc j u hj
  have hch : ∃ f : Fin ys.length → List Value, ∀ i : Fin ys.length, K.R w (f i) (ix ys i) ∧ ∀ j u, (f i)[j]? = some u → w.cell? (ad.add (i * K.size + j)) = some u := ⟨fun i => (hf i).choose, fun i => (hf i).choose_spec⟩
  obtain ⟨f, hf⟩ := hch
  refine ⟨List.ofFn f, by simp, fun i hi => ?_, fun j x hj => ?_⟩
  · have := (hf ⟨i, hi⟩).1
    simpa [List.getD, hi] using this
  · have hlen : ∀ r ∈ (List.ofFn f).map (fun vs => ((), vs)), r.2.length = K.size := by
      intro r hr
      obtain ⟨vs, hvs, rfl⟩ := List.mem_map.1 hr
      obtain ⟨i, rfl⟩ := List.mem_ofFn.1 hvs
      exact K.len (hf i).1
    have e : (List.ofFn f).flatten = cellsOf ((List.ofFn f).map fun vs => ((), vs)) := by
      unfold cellsOf
      rw [List.flatMap_map, List.flatMap_id']
    have hfl : (List.ofFn f).flatten.length = ys.length * K.size := by
      have : ∀ l : List (List Value), (∀ vs ∈ l, vs.length = K.size) → l.flatten.length = l.length * K.size := by
        intro l
        induction l with
        | nil => simp
        | cons a r ih => intro h; rw [List.flatten_cons, List.length_append, ih (fun vs hv => h vs (by simp [hv])), h a (by simp), List.length_cons, Nat.add_mul]; omega
      rw [this _ (fun vs hvs => by obtain ⟨i, rfl⟩ := List.mem_ofFn.1 hvs; exact K.len (hf i).1)]
      simp
    have hjl : j < ys.length * K.size := by rw [← hfl]; exact (List.getElem?_eq_some_iff.1 hj).1
    have hi : j / K.size < ys.length := Nat.div_lt_of_lt_mul (by rw [Nat.mul_comm]; exact hjl)
    have hq : j % K.size < K.size := Nat.mod_lt _ hp
    have hjd : j / K.size * K.size + j % K.size = j := by rw [Nat.mul_comm]; exact Nat.div_add_mod j K.size
    rw [e, ← hjd, cellsOf_at hlen (by simpa using hi) hq] at hj
    have hj' : (f ⟨j / K.size, hi⟩)[j % K.size]? = some x := by simpa [hi] using hj
    have := (hf ⟨j / K.size, hi⟩).2 _ _ hj'
    rw [← hjd]
    exact this
end Go.Tok
