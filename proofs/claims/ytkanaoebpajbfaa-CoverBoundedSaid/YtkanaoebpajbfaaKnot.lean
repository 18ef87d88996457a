/- Knots of the tree in memory: their kind, the cells of a row of knots, the way up. No program is in sight here. -/
import Derived.Test.YtkanaoebpajbfaaCoverLaw
import Derived.Test.YtkanaoebpajbfaaPA
import Derived.Test.YtkanaoebpajbfaaSeqS
namespace Go.Tok
open Go.RowKit
set_option linter.unusedVariables false
/-- a knot: two numbers and a row -/
def knK : Kind KnotD :=
  ⟨3, fun w vs x => ∃ u, vs = [.int .i64 x.up, .int .i64 x.tran, u] ∧ Ints w u x.mark,
    fun ⟨u, h, _⟩ => by rw [h]; rfl,
    fun ⟨u, h, hu⟩ => by
      subst h
      obtain ⟨a, c, rfl, _⟩ := hu.len
      intro x hx
      rcases List.mem_cons.1 hx with rfl | hx
      · rfl
      · rcases List.mem_cons.1 hx with rfl | hx
        · rfl
        · rw [List.mem_singleton.1 hx]; rfl,
    fun k ⟨u, h, hu⟩ => ⟨u, h, hu.kp k⟩⟩
theorem Rd.knot {w : World} {a : Option Addr} {n cap : Nat} {xs : List KnotD} (h : Rd knK w (.slice a n cap) xs) {i : Nat} (hi : i < xs.length) :
    ∃ b o u, a = some ⟨b, o, none⟩ ∧ w.cell? ⟨b, o + i * 3, none⟩ = some (.int .i64 (ix xs i).up) ∧ w.cell? ⟨b, o + i * 3 + 1, none⟩ = some (.int .i64 (ix xs i).tran) ∧ w.cell? ⟨b, o + i * 3 + 2, none⟩ = some u ∧ Ints w u (ix xs i).mark := by
  obtain ⟨b, o, vs, ha, ⟨u, rfl, hu⟩, hc⟩ := h.at_ hi
  exact ⟨b, o, u, ha, hc 0 _ rfl, hc 1 _ rfl, hc 2 _ rfl, hu⟩
/-- a row of knots, cell by cell; mv: the rows of their marks -/
def KnAt (w : World) (kn ko : Nat) (ks : List KnotD) (mv : Nat → Value) : Prop :=
  ∀ j, j < ks.length → w.cell? ⟨kn, ko + j * 3, none⟩ = some (.int .i64 (ix ks j).up) ∧ w.cell? ⟨kn, ko + j * 3 + 2, none⟩ = some (mv j)
theorem Rd.knots {w : World} {kn ko n cap : Nat} {ks : List KnotD} (h : Rd knK w (.slice (some ⟨kn, ko, none⟩) n cap) ks) : ∃ mv, KnAt w kn ko ks mv ∧ ∀ j, j < ks.length → Ints w (mv j) (ix ks j).mark := by
  have hf : ∀ i : Fin ks.length, ∃ u, w.cell? ⟨kn, ko + i * 3, none⟩ = some (.int .i64 (ix ks i).up) ∧ w.cell? ⟨kn, ko + i * 3 + 2, none⟩ = some u ∧ Ints w u (ix ks i).mark := fun i => by
    obtain ⟨b, o, u, ha, h1, _, h3, h4⟩ := h.knot i.2
    cases ha
    exact ⟨u, h1, h3, h4⟩
  have hch : ∃ f : Fin ks.length → Value, ∀ i : Fin ks.length, w.cell? ⟨kn, ko + i * 3, none⟩ = some (.int .i64 (ix ks i).up) ∧ w.cell? ⟨kn, ko + i * 3 + 2, none⟩ = some (f i) ∧ Ints w (f i) (ix ks i).mark := ⟨fun i => (hf i).choose, fun i => (hf i).choose_spec⟩
  obtain ⟨f, hf⟩ := hch
  refine ⟨fun j => if h : j < ks.length then f ⟨j, h⟩ else undef, fun j hj => ?_, fun j hj => ?_⟩
  · simp only [dif_pos hj]; exact ⟨(hf ⟨j, hj⟩).1, (hf ⟨j, hj⟩).2.1⟩
  · simp only [dif_pos hj]; exact (hf ⟨j, hj⟩).2.2
theorem KnAt.kp {S : Nat → Prop} {w w' : World} {kn ko : Nat} {ks : List KnotD} {mv : Nat → Value} (h : KnAt w kn ko ks mv) (k : Kp S w w') (hs : S kn) : KnAt w' kn ko ks mv := fun j hj =>
  ⟨cell_kp k (h j hj).1 hs, cell_kp k (h j hj).2 hs⟩
/-- the way up from knot k, by numbers -/
def ChainK (ks : List KnotD) : Int → List Nat → Prop
  | k, [] => k < 0
  | k, j :: l => k = (j : Int) ∧ j < ks.length ∧ ChainK ks (ix ks j).up l
theorem chain_ex {ks : List KnotD} (h : UpOk ks) : ∀ (f : Nat) (k : Int), k < ks.length → (k + 1).toNat ≤ f → ∃ l, ChainK ks k l ∧ l.map (fun j => (ix ks j).mark) = ancF ks f k := by
  intro f
  induction f with
  | zero => intro k _ hk; exact ⟨[], by show k < 0; omega, rfl⟩
  | succ f ih =>
    intro k hk hf
    by_cases h0 : 0 ≤ k
    · obtain ⟨j, rfl⟩ := Int.eq_ofNat_of_zero_le h0
      have hj : j < ks.length := by omega
      have hu := h j hj
      obtain ⟨l, hl, hm⟩ := ih (ix ks j).up (by omega) (by omega)
      refine ⟨j :: l, ⟨rfl, hj, hl⟩, ?_⟩
      rw [ancF, if_pos h0, List.map_cons, hm]; simp
    · exact ⟨[], by show k < 0; omega, by rw [ancF, if_neg h0]; rfl⟩
theorem chain_anc {ks : List KnotD} (h : UpOk ks) {k : Int} (hk : k < ks.length) : ∃ l, ChainK ks k l ∧ l.map (fun j => (ix ks j).mark) = anc ks k := chain_ex h _ _ hk (Nat.le_refl _)
theorem chain_lt {ks : List KnotD} : ∀ {l : List Nat} {k : Int}, ChainK ks k l → ∀ j ∈ l, j < ks.length := by
  intro l
  induction l with
  | nil => intro k _ j hj; cases hj
  | cons a l ih =>
    intro k h j hj
    rcases List.mem_cons.1 hj with rfl | hj
    · exact h.2.1
    · exact ih h.2.2 j hj
end Go.Tok
