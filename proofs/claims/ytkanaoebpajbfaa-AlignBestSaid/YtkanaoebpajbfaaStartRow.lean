/- Rows of beginnings (a word and marks), and what Words has gathered. No program is in sight here. -/
import Derived.Test.YtkanaoebpajbfaaWordLaw
import Derived.Test.YtkanaoebpajbfaaGU
import Derived.Test.YtkanaoebpajbfaaBoolRow
import Derived.ArgAppend
import Derived.Test.YtkanaoebpajbfaaPA
namespace Go.Tok
open Go.RowKit
set_option linter.unusedVariables false
def startK : Kind StD :=
  ⟨2, fun w vs x => ∃ u v, vs = [u, v] ∧ Ints w u x.1 ∧ Rd boolK w v x.2,
    fun ⟨u, v, h, _⟩ => by rw [h]; rfl,
    fun ⟨u, v, h, hu, hv⟩ => by
      subst h
      obtain ⟨a, c, rfl, _⟩ := hu.len
      obtain ⟨b, d, rfl, _⟩ := hv.len
      intro x hx
      rcases List.mem_cons.1 hx with rfl | hx
      · rfl
      · rw [List.mem_singleton.1 hx]; rfl,
    fun k ⟨u, v, h, hu, hv⟩ => ⟨u, v, h, hu.kp k, hv.kp k⟩⟩
theorem Rd.start {w : World} {a : Option Addr} {n cap : Nat} {xs : List StD} (h : Rd startK w (.slice a n cap) xs) {i : Nat} (hi : i < xs.length) :
    ∃ b o u v, a = some ⟨b, o, none⟩ ∧ w.cell? ⟨b, o + i * 2, none⟩ = some u ∧ w.cell? ⟨b, o + i * 2 + 1, none⟩ = some v ∧ Ints w u (ix xs i).1 ∧ Rd boolK w v (ix xs i).2 := by
  obtain ⟨b, o, vs, ha, ⟨u, v, rfl, hu, hv⟩, hc⟩ := h.at_ hi
  exact ⟨b, o, u, v, ha, hc 0 _ rfl, hc 1 _ rfl, hu, hv⟩
theorem on_start {S : Nat → Prop} {w : World} {a : Option Addr} {n cap : Nat} {xs : List StD} (h : On S (fun w => Rd startK w (.slice a n cap) xs) w) {i : Nat} (hi : i < xs.length) :
    ∃ b o u v, a = some ⟨b, o, none⟩ ∧ w.cell? ⟨b, o + i * 2, none⟩ = some u ∧ w.cell? ⟨b, o + i * 2 + 1, none⟩ = some v ∧ On S (fun w => Ints w u (ix xs i).1) w ∧ On S (fun w => Rd boolK w v (ix xs i).2) w := by
  obtain ⟨b, o, u, v, ha, c0, c1, hI, hR⟩ := h.now.start hi
  have hS : S b := by
    apply Classical.byContradiction
    intro hn
    obtain ⟨b2, o2, u2, v2, ha2, c2, _, hI2, _⟩ := (h.kp (set_kp (a := ⟨b, o + i * 2, none⟩) hn (.int .i64 0))).now.start hi
    rw [ha] at ha2
    cases ha2
    rw [cell_set_self c0] at c2
    cases c2
    obtain ⟨_, _, h3, _⟩ := hI2.len
    cases h3
  refine ⟨b, o, u, v, ha, c0, c1, ?_, ?_⟩
  all_goals
    unfold On
    intro w' k
    obtain ⟨b2, o2, u2, v2, ha2, c2, c3, hI2, hR2⟩ := (h.kp k).now.start hi
    rw [ha] at ha2
    cases ha2
    rw [cell_kp k c0 hS] at c2
    rw [cell_kp k c1 hS] at c3
    cases c2
    cases c3
    assumption
theorem on_cell {S : Nat → Prop} {w : World} {a : Addr} {v : Value} (h : w.cell? a = some v) (hs : S a.block) : On S (fun w => w.cell? a = some v) w := by unfold On; exact fun w' k => cell_kp k h hs
/-- the blocks that neither row grows in -/
def Off (ov mv : Value) (b : Nat) : Prop := ov.ownBlock ≠ some b ∧ mv.ownBlock ≠ some b
/-- what Words has gathered: what it stands on (p), the words, the marks behind one more letter -/
structure WI (te ts : TypeId) (w1 w : World) (p : World → Prop) (ov mv : Value) (out : List (List Int)) (more : List StD) : Prop where
  n : On (Off ov mv) p w
  o : OwnR rowK te w1.heap.size (fun b => mv.ownBlock ≠ some b) w ov out
  m : OwnR startK ts w1.heap.size (fun b => ov.ownBlock ≠ some b) w mv more
  ap : ∀ b, ov.ownBlock = some b → mv.ownBlock ≠ some b
  gr : Gr w1 w
section
variable {te ts : TypeId} {w1 w w' : World} {p q : World → Prop} {ov mv : Value} {out : List (List Int)} {more : List StD}
theorem WI.later (h : WI te ts w1 w p ov mv out more) (g : Gr w w') : WI te ts w1 w' p ov mv out more := ⟨h.n.gr g, h.o.gr g, h.m.gr g, h.ap, h.gr.trans g⟩
theorem WI.with (h : WI te ts w1 w p ov mv out more) (hq : On (Off ov mv) q w) : WI te ts w1 w q ov mv out more := ⟨hq, h.o, h.m, h.ap, h.gr⟩
/-- a block that is made now is none of theirs -/
theorem WI.off (h : WI te ts w1 w p ov mv out more) {b : Nat} (hb : w.heap.size ≤ b) : Off ov mv b :=
  ⟨fun e => by have := (h.o.lt e).2; omega, fun e => by have := (h.m.lt e).2; omega⟩
theorem WI.putO (h : WI te ts w1 w p ov mv out more) {v' : Value} {out' : List (List Int)} (ho : OwnR rowK te w1.heap.size (fun b => mv.ownBlock ≠ some b) w' v' out') (hg : w.grownBy w' ov.ownBlock) (hat : v'.ownBlock = ov.ownBlock ∨ v'.ownBlock = some w.heap.size) : WI te ts w1 w' p v' mv out' more := by
  have key : ∀ b, b < w.heap.size → ov.ownBlock ≠ some b → v'.ownBlock ≠ some b := fun b hb h1 e => by
    rcases hat with h2 | h2
    · exact h1 (h2.symm.trans e)
    · rw [h2] at e; have := Option.some.inj e; omega
  refine ⟨h.n.moved hg.size fun b hb hs => ⟨⟨key b hb hs.1, hs.2⟩, hg.block b hb fun e => hs.1 e.symm⟩, ho, h.m.kept hg ?_ fun b hb hs => ⟨key b hb hs, fun e => hs e.symm⟩, ?_, h.gr.grown hg fun k hk => (h.o.lt hk).1⟩
  · cases hm : mv.ownBlock with
    | none => exact .inl rfl
    | some b => exact .inr fun e => h.ap b e.symm hm
  · intro b hb hm
    rcases hat with h1 | h1
    · exact h.ap b (h1.symm.trans hb) hm
    · rw [h1] at hb
      have := Option.some.inj hb
      have := (h.m.lt hm).2
      omega
theorem WI.putM (h : WI te ts w1 w p ov mv out more) {v' : Value} {more' : List StD} (ho : OwnR startK ts w1.heap.size (fun b => ov.ownBlock ≠ some b) w' v' more') (hg : w.grownBy w' mv.ownBlock) (hat : v'.ownBlock = mv.ownBlock ∨ v'.ownBlock = some w.heap.size) : WI te ts w1 w' p ov v' out more' := by
  have key : ∀ b, b < w.heap.size → mv.ownBlock ≠ some b → v'.ownBlock ≠ some b := fun b hb h1 e => by
    rcases hat with h2 | h2
    · exact h1 (h2.symm.trans e)
    · rw [h2] at e; have := Option.some.inj e; omega
  refine ⟨h.n.moved hg.size fun b hb hs => ⟨⟨hs.1, key b hb hs.2⟩, hg.block b hb fun e => hs.2 e.symm⟩, h.o.kept hg ?_ fun b hb hs => ⟨key b hb hs, fun e => hs e.symm⟩, ho, ?_, h.gr.grown hg fun k hk => (h.m.lt hk).1⟩
  · cases hm : ov.ownBlock with
    | none => exact .inl rfl
    | some b => exact .inr fun e => h.ap b hm e.symm
  · intro b hb hm
    rcases hat with h1 | h1
    · exact h.ap b hb (h1.symm.trans hm)
    · rw [h1] at hm
      have := Option.some.inj hm
      have := (h.o.lt hb).2
      omega
/-- the marks behind one more letter are those that it stands at -/
theorem WI.turn (h : WI te ts w1 w p ov mv out more) : WI te ts w1 w (fun w => Rd startK w mv more) ov (.slice none 0 0) out [] := by
  refine ⟨h.m.on (fun b _ hs => ⟨hs, by simp [Value.ownBlock]⟩) fun b hb => ⟨fun e => h.ap b e hb, by simp [Value.ownBlock]⟩, h.o.sets fun b _ _ => by simp [Value.ownBlock], OwnR.nil _ _ _ _, fun b _ e => by simp [Value.ownBlock] at e, h.gr⟩
end
theorem SayD.moreOf_len (D : SayD) (k : Nat) (s : StD) : ∀ q, (D.moreOf k s q).length ≤ q
  | 0 => by rw [D.moreOf_zero]; exact Nat.le_refl _
  | q + 1 => by
    by_cases h : q < D.letters.length
    · rw [D.moreOf_succ k s h, List.length_append]
      have := D.moreOf_len k s q
      have : (D.go k s (nth D.letters q)).length ≤ 1 := by unfold SayD.go; split <;> simp
      omega
    · have e : D.moreOf k s (q + 1) = D.moreOf k s q := by unfold SayD.moreOf; rw [List.take_of_length_le (by omega), List.take_of_length_le (by omega)]
      rw [e]; have := D.moreOf_len k s q; omega
section
variable {P : Program} {t e : TypeId}
/-- 'append(xs, y)' at a row of ints that is full: a new row, the old one stands as it stood -/
theorem app_full (T : IntTy P t e) {w : World} {ops : Array Oper} {rest : List Oper} {o : Oper} {a : Act} {Q : Exit → Act → World → Prop} (s x : Operand)
    (ao : Option Addr) (xs : List Int) (ad : Addr) (y : Int) (hg : o.guard = none) (hop : o.op = .call { callee := .builtin .append, args := #[s, x], argTypes := #[t, t] }) (hs : a.eval s = .slice ao xs.length xs.length) (hx : a.eval x = .slice (some ad) 1 1)
    (hr : Ints w (.slice ao xs.length xs.length) xs) (hcell : w.cell? ad = some (.int .i64 y)) (hy : I64 y) (hn : xs.length + 1 ≤ 17592186044416)
    (hK : ∀ g cap w', OwnI e w.heap.size w' (.slice (some ⟨g, 0, none⟩) (xs.length + 1) cap) (xs ++ [y]) → Gr w w' → wpList P ops Q rest (a.put o.dst (.slice (some ⟨g, 0, none⟩) (xs.length + 1) cap)) w') : wpList P ops Q (o :: rest) a w := by
  obtain ⟨i, hi, hz, hsz, hb⟩ := info_parts T.info
  have hnone : ao = none → xs.length = 0 ∧ xs.length = 0 := fun h => by
    subst h
    rcases hr.form with ⟨_, h0⟩ | ⟨_, _, h0, _⟩
    · rw [h0]; exact ⟨rfl, rfl⟩
    · cases h0
  have hall : ∀ z ∈ xs, I64 z := fun z hz => by
    obtain ⟨k, hk, rfl⟩ := List.getElem_of_mem hz
    have := hr.range k
    rwa [nth_lt hk] at this
  refine wpList_append_grows w hg s x t hop e i _ 1 8 T.und hi hz hsz hb rfl (by omega) ao xs.length xs.length (xs.map (Value.int .i64)) hs hnone (by simp) ?_ ad 1 1 [.int .i64 y] hx rfl ?_ (by simp [Value.oneCell']) (by omega) (by unfold maxLen; omega) (by omega) ?_
  · intro b hb j u hj
    subst hb
    rw [List.getElem?_map] at hj
    obtain ⟨z, hz, rfl⟩ := Option.map_eq_some_iff.1 hj
    have hjl : j < xs.length := (List.getElem?_eq_some_iff.1 hz).1
    rw [hr.adds hjl, nth_lt hjl]
    rw [List.getElem?_eq_getElem hjl] at hz
    cases hz; rfl
  · intro j u hj
    cases j with
    | zero =>
      simp only [List.getElem?_cons_zero, Option.some.injEq] at hj
      subst hj
      obtain ⟨b, o, sp⟩ := ad
      have hsp := World.cell?_spot hcell
      simp at hsp
      subst hsp
      rw [add_none]; exact hcell
    | succ j => simp at hj
  · intro v' w' ho hg'
    have how : OwnI e w.heap.size w' v' (xs ++ [y]) := by
      refine OwnI.mk_ (by simpa using ho) fun z hz => ?_
      rcases List.mem_append.1 hz with h | h
      · exact hall z h
      · rw [List.mem_singleton.1 h]; exact hy
    rcases how.form with ⟨_, h0⟩ | ⟨g, cap, rfl, _, _, _, _⟩
    · simp at h0
    · rw [List.length_append, List.length_singleton] at how ⊢
      exact hK g cap w' how ((Gr.refl w).grown hg' (fun k hk => by cases hk))
end
end Go.Tok
