/- Contracts of grow's place, link and one. -/
import Derived.Test.YtajmccjnoejmfaaGrowLaw
import Derived.Test.YtajmccjnoejmfaaPA
import Derived.Test.YtajmccjnoejmfaaGM
import Derived.BigQuiet
import Derived.Deep.QuietTactic
namespace Go.Proofs.Ytajmccjnoejmfaa
open Go.RowKit Go.Tok
set_option linter.unusedVariables false
/-- the grower at gb has s, its links at lv -/
structure GW (w0 w : World) (gb : Nat) (lv : Value) (s : GS) : Prop where
  blk : Blk w gb 73 #[.int .i64 s.places, lv]
  row : OwnR trK 76 w0.heap.size (fun b => w0.heap.size ≤ b ∧ b ≠ gb) w lv s.links
  gr : Gr w0 w
  lo : w0.heap.size ≤ gb
  ne : lv.ownBlock ≠ some gb
theorem GW.gr' {w0 w w' : World} {gb : Nat} {lv : Value} {s : GS} (h : GW w0 w gb lv s) (g : Gr w w') : GW w0 w' gb lv s := ⟨h.blk.gr g, h.row.gr g, h.gr.trans g, h.lo, h.ne⟩
/-- what was kept on the way -/
def GStep (gb : Nat) (lv lv' : Value) (w w' : World) : Prop := Kp (fun b => b ≠ gb ∧ lv.ownBlock ≠ some b) w w' ∧ ∀ k, lv'.ownBlock = some k → lv.ownBlock = some k ∨ w.heap.size ≤ k
theorem GStep.refl (gb : Nat) (lv : Value) (w : World) : GStep gb lv lv w w := ⟨Kp.refl _ _, fun k h => .inl h⟩
theorem GStep.of_gr {gb : Nat} {lv : Value} {w w' : World} (g : Gr w w') : GStep gb lv lv w w' := ⟨g.kp, fun k h => .inl h⟩
theorem kp_size {S : Nat → Prop} {w w' : World} (h : Kp S w w') : w.heap.size ≤ w'.heap.size := by unfold Kp at h; exact h.1
theorem kp_block {S : Nat → Prop} {w w' : World} (h : Kp S w w') : ∀ b, b < w.heap.size → S b → w'.heap[b]? = w.heap[b]? := by unfold Kp at h; exact h.2
theorem kp_mk {S : Nat → Prop} {w w' : World} (h1 : w.heap.size ≤ w'.heap.size) (h2 : ∀ b, b < w.heap.size → S b → w'.heap[b]? = w.heap[b]?) : Kp S w w' := by unfold Kp; exact ⟨h1, h2⟩
theorem GStep.trans {gb : Nat} {a b c : Value} {w1 w2 w3 : World} (h : GStep gb a b w1 w2) (k : GStep gb b c w2 w3) : GStep gb a c w1 w3 := by
  have hs := kp_size h.1
  refine ⟨kp_mk (Nat.le_trans hs (kp_size k.1)) fun x hx hc => ?_, fun x hx => ?_⟩
  · refine (kp_block k.1 x (Nat.lt_of_lt_of_le hx hs) ⟨hc.1, fun e => ?_⟩).trans (kp_block h.1 x hx hc)
    rcases h.2 x e with e | e
    · exact hc.2 e
    · omega
  · rcases k.2 x hx with e | e
    · exact h.2 x e
    · exact .inr (Nat.le_trans hs e)
/-- what hangs on none of the grower's blocks is kept -/
theorem GStep.on {w0 : World} {gb : Nat} {lv lv' : Value} {w w' : World} {p : World → Prop} (h : GStep gb lv lv' w w') (hp : On (fun b => w0.heap.size ≤ b ∧ b ≠ gb ∧ lv.ownBlock ≠ some b) p w) : On (fun b => w0.heap.size ≤ b ∧ b ≠ gb ∧ lv'.ownBlock ≠ some b) p w' := by
  refine hp.moved (kp_size h.1) fun b hb hs => ⟨⟨hs.1, hs.2.1, fun e => ?_⟩, kp_block h.1 b hb hs.2⟩
  rcases h.2 b e with e | e
  · exact hs.2.2 e
  · omega
theorem bodyPost_panic {P : Program} {fn : Func} {R : Ending → World → Prop} {a : Act} {w : World} {ch : List PanicEntry} (hd : a.defers = []) (h : R (.panicked ch) w) : bodyPost P fn R (.panic ch) a w := ⟨hd, h⟩
def fullP : List PanicEntry := [{ v := .iface 68 (.agg #[]), recovered := false }]
def RetG (w0 w : World) (gb : Nat) (lv : Value) (r : Option GS) (v : Value) (e : Ending) (w' : World) : Prop :=
  (∃ s' lv', r = some s' ∧ e = .returned v ∧ GW w0 w' gb lv' s' ∧ GStep gb lv lv' w w') ∨ (r = none ∧ e = .panicked fullP ∧ Gr w0 w')
theorem RetG.yes {w0 w w' : World} {gb : Nat} {lv lv' : Value} {r : Option GS} {s' : GS} {v : Value} (h : r = some s') (h1 : GW w0 w' gb lv' s') (h2 : GStep gb lv lv' w w') : RetG w0 w gb lv r v (.returned v) w' := .inl ⟨s', lv', h, rfl, h1, h2⟩
theorem RetG.no {w0 w w' : World} {gb : Nat} {lv : Value} {r : Option GS} {v : Value} (h : r = none) (g : Gr w0 w') : RetG w0 w gb lv r v (.panicked fullP) w' := .inr ⟨h, rfl, g⟩
theorem RetG.cases {w0 w w' : World} {gb : Nat} {lv : Value} {r : Option GS} {v : Value} {e : Ending} (h : RetG w0 w gb lv r v e w') : (∃ s' lv', r = some s' ∧ e = .returned v ∧ GW w0 w' gb lv' s' ∧ GStep gb lv lv' w w') ∨ (r = none ∧ e = .panicked fullP ∧ Gr w0 w') := h
attribute [irreducible] RetG
theorem GW.place {w0 w : World} {gb : Nat} {lv : Value} {s : GS} (h : GW w0 w gb lv s) (p : Int) : GW w0 (w.setCell ⟨gb, 0, none⟩ (.int .i64 p)) gb lv ⟨p, s.links⟩ :=
  ⟨h.blk.set 0 _, h.row.other h.ne (fun h => h.2 rfl) _, h.gr.setCell h.lo _, h.lo, h.ne⟩
theorem GStep.set {gb : Nat} {lv : Value} {w : World} (i : Nat) (u : Value) : GStep gb lv lv w (w.setCell ⟨gb, i, none⟩ u) := ⟨set_kp (fun h => h.1 rfl) _, fun k h => .inl h⟩
set_option maxHeartbeats 4000000 in
set_option maxRecDepth 100000 in
theorem place_calls {w0 w : World} {gb : Nat} {lv : Value} {s : GS} (h : GW w0 w gb lv s) (h0 : 0 ≤ s.places) (h1 : s.places ≤ 16) :
    Calls Try.prog 76 #[.pointer (some ⟨gb, 0, none⟩)] w (RetG w0 w gb lv (placeF s) (.int .i64 s.places)) := by
  have C0 := h.blk.cell (i := 0) (v := .int .i64 s.places) rfl
  have C1 := h.blk.cell (i := 1) (v := lv) rfl
  have F0 := h.blk.frozen 0
  have h2 := h.place (s.places + 1)
  have D0 := h2.blk.cell (i := 0) (v := .int .i64 (s.places + 1)) rfl
  by_cases hc : 16 < s.places + 1
  · have hn : placeF s = none := by unfold placeF; rw [if_pos hc]
    have HN := Lib.hid hn
    clear hn
    go_enter Try.func76, Try.ntmps76
    go_wp2_with fail
    refine bodyPost_panic rfl ?_
    exact RetG.no HN.out h2.gr
  · have hn : placeF s = some ⟨s.places + 1, s.links⟩ := by unfold placeF; rw [if_neg hc]
    have HN := Lib.hid hn
    clear hn
    go_enter Try.func76, Try.ntmps76
    go_wp2_with fail
    go_ret
    exact RetG.yes HN.out h2 (GStep.set _ _)
theorem cells_new (w : World) (cs : Array Value) (t : TypeId) : ∀ (j : Nat) (u : Value), cs.toList[j]? = some u → (w.alloc (.cells cs t)).cell? ((⟨w.heap.size, 0, none⟩ : Addr).add j) = some u := by
  intro j u hj
  rw [add_none, Nat.zero_add]
  exact box_cell (Gr.refl _) (by rw [← Array.getElem?_toList]; exact hj)
set_option maxRecDepth 100000 in
theorem linkTy : KTy Try.prog 71 76 trK 56 (.agg #[.int .i64 0, .slice none 0 0, .slice none 0 0]) := ⟨Try.underlying71, by kernel_rfl, by rfl, by decide⟩
set_option maxHeartbeats 4000000 in
set_option maxRecDepth 100000 in
theorem link_calls {w0 w : World} {gb : Nat} {lv p q : Value} {s : GS} {l : TranD} (h : GW w0 w gb lv s) (hl : s.links.length ≤ 24) (hI : I64 l.label) (hp : On (fun b => w0.heap.size ≤ b ∧ b ≠ gb ∧ lv.ownBlock ≠ some b) (fun w => Ints w p l.pre) w) (hq : On (fun b => w0.heap.size ≤ b ∧ b ≠ gb ∧ lv.ownBlock ≠ some b) (fun w => Ints w q l.post) w) :
    Calls Try.prog 75 #[.pointer (some ⟨gb, 0, none⟩), .int .i64 l.label, p, q] w (RetG w0 w gb lv (linkF l s) (.tuple #[])) := by
  obtain ⟨pa, pc, rfl, hp1, hp2⟩ := hp.now.len
  obtain ⟨qa, qc, rfl, hq1, hq2⟩ := hq.now.len
  obtain ⟨la, lc, rfl, hl1, hl2⟩ := h.row.len
  have C1 := h.blk.cell (i := 1) (v := .slice la s.links.length lc) rfl
  by_cases hc : s.links.length = 24
  · have hn : linkF l s = none := by unfold linkF; rw [if_pos hc]
    have HN := Lib.hid hn
    rw [hc] at C1
    clear hn
    go_enter Try.func75, Try.ntmps75
    go_wp2_with fail
    refine bodyPost_panic rfl ?_
    exact RetG.no HN.out h.gr
  · have hn : linkF l s = some ⟨s.places, s.links ++ [l]⟩ := by unfold linkF; rw [if_neg hc]
    have HN := Lib.hid hn
    have hc1 : ((s.links.length : Int) == 24) = false := by simp; omega
    clear hn hc
    have hb0 := h.gr.le
    go_enter Try.func75, Try.ntmps75
    go_wp2_with (at_builtin; go_loud (refine app_one linkTy _ _ w0.heap.size (fun b => w0.heap.size ≤ b ∧ b ≠ gb) (.slice la s.links.length lc) s.links ⟨w.heap.size, 0, none⟩ l [.int .i64 l.label, .slice pa l.pre.length pc, .slice qa l.post.length qc] (by rfl) (by rfl) (by rfl) (by rfl) (h.row.alloc _) (cells_new _ #[.int .i64 l.label, .slice pa l.pre.length pc, .slice qa l.post.length qc] _) ((((hp.and hq).imp fun w h => ⟨_, _, rfl, hI, h.1, h.2⟩).mono fun b _ h => ⟨⟨h.1, h.2.1⟩, h.2.2⟩).gr ((Gr.refl _).alloc _)) (by omega) (by unfold maxLen; omega) (by simp; omega) ?_; intro v' w1 ho hgs hgb hat; have bk := (h.blk.gr ((Gr.refl _).alloc _)).grown hgb (fun e => h.ne e.symm); have f1 := bk.frozen 1; have d1 := bk.cell (i := 1) (v := .slice la s.links.length lc) rfl; obtain ⟨a1, c1, rfl, hm1, hm2⟩ := ho.len))
    rw [show s.links.length + 1 = (s.links ++ [l]).length by simp]
    have hgl := h.blk.lt
    have hne : (Value.slice a1 (s.links ++ [l]).length c1).ownBlock ≠ some gb := fun e => by
      rcases hat with e' | e'
      · rw [e] at e'; exact h.ne e'.symm
      · rw [e] at e'
        simp at e'
        omega
    refine bodyPost_end (results_none rfl _ _ _) rfl ?_
    refine RetG.yes HN.out ⟨bk.set 1 _, ho.other hne (fun h => h.2 rfl) _, (hgs w0 (Nat.le_refl _) (h.gr.alloc _)).setCell h.lo _, h.lo, hne⟩ ?_
    refine ((GStep.of_gr ((Gr.refl _).alloc _)).trans ⟨grown_kp hgb fun b hb e => hb.2 e.symm, fun k e => ?_⟩).trans (GStep.set 1 _)
    rcases hat with e' | e'
    · rw [e] at e'; exact .inl e'.symm
    · rw [e] at e'
      refine .inr ?_
      have := Option.some.inj e'
      omega
set_option maxHeartbeats 1000000 in
set_option maxRecDepth 100000 in
theorem grow1_calls (p : Int) (w : World) (hp : I64 p) : Calls Try.prog 74 #[.int .i64 p] w fun e w' => ∃ v, e = .returned v ∧ OwnI 3 w.heap.size w' v [p] ∧ Gr w w' := by
  go_enter Try.func74, Try.ntmps74
  go_wp2_with fail
  go_ret
  refine ⟨_, rfl, OwnI.lit rfl rfl rfl rfl (fun x hx => by rw [List.mem_singleton.1 hx]; exact hp) (by simp) (Nat.le_refl _), (Gr.refl _).alloc _⟩
end Go.Proofs.Ytajmccjnoejmfaa
