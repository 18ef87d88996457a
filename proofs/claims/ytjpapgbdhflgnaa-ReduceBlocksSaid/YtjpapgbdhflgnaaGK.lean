/- Contracts of grow's place, link and one. -/
import Derived.Test.YtjpapgbdhflgnaaGrowLaw
import Derived.Test.YtjpapgbdhflgnaaPA
import Derived.Test.YtjpapgbdhflgnaaGM
import Derived.BigQuiet
import Derived.Deep.QuietTactic
import Derived.Test.YtjpapgbdhflgnaaPC
namespace Go.Proofs.Ytjpapgbdhflgnaa
open Go.RowKit Go.Tok
set_option linter.unusedVariables false
/-- the grower at gb has s, its links at lv -/
structure GW (w0 w : World) (gb : Nat) (lv : Value) (s : GS) : Prop where
  blk : Blk w gb 56 #[.int .i64 s.places, lv]
  row : OwnR trK 59 w0.heap.size (fun b => w0.heap.size ≤ b ∧ b ≠ gb) w lv s.links
  gr : Gr w0 w
  lo : w0.heap.size ≤ gb
  ne : lv.ownBlock ≠ some gb
theorem GW.gr' {w0 w w' : World} {gb : Nat} {lv : Value} {s : GS} (h : GW w0 w gb lv s) (g : Gr w w') : GW w0 w' gb lv s := ⟨h.blk.gr g, h.row.gr g, h.gr.trans g, h.lo, h.ne⟩
/-- what was kept on the way -/
def GStep (gb : Nat) (lv lv' : Value) (w w' : World) : Prop := Kp (fun b => b ≠ gb ∧ lv.ownBlock ≠ some b) w w' ∧ ∀ k, lv'.ownBlock = some k → lv.ownBlock = some k ∨ w.heap.size ≤ k
theorem GStep.refl (gb : Nat) (lv : Value) (w : World) : GStep gb lv lv w w := ⟨Kp.refl _ _, fun k h => .inl h⟩
theorem GStep.of_gr {gb : Nat} {lv : Value} {w w' : World} (g : Gr w w') : GStep gb lv lv w w' := ⟨g.kp, fun k h => .inl h⟩
theorem kp_size {S : Nat → Prop} {w w' : World} (h : Kp S w w') : w.heap.size ≤ w'.heap.size := by unfold Kp at h; exact h.1
theorem kp_block {S : Nat → Prop} {w w' : World} (h : Kp S w w') : ∀ b, b < w.heap.size → S b → w'.heap[b]? = w.heap[b]? := by unfold Kp at h; exact h.2
theorem kp_mk {S : Nat → Prop} {w w' : World} (h1 : w.heap.size ≤ w'.heap.size) (h2 : ∀ b, b < w.heap.size → S b → w'.heap[b]? = w.heap[b]?) : Kp S w w' := by unfold Kp; exact ⟨h1, h2⟩
theorem GStep.trans {gb : Nat} {a b c : Value} {w1 w2 w3 : World} (h : GStep gb a b w1 w2) (k : GStep gb b c w2 w3) : GStep gb a c w1 w3 := by
  have hs := kp_size h.1
  refine ⟨kp_mk (Nat.le_trans hs (kp_size k.1)) fun x hx hc => ?_, fun x hx => ?_⟩
  · refine (kp_block k.1 x (Nat.lt_of_lt_of_le hx hs) ⟨hc.1, fun e => ?_⟩).trans (kp_block h.1 x hx hc)
    rcases h.2 x e with e | e
    · exact hc.2 e
    · omega
  · rcases k.2 x hx with e | e
    · exact h.2 x e
    · exact .inr (Nat.le_trans hs e)
/-- what hangs on none of the grower's blocks is kept -/
theorem GStep.on {w0 : World} {gb : Nat} {lv lv' : Value} {w w' : World} {p : World → Prop} (h : GStep gb lv lv' w w') (hp : On (fun b => w0.heap.size ≤ b ∧ b ≠ gb ∧ lv.ownBlock ≠ some b) p w) : On (fun b => w0.heap.size ≤ b ∧ b ≠ gb ∧ lv'.ownBlock ≠ some b) p w' := by
  refine hp.moved (kp_size h.1) fun b hb hs => ⟨⟨hs.1, hs.2.1, fun e => ?_⟩, kp_block h.1 b hb hs.2⟩
  rcases h.2 b e with e | e
  · exact hs.2.2 e
  · omega
theorem bodyPost_panic {P : Program} {fn : Func} {R : Ending → World → Prop} {a : Act} {w : World} {ch : List PanicEntry} (hd : a.defers = []) (h : R (.panicked ch) w) : bodyPost P fn R (.panic ch) a w := ⟨hd, h⟩
def fullP : List PanicEntry := [{ v := .iface 51 (.agg #[]), recovered := false }]
def RetG (w0 w : World) (gb : Nat) (lv : Value) (r : Option GS) (v : Value) (e : Ending) (w' : World) : Prop :=
  (∃ s' lv', r = some s' ∧ e = .returned v ∧ GW w0 w' gb lv' s' ∧ GStep gb lv lv' w w') ∨ (r = none ∧ e = .panicked fullP ∧ Gr w0 w')
theorem RetG.yes {w0 w w' : World} {gb : Nat} {lv lv' : Value} {r : Option GS} {s' : GS} {v : Value} (h : r = some s') (h1 : GW w0 w' gb lv' s') (h2 : GStep gb lv lv' w w') : RetG w0 w gb lv r v (.returned v) w' := .inl ⟨s', lv', h, rfl, h1, h2⟩
theorem RetG.no {w0 w w' : World} {gb : Nat} {lv : Value} {r : Option GS} {v : Value} (h : r = none) (g : Gr w0 w') : RetG w0 w gb lv r v (.panicked fullP) w' := .inr ⟨h, rfl, g⟩
theorem RetG.cases {w0 w w' : World} {gb : Nat} {lv : Value} {r : Option GS} {v : Value} {e : Ending} (h : RetG w0 w gb lv r v e w') : (∃ s' lv', r = some s' ∧ e = .returned v ∧ GW w0 w' gb lv' s' ∧ GStep gb lv lv' w w') ∨ (r = none ∧ e = .panicked fullP ∧ Gr w0 w') := h
attribute [irreducible] RetG
theorem GW.place {w0 w : World} {gb : Nat} {lv : Value} {s : GS} (h : GW w0 w gb lv s) (p : Int) : GW w0 (w.setCell ⟨gb, 0, none⟩ (.int .i64 p)) gb lv ⟨p, s.links⟩ :=
  ⟨h.blk.set 0 _, h.row.other h.ne (fun h => h.2 rfl) _, h.gr.setCell h.lo _, h.lo, h.ne⟩
theorem GStep.set {gb : Nat} {lv : Value} {w : World} (i : Nat) (u : Value) : GStep gb lv lv w (w.setCell ⟨gb, i, none⟩ u) := ⟨set_kp (fun h => h.1 rfl) _, fun k h => .inl h⟩
set_option maxHeartbeats 4000000 in
set_option maxRecDepth 100000 in
theorem place_calls {w0 w : World} {gb : Nat} {lv : Value} {s : GS} (h : GW w0 w gb lv s) (h0 : 0 ≤ s.places) (h1 : s.places ≤ 16) :
    Calls Try.prog 42 #[.pointer (some ⟨gb, 0, none⟩)] w (RetG w0 w gb lv (placeF s) (.int .i64 s.places)) := by
  have C0 := h.blk.cell (i := 0) (v := .int .i64 s.places) rfl
  have C1 := h.blk.cell (i := 1) (v := lv) rfl
  have F0 := h.blk.frozen 0
  have h2 := h.place (s.places + 1)
  have D0 := h2.blk.cell (i := 0) (v := .int .i64 (s.places + 1)) rfl
  by_cases hc : 16 < s.places + 1
  · have hn : placeF s = none := by unfold placeF; rw [if_pos hc]
    have HN := Lib.hid hn
    clear hn
    go_enter Try.func42, Try.ntmps42
    go_wp2_with fail
    refine bodyPost_panic rfl ?_
    exact RetG.no HN.out h2.gr
  · have hn : placeF s = some ⟨s.places + 1, s.links⟩ := by unfold placeF; rw [if_neg hc]
    have HN := Lib.hid hn
    clear hn
    go_enter Try.func42, Try.ntmps42
    go_wp2_with fail
    go_ret
    exact RetG.yes HN.out h2 (GStep.set _ _)
theorem cells_new (w : World) (cs : Array Value) (t : TypeId) : ∀ (j : Nat) (u : Value), cs.toList[j]? = some u → (w.alloc (.cells cs t)).cell? ((⟨w.heap.size, 0, none⟩ : Addr).add j) = some u := by
  intro j u hj
  rw [add_none, Nat.zero_add]
  exact box_cell (Gr.refl _) (by rw [← Array.getElem?_toList]; exact hj)
set_option maxRecDepth 100000 in
theorem linkTy : KTy Try.prog 54 59 trK 56 (.agg #[.int .i64 0, .slice none 0 0, .slice none 0 0]) := ⟨Try.underlying54, by kernel_rfl, by rfl, by decide⟩
set_option maxHeartbeats 4000000 in
set_option maxRecDepth 100000 in
theorem link_calls {w0 w : World} {gb : Nat} {lv p q : Value} {s : GS} {l : TranD} (h : GW w0 w gb lv s) (hl : s.links.length ≤ 24) (hI : I64 l.label) (hp : On (fun b => w0.heap.size ≤ b ∧ b ≠ gb ∧ lv.ownBlock ≠ some b) (fun w => Ints w p l.pre) w) (hq : On (fun b => w0.heap.size ≤ b ∧ b ≠ gb ∧ lv.ownBlock ≠ some b) (fun w => Ints w q l.post) w) :
    Calls Try.prog 41 #[.pointer (some ⟨gb, 0, none⟩), .int .i64 l.label, p, q] w (RetG w0 w gb lv (linkF l s) (.tuple #[])) := by
  obtain ⟨pa, pc, rfl, hp1, hp2⟩ := hp.now.len
  obtain ⟨qa, qc, rfl, hq1, hq2⟩ := hq.now.len
  obtain ⟨la, lc, rfl, hl1, hl2⟩ := h.row.len
  have C1 := h.blk.cell (i := 1) (v := .slice la s.links.length lc) rfl
  by_cases hc : s.links.length = 24
  · have hn : linkF l s = none := by unfold linkF; rw [if_pos hc]
    have HN := Lib.hid hn
    rw [hc] at C1
    clear hn
    go_enter Try.func41, Try.ntmps41
    go_wp2_with fail
    refine bodyPost_panic rfl ?_
    exact RetG.no HN.out h.gr
  · have hn : linkF l s = some ⟨s.places, s.links ++ [l]⟩ := by unfold linkF; rw [if_neg hc]
    have HN := Lib.hid hn
    have hc1 : ((s.links.length : Int) == 24) = false := by simp; omega
    clear hn hc
    have hb0 := h.gr.le
    go_enter Try.func41, Try.ntmps41
    go_wp2_with (at_builtin; go_loud (refine app_one linkTy _ _ w0.heap.size (fun b => w0.heap.size ≤ b ∧ b ≠ gb) (.slice la s.links.length lc) s.links ⟨w.heap.size, 0, none⟩ l [.int .i64 l.label, .slice pa l.pre.length pc, .slice qa l.post.length qc] (by rfl) (by rfl) (by rfl) (by rfl) (h.row.alloc _) (cells_new _ #[.int .i64 l.label, .slice pa l.pre.length pc, .slice qa l.post.length qc] _) ((((hp.and hq).imp fun w h => ⟨_, _, rfl, hI, h.1, h.2⟩).mono fun b _ h => ⟨⟨h.1, h.2.1⟩, h.2.2⟩).gr ((Gr.refl _).alloc _)) (by omega) (by unfold maxLen; omega) (by simp; omega) ?_; intro v' w1 ho hgs hgb hat; have bk := (h.blk.gr ((Gr.refl _).alloc _)).grown hgb (fun e => h.ne e.symm); have f1 := bk.frozen 1; have d1 := bk.cell (i := 1) (v := .slice la s.links.length lc) rfl; obtain ⟨a1, c1, rfl, hm1, hm2⟩ := ho.len))
    rw [show s.links.length + 1 = (s.links ++ [l]).length by simp]
    have hgl := h.blk.lt
    have hne : (Value.slice a1 (s.links ++ [l]).length c1).ownBlock ≠ some gb := fun e => by
      rcases hat with e' | e'
      · rw [e] at e'; exact h.ne e'.symm
      · rw [e] at e'
        simp at e'
        omega
    refine bodyPost_end (results_none rfl _ _ _) rfl ?_
    refine RetG.yes HN.out ⟨bk.set 1 _, ho.other hne (fun h => h.2 rfl) _, (hgs w0 (Nat.le_refl _) (h.gr.alloc _)).setCell h.lo _, h.lo, hne⟩ ?_
    refine ((GStep.of_gr ((Gr.refl _).alloc _)).trans ⟨grown_kp hgb fun b hb e => hb.2 e.symm, fun k e => ?_⟩).trans (GStep.set 1 _)
    rcases hat with e' | e'
    · rw [e] at e'; exact .inl e'.symm
    · rw [e] at e'
      refine .inr ?_
      have := Option.some.inj e'
      omega
set_option maxHeartbeats 1000000 in
set_option maxRecDepth 100000 in
theorem grow1_calls (p : Int) (w : World) (hp : I64 p) : Calls Try.prog 40 #[.int .i64 p] w fun e w' => ∃ v, e = .returned v ∧ OwnI 3 w.heap.size w' v [p] ∧ Gr w w' := by
  go_enter Try.func40, Try.ntmps40
  go_wp2_with fail
  go_ret
  refine ⟨_, rfl, OwnI.lit rfl rfl rfl rfl (fun x hx => by rw [List.mem_singleton.1 hx]; exact hp) (by simp) (Nat.le_refl _), (Gr.refl _).alloc _⟩
end Go.Proofs.Ytjpapgbdhflgnaa

/- Contract of grow.grow, kind by kind: leaves, choices, one behind the other. -/
namespace Go.Proofs.Ytjpapgbdhflgnaa
open Go.RowKit Go.Tok
set_option linter.unusedVariables false
def KidsR (n : Nat) (w0 : World) (sl : Value) (b : BlockD) : Prop := ∃ m, n = m + 1 ∧ Rd (blkK m) w0 sl b.kids
def GrowC (w0 : World) (gb n : Nat) : Prop := ∀ (b : BlockD) (a : Option Addr) (cap : Nat) (w : World) (lv : Value) (s : GS) (f t : Int), OkB n b → KidsR n w0 (.slice a b.kids.length cap) b → GW w0 w gb lv s → GOk s → 0 ≤ f → f < s.places → 0 ≤ t → t < s.places →
  Calls Try.prog 17 #[.pointer (some ⟨gb, 0, none⟩), .agg #[.int .i64 b.kind, .int .i64 b.label, .slice a b.kids.length cap], .int .i64 f, .int .i64 t] w (RetG w0 w gb lv (growF n b f t s) (.tuple #[]))
/-- kid i, at a later world -/
theorem kid_in {n : Nat} {w0 w : World} {a : Option Addr} {l cap : Nat} {ks : List BlockD} (h : Rd (blkK n) w0 (.slice a l cap) ks) (g : Gr w0 w) {i : Nat} (hi : i < ks.length) :
    ∃ p o ka kc, a = some ⟨p, o, none⟩ ∧ w.cell? ⟨p, o + i * 3, none⟩ = some (.int .i64 (ix ks i).kind) ∧ w.cell? ⟨p, o + i * 3 + 1, none⟩ = some (.int .i64 (ix ks i).label) ∧ w.cell? ⟨p, o + i * 3 + 2, none⟩ = some (.slice ka (ix ks i).kids.length kc) ∧ KidsR n w0 (.slice ka (ix ks i).kids.length kc) (ix ks i) := by
  obtain ⟨m, p, o, s, rfl, rfl, c0, c1, c2, hr⟩ := kid_at h hi
  obtain ⟨_, _, ka, kc, e, _, _, hk⟩ := hr.open_
  obtain rfl : s = .slice ka (ix ks i).kids.length kc := by
    have := congrArg (fun v => match v with | .agg cs => cs[2]? | _ => none) e
    simpa using this
  exact ⟨p, o, ka, kc, rfl, cell_gr c0 g, cell_gr c1 g, cell_gr c2 g, m, rfl, hk⟩
theorem GW.lt {w0 w : World} {gb : Nat} {lv : Value} {s : GS} (h : GW w0 w gb lv s) {base : Nat} (hb : w.heap.size ≤ base) : gb < base ∧ ∀ k, lv.ownBlock = some k → k < base := ⟨Nat.lt_of_lt_of_le h.blk.lt hb, fun k hk => Nat.lt_of_lt_of_le (h.row.lt hk).2 hb⟩
/-- a row made behind hangs on none of the grower's blocks -/
theorem fresh_on {w0 : World} {e base gb : Nat} {w : World} {lv v : Value} {xs : List Int} (hlo : w0.heap.size ≤ gb) (h : OwnI e base w v xs) (hb : gb < base ∧ ∀ k, lv.ownBlock = some k → k < base) : On (fun b => w0.heap.size ≤ b ∧ b ≠ gb ∧ lv.ownBlock ≠ some b) (fun w => Ints w v xs) w :=
  (Ints.on_fresh h).mono fun b _ hs => ⟨by omega, by omega, fun e => by have := hb.2 b e; omega⟩
theorem i64_place {s : GS} {p : Int} (h : GOk s) (h0 : 0 ≤ p) (h1 : p < s.places) : I64 p := by have := h.hi; unfold I64; omega
set_option maxHeartbeats 4000000 in
set_option maxRecDepth 100000 in
/-- a link from one place to one -/
theorem grow_leaf {w0 : World} {gb : Nat} {n : Nat} {b : BlockD} {a : Option Addr} {cap : Nat} {w : World} {lv : Value} {s : GS} {f t : Int} (hk : b.kind = 1 ∨ b.kind = 2) (hb : OkB (n + 1) b) (h : GW w0 w gb lv s) (ok : GOk s) (hf0 : 0 ≤ f) (hf1 : f < s.places) (ht0 : 0 ≤ t) (ht1 : t < s.places) :
    Calls Try.prog 17 #[.pointer (some ⟨gb, 0, none⟩), .agg #[.int .i64 b.kind, .int .i64 b.label, .slice a b.kids.length cap], .int .i64 f, .int .i64 t] w (RetG w0 w gb lv (growF (n + 1) b f t s) (.tuple #[])) := by
  have hIf := i64_place ok hf0 hf1
  have hIt := i64_place ok ht0 ht1
  have hlen := ok.len
  obtain ⟨lab, hlab, hg⟩ : ∃ lab, lab = (if b.kind = 1 then 0 else b.label) ∧ growF (n + 1) b f t s = linkF ⟨lab, [f], [t]⟩ s := by
    refine ⟨_, rfl, ?_⟩
    rcases hk with e | e <;> simp [growF, e]
  have hI : I64 lab := by
    have := hb.2.2.1
    unfold I64
    rw [hlab]
    split
    · omega
    · have := this (by omega); omega
  rw [hg]
  clear hg hb
  have GB := (Gr.refl w).alloc (.cells #[.int .i64 b.kind, .int .i64 b.label, .slice a b.kids.length cap] 24)
  have b0 : (w.alloc (.cells #[.int .i64 b.kind, .int .i64 b.label, .slice a b.kids.length cap] 24)).cell? ⟨w.heap.size, 0, none⟩ = some (.int .i64 b.kind) := box_cell (Gr.refl _) (i := 0) rfl
  have b1 : (w.alloc (.cells #[.int .i64 b.kind, .int .i64 b.label, .slice a b.kids.length cap] 24)).cell? ⟨w.heap.size, 1, none⟩ = some (.int .i64 b.label) := box_cell (Gr.refl _) (i := 1) rfl
  rcases hk with e | e
  · rw [if_pos e] at hlab
    subst hlab
    rw [e] at b0 GB b1 ⊢
    go_enter Try.func17, Try.ntmps17
    go_wp2_with fail
    refine (grow1_calls f _ hIf).mono ?_
    rintro _ w1 ⟨v1, rfl, o1, g1⟩
    go_wp2_with fail
    refine (grow1_calls t _ hIt).mono ?_
    rintro _ w2 ⟨v2, rfl, o2, g2⟩
    have GG := (GB.trans g1).trans g2
    have hlt1 := h.lt (Gr.le GB)
    have hlt2 := h.lt (Gr.le (GB.trans g1))
    go_wp2_with fail
    refine (link_calls (l := ⟨0, [f], [t]⟩) (h.gr' GG) hlen hI (fresh_on h.lo (o1.gr g2) hlt1) (fresh_on h.lo o2 hlt2)).mono ?_
    rintro _ w3 hr
    rcases hr.cases with ⟨s', lv', h1, rfl, h2, h3⟩ | ⟨h1, rfl, h2⟩
    · have H1 := Lib.hid h1
      clear h1
      go_wp2_with fail
      refine bodyPost_end (results_none rfl _ _ _) rfl ?_
      exact RetG.yes H1.out h2 ((GStep.of_gr GG).trans h3)
    · have H1 := Lib.hid h1
      clear h1
      go_wp2_with fail
      refine bodyPost_panic rfl ?_
      exact RetG.no H1.out h2
  · rw [if_neg (by omega)] at hlab
    subst hlab
    rw [e] at b0 GB b1 ⊢
    go_enter Try.func17, Try.ntmps17
    go_wp2_with fail
    refine (grow1_calls f _ hIf).mono ?_
    rintro _ w1 ⟨v1, rfl, o1, g1⟩
    go_wp2_with fail
    refine (grow1_calls t _ hIt).mono ?_
    rintro _ w2 ⟨v2, rfl, o2, g2⟩
    have GG := (GB.trans g1).trans g2
    have hlt1 := h.lt (Gr.le GB)
    have hlt2 := h.lt (Gr.le (GB.trans g1))
    go_wp2_with fail
    refine (link_calls (l := ⟨b.label, [f], [t]⟩) (h.gr' GG) hlen hI (fresh_on h.lo (o1.gr g2) hlt1) (fresh_on h.lo o2 hlt2)).mono ?_
    rintro _ w3 hr
    rcases hr.cases with ⟨s', lv', h1, rfl, h2, h3⟩ | ⟨h1, rfl, h2⟩
    · have H1 := Lib.hid h1
      clear h1
      go_wp2_with fail
      refine bodyPost_end (results_none rfl _ _ _) rfl ?_
      exact RetG.yes H1.out h2 ((GStep.of_gr GG).trans h3)
    · have H1 := Lib.hid h1
      clear h1
      go_wp2_with fail
      refine bodyPost_panic rfl ?_
      exact RetG.no H1.out h2
theorem choice_step {f : GF} {ks : List BlockD} {x y : Int} {s : GS} {k : Nat} (h : k < ks.length) : choiceF f (ks.drop k) x y s = (f (ix ks k) x y s).bind fun s1 => choiceF f (ks.drop (k + 1)) x y s1 := by
  rw [drop_ix h, choiceF]
set_option maxHeartbeats 4000000 in
set_option maxRecDepth 100000 in
theorem grow_choice {w0 : World} {gb : Nat} {n : Nat} (ih : GrowC w0 gb n) {b : BlockD} {a : Option Addr} {cap : Nat} {w : World} {lv : Value} {s : GS} {f t : Int} (hk : b.kind = 4) (hb : OkB (n + 1) b) (hB : Rd (blkK n) w0 (.slice a b.kids.length cap) b.kids) (h : GW w0 w gb lv s) (ok : GOk s) (hf0 : 0 ≤ f) (hf1 : f < s.places) (ht0 : 0 ≤ t) (ht1 : t < s.places) :
    Calls Try.prog 17 #[.pointer (some ⟨gb, 0, none⟩), .agg #[.int .i64 b.kind, .int .i64 b.label, .slice a b.kids.length cap], .int .i64 f, .int .i64 t] w (RetG w0 w gb lv (growF (n + 1) b f t s) (.tuple #[])) := by
  have hg : growF (n + 1) b f t s = choiceF (growF n) b.kids f t s := by rw [growF, if_neg (by omega), if_neg (by omega), if_neg (by omega), if_pos hk]
  have hkids : ∀ k ∈ b.kids, OkB n k := hb.2.2.2.2.2.2
  obtain ⟨_, _, e, hcl, hcm⟩ := hB.len
  cases e
  have HG := Lib.hid hg
  have HK := Lib.hid hkids
  clear hg hb hkids
  have GB := (Gr.refl w).alloc (.cells #[.int .i64 b.kind, .int .i64 b.label, .slice a b.kids.length cap] 24)
  have b0 : (w.alloc (.cells #[.int .i64 b.kind, .int .i64 b.label, .slice a b.kids.length cap] 24)).cell? ⟨w.heap.size, 0, none⟩ = some (.int .i64 b.kind) := box_cell (Gr.refl _) (i := 0) rfl
  have b2 : (w.alloc (.cells #[.int .i64 b.kind, .int .i64 b.label, .slice a b.kids.length cap] 24)).cell? ⟨w.heap.size, 2, none⟩ = some (.slice a b.kids.length cap) := box_cell (Gr.refl _) (i := 2) rfl
  rw [hk] at b0 GB b2 ⊢
  go_enter Try.func17, Try.ntmps17
  go_wp2_with fail
  go_loopw [80] (fun i wr => ∃ (k : Nat) (s' : GS) (lv' : Value), i = .int .i64 k ∧ k ≤ b.kids.length ∧ GW w0 wr gb lv' s' ∧ GStep gb lv lv' w wr ∧ GOk s' ∧ s.places ≤ s'.places ∧ growF (n + 1) b f t s = choiceF (growF n) (b.kids.drop k) f t s') (fun i _ => b.kids.length - (intOf i).toNat)
  case atStart => exact ⟨0, s, lv, rfl, Nat.zero_le _, h.gr' GB, GStep.of_gr GB, ok, Int.le_refl _, by rw [List.drop_zero]; exact HG.out⟩
  case round =>
    rename World => wr
    obtain ⟨k, s', lv', rfl, hkl, hw, hst, ok', hpl, hR⟩ := hrel
    have HR := Lib.hid hR
    clear hR
    by_cases hlt : k < b.kids.length
    · obtain ⟨p, o, ka, kc, rfl, c0, c1, c2, hkr⟩ := kid_in hB hw.gr hlt
      have hkI : (k : Int) < (b.kids.length : Int) := by omega
      have GA := (Gr.refl wr).alloc (.cells #[.int .i64 (ix b.kids k).kind, .int .i64 (ix b.kids k).label, .slice ka (ix b.kids k).kids.length kc] 24)
      have A0 : (wr.alloc (.cells #[.int .i64 (ix b.kids k).kind, .int .i64 (ix b.kids k).label, .slice ka (ix b.kids k).kids.length kc] 24)).cell? ⟨wr.heap.size, 0, none⟩ = some (.int .i64 (ix b.kids k).kind) := box_cell (Gr.refl _) (i := 0) rfl
      have A1 : (wr.alloc (.cells #[.int .i64 (ix b.kids k).kind, .int .i64 (ix b.kids k).label, .slice ka (ix b.kids k).kids.length kc] 24)).cell? ⟨wr.heap.size, 1, none⟩ = some (.int .i64 (ix b.kids k).label) := box_cell (Gr.refl _) (i := 1) rfl
      have A2 : (wr.alloc (.cells #[.int .i64 (ix b.kids k).kind, .int .i64 (ix b.kids k).label, .slice ka (ix b.kids k).kids.length kc] 24)).cell? ⟨wr.heap.size, 2, none⟩ = some (.slice ka (ix b.kids k).kids.length kc) := box_cell (Gr.refl _) (i := 2) rfl
      have hcall := ih (ix b.kids k) ka kc _ lv' s' f t (HK.out _ (ix_mem hlt)) hkr (hw.gr' GA) ok' hf0 (by omega) ht0 (by omega)
      have HKeep := Lib.hid (fun s1 e => grow_keep n (ix b.kids k) f t s' s1 (HK.out _ (ix_mem hlt)) ok' hf0 (by omega) ht0 (by omega) e)
      go_wp2_with fail
      refine hcall.mono ?_
      rintro _ w3 hr
      rcases hr.cases with ⟨s1, lv1, h1, rfl, h2, h3⟩ | ⟨h1, rfl, h2⟩
      · have hk1 := HKeep.out s1 h1
        have H1 := Lib.hid h1
        clear h1 hcall
        go_wp2_with fail
        go_roundw
        case rel => exact ⟨k + 1, s1, lv1, by go_num, by omega, h2, (hst.trans (GStep.of_gr GA)).trans h3, hk1.1, by omega, by rw [HR.out, choice_step hlt, H1.out]; rfl⟩
        case measure => simp [intOf]; omega
      · have H1 := Lib.hid h1
        clear h1 hcall
        go_wp2_with fail
        refine bodyPost_panic rfl ?_
        exact RetG.no (by rw [HR.out, choice_step hlt, H1.out]; rfl) h2
    · obtain rfl : k = b.kids.length := by omega
      go_wp2_with fail
      refine bodyPost_end (results_none rfl _ _ _) rfl ?_
      exact RetG.yes (by rw [HR.out, List.drop_length]; rfl) hw hst
theorem seq_step {f : GF} {ks : List BlockD} {x y : Int} {s : GS} {k : Nat} (h : k + 1 < ks.length) : seqF f (ks.drop k) x y s = (placeF s).bind fun s1 => (f (ix ks k) x s.places s1).bind fun s2 => seqF f (ks.drop (k + 1)) s.places y s2 := by
  rw [drop_ix (show k < ks.length by omega), drop_ix h, seqF, ← drop_ix h]
theorem seq_last {f : GF} {ks : List BlockD} {x y : Int} {s : GS} {k : Nat} (h : k + 1 = ks.length) : seqF f (ks.drop k) x y s = f (ix ks k) x y s := by
  rw [drop_ix (show k < ks.length by omega), List.drop_eq_nil_of_le (by omega), seqF]
set_option maxHeartbeats 4000000 in
set_option maxRecDepth 100000 in
theorem grow_seq {w0 : World} {gb : Nat} {n : Nat} (ih : GrowC w0 gb n) {b : BlockD} {a : Option Addr} {cap : Nat} {w : World} {lv : Value} {s : GS} {f t : Int} (hk : b.kind = 3) (hb : OkB (n + 1) b) (hB : Rd (blkK n) w0 (.slice a b.kids.length cap) b.kids) (h : GW w0 w gb lv s) (ok : GOk s) (hf0 : 0 ≤ f) (hf1 : f < s.places) (ht0 : 0 ≤ t) (ht1 : t < s.places) :
    Calls Try.prog 17 #[.pointer (some ⟨gb, 0, none⟩), .agg #[.int .i64 b.kind, .int .i64 b.label, .slice a b.kids.length cap], .int .i64 f, .int .i64 t] w (RetG w0 w gb lv (growF (n + 1) b f t s) (.tuple #[])) := by
  have hg : growF (n + 1) b f t s = seqF (growF n) b.kids f t s := by simp [growF, hk]
  have hkids : ∀ k ∈ b.kids, OkB n k := hb.2.2.2.2.2.2
  have hne : b.kids ≠ [] := hb.2.2.2.2.1 (by omega)
  obtain ⟨L, hL⟩ : ∃ L, b.kids.length = L + 1 := ⟨b.kids.length - 1, by cases hx : b.kids with
    | nil => exact absurd hx hne
    | cons => simp⟩
  obtain ⟨_, _, e, hcl, hcm⟩ := hB.len
  cases e
  obtain ⟨gp, go, ka0, kc0, hadd, _⟩ := kid_in hB (Gr.refl _) (i := 0) (by omega)
  subst hadd
  have HG := Lib.hid hg
  have HK := Lib.hid hkids
  have HL := Lib.hid hL
  have hL1 : (b.kids.length : Int) - 1 = (L : Int) := by omega
  have hLc : (L : Int) ≤ (cap : Int) := by omega
  clear hg hb hkids hne
  have GB := (Gr.refl w).alloc (.cells #[.int .i64 b.kind, .int .i64 b.label, .slice (some ⟨gp, go, none⟩) b.kids.length cap] 24)
  have b0 : (w.alloc (.cells #[.int .i64 b.kind, .int .i64 b.label, .slice (some ⟨gp, go, none⟩) b.kids.length cap] 24)).cell? ⟨w.heap.size, 0, none⟩ = some (.int .i64 b.kind) := box_cell (Gr.refl _) (i := 0) rfl
  have b2 : (w.alloc (.cells #[.int .i64 b.kind, .int .i64 b.label, .slice (some ⟨gp, go, none⟩) b.kids.length cap] 24)).cell? ⟨w.heap.size, 2, none⟩ = some (.slice (some ⟨gp, go, none⟩) b.kids.length cap) := box_cell (Gr.refl _) (i := 2) rfl
  rw [hk] at b0 GB b2 ⊢
  rw [hL] at b0 GB b2 ⊢
  have hLb : L + 1 ≤ cap := by omega
  clear hL hL1
  go_enter Try.func17, Try.ntmps17
  go_wp2_with fail
  have hbx := h.lt (Nat.le_refl w.heap.size)
  go_loopw [2, 50] (fun fv i wr => ∃ (k : Nat) (s' : GS) (lv' : Value) (x : Int), fv = .int .i64 x ∧ i = .int .i64 k ∧ k ≤ L ∧ GW w0 wr gb lv' s' ∧ GStep gb lv lv' (w.alloc (.cells #[.int .i64 3, .int .i64 b.label, .slice (some ⟨gp, go, none⟩) (L + 1) cap] 24)) wr ∧ GOk s' ∧ s.places ≤ s'.places ∧ 0 ≤ x ∧ x < s'.places ∧ growF (n + 1) b f t s = seqF (growF n) (b.kids.drop k) x t s') (fun _ i _ => L - (intOf i).toNat)
  case atStart => exact ⟨0, s, lv, f, rfl, rfl, Nat.zero_le _, h.gr' GB, GStep.refl _ _ _, ok, Int.le_refl _, hf0, hf1, by rw [List.drop_zero]; exact HG.out⟩
  case round =>
    rename World => wr
    obtain ⟨k, s', lv', x, rfl, rfl, hkl, hw, hst, ok', hpl, hx0, hx1, hR⟩ := hrel
    have HR := Lib.hid hR
    clear hR
    by_cases hlt : k < L
    · have hlt' : k < b.kids.length := by have := HL.out; omega
      have hlt2 : k + 1 < b.kids.length := by have := HL.out; omega
      obtain ⟨p, o, ka, kc, ead, c0, c1, c2, hkr⟩ := kid_in hB hw.gr hlt'
      cases ead
      have hkI : (k : Int) < (L : Int) := by omega
      have GA := (Gr.refl wr).alloc (.cells #[.int .i64 (ix b.kids k).kind, .int .i64 (ix b.kids k).label, .slice ka (ix b.kids k).kids.length kc] 24)
      have A0 : (wr.alloc (.cells #[.int .i64 (ix b.kids k).kind, .int .i64 (ix b.kids k).label, .slice ka (ix b.kids k).kids.length kc] 24)).cell? ⟨wr.heap.size, 0, none⟩ = some (.int .i64 (ix b.kids k).kind) := box_cell (Gr.refl _) (i := 0) rfl
      have A1 : (wr.alloc (.cells #[.int .i64 (ix b.kids k).kind, .int .i64 (ix b.kids k).label, .slice ka (ix b.kids k).kids.length kc] 24)).cell? ⟨wr.heap.size, 1, none⟩ = some (.int .i64 (ix b.kids k).label) := box_cell (Gr.refl _) (i := 1) rfl
      have A2 : (wr.alloc (.cells #[.int .i64 (ix b.kids k).kind, .int .i64 (ix b.kids k).label, .slice ka (ix b.kids k).kids.length kc] 24)).cell? ⟨wr.heap.size, 2, none⟩ = some (.slice ka (ix b.kids k).kids.length kc) := box_cell (Gr.refl _) (i := 2) rfl
      have hlo := ok'.lo
      have hhi := ok'.hi
      go_wp2_with fail
      refine (place_calls (hw.gr' GA) (by omega) hhi).mono ?_
      rintro _ w2 hr
      rcases hr.cases with ⟨s1, lv1, h1, rfl, h2, h3⟩ | ⟨h1, rfl, h2⟩
      · have H1 := Lib.hid h1
        have ok1 := ok'.place h1
        obtain ⟨rfl, hp16⟩ := place_some h1
        clear h1
        have hbk := hw.lt (Nat.le_refl wr.heap.size)
        have hS : wr.heap.size ≠ gb ∧ lv'.ownBlock ≠ some wr.heap.size := ⟨by omega, fun e => by have := hbk.2 _ e; omega⟩
        replace A0 := cell_kp h3.1 A0 hS
        replace A1 := cell_kp h3.1 A1 hS
        replace A2 := cell_kp h3.1 A2 hS
        have hcall := ih (ix b.kids k) ka kc _ lv1 ⟨s'.places + 1, s'.links⟩ x s'.places (HK.out _ (ix_mem hlt')) hkr h2 ok1 hx0 (by show x < s'.places + 1; omega) (by omega) (by show s'.places < s'.places + 1; omega)
        have HKeep := Lib.hid (fun s2 e => grow_keep n (ix b.kids k) x s'.places ⟨s'.places + 1, s'.links⟩ s2 (HK.out _ (ix_mem hlt')) ok1 hx0 (by show x < s'.places + 1; omega) (by omega) (by show s'.places < s'.places + 1; omega) e)
        clear hbk hS
        go_wp2_with fail
        refine hcall.mono ?_
        rintro _ w3 hr
        rcases hr.cases with ⟨s2, lv2, h4, rfl, h5, h6⟩ | ⟨h4, rfl, h5⟩
        · obtain ⟨hk1, hk2⟩ := HKeep.out s2 h4
          have hk2 : s'.places + 1 ≤ s2.places := hk2
          have H4 := Lib.hid h4
          clear h4 hcall
          go_wp2_with fail
          go_roundw
          case rel => exact ⟨k + 1, s2, lv2, s'.places, rfl, by go_num, by omega, h5, ((hst.trans (GStep.of_gr GA)).trans h3).trans h6, hk1, by omega, by omega, by omega, by rw [HR.out, seq_step hlt2, H1.out, Option.bind_some, H4.out, Option.bind_some]⟩
          case measure => simp [intOf]; omega
        · have H4 := Lib.hid h4
          clear h4 hcall
          go_wp2_with fail
          refine bodyPost_panic rfl ?_
          exact RetG.no (by rw [HR.out, seq_step hlt2, H1.out, Option.bind_some, H4.out]; rfl) h5
      · have H1 := Lib.hid h1
        clear h1
        go_wp2_with fail
        refine bodyPost_panic rfl ?_
        exact RetG.no (by rw [HR.out, seq_step hlt2, H1.out]; rfl) h2
    · obtain rfl : k = L := by omega
      have hlt' : k < b.kids.length := by have := HL.out; omega
      obtain ⟨p, o, ka, kc, ead, c0, c1, c2, hkr⟩ := kid_in hB hw.gr hlt'
      cases ead
      have hS : w.heap.size ≠ gb ∧ lv.ownBlock ≠ some w.heap.size := ⟨by omega, fun e => by have := hbx.2 _ e; omega⟩
      have B2 := cell_kp hst.1 b2 hS
      have hkk : (k : Int) + 1 - 1 = (k : Int) := by omega
      have hcall := ih (ix b.kids k) ka kc _ lv' s' x t (HK.out _ (ix_mem hlt')) hkr hw ok' hx0 hx1 ht0 (by omega)
      clear hbx hS
      go_wp2_with fail
      refine hcall.mono ?_
      rintro _ w3 hr
      rcases hr.cases with ⟨s2, lv2, h4, rfl, h5, h6⟩ | ⟨h4, rfl, h5⟩
      · have H4 := Lib.hid h4
        clear h4 hcall
        go_wp2_with fail
        refine bodyPost_end (results_none rfl _ _ _) rfl ?_
        exact RetG.yes (by rw [HR.out, seq_last HL.out.symm, H4.out]) h5 (((GStep.of_gr GB).trans hst).trans h6)
      · have H4 := Lib.hid h4
        clear h4 hcall
        go_wp2_with fail
        refine bodyPost_panic rfl ?_
        exact RetG.no (by rw [HR.out, seq_last HL.out.symm, H4.out]) h5
end Go.Proofs.Ytjpapgbdhflgnaa

/- Contract of grow.grow: loops. -/
namespace Go.Proofs.Ytjpapgbdhflgnaa
open Go.RowKit Go.Tok
set_option linter.unusedVariables false
set_option maxHeartbeats 4000000 in
set_option maxRecDepth 100000 in
theorem grow_loop {w0 : World} {gb : Nat} {n : Nat} (ih : GrowC w0 gb n) {b : BlockD} {a : Option Addr} {cap : Nat} {w : World} {lv : Value} {s : GS} {f t : Int} (hk : b.kind = 6) (hb : OkB (n + 1) b) (hB : Rd (blkK n) w0 (.slice a b.kids.length cap) b.kids) (h : GW w0 w gb lv s) (ok : GOk s) (hf0 : 0 ≤ f) (hf1 : f < s.places) (ht0 : 0 ≤ t) (ht1 : t < s.places) :
    Calls Try.prog 17 #[.pointer (some ⟨gb, 0, none⟩), .agg #[.int .i64 b.kind, .int .i64 b.label, .slice a b.kids.length cap], .int .i64 f, .int .i64 t] w (RetG w0 w gb lv (growF (n + 1) b f t s) (.tuple #[])) := by
  have hg : growF (n + 1) b f t s = (placeF s).bind fun s1 => (placeF s1).bind fun s2 => (linkF ⟨0, [f], [s.places]⟩ s2).bind fun s3 => (growF n (ix b.kids 0) s.places (s.places + 1) s3).bind fun s4 => (growF n (ix b.kids 1) (s.places + 1) s.places s4).bind fun s5 => linkF ⟨0, [s.places + 1], [t]⟩ s5 := by simp [growF, hk]
  have hkids : ∀ k ∈ b.kids, OkB n k := hb.2.2.2.2.2.2
  have hlen2 : b.kids.length = 2 := hb.2.2.2.2.2.1 hk
  have hk0 : OkB n (ix b.kids 0) := hkids _ (ix_mem (by omega))
  have hk1 : OkB n (ix b.kids 1) := hkids _ (ix_mem (by omega))
  obtain ⟨_, _, e, hcl, hcm⟩ := hB.len
  cases e
  obtain ⟨gp, go, ka, kc, hadd, c0, c1, c2, hkr0⟩ := kid_in hB (Gr.refl _) (i := 0) (by omega)
  subst hadd
  obtain ⟨_, _, kb, kd, hadd, d0, d1, d2, hkr1⟩ := kid_in hB (Gr.refl _) (i := 1) (by omega)
  cases hadd
  rw [Nat.zero_mul, Nat.add_zero] at c0 c1 c2
  rw [Nat.one_mul] at d0 d1 d2
  have HG := Lib.hid hg
  have hlo := ok.lo
  have hhi := ok.hi
  have hIf := i64_place ok hf0 hf1
  have hIt := i64_place ok ht0 ht1
  have hIx : I64 s.places := by unfold I64; omega
  have hIy : I64 (s.places + 1) := by unfold I64; omega
  clear hg hb hkids
  have GB := (Gr.refl w).alloc (.cells #[.int .i64 b.kind, .int .i64 b.label, .slice (some ⟨gp, go, none⟩) b.kids.length cap] 24)
  have b0 : (w.alloc (.cells #[.int .i64 b.kind, .int .i64 b.label, .slice (some ⟨gp, go, none⟩) b.kids.length cap] 24)).cell? ⟨w.heap.size, 0, none⟩ = some (.int .i64 b.kind) := box_cell (Gr.refl _) (i := 0) rfl
  have b2 : (w.alloc (.cells #[.int .i64 b.kind, .int .i64 b.label, .slice (some ⟨gp, go, none⟩) b.kids.length cap] 24)).cell? ⟨w.heap.size, 2, none⟩ = some (.slice (some ⟨gp, go, none⟩) b.kids.length cap) := box_cell (Gr.refl _) (i := 2) rfl
  rw [hk] at b0 GB b2 ⊢
  rw [hlen2] at b0 GB b2 ⊢
  have hbx := h.lt (Nat.le_refl w.heap.size)
  have hS : w.heap.size ≠ gb ∧ lv.ownBlock ≠ some w.heap.size := ⟨by omega, fun e => by have := hbx.2 _ e; omega⟩
  clear hbx hlen2
  go_enter Try.func17, Try.ntmps17
  go_wp2_with fail
  refine (place_calls (h.gr' GB) (by omega) hhi).mono ?_
  rintro _ w1 hr
  rcases hr.cases with ⟨s1, lv1, h1, rfl, G1, T1⟩ | ⟨h1, rfl, G1⟩
  case inr =>
    have H1 := Lib.hid h1
    clear h1
    go_wp2_with fail
    refine bodyPost_panic rfl ?_
    exact RetG.no (by rw [HG.out, H1.out]; rfl) G1
  have H1 := Lib.hid h1
  have ok1 := ok.place h1
  obtain ⟨rfl, hp16⟩ := place_some h1
  clear h1
  go_wp2_with fail
  refine (place_calls G1 (by show 0 ≤ s.places + 1; omega) hp16).mono ?_
  rintro _ w2 hr
  rcases hr.cases with ⟨s2, lv2, h2, rfl, G2, T2⟩ | ⟨h2, rfl, G2⟩
  case inr =>
    have H2 := Lib.hid h2
    clear h2
    go_wp2_with fail
    refine bodyPost_panic rfl ?_
    exact RetG.no (by rw [HG.out, H1.out, Option.bind_some, H2.out]; rfl) G2
  have H2 := Lib.hid h2
  have ok2 := ok1.place h2
  obtain ⟨rfl, hp17⟩ := place_some h2
  clear h2
  go_wp2_with fail
  refine (grow1_calls f _ hIf).mono ?_
  rintro _ w3 ⟨v3, rfl, o3, g3⟩
  go_wp2_with fail
  refine (grow1_calls s.places _ hIx).mono ?_
  rintro _ w4 ⟨v4, rfl, o4, g4⟩
  have hlt1 := G2.lt (Nat.le_refl _)
  have hlt2 := G2.lt g3.le
  have hlen := ok2.len
  go_wp2_with fail
  refine (link_calls (l := ⟨0, [f], [s.places]⟩) (G2.gr' (g3.trans g4)) hlen (show I64 0 by decide) (fresh_on G2.lo (o3.gr g4) hlt1) (fresh_on G2.lo o4 hlt2)).mono ?_
  rintro _ w5 hr
  rcases hr.cases with ⟨s3, lv3, h3, rfl, G3, T3⟩ | ⟨h3, rfl, G3⟩
  case inr =>
    have H3 := Lib.hid h3
    clear h3
    go_wp2_with fail
    refine bodyPost_panic rfl ?_
    exact RetG.no (by rw [HG.out, H1.out, Option.bind_some, H2.out, Option.bind_some, H3.out]; rfl) G3
  have H3 := Lib.hid h3
  have ok3 := ok2.link h3 (by simp) (PlIn.one hf0 (by show f < s.places + 1 + 1; omega)) (PlIn.one (by omega) (by show s.places < s.places + 1 + 1; omega))
  obtain ⟨rfl, hl24⟩ := link_some h3
  clear h3
  have TT := ((T1.trans T2).trans (GStep.of_gr (g3.trans g4))).trans T3
  have B2 := cell_kp TT.1 b2 hS
  replace c0 := cell_gr c0 G3.gr
  replace c1 := cell_gr c1 G3.gr
  replace c2 := cell_gr c2 G3.gr
  have hc1 := ih (ix b.kids 0) ka kc w5 lv3 _ s.places (s.places + 1) hk0 hkr0 G3 ok3 (by omega) (by show s.places < s.places + 1 + 1; omega) (by omega) (by show s.places + 1 < s.places + 1 + 1; omega)
  have HK1 := Lib.hid (fun s4 e => grow_keep n (ix b.kids 0) s.places (s.places + 1) _ s4 hk0 ok3 (by omega) (by show s.places < s.places + 1 + 1; omega) (by omega) (by show s.places + 1 < s.places + 1 + 1; omega) e)
  clear hlt1 hlt2 o3 o4 g3 g4 T1 T2 T3 G1 G2
  go_wp2_with fail
  refine hc1.mono ?_
  rintro _ w6 hr
  rcases hr.cases with ⟨s4, lv4, h4, rfl, G4, T4⟩ | ⟨h4, rfl, G4⟩
  case inr =>
    have H4 := Lib.hid h4
    clear h4
    go_wp2_with fail
    refine bodyPost_panic rfl ?_
    exact RetG.no (by rw [HG.out, H1.out, Option.bind_some, H2.out, Option.bind_some, H3.out, Option.bind_some, H4.out]; rfl) G4
  obtain ⟨ok4, hp4⟩ := HK1.out s4 h4
  have hp4 : s.places + 1 + 1 ≤ s4.places := hp4
  have H4 := Lib.hid h4
  clear h4
  have TT2 := TT.trans T4
  have B3 := cell_kp TT2.1 b2 hS
  replace d0 := cell_gr d0 G4.gr
  replace d1 := cell_gr d1 G4.gr
  replace d2 := cell_gr d2 G4.gr
  have hc2 := ih (ix b.kids 1) kb kd w6 lv4 s4 (s.places + 1) s.places hk1 hkr1 G4 ok4 (by omega) (by omega) (by omega) (by omega)
  have HK2 := Lib.hid (fun s5 e => grow_keep n (ix b.kids 1) (s.places + 1) s.places s4 s5 hk1 ok4 (by omega) (by omega) (by omega) (by omega) e)
  clear TT T4 B2 c0 c1 c2 G3 hc1
  go_wp2_with fail
  refine hc2.mono ?_
  rintro _ w7 hr
  rcases hr.cases with ⟨s5, lv5, h5, rfl, G5, T5⟩ | ⟨h5, rfl, G5⟩
  case inr =>
    have H5 := Lib.hid h5
    clear h5
    go_wp2_with fail
    refine bodyPost_panic rfl ?_
    exact RetG.no (by rw [HG.out, H1.out, Option.bind_some, H2.out, Option.bind_some, H3.out, Option.bind_some, H4.out, Option.bind_some, H5.out]; rfl) G5
  obtain ⟨ok5, hp5⟩ := HK2.out s5 h5
  have H5 := Lib.hid h5
  clear h5
  have TT3 := TT2.trans T5
  clear TT2 T5 B3 d0 d1 d2 G4 hc2
  go_wp2_with fail
  refine (grow1_calls (s.places + 1) _ hIy).mono ?_
  rintro _ w8 ⟨v8, rfl, o8, g8⟩
  go_wp2_with fail
  refine (grow1_calls t _ hIt).mono ?_
  rintro _ w9 ⟨v9, rfl, o9, g9⟩
  have hlt1 := G5.lt (Nat.le_refl _)
  have hlt2 := G5.lt g8.le
  have hlen5 := ok5.len
  go_wp2_with fail
  refine (link_calls (l := ⟨0, [s.places + 1], [t]⟩) (G5.gr' (g8.trans g9)) hlen5 (show I64 0 by decide) (fresh_on G5.lo (o8.gr g9) hlt1) (fresh_on G5.lo o9 hlt2)).mono ?_
  rintro _ w10 hr
  rcases hr.cases with ⟨s6, lv6, h6, rfl, G6, T6⟩ | ⟨h6, rfl, G6⟩
  case inr =>
    have H6 := Lib.hid h6
    clear h6
    go_wp2_with fail
    refine bodyPost_panic rfl ?_
    exact RetG.no (by rw [HG.out, H1.out, Option.bind_some, H2.out, Option.bind_some, H3.out, Option.bind_some, H4.out, Option.bind_some, H5.out, Option.bind_some, H6.out]) G6
  have H6 := Lib.hid h6
  clear h6
  go_wp2_with fail
  refine bodyPost_end (results_none rfl _ _ _) rfl ?_
  exact RetG.yes (by rw [HG.out, H1.out, Option.bind_some, H2.out, Option.bind_some, H3.out, Option.bind_some, H4.out, Option.bind_some, H5.out, Option.bind_some, H6.out]) G6 ((((GStep.of_gr GB).trans TT3).trans (GStep.of_gr (g8.trans g9))).trans T6)
end Go.Proofs.Ytjpapgbdhflgnaa

/- Contract of grow.grow: side by side. -/
namespace Go.Proofs.Ytjpapgbdhflgnaa
open Go.RowKit Go.Tok
set_option linter.unusedVariables false
def RetPl (w : World) (gb : Nat) (p : Int) (e : Ending) (w' : World) : Prop := w' = w.setCell ⟨gb, 0, none⟩ (.int .i64 (p + 1)) ∧ ((16 < p + 1 ∧ e = .panicked fullP) ∨ (p + 1 ≤ 16 ∧ e = .returned (.int .i64 p)))
theorem RetPl.no {w : World} {gb : Nat} {p : Int} (h : 16 < p + 1) : RetPl w gb p (.panicked fullP) (w.setCell ⟨gb, 0, none⟩ (.int .i64 (p + 1))) := ⟨rfl, .inl ⟨h, rfl⟩⟩
theorem RetPl.yes {w : World} {gb : Nat} {p q : Int} (h : p + 1 ≤ 16) (hq : q = p) : RetPl w gb p (.returned (.int .i64 q)) (w.setCell ⟨gb, 0, none⟩ (.int .i64 (p + 1))) := ⟨rfl, .inr ⟨h, by rw [hq]⟩⟩
theorem RetPl.cases {w w' : World} {gb : Nat} {p : Int} {e : Ending} (h : RetPl w gb p e w') : w' = w.setCell ⟨gb, 0, none⟩ (.int .i64 (p + 1)) ∧ ((16 < p + 1 ∧ e = .panicked fullP) ∨ (p + 1 ≤ 16 ∧ e = .returned (.int .i64 p))) := h
attribute [irreducible] RetPl
set_option maxHeartbeats 4000000 in
set_option maxRecDepth 100000 in
theorem place_exact {w : World} {gb : Nat} {lv : Value} {p : Int} (h : Blk w gb 56 #[.int .i64 p, lv]) (h0 : 0 ≤ p) (h1 : p ≤ 16) :
    Calls Try.prog 42 #[.pointer (some ⟨gb, 0, none⟩)] w (RetPl w gb p) := by
  have C0 := h.cell (i := 0) (v := .int .i64 p) rfl
  have F0 := h.frozen 0
  have h2 : Blk (w.setCell ⟨gb, 0, none⟩ (.int .i64 (p + 1))) gb 56 #[.int .i64 (p + 1), lv] := h.set 0 _
  have D0 := h2.cell (i := 0) (v := .int .i64 (p + 1)) rfl
  by_cases hc : 16 < p + 1
  · go_enter Try.func42, Try.ntmps42
    go_wp2_with fail
    refine bodyPost_panic rfl ?_
    exact RetPl.no hc
  · go_enter Try.func42, Try.ntmps42
    go_wp2_with fail
    go_ret
    exact RetPl.yes (by omega) (by simp)
/-- the grower has p places, and the call two rows of its own -/
structure BothS (w0 : World) (gb B : Nat) (lv : Value) (ls : List TranD) (wa : World) (p : Int) (iv ov : Value) (xs ys : List Int) (w : World) : Prop where
  blk : Blk w gb 56 #[.int .i64 p, lv]
  row : OwnR trK 59 w0.heap.size (fun b => w0.heap.size ≤ b ∧ b ≠ gb ∧ b < B) w lv ls
  hiv : OwnI 3 B w iv xs
  hov : OwnI 3 B w ov ys
  ap : ∀ b, iv.ownBlock = some b → ov.ownBlock ≠ some b
  gr : Gr w0 w
  kp : Kp (fun b => b ≠ gb ∧ b < B) wa w
  gbB : gb < B
  lvB : ∀ k, lv.ownBlock = some k → k < B
  lo : w0.heap.size ≤ gb
  ne : lv.ownBlock ≠ some gb
  wB : B ≤ w.heap.size
section
variable {w0 wa w w' : World} {gb B : Nat} {lv iv ov : Value} {ls : List TranD} {p : Int} {xs ys : List Int}
theorem BothS.gr' (h : BothS w0 gb B lv ls wa p iv ov xs ys w) (g : Gr w w') : BothS w0 gb B lv ls wa p iv ov xs ys w' :=
  ⟨h.blk.gr g, h.row.gr g, h.hiv.gr g, h.hov.gr g, h.ap, h.gr.trans g, h.kp.trans g.kp, h.gbB, h.lvB, h.lo, h.ne, Nat.le_trans h.wB g.le⟩
theorem BothS.place (h : BothS w0 gb B lv ls wa p iv ov xs ys w) (q : Int) : BothS w0 gb B lv ls wa q iv ov xs ys (w.setCell ⟨gb, 0, none⟩ (.int .i64 q)) :=
  ⟨h.blk.set 0 _, h.row.other h.ne (fun k => k.2.1 rfl) _, h.hiv.other (fun e => by have h1 : B ≤ gb := (h.hiv.lt e).1; have h2 := h.gbB; omega) _, h.hov.other (fun e => by have h1 : B ≤ gb := (h.hov.lt e).1; have h2 := h.gbB; omega) _, h.ap, h.gr.setCell h.lo _, h.kp.trans (set_kp (fun k => k.1 rfl) _), h.gbB, h.lvB, h.lo, h.ne, by simpa [World.setCell] using h.wB⟩
theorem BothS.grown {row : Option Nat} (h : BothS w0 gb B lv ls wa p iv ov xs ys w) (hg : w.grownBy w' row) (hr : ∀ k, row = some k → B ≤ k) : Blk w' gb 56 #[.int .i64 p, lv] ∧ OwnR trK 59 w0.heap.size (fun b => w0.heap.size ≤ b ∧ b ≠ gb ∧ b < B) w' lv ls ∧ Gr w0 w' ∧ Kp (fun b => b ≠ gb ∧ b < B) wa w' ∧ B ≤ w'.heap.size := by
  refine ⟨h.blk.grown hg (fun e => by have := hr _ e.symm; have := h.gbB; omega), h.row.kept hg ?_ (fun b hb hs => ⟨hs, fun e => by have := hr _ e.symm; have := hs.2.2; omega⟩), h.gr.grown hg (fun k e => by have := hr _ e; have := h.gbB; have := h.lo; omega), h.kp.trans (grown_kp hg fun b hs e => by have := hr _ e.symm; have := hs.2; omega), Nat.le_trans h.wB hg.size⟩
  cases hv : lv.ownBlock with
  | none => exact .inl rfl
  | some k => exact .inr fun e => by have := hr _ e.symm; have := h.lvB _ hv; omega
theorem BothS.ivN {iv' : Value} {y : Int} (h : BothS w0 gb B lv ls wa p iv ov xs ys w) (ho : OwnI 3 B w' iv' (xs ++ [y])) (hg : w.grownBy w' iv.ownBlock) (hat : iv'.ownBlock = iv.ownBlock ∨ iv'.ownBlock = some w.heap.size) : BothS w0 gb B lv ls wa p iv' ov (xs ++ [y]) ys w' := by
  obtain ⟨h1, h2, h3, h4, h5⟩ := h.grown hg (fun k e => (h.hiv.lt e).1)
  refine ⟨h1, h2, ho, h.hov.grown hg ?_, fun b e => ?_, h3, h4, h.gbB, h.lvB, h.lo, h.ne, h5⟩
  · cases hv : ov.ownBlock with
    | none => exact .inl rfl
    | some k => exact .inr fun e => h.ap k e.symm hv
  · rcases hat with k | k
    · rw [k] at e; exact h.ap b e
    · rw [k] at e
      intro e2
      have := (h.hov.lt e2).2
      have := Option.some.inj e
      omega
theorem BothS.ovN {ov' : Value} {y : Int} (h : BothS w0 gb B lv ls wa p iv ov xs ys w) (ho : OwnI 3 B w' ov' (ys ++ [y])) (hg : w.grownBy w' ov.ownBlock) (hat : ov'.ownBlock = ov.ownBlock ∨ ov'.ownBlock = some w.heap.size) : BothS w0 gb B lv ls wa p iv ov' xs (ys ++ [y]) w' := by
  obtain ⟨h1, h2, h3, h4, h5⟩ := h.grown hg (fun k e => (h.hov.lt e).1)
  refine ⟨h1, h2, h.hiv.grown hg ?_, ho, fun b e => ?_, h3, h4, h.gbB, h.lvB, h.lo, h.ne, h5⟩
  · cases hv : iv.ownBlock with
    | none => exact .inl rfl
    | some k => exact .inr fun e => h.ap k hv e.symm
  · rcases hat with k | k
    · rw [k]; exact h.ap b e
    · rw [k]
      intro e2
      have := (h.hiv.lt e).2
      have := Option.some.inj e2
      omega
theorem BothS.gw (h : BothS w0 gb B lv ls wa p iv ov xs ys w) : GW w0 w gb lv ⟨p, ls⟩ := ⟨h.blk, h.row.sets fun b _ hs => ⟨hs.1, hs.2.1⟩, h.gr, h.lo, h.ne⟩
theorem BothS.step (h : BothS w0 gb B lv ls wa p iv ov xs ys w) (hB : wa.heap.size ≤ B) : GStep gb lv lv wa w := ⟨kp_mk (kp_size h.kp) fun b hb hs => kp_block h.kp b hb ⟨hs.1, by omega⟩, fun k e => .inl e⟩
theorem BothS.onI (h : BothS w0 gb B lv ls wa p iv ov xs ys w) : On (fun b => w0.heap.size ≤ b ∧ b ≠ gb ∧ lv.ownBlock ≠ some b) (fun w => Ints w iv xs) w := fresh_on h.lo h.hiv ⟨h.gbB, h.lvB⟩
theorem BothS.onO (h : BothS w0 gb B lv ls wa p iv ov xs ys w) : On (fun b => w0.heap.size ≤ b ∧ b ≠ gb ∧ lv.ownBlock ≠ some b) (fun w => Ints w ov ys) w := fresh_on h.lo h.hov ⟨h.gbB, h.lvB⟩
end
theorem len_is {e base : Nat} {w : World} {v : Value} {xs : List Int} {n : Nat} (h : OwnI e base w v xs) (hn : xs.length = n) : ∃ a c, v = .slice a n c ∧ n ≤ c ∧ c ≤ 9223372036854775807 := by
  subst hn
  exact h.ints.len
theorem places_is {P : Int} {ls : List TranD} : ∀ {n : Nat}, (n = 0 ∨ P + 2 * (n : Int) ≤ 16) → placesF n ⟨P, ls⟩ = some ⟨P + 2 * (n : Int), ls⟩ := by
  intro n
  induction n generalizing P with
  | zero => intro _; simp [placesF]
  | succ n ih =>
    intro h
    have h : P + 2 * ((n + 1 : Nat) : Int) ≤ 16 := by rcases h with h | h <;> omega
    unfold placesF placeF
    simp only []
    rw [if_neg (by omega), Option.bind_some]
    simp only []
    rw [if_neg (by omega), Option.bind_some, ih (by omega)]
    congr 2
    omega
theorem places_step {s : GS} {k n : Nat} (h : k < n) : placesF (n - k) s = (placeF s).bind fun s1 => (placeF s1).bind fun s2 => placesF (n - (k + 1)) s2 := by
  rw [show n - k = (n - (k + 1)) + 1 by omega, placesF]
theorem both_step {f : GF} {ks : List BlockD} {p : Int} {s : GS} {k : Nat} (h : k < ks.length) : bothF f (ks.drop k) p s = (f (ix ks k) p (p + 1) s).bind fun s1 => bothF f (ks.drop (k + 1)) (p + 2) s1 := by
  rw [drop_ix h, bothF]
theorem place_none {p : Int} {ls : List TranD} (h : 16 < p + 1) : placeF ⟨p, ls⟩ = none := by unfold placeF; rw [if_pos h]
theorem place_is {p : Int} {ls : List TranD} (h : p + 1 ≤ 16) : placeF ⟨p, ls⟩ = some ⟨p + 1, ls⟩ := by unfold placeF; rw [if_neg (show ¬ 16 < p + 1 by omega)]
set_option maxHeartbeats 4000000 in
set_option maxRecDepth 100000 in
theorem grow_both {w0 : World} {gb : Nat} {n : Nat} (ih : GrowC w0 gb n) {b : BlockD} {a : Option Addr} {cap : Nat} {w : World} {lv : Value} {s : GS} {f t : Int} (hk : b.kind = 5) (hb : OkB (n + 1) b) (hB : Rd (blkK n) w0 (.slice a b.kids.length cap) b.kids) (h : GW w0 w gb lv s) (ok : GOk s) (hf0 : 0 ≤ f) (hf1 : f < s.places) (ht0 : 0 ≤ t) (ht1 : t < s.places) :
    Calls Try.prog 17 #[.pointer (some ⟨gb, 0, none⟩), .agg #[.int .i64 b.kind, .int .i64 b.label, .slice a b.kids.length cap], .int .i64 f, .int .i64 t] w (RetG w0 w gb lv (growF (n + 1) b f t s) (.tuple #[])) := by
  obtain ⟨P, ls⟩ := s
  have hg : growF (n + 1) b f t ⟨P, ls⟩ = (placesF b.kids.length ⟨P, ls⟩).bind fun s1 => (linkF ⟨0, [f], insL P b.kids.length⟩ s1).bind fun s2 => (bothF (growF n) b.kids P s2).bind fun s3 => linkF ⟨0, outsL P b.kids.length, [t]⟩ s3 := by simp [growF, hk]
  have hkids : ∀ k ∈ b.kids, OkB n k := hb.2.2.2.2.2.2
  obtain ⟨_, _, e, hcl, hcm⟩ := hB.len
  cases e
  have HG := Lib.hid hg
  have HK := Lib.hid hkids
  have hlo := ok.lo
  have hhi := ok.hi
  simp only [] at hlo hhi hf1 ht1
  have hIf := i64_place ok hf0 hf1
  have hIt := i64_place ok ht0 ht1
  have hlen := ok.len
  simp only [] at hlen
  clear hg hb hkids
  have GB := (Gr.refl w).alloc (.cells #[.int .i64 b.kind, .int .i64 b.label, .slice a b.kids.length cap] 24)
  have b0 : (w.alloc (.cells #[.int .i64 b.kind, .int .i64 b.label, .slice a b.kids.length cap] 24)).cell? ⟨w.heap.size, 0, none⟩ = some (.int .i64 b.kind) := box_cell (Gr.refl _) (i := 0) rfl
  have b2 : (w.alloc (.cells #[.int .i64 b.kind, .int .i64 b.label, .slice a b.kids.length cap] 24)).cell? ⟨w.heap.size, 2, none⟩ = some (.slice a b.kids.length cap) := box_cell (Gr.refl _) (i := 2) rfl
  rw [hk] at b0 GB b2 ⊢
  have hbx := h.lt (Nat.le_refl w.heap.size)
  have hS : w.heap.size ≠ gb ∧ lv.ownBlock ≠ some w.heap.size := ⟨by omega, fun e => by have := hbx.2 _ e; omega⟩
  have S0 : BothS w0 gb (w.heap.size + 1) lv ls (w.alloc (.cells #[.int .i64 5, .int .i64 b.label, .slice a b.kids.length cap] 24)) P (.slice none 0 0) (.slice none 0 0) [] [] (w.alloc (.cells #[.int .i64 5, .int .i64 b.label, .slice a b.kids.length cap] 24)) :=
    ⟨h.blk.gr GB, (h.row.sets fun b hb hs => ⟨hs.1, hs.2, by omega⟩).gr GB, OwnI.nil _ _ _, OwnI.nil _ _ _, fun b e => (by simp [Value.ownBlock] at e), h.gr.trans GB, Kp.refl _ _, by omega, fun k e => by have := hbx.2 k e; omega, h.lo, h.ne, by simp⟩
  have hwa : (w.alloc (.cells #[.int .i64 5, .int .i64 b.label, .slice a b.kids.length cap] 24)).heap.size = w.heap.size + 1 := by simp
  have HW := Lib.hid hwa
  clear hbx hwa
  go_enter Try.func17, Try.ntmps17
  go_wp2_with fail
  go_loopw [15, 16, 95] (fun iv ov i wr => ∃ (k : Nat), i = .int .i64 k ∧ k ≤ b.kids.length ∧ (k = 0 ∨ P + 2 * (k : Int) ≤ 16) ∧ BothS w0 gb (w.heap.size + 1) lv ls (w.alloc (.cells #[.int .i64 5, .int .i64 b.label, .slice a b.kids.length cap] 24)) (P + 2 * (k : Int)) iv ov (insL P k) (outsL P k) wr ∧
    growF (n + 1) b f t ⟨P, ls⟩ = (placesF (b.kids.length - k) ⟨P + 2 * (k : Int), ls⟩).bind fun s1 => (linkF ⟨0, [f], insL P b.kids.length⟩ s1).bind fun s2 => (bothF (growF n) b.kids P s2).bind fun s3 => linkF ⟨0, outsL P b.kids.length, [t]⟩ s3) (fun _ _ i _ => b.kids.length - (intOf i).toNat)
  case atStart => exact ⟨0, rfl, Nat.zero_le _, .inl rfl, by simpa [insL, outsL] using S0, by simpa using HG.out⟩
  case round =>
    rename World => wr
    obtain ⟨k, rfl, hkl, hP, hs, hR⟩ := hrel
    have HR := Lib.hid hR
    clear hR
    obtain ⟨ia, ic, rfl, hi1, hi2⟩ := len_is hs.hiv (insL_len P k)
    obtain ⟨oa, oc, rfl, ho1, ho2⟩ := len_is hs.hov (outsL_len P k)
    have hp0 : 0 ≤ P + 2 * (k : Int) := by omega
    have hp16 : P + 2 * (k : Int) ≤ 16 := by rcases hP with rfl | h <;> omega
    by_cases hlt : k < b.kids.length
    · have hkI : (k : Int) < (b.kids.length : Int) := by omega
      have hk8 : k ≤ 8 := by omega
      go_wp2_with fail
      refine (place_exact hs.blk hp0 hp16).mono ?_
      rintro _ w2 hr
      obtain ⟨rfl, ⟨hpc, rfl⟩ | ⟨hpc, rfl⟩⟩ := hr.cases
      · go_wp2_with fail
        refine bodyPost_panic rfl ?_
        exact RetG.no (by rw [HR.out, places_step hlt, place_none hpc]; rfl) (hs.place _).gr
      have hs2 := hs.place (P + 2 * (k : Int) + 1)
      generalize wr.setCell ⟨gb, 0, none⟩ (.int .i64 (P + 2 * (k : Int) + 1)) = w2 at hs2 ⊢
      have hIp : I64 (P + 2 * (k : Int)) := by unfold I64; omega
      have hIq : I64 (P + 2 * (k : Int) + 1) := by unfold I64; omega
      have hins : (insL P k).length = k := insL_len P k
      have houts : (outsL P k).length = k := outsL_len P k
      have hB2 : w.heap.size + 1 ≤ (w2.alloc (.cells #[.int .i64 (P + 2 * (k : Int))] 3)).heap.size := by have := hs2.wB; simp; omega
      go_wp2_with (at_builtin; go_loud (refine app_int intTy _ _ (w.heap.size + 1) _ (insL P k) ⟨w2.heap.size, 0, none⟩ (P + 2 * (k : Int)) (by rfl) (by rfl) (by rfl) (by rfl) (hs2.hiv.alloc _) (lit_cell rfl) hIp (by rw [insL_len]; omega) hB2 ?_; intro v3 w3 ho3 hgs3 hgb3 hat3; have hs3 := (hs2.gr' ((Gr.refl _).alloc _)).ivN ho3 hgb3 hat3; rw [← insL_succ] at hs3 ho3; obtain ⟨ia3, ic3, rfl, hi31, hi32⟩ := len_is ho3 (insL_len P (k + 1))))
      clear hgs3 hgb3 hat3 ho3 hs2 hB2
      refine (place_exact hs3.blk (by omega) hpc).mono ?_
      rintro _ w4 hr
      obtain ⟨rfl, ⟨hpd, rfl⟩ | ⟨hpd, rfl⟩⟩ := hr.cases
      · go_wp2_with fail
        refine bodyPost_panic rfl ?_
        exact RetG.no (by rw [HR.out, places_step hlt, place_is hpc, Option.bind_some, place_none hpd]; rfl) (hs3.place _).gr
      have hs4 := hs3.place (P + 2 * (k : Int) + 1 + 1)
      generalize w3.setCell ⟨gb, 0, none⟩ (.int .i64 (P + 2 * (k : Int) + 1 + 1)) = w4 at hs4 ⊢
      have hB4 : w.heap.size + 1 ≤ (w4.alloc (.cells #[.int .i64 (P + 2 * (k : Int) + 1)] 3)).heap.size := by have := hs4.wB; simp; omega
      clear hs3
      go_wp2_with (at_builtin; go_loud (refine app_int intTy _ _ (w.heap.size + 1) _ (outsL P k) ⟨w4.heap.size, 0, none⟩ (P + 2 * (k : Int) + 1) (by rfl) (by rfl) (by rfl) (by rfl) (hs4.hov.alloc _) (lit_cell rfl) hIq (by rw [outsL_len]; omega) hB4 ?_; intro v5 w5 ho5 hgs5 hgb5 hat5; have hs5 := (hs4.gr' ((Gr.refl _).alloc _)).ovN ho5 hgb5 hat5; rw [← outsL_succ] at hs5 ho5; obtain ⟨oa5, oc5, rfl, ho51, ho52⟩ := len_is ho5 (outsL_len P (k + 1))))
      clear hgs5 hgb5 hat5 ho5 hs4 hB4
      go_roundw
      case rel => exact ⟨k + 1, by go_num, by omega, .inr (by omega), by rw [show P + 2 * ((k + 1 : Nat) : Int) = P + 2 * (k : Int) + 1 + 1 by omega]; exact hs5, by rw [HR.out, places_step hlt, place_is hpc, Option.bind_some, place_is hpd, Option.bind_some, show P + 2 * (k : Int) + 1 + 1 = P + 2 * ((k + 1 : Nat) : Int) by omega]⟩
      case measure => simp [intOf]; omega
    · obtain rfl : k = b.kids.length := by omega
      have hn8 : b.kids.length ≤ 8 := by omega
      have hR2 : (growF (n + 1) b f t ⟨P, ls⟩ = (linkF ⟨0, [f], insL P b.kids.length⟩ ⟨P + 2 * (b.kids.length : Int), ls⟩).bind fun s2 => (bothF (growF n) b.kids P s2).bind fun s3 => linkF ⟨0, outsL P b.kids.length, [t]⟩ s3) := (by rw [HR.out, Nat.sub_self]; rfl)
      have HR2 := Lib.hid hR2
      clear hR2
      have ok1 : GOk ⟨P + 2 * (b.kids.length : Int), ls⟩ := ok.places (n := b.kids.length) (s' := ⟨P + 2 * (b.kids.length : Int), ls⟩) (places_is hP)
      have GW1 := hs.gw
      have T1 := (GStep.of_gr (gb := gb) (lv := lv) GB).trans (hs.step (Nat.le_of_eq HW.out))
      have T1b := hs.step (Nat.le_of_eq HW.out)
      have OI := hs.onI
      have OO := hs.onO
      clear HR hs
      go_wp2_with fail
      refine (grow1_calls f _ hIf).mono ?_
      rintro _ w3 ⟨v3, rfl, o3, g3⟩
      have hlt1 := GW1.lt (Nat.le_refl _)
      go_wp2_with fail
      refine (link_calls (l := ⟨0, [f], insL P b.kids.length⟩) (GW1.gr' g3) hlen (show I64 0 by decide) (fresh_on GW1.lo o3 hlt1) (OI.gr g3)).mono ?_
      rintro _ w4 hr
      rcases hr.cases with ⟨s2, lv2, h2, rfl, G2, T2⟩ | ⟨h2, rfl, G2⟩
      case inr =>
        have H2 := Lib.hid h2
        clear h2
        go_wp2_with fail
        refine bodyPost_panic rfl ?_
        exact RetG.no (by rw [HR2.out, H2.out]; rfl) G2
      have ok2 := ok1.link h2 (by simp) (PlIn.one hf0 (by simp only []; omega)) (insL_in (by omega) (by simp only []; omega))
      have hp2 : s2.places = P + 2 * (b.kids.length : Int) := by obtain ⟨rfl, _⟩ := link_some h2; rfl
      have H2 := Lib.hid h2
      clear h2
      have T12 := (T1b.trans (GStep.of_gr g3)).trans T2
      have B2 := cell_kp T12.1 b2 hS
      replace OI := T2.on (OI.gr g3)
      replace OO := T2.on (OO.gr g3)
      have TA := (T1.trans (GStep.of_gr g3)).trans T2
      clear T1 T1b T2 T12 o3 hlt1 g3 GW1
      go_wp2_with fail
      go_loopw [117] (fun i wr => ∃ (k : Nat) (s' : GS) (lv' : Value), i = .int .i64 k ∧ k ≤ b.kids.length ∧ GW w0 wr gb lv' s' ∧ GStep gb lv lv' w wr ∧ GOk s' ∧ P + 2 * (b.kids.length : Int) ≤ s'.places ∧ On (fun x => w0.heap.size ≤ x ∧ x ≠ gb ∧ lv'.ownBlock ≠ some x) (fun w => Ints w (.slice ia b.kids.length ic) (insL P b.kids.length)) wr ∧ On (fun x => w0.heap.size ≤ x ∧ x ≠ gb ∧ lv'.ownBlock ≠ some x) (fun w => Ints w (.slice oa b.kids.length oc) (outsL P b.kids.length)) wr ∧
        growF (n + 1) b f t ⟨P, ls⟩ = (bothF (growF n) (b.kids.drop k) (P + 2 * (k : Int)) s').bind fun s3 => linkF ⟨0, outsL P b.kids.length, [t]⟩ s3) (fun i _ => b.kids.length - (intOf i).toNat)
      case atStart => exact ⟨0, s2, lv2, rfl, Nat.zero_le _, G2, TA, ok2, by omega, OI, OO, by rw [HR2.out, H2.out, Option.bind_some, List.drop_zero]; simp⟩
      case round =>
        rename World => wq
        obtain ⟨k, s', lv', rfl, hkl', hw, hst, ok', hpl, OI', OO', hR⟩ := hrel
        have HR := Lib.hid hR
        clear hR
        by_cases hlt' : k < b.kids.length
        · obtain ⟨p, o, ka, kc, rfl, c0, c1, c2, hkr⟩ := kid_in hB hw.gr hlt'
          have hkI : (k : Int) < (b.kids.length : Int) := by omega
          have GA := (Gr.refl wq).alloc (.cells #[.int .i64 (ix b.kids k).kind, .int .i64 (ix b.kids k).label, .slice ka (ix b.kids k).kids.length kc] 24)
          have A0 : (wq.alloc (.cells #[.int .i64 (ix b.kids k).kind, .int .i64 (ix b.kids k).label, .slice ka (ix b.kids k).kids.length kc] 24)).cell? ⟨wq.heap.size, 0, none⟩ = some (.int .i64 (ix b.kids k).kind) := box_cell (Gr.refl _) (i := 0) rfl
          have A1 : (wq.alloc (.cells #[.int .i64 (ix b.kids k).kind, .int .i64 (ix b.kids k).label, .slice ka (ix b.kids k).kids.length kc] 24)).cell? ⟨wq.heap.size, 1, none⟩ = some (.int .i64 (ix b.kids k).label) := box_cell (Gr.refl _) (i := 1) rfl
          have A2 : (wq.alloc (.cells #[.int .i64 (ix b.kids k).kind, .int .i64 (ix b.kids k).label, .slice ka (ix b.kids k).kids.length kc] 24)).cell? ⟨wq.heap.size, 2, none⟩ = some (.slice ka (ix b.kids k).kids.length kc) := box_cell (Gr.refl _) (i := 2) rfl
          obtain ⟨ib, io, hia, I0⟩ := (OI'.gr GA).now.cell (i := k) (by rw [insL_len]; exact hlt')
          obtain ⟨ob, oo, hoa, O0⟩ := (OO'.gr GA).now.cell (i := k) (by rw [outsL_len]; exact hlt')
          rw [insL_nth hlt'] at I0
          rw [outsL_nth hlt'] at O0
          cases hia
          cases hoa
          have hcall : ∀ w2, Gr wq w2 → Calls Try.prog 17 #[.pointer (some ⟨gb, 0, none⟩), .agg #[.int .i64 (ix b.kids k).kind, .int .i64 (ix b.kids k).label, .slice ka (ix b.kids k).kids.length kc], .int .i64 (P + 2 * (k : Int)), .int .i64 (P + 2 * (k : Int) + 1)] w2 (RetG w0 w2 gb lv' (growF n (ix b.kids k) (P + 2 * (k : Int)) (P + 2 * (k : Int) + 1) s') (.tuple #[])) :=
            fun w2 g2 => ih (ix b.kids k) ka kc w2 lv' s' _ _ (HK.out _ (ix_mem hlt')) hkr (hw.gr' g2) ok' (by omega) (by omega) (by omega) (by omega)
          have HKeep := Lib.hid (fun s1 e => grow_keep n (ix b.kids k) (P + 2 * (k : Int)) (P + 2 * (k : Int) + 1) s' s1 (HK.out _ (ix_mem hlt')) ok' (by omega) (by omega) (by omega) (by omega) e)
          go_wp2_with fail
          refine cut10 (S := fun w' => w'.cell? ⟨wq.heap.size, 0, none⟩ = some (.int .i64 (ix b.kids k).kind) ∧ w'.cell? ⟨wq.heap.size, 1, none⟩ = some (.int .i64 (ix b.kids k).label) ∧ w'.cell? ⟨wq.heap.size, 2, none⟩ = some (.slice ka (ix b.kids k).kids.length kc) ∧ w'.cell? ⟨ib, io + k, none⟩ = some (.int .i64 (P + 2 * (k : Int))) ∧ w'.cell? ⟨ob, oo + k, none⟩ = some (.int .i64 (P + 2 * (k : Int) + 1))) (by kernel_rfl) (by kernel_rfl) (by exact ⟨cell_gr A0 (by (repeat (first | exact Gr.refl _ | assumption | apply Gr.alloc | apply Gr.drew | apply Gr.drewN | refine Gr.trans ?_ (by assumption)))), cell_gr A1 (by (repeat (first | exact Gr.refl _ | assumption | apply Gr.alloc | apply Gr.drew | apply Gr.drewN | refine Gr.trans ?_ (by assumption)))), cell_gr A2 (by (repeat (first | exact Gr.refl _ | assumption | apply Gr.alloc | apply Gr.drew | apply Gr.drewN | refine Gr.trans ?_ (by assumption)))), cell_gr I0 (by (repeat (first | exact Gr.refl _ | assumption | apply Gr.alloc | apply Gr.drew | apply Gr.drewN | refine Gr.trans ?_ (by assumption)))), cell_gr O0 (by (repeat (first | exact Gr.refl _ | assumption | apply Gr.alloc | apply Gr.drew | apply Gr.drewN | refine Gr.trans ?_ (by assumption))))⟩) (fun hHeld => ?_)
          (refine hold0 (v := ?_) (by kernel_rfl) (by kernel_rfl) (by kernel_rfl) (fun _ _ _ h => h) (by rfl) (fun w' hSw => ?_) (by assumption) ?_; rotate_left 1; · ((try dsimp only at hSw); (try go_simp); (try (with_reducible rfl))); (try simp only [Act.put, List.setIfInBounds_toArray, List.set_cons_zero, List.set_cons_succ]))
          (refine hold1 (v := ?_) (by kernel_rfl) (by kernel_rfl) (by kernel_rfl) (fun _ _ _ h => h) (by rfl) (fun w' hSw => ?_) (by assumption) ?_; rotate_left 1; · ((try dsimp only at hSw); (try go_simp); (try (with_reducible rfl))); (try simp only [Act.put, List.setIfInBounds_toArray, List.set_cons_zero, List.set_cons_succ]))
          (refine hold2 (v := ?_) (by kernel_rfl) (by kernel_rfl) (by kernel_rfl) (fun _ _ _ h => h) (by rfl) (fun w' hSw => ?_) (by assumption) ?_; rotate_left 1; · ((try dsimp only at hSw); (try go_simp); (try (with_reducible rfl))); (try simp only [Act.put, List.setIfInBounds_toArray, List.set_cons_zero, List.set_cons_succ]))
          (refine hold3 (v := ?_) (by kernel_rfl) (by kernel_rfl) (by kernel_rfl) (fun _ _ _ h => h) (by rfl) (fun w' hSw => ?_) (by assumption) ?_; rotate_left 1; · ((try dsimp only at hSw); (try go_simp); (try (with_reducible rfl))); (try simp only [Act.put, List.setIfInBounds_toArray, List.set_cons_zero, List.set_cons_succ]))
          (refine hold4 (v := ?_) (by kernel_rfl) (by kernel_rfl) (by kernel_rfl) (fun _ _ _ h => h) (by rfl) (fun w' hSw => ?_) (by assumption) ?_; rotate_left 1; · ((try dsimp only at hSw); (try go_simp); (try (with_reducible rfl))); (try simp only [Act.put, List.setIfInBounds_toArray, List.set_cons_zero, List.set_cons_succ]))
          (refine hold5 (v := ?_) (by kernel_rfl) (by kernel_rfl) (by kernel_rfl) (fun _ _ _ h => h) (by rfl) (fun w' hSw => ?_) (by assumption) ?_; rotate_left 1; · ((try dsimp only at hSw); (try go_simp); (try (with_reducible rfl))); (try simp only [Act.put, List.setIfInBounds_toArray, List.set_cons_zero, List.set_cons_succ]))
          (refine hold6 (v := ?_) (by kernel_rfl) (by kernel_rfl) (by kernel_rfl) (fun _ _ _ h => h) (by rfl) (fun w' hSw => ?_) (by assumption) ?_; rotate_left 1; · ((try dsimp only at hSw); (try go_simp); (try (with_reducible rfl))); (try simp only [Act.put, List.setIfInBounds_toArray, List.set_cons_zero, List.set_cons_succ]))
          (refine hold7 (v := ?_) (by kernel_rfl) (by kernel_rfl) (by kernel_rfl) (fun _ _ _ h => h) (by rfl) (fun w' hSw => ?_) (by assumption) ?_; rotate_left 1; · ((try dsimp only at hSw); (try go_simp); (try (with_reducible rfl))); (try simp only [Act.put, List.setIfInBounds_toArray, List.set_cons_zero, List.set_cons_succ]))
          (refine hold8 (v := ?_) (by kernel_rfl) (by kernel_rfl) (by kernel_rfl) (fun _ _ _ h => h) (by rfl) (fun w' hSw => ?_) (by assumption) ?_; rotate_left 1; · ((try dsimp only at hSw); (try go_simp); (try (with_reducible rfl))); (try simp only [Act.put, List.setIfInBounds_toArray, List.set_cons_zero, List.set_cons_succ]))
          (refine hold9 (v := ?_) (by kernel_rfl) (by kernel_rfl) (by kernel_rfl) (fun _ _ _ h => h) (by rfl) (fun w' hSw => ?_) (by assumption) ?_; rotate_left 1; · ((try dsimp only at hSw); (try go_simp); (try (with_reducible rfl))); (try simp only [Act.put, List.setIfInBounds_toArray, List.set_cons_zero, List.set_cons_succ]))
          refine ends10 (by kernel_rfl) (fun K hK => ?_)
          go_simp
          refine (hcall _ (by (repeat (first | exact Gr.refl _ | assumption | apply Gr.alloc | apply Gr.drew | apply Gr.drewN | refine Gr.trans ?_ (by assumption))))).mono ?_
          rintro _ w5 hr
          rcases hr.cases with ⟨s1, lv1, h1, rfl, h2, h3⟩ | ⟨h1, rfl, h2⟩
          · obtain ⟨hk1, hk2⟩ := HKeep.out s1 h1
            have H1 := Lib.hid h1
            clear h1 hcall
            refine hK.out _ _ ?_
            go_wp2_with fail
            have TD : GStep gb lv' lv1 wq w5 := (GStep.of_gr (by (repeat (first | exact Gr.refl _ | assumption | apply Gr.alloc | apply Gr.drew | apply Gr.drewN | refine Gr.trans ?_ (by assumption))))).trans h3
            go_roundw
            case rel => exact ⟨k + 1, s1, lv1, by go_num, by omega, h2, hst.trans TD, hk1, by omega, TD.on OI', TD.on OO', by rw [HR.out, both_step hlt', H1.out, Option.bind_some, show P + 2 * (k : Int) + 2 = P + 2 * ((k + 1 : Nat) : Int) by omega]⟩
            case measure => simp [intOf]; omega
          · have H1 := Lib.hid h1
            clear h1 hcall
            refine bodyPost_panic (P := Try.prog) (fn := Try.f17) rfl ?_
            exact RetG.no (by rw [HR.out, both_step hlt', H1.out]; rfl) h2
        · obtain rfl : k = b.kids.length := by omega
          have hR3 : (growF (n + 1) b f t ⟨P, ls⟩ = linkF ⟨0, outsL P b.kids.length, [t]⟩ s') := (by rw [HR.out, List.drop_length]; rfl)
          have HR3 := Lib.hid hR3
          have hlen' := ok'.len
          clear HR hR3
          go_wp2_with fail
          refine (grow1_calls t _ hIt).mono ?_
          rintro _ w6 ⟨v6, rfl, o6, g6⟩
          have hlt1 := hw.lt (Nat.le_refl _)
          go_wp2_with fail
          refine (link_calls (l := ⟨0, outsL P b.kids.length, [t]⟩) (hw.gr' g6) hlen' (show I64 0 by decide) (OO'.gr g6) (fresh_on hw.lo o6 hlt1)).mono ?_
          rintro _ w7 hr
          rcases hr.cases with ⟨s2, lv2, h2, rfl, G7, T7⟩ | ⟨h2, rfl, G7⟩
          case inr =>
            have H2 := Lib.hid h2
            clear h2
            go_wp2_with fail
            refine bodyPost_panic rfl ?_
            exact RetG.no (by rw [HR3.out, H2.out]) G7
          have H2 := Lib.hid h2
          clear h2
          go_wp2_with fail
          refine bodyPost_end (results_none rfl _ _ _) rfl ?_
          exact RetG.yes (by rw [HR3.out, H2.out]) G7 ((hst.trans (GStep.of_gr g6)).trans T7)
end Go.Proofs.Ytjpapgbdhflgnaa
