/- How the search's state stands in memory; contract of its look-up of a mark (find). -/
import Derived.Test.YtelfbfjegmncaaaReach
import Derived.Test.YtelfbfjegmncaaaMapE
import Derived.Test.YtelfbfjegmncaaaReachLaw2
import Derived.Test.YtelfbfjegmncaaaNetOwn
import Derived.Deep.RegionHeld3
import Derived.StringKeys
namespace Go.Tok
open Go.RowKit
set_option linter.unusedVariables false
def arcCells (a : ArcD) : List Value := [.int .i64 a.src, .int .i64 a.tran, .int .i64 a.dst]
def arcI (a : ArcD) : Prop := I64 a.src ∧ I64 a.tran ∧ I64 a.dst
def arcK : Kind ArcD := flat 3 arcCells arcI (fun _ => rfl) (fun o u hu => by
  simp only [arcCells, List.mem_cons, List.not_mem_nil, or_false] at hu
  rcases hu with rfl | rfl | rfl <;> rfl)
theorem Rd.arc {w : World} {a : Option Addr} {n cap : Nat} {xs : List ArcD} (h : Rd arcK w (.slice a n cap) xs) {i : Nat} (hi : i < xs.length) :
    ∃ b o, a = some ⟨b, o, none⟩ ∧ w.cell? ⟨b, o + i * 3, none⟩ = some (.int .i64 (ix xs i).src) ∧ w.cell? ⟨b, o + i * 3 + 1, none⟩ = some (.int .i64 (ix xs i).tran) ∧ w.cell? ⟨b, o + i * 3 + 2, none⟩ = some (.int .i64 (ix xs i).dst) ∧ arcI (ix xs i) := by
  obtain ⟨b, o, vs, ha, ⟨rfl, hr⟩, hc⟩ := h.at_ hi
  exact ⟨b, o, ha, hc 0 _ rfl, hc 1 _ rfl, hc 2 _ rfl, hr⟩
theorem own_arcs {w : World} {H n m base e : Nat} {S : Nat → Prop} {xs : List ArcD} {cs : Array Value} (hH : w.heap.size = H) (hn : n = xs.length) (hm : m = xs.length) (hcs : cs.toList = xs.flatMap arcCells) (hI : ∀ x ∈ xs, arcI x) (hl : xs.length ≤ 1000) (hb : base ≤ w.heap.size) :
    OwnR arcK e base S (w.alloc (.cells cs e)) (.slice (some ⟨H, 0, none⟩) n m) xs := by
  refine OwnR.lit (xs.map fun x => (x, arcCells x)) (by rw [List.map_map]; exact (List.map_id _).symm) hH hn hm ?_ hl hb ?_
  · rw [hcs]; unfold cellsOf; rw [List.flatMap_map]
  · intro r hr
    obtain ⟨x, hx, rfl⟩ := List.mem_map.1 hr
    exact On.true (p := arcCells x = arcCells x ∧ arcI x) ⟨rfl, hI x hx⟩

/-! ### the marks' names, by number -/
def keyedM (ms : List (List Int)) : List (Value × Value) := ms.zipIdx.map fun p => (.string (nameS p.1), .int .i64 (p.2 : Int))
theorem keyedM_nil : keyedM [] = [] := rfl
theorem keyedM_snoc (ms : List (List Int)) (m : List Int) : keyedM (ms ++ [m]) = keyedM ms ++ [(.string (nameS m), .int .i64 (ms.length : Int))] := by
  unfold keyedM; rw [List.zipIdx_append]; simp
theorem keyedM_mem {ms : List (List Int)} {m : List Int} (h : m ∈ ms) : (Value.string (nameS m), Value.int .i64 ((ms.idxOf m : Nat) : Int)) ∈ keyedM ms := by
  obtain ⟨h1, h2⟩ := mem_idx h
  unfold keyedM
  refine List.mem_map.2 ⟨(m, ms.idxOf m), ?_, rfl⟩
  rw [List.mem_zipIdx_iff_getElem?]
  rw [ix_some h1, h2]
theorem keyedM_not {ms : List (List Int)} {m : List Int} (h : m ∉ ms) (hm : ∀ x ∈ m, 0 ≤ x ∧ x ≤ 1000000) (hms : ∀ y ∈ ms, ∀ x ∈ y, 0 ≤ x ∧ x ≤ 1000000) : ∀ x ∈ keyedM ms, x.1 ≠ .string (nameS m) := by
  intro x hx
  obtain ⟨p, hp, rfl⟩ := List.mem_map.1 hx
  intro e
  have hp1 : p.1 ∈ ms := List.mem_of_getElem? (List.mem_zipIdx_iff_getElem?.1 hp)
  have : nameS p.1 = nameS m := by simpa using e
  rw [nameS_inj (hms _ hp1) hm this] at hp1
  exact h hp1

/-! ### blocks beside those of the search -/
def Bes (R R' : Nat → Prop) (w w' : World) : Prop := w.heap.size ≤ w'.heap.size ∧ ∀ b, b < w.heap.size → ¬ R b → ¬ R' b ∧ w'.heap[b]? = w.heap[b]?
theorem Bes.refl (R : Nat → Prop) (w : World) : Bes R R w w := ⟨Nat.le_refl _, fun b _ h => ⟨h, rfl⟩⟩
theorem Bes.trans {R R1 R2 : Nat → Prop} {w w1 w2 : World} (h : Bes R R1 w w1) (k : Bes R1 R2 w1 w2) : Bes R R2 w w2 :=
  ⟨Nat.le_trans h.1 k.1, fun b hb hr => by
    obtain ⟨h1, h2⟩ := h.2 b hb hr
    obtain ⟨h3, h4⟩ := k.2 b (Nat.lt_of_lt_of_le hb h.1) h1
    exact ⟨h3, h4.trans h2⟩⟩
theorem Gr.bes {R : Nat → Prop} {w w' : World} (g : Gr w w') : Bes R R w w' := ⟨g.le, fun b hb h => ⟨h, g.below.block b hb⟩⟩
theorem On.bes {R R' : Nat → Prop} {p : World → Prop} {w w' : World} (h : On (fun b => ¬ R b) p w) (k : Bes R R' w w') : On (fun b => ¬ R' b) p w' := h.moved k.1 fun b hb hr => k.2 b hb hr
/-- a row that came new is none of the search's -/
theorem On.own {R : Nat → Prop} {e base : Nat} {w : World} {v : Value} {xs : List Int} (h : OwnI e base w v xs) (hr : ∀ b, R b → b < base) : On (fun b => ¬ R b) (fun w => Ints w v xs) w :=
  (Ints.on_own h).mono fun b _ hb hR => by have := (h.lt hb).1; have := hr b hR; omega
end Go.Tok
namespace Go.Proofs.Ytelfbfjegmncaaa
open Go.RowKit Go.Tok

set_option linter.unusedVariables false
theorem nameLaw : Go.Maps.Keyed Try.prog 9 := Go.Maps.string_keyed Try.underlying9
theorem arcTy : KTy Try.prog 38 56 arcK 24 (.agg #[.int .i64 0, .int .i64 0, .int .i64 0]) := ⟨Try.underlying38, by kernel_rfl, rfl, by decide⟩
theorem rowTy : KTy Try.prog 37 32 rowK 24 (.slice none 0 0) := ⟨Try.underlying37, by kernel_rfl, rfl, by decide⟩
theorem zeroInt2 (u : World) : (zeroValue 3).run Try.prog u = .ok (.int .i64 0) u := by kernel_rfl

/-- the search's own blocks -/
def FinB (base fb mb : Nat) (vm va vf : Value) (b : Nat) : Prop := b < base ∨ b = fb ∨ b = mb ∨ vm.ownBlock = some b ∨ va.ownBlock = some b ∨ vf.ownBlock = some b
/-- they are apart -/
structure FinA (fb mb : Nat) (vm va vf : Value) : Prop where
  fm : fb ≠ mb
  vmf : vm.ownBlock ≠ some fb
  vmm : vm.ownBlock ≠ some mb
  vaf : va.ownBlock ≠ some fb
  vam : va.ownBlock ≠ some mb
  vff : vf.ownBlock ≠ some fb
  vfm : vf.ownBlock ≠ some mb
  ma : ∀ b, vm.ownBlock = some b → va.ownBlock ≠ some b
  mf : ∀ b, vm.ownBlock = some b → vf.ownBlock ≠ some b
  af : ∀ b, va.ownBlock = some b → vf.ownBlock ≠ some b
structure FinO (N : NetD) (na : Option Addr) (ncap : Nat) (most : Int) (fb mb : Nat) (vm va vf : Value) (w0 w : World) (marks : List (List Int)) (kvs : List (Value × Value)) (arcs : List ArcD) (first : List Int) : Prop where
  blk : Blk w fb 135 #[.int .i64 N.places, .slice na N.trans.length ncap, .int .i64 most, .map (some mb), vm, va, vf]
  map : MAt Try.prog 9 w mb kvs
  ms : OwnR rowK 32 w0.heap.size (fun b => w0.heap.size ≤ b ∧ b ≠ fb ∧ b ≠ mb ∧ va.ownBlock ≠ some b ∧ vf.ownBlock ≠ some b) w vm marks
  ar : OwnR arcK 56 w0.heap.size (fun _ => False) w va arcs
  fi : OwnI 3 w0.heap.size w vf first
  gr : Gr w0 w
  fbase : w0.heap.size ≤ fb
  mbase : w0.heap.size ≤ mb
  ap : FinA fb mb vm va vf
theorem ne_or {v u : Value} (h : ∀ b, v.ownBlock = some b → u.ownBlock ≠ some b) : u.ownBlock = none ∨ u.ownBlock ≠ v.ownBlock := by
  cases hu : u.ownBlock with
  | none => exact .inl rfl
  | some b => exact .inr fun e => h b e.symm hu
section
variable {N : NetD} {na : Option Addr} {ncap : Nat} {most : Int} {fb mb : Nat} {vm va vf : Value} {w0 w w' : World} {marks : List (List Int)} {kvs : List (Value × Value)} {arcs : List ArcD} {first : List Int}
theorem FinO.lt (h : FinO N na ncap most fb mb vm va vf w0 w marks kvs arcs first) {b : Nat} (hb : FinB w0.heap.size fb mb vm va vf b) : b < w.heap.size := by
  rcases hb with hb | rfl | rfl | hb | hb | hb
  · exact Nat.lt_of_lt_of_le hb h.gr.le
  · exact h.blk.lt
  · exact h.map.lt
  · exact (h.ms.lt hb).2
  · exact (h.ar.lt hb).2
  · exact (h.fi.lt hb).2
theorem FinO.gr' (h : FinO N na ncap most fb mb vm va vf w0 w marks kvs arcs first) (g : Gr w w') : FinO N na ncap most fb mb vm va vf w0 w' marks kvs arcs first :=
  ⟨h.blk.gr g, h.map.gr g, h.ms.gr g, h.ar.gr g, h.fi.gr g, h.gr.trans g, h.fbase, h.mbase, h.ap⟩
theorem FinO.put_map (h : FinO N na ncap most fb mb vm va vf w0 w marks kvs arcs first) (ho : OnlyAt mb w w') {kvs' : List (Value × Value)} (hm : MAt Try.prog 9 w' mb kvs') : FinO N na ncap most fb mb vm va vf w0 w' marks kvs' arcs first := by
  have hg : w.grownBy w' (some mb) := ⟨ho.1, ho.2.1, ho.2.2.1, Nat.le_of_eq ho.2.2.2.1.symm, fun x hx hne => ho.2.2.2.2 x (fun e => hne (by rw [e]))⟩
  refine ⟨h.blk.grown hg (fun e => h.ap.fm (Option.some.inj e)), hm, h.ms.kept hg (.inr h.ap.vmm) (fun b _ hb => ⟨hb, fun e => hb.2.2.1 (Option.some.inj e)⟩), h.ar.kept hg (.inr h.ap.vam) (fun b _ hb => hb.elim), h.fi.grown hg (.inr h.ap.vfm), h.gr.grown hg (fun k hk => by cases hk; exact h.mbase), h.fbase, h.mbase, h.ap⟩
theorem FinO.put_map_bes (h : FinO N na ncap most fb mb vm va vf w0 w marks kvs arcs first) (ho : OnlyAt mb w w') : Bes (FinB w0.heap.size fb mb vm va vf) (FinB w0.heap.size fb mb vm va vf) w w' :=
  ⟨Nat.le_of_eq ho.2.2.2.1.symm, fun b _ hb => ⟨hb, ho.2.2.2.2 b (fun e => hb (.inr (.inr (.inl e))))⟩⟩
theorem set_bes {R : Nat → Prop} {a : Addr} (h : R a.block) (u : Value) (w : World) : Bes R R w (w.setCell a u) :=
  ⟨by simp [World.setCell], fun b _ hb => ⟨hb, Below.heap_setCell _ _ _ _ (fun e => hb (e ▸ h))⟩⟩
/-- a mark more -/
theorem FinO.put_mark (h : FinO N na ncap most fb mb vm va vf w0 w marks kvs arcs first) {v' : Value} {marks' : List (List Int)} (hg : w.grownBy w' vm.ownBlock) (ho : OwnR rowK 32 w0.heap.size (fun b => w0.heap.size ≤ b ∧ b ≠ fb ∧ b ≠ mb ∧ va.ownBlock ≠ some b ∧ vf.ownBlock ≠ some b) w' v' marks') (hat : v'.ownBlock = vm.ownBlock ∨ v'.ownBlock = some w.heap.size) :
    FinO N na ncap most fb mb v' va vf w0 (w'.setCell ⟨fb, 4, none⟩ v') marks' kvs arcs first ∧ Bes (FinB w0.heap.size fb mb vm va vf) (FinB w0.heap.size fb mb v' va vf) w (w'.setCell ⟨fb, 4, none⟩ v') := by
  have hn : ∀ b, b < w.heap.size → vm.ownBlock ≠ some b → v'.ownBlock ≠ some b := fun b hb h1 h2 => by
    rcases hat with h3 | h3
    · exact h1 (h3.symm.trans h2)
    · rw [h3] at h2; have := Option.some.inj h2; omega
  have hfb := h.blk.lt
  have hmb := h.map.lt
  have ap : FinA fb mb v' va vf := ⟨h.ap.fm, hn _ hfb h.ap.vmf, hn _ hmb h.ap.vmm, h.ap.vaf, h.ap.vam, h.ap.vff, h.ap.vfm, fun b h1 h2 => hn b (h.ar.lt h2).2 (fun e => h.ap.ma b e h2) h1, fun b h1 h2 => hn b (h.fi.lt h2).2 (fun e => h.ap.mf b e h2) h1, h.ap.af⟩
  have b1 : Blk w' fb _ _ := h.blk.grown hg (fun e => h.ap.vmf e.symm)
  refine ⟨⟨?_, (h.map.grown hg (fun e => h.ap.vmm e.symm)).set (fun e => h.ap.fm e.symm) _, ho.other ap.vmf (fun e => e.2.1 rfl) _, (h.ar.kept hg (ne_or h.ap.ma) (fun b _ hb => hb.elim)).other h.ap.vaf (fun e => e) _, (h.fi.grown hg (ne_or h.ap.mf)).other h.ap.vff _, (h.gr.grown hg (fun k hk => (h.ms.lt hk).1)).setCell h.fbase _, h.fbase, h.mbase, ap⟩, ?_⟩
  · have := b1.set 4 v'
    simpa using this
  · refine Bes.trans (R1 := FinB w0.heap.size fb mb v' va vf) ⟨hg.size, fun b hb hr => ⟨fun h1 => ?_, hg.block b hb (fun e => hr (.inr (.inr (.inr (.inl e.symm)))))⟩⟩ (set_bes (.inr (.inl rfl)) _ _)
    rcases h1 with h1 | h1 | h1 | h1 | h1 | h1
    · exact hr (.inl h1)
    · exact hr (.inr (.inl h1))
    · exact hr (.inr (.inr (.inl h1)))
    · exact hn b hb (fun e => hr (.inr (.inr (.inr (.inl e))))) h1
    · exact hr (.inr (.inr (.inr (.inr (.inl h1)))))
    · exact hr (.inr (.inr (.inr (.inr (.inr h1)))))
/-- an arc more -/
theorem FinO.put_arc (h : FinO N na ncap most fb mb vm va vf w0 w marks kvs arcs first) {v' : Value} {arcs' : List ArcD} (hg : w.grownBy w' va.ownBlock) (ho : OwnR arcK 56 w0.heap.size (fun _ => False) w' v' arcs') (hat : v'.ownBlock = va.ownBlock ∨ v'.ownBlock = some w.heap.size) :
    FinO N na ncap most fb mb vm v' vf w0 (w'.setCell ⟨fb, 5, none⟩ v') marks kvs arcs' first ∧ Bes (FinB w0.heap.size fb mb vm va vf) (FinB w0.heap.size fb mb vm v' vf) w (w'.setCell ⟨fb, 5, none⟩ v') := by
  have hn : ∀ b, b < w.heap.size → va.ownBlock ≠ some b → v'.ownBlock ≠ some b := fun b hb h1 h2 => by
    rcases hat with h3 | h3
    · exact h1 (h3.symm.trans h2)
    · rw [h3] at h2; have := Option.some.inj h2; omega
  have hfb := h.blk.lt
  have hmb := h.map.lt
  have ap : FinA fb mb vm v' vf := ⟨h.ap.fm, h.ap.vmf, h.ap.vmm, hn _ hfb h.ap.vaf, hn _ hmb h.ap.vam, h.ap.vff, h.ap.vfm, fun b h1 h2 => hn b (h.ms.lt h1).2 (h.ap.ma b h1) h2, h.ap.mf, fun b h1 h2 => hn b (h.fi.lt h2).2 (fun e => h.ap.af b e h2) h1⟩
  have b1 : Blk w' fb _ _ := h.blk.grown hg (fun e => h.ap.vaf e.symm)
  have mk1 : OwnR rowK 32 w0.heap.size (fun b => w0.heap.size ≤ b ∧ b ≠ fb ∧ b ≠ mb ∧ v'.ownBlock ≠ some b ∧ vf.ownBlock ≠ some b) w' vm marks := h.ms.kept hg (by
    cases hm : vm.ownBlock with
    | none => exact .inl rfl
    | some b => exact .inr fun e => h.ap.ma b hm e.symm) (fun b hb hs => ⟨⟨hs.1, hs.2.1, hs.2.2.1, hn b hb hs.2.2.2.1, hs.2.2.2.2⟩, fun e => hs.2.2.2.1 e.symm⟩)
  refine ⟨⟨?_, (h.map.grown hg (fun e => h.ap.vam e.symm)).set (fun e => h.ap.fm e.symm) _, mk1.other ap.vmf (fun e => e.2.1 rfl) _, ho.other ap.vaf (fun e => e) _, (h.fi.grown hg (ne_or h.ap.af)).other h.ap.vff _, (h.gr.grown hg (fun k hk => (h.ar.lt hk).1)).setCell h.fbase _, h.fbase, h.mbase, ap⟩, ?_⟩
  · have := b1.set 5 v'
    simpa using this
  · refine Bes.trans (R1 := FinB w0.heap.size fb mb vm v' vf) ⟨hg.size, fun b hb hr => ⟨fun h1 => ?_, hg.block b hb (fun e => hr (.inr (.inr (.inr (.inr (.inl e.symm))))))⟩⟩ (set_bes (.inr (.inl rfl)) _ _)
    rcases h1 with h1 | h1 | h1 | h1 | h1 | h1
    · exact hr (.inl h1)
    · exact hr (.inr (.inl h1))
    · exact hr (.inr (.inr (.inl h1)))
    · exact hr (.inr (.inr (.inr (.inl h1))))
    · exact hn b hb (fun e => hr (.inr (.inr (.inr (.inr (.inl e)))))) h1
    · exact hr (.inr (.inr (.inr (.inr (.inr h1)))))
/-- a first arc more -/
theorem FinO.put_first (h : FinO N na ncap most fb mb vm va vf w0 w marks kvs arcs first) {v' : Value} {first' : List Int} (hg : w.grownBy w' vf.ownBlock) (ho : OwnI 3 w0.heap.size w' v' first') (hat : v'.ownBlock = vf.ownBlock ∨ v'.ownBlock = some w.heap.size) :
    FinO N na ncap most fb mb vm va v' w0 (w'.setCell ⟨fb, 6, none⟩ v') marks kvs arcs first' ∧ Bes (FinB w0.heap.size fb mb vm va vf) (FinB w0.heap.size fb mb vm va v') w (w'.setCell ⟨fb, 6, none⟩ v') := by
  have hn : ∀ b, b < w.heap.size → vf.ownBlock ≠ some b → v'.ownBlock ≠ some b := fun b hb h1 h2 => by
    rcases hat with h3 | h3
    · exact h1 (h3.symm.trans h2)
    · rw [h3] at h2; have := Option.some.inj h2; omega
  have hfb := h.blk.lt
  have hmb := h.map.lt
  have ap : FinA fb mb vm va v' := ⟨h.ap.fm, h.ap.vmf, h.ap.vmm, h.ap.vaf, h.ap.vam, hn _ hfb h.ap.vff, hn _ hmb h.ap.vfm, h.ap.ma, fun b h1 h2 => hn b (h.ms.lt h1).2 (h.ap.mf b h1) h2, fun b h1 h2 => hn b (h.ar.lt h1).2 (h.ap.af b h1) h2⟩
  have b1 : Blk w' fb _ _ := h.blk.grown hg (fun e => h.ap.vff e.symm)
  have mk1 : OwnR rowK 32 w0.heap.size (fun b => w0.heap.size ≤ b ∧ b ≠ fb ∧ b ≠ mb ∧ va.ownBlock ≠ some b ∧ v'.ownBlock ≠ some b) w' vm marks := h.ms.kept hg (by
    cases hm : vm.ownBlock with
    | none => exact .inl rfl
    | some b => exact .inr fun e => h.ap.mf b hm e.symm) (fun b hb hs => ⟨⟨hs.1, hs.2.1, hs.2.2.1, hs.2.2.2.1, hn b hb hs.2.2.2.2⟩, fun e => hs.2.2.2.2 e.symm⟩)
  refine ⟨⟨?_, (h.map.grown hg (fun e => h.ap.vfm e.symm)).set (fun e => h.ap.fm e.symm) _, mk1.other ap.vmf (fun e => e.2.1 rfl) _, (h.ar.kept hg (by
    cases hm : va.ownBlock with
    | none => exact .inl rfl
    | some b => exact .inr fun e => h.ap.af b hm e.symm) (fun b _ hb => hb.elim)).other ap.vaf (fun e => e) _, ho.other ap.vff _, (h.gr.grown hg (fun k hk => (h.fi.lt hk).1)).setCell h.fbase _, h.fbase, h.mbase, ap⟩, ?_⟩
  · have := b1.set 6 v'
    simpa using this
  · refine Bes.trans (R1 := FinB w0.heap.size fb mb vm va v') ⟨hg.size, fun b hb hr => ⟨fun h1 => ?_, hg.block b hb (fun e => hr (.inr (.inr (.inr (.inr (.inr e.symm))))))⟩⟩ (set_bes (.inr (.inl rfl)) _ _)
    rcases h1 with h1 | h1 | h1 | h1 | h1 | h1
    · exact hr (.inl h1)
    · exact hr (.inr (.inl h1))
    · exact hr (.inr (.inr (.inl h1)))
    · exact hr (.inr (.inr (.inr (.inl h1))))
    · exact hr (.inr (.inr (.inr (.inr (.inl h1)))))
    · exact hn b hb (fun e => hr (.inr (.inr (.inr (.inr (.inr e)))))) h1
end
/-- the search's state: s, in the blocks R -/
def FinW (N : NetD) (na : Option Addr) (ncap : Nat) (most : Int) (fb : Nat) (w0 : World) (R : Nat → Prop) (w : World) (s : FinD) : Prop :=
  ∃ mb vm va vf, R = FinB w0.heap.size fb mb vm va vf ∧ FinO N na ncap most fb mb vm va vf w0 w s.marks (keyedM s.marks) s.arcs s.first
end Go.Proofs.Ytelfbfjegmncaaa
