/- Contract of reach.name: a mark as a text. -/
import Derived.Test.YtjpapgbdhflgnaaPB
import Derived.Test.YtjpapgbdhflgnaaGN
import Derived.OwnWalk
import Derived.Test.YtjpapgbdhflgnaaPA
import Derived.Deep.RegionHeld3
import Derived.StringKeys
import Derived.Deep.DeepCutAuto
namespace Go.Proofs.Ytjpapgbdhflgnaa
open Go.RowKit Go.Tok
set_option linter.unusedVariables false
theorem nbyteTy : KTy Try.prog 129 5 byteK 1 (.int .u8 0) := ⟨Try.underlying129, by kernel_rfl, rfl, by decide⟩
set_option maxHeartbeats 4000000 in
theorem name_calls (v : Value) (m : List Int) (w : World) (hv : Ints w v m) (hm : ∀ x ∈ m, 0 ≤ x ∧ x ≤ 1000000) (hl : m.length ≤ 100) :
    Calls Try.prog 74 #[v] w fun e w' => e = .returned (.string (nameS m)) ∧ Gr w w' := by
  have T := nbyteTy
  obtain ⟨a, cap, rfl, hlc, hcap⟩ := hv.len
  obtain ⟨i, hi, hz, hsz, hb⟩ := info_parts T.info
  go_enter Try.func74, Try.ntmps74
  go_wp2_with (at_make; refine wpList_make_own w rfl _ _ _ rfl w.heap.size 5 i _ 1 Try.underlying129 hi hz hsz .i64 .i64 _ (3 * m.length) rfl rfl (by go_num) (by rw [hb]; omega) (by unfold maxLen; omega) (Nat.le_refl _) ?_; intro w1 ho1 hg1)
  have own1 : OwnR byteK 5 w.heap.size All w1 (.slice (some ⟨w.heap.size, 0, none⟩) 0 (3 * m.length)) (nameTo m 0) := by rw [nameTo_zero]; exact OwnR.empty ho1
  have G1 : Gr w w1 := (Gr.refl w).grown hg1 (by simp)
  clear ho1 hg1
  go_wp2_with fail
  go_loopw [3, 12] (fun b i wr => ∃ k : Nat, k ≤ m.length ∧ i = .int .i64 k ∧ OwnR byteK 5 w.heap.size All wr b (nameTo m k) ∧ Gr w wr) (fun _ i _ => m.length - (intOf i).toNat)
  case atStart => exact ⟨0, Nat.zero_le _, rfl, own1, G1⟩
  case round =>
    rename_i wr
    obtain ⟨k, hk, rfl, hown, hgr⟩ := hrel
    by_cases hlt : k < m.length
    · obtain ⟨b', o, rfl, hcell⟩ := (hv.gr hgr).cell hlt
      have hb2 : 0 ≤ nth m k ∧ nth m k ≤ 1000000 := hm _ (by rw [nth_lt hlt]; exact List.getElem_mem hlt)
      have h0 : 0 ≤ nth m k := hb2.1
      have h1 : nth m k ≤ 1000000 := hb2.2
      have hll := nameTo_len hk
      have HS := Lib.hid (nameTo_succ hlt)
      clear hb2
      go_wp2_with (at_builtin; refine app_flat T _ _ w.heap.size All _ _ (nameTo m k) (bytes3 (nth m k)) (by rfl) (by rfl) (by rfl) (by rfl) (hown.alloc _) ((own_bytes (base := 0) (S := All) (xs := bytes3 (nth m k)) rfl rfl rfl (by simp [bytes3]; omega) (bytes3_lt _) (by simp [bytes3]) (Nat.zero_le _)).rd) (bytes3_lt _) (by simp [bytes3]; omega) (by simp [bytes3]; unfold maxLen; omega) (by have := hgr.le; simp; omega) ?_; intro v' w' ho hgs hgb hat)
      rw [← HS.out] at ho
      go_roundw
      case rel => exact ⟨k + 1, by omega, by go_num, ho, hgs w (Nat.le_refl _) (hgr.alloc _)⟩
      case measure => simp [intOf]; omega
    · obtain rfl : k = m.length := by omega
      rw [nameTo_all] at hown
      obtain ⟨ra, rc, rfl, _, _⟩ := hown.len
      have rs := hown.rd.str Try.underlying129 Try.underlying5 Try.underlying9
      rw [← nameS_def] at rs
      go_wp2_with fail
      go_ret
      exact ⟨rfl, hgr⟩
end Go.Proofs.Ytjpapgbdhflgnaa

/- How the search's state stands in memory; contract of its look-up of a mark (find). -/
namespace Go.Tok
open Go.RowKit
set_option linter.unusedVariables false
def arcCells (a : ArcD) : List Value := [.int .i64 a.src, .int .i64 a.tran, .int .i64 a.dst]
def arcI (a : ArcD) : Prop := I64 a.src ∧ I64 a.tran ∧ I64 a.dst
def arcK : Kind ArcD := flat 3 arcCells arcI (fun _ => rfl) (fun o u hu => by
  simp only [arcCells, List.mem_cons, List.not_mem_nil, or_false] at hu
  rcases hu with rfl | rfl | rfl <;> rfl)
theorem Rd.arc {w : World} {a : Option Addr} {n cap : Nat} {xs : List ArcD} (h : Rd arcK w (.slice a n cap) xs) {i : Nat} (hi : i < xs.length) :
    ∃ b o, a = some ⟨b, o, none⟩ ∧ w.cell? ⟨b, o + i * 3, none⟩ = some (.int .i64 (ix xs i).src) ∧ w.cell? ⟨b, o + i * 3 + 1, none⟩ = some (.int .i64 (ix xs i).tran) ∧ w.cell? ⟨b, o + i * 3 + 2, none⟩ = some (.int .i64 (ix xs i).dst) ∧ arcI (ix xs i) := by
  obtain ⟨b, o, vs, ha, ⟨rfl, hr⟩, hc⟩ := h.at_ hi
  exact ⟨b, o, ha, hc 0 _ rfl, hc 1 _ rfl, hc 2 _ rfl, hr⟩
theorem own_arcs {w : World} {H n m base e : Nat} {S : Nat → Prop} {xs : List ArcD} {cs : Array Value} (hH : w.heap.size = H) (hn : n = xs.length) (hm : m = xs.length) (hcs : cs.toList = xs.flatMap arcCells) (hI : ∀ x ∈ xs, arcI x) (hl : xs.length ≤ 1000) (hb : base ≤ w.heap.size) :
    OwnR arcK e base S (w.alloc (.cells cs e)) (.slice (some ⟨H, 0, none⟩) n m) xs := by
  refine OwnR.lit (xs.map fun x => (x, arcCells x)) (by rw [List.map_map]; exact (List.map_id _).symm) hH hn hm ?_ hl hb ?_
  · rw [hcs]; unfold cellsOf; rw [List.flatMap_map]
  · intro r hr
    obtain ⟨x, hx, rfl⟩ := List.mem_map.1 hr
    exact On.true (p := arcCells x = arcCells x ∧ arcI x) ⟨rfl, hI x hx⟩

/-! ### the marks' names, by number -/
def keyedM (ms : List (List Int)) : List (Value × Value) := ms.zipIdx.map fun p => (.string (nameS p.1), .int .i64 (p.2 : Int))
theorem keyedM_nil : keyedM [] = [] := rfl
theorem keyedM_snoc (ms : List (List Int)) (m : List Int) : keyedM (ms ++ [m]) = keyedM ms ++ [(.string (nameS m), .int .i64 (ms.length : Int))] := by
  unfold keyedM; rw [List.zipIdx_append]; simp
theorem keyedM_mem {ms : List (List Int)} {m : List Int} (h : m ∈ ms) : (Value.string (nameS m), Value.int .i64 ((ms.idxOf m : Nat) : Int)) ∈ keyedM ms := by
  obtain ⟨h1, h2⟩ := mem_idx h
  unfold keyedM
  refine List.mem_map.2 ⟨(m, ms.idxOf m), ?_, rfl⟩
  rw [List.mem_zipIdx_iff_getElem?]
  rw [ix_some h1, h2]
theorem keyedM_not {ms : List (List Int)} {m : List Int} (h : m ∉ ms) (hm : ∀ x ∈ m, 0 ≤ x ∧ x ≤ 1000000) (hms : ∀ y ∈ ms, ∀ x ∈ y, 0 ≤ x ∧ x ≤ 1000000) : ∀ x ∈ keyedM ms, x.1 ≠ .string (nameS m) := by
  intro x hx
  obtain ⟨p, hp, rfl⟩ := List.mem_map.1 hx
  intro e
  have hp1 : p.1 ∈ ms := List.mem_of_getElem? (List.mem_zipIdx_iff_getElem?.1 hp)
  have : nameS p.1 = nameS m := by simpa using e
  rw [nameS_inj (hms _ hp1) hm this] at hp1
  exact h hp1

/-! ### blocks beside those of the search -/
def Bes (R R' : Nat → Prop) (w w' : World) : Prop := w.heap.size ≤ w'.heap.size ∧ ∀ b, b < w.heap.size → ¬ R b → ¬ R' b ∧ w'.heap[b]? = w.heap[b]?
theorem Bes.refl (R : Nat → Prop) (w : World) : Bes R R w w := ⟨Nat.le_refl _, fun b _ h => ⟨h, rfl⟩⟩
theorem Bes.trans {R R1 R2 : Nat → Prop} {w w1 w2 : World} (h : Bes R R1 w w1) (k : Bes R1 R2 w1 w2) : Bes R R2 w w2 :=
  ⟨Nat.le_trans h.1 k.1, fun b hb hr => by
    obtain ⟨h1, h2⟩ := h.2 b hb hr
    obtain ⟨h3, h4⟩ := k.2 b (Nat.lt_of_lt_of_le hb h.1) h1
    exact ⟨h3, h4.trans h2⟩⟩
theorem Gr.bes {R : Nat → Prop} {w w' : World} (g : Gr w w') : Bes R R w w' := ⟨g.le, fun b hb h => ⟨h, g.below.block b hb⟩⟩
theorem On.bes {R R' : Nat → Prop} {p : World → Prop} {w w' : World} (h : On (fun b => ¬ R b) p w) (k : Bes R R' w w') : On (fun b => ¬ R' b) p w' := h.moved k.1 fun b hb hr => k.2 b hb hr
/-- a row that came new is none of the search's -/
theorem On.own {R : Nat → Prop} {e base : Nat} {w : World} {v : Value} {xs : List Int} (h : OwnI e base w v xs) (hr : ∀ b, R b → b < base) : On (fun b => ¬ R b) (fun w => Ints w v xs) w :=
  (Ints.on_own h).mono fun b _ hb hR => by have := (h.lt hb).1; have := hr b hR; omega
end Go.Tok
namespace Go.Proofs.Ytjpapgbdhflgnaa
open Go.RowKit Go.Tok

set_option linter.unusedVariables false
theorem nameLaw : Go.Maps.Keyed Try.prog 9 := Go.Maps.string_keyed Try.underlying9
theorem arcTy : KTy Try.prog 75 114 arcK 24 (.agg #[.int .i64 0, .int .i64 0, .int .i64 0]) := ⟨Try.underlying75, by kernel_rfl, rfl, by decide⟩
theorem rowTy : KTy Try.prog 74 39 rowK 24 (.slice none 0 0) := ⟨Try.underlying74, by kernel_rfl, rfl, by decide⟩
theorem zeroInt2 (u : World) : (zeroValue 3).run Try.prog u = .ok (.int .i64 0) u := by kernel_rfl

/-- the search's own blocks -/
def FinB (base fb mb : Nat) (vm va vf : Value) (b : Nat) : Prop := b < base ∨ b = fb ∨ b = mb ∨ vm.ownBlock = some b ∨ va.ownBlock = some b ∨ vf.ownBlock = some b
/-- they are apart -/
structure FinA (fb mb : Nat) (vm va vf : Value) : Prop where
  fm : fb ≠ mb
  vmf : vm.ownBlock ≠ some fb
  vmm : vm.ownBlock ≠ some mb
  vaf : va.ownBlock ≠ some fb
  vam : va.ownBlock ≠ some mb
  vff : vf.ownBlock ≠ some fb
  vfm : vf.ownBlock ≠ some mb
  ma : ∀ b, vm.ownBlock = some b → va.ownBlock ≠ some b
  mf : ∀ b, vm.ownBlock = some b → vf.ownBlock ≠ some b
  af : ∀ b, va.ownBlock = some b → vf.ownBlock ≠ some b
structure FinO (N : NetD) (na : Option Addr) (ncap : Nat) (most : Int) (fb mb : Nat) (vm va vf : Value) (w0 w : World) (marks : List (List Int)) (kvs : List (Value × Value)) (arcs : List ArcD) (first : List Int) : Prop where
  blk : Blk w fb 107 #[.int .i64 N.places, .slice na N.trans.length ncap, .int .i64 most, .map (some mb), vm, va, vf]
  map : MAt Try.prog 9 w mb kvs
  ms : OwnR rowK 39 w0.heap.size (fun b => w0.heap.size ≤ b ∧ b ≠ fb ∧ b ≠ mb ∧ va.ownBlock ≠ some b ∧ vf.ownBlock ≠ some b) w vm marks
  ar : OwnR arcK 114 w0.heap.size (fun _ => False) w va arcs
  fi : OwnI 3 w0.heap.size w vf first
  gr : Gr w0 w
  fbase : w0.heap.size ≤ fb
  mbase : w0.heap.size ≤ mb
  ap : FinA fb mb vm va vf
theorem ne_or {v u : Value} (h : ∀ b, v.ownBlock = some b → u.ownBlock ≠ some b) : u.ownBlock = none ∨ u.ownBlock ≠ v.ownBlock := by
  cases hu : u.ownBlock with
  | none => exact .inl rfl
  | some b => exact .inr fun e => h b e.symm hu
section
variable {N : NetD} {na : Option Addr} {ncap : Nat} {most : Int} {fb mb : Nat} {vm va vf : Value} {w0 w w' : World} {marks : List (List Int)} {kvs : List (Value × Value)} {arcs : List ArcD} {first : List Int}
theorem FinO.lt (h : FinO N na ncap most fb mb vm va vf w0 w marks kvs arcs first) {b : Nat} (hb : FinB w0.heap.size fb mb vm va vf b) : b < w.heap.size := by
  rcases hb with hb | rfl | rfl | hb | hb | hb
  · exact Nat.lt_of_lt_of_le hb h.gr.le
  · exact h.blk.lt
  · exact h.map.lt
  · exact (h.ms.lt hb).2
  · exact (h.ar.lt hb).2
  · exact (h.fi.lt hb).2
theorem FinO.gr' (h : FinO N na ncap most fb mb vm va vf w0 w marks kvs arcs first) (g : Gr w w') : FinO N na ncap most fb mb vm va vf w0 w' marks kvs arcs first :=
  ⟨h.blk.gr g, h.map.gr g, h.ms.gr g, h.ar.gr g, h.fi.gr g, h.gr.trans g, h.fbase, h.mbase, h.ap⟩
theorem FinO.put_map (h : FinO N na ncap most fb mb vm va vf w0 w marks kvs arcs first) (ho : OnlyAt mb w w') {kvs' : List (Value × Value)} (hm : MAt Try.prog 9 w' mb kvs') : FinO N na ncap most fb mb vm va vf w0 w' marks kvs' arcs first := by
  have hg : w.grownBy w' (some mb) := ⟨ho.1, ho.2.1, ho.2.2.1, Nat.le_of_eq ho.2.2.2.1.symm, fun x hx hne => ho.2.2.2.2 x (fun e => hne (by rw [e]))⟩
  refine ⟨h.blk.grown hg (fun e => h.ap.fm (Option.some.inj e)), hm, h.ms.kept hg (.inr h.ap.vmm) (fun b _ hb => ⟨hb, fun e => hb.2.2.1 (Option.some.inj e)⟩), h.ar.kept hg (.inr h.ap.vam) (fun b _ hb => hb.elim), h.fi.grown hg (.inr h.ap.vfm), h.gr.grown hg (fun k hk => by cases hk; exact h.mbase), h.fbase, h.mbase, h.ap⟩
theorem FinO.put_map_bes (h : FinO N na ncap most fb mb vm va vf w0 w marks kvs arcs first) (ho : OnlyAt mb w w') : Bes (FinB w0.heap.size fb mb vm va vf) (FinB w0.heap.size fb mb vm va vf) w w' :=
  ⟨Nat.le_of_eq ho.2.2.2.1.symm, fun b _ hb => ⟨hb, ho.2.2.2.2 b (fun e => hb (.inr (.inr (.inl e))))⟩⟩
theorem set_bes {R : Nat → Prop} {a : Addr} (h : R a.block) (u : Value) (w : World) : Bes R R w (w.setCell a u) :=
  ⟨by simp [World.setCell], fun b _ hb => ⟨hb, Below.heap_setCell _ _ _ _ (fun e => hb (e ▸ h))⟩⟩
/-- a mark more -/
theorem FinO.put_mark (h : FinO N na ncap most fb mb vm va vf w0 w marks kvs arcs first) {v' : Value} {marks' : List (List Int)} (hg : w.grownBy w' vm.ownBlock) (ho : OwnR rowK 39 w0.heap.size (fun b => w0.heap.size ≤ b ∧ b ≠ fb ∧ b ≠ mb ∧ va.ownBlock ≠ some b ∧ vf.ownBlock ≠ some b) w' v' marks') (hat : v'.ownBlock = vm.ownBlock ∨ v'.ownBlock = some w.heap.size) :
    FinO N na ncap most fb mb v' va vf w0 (w'.setCell ⟨fb, 4, none⟩ v') marks' kvs arcs first ∧ Bes (FinB w0.heap.size fb mb vm va vf) (FinB w0.heap.size fb mb v' va vf) w (w'.setCell ⟨fb, 4, none⟩ v') := by
  have hn : ∀ b, b < w.heap.size → vm.ownBlock ≠ some b → v'.ownBlock ≠ some b := fun b hb h1 h2 => by
    rcases hat with h3 | h3
    · exact h1 (h3.symm.trans h2)
    · rw [h3] at h2; have := Option.some.inj h2; omega
  have hfb := h.blk.lt
  have hmb := h.map.lt
  have ap : FinA fb mb v' va vf := ⟨h.ap.fm, hn _ hfb h.ap.vmf, hn _ hmb h.ap.vmm, h.ap.vaf, h.ap.vam, h.ap.vff, h.ap.vfm, fun b h1 h2 => hn b (h.ar.lt h2).2 (fun e => h.ap.ma b e h2) h1, fun b h1 h2 => hn b (h.fi.lt h2).2 (fun e => h.ap.mf b e h2) h1, h.ap.af⟩
  have b1 : Blk w' fb _ _ := h.blk.grown hg (fun e => h.ap.vmf e.symm)
  refine ⟨⟨?_, (h.map.grown hg (fun e => h.ap.vmm e.symm)).set (fun e => h.ap.fm e.symm) _, ho.other ap.vmf (fun e => e.2.1 rfl) _, (h.ar.kept hg (ne_or h.ap.ma) (fun b _ hb => hb.elim)).other h.ap.vaf (fun e => e) _, (h.fi.grown hg (ne_or h.ap.mf)).other h.ap.vff _, (h.gr.grown hg (fun k hk => (h.ms.lt hk).1)).setCell h.fbase _, h.fbase, h.mbase, ap⟩, ?_⟩
  · have := b1.set 4 v'
    simpa using this
  · refine Bes.trans (R1 := FinB w0.heap.size fb mb v' va vf) ⟨hg.size, fun b hb hr => ⟨fun h1 => ?_, hg.block b hb (fun e => hr (.inr (.inr (.inr (.inl e.symm)))))⟩⟩ (set_bes (.inr (.inl rfl)) _ _)
    rcases h1 with h1 | h1 | h1 | h1 | h1 | h1
    · exact hr (.inl h1)
    · exact hr (.inr (.inl h1))
    · exact hr (.inr (.inr (.inl h1)))
    · exact hn b hb (fun e => hr (.inr (.inr (.inr (.inl e))))) h1
    · exact hr (.inr (.inr (.inr (.inr (.inl h1)))))
    · exact hr (.inr (.inr (.inr (.inr (.inr h1)))))
/-- an arc more -/
theorem FinO.put_arc (h : FinO N na ncap most fb mb vm va vf w0 w marks kvs arcs first) {v' : Value} {arcs' : List ArcD} (hg : w.grownBy w' va.ownBlock) (ho : OwnR arcK 114 w0.heap.size (fun _ => False) w' v' arcs') (hat : v'.ownBlock = va.ownBlock ∨ v'.ownBlock = some w.heap.size) :
    FinO N na ncap most fb mb vm v' vf w0 (w'.setCell ⟨fb, 5, none⟩ v') marks kvs arcs' first ∧ Bes (FinB w0.heap.size fb mb vm va vf) (FinB w0.heap.size fb mb vm v' vf) w (w'.setCell ⟨fb, 5, none⟩ v') := by
  have hn : ∀ b, b < w.heap.size → va.ownBlock ≠ some b → v'.ownBlock ≠ some b := fun b hb h1 h2 => by
    rcases hat with h3 | h3
    · exact h1 (h3.symm.trans h2)
    · rw [h3] at h2; have := Option.some.inj h2; omega
  have hfb := h.blk.lt
  have hmb := h.map.lt
  have ap : FinA fb mb vm v' vf := ⟨h.ap.fm, h.ap.vmf, h.ap.vmm, hn _ hfb h.ap.vaf, hn _ hmb h.ap.vam, h.ap.vff, h.ap.vfm, fun b h1 h2 => hn b (h.ms.lt h1).2 (h.ap.ma b h1) h2, h.ap.mf, fun b h1 h2 => hn b (h.fi.lt h2).2 (fun e => h.ap.af b e h2) h1⟩
  have b1 : Blk w' fb _ _ := h.blk.grown hg (fun e => h.ap.vaf e.symm)
  have mk1 : OwnR rowK 39 w0.heap.size (fun b => w0.heap.size ≤ b ∧ b ≠ fb ∧ b ≠ mb ∧ v'.ownBlock ≠ some b ∧ vf.ownBlock ≠ some b) w' vm marks := h.ms.kept hg (by
    cases hm : vm.ownBlock with
    | none => exact .inl rfl
    | some b => exact .inr fun e => h.ap.ma b hm e.symm) (fun b hb hs => ⟨⟨hs.1, hs.2.1, hs.2.2.1, hn b hb hs.2.2.2.1, hs.2.2.2.2⟩, fun e => hs.2.2.2.1 e.symm⟩)
  refine ⟨⟨?_, (h.map.grown hg (fun e => h.ap.vam e.symm)).set (fun e => h.ap.fm e.symm) _, mk1.other ap.vmf (fun e => e.2.1 rfl) _, ho.other ap.vaf (fun e => e) _, (h.fi.grown hg (ne_or h.ap.af)).other h.ap.vff _, (h.gr.grown hg (fun k hk => (h.ar.lt hk).1)).setCell h.fbase _, h.fbase, h.mbase, ap⟩, ?_⟩
  · have := b1.set 5 v'
    simpa using this
  · refine Bes.trans (R1 := FinB w0.heap.size fb mb vm v' vf) ⟨hg.size, fun b hb hr => ⟨fun h1 => ?_, hg.block b hb (fun e => hr (.inr (.inr (.inr (.inr (.inl e.symm))))))⟩⟩ (set_bes (.inr (.inl rfl)) _ _)
    rcases h1 with h1 | h1 | h1 | h1 | h1 | h1
    · exact hr (.inl h1)
    · exact hr (.inr (.inl h1))
    · exact hr (.inr (.inr (.inl h1)))
    · exact hr (.inr (.inr (.inr (.inl h1))))
    · exact hn b hb (fun e => hr (.inr (.inr (.inr (.inr (.inl e)))))) h1
    · exact hr (.inr (.inr (.inr (.inr (.inr h1)))))
/-- a first arc more -/
theorem FinO.put_first (h : FinO N na ncap most fb mb vm va vf w0 w marks kvs arcs first) {v' : Value} {first' : List Int} (hg : w.grownBy w' vf.ownBlock) (ho : OwnI 3 w0.heap.size w' v' first') (hat : v'.ownBlock = vf.ownBlock ∨ v'.ownBlock = some w.heap.size) :
    FinO N na ncap most fb mb vm va v' w0 (w'.setCell ⟨fb, 6, none⟩ v') marks kvs arcs first' ∧ Bes (FinB w0.heap.size fb mb vm va vf) (FinB w0.heap.size fb mb vm va v') w (w'.setCell ⟨fb, 6, none⟩ v') := by
  have hn : ∀ b, b < w.heap.size → vf.ownBlock ≠ some b → v'.ownBlock ≠ some b := fun b hb h1 h2 => by
    rcases hat with h3 | h3
    · exact h1 (h3.symm.trans h2)
    · rw [h3] at h2; have := Option.some.inj h2; omega
  have hfb := h.blk.lt
  have hmb := h.map.lt
  have ap : FinA fb mb vm va v' := ⟨h.ap.fm, h.ap.vmf, h.ap.vmm, h.ap.vaf, h.ap.vam, hn _ hfb h.ap.vff, hn _ hmb h.ap.vfm, h.ap.ma, fun b h1 h2 => hn b (h.ms.lt h1).2 (h.ap.mf b h1) h2, fun b h1 h2 => hn b (h.ar.lt h1).2 (h.ap.af b h1) h2⟩
  have b1 : Blk w' fb _ _ := h.blk.grown hg (fun e => h.ap.vff e.symm)
  have mk1 : OwnR rowK 39 w0.heap.size (fun b => w0.heap.size ≤ b ∧ b ≠ fb ∧ b ≠ mb ∧ va.ownBlock ≠ some b ∧ v'.ownBlock ≠ some b) w' vm marks := h.ms.kept hg (by
    cases hm : vm.ownBlock with
    | none => exact .inl rfl
    | some b => exact .inr fun e => h.ap.mf b hm e.symm) (fun b hb hs => ⟨⟨hs.1, hs.2.1, hs.2.2.1, hs.2.2.2.1, hn b hb hs.2.2.2.2⟩, fun e => hs.2.2.2.2 e.symm⟩)
  refine ⟨⟨?_, (h.map.grown hg (fun e => h.ap.vfm e.symm)).set (fun e => h.ap.fm e.symm) _, mk1.other ap.vmf (fun e => e.2.1 rfl) _, (h.ar.kept hg (by
    cases hm : va.ownBlock with
    | none => exact .inl rfl
    | some b => exact .inr fun e => h.ap.af b hm e.symm) (fun b _ hb => hb.elim)).other ap.vaf (fun e => e) _, ho.other ap.vff _, (h.gr.grown hg (fun k hk => (h.fi.lt hk).1)).setCell h.fbase _, h.fbase, h.mbase, ap⟩, ?_⟩
  · have := b1.set 6 v'
    simpa using this
  · refine Bes.trans (R1 := FinB w0.heap.size fb mb vm va v') ⟨hg.size, fun b hb hr => ⟨fun h1 => ?_, hg.block b hb (fun e => hr (.inr (.inr (.inr (.inr (.inr e.symm))))))⟩⟩ (set_bes (.inr (.inl rfl)) _ _)
    rcases h1 with h1 | h1 | h1 | h1 | h1 | h1
    · exact hr (.inl h1)
    · exact hr (.inr (.inl h1))
    · exact hr (.inr (.inr (.inl h1)))
    · exact hr (.inr (.inr (.inr (.inl h1))))
    · exact hr (.inr (.inr (.inr (.inr (.inl h1)))))
    · exact hn b hb (fun e => hr (.inr (.inr (.inr (.inr (.inr e)))))) h1
end
/-- the search's state: s, in the blocks R -/
def FinW (N : NetD) (na : Option Addr) (ncap : Nat) (most : Int) (fb : Nat) (w0 : World) (R : Nat → Prop) (w : World) (s : FinD) : Prop :=
  ∃ mb vm va vf, R = FinB w0.heap.size fb mb vm va vf ∧ FinO N na ncap most fb mb vm va vf w0 w s.marks (keyedM s.marks) s.arcs s.first
end Go.Proofs.Ytjpapgbdhflgnaa

/- Contract of the search's look-up of a mark (find). -/
namespace Go.Proofs.Ytjpapgbdhflgnaa
open Go.RowKit Go.Tok
open Go.WideMaps (keyOf_string_mk)
set_option linter.unusedVariables false
theorem name_key {m : List Int} (h : m.length ≤ 100) : keyOf Try.prog 9 (.string (nameS m)) = some (.string (nameS m).data.toList) :=
  keyOf_string_mk Try.underlying9 (by rw [nameS_size]; unfold maxLen; omega)
section
variable {N : NetD} {na : Option Addr} {ncap : Nat} {most : Int} {fb mb : Nat} {vm va vf : Value} {w0 w : World} {marks : List (List Int)} {arcs : List ArcD} {first : List Int}
set_option maxHeartbeats 4000000 in
theorem find_old {mv : Value} {m : List Int} {c : Int} (h : FinO N na ncap most fb mb vm va vf w0 w marks (keyedM marks) arcs first) (hm : Ints w mv m) (hr : ∀ x ∈ m, 0 ≤ x ∧ x ≤ 1000000) (hl : m.length ≤ 100) (hin : m ∈ marks) (hc : I64 c) :
    Calls Try.prog 70 #[.pointer (some ⟨fb, 0, none⟩), mv, .int .i64 c] w fun e w' => e = .returned (.tuple #[.int .i64 ((marks.idxOf m : Nat) : Int), .bool true]) ∧ Gr w w' := by
  have c3 := h.blk.cell (i := 3) rfl
  have hk := name_key hl
  have hmem := keyedM_mem hin
  have hmap := h.map
  obtain ⟨n, hn⟩ : ∃ n, n = marks.idxOf m := ⟨_, rfl⟩
  rw [← hn] at hmem ⊢
  have HL : ∀ w', Gr w w' → (Instr.lookup 105 (.map (some mb)) (.string (nameS m)) true).run Try.prog w' = .ok (.tuple #[.int .i64 (n : Int), .bool true]) w' := fun w' g => (hmap.gr g).look_yes_ok nameLaw Try.underlying105 hk hmem
  have HLH := Lib.hid HL
  have l0 := HL w.drew (by (repeat (first | exact Gr.refl _ | assumption | apply Gr.alloc | apply Gr.drew | apply Gr.drewN | refine Gr.trans ?_ (by assumption))))
  clear HL hmap hn hmem hk h
  go_enter Try.func70, Try.ntmps70
  go_wp2_with fail
  go_region_held3 (fun w' => w'.cell? ⟨fb, 3, none⟩ = some (.map (some mb)) ∧ (Instr.lookup 105 (.map (some mb)) (.string (nameS m)) true).run Try.prog w' = .ok (.tuple #[.int .i64 (n : Int), .bool true]) w') (first | go_keep | ((refine ⟨cell_gr c3 ?_, HLH.out _ ?_⟩); ((focus ((repeat (first | exact Gr.refl _ | assumption | apply Gr.alloc | apply Gr.drew | apply Gr.drewN | refine Gr.trans ?_ (by assumption))); done))); ((focus ((repeat (first | exact Gr.refl _ | assumption | apply Gr.alloc | apply Gr.drew | apply Gr.drewN | refine Gr.trans ?_ (by assumption))); done))))) (first | (go_at_call 74; (with_reducible refine (name_calls _ m _ (hm.gr ?_) hr hl).mono ?_); ((focus ((repeat (first | exact Gr.refl _ | assumption | apply Gr.alloc | apply Gr.drew | apply Gr.drewN | refine Gr.trans ?_ (by assumption))); done))); rintro _ w2 ⟨rfl, g2⟩))
  go_wp2_with fail
  go_ret2
  exact ⟨rfl, by (repeat (first | exact Gr.refl _ | assumption | apply Gr.alloc | apply Gr.drew | apply Gr.drewN | refine Gr.trans ?_ (by assumption)))⟩
set_option maxHeartbeats 4000000 in
/-- a mark that is not there, at the end of all room -/
theorem find_full {mv : Value} {m : List Int} {c : Int} (h : FinO N na ncap most fb mb vm va vf w0 w marks (keyedM marks) arcs first) (hm : Ints w mv m) (hr : ∀ x ∈ m, 0 ≤ x ∧ x ≤ 1000000) (hl : m.length ≤ 100) (hin : m ∉ marks) (hms : ∀ y ∈ marks, ∀ x ∈ y, 0 ≤ x ∧ x ≤ 1000000) (hc : I64 c) (hmo : (marks.length : Int) = most) :
    Calls Try.prog 70 #[.pointer (some ⟨fb, 0, none⟩), mv, .int .i64 c] w fun e w' => e = .returned (.tuple #[.int .i64 0, .bool false]) ∧ Gr w w' := by
  have c3 := h.blk.cell (i := 3) rfl
  have c2 := h.blk.cell (i := 2) rfl
  obtain ⟨ma, mc, rfl, _, _⟩ := h.ms.len
  have c4 := h.blk.cell (i := 4) rfl
  have hk := name_key hl
  have hmem := keyedM_not hin hr hms
  have hmap := h.map
  have HL : ∀ w', Gr w w' → (Instr.lookup 105 (.map (some mb)) (.string (nameS m)) true).run Try.prog w' = .ok (.tuple #[.int .i64 0, .bool false]) w' := fun w' g => (hmap.gr g).look_no_ok nameLaw Try.underlying105 zeroInt2 hk hmem
  have HLH := Lib.hid HL
  have l0 := HL w.drew (by (repeat (first | exact Gr.refl _ | assumption | apply Gr.alloc | apply Gr.drew | apply Gr.drewN | refine Gr.trans ?_ (by assumption))))
  have q1 : ((marks.length : Int) == most) = true := by simpa using hmo
  clear HL hmap hmem hk h hmo
  go_enter Try.func70, Try.ntmps70
  go_wp2_with fail
  go_region_held3 (fun w' => w'.cell? ⟨fb, 3, none⟩ = some (.map (some mb)) ∧ (Instr.lookup 105 (.map (some mb)) (.string (nameS m)) true).run Try.prog w' = .ok (.tuple #[.int .i64 0, .bool false]) w') (first | go_keep | ((refine ⟨cell_gr c3 ?_, HLH.out _ ?_⟩); ((focus ((repeat (first | exact Gr.refl _ | assumption | apply Gr.alloc | apply Gr.drew | apply Gr.drewN | refine Gr.trans ?_ (by assumption))); done))); ((focus ((repeat (first | exact Gr.refl _ | assumption | apply Gr.alloc | apply Gr.drew | apply Gr.drewN | refine Gr.trans ?_ (by assumption))); done))))) (first | (go_at_call 74; (with_reducible refine (name_calls _ m _ (hm.gr ?_) hr hl).mono ?_); ((focus ((repeat (first | exact Gr.refl _ | assumption | apply Gr.alloc | apply Gr.drew | apply Gr.drewN | refine Gr.trans ?_ (by assumption))); done))); rintro _ w2 ⟨rfl, g2⟩))
  have G2 : Gr w w2 := by (repeat (first | exact Gr.refl _ | assumption | apply Gr.alloc | apply Gr.drew | apply Gr.drewN | refine Gr.trans ?_ (by assumption)))
  replace c2 := cell_gr c2 G2
  replace c4 := cell_gr c4 G2
  go_wp2_with fail
  go_ret2
  exact ⟨rfl, G2⟩
theorem cell_only {b : Nat} {w w' : World} {a : Addr} {v : Value} (h : w.cell? a = some v) (o : OnlyAt b w w') (hne : a.block ≠ b) : w'.cell? a = some v := by
  rw [World.cell?_of_block (o.2.2.2.2 a.block hne)]; exact h
theorem _root_.Go.Tok.OwnR.len1 {α : Type} {K : Kind α} {e base : Nat} {S : Nat → Prop} {w : World} {v : Value} {xs : List α} {x : α} (h : OwnR K e base S w v (xs ++ [x])) : ∃ a cap, v = .slice a (xs.length + 1) cap := by
  obtain ⟨a, cap, h1, _⟩ := h.len
  exact ⟨a, cap, by rw [h1, List.length_append, List.length_singleton]⟩
theorem _root_.Go.Tok.OwnI.len1 {e base : Nat} {w : World} {v : Value} {xs : List Int} {x : Int} (h : OwnI e base w v (xs ++ [x])) : ∃ a cap, v = .slice a (xs.length + 1) cap := by
  obtain ⟨a, cap, h1, _⟩ := h.ints.len
  exact ⟨a, cap, by rw [h1, List.length_append, List.length_singleton]⟩
theorem on_row {mv : Value} {m : List Int} (h : On (fun b => ¬ FinB w0.heap.size fb mb vm va vf b) (fun w => Ints w mv m) w) : On (fun b => (w0.heap.size ≤ b ∧ b ≠ fb ∧ b ≠ mb ∧ va.ownBlock ≠ some b ∧ vf.ownBlock ≠ some b) ∧ vm.ownBlock ≠ some b) (fun w => rowK.R w [mv] m) w :=
  (h.mono (S' := fun b => (w0.heap.size ≤ b ∧ b ≠ fb ∧ b ≠ mb ∧ va.ownBlock ≠ some b ∧ vf.ownBlock ≠ some b) ∧ vm.ownBlock ≠ some b) fun b _ hb => ⟨⟨Nat.le_of_not_lt fun e => hb (.inl e), fun e => hb (.inr (.inl e)), fun e => hb (.inr (.inr (.inl e))), fun e => hb (.inr (.inr (.inr (.inr (.inl e))))), fun e => hb (.inr (.inr (.inr (.inr (.inr e)))))⟩, fun e => hb (.inr (.inr (.inr (.inl e))))⟩).imp fun w hw => ⟨mv, rfl, hw⟩
theorem one_cell (w : World) (v : Value) (t : TypeId) : ∀ (j : Nat) (u : Value), [v][j]? = some u → (w.alloc (.cells #[v] t)).cell? ((⟨w.heap.size, 0, none⟩ : Addr).add j) = some u := by
  intro j u hj
  cases j with
  | zero => simp at hj; subst hj; rw [add_none]; exact lit_cell rfl
  | succ j => simp at hj
set_option maxHeartbeats 4000000 in
set_option maxRecDepth 100000 in
theorem find_new {mv : Value} {m : List Int} {c : Int} (h : FinO N na ncap most fb mb vm va vf w0 w marks (keyedM marks) arcs first) (hm : On (fun b => ¬ FinB w0.heap.size fb mb vm va vf b) (fun w => Ints w mv m) w) (hr : ∀ x ∈ m, 0 ≤ x ∧ x ≤ 1000000) (hl : m.length ≤ 100) (hin : m ∉ marks) (hms : ∀ y ∈ marks, ∀ x ∈ y, 0 ≤ x ∧ x ≤ 1000000) (hc : I64 c) (hmo : (marks.length : Int) ≠ most) (hml : marks.length ≤ 1000) (hfl : first.length ≤ 1000) :
    Calls Try.prog 70 #[.pointer (some ⟨fb, 0, none⟩), mv, .int .i64 c] w fun e w' => ∃ vm' vf', e = .returned (.tuple #[.int .i64 (marks.length : Int), .bool true]) ∧ FinO N na ncap most fb mb vm' va vf' w0 w' (marks ++ [m]) (keyedM (marks ++ [m])) arcs (first ++ [c]) ∧ Bes (FinB w0.heap.size fb mb vm va vf) (FinB w0.heap.size fb mb vm' va vf') w w' := by
  have c3 := h.blk.cell (i := 3) rfl
  have c2 := h.blk.cell (i := 2) rfl
  obtain ⟨ma, mc, rfl, _, _⟩ := h.ms.len
  have c4 := h.blk.cell (i := 4) rfl
  have hk := name_key hl
  have hmem := keyedM_not hin hr hms
  have hmap := h.map
  have HL : ∀ w', Gr w w' → (Instr.lookup 105 (.map (some mb)) (.string (nameS m)) true).run Try.prog w' = .ok (.tuple #[.int .i64 0, .bool false]) w' := fun w' g => (hmap.gr g).look_no_ok nameLaw Try.underlying105 zeroInt2 hk hmem
  have HLH := Lib.hid HL
  have l0 := HL w.drew (by (repeat (first | exact Gr.refl _ | assumption | apply Gr.alloc | apply Gr.drew | apply Gr.drewN | refine Gr.trans ?_ (by assumption))))
  have q1 : ((marks.length : Int) == most) = false := by simpa using hmo
  have hmn := hm.now
  have HK := Lib.hid hk
  have HM := Lib.hid hmem
  have hfm : fb ≠ mb := h.ap.fm
  clear HL hmap hmem hmo hk
  go_enter Try.func70, Try.ntmps70
  go_wp2_with fail
  go_region_held3 (fun w' => w'.cell? ⟨fb, 3, none⟩ = some (.map (some mb)) ∧ (Instr.lookup 105 (.map (some mb)) (.string (nameS m)) true).run Try.prog w' = .ok (.tuple #[.int .i64 0, .bool false]) w') (first | go_keep | ((refine ⟨cell_gr c3 ?_, HLH.out _ ?_⟩); ((focus ((repeat (first | exact Gr.refl _ | assumption | apply Gr.alloc | apply Gr.drew | apply Gr.drewN | refine Gr.trans ?_ (by assumption))); done))); ((focus ((repeat (first | exact Gr.refl _ | assumption | apply Gr.alloc | apply Gr.drew | apply Gr.drewN | refine Gr.trans ?_ (by assumption))); done))))) (first | (go_at_call 74; (with_reducible refine (name_calls _ m _ (hmn.gr ?_) hr hl).mono ?_); ((focus ((repeat (first | exact Gr.refl _ | assumption | apply Gr.alloc | apply Gr.drew | apply Gr.drewN | refine Gr.trans ?_ (by assumption))); done))); rintro _ w2 ⟨rfl, g2⟩))
  have G2 : Gr w w2 := by (repeat (first | exact Gr.refl _ | assumption | apply Gr.alloc | apply Gr.drew | apply Gr.drewN | refine Gr.trans ?_ (by assumption)))
  replace c2 := cell_gr c2 G2
  replace c3 := cell_gr c3 G2
  replace c4 := cell_gr c4 G2
  replace hmn := hmn.gr G2
  have h2 := h.gr' G2
  replace hm := hm.gr G2
  have hmap := h2.map
  obtain ⟨f, hf⟩ := MAt.store_fn nameLaw Try.underlying105 hmap (.int .i64 (marks.length : Int)) HK.out HM.out
  have HF := Lib.hid hf
  clear l0 HLH g2 hf hmap
  go_wp2_with fail
  go_region_held3 (fun w' => w'.cell? ⟨fb, 3, none⟩ = some (.map (some mb))) (first | go_keep | ((refine cell_gr c3 ?_); ((focus ((repeat (first | exact Gr.refl _ | assumption | apply Gr.alloc | apply Gr.drew | apply Gr.drewN | refine Gr.trans ?_ (by assumption))); done)))) | ((refine cell_only (cell_gr c3 ?_) o4 hfm); ((focus ((repeat (first | exact Gr.refl _ | assumption | apply Gr.alloc | apply Gr.drew | apply Gr.drewN | refine Gr.trans ?_ (by assumption))); done))))) (first | (go_at_call 74; (with_reducible refine (name_calls _ m _ (hmn.gr ?_) hr hl).mono ?_); ((focus ((repeat (first | exact Gr.refl _ | assumption | apply Gr.alloc | apply Gr.drew | apply Gr.drewN | refine Gr.trans ?_ (by assumption))); done))); rintro _ w3 ⟨rfl, g3⟩; have r4 := (HF.out _ ((Gr.refl _).drew.trans g3)).1; have o4 := (HF.out _ ((Gr.refl _).drew.trans g3)).2.1))
  have m4 := (HF.out _ ((Gr.refl _).drew.trans g3)).2.2
  have G3 : Gr w2 w3 := by (repeat (first | exact Gr.refl _ | assumption | apply Gr.alloc | apply Gr.drew | apply Gr.drewN | refine Gr.trans ?_ (by assumption)))
  have h4 := (h2.gr' G3).put_map o4 m4
  have bs4 := (h2.gr' G3).put_map_bes o4
  have hm4 := (hm.gr G3).bes bs4
  have b24 : Bes (FinB w0.heap.size fb mb (.slice ma marks.length mc) va vf) (FinB w0.heap.size fb mb (.slice ma marks.length mc) va vf) w (f w3) := ((G2.trans G3).bes).trans bs4
  clear o4 m4 r4 bs4 hm h2 HF g3
  generalize f w3 = w4 at h4 hm4 b24 ⊢
  have c5 := h4.blk.cell (i := 4) rfl
  have hrow := on_row hm4
  have GA : Gr w4 (w4.alloc (.cells #[mv] 39)) := (Gr.refl _).alloc _
  have h4a := h4.gr' GA
  obtain ⟨mva, mvc, rfl, _, _⟩ := hmn.len
  go_upto_region 9 with (at_builtin; refine app_one rowTy _ _ w0.heap.size _ (.slice ma marks.length mc) marks ⟨w4.heap.size, 0, none⟩ m [.slice mva m.length mvc] (by rfl) (by rfl) (by rfl) (by rfl) h4a.ms (one_cell _ _ _) (hrow.gr GA) (by omega) (by unfold maxLen; omega) h4a.gr.le ?_; intro v' w5 ho hgs hgb hat; obtain ⟨a5, n5, rfl⟩ := ho.len1; have bk5 : Blk w5 fb _ _ := h4a.blk.grown hgb (fun e => h4a.ap.vmf e.symm); have f5 := bk5.frozen 4; have d5 := bk5.cell (i := 4) rfl)
  obtain ⟨h5, bs5⟩ := h4a.put_mark hgb ho hat
  have b25 := (b24.trans GA.bes).trans bs5
  clear hgs hgb hat bk5 f5 d5 ho bs5 b24 h4 h4a hrow
  generalize (w5.setCell ⟨fb, 4, none⟩ _) = w6 at h5 b25 ⊢
  have c6 := h5.blk.cell (i := 6) rfl
  obtain ⟨fa, fc, rfl, _, _⟩ := h5.fi.ints.len
  have T := intTy
  have h6a := h5.gr' ((Gr.refl _).alloc (.cells #[.int .i64 c] 3))
  go_upto_region 10 with (at_builtin; refine app_int T _ _ w0.heap.size (.slice fa first.length fc) first ⟨w6.heap.size, 0, none⟩ c (by rfl) (by rfl) (by rfl) (by rfl) h6a.fi (lit_cell rfl) hc (by omega) h6a.gr.le ?_; intro v' w7 ho hgs hgb hat; obtain ⟨a7, n7, rfl⟩ := ho.len1; have bk7 : Blk w7 fb _ _ := h6a.blk.grown hgb (fun e => h6a.ap.vff e.symm); have f7 := bk7.frozen 6; have d7 := bk7.cell (i := 6) rfl)
  obtain ⟨h7, bs7⟩ := h6a.put_first hgb ho hat
  have b27 := (b25.trans ((Gr.refl _).alloc _).bes).trans bs7
  clear hgs hgb hat bk7 f7 d7 ho bs7 b25 h6a h5
  generalize (w7.setCell ⟨fb, 6, none⟩ _) = w8 at h7 b27 ⊢
  go_wp2_with fail
  go_ret2
  refine ⟨_, _, rfl, ?_, b27⟩
  rw [keyedM_snoc]
  exact h7
end
end Go.Proofs.Ytjpapgbdhflgnaa

/- Contract of the search's walk from mark to mark (explore). -/
namespace Go.Proofs.Ytjpapgbdhflgnaa
open Go.RowKit Go.Tok
set_option linter.unusedVariables false
section
variable {N : NetD} {na : Option Addr} {ncap : Nat} {most : Nat} {fb : Nat} {w0 w : World} {R : Nat → Prop} {s : FinD}
def RetFind (N : NetD) (na : Option Addr) (ncap : Nat) (most : Int) (fb : Nat) (w0 : World) (R : Nat → Prop) (w : World) (k : Nat) (s' : FinD) (e : Ending) (w' : World) : Prop :=
  ∃ R', e = .returned (.tuple #[.int .i64 (k : Int), .bool true]) ∧ FinW N na ncap most fb w0 R' w' s' ∧ Bes R R' w w'
theorem right_all {m : List Int} (h : rightB m = true) : ∀ x ∈ m, 0 ≤ x ∧ x ≤ 1000000 := (rightB_iff m).1 h
theorem FinW.lt (h : FinW N na ncap most fb w0 R w s) : ∀ b, R b → b < w.heap.size := by
  obtain ⟨mb, vm, va, vf, rfl, hO⟩ := h
  exact fun b hb => hO.lt hb
theorem FinW.gr (h : FinW N na ncap most fb w0 R w s) {w' : World} (g : Gr w w') : FinW N na ncap most fb w0 R w' s := by
  obtain ⟨mb, vm, va, vf, h1, hO⟩ := h
  exact ⟨mb, vm, va, vf, h1, hO.gr' g⟩
theorem FinW.old (h : FinW N na ncap most fb w0 R w s) : Gr w0 w := by
  obtain ⟨mb, vm, va, vf, h1, hO⟩ := h
  exact hO.gr
theorem find_some {mv : Value} {m : List Int} {c : Int} {k : Nat} {s' : FinD} (h : FinW N na ncap most fb w0 R w s) (hm : On (fun b => ¬ R b) (fun w => Ints w mv m) w) (hr : rightB m = true) (hl : m.length ≤ 100) (hms : ∀ y ∈ s.marks, rightB y = true) (hc : I64 c) (hml : s.marks.length ≤ 1000) (hfl : s.first.length ≤ 1000) (hf : findF most s m c = some (k, s')) :
    Calls Try.prog 70 #[.pointer (some ⟨fb, 0, none⟩), mv, .int .i64 c] w (RetFind N na ncap most fb w0 R w k s') := by
  have hm' := hm.now
  obtain ⟨mb, vm, va, vf, rfl, hO⟩ := h
  unfold findF at hf
  by_cases hin : m ∈ s.marks
  · rw [if_pos hin] at hf
    cases hf
    refine (find_old hO hm' (right_all hr) hl hin hc).mono ?_
    rintro _ w' ⟨rfl, g⟩
    exact ⟨_, rfl, ⟨mb, vm, va, vf, rfl, hO.gr' g⟩, g.bes⟩
  · rw [if_neg hin] at hf
    by_cases hmo : s.marks.length = most
    · rw [if_pos hmo] at hf; cases hf
    · rw [if_neg hmo] at hf
      cases hf
      refine (find_new hO hm (right_all hr) hl hin (fun y hy => right_all (hms y hy)) hc (by omega) hml hfl).mono ?_
      rintro _ w' ⟨vm', vf', rfl, h1, h2⟩
      exact ⟨_, rfl, ⟨mb, vm', va, vf', rfl, h1⟩, h2⟩
theorem find_none {mv : Value} {m : List Int} {c : Int} (h : FinW N na ncap most fb w0 R w s) (hm : Ints w mv m) (hr : rightB m = true) (hl : m.length ≤ 100) (hms : ∀ y ∈ s.marks, rightB y = true) (hc : I64 c) (hf : findF most s m c = none) :
    Calls Try.prog 70 #[.pointer (some ⟨fb, 0, none⟩), mv, .int .i64 c] w fun e w' => e = .returned (.tuple #[.int .i64 0, .bool false]) ∧ Gr w w' := by
  obtain ⟨mb, vm, va, vf, rfl, hO⟩ := h
  unfold findF at hf
  by_cases hin : m ∈ s.marks
  · rw [if_pos hin] at hf; cases hf
  · rw [if_neg hin] at hf
    by_cases hmo : s.marks.length = most
    · exact find_full hO hm (right_all hr) hl hin (fun y hy => right_all (hms y hy)) hc (by omega)
    · rw [if_neg hmo] at hf; cases hf
end
section
variable {N : NetD} {na : Option Addr} {ncap : Nat} {most : Int} {fb mb : Nat} {vm va vf : Value} {w0 w : World} {marks : List (List Int)} {kvs : List (Value × Value)} {arcs : List ArcD} {first : List Int}
theorem FinO.mark_at (h : FinO N na ncap most fb mb vm va vf w0 w marks kvs arcs first) {i : Nat} (hi : i < marks.length) :
    ∃ g cap u, vm = .slice (some ⟨g, 0, none⟩) marks.length cap ∧ marks.length ≤ cap ∧ cap ≤ 9223372036854775807 ∧ w.cell? ⟨g, i, none⟩ = some u ∧ On (fun b => ¬ FinB w0.heap.size fb mb vm va vf b) (fun w => Ints w u (ix marks i)) w := by
  rcases h.ms.form with ⟨_, h1⟩ | ⟨g, cap, rfl, _, _, h2, h3⟩
  · rw [h1] at hi; simp at hi
  · obtain ⟨vs, h4, h5⟩ := h.ms.at_ hi
    obtain ⟨u, rfl, _⟩ := h4.now
    refine ⟨g, cap, u, rfl, h2, h3, by simpa [rowK] using h5 0 u rfl, ?_⟩
    refine (h4.mono (S' := fun b => ¬ FinB w0.heap.size fb mb (.slice (some ⟨g, 0, none⟩) marks.length cap) va vf b) fun b _ hb hB => ?_).imp fun w hw => ?_
    · rcases hB with h6 | h6 | h6 | h6 | h6 | h6
      · have := hb.1.1; omega
      · exact hb.1.2.1 h6
      · exact hb.1.2.2.1 h6
      · exact hb.2 (by simpa [Value.ownBlock] using h6.symm)
      · exact hb.1.2.2.2.1 h6
      · exact hb.1.2.2.2.2 h6
    · obtain ⟨u', h6, h7⟩ := hw
      cases h6; exact h7
end
theorem enabled_len (N : NetD) (m : List Int) : (enabledL N m).length ≤ N.trans.length := by rw [← enUpto_all]; exact enUpto_len _ _ _
theorem take_nth {l : List Int} {j : Nat} (h : j < l.length) : l.take (j + 1) = l.take j ++ [nth l j] := by rw [List.take_succ_eq_append_getElem h, nth_lt h]
theorem step_some {N : NetD} {most : Nat} {m : List Int} {i : Nat} {s s1 : FinD} {t : Int} {x : List Int} {k : Nat} (hf : fireF N m t = (x, 0)) (h : findF most s x s.arcs.length = some (k, s1)) : stepF N most m i s t = (⟨s1.marks, s1.arcs ++ [⟨i, t, k⟩], s1.first⟩, 0) := by
  unfold stepF; rw [hf]; simp only [if_true]; rw [h]; rfl
theorem step_none {N : NetD} {most : Nat} {m : List Int} {i : Nat} {s : FinD} {t : Int} {x : List Int} (hf : fireF N m t = (x, 0)) (h : findF most s x s.arcs.length = none) : stepF N most m i s t = (s, 4) := by
  unfold stepF; rw [hf]; simp only [if_true]; rw [h]; rfl
theorem step_bad {N : NetD} {most : Nat} {m : List Int} {i : Nat} {s : FinD} {t : Int} {x : List Int} {e : Int} (hf : fireF N m t = (x, e)) (he : e ≠ 0) : stepF N most m i s t = (s, e) := by
  unfold stepF; rw [hf, if_neg he]
theorem steps_ok {N : NetD} {most : Nat} {m : List Int} {i : Nat} {s s1 : FinD} {l : List Int} {j : Nat} (hj : j < l.length) (h : stepF N most m i s (nth l j) = (s1, 0)) : stepsF N most m i s (l.drop j) = stepsF N most m i s1 (l.drop (j + 1)) := by
  rw [drop_cons hj, steps_cons, h]; rfl
theorem steps_bad {N : NetD} {most : Nat} {m : List Int} {i : Nat} {s s1 : FinD} {l : List Int} {j : Nat} {e : Int} (hj : j < l.length) (h : stepF N most m i s (nth l j) = (s1, e)) (he : e ≠ 0) : stepsF N most m i s (l.drop j) = (s1, e) := by
  rw [drop_cons hj, steps_cons, h, if_neg he]
theorem expl_step {N : NetD} {most f i : Nat} {s s1 : FinD} {m : List Int} (hi : i < s.marks.length) (hm : ix s.marks i = m) (h : stepsF N most m i s (enabledL N m) = (s1, 0)) : explF N most (f + 1) i s = explF N most f (i + 1) s1 := by
  subst hm
  rw [expl_succ, if_pos hi, h]; rfl
theorem expl_bad {N : NetD} {most f i : Nat} {s s1 : FinD} {m : List Int} {e : Int} (hi : i < s.marks.length) (hm : ix s.marks i = m) (h : stepsF N most m i s (enabledL N m) = (s1, e)) (he : e ≠ 0) : explF N most (f + 1) i s = (s1, e) := by
  subst hm
  rw [expl_succ, if_pos hi, h, if_neg he]
theorem row_cells (w : World) (cs : Array Value) (t : TypeId) : ∀ (j : Nat) (u : Value), cs.toList[j]? = some u → (w.alloc (.cells cs t)).cell? ((⟨w.heap.size, 0, none⟩ : Addr).add j) = some u := by
  intro j u hj
  rw [add_none, Nat.zero_add]
  exact box_cell (Gr.refl _) (by rw [← Array.getElem?_toList]; exact hj)
def RetEx (N : NetD) (na : Option Addr) (ncap : Nat) (most : Int) (fb : Nat) (w0 : World) (r : FinD × Int) (e : Ending) (w' : World) : Prop :=
  e = .returned (.int .i64 r.2) ∧ Gr w0 w' ∧ (r.2 = 0 → ∃ R, FinW N na ncap most fb w0 R w' r.1)
theorem RetEx.bad {N : NetD} {na : Option Addr} {ncap : Nat} {most : Int} {fb : Nat} {w0 : World} {r : FinD × Int} {s : FinD} {x : Int} {w' : World} (hr : r = (s, x)) (hx : x ≠ 0) (g : Gr w0 w') : RetEx N na ncap most fb w0 r (.returned (.int .i64 x)) w' := by
  subst hr; exact ⟨rfl, g, fun h => absurd h hx⟩
theorem RetEx.good {N : NetD} {na : Option Addr} {ncap : Nat} {most : Int} {fb : Nat} {w0 : World} {R : Nat → Prop} {r : FinD × Int} {s : FinD} {w' : World} (hr : r = (s, 0)) (h : FinW N na ncap most fb w0 R w' s) (g : Gr w0 w') : RetEx N na ncap most fb w0 r (.returned (.int .i64 0)) w' := by
  subst hr; exact ⟨rfl, g, fun _ => ⟨R, h⟩⟩
set_option maxHeartbeats 8000000 in
set_option maxRecDepth 100000 in
theorem explore_calls {N : NetD} {na : Option Addr} {ncap : Nat} {most : Nat} {fb : Nat} {w0 w : World} {R : Nat → Prop} {s0 : FinD} {m0 : List Int} (hN0 : NetR w0 (.agg #[.int .i64 N.places, .slice na N.trans.length ncap]) N) (h : FinW N na ncap most fb w0 R w s0) (hF0 : FoundS N m0 most s0 0 []) (ha0 : s0.arcs.length = 0) (hmost : most ≤ 300) :
    Calls Try.prog 71 #[.pointer (some ⟨fb, 0, none⟩)] w (RetEx N na ncap most fb w0 (explF N most 301 0 s0)) := by
  have T := intTy
  have HA := Lib.hid arcTy
  obtain ⟨r, hr⟩ : ∃ r, r = explF N most 301 0 s0 := ⟨_, rfl⟩
  rw [← hr]
  have HR := Lib.hid hr
  clear hr
  go_enter Try.func71, Try.ntmps71
  go_wp2_with fail
  go_loopw [3] (fun q wr => ∃ (i : Nat) (s : FinD) (R : Nat → Prop), q = .int .i64 i ∧ FinW N na ncap most fb w0 R wr s ∧ FoundS N m0 most s i [] ∧ s.arcs.length ≤ 24 * i ∧ i ≤ s.marks.length ∧ explF N most (301 - i) i s = r) (fun q _ => 300 - (intOf q).toNat)
  case atStart => exact ⟨0, s0, R, rfl, h, hF0, by omega, Nat.zero_le _, HR.out.symm⟩
  case round =>
    rename World => wo
    obtain ⟨i, s, R1, rfl, hW, hF, hal, hil, hx⟩ := hrel
    have hle := hF.le
    have HX := Lib.hid hx
    clear hx
    by_cases hlt : i < s.marks.length
    · obtain ⟨mb, vm, va, vf, rfl, hO⟩ := hW
      obtain ⟨g, cap, mv, rfl, hc1, hc2, hmc, hOn⟩ := hO.mark_at hlt
      have c0 := hO.blk.cell (i := 0) rfl
      have c1 := hO.blk.cell (i := 1) rfl
      have c4 := hO.blk.cell (i := 4) rfl
      have hfit := hF.fit _ (ix_mem hlt)
      have HFI := Lib.hid (enabledF_fit hfit)
      have hcI : (i : Int) < (s.marks.length : Int) := by omega
      go_wp2_with fail
      refine (Enabled_own _ _ N (ix s.marks i) _ (hN0.gr hO.gr) hOn.now).mono ?_
      rw [HFI.out]; rintro _ w1 ⟨vl, rfl, ol, g1⟩
      have hOl : On (fun b => ¬ FinB w0.heap.size fb mb (.slice (some ⟨g, 0, none⟩) s.marks.length cap) va vf b) (fun w => Ints w vl (enabledL N (ix s.marks i))) w1 := On.own ol (fun b hb => hO.lt hb)
      replace hOn := hOn.gr g1
      have hW : FinW N na ncap most fb w0 (FinB w0.heap.size fb mb (.slice (some ⟨g, 0, none⟩) s.marks.length cap) va vf) w1 s := ⟨mb, _, va, vf, rfl, hO.gr' g1⟩
      obtain ⟨la, lc, rfl, _, _⟩ := ol.ints.len
      have hll : (enabledL N (ix s.marks i)).length ≤ 24 := Nat.le_trans (enabled_len _ _) (fits_sizes hfit).1
      obtain ⟨m, hm⟩ : ∃ m, m = ix s.marks i := ⟨_, rfl⟩
      rw [← hm] at hOn hOl hll ⊢
      obtain ⟨l, hl⟩ : ∃ l, l = enabledL N m := ⟨_, rfl⟩
      rw [← hl] at hOl hll ⊢
      have HMI := Lib.hid hm
      have HLI := Lib.hid hl
      obtain ⟨R2, hR2⟩ : ∃ R, R = FinB w0.heap.size fb mb (.slice (some ⟨g, 0, none⟩) s.marks.length cap) va vf := ⟨_, rfl⟩
      rw [← hR2] at hOn hOl hW
      clear hm hl hO c0 c1 c4 hmc ol g1 hR2 HFI
      go_wp2_with fail
      obtain ⟨rs, hrs⟩ : ∃ rs, rs = stepsF N most m i s l := ⟨_, rfl⟩
      have HRS := Lib.hid hrs
      clear hrs
      have hf24 : s.arcs.length ≤ 7200 := by omega
      go_loopw [45] (fun q wr => ∃ (j : Nat) (s' : FinD) (R' : Nat → Prop), q = .int .i64 j ∧ j ≤ l.length ∧ FinW N na ncap most fb w0 R' wr s' ∧ FoundS N m0 most s' i (l.take j) ∧ s'.arcs.length ≤ 24 * i + j ∧ On (fun b => ¬ R' b) (fun w => Ints w mv m) wr ∧ On (fun b => ¬ R' b) (fun w => Ints w (.slice la l.length lc) l) wr ∧ i < s'.marks.length ∧ Hid (ix s'.marks i = m) ∧ Hid (stepsF N most m i s' (l.drop j) = rs)) (fun q _ => l.length - (intOf q).toNat)
      case atStart => exact ⟨0, s, R2, rfl, Nat.zero_le _, hW, hF, by omega, hOn, hOl, hlt, Lib.hid HMI.out.symm, Lib.hid HRS.out.symm⟩
      case round =>
        rename_i wr
        obtain ⟨j, s', R', rfl, hj, hW', hF', hal', hOm, hOl', hi', HM', HS'⟩ := hrel
        by_cases hjl : j < l.length
        · obtain ⟨lb, lo, rfl, hlc⟩ := hOl'.now.cell hjl
          obtain ⟨mb', vm', va', vf', rfl, hO'⟩ := hW'
          have c0 := hO'.blk.cell (i := 0) rfl
          have c1 := hO'.blk.cell (i := 1) rfl
          obtain ⟨aa, ac, rfl, _, _⟩ := hO'.ar.len
          have c5 := hO'.blk.cell (i := 5) rfl
          have hjI : (j : Int) < (l.length : Int) := by omega
          have htI : I64 (nth l j) := hOl'.now.range j
          rcases hff : fireF N m (nth l j) with ⟨x, e⟩
          have HFF := Lib.hid hff
          clear hff
          go_wp2_with fail
          refine (Fire_own _ _ N m _ _ (hN0.gr hO'.gr) hOm.now htI).mono ?_
          rw [HFF.out]; rintro _ w2 ⟨vx, rfl, ox, g2⟩
          obtain ⟨xa, xc, rfl, _, _⟩ := ox.ints.len
          have hfm : fitsB N m = true := by rw [← HM'.out]; exact hF'.fit _ (ix_mem hi')
          have hbad : ∀ (s2 : FinD) (e2 : Int), stepF N most m i s' (nth l j) = (s2, e2) → e2 ≠ 0 → r = (s2, e2) := by
            intro s2 e2 h1 h2
            have h3 := steps_bad hjl h1 h2
            rw [HS'.out] at h3
            have h4 : stepsF N most m i s (enabledL N m) = (s2, e2) := by rw [← HLI.out, ← HRS.out]; exact h3
            have h5 := HX.out
            rw [show 301 - i = (300 - i) + 1 by omega, expl_bad hlt HMI.out.symm h4 h2] at h5
            exact h5.symm
          have HB := Lib.hid hbad
          clear hbad
          by_cases he : e = 0
          · subst he
            obtain ⟨kk, hkk, hFi⟩ := fire_ok hfm HFF.out
            have hxf := hFi.fits hfm
            have hxr := (fits_sizes hxf).2.2.2.2.2.1
            have hx16 := (fits_sizes hxf).2.2.2.1
            have hW2 : FinW N na ncap most fb w0 (FinB w0.heap.size fb mb' vm' (.slice aa s'.arcs.length ac) vf') w2 s' := ⟨mb', _, _, _, rfl, hO'.gr' g2⟩
            have hms : ∀ y ∈ s'.marks, rightB y = true := fun y hy => (fits_sizes (hF'.fit y hy)).2.2.2.2.2.1
            have hcI : I64 ((s'.arcs.length : Nat) : Int) := by unfold I64; omega
            have hml : s'.marks.length ≤ 1000 := by have := hF'.le; omega
            have hfl : s'.first.length ≤ 1000 := by have := hF'.flen; omega
            have c5' := cell_gr c5 g2
            have hOx : On (fun b => ¬ FinB w0.heap.size fb mb' vm' (.slice aa s'.arcs.length ac) vf' b) (fun w => Ints w (.slice xa x.length xc) x) w2 := On.own ox (fun b hb => hO'.lt hb)
            have hOm2 := hOm.gr g2
            have hOl2 := hOl'.gr g2
            clear hkk hFi hxf c0 c1 c5 hO' hOm hOl' hfm
            rcases hfd : findF most s' x s'.arcs.length with _ | ⟨k, s1⟩
            · have HN := Lib.hid (HB.out _ _ (step_none (i := i) HFF.out hfd) (by decide))
              have HFD := Lib.hid hfd
              clear hfd
              go_wp2_with fail
              refine (find_none hW2 hOx.now hxr (by omega) hms hcI HFD.out).mono ?_
              rintro _ w3 ⟨rfl, g3⟩
              have gw := hW2.old.trans g3
              go_wp2_with fail
              go_ret
              exact RetEx.bad HN.out (by decide) gw
            · have hst := step_some (i := i) HFF.out hfd
              have hHS := steps_ok hjl hst
              have HFD := Lib.hid hfd
              have hk300 : k ≤ 1000 := by
                unfold findF at hfd
                split at hfd
                · cases hfd; rename_i hin; have := (mem_idx hin).1; omega
                · split at hfd
                  · cases hfd
                  · cases hfd; omega
              have HST := Lib.hid hst
              rw [← HM'.out] at hst
              obtain ⟨hF2, ⟨rr, hrr⟩, hal2⟩ := step_found hF' hi' hst
              rw [← take_nth hjl] at hF2
              have hi2 : i < s1.marks.length := by simp only [] at hrr; rw [hrr, List.length_append]; omega
              have hm2 : ix s1.marks i = m := by simp only [] at hrr; rw [hrr, ix_append_left hi', HM'.out]
              have HM2 := Lib.hid hm2
              have HRR := Lib.hid hrr
              rw [HS'.out] at hHS
              have HHS := Lib.hid hHS.symm
              clear hfd hst hm2 hrr hHS
              go_wp2_with fail
              refine (find_some hW2 hOx hxr (by omega) hms hcI hml hfl HFD.out).mono ?_
              rintro _ w3 ⟨R3, rfl, hW3, bs3⟩
              have hOm3 := hOm2.bes bs3
              have hOl3 := hOl2.bes bs3
              obtain ⟨mb3, vm3, va3, vf3, rfl, hO3⟩ := hW3
              obtain ⟨a3, n3, rfl, _, _⟩ := hO3.ar.len
              have c5 := hO3.blk.cell (i := 5) rfl
              have GA : Gr w3 (w3.alloc (.cells #[.int .i64 (i : Int), .int .i64 (nth l j), .int .i64 (k : Int)] 114)) := (Gr.refl _).alloc _
              have h3a := hO3.gr' GA
              have hal3 : s1.arcs.length + 1 ≤ 24 * i + (j + 1) := by simp only [List.length_append, List.length_singleton] at hal2; omega
              have hy : On (fun b => (fun _ => False) b ∧ (Value.slice a3 s1.arcs.length n3).ownBlock ≠ some b) (fun w => arcK.R w [.int .i64 (i : Int), .int .i64 (nth l j), .int .i64 (k : Int)] ⟨i, nth l j, k⟩) (w3.alloc (.cells #[.int .i64 (i : Int), .int .i64 (nth l j), .int .i64 (k : Int)] 114)) := On.true (p := arcCells ⟨i, nth l j, k⟩ = arcCells ⟨i, nth l j, k⟩ ∧ arcI ⟨i, nth l j, k⟩) ⟨rfl, i64_nat (by omega), htI, i64_nat (by omega)⟩
              clear bs3 hW2 hOm2 hOl2 c5' hOx hO3
              go_upto_region 18 with (at_builtin; refine app_one HA.out _ _ w0.heap.size _ (.slice a3 s1.arcs.length n3) s1.arcs ⟨w3.heap.size, 0, none⟩ ⟨i, nth l j, k⟩ [.int .i64 (i : Int), .int .i64 (nth l j), .int .i64 (k : Int)] (by rfl) (by rfl) (by rfl) (by rfl) h3a.ar (row_cells _ _ _) hy (by omega) (by unfold maxLen; omega) h3a.gr.le ?_; intro v' w5 ho hgs hgb hat; obtain ⟨a5, n5, rfl⟩ := ho.len1; have bk5 : Blk w5 fb _ _ := h3a.blk.grown hgb (fun e => h3a.ap.vaf e.symm); have f5 := bk5.frozen 5; have d5 := bk5.cell (i := 5) rfl)
              obtain ⟨h5, bs5⟩ := h3a.put_arc hgb ho hat
              have hOm5 := (hOm3.gr GA).bes bs5
              have hOl5 := (hOl3.gr GA).bes bs5
              clear hgs hgb hat bk5 f5 d5 ho bs5 h3a hOm3 hOl3 GA c5 hy
              generalize (w5.setCell ⟨fb, 5, none⟩ _) = w6 at h5 hOm5 hOl5 ⊢
              go_wp2_with fail
              go_roundw
              case rel => exact ⟨j + 1, _, _, by go_num, by omega, ⟨mb3, _, _, _, rfl, h5⟩, hF2, by simp only [List.length_append, List.length_singleton]; omega, hOm5, hOl5, hi2, HM2, Lib.hid HHS.out⟩
              case measure => simp [intOf]; omega
          · have hst := step_bad (most := most) (i := i) (s := s') HFF.out he
            have HN := Lib.hid (HB.out _ _ hst he)
            have q1 : (e != 0) = true := by simpa using he
            have gw := hO'.gr.trans g2
            clear hst
            go_wp2_with fail
            go_ret
            exact RetEx.bad HN.out he gw
        · obtain rfl : j = l.length := by omega
          have hrs := HS'.out
          rw [List.drop_length, steps_nil] at hrs
          have h4 : stepsF N most m i s (enabledL N m) = (s', 0) := by rw [← HLI.out, ← HRS.out]; exact hrs.symm
          have h5 := HX.out
          rw [show 301 - i = (300 - i) + 1 by omega, expl_step hlt HMI.out.symm h4] at h5
          have H5 := Lib.hid h5
          have hF2 : FoundS N m0 most s' (i + 1) [] := by
            rw [List.take_length, HLI.out] at hF'
            rw [← HM'.out] at hF'
            exact found_next hF'
          clear hrs h4 h5
          go_wp2_with fail
          go_roundw
          case rel => exact ⟨i + 1, s', R', by go_num, hW', hF2, by omega, by omega, by rw [show 301 - (i + 1) = 300 - i by omega]; exact H5.out⟩
          case measure => simp [intOf]; omega
    · have hxe := HX.out
      rw [expl_end (by omega)] at hxe
      have HE := Lib.hid hxe.symm
      clear hxe
      obtain ⟨mb, vm, va, vf, rfl, hO⟩ := hW
      obtain ⟨vma, vmc, rfl, _, _⟩ := hO.ms.len
      have c4 := hO.blk.cell (i := 4) rfl
      have hcI : (s.marks.length : Int) ≤ (i : Int) := by omega
      go_wp2_with fail
      go_ret
      exact RetEx.good HE.out ⟨mb, _, va, vf, rfl, hO⟩ hO.gr
end Go.Proofs.Ytjpapgbdhflgnaa

/- Contracts of the search itself and of reach.Graph. -/
namespace Go.Tok
open Go.RowKit
set_option linter.unusedVariables false
/-- v reads as the space S -/
def SpaceR (w : World) (v : Value) (S : SpaceD) : Prop := ∃ vm va, v = .agg #[vm, va] ∧ Rd rowK w vm S.marks ∧ Rd arcK w va S.arcs
theorem SpaceR.gr {w w' : World} {v : Value} {S : SpaceD} (h : SpaceR w v S) (g : Gr w w') : SpaceR w' v S := by
  obtain ⟨vm, va, h1, h2, h3⟩ := h
  exact ⟨vm, va, h1, h2.gr g, h3.gr g⟩
theorem SpaceR.open_ {w : World} {v : Value} {S : SpaceD} (h : SpaceR w v S) : ∃ a n a' n', v = .agg #[.slice a S.marks.length n, .slice a' S.arcs.length n'] ∧ S.marks.length ≤ n ∧ n ≤ 9223372036854775807 ∧ S.arcs.length ≤ n' ∧ n' ≤ 9223372036854775807 ∧ Rd rowK w (.slice a S.marks.length n) S.marks ∧ Rd arcK w (.slice a' S.arcs.length n') S.arcs := by
  obtain ⟨vm, va, h1, h2, h3⟩ := h
  obtain ⟨a, n, rfl, h4, h5⟩ := h2.len
  obtain ⟨a', n', rfl, h6, h7⟩ := h3.len
  exact ⟨a, n, a', n', h1, h4, h5, h6, h7, h2, h3⟩
theorem SpaceR.open0 {w : World} {v : Value} (h : SpaceR w v zeroS) : ∃ a n a' n', v = .agg #[.slice a 0 n, .slice a' 0 n'] := by
  obtain ⟨a, n, a', n', h1, _⟩ := h.open_
  exact ⟨a, n, a', n', h1⟩
theorem SpaceR.mk_ {w : World} {vm va : Value} {S : SpaceD} (h1 : Rd rowK w vm S.marks) (h2 : Rd arcK w va S.arcs) : SpaceR w (.agg #[vm, va]) S := ⟨vm, va, rfl, h1, h2⟩
theorem SpaceR.zero (w : World) : SpaceR w (.agg #[.slice none 0 0, .slice none 0 0]) zeroS := ⟨_, _, rfl, Rd.nil _, Rd.nil _⟩
end Go.Tok
namespace Go.Proofs.Ytjpapgbdhflgnaa
open Go.RowKit Go.Tok
set_option linter.unusedVariables false
/-- what the search hands back: an error, or where its state lies -/
def RetSe (N : NetD) (w : World) (r : FinD × Int) (e : Ending) (w' : World) : Prop :=
  Gr w w' ∧ ((r.2 ≠ 0 ∧ e = .returned (.tuple #[.pointer none, .int .i64 r.2])) ∨
    (r.2 = 0 ∧ ∃ fb vn most vmap vm va vf, e = .returned (.tuple #[.pointer (some ⟨fb, 0, none⟩), .int .i64 0]) ∧ Blk w' fb 107 #[.int .i64 N.places, vn, .int .i64 most, vmap, vm, va, vf] ∧ w.heap.size ≤ fb ∧ On (fun b => w.heap.size ≤ b) (fun w => Rd rowK w vm r.1.marks) w' ∧ On (fun b => w.heap.size ≤ b) (fun w => Rd arcK w va r.1.arcs) w' ∧ On (fun b => w.heap.size ≤ b) (fun w => Ints w vf r.1.first) w'))
theorem RetSe.bad {N : NetD} {w w' : World} {r : FinD × Int} {s : FinD} {x : Int} (hr : r = (s, x)) (hx : x ≠ 0) (g : Gr w w') : RetSe N w r (.returned (.tuple #[.pointer none, .int .i64 x])) w' := by
  subst hr; exact ⟨g, .inl ⟨hx, rfl⟩⟩
theorem RetSe.good {N : NetD} {w w' : World} {r : FinD × Int} {s : FinD} {fb : Nat} {vn vmap vm va vf : Value} {most : Int} (hr : r = (s, 0)) (g : Gr w w') (h : Blk w' fb 107 #[.int .i64 N.places, vn, .int .i64 most, vmap, vm, va, vf]) (hb : w.heap.size ≤ fb) (h1 : On (fun b => w.heap.size ≤ b) (fun w => Rd rowK w vm s.marks) w') (h2 : On (fun b => w.heap.size ≤ b) (fun w => Rd arcK w va s.arcs) w') (h3 : On (fun b => w.heap.size ≤ b) (fun w => Ints w vf s.first) w') :
    RetSe N w r (.returned (.tuple #[.pointer (some ⟨fb, 0, none⟩), .int .i64 0])) w' := by
  subst hr; exact ⟨g, .inr ⟨rfl, fb, vn, most, vmap, vm, va, vf, rfl, h, hb, h1, h2, h3⟩⟩
theorem search_range {N : NetD} {m : List Int} {most : Int} (h : most < 1 ∨ 300 < most) : searchF N m most = (⟨[], [], []⟩, 2) := by unfold searchF; rw [if_pos h]
theorem search_unfit {N : NetD} {m : List Int} {most : Int} (h1 : 1 ≤ most) (h2 : most ≤ 300) (h : fitsB N m = false) : searchF N m most = (⟨[], [], []⟩, 2) := by unfold searchF; rw [if_neg (by omega), if_pos h]
theorem search_fit {N : NetD} {m : List Int} {most : Int} (h1 : 1 ≤ most) (h2 : most ≤ 300) (h : fitsB N m = true) : searchF N m most = explF N most.toNat 301 0 (fin0 m) := by unfold searchF; rw [if_neg (by omega), if_neg (by rw [h]; decide)]
set_option maxHeartbeats 8000000 in
set_option maxRecDepth 100000 in
theorem search_calls (v u : Value) (N : NetD) (m : List Int) (most : Int) (w : World) (hN : NetR w v N) (hu : Ints w u m) (hmo : I64 most) :
    Calls Try.prog 59 #[v, u, .int .i64 most] w (RetSe N w (searchF N m most)) := by
  have hN' := hN
  obtain ⟨a, cap, rfl, hnl, hncap, hpl, hT⟩ := hN.open_
  have hpl1 := hpl.1
  have hpl2 := hpl.2
  have hm1 := hmo.1
  have hm2 := hmo.2
  by_cases h1 : most < 1
  · have HC := Lib.hid (search_range (N := N) (m := m) (.inl h1))
    go_enter Try.func59, Try.ntmps59
    go_wp2_with fail
    go_ret2
    exact RetSe.bad HC.out (by decide) (by (repeat (first | exact Gr.refl _ | assumption | apply Gr.alloc | apply Gr.drew | apply Gr.drewN | refine Gr.trans ?_ (by assumption))))
  by_cases h2 : 300 < most
  · have HC := Lib.hid (search_range (N := N) (m := m) (.inr h2))
    have h1' : 1 ≤ most := by omega
    go_enter Try.func59, Try.ntmps59
    go_wp2_with fail
    go_ret2
    exact RetSe.bad HC.out (by decide) (by (repeat (first | exact Gr.refl _ | assumption | apply Gr.alloc | apply Gr.drew | apply Gr.drewN | refine Gr.trans ?_ (by assumption))))
  have h1' : 1 ≤ most := by omega
  have h2' : most ≤ 300 := by omega
  clear h1 h2
  cases hf : fitsB N m
  · have HC := Lib.hid (search_unfit h1' h2' hf)
    have HE := Lib.hid (enabledF_unfit hf)
    clear hf
    go_enter Try.func59, Try.ntmps59
    go_wp2_with fail
    refine (Enabled_calls _ _ N m _ (hN'.gr (by (repeat (first | exact Gr.refl _ | assumption | apply Gr.alloc | apply Gr.drew | apply Gr.drewN | refine Gr.trans ?_ (by assumption))))) (hu.gr (by (repeat (first | exact Gr.refl _ | assumption | apply Gr.alloc | apply Gr.drew | apply Gr.drewN | refine Gr.trans ?_ (by assumption)))))).mono ?_
    rw [HE.out]; rintro _ w1 ⟨v1, rfl, i1, g1⟩
    go_wp2_with fail
    go_ret2
    exact RetSe.bad HC.out (by decide) (by (repeat (first | exact Gr.refl _ | assumption | apply Gr.alloc | apply Gr.drew | apply Gr.drewN | refine Gr.trans ?_ (by assumption))))
  · have HC := Lib.hid (search_fit h1' h2' hf)
    have HE := Lib.hid (enabledF_fit hf)
    have HF := Lib.hid hf
    have hmm := @run_makeMap Try.prog
    obtain ⟨mo, rfl⟩ := Int.eq_ofNat_of_zero_le (show 0 ≤ most by omega)
    have hm16 := (fits_sizes hf).2.2.2.1
    clear hf
    go_enter Try.func59, Try.ntmps59
    go_wp2_with fail
    refine (Enabled_calls _ _ N m _ (hN'.gr (by (repeat (first | exact Gr.refl _ | assumption | apply Gr.alloc | apply Gr.drew | apply Gr.drewN | refine Gr.trans ?_ (by assumption))))) (hu.gr (by (repeat (first | exact Gr.refl _ | assumption | apply Gr.alloc | apply Gr.drew | apply Gr.drewN | refine Gr.trans ?_ (by assumption)))))).mono ?_
    rw [HE.out]; rintro _ w1 ⟨v1, rfl, i1, g1⟩
    have B0 := box_cell g1 (i := 0) rfl
    have B1 := box_cell g1 (i := 1) rfl
    have gw : Gr w w1 := ((Gr.refl w).alloc _).trans g1
    clear g1
    have GA : Gr w1 ((w1.alloc (.map #[] 0)).alloc (.cells #[.int .i64 N.places, .slice a N.trans.length cap, .int .i64 (mo : Int), .map (some w1.heap.size), .slice none 0 0, .slice none 0 0, .slice none 0 0] 107)) := ((Gr.refl _).alloc _).alloc _
    have hO : FinO N a cap (mo : Int) (w1.heap.size + 1) w1.heap.size (.slice none 0 0) (.slice none 0 0) (.slice none 0 0) w1 ((w1.alloc (.map #[] 0)).alloc (.cells #[.int .i64 N.places, .slice a N.trans.length cap, .int .i64 (mo : Int), .map (some w1.heap.size), .slice none 0 0, .slice none 0 0, .slice none 0 0] 107)) [] (keyedM []) [] [] :=
      ⟨Blk.new (by simp), by rw [keyedM_nil]; exact (MAt.new w1).gr ((Gr.refl _).alloc _), OwnR.nil _ _ _ _, OwnR.nil _ _ _ _, OwnI.nil _ _ _, GA, by omega, Nat.le_refl _, ⟨by omega, by simp [Value.ownBlock], by simp [Value.ownBlock], by simp [Value.ownBlock], by simp [Value.ownBlock], by simp [Value.ownBlock], by simp [Value.ownBlock], by simp [Value.ownBlock], by simp [Value.ownBlock], by simp [Value.ownBlock]⟩⟩
    go_wp2_with fail
    generalize ((w1.alloc (.map #[] 0)).alloc (.cells #[.int .i64 N.places, .slice a N.trans.length cap, .int .i64 (mo : Int), .map (some w1.heap.size), .slice none 0 0, .slice none 0 0, .slice none 0 0] 107)) = wA at GA hO ⊢
    obtain ⟨fb, hfb⟩ : ∃ fb, fb = w1.heap.size + 1 := ⟨_, rfl⟩
    rw [← hfb] at hO ⊢
    have hfbase : w.heap.size ≤ fb := by have := gw.le; omega
    have hgl := gw.le
    clear hfb
    refine (Clone_calls _ m _ (hu.gr (by (repeat (first | exact Gr.refl _ | assumption | apply Gr.alloc | apply Gr.drew | apply Gr.drewN | refine Gr.trans ?_ (by assumption))))) (by omega)).mono ?_
    rintro _ w2 ⟨v2, rfl, o2, g2⟩
    have hW : FinW N a cap (mo : Int) fb w1 (FinB w1.heap.size fb w1.heap.size (.slice none 0 0) (.slice none 0 0) (.slice none 0 0)) wA ⟨[], [], []⟩ := ⟨_, _, _, _, rfl, hO⟩
    have hOm : On (fun b => ¬ FinB w1.heap.size fb w1.heap.size (.slice none 0 0) (.slice none 0 0) (.slice none 0 0) b) (fun w => Ints w v2 m) w2 := On.own o2 (fun b hb => hO.lt hb)
    replace hW := hW.gr g2
    obtain ⟨xa, xc, rfl, _, _⟩ := o2.ints.len
    have hfd : findF mo ⟨[], [], []⟩ m (-1) = some (0, fin0 m) := by unfold findF; simp [fin0]; omega
    have HFD := Lib.hid hfd
    have hmr := (fits_sizes HF.out).2.2.2.2.2.1
    have hN1 := hN'.gr gw
    clear o2 g2 hO GA B0 B1 i1 hmm hfd
    go_wp2_with fail
    refine (find_some hW hOm hmr (by omega) (fun y hy => by simp at hy) (by decide) (by simp) (by simp) HFD.out).mono ?_
    rintro _ w3 ⟨R3, rfl, hW3, _⟩
    clear hW hOm
    go_wp2_with fail
    refine (explore_calls hN1 hW3 (fin0_found (by omega) HF.out) rfl (by omega)).mono ?_
    have HC2 := HC.out
    rw [Int.toNat_natCast] at HC2
    rw [← HC2]
    rcases hsr : searchF N m (mo : Int) with ⟨s, x⟩
    have HSR := Lib.hid hsr
    clear hsr HC2
    rintro _ w4 ⟨rfl, g4, h4⟩
    have gw4 := gw.trans g4
    by_cases hx : x = 0
    · subst hx
      obtain ⟨R4, mb, vm, va, vf, _, hO4⟩ := h4 rfl
      clear h4
      go_wp2_with fail
      go_ret2
      exact RetSe.good HSR.out gw4 hO4.blk hfbase ((hO4.ms.fresh (fun b _ hb => hb.1)).mono (fun b _ hb => Nat.le_trans hgl hb)) ((hO4.ar.fresh (fun b _ hb => hb.elim)).mono (fun b _ hb => Nat.le_trans hgl hb)) ((Ints.on_fresh hO4.fi).mono (fun b _ hb => Nat.le_trans hgl hb))
    · have q1 : (x != 0) = true := by simpa using hx
      clear h4
      go_wp2_with fail
      go_ret2
      exact RetSe.bad HSR.out hx gw4
/-- what Graph hands back -/
def RetSp (w : World) (r : SpaceD × Int) (e : Ending) (w' : World) : Prop := ∃ v, e = .returned (.tuple #[v, .int .i64 r.2]) ∧ SpaceR w' v r.1 ∧ Gr w w'
theorem RetSp.mk {w w' : World} {v : Value} {x : Int} {r : SpaceD × Int} {S : SpaceD} (hr : r = (S, x)) (hv : SpaceR w' v S) (hb : Gr w w') : RetSp w r (.returned (.tuple #[v, .int .i64 x])) w' := by subst hr; exact ⟨v, rfl, hv, hb⟩
theorem graph_ok {N : NetD} {m : List Int} {most : Int} {s : FinD} (h : searchF N m most = (s, 0)) : graphF N m most = (⟨s.marks, s.arcs⟩, 0) := by unfold graphF; rw [h]; rfl
theorem graph_bad {N : NetD} {m : List Int} {most : Int} {s : FinD} {x : Int} (h : searchF N m most = (s, x)) (hx : x ≠ 0) : graphF N m most = (zeroS, x) := by unfold graphF; rw [h, if_neg hx]
set_option maxHeartbeats 8000000 in
set_option maxRecDepth 100000 in
theorem Graph_calls (v u : Value) (N : NetD) (m : List Int) (most : Int) (w : World) (hN : NetR w v N) (hu : Ints w u m) (hmo : I64 most) :
    Calls Try.prog 32 #[v, u, .int .i64 most] w (RetSp w (graphF N m most)) := by
  have hN' := hN
  obtain ⟨a, cap, rfl, hnl, hncap, hpl, hT⟩ := hN.open_
  have hpl1 := hpl.1
  have hpl2 := hpl.2
  rcases hsr : searchF N m most with ⟨s, x⟩
  have HSR := Lib.hid hsr
  go_enter Try.func32, Try.ntmps32
  go_wp2_with fail
  refine (search_calls _ _ N m most _ (hN'.gr (by (repeat (first | exact Gr.refl _ | assumption | apply Gr.alloc | apply Gr.drew | apply Gr.drewN | refine Gr.trans ?_ (by assumption))))) (hu.gr (by (repeat (first | exact Gr.refl _ | assumption | apply Gr.alloc | apply Gr.drew | apply Gr.drewN | refine Gr.trans ?_ (by assumption))))) hmo).mono ?_
  rw [hsr]; rintro _ w1 ⟨g1, h1⟩
  clear hsr
  have b0 : Blk w1 w.heap.size 28 #[.int .i64 N.places, .slice a N.trans.length cap] := ((Blk.new rfl).gr ((Gr.refl _).alloc _)).gr g1
  have b3 : Blk w1 (w.heap.size + 1) 77 #[.slice none 0 0, .slice none 0 0] := (Blk.new (by simp)).gr g1
  have gw : Gr w w1 := (((Gr.refl w).alloc _).alloc _).trans g1
  by_cases hx : x = 0
  · subst hx
    rcases h1 with ⟨h1, _⟩ | ⟨_, fb, vn, mo, vmap, vm, va, vf, rfl, hb, hfb, hm, ha, hf⟩
    · exact absurd rfl h1
    obtain ⟨ma, mc, rfl, _, _⟩ := hm.now.len
    obtain ⟨aa, ac, rfl, _, _⟩ := ha.now.len
    have HC := Lib.hid (graph_ok HSR.out)
    have c4 := hb.cell (i := 4) rfl
    have c5 := hb.cell (i := 5) rfl
    have F0 := b3.frozen 0
    have hb2 := b3.set 0 (.slice ma s.marks.length mc)
    have F1 := hb2.frozen 1
    have hb3 := hb2.set 1 (.slice aa s.arcs.length ac)
    have E0 := hb3.cell (i := 0) rfl
    have E1 := hb3.cell (i := 1) rfl
    have D0 := b3.cell (i := 0) rfl
    have D1 := b3.cell (i := 1) rfl
    have D2 := hb2.cell (i := 1) rfl
    simp at hfb
    have hne : w.heap.size + 1 ≠ fb := by omega
    go_wp2_with fail
    refine bodyPost_ret (v := .tuple #[.agg #[.slice ma s.marks.length mc, .slice aa s.arcs.length ac], .int .i64 0]) (by simp [results, Try.results32, go_sem, E0, E1]) rfl ?_
    refine RetSp.mk HC.out (SpaceR.mk_ (S := ⟨s.marks, s.arcs⟩) ?_ ?_) ((gw.setCell (by simp) _).setCell (by simp) _)
    · exact (hm.kp (Kp.trans (set_kp (by simp) _) (set_kp (by simp) _))).now
    · exact (ha.kp (Kp.trans (set_kp (by simp) _) (set_kp (by simp) _))).now
  · rcases h1 with ⟨_, rfl⟩ | ⟨h1, _⟩
    rotate_left
    · exact absurd h1 hx
    have HC := Lib.hid (graph_bad HSR.out hx)
    have q1 : (x != 0) = true := by simpa using hx
    have F0 := b3.frozen 0
    have hb2 := b3.set 0 (.slice none 0 0)
    have F1 := hb2.frozen 1
    have hb3 := hb2.set 1 (.slice none 0 0)
    have E0 := hb3.cell (i := 0) rfl
    have E1 := hb3.cell (i := 1) rfl
    have D0 := b3.cell (i := 0) rfl
    have D1 := b3.cell (i := 1) rfl
    have D2 := hb2.cell (i := 1) rfl
    go_wp2_with fail
    refine bodyPost_ret (v := .tuple #[.agg #[.slice none 0 0, .slice none 0 0], .int .i64 x]) (by simp [results, Try.results32, go_sem, E0, E1]) rfl ?_
    exact RetSp.mk HC.out (SpaceR.zero _) ((gw.setCell (by simp) _).setCell (by simp) _)
end Go.Proofs.Ytjpapgbdhflgnaa

/- Contract of reach.Graph: what it hands back hangs on rows of the call's own. -/
namespace Go.Proofs.Ytjpapgbdhflgnaa
open Go.RowKit Go.Tok
set_option linter.unusedVariables false
/-- what Graph hands back hangs on what it laid -/
def RetSpO (w : World) (r : SpaceD × Int) (e : Ending) (w' : World) : Prop := ∃ v, e = .returned (.tuple #[v, .int .i64 r.2]) ∧ On (fun b => w.heap.size ≤ b) (fun w => SpaceR w v r.1) w' ∧ Gr w w'
theorem RetSpO.mk {w w' : World} {v : Value} {x : Int} {r : SpaceD × Int} {S : SpaceD} (hr : r = (S, x)) (hv : On (fun b => w.heap.size ≤ b) (fun w => SpaceR w v S) w') (hb : Gr w w') : RetSpO w r (.returned (.tuple #[v, .int .i64 x])) w' := by subst hr; exact ⟨v, rfl, hv, hb⟩
set_option maxHeartbeats 8000000 in
set_option maxRecDepth 100000 in
theorem Graph_own (v u : Value) (N : NetD) (m : List Int) (most : Int) (w : World) (hN : NetR w v N) (hu : Ints w u m) (hmo : I64 most) :
    Calls Try.prog 32 #[v, u, .int .i64 most] w (RetSpO w (graphF N m most)) := by
  have hN' := hN
  obtain ⟨a, cap, rfl, hnl, hncap, hpl, hT⟩ := hN.open_
  have hpl1 := hpl.1
  have hpl2 := hpl.2
  rcases hsr : searchF N m most with ⟨s, x⟩
  have HSR := Lib.hid hsr
  go_enter Try.func32, Try.ntmps32
  go_wp2_with fail
  refine (search_calls _ _ N m most _ (hN'.gr (by (repeat (first | exact Gr.refl _ | assumption | apply Gr.alloc | apply Gr.drew | apply Gr.drewN | refine Gr.trans ?_ (by assumption))))) (hu.gr (by (repeat (first | exact Gr.refl _ | assumption | apply Gr.alloc | apply Gr.drew | apply Gr.drewN | refine Gr.trans ?_ (by assumption))))) hmo).mono ?_
  rw [hsr]; rintro _ w1 ⟨g1, h1⟩
  clear hsr
  have b0 : Blk w1 w.heap.size 28 #[.int .i64 N.places, .slice a N.trans.length cap] := ((Blk.new rfl).gr ((Gr.refl _).alloc _)).gr g1
  have b3 : Blk w1 (w.heap.size + 1) 77 #[.slice none 0 0, .slice none 0 0] := (Blk.new (by simp)).gr g1
  have gw : Gr w w1 := (((Gr.refl w).alloc _).alloc _).trans g1
  by_cases hx : x = 0
  · subst hx
    rcases h1 with ⟨h1, _⟩ | ⟨_, fb, vn, mo, vmap, vm, va, vf, rfl, hb, hfb, hm, ha, hf⟩
    · exact absurd rfl h1
    obtain ⟨ma, mc, rfl, _, _⟩ := hm.now.len
    obtain ⟨aa, ac, rfl, _, _⟩ := ha.now.len
    have HC := Lib.hid (graph_ok HSR.out)
    have c4 := hb.cell (i := 4) rfl
    have c5 := hb.cell (i := 5) rfl
    have F0 := b3.frozen 0
    have hb2 := b3.set 0 (.slice ma s.marks.length mc)
    have F1 := hb2.frozen 1
    have hb3 := hb2.set 1 (.slice aa s.arcs.length ac)
    have E0 := hb3.cell (i := 0) rfl
    have E1 := hb3.cell (i := 1) rfl
    have D0 := b3.cell (i := 0) rfl
    have D1 := b3.cell (i := 1) rfl
    have D2 := hb2.cell (i := 1) rfl
    simp at hfb
    have hne : w.heap.size + 1 ≠ fb := by omega
    go_wp2_with fail
    refine bodyPost_ret (v := .tuple #[.agg #[.slice ma s.marks.length mc, .slice aa s.arcs.length ac], .int .i64 0]) (by simp [results, Try.results32, go_sem, E0, E1]) rfl ?_
    refine RetSpO.mk HC.out (On.imp (On.and (On.mono (hm.kp (Kp.trans (set_kp (by simp) _) (set_kp (by simp) _))) ?_) (On.mono (ha.kp (Kp.trans (set_kp (by simp) _) (set_kp (by simp) _))) ?_)) fun w h => SpaceR.mk_ (S := ⟨s.marks, s.arcs⟩) h.1 h.2) ((gw.setCell (by simp) _).setCell (by simp) _)
    · intro b _ hb; simp at hb; omega
    · intro b _ hb; simp at hb; omega
  · rcases h1 with ⟨_, rfl⟩ | ⟨h1, _⟩
    rotate_left
    · exact absurd h1 hx
    have HC := Lib.hid (graph_bad HSR.out hx)
    have q1 : (x != 0) = true := by simpa using hx
    have F0 := b3.frozen 0
    have hb2 := b3.set 0 (.slice none 0 0)
    have F1 := hb2.frozen 1
    have hb3 := hb2.set 1 (.slice none 0 0)
    have E0 := hb3.cell (i := 0) rfl
    have E1 := hb3.cell (i := 1) rfl
    have D0 := b3.cell (i := 0) rfl
    have D1 := b3.cell (i := 1) rfl
    have D2 := hb2.cell (i := 1) rfl
    go_wp2_with fail
    refine bodyPost_ret (v := .tuple #[.agg #[.slice none 0 0, .slice none 0 0], .int .i64 x]) (by simp [results, Try.results32, go_sem, E0, E1]) rfl ?_
    exact RetSpO.mk HC.out (On.imp (On.true (p := True) trivial) fun w _ => SpaceR.zero w) ((gw.setCell (by simp) _).setCell (by simp) _)
end Go.Proofs.Ytjpapgbdhflgnaa
