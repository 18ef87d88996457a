/- Contract of reach.name: a mark as a text. -/
import Derived.Test.YtkanaoebpajbfaaPB
import Derived.Test.YtkanaoebpajbfaaGN
import Derived.OwnWalk
import Derived.Test.YtkanaoebpajbfaaPA
import Derived.Deep.RegionHeld3
import Derived.StringKeys
import Derived.Deep.DeepCutAuto
namespace Go.Proofs.Ytkanaoebpajbfaa
open Go.RowKit Go.Tok
set_option linter.unusedVariables false
theorem nbyteTy : KTy Try.prog 251 5 byteK 1 (.int .u8 0) := ⟨Try.underlying251, by kernel_rfl, rfl, by decide⟩
set_option maxHeartbeats 4000000 in
theorem name_calls (v : Value) (m : List Int) (w : World) (hv : Ints w v m) (hm : ∀ x ∈ m, 0 ≤ x ∧ x ≤ 1000000) (hl : m.length ≤ 100) :
    Calls Try.prog 156 #[v] w fun e w' => e = .returned (.string (nameS m)) ∧ Gr w w' := by
  have T := nbyteTy
  obtain ⟨a, cap, rfl, hlc, hcap⟩ := hv.len
  obtain ⟨i, hi, hz, hsz, hb⟩ := info_parts T.info
  go_enter Try.func156, Try.ntmps156
  go_wp2_with (at_make; refine wpList_make_own w rfl _ _ _ rfl w.heap.size 5 i _ 1 Try.underlying251 hi hz hsz .i64 .i64 _ (3 * m.length) rfl rfl (by go_num) (by rw [hb]; omega) (by unfold maxLen; omega) (Nat.le_refl _) ?_; intro w1 ho1 hg1)
  have own1 : OwnR byteK 5 w.heap.size All w1 (.slice (some ⟨w.heap.size, 0, none⟩) 0 (3 * m.length)) (nameTo m 0) := by rw [nameTo_zero]; exact OwnR.empty ho1
  have G1 : Gr w w1 := (Gr.refl w).grown hg1 (by simp)
  clear ho1 hg1
  go_wp2_with fail
  go_loopw [3, 12] (fun b i wr => ∃ k : Nat, k ≤ m.length ∧ i = .int .i64 k ∧ OwnR byteK 5 w.heap.size All wr b (nameTo m k) ∧ Gr w wr) (fun _ i _ => m.length - (intOf i).toNat)
  case atStart => exact ⟨0, Nat.zero_le _, rfl, own1, G1⟩
  case round =>
    rename_i wr
    obtain ⟨k, hk, rfl, hown, hgr⟩ := hrel
    by_cases hlt : k < m.length
    · obtain ⟨b', o, rfl, hcell⟩ := (hv.gr hgr).cell hlt
      have hb2 : 0 ≤ nth m k ∧ nth m k ≤ 1000000 := hm _ (by rw [nth_lt hlt]; exact List.getElem_mem hlt)
      have h0 : 0 ≤ nth m k := hb2.1
      have h1 : nth m k ≤ 1000000 := hb2.2
      have hll := nameTo_len hk
      have HS := Lib.hid (nameTo_succ hlt)
      clear hb2
      go_wp2_with (at_builtin; refine app_flat T _ _ w.heap.size All _ _ (nameTo m k) (bytes3 (nth m k)) (by rfl) (by rfl) (by rfl) (by rfl) (hown.alloc _) ((own_bytes (base := 0) (S := All) (xs := bytes3 (nth m k)) rfl rfl rfl (by simp [bytes3]; omega) (bytes3_lt _) (by simp [bytes3]) (Nat.zero_le _)).rd) (bytes3_lt _) (by simp [bytes3]; omega) (by simp [bytes3]; unfold maxLen; omega) (by have := hgr.le; simp; omega) ?_; intro v' w' ho hgs hgb hat)
      rw [← HS.out] at ho
      go_roundw
      case rel => exact ⟨k + 1, by omega, by go_num, ho, hgs w (Nat.le_refl _) (hgr.alloc _)⟩
      case measure => simp [intOf]; omega
    · obtain rfl : k = m.length := by omega
      rw [nameTo_all] at hown
      obtain ⟨ra, rc, rfl, _, _⟩ := hown.len
      have rs := hown.rd.str Try.underlying251 Try.underlying5 Try.underlying9
      rw [← nameS_def] at rs
      go_wp2_with fail
      go_ret
      exact ⟨rfl, hgr⟩
end Go.Proofs.Ytkanaoebpajbfaa

/- How the search's state stands in memory; contract of its look-up of a mark (find). -/
namespace Go.Tok
open Go.RowKit
set_option linter.unusedVariables false
def arcCells (a : ArcD) : List Value := [.int .i64 a.src, .int .i64 a.tran, .int .i64 a.dst]
def arcI (a : ArcD) : Prop := I64 a.src ∧ I64 a.tran ∧ I64 a.dst
def arcK : Kind ArcD := flat 3 arcCells arcI (fun _ => rfl) (fun o u hu => by
  simp only [arcCells, List.mem_cons, List.not_mem_nil, or_false] at hu
  rcases hu with rfl | rfl | rfl <;> rfl)
theorem Rd.arc {w : World} {a : Option Addr} {n cap : Nat} {xs : List ArcD} (h : Rd arcK w (.slice a n cap) xs) {i : Nat} (hi : i < xs.length) :
    ∃ b o, a = some ⟨b, o, none⟩ ∧ w.cell? ⟨b, o + i * 3, none⟩ = some (.int .i64 (ix xs i).src) ∧ w.cell? ⟨b, o + i * 3 + 1, none⟩ = some (.int .i64 (ix xs i).tran) ∧ w.cell? ⟨b, o + i * 3 + 2, none⟩ = some (.int .i64 (ix xs i).dst) ∧ arcI (ix xs i) := by
  obtain ⟨b, o, vs, ha, ⟨rfl, hr⟩, hc⟩ := h.at_ hi
  exact ⟨b, o, ha, hc 0 _ rfl, hc 1 _ rfl, hc 2 _ rfl, hr⟩
theorem own_arcs {w : World} {H n m base e : Nat} {S : Nat → Prop} {xs : List ArcD} {cs : Array Value} (hH : w.heap.size = H) (hn : n = xs.length) (hm : m = xs.length) (hcs : cs.toList = xs.flatMap arcCells) (hI : ∀ x ∈ xs, arcI x) (hl : xs.length ≤ 1000) (hb : base ≤ w.heap.size) :
    OwnR arcK e base S (w.alloc (.cells cs e)) (.slice (some ⟨H, 0, none⟩) n m) xs := by
  refine OwnR.lit (xs.map fun x => (x, arcCells x)) (by rw [List.map_map]; exact (List.map_id _).symm) hH hn hm ?_ hl hb ?_
  · rw [hcs]; unfold cellsOf; rw [List.flatMap_map]
  · intro r hr
    obtain ⟨x, hx, rfl⟩ := List.mem_map.1 hr
    exact On.true (p := arcCells x = arcCells x ∧ arcI x) ⟨rfl, hI x hx⟩

/-! ### the marks' names, by number -/
def keyedM (ms : List (List Int)) : List (Value × Value) := ms.zipIdx.map fun p => (.string (nameS p.1), .int .i64 (p.2 : Int))
theorem keyedM_nil : keyedM [] = [] := rfl
theorem keyedM_snoc (ms : List (List Int)) (m : List Int) : keyedM (ms ++ [m]) = keyedM ms ++ [(.string (nameS m), .int .i64 (ms.length : Int))] := by
  unfold keyedM; rw [List.zipIdx_append]; simp
theorem keyedM_mem {ms : List (List Int)} {m : List Int} (h : m ∈ ms) : (Value.string (nameS m), Value.int .i64 ((ms.idxOf m : Nat) : Int)) ∈ keyedM ms := by
  obtain ⟨h1, h2⟩ := mem_idx h
  unfold keyedM
  refine List.mem_map.2 ⟨(m, ms.idxOf m), ?_, rfl⟩
  rw [List.mem_zipIdx_iff_getElem?]
  rw [ix_some h1, h2]
theorem keyedM_not {ms : List (List Int)} {m : List Int} (h : m ∉ ms) (hm : ∀ x ∈ m, 0 ≤ x ∧ x ≤ 1000000) (hms : ∀ y ∈ ms, ∀ x ∈ y, 0 ≤ x ∧ x ≤ 1000000) : ∀ x ∈ keyedM ms, x.1 ≠ .string (nameS m) := by
  intro x hx
  obtain ⟨p, hp, rfl⟩ := List.mem_map.1 hx
  intro e
  have hp1 : p.1 ∈ ms := List.mem_of_getElem? (List.mem_zipIdx_iff_getElem?.1 hp)
  have : nameS p.1 = nameS m := by simpa using e
  rw [nameS_inj (hms _ hp1) hm this] at hp1
  exact h hp1

/-! ### blocks beside those of the search -/
def Bes (R R' : Nat → Prop) (w w' : World) : Prop := w.heap.size ≤ w'.heap.size ∧ ∀ b, b < w.heap.size → ¬ R b → ¬ R' b ∧ w'.heap[b]? = w.heap[b]?
theorem Bes.refl (R : Nat → Prop) (w : World) : Bes R R w w := ⟨Nat.le_refl _, fun b _ h => ⟨h, rfl⟩⟩
theorem Bes.trans {R R1 R2 : Nat → Prop} {w w1 w2 : World} (h : Bes R R1 w w1) (k : Bes R1 R2 w1 w2) : Bes R R2 w w2 :=
  ⟨Nat.le_trans h.1 k.1, fun b hb hr => by
    obtain ⟨h1, h2⟩ := h.2 b hb hr
    obtain ⟨h3, h4⟩ := k.2 b (Nat.lt_of_lt_of_le hb h.1) h1
    exact ⟨h3, h4.trans h2⟩⟩
theorem Gr.bes {R : Nat → Prop} {w w' : World} (g : Gr w w') : Bes R R w w' := ⟨g.le, fun b hb h => ⟨h, g.below.block b hb⟩⟩
theorem On.bes {R R' : Nat → Prop} {p : World → Prop} {w w' : World} (h : On (fun b => ¬ R b) p w) (k : Bes R R' w w') : On (fun b => ¬ R' b) p w' := h.moved k.1 fun b hb hr => k.2 b hb hr
/-- a row that came new is none of the search's -/
theorem On.own {R : Nat → Prop} {e base : Nat} {w : World} {v : Value} {xs : List Int} (h : OwnI e base w v xs) (hr : ∀ b, R b → b < base) : On (fun b => ¬ R b) (fun w => Ints w v xs) w :=
  (Ints.on_own h).mono fun b _ hb hR => by have := (h.lt hb).1; have := hr b hR; omega
end Go.Tok
namespace Go.Proofs.Ytkanaoebpajbfaa
open Go.RowKit Go.Tok

set_option linter.unusedVariables false
theorem nameLaw : Go.Maps.Keyed Try.prog 9 := Go.Maps.string_keyed Try.underlying9
theorem arcTy : KTy Try.prog 37 214 arcK 24 (.agg #[.int .i64 0, .int .i64 0, .int .i64 0]) := ⟨Try.underlying37, by kernel_rfl, rfl, by decide⟩
theorem rowTy : KTy Try.prog 36 25 rowK 24 (.slice none 0 0) := ⟨Try.underlying36, by kernel_rfl, rfl, by decide⟩
theorem zeroInt2 (u : World) : (zeroValue 3).run Try.prog u = .ok (.int .i64 0) u := by kernel_rfl

/-- the search's own blocks -/
def FinB (base fb mb : Nat) (vm va vf : Value) (b : Nat) : Prop := b < base ∨ b = fb ∨ b = mb ∨ vm.ownBlock = some b ∨ va.ownBlock = some b ∨ vf.ownBlock = some b
/-- they are apart -/
structure FinA (fb mb : Nat) (vm va vf : Value) : Prop where
  fm : fb ≠ mb
  vmf : vm.ownBlock ≠ some fb
  vmm : vm.ownBlock ≠ some mb
  vaf : va.ownBlock ≠ some fb
  vam : va.ownBlock ≠ some mb
  vff : vf.ownBlock ≠ some fb
  vfm : vf.ownBlock ≠ some mb
  ma : ∀ b, vm.ownBlock = some b → va.ownBlock ≠ some b
  mf : ∀ b, vm.ownBlock = some b → vf.ownBlock ≠ some b
  af : ∀ b, va.ownBlock = some b → vf.ownBlock ≠ some b
structure FinO (N : NetD) (na : Option Addr) (ncap : Nat) (most : Int) (fb mb : Nat) (vm va vf : Value) (w0 w : World) (marks : List (List Int)) (kvs : List (Value × Value)) (arcs : List ArcD) (first : List Int) : Prop where
  blk : Blk w fb 105 #[.int .i64 N.places, .slice na N.trans.length ncap, .int .i64 most, .map (some mb), vm, va, vf]
  map : MAt Try.prog 9 w mb kvs
  ms : OwnR rowK 25 w0.heap.size (fun b => w0.heap.size ≤ b ∧ b ≠ fb ∧ b ≠ mb ∧ va.ownBlock ≠ some b ∧ vf.ownBlock ≠ some b) w vm marks
  ar : OwnR arcK 214 w0.heap.size (fun _ => False) w va arcs
  fi : OwnI 3 w0.heap.size w vf first
  gr : Gr w0 w
  fbase : w0.heap.size ≤ fb
  mbase : w0.heap.size ≤ mb
  ap : FinA fb mb vm va vf
theorem ne_or {v u : Value} (h : ∀ b, v.ownBlock = some b → u.ownBlock ≠ some b) : u.ownBlock = none ∨ u.ownBlock ≠ v.ownBlock := by
  cases hu : u.ownBlock with
  | none => exact .inl rfl
  | some b => exact .inr fun e => h b e.symm hu
section
variable {N : NetD} {na : Option Addr} {ncap : Nat} {most : Int} {fb mb : Nat} {vm va vf : Value} {w0 w w' : World} {marks : List (List Int)} {kvs : List (Value × Value)} {arcs : List ArcD} {first : List Int}
theorem FinO.lt (h : FinO N na ncap most fb mb vm va vf w0 w marks kvs arcs first) {b : Nat} (hb : FinB w0.heap.size fb mb vm va vf b) : b < w.heap.size := by
  rcases hb with hb | rfl | rfl | hb | hb | hb
  · exact Nat.lt_of_lt_of_le hb h.gr.le
  · exact h.blk.lt
  · exact h.map.lt
  · exact (h.ms.lt hb).2
  · exact (h.ar.lt hb).2
  · exact (h.fi.lt hb).2
theorem FinO.gr' (h : FinO N na ncap most fb mb vm va vf w0 w marks kvs arcs first) (g : Gr w w') : FinO N na ncap most fb mb vm va vf w0 w' marks kvs arcs first :=
  ⟨h.blk.gr g, h.map.gr g, h.ms.gr g, h.ar.gr g, h.fi.gr g, h.gr.trans g, h.fbase, h.mbase, h.ap⟩
theorem FinO.put_map (h : FinO N na ncap most fb mb vm va vf w0 w marks kvs arcs first) (ho : OnlyAt mb w w') {kvs' : List (Value × Value)} (hm : MAt Try.prog 9 w' mb kvs') : FinO N na ncap most fb mb vm va vf w0 w' marks kvs' arcs first := by
  have hg : w.grownBy w' (some mb) := ⟨ho.1, ho.2.1, ho.2.2.1, Nat.le_of_eq ho.2.2.2.1.symm, fun x hx hne => ho.2.2.2.2 x (fun e => hne (by rw [e]))⟩
  refine ⟨h.blk.grown hg (fun e => h.ap.fm (Option.some.inj e)), hm, h.ms.kept hg (.inr h.ap.vmm) (fun b _ hb => ⟨hb, fun e => hb.2.2.1 (Option.some.inj e)⟩), h.ar.kept hg (.inr h.ap.vam) (fun b _ hb => hb.elim), h.fi.grown hg (.inr h.ap.vfm), h.gr.grown hg (fun k hk => by cases hk; exact h.mbase), h.fbase, h.mbase, h.ap⟩
theorem FinO.put_map_bes (h : FinO N na ncap most fb mb vm va vf w0 w marks kvs arcs first) (ho : OnlyAt mb w w') : Bes (FinB w0.heap.size fb mb vm va vf) (FinB w0.heap.size fb mb vm va vf) w w' :=
  ⟨Nat.le_of_eq ho.2.2.2.1.symm, fun b _ hb => ⟨hb, ho.2.2.2.2 b (fun e => hb (.inr (.inr (.inl e))))⟩⟩
theorem set_bes {R : Nat → Prop} {a : Addr} (h : R a.block) (u : Value) (w : World) : Bes R R w (w.setCell a u) :=
  ⟨by simp [World.setCell], fun b _ hb => ⟨hb, Below.heap_setCell _ _ _ _ (fun e => hb (e ▸ h))⟩⟩
/-- a mark more -/
theorem FinO.put_mark (h : FinO N na ncap most fb mb vm va vf w0 w marks kvs arcs first) {v' : Value} {marks' : List (List Int)} (hg : w.grownBy w' vm.ownBlock) (ho : OwnR rowK 25 w0.heap.size (fun b => w0.heap.size ≤ b ∧ b ≠ fb ∧ b ≠ mb ∧ va.ownBlock ≠ some b ∧ vf.ownBlock ≠ some b) w' v' marks') (hat : v'.ownBlock = vm.ownBlock ∨ v'.ownBlock = some w.heap.size) :
    FinO N na ncap most fb mb v' va vf w0 (w'.setCell ⟨fb, 4, none⟩ v') marks' kvs arcs first ∧ Bes (FinB w0.heap.size fb mb vm va vf) (FinB w0.heap.size fb mb v' va vf) w (w'.setCell ⟨fb, 4, none⟩ v') := by
  have hn : ∀ b, b < w.heap.size → vm.ownBlock ≠ some b → v'.ownBlock ≠ some b := fun b hb h1 h2 => by
    rcases hat with h3 | h3
    · exact h1 (h3.symm.trans h2)
    · rw [h3] at h2; have := Option.some.inj h2; omega
  have hfb := h.blk.lt
  have hmb := h.map.lt
  have ap : FinA fb mb v' va vf := ⟨h.ap.fm, hn _ hfb h.ap.vmf, hn _ hmb h.ap.vmm, h.ap.vaf, h.ap.vam, h.ap.vff, h.ap.vfm, fun b h1 h2 => hn b (h.ar.lt h2).2 (fun e => h.ap.ma b e h2) h1, fun b h1 h2 => hn b (h.fi.lt h2).2 (fun e => h.ap.mf b e h2) h1, h.ap.af⟩
  have b1 : Blk w' fb _ _ := h.blk.grown hg (fun e => h.ap.vmf e.symm)
  refine ⟨⟨?_, (h.map.grown hg (fun e => h.ap.vmm e.symm)).set (fun e => h.ap.fm e.symm) _, ho.other ap.vmf (fun e => e.2.1 rfl) _, (h.ar.kept hg (ne_or h.ap.ma) (fun b _ hb => hb.elim)).other h.ap.vaf (fun e => e) _, (h.fi.grown hg (ne_or h.ap.mf)).other h.ap.vff _, (h.gr.grown hg (fun k hk => (h.ms.lt hk).1)).setCell h.fbase _, h.fbase, h.mbase, ap⟩, ?_⟩
  · have := b1.set 4 v'
    simpa using this
  · refine Bes.trans (R1 := FinB w0.heap.size fb mb v' va vf) ⟨hg.size, fun b hb hr => ⟨fun h1 => ?_, hg.block b hb (fun e => hr (.inr (.inr (.inr (.inl e.symm)))))⟩⟩ (set_bes (.inr (.inl rfl)) _ _)
    rcases h1 with h1 | h1 | h1 | h1 | h1 | h1
    · exact hr (.inl h1)
    · exact hr (.inr (.inl h1))
    · exact hr (.inr (.inr (.inl h1)))
    · exact hn b hb (fun e => hr (.inr (.inr (.inr (.inl e))))) h1
    · exact hr (.inr (.inr (.inr (.inr (.inl h1)))))
    · exact hr (.inr (.inr (.inr (.inr (.inr h1)))))
/-- an arc more -/
theorem FinO.put_arc (h : FinO N na ncap most fb mb vm va vf w0 w marks kvs arcs first) {v' : Value} {arcs' : List ArcD} (hg : w.grownBy w' va.ownBlock) (ho : OwnR arcK 214 w0.heap.size (fun _ => False) w' v' arcs') (hat : v'.ownBlock = va.ownBlock ∨ v'.ownBlock = some w.heap.size) :
    FinO N na ncap most fb mb vm v' vf w0 (w'.setCell ⟨fb, 5, none⟩ v') marks kvs arcs' first ∧ Bes (FinB w0.heap.size fb mb vm va vf) (FinB w0.heap.size fb mb vm v' vf) w (w'.setCell ⟨fb, 5, none⟩ v') := by
  have hn : ∀ b, b < w.heap.size → va.ownBlock ≠ some b → v'.ownBlock ≠ some b := fun b hb h1 h2 => by
    rcases hat with h3 | h3
    · exact h1 (h3.symm.trans h2)
    · rw [h3] at h2; have := Option.some.inj h2; omega
  have hfb := h.blk.lt
  have hmb := h.map.lt
  have ap : FinA fb mb vm v' vf := ⟨h.ap.fm, h.ap.vmf, h.ap.vmm, hn _ hfb h.ap.vaf, hn _ hmb h.ap.vam, h.ap.vff, h.ap.vfm, fun b h1 h2 => hn b (h.ms.lt h1).2 (h.ap.ma b h1) h2, h.ap.mf, fun b h1 h2 => hn b (h.fi.lt h2).2 (fun e => h.ap.af b e h2) h1⟩
  have b1 : Blk w' fb _ _ := h.blk.grown hg (fun e => h.ap.vaf e.symm)
  have mk1 : OwnR rowK 25 w0.heap.size (fun b => w0.heap.size ≤ b ∧ b ≠ fb ∧ b ≠ mb ∧ v'.ownBlock ≠ some b ∧ vf.ownBlock ≠ some b) w' vm marks := h.ms.kept hg (by
    cases hm : vm.ownBlock with
    | none => exact .inl rfl
    | some b => exact .inr fun e => h.ap.ma b hm e.symm) (fun b hb hs => ⟨⟨hs.1, hs.2.1, hs.2.2.1, hn b hb hs.2.2.2.1, hs.2.2.2.2⟩, fun e => hs.2.2.2.1 e.symm⟩)
  refine ⟨⟨?_, (h.map.grown hg (fun e => h.ap.vam e.symm)).set (fun e => h.ap.fm e.symm) _, mk1.other ap.vmf (fun e => e.2.1 rfl) _, ho.other ap.vaf (fun e => e) _, (h.fi.grown hg (ne_or h.ap.af)).other h.ap.vff _, (h.gr.grown hg (fun k hk => (h.ar.lt hk).1)).setCell h.fbase _, h.fbase, h.mbase, ap⟩, ?_⟩
  · have := b1.set 5 v'
    simpa using this
  · refine Bes.trans (R1 := FinB w0.heap.size fb mb vm v' vf) ⟨hg.size, fun b hb hr => ⟨fun h1 => ?_, hg.block b hb (fun e => hr (.inr (.inr (.inr (.inr (.inl e.symm))))))⟩⟩ (set_bes (.inr (.inl rfl)) _ _)
    rcases h1 with h1 | h1 | h1 | h1 | h1 | h1
    · exact hr (.inl h1)
    · exact hr (.inr (.inl h1))
    · exact hr (.inr (.inr (.inl h1)))
    · exact hr (.inr (.inr (.inr (.inl h1))))
    · exact hn b hb (fun e => hr (.inr (.inr (.inr (.inr (.inl e)))))) h1
    · exact hr (.inr (.inr (.inr (.inr (.inr h1)))))
/-- a first arc more -/
theorem FinO.put_first (h : FinO N na ncap most fb mb vm va vf w0 w marks kvs arcs first) {v' : Value} {first' : List Int} (hg : w.grownBy w' vf.ownBlock) (ho : OwnI 3 w0.heap.size w' v' first') (hat : v'.ownBlock = vf.ownBlock ∨ v'.ownBlock = some w.heap.size) :
    FinO N na ncap most fb mb vm va v' w0 (w'.setCell ⟨fb, 6, none⟩ v') marks kvs arcs first' ∧ Bes (FinB w0.heap.size fb mb vm va vf) (FinB w0.heap.size fb mb vm va v') w (w'.setCell ⟨fb, 6, none⟩ v') := by
  have hn : ∀ b, b < w.heap.size → vf.ownBlock ≠ some b → v'.ownBlock ≠ some b := fun b hb h1 h2 => by
    rcases hat with h3 | h3
    · exact h1 (h3.symm.trans h2)
    · rw [h3] at h2; have := Option.some.inj h2; omega
  have hfb := h.blk.lt
  have hmb := h.map.lt
  have ap : FinA fb mb vm va v' := ⟨h.ap.fm, h.ap.vmf, h.ap.vmm, h.ap.vaf, h.ap.vam, hn _ hfb h.ap.vff, hn _ hmb h.ap.vfm, h.ap.ma, fun b h1 h2 => hn b (h.ms.lt h1).2 (h.ap.mf b h1) h2, fun b h1 h2 => hn b (h.ar.lt h1).2 (h.ap.af b h1) h2⟩
  have b1 : Blk w' fb _ _ := h.blk.grown hg (fun e => h.ap.vff e.symm)
  have mk1 : OwnR rowK 25 w0.heap.size (fun b => w0.heap.size ≤ b ∧ b ≠ fb ∧ b ≠ mb ∧ va.ownBlock ≠ some b ∧ v'.ownBlock ≠ some b) w' vm marks := h.ms.kept hg (by
    cases hm : vm.ownBlock with
    | none => exact .inl rfl
    | some b => exact .inr fun e => h.ap.mf b hm e.symm) (fun b hb hs => ⟨⟨hs.1, hs.2.1, hs.2.2.1, hs.2.2.2.1, hn b hb hs.2.2.2.2⟩, fun e => hs.2.2.2.2 e.symm⟩)
  refine ⟨⟨?_, (h.map.grown hg (fun e => h.ap.vfm e.symm)).set (fun e => h.ap.fm e.symm) _, mk1.other ap.vmf (fun e => e.2.1 rfl) _, (h.ar.kept hg (by
    cases hm : va.ownBlock with
    | none => exact .inl rfl
    | some b => exact .inr fun e => h.ap.af b hm e.symm) (fun b _ hb => hb.elim)).other ap.vaf (fun e => e) _, ho.other ap.vff _, (h.gr.grown hg (fun k hk => (h.fi.lt hk).1)).setCell h.fbase _, h.fbase, h.mbase, ap⟩, ?_⟩
  · have := b1.set 6 v'
    simpa using this
  · refine Bes.trans (R1 := FinB w0.heap.size fb mb vm va v') ⟨hg.size, fun b hb hr => ⟨fun h1 => ?_, hg.block b hb (fun e => hr (.inr (.inr (.inr (.inr (.inr e.symm))))))⟩⟩ (set_bes (.inr (.inl rfl)) _ _)
    rcases h1 with h1 | h1 | h1 | h1 | h1 | h1
    · exact hr (.inl h1)
    · exact hr (.inr (.inl h1))
    · exact hr (.inr (.inr (.inl h1)))
    · exact hr (.inr (.inr (.inr (.inl h1))))
    · exact hr (.inr (.inr (.inr (.inr (.inl h1)))))
    · exact hn b hb (fun e => hr (.inr (.inr (.inr (.inr (.inr e)))))) h1
end
/-- the search's state: s, in the blocks R -/
def FinW (N : NetD) (na : Option Addr) (ncap : Nat) (most : Int) (fb : Nat) (w0 : World) (R : Nat → Prop) (w : World) (s : FinD) : Prop :=
  ∃ mb vm va vf, R = FinB w0.heap.size fb mb vm va vf ∧ FinO N na ncap most fb mb vm va vf w0 w s.marks (keyedM s.marks) s.arcs s.first
end Go.Proofs.Ytkanaoebpajbfaa

/- Contract of the search's look-up of a mark (find). -/
namespace Go.Proofs.Ytkanaoebpajbfaa
open Go.RowKit Go.Tok
open Go.WideMaps (keyOf_string_mk)
set_option linter.unusedVariables false
theorem name_key {m : List Int} (h : m.length ≤ 100) : keyOf Try.prog 9 (.string (nameS m)) = some (.string (nameS m).data.toList) :=
  keyOf_string_mk Try.underlying9 (by rw [nameS_size]; unfold maxLen; omega)
section
variable {N : NetD} {na : Option Addr} {ncap : Nat} {most : Int} {fb mb : Nat} {vm va vf : Value} {w0 w : World} {marks : List (List Int)} {arcs : List ArcD} {first : List Int}
set_option maxHeartbeats 4000000 in
theorem find_old {mv : Value} {m : List Int} {c : Int} (h : FinO N na ncap most fb mb vm va vf w0 w marks (keyedM marks) arcs first) (hm : Ints w mv m) (hr : ∀ x ∈ m, 0 ≤ x ∧ x ≤ 1000000) (hl : m.length ≤ 100) (hin : m ∈ marks) (hc : I64 c) :
    Calls Try.prog 109 #[.pointer (some ⟨fb, 0, none⟩), mv, .int .i64 c] w fun e w' => e = .returned (.tuple #[.int .i64 ((marks.idxOf m : Nat) : Int), .bool true]) ∧ Gr w w' := by
  have c3 := h.blk.cell (i := 3) rfl
  have hk := name_key hl
  have hmem := keyedM_mem hin
  have hmap := h.map
  obtain ⟨n, hn⟩ : ∃ n, n = marks.idxOf m := ⟨_, rfl⟩
  rw [← hn] at hmem ⊢
  have HL : ∀ w', Gr w w' → (Instr.lookup 103 (.map (some mb)) (.string (nameS m)) true).run Try.prog w' = .ok (.tuple #[.int .i64 (n : Int), .bool true]) w' := fun w' g => (hmap.gr g).look_yes_ok nameLaw Try.underlying103 hk hmem
  have HLH := Lib.hid HL
  have l0 := HL w.drew (by (repeat (first | exact Gr.refl _ | assumption | apply Gr.alloc | apply Gr.drew | apply Gr.drewN | refine Gr.trans ?_ (by assumption))))
  clear HL hmap hn hmem hk h
  go_enter Try.func109, Try.ntmps109
  go_wp2_with fail
  go_region_held3 (fun w' => w'.cell? ⟨fb, 3, none⟩ = some (.map (some mb)) ∧ (Instr.lookup 103 (.map (some mb)) (.string (nameS m)) true).run Try.prog w' = .ok (.tuple #[.int .i64 (n : Int), .bool true]) w') (first | go_keep | ((refine ⟨cell_gr c3 ?_, HLH.out _ ?_⟩); ((focus ((repeat (first | exact Gr.refl _ | assumption | apply Gr.alloc | apply Gr.drew | apply Gr.drewN | refine Gr.trans ?_ (by assumption))); done))); ((focus ((repeat (first | exact Gr.refl _ | assumption | apply Gr.alloc | apply Gr.drew | apply Gr.drewN | refine Gr.trans ?_ (by assumption))); done))))) (first | (go_at_call 156; (with_reducible refine (name_calls _ m _ (hm.gr ?_) hr hl).mono ?_); ((focus ((repeat (first | exact Gr.refl _ | assumption | apply Gr.alloc | apply Gr.drew | apply Gr.drewN | refine Gr.trans ?_ (by assumption))); done))); rintro _ w2 ⟨rfl, g2⟩))
  go_wp2_with fail
  go_ret2
  exact ⟨rfl, by (repeat (first | exact Gr.refl _ | assumption | apply Gr.alloc | apply Gr.drew | apply Gr.drewN | refine Gr.trans ?_ (by assumption)))⟩
set_option maxHeartbeats 4000000 in
/-- a mark that is not there, at the end of all room -/
theorem find_full {mv : Value} {m : List Int} {c : Int} (h : FinO N na ncap most fb mb vm va vf w0 w marks (keyedM marks) arcs first) (hm : Ints w mv m) (hr : ∀ x ∈ m, 0 ≤ x ∧ x ≤ 1000000) (hl : m.length ≤ 100) (hin : m ∉ marks) (hms : ∀ y ∈ marks, ∀ x ∈ y, 0 ≤ x ∧ x ≤ 1000000) (hc : I64 c) (hmo : (marks.length : Int) = most) :
    Calls Try.prog 109 #[.pointer (some ⟨fb, 0, none⟩), mv, .int .i64 c] w fun e w' => e = .returned (.tuple #[.int .i64 0, .bool false]) ∧ Gr w w' := by
  have c3 := h.blk.cell (i := 3) rfl
  have c2 := h.blk.cell (i := 2) rfl
  obtain ⟨ma, mc, rfl, _, _⟩ := h.ms.len
  have c4 := h.blk.cell (i := 4) rfl
  have hk := name_key hl
  have hmem := keyedM_not hin hr hms
  have hmap := h.map
  have HL : ∀ w', Gr w w' → (Instr.lookup 103 (.map (some mb)) (.string (nameS m)) true).run Try.prog w' = .ok (.tuple #[.int .i64 0, .bool false]) w' := fun w' g => (hmap.gr g).look_no_ok nameLaw Try.underlying103 zeroInt2 hk hmem
  have HLH := Lib.hid HL
  have l0 := HL w.drew (by (repeat (first | exact Gr.refl _ | assumption | apply Gr.alloc | apply Gr.drew | apply Gr.drewN | refine Gr.trans ?_ (by assumption))))
  have q1 : ((marks.length : Int) == most) = true := by simpa using hmo
  clear HL hmap hmem hk h hmo
  go_enter Try.func109, Try.ntmps109
  go_wp2_with fail
  go_region_held3 (fun w' => w'.cell? ⟨fb, 3, none⟩ = some (.map (some mb)) ∧ (Instr.lookup 103 (.map (some mb)) (.string (nameS m)) true).run Try.prog w' = .ok (.tuple #[.int .i64 0, .bool false]) w') (first | go_keep | ((refine ⟨cell_gr c3 ?_, HLH.out _ ?_⟩); ((focus ((repeat (first | exact Gr.refl _ | assumption | apply Gr.alloc | apply Gr.drew | apply Gr.drewN | refine Gr.trans ?_ (by assumption))); done))); ((focus ((repeat (first | exact Gr.refl _ | assumption | apply Gr.alloc | apply Gr.drew | apply Gr.drewN | refine Gr.trans ?_ (by assumption))); done))))) (first | (go_at_call 156; (with_reducible refine (name_calls _ m _ (hm.gr ?_) hr hl).mono ?_); ((focus ((repeat (first | exact Gr.refl _ | assumption | apply Gr.alloc | apply Gr.drew | apply Gr.drewN | refine Gr.trans ?_ (by assumption))); done))); rintro _ w2 ⟨rfl, g2⟩))
  have G2 : Gr w w2 := by (repeat (first | exact Gr.refl _ | assumption | apply Gr.alloc | apply Gr.drew | apply Gr.drewN | refine Gr.trans ?_ (by assumption)))
  replace c2 := cell_gr c2 G2
  replace c4 := cell_gr c4 G2
  go_wp2_with fail
  go_ret2
  exact ⟨rfl, G2⟩
theorem cell_only {b : Nat} {w w' : World} {a : Addr} {v : Value} (h : w.cell? a = some v) (o : OnlyAt b w w') (hne : a.block ≠ b) : w'.cell? a = some v := by
  rw [World.cell?_of_block (o.2.2.2.2 a.block hne)]; exact h
theorem _root_.Go.Tok.OwnR.len1 {α : Type} {K : Kind α} {e base : Nat} {S : Nat → Prop} {w : World} {v : Value} {xs : List α} {x : α} (h : OwnR K e base S w v (xs ++ [x])) : ∃ a cap, v = .slice a (xs.length + 1) cap := by
  obtain ⟨a, cap, h1, _⟩ := h.len
  exact ⟨a, cap, by rw [h1, List.length_append, List.length_singleton]⟩
theorem _root_.Go.Tok.OwnI.len1 {e base : Nat} {w : World} {v : Value} {xs : List Int} {x : Int} (h : OwnI e base w v (xs ++ [x])) : ∃ a cap, v = .slice a (xs.length + 1) cap := by
  obtain ⟨a, cap, h1, _⟩ := h.ints.len
  exact ⟨a, cap, by rw [h1, List.length_append, List.length_singleton]⟩
theorem on_row {mv : Value} {m : List Int} (h : On (fun b => ¬ FinB w0.heap.size fb mb vm va vf b) (fun w => Ints w mv m) w) : On (fun b => (w0.heap.size ≤ b ∧ b ≠ fb ∧ b ≠ mb ∧ va.ownBlock ≠ some b ∧ vf.ownBlock ≠ some b) ∧ vm.ownBlock ≠ some b) (fun w => rowK.R w [mv] m) w :=
  (h.mono (S' := fun b => (w0.heap.size ≤ b ∧ b ≠ fb ∧ b ≠ mb ∧ va.ownBlock ≠ some b ∧ vf.ownBlock ≠ some b) ∧ vm.ownBlock ≠ some b) fun b _ hb => ⟨⟨Nat.le_of_not_lt fun e => hb (.inl e), fun e => hb (.inr (.inl e)), fun e => hb (.inr (.inr (.inl e))), fun e => hb (.inr (.inr (.inr (.inr (.inl e))))), fun e => hb (.inr (.inr (.inr (.inr (.inr e)))))⟩, fun e => hb (.inr (.inr (.inr (.inl e))))⟩).imp fun w hw => ⟨mv, rfl, hw⟩
theorem one_cell (w : World) (v : Value) (t : TypeId) : ∀ (j : Nat) (u : Value), [v][j]? = some u → (w.alloc (.cells #[v] t)).cell? ((⟨w.heap.size, 0, none⟩ : Addr).add j) = some u := by
  intro j u hj
  cases j with
  | zero => simp at hj; subst hj; rw [add_none]; exact lit_cell rfl
  | succ j => simp at hj
set_option maxHeartbeats 4000000 in
set_option maxRecDepth 100000 in
theorem find_new {mv : Value} {m : List Int} {c : Int} (h : FinO N na ncap most fb mb vm va vf w0 w marks (keyedM marks) arcs first) (hm : On (fun b => ¬ FinB w0.heap.size fb mb vm va vf b) (fun w => Ints w mv m) w) (hr : ∀ x ∈ m, 0 ≤ x ∧ x ≤ 1000000) (hl : m.length ≤ 100) (hin : m ∉ marks) (hms : ∀ y ∈ marks, ∀ x ∈ y, 0 ≤ x ∧ x ≤ 1000000) (hc : I64 c) (hmo : (marks.length : Int) ≠ most) (hml : marks.length ≤ 1000) (hfl : first.length ≤ 1000) :
    Calls Try.prog 109 #[.pointer (some ⟨fb, 0, none⟩), mv, .int .i64 c] w fun e w' => ∃ vm' vf', e = .returned (.tuple #[.int .i64 (marks.length : Int), .bool true]) ∧ FinO N na ncap most fb mb vm' va vf' w0 w' (marks ++ [m]) (keyedM (marks ++ [m])) arcs (first ++ [c]) ∧ Bes (FinB w0.heap.size fb mb vm va vf) (FinB w0.heap.size fb mb vm' va vf') w w' := by
  have c3 := h.blk.cell (i := 3) rfl
  have c2 := h.blk.cell (i := 2) rfl
  obtain ⟨ma, mc, rfl, _, _⟩ := h.ms.len
  have c4 := h.blk.cell (i := 4) rfl
  have hk := name_key hl
  have hmem := keyedM_not hin hr hms
  have hmap := h.map
  have HL : ∀ w', Gr w w' → (Instr.lookup 103 (.map (some mb)) (.string (nameS m)) true).run Try.prog w' = .ok (.tuple #[.int .i64 0, .bool false]) w' := fun w' g => (hmap.gr g).look_no_ok nameLaw Try.underlying103 zeroInt2 hk hmem
  have HLH := Lib.hid HL
  have l0 := HL w.drew (by (repeat (first | exact Gr.refl _ | assumption | apply Gr.alloc | apply Gr.drew | apply Gr.drewN | refine Gr.trans ?_ (by assumption))))
  have q1 : ((marks.length : Int) == most) = false := by simpa using hmo
  have hmn := hm.now
  have HK := Lib.hid hk
  have HM := Lib.hid hmem
  have hfm : fb ≠ mb := h.ap.fm
  clear HL hmap hmem hmo hk
  go_enter Try.func109, Try.ntmps109
  go_wp2_with fail
  go_region_held3 (fun w' => w'.cell? ⟨fb, 3, none⟩ = some (.map (some mb)) ∧ (Instr.lookup 103 (.map (some mb)) (.string (nameS m)) true).run Try.prog w' = .ok (.tuple #[.int .i64 0, .bool false]) w') (first | go_keep | ((refine ⟨cell_gr c3 ?_, HLH.out _ ?_⟩); ((focus ((repeat (first | exact Gr.refl _ | assumption | apply Gr.alloc | apply Gr.drew | apply Gr.drewN | refine Gr.trans ?_ (by assumption))); done))); ((focus ((repeat (first | exact Gr.refl _ | assumption | apply Gr.alloc | apply Gr.drew | apply Gr.drewN | refine Gr.trans ?_ (by assumption))); done))))) (first | (go_at_call 156; (with_reducible refine (name_calls _ m _ (hmn.gr ?_) hr hl).mono ?_); ((focus ((repeat (first | exact Gr.refl _ | assumption | apply Gr.alloc | apply Gr.drew | apply Gr.drewN | refine Gr.trans ?_ (by assumption))); done))); rintro _ w2 ⟨rfl, g2⟩))
  have G2 : Gr w w2 := by (repeat (first | exact Gr.refl _ | assumption | apply Gr.alloc | apply Gr.drew | apply Gr.drewN | refine Gr.trans ?_ (by assumption)))
  replace c2 := cell_gr c2 G2
  replace c3 := cell_gr c3 G2
  replace c4 := cell_gr c4 G2
  replace hmn := hmn.gr G2
  have h2 := h.gr' G2
  replace hm := hm.gr G2
  have hmap := h2.map
  obtain ⟨f, hf⟩ := MAt.store_fn nameLaw Try.underlying103 hmap (.int .i64 (marks.length : Int)) HK.out HM.out
  have HF := Lib.hid hf
  clear l0 HLH g2 hf hmap
  go_wp2_with fail
  go_region_held3 (fun w' => w'.cell? ⟨fb, 3, none⟩ = some (.map (some mb))) (first | go_keep | ((refine cell_gr c3 ?_); ((focus ((repeat (first | exact Gr.refl _ | assumption | apply Gr.alloc | apply Gr.drew | apply Gr.drewN | refine Gr.trans ?_ (by assumption))); done)))) | ((refine cell_only (cell_gr c3 ?_) o4 hfm); ((focus ((repeat (first | exact Gr.refl _ | assumption | apply Gr.alloc | apply Gr.drew | apply Gr.drewN | refine Gr.trans ?_ (by assumption))); done))))) (first | (go_at_call 156; (with_reducible refine (name_calls _ m _ (hmn.gr ?_) hr hl).mono ?_); ((focus ((repeat (first | exact Gr.refl _ | assumption | apply Gr.alloc | apply Gr.drew | apply Gr.drewN | refine Gr.trans ?_ (by assumption))); done))); rintro _ w3 ⟨rfl, g3⟩; have r4 := (HF.out _ ((Gr.refl _).drew.trans g3)).1; have o4 := (HF.out _ ((Gr.refl _).drew.trans g3)).2.1))
  have m4 := (HF.out _ ((Gr.refl _).drew.trans g3)).2.2
  have G3 : Gr w2 w3 := by (repeat (first | exact Gr.refl _ | assumption | apply Gr.alloc | apply Gr.drew | apply Gr.drewN | refine Gr.trans ?_ (by assumption)))
  have h4 := (h2.gr' G3).put_map o4 m4
  have bs4 := (h2.gr' G3).put_map_bes o4
  have hm4 := (hm.gr G3).bes bs4
  have b24 : Bes (FinB w0.heap.size fb mb (.slice ma marks.length mc) va vf) (FinB w0.heap.size fb mb (.slice ma marks.length mc) va vf) w (f w3) := ((G2.trans G3).bes).trans bs4
  clear o4 m4 r4 bs4 hm h2 HF g3
  generalize f w3 = w4 at h4 hm4 b24 ⊢
  have c5 := h4.blk.cell (i := 4) rfl
  have hrow := on_row hm4
  have GA : Gr w4 (w4.alloc (.cells #[mv] 25)) := (Gr.refl _).alloc _
  have h4a := h4.gr' GA
  obtain ⟨mva, mvc, rfl, _, _⟩ := hmn.len
  go_upto_region 9 with (at_builtin; refine app_one rowTy _ _ w0.heap.size _ (.slice ma marks.length mc) marks ⟨w4.heap.size, 0, none⟩ m [.slice mva m.length mvc] (by rfl) (by rfl) (by rfl) (by rfl) h4a.ms (one_cell _ _ _) (hrow.gr GA) (by omega) (by unfold maxLen; omega) h4a.gr.le ?_; intro v' w5 ho hgs hgb hat; obtain ⟨a5, n5, rfl⟩ := ho.len1; have bk5 : Blk w5 fb _ _ := h4a.blk.grown hgb (fun e => h4a.ap.vmf e.symm); have f5 := bk5.frozen 4; have d5 := bk5.cell (i := 4) rfl)
  obtain ⟨h5, bs5⟩ := h4a.put_mark hgb ho hat
  have b25 := (b24.trans GA.bes).trans bs5
  clear hgs hgb hat bk5 f5 d5 ho bs5 b24 h4 h4a hrow
  generalize (w5.setCell ⟨fb, 4, none⟩ _) = w6 at h5 b25 ⊢
  have c6 := h5.blk.cell (i := 6) rfl
  obtain ⟨fa, fc, rfl, _, _⟩ := h5.fi.ints.len
  have T := intTy
  have h6a := h5.gr' ((Gr.refl _).alloc (.cells #[.int .i64 c] 3))
  go_upto_region 10 with (at_builtin; refine app_int T _ _ w0.heap.size (.slice fa first.length fc) first ⟨w6.heap.size, 0, none⟩ c (by rfl) (by rfl) (by rfl) (by rfl) h6a.fi (lit_cell rfl) hc (by omega) h6a.gr.le ?_; intro v' w7 ho hgs hgb hat; obtain ⟨a7, n7, rfl⟩ := ho.len1; have bk7 : Blk w7 fb _ _ := h6a.blk.grown hgb (fun e => h6a.ap.vff e.symm); have f7 := bk7.frozen 6; have d7 := bk7.cell (i := 6) rfl)
  obtain ⟨h7, bs7⟩ := h6a.put_first hgb ho hat
  have b27 := (b25.trans ((Gr.refl _).alloc _).bes).trans bs7
  clear hgs hgb hat bk7 f7 d7 ho bs7 b25 h6a h5
  generalize (w7.setCell ⟨fb, 6, none⟩ _) = w8 at h7 b27 ⊢
  go_wp2_with fail
  go_ret2
  refine ⟨_, _, rfl, ?_, b27⟩
  rw [keyedM_snoc]
  exact h7
end
end Go.Proofs.Ytkanaoebpajbfaa
