/- Contracts of tracks.Wrong, of the sets' add, of the two orders, and of the sets' rows. -/
import Derived.Test.YtkanaoebpajbfaaTracksLaw
import Derived.Test.YtkanaoebpajbfaaRngM
import Derived.Test.YtkanaoebpajbfaaFnInt
import Derived.Test.YtkanaoebpajbfaaGM
import Derived.Test.YtkanaoebpajbfaaCmpI
import Derived.WideKeyEntry
namespace Go.Tok
open Go.RowKit
set_option linter.unusedVariables false
/-- block b is a map whose keys are the elements l, each once, with nothing at them -/
def SetAt {α : Type} (P : Program) (k : TypeId) (enc : α → Value) (w : World) (b : Nat) (l : List α) : Prop := MAt P k w b (l.map fun x => (enc x, .agg #[]))
section
variable {α : Type} {P : Program} {k : TypeId} {enc : α → Value} {w w' : World} {b : Nat} {l : List α}
theorem SetAt.new (w : World) : SetAt P k enc (w.alloc (.map #[] 0)) w.heap.size ([] : List α) := by
  have := MAt.new (P := P) (k := k) w
  exact this
theorem SetAt.lt (h : SetAt P k enc w b l) : b < w.heap.size := MAt.lt h
theorem SetAt.gr (h : SetAt P k enc w b l) (g : Gr w w') : SetAt P k enc w' b l := MAt.gr h g
theorem SetAt.grown {row : Option Nat} (h : SetAt P k enc w b l) (g : w.grownBy w' row) (hne : some b ≠ row) : SetAt P k enc w' b l := MAt.grown h g hne
theorem SetAt.nodup (h : SetAt P k enc w b l) : l.Nodup := by
  have := MAt.nodup h
  rw [List.map_map] at this
  exact (List.pairwise_map.1 this).imp fun h e => h (by rw [e])
theorem putAt_same : ∀ (kvs : List (Value × Value)) (j : Nat) (v : Value), (∀ x ∈ kvs, x.2 = v) → putAt kvs j v = kvs := by
  intro kvs j v h
  unfold putAt
  apply List.ext_getElem?
  intro i
  rw [List.getElem?_modify]
  cases e : kvs[i]? with
  | none => rfl
  | some x =>
    have := h x (List.mem_of_getElem? e)
    by_cases hji : j = i
    · subst hji
      simp [← this]
    · simp [hji]
/-- 'm[x] = struct{}{}' -/
theorem SetAt.add [DecidableEq α] {t e : TypeId} (K : Go.Maps.Keyed P k) (ht : P.underlying t = some (.map k e)) (inj : ∀ x y, enc x = enc y → x = y) (h : SetAt P k enc w b l) (x : α) {kl : Lit} (hk : keyOf P k (enc x) = some kl) :
    ∃ w', (Instr.mapUpdate t (.map (some b)) (enc x) (.agg #[])).run P w = .ok () w' ∧ OnlyAt b w w' ∧ SetAt P k enc w' b (ins l x) := by
  by_cases hx : x ∈ l
  · obtain ⟨w', j, h1, h2, h3, h4⟩ := MAt.store_old K ht h (.agg #[]) hk (List.mem_map.2 ⟨x, hx, rfl⟩)
    refine ⟨w', h1, h2, ?_⟩
    rw [ins_yes hx]
    rw [putAt_same _ _ _ (fun y hy => by obtain ⟨z, _, rfl⟩ := List.mem_map.1 hy; rfl)] at h4
    exact h4
  · obtain ⟨w', h1, h2, h3⟩ := MAt.store_new K ht h (.agg #[]) hk (fun y hy e => by
      obtain ⟨z, hz, rfl⟩ := List.mem_map.1 hy
      exact hx (inj _ _ e ▸ hz))
    refine ⟨w', h1, h2, ?_⟩
    rw [ins_no hx]
    unfold SetAt
    rw [List.map_append]; exact h3
end
attribute [irreducible] SetAt
end Go.Tok
namespace Go.Proofs.Ytkanaoebpajbfaa
open Go.RowKit Go.Tok
open Go.WideMaps (KeyLaw)
open Go.WideElems
set_option linter.unusedVariables false

/-! ### keys -/
theorem intKeyed : Go.Maps.Keyed Try.prog 3 := Go.Maps.int_keyed Try.underlying3
theorem int_key {x : Int} (h : I64 x) : ∃ l, keyOf Try.prog 3 (.int .i64 x) = some l := by
  have hw : (Lit.int .i64 x).wf = true := by
    unfold I64 at h
    simp [Lit.wf, IntKind.min, IntKind.max, IntKind.bits, IntKind.signed]
    omega
  exact ⟨.int .i64 x, by simp [keyOf, Try.underlying3, mapKey, hw]⟩
set_option maxRecDepth 100000 in
theorem pairLaidOut : laidOutB Try.prog = true := by kernel_rfl
set_option maxRecDepth 100000 in
theorem pairRow : 71 < Try.prog.types.size := of_decide_eq_true (by kernel_rfl)
set_option maxRecDepth 100000 in
theorem pairWide : (match Try.prog.underlying 71 with | some (.array _ _) | some (.struct _) => true | _ => false) = true := by kernel_rfl
set_option maxRecDepth 100000 in
theorem pairKeyed : Go.Maps.Keyed Try.prog 71 := Go.Maps.Keyed.of_law (deep_law_laid pairLaidOut (m := 2) (by omega) pairRow (by kernel_rfl) pairWide)
theorem key_arr2 {P : Program} {k e : TypeId} (hk : P.underlying k = some (.array 2 e)) (he : P.underlying e = some (.int .i64)) (ce : P.cellsOf e = 1) (ck : P.cellsOf k = 2) (hkt : P.keyType k = true) (m : Nat) (hsz : P.types.size = m + 1) (x y : Int) (hx : (Lit.int .i64 x).wf = true) (hy : (Lit.int .i64 y).wf = true) :
    ∃ l, keyOf P k (.agg #[.int .i64 x, .int .i64 y]) = some l := by
  have hf : (Value.agg #[.int .i64 x, .int .i64 y]).formed P k = true := by simp [Value.formed, hk, ck]
  have hl : P.keyLits (P.types.size + 1) k (Value.agg #[.int .i64 x, .int .i64 y]).cells.toList = some [.int .i64 x, .int .i64 y] := by
    rw [hsz]
    unfold Program.keyLits
    rw [hk]
    simp only [Value.cells, List.length_cons, List.length_nil, ck, ce]
    simp [Program.keyLits, he, hx, hy, List.range_succ]
  have : keyOf P k (Value.agg #[.int .i64 x, .int .i64 y]) = some (.string (keyBytes [.int .i64 x, .int .i64 y])) := by
    unfold keyOf
    rw [hk]
    simp [hkt, hf, hl]
  exact ⟨_, this⟩
def pairV (p : Int × Int) : Value := .agg #[.int .i64 p.1, .int .i64 p.2]
theorem pairV_inj (x y : Int × Int) (h : pairV x = pairV y) : x = y := by
  simp only [pairV, Value.agg.injEq, Array.mk.injEq, List.cons.injEq, Value.int.injEq, true_and, and_true] at h
  exact Prod.ext h.1 h.2
theorem intV_inj (x y : Int) (h : Value.int .i64 x = Value.int .i64 y) : x = y := by simpa using h
theorem wf_i64 {x : Int} (h : I64 x) : (Lit.int .i64 x).wf = true := by
  unfold I64 at h
  simp [Lit.wf, IntKind.min, IntKind.max, IntKind.bits, IntKind.signed]
  omega
set_option maxRecDepth 100000 in
theorem pair_key (p : Int × Int) (h1 : I64 p.1) (h2 : I64 p.2) : ∃ l, keyOf Try.prog 71 (pairV p) = some l :=
  key_arr2 Try.underlying71 Try.underlying3 (by kernel_rfl) (by kernel_rfl) (by kernel_rfl) (Try.prog.types.size - 1) (by kernel_rfl) p.1 p.2 (wf_i64 h1) (wf_i64 h2)
abbrev ISet (w : World) (b : Nat) (l : List Int) : Prop := SetAt Try.prog 3 (Value.int .i64) w b l
abbrev PSet (w : World) (b : Nat) (l : List (Int × Int)) : Prop := SetAt Try.prog 71 pairV w b l

set_option maxHeartbeats 1000000 in
theorem addI_calls (b : Nat) (l : List Int) (x : Int) (w : World) (h : ISet w b l) (hx : I64 x) :
    Calls Try.prog 80 #[.map (some b), .int .i64 x] w fun e w' => e = .returned (.tuple #[]) ∧ w.grownBy w' (some b) ∧ ISet w' b (ins l x) := by
  obtain ⟨kl, hk⟩ := int_key hx
  obtain ⟨w2, hrun, h1, h2⟩ := SetAt.add (t := 141) intKeyed Try.underlying141 intV_inj h x hk
  clear hk h
  go_enter Try.func80, Try.ntmps80
  go_wp2_with fail
  refine bodyPost_end (results_none rfl _ _ _) rfl ?_
  exact ⟨rfl, h1.grown, h2⟩
set_option maxRecDepth 100000 in
set_option maxHeartbeats 1000000 in
theorem addP_calls (b : Nat) (l : List (Int × Int)) (p : Int × Int) (w : World) (h : PSet w b l) (h1 : I64 p.1) (h2 : I64 p.2) :
    Calls Try.prog 81 #[.map (some b), .agg #[.int .i64 p.1, .int .i64 p.2]] w fun e w' => e = .returned (.tuple #[]) ∧ w.grownBy w' (some b) ∧ PSet w' b (ins l p) := by
  obtain ⟨kl, hk⟩ := pair_key p h1 h2
  have ga : Gr w (w.alloc (.cells #[.int .i64 p.1, .int .i64 p.2] 71)) := (Gr.refl _).alloc _
  have hlt := h.lt
  obtain ⟨w2, hrun, h1, h2⟩ := SetAt.add (t := 143) pairKeyed Try.underlying143 pairV_inj (h.gr ga) p hk
  unfold pairV at hrun
  have hg : w.grownBy w2 (some b) := by
    refine ⟨h1.1, h1.2.1, h1.2.2.1, by rw [h1.2.2.2.1]; simp, fun k hk hne => ?_⟩
    rw [h1.2.2.2.2 k (fun e => hne (by rw [e]))]
    exact ga.below.block k hk
  clear hk h ga
  go_enter Try.func81, Try.ntmps81
  go_wp2_with fail
  refine bodyPost_end (results_none rfl _ _ _) rfl ?_
  exact ⟨rfl, hg, h2⟩

/-! ### what is wrong with a log -/
theorem wrong1_calls (x : Int) (hx : I64 x) (w : World) : Calls Try.prog 135 #[.int .i64 x] w fun e w' => e = .returned (.bool (decide (x < 1) || decide (26 < x))) ∧ Gr w w' := by
  go_enter Try.func135, Try.ntmps135
  by_cases h1 : x < 1
  · have e1 : decide (x < 1) = true := by simpa using h1
    go_wp2
    go_ret
    exact ⟨ret_bool (by rw [e1]; rfl), Gr.refl _⟩
  · have e1 : decide (x < 1) = false := by simpa using h1
    go_wp2
    go_ret
    exact ⟨ret_bool (by simp), Gr.refl _⟩
def NoBad (log : List (List Int)) (k : Nat) : Prop := ∀ i, i < k → traceBad (ix log i) = false
theorem NoBad.zero (log : List (List Int)) : NoBad log 0 := fun i hi => by omega
theorem NoBad.succ {log : List (List Int)} {k : Nat} (h : NoBad log k) (hk : traceBad (ix log k) = false) : NoBad log (k + 1) := fun i hi => by
  rcases Nat.lt_or_ge i k with h1 | h1
  · exact h i h1
  · obtain rfl : i = k := by omega
    exact hk
theorem NoBad.all {log : List (List Int)} (h : NoBad log log.length) : log.any traceBad = false := by
  rw [List.any_eq_false]
  intro t ht
  obtain ⟨i, hi, rfl⟩ := List.getElem_of_mem ht
  have := h i hi
  rw [ix_lt hi] at this
  simp [this]
theorem bad_any {log : List (List Int)} {k : Nat} (hk : k < log.length) (h : traceBad (ix log k) = true) : log.any traceBad = true := List.any_eq_true.2 ⟨_, ix_mem hk, h⟩
attribute [irreducible] NoBad
set_option maxHeartbeats 2000000 in
theorem TWrong_calls (v : Value) (log : List (List Int)) (w : World) (hv : Rd rowK w v log) :
    Calls Try.prog 79 #[v] w fun e w' => e = .returned (.int .i64 (wrongT log)) ∧ Gr w w' := by
  obtain ⟨a, cap, rfl, hlc, hcap⟩ := hv.len
  by_cases h60 : 60 < log.length
  · have HC := Lib.hid (show wrongT log = 4 by unfold wrongT; rw [if_pos h60])
    have e1 : decide ((60 : Int) < (log.length : Int)) = true := by simp; omega
    have e2 : (60 : Int) < (log.length : Int) := by omega
    go_enter Try.func79, Try.ntmps79
    go_wp2
    go_ret
    exact ⟨ret_i64 HC.out.symm, Gr.refl _⟩
  · have H60 := Lib.hid h60
    have e1 : decide ((60 : Int) < (log.length : Int)) = false := by simp; omega
    have e2 : ¬ (60 : Int) < (log.length : Int) := by omega
    clear h60
    go_enter Try.func79, Try.ntmps79
    go_wp2_with fail
    go_loopw [10] (fun i wr => ∃ k : Nat, k ≤ log.length ∧ i = .int .i64 k ∧ NoBad log k ∧ Gr w wr) (fun i _ => log.length - (intOf i).toNat)
    case atStart => exact ⟨0, Nat.zero_le _, rfl, NoBad.zero _, Gr.refl _⟩
    case round =>
      rename_i wr _
      obtain ⟨k, hk, rfl, hall, hgr⟩ := hrel
      by_cases hlt : k < log.length
      · obtain ⟨b, o, u, rfl, c0, hI⟩ := (hv.gr hgr).row hlt
        obtain ⟨ua, uc, rfl, hul, huc⟩ := hI.len
        by_cases hl : 60 < (ix log k).length
        · have HC := Lib.hid (show wrongT log = 2 by unfold wrongT; rw [if_neg H60.out, if_pos (bad_any hlt (by unfold traceBad; simp [hl]))])
          have e3 : (60 : Int) < ((ix log k).length : Int) := by omega
          have e4 : decide ((60 : Int) < ((ix log k).length : Int)) = true := by simp; omega
          go_wp2
          go_ret
          exact ⟨ret_i64 HC.out.symm, hgr⟩
        · have e3 : ¬ (60 : Int) < ((ix log k).length : Int) := by omega
          have e4 : decide ((60 : Int) < ((ix log k).length : Int)) = false := by simp; omega
          have hans : AnswersI Try.prog 135 #[] (ix log k) (fun x => decide (x < 1) || decide (26 < x)) wr := fun W x _ _ hx => wrong1_calls x hx W
          cases hb : (ix log k).any (fun x => decide (x < 1) || decide (26 < x))
          · have HN := Lib.hid (hall.succ (show traceBad (ix log k) = false by unfold traceBad; rw [hb]; simp [hl]))
            clear hall hl
            go_wp2_with fail
            refine (ContainsFuncI_calls _ (ix log k) _ _ _ _ (Go.Proofs.enters_of Try.func135 (by kernel_rfl) rfl) hI hans).mono ?_
            rw [hb]; rintro _ w2 ⟨rfl, g2⟩
            go_wp2_with fail
            go_roundw
            case rel => exact ⟨k + 1, by omega, by go_num, HN.out, hgr.trans g2⟩
            case measure => simp [intOf]; omega
          · have HC := Lib.hid (show wrongT log = 2 by unfold wrongT; rw [if_neg H60.out, if_pos (bad_any hlt (by unfold traceBad; rw [hb]; simp))])
            clear hall hl
            go_wp2_with fail
            refine (ContainsFuncI_calls _ (ix log k) _ _ _ _ (Go.Proofs.enters_of Try.func135 (by kernel_rfl) rfl) hI hans).mono ?_
            rw [hb]; rintro _ w2 ⟨rfl, g2⟩
            go_wp2_with fail
            go_ret
            exact ⟨ret_i64 HC.out.symm, hgr.trans g2⟩
      · obtain rfl : k = log.length := by omega
        have HC := Lib.hid (show wrongT log = 0 by unfold wrongT; rw [if_neg H60.out, hall.all]; rfl)
        go_wp2
        go_ret
        exact ⟨ret_i64 HC.out.symm, hgr⟩

/-! ### the two orders -/
theorem number_calls (x y : Int) (hx : 0 ≤ x ∧ x ≤ 1000000) (hy : 0 ≤ y ∧ y ≤ 1000000) (w : World) : Calls Try.prog 83 #[.int .i64 x, .int .i64 y] w fun e w' => e = .returned (.int .i64 (x - y)) ∧ w = w' := by
  have hw := IntWalk.i64_in (x - y) (by omega)
  go_enter Try.func83, Try.ntmps83
  go_wp2
  go_ret
  exact ⟨rfl, rfl⟩
set_option maxHeartbeats 1000000 in
theorem pair_calls (a b : Int × Int) (ha : I64 a.1 ∧ I64 a.2) (hb : I64 b.1 ∧ I64 b.2) (w : World) :
    Calls Try.prog 85 #[.agg #[.int .i64 a.1, .int .i64 a.2], .agg #[.int .i64 b.1, .int .i64 b.2]] w fun e w' => e = .returned (.int .i64 (lexC [a.1, a.2] [b.1, b.2])) ∧ ∃ q, w' = ((w.alloc (.cells #[.int .i64 a.1, .int .i64 a.2] 71)).alloc (.cells #[.int .i64 b.1, .int .i64 b.2] 71)).drewN q := by
  have hlit : ∀ (u : World) (H : Nat) (p : Int × Int), I64 p.1 ∧ I64 p.2 → u.heap.size = H → Ints (u.alloc (.cells #[.int .i64 p.1, .int .i64 p.2] 71)) (.slice (some ⟨H, 0, none⟩) 2 2) [p.1, p.2] := fun u H p hp hH => by
    refine Ints.lit hH rfl rfl rfl ?_ (by simp)
    intro x hx
    simp at hx
    rcases hx with rfl | rfl
    · exact hp.1
    · exact hp.2
  have i1 := (hlit w _ a ha rfl).alloc (.cells #[.int .i64 b.1, .int .i64 b.2] 71)
  have i2 := hlit (w.alloc (.cells #[.int .i64 a.1, .int .i64 a.2] 71)) (w.heap.size + 1) b hb (by simp)
  go_enter Try.func85, Try.ntmps85
  go_wp2_with fail
  go_quiet ((go_at_call 34; exact Calls.quiet_of_same (same_quiet (SCompare_calls _ _ [a.1, a.2] [b.1, b.2] _ (i1.gr ((Gr.refl _).drewN _)) (i2.gr ((Gr.refl _).drewN _))))))
  go_wp2_with fail
  go_ret
  exact ⟨rfl, _, rfl⟩
end Go.Proofs.Ytkanaoebpajbfaa
