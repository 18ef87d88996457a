/- What the library's variables hold; contracts of strconv.Atoi, strings.Cut as text uses them, and of text.weights. -/
import Derived.Test.YtiflolklgmmgeaaDoorText1
import Derived.WalkSmall
import Derived.Lib.SmallJoins
namespace Go.Tok
open Go.RowKit
set_option linter.unusedVariables false
theorem weightsL_stop {P : Nat} {f : List UInt8} {out : List Int} : ∀ {a r : List (List UInt8)} {o : List Int}, weightsL P a o = some out → weightS P f out = none → weightsL P (a ++ f :: r) o = none
  | [], r, o, h, hf => by
    cases h
    rw [List.nil_append, weightsL, hf]; rfl
  | g :: a, r, o, h, hf => by
    unfold weightsL at h
    replace h := Option.bind_eq_some_iff.1 h
    obtain ⟨x, e1, h⟩ := h
    rw [List.cons_append, weightsL, e1]
    exact weightsL_stop h hf
theorem weightsL_more {P : Nat} {f : List UInt8} {out out' : List Int} : ∀ {a : List (List UInt8)} {o : List Int}, weightsL P a o = some out → weightS P f out = some out' → weightsL P (a ++ [f]) o = some out'
  | [], o, h, hf => by
    cases h
    rw [List.nil_append, weightsL, hf]; rfl
  | g :: a, o, h, hf => by
    unfold weightsL at h
    replace h := Option.bind_eq_some_iff.1 h
    obtain ⟨x, e1, h⟩ := h
    rw [List.cons_append, weightsL, e1]
    exact weightsL_more h hf
def manyF (f : List UInt8) : List UInt8 := if (Lib.cut f [42]).2.2 then (Lib.cut f [42]).1 else [49]
def atF (f : List UInt8) : List UInt8 := if (Lib.cut f [42]).2.2 then (Lib.cut f [42]).2.1 else f
theorem word_ok {f : List UInt8} {n p : Int} (h1 : Lib.atoiAll (manyF f) = .ok n) (h2 : Lib.atoiAll (atF f) = .ok p) : wordF f = some (n, p) := by
  unfold manyF at h1
  unfold atF at h2
  unfold wordF
  rw [h1, h2]
theorem word_no1 {f : List UInt8} (h1 : ∀ n, Lib.atoiAll (manyF f) ≠ .ok n) : wordF f = none := by
  unfold manyF at h1
  unfold wordF
  split
  · rename_i e _
    exact absurd e (h1 _)
  · rfl
theorem word_no2 {f : List UInt8} (h1 : ∀ n, Lib.atoiAll (atF f) ≠ .ok n) : wordF f = none := by
  unfold atF at h1
  unfold wordF
  split
  · rename_i _ e
    exact absurd e (h1 _)
  · rfl
theorem weight_none {P : Nat} {f : List UInt8} {out : List Int} (h : wordF f = none) : weightS P f out = none := by unfold weightS; rw [h]; rfl
theorem weight_bad {P : Nat} {f : List UInt8} {out : List Int} {n p : Int} (h : wordF f = some (n, p)) (hc : ¬ (0 ≤ p ∧ p < P ∧ 1 ≤ n ∧ n ≤ 9)) : weightS P f out = none := by
  unfold weightS; rw [h]; simp only [Option.bind_some]; rw [if_neg hc]
theorem weight_good {P : Nat} {f : List UInt8} {out : List Int} {n p : Int} (h : wordF f = some (n, p)) (hc : 0 ≤ p ∧ p < P ∧ 1 ≤ n ∧ n ≤ 9) : weightS P f out = some (out.set p.toNat n) := by
  unfold weightS; rw [h]; simp only [Option.bind_some]; rw [if_pos hc]
theorem cut_len (s sep : List UInt8) : (Lib.cut s sep).1.length ≤ s.length ∧ (Lib.cut s sep).2.1.length ≤ s.length := by
  unfold Lib.cut
  split
  · simp only [List.length_take, List.length_drop]; omega
  · simp
theorem fieldsGo_len : ∀ (n : Nat) (cur l : List UInt8), (∀ f ∈ Lib.fieldsGoD n cur l, f.length ≤ cur.length + l.length) ∧ (Lib.fieldsGoD n cur l).length ≤ n + 1
  | 0, cur, l => by
    rw [Lib.fieldsGoD]
    split
    · exact ⟨fun f hf => (by cases hf), by simp⟩
    · exact ⟨fun f hf => by rw [List.mem_singleton.1 hf]; omega, by simp⟩
  | n + 1, cur, l => by
    rw [Lib.fieldsGoD]
    split
    · split
      · exact ⟨fun f hf => (by cases hf), by simp⟩
      · exact ⟨fun f hf => by rw [List.mem_singleton.1 hf]; omega, by simp⟩
    · split
      · obtain ⟨h1, h2⟩ := fieldsGo_len n [] (l.drop (Lib.decodeL l).2)
        refine ⟨fun f hf => ?_, ?_⟩
        · rcases List.mem_append.1 hf with hf | hf
          · split at hf
            · cases hf
            · rw [List.mem_singleton.1 hf]; omega
          · have := h1 f hf
            rw [List.length_drop] at this
            simp at this; omega
        · rw [List.length_append]
          split
          · simp; omega
          · simp; omega
      · obtain ⟨h1, h2⟩ := fieldsGo_len n (cur ++ l.take (Lib.decodeL l).2) (l.drop (Lib.decodeL l).2)
        refine ⟨fun f hf => ?_, by omega⟩
        have := h1 f hf
        rw [List.length_append, List.length_take, List.length_drop] at this
        omega
theorem fields_len (l : List UInt8) : (∀ f ∈ Lib.fieldsD l, f.length ≤ l.length) ∧ (Lib.fieldsD l).length ≤ l.length + 2 := by
  obtain ⟨h1, h2⟩ := fieldsGo_len (l.length + 1) [] l
  unfold Lib.fieldsD
  exact ⟨fun f hf => by have := h1 f hf; simpa using this, by omega⟩
end Go.Tok
namespace Go.Proofs.YtiflolklgmmgeaaDoor
open Go.RowKit Go.Tok
set_option linter.unusedVariables false
/-- what the library's variables hold -/
structure TabW (w : World) : Prop where
  mx : ∃ m, w.cell? ⟨0, 0, none⟩ = some (.int .i64 m)
  sp : Lib.TabIs Tryd.prog w "strings.asciiSpace" .u8 Lib.asciiSpaceTab
  wh : Lib.WhiteTab 5 w
  se : ∃ tp p, w.var? Tryd.prog "strconv.ErrSyntax" = some #[.iface tp p]
  re : ∃ tp p, w.var? Tryd.prog "strconv.ErrRange" = some #[.iface tp p]
theorem var_gr {w w' : World} {n : String} {g : Nat} {tp : TypeId} {p : Value} (hg : Tryd.prog.globalNamed n = some g) (h : w.var? Tryd.prog n = some #[.iface tp p]) (k : Gr w w') : w'.var? Tryd.prog n = some #[.iface tp p] := by
  have hc := World.var?_cell hg h 0
  exact var?_below k.below hg (cell_block (a := ⟨g, 0, none⟩) (by simpa using hc)) h
theorem TabW.gr {w w' : World} (h : TabW w) (g : Gr w w') : TabW w' := by
  obtain ⟨m, hm⟩ := h.mx
  obtain ⟨t1, p1, h1⟩ := h.se
  obtain ⟨t2, p2, h2⟩ := h.re
  exact ⟨⟨m, cell_gr hm g⟩, Joins.tab_stays (g := 3) (by kernel_rfl) h.sp g.below (Nat.le_refl _), WhiteTab_below h.wh g.below, ⟨t1, p1, var_gr (g := 1) (by kernel_rfl) h1 g⟩, ⟨t2, p2, var_gr (g := 2) (by kernel_rfl) h2 g⟩⟩
theorem gr_of {w w' : World} (h : Below w.heap.size w w') : Gr w w' := by unfold Gr; exact h
theorem gr_bytes (w : World) (t : TypeId) (s : ByteArray) : Gr w (Lib.bytesWorld w t s) := gr_of ⟨rfl, rfl, rfl, by rw [Lib.bytesWorld_size]; omega, fun j hj => Lib.bytesWorld_at_old w t s j hj⟩
theorem Atoi_ok (l : List UInt8) (hl : l.length ≤ 1000000000) (n : Int) (h : Lib.atoiAll l = .ok n) (w : World) : Calls Tryd.prog 16 #[.string (strB l)] w fun e w' => e = .returned (.tuple #[.int .i64 n, .nilIface]) ∧ Gr w w' := by
  refine (Tryd.strconv_Atoi_ok (strB l) (by rw [strB_size]; omega) n h w).mono ?_
  rintro e w' ⟨rfl, rfl | ⟨t, rfl⟩⟩
  · exact ⟨rfl, Gr.refl _⟩
  · exact ⟨rfl, gr_bytes _ _ _⟩
theorem Atoi_no (l : List UInt8) (hl : l.length ≤ 1000000000) (h : ∀ n, Lib.atoiAll l ≠ .ok n) (w : World) (hT : TabW w) : Calls Tryd.prog 16 #[.string (strB l)] w fun e w' => ∃ n N, e = .returned (.tuple #[.int .i64 n, .iface 81 (.pointer (some ⟨N, 0, none⟩))]) ∧ Gr w w' := by
  rcases hc : Lib.atoiAll l with n | _ | _
  · exact absurd hc (h n)
  · obtain ⟨tp, p, hv⟩ := hT.se
    refine (Tryd.strconv_Atoi_syntax_var (strB l) (by rw [strB_size]; omega) h (fun e => by have e' : Lib.atoiAll l = .range := e; rw [hc] at e'; cases e') tp p w hv).mono ?_
    rintro e w' ⟨N, rfl, _, _, hb⟩
    exact ⟨_, N, rfl, gr_of hb⟩
  · obtain ⟨tp, p, hv⟩ := hT.re
    refine (Tryd.strconv_Atoi_range_var (strB l) (by rw [strB_size]; omega) hc tp p w hv).mono ?_
    rintro e w' ⟨N, rfl, _, _, hb⟩
    exact ⟨_, N, rfl, gr_of hb⟩
theorem Atoi_any (l : List UInt8) (hl : l.length ≤ 1000000000) (w : World) (hT : TabW w) : Calls Tryd.prog 16 #[.string (strB l)] w fun e w' => ∃ n ev, e = .returned (.tuple #[.int .i64 n, ev]) ∧ Gr w w' := by
  by_cases h : ∃ n, Lib.atoiAll l = .ok n
  · obtain ⟨n, hn⟩ := h
    refine (Atoi_ok l hl n hn w).mono ?_
    rintro e w' ⟨rfl, g⟩
    exact ⟨n, _, rfl, g⟩
  · refine (Atoi_no l hl (fun n hn => h ⟨n, hn⟩) w hT).mono ?_
    rintro e w' ⟨n, N, rfl, g⟩
    exact ⟨n, _, rfl, g⟩
theorem Cut_calls (l sep : List UInt8) (hl : l.length ≤ 1000000000) (w : World) (hT : TabW w) : Calls Tryd.prog 38 #[.string (strB l), .string (strB sep)] w fun e w' => e = .returned (.tuple #[.string (strB (Lib.cut l sep).1), .string (strB (Lib.cut l sep).2.1), .bool (Lib.cut l sep).2.2]) ∧ Gr w w' := by
  obtain ⟨m, hm⟩ := hT.mx
  refine (Tryd.strings_Cut (strB l) (strB sep) m w (by rw [strB_size]; omega) hm).mono ?_
  rintro e w' ⟨rfl, n, rfl⟩
  exact ⟨rfl, (Gr.refl _).drewN n⟩
/-- a row of strings -/
def StrsAt (w : World) (A : Nat) (fs : List (List UInt8)) : Prop := ∀ i, i < fs.length → w.cell? ⟨A, i, none⟩ = some (.string (strB (fs.getD i [])))
theorem StrsAt.gr {w w' : World} {A : Nat} {fs : List (List UInt8)} (h : StrsAt w A fs) (g : Gr w w') : StrsAt w' A fs := fun i hi => cell_gr (h i hi) g
theorem StrsAt.other {w : World} {A : Nat} {fs : List (List UInt8)} (h : StrsAt w A fs) {a : Addr} (hne : A ≠ a.block) (u : Value) : StrsAt (w.setCell a u) A fs := fun i hi =>
  (World.cell?_of_block (Below.heap_setCell w a u A hne)).trans (h i hi)
attribute [irreducible] StrsAt
theorem Fields_calls (l : List UInt8) (hl : l.length ≤ 1000000000) (w : World) (hT : TabW w) : Calls Tryd.prog 56 #[.string (strB l)] w fun e w' => ∃ A, e = .returned (.slice (some ⟨A, 0, none⟩) (Lib.fieldsD l).length (Lib.fieldsD l).length) ∧ w.heap.size ≤ A ∧ StrsAt w' A (Lib.fieldsD l) ∧ Gr w w' := by
  refine (Tryd.strings_Fields_any (strB l) w (by rw [strB_size]; omega) hT.sp hT.wh).mono ?_
  rintro e w' ⟨A, rfl, hA, ho, hb⟩
  refine ⟨A, rfl, hA, ?_, gr_of hb⟩
  unfold StrsAt
  intro i hi
  rw [ho.cellAt i (by show i < (Lib.fieldsD l).length * 1; omega)]
  have : ((Lib.fieldsD l).map fun x => Value.string ⟨x.toArray⟩)[i]? = some (.string (strB ((Lib.fieldsD l).getD i []))) := by
    rw [List.getElem?_map, List.getElem?_eq_getElem hi]
    simp [hi]; rfl
  exact this
/-- what text.weights hands back -/
structure RetWt (w : World) (l : List UInt8) (P : Nat) (e : Ending) (w' : World) : Prop where
  out : Gr w w' ∧ ((∃ v xs, e = .returned (.tuple #[v, .bool true]) ∧ weightsT l P = some xs ∧ OwnI 3 w.heap.size w' v xs) ∨ (e = .returned (.tuple #[.slice none 0 0, .bool false]) ∧ weightsT l P = none))
set_option maxHeartbeats 4000000 in
set_option maxRecDepth 100000 in
theorem weights_calls (l : List UInt8) (P : Nat) (w : World) (hl : l.length ≤ 100000000) (hP : P ≤ 16) (hT : TabW w) : Calls Tryd.prog 39 #[.string (strB l), .int .i64 P] w (RetWt w l P) := by
  have T := intTy
  go_enter Tryd.func39, Tryd.ntmps39
  go_wp2_with (at_make; refine mk_ints T _ _ w.heap.size P _ _ rfl rfl rfl rfl rfl rfl (by omega) (Nat.le_refl _) ?_; intro w1 hown hb hlt; have HOWN := Lib.hid hown; have HB := Lib.hid hb; have HLT := Lib.hid hlt; clear hown hb hlt)
  refine (Fields_calls l (by omega) _ (hT.gr HB.out)).mono ?_
  rintro _ w2 ⟨A, rfl, hA, hS, g2⟩
  have HA := Lib.hid (show w.heap.size ≠ A by have := HLT.out; omega)
  have HI := Lib.hid (OwnI.gr HOWN.out g2)
  have HG := Lib.hid (HB.out.trans g2)
  have hfl : ∀ i, i < (Lib.fieldsD l).length → ((Lib.fieldsD l).getD i []).length ≤ l.length := fun i hi => by
    have e : (Lib.fieldsD l).getD i [] = (Lib.fieldsD l)[i] := by simp [hi]
    rw [e]; exact (fields_len l).1 _ (List.getElem_mem hi)
  have hfn : (Lib.fieldsD l).length ≤ 9223372036854775807 := by have := (fields_len l).2; omega
  have HFL := Lib.hid hfl
  have HS := Lib.hid hS
  have HTW := Lib.hid hT
  clear hS g2 hA hfl HB hT
  generalize hfs : Lib.fieldsD l = fs at HS HFL hfn ⊢
  have HFS : Hid (weightsT l P = weightsL P fs (List.replicate P 0)) := Lib.hid (by unfold weightsT; rw [hfs])
  clear hfs
  go_wp2_with fail
  go_loopw [21] (fun i wr => ∃ (k : Nat) (out : List Int), k ≤ fs.length ∧ i = .int .i64 k ∧ OwnI 3 w.heap.size wr (.slice (some ⟨w.heap.size, 0, none⟩) P P) out ∧ out.length = P ∧ weightsL P (fs.take k) (List.replicate P 0) = some out ∧ StrsAt wr A fs ∧ Gr w wr) (fun i _ => fs.length - (intOf i).toNat)
  case atStart => exact ⟨0, _, Nat.zero_le _, rfl, HI.out, by simp, rfl, HS.out, HG.out⟩
  case round =>
    rename_i wr _
    obtain ⟨k, out, hk, rfl, hI, hol, hwl, hst, hgr⟩ := hrel
    by_cases hlt : k < fs.length
    · have c0 : wr.cell? ⟨A, k, none⟩ = some (.string (strB (fs.getD k []))) := by unfold StrsAt at hst; exact hst k hlt
      have hf0 := HFL.out k hlt
      have hsp : fs = fs.take k ++ fs.getD k [] :: fs.drop (k + 1) := by
        have e : fs.getD k [] = fs[k] := by simp [hlt]
        rw [e, ← List.drop_eq_getElem_cons hlt, List.take_append_drop]
      have htk : fs.take (k + 1) = fs.take k ++ [fs.getD k []] := by
        have e : fs.getD k [] = fs[k] := by simp [hlt]
        rw [e, List.take_succ_eq_append_getElem hlt]
      generalize fs.getD k [] = f at c0 hf0 hsp htk
      have hc := cut_len f [42]
      have HNO : Hid (weightS P f out = none → weightsT l P = none) := Lib.hid fun h => by rw [HFS.out, hsp]; exact weightsL_stop hwl h
      have HYES : Hid (∀ out', weightS P f out = some out' → weightsL P (fs.take (k + 1)) (List.replicate P 0) = some out') := Lib.hid fun out' h => by rw [htk]; exact weightsL_more hwl h
      have HML : Hid ((manyF f).length ≤ 1000000000 ∧ (atF f).length ≤ 1000000000) := Lib.hid (by
        unfold manyF atF
        constructor
        · split
          · omega
          · simp
        · split <;> omega)
      have HCT := Lib.hid (Cut_calls f [42] (by omega) wr (HTW.out.gr hgr))
      have HR := Lib.hid (And.intro hI (And.intro hst hgr))
      have HOL := Lib.hid hol
      have e1 : (⟨#[42]⟩ : ByteArray) = strB [42] := rfl
      have e2 : (⟨#[49]⟩ : ByteArray) = strB [49] := rfl
      clear hI hst hgr hwl hsp htk hc hf0 hol
      cases htwo : (Lib.cut f [42]).2.2
      · have hM : manyF f = ([49] : List UInt8) := by unfold manyF; rw [htwo]; rfl
        have hA : atF f = f := by unfold atF; rw [htwo]; rfl
        rw [htwo] at HCT
        have hml := HML.out
        rw [hM, hA] at hml
        have HM := Lib.hid hM
        have HAt := Lib.hid hA
        clear hM hA htwo HML
        generalize hmg : ([49] : List UInt8) = mn at HM hml e2
        have HML := Lib.hid hml
        clear hml hmg
        by_cases h1 : ∃ n, Lib.atoiAll mn = .ok n
        case neg =>
          have HNW := Lib.hid (weight_none (P := P) (out := out) (word_no1 (f := f) (by rw [HM.out]; exact fun n hn => h1 ⟨n, hn⟩)))
          have HA1 := Lib.hid (fun W (hW : TabW W) => Atoi_no mn HML.out.1 (fun n hn => h1 ⟨n, hn⟩) W hW)
          clear h1
          go_wp2_with fail
          refine HCT.out.mono ?_
          rintro _ w3 ⟨rfl, g3⟩
          have HG3 := Lib.hid (HR.out.2.2.trans g3)
          clear g3
          go_wp2_with fail
          refine (HA1.out _ (HTW.out.gr HG3.out)).mono ?_
          rintro _ w4 ⟨n4, N4, rfl, g4⟩
          have HG4 := Lib.hid (HG3.out.trans g4)
          clear g4
          go_wp2_with fail
          refine (Atoi_any f HML.out.2 _ (HTW.out.gr HG4.out)).mono ?_
          rintro _ w5 ⟨n5, e5, rfl, g5⟩
          go_wp2_with fail
          refine bodyPost_ret (v := .tuple #[.slice none 0 0, .bool false]) (by simp [results, Tryd.results39, go_sem]) rfl ?_
          exact ⟨HG4.out.trans g5, .inr ⟨rfl, HNO.out (HNW.out)⟩⟩
        obtain ⟨n, hn⟩ := h1
        have HA1 := Lib.hid (fun W => Atoi_ok mn HML.out.1 n hn W)
        by_cases h2 : ∃ p, Lib.atoiAll f = .ok p
        case neg =>
          have HNW := Lib.hid (weight_none (P := P) (out := out) (word_no2 (f := f) (by rw [HAt.out]; exact fun n hn => h2 ⟨n, hn⟩)))
          have HA2 := Lib.hid (fun W (hW : TabW W) => Atoi_no f HML.out.2 (fun n hn => h2 ⟨n, hn⟩) W hW)
          clear h2 hn
          go_wp2_with fail
          refine HCT.out.mono ?_
          rintro _ w3 ⟨rfl, g3⟩
          have HG3 := Lib.hid (HR.out.2.2.trans g3)
          clear g3
          go_wp2_with fail
          refine (HA1.out _).mono ?_
          rintro _ w4 ⟨rfl, g4⟩
          have HG4 := Lib.hid (HG3.out.trans g4)
          clear g4
          go_wp2_with fail
          refine (HA2.out _ (HTW.out.gr HG4.out)).mono ?_
          rintro _ w5 ⟨n5, N5, rfl, g5⟩
          go_wp2_with fail
          refine bodyPost_ret (v := .tuple #[.slice none 0 0, .bool false]) (by simp [results, Tryd.results39, go_sem]) rfl ?_
          exact ⟨HG4.out.trans g5, .inr ⟨rfl, HNO.out (HNW.out)⟩⟩
        obtain ⟨p, hp⟩ := h2
        have HA2 := Lib.hid (fun W => Atoi_ok f HML.out.2 p hp W)
        have HWO := Lib.hid (word_ok (f := f) (n := n) (p := p) (by rw [HM.out]; exact hn) (by rw [HAt.out]; exact hp))
        clear hn hp
        by_cases hc : 0 ≤ p ∧ p < P ∧ 1 ≤ n ∧ n ≤ 9
        case neg =>
          have HNW := Lib.hid (weight_bad (P := P) (out := out) HWO.out hc)
          by_cases c1 : p < 0
          · clear hc
            go_wp2_with fail
            refine HCT.out.mono ?_
            rintro _ w3 ⟨rfl, g3⟩
            have HG3 := Lib.hid (HR.out.2.2.trans g3)
            have HK3 := Lib.hid g3
            clear g3
            go_wp2_with fail
            refine (HA1.out _).mono ?_
            rintro _ w4 ⟨rfl, g4⟩
            have HG4 := Lib.hid (HG3.out.trans g4)
            have HK4 := Lib.hid (HK3.out.trans g4)
            clear g4
            go_wp2_with fail
            refine (HA2.out _).mono ?_
            rintro _ w5 ⟨rfl, g5⟩
            have HG5 := Lib.hid (HG4.out.trans g5)
            have HG35 := Lib.hid (HK4.out.trans g5)
            clear g5
            go_wp2_with fail
            refine bodyPost_ret (v := .tuple #[.slice none 0 0, .bool false]) (by simp [results, Tryd.results39, go_sem]) rfl ?_
            exact ⟨HG5.out, .inr ⟨rfl, HNO.out (HNW.out)⟩⟩
          · by_cases c2 : (P : Int) ≤ p
            · clear hc
              go_wp2_with fail
              refine HCT.out.mono ?_
              rintro _ w3 ⟨rfl, g3⟩
              have HG3 := Lib.hid (HR.out.2.2.trans g3)
              have HK3 := Lib.hid g3
              clear g3
              go_wp2_with fail
              refine (HA1.out _).mono ?_
              rintro _ w4 ⟨rfl, g4⟩
              have HG4 := Lib.hid (HG3.out.trans g4)
              have HK4 := Lib.hid (HK3.out.trans g4)
              clear g4
              go_wp2_with fail
              refine (HA2.out _).mono ?_
              rintro _ w5 ⟨rfl, g5⟩
              have HG5 := Lib.hid (HG4.out.trans g5)
              have HG35 := Lib.hid (HK4.out.trans g5)
              clear g5
              go_wp2_with fail
              refine bodyPost_ret (v := .tuple #[.slice none 0 0, .bool false]) (by simp [results, Tryd.results39, go_sem]) rfl ?_
              exact ⟨HG5.out, .inr ⟨rfl, HNO.out (HNW.out)⟩⟩
            · by_cases c3 : n < 1
              · clear hc
                go_wp2_with fail
                refine HCT.out.mono ?_
                rintro _ w3 ⟨rfl, g3⟩
                have HG3 := Lib.hid (HR.out.2.2.trans g3)
                have HK3 := Lib.hid g3
                clear g3
                go_wp2_with fail
                refine (HA1.out _).mono ?_
                rintro _ w4 ⟨rfl, g4⟩
                have HG4 := Lib.hid (HG3.out.trans g4)
                have HK4 := Lib.hid (HK3.out.trans g4)
                clear g4
                go_wp2_with fail
                refine (HA2.out _).mono ?_
                rintro _ w5 ⟨rfl, g5⟩
                have HG5 := Lib.hid (HG4.out.trans g5)
                have HG35 := Lib.hid (HK4.out.trans g5)
                clear g5
                go_wp2_with fail
                refine bodyPost_ret (v := .tuple #[.slice none 0 0, .bool false]) (by simp [results, Tryd.results39, go_sem]) rfl ?_
                exact ⟨HG5.out, .inr ⟨rfl, HNO.out (HNW.out)⟩⟩
              · have c4 : 9 < n := by omega
                clear hc
                go_wp2_with fail
                refine HCT.out.mono ?_
                rintro _ w3 ⟨rfl, g3⟩
                have HG3 := Lib.hid (HR.out.2.2.trans g3)
                have HK3 := Lib.hid g3
                clear g3
                go_wp2_with fail
                refine (HA1.out _).mono ?_
                rintro _ w4 ⟨rfl, g4⟩
                have HG4 := Lib.hid (HG3.out.trans g4)
                have HK4 := Lib.hid (HK3.out.trans g4)
                clear g4
                go_wp2_with fail
                refine (HA2.out _).mono ?_
                rintro _ w5 ⟨rfl, g5⟩
                have HG5 := Lib.hid (HG4.out.trans g5)
                have HG35 := Lib.hid (HK4.out.trans g5)
                clear g5
                go_wp2_with fail
                refine bodyPost_ret (v := .tuple #[.slice none 0 0, .bool false]) (by simp [results, Tryd.results39, go_sem]) rfl ?_
                exact ⟨HG5.out, .inr ⟨rfl, HNO.out (HNW.out)⟩⟩
        obtain ⟨d1, d2, d3, d4⟩ := hc
        obtain ⟨q, rfl⟩ := Int.eq_ofNat_of_zero_le d1
        have HYW := Lib.hid (HYES.out _ (weight_good (P := P) (out := out) HWO.out ⟨d1, d2, d3, d4⟩))
        have hq : q < out.length := by have := HOL.out; omega
        have HQ := Lib.hid hq
        clear hq
        go_wp2_with fail
        refine HCT.out.mono ?_
        rintro _ w3 ⟨rfl, g3⟩
        have HG3 := Lib.hid (HR.out.2.2.trans g3)
        have HK3 := Lib.hid g3
        clear g3
        go_wp2_with fail
        refine (HA1.out _).mono ?_
        rintro _ w4 ⟨rfl, g4⟩
        have HG4 := Lib.hid (HG3.out.trans g4)
        have HK4 := Lib.hid (HK3.out.trans g4)
        clear g4
        go_wp2_with fail
        refine (HA2.out _).mono ?_
        rintro _ w5 ⟨rfl, g5⟩
        have HG5 := Lib.hid (HG4.out.trans g5)
        have HG35 := Lib.hid (HK4.out.trans g5)
        clear g5
        have o5 := HR.out.1.gr HG35.out
        have X1 := o5.cell (i := q) HQ.out
        have X2 := o5.frozen q
        have HO5 := Lib.hid o5
        clear o5
        go_wp2_with fail
        go_roundw
        case rel => exact ⟨k + 1, out.set q n, by omega, by go_num, HO5.out.set q n ⟨by omega, by omega⟩, by rw [List.length_set]; exact HOL.out, by have := HYW.out; rw [Int.toNat_natCast] at this; exact this, (HR.out.2.1.gr HG35.out).other (fun e => HA.out e.symm) _, HG5.out.setCell (Nat.le_refl _) _⟩
        case measure => simp [intOf]; omega
      · have hM : manyF f = (Lib.cut f [42]).1 := by unfold manyF; rw [htwo]; rfl
        have hA : atF f = (Lib.cut f [42]).2.1 := by unfold atF; rw [htwo]; rfl
        rw [htwo] at HCT
        have hml := HML.out
        rw [hM, hA] at hml
        have HM := Lib.hid hM
        have HAt := Lib.hid hA
        clear hM hA htwo HML
        generalize hmg : (Lib.cut f [42]).1 = mn at HM HCT hml
        generalize hag : (Lib.cut f [42]).2.1 = ag at HAt HCT hml
        have HML := Lib.hid hml
        clear hml hmg hag
        by_cases h1 : ∃ n, Lib.atoiAll mn = .ok n
        case neg =>
          have HNW := Lib.hid (weight_none (P := P) (out := out) (word_no1 (f := f) (by rw [HM.out]; exact fun n hn => h1 ⟨n, hn⟩)))
          have HA1 := Lib.hid (fun W (hW : TabW W) => Atoi_no mn HML.out.1 (fun n hn => h1 ⟨n, hn⟩) W hW)
          clear h1
          go_wp2_with fail
          refine HCT.out.mono ?_
          rintro _ w3 ⟨rfl, g3⟩
          have HG3 := Lib.hid (HR.out.2.2.trans g3)
          clear g3
          go_wp2_with fail
          refine (HA1.out _ (HTW.out.gr HG3.out)).mono ?_
          rintro _ w4 ⟨n4, N4, rfl, g4⟩
          have HG4 := Lib.hid (HG3.out.trans g4)
          clear g4
          go_wp2_with fail
          refine (Atoi_any ag HML.out.2 _ (HTW.out.gr HG4.out)).mono ?_
          rintro _ w5 ⟨n5, e5, rfl, g5⟩
          go_wp2_with fail
          refine bodyPost_ret (v := .tuple #[.slice none 0 0, .bool false]) (by simp [results, Tryd.results39, go_sem]) rfl ?_
          exact ⟨HG4.out.trans g5, .inr ⟨rfl, HNO.out (HNW.out)⟩⟩
        obtain ⟨n, hn⟩ := h1
        have HA1 := Lib.hid (fun W => Atoi_ok mn HML.out.1 n hn W)
        by_cases h2 : ∃ p, Lib.atoiAll ag = .ok p
        case neg =>
          have HNW := Lib.hid (weight_none (P := P) (out := out) (word_no2 (f := f) (by rw [HAt.out]; exact fun n hn => h2 ⟨n, hn⟩)))
          have HA2 := Lib.hid (fun W (hW : TabW W) => Atoi_no ag HML.out.2 (fun n hn => h2 ⟨n, hn⟩) W hW)
          clear h2 hn
          go_wp2_with fail
          refine HCT.out.mono ?_
          rintro _ w3 ⟨rfl, g3⟩
          have HG3 := Lib.hid (HR.out.2.2.trans g3)
          clear g3
          go_wp2_with fail
          refine (HA1.out _).mono ?_
          rintro _ w4 ⟨rfl, g4⟩
          have HG4 := Lib.hid (HG3.out.trans g4)
          clear g4
          go_wp2_with fail
          refine (HA2.out _ (HTW.out.gr HG4.out)).mono ?_
          rintro _ w5 ⟨n5, N5, rfl, g5⟩
          go_wp2_with fail
          refine bodyPost_ret (v := .tuple #[.slice none 0 0, .bool false]) (by simp [results, Tryd.results39, go_sem]) rfl ?_
          exact ⟨HG4.out.trans g5, .inr ⟨rfl, HNO.out (HNW.out)⟩⟩
        obtain ⟨p, hp⟩ := h2
        have HA2 := Lib.hid (fun W => Atoi_ok ag HML.out.2 p hp W)
        have HWO := Lib.hid (word_ok (f := f) (n := n) (p := p) (by rw [HM.out]; exact hn) (by rw [HAt.out]; exact hp))
        clear hn hp
        by_cases hc : 0 ≤ p ∧ p < P ∧ 1 ≤ n ∧ n ≤ 9
        case neg =>
          have HNW := Lib.hid (weight_bad (P := P) (out := out) HWO.out hc)
          by_cases c1 : p < 0
          · clear hc
            go_wp2_with fail
            refine HCT.out.mono ?_
            rintro _ w3 ⟨rfl, g3⟩
            have HG3 := Lib.hid (HR.out.2.2.trans g3)
            have HK3 := Lib.hid g3
            clear g3
            go_wp2_with fail
            refine (HA1.out _).mono ?_
            rintro _ w4 ⟨rfl, g4⟩
            have HG4 := Lib.hid (HG3.out.trans g4)
            have HK4 := Lib.hid (HK3.out.trans g4)
            clear g4
            go_wp2_with fail
            refine (HA2.out _).mono ?_
            rintro _ w5 ⟨rfl, g5⟩
            have HG5 := Lib.hid (HG4.out.trans g5)
            have HG35 := Lib.hid (HK4.out.trans g5)
            clear g5
            go_wp2_with fail
            refine bodyPost_ret (v := .tuple #[.slice none 0 0, .bool false]) (by simp [results, Tryd.results39, go_sem]) rfl ?_
            exact ⟨HG5.out, .inr ⟨rfl, HNO.out (HNW.out)⟩⟩
          · by_cases c2 : (P : Int) ≤ p
            · clear hc
              go_wp2_with fail
              refine HCT.out.mono ?_
              rintro _ w3 ⟨rfl, g3⟩
              have HG3 := Lib.hid (HR.out.2.2.trans g3)
              have HK3 := Lib.hid g3
              clear g3
              go_wp2_with fail
              refine (HA1.out _).mono ?_
              rintro _ w4 ⟨rfl, g4⟩
              have HG4 := Lib.hid (HG3.out.trans g4)
              have HK4 := Lib.hid (HK3.out.trans g4)
              clear g4
              go_wp2_with fail
              refine (HA2.out _).mono ?_
              rintro _ w5 ⟨rfl, g5⟩
              have HG5 := Lib.hid (HG4.out.trans g5)
              have HG35 := Lib.hid (HK4.out.trans g5)
              clear g5
              go_wp2_with fail
              refine bodyPost_ret (v := .tuple #[.slice none 0 0, .bool false]) (by simp [results, Tryd.results39, go_sem]) rfl ?_
              exact ⟨HG5.out, .inr ⟨rfl, HNO.out (HNW.out)⟩⟩
            · by_cases c3 : n < 1
              · clear hc
                go_wp2_with fail
                refine HCT.out.mono ?_
                rintro _ w3 ⟨rfl, g3⟩
                have HG3 := Lib.hid (HR.out.2.2.trans g3)
                have HK3 := Lib.hid g3
                clear g3
                go_wp2_with fail
                refine (HA1.out _).mono ?_
                rintro _ w4 ⟨rfl, g4⟩
                have HG4 := Lib.hid (HG3.out.trans g4)
                have HK4 := Lib.hid (HK3.out.trans g4)
                clear g4
                go_wp2_with fail
                refine (HA2.out _).mono ?_
                rintro _ w5 ⟨rfl, g5⟩
                have HG5 := Lib.hid (HG4.out.trans g5)
                have HG35 := Lib.hid (HK4.out.trans g5)
                clear g5
                go_wp2_with fail
                refine bodyPost_ret (v := .tuple #[.slice none 0 0, .bool false]) (by simp [results, Tryd.results39, go_sem]) rfl ?_
                exact ⟨HG5.out, .inr ⟨rfl, HNO.out (HNW.out)⟩⟩
              · have c4 : 9 < n := by omega
                clear hc
                go_wp2_with fail
                refine HCT.out.mono ?_
                rintro _ w3 ⟨rfl, g3⟩
                have HG3 := Lib.hid (HR.out.2.2.trans g3)
                have HK3 := Lib.hid g3
                clear g3
                go_wp2_with fail
                refine (HA1.out _).mono ?_
                rintro _ w4 ⟨rfl, g4⟩
                have HG4 := Lib.hid (HG3.out.trans g4)
                have HK4 := Lib.hid (HK3.out.trans g4)
                clear g4
                go_wp2_with fail
                refine (HA2.out _).mono ?_
                rintro _ w5 ⟨rfl, g5⟩
                have HG5 := Lib.hid (HG4.out.trans g5)
                have HG35 := Lib.hid (HK4.out.trans g5)
                clear g5
                go_wp2_with fail
                refine bodyPost_ret (v := .tuple #[.slice none 0 0, .bool false]) (by simp [results, Tryd.results39, go_sem]) rfl ?_
                exact ⟨HG5.out, .inr ⟨rfl, HNO.out (HNW.out)⟩⟩
        obtain ⟨d1, d2, d3, d4⟩ := hc
        obtain ⟨q, rfl⟩ := Int.eq_ofNat_of_zero_le d1
        have HYW := Lib.hid (HYES.out _ (weight_good (P := P) (out := out) HWO.out ⟨d1, d2, d3, d4⟩))
        have hq : q < out.length := by have := HOL.out; omega
        have HQ := Lib.hid hq
        clear hq
        go_wp2_with fail
        refine HCT.out.mono ?_
        rintro _ w3 ⟨rfl, g3⟩
        have HG3 := Lib.hid (HR.out.2.2.trans g3)
        have HK3 := Lib.hid g3
        clear g3
        go_wp2_with fail
        refine (HA1.out _).mono ?_
        rintro _ w4 ⟨rfl, g4⟩
        have HG4 := Lib.hid (HG3.out.trans g4)
        have HK4 := Lib.hid (HK3.out.trans g4)
        clear g4
        go_wp2_with fail
        refine (HA2.out _).mono ?_
        rintro _ w5 ⟨rfl, g5⟩
        have HG5 := Lib.hid (HG4.out.trans g5)
        have HG35 := Lib.hid (HK4.out.trans g5)
        clear g5
        have o5 := HR.out.1.gr HG35.out
        have X1 := o5.cell (i := q) HQ.out
        have X2 := o5.frozen q
        have HO5 := Lib.hid o5
        clear o5
        go_wp2_with fail
        go_roundw
        case rel => exact ⟨k + 1, out.set q n, by omega, by go_num, HO5.out.set q n ⟨by omega, by omega⟩, by rw [List.length_set]; exact HOL.out, by have := HYW.out; rw [Int.toNat_natCast] at this; exact this, (HR.out.2.1.gr HG35.out).other (fun e => HA.out e.symm) _, HG5.out.setCell (Nat.le_refl _) _⟩
        case measure => simp [intOf]; omega
    · obtain rfl : k = fs.length := by omega
      rw [List.take_length] at hwl
      go_wp2_with fail
      refine bodyPost_ret (v := .tuple #[.slice (some ⟨w.heap.size, 0, none⟩) P P, .bool true]) (by simp [results, Tryd.results39, go_sem]) rfl ?_
      exact ⟨hgr, .inl ⟨_, out, rfl, by rw [HFS.out]; exact hwl, hI⟩⟩
end Go.Proofs.YtiflolklgmmgeaaDoor
