/- Contracts of text.side, text.label, text.line, text.Print. -/
import Derived.Test.YtiflolklgmmgeaaDoorTextLaw2
import Derived.Test.YtiflolklgmmgeaaDoorShelfT
import Derived.Test.YtiflolklgmmgeaaDoorGN
import Derived.Test.YtiflolklgmmgeaaDoorPA
import Derived.Deep.RegionHeld3
import Derived.BigQuiet
import Derived.Laws.Concat
namespace Go.Tok
open Go.RowKit
set_option linter.unusedVariables false
/-- bytes as a string -/
def strB (l : List UInt8) : ByteArray := ⟨l.toArray⟩
theorem strB_def (l : List UInt8) : (⟨l.toArray⟩ : ByteArray) = strB l := rfl
theorem strB_list (l : List UInt8) : (strB l).data.toList = l := rfl
theorem strB_app (a b : List UInt8) : strB a ++ strB b = strB (a ++ b) := by
  apply ByteArray.ext
  simp [strB]
theorem strB_size (l : List UInt8) : (strB l).size = l.length := rfl
theorem strB_of (s : ByteArray) : s = strB s.data.toList := by
  apply ByteArray.ext
  simp [strB]
theorem strB_inj {a b : List UInt8} (h : strB a = strB b) : a = b := by
  have := congrArg (fun s : ByteArray => s.data.toList) h
  exact this
theorem strB_cells (l : List UInt8) : Lib.strCells (strB l) = Lib.byteCells l := rfl
theorem run_str_add {P : Program} (a b c : List UInt8) (h : a.length + b.length ≤ 100000000) (e : a ++ b = c) (w : World) : (Op.stringOp .add (strB a) (strB b)).run P w = .ok (.string (strB c)) w := by
  refine (run_string_add_sum w (strB a) (strB b) (by rw [strB_size, strB_size]; omega)).trans ?_
  rw [strB_app, e]
theorem dec_len {p : Nat} (h : p < 17) : (Lib.decDigits p).length ≤ 2 := by
  rcases dec_cases h with ⟨a, _, _, e⟩ | ⟨a, _, _, e⟩ <;> rw [e] <;> simp
theorem sideW_len {p : Nat} {n : Int} (hp : p < 17) (hn : n ≤ 9) : (sideW p n).length ≤ 6 := by
  unfold sideW
  have := dec_len hp
  split
  · simp
  · split
    · have := dec_len (p := n.toNat) (by omega)
      simp; omega
    · simp; omega
theorem side_len {w : List Int} (hw : ∀ x ∈ w, 0 ≤ x ∧ x ≤ 9) : ∀ k, k ≤ 16 → (sideUpto w k).length ≤ 6 * k
  | 0, _ => by simp [sideUpto]
  | k + 1, hk => by
    have h1 := side_len hw k (by omega)
    have h2 := sideW_len (p := k) (n := nth w k) (by omega) (by
      by_cases h : k < w.length
      · rw [nth_lt h]; exact (hw _ (List.getElem_mem h)).2
      · rw [nth_ge (by omega)]; omega)
    rw [sideUpto, List.length_append]; omega
theorem sideF_len {w : List Int} (hw : ∀ x ∈ w, 0 ≤ x ∧ x ≤ 9) (h : w.length ≤ 16) : (sideF w).length ≤ 96 := by
  have := side_len hw w.length h
  unfold sideF; omega
end Go.Tok
namespace Go.Proofs.YtiflolklgmmgeaaDoor
open Go.RowKit Go.Tok
set_option linter.unusedVariables false
theorem gr_on {w0 w w' : World} (h : Gr w0 w) (k : Below w0.heap.size w w') : Gr w0 w' := by unfold Gr; exact Below.trans h.below k
theorem Itoa_calls (p : Nat) (hp : p < 17) (w : World) : Calls Tryd.prog 18 #[.int .i64 p] w fun e w' => e = .returned (.string (strB (Lib.decDigits p))) ∧ w' = w := Tryd.strconv_Itoa_small p (by omega) w
/-- the builder that a call has made: it holds the bytes l -/
def Bld (w0 : World) (l : List UInt8) (w : World) : Prop := Lib.IsBuilderF 58 5 w0.heap.size w0.heap.size (Lib.byteCells l) w ∧ Gr w0 w
theorem Bld.new (w : World) : Bld w [] (w.alloc (.cells #[.pointer none, .slice none 0 0] 58)) := ⟨Lib.IsBuilderF.of (Lib.fresh_isBuilder 58 5 w), (Gr.refl _).alloc _⟩
theorem Bld.write {w0 w : World} {l : List UInt8} (h : Bld w0 l w) (s : List UInt8) (hl : l.length + s.length ≤ 100000) :
    Calls Tryd.prog 23 #[.pointer (some ⟨w0.heap.size, 0, none⟩), .string (strB s)] w fun e w' => e = .returned (.tuple #[.int .i64 s.length, .nilIface]) ∧ Bld w0 (l ++ s) w' := by
  refine (Tryd.Builder_WriteString_k w0.heap.size w0.heap.size (Lib.byteCells l) (strB s) w h.1 (by rw [Lib.byteCells_length, strB_size]; omega) h.2.le).mono ?_
  rintro e w' ⟨rfl, h1, h2, _⟩
  refine ⟨rfl, ?_, gr_on h.2 h2⟩
  rw [strB_cells, ← Lib.byteCells_append] at h1
  exact .inr h1
theorem Bld.string {w0 w : World} {l : List UInt8} (h : Bld w0 l w) :
    Calls Tryd.prog 25 #[.pointer (some ⟨w0.heap.size, 0, none⟩)] w fun e w' => e = .returned (.string (strB l)) ∧ Gr w0 w' := by
  refine (Tryd.Builder_String_any_k w0.heap.size w0.heap.size l w h.1 h.2.le).mono ?_
  rintro e w' ⟨rfl, _, h2, _⟩
  exact ⟨rfl, gr_on h.2 h2⟩
theorem Bld.gr {w0 w w' : World} {l : List UInt8} (h : Bld w0 l w) (g : Gr w w') : Bld w0 l w' := by
  refine ⟨?_, h.2.trans g⟩
  have hb : ∀ {p : Value}, Lib.BuilderAtF 58 5 w0.heap.size w0.heap.size p (Lib.byteCells l) w → Lib.BuilderAtF 58 5 w0.heap.size w0.heap.size p (Lib.byteCells l) w' := fun {p} hb => by
    have hlt := hb.lt
    obtain ⟨hB, v, h1, h2, h3⟩ := hb
    refine ⟨hB, v, (g.below.block _ hlt).trans h1, ?_, h3⟩
    exact h2.kept (row := none) ⟨g.below.os, g.below.tape, g.below.output, g.below.size, fun k hk _ => g.below.block k hk⟩ (by cases hv : v.ownBlock <;> simp)
  rcases h.1 with h1 | h1
  · exact .inl (hb h1)
  · exact .inr (hb h1)
attribute [irreducible] Bld
set_option maxHeartbeats 1000000 in
set_option maxRecDepth 100000 in
theorem side_calls (v : Value) (xs : List Int) (w : World) (hv : Ints w v xs) (hx : ∀ x ∈ xs, 0 ≤ x ∧ x ≤ 9) (hl : xs.length ≤ 16) :
    Calls Tryd.prog 43 #[v] w fun e w' => e = .returned (.string (strB (sideF xs))) ∧ Gr w w' := by
  obtain ⟨a, cap, rfl, hlc, hcap⟩ := hv.len
  have HX := Lib.hid hx
  have hb0 := Bld.new w
  have HB0 := Lib.hid hb0
  clear hb0 hx
  go_enter Tryd.func43, Tryd.ntmps43
  go_wp2_with fail
  go_loopw [8] (fun i wr => ∃ k : Nat, k ≤ xs.length ∧ i = .int .i64 k ∧ Bld w (sideUpto xs k) wr) (fun i _ => xs.length - (intOf i).toNat)
  case atStart => exact ⟨0, Nat.zero_le _, rfl, HB0.out⟩
  case round =>
    rename_i wr _
    obtain ⟨k, hk, rfl, hb⟩ := hrel
    have hgr : Gr w wr := by unfold Bld at hb; exact hb.2
    by_cases hlt : k < xs.length
    · obtain ⟨b, o, rfl, hcell⟩ := (hv.gr hgr).cell hlt
      have hxk := HX.out _ (show nth xs k ∈ xs by rw [nth_lt hlt]; exact List.getElem_mem hlt)
      have hlen := side_len HX.out k (by omega)
      have HB := Lib.hid hb
      have hs : sideUpto xs (k + 1) = sideUpto xs k ++ sideW k (nth xs k) := rfl
      have HS := Lib.hid hs
      clear hb hgr hs
      by_cases h0 : nth xs k = 0
      · have HW : Hid (sideW k (nth xs k) = []) := Lib.hid (by rw [h0]; rfl)
        rw [h0] at hcell
        clear h0 hxk
        go_wp2_with fail
        go_roundw
        case rel => exact ⟨k + 1, by omega, by go_num, by rw [HS.out, HW.out, List.append_nil]; exact HB.out⟩
        case measure => simp [intOf]; omega
      · by_cases h1 : 1 < nth xs k
        · obtain ⟨m, hm⟩ := Int.eq_ofNat_of_zero_le hxk.1
          have HW : Hid (sideW k (nth xs k) = 32 :: (Lib.decDigits m ++ 42 :: Lib.decDigits k)) := Lib.hid (by rw [hm]; unfold sideW; rw [if_neg (by omega), if_pos (by omega)]; rfl)
          rw [hm] at hcell h0 h1 hxk
          have hd1 := dec_len (p := m) (by omega)
          have hd2 := dec_len (p := k) (by omega)
          have hne : ((m : Int) == 0) = false := by simpa using h0
          clear hm h0
          go_wp2_with fail
          refine (Itoa_calls m (by omega) _).mono ?_
          rintro _ _ ⟨rfl, rfl⟩
          have e1 : (⟨#[32]⟩ : ByteArray) = strB [32] := rfl
          have e2 : (⟨#[42]⟩ : ByteArray) = strB [42] := rfl
          have A1 := run_str_add (P := Tryd.prog) [32] (Lib.decDigits m) (32 :: Lib.decDigits m) (by simp; omega) rfl
          have A2 := run_str_add (P := Tryd.prog) (32 :: Lib.decDigits m) [42] (32 :: (Lib.decDigits m ++ [42])) (by simp; omega) rfl
          have A3 := run_str_add (P := Tryd.prog) (32 :: (Lib.decDigits m ++ [42])) (Lib.decDigits k) (32 :: (Lib.decDigits m ++ 42 :: Lib.decDigits k)) (by simp; omega) (by simp)
          go_wp2_with fail
          refine (Itoa_calls k (by omega) _).mono ?_
          rintro _ _ ⟨rfl, rfl⟩
          go_wp2_with fail
          refine (HB.out.write _ (by simp; omega)).mono ?_
          rintro _ w' ⟨rfl, hb'⟩
          have HB2 := Lib.hid hb'
          clear hb'
          go_wp2_with fail
          go_roundw
          case rel => exact ⟨k + 1, by omega, by go_num, by rw [HS.out, HW.out]; simpa using HB2.out⟩
          case measure => simp [intOf]; omega
        · have HW : Hid (sideW k (nth xs k) = 32 :: Lib.decDigits k) := Lib.hid (by unfold sideW; rw [if_neg h0, if_neg h1])
          have hd2 := dec_len (p := k) (by omega)
          have e3 : nth xs k = 1 := by omega
          rw [e3] at hcell
          clear h0 h1 hxk e3
          go_wp2_with fail
          refine (Itoa_calls k (by omega) _).mono ?_
          rintro _ _ ⟨rfl, rfl⟩
          have e1 : (⟨#[32]⟩ : ByteArray) = strB [32] := rfl
          have A1 := run_str_add (P := Tryd.prog) [32] (Lib.decDigits k) (32 :: Lib.decDigits k) (by simp; omega) rfl
          go_wp2_with fail
          refine (HB.out.write _ (by simp; omega)).mono ?_
          rintro _ w' ⟨rfl, hb'⟩
          have HB2 := Lib.hid hb'
          clear hb'
          go_wp2_with fail
          go_roundw
          case rel => exact ⟨k + 1, by omega, by go_num, by rw [HS.out, HW.out]; simpa using HB2.out⟩
          case measure => simp [intOf]; omega
    · obtain rfl : k = xs.length := by omega
      have HB := Lib.hid hb
      clear hb hgr
      go_wp2_with fail
      refine HB.out.string.mono ?_
      rintro _ w' ⟨rfl, g⟩
      go_wp2_with fail
      go_ret
      exact ⟨rfl, g⟩
theorem rune_all : ∀ a : Fin 27, 1 ≤ a.val → (Utf8.encode (97 + (a.val : Int) - 1)).data.toList = labelF (a.val : Int) := by decide +kernel
theorem label_rune {n : Nat} (h1 : 1 ≤ n) (h2 : n ≤ 26) (w : World) : (convert 21 9 (.int .i32 (97 + (n : Int) - 1))).run Tryd.prog w = .ok (.string (strB (labelF n))) w := by
  rw [run_convert_int_string w 21 9 .i32 _ (by rw [Tryd.underlying21]; rfl) Tryd.underlying9, strB_of (Utf8.encode _), rune_all ⟨n, by omega⟩ h1]
set_option maxRecDepth 100000 in
theorem label_calls (n : Int) (hn : 0 ≤ n ∧ n ≤ 26) (w : World) : Calls Tryd.prog 42 #[.int .i64 n] w fun e w' => e = .returned (.string (strB (labelF n))) ∧ w = w' := by
  by_cases h0 : n = 0
  · subst h0
    go_enter Tryd.func42, Tryd.ntmps42
    go_wp2_with fail
    go_ret
    exact ⟨rfl, rfl⟩
  · have hne : (n == 0) = false := by simpa using h0
    obtain ⟨m, rfl⟩ := Int.eq_ofNat_of_zero_le hn.1
    have hm1 : 1 ≤ m := by omega
    have hm2 : m ≤ 26 := by omega
    have HL := fun w => label_rune hm1 hm2 w
    clear h0
    go_enter Tryd.func42, Tryd.ntmps42
    go_wp2_with fail
    go_ret
    exact ⟨rfl, rfl⟩
theorem labelF_len (n : Int) : (labelF n).length = 1 := by unfold labelF; split <;> rfl
set_option maxHeartbeats 4000000 in
set_option maxRecDepth 100000 in
theorem line_calls (t : TranD) (vp vq : Value) (P : Nat) (w : World) (hT : TranT P t) (hP : P ≤ 16) (hp : Ints w vp t.pre) (hq : Ints w vq t.post) :
    Calls Tryd.prog 24 #[.agg #[.int .i64 t.label, vp, vq]] w fun e w' => e = .returned (.string (strB (lineF t))) ∧ Gr w w' := by
  obtain ⟨pa, pc, rfl, hpl, _⟩ := hp.len
  obtain ⟨qa, qc, rfl, hql, _⟩ := hq.len
  have hlab := hT.lab
  have l1 := hT.pre.len
  have l2 := hT.post.len
  have n1 := sideF_len hT.pre.w (by omega)
  have n2 := sideF_len hT.post.w (by omega)
  have n3 := labelF_len t.label
  have HX1 := Lib.hid hT.pre.w
  have HX2 := Lib.hid hT.post.w
  have B0 := box_cell (Gr.refl (w.alloc (.cells #[.int .i64 t.label, .slice pa t.pre.length pc, .slice qa t.post.length qc] 41))) (i := 0) rfl
  have B1 := box_cell (Gr.refl (w.alloc (.cells #[.int .i64 t.label, .slice pa t.pre.length pc, .slice qa t.post.length qc] 41))) (i := 1) rfl
  have B2 := box_cell (Gr.refl (w.alloc (.cells #[.int .i64 t.label, .slice pa t.pre.length pc, .slice qa t.post.length qc] 41))) (i := 2) rfl
  have GA : Gr w (w.alloc (.cells #[.int .i64 t.label, .slice pa t.pre.length pc, .slice qa t.post.length qc] 41)) := (Gr.refl _).alloc _
  have HP := Lib.hid (hp.gr GA)
  have HQ := Lib.hid (hq.gr GA)
  have e1 : (⟨#[32, 58]⟩ : ByteArray) = strB [32, 58] := rfl
  have e2 : (⟨#[32, 62]⟩ : ByteArray) = strB [32, 62] := rfl
  have A1 := run_str_add (P := Tryd.prog) (labelF t.label) [32, 58] (labelF t.label ++ [32, 58]) (by simp; omega) rfl
  have A2 := run_str_add (P := Tryd.prog) (labelF t.label ++ [32, 58]) (sideF t.pre) (labelF t.label ++ ([32, 58] ++ sideF t.pre)) (by simp; omega) (by simp)
  have A3 := run_str_add (P := Tryd.prog) (labelF t.label ++ ([32, 58] ++ sideF t.pre)) [32, 62] (labelF t.label ++ ([32, 58] ++ (sideF t.pre ++ [32, 62]))) (by simp; omega) (by simp)
  have A4 := run_str_add (P := Tryd.prog) (labelF t.label ++ ([32, 58] ++ (sideF t.pre ++ [32, 62]))) (sideF t.post) (lineF t) (by simp; omega) (by unfold lineF; simp)
  have L1 := Lib.hid (show t.pre.length ≤ 16 by omega)
  have L2 := Lib.hid (show t.post.length ≤ 16 by omega)
  generalize strB (labelF t.label ++ [32, 58]) = S1 at A1 A2
  generalize strB (labelF t.label ++ ([32, 58] ++ sideF t.pre)) = S2 at A2 A3
  generalize strB (labelF t.label ++ ([32, 58] ++ (sideF t.pre ++ [32, 62]))) = S3 at A3 A4
  clear hp hq n1 n2 n3 hT l1 l2
  obtain ⟨wb, hwb⟩ : ∃ wb, wb = w.alloc (.cells #[.int .i64 t.label, .slice pa t.pre.length pc, .slice qa t.post.length qc] 41) := ⟨_, rfl⟩
  rw [← hwb] at B0 B1 B2 GA HP HQ
  go_enter Tryd.func24, Tryd.ntmps24
  go_wp2_with fail
  rw [← hwb]
  clear hwb
  go_region_held3 (fun w' => w'.cell? ⟨w.heap.size, 0, none⟩ = some (.int .i64 t.label) ∧ w'.cell? ⟨w.heap.size, 1, none⟩ = some (.slice pa t.pre.length pc) ∧ w'.cell? ⟨w.heap.size, 2, none⟩ = some (.slice qa t.post.length qc)) (first | go_keep | exact ⟨cell_gr B0 (by (repeat (first | exact Gr.refl _ | assumption | apply Gr.alloc | apply Gr.drew | apply Gr.drewN | refine Gr.trans ?_ (by assumption)))), cell_gr B1 (by (repeat (first | exact Gr.refl _ | assumption | apply Gr.alloc | apply Gr.drew | apply Gr.drewN | refine Gr.trans ?_ (by assumption)))), cell_gr B2 (by (repeat (first | exact Gr.refl _ | assumption | apply Gr.alloc | apply Gr.drew | apply Gr.drewN | refine Gr.trans ?_ (by assumption))))⟩) (first | (go_at_call 42; (with_reducible refine (label_calls t.label hlab _).mono ?_); rintro _ _ ⟨rfl, rfl⟩) | (go_at_call_of 43 (Value.slice pa t.pre.length pc); (with_reducible refine (side_calls _ t.pre _ (HP.out.gr ?_) HX1.out L1.out).mono ?_); ((focus ((repeat (first | exact Gr.refl _ | assumption | apply Gr.alloc | apply Gr.drew | apply Gr.drewN | refine Gr.trans ?_ (by assumption))); done))); rintro _ _ ⟨rfl, g2⟩) | (go_at_call_of 43 (Value.slice qa t.post.length qc); (with_reducible refine (side_calls _ t.post _ (HQ.out.gr ?_) HX2.out L2.out).mono ?_); ((focus ((repeat (first | exact Gr.refl _ | assumption | apply Gr.alloc | apply Gr.drew | apply Gr.drewN | refine Gr.trans ?_ (by assumption))); done))); rintro _ _ ⟨rfl, g3⟩))
  all_goals (go_wp2_with fail)
  all_goals go_ret
  all_goals exact ⟨rfl, by (repeat (first | exact Gr.refl _ | assumption | apply Gr.alloc | apply Gr.drew | apply Gr.drewN | refine Gr.trans ?_ (by assumption)))⟩
end Go.Proofs.YtiflolklgmmgeaaDoor
