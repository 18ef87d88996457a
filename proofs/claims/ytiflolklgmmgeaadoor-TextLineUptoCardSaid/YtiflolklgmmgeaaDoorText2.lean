/- Contract of text.Print. -/
import Derived.Test.YtiflolklgmmgeaaDoorText1
namespace Go.Tok
open Go.RowKit
set_option linter.unusedVariables false
theorem lineF_len {t : TranD} {P : Nat} (h : TranT P t) (hP : P ≤ 16) : (lineF t).length ≤ 197 := by
  have l1 := h.pre.len
  have l2 := h.post.len
  have n1 := sideF_len h.pre.w (by omega)
  have n2 := sideF_len h.post.w (by omega)
  have n3 : (labelF t.label).length = 1 := by unfold labelF; split <;> rfl
  unfold lineF
  simp; omega
def bodyUpto (ts : List TranD) (k : Nat) : List UInt8 := bodyT (ts.take k)
theorem bodyUpto_succ {N : NetD} {k : Nat} (h : k < N.trans.length) : bodyUpto N.trans (k + 1) = bodyUpto N.trans k ++ (lineF (N.tr k) ++ [10]) := by
  have e : N.tr k = N.trans[k] := by unfold NetD.tr; simp [h]
  unfold bodyUpto bodyT
  rw [List.take_succ_eq_append_getElem h, List.flatMap_append, e]
  simp
theorem body_len {P : Nat} (hP : P ≤ 16) : ∀ {ts : List TranD}, (∀ t ∈ ts, TranT P t) → (bodyT ts).length ≤ 198 * ts.length
  | [], _ => by simp [bodyT]
  | t :: r, h => by
    have h1 := lineF_len (h t (by simp)) hP
    have h2 := body_len hP (ts := r) fun u hu => h u (List.mem_cons_of_mem _ hu)
    have : bodyT (t :: r) = lineF t ++ [10] ++ bodyT r := by unfold bodyT; simp
    rw [this]; simp; omega
theorem bodyUpto_len {N : NetD} {P : Nat} (hP : P ≤ 16) (h : ∀ t ∈ N.trans, TranT P t) (hl : N.trans.length ≤ 24) (k : Nat) : (bodyUpto N.trans k).length ≤ 4752 := by
  have h1 := body_len hP (ts := N.trans.take k) fun t ht => h t (List.mem_of_mem_take ht)
  have h2 : (N.trans.take k).length ≤ 24 := by rw [List.length_take]; omega
  unfold bodyUpto; omega
theorem headT_len {P : Nat} (h : P ≤ 16) : (headT P).length ≤ 6 := by
  have := dec_len (p := P) (by omega)
  unfold headT; simp; omega
theorem printF_ok {N : NetD} (h : netOkB N = true) : printF N = ((headT N.places.toNat ++ [10]) ++ bodyUpto N.trans N.trans.length, 0) := by
  unfold printF bodyUpto; rw [if_pos h, List.take_length]
theorem printF_no {N : NetD} (h : netOkB N = false) : printF N = ([], 2) := by unfold printF; rw [if_neg (by rw [h]; decide)]
end Go.Tok
namespace Go.Proofs.YtiflolklgmmgeaaDoor
open Go.RowKit Go.Tok
set_option linter.unusedVariables false
set_option maxHeartbeats 2000000 in
set_option maxRecDepth 100000 in
theorem Print_calls (v : Value) (N : NetD) (w : World) (hN : NetR w v N) :
    Calls Tryd.prog 9 #[v] w fun e w' => e = .returned (.tuple #[.string (strB (printF N).1), .int .i64 (printF N).2]) ∧ Gr w w' := by
  have hN' := hN
  obtain ⟨a, cap, rfl, hnl, hncap, hpl, hT⟩ := hN.open_
  have hpl1 := hpl.1
  have hpl2 := hpl.2
  have B0 := box_cell (Gr.refl (w.alloc (.cells #[.int .i64 N.places, .slice a N.trans.length cap] 25))) (i := 0) rfl
  have B1 := box_cell (Gr.refl (w.alloc (.cells #[.int .i64 N.places, .slice a N.trans.length cap] 25))) (i := 1) rfl
  have GA : Gr w (w.alloc (.cells #[.int .i64 N.places, .slice a N.trans.length cap] 25)) := (Gr.refl _).alloc _
  cases hok : netOkB N
  · have HW := Lib.hid (wrongC_no hok)
    have HF := Lib.hid (printF_no hok)
    clear hok
    go_enter Tryd.func9, Tryd.ntmps9
    go_wp2_with fail
    refine (Wrong_calls _ N _ (hN'.gr GA)).mono ?_
    rw [HW.out]; rintro _ w1 ⟨rfl, g1⟩
    go_wp2_with fail
    refine bodyPost_ret (v := .tuple #[.string (strB []), .int .i64 2]) (by simp [results, Tryd.results9, go_sem]; rfl) rfl ?_
    exact ⟨by rw [HF.out], GA.trans g1⟩
  have HW := Lib.hid (wrongC_yes hok)
  have HF := Lib.hid (printF_ok hok)
  obtain ⟨⟨p1, p2⟩, p3, p4⟩ := netOk_text hok
  obtain ⟨P, hP⟩ := Int.eq_ofNat_of_zero_le p1
  have hP16 : P ≤ 16 := by omega
  have hPt : N.places.toNat = P := by omega
  rw [hPt] at p4 HF
  have HT := Lib.hid p4
  have HTL := Lib.hid (bodyUpto_len hP16 p4 p3)
  have hh := headT_len hP16
  have hd := dec_len (p := P) (by omega)
  have e1 : (⟨#[110, 101, 116, 32]⟩ : ByteArray) = strB [110, 101, 116, 32] := rfl
  have e2 : (⟨#[10]⟩ : ByteArray) = strB [10] := rfl
  have A1 := run_str_add (P := Tryd.prog) [110, 101, 116, 32] (Lib.decDigits P) (headT P) (by simp; omega) rfl
  have A2 := run_str_add (P := Tryd.prog) (headT P) [10] (headT P ++ [10]) (by simp; omega) rfl
  have HHP := Lib.hid hP16
  have HHH := Lib.hid hh
  have HPL := Lib.hid hP
  generalize hS1 : strB (headT P ++ [10]) = S1 at A2
  have HS1 := Lib.hid hS1
  clear hok p1 p2 p4 hh hPt hS1 hP
  go_enter Tryd.func9, Tryd.ntmps9
  go_wp2_with fail
  refine (Wrong_calls _ N _ (hN'.gr GA)).mono ?_
  rw [HW.out]; rintro _ w1 ⟨rfl, g1⟩
  replace B0 : w1.cell? ⟨w.heap.size, 0, none⟩ = some (.int .i64 (P : Int)) := by rw [← HPL.out]; exact cell_gr B0 g1
  replace B0 := cell_gr B0 ((Gr.refl w1).alloc (.cells #[.pointer none, .slice none 0 0] 58))
  have HB1 := Lib.hid (show w1.cell? ⟨w.heap.size, 1, none⟩ = some (.slice a N.trans.length cap) from cell_gr B1 g1)
  replace B1 := cell_gr (cell_gr B1 g1) ((Gr.refl w1).alloc (.cells #[.pointer none, .slice none 0 0] 58))
  have HB0 := Lib.hid (Bld.new w1)
  have GB := Lib.hid (GA.trans g1)
  clear g1 GA
  go_wp2_with fail
  refine (Itoa_calls P (by omega) _).mono ?_
  rintro _ _ ⟨rfl, rfl⟩
  go_wp2_with fail
  rw [← HS1.out]
  refine (HB0.out.write (headT P ++ [10]) (by have := HHH.out; simp; omega)).mono ?_
  rintro _ w2 ⟨rfl, hb⟩
  have HB2 := Lib.hid hb
  clear hb
  have B1' : w2.cell? ⟨w.heap.size, 1, none⟩ = some (.slice a N.trans.length cap) := by
    have hg : Gr w1 w2 := by have := HB2.out; unfold Bld at this; exact this.2
    exact cell_gr HB1.out hg
  have HG2 : Hid (Gr w1 w2) := Lib.hid (by have := HB2.out; unfold Bld at this; exact this.2)
  clear A1 A2 B0 e1
  go_wp2_with fail
  go_loopw [22] (fun i wr => ∃ k : Nat, k ≤ N.trans.length ∧ i = .int .i64 k ∧ Bld w1 ((headT P ++ [10]) ++ bodyUpto N.trans k) wr) (fun i _ => N.trans.length - (intOf i).toNat)
  case atStart => exact ⟨0, Nat.zero_le _, rfl, by have := HB2.out; simpa [bodyUpto, bodyT] using this⟩
  case round =>
    rename_i wr _
    obtain ⟨k, hk, rfl, hb⟩ := hrel
    have hgr : Gr w1 wr := by have := hb; unfold Bld at this; exact this.2
    by_cases hlt : k < N.trans.length
    · obtain ⟨b, o, vp, vq, rfl, c0, c1, c2, hlab, hp, hq⟩ := (hT.gr (GB.out.trans hgr)).at_ hlt
      obtain ⟨pa, pc, rfl, _, _⟩ := hp.len
      obtain ⟨qa, qc, rfl, _, _⟩ := hq.len
      have ht := HT.out (N.tr k) (NetD.tr_mem hlt)
      have hl := lineF_len ht HHP.out
      have hbl := HTL.out k
      have hs := bodyUpto_succ hlt
      have HS := Lib.hid hs
      have A3 := run_str_add (P := Tryd.prog) (lineF (N.tr k)) [10] (lineF (N.tr k) ++ [10]) (by simp; omega) rfl
      generalize hS3 : strB (lineF (N.tr k) ++ [10]) = S3 at A3
      have HS3 := Lib.hid hS3
      have bt : Blk (wr.alloc (.cells #[.int .i64 (N.tr k).label, .slice pa (N.tr k).pre.length pc, .slice qa (N.tr k).post.length qc] 41)) wr.heap.size 41 #[.int .i64 (N.tr k).label, .slice pa (N.tr k).pre.length pc, .slice qa (N.tr k).post.length qc] := Blk.new rfl
      have ga : Gr wr (wr.alloc (.cells #[.int .i64 (N.tr k).label, .slice pa (N.tr k).pre.length pc, .slice qa (N.tr k).post.length qc] 41)) := (Gr.refl _).alloc _
      have T0 := bt.cell (i := 0) (v := .int .i64 (N.tr k).label) rfl
      have T1 := bt.cell (i := 1) (v := .slice pa (N.tr k).pre.length pc) rfl
      have T2 := bt.cell (i := 2) (v := .slice qa (N.tr k).post.length qc) rfl
      have HLC := Lib.hid (line_calls (N.tr k) (.slice pa (N.tr k).pre.length pc) (.slice qa (N.tr k).post.length qc) P _ ht HHP.out (hp.gr ga) (hq.gr ga))
      have HB := Lib.hid (hb.gr ga)
      have HL := Lib.hid (And.intro hl hbl)
      clear hb hgr hs hS3 bt ga hp hq ht hl hbl
      go_wp2_with fail
      refine HLC.out.mono ?_
      rintro _ w3 ⟨rfl, g3⟩
      have HB3 := Lib.hid (HB.out.gr g3)
      clear g3
      go_wp2_with fail
      rw [← HS3.out]
      refine (HB3.out.write (lineF (N.tr k) ++ [10]) (by have := HHH.out; have := HL.out; simp; omega)).mono ?_
      rintro _ w4 ⟨rfl, hb4⟩
      have HB4 := Lib.hid hb4
      clear hb4
      go_wp2_with fail
      go_roundw
      case rel => exact ⟨k + 1, by omega, by go_num, by rw [HS.out]; simpa using HB4.out⟩
      case measure => simp [intOf]; omega
    · obtain rfl : k = N.trans.length := by omega
      have HB := Lib.hid hb
      clear hb hgr
      go_wp2_with fail
      refine HB.out.string.mono ?_
      rintro _ w5 ⟨rfl, g5⟩
      go_wp2_with fail
      refine bodyPost_ret (v := .tuple #[.string (strB ((headT P ++ [10]) ++ bodyUpto N.trans N.trans.length)), .int .i64 0]) (by simp [results, Tryd.results9, go_sem]) rfl ?_
      exact ⟨by rw [HF.out], GB.out.trans g5⟩
end Go.Proofs.YtiflolklgmmgeaaDoor
