/- Texts of one family, joined; what the claim does not need is left out. -/
import Derived.Test.YtagdccgbcmnehaaGreatQMOe
import Derived.Test.YtagdccgbcmnehaaGreatQMOa
import Derived.Test.YtagdccgbcmnehaaGreatQMOd
import Derived.Test.YtagdccgbcmnehaaGreatQMOf
namespace Go.Tok
open Go.RowKit
set_option linter.unusedVariables false
theorem Rd.pair {w : World} {a : Option Addr} {n cap : Nat} {xs : List (Int × Int)} (h : Rd pairK w (.slice a n cap) xs) {i : Nat} (hi : i < xs.length) :
    ∃ b o, a = some ⟨b, o, none⟩ ∧ w.cell? ⟨b, o + i * 2, none⟩ = some (.int .i64 (ix xs i).1) ∧ w.cell? ⟨b, o + i * 2 + 1, none⟩ = some (.int .i64 (ix xs i).2) ∧ pairI (ix xs i) := by
  obtain ⟨b, o, vs, ha, ⟨rfl, hr⟩, hc⟩ := h.at_ hi
  exact ⟨b, o, ha, hc 0 _ rfl, hc 1 _ rfl, hr⟩
end Go.Tok
namespace Go.Proofs.YtagdccgbcmnehaaGreat
open Go.RowKit Go.Tok
set_option linter.unusedVariables false
def samePB (p q : Int × Int) : Bool := (p.1 == q.1) && (p.2 == q.2)
theorem samePB_iff {p q : Int × Int} : samePB p q = true ↔ p = q := by
  unfold samePB
  rw [Bool.and_eq_true, beq_iff_eq, beq_iff_eq, Prod.ext_iff]
set_option maxRecDepth 100000 in
set_option maxHeartbeats 1000000 in
theorem IndexP_calls (v : Value) (xs : List (Int × Int)) (p : Int × Int) (w : World) (hv : Rd pairK w v xs) :
    Calls Tryz.prog 208 #[v, .agg #[.int .i64 p.1, .int .i64 p.2]] w fun e w' => e = .returned (.int .i64 (firstI (samePB p) xs)) ∧ Gr w w' := by
  obtain ⟨a, cap, rfl, hlc, hcap⟩ := hv.len
  have b0 : Blk (w.alloc (.cells #[.int .i64 p.1, .int .i64 p.2] 127)) w.heap.size 127 #[.int .i64 p.1, .int .i64 p.2] := Blk.new rfl
  have G0 : Gr w (w.alloc (.cells #[.int .i64 p.1, .int .i64 p.2] 127)) := (Gr.refl _).alloc _
  go_enter Tryz.func208, Tryz.ntmps208
  go_wp2_with fail
  go_loopw [8] (fun i wr => ∃ k : Nat, k ≤ xs.length ∧ i = .int .i64 k ∧ NoneI (samePB p) xs k ∧ Gr (w.alloc (.cells #[.int .i64 p.1, .int .i64 p.2] 127)) wr) (fun i _ => xs.length - (intOf i).toNat)
  case atStart => exact ⟨0, Nat.zero_le _, rfl, NoneI.zero _ _, Gr.refl _⟩
  case round =>
    rename_i wr _
    obtain ⟨k, hk, rfl, hall, hgr⟩ := hrel
    by_cases hlt : k < xs.length
    · obtain ⟨b, o, rfl, c0, c1, hI⟩ := (hv.gr (G0.trans hgr)).pair hlt
      have B0 := (b0.gr hgr).cell (i := 0) (v := .int .i64 p.1) rfl
      have B1 := (b0.gr hgr).cell (i := 1) (v := .int .i64 p.2) rfl
      have hkI : (k : Int) < (xs.length : Int) := by omega
      have hk0 : (0 : Int) ≤ (k : Int) := by omega
      have HALL := Lib.hid hall
      clear hall b0
      rcases h1 : p.1 == (ix xs k).1 with _ | _
      · have HN := Lib.hid (HALL.out.succ (show samePB p (ix xs k) = false by unfold samePB; rw [h1]; rfl))
        have heq : ∀ w, (Op.equalIn 10000 127 (.agg #[.int .i64 p.1, .int .i64 p.2]) (.agg #[.int .i64 (ix xs k).1, .int .i64 (ix xs k).2])).run Tryz.prog w = .ok false w := fun w => by rw [run_eq_pair, h1]; rfl
        go_wp2_with fail
        go_quiet (fail)
        go_wp2_with fail
        go_roundw
        case rel => exact ⟨k + 1, by omega, by go_num, HN.out, hgr.drewN _⟩
        case measure => simp [intOf]; omega
      · rcases h2 : p.2 == (ix xs k).2 with _ | _
        · have HN := Lib.hid (HALL.out.succ (show samePB p (ix xs k) = false by unfold samePB; rw [h1, h2]; rfl))
          have heq : ∀ w, (Op.equalIn 10000 127 (.agg #[.int .i64 p.1, .int .i64 p.2]) (.agg #[.int .i64 (ix xs k).1, .int .i64 (ix xs k).2])).run Tryz.prog w = .ok false w := fun w => by rw [run_eq_pair, h1, h2]; rfl
          go_wp2_with fail
          go_quiet (fail)
          go_wp2_with fail
          go_roundw
          case rel => exact ⟨k + 1, by omega, by go_num, HN.out, hgr.drewN _⟩
          case measure => simp [intOf]; omega
        · have HN := Lib.hid (firstI_hit HALL.out hlt (show samePB p (ix xs k) = true by unfold samePB; rw [h1, h2]; rfl))
          have heq : ∀ w, (Op.equalIn 10000 127 (.agg #[.int .i64 p.1, .int .i64 p.2]) (.agg #[.int .i64 (ix xs k).1, .int .i64 (ix xs k).2])).run Tryz.prog w = .ok true w := fun w => by rw [run_eq_pair, h1, h2]; rfl
          go_wp2_with fail
          go_quiet (fail)
          go_wp2_with fail
          go_ret
          exact ⟨ret_i64 HN.out.symm, (G0.trans hgr).drewN _⟩
    · obtain rfl : k = xs.length := by omega
      have HN := Lib.hid (firstI_miss hall)
      go_wp2_with fail
      go_ret
      exact ⟨ret_i64 HN.out.symm, G0.trans hgr⟩
set_option maxRecDepth 100000 in
set_option maxHeartbeats 1000000 in
theorem ContainsP_calls (v : Value) (xs : List (Int × Int)) (p : Int × Int) (w : World) (hv : Rd pairK w v xs) :
    Calls Tryz.prog 182 #[v, .agg #[.int .i64 p.1, .int .i64 p.2]] w fun e w' => e = .returned (.bool (xs.any (samePB p))) ∧ Gr w w' := by
  have b0 : Blk (w.alloc (.cells #[.int .i64 p.1, .int .i64 p.2] 127)) w.heap.size 127 #[.int .i64 p.1, .int .i64 p.2] := Blk.new rfl
  have G0 : Gr w (w.alloc (.cells #[.int .i64 p.1, .int .i64 p.2] 127)) := (Gr.refl _).alloc _
  go_enter Tryz.func182, Tryz.ntmps182
  go_wp2_with fail
  refine (IndexP_calls _ xs p _ (hv.gr G0)).mono ?_
  rintro _ w1 ⟨rfl, g1⟩
  go_wp2_with fail
  go_ret
  exact ⟨ret_bool (firstI_any _ xs), G0.trans g1⟩
end Go.Proofs.YtagdccgbcmnehaaGreat

namespace Go.Proofs.YtagdccgbcmnehaaGreat
open Go.RowKit Go.Tok
set_option linter.unusedVariables false
theorem foldins_succ {l : List (Int × Int)} {i : Nat} (h : i < l.length) : (l.take (i + 1)).foldl ins [] = ins ((l.take i).foldl ins []) (ix l i) := by rw [take_ix h, List.foldl_append]; rfl
theorem foldI_succ {β : Type} {f : β → Int → β} {l : List Int} {i : Nat} {s : β} (h : i < l.length) : (l.take (i + 1)).foldl f s = f ((l.take i).foldl f s) (nth l i) := by rw [List.take_succ_eq_append_getElem h, List.foldl_append, ← nth_lt h]; rfl
/-- a log that is looked at: its traces, and what they show -/
structure LogV (w : World) (v : Value) (log : List (List Int)) (p : PrintD) : Prop where
  ex : ∃ (ta la fa za ba : Option Addr) (tc lc fc zc bc : Nat), v = .agg #[.slice ta log.length tc, .slice la p.labels.length lc, .slice fa p.first.length fc, .slice za p.last.length zc, .slice ba p.behind.length bc] ∧
    Rd rowK w (.slice ta log.length tc) log ∧ Ints w (.slice la p.labels.length lc) p.labels ∧ Ints w (.slice fa p.first.length fc) p.first ∧ Ints w (.slice za p.last.length zc) p.last ∧ Rd pairK w (.slice ba p.behind.length bc) p.behind
theorem LogV.gr {w w' : World} {v : Value} {log : List (List Int)} {p : PrintD} (h : LogV w v log p) (g : Gr w w') : LogV w' v log p := by
  obtain ⟨ta, la, fa, za, ba, tc, lc, fc, zc, bc, h0, h1, h2, h3, h4, h5⟩ := h.ex
  exact ⟨ta, la, fa, za, ba, tc, lc, fc, zc, bc, h0, h1.gr g, h2.gr g, h3.gr g, h4.gr g, h5.gr g⟩
set_option maxRecDepth 100000 in
set_option maxHeartbeats 4000000 in
theorem leads_calls (v : Value) (log : List (List Int)) (p : PrintD) (w : World) (hv : LogV w v log p) (hl : p.labels.length ≤ 1000) (hb : p.behind.length ≤ 100000) :
    Calls Tryz.prog 156 #[v] w fun e w' => ∃ c b, e = .returned (.func (.func 184) #[] #[.pointer (some ⟨c, 0, none⟩)]) ∧ w'.cell? ⟨c, 0, none⟩ = some (.map (some b)) ∧ OneAt w' b (leadsF p) ∧ w.heap.size ≤ b ∧ w.heap.size ≤ c ∧ Gr w w' := by
  obtain ⟨ta, la, fa, za, ba, tc, lc, fc, zc, bc, rfl, hT, hL, hF, hZ, hB⟩ := hv.ex
  have HT := Lib.hid hT
  have HLb := Lib.hid hL
  have HBh := Lib.hid hB
  have hlI := Lib.hid (fun i => hL.range i)
  clear hv hT hL hF hZ hB
  have mk := @run_makeMap Tryz.prog
  obtain ⟨B, hB⟩ : ∃ B, B = #[Value.slice ta log.length tc, .slice la p.labels.length lc, .slice fa p.first.length fc, .slice za p.last.length zc, .slice ba p.behind.length bc] := ⟨_, rfl⟩
  go_enter Tryz.func156, Tryz.ntmps156
  go_wp2_with fail
  go_loopw [5, 17] (fun xv iv wr => ∃ i : Nat, iv = .int .i64 i ∧ i ≤ p.behind.length ∧ Gr w wr ∧ Hid (Blk wr w.heap.size 204 B) ∧ Hid (Blk wr (w.heap.size + 1 + 1) 269 #[.map (some (w.heap.size + 1))]) ∧ Hid (OneAt wr (w.heap.size + 1) ((p.behind.take i).foldl ins []))) (fun xv iv _ => p.behind.length - (intOf iv).toNat)
  case atStart =>
    refine ⟨0, rfl, Nat.zero_le _, ?_, Lib.hid ?_, Lib.hid ?_, Lib.hid ?_⟩
    · exact ((((Gr.refl _).alloc _).alloc _).alloc _)
    · rw [hB]; exact (((Blk.new rfl).gr ((Gr.refl _).alloc _)).gr ((Gr.refl _).alloc _))
    · exact Blk.new (by simp)
    · have := (OneAt.new (w.alloc (.cells B 204))).gr ((Gr.refl _).alloc (.cells #[.map (some (w.heap.size + 1))] 269))
      rw [hB] at this
      simpa using this
  case round =>
    rename World => wr
    obtain ⟨i, rfl, hi, hgr, HBX, HC, HO⟩ := hrel
    by_cases hlt : i < p.behind.length
    · obtain ⟨bb, bo, rfl, c0, c1, hI⟩ := (HBh.out.gr hgr).pair hlt
      obtain ⟨q, hq⟩ : ∃ q, q = ix p.behind i := ⟨_, rfl⟩
      rw [← hq] at c0 c1 hI
      have hiz : (i : Int) < (p.behind.length : Int) := by omega
      have hi0 : (0 : Int) ≤ (i : Int) := by omega
      have G1 : Gr wr (wr.alloc (.cells #[.int .i64 q.1, .int .i64 q.2] 127)) := (Gr.refl _).alloc _
      have hc3 := (HC.out.gr G1).cell (i := 0) (v := .map (some (w.heap.size + 1))) rfl
      obtain ⟨w2, hrun, ho2, h2⟩ := (HO.out.gr G1).add q.1 q.2 hI.1 hI.2
      have hg2 := ho2.grown
      have hb1 : Hid (Blk w2 w.heap.size 204 B) := Lib.hid ((HBX.out.gr G1).grown hg2 (by simp))
      have hb2 : Hid (Blk w2 (w.heap.size + 1 + 1) 269 #[.map (some (w.heap.size + 1))]) := Lib.hid ((HC.out.gr G1).grown hg2 (by simp))
      have hg3 : Hid (Gr w w2) := Lib.hid ((hgr.trans G1).grown hg2 (fun k hk => by cases hk; omega))
      have h3 : Hid (OneAt w2 (w.heap.size + 1) ((p.behind.take (i + 1)).foldl ins [])) := Lib.hid (by rw [foldins_succ hlt, ← hq]; exact h2)
      clear h2 ho2 hg2 hq
      go_wp2_with fail
      go_roundw
      case rel => exact ⟨i + 1, by go_num, by omega, hg3.out, hb1, hb2, h3⟩
      case measure => simp [intOf]; omega
    · obtain rfl : i = p.behind.length := by omega
      have hnz : ¬ (p.behind.length : Int) < (p.behind.length : Int) := by omega
      have HO2 : Hid (OneAt wr (w.heap.size + 1) (p.behind.foldl ins [])) := Lib.hid (by have := HO.out; rwa [List.take_length] at this)
      clear HO
      have bx := HBX.out.cell (i := 1) (v := .slice la p.labels.length lc) (by rw [hB]; rfl)
      go_wp2_with fail
      go_loopw [28] (fun iv wk => ∃ i : Nat, iv = .int .i64 i ∧ i ≤ p.labels.length ∧ Gr w wk ∧ Hid (Blk wk w.heap.size 204 B) ∧ Hid (Blk wk (w.heap.size + 1 + 1) 269 #[.map (some (w.heap.size + 1))]) ∧ Hid (OneAt wk (w.heap.size + 1) ((p.labels.take i).foldl (leadK p.labels) (p.behind.foldl ins [])))) (fun iv _ => p.labels.length - (intOf iv).toNat)
      case atStart => exact ⟨0, rfl, Nat.zero_le _, hgr, HBX, HC, HO2⟩
      case round =>
        rename World => wk
        obtain ⟨i, rfl, hi', hgk, HBK, HCK, HOK⟩ := hrel
        clear bx
        by_cases hik : i < p.labels.length
        · have hiz : (i : Int) < (p.labels.length : Int) := by omega
          have hi0 : (0 : Int) ≤ (i : Int) := by omega
          obtain ⟨lb, lo, rfl, d0⟩ := (HLb.out.gr hgk).cell hik
          have bx := HBK.out.cell (i := 1) (v := .slice (some ⟨lb, lo, none⟩) p.labels.length lc) (by rw [hB]; rfl)
          obtain ⟨k, hk⟩ : ∃ k, k = nth p.labels i := ⟨_, rfl⟩
          have kI : I64 k := by rw [hk]; exact hlI.out i
          have HF : Hid ((p.labels.take (i + 1)).foldl (leadK p.labels) (p.behind.foldl ins []) = leadK p.labels ((p.labels.take i).foldl (leadK p.labels) (p.behind.foldl ins [])) k) := Lib.hid (by rw [foldI_succ hik, hk])
          rw [← hk] at d0
          obtain ⟨s1, hs1⟩ : ∃ s, s = (p.labels.take i).foldl (leadK p.labels) (p.behind.foldl ins []) := ⟨_, rfl⟩
          rw [← hs1] at HF HOK
          clear hk hs1
          go_wp2_with fail
          go_loopw [36] (fun iv wa => ∃ j : Nat, iv = .int .i64 j ∧ j ≤ p.labels.length ∧ Gr w wa ∧ Hid (Blk wa w.heap.size 204 B) ∧ Hid (Blk wa (w.heap.size + 1 + 1) 269 #[.map (some (w.heap.size + 1))]) ∧ Hid (OneAt wa (w.heap.size + 1) ((p.labels.take j).foldl (leadA p.labels k) s1))) (fun iv _ => p.labels.length - (intOf iv).toNat)
          case atStart => exact ⟨0, rfl, Nat.zero_le _, hgk, HBK, HCK, HOK⟩
          case round =>
            rename World => wa
            obtain ⟨j, rfl, hj', hga, HBA, HCA, HOA⟩ := hrel
            clear bx d0
            by_cases hja : j < p.labels.length
            · have hjz : (j : Int) < (p.labels.length : Int) := by omega
              have hj0 : (0 : Int) ≤ (j : Int) := by omega
              obtain ⟨lb', lo', hlb, d0⟩ := (HLb.out.gr hga).cell hja
              cases hlb
              have bx := HBA.out.cell (i := 1) (v := .slice (some ⟨lb, lo, none⟩) p.labels.length lc) (by rw [hB]; rfl)
              obtain ⟨a, ha⟩ : ∃ a, a = nth p.labels j := ⟨_, rfl⟩
              have aI : I64 a := by rw [ha]; exact hlI.out j
              have HFA : Hid ((p.labels.take (j + 1)).foldl (leadA p.labels k) s1 = leadA p.labels k ((p.labels.take j).foldl (leadA p.labels k) s1) a) := Lib.hid (by rw [foldI_succ hja, ha])
              rw [← ha] at d0
              obtain ⟨s2, hs2⟩ : ∃ s, s = (p.labels.take j).foldl (leadA p.labels k) s1 := ⟨_, rfl⟩
              rw [← hs2] at HFA HOA
              clear ha hs2
              go_wp2_with fail
              go_loopw [44] (fun iv wb => ∃ q : Nat, iv = .int .i64 q ∧ q ≤ p.labels.length ∧ Gr w wb ∧ Hid (Blk wb w.heap.size 204 B) ∧ Hid (Blk wb (w.heap.size + 1 + 1) 269 #[.map (some (w.heap.size + 1))]) ∧ Hid (OneAt wb (w.heap.size + 1) ((p.labels.take q).foldl (leadB k a) s2))) (fun iv _ => p.labels.length - (intOf iv).toNat)
              case atStart => exact ⟨0, rfl, Nat.zero_le _, hga, HBA, HCA, HOA⟩
              case round =>
                rename World => wb
                obtain ⟨q, rfl, hq', hgb, HBB, HCB, HOB⟩ := hrel
                clear bx d0
                by_cases hqb : q < p.labels.length
                · have hqz : (q : Int) < (p.labels.length : Int) := by omega
                  have hq0 : (0 : Int) ≤ (q : Int) := by omega
                  obtain ⟨lb', lo', hlb, d0⟩ := (HLb.out.gr hgb).cell hqb
                  cases hlb
                  obtain ⟨b, hb'⟩ : ∃ b, b = nth p.labels q := ⟨_, rfl⟩
                  have bI : I64 b := by rw [hb']; exact hlI.out q
                  have HFB : Hid ((p.labels.take (q + 1)).foldl (leadB k a) s2 = leadB k a ((p.labels.take q).foldl (leadB k a) s2) b) := Lib.hid (by rw [foldI_succ hqb, hb'])
                  rw [← hb'] at d0
                  obtain ⟨s3, hs3⟩ : ∃ s, s = (p.labels.take q).foldl (leadB k a) s2 := ⟨_, rfl⟩
                  rw [← hs3] at HFB HOB
                  have c3 := HCB.out.cell (i := 0) (v := .map (some (w.heap.size + 1))) rfl
                  have l1 := HOB.out.look a k aI kI
                  have l2 := HOB.out.look k b kI bI
                  clear hb' hs3
                  cases h1 : hasP s3 a k with
                  | false =>
                    have HE : Hid (leadB k a s3 b = s3) := Lib.hid (by unfold leadB; rw [h1]; rfl)
                    rw [h1] at l1
                    have l1' : (Instr.lookup 269 (.map (some (w.heap.size + 1))) (.agg #[.int .i64 a, .int .i64 k]) false).run Tryz.prog wb = .ok (.int .i64 0) wb := l1
                    clear l1 l2 h1
                    go_wp2_with fail
                    go_roundw
                    case rel => exact ⟨q + 1, by go_num, by omega, hgb, HBB, HCB, Lib.hid (by rw [HFB.out, HE.out]; exact HOB.out)⟩
                    case measure => simp [intOf]; omega
                  | true =>
                    rw [h1] at l1
                    have l1' : (Instr.lookup 269 (.map (some (w.heap.size + 1))) (.agg #[.int .i64 a, .int .i64 k]) false).run Tryz.prog wb = .ok (.int .i64 1) wb := l1
                    cases h2 : hasP s3 k b with
                    | false =>
                      have HE : Hid (leadB k a s3 b = s3) := Lib.hid (by unfold leadB; rw [h1, h2]; rfl)
                      rw [h2] at l2
                      have l2' : (Instr.lookup 269 (.map (some (w.heap.size + 1))) (.agg #[.int .i64 k, .int .i64 b]) false).run Tryz.prog wb = .ok (.int .i64 0) wb := l2
                      clear l1 l2 h1 h2
                      go_wp2_with fail
                      go_roundw
                      case rel => exact ⟨q + 1, by go_num, by omega, hgb, HBB, HCB, Lib.hid (by rw [HFB.out, HE.out]; exact HOB.out)⟩
                      case measure => simp [intOf]; omega
                    | true =>
                      have HE : Hid (leadB k a s3 b = ins s3 (a, b)) := Lib.hid (by unfold leadB; rw [h1, h2]; rfl)
                      rw [h2] at l2
                      have l2' : (Instr.lookup 269 (.map (some (w.heap.size + 1))) (.agg #[.int .i64 k, .int .i64 b]) false).run Tryz.prog wb = .ok (.int .i64 1) wb := l2
                      obtain ⟨w2, hrun, ho2, h3⟩ := HOB.out.add a b aI bI
                      have hg2 := ho2.grown
                      have hb1 : Hid (Blk w2 w.heap.size 204 B) := Lib.hid (HBB.out.grown hg2 (by simp))
                      have hb2 : Hid (Blk w2 (w.heap.size + 1 + 1) 269 #[.map (some (w.heap.size + 1))]) := Lib.hid (HCB.out.grown hg2 (by simp))
                      have hg3 : Hid (Gr w w2) := Lib.hid (hgb.grown hg2 (fun k hk => by cases hk; omega))
                      have h4 : Hid (OneAt w2 (w.heap.size + 1) ((p.labels.take (q + 1)).foldl (leadB k a) s2)) := Lib.hid (by rw [HFB.out, HE.out]; exact h3)
                      clear l1 l2 h1 h2 h3 ho2 hg2
                      go_wp2_with fail
                      go_roundw
                      case rel => exact ⟨q + 1, by go_num, by omega, hg3.out, hb1, hb2, h4⟩
                      case measure => simp [intOf]; omega
                · obtain rfl : q = p.labels.length := by omega
                  have hnz2 : ¬ (p.labels.length : Int) < (p.labels.length : Int) := by omega
                  have HO3 : Hid (OneAt wb (w.heap.size + 1) ((p.labels.take (j + 1)).foldl (leadA p.labels k) s1)) := Lib.hid (by have := HOB.out; rw [List.take_length] at this; rw [HFA.out]; exact this)
                  clear HOB
                  go_wp2_with fail
                  go_roundw
                  case rel => exact ⟨j + 1, by go_num, by omega, hgb, HBB, HCB, HO3⟩
                  case measure => simp [intOf]; omega
            · obtain rfl : j = p.labels.length := by omega
              have hnz2 : ¬ (p.labels.length : Int) < (p.labels.length : Int) := by omega
              have HO3 : Hid (OneAt wa (w.heap.size + 1) ((p.labels.take (i + 1)).foldl (leadK p.labels) (p.behind.foldl ins []))) := Lib.hid (by have := HOA.out; rw [List.take_length] at this; rw [HF.out]; exact this)
              clear HOA
              go_wp2_with fail
              go_roundw
              case rel => exact ⟨i + 1, by go_num, by omega, hga, HBA, HCA, HO3⟩
              case measure => simp [intOf]; omega
        · obtain rfl : i = p.labels.length := by omega
          have hnz2 : ¬ (p.labels.length : Int) < (p.labels.length : Int) := by omega
          have HO3 : Hid (OneAt wk (w.heap.size + 1) (leadsF p)) := Lib.hid (by have := HOK.out; rw [List.take_length] at this; exact this)
          clear HOK
          go_wp2_with fail
          go_ret
          have cK : wk.cell? ⟨w.heap.size + 1 + 1, 0, none⟩ = some (.map (some (w.heap.size + 1))) := HCK.out.cell (i := 0) rfl
          exact ⟨w.heap.size + 1 + 1, rfl, w.heap.size + 1, cK, HO3.out, by omega, by omega, hgk⟩
end Go.Proofs.YtagdccgbcmnehaaGreat

namespace Go.Proofs.YtagdccgbcmnehaaGreat
open Go.RowKit Go.Tok
set_option linter.unusedVariables false
theorem any_pair (l : List (Int × Int)) (x y : Int) : l.any (samePB (x, y)) = hasP l x y := by
  rw [Bool.eq_iff_iff, List.any_eq_true, hasP_iff]
  constructor
  · rintro ⟨q, hq, h⟩
    rw [samePB_iff.1 h]; exact hq
  · intro h
    exact ⟨_, h, samePB_iff.2 rfl⟩
set_option maxRecDepth 100000 in
set_option maxHeartbeats 1000000 in
theorem behind_calls (v : Value) (log : List (List Int)) (p : PrintD) (x y : Int) (w : World) (hv : LogV w v log p) :
    Calls Tryz.prog 153 #[v, .int .i64 x, .int .i64 y] w fun e w' => e = .returned (.bool (hasP p.behind x y)) ∧ Gr w w' := by
  obtain ⟨ta, la, fa, za, ba, tc, lc, fc, zc, bc, rfl, hT, hL, hF, hZ, hB⟩ := hv.ex
  have b0 : Blk (w.alloc (.cells #[.slice ta log.length tc, .slice la p.labels.length lc, .slice fa p.first.length fc, .slice za p.last.length zc, .slice ba p.behind.length bc] 204)) w.heap.size 204 #[.slice ta log.length tc, .slice la p.labels.length lc, .slice fa p.first.length fc, .slice za p.last.length zc, .slice ba p.behind.length bc] := Blk.new rfl
  have G0 : Gr w (w.alloc (.cells #[.slice ta log.length tc, .slice la p.labels.length lc, .slice fa p.first.length fc, .slice za p.last.length zc, .slice ba p.behind.length bc] 204)) := (Gr.refl _).alloc _
  have c4 := b0.cell (i := 4) (v := .slice ba p.behind.length bc) rfl
  have HC := Lib.hid (ContainsP_calls _ p.behind (x, y) _ (hB.gr G0))
  clear hv hT hL hF hZ hB b0
  go_enter Tryz.func153, Tryz.ntmps153
  go_wp2_with fail
  refine HC.out.mono ?_
  rintro _ w2 ⟨rfl, g2⟩
  go_wp2_with fail
  go_ret
  exact ⟨ret_bool (any_pair _ x y), G0.trans g2⟩
theorem asks_behind {v : Value} {log : List (List Int)} {p : PrintD} {w : World} (hv : LogV w v log p) : Asks2 153 #[v] #[] (hasP p.behind) w := fun W x y _ _ g => behind_calls v log p x y W (hv.gr g)
end Go.Proofs.YtagdccgbcmnehaaGreat

namespace Go.Tok
set_option linter.unusedVariables false

theorem mem_nth {t : List Int} {x : Int} : x ∈ t ↔ ∃ j, j < t.length ∧ nth t j = x := by
  constructor
  · intro h
    obtain ⟨j, hj, rfl⟩ := List.getElem_of_mem h
    exact ⟨j, hj, nth_lt hj⟩
  · rintro ⟨j, hj, rfl⟩
    rw [nth_lt hj]; exact List.getElem_mem hj
theorem lab_mem {log : List (List Int)} {x : Int} : x ∈ (trkLog log).all ↔ ∃ t ∈ log, x ∈ t := by
  rw [(shows_log log).1]
  constructor
  · rintro ⟨t, ht, h⟩; exact ⟨t, ht, mem_nth.2 h⟩
  · rintro ⟨t, ht, h⟩; exact ⟨t, ht, mem_nth.1 h⟩
theorem labM {log : List (List Int)} {x : Int} : x ∈ (ofM log).labels ↔ ∃ t ∈ log, x ∈ t := (isI_perm _).mem_iff.trans lab_mem
theorem labM_nodup (log : List (List Int)) : (ofM log).labels.Nodup := (isI_perm _).nodup_iff.2 (onces_log log).1
theorem labM_sorted (log : List (List Int)) : (ofM log).labels.Pairwise (· ≤ ·) := isI_sorted _
theorem behM {log : List (List Int)} {x : Int × Int} : x ∈ (ofM log).behind ↔ ∃ t ∈ log, ∃ j, j + 1 < t.length ∧ (nth t j, nth t (j + 1)) = x := (isP_perm _).mem_iff.trans ((shows_log log).2.2.2 x)
theorem mem_full {log : List (List Int)} {t : List Int} : t ∈ fullF log ↔ t ∈ log ∧ t.length ≠ 0 := by
  unfold fullF; rw [List.mem_filter]; simp
theorem full_lab (log : List (List Int)) (x : Int) : (∃ t ∈ fullF log, x ∈ t) ↔ ∃ t ∈ log, x ∈ t := by
  constructor
  · rintro ⟨t, ht, h⟩; exact ⟨t, (mem_full.1 ht).1, h⟩
  · rintro ⟨t, ht, h⟩
    exact ⟨t, mem_full.2 ⟨ht, fun e => by rw [List.eq_nil_of_length_eq_zero e] at h; cases h⟩, h⟩

def measM (log : List (List Int)) : Nat := 2 * (ofM log).labels.length + if (fullF log).length < log.length then 1 else 0
theorem lab_le {l : List (List Int)} {g : List Int} (h : ∀ t ∈ l, ∀ x ∈ t, x ∈ g) : (ofM l).labels.length ≤ g.length :=
  nodup_sub _ _ (labM_nodup l) fun x hx => by
    obtain ⟨t, ht, hx⟩ := labM.1 hx
    exact h t ht x hx
theorem lab_full (log : List (List Int)) : (ofM (fullF log)).labels.length ≤ (ofM log).labels.length := lab_le fun t ht x hx => labM.2 ⟨t, (mem_full.1 ht).1, hx⟩
theorem full_full (log : List (List Int)) : fullF (fullF log) = fullF log := by
  unfold fullF
  rw [List.filter_filter]
  apply List.filter_congr
  simp
theorem flat_lt : ∀ {gs : List (List Int)} {g : List Int}, (∀ g ∈ gs, g ≠ []) → 2 ≤ gs.length → g ∈ gs → g.length < gs.flatten.length := by
  intro gs
  induction gs with
  | nil => intro g _ _ hg; cases hg
  | cons a r ih =>
    intro g hne h2 hg
    rw [List.flatten_cons, List.length_append]
    have hpos : ∀ {x : List Int} {l : List (List Int)}, x ∈ l → x.length ≤ l.flatten.length := by
      intro x l
      induction l with
      | nil => intro h; cases h
      | cons b l ih =>
        intro h
        rw [List.flatten_cons, List.length_append]
        rcases List.mem_cons.1 h with rfl | h
        · omega
        · have := ih h; omega
    have ha : 0 < a.length := List.length_pos_iff.2 (hne a (by simp))
    rcases List.mem_cons.1 hg with rfl | hg
    · cases r with
      | nil => simp at h2
      | cons b r =>
        have := List.length_pos_iff.2 (hne b (by simp))
        rw [List.flatten_cons, List.length_append]; omega
    · have := hpos hg; omega
/-- lk-groups of the labels of a log -/
structure Grps (lk : Int → Int → Bool) (ls : List Int) (gs : List (List Int)) : Prop where
  perm : gs.flatten.Perm ls
  ne : ∀ g ∈ gs, g ≠ []
  apart : gs.Pairwise fun g h => ∀ a ∈ g, ∀ b ∈ h, lk2 lk a b = false
  asc : ∀ g ∈ gs, g.Pairwise (· ≤ ·)
theorem grps (lk : Int → Int → Bool) (ls : List Int) : Grps lk ls (groupsF lk ls.length ls) := ⟨groups_perm lk _ _ (Nat.le_refl _), groups_ne lk _ _, groups_apart lk _ _ (Nat.le_refl _), groups_sorted lk _ _⟩
theorem lk2_comm (lk : Int → Int → Bool) (a b : Int) : lk2 lk a b = lk2 lk b a := Bool.or_comm _ _
theorem Grps.same {lk : Int → Int → Bool} {ls : List Int} {gs : List (List Int)} (h : Grps lk ls gs) {g g' : List Int} {a b : Int} (hg : g ∈ gs) (hg' : g' ∈ gs) (ha : a ∈ g) (hb : b ∈ g') (hl : lk2 lk a b = true) : g = g' := by
  obtain ⟨i, hi, rfl⟩ := List.getElem_of_mem hg
  obtain ⟨j, hj, rfl⟩ := List.getElem_of_mem hg'
  have hp := List.pairwise_iff_getElem.1 h.apart
  rcases Nat.lt_trichotomy i j with h1 | rfl | h1
  · have := hp i j hi hj h1 a ha b hb
    rw [hl] at this; cases this
  · rfl
  · have := hp j i hj hi h1 b hb a ha
    rw [lk2_comm, hl] at this; cases this
theorem Grps.grp {lk : Int → Int → Bool} {ls : List Int} {gs : List (List Int)} (h : Grps lk ls gs) {a : Int} (ha : a ∈ ls) : ∃ g ∈ gs, a ∈ g := List.mem_flatten.1 (h.perm.mem_iff.2 ha)
theorem Grps.mem {lk : Int → Int → Bool} {ls : List Int} {gs : List (List Int)} (h : Grps lk ls gs) {a : Int} {g : List Int} (hg : g ∈ gs) (ha : a ∈ g) : a ∈ ls := h.perm.mem_iff.1 (List.mem_flatten.2 ⟨g, hg, ha⟩)
theorem Grps.lt {lk : Int → Int → Bool} {ls : List Int} {gs : List (List Int)} (h : Grps lk ls gs) (h2 : 2 ≤ gs.length) {g : List Int} (hg : g ∈ gs) : g.length < ls.length := by
  rw [← h.perm.length_eq]; exact flat_lt h.ne h2 hg

/-- the labels of a trace stand in one group, where neighbours are linked -/
theorem one_group {log : List (List Int)} {gs : List (List Int)} (h : Grps (hasP (ofM log).behind) (ofM log).labels gs) {t : List Int} (ht : t ∈ log) {g : List Int} (hg : g ∈ gs) (h0 : nth t 0 ∈ g) : ∀ x ∈ t, x ∈ g := by
  have key : ∀ j, j < t.length → nth t j ∈ g := by
    intro j
    induction j with
    | zero => intro _; exact h0
    | succ j ih =>
      intro hj
      have h1 := ih (by omega)
      obtain ⟨g', hg', h2⟩ := h.grp (labM.2 ⟨t, ht, mem_nth.2 ⟨j + 1, hj, rfl⟩⟩)
      have hb : hasP (ofM log).behind (nth t j) (nth t (j + 1)) = true := hasP_iff.2 (behM.2 ⟨t, ht, j, hj, rfl⟩)
      rw [h.same hg hg' h1 h2 (by unfold lk2; rw [hb]; rfl)]; exact h2
  intro x hx
  obtain ⟨j, hj, rfl⟩ := mem_nth.1 hx
  exact key j hj
theorem insG_perm (s : List (Int × Int)) (x : List Int) : ∀ l, (insG s x l).Perm (x :: l)
  | [] => List.Perm.refl _
  | y :: r => by
    unfold insG
    split
    · exact List.Perm.refl _
    · exact (List.Perm.cons y (insG_perm s x r)).trans (List.Perm.swap x y r)
theorem sortG_perm (s : List (Int × Int)) : ∀ l, (sortG s l).Perm l
  | [] => List.Perm.refl _
  | x :: r => (insG_perm s x _).trans (List.Perm.cons x (sortG_perm s r))

theorem choose_some {p : PrintD} {log : List (List Int)} {ls : List (List (List Int))} (h : chooseF p log = some ls) : 2 ≤ (chooseG p).length ∧ ls = (chooseG p).map fun g => log.filter fun t => hasB g (nth t 0) := by
  unfold chooseF at h
  split at h
  · cases h
  · cases h; exact ⟨by omega, rfl⟩
theorem order_some {p : PrintD} {log : List (List Int)} {ls : List (List (List Int))} (h : orderF p log = some ls) : 2 ≤ (orderG p).length ∧ ls = (sortG (leadsF p) (orderG p)).map (ontoT log) := by
  unfold orderF at h
  split at h
  · cases h
  · cases h; exact ⟨by omega, rfl⟩
theorem beside_some {p : PrintD} {log : List (List Int)} {ls : List (List (List Int))} (h : besideF p log = some ls) : 2 ≤ (besideG p).length ∧ (∀ g ∈ besideG p, apartB p g = false) ∧ ls = (besideG p).map (ontoT log) := by
  unfold besideF at h
  split at h
  · cases h
  · rename_i hn
    have hn2 : ¬ (besideG p).any (apartB p) = true := fun e => hn (.inr e)
    cases h
    exact ⟨by omega, fun g hg => by
      cases e : apartB p g
      · rfl
      · exact absurd (List.any_eq_true.2 ⟨g, hg, e⟩) hn2, rfl⟩
/-- the ways of a cut -/
inductive Way3 (full : List (List Int)) : CutD → Prop where
  | one (h : (ofM full).labels.length = 1) : Way3 full (.leaf (oneD (ofM full) full))
  | choose (h : 2 ≤ (chooseG (ofM full)).length) : Way3 full (.node 4 ((chooseG (ofM full)).map fun g => full.filter fun t => hasB g (nth t 0)))
  | order (h : 2 ≤ (orderG (ofM full)).length) : Way3 full (.node 3 ((sortG (leadsF (ofM full)) (orderG (ofM full))).map (ontoT full)))
  | beside (h : 2 ≤ (besideG (ofM full)).length) (h2 : ∀ g ∈ besideG (ofM full), apartB (ofM full) g = false) : Way3 full (.node 5 ((besideG (ofM full)).map (ontoT full)))
  | flower (h : (ofM full).labels.length ≠ 1) : Way3 full (.leaf (flowerD (ofM full)))
theorem way3 (full : List (List Int)) : Way3 full (cutP (ofM full) full) := by
  unfold cutP
  by_cases h1 : (ofM full).labels.length = 1
  · rw [if_pos h1]; exact .one h1
  · rw [if_neg h1]
    cases e1 : chooseF (ofM full) full with
    | some ls => obtain ⟨h2, rfl⟩ := choose_some e1; exact .choose h2
    | none =>
      cases e2 : orderF (ofM full) full with
      | some ls => obtain ⟨h2, rfl⟩ := order_some e2; exact .order h2
      | none =>
        cases e3 : besideF (ofM full) full with
        | some ls => obtain ⟨h2, h3, rfl⟩ := beside_some e3; exact .beside h2 h3
        | none => exact .flower h1
theorem mem_onto {log : List (List Int)} {g t : List Int} (h : t ∈ ontoT log g) : ∃ t' ∈ log, t = t'.filter fun a => hasB g a := by
  unfold ontoT at h
  obtain ⟨t', h1, rfl⟩ := List.mem_map.1 h
  exact ⟨t', h1, rfl⟩
theorem onto_sub {log : List (List Int)} {g : List Int} : ∀ t ∈ ontoT log g, ∀ x ∈ t, x ∈ g := by
  intro t ht x hx
  obtain ⟨t', _, rfl⟩ := mem_onto ht
  exact (hasB_iff _ _).1 (List.mem_filter.1 hx).2
theorem choose_sub {full : List (List Int)} {g : List Int} (hg : g ∈ chooseG (ofM full)) : ∀ t ∈ (full.filter fun t => hasB g (nth t 0)), ∀ x ∈ t, x ∈ g := by
  intro t ht x hx
  obtain ⟨h1, h2⟩ := List.mem_filter.1 ht
  exact one_group (grps _ _) h1 hg ((hasB_iff _ _).1 h2) x hx
/-- what is looked at next is less -/
theorem node_sub {full : List (List Int)} {k : Int} {ls : List (List (List Int))} (h : Way3 full (.node k ls)) : ∀ l ∈ ls, ∃ g : List Int, g.length < (ofM full).labels.length ∧ ∀ t ∈ l, ∀ x ∈ t, x ∈ g := by
  generalize hc : CutD.node k ls = c at h
  cases h with
  | one h => cases hc
  | flower h => cases hc
  | choose h =>
    cases hc
    intro l hl
    obtain ⟨g, hg, rfl⟩ := List.mem_map.1 hl
    exact ⟨g, (grps _ _).lt h hg, choose_sub hg⟩
  | order h =>
    cases hc
    intro l hl
    obtain ⟨g, hg, rfl⟩ := List.mem_map.1 hl
    exact ⟨g, (grps _ _).lt h ((sortG_perm _ _).mem_iff.1 hg), onto_sub⟩
  | beside h h2 =>
    cases hc
    intro l hl
    obtain ⟨g, hg, rfl⟩ := List.mem_map.1 hl
    exact ⟨g, (grps _ _).lt h hg, onto_sub⟩
theorem measM_node {log full : List (List Int)} {k : Int} {ls : List (List (List Int))} (hf : full = fullF log) (h : Way3 full (.node k ls)) : ∀ l ∈ ls, measM l < measM log := by
  intro l hl
  obtain ⟨g, h1, h2⟩ := node_sub h l hl
  have h3 := lab_le h2
  have h4 := lab_full log
  rw [← hf] at h4
  unfold measM
  split <;> split <;> omega
theorem measM_opt {log : List (List Int)} (h : (fullF log).length < log.length) : measM (fullF log) < measM log := by
  unfold measM
  rw [full_full, if_neg (by omega), if_pos h]
  have := lab_full log
  omega
theorem fuel_of : ∀ (n : Nat) (log : List (List Int)), measM log < n → Fuel n log := by
  intro n
  induction n with
  | zero => intro log h; omega
  | succ n ih =>
    intro log h
    unfold Fuel cutF
    by_cases h1 : (fullF log).length = 0
    · rw [if_pos h1]; trivial
    · rw [if_neg h1]
      by_cases h2 : (fullF log).length < log.length
      · rw [if_pos h2]
        exact ih _ (by have := measM_opt h2; omega)
      · rw [if_neg h2]
        have hw := way3 (fullF log)
        generalize cutP (ofM (fullF log)) (fullF log) = c at hw
        cases c with
        | leaf b => trivial
        | opt l => nomatch hw
        | node k ls => exact fun l hl => ih l (by have := measM_node rfl hw l hl; omega)
theorem measM_le {log : List (List Int)} (h : ∀ t ∈ log, ∀ a ∈ t, 1 ≤ a ∧ a ≤ 26) : measM log ≤ 53 := by
  have h1 : (ofM log).labels.length ≤ ((List.range 26).map fun k : Nat => (k : Int) + 1).length := by
    refine lab_le fun t ht x hx => ?_
    obtain ⟨h1, h2⟩ := h t ht x hx
    exact List.mem_map.2 ⟨(x - 1).toNat, List.mem_range.2 (by omega), by omega⟩
  simp at h1
  unfold measM
  split <;> omega

def RightT (log : List (List Int)) : Prop := log.length ≤ 60 ∧ ∀ t ∈ log, t.length ≤ 60 ∧ ∀ a ∈ t, 1 ≤ a ∧ a ≤ 26
theorem right_iff (log : List (List Int)) : wrongT log = 0 ↔ RightT log := by
  unfold wrongT RightT
  by_cases h1 : 60 < log.length
  · rw [if_pos h1]; constructor
    · intro h; cases h
    · intro h; omega
  · rw [if_neg h1]
    have key : (log.any traceBad = true) ↔ ¬ ∀ t ∈ log, t.length ≤ 60 ∧ ∀ a ∈ t, 1 ≤ a ∧ a ≤ 26 := by
      rw [List.any_eq_true]
      constructor
      · rintro ⟨t, ht, hb⟩ h
        unfold traceBad at hb
        rcases Bool.or_eq_true_iff.1 hb with hb | hb
        · have := (h t ht).1
          simp at hb; omega
        · obtain ⟨a, ha, hb⟩ := List.any_eq_true.1 hb
          have := (h t ht).2 a ha
          simp at hb; omega
      · intro h
        refine Classical.byContradiction fun hn => h fun t ht => ?_
        have hb : traceBad t = false := by
          cases e : traceBad t
          · rfl
          · exact absurd ⟨t, ht, e⟩ hn
        unfold traceBad at hb
        rw [Bool.or_eq_false_iff] at hb
        refine ⟨by have := hb.1; simp at this; exact this, fun a ha => ?_⟩
        have := List.any_eq_false.1 hb.2 a ha
        simp at this; omega
    by_cases h2 : log.any traceBad = true
    · rw [if_pos h2]
      constructor
      · intro h; cases h
      · intro h; exact absurd h.2 (key.1 h2)
    · rw [if_neg h2]
      refine ⟨fun _ => ⟨by omega, ?_⟩, fun _ => rfl⟩
      exact Classical.byContradiction fun hn => h2 (key.2 hn)
theorem RightT.sub {log l : List (List Int)} (h : RightT log) (hl : l.length ≤ log.length) (hs : ∀ t ∈ l, ∃ t' ∈ log, t.length ≤ t'.length ∧ ∀ x ∈ t, x ∈ t') : RightT l :=
  ⟨Nat.le_trans hl h.1, fun t ht => by
    obtain ⟨t', h1, h2, h3⟩ := hs t ht
    exact ⟨Nat.le_trans h2 (h.2 t' h1).1, fun a ha => (h.2 t' h1).2 a (h3 a ha)⟩⟩
theorem RightT.full {log : List (List Int)} (h : RightT log) : RightT (fullF log) := h.sub (List.length_filter_le _ _) fun t ht => ⟨t, (mem_full.1 ht).1, Nat.le_refl _, fun _ h => h⟩
theorem RightT.filt {log : List (List Int)} (h : RightT log) (p : List Int → Bool) : RightT (log.filter p) := h.sub (List.length_filter_le _ _) fun t ht => ⟨t, (List.mem_filter.1 ht).1, Nat.le_refl _, fun _ h => h⟩
theorem RightT.onto {log : List (List Int)} (h : RightT log) (g : List Int) : RightT (ontoT log g) := h.sub (by unfold ontoT; simp) fun t ht => by
  obtain ⟨t', h1, rfl⟩ := mem_onto ht
  exact ⟨t', h1, List.length_filter_le _ _, fun x hx => (List.mem_filter.1 hx).1⟩

def stepsN : Nat → BlockD → List Int
  | 0, _ => []
  | n + 1, b => (if b.kind = 2 then [b.label] else []) ++ b.kids.flatMap (stepsN n)
theorem steps_many {n : Nat} {k : Int} {ks : List BlockD} (hk : k ≠ 2) : stepsN (n + 1) (manyD k ks) = ks.flatMap (stepsN n) := by
  show (if k = 2 then [(0 : Int)] else []) ++ ks.flatMap (stepsN n) = _
  rw [if_neg hk]; rfl
theorem steps_step {n : Nat} {a : Int} : stepsN (n + 1) (stepD a) = [a] := by
  show (if (2 : Int) = 2 then [a] else []) ++ [].flatMap (stepsN n) = _
  rw [if_pos rfl]; rfl
theorem steps_silent {n : Nat} : stepsN n silentD = [] := by
  cases n with
  | zero => rfl
  | succ n => rfl
theorem steps_map {n : Nat} (ls : List Int) : (ls.map stepD).flatMap (stepsN (n + 1)) = ls := by
  induction ls with
  | nil => rfl
  | cons a r ih => rw [List.map_cons, List.flatMap_cons, ih, steps_step]; rfl
theorem steps_leaf {n : Nat} {full : List (List Int)} {b : BlockD} (h : Way3 full (.leaf b)) : stepsN (n + 3) b = (ofM full).labels := by
  generalize hc : CutD.leaf b = c at h
  cases h with
  | choose h => cases hc
  | order h => cases hc
  | beside h h2 => cases hc
  | one h =>
    cases hc
    obtain ⟨a, ha⟩ := List.length_eq_one_iff.1 h
    rw [ha]
    have e0 : nth (ofM full).labels 0 = a := by rw [ha, nth_lt (by simp)]; rfl
    unfold oneD
    rw [e0]
    split
    · rw [steps_many (by decide), List.flatMap_cons, steps_step, List.flatMap_cons, steps_silent]; rfl
    · exact steps_step
  | flower h =>
    cases hc
    unfold flowerD
    rw [steps_many (by decide), List.flatMap_cons, steps_silent, List.flatMap_cons, steps_many (by decide), steps_map]; simp
theorem perm_flat {α β : Type} {f g : α → List β} : ∀ {l : List α}, (∀ a ∈ l, (f a).Perm (g a)) → (l.flatMap f).Perm (l.flatMap g)
  | [], _ => List.Perm.refl _
  | a :: l, h => by
    rw [List.flatMap_cons, List.flatMap_cons]
    exact (h a (by simp)).append (perm_flat fun b hb => h b (by simp [hb]))
theorem lab_perm {l : List (List Int)} {g : List Int} (hn : g.Nodup) (h1 : ∀ t ∈ l, ∀ x ∈ t, x ∈ g) (h2 : ∀ x ∈ g, ∃ t ∈ l, x ∈ t) : (ofM l).labels.Perm g :=
  (List.perm_ext_iff_of_nodup (labM_nodup l) hn).2 fun x => by
    rw [labM]
    exact ⟨fun ⟨t, ht, hx⟩ => h1 t ht x hx, h2 x⟩
theorem flat_disj {gs : List (List Int)} (h : gs.flatten.Nodup) : gs.Pairwise fun g h => ∀ x ∈ g, x ∉ h := (List.pairwise_flatten.1 h).2.imp fun hp x hx hx' => hp x hx x hx' rfl
theorem nodup_flat {gs : List (List Int)} (h : gs.flatten.Nodup) {g : List Int} (hg : g ∈ gs) : g.Nodup := List.Sublist.nodup (List.sublist_flatten_of_mem hg) h
/-- the labels of the parts -/
theorem node_labs {full : List (List Int)} {k : Int} {ls : List (List (List Int))} (hf : ∀ t ∈ full, t.length ≠ 0) (h : Way3 full (.node k ls)) : (ls.flatMap fun l => (ofM l).labels).Perm (ofM full).labels ∧ k ≠ 2 := by
  have key : ∀ (lk : Int → Int → Bool) (gs : List (List Int)) (f : List Int → List (List Int)), Grps lk (ofM full).labels gs → (∀ g ∈ gs, (∀ t ∈ f g, ∀ x ∈ t, x ∈ g) ∧ ∀ x ∈ g, ∃ t ∈ f g, x ∈ t) → ((gs.map f).flatMap fun l => (ofM l).labels).Perm (ofM full).labels := by
    intro lk gs f hG h
    rw [List.flatMap_map]
    refine (perm_flat (g := fun g => g) fun g hg => ?_).trans ((List.Perm.of_eq (by simp [List.flatMap_id'])).trans hG.perm)
    have hnd := (hG.perm.nodup_iff).2 (labM_nodup full)
    exact lab_perm (nodup_flat hnd hg) (h g hg).1 (h g hg).2
  have onto : ∀ (lk : Int → Int → Bool) (gs : List (List Int)), Grps lk (ofM full).labels gs → ∀ g ∈ gs, (∀ t ∈ ontoT full g, ∀ x ∈ t, x ∈ g) ∧ ∀ x ∈ g, ∃ t ∈ ontoT full g, x ∈ t := by
    intro lk gs hG g hg
    refine ⟨onto_sub, fun x hx => ?_⟩
    obtain ⟨t, ht, hxt⟩ := labM.1 (hG.mem hg hx)
    exact ⟨_, List.mem_map.2 ⟨t, ht, rfl⟩, List.mem_filter.2 ⟨hxt, (hasB_iff _ _).2 hx⟩⟩
  generalize hc : CutD.node k ls = c at h
  cases h with
  | one h => cases hc
  | flower h => cases hc
  | choose h =>
    cases hc
    refine ⟨key _ _ _ (grps _ _) fun g hg => ⟨choose_sub hg, fun x hx => ?_⟩, by decide⟩
    obtain ⟨t, ht, hxt⟩ := labM.1 ((grps (hasP (ofM full).behind) _).mem hg hx)
    have h0 : nth t 0 ∈ t := mem_nth.2 ⟨0, Nat.pos_of_ne_zero (hf t ht), rfl⟩
    obtain ⟨g', hg', h1⟩ := (grps (hasP (ofM full).behind) _).grp (labM.2 ⟨t, ht, h0⟩)
    have h2 := one_group (grps _ _) ht hg' h1 x hxt
    have hgg : g = g' := by
      obtain ⟨i, hi, rfl⟩ := List.getElem_of_mem hg
      obtain ⟨j, hj, rfl⟩ := List.getElem_of_mem hg'
      have hnd := ((grps (hasP (ofM full).behind) (ofM full).labels).perm.nodup_iff).2 (labM_nodup full)
      have hpd := flat_disj hnd
      have hpd := List.pairwise_iff_getElem.1 hpd
      rcases Nat.lt_trichotomy i j with h3 | rfl | h3
      · exact absurd h2 (hpd i j hi hj h3 x hx)
      · rfl
      · exact absurd hx (hpd j i hj hi h3 x h2)
    subst hgg
    exact ⟨t, List.mem_filter.2 ⟨ht, (hasB_iff _ _).2 h1⟩, hxt⟩
  | order h =>
    cases hc
    refine ⟨?_, by decide⟩
    refine (List.Perm.flatMap_right _ (List.Perm.map _ (sortG_perm _ _))).trans ?_
    exact key _ _ _ (grps _ _) (onto _ _ (grps _ _))
  | beside h h2 =>
    cases hc
    exact ⟨key _ _ _ (grps _ _) (onto _ _ (grps _ _)), by decide⟩
theorem labs_full (log : List (List Int)) : (ofM (fullF log)).labels = (ofM log).labels := by
  unfold ofM
  show isI _ = isI _
  rw [← sortI_isI, ← sortI_isI]
  exact sortI_same (onces_log _).1 (onces_log _).1 fun x => by rw [lab_mem, lab_mem]; exact full_lab log x
theorem find_once : ∀ (n : Nat) (log : List (List Int)), Fuel n log → ∀ m, n + 2 ≤ m → (stepsN m (mineF0 n log)).Perm (ofM log).labels := by
  intro n
  induction n with
  | zero => intro log h; exact h.elim
  | succ n ih =>
    intro log h m hm
    obtain ⟨m, rfl⟩ : ∃ q, m = q + 3 := ⟨m - 3, by omega⟩
    unfold Fuel at h
    unfold mineF0
    rw [← labs_full log]
    unfold cutF at *
    by_cases h1 : (fullF log).length = 0
    · rw [if_pos h1]
      show (stepsN (m + 3) silentD).Perm _
      rw [steps_silent, List.eq_nil_of_length_eq_zero h1]
      exact List.Perm.of_eq rfl
    · rw [if_neg h1] at h ⊢
      by_cases h2 : (fullF log).length < log.length
      · rw [if_pos h2] at h ⊢
        show (stepsN (m + 3) (manyD 4 [silentD, mineF0 n (fullF log)])).Perm _
        rw [steps_many (by decide), List.flatMap_cons, steps_silent, List.nil_append, List.flatMap_cons, List.flatMap_nil, List.append_nil]
        exact ih _ h _ (by omega)
      · rw [if_neg h2] at h ⊢
        have hw := way3 (fullF log)
        generalize cutP (ofM (fullF log)) (fullF log) = c at hw h
        cases c with
        | leaf b => show (stepsN (m + 3) b).Perm _; rw [steps_leaf hw]
        | opt l => nomatch hw
        | node k ls =>
          obtain ⟨h3, h4⟩ := node_labs (fun t ht => (mem_full.1 ht).2) hw
          show (stepsN (m + 3) (manyD k (ls.map (mineF0 n)))).Perm _
          rw [steps_many h4, List.flatMap_map]
          exact (perm_flat fun l hl => ih l (h l hl) (m + 2) (by omega)).trans h3
end Go.Tok

namespace Go.Tok
set_option linter.unusedVariables false
def zeroB : BlockD := .mk 0 0 []
def fuelM : Nat := 54
def mineF (log : List (List Int)) : BlockD × Int :=
  if wrongT log = 0 then (if wrongB (fuelM + 3) (mineF0 fuelM log) = 0 then (mineF0 fuelM log, 0) else (zeroB, wrongB (fuelM + 3) (mineF0 fuelM log))) else (zeroB, wrongT log)
theorem fuel_right {log : List (List Int)} (h : RightT log) : Fuel fuelM log := fuel_of _ _ (by have := measM_le fun t ht => (h.2 t ht).2; unfold fuelM; omega)
theorem mine_ok {log : List (List Int)} (h : (mineF log).2 = 0) : RightT log ∧ (mineF log).1 = mineF0 fuelM log ∧ wrongB (fuelM + 3) (mineF0 fuelM log) = 0 := by
  unfold mineF at *
  by_cases h1 : wrongT log = 0
  · rw [if_pos h1] at h ⊢
    by_cases h2 : wrongB (fuelM + 3) (mineF0 fuelM log) = 0
    · rw [if_pos h2]; exact ⟨(right_iff _).1 h1, rfl, h2⟩
    · rw [if_neg h2] at h; exact absurd h h2
  · rw [if_neg h1] at h; exact absurd h h1
/-- each label of the log is one step of what is found -/
theorem mine_once {log : List (List Int)} (h : (mineF log).2 = 0) (m : Nat) (hm : fuelM + 2 ≤ m) : sortI (stepsN m (mineF log).1) = (ofT log).1.labels ∧ (ofT log).2 = 0 := by
  obtain ⟨h1, h2, h3⟩ := mine_ok h
  rw [ofM_is ((right_iff _).2 h1), h2]
  exact ⟨sortI_is (find_once _ _ (fuel_right h1) m hm).symm (labM_sorted log), rfl⟩
end Go.Tok

namespace Go.Tok
set_option linter.unusedVariables false

theorem fold_inv {α β : Type} {f : β → α → β} {I : β → Prop} : ∀ {l : List α} {s : β}, (∀ s x, x ∈ l → I s → I (f s x)) → I s → I (l.foldl f s)
  | [], s, _, h => h
  | a :: l, s, hf, h => fold_inv (l := l) (s := f s a) (fun s x hx => hf s x (List.mem_cons_of_mem _ hx)) (hf s a (List.mem_cons_self ..) h)
theorem fold_has {α β : Type} {f : β → α → β} {I J : β → Prop} {x0 : α} : ∀ {l : List α} {s : β}, (∀ s x, x ∈ l → I s → I (f s x)) → (∀ s x, x ∈ l → I s → J s → J (f s x)) → (∀ s, I s → J (f s x0)) → x0 ∈ l → I s → J (l.foldl f s)
  | [], s, _, _, _, h, _ => by cases h
  | a :: l, s, hi, hj, h0, h, hs => by
    have hi' := fun s x hx => hi s x (List.mem_cons_of_mem a hx)
    have hj' := fun s x hx => hj s x (List.mem_cons_of_mem a hx)
    rw [List.foldl_cons]
    rcases List.mem_cons.1 h with rfl | h
    · have key : ∀ (l' : List α) (s : β), (∀ x ∈ l', x ∈ l) → I s → J s → J (l'.foldl f s) := by
        intro l'
        induction l' with
        | nil => intro s _ _ h; exact h
        | cons b r ih => intro s hl h1 h2; exact ih _ (fun x hx => hl x (List.mem_cons_of_mem _ hx)) (hi' s b (hl b (List.mem_cons_self ..)) h1) (hj' s b (hl b (List.mem_cons_self ..)) h1 h2)
      exact key l _ (fun _ h => h) (hi s x0 (List.mem_cons_self ..) hs) (h0 s hs)
    · exact fold_has hi' hj' h0 h (hi s a (List.mem_cons_self ..) hs)
/-- s has grown out of s0 by ways over k -/
def LeadI (ls : List Int) (k : Int) (s0 s : List (Int × Int)) : Prop := (∀ x, x ∈ s0 → x ∈ s) ∧ ∀ x y, (x, y) ∈ s → (x, y) ∈ s0 ∨ ((x ∈ ls ∧ y ∈ ls) ∧ (x, k) ∈ s0 ∧ (k, y) ∈ s0)
theorem lead_l {ls : List Int} {k : Int} {s0 s : List (Int × Int)} (h : LeadI ls k s0 s) (x : Int) : (x, k) ∈ s ↔ (x, k) ∈ s0 :=
  ⟨fun hx => (h.2 x k hx).elim id fun h => h.2.1, h.1 _⟩
theorem lead_r {ls : List Int} {k : Int} {s0 s : List (Int × Int)} (h : LeadI ls k s0 s) (y : Int) : (k, y) ∈ s ↔ (k, y) ∈ s0 :=
  ⟨fun hx => (h.2 k y hx).elim id fun h => h.2.2, h.1 _⟩
theorem leadB_inv {ls : List Int} {k a b : Int} {s0 s : List (Int × Int)} (ha : a ∈ ls) (hb : b ∈ ls) (h : LeadI ls k s0 s) : LeadI ls k s0 (leadB k a s b) := by
  unfold leadB
  by_cases hc : (hasP s a k && hasP s k b) = true
  · rw [if_pos hc]
    rw [Bool.and_eq_true, hasP_iff, hasP_iff, lead_l h, lead_r h] at hc
    refine ⟨fun x hx => mem_ins.2 (.inl (h.1 x hx)), fun x y hxy => ?_⟩
    rcases mem_ins.1 hxy with h1 | h1
    · exact h.2 x y h1
    · cases h1
      exact .inr ⟨⟨ha, hb⟩, hc⟩
  · rw [if_neg hc]; exact h
theorem leadB_has {ls : List Int} {k a b : Int} {s0 s : List (Int × Int)} (h : LeadI ls k s0 s) (h1 : (a, k) ∈ s0) (h2 : (k, b) ∈ s0) : (a, b) ∈ leadB k a s b := by
  unfold leadB
  rw [if_pos (by rw [Bool.and_eq_true, hasP_iff, hasP_iff, lead_l h, lead_r h]; exact ⟨h1, h2⟩)]
  exact mem_ins.2 (.inr rfl)
theorem leadB_mono {k a b : Int} {s : List (Int × Int)} {x : Int × Int} (h : x ∈ s) : x ∈ leadB k a s b := by
  unfold leadB
  split
  · exact mem_ins.2 (.inl h)
  · exact h
theorem leadA_inv {ls : List Int} {k a : Int} {s0 s : List (Int × Int)} (ha : a ∈ ls) (h : LeadI ls k s0 s) : LeadI ls k s0 (leadA ls k s a) := fold_inv (fun s x hx => leadB_inv ha hx) h
theorem leadA_mono {ls : List Int} {k a : Int} {s : List (Int × Int)} {x : Int × Int} (h : x ∈ s) : x ∈ leadA ls k s a := fold_inv (I := fun s => x ∈ s) (fun s y _ h => leadB_mono h) h
theorem leadK_inv {ls : List Int} {k : Int} (s : List (Int × Int)) : LeadI ls k s (leadK ls s k) := fold_inv (I := LeadI ls k s) (fun s' x hx => leadA_inv hx) ⟨fun _ h => h, fun _ _ h => .inl h⟩
theorem leadK_has {ls : List Int} {k a b : Int} {s : List (Int × Int)} (ha : a ∈ ls) (hb : b ∈ ls) (h1 : (a, k) ∈ s) (h2 : (k, b) ∈ s) : (a, b) ∈ leadK ls s k := by
  refine fold_has (I := LeadI ls k s) (J := fun s' => (a, b) ∈ s') (x0 := a) (fun s' x hx => leadA_inv hx) (fun s' x _ _ h => leadA_mono h) (fun s' hs => ?_) ha ⟨fun _ h => h, fun _ _ h => .inl h⟩
  exact fold_has (I := LeadI ls k s) (J := fun s' => (a, b) ∈ s') (x0 := b) (fun s' x hx => leadB_inv ha hx) (fun s' x _ _ h => leadB_mono h) (fun s' hs => leadB_has hs h1 h2) hb hs
theorem leadK_iff {ls : List Int} {k a b : Int} {s : List (Int × Int)} : (a, b) ∈ leadK ls s k ↔ (a, b) ∈ s ∨ ((a ∈ ls ∧ b ∈ ls) ∧ (a, k) ∈ s ∧ (k, b) ∈ s) := by
  constructor
  · exact (leadK_inv s).2 a b
  · rintro (h | ⟨⟨ha, hb⟩, h1, h2⟩)
    · exact (leadK_inv s).1 _ h
    · exact leadK_has ha hb h1 h2
/-- all is among the labels; ways over the labels of K are taken up -/
def Clo1 (ls K : List Int) (s : List (Int × Int)) : Prop := (∀ a b, (a, b) ∈ s → a ∈ ls ∧ b ∈ ls) ∧ ∀ k ∈ K, ∀ a b, (a, k) ∈ s → (k, b) ∈ s → (a, b) ∈ s
theorem clo_step {ls K : List Int} {s : List (Int × Int)} {k0 : Int} (h : Clo1 ls K s) : Clo1 ls (k0 :: K) (leadK ls s k0) := by
  refine ⟨fun a b hab => ?_, fun k hk a b h1 h2 => ?_⟩
  · rcases leadK_iff.1 hab with h1 | h1
    · exact h.1 a b h1
    · exact h1.1
  · have hl : ∀ x y, (x, y) ∈ leadK ls s k0 → x ∈ ls ∧ y ∈ ls := fun x y hxy => by
      rcases leadK_iff.1 hxy with h1 | h1
      · exact h.1 x y h1
      · exact h1.1
    have ha := (hl a k h1).1
    have hb := (hl k b h2).2
    rw [leadK_iff]
    rcases List.mem_cons.1 hk with rfl | hk
    · have e1 : (a, k) ∈ s := by
        rcases leadK_iff.1 h1 with h3 | h3
        · exact h3
        · exact h3.2.1
      have e2 : (k, b) ∈ s := by
        rcases leadK_iff.1 h2 with h3 | h3
        · exact h3
        · exact h3.2.2
      exact .inr ⟨⟨ha, hb⟩, e1, e2⟩
    · rcases leadK_iff.1 h1 with h3 | ⟨_, h3, h4⟩
      · rcases leadK_iff.1 h2 with h5 | ⟨_, h5, h6⟩
        · exact .inl (h.2 k hk a b h3 h5)
        · exact .inr ⟨⟨ha, hb⟩, h.2 k hk a k0 h3 h5, h6⟩
      · rcases leadK_iff.1 h2 with h5 | ⟨_, h5, h6⟩
        · exact .inr ⟨⟨ha, hb⟩, h3, h.2 k hk k0 b h4 h5⟩
        · exact .inr ⟨⟨ha, hb⟩, h3, h6⟩
theorem clo_fold {ls : List Int} : ∀ (l K : List Int) (s : List (Int × Int)), Clo1 ls K s → Clo1 ls (l.reverse ++ K) (l.foldl (leadK ls) s)
  | [], K, s, h => h
  | k :: l, K, s, h => by
    have := clo_fold l (k :: K) _ (clo_step (k0 := k) h)
    rw [List.foldl_cons, List.reverse_cons, List.append_assoc]
    exact this
theorem mem_foldins {α : Type} [DecidableEq α] : ∀ (l : List α) (s : List α) (x : α), x ∈ l.foldl ins s ↔ x ∈ s ∨ x ∈ l
  | [], s, x => by simp
  | a :: l, s, x => by
    rw [List.foldl_cons, mem_foldins l, mem_ins, List.mem_cons, or_assoc]
/-- what leads to what, of a log -/
structure LeadsP (log : List (List Int)) (s : List (Int × Int)) : Prop where
  lab : ∀ a b, (a, b) ∈ s → a ∈ (ofM log).labels ∧ b ∈ (ofM log).labels
  beh : ∀ x, x ∈ (ofM log).behind → x ∈ s
  trans : ∀ a b c, (a, b) ∈ s → (b, c) ∈ s → (a, c) ∈ s
theorem leads_p (log : List (List Int)) : LeadsP log (leadsF (ofM log)) := by
  have h0 : Clo1 (ofM log).labels [] ((ofM log).behind.foldl ins []) := by
    refine ⟨fun a b h => ?_, fun k hk => by cases hk⟩
    rcases (mem_foldins _ _ _).1 h with h | h
    · cases h
    · obtain ⟨t, ht, j, hj, e⟩ := behM.1 h
      injection e with e1 e2
      exact ⟨labM.2 ⟨t, ht, mem_nth.2 ⟨j, by omega, e1⟩⟩, labM.2 ⟨t, ht, mem_nth.2 ⟨j + 1, hj, e2⟩⟩⟩
  have h1 := clo_fold (ofM log).labels [] _ h0
  refine ⟨h1.1, fun x hx => ?_, fun a b c hab hbc => h1.2 b (by simp; exact (h1.1 a b hab).2) a c hab hbc⟩
  refine fold_inv (I := fun s => x ∈ s) (fun s k _ h => (leadK_inv s).1 x h) ?_
  exact (mem_foldins _ _ _).2 (.inr hx)
/-- each of g leads to each of h, and not back -/
def AheadG (s : List (Int × Int)) (g h : List Int) : Prop := ∀ a ∈ g, ∀ b ∈ h, hasP s a b = true ∧ hasP s b a = false
/-- groups in which it is no matter which one is asked -/
structure OneWay (s : List (Int × Int)) (gs : List (List Int)) : Prop where
  ne : ∀ g ∈ gs, g ≠ []
  tot : gs.Pairwise fun g h => AheadG s g h ∨ AheadG s h g
  trans : ∀ a b c, (a, b) ∈ s → (b, c) ∈ s → (a, c) ∈ s
theorem head_mem {g : List Int} (h : g ≠ []) : nth g 0 ∈ g := mem_nth.2 ⟨0, List.length_pos_iff.2 h, rfl⟩
theorem ahead_trans {s : List (Int × Int)} {g h k : List Int} (ht : ∀ a b c, (a, b) ∈ s → (b, c) ∈ s → (a, c) ∈ s) (hn : h ≠ []) (h1 : AheadG s g h) (h2 : AheadG s h k) : AheadG s g k := by
  intro a ha b hb
  have m := head_mem hn
  have e1 := hasP_iff.1 (h1 a ha _ m).1
  have e2 := hasP_iff.1 (h2 _ m b hb).1
  refine ⟨hasP_iff.2 (ht _ _ _ e1 e2), ?_⟩
  cases hc : hasP s b a with
  | false => rfl
  | true =>
    have := hasP_iff.2 (ht _ _ _ (hasP_iff.1 hc) e1)
    rw [(h2 _ m b hb).2] at this; cases this
theorem insG_ahead {s : List (Int × Int)} (ht : ∀ a b c, (a, b) ∈ s → (b, c) ∈ s → (a, c) ∈ s) {x : List Int} (hx : x ≠ []) : ∀ {l : List (List Int)}, (∀ g ∈ l, g ≠ []) → (∀ g ∈ l, AheadG s x g ∨ AheadG s g x) → l.Pairwise (AheadG s) → (insG s x l).Pairwise (AheadG s)
  | [], _, _, _ => List.pairwise_singleton _ _
  | y :: r, hn, hc, hp => by
    have hy := hn y (List.mem_cons_self ..)
    unfold insG
    by_cases h : hasP s (nth x 0) (nth y 0) = true
    · rw [if_pos h]
      have hxy : AheadG s x y := by
        rcases hc y (List.mem_cons_self ..) with h1 | h1
        · exact h1
        · have := (h1 _ (head_mem hy) _ (head_mem hx)).2
          rw [h] at this; cases this
      refine List.pairwise_cons.2 ⟨fun z hz => ?_, hp⟩
      rcases List.mem_cons.1 hz with rfl | hz
      · exact hxy
      · exact ahead_trans ht hy hxy (List.rel_of_pairwise_cons hp hz)
    · rw [if_neg h]
      have hyx : AheadG s y x := by
        rcases hc y (List.mem_cons_self ..) with h1 | h1
        · exact absurd (h1 _ (head_mem hx) _ (head_mem hy)).1 h
        · exact h1
      refine List.pairwise_cons.2 ⟨fun z hz => ?_, insG_ahead ht hx (fun g hg => hn g (List.mem_cons_of_mem _ hg)) (fun g hg => hc g (List.mem_cons_of_mem _ hg)) (List.Pairwise.of_cons hp)⟩
      rcases List.mem_cons.1 ((insG_perm s x r).mem_iff.1 hz) with rfl | hz
      · exact hyx
      · exact List.rel_of_pairwise_cons hp hz
theorem sortG_ahead {s : List (Int × Int)} : ∀ {gs : List (List Int)}, OneWay s gs → (sortG s gs).Pairwise (AheadG s)
  | [], _ => List.Pairwise.nil
  | x :: r, h => by
    have hr : OneWay s r := ⟨fun g hg => h.ne g (List.mem_cons_of_mem _ hg), List.Pairwise.of_cons h.tot, h.trans⟩
    refine insG_ahead h.trans (h.ne x (List.mem_cons_self ..)) (fun g hg => hr.ne g ((sortG_perm s r).mem_iff.1 hg)) (fun g hg => List.rel_of_pairwise_cons h.tot ((sortG_perm s r).mem_iff.1 hg)) (sortG_ahead hr)
theorem beq_no {a b : Bool} (h : (a == b || b == a) = false) : (a = true ∧ b = false) ∨ (a = false ∧ b = true) := by
  cases a <;> cases b <;> simp at h ⊢
/-- what goes over from linked to linked goes over the whole group -/
theorem group_ind (lk : Int → Int → Bool) (P : Int → Prop) (C : Int → Prop) (step : ∀ x y, C x → C y → P x → lk2 lk x y = true → P y) : ∀ (n : Nat) (g : List Int) (k : Nat) (l : List Int), (∀ x ∈ g, P x) → (∀ x ∈ g, C x) → (∀ x ∈ l, C x) → ∀ x ∈ (groupF lk n g k l).1, P x := by
  intro n
  induction n with
  | zero => intro g k l h _ _ x hx; exact h x hx
  | succ n ih =>
    intro g k l h hc hl
    unfold groupF
    by_cases hk : k < g.length
    · rw [if_pos hk]
      have hm : nth g k ∈ g := mem_nth.2 ⟨k, hk, rfl⟩
      refine ih _ _ _ (fun x hx => ?_) (fun x hx => ?_) (fun x hx => hl x (List.mem_filter.1 hx).1)
      · rcases List.mem_append.1 hx with hx | hx
        · exact h x hx
        · obtain ⟨h1, h2⟩ := List.mem_filter.1 hx
          exact step _ x (hc _ hm) (hl x h1) (h _ hm) h2
      · rcases List.mem_append.1 hx with hx | hx
        · exact hc x hx
        · exact hl x (List.mem_filter.1 hx).1
    · rw [if_neg hk]; exact h
theorem groups_ind (lk : Int → Int → Bool) (C : Int → Prop) : ∀ (n : Nat) (l : List Int), (∀ x ∈ l, C x) → ∀ g ∈ groupsF lk n l, ∃ a ∈ g, ∀ P : Int → Prop, P a → (∀ x y, C x → C y → P x → lk2 lk x y = true → P y) → ∀ x ∈ g, P x := by
  intro n
  induction n with
  | zero => intro l _ g hg; cases hg
  | succ n ih =>
    intro l hl g hg
    cases l with
    | nil => cases hg
    | cons a l =>
      unfold groupsF at hg
      have hl' : ∀ x ∈ l, C x := fun x hx => hl x (List.mem_cons_of_mem _ hx)
      rcases List.mem_cons.1 hg with rfl | hg
      · obtain ⟨r, hr⟩ := group_head lk (l.length + 1) [a] 0 l
        refine ⟨a, (isI_perm _).mem_iff.2 (by rw [hr]; simp), fun P hP hs x hx => ?_⟩
        exact group_ind lk P C hs (l.length + 1) [a] 0 l (fun y hy => by rw [List.mem_singleton.1 hy]; exact hP) (fun y hy => by rw [List.mem_singleton.1 hy]; exact hl a (List.mem_cons_self ..)) hl' x ((isI_perm _).mem_iff.1 hx)
      · refine ih _ (fun x hx => hl x ?_) g hg
        have := (group_perm lk (l.length + 1) [a] 0 l).mem_iff.1 (List.mem_append_right _ hx)
        simpa using this
/-- neither both nor none -/
def OneOf (s : List (Int × Int)) (a b : Int) : Prop := (hasP s a b = true ∧ hasP s b a = false) ∨ (hasP s a b = false ∧ hasP s b a = true)
theorem OneOf.swap {s : List (Int × Int)} {a b : Int} (h : OneOf s a b) : OneOf s b a := h.elim (fun h => .inr ⟨h.2, h.1⟩) fun h => .inl ⟨h.2, h.1⟩
/-- all of a group see a label outside alike -/
theorem one_side {s : List (Int × Int)} {ls : List Int} (ht : ∀ a b c, (a, b) ∈ s → (b, c) ∈ s → (a, c) ∈ s) {g : List Int} {b : Int}
    (hg : g ∈ groupsF (fun a b => hasP s a b == hasP s b a) ls.length ls) (hone : ∀ a ∈ g, OneOf s a b) : (∀ x ∈ g, hasP s x b = true) ∨ ∀ x ∈ g, hasP s x b = false := by
  have hG : Grps (fun a b => hasP s a b == hasP s b a) ls (groupsF (fun a b => hasP s a b == hasP s b a) ls.length ls) := grps _ _
  obtain ⟨a, ha, hind⟩ := groups_ind (fun a b => hasP s a b == hasP s b a) (fun x => x ∈ ls) ls.length ls (fun x hx => hx) g hg
  have sym : ∀ x y, lk2 (fun a b => hasP s a b == hasP s b a) x y = true → hasP s x y = hasP s y x := fun x y h => by
    unfold lk2 at h
    rcases Bool.or_eq_true_iff.1 h with h | h
    · exact beq_iff_eq.1 h
    · exact (beq_iff_eq.1 h).symm
  have back : ∀ x y, x ∈ ls → y ∈ g → lk2 (fun a b => hasP s a b == hasP s b a) x y = true → x ∈ g := fun x y hx hy h => by
    obtain ⟨g', hg', hx'⟩ := hG.grp hx
    rw [← hG.same hg' hg hx' hy h]; exact hx'
  have tr : ∀ x y z, hasP s x y = true → hasP s y z = true → hasP s x z = true := fun x y z h1 h2 => hasP_iff.2 (ht x y z (hasP_iff.1 h1) (hasP_iff.1 h2))
  cases h0 : hasP s a b with
  | true =>
    left
    intro x hx
    refine hind (fun x => x ∈ g → hasP s x b = true) (fun _ => h0) (fun x y hx hy hP hl hyg => ?_) x hx hx
    have hxg := back x y hx hyg hl
    have h1 := hP hxg
    rcases hone y hyg with h2 | h2
    · exact h2.1
    · have h3 := tr x b y h1 h2.2
      rw [sym x y hl] at h3
      exact tr y x b h3 h1
  | false =>
    right
    intro x hx
    refine hind (fun x => x ∈ g → hasP s x b = false) (fun _ => h0) (fun x y hx hy hP hl hyg => ?_) x hx hx
    have hxg := back x y hx hyg hl
    have h1 := hP hxg
    rcases hone y hyg with h2 | h2
    · rcases hone x hxg with h3 | h3
      · rw [h1] at h3; cases h3.1
      · have h4 := tr y b x h2.1 h3.2
        rw [← sym x y hl] at h4
        have h5 := tr x y b h4 h2.1
        rw [h1] at h5; cases h5
    · exact h2.1
theorem order_ways (log : List (List Int)) : OneWay (leadsF (ofM log)) (orderG (ofM log)) := by
  have hl := leads_p log
  have hG : Grps (fun a b => hasP (leadsF (ofM log)) a b == hasP (leadsF (ofM log)) b a) (ofM log).labels (orderG (ofM log)) := grps _ _
  refine ⟨hG.ne, ?_, hl.trans⟩
  generalize hs : leadsF (ofM log) = s at *
  have hog : orderG (ofM log) = groupsF (fun a b => hasP s a b == hasP s b a) (ofM log).labels.length (ofM log).labels := by unfold orderG; rw [hs]
  refine hG.apart.imp_of_mem fun {g h} hg hh hp => ?_
  have hone : ∀ a ∈ g, ∀ b ∈ h, OneOf s a b := fun a ha b hb => beq_no (hp a ha b hb)
  rw [hog] at hg hh
  have h1 : ∀ b ∈ h, (∀ x ∈ g, hasP s x b = true) ∨ ∀ x ∈ g, hasP s x b = false := fun b hb => one_side hl.trans hg fun a ha => hone a ha b hb
  have h2 : ∀ a ∈ g, (∀ x ∈ h, hasP s x a = true) ∨ ∀ x ∈ h, hasP s x a = false := fun a ha => one_side hl.trans hh fun b hb => (hone a ha b hb).swap
  have m1 := head_mem (hG.ne g (by rw [hog]; exact hg))
  have m2 := head_mem (hG.ne h (by rw [hog]; exact hh))
  rcases h1 _ m2 with h3 | h3
  · left
    intro a ha b hb
    have h5 : hasP s b a = false := by
      rcases h2 a ha with h4 | h4
      · have h6 := h4 _ m2
        rcases hone a ha _ m2 with h7 | h7
        · rw [h6] at h7; cases h7.2
        · have := h3 a ha
          rw [h7.1] at this; cases this
      · exact h4 b hb
    rcases hone a ha b hb with h7 | h7
    · exact h7
    · rw [h5] at h7; cases h7.2
  · right
    intro b hb a ha
    have h5 : hasP s b a = true := by
      rcases h2 a ha with h4 | h4
      · exact h4 b hb
      · have h6 := h4 _ m2
        rcases hone a ha _ m2 with h7 | h7
        · have := h3 a ha
          rw [h7.1] at this; cases this
        · rw [h6] at h7; cases h7.2
    rcases hone a ha b hb with h7 | h7
    · rw [h5] at h7; cases h7.2
    · exact ⟨h7.2, h7.1⟩

end Go.Tok

