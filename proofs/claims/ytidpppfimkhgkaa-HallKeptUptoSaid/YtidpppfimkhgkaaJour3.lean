/- Contract of journal.Read: what bytes are read as. -/
import Derived.Test.YtidpppfimkhgkaaJour2
import Derived.Deep.RegionHeld3
import Derived.IntWalk
namespace Go.Proofs.Ytidpppfimkhgkaa
open Go.RowKit Go.Tok
set_option linter.unusedVariables false

theorem opTy : KTy Try.prog 72 59 opK 40 (.agg #[.int .i64 0, .int .i64 0, .int .i64 0, .int .i64 0, .int .i64 0]) := ⟨Try.underlying72, by kernel_rfl, rfl, by decide⟩

set_option maxHeartbeats 4000000 in
theorem Read_calls (v : Value) (b : List Nat) (n : Nat) (e : Int) (w : World) (hv : Rd byteK w v b) (hr : ReadsTo b n e) (hl : n * 40 ≤ 140737488355328) :
    Calls Try.prog 128 #[v] w fun x w' => ∃ u, x = .returned (.tuple #[u, .int .i64 (7 * (n : Int)), .int .i64 e]) ∧ OwnR opK 59 w.heap.size All w' u (opsTo b n) ∧ Gr w w' := by
  have hB : Bytes b := bytes_mk hv.bytes
  obtain ⟨a, cap, rfl, hlc, hcap⟩ := hv.len
  go_enter Try.func128, Try.ntmps128
  go_wp2_with fail
  go_loopw [5, 6] (fun out i wr => ∃ k : Nat, 7 * k ≤ b.length ∧ i = .int .i64 (7 * (k : Int)) ∧ GoodTo b k ∧ OwnR opK 59 w.heap.size All wr out (opsTo b k) ∧ Gr w wr) (fun _ i _ => b.length - (intOf i).toNat)
  case atStart => exact ⟨0, Nat.zero_le _, rfl, GoodTo.zero b, by rw [opsTo_zero]; exact OwnR.nil _ _ _ _, Gr.refl _⟩
  case round =>
    rename_i wr
    obtain ⟨k, hk, rfl, hg, ho, hgr⟩ := hrel
    by_cases hlt : 7 * k + 7 ≤ b.length
    · obtain ⟨b', o, rfl, c6, _⟩ := hv.byte (show 7 * k + 6 < b.length by omega)
      have hg0 := hv.sub (i := 7 * k) (m := 7) (c := cap - 7 * k) (o' := o + 7 * k) (by omega) (by omega) (by omega) (by show o + 7 * k = o + 7 * k * 1; omega)
      rw [← grp_def] at hg0
      have hl7 := grp_len (b := b) (j := k) hlt
      have h6 := hg0.sub (i := 0) (m := 6) (c := cap - 7 * k) (o' := o + 7 * k) (by omega) (by omega) (by omega) (by omega)
      rw [List.drop_zero] at h6
      have e7 : 7 * k + 7 - 7 * k = 7 := by omega
      obtain ⟨_, _, hb6, z6, _⟩ := hg0.byte (show 6 < (grp b k).length by omega)
      cases hb6
      have d6 := cell_gr z6 hgr
      have i1 : (6 : Int) < 7 := by omega
      have i2 : (6 : Int) ≤ ((cap - 7 * k : Nat) : Int) := by omega
      have i3 : 6 ≤ cap - 7 * k := by omega
      have i4 : (6 : Int) ≤ 7 := by omega
      have hgd := goodB_def (grp b k)
      have hl6 : ((grp b k).take 6).length ≤ 8 := by simp; omega
      cases hq : goodB (grp b k)
      · rw [hq] at hgd
        have q1 : (sumN ((grp b k).take 6) != ix (grp b k) 6) = true := by rw [bne, ← hgd]; rfl
        have q2 : (((sumN ((grp b k).take 6) : Nat) : Int) != ((ix (grp b k) 6 : Nat) : Int)) = true := by simpa [← Int.natCast_inj] using q1
        have HL := Lib.hid hl7
        have HG := Lib.hid hq
        clear hgd hl7 hq
        go_wp2_with fail
        go_region_held3 (fun w' => w'.cell? ⟨b', o + 7 * k + 6, none⟩ = some (.int .u8 ((ix (grp b k) 6 : Nat) : Int))) (first | go_keep | exact cell_gr d6 (by (repeat (first | exact Gr.refl _ | assumption | apply Gr.alloc | apply Gr.drew | apply Gr.drewN | refine Gr.trans ?_ (by assumption))))) (first | (go_at_call 160; (with_reducible refine (sum_calls _ ((grp b k).take 6) _ (h6.gr (by (repeat (first | exact Gr.refl _ | assumption | apply Gr.alloc | apply Gr.drew | apply Gr.drewN | refine Gr.trans ?_ (by assumption))))) hl6).mono ?_); rintro _ w5 ⟨rfl, rfl⟩))
        obtain ⟨hkn, he⟩ := hr.uniq (.bad k hg hlt HG.out)
        subst hkn he
        obtain ⟨oa, oc, hout, _, _⟩ := ho.len
        subst hout
        go_wp2_with fail
        refine bodyPost_ret (v := .tuple #[.slice oa (opsTo b n).length oc, .int .i64 (7 * (n : Int)), .int .i64 8]) (by simp [results, Try.results128, go_sem]) rfl ⟨_, rfl, ho.gr (by (repeat (first | exact Gr.refl _ | assumption | apply Gr.alloc | apply Gr.drew | apply Gr.drewN | refine Gr.trans ?_ (by assumption)))), by (repeat (first | exact Gr.refl _ | assumption | apply Gr.alloc | apply Gr.drew | apply Gr.drewN | refine Gr.trans ?_ (by assumption)))⟩
      · rw [hq] at hgd
        have q1 : (sumN ((grp b k).take 6) != ix (grp b k) 6) = false := by rw [bne, ← hgd]; rfl
        have q2 : (((sumN ((grp b k).take 6) : Nat) : Int) != ((ix (grp b k) 6 : Nat) : Int)) = false := by simpa [← Int.natCast_inj] using q1
        obtain ⟨_, _, hb6, z0, f0⟩ := hg0.byte (show 0 < (grp b k).length by omega)
        cases hb6
        rw [Nat.add_zero] at z0
        obtain ⟨_, _, hb6, z1, f1⟩ := hg0.byte (show 1 < (grp b k).length by omega)
        cases hb6
        obtain ⟨_, _, hb6, z2, f2⟩ := hg0.byte (show 2 < (grp b k).length by omega)
        cases hb6
        obtain ⟨_, _, hb6, z3, f3⟩ := hg0.byte (show 3 < (grp b k).length by omega)
        cases hb6
        obtain ⟨_, _, hb6, z4, f4⟩ := hg0.byte (show 4 < (grp b k).length by omega)
        cases hb6
        obtain ⟨_, _, hb6, z5, f5⟩ := hg0.byte (show 5 < (grp b k).length by omega)
        cases hb6
        have e8 := or_i64 f4 f5
        have d0 := cell_gr z0 hgr
        have d1 := cell_gr z1 hgr
        have d2 := cell_gr z2 hgr
        have d3 := cell_gr z3 hgr
        have d4 := cell_gr z4 hgr
        have d5 := cell_gr z5 hgr
        have HL := Lib.hid hl7
        have HG := Lib.hid hq
        clear hgd hl7 hq
        go_wp2_with fail
        go_region_held3 (fun w' => w'.cell? ⟨b', o + 7 * k + 6, none⟩ = some (.int .u8 ((ix (grp b k) 6 : Nat) : Int))) (first | go_keep | exact cell_gr d6 (by (repeat (first | exact Gr.refl _ | assumption | apply Gr.alloc | apply Gr.drew | apply Gr.drewN | refine Gr.trans ?_ (by assumption))))) (first | (go_at_call 160; (with_reducible refine (sum_calls _ ((grp b k).take 6) _ (h6.gr (by (repeat (first | exact Gr.refl _ | assumption | apply Gr.alloc | apply Gr.drew | apply Gr.drewN | refine Gr.trans ?_ (by assumption))))) hl6).mono ?_); rintro _ w5 ⟨rfl, rfl⟩))
        have hkn : k < n := hr.lt_of hg hlt HG.out
        have hle : ((opsTo b k).length + 1) * 40 ≤ 140737488355328 := by rw [opsTo_len]; omega
        have hle2 : (opsTo b k).length + 1 ≤ maxLen := by rw [opsTo_len]; unfold maxLen; omega
        have y0 : IntKind.i64.wrap ((ix (grp b k) 0 : Nat) : Int) = ((ix (grp b k) 0 : Nat) : Int) := IntWalk.i64_in _ (by omega)
        have y1 : IntKind.i64.wrap ((ix (grp b k) 1 : Nat) : Int) = ((ix (grp b k) 1 : Nat) : Int) := IntWalk.i64_in _ (by omega)
        have y2 : IntKind.i64.wrap ((ix (grp b k) 2 : Nat) : Int) = ((ix (grp b k) 2 : Nat) : Int) := IntWalk.i64_in _ (by omega)
        have y3 : IntKind.i64.wrap ((ix (grp b k) 3 : Nat) : Int) = ((ix (grp b k) 3 : Nat) : Int) := IntWalk.i64_in _ (by omega)
        have y4 : IntKind.i64.wrap ((ix (grp b k) 4 : Nat) : Int) = ((ix (grp b k) 4 : Nat) : Int) := IntWalk.i64_in _ (by omega)
        have y5 : IntKind.i64.wrap ((ix (grp b k) 5 : Nat) : Int) = ((ix (grp b k) 5 : Nat) : Int) := IntWalk.i64_in _ (by omega)
        have y6 : IntKind.i64.wrap (((ix (grp b k) 4 : Nat) : Int) * 256) = ((ix (grp b k) 4 : Nat) : Int) * 256 := IntWalk.i64_in _ (by omega)
        have hOI : opI (opOf (grp b k)) := opOf_I (grp_bytes hB k)
        go_wp2_with fail
        go_region_held3 (fun w' => w'.cell? ⟨b', o + 7 * k, none⟩ = some (.int .u8 ((ix (grp b k) 0 : Nat) : Int)) ∧ w'.cell? ⟨b', o + 7 * k + 1, none⟩ = some (.int .u8 ((ix (grp b k) 1 : Nat) : Int)) ∧ w'.cell? ⟨b', o + 7 * k + 2, none⟩ = some (.int .u8 ((ix (grp b k) 2 : Nat) : Int)) ∧ w'.cell? ⟨b', o + 7 * k + 3, none⟩ = some (.int .u8 ((ix (grp b k) 3 : Nat) : Int)) ∧ w'.cell? ⟨b', o + 7 * k + 4, none⟩ = some (.int .u8 ((ix (grp b k) 4 : Nat) : Int)) ∧ w'.cell? ⟨b', o + 7 * k + 5, none⟩ = some (.int .u8 ((ix (grp b k) 5 : Nat) : Int))) (first | go_keep | exact ⟨cell_gr z0 (hg4 w (Nat.le_refl _) (by (repeat (first | exact Gr.refl _ | assumption | apply Gr.alloc | apply Gr.drew | apply Gr.drewN | refine Gr.trans ?_ (by assumption))))), cell_gr z1 (hg4 w (Nat.le_refl _) (by (repeat (first | exact Gr.refl _ | assumption | apply Gr.alloc | apply Gr.drew | apply Gr.drewN | refine Gr.trans ?_ (by assumption))))), cell_gr z2 (hg4 w (Nat.le_refl _) (by (repeat (first | exact Gr.refl _ | assumption | apply Gr.alloc | apply Gr.drew | apply Gr.drewN | refine Gr.trans ?_ (by assumption))))), cell_gr z3 (hg4 w (Nat.le_refl _) (by (repeat (first | exact Gr.refl _ | assumption | apply Gr.alloc | apply Gr.drew | apply Gr.drewN | refine Gr.trans ?_ (by assumption))))), cell_gr z4 (hg4 w (Nat.le_refl _) (by (repeat (first | exact Gr.refl _ | assumption | apply Gr.alloc | apply Gr.drew | apply Gr.drewN | refine Gr.trans ?_ (by assumption))))), cell_gr z5 (hg4 w (Nat.le_refl _) (by (repeat (first | exact Gr.refl _ | assumption | apply Gr.alloc | apply Gr.drew | apply Gr.drewN | refine Gr.trans ?_ (by assumption)))))⟩ | exact ⟨cell_gr d0 (by (repeat (first | exact Gr.refl _ | assumption | apply Gr.alloc | apply Gr.drew | apply Gr.drewN | refine Gr.trans ?_ (by assumption)))), cell_gr d1 (by (repeat (first | exact Gr.refl _ | assumption | apply Gr.alloc | apply Gr.drew | apply Gr.drewN | refine Gr.trans ?_ (by assumption)))), cell_gr d2 (by (repeat (first | exact Gr.refl _ | assumption | apply Gr.alloc | apply Gr.drew | apply Gr.drewN | refine Gr.trans ?_ (by assumption)))), cell_gr d3 (by (repeat (first | exact Gr.refl _ | assumption | apply Gr.alloc | apply Gr.drew | apply Gr.drewN | refine Gr.trans ?_ (by assumption)))), cell_gr d4 (by (repeat (first | exact Gr.refl _ | assumption | apply Gr.alloc | apply Gr.drew | apply Gr.drewN | refine Gr.trans ?_ (by assumption)))), cell_gr d5 (by (repeat (first | exact Gr.refl _ | assumption | apply Gr.alloc | apply Gr.drew | apply Gr.drewN | refine Gr.trans ?_ (by assumption))))⟩) (first | (refine step_app_one opTy (by rfl) _ _ (by rfl) w.heap.size All _ (opsTo b k) ⟨wr.heap.size, 0, none⟩ (opOf (grp b k)) (opCells (opOf (grp b k))) (by rfl) (by rfl) (ho.gr (by (repeat (first | exact Gr.refl _ | assumption | apply Gr.alloc | apply Gr.drew | apply Gr.drewN | refine Gr.trans ?_ (by assumption))))) (by rw [opOf_cells]; exact block_news (by rfl)) (on_op hOI) hle hle2 (Gr.le (by (repeat (first | exact Gr.refl _ | assumption | apply Gr.alloc | apply Gr.drew | apply Gr.drewN | refine Gr.trans ?_ (by assumption))))) ?_; intro g cp w4 ho4 hg4 _ _ _))
        clear y0 y1 y2 y3 y4 y5 y6 e8
        go_wp2_with fail
        go_roundw
        case rel => exact ⟨k + 1, by omega, by go_num, hg.succ HG.out, by rw [opsTo_succ]; exact ho4, hg4 w (Nat.le_refl _) (by (repeat (first | exact Gr.refl _ | assumption | apply Gr.alloc | apply Gr.drew | apply Gr.drewN | refine Gr.trans ?_ (by assumption))))⟩
        case measure => simp [intOf]; omega
    · obtain ⟨hkn, he⟩ := hr.uniq (.all k hg (by omega) hk)
      subst hkn he
      obtain ⟨oa, oc, hout, _, _⟩ := ho.len
      subst hout
      go_wp2_with fail
      refine bodyPost_ret (v := .tuple #[.slice oa (opsTo b n).length oc, .int .i64 (7 * (n : Int)), .int .i64 0]) (by simp [results, Try.results128, go_sem]) rfl ⟨_, rfl, ho, hgr⟩
end Go.Proofs.Ytidpppfimkhgkaa
