/- Texts of one family, joined; what the claim does not need is left out. -/
import Derived.Test.YtagdccgbcmnehaaGreatQMRk
import Derived.Test.YtagdccgbcmnehaaGreatQMRh
import Derived.Test.YtagdccgbcmnehaaGreatQMRc
namespace Go.Proofs.YtagdccgbcmnehaaGreat
open Go.RowKit Go.Tok
set_option linter.unusedVariables false
theorem BlkF.cellsA {base : Nat} {w : World} {a1 a2 a3 : Value} {b : BlockD} (h : BlkF base w (.agg #[a1, a2, a3]) b) : On (fun x => base ≤ x) (fun W => blkW.R W [a1, a2, a3] b) w := by
  unfold BlkF at h
  refine On.imp h fun W h => ?_
  obtain ⟨n, s, h1, h2, h3, h4⟩ := h
  have := congrArg (fun v => match v with | Value.agg cs => cs.toList | _ => []) h1
  simp at this
  obtain ⟨rfl, rfl, rfl⟩ := this
  exact ⟨n + 1, _, rfl, h2, h3, h4⟩
/-- a block around a literal of two blocks -/
theorem BlkF.lit2 {m : Nat} {w : World} {k : Int} {x y : BlockD} {a1 a2 a3 b1 b2 b3 : Value} (hx : BlkF m w (.agg #[a1, a2, a3]) x) (hy : BlkF m w (.agg #[b1, b2, b3]) y) (hm : m ≤ w.heap.size) (hk : I64 k) :
    BlkF m (w.alloc (.cells #[a1, a2, a3, b1, b2, b3] 55)) (.agg #[.int .i64 k, .int .i64 0, .slice (some ⟨w.heap.size, 0, none⟩) 2 2]) (manyD k [x, y]) := by
  refine BlkF.of (base := w.heap.size) (S := fun b => m ≤ b) ?_ hk (fun b hb => hb) hm
  refine OwnR.lit [(x, [a1, a2, a3]), (y, [b1, b2, b3])] rfl rfl rfl rfl rfl (by simp) (Nat.le_refl _) fun r hr => ?_
  rcases List.mem_cons.1 hr with rfl | hr
  · exact hx.cellsA.mono fun b hb h => ⟨h, by omega⟩
  · rw [List.mem_singleton.1 hr]
    exact hy.cellsA.mono fun b hb h => ⟨h, by omega⟩
theorem store3 {w : World} {H : Nat} {t : TypeId} {x y z : Value} (r : Blk w H t #[x, y, z]) (a b c : Value) :
    w.cell? ⟨H, 0, none⟩ = some x ∧ w.frozen? ⟨H, 0, none⟩ = false ∧ (w.setCell ⟨H, 0, none⟩ a).cell? ⟨H, 1, none⟩ = some y ∧ (w.setCell ⟨H, 0, none⟩ a).frozen? ⟨H, 1, none⟩ = false ∧
    ((w.setCell ⟨H, 0, none⟩ a).setCell ⟨H, 1, none⟩ b).cell? ⟨H, 2, none⟩ = some z ∧ ((w.setCell ⟨H, 0, none⟩ a).setCell ⟨H, 1, none⟩ b).frozen? ⟨H, 2, none⟩ = false ∧
    Blk (((w.setCell ⟨H, 0, none⟩ a).setCell ⟨H, 1, none⟩ b).setCell ⟨H, 2, none⟩ c) H t #[a, b, c] := by
  have r1 := r.set 0 a
  have r2 := r1.set 1 b
  have r3 := r2.set 2 c
  exact ⟨r.cell (i := 0) rfl, r.frozen 0, r1.cell (i := 1) rfl, r1.frozen 1, r2.cell (i := 2) rfl, r2.frozen 2, r3⟩
/-- other cells at a store of three -/
theorem store3_other {w : World} {H G : Nat} {t : TypeId} {cs : Array Value} (k : Blk w G t cs) (hne : G ≠ H) (a b c : Value) : Blk (((w.setCell ⟨H, 0, none⟩ a).setCell ⟨H, 1, none⟩ b).setCell ⟨H, 2, none⟩ c) G t cs :=
  ((k.other (a := ⟨H, 0, none⟩) hne a).other (a := ⟨H, 1, none⟩) hne b).other (a := ⟨H, 2, none⟩) hne c
theorem store3_gr {w0 w : World} {H : Nat} (g : Gr w0 w) (h : w0.heap.size ≤ H) (a b c : Value) : Gr w0 (((w.setCell ⟨H, 0, none⟩ a).setCell ⟨H, 1, none⟩ b).setCell ⟨H, 2, none⟩ c) :=
  ((g.setCell (p := ⟨H, 0, none⟩) h a).setCell (p := ⟨H, 1, none⟩) h b).setCell (p := ⟨H, 2, none⟩) h c
theorem store3_blk {m : Nat} {w : World} {H : Nat} {v : Value} {x : BlockD} (f : BlkF m w v x) (h : H < m) (a b c : Value) : BlkF m (((w.setCell ⟨H, 0, none⟩ a).setCell ⟨H, 1, none⟩ b).setCell ⟨H, 2, none⟩ c) v x :=
  ((f.kp (set_kp (a := ⟨H, 0, none⟩) (fun e => by have e' : m ≤ H := e; omega) a)).kp (set_kp (a := ⟨H, 1, none⟩) (fun e => by have e' : m ≤ H := e; omega) b)).kp (set_kp (a := ⟨H, 2, none⟩) (fun e => by have e' : m ≤ H := e; omega) c)
theorem find_zero : FindOk 0 := fun v log w hv hr h => h.elim
theorem full_ne {log : List (List Int)} : ∀ t ∈ fullF log, t ≠ [] := fun t ht e => (mem_full.1 ht).2 (by rw [e]; rfl)
theorem labs_there {full : List (List Int)} (h : ¬ full.length = 0) (hf : ∀ t ∈ full, t ≠ []) : (ofM full).labels ≠ [] := by
  cases full with
  | nil => exact absurd rfl h
  | cons t r =>
    intro e
    have : nth t 0 ∈ (ofM (t :: r)).labels := labM.2 ⟨t, List.mem_cons_self .., head_mem (hf t (List.mem_cons_self ..))⟩
    rw [e] at this; cases this
theorem cutP_none {p : PrintD} {full : List (List Int)} (h1 : p.labels.length ≠ 1) : cutP p full = match chooseF p full with | some ls => .node 4 ls | none => match orderF p full with | some ls => .node 3 ls | none => match besideF p full with | some ls => .node 5 ls | none => .leaf (flowerD p) := by
  unfold cutP; rw [if_neg h1]; rfl
theorem mineF0_succ (n : Nat) (log : List (List Int)) : mineF0 (n + 1) log = match cutF log with | .leaf b => b | .opt l => manyD 4 [silentD, mineF0 n l] | .node k ls => manyD k (ls.map (mineF0 n)) := rfl
theorem fuel_succ (n : Nat) (log : List (List Int)) : Fuel (n + 1) log = match cutF log with | .leaf _ => True | .opt l => Fuel n l | .node _ ls => ∀ l ∈ ls, Fuel n l := rfl
theorem cutF_zero {log : List (List Int)} (h : (fullF log).length = 0) : cutF log = .leaf silentD := by unfold cutF; rw [if_pos h]
theorem cutF_opt {log : List (List Int)} (h : ¬ (fullF log).length = 0) (h2 : (fullF log).length < log.length) : cutF log = .opt (fullF log) := by unfold cutF; rw [if_neg h, if_pos h2]
theorem cutF_cut {log : List (List Int)} (h : ¬ (fullF log).length = 0) (h2 : ¬ (fullF log).length < log.length) : cutF log = cutP (ofM (fullF log)) (fullF log) := by unfold cutF; rw [if_neg h, if_neg h2]
theorem choose_at (n : Nat) (hF : FindOk n) (v : Value) (log : List (List Int)) (p : PrintD) (w : World) (hp : p = ofM log) (hv : LogV w v log p) (hr : RightT log) (hne : ∀ t ∈ log, t ≠ []) (hfu : ∀ ls, chooseF p log = some ls → ∀ l ∈ ls, Fuel n l) :
    Calls Tryz.prog 113 #[v] w (RetCut n 4 (chooseF p log) w) := by subst hp; exact choose_calls n hF v log w hv hr hne hfu
theorem order_at (n : Nat) (hF : FindOk n) (v : Value) (log : List (List Int)) (p : PrintD) (w : World) (hp : p = ofM log) (hv : LogV w v log p) (hr : RightT log) (hfu : ∀ ls, orderF p log = some ls → ∀ l ∈ ls, Fuel n l) :
    Calls Tryz.prog 114 #[v] w (RetCut n 3 (orderF p log) w) := by subst hp; exact order_calls n hF v log w hv hr hfu
theorem beside_at (n : Nat) (hF : FindOk n) (v : Value) (log : List (List Int)) (p : PrintD) (w : World) (hp : p = ofM log) (hv : LogV w v log p) (hr : RightT log) (hfu : ∀ ls, besideF p log = some ls → ∀ l ∈ ls, Fuel n l) :
    Calls Tryz.prog 115 #[v] w (RetCut n 5 (besideF p log) w) := by subst hp; exact beside_calls n hF v log w hv hr hfu
set_option maxHeartbeats 4000000 in
set_option maxRecDepth 100000 in
theorem find_step (n : Nat) (hF : FindOk n) : FindOk (n + 1) := by
  intro v log w hv hr hfu
  obtain ⟨va, vc, rfl, _, _⟩ := hv.len
  have r0 : Blk (w.alloc (.cells #[.int .i64 0, .int .i64 0, .slice none 0 0] 55)) w.heap.size 55 #[.int .i64 0, .int .i64 0, .slice none 0 0] := Blk.new rfl
  have G0 : Gr w (w.alloc (.cells #[.int .i64 0, .int .i64 0, .slice none 0 0] 55)) := (Gr.refl _).alloc _
  have hsz0 : (w.alloc (.cells #[.int .i64 0, .int .i64 0, .slice none 0 0] 55)).heap.size = w.heap.size + 1 := by simp
  have HSZ := Lib.hid hsz0
  have HCl := Lib.hid (CloneRow_calls _ log _ (hv.gr G0) (by have := hr.1; omega))
  have HFU := Lib.hid hfu
  have HRT := Lib.hid hr
  clear hsz0 hv hfu hr
  go_enter Tryz.func55, Tryz.ntmps55
  go_wp2_with fail
  refine HCl.out.mono ?_
  rintro _ w2 ⟨v2, rfl, o2, g2⟩
  obtain ⟨a2, c2, rfl, _, _⟩ := o2.len
  have HD := Lib.hid (DeleteFuncR_calls _ _ _ log 106 #[] (fun t => decide (t.length = 0)) _ w2 (fun args w => by kernel_rfl) o2 g2 (Nat.le_refl _) (fun g _ W u x _ _ hu => find1_calls u x W hu))
  clear HCl o2 g2
  go_wp2_with fail
  refine HD.out.mono ?_
  rintro _ w3 ⟨v3, rfl, R3, g3⟩
  obtain ⟨full, hfl⟩ : ∃ full, full = fullF log := ⟨_, rfl⟩
  have e3 : (log.filter fun x => !decide (x.length = 0)) = full := by rw [hfl]; rfl
  rw [e3] at R3
  obtain ⟨a3, c3, rfl, _, _⟩ := R3.len
  have r3 := r0.gr g3
  have G3 := G0.trans g3
  have hle3 := Lib.hid (show w.heap.size + 1 ≤ w3.heap.size by have := g3.le; have := HSZ.out; omega)
  have HFL := Lib.hid hfl
  clear HD g3 r0 G0 HSZ e3 hfl
  by_cases hz : full.length = 0
  · have HM : Hid (mineF0 (n + 1) log = silentD) := Lib.hid (by rw [mineF0_succ, cutF_zero (by rw [← HFL.out]; exact hz)])
    have hzb : ((full.length : Int) == 0) = true := by simp [hz]
    clear hz
    go_wp2_with fail
    refine (mineSilent_calls w3).mono ?_
    rintro _ w4 ⟨rfl, g4⟩
    have r4 := r3.gr g4
    have G4 := G3.trans g4
    have f4 : BlkF (w.heap.size + 1) w4 (.agg #[.int .i64 1, .int .i64 0, .slice none 0 0]) silentD := BlkF.flat (k := 1) (l := 0) (by decide) (by decide)
    have D0 := r4.cell (i := 0) rfl
    have bq0 := r4.set 0 (.int .i64 1)
    have bq1 := bq0.set 1 (.int .i64 0)
    have bq2 := bq1.set 2 (.slice none 0 0)
    have E0 := bq2.cell (i := 0) rfl
    have E1 := bq2.cell (i := 1) rfl
    have E2 := bq2.cell (i := 2) rfl
    have F0 := r4.frozen 0
    have F1 := r4.frozen 1
    have F2 := r4.frozen 2
    have D1 := bq0.cell (i := 1) rfl
    have D2 := bq1.cell (i := 2) rfl
    have FF1 := bq0.frozen 1
    have FF2 := bq1.frozen 2
    have HF3 := Lib.hid (((f4.kp (set_kp (a := ⟨w.heap.size, 0, none⟩) (fun h => by have h' : w.heap.size + 1 ≤ w.heap.size := h; omega) (.int .i64 1))).kp (set_kp (a := ⟨w.heap.size, 1, none⟩) (fun h => by have h' : w.heap.size + 1 ≤ w.heap.size := h; omega) (.int .i64 0))).kp (set_kp (a := ⟨w.heap.size, 2, none⟩) (fun h => by have h' : w.heap.size + 1 ≤ w.heap.size := h; omega) (.slice none 0 0)))
    have HG3 := Lib.hid (((G4.setCell (p := ⟨w.heap.size, 0, none⟩) (Nat.le_refl _) (.int .i64 1)).setCell (p := ⟨w.heap.size, 1, none⟩) (Nat.le_refl _) (.int .i64 0)).setCell (p := ⟨w.heap.size, 2, none⟩) (Nat.le_refl _) (.slice none 0 0))
    clear r4 G4 f4
    go_wp2_with fail
    refine bodyPost_ret (v := .agg #[.int .i64 1, .int .i64 0, .slice none 0 0]) (by simp [results, Tryz.results55, go_sem, E0, E1, E2]) rfl ?_
    rw [HM.out]
    exact ⟨_, rfl, HF3.out.low (by omega), HG3.out⟩
  · have hzb : ((full.length : Int) == 0) = false := by rw [beq_eq_false_iff_ne]; omega
    by_cases hlt : full.length < log.length
    · have HM : Hid (mineF0 (n + 1) log = manyD 4 [silentD, mineF0 n full]) := Lib.hid (by rw [mineF0_succ, cutF_opt (by rw [← HFL.out]; exact hz) (by rw [← HFL.out]; exact hlt), HFL.out])
      have HFN : Hid (Fuel n full) := Lib.hid (by have := HFU.out; rw [fuel_succ, cutF_opt (by rw [← HFL.out]; exact hz) (by rw [← HFL.out]; exact hlt)] at this; rw [HFL.out]; exact this)
      have HRF : Hid (RightT full) := Lib.hid (by rw [HFL.out]; exact HRT.out.full)
      have hltz : (full.length : Int) < (log.length : Int) := by omega
      clear hz hlt
      go_wp2_with fail
      refine (mineSilent_calls w3).mono ?_
      rintro _ w4 ⟨rfl, g4⟩
      have R4 := R3.gr g4
      go_wp2_with fail
      refine (hF _ full w4 R4 HRF.out HFN.out).mono ?_
      rintro _ w5 ⟨v5, rfl, f5, g5⟩
      obtain ⟨k1, k2, a5, c5, rfl⟩ := f5.form
      obtain ⟨bf, hbf⟩ : ∃ b, b = mineF0 n full := ⟨_, rfl⟩
      rw [← hbf] at f5 k1 k2 HM ⊢
      have hle5 : w.heap.size + 1 ≤ w5.heap.size := by have := hle3.out; have := g4.le; have := g5.le; omega
      have f5' := f5.low (m := w.heap.size + 1) (by have := hle3.out; have := g4.le; omega)
      have fs : BlkF (w.heap.size + 1) w5 (.agg #[.int .i64 1, .int .i64 0, .slice none 0 0]) silentD := BlkF.flat (k := 1) (l := 0) (by decide) (by decide)
      have fl := BlkF.lit2 (k := 4) fs f5' hle5 (by decide)
      have gl : Gr w3 (w5.alloc (.cells #[.int .i64 1, .int .i64 0, .slice none 0 0, .int .i64 bf.kind, .int .i64 bf.label, .slice a5 bf.kids.length c5] 55)) := (g4.trans g5).alloc _
      have HFl := Lib.hid (And.intro fl gl)
      clear hbf f5 f5' fs fl gl g4 g5 R4 R3 hle5
      go_wp2_with fail
      refine (mineBlock_calls 4 _ 2 2 _).mono ?_
      rintro _ w6 ⟨rfl, g6⟩
      have f6 := HFl.out.1.gr g6
      have r6 := r3.gr (HFl.out.2.trans g6)
      have G6 := G3.trans (HFl.out.2.trans g6)
      have D0 := r6.cell (i := 0) rfl
      have bq0 := r6.set 0 (.int .i64 4)
      have bq1 := bq0.set 1 (.int .i64 0)
      have bq2 := bq1.set 2 (.slice (some ⟨w5.heap.size, 0, none⟩) 2 2)
      have E0 := bq2.cell (i := 0) rfl
      have E1 := bq2.cell (i := 1) rfl
      have E2 := bq2.cell (i := 2) rfl
      have F0 := r6.frozen 0
      have F1 := r6.frozen 1
      have F2 := r6.frozen 2
      have D1 := bq0.cell (i := 1) rfl
      have D2 := bq1.cell (i := 2) rfl
      have FF1 := bq0.frozen 1
      have FF2 := bq1.frozen 2
      have HF3 := Lib.hid (((f6.kp (set_kp (a := ⟨w.heap.size, 0, none⟩) (fun h => by have h' : w.heap.size + 1 ≤ w.heap.size := h; omega) (.int .i64 4))).kp (set_kp (a := ⟨w.heap.size, 1, none⟩) (fun h => by have h' : w.heap.size + 1 ≤ w.heap.size := h; omega) (.int .i64 0))).kp (set_kp (a := ⟨w.heap.size, 2, none⟩) (fun h => by have h' : w.heap.size + 1 ≤ w.heap.size := h; omega) (.slice (some ⟨w5.heap.size, 0, none⟩) 2 2)))
      have HG3 := Lib.hid (((G6.setCell (p := ⟨w.heap.size, 0, none⟩) (Nat.le_refl _) (.int .i64 4)).setCell (p := ⟨w.heap.size, 1, none⟩) (Nat.le_refl _) (.int .i64 0)).setCell (p := ⟨w.heap.size, 2, none⟩) (Nat.le_refl _) (.slice (some ⟨w5.heap.size, 0, none⟩) 2 2))
      clear r6 G6 f6 r3 G3 HFl g6
      go_wp2_with fail
      refine bodyPost_ret (v := .agg #[.int .i64 4, .int .i64 0, .slice (some ⟨w5.heap.size, 0, none⟩) 2 2]) (by simp [results, Tryz.results55, go_sem, E0, E1, E2]) rfl ?_
      rw [HM.out]
      exact ⟨_, rfl, HF3.out.low (by omega), HG3.out⟩
    · have hcut : cutF log = cutP (ofM full) full := by rw [HFL.out]; exact cutF_cut (by rw [← HFL.out]; exact hz) (by rw [← HFL.out]; exact hlt)
      have HM0 : Hid (mineF0 (n + 1) log = match cutP (ofM full) full with | .leaf b => b | .opt l => manyD 4 [silentD, mineF0 n l] | .node k ls => manyD k (ls.map (mineF0 n))) := Lib.hid (by rw [mineF0_succ, hcut])
      have HF0 : Hid (match cutP (ofM full) full with | .leaf _ => True | .opt l => Fuel n l | .node _ ls => ∀ l ∈ ls, Fuel n l) := Lib.hid (by have := HFU.out; rw [fuel_succ, hcut] at this; exact this)
      have HRF : Hid (RightT full) := Lib.hid (by rw [HFL.out]; exact HRT.out.full)
      have HNE : Hid (∀ t ∈ full, t ≠ []) := Lib.hid (by rw [HFL.out]; exact full_ne)
      have HLN : Hid ((ofM full).labels ≠ []) := Lib.hid (labs_there hz HNE.out)
      have hltz : ¬ (full.length : Int) < (log.length : Int) := by omega
      clear hz hlt hcut HFL HFU
      go_wp2_with fail
      refine (mineOf_calls _ full w3 R3 HRF.out).mono ?_
      rintro _ w4 ⟨v4, rfl, L4, g4⟩
      obtain ⟨p, hp⟩ : ∃ p, p = ofM full := ⟨_, rfl⟩
      have HP := Lib.hid hp
      rw [← hp] at L4 HM0 HF0 HLN
      clear hp
      have HV0 := L4
      obtain ⟨ta, la, fa, za, ba, tc, lc, fc, zc, bc, rfl, hT, hL, hFi, hZ, hB⟩ := L4.ex
      have b4 : Blk (w4.alloc (.cells #[.slice ta full.length tc, .slice la p.labels.length lc, .slice fa p.first.length fc, .slice za p.last.length zc, .slice ba p.behind.length bc] 204)) w4.heap.size 204 #[.slice ta full.length tc, .slice la p.labels.length lc, .slice fa p.first.length fc, .slice za p.last.length zc, .slice ba p.behind.length bc] := Blk.new rfl
      have GA : Gr w4 (w4.alloc (.cells #[.slice ta full.length tc, .slice la p.labels.length lc, .slice fa p.first.length fc, .slice za p.last.length zc, .slice ba p.behind.length bc] 204)) := (Gr.refl _).alloc _
      have r4 := (r3.gr g4).gr GA
      have G4 := (G3.trans g4).trans GA
      have R4 := Lib.hid ((R3.gr g4).gr GA)
      have HLb := Lib.hid (hL.gr GA)
      have HV := Lib.hid (HV0.gr GA)
      have hle4 := Lib.hid (show w.heap.size + 1 ≤ w4.heap.size by have := hle3.out; have := g4.le; omega)
      have HLL := Lib.hid (show p.labels.length ≤ 26 by rw [HP.out]; exact lab_len HRF.out)
      have c0 := b4.cell (i := 0) rfl
      have c1 := b4.cell (i := 1) rfl
      have c2 := b4.cell (i := 2) rfl
      have c3 := b4.cell (i := 3) rfl
      have c4 := b4.cell (i := 4) rfl
      clear r3 G3 R3 L4 HV0 hT hL hFi hZ hB GA g4
      by_cases h1 : p.labels.length = 1
      · have h1z : ((p.labels.length : Int) == 1) = true := by simp [h1]
        have hpos : 0 < p.labels.length := by omega
        obtain ⟨lb, lo, rfl, d0⟩ := HLb.out.cell (i := 0) hpos
        rw [show lo + 0 = lo by omega] at d0
        have a0 : (0 : Int) < (p.labels.length : Int) := by omega
        obtain ⟨a, ha⟩ : ∃ a, a = nth p.labels 0 := ⟨_, rfl⟩
        have aI : I64 a := by rw [ha]; exact HLb.out.range 0
        rw [← ha] at d0
        have HM1 : Hid (mineF0 (n + 1) log = oneD p full) := Lib.hid (by rw [HM0.out]; unfold cutP; rw [if_pos h1])
        have HA := Lib.hid ha
        clear ha h1 HM0 HF0 hpos
        go_wp2_with fail
        refine (mineStep_calls a _).mono ?_
        rintro _ w5 ⟨rfl, g5⟩
        have k5 : Blk (w5.alloc (.cells #[.int .i64 2, .int .i64 a, .slice none 0 0] 55)) w5.heap.size 55 #[.int .i64 2, .int .i64 a, .slice none 0 0] := Blk.new rfl
        have GS := Gr.alloc g5 (.cells #[.int .i64 2, .int .i64 a, .slice none 0 0] 55)
        have r5 := r4.gr GS
        have G5 := G4.trans GS
        have hle5 := Lib.hid (show w.heap.size + 1 ≤ w5.heap.size by have h6 := Gr.le g5; simp at h6; have := hle4.out; omega)
        have HCF := Lib.hid (ContainsFuncRow_calls _ full 112 #[] (fun t => decide (1 < t.length)) _ (fun args w => by kernel_rfl) (R4.out.gr GS) (fun W u x _ _ hu => find2_calls u x W hu))
        clear c0 c1 c2 c3 c4 d0 b4 r4 G4 R4 HV g5 GS h1z a0
        cases e : full.any fun t => decide (1 < t.length) with
        | false =>
          rw [e] at HCF
          have HM : Hid (mineF0 (n + 1) log = stepD a) := Lib.hid (by rw [HM1.out]; unfold oneD; rw [e, HA.out]; rfl)
          clear e
          go_wp2_with fail
          refine HCF.out.mono ?_
          rintro _ w6 ⟨rfl, g6⟩
          have k6 := k5.gr g6
          have s0 := k6.cell (i := 0) (v := .int .i64 2) rfl
          have s1 := k6.cell (i := 1) (v := .int .i64 a) rfl
          have s2 := k6.cell (i := 2) (v := .slice none 0 0) rfl
          have r6 := r5.gr g6
          have G6 := G5.trans g6
          have f6 : BlkF (w.heap.size + 1) w6 (.agg #[.int .i64 2, .int .i64 a, .slice none 0 0]) (stepD a) := BlkF.flat (k := 2) (l := a) (by decide) aI
          have D0 := r6.cell (i := 0) rfl
          have bq0 := r6.set 0 (.int .i64 2)
          have bq1 := bq0.set 1 (.int .i64 a)
          have bq2 := bq1.set 2 (.slice none 0 0)
          have E0 := bq2.cell (i := 0) rfl
          have E1 := bq2.cell (i := 1) rfl
          have E2 := bq2.cell (i := 2) rfl
          have F0 := r6.frozen 0
          have F1 := r6.frozen 1
          have F2 := r6.frozen 2
          have D1 := bq0.cell (i := 1) rfl
          have D2 := bq1.cell (i := 2) rfl
          have FF1 := bq0.frozen 1
          have FF2 := bq1.frozen 2
          have HF3 := Lib.hid (((f6.kp (set_kp (a := ⟨w.heap.size, 0, none⟩) (fun h => by have h' : w.heap.size + 1 ≤ w.heap.size := h; omega) (.int .i64 2))).kp (set_kp (a := ⟨w.heap.size, 1, none⟩) (fun h => by have h' : w.heap.size + 1 ≤ w.heap.size := h; omega) (.int .i64 a))).kp (set_kp (a := ⟨w.heap.size, 2, none⟩) (fun h => by have h' : w.heap.size + 1 ≤ w.heap.size := h; omega) (.slice none 0 0)))
          have HG3 := Lib.hid (((G6.setCell (p := ⟨w.heap.size, 0, none⟩) (Nat.le_refl _) (.int .i64 2)).setCell (p := ⟨w.heap.size, 1, none⟩) (Nat.le_refl _) (.int .i64 a)).setCell (p := ⟨w.heap.size, 2, none⟩) (Nat.le_refl _) (.slice none 0 0))
          clear r6 G6 f6 k5 k6 r5 G5 HCF g6
          go_wp2_with fail
          refine bodyPost_ret (v := .agg #[.int .i64 2, .int .i64 a, .slice none 0 0]) (by simp [results, Tryz.results55, go_sem, E0, E1, E2]) rfl ?_
          rw [HM.out]
          exact ⟨_, rfl, HF3.out.low (by omega), HG3.out⟩
        | true =>
          rw [e] at HCF
          have HM : Hid (mineF0 (n + 1) log = manyD 6 [stepD a, silentD]) := Lib.hid (by rw [HM1.out]; unfold oneD; rw [e, HA.out]; rfl)
          clear e
          go_wp2_with fail
          refine HCF.out.mono ?_
          rintro _ w6 ⟨rfl, g6⟩
          have k6 := k5.gr g6
          have s0 := k6.cell (i := 0) (v := .int .i64 2) rfl
          have s1 := k6.cell (i := 1) (v := .int .i64 a) rfl
          have s2 := k6.cell (i := 2) (v := .slice none 0 0) rfl
          have r6 := r5.gr g6
          have G6 := G5.trans g6
          have hle6 : w.heap.size + 1 ≤ w6.heap.size := by have h6 := Gr.le g6; simp at h6; have := hle5.out; omega
          clear k5 r5 G5 HCF g6
          go_wp2_with fail
          have hneq : w5.heap.size ≠ w.heap.size := by have := hle5.out; omega
          have HK6 := Lib.hid (And.intro k6 (And.intro r6 (And.intro G6 (And.intro hle6 hneq))))
          clear k6 r6 G6 hle6 hneq
          go_region_held3 (fun w' => w'.cell? ⟨w5.heap.size, 0, none⟩ = some (.int .i64 2) ∧ w'.cell? ⟨w5.heap.size, 1, none⟩ = some (.int .i64 a) ∧ w'.cell? ⟨w5.heap.size, 2, none⟩ = some (.slice none 0 0)) (first | go_keep | exact ⟨cell_gr s0 (by (repeat (first | exact Gr.refl _ | assumption | apply Gr.alloc | apply Gr.drew | apply Gr.drewN | refine Gr.trans ?_ (by assumption)))), cell_gr s1 (by (repeat (first | exact Gr.refl _ | assumption | apply Gr.alloc | apply Gr.drew | apply Gr.drewN | refine Gr.trans ?_ (by assumption)))), cell_gr s2 (by (repeat (first | exact Gr.refl _ | assumption | apply Gr.alloc | apply Gr.drew | apply Gr.drewN | refine Gr.trans ?_ (by assumption))))⟩ | exact ⟨cell_gr z0 (by (repeat (first | exact Gr.refl _ | assumption | apply Gr.alloc | apply Gr.drew | apply Gr.drewN | refine Gr.trans ?_ (by assumption)))), cell_gr z1 (by (repeat (first | exact Gr.refl _ | assumption | apply Gr.alloc | apply Gr.drew | apply Gr.drewN | refine Gr.trans ?_ (by assumption)))), cell_gr z2 (by (repeat (first | exact Gr.refl _ | assumption | apply Gr.alloc | apply Gr.drew | apply Gr.drewN | refine Gr.trans ?_ (by assumption))))⟩) (first | (go_at_call 107; (with_reducible refine (mineSilent_calls _).mono ?_); rintro _ w7 ⟨rfl, g7⟩) | (go_at_call 108; (with_reducible refine (mineBlock_calls 6 _ 2 2 _).mono ?_); rintro _ w8 ⟨rfl, g8⟩; go_loud (have g68 : Gr w6 w8 := ((Gr.refl w6).drew).trans (g7.trans (box_gr g8)); obtain ⟨D0, F0, D1, F1, D2, F2, r9⟩ := store3 (HK6.out.2.1.gr g68) (.int .i64 6) (.int .i64 0) (.slice (some ⟨w7.heap.size, 0, none⟩) 2 2); have kz := store3_other (HK6.out.1.gr g68) HK6.out.2.2.2.2 (.int .i64 6) (.int .i64 0) (.slice (some ⟨w7.heap.size, 0, none⟩) 2 2); have z0 := kz.cell (i := 0) (v := .int .i64 2) rfl; have z1 := kz.cell (i := 1) (v := .int .i64 a) rfl; have z2 := kz.cell (i := 2) (v := .slice none 0 0) rfl)))
          rename_i hHeld
          clear hHeld
          have hle7 : w.heap.size + 1 ≤ w7.heap.size := by have h6 := Gr.le g7; have h7 := HK6.out.2.2.2.1; simp at h6; omega
          have fs : BlkF (w.heap.size + 1) w7 (.agg #[.int .i64 1, .int .i64 0, .slice none 0 0]) silentD := BlkF.flat (k := 1) (l := 0) (by decide) (by decide)
          have ft : BlkF (w.heap.size + 1) w7 (.agg #[.int .i64 2, .int .i64 a, .slice none 0 0]) (stepD a) := BlkF.flat (k := 2) (l := a) (by decide) aI
          have fl := BlkF.lit2 (k := 6) ft fs hle7 (by decide)
          have HF3 := Lib.hid (store3_blk (H := w.heap.size) (fl.gr g8) (by omega) (.int .i64 6) (.int .i64 0) (.slice (some ⟨w7.heap.size, 0, none⟩) 2 2))
          have HG3 := Lib.hid (store3_gr (H := w.heap.size) (HK6.out.2.2.1.trans g68) (Nat.le_refl _) (.int .i64 6) (.int .i64 0) (.slice (some ⟨w7.heap.size, 0, none⟩) 2 2))
          have E0 := r9.cell (i := 0) rfl
          have E1 := r9.cell (i := 1) rfl
          have E2 := r9.cell (i := 2) rfl
          clear D0 F0 D1 F1 D2 F2 kz z0 z1 z2 s0 s1 s2 fs ft fl hle7 g68 g7 g8 r9
          go_wp2_with fail
          refine bodyPost_ret (v := .agg #[.int .i64 6, .int .i64 0, .slice (some ⟨w7.heap.size, 0, none⟩) 2 2]) (by simp [results, Tryz.results55, go_sem, E0, E1, E2]) rfl ?_
          rw [HM.out]
          exact ⟨_, rfl, HF3.out.low (by omega), HG3.out⟩
      · have hl1 : ((p.labels.length : Int) == 1) = false := by rw [beq_eq_false_iff_ne]; omega
        clear h1
        have HL1 : Hid (p.labels.length ≠ 1) := Lib.hid fun e => by rw [e] at hl1; simp at hl1
        have HFC : Hid ((∀ ls, chooseF p full = some ls → ∀ l ∈ ls, Fuel n l) ∧ (chooseF p full = none → ∀ ls, orderF p full = some ls → ∀ l ∈ ls, Fuel n l) ∧ (chooseF p full = none → orderF p full = none → ∀ ls, besideF p full = some ls → ∀ l ∈ ls, Fuel n l)) := Lib.hid (by
          have hf := HF0.out
          rw [cutP_none HL1.out] at hf
          refine ⟨fun ls e => ?_, fun e1 ls e => ?_, fun e1 e2 ls e => ?_⟩
          · rw [e] at hf; exact hf
          · rw [e1, e] at hf; exact hf
          · rw [e1, e2, e] at hf; exact hf)
        have GT : Gr (w4.alloc (.cells #[.slice ta full.length tc, .slice la p.labels.length lc, .slice fa p.first.length fc, .slice za p.last.length zc, .slice ba p.behind.length bc] 204)) ((w4.alloc (.cells #[.slice ta full.length tc, .slice la p.labels.length lc, .slice fa p.first.length fc, .slice za p.last.length zc, .slice ba p.behind.length bc] 204)).alloc (.cells #[.func (.func 113) #[(.agg #[.slice ta full.length tc, .slice la p.labels.length lc, .slice fa p.first.length fc, .slice za p.last.length zc, .slice ba p.behind.length bc])] #[], .func (.func 114) #[(.agg #[.slice ta full.length tc, .slice la p.labels.length lc, .slice fa p.first.length fc, .slice za p.last.length zc, .slice ba p.behind.length bc])] #[], .func (.func 115) #[(.agg #[.slice ta full.length tc, .slice la p.labels.length lc, .slice fa p.first.length fc, .slice za p.last.length zc, .slice ba p.behind.length bc])] #[]] 207)) := (Gr.refl _).alloc _
        have b5 := b4.gr GT
        have r5 := r4.gr GT
        have G5 := G4.trans GT
        have t5 : Blk ((w4.alloc (.cells #[.slice ta full.length tc, .slice la p.labels.length lc, .slice fa p.first.length fc, .slice za p.last.length zc, .slice ba p.behind.length bc] 204)).alloc (.cells #[.func (.func 113) #[(.agg #[.slice ta full.length tc, .slice la p.labels.length lc, .slice fa p.first.length fc, .slice za p.last.length zc, .slice ba p.behind.length bc])] #[], .func (.func 114) #[(.agg #[.slice ta full.length tc, .slice la p.labels.length lc, .slice fa p.first.length fc, .slice za p.last.length zc, .slice ba p.behind.length bc])] #[], .func (.func 115) #[(.agg #[.slice ta full.length tc, .slice la p.labels.length lc, .slice fa p.first.length fc, .slice za p.last.length zc, .slice ba p.behind.length bc])] #[]] 207)) (w4.heap.size + 1) 207 #[.func (.func 113) #[(.agg #[.slice ta full.length tc, .slice la p.labels.length lc, .slice fa p.first.length fc, .slice za p.last.length zc, .slice ba p.behind.length bc])] #[], .func (.func 114) #[(.agg #[.slice ta full.length tc, .slice la p.labels.length lc, .slice fa p.first.length fc, .slice za p.last.length zc, .slice ba p.behind.length bc])] #[], .func (.func 115) #[(.agg #[.slice ta full.length tc, .slice la p.labels.length lc, .slice fa p.first.length fc, .slice za p.last.length zc, .slice ba p.behind.length bc])] #[]] := Blk.new (by simp)
        have HV5 := Lib.hid (HV.out.gr GT)
        have HLb5 := Lib.hid (HLb.out.gr GT)
        clear HF0 b4 r4 G4 GT HV HLb R4
        go_wp2_with fail
        go_loopw [60] (fun iv wr => ∃ k : Nat, iv = .int .i64 k ∧ k ≤ 3 ∧ Gr ((w4.alloc (.cells #[.slice ta full.length tc, .slice la p.labels.length lc, .slice fa p.first.length fc, .slice za p.last.length zc, .slice ba p.behind.length bc] 204)).alloc (.cells #[.func (.func 113) #[(.agg #[.slice ta full.length tc, .slice la p.labels.length lc, .slice fa p.first.length fc, .slice za p.last.length zc, .slice ba p.behind.length bc])] #[], .func (.func 114) #[(.agg #[.slice ta full.length tc, .slice la p.labels.length lc, .slice fa p.first.length fc, .slice za p.last.length zc, .slice ba p.behind.length bc])] #[], .func (.func 115) #[(.agg #[.slice ta full.length tc, .slice la p.labels.length lc, .slice fa p.first.length fc, .slice za p.last.length zc, .slice ba p.behind.length bc])] #[]] 207)) wr ∧ Hid ((1 ≤ k → chooseF p full = none) ∧ (2 ≤ k → orderF p full = none) ∧ (3 ≤ k → besideF p full = none))) (fun iv _ => 3 - (intOf iv).toNat)
        case atStart => exact ⟨0, rfl, by omega, Gr.refl _, Lib.hid ⟨fun h => absurd h (by omega), fun h => absurd h (by omega), fun h => absurd h (by omega)⟩⟩
        case round =>
          rename World => wr
          obtain ⟨k, rfl, hk, hgr, HN⟩ := hrel
          clear c0 c1 c2 c3 c4
          rcases (show k = 0 ∨ k = 1 ∨ k = 2 ∨ k = 3 by omega) with rfl | rfl | rfl | rfl
          · skip
            have q0 := (t5.gr hgr).cell (i := 0) rfl
            have HCC := Lib.hid (choose_at n hF _ full p wr HP.out (HV5.out.gr hgr) HRF.out HNE.out HFC.out.1)
            clear t5
            go_wp2_with fail
            refine HCC.out.mono ?_
            rintro _ w6 ⟨g6, hret⟩
            clear HCC
            rcases hret with ⟨hn, rfl⟩ | ⟨ls, vb, hs, rfl, f6⟩
            · have hN := HN.out
              go_wp2_with fail
              go_roundw
              case rel => exact ⟨0 + 1, by go_num, by omega, (hgr.trans g6).alloc _, Lib.hid (by exact ⟨fun _ => hn, fun h => absurd h (by omega), fun h => absurd h (by omega)⟩)⟩
              case measure => simp [intOf]
            · obtain ⟨k1, k2, a6, c6, rfl⟩ := f6.form
              have HM : Hid (mineF0 (n + 1) log = manyD 4 (ls.map (mineF0 n))) := Lib.hid (by rw [HM0.out, cutP_none HL1.out]; rw [hs])
              obtain ⟨bf, hbf⟩ : ∃ b, b = manyD 4 (ls.map (mineF0 n)) := ⟨_, rfl⟩
              rw [← hbf] at f6 k1 k2 HM ⊢
              have r6 := r5.gr ((hgr.trans g6).alloc (.cells #[.int .i64 bf.kind, .int .i64 bf.label, .slice a6 bf.kids.length c6] 55))
              have G6 := G5.trans ((hgr.trans g6).alloc (.cells #[.int .i64 bf.kind, .int .i64 bf.label, .slice a6 bf.kids.length c6] 55))
              have hle6 : w.heap.size + 1 ≤ wr.heap.size := by have h6 := (Gr.le hgr); simp at h6; have := hle4.out; omega
              have f7 := (f6.low hle6).gr ((Gr.refl w6).alloc (.cells #[.int .i64 bf.kind, .int .i64 bf.label, .slice a6 bf.kids.length c6] 55))
              clear hbf f6
              have D0 := r6.cell (i := 0) rfl
              have bq0 := r6.set 0 (.int .i64 bf.kind)
              have bq1 := bq0.set 1 (.int .i64 bf.label)
              have bq2 := bq1.set 2 (.slice a6 bf.kids.length c6)
              have E0 := bq2.cell (i := 0) rfl
              have E1 := bq2.cell (i := 1) rfl
              have E2 := bq2.cell (i := 2) rfl
              have F0 := r6.frozen 0
              have F1 := r6.frozen 1
              have F2 := r6.frozen 2
              have D1 := bq0.cell (i := 1) rfl
              have D2 := bq1.cell (i := 2) rfl
              have FF1 := bq0.frozen 1
              have FF2 := bq1.frozen 2
              have HF3 := Lib.hid (((f7.kp (set_kp (a := ⟨w.heap.size, 0, none⟩) (fun h => by have h' : w.heap.size + 1 ≤ w.heap.size := h; omega) (.int .i64 bf.kind))).kp (set_kp (a := ⟨w.heap.size, 1, none⟩) (fun h => by have h' : w.heap.size + 1 ≤ w.heap.size := h; omega) (.int .i64 bf.label))).kp (set_kp (a := ⟨w.heap.size, 2, none⟩) (fun h => by have h' : w.heap.size + 1 ≤ w.heap.size := h; omega) (.slice a6 bf.kids.length c6)))
              have HG3 := Lib.hid (((G6.setCell (p := ⟨w.heap.size, 0, none⟩) (Nat.le_refl _) (.int .i64 bf.kind)).setCell (p := ⟨w.heap.size, 1, none⟩) (Nat.le_refl _) (.int .i64 bf.label)).setCell (p := ⟨w.heap.size, 2, none⟩) (Nat.le_refl _) (.slice a6 bf.kids.length c6))
              clear r6 G6 f7 r5 G5 hgr g6 q0 hle6 hs
              go_wp2_with fail
              refine bodyPost_ret (v := .agg #[.int .i64 bf.kind, .int .i64 bf.label, .slice a6 bf.kids.length c6]) (by simp [results, Tryz.results55, go_sem, E0, E1, E2]) rfl ?_
              rw [HM.out]
              exact ⟨_, rfl, HF3.out.low (by omega), HG3.out⟩
          · skip
            have q0 := (t5.gr hgr).cell (i := 1) rfl
            have HCC := Lib.hid (order_at n hF _ full p wr HP.out (HV5.out.gr hgr) HRF.out (HFC.out.2.1 (HN.out.1 (by omega))))
            clear t5
            go_wp2_with fail
            refine HCC.out.mono ?_
            rintro _ w6 ⟨g6, hret⟩
            clear HCC
            rcases hret with ⟨hn, rfl⟩ | ⟨ls, vb, hs, rfl, f6⟩
            · have hN := HN.out
              go_wp2_with fail
              go_roundw
              case rel => exact ⟨1 + 1, by go_num, by omega, (hgr.trans g6).alloc _, Lib.hid (by exact ⟨fun _ => hN.1 (by omega), fun _ => hn, fun h => absurd h (by omega)⟩)⟩
              case measure => simp [intOf]
            · obtain ⟨k1, k2, a6, c6, rfl⟩ := f6.form
              have HM : Hid (mineF0 (n + 1) log = manyD 3 (ls.map (mineF0 n))) := Lib.hid (by rw [HM0.out, cutP_none HL1.out]; rw [HN.out.1 (by omega), hs])
              obtain ⟨bf, hbf⟩ : ∃ b, b = manyD 3 (ls.map (mineF0 n)) := ⟨_, rfl⟩
              rw [← hbf] at f6 k1 k2 HM ⊢
              have r6 := r5.gr ((hgr.trans g6).alloc (.cells #[.int .i64 bf.kind, .int .i64 bf.label, .slice a6 bf.kids.length c6] 55))
              have G6 := G5.trans ((hgr.trans g6).alloc (.cells #[.int .i64 bf.kind, .int .i64 bf.label, .slice a6 bf.kids.length c6] 55))
              have hle6 : w.heap.size + 1 ≤ wr.heap.size := by have h6 := (Gr.le hgr); simp at h6; have := hle4.out; omega
              have f7 := (f6.low hle6).gr ((Gr.refl w6).alloc (.cells #[.int .i64 bf.kind, .int .i64 bf.label, .slice a6 bf.kids.length c6] 55))
              clear hbf f6
              have D0 := r6.cell (i := 0) rfl
              have bq0 := r6.set 0 (.int .i64 bf.kind)
              have bq1 := bq0.set 1 (.int .i64 bf.label)
              have bq2 := bq1.set 2 (.slice a6 bf.kids.length c6)
              have E0 := bq2.cell (i := 0) rfl
              have E1 := bq2.cell (i := 1) rfl
              have E2 := bq2.cell (i := 2) rfl
              have F0 := r6.frozen 0
              have F1 := r6.frozen 1
              have F2 := r6.frozen 2
              have D1 := bq0.cell (i := 1) rfl
              have D2 := bq1.cell (i := 2) rfl
              have FF1 := bq0.frozen 1
              have FF2 := bq1.frozen 2
              have HF3 := Lib.hid (((f7.kp (set_kp (a := ⟨w.heap.size, 0, none⟩) (fun h => by have h' : w.heap.size + 1 ≤ w.heap.size := h; omega) (.int .i64 bf.kind))).kp (set_kp (a := ⟨w.heap.size, 1, none⟩) (fun h => by have h' : w.heap.size + 1 ≤ w.heap.size := h; omega) (.int .i64 bf.label))).kp (set_kp (a := ⟨w.heap.size, 2, none⟩) (fun h => by have h' : w.heap.size + 1 ≤ w.heap.size := h; omega) (.slice a6 bf.kids.length c6)))
              have HG3 := Lib.hid (((G6.setCell (p := ⟨w.heap.size, 0, none⟩) (Nat.le_refl _) (.int .i64 bf.kind)).setCell (p := ⟨w.heap.size, 1, none⟩) (Nat.le_refl _) (.int .i64 bf.label)).setCell (p := ⟨w.heap.size, 2, none⟩) (Nat.le_refl _) (.slice a6 bf.kids.length c6))
              clear r6 G6 f7 r5 G5 hgr g6 q0 hle6 hs
              go_wp2_with fail
              refine bodyPost_ret (v := .agg #[.int .i64 bf.kind, .int .i64 bf.label, .slice a6 bf.kids.length c6]) (by simp [results, Tryz.results55, go_sem, E0, E1, E2]) rfl ?_
              rw [HM.out]
              exact ⟨_, rfl, HF3.out.low (by omega), HG3.out⟩
          · skip
            have q0 := (t5.gr hgr).cell (i := 2) rfl
            have HCC := Lib.hid (beside_at n hF _ full p wr HP.out (HV5.out.gr hgr) HRF.out (HFC.out.2.2 (HN.out.1 (by omega)) (HN.out.2.1 (by omega))))
            clear t5
            go_wp2_with fail
            refine HCC.out.mono ?_
            rintro _ w6 ⟨g6, hret⟩
            clear HCC
            rcases hret with ⟨hn, rfl⟩ | ⟨ls, vb, hs, rfl, f6⟩
            · have hN := HN.out
              go_wp2_with fail
              go_roundw
              case rel => exact ⟨2 + 1, by go_num, by omega, (hgr.trans g6).alloc _, Lib.hid (by exact ⟨fun _ => hN.1 (by omega), fun _ => hN.2.1 (by omega), fun _ => hn⟩)⟩
              case measure => simp [intOf]
            · obtain ⟨k1, k2, a6, c6, rfl⟩ := f6.form
              have HM : Hid (mineF0 (n + 1) log = manyD 5 (ls.map (mineF0 n))) := Lib.hid (by rw [HM0.out, cutP_none HL1.out]; rw [HN.out.1 (by omega), HN.out.2.1 (by omega), hs])
              obtain ⟨bf, hbf⟩ : ∃ b, b = manyD 5 (ls.map (mineF0 n)) := ⟨_, rfl⟩
              rw [← hbf] at f6 k1 k2 HM ⊢
              have r6 := r5.gr ((hgr.trans g6).alloc (.cells #[.int .i64 bf.kind, .int .i64 bf.label, .slice a6 bf.kids.length c6] 55))
              have G6 := G5.trans ((hgr.trans g6).alloc (.cells #[.int .i64 bf.kind, .int .i64 bf.label, .slice a6 bf.kids.length c6] 55))
              have hle6 : w.heap.size + 1 ≤ wr.heap.size := by have h6 := (Gr.le hgr); simp at h6; have := hle4.out; omega
              have f7 := (f6.low hle6).gr ((Gr.refl w6).alloc (.cells #[.int .i64 bf.kind, .int .i64 bf.label, .slice a6 bf.kids.length c6] 55))
              clear hbf f6
              have D0 := r6.cell (i := 0) rfl
              have bq0 := r6.set 0 (.int .i64 bf.kind)
              have bq1 := bq0.set 1 (.int .i64 bf.label)
              have bq2 := bq1.set 2 (.slice a6 bf.kids.length c6)
              have E0 := bq2.cell (i := 0) rfl
              have E1 := bq2.cell (i := 1) rfl
              have E2 := bq2.cell (i := 2) rfl
              have F0 := r6.frozen 0
              have F1 := r6.frozen 1
              have F2 := r6.frozen 2
              have D1 := bq0.cell (i := 1) rfl
              have D2 := bq1.cell (i := 2) rfl
              have FF1 := bq0.frozen 1
              have FF2 := bq1.frozen 2
              have HF3 := Lib.hid (((f7.kp (set_kp (a := ⟨w.heap.size, 0, none⟩) (fun h => by have h' : w.heap.size + 1 ≤ w.heap.size := h; omega) (.int .i64 bf.kind))).kp (set_kp (a := ⟨w.heap.size, 1, none⟩) (fun h => by have h' : w.heap.size + 1 ≤ w.heap.size := h; omega) (.int .i64 bf.label))).kp (set_kp (a := ⟨w.heap.size, 2, none⟩) (fun h => by have h' : w.heap.size + 1 ≤ w.heap.size := h; omega) (.slice a6 bf.kids.length c6)))
              have HG3 := Lib.hid (((G6.setCell (p := ⟨w.heap.size, 0, none⟩) (Nat.le_refl _) (.int .i64 bf.kind)).setCell (p := ⟨w.heap.size, 1, none⟩) (Nat.le_refl _) (.int .i64 bf.label)).setCell (p := ⟨w.heap.size, 2, none⟩) (Nat.le_refl _) (.slice a6 bf.kids.length c6))
              clear r6 G6 f7 r5 G5 hgr g6 q0 hle6 hs
              go_wp2_with fail
              refine bodyPost_ret (v := .agg #[.int .i64 bf.kind, .int .i64 bf.label, .slice a6 bf.kids.length c6]) (by simp [results, Tryz.results55, go_sem, E0, E1, E2]) rfl ?_
              rw [HM.out]
              exact ⟨_, rfl, HF3.out.low (by omega), HG3.out⟩
          · have hn := HN.out
            have HM : Hid (mineF0 (n + 1) log = manyD 6 [silentD, manyD 4 (p.labels.map stepD)]) := Lib.hid (by rw [HM0.out, cutP_none HL1.out, hn.1 (by omega), hn.2.1 (by omega), hn.2.2 (by omega)]; rfl)
            have T := blkTyW
            have b6 := b5.gr hgr
            have r6 := r5.gr hgr
            have G6 := G5.trans hgr
            have HLb6 := Lib.hid (HLb5.out.gr hgr)
            have hle6 := Lib.hid (show w.heap.size + 1 ≤ wr.heap.size by have h6 := Gr.le hgr; simp at h6; have := hle4.out; omega)
            have c0 := b6.cell (i := 0) rfl
            have c1 := b6.cell (i := 1) rfl
            have c2 := b6.cell (i := 2) rfl
            have c3 := b6.cell (i := 3) rfl
            have c4 := b6.cell (i := 4) rfl
            clear hn b5 r5 G5 t5 HFC HM0 HV5 HLb5
            go_wp2_with fail
            have hl26 := HLL.out
            go_loopw [10, 76] (fun out iv wk => ∃ i : Nat, iv = .int .i64 i ∧ i ≤ p.labels.length ∧ Gr wr wk ∧ OwnR blkW 55 wr.heap.size (fun b => wr.heap.size ≤ b) wk out ((p.labels.take i).map stepD)) (fun out iv _ => p.labels.length - (intOf iv).toNat)
            case atStart => exact ⟨0, rfl, Nat.zero_le _, Gr.refl _, OwnR.nil _ _ _ _⟩
            case round =>
              rename World => wk
              obtain ⟨i, rfl, hi, hgk, hO⟩ := hrel
              clear c0 c1 c2 c3 c4
              have hol : ((p.labels.take i).map stepD).length = i := by simp; omega
              obtain ⟨oa, oc, rfl, ho1, ho2⟩ := hO.len
              rw [hol] at hO ho1 ⊢
              have HOL := Lib.hid hol
              generalize hdn : (p.labels.take i).map stepD = done at *
              have HDN := Lib.hid hdn
              clear hdn hol
              by_cases hlt : i < p.labels.length
              · obtain ⟨lb, lo, rfl, d0⟩ := (HLb6.out.gr hgk).cell hlt
                obtain ⟨a, ha⟩ : ∃ a, a = nth p.labels i := ⟨_, rfl⟩
                have aI : I64 a := by rw [ha]; exact HLb6.out.range i
                rw [← ha] at d0
                have HNX : Hid ((p.labels.take (i + 1)).map stepD = done ++ [stepD a]) := Lib.hid (by rw [List.take_succ_eq_append_getElem hlt, List.map_append, HDN.out, ha, nth_lt hlt]; rfl)
                have hiz : (i : Int) < (p.labels.length : Int) := by omega
                have hi0 : (0 : Int) ≤ (i : Int) := by omega
                clear ha
                go_wp2_with fail
                refine (mineStep_calls a _).mono ?_
                rintro _ w7 ⟨rfl, g7⟩
                have hlt7 := g7.le
                have hrow := fun x (hx : (Value.slice oa i oc).ownBlock = some x) => hO.lt hx
                have f7 : BlkF w7.heap.size w7 (.agg #[.int .i64 2, .int .i64 a, .slice none 0 0]) (stepD a) := BlkF.flat (k := 2) (l := a) (by decide) aI
                have hlek := hgk.le
                have hon : On (fun x => wr.heap.size ≤ x ∧ (Value.slice oa i oc).ownBlock ≠ some x) (fun W => blkW.R W [.int .i64 2, .int .i64 a, .slice none 0 0] (stepD a)) (w7.alloc (.cells #[.int .i64 2, .int .i64 a, .slice none 0 0] 55)) :=
                  (f7.cellsA.gr ((Gr.refl _).alloc _)).mono fun x _ hx => ⟨by omega, fun e => by have := (hrow x e).2; omega⟩
                have bx : Blk (w7.alloc (.cells #[.int .i64 2, .int .i64 a, .slice none 0 0] 55)) w7.heap.size 55 #[.int .i64 2, .int .i64 a, .slice none 0 0] := Blk.new rfl
                have HCL := Lib.hid (blk_adds bx)
                have hO4 := (hO.gr g7).alloc (.cells #[.int .i64 2, .int .i64 a, .slice none 0 0] 55)
                have HG7 := Lib.hid ((hgk.trans g7).alloc (.cells #[.int .i64 2, .int .i64 a, .slice none 0 0] 55))
                have hn1 : (done.length + 1) * 40 ≤ 140737488355328 := by rw [HOL.out]; have := HLL.out; omega
                have hn2 : done.length + 1 ≤ maxLen := by rw [HOL.out]; have := HLL.out; unfold maxLen; omega
                have hbs : wr.heap.size ≤ (w7.alloc (.cells #[.int .i64 2, .int .i64 a, .slice none 0 0] 55)).heap.size := by simp; omega
                clear f7 hrow hO bx hlt7 hlek d0
                go_wp2_with (at_builtin; go_loud (refine app_one T _ _ wr.heap.size (fun x => wr.heap.size ≤ x) (.slice oa i oc) done ⟨w7.heap.size, 0, none⟩ (stepD a) [.int .i64 2, .int .i64 a, .slice none 0 0] (by rfl) (by rfl) (by rfl) (by rfl) hO4 HCL.out hon hn1 hn2 hbs ?_; intro v8 w8 ho8 hgs8 hgb8 hat8))
                go_roundw
                case rel => exact ⟨_, _, _, _, _, _, _, _, _, _, _, _, ⟨i + 1, by go_num, by omega, hgs8 wr (Nat.le_refl _) HG7.out, by rw [HNX.out]; exact ho8⟩, rfl⟩
                case measure => simp [intOf]; omega
              · obtain rfl : i = p.labels.length := by omega
                rw [List.take_length] at HDN
                have hnz : ¬ (p.labels.length : Int) < (p.labels.length : Int) := by omega
                have HM2 := Lib.hid HM.out
                rw [HDN.out] at HM2
                have hlek := hgk.le
                go_wp2_with fail
                refine (mineSilent_calls wk).mono ?_
                rintro _ w7 ⟨rfl, g7⟩
                go_wp2_with fail
                refine (mineBlock_calls 4 oa p.labels.length oc w7).mono ?_
                rintro _ w8 ⟨rfl, g8⟩
                have g78 := g7.trans g8
                have f8 : BlkF (w.heap.size + 1) w8 (.agg #[.int .i64 4, .int .i64 0, .slice oa p.labels.length oc]) (manyD 4 done) := BlkF.of (hO.gr g78) (by decide) (fun x hx => Nat.le_trans hle6.out hx) hle6.out
                have fs : BlkF (w.heap.size + 1) w8 (.agg #[.int .i64 1, .int .i64 0, .slice none 0 0]) silentD := BlkF.flat (k := 1) (l := 0) (by decide) (by decide)
                have hle8 : w.heap.size + 1 ≤ w8.heap.size := by have := g78.le; have := hle6.out; omega
                have fl := BlkF.lit2 (k := 6) fs f8 hle8 (by decide)
                have gl : Gr wk (w8.alloc (.cells #[.int .i64 1, .int .i64 0, .slice none 0 0, .int .i64 4, .int .i64 0, .slice oa p.labels.length oc] 55)) := g78.alloc _
                have HFl := Lib.hid (And.intro fl gl)
                clear fs fl f8 gl g78 g7 g8 hO hlek hle8
                go_wp2_with fail
                refine (mineBlock_calls 6 _ 2 2 _).mono ?_
                rintro _ w9 ⟨rfl, g9⟩
                have f9 := HFl.out.1.gr g9
                have r9 := r6.gr (hgk.trans (HFl.out.2.trans g9))
                have G9 := G6.trans (hgk.trans (HFl.out.2.trans g9))
                have D0 := r9.cell (i := 0) rfl
                have bq0 := r9.set 0 (.int .i64 6)
                have bq1 := bq0.set 1 (.int .i64 0)
                have bq2 := bq1.set 2 (.slice (some ⟨w8.heap.size, 0, none⟩) 2 2)
                have E0 := bq2.cell (i := 0) rfl
                have E1 := bq2.cell (i := 1) rfl
                have E2 := bq2.cell (i := 2) rfl
                have F0 := r9.frozen 0
                have F1 := r9.frozen 1
                have F2 := r9.frozen 2
                have D1 := bq0.cell (i := 1) rfl
                have D2 := bq1.cell (i := 2) rfl
                have FF1 := bq0.frozen 1
                have FF2 := bq1.frozen 2
                have HF3 := Lib.hid (((f9.kp (set_kp (a := ⟨w.heap.size, 0, none⟩) (fun h => by have h' : w.heap.size + 1 ≤ w.heap.size := h; omega) (.int .i64 6))).kp (set_kp (a := ⟨w.heap.size, 1, none⟩) (fun h => by have h' : w.heap.size + 1 ≤ w.heap.size := h; omega) (.int .i64 0))).kp (set_kp (a := ⟨w.heap.size, 2, none⟩) (fun h => by have h' : w.heap.size + 1 ≤ w.heap.size := h; omega) (.slice (some ⟨w8.heap.size, 0, none⟩) 2 2)))
                have HG3 := Lib.hid (((G9.setCell (p := ⟨w.heap.size, 0, none⟩) (Nat.le_refl _) (.int .i64 6)).setCell (p := ⟨w.heap.size, 1, none⟩) (Nat.le_refl _) (.int .i64 0)).setCell (p := ⟨w.heap.size, 2, none⟩) (Nat.le_refl _) (.slice (some ⟨w8.heap.size, 0, none⟩) 2 2))
                clear r9 G9 f9 r6 G6 b6 HFl g9 hgk hgr
                go_wp2_with fail
                refine bodyPost_ret (v := .agg #[.int .i64 6, .int .i64 0, .slice (some ⟨w8.heap.size, 0, none⟩) 2 2]) (by simp [results, Tryz.results55, go_sem, E0, E1, E2]) rfl ?_
                rw [HM2.out]
                exact ⟨_, rfl, HF3.out.low (by omega), HG3.out⟩
end Go.Proofs.YtagdccgbcmnehaaGreat

namespace Go.Tok
set_option linter.unusedVariables false

theorem ok_silent (n : Nat) : OkB (n + 1) silentD := ⟨by decide, by decide, by decide, fun _ => rfl, by decide, by decide, fun k hk => by cases hk⟩
theorem ok_step (n : Nat) {a : Int} (h : 1 ≤ a ∧ a ≤ 26) : OkB (n + 1) (stepD a) :=
  ⟨show (1 : Int) ≤ 2 by decide, show (2 : Int) ≤ 6 by decide, fun _ => h, fun _ => rfl, fun e => absurd (show (3 : Int) ≤ 2 from e) (by decide), fun e => absurd (show (2 : Int) = 6 from e) (by decide), fun k hk => by cases hk⟩
theorem ok_many {n : Nat} {k : Int} {ks : List BlockD} (h1 : 3 ≤ k ∧ k ≤ 6) (h2 : ks ≠ []) (h3 : k = 6 → ks.length = 2) (h : ∀ x ∈ ks, OkB n x) : OkB (n + 1) (manyD k ks) :=
  ⟨show (1 : Int) ≤ k by omega, show k ≤ 6 by omega, fun e => absurd (show k = 2 from e) (by omega), fun e => absurd (show k < 3 from e) (by omega), fun _ => h2, h3, h⟩
theorem labR {log : List (List Int)} (h : RightT log) {x : Int} (hx : x ∈ (ofM log).labels) : 1 ≤ x ∧ x ≤ 26 := by
  obtain ⟨t, ht, hxt⟩ := labM.1 hx
  exact (h.2 t ht).2 x hxt
theorem ok_leaf {n : Nat} {full : List (List Int)} {b : BlockD} (hr : RightT full) (hn : (ofM full).labels ≠ []) (h : Way3 full (.leaf b)) : OkB (n + 3) b := by
  have h0 : 1 ≤ nth (ofM full).labels 0 ∧ nth (ofM full).labels 0 ≤ 26 := labR hr (head_mem hn)
  generalize hc : CutD.leaf b = c at h
  cases h with
  | choose h => cases hc
  | order h => cases hc
  | beside h h2 => cases hc
  | one h =>
    cases hc
    unfold oneD
    split
    · refine ok_many (by decide) (by simp) (fun _ => rfl) fun x hx => ?_
      rcases List.mem_cons.1 hx with rfl | hx
      · exact ok_step _ h0
      · rw [List.mem_singleton.1 hx]; exact ok_silent _
    · exact ok_step _ h0
  | flower h =>
    cases hc
    unfold flowerD
    refine ok_many (by decide) (by simp) (fun _ => rfl) fun x hx => ?_
    rcases List.mem_cons.1 hx with rfl | hx
    · exact ok_silent _
    · rw [List.mem_singleton.1 hx]
      refine ok_many (by decide) (fun e => hn (List.map_eq_nil_iff.1 e)) (fun e => absurd e (by decide)) fun y hy => ?_
      obtain ⟨a, ha, rfl⟩ := List.mem_map.1 hy
      exact ok_step _ (labR hr ha)
theorem node_more {full : List (List Int)} {k : Int} {ls : List (List (List Int))} (hr : RightT full) (h : Way3 full (.node k ls)) : (3 ≤ k ∧ k ≤ 5) ∧ ls ≠ [] ∧ ∀ l ∈ ls, RightT l := by
  generalize hc : CutD.node k ls = c at h
  have ne : ∀ {gs : List (List Int)} {f : List Int → List (List Int)}, 2 ≤ gs.length → gs.map f ≠ [] := fun h2 e => by rw [List.map_eq_nil_iff.1 e] at h2; simp at h2
  cases h with
  | one h => cases hc
  | flower h => cases hc
  | choose h =>
    cases hc
    refine ⟨by decide, ne h, fun l hl => ?_⟩
    obtain ⟨g, hg, rfl⟩ := List.mem_map.1 hl
    exact hr.filt _
  | order h =>
    cases hc
    refine ⟨by decide, ne (by rw [(sortG_perm _ _).length_eq]; exact h), fun l hl => ?_⟩
    obtain ⟨g, hg, rfl⟩ := List.mem_map.1 hl
    exact hr.onto _
  | beside h h2 =>
    cases hc
    refine ⟨by decide, ne h, fun l hl => ?_⟩
    obtain ⟨g, hg, rfl⟩ := List.mem_map.1 hl
    exact hr.onto _
theorem full_labs {full : List (List Int)} (h : full.length ≠ 0) (hf : ∀ t ∈ full, t.length ≠ 0) : (ofM full).labels ≠ [] := by
  cases full with
  | nil => exact absurd rfl h
  | cons t r =>
    intro e
    have : nth t 0 ∈ (ofM (t :: r)).labels := labM.2 ⟨t, List.mem_cons_self .., head_mem (fun e => hf t (List.mem_cons_self ..) (by rw [e]; rfl))⟩
    rw [e] at this; cases this
theorem find_okB : ∀ (n : Nat) (log : List (List Int)), Fuel n log → RightT log → OkB (n + 3) (mineF0 n log) := by
  intro n
  induction n with
  | zero => intro log h; exact h.elim
  | succ n ih =>
    intro log h hr
    unfold Fuel at h
    unfold mineF0
    unfold cutF at *
    by_cases h1 : (fullF log).length = 0
    · rw [if_pos h1]; exact ok_silent _
    · rw [if_neg h1] at h ⊢
      by_cases h2 : (fullF log).length < log.length
      · rw [if_pos h2] at h ⊢
        show OkB (n + 3 + 1) (manyD 4 [silentD, mineF0 n (fullF log)])
        refine ok_many (by decide) (by simp) (fun e => absurd e (by decide)) fun x hx => ?_
        rcases List.mem_cons.1 hx with rfl | hx
        · exact ok_silent _
        · rw [List.mem_singleton.1 hx]; exact ih _ h hr.full
      · rw [if_neg h2] at h ⊢
        have hw := way3 (fullF log)
        have hne : ∀ t ∈ fullF log, t.length ≠ 0 := fun t ht => (mem_full.1 ht).2
        have hlab := full_labs h1 hne
        generalize cutP (ofM (fullF log)) (fullF log) = c at hw h
        cases c with
        | leaf b => exact ok_leaf hr.full hlab hw
        | opt l => nomatch hw
        | node k ls =>
          obtain ⟨h3, h4, h5⟩ := node_more hr.full hw
          show OkB (n + 3 + 1) (manyD k (ls.map (mineF0 n)))
          refine ok_many (by omega) (fun e => h4 (List.map_eq_nil_iff.1 e)) (fun e => by omega) fun x hx => ?_
          obtain ⟨l, hl, rfl⟩ := List.mem_map.1 hx
          exact ih l (h l hl) (h5 l hl)


/-- at most n deep -/
def DepB : Nat → BlockD → Prop
  | 0, _ => False
  | n + 1, b => ∀ k ∈ b.kids, DepB n k
theorem dep_ok : ∀ (n : Nat) (b : BlockD), OkB n b → DepB n b := by
  intro n
  induction n with
  | zero => intro b h; exact h.elim
  | succ n ih => intro b h k hk; exact ih k (h.2.2.2.2.2.2 k hk)
theorem checkL_same {f g : BlockD → Nat → Nat × Int} : ∀ (ks : List BlockD) (c : Nat), (∀ k ∈ ks, ∀ c, f k c = g k c) → checkL f ks c = checkL g ks c
  | [], c, _ => rfl
  | k :: ks, c, h => by
    unfold checkL
    rw [h k (by simp) c, checkL_same ks _ fun x hx => h x (by simp [hx])]
theorem check_dep : ∀ (n : Nat) (b : BlockD), DepB n b → ∀ m, n ≤ m → ∀ c, checkF m b c = checkF n b c := by
  intro n
  induction n with
  | zero => intro b h; exact h.elim
  | succ n ih =>
    intro b h m hm c
    obtain ⟨m, rfl⟩ : ∃ k, m = k + 1 := ⟨m - 1, by omega⟩
    unfold checkF
    rw [checkL_same b.kids (c + 1) fun k hk c => ih k (h k hk) m (by omega) c]
theorem wrong_dep {n m : Nat} {b : BlockD} (h : DepB n b) (hm : n ≤ m) : wrongB m b = wrongB n b := by
  unfold wrongB
  rw [check_dep n b h m hm]
end Go.Tok

namespace Go.Proofs.YtagdccgbcmnehaaGreat
open Go.RowKit Go.Tok
set_option linter.unusedVariables false
theorem find_ok : ∀ n, FindOk n
  | 0 => find_zero
  | n + 1 => find_step n (find_ok n)
/-- what Mine hands back -/
def RetMine (w : World) (r : BlockD × Int) (e : Ending) (w' : World) : Prop :=
  ∃ vb, e = .returned (.tuple #[vb, .int .i64 r.2]) ∧ BlkF w.heap.size w' vb r.1 ∧ Gr w w'
theorem blockR_more {n m : Nat} (h : n ≤ m) {w : World} {v : Value} {b : BlockD} (hb : BlockR n w v b) : BlockR m w v b := by
  obtain ⟨s, h1, h2, h3, h4⟩ := hb
  exact ⟨s, h1, h2, h3, rd_up h h4⟩
theorem blkF_bad {m : Nat} {w : World} : BlkF m w (.agg #[.int .i64 0, .int .i64 0, .slice none 0 0]) zeroB := BlkF.flat (k := 0) (l := 0) (by decide) (by decide)
theorem mine_wrong_mine {m n : Nat} {w : World} {v : Value} {log : List (List Int)} (hb : BlockR n w v (mineF0 fuelM log)) (hr : RightT log) (hn : fuelM + 2 ≤ n) : wrongB (n + 1) (mineF0 fuelM log) = wrongB (fuelM + 3) (mineF0 fuelM log) :=
  wrong_dep (dep_ok _ _ (find_okB fuelM log (fuel_right hr) hr)) (by omega)
set_option maxHeartbeats 1000000 in
set_option maxRecDepth 100000 in
theorem Mine_calls (v : Value) (log : List (List Int)) (w : World) (hv : Rd rowK w v log) : Calls Tryz.prog 19 #[v] w (RetMine w (mineF log)) := by
  obtain ⟨va, vc, rfl, _, _⟩ := hv.len
  have r0 : Blk (w.alloc (.cells #[.int .i64 0, .int .i64 0, .slice none 0 0] 55)) w.heap.size 55 #[.int .i64 0, .int .i64 0, .slice none 0 0] := Blk.new rfl
  have G0 : Gr w (w.alloc (.cells #[.int .i64 0, .int .i64 0, .slice none 0 0] 55)) := (Gr.refl _).alloc _
  have hsz0 : (w.alloc (.cells #[.int .i64 0, .int .i64 0, .slice none 0 0] 55)).heap.size = w.heap.size + 1 := by simp
  have HSZ := Lib.hid hsz0
  have HW := Lib.hid (TWrong_calls _ log _ (hv.gr G0))
  have HV := Lib.hid hv
  clear hsz0 hv
  obtain ⟨f, hf⟩ : ∃ f, f = wrongT log := ⟨_, rfl⟩
  rw [← hf] at HW
  by_cases h0 : f = 0
  · have hr : RightT log := (right_iff log).1 (by rw [← hf]; exact h0)
    subst h0
    have HR := Lib.hid hr
    have HM : Hid (mineF log = if wrongB (fuelM + 3) (mineF0 fuelM log) = 0 then (mineF0 fuelM log, 0) else (zeroB, wrongB (fuelM + 3) (mineF0 fuelM log))) := Lib.hid (by unfold mineF; rw [if_pos hf.symm])
    clear hr hf
    go_enter Tryz.func19, Tryz.ntmps19
    go_wp2_with fail
    refine HW.out.mono ?_
    rintro _ w2 ⟨rfl, g2⟩
    have r2 := r0.gr g2
    have G2 := G0.trans g2
    have hle2 : w.heap.size + 1 ≤ w2.heap.size := by have := g2.le; have := HSZ.out; omega
    clear r0 G0 g2 HW HSZ
    go_wp2_with fail
    refine (find_ok fuelM _ log w2 (HV.out.gr G2) HR.out (fuel_right HR.out)).mono ?_
    rintro _ w3 ⟨v3, rfl, f3, g3⟩
    obtain ⟨k1, k2, a3, c3, rfl⟩ := f3.form
    obtain ⟨n, hn⟩ := f3.now
    obtain ⟨bf, hbf⟩ : ∃ b, b = mineF0 fuelM log := ⟨_, rfl⟩
    have hwr := fun (W : World) (h : BlockR (n + (fuelM + 2)) W (.agg #[.int .i64 (mineF0 fuelM log).kind, .int .i64 (mineF0 fuelM log).label, .slice a3 (mineF0 fuelM log).kids.length c3]) (mineF0 fuelM log)) => mine_wrong_mine (m := 0) h HR.out (by omega)
    have hn2 : BlockR (n + (fuelM + 2)) w3 (.agg #[.int .i64 (mineF0 fuelM log).kind, .int .i64 (mineF0 fuelM log).label, .slice a3 (mineF0 fuelM log).kids.length c3]) (mineF0 fuelM log) := blockR_more (by omega) hn
    have hwe := hwr w3 hn2
    rw [← hbf] at f3 k1 k2 HM hn2 hwe ⊢
    have gB : Gr w3 (w3.alloc (.cells #[.int .i64 bf.kind, .int .i64 bf.label, .slice a3 bf.kids.length c3] 55)) := (Gr.refl _).alloc _
    have HWB := BlocksWrong_calls _ _ bf _ (hn2.gr gB)
    rw [hwe] at HWB
    have HWC := Lib.hid HWB
    have b3 : Blk (w3.alloc (.cells #[.int .i64 bf.kind, .int .i64 bf.label, .slice a3 bf.kids.length c3] 55)) w3.heap.size 55 #[.int .i64 bf.kind, .int .i64 bf.label, .slice a3 bf.kids.length c3] := Blk.new rfl
    have s0 := b3.cell (i := 0) rfl
    have s1 := b3.cell (i := 1) rfl
    have s2 := b3.cell (i := 2) rfl
    have r3 := (r2.gr g3).gr gB
    have G3 := (G2.trans g3).trans gB
    have HF := Lib.hid ((f3.low hle2).gr gB)
    clear hbf hwr hn hn2 hwe gB HWB f3 g3 r2 G2 hle2
    obtain ⟨x, hx⟩ : ∃ x, x = wrongB (fuelM + 3) bf := ⟨_, rfl⟩
    rw [← hx] at HWC HM
    clear hx
    go_wp2_with fail
    refine HWC.out.mono ?_
    rintro _ w4 ⟨rfl, g4⟩
    have b4 := b3.gr g4
    have r4 := r3.gr g4
    have G4 := G3.trans g4
    have HF4 := Lib.hid (HF.out.gr g4)
    clear s0 s1 s2 b3 r3 G3 HWC HF g4
    have s0 := b4.cell (i := 0) rfl
    have s1 := b4.cell (i := 1) rfl
    have s2 := b4.cell (i := 2) rfl
    by_cases hx0 : x = 0
    · subst hx0
      rw [if_pos rfl] at HM
      obtain ⟨D0, F0, D1, F1, D2, F2, r9⟩ := store3 r4 (.int .i64 bf.kind) (.int .i64 bf.label) (.slice a3 bf.kids.length c3)
      have HG3 := Lib.hid (store3_gr (H := w.heap.size) G4 (Nat.le_refl _) (.int .i64 bf.kind) (.int .i64 bf.label) (.slice a3 bf.kids.length c3))
      have HF3 := Lib.hid (store3_blk (H := w.heap.size) HF4.out (by omega) (.int .i64 bf.kind) (.int .i64 bf.label) (.slice a3 bf.kids.length c3))
      have E0 := r9.cell (i := 0) rfl
      have E1 := r9.cell (i := 1) rfl
      have E2 := r9.cell (i := 2) rfl
      clear r9 b4 r4 G4 HF4
      go_wp2_with fail
      refine bodyPost_ret (v := .tuple #[.agg #[.int .i64 bf.kind, .int .i64 bf.label, .slice a3 bf.kids.length c3], .int .i64 0]) (by simp [results, Tryz.results19, go_sem, E0, E1, E2]) rfl ?_
      unfold RetMine
      rw [HM.out]
      exact ⟨_, rfl, HF3.out.low (by omega), HG3.out⟩
    · rw [if_neg hx0] at HM
      have hx1 : (x != 0) = true := by simpa using hx0
      obtain ⟨D0, F0, D1, F1, D2, F2, r9⟩ := store3 r4 (.int .i64 0) (.int .i64 0) (.slice none 0 0)
      have HG3 := Lib.hid (store3_gr (H := w.heap.size) G4 (Nat.le_refl _) (.int .i64 0) (.int .i64 0) (.slice none 0 0))
      have E0 := r9.cell (i := 0) rfl
      have E1 := r9.cell (i := 1) rfl
      have E2 := r9.cell (i := 2) rfl
      clear r9
      clear b4 r4 G4 hx0
      go_wp2_with fail
      refine bodyPost_ret (v := .tuple #[.agg #[.int .i64 0, .int .i64 0, .slice none 0 0], .int .i64 x]) (by simp [results, Tryz.results19, go_sem, E0, E1, E2]) rfl ?_
      unfold RetMine
      rw [HM.out]
      exact ⟨_, rfl, blkF_bad, HG3.out⟩
  · have HM : Hid (mineF log = (zeroB, f)) := Lib.hid (by unfold mineF; rw [if_neg (by rw [← hf]; exact h0), hf])
    have hx1 : (f != 0) = true := by simpa using h0
    clear hf h0
    go_enter Tryz.func19, Tryz.ntmps19
    go_wp2_with fail
    refine HW.out.mono ?_
    rintro _ w2 ⟨rfl, g2⟩
    have r2 := r0.gr g2
    have G2 := G0.trans g2
    obtain ⟨D0, F0, D1, F1, D2, F2, r9⟩ := store3 r2 (.int .i64 0) (.int .i64 0) (.slice none 0 0)
    have HG3 := Lib.hid (store3_gr (H := w.heap.size) G2 (Nat.le_refl _) (.int .i64 0) (.int .i64 0) (.slice none 0 0))
    have E0 := r9.cell (i := 0) rfl
    have E1 := r9.cell (i := 1) rfl
    have E2 := r9.cell (i := 2) rfl
    clear r9
    clear r0 G0 g2 HW HSZ r2 G2
    go_wp2_with fail
    refine bodyPost_ret (v := .tuple #[.agg #[.int .i64 0, .int .i64 0, .slice none 0 0], .int .i64 f]) (by simp [results, Tryz.results19, go_sem, E0, E1, E2]) rfl ?_
    unfold RetMine
    rw [HM.out]
    exact ⟨_, rfl, blkF_bad, HG3.out⟩
end Go.Proofs.YtagdccgbcmnehaaGreat

