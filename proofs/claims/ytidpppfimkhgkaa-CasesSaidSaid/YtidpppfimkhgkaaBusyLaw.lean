/- The net with a place for each work, as a plain function; 'append' of two transitions. No program is in sight here. -/
import Derived.Test.YtidpppfimkhgkaaPA
namespace Go.Tok
open Go.RowKit
set_option linter.unusedVariables false

/-- 'append(out, Tran{..}, Tran{..})' at a step of a region that draws its order -/
theorem step_app_tran2 {P : Program} {t e : TypeId} (T : TranTy P t e) {w : World} {ops : Array Oper} {o : Oper} {a : Act} {K : Act → World → Prop} {Q : Exit → Act → World → Prop} {E : Prop} (hgd : o.guard = none) (s x : Operand)
    (ho : o.op = .call { callee := .builtin .append, args := #[s, x], argTypes := #[t, t] }) (base : Nat) (v : Value) (ts : List TranD) (tr tr' : TranD) (p q p' q' : Value) (ad : Addr) (hs : a.eval s = v) (hx : a.eval x = .slice (some ad) 2 2)
    (hown : OwnT e base w v ts) (hl : I64 tr.label) (hp : Held base v.ownBlock w p tr.pre) (hq : Held base v.ownBlock w q tr.post) (hl' : I64 tr'.label) (hp' : Held base v.ownBlock w p' tr'.pre) (hq' : Held base v.ownBlock w q' tr'.post)
    (hnews : ∀ j u, [Value.int .i64 tr.label, p, q, .int .i64 tr'.label, p', q'][j]? = some u → w.cell? (ad.add j) = some u) (h1 : p.oneCell' = true) (h2 : q.oneCell' = true) (h1' : p'.oneCell' = true) (h2' : q'.oneCell' = true)
    (hb : (ts.length + 2) * 56 ≤ 140737488355328) (hbase : base ≤ w.heap.size)
    (hK : ∀ g cap w', OwnT e base w' (.slice (some ⟨g, 0, none⟩) (ts.length + 2) cap) (ts ++ [tr, tr']) → w.grownBy w' v.ownBlock → (v.ownBlock = some g ∨ w.heap.size = g) → g < w'.heap.size → K (a.put o.dst (.slice (some ⟨g, 0, none⟩) (ts.length + 2) cap)) w') :
    if Region.wanted o (yielded ops a.tmps) = true then Oper.wp P o a w K Q else E := by
  obtain ⟨i, hi, hz, hsz, hby⟩ := info_parts T.info
  have hown0 := hown
  unfold OwnT at hown0
  obtain ⟨rows, rfl, hr, hall⟩ := hown0
  rw [List.length_map] at hb hK
  have hone : ∀ u ∈ [Value.int .i64 tr.label, p, q, .int .i64 tr'.label, p', q'], u.oneCell' = true := by
    intro u hu
    simp only [List.mem_cons, List.not_mem_nil, or_false] at hu
    rcases hu with rfl | rfl | rfl | rfl | rfl | rfl
    · rfl
    · exact h1
    · exact h2
    · rfl
    · exact h1'
    · exact h2'
  refine step_append_lies w hgd s x t ho base e i _ 3 56 T.und hi hz hsz hby rfl (by omega) v rows.length (cells3 rows) hs hr ad 2 2 [.int .i64 tr.label, p, q, .int .i64 tr'.label, p', q'] hx rfl hnews hone (by omega) (by unfold maxLen; omega) hb hbase w.heap.size rfl ?_
  intro g cap w' hown' hgr hat hlt
  refine hK g cap w' ?_ hgr (hat.imp id Eq.symm) hlt
  unfold OwnT
  refine ⟨rows ++ [(tr, p, q), (tr', p', q')], by simp, ?_, ?_⟩
  · rw [show cells3 (rows ++ [(tr, p, q), (tr', p', q')]) = cells3 rows ++ [.int .i64 tr.label, p, q, .int .i64 tr'.label, p', q'] by simp [cells3], List.length_append]
    exact hown'
  · have hat' : v.ownBlock = some g ∨ w.heap.size ≤ g := hat.imp id (fun h => by omega)
    intro r hr'
    rcases List.mem_append.1 hr' with h5 | h5
    · obtain ⟨a1, a2, a3⟩ := hall r h5
      exact ⟨a1, a2.grown hgr rfl hat', a3.grown hgr rfl hat'⟩
    · simp only [List.mem_cons, List.not_mem_nil, or_false] at h5
      rcases h5 with rfl | rfl
      · exact ⟨hl, hp.grown hgr rfl hat', hq.grown hgr rfl hat'⟩
      · exact ⟨hl', hp'.grown hgr rfl hat', hq'.grown hgr rfl hat'⟩

theorem netOk_places {N : NetD} (h : netOkB N = true) : 0 ≤ N.places ∧ N.places ≤ 16 := by
  unfold netOkB at h
  simp only [Bool.and_eq_true, decide_eq_true_eq] at h
  exact ⟨h.1.1.1, h.1.1.2⟩
theorem netOk_len {N : NetD} (h : netOkB N = true) : N.trans.length ≤ 24 := by
  unfold netOkB at h
  simp only [Bool.and_eq_true, decide_eq_true_eq] at h
  exact h.1.2
theorem netOk_lab {N : NetD} (h : netOkB N = true) {k : Nat} (hk : k < N.trans.length) : 0 ≤ (N.tr k).label ∧ (N.tr k).label ≤ 26 := ⟨(netOk_tr h hk).lab0, (netOk_tr h hk).lab1⟩
def wideL (n : Nat) (ws : List Int) (i : Int) : List Int :=
  if 0 ≤ i then (ws ++ (List.replicate n (0 : Int)).drop ws.length).set i.toNat 1 else ws ++ (List.replicate n (0 : Int)).drop ws.length
theorem wideL_no {n : Nat} {ws : List Int} {i : Int} (h : i < 0) : wideL n ws i = ws ++ (List.replicate n (0 : Int)).drop ws.length := if_neg (by omega)
theorem wideL_yes {n : Nat} {ws : List Int} (i : Nat) : wideL n ws i = (ws ++ (List.replicate n (0 : Int)).drop ws.length).set i 1 := by unfold wideL; rw [if_pos (by omega), Int.toNat_natCast]
theorem wideL_len {n : Nat} {ws : List Int} {i : Int} (h : ws.length ≤ n) : (wideL n ws i).length = n := by
  unfold wideL; split <;> simp <;> omega
def visTo (ts : List TranD) (k : Nat) : Nat := ((ts.take k).filter fun t => decide (0 < t.label)).length
theorem visTo_zero (ts : List TranD) : visTo ts 0 = 0 := by simp [visTo]
theorem visTo_yes {N : NetD} {k : Nat} (hk : k < N.trans.length) (h : 0 < (N.tr k).label) : visTo N.trans (k + 1) = visTo N.trans k + 1 := by
  have e : N.tr k = N.trans[k] := by simp [NetD.tr, List.getD, hk]
  unfold visTo
  rw [List.take_succ_eq_append_getElem hk, List.filter_append, List.length_append, ← e]
  simp [h]
theorem visTo_no {N : NetD} {k : Nat} (hk : k < N.trans.length) (h : ¬ 0 < (N.tr k).label) : visTo N.trans (k + 1) = visTo N.trans k := by
  have e : N.tr k = N.trans[k] := by simp [NetD.tr, List.getD, hk]
  unfold visTo
  rw [List.take_succ_eq_append_getElem hk, List.filter_append, List.length_append, ← e]
  simp [h]
theorem visTo_le (ts : List TranD) (k : Nat) : visTo ts k ≤ k := by
  unfold visTo
  have h1 := List.length_filter_le (fun t : TranD => decide (0 < t.label)) (ts.take k)
  have h2 := List.length_take_le k ts
  omega
theorem visTo_mono {N : NetD} {k m : Nat} (h : k ≤ m) (hm : m ≤ N.trans.length) : visTo N.trans k ≤ visTo N.trans m := by
  induction m with
  | zero => have : k = 0 := by omega
            subst this; exact Nat.le_refl _
  | succ m ih =>
    by_cases hk : k = m + 1
    · subst hk; exact Nat.le_refl _
    · have := ih (by omega) (by omega)
      by_cases hv : 0 < (N.tr m).label
      · rw [visTo_yes (by omega) hv]; omega
      · rw [visTo_no (by omega) hv]; omega
def busyP (N : NetD) : Nat := N.places.toNat + visTo N.trans N.trans.length
def busyT (n : Nat) (t : TranD) (next : Nat) : List TranD :=
  if t.label = 0 then [⟨0, wideL n t.pre (-1), wideL n t.post (-1)⟩] else [⟨0, wideL n t.pre (-1), wideL n [] next⟩, ⟨t.label, wideL n [] next, wideL n t.post (-1)⟩]
def busyTo (N : NetD) (n : Nat) : Nat → List TranD
  | 0 => []
  | k + 1 => busyTo N n k ++ busyT n (N.tr k) (N.places.toNat + visTo N.trans k)
theorem busyTo_zero (N : NetD) (n : Nat) : busyTo N n 0 = [] := rfl
theorem busyTo_silent {N : NetD} {n k : Nat} (h : (N.tr k).label = 0) : busyTo N n (k + 1) = busyTo N n k ++ [⟨0, wideL n (N.tr k).pre (-1), wideL n (N.tr k).post (-1)⟩] := by rw [busyTo, busyT, if_pos h]
theorem busyTo_seen {N : NetD} {n k : Nat} (h : (N.tr k).label ≠ 0) : busyTo N n (k + 1) = busyTo N n k ++ [⟨0, wideL n (N.tr k).pre (-1), wideL n [] ((N.places.toNat + visTo N.trans k : Nat) : Int)⟩, ⟨(N.tr k).label, wideL n [] ((N.places.toNat + visTo N.trans k : Nat) : Int), wideL n (N.tr k).post (-1)⟩] := by rw [busyTo, busyT, if_neg h]
theorem busyTo_len {N : NetD} (hl : ∀ k, k < N.trans.length → 0 ≤ (N.tr k).label) (n : Nat) : ∀ k, k ≤ N.trans.length → (busyTo N n k).length = k + visTo N.trans k := by
  intro k
  induction k with
  | zero => intro _; simp [busyTo, visTo]
  | succ k ih =>
    intro hk
    by_cases h : (N.tr k).label = 0
    · rw [busyTo_silent h, visTo_no (by omega) (by omega), List.length_append, ih (by omega)]; simp; omega
    · have := hl k (by omega)
      rw [busyTo_seen h, visTo_yes (by omega) (by omega), List.length_append, ih (by omega)]; simp; omega
def busyN (N : NetD) : NetD := ⟨(busyP N : Int), busyTo N (busyP N) N.trans.length⟩
def busyNF (N : NetD) : NetD × Int :=
  if netOkB N = false then (⟨0, []⟩, 2) else if 16 < busyP N ∨ 24 < N.trans.length + visTo N.trans N.trans.length then (⟨0, []⟩, 4) else (busyN N, 0)
theorem busyNF_wrong {N : NetD} (h : netOkB N = false) : busyNF N = (⟨0, []⟩, 2) := if_pos h
theorem busyNF_full {N : NetD} (h : netOkB N = true) (h' : 16 < busyP N ∨ 24 < N.trans.length + visTo N.trans N.trans.length) : busyNF N = (⟨0, []⟩, 4) := by unfold busyNF; rw [if_neg (by rw [h]; decide), if_pos h']
theorem busyNF_ok {N : NetD} (h : netOkB N = true) (h1 : busyP N ≤ 16) (h2 : N.trans.length + visTo N.trans N.trans.length ≤ 24) : busyNF N = (busyN N, 0) := by unfold busyNF; rw [if_neg (by rw [h]; decide), if_neg (by omega)]
def RetBN (w : World) (r : NetD × Int) (e : Ending) (w' : World) : Prop := ∃ v', e = .returned (.tuple #[v', .int .i64 r.2]) ∧ NetR w' v' r.1 ∧ Gr w w'
theorem RetBN.mk {w w' : World} {r : NetD × Int} {N : NetD} {c : Int} {v : Value} (h : r = (N, c)) (hN : NetR w' v N) (g : Gr w w') : RetBN w r (.returned (.tuple #[v, .int .i64 c])) w' := by subst h; exact ⟨v, rfl, hN, g⟩
theorem zeroNetB (w : World) : NetR w (.agg #[.int .i64 0, .slice none 0 0]) ⟨0, []⟩ := NetR.mk_ (N := ⟨0, []⟩) (TransR.nil w) (by simp [I64])
end Go.Tok
