/- Texts of one family, joined; what the claim does not need is left out. -/
import Derived.Test.YtagdccgbcmnehaaGreatQMRd
import Derived.Test.YtagdccgbcmnehaaGreatQMRf
import Derived.Test.YtagdccgbcmnehaaGreatQMRe
import Derived.Test.YtagdccgbcmnehaaGreatQMRa
namespace Go.Tok
open Go.RowKit
set_option linter.unusedVariables false
theorem on_intro {S : Nat → Prop} {p : World → Prop} {w : World} (h : ∀ w', Kp S w w' → p w') : On S p w := by unfold On; exact h
theorem nth_zero (a : Int) (l : List Int) : nth (a :: l) 0 = a := by simp [nth_def]
theorem nth_app {g : List Int} {k : Nat} (h : k < g.length) {y : Int} : nth (g ++ [y]) k = nth g k := by rw [nth_lt (by simp; omega), nth_lt h, List.getElem_append_left h]
theorem nth_succ (a : Int) (l : List Int) (i : Nat) : nth (a :: l) (i + 1) = nth l i := by simp [nth_def]
theorem Ints.all {w : World} {v : Value} {xs : List Int} (h : Ints w v xs) : ∀ x ∈ xs, I64 x := fun x hx => by
  obtain ⟨k, hk, rfl⟩ := List.getElem_of_mem hx
  have := h.range k
  rwa [nth_lt hk] at this
section
variable {P : Program} {t e : TypeId}
/-- 'append(xs, y)' at a row of one int that is full -/
theorem app_one1 (T : IntTy P t e) {w : World} {ops : Array Oper} {rest : List Oper} {o : Oper} {a : Act} {Q : Exit → Act → World → Prop} (s x : Operand)
    (ad0 : Addr) (x0 : Int) (ad : Addr) (y : Int) (hg : o.guard = none) (hop : o.op = .call { callee := .builtin .append, args := #[s, x], argTypes := #[t, t] }) (hs : a.eval s = .slice (some ad0) 1 1) (hx : a.eval x = .slice (some ad) 1 1)
    (hc0 : w.cell? ad0 = some (.int .i64 x0)) (hx0 : I64 x0) (hcell : w.cell? ad = some (.int .i64 y)) (hy : I64 y)
    (hK : ∀ g cap w', OwnI e w.heap.size w' (.slice (some ⟨g, 0, none⟩) 2 cap) [x0, y] → Gr w w' → wpList P ops Q rest (a.put o.dst (.slice (some ⟨g, 0, none⟩) 2 cap)) w') : wpList P ops Q (o :: rest) a w := by
  obtain ⟨i, hi, hz, hsz, hb⟩ := info_parts T.info
  have spot : ∀ (q : Addr) (v : Value), w.cell? q = some v → ∀ j u, [v][j]? = some u → w.cell? (q.add j) = some u := fun q v hq j u hj => by
    cases j with
    | zero =>
      simp only [List.getElem?_cons_zero, Option.some.injEq] at hj
      subst hj
      obtain ⟨b, o, sp⟩ := q
      have hsp := World.cell?_spot hq
      simp at hsp
      subst hsp
      rw [add_none]; exact hq
    | succ j => simp at hj
  refine wpList_append_grows w hg s x t hop e i _ 1 8 T.und hi hz hsz hb rfl (by omega) (some ad0) 1 1 [.int .i64 x0] hs (fun h => by cases h) (by simp) (fun b hb => by cases hb; exact spot _ _ hc0) ad 1 1 [.int .i64 y] hx rfl (spot _ _ hcell) (by simp [Value.oneCell']) (by omega) (by unfold maxLen; omega) (by omega) ?_
  intro v' w' ho hg'
  have how : OwnI e w.heap.size w' v' [x0, y] := by
    refine OwnI.mk_ (by simpa using ho) fun z hz => ?_
    rcases List.mem_cons.1 hz with rfl | hz
    · exact hx0
    · rw [List.mem_singleton.1 hz]; exact hy
  rcases how.form with ⟨_, h0⟩ | ⟨g, cap, rfl, _, _, _, _⟩
  · cases h0
  · exact hK g cap w' how ((Gr.refl w).grown hg' (fun k hk => by cases hk))
/-- a group: its first label where it stood, or a row of its own -/
def GrpI (e : TypeId) (n L : Nat) (a : Int) (w : World) (gv : Value) (g : List Int) : Prop := (gv = .slice (some ⟨L, 0, none⟩) 1 1 ∧ g = [a]) ∨ OwnI e n w gv g
/-- what an append to a group leaves: all but the group's own row -/
def Spares (n : Nat) (w w' : World) (v : Value) : Prop := ∃ row, w.grownBy w' row ∧ ∀ b, row = some b → v.ownBlock = some b ∧ n ≤ b
theorem ownI_low {n m : Nat} {w : World} {v : Value} {xs : List Int} (h : OwnI e n w v xs) (hm : m ≤ n) : OwnI e m w v xs := by
  have h2 := h.ints.all
  unfold OwnI at h
  refine OwnI.mk_ ⟨h.1.1, ?_⟩ h2
  rcases h.1.2 with h4 | ⟨g, cap, cur, h4, h5, h6⟩
  · exact .inl h4
  · exact .inr ⟨g, cap, cur, h4, Nat.le_trans hm h5, h6⟩
theorem app_grp (T : IntTy P t e) {w : World} {ops : Array Oper} {rest : List Oper} {o : Oper} {q : Act} {Q : Exit → Act → World → Prop} (s x : Operand)
    (n L : Nat) (a : Int) (gv : Value) (g : List Int) (ad : Addr) (y : Int) (hgd : o.guard = none) (hop : o.op = .call { callee := .builtin .append, args := #[s, x], argTypes := #[t, t] }) (hs : q.eval s = gv) (hx : q.eval x = .slice (some ad) 1 1)
    (hG : GrpI e n L a w gv g) (hc : w.cell? ⟨L, 0, none⟩ = some (.int .i64 a)) (ha : I64 a) (hcell : w.cell? ad = some (.int .i64 y)) (hy : I64 y) (hn : g.length + 1 ≤ 17592186044416) (hb : n ≤ w.heap.size)
    (hK : ∀ g1 cap w', OwnI e n w' (.slice (some ⟨g1, 0, none⟩) (g.length + 1) cap) (g ++ [y]) → (∀ z : World, z.heap.size ≤ n → Gr z w → Gr z w') → Spares n w w' gv → (gv.ownBlock = some g1 ∨ w.heap.size ≤ g1) → wpList P ops Q rest (q.put o.dst (.slice (some ⟨g1, 0, none⟩) (g.length + 1) cap)) w') : wpList P ops Q (o :: rest) q w := by
  rcases hG with ⟨rfl, rfl⟩ | hG
  · refine app_one1 T s x ⟨L, 0, none⟩ a ad y hgd hop hs hx hc ha hcell hy ?_
    intro g1 cap w' ho hg
    have hg1 : w.heap.size ≤ g1 := (ho.lt (show (Value.slice (some ⟨g1, 0, none⟩) 2 cap).ownBlock = some g1 from rfl)).1
    refine hK g1 cap w' (ownI_low ho hb) (fun z _ h => h.trans hg) ⟨none, ⟨hg.below.os, hg.below.tape, hg.below.output, hg.below.size, fun b hb _ => hg.below.block b hb⟩, fun b hb => by cases hb⟩ (.inr hg1)
  · refine app_int T s x n gv g ad y hgd hop hs hx hG hcell hy hn hb ?_
    intro v' w' ho hgr hgb hat
    rcases ho.form with ⟨_, h0⟩ | ⟨g1, cap, rfl, _, _, _, _⟩
    · simp at h0
    · rw [List.length_append, List.length_singleton] at ho ⊢
      refine hK g1 cap w' ho hgr ⟨_, hgb, fun b hb => ⟨hb, (hG.lt hb).1⟩⟩ ?_
      rcases hat with h | h
      · exact .inl h.symm
      · exact .inr (by have : g1 = w.heap.size := by simpa [Value.ownBlock] using h
                       omega)
theorem Spares.own {n m : Nat} {w w' : World} {v u : Value} {xs : List Int} (h : Spares n w w' v) (ho : OwnI e m w u xs) (hne : ∀ b, u.ownBlock = some b → v.ownBlock ≠ some b) : OwnI e m w' u xs := by
  obtain ⟨row, hg, hr⟩ := h
  refine ho.grown hg ?_
  cases hu : u.ownBlock with
  | none => exact .inl rfl
  | some b =>
    refine .inr fun e => ?_
    exact hne b hu (hr b e.symm).1
theorem Spares.out {n base : Nat} {e' : TypeId} {w w' : World} {v u : Value} {xs : List (List Int)} (h : Spares n w w' v) (ho : OwnR rowK e' base (fun b => base ≤ b ∧ b < n) w u xs) (hu : ∀ b, u.ownBlock = some b → b < n) : OwnR rowK e' base (fun b => base ≤ b ∧ b < n) w' u xs := by
  obtain ⟨row, hg, hr⟩ := h
  refine ho.kept hg ?_ fun b _ hs => ⟨hs, fun e => ?_⟩
  · cases hu' : u.ownBlock with
    | none => exact .inl rfl
    | some b =>
      refine .inr fun e => ?_
      have := (hr b e.symm).2
      have := hu b hu'
      omega
  · have := (hr b e.symm).2
    omega
theorem Spares.grp {n m L : Nat} {a : Int} {w w' : World} {v u : Value} {xs : List Int} (h : Spares n w w' v) (ho : GrpI e m L a w u xs) (hne : ∀ b, v.ownBlock = some b → u.ownBlock ≠ some b) : GrpI e m L a w' u xs :=
  ho.imp id fun h2 => h.own h2 fun b hb hv => hne b hv hb
theorem GrpI.ints {n L : Nat} {a : Int} {w : World} {gv : Value} {g : List Int} (h : GrpI e n L a w gv g) (hc : w.cell? ⟨L, 0, none⟩ = some (.int .i64 a)) (ha : I64 a) : Ints w gv g := by
  rcases h with ⟨rfl, rfl⟩ | h
  · refine Ints.intro rfl (Nat.le_refl _) (by unfold maxLen; omega) (fun x hx => by rw [List.mem_singleton.1 hx]; exact ha) (fun h => by cases h) fun i hi => ⟨L, 0, rfl, ?_⟩
    have : i = 0 := by simp at hi; omega
    subst this
    rw [nth_zero]; exact hc
  · exact h.ints
theorem GrpI.gr {n L : Nat} {a : Int} {w w' : World} {gv : Value} {g : List Int} (h : GrpI e n L a w gv g) (k : Gr w w') : GrpI e n L a w' gv g := h.imp id fun h => h.gr k
end
end Go.Tok
namespace Go.Proofs.YtagdccgbcmnehaaGreat
open Go.RowKit Go.Tok Go.Sort
set_option linter.unusedVariables false
/-- the function answers lk at two labels, in w and in every later world -/
def Asks2 (gf : Nat) (bd cb : Array Value) (lk : Int → Int → Bool) (w : World) : Prop :=
  ∀ (W : World) (x y : Int), I64 x → I64 y → Gr w W → Calls Tryz.prog gf (bd ++ (#[.int .i64 x, .int .i64 y] ++ cb)) W fun e w' => e = .returned (.bool (lk x y)) ∧ Gr W w'
theorem Sort1_calls (b o cap : Nat) (x : Int) (w : World) (hc : w.cell? ⟨b, o, none⟩ = some (.int .i64 x)) (hf : w.frozen? ⟨b, o, none⟩ = false) :
    Calls Tryz.prog 22 #[.slice (some ⟨b, o, none⟩) 1 cap] w fun e w' => e = .returned (.tuple #[]) ∧ Gr w w' := by
  have hH : Holds (Value.int .i64) w b o [x].toArray := by
    intro j hj
    have : j = 0 := by simp at hj; omega
    subst this
    exact ⟨by simpa using hc, by simpa using hf⟩
  refine (Tryz.slices_Sort_int b o cap [x] w hH (cell_block hc) (by simp)).mono ?_
  rintro _ w' ⟨rfl, n, os, rfl⟩
  refine ⟨rfl, ?_⟩
  have e1 : ([x].mergeSort fun x y => decide (x ≤ y)) = [x] := by simp
  rw [e1, putRow_self (Value.int .i64) (Sort.ahead w n) b o [x].toArray (holds_ahead (Value.int .i64) w n b o _ hH)]
  unfold Gr
  refine ⟨rfl, rfl, rfl, by show w.heap.size ≤ (w.heap ++ os).size; rw [Array.size_append]; omega, fun k hk => ?_⟩
  exact heap_grow_old (Sort.ahead w n) os hk
set_option maxRecDepth 100000 in
set_option maxHeartbeats 4000000 in
theorem groups_calls (v : Value) (labels : List Int) (lk : Int → Int → Bool) (gf : Nat) (bd cb : Array Value) (w : World) (hv : Ints w v labels) (hl : labels.length ≤ 1000) (eg : ∀ args w, (callFunc gf args).run Tryz.prog w = .ok (.enter gf args) w) (hk : Asks2 gf bd cb lk w) :
    Calls Tryz.prog 152 #[v, .func (.func gf) bd cb] w fun e w' => ∃ v', e = .returned v' ∧ OwnR rowK 24 w.heap.size (Fresh w.heap.size) w' v' (groupsF lk labels.length labels) ∧ Gr w w' := by
  obtain ⟨base, hbase⟩ : ∃ b, b = w.heap.size := ⟨_, rfl⟩
  have HBASE := Lib.hid hbase
  have HK := Lib.hid hk
  have hC := Lib.hid (Clone_calls v labels w hv (by omega))
  rw [← hbase] at hC ⊢
  obtain ⟨a0, c0, rfl, hl0, hc0⟩ := hv.len
  clear hk hv hbase
  go_enter Tryz.func152, Tryz.ntmps152
  go_wp2_with fail
  refine hC.out.mono ?_
  rintro _ w1 ⟨v1, rfl, o1, g1⟩
  obtain ⟨a1, c1, rfl⟩ := o1.len_eq
  have O1 := Lib.hid o1
  clear o1
  go_wp2_with fail
  go_loopw [5, 6] (fun out lf wr => ∃ (n : Nat) (l : List Int) (done : List (List Int)), OwnI 3 base wr lf l ∧ OwnR rowK 24 base (fun b => base ≤ b ∧ lf.ownBlock ≠ some b) wr out done ∧ Hid (∀ b, lf.ownBlock = some b → out.ownBlock ≠ some b) ∧ Gr w wr ∧ l.length ≤ n ∧ done.length + l.length ≤ 1000 ∧ Hid (groupsF lk labels.length labels = done ++ groupsF lk n l)) (fun out lf _ => match lf with | .slice _ n _ => n | _ => 0)
  case atStart => exact ⟨labels.length, labels, [], O1.out, OwnR.nil _ _ _ _, Lib.hid (fun b _ h => (by cases h)), g1, Nat.le_refl _, by simpa using hl, Lib.hid (by simp)⟩
  case round =>
    rename World => wo
    obtain ⟨n, l, done, hL, hO, HLO, hgr, hln, hdl, HG⟩ := hrel
    obtain ⟨la, lc, rfl⟩ := hL.len_eq
    obtain ⟨oa, oc, rfl, ho1, ho2⟩ := hO.len
    cases l with
    | nil =>
      go_wp2_with fail
      go_ret
      refine ⟨_, rfl, ?_, hgr⟩
      have : groupsF lk n [] = [] := by cases n <;> rfl
      rw [HG.out, this, List.append_nil]
      exact hO.sets fun b _ h => h.1
    | cons a l =>
      obtain ⟨L, rfl, hLb, hLlt, hLc⟩ : ∃ L, la = some ⟨L, 0, none⟩ ∧ base ≤ L ∧ L < wo.heap.size ∧ l.length + 1 ≤ lc := by
        rcases hL.form with ⟨h1, h2⟩ | ⟨g, cap, h1, h2, h3, h4, _⟩
        · cases h2
        · cases h1; exact ⟨g, rfl, h2, h3, by simpa using h4⟩
      have hLm : lc ≤ 9223372036854775807 := by
        obtain ⟨_, _, h1, _, h2⟩ := hL.ints.len
        cases h1; exact h2
      have aI : I64 a := hL.ints.all a (by simp)
      have ca := hL.cell (i := 0) (by simp)
      have fa := hL.frozen 0
      have ca' : wo.cell? ⟨L, 0, none⟩ = some (.int .i64 a) := by rw [ca, nth_zero]
      obtain ⟨n, rfl⟩ : ∃ q, n = q + 1 := ⟨n - 1, by simp at hln; omega⟩
      have hlI : ∀ x ∈ l, I64 x := fun x hx => hL.ints.all x (List.mem_cons_of_mem _ hx)
      have hrest : Ints wo (.slice (some (if lc = 1 then ⟨L, 0, none⟩ else ⟨L, 1, none⟩)) l.length (lc - 1)) l := by
        refine Ints.intro rfl (by omega) (by unfold maxLen; omega) hlI (fun h => by cases h) fun i hi => ?_
        have hne : ¬ lc = 1 := by omega
        rw [if_neg hne]
        refine ⟨L, 1, rfl, ?_⟩
        have := hL.cell (i := i + 1) (by simp; omega)
        rw [show 1 + i = i + 1 by omega, this, nth_succ]
      have hsl := fun W => run_slice1 (b := L) (o := 0) (n := l.length) (cap := lc) hLc hLm W
      obtain ⟨ll, hll⟩ : ∃ x, x = (a :: l).length := ⟨_, rfl⟩
      have hll2 : l.length + 1 = ll := by rw [hll]; rfl
      have HLN := Lib.hid hll2
      have hlz : (0 : Int) < (ll : Int) := by omega
      have hlz2 : 0 < ll := by omega
      have hlz3 : decide (0 < ll) = true := by simpa using hlz2
      have hlc1 : (1 : Int) ≤ (lc : Int) := by omega
      rw [hll2] at hsl
      rw [← hll] at hL ⊢
      have hdl : done.length + (l.length + 1) ≤ 1000 := hdl
      have hln : l.length + 1 ≤ n + 1 := hln
      clear hll hll2 hLc
      generalize hA : (if lc = 1 then (⟨L, 0, none⟩ : Addr) else ⟨L, 1, none⟩) = A at hrest hsl
      clear hA ca
      have hO0 := hO.sets (S' := fun b => base ≤ b ∧ b < wo.heap.size) fun b hb hs => ⟨hs.1, hb⟩
      have HOB : Hid (∀ b, (Value.slice oa done.length oc).ownBlock = some b → b < wo.heap.size) := Lib.hid fun b hb => (hO.lt hb).2
      have HLI := Lib.hid hL
      have HREST := Lib.hid hrest
      clear hL hO hrest
      go_wp2_with fail
      go_loopw [6, 7, 8] (fun lf gv kv wr => ∃ (k m : Nat) (g l' : List Int), kv = .int .i64 k ∧ 0 < g.length ∧ k ≤ g.length ∧ g.length + l'.length = l.length + 1 ∧ l.length + 1 ≤ m + k ∧ Gr wo wr ∧ OwnR rowK 24 base (fun b => base ≤ b ∧ b < wo.heap.size) wr (.slice oa done.length oc) done ∧ Hid (GrpI 3 wo.heap.size L a wr gv g) ∧ Hid ((k = 0 ∧ lf = .slice (some A) l.length (lc - 1) ∧ l' = l) ∨ (0 < k ∧ OwnI 3 wo.heap.size wr lf l' ∧ ∀ b, lf.ownBlock = some b → gv.ownBlock ≠ some b)) ∧ Hid (groupF lk (l.length + 1) [a] 0 l = groupF lk m g k l')) (fun lf gv kv _ => l.length + 1 - (intOf kv).toNat)
      case atStart => exact ⟨0, l.length + 1, [a], l, rfl, by simp, by simp, by simp; omega, by omega, Gr.refl _, hO0, Lib.hid (.inl ⟨rfl, rfl⟩), Lib.hid (.inl ⟨rfl, rfl, rfl⟩), Lib.hid rfl⟩
      case round =>
        rename World => wk
        obtain ⟨k, m, g, l', rfl, hg0, hkg, hgl, hmk, hgk, hOk, HGP, HLF, HF⟩ := hrel
        have cL := cell_gr ca' hgk
        have hGI := HGP.out.ints cL aI
        obtain ⟨ga, gc, rfl, hgc1, hgc2⟩ := hGI.len
        have hLI : Ints wk _ l' := HLF.out.elim (fun h => by rw [h.2.1, h.2.2]; exact HREST.out.gr hgk) (fun h => h.2.1.ints)
        obtain ⟨fa', fc, rfl, hfc1, hfc2⟩ := hLI.len
        by_cases hkl : k < g.length
        · have hkz : (k : Int) < (g.length : Int) := by omega
          have hk0 : (0 : Int) ≤ (k : Int) := by omega
          obtain ⟨m, rfl⟩ : ∃ q, m = q + 1 := ⟨m - 1, by omega⟩
          obtain ⟨x, hx⟩ : ∃ x, x = nth g k := ⟨_, rfl⟩
          have xI : I64 x := by rw [hx]; exact hGI.range k
          have HX := Lib.hid hx
          have HLK : Hid ((Value.slice fa' l'.length fc = .slice (some A) l.length (lc - 1) ∧ l' = l) ∨ (OwnI 3 wo.heap.size wk (.slice fa' l'.length fc) l' ∧ ∀ b, (Value.slice fa' l'.length fc).ownBlock = some b → (Value.slice ga g.length gc).ownBlock ≠ some b)) := Lib.hid (HLF.out.imp (fun h => h.2) fun h => h.2)
          have hLl : ∀ y ∈ l', I64 y := hLI.all
          have HLL := Lib.hid hLl
          clear hx hLI hGI hLl HLF
          go_wp2_with fail
          go_loopw [7, 9, 29] (fun gv rv iv wr => ∃ (i : Nat) (g' r : List Int), iv = .int .i64 i ∧ i ≤ l'.length ∧ g'.length + r.length = g.length + i ∧ k < g'.length ∧ Gr wo wr ∧ OwnR rowK 24 base (fun b => base ≤ b ∧ b < wo.heap.size) wr (.slice oa done.length oc) done ∧ Hid (GrpI 3 wo.heap.size L a wr gv g') ∧ OwnI 3 wo.heap.size wr rv r ∧
            Hid ((∀ b, rv.ownBlock = some b → gv.ownBlock ≠ some b) ∧ ((Value.slice fa' l'.length fc = .slice (some A) l.length (lc - 1) ∧ l' = l) ∨ (OwnI 3 wo.heap.size wr (.slice fa' l'.length fc) l' ∧ ∀ b, (Value.slice fa' l'.length fc).ownBlock = some b → gv.ownBlock ≠ some b ∧ rv.ownBlock ≠ some b))) ∧
            Hid (nth g' k = x ∧ g' = g ++ (l'.take i).filter (fun b => lk2 lk x b) ∧ r = (l'.take i).filter fun b => !lk2 lk x b)) (fun gv rv iv _ => l'.length - (intOf iv).toNat)
          case atStart => exact ⟨0, g, [], rfl, Nat.zero_le _, by simp, hkl, hgk, hOk, HGP, OwnI.nil _ _ _, Lib.hid ⟨fun b h => (by cases h), HLK.out.imp id fun h => ⟨h.1, fun b hb => ⟨h.2 b hb, fun h => (by cases h)⟩⟩⟩, Lib.hid ⟨HX.out.symm, by simp, by simp⟩⟩
          case round =>
            rename World => wr
            obtain ⟨i, g', r, rfl, hi, hgr', hkg', hgw, hOw, HG', hR, HAP, HFI⟩ := hrel
            clear HLK HGP hOk
            have cLr := cell_gr ca' hgw
            have hGI := HG'.out.ints cLr aI
            obtain ⟨ga', gc', rfl, hgc1', hgc2'⟩ := hGI.len
            have hLI : Ints wr (.slice fa' l'.length fc) l' := HAP.out.2.elim (fun h => by rw [h.1, h.2]; exact HREST.out.gr hgw) (fun h => h.1.ints)
            by_cases hil : i < l'.length
            · obtain ⟨fb, fo, rfl, d0⟩ := hLI.cell hil
              obtain ⟨gb, go, hga, e0⟩ := hGI.cell hkg'
              rw [HFI.out.1] at e0
              subst hga
              have hiz : (i : Int) < (l'.length : Int) := by omega
              have hi0 : (0 : Int) ≤ (i : Int) := by omega
              have hkz' : (k : Int) < (g'.length : Int) := by omega
              obtain ⟨y, hy⟩ : ∃ y, y = nth l' i := ⟨_, rfl⟩
              have yI : I64 y := by rw [hy]; exact hLI.range i
              rw [← hy] at d0
              have HY := Lib.hid hy
              have k1 := fun W (g : Gr wr W) => HK.out W x y xI yI ((hgr.trans hgw).trans g)
              have k2 := fun W (g : Gr wr W) => HK.out W y x yI xI ((hgr.trans hgw).trans g)
              clear hy hLI hGI
              cases h1 : lk x y with
              | true =>
                rw [h1] at k1
                have hyes : lk2 lk x y = true := by unfold lk2; rw [h1]; rfl
                go_wp2_with fail
                refine (k1 wr (Gr.refl _)).mono ?_
                rintro _ w3 ⟨rfl, g3⟩
                have hGa := HG'.out.gr (g3.alloc (.cells #[.int .i64 y] 3))
                have hRa := hR.gr (g3.alloc (.cells #[.int .i64 y] 3))
                have cLa := cell_gr cLr (g3.alloc (.cells #[.int .i64 y] 3))
                have hOa := hOw.gr (g3.alloc (.cells #[.int .i64 y] 3))
                have GW := hgw.trans (g3.alloc (.cells #[.int .i64 y] 3))
                have hlen' : g'.length + 1 ≤ 17592186044416 := by omega
                have hbs : wo.heap.size ≤ (w3.alloc (.cells #[.int .i64 y] 3)).heap.size := GW.le
                have HFI2 : Hid (nth (g' ++ [y]) k = x ∧ g' ++ [y] = g ++ (l'.take (i + 1)).filter (fun b => lk2 lk x b) ∧ r = (l'.take (i + 1)).filter fun b => !lk2 lk x b) := Lib.hid ⟨by rw [nth_app hkg']; exact HFI.out.1, by rw [filt_yes (p := fun b => lk2 lk x b) hil (by rw [← HY.out]; exact hyes), ← List.append_assoc, ← HFI.out.2.1, ← HY.out], by rw [filt_no (p := fun b => !lk2 lk x b) hil (by rw [← HY.out, hyes]; rfl)]; exact HFI.out.2.2⟩
                go_wp2_with (at_builtin; go_loud (refine app_grp intTy _ _ wo.heap.size L a _ g' ⟨w3.heap.size, 0, none⟩ y (by rfl) (by rfl) (by rfl) (by rfl) hGa cLa aI (lit_cell rfl) yI hlen' hbs ?_; intro g1' cap' w9 ho9 hgs9 hsp9 hat9))
                go_roundw
                case rel =>
                  have hap := HAP.out
                  have hlt9 := hbs
                  refine ⟨i + 1, g' ++ [y], r, by go_num, by omega, by simp; omega, by simp; omega, hgs9 wo (Nat.le_refl _) GW, hsp9.out hOa HOB.out, Lib.hid (.inr ho9), hsp9.own hRa hap.1, Lib.hid ⟨fun b hb e => ?_, hap.2.imp id fun h => ⟨hsp9.own (h.1.gr (g3.alloc (.cells #[.int .i64 y] 3))) (fun b hb => (h.2 b hb).1), fun b hb => ⟨fun e => ?_, (h.2 b hb).2⟩⟩⟩, HFI2⟩
                  · obtain rfl : g1' = b := by cases e; rfl
                    rcases hat9 with h | h
                    · exact hap.1 _ hb h
                    · have := (hRa.lt hb).2; omega
                  · obtain rfl : g1' = b := by cases e; rfl
                    rcases hat9 with h3 | h3
                    · exact (h.2 _ hb).1 h3
                    · have := ((h.1.gr (g3.alloc (.cells #[.int .i64 y] 3))).lt hb).2; omega
                case measure => simp [intOf]; omega

              | false =>
                rw [h1] at k1
                cases h2 : lk y x with
                | true =>
                  rw [h2] at k2
                  have hyes : lk2 lk x y = true := by unfold lk2; rw [h1, h2]; rfl
                  go_wp2_with fail
                  refine (k1 wr (Gr.refl _)).mono ?_
                  rintro _ w2 ⟨rfl, g2⟩
                  have e2 := cell_gr e0 g2
                  go_wp2_with fail
                  refine (k2 w2 g2).mono ?_
                  rintro _ w3 ⟨rfl, g3'⟩
                  have g3 := g2.trans g3'
                  have hGa := HG'.out.gr (g3.alloc (.cells #[.int .i64 y] 3))
                  have hRa := hR.gr (g3.alloc (.cells #[.int .i64 y] 3))
                  have cLa := cell_gr cLr (g3.alloc (.cells #[.int .i64 y] 3))
                  have hOa := hOw.gr (g3.alloc (.cells #[.int .i64 y] 3))
                  have GW := hgw.trans (g3.alloc (.cells #[.int .i64 y] 3))
                  have hlen' : g'.length + 1 ≤ 17592186044416 := by omega
                  have hbs : wo.heap.size ≤ (w3.alloc (.cells #[.int .i64 y] 3)).heap.size := GW.le
                  have HFI2 : Hid (nth (g' ++ [y]) k = x ∧ g' ++ [y] = g ++ (l'.take (i + 1)).filter (fun b => lk2 lk x b) ∧ r = (l'.take (i + 1)).filter fun b => !lk2 lk x b) := Lib.hid ⟨by rw [nth_app hkg']; exact HFI.out.1, by rw [filt_yes (p := fun b => lk2 lk x b) hil (by rw [← HY.out]; exact hyes), ← List.append_assoc, ← HFI.out.2.1, ← HY.out], by rw [filt_no (p := fun b => !lk2 lk x b) hil (by rw [← HY.out, hyes]; rfl)]; exact HFI.out.2.2⟩
                  go_wp2_with (at_builtin; go_loud (refine app_grp intTy _ _ wo.heap.size L a _ g' ⟨w3.heap.size, 0, none⟩ y (by rfl) (by rfl) (by rfl) (by rfl) hGa cLa aI (lit_cell rfl) yI hlen' hbs ?_; intro g1' cap' w9 ho9 hgs9 hsp9 hat9))
                  go_roundw
                  case rel =>
                    have hap := HAP.out
                    have hlt9 := hbs
                    refine ⟨i + 1, g' ++ [y], r, by go_num, by omega, by simp; omega, by simp; omega, hgs9 wo (Nat.le_refl _) GW, hsp9.out hOa HOB.out, Lib.hid (.inr ho9), hsp9.own hRa hap.1, Lib.hid ⟨fun b hb e => ?_, hap.2.imp id fun h => ⟨hsp9.own (h.1.gr (g3.alloc (.cells #[.int .i64 y] 3))) (fun b hb => (h.2 b hb).1), fun b hb => ⟨fun e => ?_, (h.2 b hb).2⟩⟩⟩, HFI2⟩
                    · obtain rfl : g1' = b := by cases e; rfl
                      rcases hat9 with h | h
                      · exact hap.1 _ hb h
                      · have := (hRa.lt hb).2; omega
                    · obtain rfl : g1' = b := by cases e; rfl
                      rcases hat9 with h3 | h3
                      · exact (h.2 _ hb).1 h3
                      · have := ((h.1.gr (g3.alloc (.cells #[.int .i64 y] 3))).lt hb).2; omega
                  case measure => simp [intOf]; omega

                | false =>
                  rw [h2] at k2
                  go_wp2_with fail
                  refine (k1 wr (Gr.refl _)).mono ?_
                  rintro _ w2 ⟨rfl, g2⟩
                  have e2 := cell_gr e0 g2
                  go_wp2_with fail
                  refine (k2 w2 g2).mono ?_
                  rintro _ w3 ⟨rfl, g3'⟩
                  have g3 := g2.trans g3'
                  have hGa := HG'.out.gr (g3.alloc (.cells #[.int .i64 y] 3))
                  have hRa := hR.gr (g3.alloc (.cells #[.int .i64 y] 3))
                  have hOa := hOw.gr (g3.alloc (.cells #[.int .i64 y] 3))
                  have GW := hgw.trans (g3.alloc (.cells #[.int .i64 y] 3))
                  have hno : lk2 lk x y = false := by unfold lk2; rw [h1, h2]; rfl
                  have hlen' : r.length + 1 ≤ 17592186044416 := by omega
                  have hbs : wo.heap.size ≤ (w3.alloc (.cells #[.int .i64 y] 3)).heap.size := GW.le
                  have HFI2 : Hid (nth g' k = x ∧ g' = g ++ (l'.take (i + 1)).filter (fun b => lk2 lk x b) ∧ r ++ [y] = (l'.take (i + 1)).filter fun b => !lk2 lk x b) := Lib.hid ⟨HFI.out.1, by rw [filt_no (p := fun b => lk2 lk x b) hil (by rw [← HY.out]; exact hno)]; exact HFI.out.2.1, by rw [filt_yes (p := fun b => !lk2 lk x b) hil (by rw [← HY.out, hno]; rfl), ← HFI.out.2.2, ← HY.out]⟩
                  obtain ⟨ra, rc, rfl⟩ := hR.len_eq
                  go_wp2_with (at_builtin; go_loud (refine app_int intTy _ _ wo.heap.size _ r ⟨w3.heap.size, 0, none⟩ y (by rfl) (by rfl) (by rfl) (by rfl) hRa (lit_cell rfl) yI hlen' hbs ?_; intro v9 w9 ho9 hgs9 hgb9 hat9))
                  have hsp9 : Spares wo.heap.size (w3.alloc (.cells #[.int .i64 y] 3)) w9 (.slice ra r.length rc) := ⟨_, hgb9, fun b hb => ⟨hb, (hRa.lt hb).1⟩⟩
                  go_roundw
                  case rel =>
                    have hap := HAP.out
                    refine ⟨i + 1, g', r ++ [y], by go_num, by omega, by simp; omega, hkg', hgs9 wo (Nat.le_refl _) GW, hsp9.out hOa HOB.out, Lib.hid (hsp9.grp hGa hap.1), ho9, Lib.hid ⟨fun b hb e => ?_, hap.2.imp id fun h => ⟨hsp9.own (h.1.gr (g3.alloc (.cells #[.int .i64 y] 3))) (fun b hb => (h.2 b hb).2), fun b hb => ⟨(h.2 b hb).1, fun e => ?_⟩⟩⟩, HFI2⟩
                    · rcases hat9 with h | h
                      · exact hap.1 b (by rw [← h]; exact hb) e
                      · have e2 : b = (w3.alloc (.cells #[.int .i64 y] 3)).heap.size := by rw [h] at hb; exact (Option.some.inj hb).symm
                        rcases hGa with ⟨hq, _⟩ | hq
                        · rw [hq] at e
                          have : L = b := by cases e; rfl
                          omega
                        · have := (hq.lt e).2; omega
                    · rcases hat9 with h3 | h3
                      · exact (h.2 b hb).2 (by rw [← h3]; exact e)
                      · have e2 : b = (w3.alloc (.cells #[.int .i64 y] 3)).heap.size := by rw [h3] at e; exact (Option.some.inj e).symm
                        have := ((h.1.gr (g3.alloc (.cells #[.int .i64 y] 3))).lt hb).2; omega
                  case measure => simp [intOf]; omega

            · obtain rfl : i = l'.length := by omega
              have hnz : ¬ (l'.length : Int) < (l'.length : Int) := by omega
              have HN : Hid (groupF lk (l.length + 1) [a] 0 l = groupF lk m g' (k + 1) r) := Lib.hid (by
                rw [HF.out]
                have h1 := HFI.out.2.1
                have h2 := HFI.out.2.2
                rw [List.take_length] at h1 h2
                rw [h1, h2]
                show (if k < g.length then _ else _) = _
                rw [if_pos hkl, ← HX.out])
              obtain ⟨ra, rc, rfl⟩ := hR.len_eq
              clear hLI hGI
              go_wp2_with fail
              go_roundw
              case rel => exact ⟨k + 1, m, g', r, by go_num, by omega, by omega, by omega, by omega, hgw, hOw, HG', Lib.hid (.inr ⟨by omega, hR, HAP.out.1⟩), HN⟩
              case measure => simp [intOf]; omega
        · have hkz : ¬ (k : Int) < (g.length : Int) := by omega
          have hke : k = g.length := by omega
          obtain ⟨hk0', hLo, hLap⟩ : 0 < k ∧ OwnI 3 wo.heap.size wk (.slice fa' l'.length fc) l' ∧ ∀ b, (Value.slice fa' l'.length fc).ownBlock = some b → (Value.slice ga g.length gc).ownBlock ≠ some b := by
            rcases HLF.out with h | h
            · have := h.1; omega
            · exact h
          have HN : Hid (groupsF lk labels.length labels = done ++ [isI g] ++ groupsF lk n l') := Lib.hid (by
            rw [HG.out]
            have e1 : groupF lk (l.length + 1) [a] 0 l = (g, l') := by
              rw [HF.out]
              cases m with
              | zero => rfl
              | succ m => show (if k < g.length then _ else _) = _; rw [if_neg hkl]
            show done ++ (isI (groupF lk (l.length + 1) [a] 0 l).1 :: groupsF lk n (groupF lk (l.length + 1) [a] 0 l).2) = _
            rw [e1, List.append_assoc]; rfl)
          have hn1 : (done.length + 1) * 24 ≤ 140737488355328 := by omega
          have hn2 : done.length + 1 ≤ maxLen := by unfold maxLen; omega
          have hwk := hgk.le
          have hbw : base ≤ wk.heap.size := by omega
          have hm9 : l'.length < ll := by have := HLN.out; omega
          have hd9 : done.length + 1 + l'.length ≤ 1000 := by omega
          have hl9 : l'.length ≤ n := by omega
          clear hLI HLF HF
          have hLb' : ∀ b, (Value.slice fa' l'.length fc).ownBlock = some b → wo.heap.size ≤ b ∧ b < wk.heap.size := fun b hb => hLo.lt hb
          have HLB := Lib.hid hLb'
          have HKE := Lib.hid hke
          clear hke hkg hmk hLb'
          rcases HGP.out with ⟨hgv, hga⟩ | hGo
          · -- the group is its first label
            subst hga
            cases hgv
            have fL := (HLI.out.gr hgk).frozen 0
            have hone : isI [a] = [a] := rfl
            rw [hone] at HN
            go_wp2_with fail
            refine (Sort1_calls L 0 1 a _ cL fL).mono ?_
            rintro _ w5 ⟨rfl, g5⟩
            have hOk5 := (hOk.gr g5).sets (S' := fun b => base ≤ b ∧ (Value.slice fa' l'.length fc).ownBlock ≠ some b) fun b _ hs => ⟨hs.1, fun e => by have := (HLB.out b e).1; omega⟩
            have c5 := cell_gr cL g5
            have g5' : wk.heap.size ≤ w5.heap.size ∧ True := ⟨g5.le, trivial⟩
            have hL5 := hLo.gr g5
            have hle : base ≤ (w5.alloc (.cells #[.slice (some ⟨L, 0, none⟩) 1 1] 24)).heap.size := by have := g5.le; simp; omega
            have hon : On (fun b => (base ≤ b ∧ (Value.slice fa' l'.length fc).ownBlock ≠ some b) ∧ (Value.slice oa done.length oc).ownBlock ≠ some b) (fun w => rowK.R w [.slice (some ⟨L, 0, none⟩) 1 1] [a]) (w5.alloc (.cells #[.slice (some ⟨L, 0, none⟩) 1 1] 24)) := on_intro fun w' kp => ⟨_, rfl, GrpI.ints (e := 3) (n := 0) (L := L) (a := a) (.inl ⟨rfl, rfl⟩) (cell_kp kp (cell_gr c5 ((Gr.refl _).alloc _)) ⟨⟨hLb, fun e => by have := (HLB.out L e).1; omega⟩, HLO.out L rfl⟩) aI⟩
            have hl5a := hL5.gr ((Gr.refl _).alloc (.cells #[.slice (some ⟨L, 0, none⟩) 1 1] 24))
            have G5 := (hgr.trans (hgk.trans g5)).alloc (.cells #[.slice (some ⟨L, 0, none⟩) 1 1] 24)
            go_wp2_with (at_builtin; go_loud (refine app_one rowTy _ _ base (fun b => base ≤ b ∧ (Value.slice fa' l'.length fc).ownBlock ≠ some b) _ done ⟨w5.heap.size, 0, none⟩ [a] [.slice (some ⟨L, 0, none⟩) 1 1] (by rfl) (by rfl) (by rfl) (by rfl) (hOk5.alloc _) (one_cell _ _ _) hon hn1 hn2 hle ?_; intro v6 w6 ho6 hgs6 hgb6 hat6))
            go_roundw
            case rel =>
              refine ⟨n, l', done ++ [[a]], ownI_low (hl5a.grown hgb6 ?_) (by omega), ho6, Lib.hid fun b hb e => ?_, hgs6 w (by rw [← HBASE.out]; exact Nat.le_refl _) G5, hl9, by simp; omega, HN⟩
              · cases hq : (Value.slice fa' l'.length fc).ownBlock with
                | none => exact .inl rfl
                | some b =>
                  refine .inr fun e => ?_
                  have e1 := (HLB.out b hq).1
                  have e2 := HOB.out b e.symm
                  omega
              · have e1 := HLB.out b hb
                rcases hat6 with h | h
                · have e2 := HOB.out b (by rw [← h]; exact e)
                  omega
                · have e2 : b = (w5.alloc (.cells #[.slice (some ⟨L, 0, none⟩) 1 1] 24)).heap.size := by rw [h] at e; exact (Option.some.inj e).symm
                  have e3 := g5.le
                  simp at e2
                  omega
            case measure => exact hm9
          · have hgn : g ≠ [] := fun e => by rw [e] at hg0; simp at hg0
            obtain ⟨g1, rfl, hg1, hg1w⟩ : ∃ g1, ga = some ⟨g1, 0, none⟩ ∧ wo.heap.size ≤ g1 ∧ g1 < wk.heap.size := by
              rcases hGo.form with ⟨_, h2⟩ | ⟨g1, cap, h1, h2, h3, _⟩
              · exact absurd h2 hgn
              · cases h1; exact ⟨g1, rfl, h2, h3⟩
            have hgl' : g.length < 4611686018427387904 := by omega
            clear HGP
            go_wp2_with fail
            refine (Sort_calls g1 gc _ g _ hGo hgl').mono ?_
            rintro _ w5 ⟨rfl, hS5, hgb5⟩
            rw [sortI_isI] at hS5
            have hsp5 : Spares wo.heap.size wk w5 (.slice (some ⟨g1, 0, none⟩) g.length gc) := ⟨_, hgb5, fun b hb => ⟨hb, by cases hb; exact hg1⟩⟩
            have g5' : wk.heap.size ≤ w5.heap.size := hgb5.size
            have hOk5 := (hsp5.out hOk HOB.out).sets (S' := fun b => base ≤ b ∧ (Value.slice fa' l'.length fc).ownBlock ≠ some b) fun b _ hs => ⟨hs.1, fun e => by have := (HLB.out b e).1; omega⟩
            have hL5 := hsp5.own hLo hLap
            have hg5 : Gr wo w5 := hgk.grown hgb5 (fun b hb => by cases hb; exact hg1)
            have hisl : (isI g).length = g.length := (isI_perm g).length_eq
            have HISL := Lib.hid hisl
            have hS5' : OwnI 3 wo.heap.size w5 (.slice (some ⟨g1, 0, none⟩) g.length gc) (isI g) := hS5
            clear hisl hS5
            have hle : base ≤ (w5.alloc (.cells #[.slice (some ⟨g1, 0, none⟩) g.length gc] 24)).heap.size := by have := (Lib.hid g5').out; simp; omega
            have hon0 := ((Ints.on_own hS5').gr ((Gr.refl _).alloc (.cells #[.slice (some ⟨g1, 0, none⟩) g.length gc] 24))).mono (S' := fun b => (base ≤ b ∧ (Value.slice fa' l'.length fc).ownBlock ≠ some b) ∧ (Value.slice oa done.length oc).ownBlock ≠ some b) fun b _ hb => by
              have e1 : g1 = b := by cases hb; rfl
              subst e1
              refine ⟨⟨by omega, fun e => hLap _ e rfl⟩, fun e => ?_⟩
              have := HOB.out _ e
              omega
            have hon : On (fun b => (base ≤ b ∧ (Value.slice fa' l'.length fc).ownBlock ≠ some b) ∧ (Value.slice oa done.length oc).ownBlock ≠ some b) (fun w => rowK.R w [.slice (some ⟨g1, 0, none⟩) g.length gc] (isI g)) (w5.alloc (.cells #[.slice (some ⟨g1, 0, none⟩) g.length gc] 24)) := hon0.imp fun w h => ⟨_, rfl, h⟩
            have hl5a := hL5.gr ((Gr.refl _).alloc (.cells #[.slice (some ⟨g1, 0, none⟩) g.length gc] 24))
            have G5 := (hgr.trans (hg5)).alloc (.cells #[.slice (some ⟨g1, 0, none⟩) g.length gc] 24)
            go_wp2_with (at_builtin; go_loud (refine app_one rowTy _ _ base (fun b => base ≤ b ∧ (Value.slice fa' l'.length fc).ownBlock ≠ some b) _ done ⟨w5.heap.size, 0, none⟩ (isI g) [.slice (some ⟨g1, 0, none⟩) g.length gc] (by rfl) (by rfl) (by rfl) (by rfl) (hOk5.alloc _) (one_cell _ _ _) hon hn1 hn2 hle ?_; intro v6 w6 ho6 hgs6 hgb6 hat6))
            go_roundw
            case rel =>
              refine ⟨n, l', done ++ [isI g], ownI_low (hl5a.grown hgb6 ?_) (by omega), ho6, Lib.hid fun b hb e => ?_, hgs6 w (by rw [← HBASE.out]; exact Nat.le_refl _) G5, hl9, by simp; omega, HN⟩
              · cases hq : (Value.slice fa' l'.length fc).ownBlock with
                | none => exact .inl rfl
                | some b =>
                  refine .inr fun e => ?_
                  have e1 := (HLB.out b hq).1
                  have e2 := HOB.out b e.symm
                  omega
              · have e1 := HLB.out b hb
                rcases hat6 with h | h
                · have e2 := HOB.out b (by rw [← h]; exact e)
                  omega
                · have e2 : b = (w5.alloc (.cells #[.slice (some ⟨g1, 0, none⟩) g.length gc] 24)).heap.size := by rw [h] at e; exact (Option.some.inj e).symm
                  have e3 := (Lib.hid g5').out
                  simp at e2
                  omega
            case measure => exact hm9
end Go.Proofs.YtagdccgbcmnehaaGreat

namespace Go.Proofs.YtagdccgbcmnehaaGreat
open Go.RowKit Go.Tok
set_option linter.unusedVariables false
/-- block b is a map that has a one at each of the pairs l, and nothing else -/
def OneAt (w : World) (b : Nat) (l : List (Int × Int)) : Prop := MAt Tryz.prog 127 w b (l.map fun p => (pairV p, .int .i64 1))
section
variable {w w' : World} {b : Nat} {l : List (Int × Int)}
theorem OneAt.new (w : World) : OneAt (w.alloc (.map #[] 0)) w.heap.size [] := MAt.new w
theorem OneAt.lt (h : OneAt w b l) : b < w.heap.size := MAt.lt h
theorem OneAt.gr (h : OneAt w b l) (g : Gr w w') : OneAt w' b l := MAt.gr h g
theorem zero_int : ∀ u : World, (zeroValue 3).run Tryz.prog u = .ok (.int .i64 0) u := fun u => by kernel_rfl
theorem OneAt.look (h : OneAt w b l) (x y : Int) (hx : I64 x) (hy : I64 y) : (Instr.lookup 269 (.map (some b)) (.agg #[.int .i64 x, .int .i64 y]) false).run Tryz.prog w = .ok (.int .i64 (if hasP l x y then 1 else 0)) w := by
  obtain ⟨kl, hk⟩ := pair_key (x, y) hx hy
  cases hc : hasP l x y with
  | true =>
    exact MAt.look_yes pairKeyed Tryz.underlying269 h hk (List.mem_map.2 ⟨(x, y), hasP_iff.1 hc, rfl⟩)
  | false =>
    refine MAt.look_no pairKeyed Tryz.underlying269 zero_int h hk fun q hq e => ?_
    obtain ⟨p, hp, rfl⟩ := List.mem_map.1 hq
    have : p = (x, y) := pairV_inj p (x, y) e
    subst this
    rw [hasP_iff.2 hp] at hc; cases hc
theorem OneAt.add (h : OneAt w b l) (x y : Int) (hx : I64 x) (hy : I64 y) :
    ∃ w', (Instr.mapUpdate 269 (.map (some b)) (.agg #[.int .i64 x, .int .i64 y]) (.int .i64 1)).run Tryz.prog w = .ok () w' ∧ OnlyAt b w w' ∧ OneAt w' b (ins l (x, y)) := by
  obtain ⟨kl, hk⟩ := pair_key (x, y) hx hy
  by_cases hm : (x, y) ∈ l
  · obtain ⟨w', j, h1, h2, h3, h4⟩ := MAt.store_old pairKeyed Tryz.underlying269 h (.int .i64 1) hk (List.mem_map.2 ⟨(x, y), hm, rfl⟩)
    refine ⟨w', h1, h2, ?_⟩
    rw [ins_yes hm]
    rw [putAt_same _ _ _ (fun q hq => by obtain ⟨z, _, rfl⟩ := List.mem_map.1 hq; rfl)] at h4
    exact h4
  · obtain ⟨w', h1, h2, h3⟩ := MAt.store_new pairKeyed Tryz.underlying269 h (.int .i64 1) hk (fun q hq e => by
      obtain ⟨z, hz, rfl⟩ := List.mem_map.1 hq
      have : z = (x, y) := pairV_inj z (x, y) e
      exact hm (this ▸ hz))
    refine ⟨w', h1, h2, ?_⟩
    rw [ins_no hm]
    unfold OneAt
    rw [List.map_append]; exact h3
end
attribute [irreducible] OneAt
set_option maxHeartbeats 1000000 in
theorem leads1_calls (x y : Int) (hx : I64 x) (hy : I64 y) (c b : Nat) (s : List (Int × Int)) (w : World) (hc : w.cell? ⟨c, 0, none⟩ = some (.map (some b))) (h : OneAt w b s) :
    Calls Tryz.prog 184 #[.int .i64 x, .int .i64 y, .pointer (some ⟨c, 0, none⟩)] w fun e w' => e = .returned (.bool (hasP s x y)) ∧ w = w' := by
  have hl := h.look x y hx hy
  cases hs : hasP s x y with
  | true =>
    rw [hs] at hl
    have hl' : (Instr.lookup 269 (.map (some b)) (.agg #[.int .i64 x, .int .i64 y]) false).run Tryz.prog w = .ok (.int .i64 1) w := hl
    clear hl h
    go_enter Tryz.func184, Tryz.ntmps184
    go_wp2_with fail
    go_ret
    exact ⟨rfl, rfl⟩
  | false =>
    rw [hs] at hl
    have hl' : (Instr.lookup 269 (.map (some b)) (.agg #[.int .i64 x, .int .i64 y]) false).run Tryz.prog w = .ok (.int .i64 0) w := hl
    clear hl h
    go_enter Tryz.func184, Tryz.ntmps184
    go_wp2_with fail
    go_ret
    exact ⟨rfl, rfl⟩
end Go.Proofs.YtagdccgbcmnehaaGreat

namespace Go.Tok
open Go.RowKit
set_option linter.unusedVariables false
theorem Rd.pair {w : World} {a : Option Addr} {n cap : Nat} {xs : List (Int × Int)} (h : Rd pairK w (.slice a n cap) xs) {i : Nat} (hi : i < xs.length) :
    ∃ b o, a = some ⟨b, o, none⟩ ∧ w.cell? ⟨b, o + i * 2, none⟩ = some (.int .i64 (ix xs i).1) ∧ w.cell? ⟨b, o + i * 2 + 1, none⟩ = some (.int .i64 (ix xs i).2) ∧ pairI (ix xs i) := by
  obtain ⟨b, o, vs, ha, ⟨rfl, hr⟩, hc⟩ := h.at_ hi
  exact ⟨b, o, ha, hc 0 _ rfl, hc 1 _ rfl, hr⟩
end Go.Tok
namespace Go.Proofs.YtagdccgbcmnehaaGreat
open Go.RowKit Go.Tok
set_option linter.unusedVariables false
def samePB (p q : Int × Int) : Bool := (p.1 == q.1) && (p.2 == q.2)
theorem samePB_iff {p q : Int × Int} : samePB p q = true ↔ p = q := by
  unfold samePB
  rw [Bool.and_eq_true, beq_iff_eq, beq_iff_eq, Prod.ext_iff]
set_option maxRecDepth 100000 in
set_option maxHeartbeats 1000000 in
theorem IndexP_calls (v : Value) (xs : List (Int × Int)) (p : Int × Int) (w : World) (hv : Rd pairK w v xs) :
    Calls Tryz.prog 208 #[v, .agg #[.int .i64 p.1, .int .i64 p.2]] w fun e w' => e = .returned (.int .i64 (firstI (samePB p) xs)) ∧ Gr w w' := by
  obtain ⟨a, cap, rfl, hlc, hcap⟩ := hv.len
  have b0 : Blk (w.alloc (.cells #[.int .i64 p.1, .int .i64 p.2] 127)) w.heap.size 127 #[.int .i64 p.1, .int .i64 p.2] := Blk.new rfl
  have G0 : Gr w (w.alloc (.cells #[.int .i64 p.1, .int .i64 p.2] 127)) := (Gr.refl _).alloc _
  go_enter Tryz.func208, Tryz.ntmps208
  go_wp2_with fail
  go_loopw [8] (fun i wr => ∃ k : Nat, k ≤ xs.length ∧ i = .int .i64 k ∧ NoneI (samePB p) xs k ∧ Gr (w.alloc (.cells #[.int .i64 p.1, .int .i64 p.2] 127)) wr) (fun i _ => xs.length - (intOf i).toNat)
  case atStart => exact ⟨0, Nat.zero_le _, rfl, NoneI.zero _ _, Gr.refl _⟩
  case round =>
    rename_i wr _
    obtain ⟨k, hk, rfl, hall, hgr⟩ := hrel
    by_cases hlt : k < xs.length
    · obtain ⟨b, o, rfl, c0, c1, hI⟩ := (hv.gr (G0.trans hgr)).pair hlt
      have B0 := (b0.gr hgr).cell (i := 0) (v := .int .i64 p.1) rfl
      have B1 := (b0.gr hgr).cell (i := 1) (v := .int .i64 p.2) rfl
      have hkI : (k : Int) < (xs.length : Int) := by omega
      have hk0 : (0 : Int) ≤ (k : Int) := by omega
      have HALL := Lib.hid hall
      clear hall b0
      rcases h1 : p.1 == (ix xs k).1 with _ | _
      · have HN := Lib.hid (HALL.out.succ (show samePB p (ix xs k) = false by unfold samePB; rw [h1]; rfl))
        have heq : ∀ w, (Op.equalIn 10000 127 (.agg #[.int .i64 p.1, .int .i64 p.2]) (.agg #[.int .i64 (ix xs k).1, .int .i64 (ix xs k).2])).run Tryz.prog w = .ok false w := fun w => by rw [run_eq_pair, h1]; rfl
        go_wp2_with fail
        go_quiet (fail)
        go_wp2_with fail
        go_roundw
        case rel => exact ⟨k + 1, by omega, by go_num, HN.out, hgr.drewN _⟩
        case measure => simp [intOf]; omega
      · rcases h2 : p.2 == (ix xs k).2 with _ | _
        · have HN := Lib.hid (HALL.out.succ (show samePB p (ix xs k) = false by unfold samePB; rw [h1, h2]; rfl))
          have heq : ∀ w, (Op.equalIn 10000 127 (.agg #[.int .i64 p.1, .int .i64 p.2]) (.agg #[.int .i64 (ix xs k).1, .int .i64 (ix xs k).2])).run Tryz.prog w = .ok false w := fun w => by rw [run_eq_pair, h1, h2]; rfl
          go_wp2_with fail
          go_quiet (fail)
          go_wp2_with fail
          go_roundw
          case rel => exact ⟨k + 1, by omega, by go_num, HN.out, hgr.drewN _⟩
          case measure => simp [intOf]; omega
        · have HN := Lib.hid (firstI_hit HALL.out hlt (show samePB p (ix xs k) = true by unfold samePB; rw [h1, h2]; rfl))
          have heq : ∀ w, (Op.equalIn 10000 127 (.agg #[.int .i64 p.1, .int .i64 p.2]) (.agg #[.int .i64 (ix xs k).1, .int .i64 (ix xs k).2])).run Tryz.prog w = .ok true w := fun w => by rw [run_eq_pair, h1, h2]; rfl
          go_wp2_with fail
          go_quiet (fail)
          go_wp2_with fail
          go_ret
          exact ⟨ret_i64 HN.out.symm, (G0.trans hgr).drewN _⟩
    · obtain rfl : k = xs.length := by omega
      have HN := Lib.hid (firstI_miss hall)
      go_wp2_with fail
      go_ret
      exact ⟨ret_i64 HN.out.symm, G0.trans hgr⟩
set_option maxRecDepth 100000 in
set_option maxHeartbeats 1000000 in
theorem ContainsP_calls (v : Value) (xs : List (Int × Int)) (p : Int × Int) (w : World) (hv : Rd pairK w v xs) :
    Calls Tryz.prog 182 #[v, .agg #[.int .i64 p.1, .int .i64 p.2]] w fun e w' => e = .returned (.bool (xs.any (samePB p))) ∧ Gr w w' := by
  have b0 : Blk (w.alloc (.cells #[.int .i64 p.1, .int .i64 p.2] 127)) w.heap.size 127 #[.int .i64 p.1, .int .i64 p.2] := Blk.new rfl
  have G0 : Gr w (w.alloc (.cells #[.int .i64 p.1, .int .i64 p.2] 127)) := (Gr.refl _).alloc _
  go_enter Tryz.func182, Tryz.ntmps182
  go_wp2_with fail
  refine (IndexP_calls _ xs p _ (hv.gr G0)).mono ?_
  rintro _ w1 ⟨rfl, g1⟩
  go_wp2_with fail
  go_ret
  exact ⟨ret_bool (firstI_any _ xs), G0.trans g1⟩
end Go.Proofs.YtagdccgbcmnehaaGreat

namespace Go.Proofs.YtagdccgbcmnehaaGreat
open Go.RowKit Go.Tok
set_option linter.unusedVariables false
theorem foldins_succ {l : List (Int × Int)} {i : Nat} (h : i < l.length) : (l.take (i + 1)).foldl ins [] = ins ((l.take i).foldl ins []) (ix l i) := by rw [take_ix h, List.foldl_append]; rfl
theorem foldI_succ {β : Type} {f : β → Int → β} {l : List Int} {i : Nat} {s : β} (h : i < l.length) : (l.take (i + 1)).foldl f s = f ((l.take i).foldl f s) (nth l i) := by rw [List.take_succ_eq_append_getElem h, List.foldl_append, ← nth_lt h]; rfl
/-- a log that is looked at: its traces, and what they show -/
structure LogV (w : World) (v : Value) (log : List (List Int)) (p : PrintD) : Prop where
  ex : ∃ (ta la fa za ba : Option Addr) (tc lc fc zc bc : Nat), v = .agg #[.slice ta log.length tc, .slice la p.labels.length lc, .slice fa p.first.length fc, .slice za p.last.length zc, .slice ba p.behind.length bc] ∧
    Rd rowK w (.slice ta log.length tc) log ∧ Ints w (.slice la p.labels.length lc) p.labels ∧ Ints w (.slice fa p.first.length fc) p.first ∧ Ints w (.slice za p.last.length zc) p.last ∧ Rd pairK w (.slice ba p.behind.length bc) p.behind
theorem LogV.gr {w w' : World} {v : Value} {log : List (List Int)} {p : PrintD} (h : LogV w v log p) (g : Gr w w') : LogV w' v log p := by
  obtain ⟨ta, la, fa, za, ba, tc, lc, fc, zc, bc, h0, h1, h2, h3, h4, h5⟩ := h.ex
  exact ⟨ta, la, fa, za, ba, tc, lc, fc, zc, bc, h0, h1.gr g, h2.gr g, h3.gr g, h4.gr g, h5.gr g⟩
set_option maxRecDepth 100000 in
set_option maxHeartbeats 4000000 in
theorem leads_calls (v : Value) (log : List (List Int)) (p : PrintD) (w : World) (hv : LogV w v log p) (hl : p.labels.length ≤ 1000) (hb : p.behind.length ≤ 100000) :
    Calls Tryz.prog 156 #[v] w fun e w' => ∃ c b, e = .returned (.func (.func 184) #[] #[.pointer (some ⟨c, 0, none⟩)]) ∧ w'.cell? ⟨c, 0, none⟩ = some (.map (some b)) ∧ OneAt w' b (leadsF p) ∧ w.heap.size ≤ b ∧ w.heap.size ≤ c ∧ Gr w w' := by
  obtain ⟨ta, la, fa, za, ba, tc, lc, fc, zc, bc, rfl, hT, hL, hF, hZ, hB⟩ := hv.ex
  have HT := Lib.hid hT
  have HLb := Lib.hid hL
  have HBh := Lib.hid hB
  have hlI := Lib.hid (fun i => hL.range i)
  clear hv hT hL hF hZ hB
  have mk := @run_makeMap Tryz.prog
  obtain ⟨B, hB⟩ : ∃ B, B = #[Value.slice ta log.length tc, .slice la p.labels.length lc, .slice fa p.first.length fc, .slice za p.last.length zc, .slice ba p.behind.length bc] := ⟨_, rfl⟩
  go_enter Tryz.func156, Tryz.ntmps156
  go_wp2_with fail
  go_loopw [5, 17] (fun xv iv wr => ∃ i : Nat, iv = .int .i64 i ∧ i ≤ p.behind.length ∧ Gr w wr ∧ Hid (Blk wr w.heap.size 204 B) ∧ Hid (Blk wr (w.heap.size + 1 + 1) 269 #[.map (some (w.heap.size + 1))]) ∧ Hid (OneAt wr (w.heap.size + 1) ((p.behind.take i).foldl ins []))) (fun xv iv _ => p.behind.length - (intOf iv).toNat)
  case atStart =>
    refine ⟨0, rfl, Nat.zero_le _, ?_, Lib.hid ?_, Lib.hid ?_, Lib.hid ?_⟩
    · exact ((((Gr.refl _).alloc _).alloc _).alloc _)
    · rw [hB]; exact (((Blk.new rfl).gr ((Gr.refl _).alloc _)).gr ((Gr.refl _).alloc _))
    · exact Blk.new (by simp)
    · have := (OneAt.new (w.alloc (.cells B 204))).gr ((Gr.refl _).alloc (.cells #[.map (some (w.heap.size + 1))] 269))
      rw [hB] at this
      simpa using this
  case round =>
    rename World => wr
    obtain ⟨i, rfl, hi, hgr, HBX, HC, HO⟩ := hrel
    by_cases hlt : i < p.behind.length
    · obtain ⟨bb, bo, rfl, c0, c1, hI⟩ := (HBh.out.gr hgr).pair hlt
      obtain ⟨q, hq⟩ : ∃ q, q = ix p.behind i := ⟨_, rfl⟩
      rw [← hq] at c0 c1 hI
      have hiz : (i : Int) < (p.behind.length : Int) := by omega
      have hi0 : (0 : Int) ≤ (i : Int) := by omega
      have G1 : Gr wr (wr.alloc (.cells #[.int .i64 q.1, .int .i64 q.2] 127)) := (Gr.refl _).alloc _
      have hc3 := (HC.out.gr G1).cell (i := 0) (v := .map (some (w.heap.size + 1))) rfl
      obtain ⟨w2, hrun, ho2, h2⟩ := (HO.out.gr G1).add q.1 q.2 hI.1 hI.2
      have hg2 := ho2.grown
      have hb1 : Hid (Blk w2 w.heap.size 204 B) := Lib.hid ((HBX.out.gr G1).grown hg2 (by simp))
      have hb2 : Hid (Blk w2 (w.heap.size + 1 + 1) 269 #[.map (some (w.heap.size + 1))]) := Lib.hid ((HC.out.gr G1).grown hg2 (by simp))
      have hg3 : Hid (Gr w w2) := Lib.hid ((hgr.trans G1).grown hg2 (fun k hk => by cases hk; omega))
      have h3 : Hid (OneAt w2 (w.heap.size + 1) ((p.behind.take (i + 1)).foldl ins [])) := Lib.hid (by rw [foldins_succ hlt, ← hq]; exact h2)
      clear h2 ho2 hg2 hq
      go_wp2_with fail
      go_roundw
      case rel => exact ⟨i + 1, by go_num, by omega, hg3.out, hb1, hb2, h3⟩
      case measure => simp [intOf]; omega
    · obtain rfl : i = p.behind.length := by omega
      have hnz : ¬ (p.behind.length : Int) < (p.behind.length : Int) := by omega
      have HO2 : Hid (OneAt wr (w.heap.size + 1) (p.behind.foldl ins [])) := Lib.hid (by have := HO.out; rwa [List.take_length] at this)
      clear HO
      have bx := HBX.out.cell (i := 1) (v := .slice la p.labels.length lc) (by rw [hB]; rfl)
      go_wp2_with fail
      go_loopw [28] (fun iv wk => ∃ i : Nat, iv = .int .i64 i ∧ i ≤ p.labels.length ∧ Gr w wk ∧ Hid (Blk wk w.heap.size 204 B) ∧ Hid (Blk wk (w.heap.size + 1 + 1) 269 #[.map (some (w.heap.size + 1))]) ∧ Hid (OneAt wk (w.heap.size + 1) ((p.labels.take i).foldl (leadK p.labels) (p.behind.foldl ins [])))) (fun iv _ => p.labels.length - (intOf iv).toNat)
      case atStart => exact ⟨0, rfl, Nat.zero_le _, hgr, HBX, HC, HO2⟩
      case round =>
        rename World => wk
        obtain ⟨i, rfl, hi', hgk, HBK, HCK, HOK⟩ := hrel
        clear bx
        by_cases hik : i < p.labels.length
        · have hiz : (i : Int) < (p.labels.length : Int) := by omega
          have hi0 : (0 : Int) ≤ (i : Int) := by omega
          obtain ⟨lb, lo, rfl, d0⟩ := (HLb.out.gr hgk).cell hik
          have bx := HBK.out.cell (i := 1) (v := .slice (some ⟨lb, lo, none⟩) p.labels.length lc) (by rw [hB]; rfl)
          obtain ⟨k, hk⟩ : ∃ k, k = nth p.labels i := ⟨_, rfl⟩
          have kI : I64 k := by rw [hk]; exact hlI.out i
          have HF : Hid ((p.labels.take (i + 1)).foldl (leadK p.labels) (p.behind.foldl ins []) = leadK p.labels ((p.labels.take i).foldl (leadK p.labels) (p.behind.foldl ins [])) k) := Lib.hid (by rw [foldI_succ hik, hk])
          rw [← hk] at d0
          obtain ⟨s1, hs1⟩ : ∃ s, s = (p.labels.take i).foldl (leadK p.labels) (p.behind.foldl ins []) := ⟨_, rfl⟩
          rw [← hs1] at HF HOK
          clear hk hs1
          go_wp2_with fail
          go_loopw [36] (fun iv wa => ∃ j : Nat, iv = .int .i64 j ∧ j ≤ p.labels.length ∧ Gr w wa ∧ Hid (Blk wa w.heap.size 204 B) ∧ Hid (Blk wa (w.heap.size + 1 + 1) 269 #[.map (some (w.heap.size + 1))]) ∧ Hid (OneAt wa (w.heap.size + 1) ((p.labels.take j).foldl (leadA p.labels k) s1))) (fun iv _ => p.labels.length - (intOf iv).toNat)
          case atStart => exact ⟨0, rfl, Nat.zero_le _, hgk, HBK, HCK, HOK⟩
          case round =>
            rename World => wa
            obtain ⟨j, rfl, hj', hga, HBA, HCA, HOA⟩ := hrel
            clear bx d0
            by_cases hja : j < p.labels.length
            · have hjz : (j : Int) < (p.labels.length : Int) := by omega
              have hj0 : (0 : Int) ≤ (j : Int) := by omega
              obtain ⟨lb', lo', hlb, d0⟩ := (HLb.out.gr hga).cell hja
              cases hlb
              have bx := HBA.out.cell (i := 1) (v := .slice (some ⟨lb, lo, none⟩) p.labels.length lc) (by rw [hB]; rfl)
              obtain ⟨a, ha⟩ : ∃ a, a = nth p.labels j := ⟨_, rfl⟩
              have aI : I64 a := by rw [ha]; exact hlI.out j
              have HFA : Hid ((p.labels.take (j + 1)).foldl (leadA p.labels k) s1 = leadA p.labels k ((p.labels.take j).foldl (leadA p.labels k) s1) a) := Lib.hid (by rw [foldI_succ hja, ha])
              rw [← ha] at d0
              obtain ⟨s2, hs2⟩ : ∃ s, s = (p.labels.take j).foldl (leadA p.labels k) s1 := ⟨_, rfl⟩
              rw [← hs2] at HFA HOA
              clear ha hs2
              go_wp2_with fail
              go_loopw [44] (fun iv wb => ∃ q : Nat, iv = .int .i64 q ∧ q ≤ p.labels.length ∧ Gr w wb ∧ Hid (Blk wb w.heap.size 204 B) ∧ Hid (Blk wb (w.heap.size + 1 + 1) 269 #[.map (some (w.heap.size + 1))]) ∧ Hid (OneAt wb (w.heap.size + 1) ((p.labels.take q).foldl (leadB k a) s2))) (fun iv _ => p.labels.length - (intOf iv).toNat)
              case atStart => exact ⟨0, rfl, Nat.zero_le _, hga, HBA, HCA, HOA⟩
              case round =>
                rename World => wb
                obtain ⟨q, rfl, hq', hgb, HBB, HCB, HOB⟩ := hrel
                clear bx d0
                by_cases hqb : q < p.labels.length
                · have hqz : (q : Int) < (p.labels.length : Int) := by omega
                  have hq0 : (0 : Int) ≤ (q : Int) := by omega
                  obtain ⟨lb', lo', hlb, d0⟩ := (HLb.out.gr hgb).cell hqb
                  cases hlb
                  obtain ⟨b, hb'⟩ : ∃ b, b = nth p.labels q := ⟨_, rfl⟩
                  have bI : I64 b := by rw [hb']; exact hlI.out q
                  have HFB : Hid ((p.labels.take (q + 1)).foldl (leadB k a) s2 = leadB k a ((p.labels.take q).foldl (leadB k a) s2) b) := Lib.hid (by rw [foldI_succ hqb, hb'])
                  rw [← hb'] at d0
                  obtain ⟨s3, hs3⟩ : ∃ s, s = (p.labels.take q).foldl (leadB k a) s2 := ⟨_, rfl⟩
                  rw [← hs3] at HFB HOB
                  have c3 := HCB.out.cell (i := 0) (v := .map (some (w.heap.size + 1))) rfl
                  have l1 := HOB.out.look a k aI kI
                  have l2 := HOB.out.look k b kI bI
                  clear hb' hs3
                  cases h1 : hasP s3 a k with
                  | false =>
                    have HE : Hid (leadB k a s3 b = s3) := Lib.hid (by unfold leadB; rw [h1]; rfl)
                    rw [h1] at l1
                    have l1' : (Instr.lookup 269 (.map (some (w.heap.size + 1))) (.agg #[.int .i64 a, .int .i64 k]) false).run Tryz.prog wb = .ok (.int .i64 0) wb := l1
                    clear l1 l2 h1
                    go_wp2_with fail
                    go_roundw
                    case rel => exact ⟨q + 1, by go_num, by omega, hgb, HBB, HCB, Lib.hid (by rw [HFB.out, HE.out]; exact HOB.out)⟩
                    case measure => simp [intOf]; omega
                  | true =>
                    rw [h1] at l1
                    have l1' : (Instr.lookup 269 (.map (some (w.heap.size + 1))) (.agg #[.int .i64 a, .int .i64 k]) false).run Tryz.prog wb = .ok (.int .i64 1) wb := l1
                    cases h2 : hasP s3 k b with
                    | false =>
                      have HE : Hid (leadB k a s3 b = s3) := Lib.hid (by unfold leadB; rw [h1, h2]; rfl)
                      rw [h2] at l2
                      have l2' : (Instr.lookup 269 (.map (some (w.heap.size + 1))) (.agg #[.int .i64 k, .int .i64 b]) false).run Tryz.prog wb = .ok (.int .i64 0) wb := l2
                      clear l1 l2 h1 h2
                      go_wp2_with fail
                      go_roundw
                      case rel => exact ⟨q + 1, by go_num, by omega, hgb, HBB, HCB, Lib.hid (by rw [HFB.out, HE.out]; exact HOB.out)⟩
                      case measure => simp [intOf]; omega
                    | true =>
                      have HE : Hid (leadB k a s3 b = ins s3 (a, b)) := Lib.hid (by unfold leadB; rw [h1, h2]; rfl)
                      rw [h2] at l2
                      have l2' : (Instr.lookup 269 (.map (some (w.heap.size + 1))) (.agg #[.int .i64 k, .int .i64 b]) false).run Tryz.prog wb = .ok (.int .i64 1) wb := l2
                      obtain ⟨w2, hrun, ho2, h3⟩ := HOB.out.add a b aI bI
                      have hg2 := ho2.grown
                      have hb1 : Hid (Blk w2 w.heap.size 204 B) := Lib.hid (HBB.out.grown hg2 (by simp))
                      have hb2 : Hid (Blk w2 (w.heap.size + 1 + 1) 269 #[.map (some (w.heap.size + 1))]) := Lib.hid (HCB.out.grown hg2 (by simp))
                      have hg3 : Hid (Gr w w2) := Lib.hid (hgb.grown hg2 (fun k hk => by cases hk; omega))
                      have h4 : Hid (OneAt w2 (w.heap.size + 1) ((p.labels.take (q + 1)).foldl (leadB k a) s2)) := Lib.hid (by rw [HFB.out, HE.out]; exact h3)
                      clear l1 l2 h1 h2 h3 ho2 hg2
                      go_wp2_with fail
                      go_roundw
                      case rel => exact ⟨q + 1, by go_num, by omega, hg3.out, hb1, hb2, h4⟩
                      case measure => simp [intOf]; omega
                · obtain rfl : q = p.labels.length := by omega
                  have hnz2 : ¬ (p.labels.length : Int) < (p.labels.length : Int) := by omega
                  have HO3 : Hid (OneAt wb (w.heap.size + 1) ((p.labels.take (j + 1)).foldl (leadA p.labels k) s1)) := Lib.hid (by have := HOB.out; rw [List.take_length] at this; rw [HFA.out]; exact this)
                  clear HOB
                  go_wp2_with fail
                  go_roundw
                  case rel => exact ⟨j + 1, by go_num, by omega, hgb, HBB, HCB, HO3⟩
                  case measure => simp [intOf]; omega
            · obtain rfl : j = p.labels.length := by omega
              have hnz2 : ¬ (p.labels.length : Int) < (p.labels.length : Int) := by omega
              have HO3 : Hid (OneAt wa (w.heap.size + 1) ((p.labels.take (i + 1)).foldl (leadK p.labels) (p.behind.foldl ins []))) := Lib.hid (by have := HOA.out; rw [List.take_length] at this; rw [HF.out]; exact this)
              clear HOA
              go_wp2_with fail
              go_roundw
              case rel => exact ⟨i + 1, by go_num, by omega, hga, HBA, HCA, HO3⟩
              case measure => simp [intOf]; omega
        · obtain rfl : i = p.labels.length := by omega
          have hnz2 : ¬ (p.labels.length : Int) < (p.labels.length : Int) := by omega
          have HO3 : Hid (OneAt wk (w.heap.size + 1) (leadsF p)) := Lib.hid (by have := HOK.out; rw [List.take_length] at this; exact this)
          clear HOK
          go_wp2_with fail
          go_ret
          have cK : wk.cell? ⟨w.heap.size + 1 + 1, 0, none⟩ = some (.map (some (w.heap.size + 1))) := HCK.out.cell (i := 0) rfl
          exact ⟨w.heap.size + 1 + 1, rfl, w.heap.size + 1, cK, HO3.out, by omega, by omega, hgk⟩
end Go.Proofs.YtagdccgbcmnehaaGreat

namespace Go.Proofs.YtagdccgbcmnehaaGreat
open Go.RowKit Go.Tok
set_option linter.unusedVariables false
theorem any_pair (l : List (Int × Int)) (x y : Int) : l.any (samePB (x, y)) = hasP l x y := by
  rw [Bool.eq_iff_iff, List.any_eq_true, hasP_iff]
  constructor
  · rintro ⟨q, hq, h⟩
    rw [samePB_iff.1 h]; exact hq
  · intro h
    exact ⟨_, h, samePB_iff.2 rfl⟩
set_option maxRecDepth 100000 in
set_option maxHeartbeats 1000000 in
theorem behind_calls (v : Value) (log : List (List Int)) (p : PrintD) (x y : Int) (w : World) (hv : LogV w v log p) :
    Calls Tryz.prog 153 #[v, .int .i64 x, .int .i64 y] w fun e w' => e = .returned (.bool (hasP p.behind x y)) ∧ Gr w w' := by
  obtain ⟨ta, la, fa, za, ba, tc, lc, fc, zc, bc, rfl, hT, hL, hF, hZ, hB⟩ := hv.ex
  have b0 : Blk (w.alloc (.cells #[.slice ta log.length tc, .slice la p.labels.length lc, .slice fa p.first.length fc, .slice za p.last.length zc, .slice ba p.behind.length bc] 204)) w.heap.size 204 #[.slice ta log.length tc, .slice la p.labels.length lc, .slice fa p.first.length fc, .slice za p.last.length zc, .slice ba p.behind.length bc] := Blk.new rfl
  have G0 : Gr w (w.alloc (.cells #[.slice ta log.length tc, .slice la p.labels.length lc, .slice fa p.first.length fc, .slice za p.last.length zc, .slice ba p.behind.length bc] 204)) := (Gr.refl _).alloc _
  have c4 := b0.cell (i := 4) (v := .slice ba p.behind.length bc) rfl
  have HC := Lib.hid (ContainsP_calls _ p.behind (x, y) _ (hB.gr G0))
  clear hv hT hL hF hZ hB b0
  go_enter Tryz.func153, Tryz.ntmps153
  go_wp2_with fail
  refine HC.out.mono ?_
  rintro _ w2 ⟨rfl, g2⟩
  go_wp2_with fail
  go_ret
  exact ⟨ret_bool (any_pair _ x y), G0.trans g2⟩
theorem asks_behind {v : Value} {log : List (List Int)} {p : PrintD} {w : World} (hv : LogV w v log p) : Asks2 153 #[v] #[] (hasP p.behind) w := fun W x y _ _ g => behind_calls v log p x y W (hv.gr g)
end Go.Proofs.YtagdccgbcmnehaaGreat

