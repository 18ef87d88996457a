/- Contract of cases.Play. -/
import Derived.Test.YtidpppfimkhgkaaCases5
import Derived.Test.YtidpppfimkhgkaaPA
namespace Go.Tok
open Go.RowKit
set_option linter.unusedVariables false
structure CopD where
  kind : Int
  tran : Int
instance : Inhabited CopD := ⟨⟨0, 0⟩⟩
def copCells (o : CopD) : List Value := [.int .i64 o.kind, .int .i64 o.tran]
def copI (o : CopD) : Prop := I64 o.kind ∧ I64 o.tran
def copK : Kind CopD := flat 2 copCells copI (fun _ => rfl) (fun o u hu => by
  simp only [copCells, List.mem_cons, List.not_mem_nil, or_false] at hu
  rcases hu with rfl | rfl <;> rfl)
theorem Rd.cop {w : World} {a : Option Addr} {n cap : Nat} {xs : List CopD} (h : Rd copK w (.slice a n cap) xs) {i : Nat} (hi : i < xs.length) :
    ∃ b o, a = some ⟨b, o, none⟩ ∧ w.cell? ⟨b, o + i * 2, none⟩ = some (.int .i64 (ix xs i).kind) ∧ w.cell? ⟨b, o + i * 2 + 1, none⟩ = some (.int .i64 (ix xs i).tran) ∧ copI (ix xs i) := by
  obtain ⟨b, o, vs, ha, ⟨rfl, hr⟩, hc⟩ := h.at_ hi
  exact ⟨b, o, ha, hc 0 _ rfl, hc 1 _ rfl, hr⟩
theorem own_cops {w : World} {H n m base e : Nat} {S : Nat → Prop} {xs : List CopD} {cs : Array Value} (hH : w.heap.size = H) (hn : n = xs.length) (hm : m = xs.length) (hcs : cs.toList = xs.flatMap copCells) (hI : ∀ x ∈ xs, copI x) (hl : xs.length ≤ 1000) (hb : base ≤ w.heap.size) :
    OwnR copK e base S (w.alloc (.cells cs e)) (.slice (some ⟨H, 0, none⟩) n m) xs := by
  refine OwnR.lit (xs.map fun x => (x, copCells x)) (by rw [List.map_map]; exact (List.map_id _).symm) hH hn hm ?_ hl hb ?_
  · rw [hcs]; unfold cellsOf; rw [List.flatMap_map]
  · intro r hr
    obtain ⟨x, hx, rfl⟩ := List.mem_map.1 hr
    exact On.true (p := copCells x = copCells x ∧ copI x) ⟨rfl, hI x hx⟩
def playStep (N : NetD) (s : CaseD × List Int) (o : CopD) : CaseD × List Int :=
  (if (doF N s.1 o.kind o.tran).2 = 0 then (doF N s.1 o.kind o.tran).1 else s.1, s.2 ++ [(doF N s.1 o.kind o.tran).2])
def playTo (N : NetD) (c : CaseD) (ops : List CopD) (k : Nat) : CaseD × List Int := (ops.take k).foldl (playStep N) (c, [])
theorem playTo_zero (N : NetD) (c : CaseD) (ops : List CopD) : playTo N c ops 0 = (c, []) := rfl
theorem playTo_succ {N : NetD} {c : CaseD} {ops : List CopD} {k : Nat} (h : k < ops.length) : playTo N c ops (k + 1) = playStep N (playTo N c ops k) (ix ops k) := by
  unfold playTo
  rw [take_ix h, List.foldl_append]
  rfl
theorem playTo_len (N : NetD) (c : CaseD) (ops : List CopD) : ∀ k, k ≤ ops.length → (playTo N c ops k).2.length = k := by
  intro k
  induction k with
  | zero => intro _; rfl
  | succ k ih => intro h; rw [playTo_succ (by omega)]; unfold playStep; simp [ih (by omega)]
theorem play_yes {N : NetD} {c c1 c2 : CaseD} {ops : List CopD} {l : List Int} {k : Nat} (h : playTo N c ops k = (c1, l)) (hk : k < ops.length) (hd : doF N c1 (ix ops k).kind (ix ops k).tran = (c2, 0)) : playTo N c ops (k + 1) = (c2, l ++ [0]) := by
  rw [playTo_succ hk, h]; unfold playStep; simp only [hd]; rfl
theorem play_no {N : NetD} {c c1 c2 : CaseD} {ops : List CopD} {l : List Int} {k : Nat} {e : Int} (h : playTo N c ops k = (c1, l)) (hk : k < ops.length) (hd : doF N c1 (ix ops k).kind (ix ops k).tran = (c2, e)) (he : e ≠ 0) : playTo N c ops (k + 1) = (c1, l ++ [e]) := by
  rw [playTo_succ hk, h]; unfold playStep; simp only [hd, if_neg he]
def playF (N : NetD) (i : Int) (ops : List CopD) : (CaseD × List Int) × Int :=
  if (beginF N i).2 ≠ 0 then ((zeroC, []), (beginF N i).2) else (playTo N (beginF N i).1 ops ops.length, 0)
theorem playF_bad {N : NetD} {i : Int} {ops : List CopD} {c : CaseD} {e : Int} (h : beginF N i = (c, e)) (he : e ≠ 0) : playF N i ops = ((zeroC, []), e) := by unfold playF; rw [h]; exact if_pos he
theorem playF_ok {N : NetD} {i : Int} {ops : List CopD} {c : CaseD} (h : beginF N i = (c, 0)) : playF N i ops = (playTo N c ops ops.length, 0) := by unfold playF; rw [h]; rfl
theorem busyL_I (b : List Int) (t : Nat) (m : Int) : I64 (busyL b t m).2 := by unfold busyL I64; split <;> (try split) <;> simp
theorem zipF_err (f : Int → Int → Int × Int) (hf : ∀ x y, I64 (f x y).2) (a b : List Int) : I64 (zipF f a b).2 := by
  unfold zipF
  split
  · unfold zipB
    split
    · exact hf _ _
    · simp [I64]
  · simp [I64]
theorem fireF_I (N : NetD) (m : List Int) (t : Int) : I64 (fireF N m t).2 := by
  cases h : fitsB N m
  · rw [fireF_unfit h]; simp [I64]
  · rcases fire_cases t h with ⟨_, _, _, _, h⟩ | ⟨h, _⟩ | ⟨h, _⟩ <;> rw [h] <;> simp [I64]
theorem withM_I {c : CaseD} {r : List Int × Int} (h : I64 r.2) : I64 (withM c r).2 := by
  unfold withM; split
  · simp [I64]
  · exact h
theorem withMB_I {r s : List Int × Int} (h : I64 r.2) (h' : I64 s.2) : I64 (withMB r s).2 := by
  unfold withMB; split
  · split
    · simp [I64]
    · exact h'
  · exact h
theorem withBM_I {r s : List Int × Int} (h : I64 r.2) (h' : I64 s.2) : I64 (withBM s r).2 := by
  unfold withBM; split
  · split
    · simp [I64]
    · exact h
  · exact h'
theorem doF_I (N : NetD) (c : CaseD) (k t : Int) : I64 (doF N c k t).2 := by
  have hp : ∀ a b, I64 (zipF plusf a b).2 := zipF_err _ fun x y => by unfold plusf I64; split <;> simp
  have hm : ∀ a b, I64 (zipF minusf a b).2 := zipF_err _ fun x y => by unfold minusf I64; split <;> simp
  unfold doF
  split
  · simp [I64]
  · split
    · simp [I64]
    · split
      · simp [I64]
      · split
        · simp [I64]
        · unfold doK
          split
          · exact withM_I (fireF_I _ _ _)
          · split
            · exact withMB_I (hm _ _) (busyL_I _ _ _)
            · split
              · exact withBM_I (hp _ _) (busyL_I _ _ _)
              · exact withBM_I (hp _ _) (busyL_I _ _ _)
end Go.Tok
namespace Go.Tok
open Go.RowKit
theorem Held.intro {base : Nat} {row : Option Nat} {w : World} {u : Value} {xs : List Int} (h : Ints w u xs) (h2 : xs ≠ [] → ∀ k, u.ownBlock = some k → base ≤ k ∧ some k ≠ row) : Held base row w u xs := by unfold Held; exact ⟨h, h2⟩
theorem Held.ints {base : Nat} {row : Option Nat} {w : World} {u : Value} {xs : List Int} (h : Held base row w u xs) : Ints w u xs := by unfold Held at h; exact h.1
theorem Held.ne {base : Nat} {row : Option Nat} {w : World} {u : Value} {xs : List Int} (h : Held base row w u xs) : xs ≠ [] → ∀ k, u.ownBlock = some k → base ≤ k ∧ some k ≠ row := by unfold Held at h; exact h.2
theorem Held.set_apart {base : Nat} {row : Option Nat} {w : World} {v : Value} {xs : List Int} {g : Nat} {t : TypeId} {a a' : Option Addr} {n c n' c' : Nat} (h : Held base row w v xs) (hb : Blk w g t #[.slice a n c, .slice a' n' c']) (i : Nat) (u : Value) : Held base row (w.setCell ⟨g, i, none⟩ u) v xs := Held.intro (h.ints.set_apart hb i u) h.ne
theorem Held.sets {base : Nat} {row : Option Nat} {w : World} {v : Value} {xs : List Int} {g : Nat} {t : TypeId} {a a' b b' : Option Addr} {n k n' k' m l m' l' : Nat} (h : Held base row w v xs) (hb : Blk w g t #[.slice a n k, .slice a' n' k']) :
    Held base row ((w.setCell ⟨g, 0, none⟩ (.slice b m l)).setCell ⟨g, 1, none⟩ (.slice b' m' l')) v xs := by
  have hb2 : Blk (w.setCell ⟨g, 0, none⟩ (.slice b m l)) g t #[.slice b m l, .slice a' n' k'] := by simpa using hb.set 0 (.slice b m l)
  exact (h.set_apart hb 0 _).set_apart hb2 1 _
theorem Held.app {base : Nat} {w w' : World} {u v v' : Value} {xs ys : List Int} {e b : Nat} (h : Held base v.ownBlock w u xs) (hg : w.grownBy w' v.ownBlock) (ho : OwnI e b w' v' ys) (hy : ys ≠ []) (hat : v'.ownBlock = v.ownBlock ∨ v'.ownBlock = some w.heap.size) : Held base v'.ownBlock w' u xs := by
  rcases ho.form with ⟨_, h0⟩ | ⟨g, cap, rfl, _, _, _, _⟩
  · exact absurd h0 hy
  · refine h.grown (g := g) hg rfl ?_
    rcases hat with h1 | h1
    · exact .inl h1.symm
    · have : g = w.heap.size := Option.some.inj h1
      exact .inr (Nat.le_of_eq this.symm)
end Go.Tok
namespace Go.Proofs.Ytidpppfimkhgkaa
open Go.RowKit Go.Tok
set_option linter.unusedVariables false
theorem errTy : IntTy Try.prog 100 29 := ⟨Try.underlying100, by kernel_rfl⟩
def RetPl (w : World) (r : (CaseD × List Int) × Int) (e : Ending) (w' : World) : Prop := ∃ v u, e = .returned (.tuple #[v, u, .int .i64 r.2]) ∧ CaseR w' v r.1.1 ∧ Ints w' u r.1.2 ∧ Gr w w'
theorem RetPl.mk {w w' : World} {v u : Value} {x : Int} {r : (CaseD × List Int) × Int} {c : CaseD} {l : List Int} (hr : r = ((c, l), x)) (hv : CaseR w' v c) (hu : Ints w' u l) (hb : Gr w w') : RetPl w r (.returned (.tuple #[v, u, .int .i64 x])) w' := by subst hr; exact ⟨v, u, rfl, hv, hu, hb⟩
set_option maxHeartbeats 4000000 in
set_option maxRecDepth 100000 in
theorem Play_calls (v u : Value) (N : NetD) (i : Int) (ops : List CopD) (w : World) (hN : NetR w v N) (hi : I64 i) (hu : Rd copK w u ops) (hl : ops.length ≤ 8796093022208) :
    Calls Try.prog 48 #[v, .int .i64 i, u] w (RetPl w (playF N i ops)) := by
  have T := errTy
  have hN' := hN
  obtain ⟨a, cap, rfl, hnl, hncap, hpl, hT⟩ := hN.open_
  have hpl1 := hpl.1
  have hpl2 := hpl.2
  obtain ⟨ua, uc, rfl, ul, ul'⟩ := hu.len
  rcases hb : beginF N i with ⟨c, e⟩
  have HB := Lib.hid hb
  by_cases he : e = 0
  · subst he
    have HC := Lib.hid (playF_ok (ops := ops) hb)
    clear hb
    have b0 : Blk ((w.alloc (.cells #[.int .i64 N.places, .slice a N.trans.length cap] 28)).alloc (.cells #[.slice none 0 0, .slice none 0 0] 63)) w.heap.size 28 #[.int .i64 N.places, .slice a N.trans.length cap] := (Blk.new rfl).gr ((Gr.refl _).alloc _)
    have b3 : Blk ((w.alloc (.cells #[.int .i64 N.places, .slice a N.trans.length cap] 28)).alloc (.cells #[.slice none 0 0, .slice none 0 0] 63)) (w.heap.size + 1) 63 #[.slice none 0 0, .slice none 0 0] := Blk.new (by simp)
    go_enter Try.func48, Try.ntmps48
    go_wp2_with fail
    refine (Begin_calls _ N i _ (hN.gr (by (repeat (first | exact Gr.refl _ | assumption | apply Gr.alloc | apply Gr.drew | apply Gr.drewN | refine Gr.trans ?_ (by assumption))))) hi).mono ?_
    rw [HB.out]; rintro _ w1 ⟨v1, rfl, i1, g1⟩
    replace b0 := b0.gr g1
    replace b3 := b3.gr g1
    have gw : Gr w w1 := by (repeat (first | exact Gr.refl _ | assumption | apply Gr.alloc | apply Gr.drew | apply Gr.drewN | refine Gr.trans ?_ (by assumption)))
    clear g1
    have hw0 := Lib.hid b3.lt
    obtain ⟨xa, xn, ya, yn, rfl, _, _, _, _, iM, iB⟩ := i1.r.open_
    go_wp2_with fail
    have GX : Gr w1 (w1.alloc (.cells #[.slice xa c.mark.length xn, .slice ya c.busy.length yn] 63)) := (Gr.refl _).alloc _
    have bx : Blk (w1.alloc (.cells #[.slice xa c.mark.length xn, .slice ya c.busy.length yn] 63)) w1.heap.size 63 #[.slice xa c.mark.length xn, .slice ya c.busy.length yn] := Blk.new rfl
    have hsz : (w1.alloc (.cells #[.slice xa c.mark.length xn, .slice ya c.busy.length yn] 63)).heap.size = w1.heap.size + 1 := by simp
    generalize w1.alloc (.cells #[.slice xa c.mark.length xn, .slice ya c.busy.length yn] 63) = wx at GX bx hsz ⊢
    replace i1 := i1.gr GX
    have hM0 : Held 0 (Value.ownBlock (.slice none 0 0)) wx (.slice xa c.mark.length xn) c.mark := Held.intro (iM.gr GX) (fun _ k _ => ⟨Nat.zero_le _, by simp [Value.ownBlock]⟩)
    have hB0 : Held 0 (Value.ownBlock (.slice none 0 0)) wx (.slice ya c.busy.length yn) c.busy := Held.intro (iB.gr GX) (fun _ k _ => ⟨Nat.zero_le _, by simp [Value.ownBlock]⟩)
    go_loopw [11, 28] (fun sv q wr => ∃ (k : Nat) (d : CaseD) (l : List Int) (da ea : Option Addr) (dn en : Nat), k ≤ ops.length ∧ q = .int .i64 k ∧ Blk wr w1.heap.size 63 #[.slice da d.mark.length dn, .slice ea d.busy.length en] ∧ Held 0 sv.ownBlock wr (.slice da d.mark.length dn) d.mark ∧ Held 0 sv.ownBlock wr (.slice ea d.busy.length en) d.busy ∧ OwnI 29 (w1.heap.size + 1) wr sv l ∧ playTo N c ops k = (d, l) ∧ Gr w1 wr ∧ w1.heap.size + 1 ≤ wr.heap.size) (fun _ q _ => ops.length - (intOf q).toNat)
    case atStart => exact ⟨0, c, [], xa, ya, xn, yn, Nat.zero_le _, rfl, bx, hM0, hB0, OwnI.nil _ _ _, playTo_zero _ _ _, GX, Nat.le_of_eq hsz.symm⟩
    case round =>
      rename_i wr
      obtain ⟨k, d, l, da, ea, dn, en, hk, rfl, hbx, hM, hB, hown, hpl, hgr, hle⟩ := hrel
      have hll := playTo_len N c ops k hk
      rw [hpl] at hll
      have hcr : CaseR wr (.agg #[.slice da d.mark.length dn, .slice ea d.busy.length en]) d := CaseR.mk_ hM.ints hB.ints
      by_cases hlt : k < ops.length
      · obtain ⟨ub, uo, rfl, u0, u1, hI⟩ := (hu.gr (gw.trans hgr)).cop hlt
        have hI1 := hI.1
        have hI2 := hI.2
        have GO : Gr wr (wr.alloc (.cells #[.int .i64 (ix ops k).kind, .int .i64 (ix ops k).tran] 105)) := (Gr.refl _).alloc _
        have A0 := ((b0.gr hgr).gr GO).cell (i := 0) rfl
        have A1 := ((b0.gr hgr).gr GO).cell (i := 1) rfl
        have X0 := (hbx.gr GO).cell (i := 0) rfl
        have X1 := (hbx.gr GO).cell (i := 1) rfl
        have O0 : (wr.alloc (.cells #[.int .i64 (ix ops k).kind, .int .i64 (ix ops k).tran] 105)).cell? ⟨wr.heap.size, 0, none⟩ = some (.int .i64 (ix ops k).kind) := box_cell (Gr.refl _) (i := 0) rfl
        have O1 : (wr.alloc (.cells #[.int .i64 (ix ops k).kind, .int .i64 (ix ops k).tran] 105)).cell? ⟨wr.heap.size, 1, none⟩ = some (.int .i64 (ix ops k).tran) := box_cell (Gr.refl _) (i := 1) rfl
        have hDI := doF_I N d (ix ops k).kind (ix ops k).tran
        rcases hd : doF N d (ix ops k).kind (ix ops k).tran with ⟨d2, f⟩
        rw [hd] at hDI
        replace hDI : I64 f := hDI
        have HD := Lib.hid hd
        by_cases hf : f = 0
        · subst hf
          have HPL := Lib.hid (play_yes hpl hlt hd)
          clear hd hpl
          go_wp2_with fail
          refine (Do_calls _ _ N d _ _ _ (hN'.gr ((gw.trans hgr).trans GO)) (hcr.gr GO) hI1 hI2).mono ?_
          rw [HD.out]; rintro _ w2 ⟨v2, rfl, i2, g2⟩
          obtain ⟨pm, pb, hpv, i3, i4⟩ := i2
          obtain ⟨pa, pn, rfl, _, _⟩ := i3.ints.len
          obtain ⟨qa, qn, rfl, _, _⟩ := i4.ints.len
          subst hpv
          have G2 : Gr wr (w2.alloc (.cells #[.slice pa d2.mark.length pn, .slice qa d2.busy.length qn] 63)) := (GO.trans g2).alloc _
          have Y0 : (w2.alloc (.cells #[.slice pa d2.mark.length pn, .slice qa d2.busy.length qn] 63)).cell? ⟨w2.heap.size, 0, none⟩ = some (.slice pa d2.mark.length pn) := box_cell (Gr.refl _) (i := 0) rfl
          have Y1 : (w2.alloc (.cells #[.slice pa d2.mark.length pn, .slice qa d2.busy.length qn] 63)).cell? ⟨w2.heap.size, 1, none⟩ = some (.slice qa d2.busy.length qn) := box_cell (Gr.refl _) (i := 1) rfl
          have hM2 := (Held.fresh (base := 0) (row := u11.ownBlock) i3 (Nat.zero_le _) (fun k' h => by have := (hown.lt h).2; simp; omega) ((Gr.refl w2).alloc (.cells #[.slice pa d2.mark.length pn, .slice qa d2.busy.length qn] 63)))
          have hB2 := (Held.fresh (base := 0) (row := u11.ownBlock) i4 (Nat.zero_le _) (fun k' h => by have := (hown.lt h).2; simp; omega) ((Gr.refl w2).alloc (.cells #[.slice pa d2.mark.length pn, .slice qa d2.busy.length qn] 63)))
          have hbx2 := hbx.gr G2
          have X2 := hbx2.cell (i := 0) rfl
          have X3 := hbx2.cell (i := 1) rfl
          have XF := hbx2.frozen 0
          have hbx3 := hbx2.set 0 (.slice pa d2.mark.length pn)
          have XF2 := hbx3.frozen 1
          have X4 := hbx3.cell (i := 1) rfl
          have hbx4 := hbx3.set 1 (.slice qa d2.busy.length qn)
          have hown2 := (hown.gr G2)
          have hle2 := G2.le
          have hown3 := (hown2.other (a := ⟨w1.heap.size, 0, none⟩) (fun e => by have := (hown2.lt e).1; simp at this; omega) (.slice pa d2.mark.length pn)).other (a := ⟨w1.heap.size, 1, none⟩) (fun e => by have := (hown2.lt e).1; simp at this; omega) (.slice qa d2.busy.length qn)
          have hM3 := hM2.sets (b := pa) (m := d2.mark.length) (l := pn) (b' := qa) (m' := d2.busy.length) (l' := qn) hbx2
          have hB3 := hB2.sets (b := pa) (m := d2.mark.length) (l := pn) (b' := qa) (m' := d2.busy.length) (l' := qn) hbx2
          have hgr3 := ((hgr.trans G2).setCell (p := ⟨w1.heap.size, 0, none⟩) (Nat.le_refl _) (.slice pa d2.mark.length pn)).setCell (p := ⟨w1.heap.size, 1, none⟩) (Nat.le_refl _) (.slice qa d2.busy.length qn)
          generalize hw3 : ((w2.alloc (.cells #[.slice pa d2.mark.length pn, .slice qa d2.busy.length qn] 63)).setCell ⟨w1.heap.size, 0, none⟩ (.slice pa d2.mark.length pn)).setCell ⟨w1.heap.size, 1, none⟩ (.slice qa d2.busy.length qn) = w3 at hbx4 hown3 hM3 hB3 hgr3
          have hlt3 := hbx4.lt
          have GE : Gr w3 (w3.alloc (.cells #[.int .i64 0] 29)) := (Gr.refl _).alloc _
          go_wp2_with (at_builtin; refine app_int T _ _ (w1.heap.size + 1) _ l ⟨w3.heap.size, 0, none⟩ 0 (by rfl) (by rfl) (by rfl) (by rfl) (hown3.gr GE) (lit_cell (by simp)) hDI (by omega) (by simp; omega) ?_; intro v' w' ho' hg' hgb hat)
          go_roundw
          case rel =>
            refine ⟨k + 1, d2, l ++ [0], pa, qa, pn, qn, by omega, by go_num, (hbx4.gr GE).grown hgb (fun e => ?_), (hM3.gr GE).app hgb ho' (by simp) hat, (hB3.gr GE).app hgb ho' (by simp) hat, ho', HPL.out, hg' w1 (by omega) (hgr3.trans GE), ?_⟩
            · have := (hown3.lt e.symm).1; omega
            · have := hgb.size; simp at this; omega
          case measure => simp [intOf]; omega
        · have q1 : (f == 0) = false := by simpa using hf
          have HPL := Lib.hid (play_no hpl hlt hd hf)
          clear hd hpl hf
          go_wp2_with fail
          refine (Do_calls _ _ N d _ _ _ (hN'.gr ((gw.trans hgr).trans GO)) (hcr.gr GO) hI1 hI2).mono ?_
          rw [HD.out]; rintro _ w2 ⟨v2, rfl, i2, g2⟩
          obtain ⟨pa, pn, qa, qn, rfl, _, _, _, _, jM, jB⟩ := i2.r.open_
          have GE : Gr wr ((w2.alloc (.cells #[.slice pa d2.mark.length pn, .slice qa d2.busy.length qn] 63)).alloc (.cells #[.int .i64 f] 29)) := ((GO.trans g2).alloc _).alloc _
          have hle2 := GE.le
          go_wp2_with (at_builtin; refine app_int T _ _ (w1.heap.size + 1) _ l ⟨w2.heap.size + 1, 0, none⟩ f (by rfl) (by rfl) (by rfl) (by rfl) (hown.gr GE) (lit_cell (by simp)) hDI (by omega) (by omega) ?_; intro v' w' ho' hg' hgb hat)
          go_roundw
          case rel =>
            refine ⟨k + 1, d, l ++ [f], da, ea, dn, en, by omega, by go_num, (hbx.gr GE).grown hgb (fun e => ?_), (hM.gr GE).app hgb ho' (by simp) hat, (hB.gr GE).app hgb ho' (by simp) hat, ho', HPL.out, hg' w1 (by omega) (hgr.trans GE), ?_⟩
            · have := (hown.lt e.symm).1; omega
            · have := hgb.size; omega
          case measure => simp [intOf]; omega
      · obtain rfl : k = ops.length := by omega
        have X0 := hbx.cell (i := 0) rfl
        have X1 := hbx.cell (i := 1) rfl
        replace b3 := b3.gr hgr
        obtain ⟨sa, sn, rfl, _, _⟩ := hown.ints.len
        clear hll
        have HPL := Lib.hid hpl
        clear hpl
        have D0 := b3.cell (i := 0) rfl
        have D1 := b3.cell (i := 1) rfl
        have F0 := b3.frozen 0
        have hb2 := b3.set 0 (.slice da d.mark.length dn)
        have F1 := hb2.frozen 1
        have D2 := hb2.cell (i := 1) rfl
        have hb3 := hb2.set 1 (.slice ea d.busy.length en)
        have E0 := hb3.cell (i := 0) rfl
        have E1 := hb3.cell (i := 1) rfl
        go_wp2_with fail
        refine bodyPost_ret (v := .tuple #[.agg #[.slice da d.mark.length dn, .slice ea d.busy.length en], .slice sa l.length sn, .int .i64 0]) (by simp [results, Try.results48, go_sem, E0, E1]) rfl ?_
        have hbw : w.heap.size + 1 < w1.heap.size := hw0.out
        refine RetPl.mk (HC.out.trans (by rw [HPL.out])) (hcr.sets b3) ((hown.other (fun e => by have := (hown.lt e).1; simp at this; omega) _).other (fun e => by have := (hown.lt e).1; simp at this; omega) _).ints (((gw.trans hgr).setCell (by simp) _).setCell (by simp) _)
  · have q1 : (e != 0) = true := by simpa using he
    have HC := Lib.hid (playF_bad (ops := ops) hb he)
    clear hb he
    have b0 : Blk ((w.alloc (.cells #[.int .i64 N.places, .slice a N.trans.length cap] 28)).alloc (.cells #[.slice none 0 0, .slice none 0 0] 63)) w.heap.size 28 #[.int .i64 N.places, .slice a N.trans.length cap] := (Blk.new rfl).gr ((Gr.refl _).alloc _)
    have b3 : Blk ((w.alloc (.cells #[.int .i64 N.places, .slice a N.trans.length cap] 28)).alloc (.cells #[.slice none 0 0, .slice none 0 0] 63)) (w.heap.size + 1) 63 #[.slice none 0 0, .slice none 0 0] := Blk.new (by simp)
    go_enter Try.func48, Try.ntmps48
    go_wp2_with fail
    refine (Begin_calls _ N i _ (hN.gr (by (repeat (first | exact Gr.refl _ | assumption | apply Gr.alloc | apply Gr.drew | apply Gr.drewN | refine Gr.trans ?_ (by assumption))))) hi).mono ?_
    rw [HB.out]; rintro _ w1 ⟨v1, rfl, i1, g1⟩
    replace b0 := b0.gr g1
    replace b3 := b3.gr g1
    have gw : Gr w w1 := by (repeat (first | exact Gr.refl _ | assumption | apply Gr.alloc | apply Gr.drew | apply Gr.drewN | refine Gr.trans ?_ (by assumption)))
    clear g1
    have hw0 := Lib.hid b3.lt
    obtain ⟨xa, xn, ya, yn, rfl, _, _, _, _, iM, iB⟩ := i1.r.open_
    replace b3 := b3.gr ((Gr.refl w1).alloc (.cells #[.slice xa c.mark.length xn, .slice ya c.busy.length yn] 63))
    have D0 := b3.cell (i := 0) rfl
    have D1 := b3.cell (i := 1) rfl
    have F0 := b3.frozen 0
    have hb2 := b3.set 0 (.slice none 0 0)
    have F1 := hb2.frozen 1
    have D2 := hb2.cell (i := 1) rfl
    have hb3 := hb2.set 1 (.slice none 0 0)
    have E0 := hb3.cell (i := 0) rfl
    have E1 := hb3.cell (i := 1) rfl
    go_wp2_with fail
    refine bodyPost_ret (v := .tuple #[.agg #[.slice none 0 0, .slice none 0 0], .slice none 0 0, .int .i64 e]) (by simp [results, Try.results48, go_sem, E0, E1]) rfl ?_
    exact RetPl.mk HC.out (CaseR.zero _) (Ints.nil _) (((gw.alloc _).setCell (by simp) _).setCell (by simp) _)
end Go.Proofs.Ytidpppfimkhgkaa
