/- Contract of choice.Clusters. -/
import Derived.Test.YtajmccjnoejmfaaChoice3
import Derived.Test.YtajmccjnoejmfaaSortRow
import Derived.Test.YtajmccjnoejmfaaSortNil
import Derived.Test.YtajmccjnoejmfaaGU
namespace Go.Tok
open Go.RowKit
set_option linter.unusedVariables false
theorem flat_len_le {l : List (List Int)} {i : Nat} (h : i < l.length) : (ix l i).length ≤ l.flatten.length := by
  induction l generalizing i with
  | nil => simp at h
  | cons a r ih =>
    rw [List.flatten_cons, List.length_append]
    cases i with
    | zero => rw [ix_zero]; omega
    | succ i => rw [ix_succ]; have := ih (i := i) (by simpa using h); omega
theorem clus_flat (N : NetD) (k : Nat) : (clusN N k).flatten.length = k := by
  have := (clus_perm N k).length_eq
  simpa using this
theorem clus_len (N : NetD) : ∀ k, (clusN N k).length ≤ k := by
  intro k
  induction k with
  | zero => simp [clusN]
  | succ k ih =>
    rw [clusN, List.length_append]
    have : (restTo N k (clusN N k) (clusN N k).length).length ≤ (clusN N k).length := by
      unfold restTo
      exact Nat.le_trans (List.length_filter_le _ _) (by simp)
    simp; omega
theorem filter_flat_le (p : List Int → Bool) : ∀ l : List (List Int), (l.filter p).flatten.length ≤ l.flatten.length := by
  intro l
  induction l with
  | nil => simp
  | cons a r ih =>
    rw [List.filter_cons]
    split <;> simp only [List.flatten_cons, List.length_append] <;> omega
theorem take_flat_le : ∀ (l : List (List Int)) (j : Nat), (l.take j).flatten.length ≤ l.flatten.length := by
  intro l
  induction l with
  | nil => simp
  | cons a r ih =>
    intro j
    cases j with
    | zero => simp
    | succ j => simp only [List.take_succ_cons, List.flatten_cons, List.length_append]; have := ih j; omega
theorem mineTo_len (N : NetD) (k : Nat) (out : List (List Int)) (j : Nat) : (mineTo N k out j).length ≤ 1 + out.flatten.length := by
  unfold mineTo
  have h1 := filter_flat_le (touchB N k) (out.take j)
  have h2 := take_flat_le out j
  simp only [List.length_cons]; omega
theorem restTo_len (N : NetD) (k : Nat) (out : List (List Int)) (j : Nat) : (restTo N k out j).length ≤ out.length := by
  unfold restTo
  exact Nat.le_trans (List.length_filter_le _ _) (by simp; omega)
theorem mineTo_pos (N : NetD) (k : Nat) (out : List (List Int)) (j : Nat) : 0 < (mineTo N k out j).length := by unfold mineTo; simp
theorem mineTo_zero (N : NetD) (k : Nat) (out : List (List Int)) : mineTo N k out 0 = [(k : Int)] := by simp [mineTo]
theorem restTo_zero (N : NetD) (k : Nat) (out : List (List Int)) : restTo N k out 0 = [] := by simp [restTo]
theorem clus_next (N : NetD) (k : Nat) : clusN N (k + 1) = restTo N k (clusN N k) (clusN N k).length ++ [sortI (mineTo N k (clusN N k) (clusN N k).length)] := rfl
theorem clus_in {N : NetD} {k j : Nat} {x : Int} (hj : j < (clusN N k).length) (hx : x ∈ ix (clusN N k) j) : ∃ i : Nat, x = i ∧ i < k := by
  obtain ⟨i, h1, h2⟩ := clus_mem.1 (List.mem_flatten.2 ⟨_, ix_mem hj, hx⟩)
  exact ⟨i, h2, h1⟩
/-- what a round of Clusters has gathered: the transition's own list, and the lists that stay apart -/
structure CI (t e : TypeId) (w0 w : World) (mv rv : Value) (mine : List Int) (rest : List (List Int)) : Prop where
  m : OwnI t w0.heap.size w mv mine
  r : OwnR rowK e w0.heap.size (fun b => b < w0.heap.size) w rv rest
  ap : ∀ b, mv.ownBlock = some b → rv.ownBlock ≠ some b
  gr : Gr w0 w
section
variable {t e : TypeId} {w0 w w' : World} {mv rv : Value} {mine : List Int} {rest : List (List Int)}
theorem CI.lt (h : CI t e w0 w mv rv mine rest) : w0.heap.size ≤ w.heap.size := h.gr.le
theorem CI.later (h : CI t e w0 w mv rv mine rest) (g : Gr w w') : CI t e w0 w' mv rv mine rest := ⟨h.m.gr g, h.r.gr g, h.ap, h.gr.trans g⟩
theorem CI.add (h : CI t e w0 w mv rv mine rest) {v' : Value} {mine' : List Int} (ho : OwnI t w0.heap.size w' v' mine') (hg : w.grownBy w' mv.ownBlock) (hat : v'.ownBlock = mv.ownBlock ∨ v'.ownBlock = some w.heap.size) : CI t e w0 w' v' rv mine' rest := by
  refine ⟨ho, h.r.kept hg ?_ ?_, ?_, h.gr.grown hg fun k hk => (h.m.lt hk).1⟩
  · cases hm : mv.ownBlock with
    | none => cases hr : rv.ownBlock with
      | none => exact .inl rfl
      | some b => exact .inr (by simp)
    | some b => exact .inr (h.ap b hm)
  · intro b _ hb
    exact ⟨hb, fun e => by have := (h.m.lt e.symm).1; omega⟩
  · intro b hb hr
    rcases hat with h1 | h1
    · exact h.ap b (h1.symm.trans hb) hr
    · rw [h1] at hb
      have := Option.some.inj hb
      have := (h.r.lt hr).2
      omega
theorem CI.put (h : CI t e w0 w mv rv mine rest) {v' : Value} {rest' : List (List Int)} (ho : OwnR rowK e w0.heap.size (fun b => b < w0.heap.size) w' v' rest') (hg : w.grownBy w' rv.ownBlock) (hat : v'.ownBlock = rv.ownBlock ∨ v'.ownBlock = some w.heap.size) : CI t e w0 w' mv v' mine rest' := by
  refine ⟨h.m.grown hg ?_, ho, ?_, h.gr.grown hg fun k hk => (h.r.lt hk).1⟩
  · cases hm : mv.ownBlock with
    | none => exact .inl rfl
    | some b => exact .inr fun e => h.ap b hm e.symm
  · intro b hb hr
    rcases hat with h1 | h1
    · exact h.ap b hb (h1.symm.trans hr)
    · rw [h1] at hr
      have := Option.some.inj hr
      have := (h.m.lt hb).2
      omega
end
end Go.Tok
namespace Go.Proofs.Ytajmccjnoejmfaa
open Go.RowKit Go.Tok
set_option linter.unusedVariables false
/-- what Clusters answers -/
def ClusAns (N : NetD) (out : List (List Int)) : Prop := (netOkB N = false ∧ out = []) ∨ (netOkB N = true ∧ out.Perm (clusN N N.trans.length) ∧ AscC out)
set_option maxHeartbeats 8000000 in
set_option maxRecDepth 100000 in
theorem Clusters_calls (v : Value) (N : NetD) (w : World) (hN : NetR w v N) :
    Calls Try.prog 62 #[v] w fun e w' => ∃ v' out, e = .returned v' ∧ ClusAns N out ∧ Rd rowK w' v' out ∧ Gr w w' := by
  have eg : ∀ args w, (callFunc 100 args).run Try.prog w = .ok (.enter 100 args) w := (Go.Proofs.enters_of Try.func100 (by kernel_rfl) rfl)
  have T := intTy
  have hN' := hN
  obtain ⟨a, cap, rfl, hnl, hncap, hpl, hT⟩ := hN.open_
  have hpl1 := hpl.1
  have hpl2 := hpl.2
  have GA : Gr w (w.alloc (.cells #[.int .i64 N.places, .slice a N.trans.length cap] 28)) := (Gr.refl w).alloc _
  have bN : Blk (w.alloc (.cells #[.int .i64 N.places, .slice a N.trans.length cap] 28)) w.heap.size 28 #[.int .i64 N.places, .slice a N.trans.length cap] := Blk.new rfl
  cases h0 : netOkB N
  · have e0 := wrongC_no h0
    have HF := Lib.hid (show ClusAns N [] from .inl ⟨h0, rfl⟩)
    clear h0
    go_enter Try.func62, Try.ntmps62
    go_wp2_with fail
    refine (Wrong_calls _ N _ (hN'.gr GA)).mono ?_
    rw [e0]; rintro _ w1 ⟨rfl, g1⟩
    go_wp2_with fail
    go_ret
    exact ⟨_, [], rfl, HF.out, Rd.nil _, by (repeat (first | exact Gr.refl _ | assumption | apply Gr.alloc | apply Gr.drew | apply Gr.drewN | refine Gr.trans ?_ (by assumption)))⟩
  · have e0 := wrongC_yes h0
    have HOK := Lib.hid h0
    have h24 : N.trans.length ≤ 24 := by
      unfold netOkB at h0
      simp at h0
      exact h0.1.2
    clear h0
    go_enter Try.func62, Try.ntmps62
    go_wp2_with fail
    refine (Wrong_calls _ N _ (hN'.gr GA)).mono ?_
    rw [e0]; rintro _ w1 ⟨rfl, g1⟩
    have b1 := bN.gr g1
    have G1 := GA.trans g1
    have C1 := b1.cell (i := 1) rfl
    clear bN g1 GA b1
    go_wp2_with fail
    go_loopw [16, 3] (fun i vo wr => ∃ k : Nat, k ≤ N.trans.length ∧ i = .int .i64 k ∧ OwnR rowK 32 w1.heap.size (fun _ => True) wr vo (clusN N k) ∧ (k = 0 → vo = .slice none 0 0) ∧ Gr w1 wr) (fun i _ _ => N.trans.length - (intOf i).toNat)
    case atStart => exact ⟨0, Nat.zero_le _, rfl, OwnR.nil _ _ _ _, fun _ => rfl, Gr.refl _⟩
    case round =>
      rename World => wr
      obtain ⟨k, hk, rfl, hO, hk0, hgr⟩ := hrel
      by_cases hlt : k < N.trans.length
      · clear hk0
        obtain ⟨oa, oc, rfl, hoc1, hoc2⟩ := hO.len
        have hnext := clus_next N k
        have hflat := clus_flat N k
        have hlen := clus_len N k
        have hin : ∀ j x, j < (clusN N k).length → x ∈ ix (clusN N k) j → ∃ i : Nat, x = i ∧ i < N.trans.length := fun j x hj hx => by
          obtain ⟨i, h1, h2⟩ := clus_in hj hx
          exact ⟨i, h1, by omega⟩
        obtain ⟨out, hout⟩ : ∃ out, out = clusN N k := ⟨_, rfl⟩
        rw [← hout] at hnext hflat hlen hin hO hoc1 ⊢
        have HNEXT := Lib.hid hnext
        have HIN := Lib.hid hin
        clear hout hnext hin
        have G2 := G1.trans hgr
        have D1 := cell_gr C1 hgr
        obtain ⟨b, o, vp, vq, rfl, c0, c1, c2, hlab, hp, hq⟩ := (hT.gr G2).at_ hlt
        obtain ⟨pa, pc, rfl, pl, pl'⟩ := hp.len
        obtain ⟨qa, qc, rfl, ql, ql'⟩ := hq.len
        have gk : Gr wr (wr.alloc (.cells #[.int .i64 (N.tr k).label, .slice pa (N.tr k).pre.length pc, .slice qa (N.tr k).post.length qc] 34)) := (Gr.refl _).alloc _
        have bA : Blk (wr.alloc (.cells #[.int .i64 (N.tr k).label, .slice pa (N.tr k).pre.length pc, .slice qa (N.tr k).post.length qc] 34)) wr.heap.size 34 #[.int .i64 (N.tr k).label, .slice pa (N.tr k).pre.length pc, .slice qa (N.tr k).post.length qc] := Blk.new rfl
        have D1' := cell_gr D1 gk
        have hO2 := hO.gr gk
        have G3 := G2.trans gk
        have G4 := hgr.trans gk
        have hp2 := hp.gr gk
        have hq2 := hq.gr gk
        have hT2 := hT.gr G3
        have hsz0 : (wr.alloc (.cells #[.int .i64 (N.tr k).label, .slice pa (N.tr k).pre.length pc, .slice qa (N.tr k).post.length qc] 34)).heap.size = wr.heap.size + 1 := by simp
        have hkI : (k : Int) < (N.trans.length : Int) := by omega
        have hS0 : CI 3 32 (wr.alloc (.cells #[.int .i64 (N.tr k).label, .slice pa (N.tr k).pre.length pc, .slice qa (N.tr k).post.length qc] 34)) ((wr.alloc (.cells #[.int .i64 (N.tr k).label, .slice pa (N.tr k).pre.length pc, .slice qa (N.tr k).post.length qc] 34)).alloc (.cells #[.int .i64 (k : Int)] 3)) (.slice (some ⟨wr.heap.size + 1, 0, none⟩) 1 1) (.slice none 0 0) (mineTo N k out 0) (restTo N k out 0) := by
          rw [mineTo_zero, restTo_zero]
          exact ⟨OwnI.lit hsz0 rfl rfl rfl (by intro x hx; rw [List.mem_singleton.1 hx]; exact i64_nat (by omega)) (by simp) (Nat.le_refl _), OwnR.nil _ _ _ _, fun b _ h => by simp [Value.ownBlock] at h, (Gr.refl _).alloc _⟩
        have hB1 : w1.heap.size ≤ (wr.alloc (.cells #[.int .i64 (N.tr k).label, .slice pa (N.tr k).pre.length pc, .slice qa (N.tr k).post.length qc] 34)).heap.size := G4.le
        clear hO hp hq hsz0
        go_wp2_with fail
        clear D1 c0 c1 c2
        generalize hw0 : wr.alloc (.cells #[.int .i64 (N.tr k).label, .slice pa (N.tr k).pre.length pc, .slice qa (N.tr k).post.length qc] 34) = w0 at *
        have HW0 := Lib.hid hw0
        clear hw0
        go_loopw [25, 6, 7] (fun q mv rv wi => ∃ j : Nat, j ≤ out.length ∧ q = .int .i64 j ∧ CI 3 32 w0 wi mv rv (mineTo N k out j) (restTo N k out j)) (fun q _ _ _ => out.length - (intOf q).toNat)
        case atStart => exact ⟨0, Nat.zero_le _, rfl, hS0⟩
        case round =>
          rename World => wi
          obtain ⟨j, hj, rfl, hS⟩ := hrel
          by_cases hjlt : j < out.length
          · obtain ⟨rb, ro, u, rfl, c0, hOn⟩ := on_rowI (on_old (fun _ _ k h => Rd.kp h k) hO2.rd hS.gr.kp) hjlt
            have hI := hOn.now
            obtain ⟨ua, uc, rfl, ul, ul'⟩ := hI.len
            have hjI : (j : Int) < (out.length : Int) := by omega
            have bA' := bA.gr hS.gr
            have A0 := bA'.cell (i := 0) rfl
            have A1 := bA'.cell (i := 1) rfl
            have A2 := bA'.cell (i := 2) rfl
            have hAns := Clusters1_answers (xs := ix out j) HOK.out hlt A0 A1 A2 (hp2.gr hS.gr) (hq2.gr hS.gr) (cell_gr D1' hS.gr) (hT2.gr hS.gr) (fun x hx => HIN.out j x hjlt hx)
            have hml := mineTo_len N k out j
            have hrl := restTo_len N k out j
            have hfl := flat_len_le hjlt
            have htou : (ix out j).any (fun j => sharesB (N.tr k) (N.tr j.toNat)) = touchB N k (ix out j) := rfl
            cases ht : touchB N k (ix out j)
            · have e1 := mineTo_no hjlt ht
              have e2 := restTo_no hjlt ht
              rw [ht] at htou
              have HE1 := Lib.hid e1
              have HE2 := Lib.hid e2
              clear e1 e2 ht
              go_wp2_with fail
              refine (ContainsFuncI_calls _ (ix out j) _ _ _ _ eg hI hAns).mono ?_
              rw [htou]
              rintro _ w5 ⟨rfl, g5⟩
              have hS5 := hS.later g5
              have hI5 := hOn.gr g5
              go_wp2_with (at_builtin; go_loud (refine app_one rowTy _ _ w0.heap.size _ _ (restTo N k out j) ⟨w5.heap.size, 0, none⟩ (ix out j) [.slice ua (ix out j).length uc] (by rfl) (by rfl) (by rfl) (by rfl) (hS5.later ((Gr.refl _).alloc _)).r (one_cell _ _ _) (((hI5.gr ((Gr.refl _).alloc _)).imp fun w h => ⟨_, rfl, h⟩).mono fun b _ hb => ⟨hb, fun e => by have := (hS5.r.lt e).1; omega⟩) (by omega) (by unfold maxLen; omega) (hS5.later ((Gr.refl _).alloc _)).lt ?_; intro v' w6 ho hgs hgb hat))
              have hS6 := (hS5.later ((Gr.refl _).alloc _)).put ho hgb hat
              rw [← HE1.out, ← HE2.out] at hS6
              go_roundw
              case rel => exact ⟨j + 1, by omega, by go_num, hS6⟩
              case measure => simp [intOf]; omega
            · have e1 := mineTo_yes hjlt ht
              have e2 := restTo_yes hjlt ht
              rw [ht] at htou
              have HE1 := Lib.hid e1
              have HE2 := Lib.hid e2
              clear e1 e2 ht
              go_wp2_with fail
              refine (ContainsFuncI_calls _ (ix out j) _ _ _ _ eg hI hAns).mono ?_
              rw [htou]
              rintro _ w5 ⟨rfl, g5⟩
              have hS5 := hS.later g5
              have hI5 := (hOn.gr g5).now
              go_wp2_with (at_builtin; go_loud (refine app_ints T _ _ w0.heap.size _ _ (mineTo N k out j) (ix out j) (by rfl) (by rfl) (by rfl) (by rfl) hS5.m hI5 (by omega) hS5.lt ?_; intro v' w6 ho hgs hgb hat))
              have hS6 := hS5.add ho hgb hat
              rw [← HE1.out, ← HE2.out] at hS6
              go_roundw
              case rel => exact ⟨j + 1, by omega, by go_num, hS6⟩
              case measure => simp [intOf]; omega
          · obtain rfl : j = out.length := by omega
            have hml := mineTo_len N k out out.length
            have hrl := restTo_len N k out out.length
            have hpos := mineTo_pos N k out out.length
            obtain ⟨mine, hmine⟩ : ∃ l, l = mineTo N k out out.length := ⟨_, rfl⟩
            obtain ⟨rest, hrest⟩ : ∃ l, l = restTo N k out out.length := ⟨_, rfl⟩
            rw [← hmine] at hS hml hpos
            rw [← hrest] at hS hrl
            have HM := Lib.hid hmine
            have HR := Lib.hid hrest
            clear hmine hrest
            rcases hS.m.form with ⟨-, h⟩ | ⟨mg, mcap, rfl, hm1, hm2, hm3, hm4⟩
            · rw [h] at hpos; simp at hpos
            go_wp2_with fail
            refine (Sort_calls mg mcap _ mine _ hS.m (by omega)).mono ?_
            rintro _ w6 ⟨rfl, ho6, hg6⟩
            have hS6 := hS.add ho6 hg6 (.inl rfl)
            have hl6 : (sortI mine).length = mine.length := (sortI_perm mine).length_eq
            have hOm := (Ints.on_own hS6.m).gr ((Gr.refl _).alloc (.cells #[.slice (some ⟨mg, 0, none⟩) mine.length mcap] 32))
            have hS7 := hS6.later ((Gr.refl _).alloc (.cells #[.slice (some ⟨mg, 0, none⟩) mine.length mcap] 32))
            go_wp2_with (at_builtin; go_loud (refine app_one rowTy _ _ w0.heap.size (fun _ => True) _ rest ⟨w6.heap.size, 0, none⟩ (sortI mine) [.slice (some ⟨mg, 0, none⟩) mine.length mcap] (by rfl) (by rfl) (by rfl) (by rfl) (hS7.r.sets fun _ _ _ => trivial) (one_cell _ _ _) ((hOm.imp fun w h => ⟨_, rfl, h⟩).mono fun b _ hb => ⟨trivial, fun e => hS7.ap b hb e⟩) (by omega) (by unfold maxLen; omega) hS7.lt ?_; intro v' w8 ho hgs hgb hat))
            have hg8 : Gr w1 w8 := G4.trans (hgs w0 (Nat.le_refl _) hS7.gr)
            have ho8 := ho.low hB1
            rw [HM.out, HR.out, ← HNEXT.out] at ho8
            go_roundw
            case rel => exact ⟨k + 1, by omega, by go_num, ho8, (fun h => by omega), hg8⟩
            case measure => simp [intOf]; omega
      · obtain rfl : k = N.trans.length := by omega
        have hlen := clus_len N N.trans.length
        by_cases hz : N.trans.length = 0
        · have HA : Hid (ClusAns N []) := Lib.hid (.inr ⟨HOK.out, by rw [hz]; exact List.Perm.refl _, fun i j h1 h2 => by simp at h2⟩)
          obtain rfl := hk0 hz
          clear hz hO hk0
          go_wp2_with fail
          refine (SortFuncRow_nil _ _).mono ?_
          rintro _ _ ⟨rfl, rfl⟩
          go_wp2_with fail
          go_ret
          exact ⟨_, [], rfl, HA.out, Rd.nil _, G1.trans hgr⟩
        · have hpos : 0 < (clusN N N.trans.length).length := by
            obtain ⟨k, hk⟩ : ∃ k, N.trans.length = k + 1 := ⟨N.trans.length - 1, by omega⟩
            rw [hk, clus_next, List.length_append]; simp
          rcases hO.form with ⟨-, h⟩ | ⟨g, ocap, rfl, ho1, ho2, ho3, ho4⟩
          · rw [h] at hpos; simp at hpos
          clear hk0 hz
          go_wp2_with fail
          refine (SortFuncRow_calls g ocap _ _ _ _ hO hpos (by omega)).mono ?_
          rintro _ w6 ⟨rfl, out', hperm, hasc, hO6, hg6⟩
          have HA : Hid (ClusAns N out') := Lib.hid (.inr ⟨HOK.out, hperm, hasc⟩)
          have hrd := hO6.rd
          have hll := hperm.length_eq
          have hg := hgr.grown hg6 (fun k hk => by cases hk; exact ho1)
          clear hperm hasc
          go_wp2_with fail
          go_ret
          exact ⟨_, out', rfl, HA.out, hrd, G1.trans hg⟩
end Go.Proofs.Ytajmccjnoejmfaa
