/- The law TracksOnto's walk: it answers true. -/
import Derived.Test.YtkekamffmmokmaaAlive22
import Derived.Test.YtkekamffmmokmaaOpenM
import Derived.Test.YtkekamffmmokmaaDelI
namespace Go.Tok
theorem onto_len (log : List (List Int)) (l : List Int) : (ontoT log l).length = log.length := by unfold ontoT; simp
theorem onto_rows {log : List (List Int)} {l : List Int} {n : Nat} (h : ∀ t ∈ log, t.length ≤ n) : ∀ t ∈ ontoT log l, t.length ≤ n := by
  intro t ht
  unfold ontoT at ht
  obtain ⟨s, hs, rfl⟩ := List.mem_map.1 ht
  exact Nat.le_trans (List.length_filter_le _ _) (h s hs)
end Go.Tok
namespace Go.Proofs.Ytkekamffmmokmaa
open Go.RowKit Go.Tok
set_option linter.unusedVariables false
theorem ontoC_calls (p : Nat) (z : Value) (l : List Int) (x : Int) (w : World) (hc : w.cell? ⟨p, 0, none⟩ = some z) (hz : Ints w z l) :
    Calls Try.prog 43 #[.int .i64 x, .pointer (some ⟨p, 0, none⟩)] w fun e w' => e = .returned (.bool (!hasB l x)) ∧ ∃ q, w' = w.drewN q := by
  obtain ⟨a, cap, rfl, _, _⟩ := hz.len
  cases hb : hasB l x
  · go_enter Try.func43, Try.ntmps43
    go_wp2_with fail
    refine (Contains_calls _ l x _ hz).mono ?_
    rw [hb]; rintro _ _ ⟨rfl, rfl⟩
    go_wp2_with fail
    go_ret
    exact ⟨rfl, 0, rfl⟩
  · go_enter Try.func43, Try.ntmps43
    go_wp2_with fail
    refine (Contains_calls _ l x _ hz).mono ?_
    rw [hb]; rintro _ _ ⟨rfl, rfl⟩
    go_wp2_with fail
    go_ret
    exact ⟨rfl, 0, rfl⟩
set_option maxHeartbeats 4000000 in
set_option maxRecDepth 100000 in
theorem TracksOnto_walk {v u z : Value} {log : List (List Int)} {la lb : List Int} (w : World) (hv0 : LogR w v log) (hu0 : Ints w u la ∧ la.length ≤ 17592186043904) (hz0 : Ints w z lb ∧ lb.length ≤ 17592186043904) :
    Calls Try.prog 11 #[v, u, z] w fun e w' => e = .returned (.bool true) ∧ Gr w w' := by
  obtain ⟨hv, hle, hrows⟩ := hv0
  obtain ⟨hu, hul⟩ := hu0
  obtain ⟨hz, hzl⟩ := hz0
  obtain ⟨a, cap, rfl, hlc, hcap⟩ := hv.len
  obtain ⟨ua, uc, rfl, hu1, hu2⟩ := hu.len
  obtain ⟨za, zc, rfl, hz1, hz2⟩ := hz.len
  have HR := Lib.hid (show ∀ t ∈ log, t.length ≤ 17592186044415 from fun t ht => Nat.le_trans (hrows t ht) (by omega))
  clear hrows
  have b0 : Blk (w.alloc (.cells #[.slice za lb.length zc] 25)) w.heap.size 25 #[.slice za lb.length zc] := Blk.new rfl
  have G0 : Gr w (w.alloc (.cells #[.slice za lb.length zc] 25)) := (Gr.refl _).alloc _
  go_enter Try.func11, Try.ntmps11
  go_wp2_with fail
  refine (alive22_calls _).mono ?_
  rintro _ w1 ⟨rfl, g1⟩
  have b1 := b0.gr g1
  have GW := G0.trans g1
  have C1 := b1.cell (i := 0) (v := .slice za lb.length zc) rfl
  clear b0 b1 g1 G0
  have EG1 : ∀ args w, (callFunc 43 args).run Try.prog w = .ok (.enter 43 args) w := (Go.Proofs.enters_of Try.func43 (by kernel_rfl) rfl)
  have hp : GivesI 43 #[.pointer (some ⟨w.heap.size, 0, none⟩)] (fun x => !hasB lb x) w1 := fun W x g => ontoC_calls _ _ lb x W (cell_gr C1 g) (hz.gr (GW.trans g))
  go_wp2_with fail
  refine (Clone_calls _ la _ (hu.gr GW) (by omega)).mono ?_
  rintro _ w2 ⟨v2, rfl, o2, g2⟩
  have G2 := GW.trans g2
  go_wp2_with fail
  refine (DeleteFuncI_calls _ la 43 _ (fun x => !hasB lb x) w1 w2 _ EG1 o2 (Nat.le_refl _) g2 hp (by omega)).mono ?_
  rintro _ w3 ⟨v3, rfl, o3, g3⟩
  have i3 := o3.ints
  have e3 : la.filter (fun x => !(!hasB lb x)) = la.filter fun x => hasB lb x := by simp
  rw [e3] at i3
  obtain ⟨ba, bc, rfl, _, _⟩ := i3.len
  have G3 := GW.trans g3
  have C3 := cell_gr C1 g3
  clear o2 o3 g2 G2 hp EG1 C1 g3 e3
  obtain ⟨both, hboth⟩ : ∃ l, l = la.filter fun x => hasB lb x := ⟨_, rfl⟩
  rw [← hboth] at i3 ⊢
  have HB := Lib.hid hboth
  clear hboth
  have HA : ∀ W, Gr w3 W → Calls Try.prog 44 #[.slice a log.length cap, .slice ua la.length uc] W fun e w' => ∃ v', e = .returned v' ∧ OwnR rowK 25 W.heap.size (Fresh W.heap.size) w' v' (ontoT log la) ∧ Gr W w' := fun W g => Onto_calls _ _ log la W (hv.gr (G3.trans g)) (hu.gr (G3.trans g)) hle HR.out
  have HBz : ∀ W, Gr w3 W → Calls Try.prog 44 #[.slice a log.length cap, .slice za lb.length zc] W fun e w' => ∃ v', e = .returned v' ∧ OwnR rowK 25 W.heap.size (Fresh W.heap.size) w' v' (ontoT log lb) ∧ Gr W w' := fun W g => Onto_calls _ _ log lb W (hv.gr (G3.trans g)) (hz.gr (G3.trans g)) hle HR.out
  have HBo : ∀ W, Gr w3 W → Calls Try.prog 44 #[.slice a log.length cap, .slice ba both.length bc] W fun e w' => ∃ v', e = .returned v' ∧ OwnR rowK 25 W.heap.size (Fresh W.heap.size) w' v' (ontoT log both) ∧ Gr W w' := fun W g => Onto_calls _ _ log both W (hv.gr (G3.trans g)) (i3.gr g) hle HR.out
  have KA := Lib.hid HA
  have KB := Lib.hid HBz
  have KO := Lib.hid HBo
  have HG3 := Lib.hid G3
  have HLA := Lib.hid (show (ontoT log la).length ≤ 5864062014805 by rw [onto_len]; exact hle)
  have HLB := Lib.hid (show (ontoT log lb).length ≤ 5864062014805 by rw [onto_len]; exact hle)
  have HU := Lib.hid (hu.gr G3)
  have HZ := Lib.hid (hz.gr G3)
  clear HA HBz HBo G3 hv hu hz hle hcap GW i3
  go_wp2_with fail
  go_region_held3 (fun w' => w'.cell? ⟨w.heap.size, 0, none⟩ = some (.slice za lb.length zc)) (first | go_keep | ((refine cell_gr C3 ?_); ((focus ((repeat (first | exact Gr.refl _ | assumption | apply Gr.alloc | apply Gr.drew | apply Gr.drewN | refine Gr.trans ?_ (by assumption))); done))))) (first | (go_at_call 44; (with_reducible refine (KA.out _ ?_).mono ?_); ((focus ((repeat (first | exact Gr.refl _ | assumption | apply Gr.alloc | apply Gr.drew | apply Gr.drewN | refine Gr.trans ?_ (by assumption))); done))); rintro _ w4 ⟨v4, rfl, o4, g4⟩) | (go_at_call 44; (refine (Onto_calls _ _ (ontoT log la) lb _ (o4.rd.gr ?_) (HZ.out.gr ?_) ?_ (onto_rows HR.out)).mono ?_); ((focus ((repeat (first | exact Gr.refl _ | assumption | apply Gr.alloc | apply Gr.drew | apply Gr.drewN | refine Gr.trans ?_ (by assumption))); done))); ((focus ((repeat (first | exact Gr.refl _ | assumption | apply Gr.alloc | apply Gr.drew | apply Gr.drewN | refine Gr.trans ?_ (by assumption))); done))); ((focus (exact HLA.out))); rintro _ w5 ⟨v5, rfl, o5, g5⟩))
  have G4 : Gr w3 w4 := by (repeat (first | exact Gr.refl _ | assumption | apply Gr.alloc | apply Gr.drew | apply Gr.drewN | refine Gr.trans ?_ (by assumption)))
  have G5 : Gr w3 w5 := by (repeat (first | exact Gr.refl _ | assumption | apply Gr.alloc | apply Gr.drew | apply Gr.drewN | refine Gr.trans ?_ (by assumption)))
  have C5 := cell_gr C3 G5
  have i5 := o5.rd
  clear o4 o5 g4 g5 C3 G4
  obtain ⟨xa, xc, rfl, _, _⟩ := i5.len
  have e5 : (ontoT (ontoT log la) lb).length = log.length := by rw [onto_len, onto_len]
  rw [e5] at i5 ⊢
  clear e5
  have EQ1 := Lib.hid (show ontoT log both = ontoT (ontoT log la) lb by rw [onto_twice, HB.out])
  have EQ2 := Lib.hid (onto_swap log la lb)
  go_wp2_with fail
  refine (KO.out _ G5).mono ?_
  rintro _ w6 ⟨v6, rfl, o6, g6⟩
  rw [EQ1.out] at o6
  go_wp2_with fail
  refine (SameLists_self _ _ _ _ (i5.gr g6) o6.rd).mono ?_
  rintro _ w7 ⟨rfl, g7⟩
  have g67 := g6.trans g7
  have C7 := cell_gr C5 g67
  have G7 := G5.trans g67
  have i7 := i5.gr g67
  have q1 : ((log.length : Int) == (log.length : Int)) = true := by simp
  clear o6 g6 g7 C5 i5 g67 G5
  go_wp2_with fail
  refine (KB.out _ G7).mono ?_
  rintro _ w8 ⟨v8, rfl, o8, g8⟩
  go_wp2_with fail
  refine (Onto_calls _ _ (ontoT log lb) la _ o8.rd (HU.out.gr (G7.trans g8)) HLB.out (onto_rows HR.out)).mono ?_
  rintro _ w9 ⟨v9, rfl, o9, g9⟩
  rw [← EQ2.out] at o9
  go_wp2_with fail
  refine (SameLists_self _ _ _ _ (i7.gr (g8.trans g9)) o9.rd).mono ?_
  rintro _ w10 ⟨rfl, g10⟩
  go_wp2_with fail
  go_ret
  exact ⟨rfl, (HG3.out.trans G7).trans ((g8.trans g9).trans g10)⟩
end Go.Proofs.Ytkekamffmmokmaa
