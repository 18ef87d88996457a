/- Contract of text.Parse. -/
import Derived.Test.YtiflolklgmmgeaaDoorText5
namespace Go.Tok
open Go.RowKit
set_option linter.unusedVariables false
theorem app_tran {P : Program} {t e : TypeId} (T : TranTy P t e) {w : World} {ops : Array Oper} {rest : List Oper} {o : Oper} {a : Act} {Q : Exit → Act → World → Prop} (s x : Operand)
    (base : Nat) (v : Value) (ts : List TranD) (tr : TranD) (p q : Value) (ad : Addr) (hgd : o.guard = none) (ho : o.op = .call { callee := .builtin .append, args := #[s, x], argTypes := #[t, t] }) (hs : a.eval s = v) (hx : a.eval x = .slice (some ad) 1 1)
    (hown : OwnT e base w v ts) (hl : I64 tr.label) (hp : Held base v.ownBlock w p tr.pre) (hq : Held base v.ownBlock w q tr.post) (hnews : ∀ j u, [Value.int .i64 tr.label, p, q][j]? = some u → w.cell? (ad.add j) = some u) (h1 : p.oneCell' = true) (h2 : q.oneCell' = true)
    (hb : (ts.length + 1) * 56 ≤ 140737488355328) (hbase : base ≤ w.heap.size)
    (hK : ∀ g cap w', OwnT e base w' (.slice (some ⟨g, 0, none⟩) (ts.length + 1) cap) (ts ++ [tr]) → w.grownBy w' v.ownBlock → (v.ownBlock = some g ∨ w.heap.size = g) → g < w'.heap.size → wpList P ops Q rest (a.put o.dst (.slice (some ⟨g, 0, none⟩) (ts.length + 1) cap)) w') : wpList P ops Q (o :: rest) a w := by
  obtain ⟨i, hi, hz, hsz, hby⟩ := info_parts T.info
  unfold OwnT at hown
  obtain ⟨rows, rfl, hr, hall⟩ := hown
  rw [List.length_map] at hb hK
  have hone : ∀ u ∈ [Value.int .i64 tr.label, p, q], u.oneCell' = true := by
    intro u hu
    rcases List.mem_cons.1 hu with rfl | hu
    · rfl
    · rcases List.mem_cons.1 hu with rfl | hu
      · exact h1
      · rw [List.mem_singleton.1 hu]; exact h2
  refine wpList_append_lies w hgd s x t ho base e i _ 3 56 T.und hi hz hsz hby rfl (by omega) v rows.length (cells3 rows) hs hr ad 1 1 [.int .i64 tr.label, p, q] hx rfl hnews hone (by omega) (by unfold maxLen; omega) hb hbase w.heap.size rfl ?_
  intro g cap w' hown' hgr hat hlt
  refine hK g cap w' ?_ hgr (hat.imp id Eq.symm) hlt
  unfold OwnT
  refine ⟨rows ++ [(tr, p, q)], by simp, ?_, ?_⟩
  · rw [cells3_snoc, List.length_append]
    exact hown'
  · have hat' : v.ownBlock = some g ∨ w.heap.size ≤ g := hat.imp id (fun h => by omega)
    intro r hr'
    rcases List.mem_append.1 hr' with h5 | h5
    · obtain ⟨a1, a2, a3⟩ := hall r h5
      exact ⟨a1, a2.grown hgr rfl hat', a3.grown hgr rfl hat'⟩
    · rw [List.mem_singleton.1 h5]
      exact ⟨hl, hp.grown hgr rfl hat', hq.grown hgr rfl hat'⟩
end Go.Tok
namespace Go.Proofs.YtiflolklgmmgeaaDoor
open Go.RowKit Go.Tok
set_option linter.unusedVariables false
theorem tranTyX : TranTy Tryd.prog 23 41 := ⟨Tryd.underlying23, by kernel_rfl⟩
theorem Suffix_calls (l : List UInt8) (hl : l.length ≤ 100000000) (w : World) : Calls Tryd.prog 15 #[.string (strB l), .string (strB [10])] w fun e w' => e = .returned (.tuple #[.string (strB (Lib.trimSuffix l [10])), .bool (Lib.hasSuffix l [10])]) ∧ w' = w :=
  Tryd.strings_CutSuffix (strB l) (strB [10]) w (by rw [strB_size]; omega)
theorem Prefix_calls (l : List UInt8) (w : World) : Calls Tryd.prog 17 #[.string (strB l), .string (strB [110, 101, 116, 32])] w fun e w' => e = .returned (.string (strB (Lib.trimPrefix l [110, 101, 116, 32]))) ∧ w' = w :=
  Tryd.strings_TrimPrefix (strB l) (strB [110, 101, 116, 32]) w
theorem StrsAt.grown {w w' : World} {A : Nat} {fs : List (List UInt8)} {row : Option Nat} (h : StrsAt w A fs) (g : w.grownBy w' row) (hne : some A ≠ row) : StrsAt w' A fs := by
  unfold StrsAt at *
  exact fun i hi => (World.cell?_of_block (g.block A (cell_block (h i hi)) hne)).trans (h i hi)
theorem trimSuffix_len (l : List UInt8) : (Lib.trimSuffix l [10]).length ≤ l.length := by
  unfold Lib.trimSuffix
  split
  · simp
  · exact Nat.le_refl _
theorem trimPrefix_len (l p : List UInt8) : (Lib.trimPrefix l p).length ≤ l.length := by
  unfold Lib.trimPrefix
  split
  · simp
  · exact Nat.le_refl _
/-- what text.Parse hands back -/
structure RetPs (w : World) (r : NetD × Nat × Int) (e : Ending) (w' : World) : Prop where
  out : Gr w w' ∧ ∃ v, e = .returned (.tuple #[v, .int .i64 r.2.1, .int .i64 r.2.2]) ∧ NetR w' v r.1
theorem RetPs.of {w w' : World} {r r' : NetD × Nat × Int} {v : Value} (g : Gr w w') (h : r = r') (hn : NetR w' v r'.1) : RetPs w r (.returned (.tuple #[v, .int .i64 r'.2.1, .int .i64 r'.2.2])) w' := by
  subst h; exact ⟨g, v, rfl, hn⟩
set_option maxHeartbeats 4000000 in
set_option maxRecDepth 100000 in
theorem Parse_calls (s : List UInt8) (w : World) (hs : s.length ≤ 10000000) (hT : TabW w) : Calls Tryd.prog 7 #[.string (strB s)] w (RetPs w (parseF s)) := by
  have T := tranTyX
  have bR : Blk (w.alloc (.cells #[.int .i64 0, .slice none 0 0] 25)) w.heap.size 25 #[.int .i64 0, .slice none 0 0] := Blk.new rfl
  have GA : Gr w (w.alloc (.cells #[.int .i64 0, .slice none 0 0] 25)) := (Gr.refl _).alloc _
  have HSP := Lib.hid (split_calls s (w.alloc (.cells #[.int .i64 0, .slice none 0 0] 25)) (by omega) (hT.gr GA))
  have HPF : Hid (parseF s = parseL 0 ⟨0, []⟩ (splitL s)) := Lib.hid rfl
  have HLL : Hid (∀ l ∈ splitL s, l.length ≤ 10000000) := Lib.hid fun l hl => by have := splitL_mem hl; omega
  have hln : (splitL s).length ≤ 9223372036854775807 := by have h1 := splitL_len s; have h2 : s.count 10 ≤ s.length := List.count_le_length; omega
  have hpos : 0 < (splitL s).length := by rw [splitL_len]; omega
  generalize splitL s = ls at HSP HPF HLL hln hpos
  have e1 : (⟨#[10]⟩ : ByteArray) = strB [10] := rfl
  have e2 : (⟨#[110, 101, 116, 32]⟩ : ByteArray) = strB [110, 101, 116, 32] := rfl
  have e3 : (⟨#[]⟩ : ByteArray) = strB [] := rfl
  have HTW := Lib.hid hT
  clear hs hT
  go_enter Tryd.func7, Tryd.ntmps7
  go_wp2_with fail
  refine HSP.out.mono ?_
  rintro _ w1 ⟨A, rfl, hA, hS, g1⟩
  have HG1 := Lib.hid (GA.trans g1)
  have HB1 := Lib.hid (bR.gr g1)
  have hA1 : A < w1.heap.size := by unfold StrsAt at hS; exact cell_block (a := ⟨A, 0, none⟩) (hS 0 hpos)
  have hA0 : w.heap.size < A := by simp at hA; omega
  clear bR GA g1 HSP hA hpos
  have b1 : Blk (w1.alloc (.cells #[.int .i64 0, .slice none 0 0] 25)) w1.heap.size 25 #[.int .i64 0, .slice none 0 0] := Blk.new rfl
  have GA1 : Gr w1 (w1.alloc (.cells #[.int .i64 0, .slice none 0 0] 25)) := (Gr.refl _).alloc _
  go_wp2_with fail
  go_loopw [20] (fun i wr => ∃ (k P : Nat) (ts : List TranD) (out : Value), k ≤ ls.length ∧ i = .int .i64 k ∧ P ≤ 16 ∧ ts.length ≤ k ∧ Blk wr w.heap.size 25 #[.int .i64 0, .slice none 0 0] ∧ Blk wr w1.heap.size 25 #[.int .i64 P, out] ∧ OwnT 41 (w1.heap.size + 1) wr out ts ∧ parseF s = parseL k ⟨P, ts⟩ (ls.drop k) ∧ StrsAt wr A ls ∧ Gr w wr ∧ w1.heap.size + 1 ≤ wr.heap.size) (fun i _ => ls.length - (intOf i).toNat)
  case atStart => exact ⟨0, 0, [], _, Nat.zero_le _, rfl, by omega, Nat.le_refl _, HB1.out.gr GA1, b1, OwnT.nil _ _ _, by rw [List.drop_zero]; exact HPF.out, hS.gr GA1, HG1.out.trans GA1, by simp⟩
  case round =>
    rename_i wr _
    obtain ⟨k, P, ts, out, hk, rfl, hP, htl, hb0, hb1, hot, hpe, hst, hgr, hsz⟩ := hrel
    clear b1 GA1 hS
    by_cases hlt : k < ls.length
    · have c0 : wr.cell? ⟨A, k, none⟩ = some (.string (strB (ls.getD k []))) := by unfold StrsAt at hst; exact hst k hlt
      have hge : ls.getD k [] = ls[k] := by simp [hlt]
      have hll := HLL.out _ (show ls.getD k [] ∈ ls by rw [hge]; exact List.getElem_mem hlt)
      rw [List.drop_eq_getElem_cons hlt, ← hge] at hpe
      generalize ls.getD k [] = l at c0 hll hpe
      clear hge
      have htn := trimSuffix_len l
      have HCS := Lib.hid (Suffix_calls l (by omega) wr)
      have HPE := Lib.hid hpe
      clear hpe
      cases hh : Lib.hasSuffix l [10]
      · rw [hh] at HCS
        by_cases h0 : 0 < k ∧ Lib.trimSuffix l [10] = []
        · have hbe := strB_beq_yes h0.2
          have hk0 := h0.1
          have HE := Lib.hid (HPE.out.trans (parse1 h0.1 h0.2 hh))
          clear h0 hh HPE
          generalize Lib.trimSuffix l [10] = tl at HCS hbe
          obtain ⟨oa, oc, rfl⟩ := hot.form
          go_wp2_with fail
          refine HCS.out.mono ?_
          rintro _ w3 ⟨rfl, rfl⟩
          have F0 := hb0.frozen 0
          have F1 := hb0.frozen 1
          have Z0 := hb0.cell (i := 0) (v := .int .i64 0) rfl
          have Z1 := hb0.cell (i := 1) (v := .slice none 0 0) rfl
          have Y0 := hb1.cell (i := 0) (v := .int .i64 P) rfl
          have Y1 := hb1.cell (i := 1) (v := .slice oa ts.length oc) rfl
          have q1 := hb0.set 0 (.int .i64 P)
          have E1 := q1.cell (i := 1) (v := .slice none 0 0) rfl
          have q2 := q1.set 1 (.slice oa ts.length oc)
          have D0 := q2.cell (i := 0) (v := .int .i64 P) rfl
          have D1 := q2.cell (i := 1) (v := .slice oa ts.length oc) rfl
          clear q1 q2
          go_wp2_with fail
          refine bodyPost_ret (v := .tuple #[.agg #[.int .i64 P, .slice oa ts.length oc], .int .i64 0, .int .i64 0]) (by simp [results, Tryd.results7, go_sem, D0, D1]) rfl ?_
          exact RetPs.of (r' := (⟨P, ts⟩, 0, 0)) ((hgr.setCell (Nat.le_refl _) _).setCell (Nat.le_refl _) _) HE.out (NetR.mk_ (N := ⟨P, ts⟩) (((hot.other (by show w.heap.size < _; omega) _).other (by show w.heap.size < _; omega) _).trans) (by simp [I64]; omega))
        · have HE := Lib.hid (HPE.out.trans (parse2 h0 hh))
          by_cases hk0 : k = 0
          · subst hk0
            clear h0 hh HPE
            generalize Lib.trimSuffix l [10] = tl at HCS
            go_wp2_with fail
            refine HCS.out.mono ?_
            rintro _ w3 ⟨rfl, rfl⟩
            go_wp2_with fail
            refine (no_calls _ _).mono ?_
            rintro _ wn ⟨rfl, gn⟩
            have N0 := (hb0).gr gn
            have F0 := N0.frozen 0
            have F1 := N0.frozen 1
            have Z0 := N0.cell (i := 0) (v := .int .i64 0) rfl
            have Z1 := N0.cell (i := 1) (v := .slice none 0 0) rfl
            have q1 := N0.set 0 (.int .i64 0)
            have E1 := q1.cell (i := 1) (v := .slice none 0 0) rfl
            have q2 := q1.set 1 (.slice none 0 0)
            have D0 := q2.cell (i := 0) (v := .int .i64 0) rfl
            have D1 := q2.cell (i := 1) (v := .slice none 0 0) rfl
            clear N0 q1 q2
            go_wp2_with fail
            refine bodyPost_ret (v := .tuple #[.agg #[.int .i64 0, .slice none 0 0], .int .i64 0, .int .i64 1]) (by simp [results, Tryd.results7, go_sem, D0, D1]) rfl ?_
            exact RetPs.of (r' := (⟨0, []⟩, 0, 1)) ((((hgr).trans gn).setCell (Nat.le_refl _) _).setCell (Nat.le_refl _) _) HE.out (NetR.mk_ (N := ⟨0, []⟩) (TransR.nil _) (by decide))
          · have hbe := strB_beq_no (fun e => h0 ⟨by omega, e⟩)
            have hk1 : 0 < k := by omega
            clear h0 hh HPE
            generalize Lib.trimSuffix l [10] = tl at HCS hbe
            go_wp2_with fail
            refine HCS.out.mono ?_
            rintro _ w3 ⟨rfl, rfl⟩
            go_wp2_with fail
            refine (no_calls _ _).mono ?_
            rintro _ wn ⟨rfl, gn⟩
            have N0 := (hb0).gr gn
            have F0 := N0.frozen 0
            have F1 := N0.frozen 1
            have Z0 := N0.cell (i := 0) (v := .int .i64 0) rfl
            have Z1 := N0.cell (i := 1) (v := .slice none 0 0) rfl
            have q1 := N0.set 0 (.int .i64 0)
            have E1 := q1.cell (i := 1) (v := .slice none 0 0) rfl
            have q2 := q1.set 1 (.slice none 0 0)
            have D0 := q2.cell (i := 0) (v := .int .i64 0) rfl
            have D1 := q2.cell (i := 1) (v := .slice none 0 0) rfl
            clear N0 q1 q2
            go_wp2_with fail
            refine bodyPost_ret (v := .tuple #[.agg #[.int .i64 0, .slice none 0 0], .int .i64 k, .int .i64 1]) (by simp [results, Tryd.results7, go_sem, D0, D1]) rfl ?_
            exact RetPs.of (r' := (⟨0, []⟩, k, 1)) ((((hgr).trans gn).setCell (Nat.le_refl _) _).setCell (Nat.le_refl _) _) HE.out (NetR.mk_ (N := ⟨0, []⟩) (TransR.nil _) (by decide))
      · rw [hh] at HCS
        by_cases h24 : 24 < k
        · have HE := Lib.hid (HPE.out.trans (parse3 h24 hh))
          have hk1 : 0 < k := by omega
          have hk2 : (24 : Int) < k := by omega
          clear HPE hh h24
          by_cases ht : Lib.trimSuffix l [10] = []
          · have hbe := strB_beq_yes ht
            clear ht
            generalize Lib.trimSuffix l [10] = tl at HCS hbe
            go_wp2_with fail
            refine HCS.out.mono ?_
            rintro _ w3 ⟨rfl, rfl⟩
            go_wp2_with fail
            refine (no_calls _ _).mono ?_
            rintro _ wn ⟨rfl, gn⟩
            have N0 := (hb0).gr gn
            have F0 := N0.frozen 0
            have F1 := N0.frozen 1
            have Z0 := N0.cell (i := 0) (v := .int .i64 0) rfl
            have Z1 := N0.cell (i := 1) (v := .slice none 0 0) rfl
            have q1 := N0.set 0 (.int .i64 0)
            have E1 := q1.cell (i := 1) (v := .slice none 0 0) rfl
            have q2 := q1.set 1 (.slice none 0 0)
            have D0 := q2.cell (i := 0) (v := .int .i64 0) rfl
            have D1 := q2.cell (i := 1) (v := .slice none 0 0) rfl
            clear N0 q1 q2
            go_wp2_with fail
            refine bodyPost_ret (v := .tuple #[.agg #[.int .i64 0, .slice none 0 0], .int .i64 k, .int .i64 1]) (by simp [results, Tryd.results7, go_sem, D0, D1]) rfl ?_
            exact RetPs.of (r' := (⟨0, []⟩, k, 1)) ((((hgr).trans gn).setCell (Nat.le_refl _) _).setCell (Nat.le_refl _) _) HE.out (NetR.mk_ (N := ⟨0, []⟩) (TransR.nil _) (by decide))
          · have hbe := strB_beq_no ht
            clear ht
            generalize Lib.trimSuffix l [10] = tl at HCS hbe
            go_wp2_with fail
            refine HCS.out.mono ?_
            rintro _ w3 ⟨rfl, rfl⟩
            go_wp2_with fail
            refine (no_calls _ _).mono ?_
            rintro _ wn ⟨rfl, gn⟩
            have N0 := (hb0).gr gn
            have F0 := N0.frozen 0
            have F1 := N0.frozen 1
            have Z0 := N0.cell (i := 0) (v := .int .i64 0) rfl
            have Z1 := N0.cell (i := 1) (v := .slice none 0 0) rfl
            have q1 := N0.set 0 (.int .i64 0)
            have E1 := q1.cell (i := 1) (v := .slice none 0 0) rfl
            have q2 := q1.set 1 (.slice none 0 0)
            have D0 := q2.cell (i := 0) (v := .int .i64 0) rfl
            have D1 := q2.cell (i := 1) (v := .slice none 0 0) rfl
            clear N0 q1 q2
            go_wp2_with fail
            refine bodyPost_ret (v := .tuple #[.agg #[.int .i64 0, .slice none 0 0], .int .i64 k, .int .i64 1]) (by simp [results, Tryd.results7, go_sem, D0, D1]) rfl ?_
            exact RetPs.of (r' := (⟨0, []⟩, k, 1)) ((((hgr).trans gn).setCell (Nat.le_refl _) _).setCell (Nat.le_refl _) _) HE.out (NetR.mk_ (N := ⟨0, []⟩) (TransR.nil _) (by decide))
        · by_cases hk0 : k = 0
          · subst hk0
            have htp := trimPrefix_len (Lib.trimSuffix l [10]) [110, 101, 116, 32]
            have HTP := Lib.hid (Prefix_calls (Lib.trimSuffix l [10]) wr)
            have HH1 : Hid (headF (Lib.trimSuffix l [10]) = none → parseF s = (⟨0, []⟩, 0, 1)) := Lib.hid fun h => HPE.out.trans (parse4 hh h)
            have HH2 : Hid (∀ p, headF (Lib.trimSuffix l [10]) = some p → parseF s = parseL 1 ⟨(p : Int), ts⟩ (ls.drop (0 + 1))) := Lib.hid fun p h => HPE.out.trans (parse5 hh h)
            clear HPE hh h24
            generalize Lib.trimSuffix l [10] = tl at HCS HTP HH1 HH2 htp htn
            by_cases h1 : ∃ p, Lib.atoiAll (Lib.trimPrefix tl [110, 101, 116, 32]) = .ok p
            case neg =>
              have HE := Lib.hid (HH1.out (head_no (fun n hn => h1 ⟨n, hn⟩)))
              have HA1 := Lib.hid (Atoi_no _ (by omega) (fun n hn => h1 ⟨n, hn⟩) wr (HTW.out.gr hgr))
              clear h1 HH1 HH2
              generalize Lib.trimPrefix tl [110, 101, 116, 32] = pr at HTP HA1
              go_wp2_with fail
              refine HCS.out.mono ?_
              rintro _ w3 ⟨rfl, rfl⟩
              go_wp2_with fail
              refine HTP.out.mono ?_
              rintro _ w4 ⟨rfl, rfl⟩
              go_wp2_with fail
              refine HA1.out.mono ?_
              rintro _ w5 ⟨n5, N5, rfl, g5⟩
              have hb5 := hb0.gr g5
              have hg5 := hgr.trans g5
              go_wp2_with fail
              refine (no_calls _ _).mono ?_
              rintro _ wn ⟨rfl, gn⟩
              have N0 := (hb5).gr gn
              have F0 := N0.frozen 0
              have F1 := N0.frozen 1
              have Z0 := N0.cell (i := 0) (v := .int .i64 0) rfl
              have Z1 := N0.cell (i := 1) (v := .slice none 0 0) rfl
              have q1 := N0.set 0 (.int .i64 0)
              have E1 := q1.cell (i := 1) (v := .slice none 0 0) rfl
              have q2 := q1.set 1 (.slice none 0 0)
              have D0 := q2.cell (i := 0) (v := .int .i64 0) rfl
              have D1 := q2.cell (i := 1) (v := .slice none 0 0) rfl
              clear N0 q1 q2
              go_wp2_with fail
              refine bodyPost_ret (v := .tuple #[.agg #[.int .i64 0, .slice none 0 0], .int .i64 0, .int .i64 1]) (by simp [results, Tryd.results7, go_sem, D0, D1]) rfl ?_
              exact RetPs.of (r' := (⟨0, []⟩, 0, 1)) ((((hg5).trans gn).setCell (Nat.le_refl _) _).setCell (Nat.le_refl _) _) HE.out (NetR.mk_ (N := ⟨0, []⟩) (TransR.nil _) (by decide))
            obtain ⟨p, hp⟩ := h1
            have HA1 := Lib.hid (Atoi_ok _ (by omega) p hp wr)
            by_cases hc1 : p < 0
            case pos =>
              have HE := Lib.hid (HH1.out (head_bad hp (fun h => by omega)))
              clear hp HH1 HH2
              generalize Lib.trimPrefix tl [110, 101, 116, 32] = pr at HTP HA1
              go_wp2_with fail
              refine HCS.out.mono ?_
              rintro _ w3 ⟨rfl, rfl⟩
              go_wp2_with fail
              refine HTP.out.mono ?_
              rintro _ w4 ⟨rfl, rfl⟩
              go_wp2_with fail
              refine HA1.out.mono ?_
              rintro _ w5 ⟨rfl, g5⟩
              have hb5 := hb0.gr g5
              have hg5 := hgr.trans g5
              go_wp2_with fail
              refine (no_calls _ _).mono ?_
              rintro _ wn ⟨rfl, gn⟩
              have N0 := (hb5).gr gn
              have F0 := N0.frozen 0
              have F1 := N0.frozen 1
              have Z0 := N0.cell (i := 0) (v := .int .i64 0) rfl
              have Z1 := N0.cell (i := 1) (v := .slice none 0 0) rfl
              have q1 := N0.set 0 (.int .i64 0)
              have E1 := q1.cell (i := 1) (v := .slice none 0 0) rfl
              have q2 := q1.set 1 (.slice none 0 0)
              have D0 := q2.cell (i := 0) (v := .int .i64 0) rfl
              have D1 := q2.cell (i := 1) (v := .slice none 0 0) rfl
              clear N0 q1 q2
              go_wp2_with fail
              refine bodyPost_ret (v := .tuple #[.agg #[.int .i64 0, .slice none 0 0], .int .i64 0, .int .i64 1]) (by simp [results, Tryd.results7, go_sem, D0, D1]) rfl ?_
              exact RetPs.of (r' := (⟨0, []⟩, 0, 1)) ((((hg5).trans gn).setCell (Nat.le_refl _) _).setCell (Nat.le_refl _) _) HE.out (NetR.mk_ (N := ⟨0, []⟩) (TransR.nil _) (by decide))
            by_cases hc2 : 16 < p
            case pos =>
              have HE := Lib.hid (HH1.out (head_bad hp (fun h => by omega)))
              clear hp HH1 HH2
              generalize Lib.trimPrefix tl [110, 101, 116, 32] = pr at HTP HA1
              go_wp2_with fail
              refine HCS.out.mono ?_
              rintro _ w3 ⟨rfl, rfl⟩
              go_wp2_with fail
              refine HTP.out.mono ?_
              rintro _ w4 ⟨rfl, rfl⟩
              go_wp2_with fail
              refine HA1.out.mono ?_
              rintro _ w5 ⟨rfl, g5⟩
              have hb5 := hb0.gr g5
              have hg5 := hgr.trans g5
              go_wp2_with fail
              refine (no_calls _ _).mono ?_
              rintro _ wn ⟨rfl, gn⟩
              have N0 := (hb5).gr gn
              have F0 := N0.frozen 0
              have F1 := N0.frozen 1
              have Z0 := N0.cell (i := 0) (v := .int .i64 0) rfl
              have Z1 := N0.cell (i := 1) (v := .slice none 0 0) rfl
              have q1 := N0.set 0 (.int .i64 0)
              have E1 := q1.cell (i := 1) (v := .slice none 0 0) rfl
              have q2 := q1.set 1 (.slice none 0 0)
              have D0 := q2.cell (i := 0) (v := .int .i64 0) rfl
              have D1 := q2.cell (i := 1) (v := .slice none 0 0) rfl
              clear N0 q1 q2
              go_wp2_with fail
              refine bodyPost_ret (v := .tuple #[.agg #[.int .i64 0, .slice none 0 0], .int .i64 0, .int .i64 1]) (by simp [results, Tryd.results7, go_sem, D0, D1]) rfl ?_
              exact RetPs.of (r' := (⟨0, []⟩, 0, 1)) ((((hg5).trans gn).setCell (Nat.le_refl _) _).setCell (Nat.le_refl _) _) HE.out (NetR.mk_ (N := ⟨0, []⟩) (TransR.nil _) (by decide))
            obtain ⟨q, rfl⟩ := Int.eq_ofNat_of_zero_le (show 0 ≤ p by omega)
            have hdl := dec_len (p := q) (by omega)
            have HADD := run_str_add (P := Tryd.prog) [110, 101, 116, 32] (Lib.decDigits q) (headT q) (by simp; omega) rfl
            have HIT := Lib.hid (fun W => Itoa_calls q (by omega) W)
            by_cases hq : tl = headT q
            case neg =>
              have HE := Lib.hid (HH1.out (head_bad hp (fun h => hq (by have := h.2.2; rwa [Int.toNat_natCast] at this))))
              have hbn := strB_beq_no hq
              clear hp hq HH1 HH2
              generalize Lib.trimPrefix tl [110, 101, 116, 32] = pr at HTP HA1
              go_wp2_with fail
              refine HCS.out.mono ?_
              rintro _ w3 ⟨rfl, rfl⟩
              go_wp2_with fail
              refine HTP.out.mono ?_
              rintro _ w4 ⟨rfl, rfl⟩
              go_wp2_with fail
              refine HA1.out.mono ?_
              rintro _ w5 ⟨rfl, g5⟩
              have hb5 := hb0.gr g5
              have hg5 := hgr.trans g5
              go_wp2_with fail
              refine (HIT.out _).mono ?_
              rintro _ _ ⟨rfl, rfl⟩
              go_wp2_with fail
              refine (no_calls _ _).mono ?_
              rintro _ wn ⟨rfl, gn⟩
              have N0 := (hb5).gr gn
              have F0 := N0.frozen 0
              have F1 := N0.frozen 1
              have Z0 := N0.cell (i := 0) (v := .int .i64 0) rfl
              have Z1 := N0.cell (i := 1) (v := .slice none 0 0) rfl
              have q1 := N0.set 0 (.int .i64 0)
              have E1 := q1.cell (i := 1) (v := .slice none 0 0) rfl
              have q2 := q1.set 1 (.slice none 0 0)
              have D0 := q2.cell (i := 0) (v := .int .i64 0) rfl
              have D1 := q2.cell (i := 1) (v := .slice none 0 0) rfl
              clear N0 q1 q2
              go_wp2_with fail
              refine bodyPost_ret (v := .tuple #[.agg #[.int .i64 0, .slice none 0 0], .int .i64 0, .int .i64 1]) (by simp [results, Tryd.results7, go_sem, D0, D1]) rfl ?_
              exact RetPs.of (r' := (⟨0, []⟩, 0, 1)) ((((hg5).trans gn).setCell (Nat.le_refl _) _).setCell (Nat.le_refl _) _) HE.out (NetR.mk_ (N := ⟨0, []⟩) (TransR.nil _) (by decide))
            have HE := Lib.hid (HH2.out q (by have := head_yes hp ⟨by omega, by omega, by rw [Int.toNat_natCast]; exact hq⟩; rwa [Int.toNat_natCast] at this))
            have hby := strB_beq_yes hq
            clear hp hq HH1 HH2
            generalize Lib.trimPrefix tl [110, 101, 116, 32] = pr at HTP HA1
            go_wp2_with fail
            refine HCS.out.mono ?_
            rintro _ w3 ⟨rfl, rfl⟩
            go_wp2_with fail
            refine HTP.out.mono ?_
            rintro _ w4 ⟨rfl, rfl⟩
            go_wp2_with fail
            refine HA1.out.mono ?_
            rintro _ w5 ⟨rfl, g5⟩
            have hb5 := hb0.gr g5
            have hg5 := hgr.trans g5
            go_wp2_with fail
            have hb15 := hb1.gr g5
            have X0 := hb15.cell (i := 0) (v := .int .i64 P) rfl
            have XF := hb15.frozen 0
            refine (HIT.out _).mono ?_
            rintro _ _ ⟨rfl, rfl⟩
            have hle5 := g5.le
            have HW5 := Lib.hid (And.intro hb15 (And.intro (hot.gr g5) (hst.gr g5)))
            clear hb15 hb1 hb0 hot hst hgr g5
            have HW6 := Lib.hid (And.intro hb5 hg5)
            clear hb5 hg5
            go_wp2_with fail
            go_roundw
            case rel => exact ⟨1, q, ts, out, by omega, by go_num, by omega, by omega, HW6.out.1.other (by show w.heap.size ≠ w1.heap.size; omega) _, HW5.out.1.set 0 _, HW5.out.2.1.other (by show w1.heap.size < w1.heap.size + 1; omega) _, HE.out, HW5.out.2.2.other (by show A ≠ w1.heap.size; omega) _, HW6.out.2.setCell (by show w.heap.size ≤ w1.heap.size; omega) _, by simp [World.setCell]; omega⟩
            case measure => simp [intOf]; omega
          · have hk1 : 0 < k := by omega
            have hk2 : k ≤ 24 := by omega
            have HTR := Lib.hid (tran_calls (Lib.trimSuffix l [10]) P wr (by omega) hP (HTW.out.gr hgr))
            have Y0 := hb1.cell (i := 0) (v := .int .i64 P) rfl
            cases et : tranT (Lib.trimSuffix l [10]) P with
            | none =>
              have HE := Lib.hid (HPE.out.trans (parse6 hk1 hk2 hh (by show tranT _ ((P : Int).toNat) = none; rw [Int.toNat_natCast]; exact et)))
              have HTN : Hid (Calls Tryd.prog 19 #[.string (strB (Lib.trimSuffix l [10])), .int .i64 P] wr fun e w' => e = .returned (.tuple #[.agg #[.int .i64 0, .slice none 0 0, .slice none 0 0], .bool false]) ∧ Gr wr w') := Lib.hid (by
                refine HTR.out.mono ?_
                rintro e w' hr
                obtain ⟨g, ⟨t, _, _, _, h, _⟩ | ⟨rfl, _⟩⟩ := hr.out
                · rw [et] at h; cases h
                · exact ⟨rfl, g⟩)
              clear HPE hh h24 HTR et
              by_cases ht : Lib.trimSuffix l [10] = []
              · have hbe := strB_beq_yes ht
                clear ht
                generalize Lib.trimSuffix l [10] = tl at HCS hbe HTN
                go_wp2_with fail
                refine HCS.out.mono ?_
                rintro _ w3 ⟨rfl, rfl⟩
                go_wp2_with fail
                refine HTN.out.mono ?_
                rintro _ w5 ⟨rfl, g5⟩
                go_wp2_with fail
                refine (no_calls _ _).mono ?_
                rintro _ wn ⟨rfl, gn⟩
                have N0 := ((hb0.gr g5).gr ((Gr.refl _).alloc _)).gr gn
                have F0 := N0.frozen 0
                have F1 := N0.frozen 1
                have Z0 := N0.cell (i := 0) (v := .int .i64 0) rfl
                have Z1 := N0.cell (i := 1) (v := .slice none 0 0) rfl
                have q1 := N0.set 0 (.int .i64 0)
                have E1 := q1.cell (i := 1) (v := .slice none 0 0) rfl
                have q2 := q1.set 1 (.slice none 0 0)
                have D0 := q2.cell (i := 0) (v := .int .i64 0) rfl
                have D1 := q2.cell (i := 1) (v := .slice none 0 0) rfl
                clear N0 q1 q2
                go_wp2_with fail
                refine bodyPost_ret (v := .tuple #[.agg #[.int .i64 0, .slice none 0 0], .int .i64 k, .int .i64 1]) (by simp [results, Tryd.results7, go_sem, D0, D1]) rfl ?_
                exact RetPs.of (r' := (⟨0, []⟩, k, 1)) (((((hgr.trans g5).alloc _).trans gn).setCell (Nat.le_refl _) _).setCell (Nat.le_refl _) _) HE.out (NetR.mk_ (N := ⟨0, []⟩) (TransR.nil _) (by decide))
              · have hbe := strB_beq_no ht
                clear ht
                generalize Lib.trimSuffix l [10] = tl at HCS hbe HTN
                go_wp2_with fail
                refine HCS.out.mono ?_
                rintro _ w3 ⟨rfl, rfl⟩
                go_wp2_with fail
                refine HTN.out.mono ?_
                rintro _ w5 ⟨rfl, g5⟩
                go_wp2_with fail
                refine (no_calls _ _).mono ?_
                rintro _ wn ⟨rfl, gn⟩
                have N0 := ((hb0.gr g5).gr ((Gr.refl _).alloc _)).gr gn
                have F0 := N0.frozen 0
                have F1 := N0.frozen 1
                have Z0 := N0.cell (i := 0) (v := .int .i64 0) rfl
                have Z1 := N0.cell (i := 1) (v := .slice none 0 0) rfl
                have q1 := N0.set 0 (.int .i64 0)
                have E1 := q1.cell (i := 1) (v := .slice none 0 0) rfl
                have q2 := q1.set 1 (.slice none 0 0)
                have D0 := q2.cell (i := 0) (v := .int .i64 0) rfl
                have D1 := q2.cell (i := 1) (v := .slice none 0 0) rfl
                clear N0 q1 q2
                go_wp2_with fail
                refine bodyPost_ret (v := .tuple #[.agg #[.int .i64 0, .slice none 0 0], .int .i64 k, .int .i64 1]) (by simp [results, Tryd.results7, go_sem, D0, D1]) rfl ?_
                exact RetPs.of (r' := (⟨0, []⟩, k, 1)) (((((hgr.trans g5).alloc _).trans gn).setCell (Nat.le_refl _) _).setCell (Nat.le_refl _) _) HE.out (NetR.mk_ (N := ⟨0, []⟩) (TransR.nil _) (by decide))
            | some t =>
              have HE := Lib.hid (HPE.out.trans (parse7 hk1 hk2 hh (by show tranT _ ((P : Int).toNat) = some t; rw [Int.toNat_natCast]; exact et)))
              have HTY : Hid (Calls Tryd.prog 19 #[.string (strB (Lib.trimSuffix l [10])), .int .i64 P] wr fun e w' => ∃ vp vq, e = .returned (.tuple #[.agg #[.int .i64 t.label, vp, vq], .bool true]) ∧ OwnI 3 wr.heap.size w' vp t.pre ∧ OwnI 3 wr.heap.size w' vq t.post ∧ Gr wr w') := Lib.hid (by
                refine HTR.out.mono ?_
                rintro e w' hr
                obtain ⟨g, ⟨t', vp, vq, rfl, h, o1, o2⟩ | ⟨_, h⟩⟩ := hr.out
                · rw [et] at h; cases h
                  exact ⟨vp, vq, rfl, o1, o2, g⟩
                · rw [et] at h; cases h)
              have hTT := (tranT_some et).1
              have ht : Lib.trimSuffix l [10] ≠ [] := fun e => by rw [e, tran_nil] at et; cases et
              have hbe := strB_beq_no ht
              clear HPE hh h24 HTR et ht
              generalize Lib.trimSuffix l [10] = tl at HCS hbe HTY
              go_wp2_with fail
              refine HCS.out.mono ?_
              rintro _ w3 ⟨rfl, rfl⟩
              go_wp2_with fail
              refine HTY.out.mono ?_
              rintro _ w5 ⟨vp, vq, rfl, op, oq, g5⟩
              obtain ⟨pa, pc, rfl, _, _⟩ := op.ints.len
              obtain ⟨qa, qc, rfl, _, _⟩ := oq.ints.len
              obtain ⟨oa, oc, rfl⟩ := hot.form
              obtain ⟨wa, hwa⟩ : ∃ wa, wa = w5.alloc (.cells #[.int .i64 t.label, .slice pa t.pre.length pc, .slice qa t.post.length qc] 41) := ⟨_, rfl⟩
              have bt : Blk wa w5.heap.size 41 #[.int .i64 t.label, .slice pa t.pre.length pc, .slice qa t.post.length qc] := by rw [hwa]; exact Blk.new rfl
              have ga : Gr w5 wa := by rw [hwa]; exact (Gr.refl _).alloc _
              have gra := g5.trans ga
              have HK := Lib.hid (And.intro (hb0.gr gra) (And.intro (hb1.gr gra) (And.intro (hst.gr gra) (hgr.trans gra))))
              have HOT := Lib.hid (hot.gr gra)
              have hol := hot.lt
              have HOL := Lib.hid hol
              have hlw := g5.le
              have hla := gra.le
              have HH1 := Lib.hid (Held.fresh (base := w1.heap.size + 1) (row := (Value.slice oa ts.length oc).ownBlock) (op.gr ga) hsz (fun k' h => (hol k' h).2) (Gr.refl _))
              have HH2 := Lib.hid (Held.fresh (base := w1.heap.size + 1) (row := (Value.slice oa ts.length oc).ownBlock) (oq.gr ga) hsz (fun k' h => (hol k' h).2) (Gr.refl _))
              have T0 := bt.cell (i := 0) (v := .int .i64 t.label) rfl
              have T1 := bt.cell (i := 1) (v := .slice pa t.pre.length pc) rfl
              have T2 := bt.cell (i := 2) (v := .slice qa t.post.length qc) rfl
              have B1 := (hb1.gr gra).cell (i := 1) (v := .slice oa ts.length oc) rfl
              have HBT := Lib.hid bt
              clear hb0 hb1 hst hgr hot hol op oq ga gra g5 bt c0 Y0
              rw [hwa] at T0 T1 T2 B1
              have HWA := Lib.hid hwa
              clear hwa
              go_upto_region 11 with fail
              rw [← HWA.out] at T0 T1 T2 B1 ⊢
              have HLB := Lib.hid hTT.lab
              have GL : Gr wa (wa.alloc (.cells #[.int .i64 t.label, .slice pa t.pre.length pc, .slice qa t.post.length qc] 41)) := (Gr.refl _).alloc _
              have HGL := Lib.hid GL
              clear GL
              go_wp2_with (at_builtin; go_loud (refine app_tran T (.tmp 46) (.tmp 48) (w1.heap.size + 1) (.slice oa ts.length oc) ts t (.slice pa t.pre.length pc) (.slice qa t.post.length qc) ⟨wa.heap.size, 0, none⟩ (by rfl) (by rfl) (by rfl) (by rfl) (HOT.out.gr HGL.out) (by have := HLB.out; unfold I64; omega) (HH1.out.gr HGL.out) (HH2.out.gr HGL.out) (World.news_of_block (cs := #[.int .i64 t.label, .slice pa t.pre.length pc, .slice qa t.post.length qc]) (t := 41) (fr := (0, 0)) (heap_alloc_new _ _)) rfl rfl (by omega) (Nat.le_trans hsz (Nat.le_trans hla HGL.out.le)) ?_); intro g cp w6 ho6 hg6 hat hlt6; have hb3 := (HK.out.2.1.gr HGL.out).grown hg6 (fun e => by have := (HOL.out w1.heap.size e.symm).1; omega); have k0 := hb3.cell (i := 1) (v := .slice oa ts.length oc) rfl; have kf := hb3.frozen 1; have HO6 := Lib.hid ho6; have HG6 := Lib.hid hg6; have HB3 := Lib.hid hb3; have hsz6 := hg6.size; clear ho6 hg6 hb3 hat hlt6)
              have hgl := HGL.out.le
              go_roundw
              case rel => exact ⟨k + 1, P, ts ++ [t], .slice (some ⟨g, 0, none⟩) (ts.length + 1) cp, by omega, by go_num, hP, by simp; omega, ((HK.out.1.gr HGL.out).grown HG6.out (fun e => by have := (HOL.out w.heap.size e.symm).1; omega)).other (by show w.heap.size ≠ w1.heap.size; omega) _, HB3.out.set 1 _, HO6.out.other (by show w1.heap.size < w1.heap.size + 1; omega) _, HE.out, ((HK.out.2.2.1.gr HGL.out).grown HG6.out (fun e => by have := (HOL.out A e.symm).1; omega)).other (by show A ≠ w1.heap.size; omega) _, (Gr.grown (HK.out.2.2.2.trans HGL.out) HG6.out (fun k' h => by have := (HOL.out k' h).1; omega)).setCell (by show w.heap.size ≤ w1.heap.size; omega) _, by simp only [World.setCell, Array.size_modify]; omega⟩
              case measure => simp [intOf]; omega
    · obtain rfl : k = ls.length := by omega
      rw [List.drop_length] at hpe
      have HE := Lib.hid (hpe.trans parse0)
      clear hpe
      obtain ⟨oa, oc, rfl⟩ := hot.form
      have F0 := hb0.frozen 0
      have F1 := hb0.frozen 1
      have Z0 := hb0.cell (i := 0) (v := .int .i64 0) rfl
      have Z1 := hb0.cell (i := 1) (v := .slice none 0 0) rfl
      have Y0 := hb1.cell (i := 0) (v := .int .i64 P) rfl
      have Y1 := hb1.cell (i := 1) (v := .slice oa ts.length oc) rfl
      have q1 := hb0.set 0 (.int .i64 P)
      have E1 := q1.cell (i := 1) (v := .slice none 0 0) rfl
      have q2 := q1.set 1 (.slice oa ts.length oc)
      have D0 := q2.cell (i := 0) (v := .int .i64 P) rfl
      have D1 := q2.cell (i := 1) (v := .slice oa ts.length oc) rfl
      clear q1 q2
      go_wp2_with fail
      refine bodyPost_ret (v := .tuple #[.agg #[.int .i64 P, .slice oa ts.length oc], .int .i64 0, .int .i64 0]) (by simp [results, Tryd.results7, go_sem, D0, D1]) rfl ?_
      exact RetPs.of (r' := (⟨P, ts⟩, 0, 0)) ((hgr.setCell (Nat.le_refl _) _).setCell (Nat.le_refl _) _) HE.out (NetR.mk_ (N := ⟨P, ts⟩) (((hot.other (by show w.heap.size < _; omega) _).other (by show w.heap.size < _; omega) _).trans) (by simp [I64]; omega))
end Go.Proofs.YtiflolklgmmgeaaDoor
