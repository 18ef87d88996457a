/- Contracts of live.Dead, Bound. -/
import Derived.Test.YtelfbfjegmncaaaLive6
namespace Go.Tok
open Go.RowKit
set_option linter.unusedVariables false
/-- what was counted of the first j arcs -/
structure CntA (arcs : List ArcD) (j : Nat) (kvs : List (Value × Value)) : Prop where
  ok : ∀ x ∈ kvs, ∃ t c : Int, x = (.int .i64 t, .int .i64 c) ∧ 1 ≤ c ∧ c ≤ j ∧ ∃ a ∈ arcs.take j, a.tran = t
  all : ∀ a ∈ arcs.take j, ∃ c : Int, (Value.int .i64 a.tran, Value.int .i64 c) ∈ kvs
theorem CntA.zero (arcs : List ArcD) : CntA arcs 0 [] := ⟨by simp, by simp⟩
theorem take_sub {arcs : List ArcD} {j : Nat} (h : j < arcs.length) {a : ArcD} (ha : a ∈ arcs.take j) : a ∈ arcs.take (j + 1) := by rw [take_ix h]; exact List.mem_append_left _ ha
theorem CntA.new {arcs : List ArcD} {j : Nat} {kvs : List (Value × Value)} (h : CntA arcs j kvs) (hj : j < arcs.length) : CntA arcs (j + 1) (kvs ++ [(.int .i64 (ix arcs j).tran, .int .i64 1)]) := by
  refine ⟨fun x hx => ?_, fun a ha => ?_⟩
  · rcases List.mem_append.1 hx with h1 | h1
    · obtain ⟨t, c, h2, h3, h4, a, h5, h6⟩ := h.ok x h1
      exact ⟨t, c, h2, h3, by omega, a, take_sub hj h5, h6⟩
    · rw [List.mem_singleton.1 h1]
      exact ⟨_, 1, rfl, by omega, by omega, ix arcs j, by rw [take_ix hj]; simp, rfl⟩
  · rw [take_ix hj] at ha
    rcases List.mem_append.1 ha with h1 | h1
    · obtain ⟨c, hc⟩ := h.all a h1
      exact ⟨c, List.mem_append_left _ hc⟩
    · rw [List.mem_singleton.1 h1]
      exact ⟨1, by simp⟩
theorem putAt_mem {kvs : List (Value × Value)} {jj : Nat} {v : Value} {x : Value × Value} (hx : x ∈ putAt kvs jj v) : x ∈ kvs ∨ ∃ y, kvs[jj]? = some y ∧ x = (y.1, v) := by
  unfold putAt at hx
  obtain ⟨i, hi, rfl⟩ := List.getElem_of_mem hx
  rw [List.getElem_modify]
  have hi' : i < kvs.length := by simpa using hi
  split
  · rename_i h; subst h
    exact .inr ⟨kvs[jj], List.getElem?_eq_getElem hi', rfl⟩
  · exact .inl (List.getElem_mem hi')
theorem mem_putAt {kvs : List (Value × Value)} {jj : Nat} {v : Value} {x : Value × Value} (hx : x ∈ kvs) : x ∈ putAt kvs jj v ∨ (kvs[jj]? = some x ∧ (x.1, v) ∈ putAt kvs jj v) := by
  obtain ⟨i, hi, rfl⟩ := List.getElem_of_mem hx
  have hi' : i < (putAt kvs jj v).length := by unfold putAt; simpa using hi
  have he : (putAt kvs jj v)[i] = if jj = i then (kvs[i].1, v) else kvs[i] := by simp [putAt, List.getElem_modify]
  by_cases h : jj = i
  · subst h
    refine .inr ⟨List.getElem?_eq_getElem hi, ?_⟩
    rw [if_pos rfl] at he
    rw [← he]; exact List.getElem_mem hi'
  · rw [if_neg h] at he
    rw [← he]; exact .inl (List.getElem_mem hi')
theorem CntA.old {arcs : List ArcD} {j jj : Nat} {kvs : List (Value × Value)} {c : Int} (h : CntA arcs j kvs) (hj : j < arcs.length) (hk : kvs[jj]? = some (.int .i64 (ix arcs j).tran, .int .i64 c)) (h1 : 1 ≤ c) (h2 : c ≤ j) : CntA arcs (j + 1) (putAt kvs jj (.int .i64 (c + 1))) := by
  refine ⟨fun x hx => ?_, fun a ha => ?_⟩
  · rcases putAt_mem hx with h3 | ⟨y, h3, rfl⟩
    · obtain ⟨t, c', h4, h5, h6, a, h7, h8⟩ := h.ok x h3
      exact ⟨t, c', h4, h5, by omega, a, take_sub hj h7, h8⟩
    · rw [hk] at h3; cases h3
      exact ⟨_, c + 1, rfl, by omega, by omega, ix arcs j, by rw [take_ix hj]; simp, rfl⟩
  · rw [take_ix hj] at ha
    rcases List.mem_append.1 ha with h3 | h3
    · obtain ⟨c', hc⟩ := h.all a h3
      rcases mem_putAt (jj := jj) (v := .int .i64 (c + 1)) hc with h4 | ⟨_, h4⟩
      · exact ⟨c', h4⟩
      · exact ⟨_, h4⟩
    · rw [List.mem_singleton.1 h3]
      rcases mem_putAt (jj := jj) (v := .int .i64 (c + 1)) (List.mem_of_getElem? hk) with h4 | ⟨_, h4⟩
      · exact ⟨c, h4⟩
      · exact ⟨_, h4⟩
def deadP (S : SpaceD) (t : Nat) : Bool := !(S.arcs.any fun a => decide (a.tran = (t : Int)))
theorem dead_pick (S : SpaceD) (trans : Int) : deadF S trans = pickTo (deadP S) (upTo trans) := rfl
theorem CntA.dead {S : SpaceD} {kvs : List (Value × Value)} (h : CntA S.arcs S.arcs.length kvs) {t : Nat} (hp : deadP S t = true) : ∀ x ∈ kvs, x.1 ≠ .int .i64 (t : Int) := by
  intro x hx he
  obtain ⟨t', c, rfl, _, _, a, h1, h2⟩ := h.ok x hx
  have : t' = (t : Int) := by simpa using he
  rw [List.take_length] at h1
  unfold deadP at hp
  rw [Bool.not_eq_true', List.any_eq_false] at hp
  exact hp a h1 (by simp; omega)
theorem CntA.alive {S : SpaceD} {kvs : List (Value × Value)} (h : CntA S.arcs S.arcs.length kvs) {t : Nat} (hp : deadP S t = false) : ∃ c : Int, (Value.int .i64 (t : Int), Value.int .i64 c) ∈ kvs ∧ 1 ≤ c := by
  unfold deadP at hp
  rw [Bool.not_eq_false', List.any_eq_true] at hp
  obtain ⟨a, h1, h2⟩ := hp
  obtain ⟨c, hc⟩ := h.all a (by rw [List.take_length]; exact h1)
  have : a.tran = (t : Int) := by simpa using h2
  rw [this] at hc
  obtain ⟨t', c', he, h3, _⟩ := h.ok _ hc
  cases he
  exact ⟨c, hc, h3⟩
end Go.Tok
namespace Go.Proofs.Ytelfbfjegmncaaa
open Go.RowKit Go.Tok
set_option linter.unusedVariables false
theorem intLaw : Go.Maps.Keyed Try.prog 3 := Go.Maps.int_keyed Try.underlying3
theorem wf_i64 {x : Int} (h : I64 x) : (Lit.int .i64 x).wf = true := by
  unfold I64 at h
  simp [Lit.wf, IntKind.min, IntKind.max, IntKind.bits, IntKind.signed]
  omega
theorem int_key {x : Int} (h : I64 x) : keyOf Try.prog 3 (.int .i64 x) = some (.int .i64 x) := Go.Maps.keyOf_int_mk Try.underlying3 (wf_i64 h)
set_option maxHeartbeats 8000000 in
set_option maxRecDepth 100000 in
theorem Dead_calls (v : Value) (S : SpaceD) (trans : Int) (w : World) (hv : SpaceR w v S) (ht : I64 trans) (ha : S.arcs.length ≤ 5864062014805) :
    Calls Try.prog 62 #[v, .int .i64 trans] w (RetI w (deadF S trans)) := by
  have T := intTy
  have ht1 := ht.1
  have ht2 := ht.2
  obtain ⟨ma, mc, aa, ac, rfl, hc1, hc2, hc3, hc4, hM, hA⟩ := hv.open_
  have hv' := hv
  have B0 := box_cell (Gr.refl (w.alloc (.cells #[.slice ma S.marks.length mc, .slice aa S.arcs.length ac] 40))) (i := 0) rfl
  have B1 := box_cell (Gr.refl (w.alloc (.cells #[.slice ma S.marks.length mc, .slice aa S.arcs.length ac] 40))) (i := 1) rfl
  have GA : Gr w (w.alloc (.cells #[.slice ma S.marks.length mc, .slice aa S.arcs.length ac] 40)) := (Gr.refl _).alloc _
  have hmm := @run_makeMap Try.prog
  have HC := Lib.hid (dead_pick S trans)
  have hM0 := (MAt.new (P := Try.prog) (k := 3) (w.alloc (.cells #[.slice ma S.marks.length mc, .slice aa S.arcs.length ac] 40)))
  rw [show (w.alloc (.cells #[.slice ma S.marks.length mc, .slice aa S.arcs.length ac] 40)).heap.size = w.heap.size + 1 by simp] at hM0
  have B1' := cell_gr B1 ((Gr.refl _).alloc (.map #[] 0))
  clear B0
  rcases (show trans ≤ 24 ∨ 24 < trans by omega) with h24 | h24
  · have hmin : min trans 24 = trans := by omega
    have hup : upTo trans = trans.toNat := by unfold upTo; rw [hmin]
    rw [hup] at HC
    clear hup
    go_enter Try.func62, Try.ntmps62
    go_wp2_with fail
    go_loopw [16] (fun q wr => ∃ (j : Nat) (kvs : List (Value × Value)), q = .int .i64 j ∧ j ≤ S.arcs.length ∧ MAt Try.prog 3 wr (w.heap.size + 1) kvs ∧ CntA S.arcs j kvs ∧ Gr w wr ∧ w.heap.size + 1 < wr.heap.size) (fun q _ => S.arcs.length - (intOf q).toNat)
    case atStart => exact ⟨0, [], rfl, Nat.zero_le _, hM0, CntA.zero _, ((Gr.refl _).alloc _).alloc _, by simp⟩
    case round =>
      rename World => wo
      obtain ⟨j, kvs, rfl, hj, hmap, hcnt, hgr, hwl⟩ := hrel
      by_cases hlt : j < S.arcs.length
      · obtain ⟨ab, ao, rfl, c0, c1, c2, hI⟩ := (hA.gr hgr).arc hlt
        have GX : Gr wo (wo.alloc (.cells #[.int .i64 (ix S.arcs j).src, .int .i64 (ix S.arcs j).tran, .int .i64 (ix S.arcs j).dst] 56)) := (Gr.refl _).alloc _
        have A1 : (wo.alloc (.cells #[.int .i64 (ix S.arcs j).src, .int .i64 (ix S.arcs j).tran, .int .i64 (ix S.arcs j).dst] 56)).cell? ⟨wo.heap.size, 1, none⟩ = some (.int .i64 (ix S.arcs j).tran) := box_cell (Gr.refl _) (i := 1) rfl
        have hjI : (j : Int) < (S.arcs.length : Int) := by omega
        have hkey := int_key hI.2.1
        have hmx := hmap.gr GX
        by_cases hin : ∃ c : Int, (Value.int .i64 (ix S.arcs j).tran, Value.int .i64 c) ∈ kvs
        · obtain ⟨c, hc⟩ := hin
          obtain ⟨t', c', he, h1, h2, _⟩ := hcnt.ok _ hc
          cases he
          have lk := hmx.look_yes intLaw Try.underlying101 hkey hc
          obtain ⟨w3, jj, r3, o3, hk3, m3⟩ := hmx.store_old intLaw Try.underlying101 (.int .i64 (c + 1)) hkey hc
          have HN := Lib.hid (hcnt.old hlt hk3 h1 h2)
          have h2' : c ≤ 5864062014805 := by omega
          clear hcnt hmap hmx hkey hk3 hc h2 hI
          go_wp2_with fail
          go_roundw
          case rel => exact ⟨j + 1, _, by go_num, by omega, m3, HN.out, (hgr.trans GX).grown o3.grown (fun k hk => by cases hk; omega), by have := o3.2.2.2.1; rw [this]; simp; omega⟩
          case measure => simp [intOf]; omega
        · have hn : ∀ x ∈ kvs, x.1 ≠ .int .i64 (ix S.arcs j).tran := by
            intro x hx he
            obtain ⟨t', c', rfl, _⟩ := hcnt.ok x hx
            simp only [] at he
            rw [he] at hx
            exact hin ⟨c', hx⟩
          have lk := hmx.look_no intLaw Try.underlying101 zeroInt2 hkey hn
          obtain ⟨w3, r3, o3, m3⟩ := hmx.store_new intLaw Try.underlying101 (.int .i64 1) hkey hn
          have HN := Lib.hid (hcnt.new hlt)
          clear hcnt hmap hmx hkey hn hin hI
          go_wp2_with fail
          go_roundw
          case rel => exact ⟨j + 1, _, by go_num, by omega, m3, HN.out, (hgr.trans GX).grown o3.grown (fun k hk => by cases hk; omega), by have := o3.2.2.2.1; rw [this]; simp; omega⟩
          case measure => simp [intOf]; omega
      · obtain rfl : j = S.arcs.length := by omega
        have HCN := Lib.hid hcnt
        clear hcnt hM0
        go_wp2_with fail
        go_loopw [8, 27] (fun out q wr => ∃ k : Nat, q = .int .i64 k ∧ k ≤ (trans).toNat ∧ OwnI 3 wo.heap.size wr out (pickTo (deadP S) k) ∧ Gr wo wr) (fun _ q _ => (trans).toNat - (intOf q).toNat)
        case atStart => exact ⟨0, rfl, Nat.zero_le _, OwnI.nil _ _ _, Gr.refl _⟩
        case round =>
          rename World => wi
          obtain ⟨k, rfl, hk, ho, hgi⟩ := hrel
          obtain ⟨oa, oc, rfl, _, _⟩ := ho.ints.len
          by_cases hlt : (k : Int) < (trans)
          · have hkm : k < (trans).toNat := by omega
            have hks : I64 (k : Int) := by unfold I64; omega
            have hkey := int_key hks
            have hmx := hmap.gr hgi
            have hpl := pickTo_len (deadP S) k
            have hbs := hgi.le
            cases hp : deadP S k
            · obtain ⟨c, hc, h1⟩ := HCN.out.alive hp
              have lk := hmx.look_yes intLaw Try.underlying101 hkey hc
              have HS := Lib.hid (pickTo_no hp)
              have q1 : (c == 0) = false := by simp; omega
              clear hp hmx hkey hc
              go_wp2_with fail
              go_roundw
              case rel => exact ⟨k + 1, by go_num, by omega, by rw [HS.out]; exact ho, hgi⟩
              case measure => simp [intOf]; omega
            · have hn := HCN.out.dead hp
              have lk := hmx.look_no intLaw Try.underlying101 zeroInt2 hkey hn
              have HS := Lib.hid (pickTo_yes hp)
              clear hp hmx hkey hn
              go_wp2_with (at_builtin; go_loud (refine app_int T _ _ wo.heap.size _ (pickTo (deadP S) k) ⟨wi.heap.size, 0, none⟩ (k : Int) (by rfl) (by rfl) (by rfl) (by rfl) (ho.alloc _) (lit_cell rfl) hks (by omega) (Nat.le_trans hbs (Gr.le ((Gr.refl _).alloc _))) ?_; intro v' w7 ho7 hgs hgb hat))
              go_roundw
              case rel => exact ⟨k + 1, by go_num, by omega, by rw [HS.out]; exact ho7, hgs wo (Nat.le_refl _) (hgi.alloc _)⟩
              case measure => simp [intOf]; omega
          · obtain rfl : k = (trans).toNat := by omega
            have hge : (trans) ≤ (((trans).toNat : Nat) : Int) := by omega
            go_wp2_with fail
            go_ret
            exact RetI.mk HC.out ho hgr.le (hgr.trans hgi)
  · have hmin : min trans 24 = 24 := by omega
    have hup : upTo trans = (24 : Int).toNat := by unfold upTo; rw [hmin]
    rw [hup] at HC
    clear hup
    go_enter Try.func62, Try.ntmps62
    go_wp2_with fail
    go_loopw [16] (fun q wr => ∃ (j : Nat) (kvs : List (Value × Value)), q = .int .i64 j ∧ j ≤ S.arcs.length ∧ MAt Try.prog 3 wr (w.heap.size + 1) kvs ∧ CntA S.arcs j kvs ∧ Gr w wr ∧ w.heap.size + 1 < wr.heap.size) (fun q _ => S.arcs.length - (intOf q).toNat)
    case atStart => exact ⟨0, [], rfl, Nat.zero_le _, hM0, CntA.zero _, ((Gr.refl _).alloc _).alloc _, by simp⟩
    case round =>
      rename World => wo
      obtain ⟨j, kvs, rfl, hj, hmap, hcnt, hgr, hwl⟩ := hrel
      by_cases hlt : j < S.arcs.length
      · obtain ⟨ab, ao, rfl, c0, c1, c2, hI⟩ := (hA.gr hgr).arc hlt
        have GX : Gr wo (wo.alloc (.cells #[.int .i64 (ix S.arcs j).src, .int .i64 (ix S.arcs j).tran, .int .i64 (ix S.arcs j).dst] 56)) := (Gr.refl _).alloc _
        have A1 : (wo.alloc (.cells #[.int .i64 (ix S.arcs j).src, .int .i64 (ix S.arcs j).tran, .int .i64 (ix S.arcs j).dst] 56)).cell? ⟨wo.heap.size, 1, none⟩ = some (.int .i64 (ix S.arcs j).tran) := box_cell (Gr.refl _) (i := 1) rfl
        have hjI : (j : Int) < (S.arcs.length : Int) := by omega
        have hkey := int_key hI.2.1
        have hmx := hmap.gr GX
        by_cases hin : ∃ c : Int, (Value.int .i64 (ix S.arcs j).tran, Value.int .i64 c) ∈ kvs
        · obtain ⟨c, hc⟩ := hin
          obtain ⟨t', c', he, h1, h2, _⟩ := hcnt.ok _ hc
          cases he
          have lk := hmx.look_yes intLaw Try.underlying101 hkey hc
          obtain ⟨w3, jj, r3, o3, hk3, m3⟩ := hmx.store_old intLaw Try.underlying101 (.int .i64 (c + 1)) hkey hc
          have HN := Lib.hid (hcnt.old hlt hk3 h1 h2)
          have h2' : c ≤ 5864062014805 := by omega
          clear hcnt hmap hmx hkey hk3 hc h2 hI
          go_wp2_with fail
          go_roundw
          case rel => exact ⟨j + 1, _, by go_num, by omega, m3, HN.out, (hgr.trans GX).grown o3.grown (fun k hk => by cases hk; omega), by have := o3.2.2.2.1; rw [this]; simp; omega⟩
          case measure => simp [intOf]; omega
        · have hn : ∀ x ∈ kvs, x.1 ≠ .int .i64 (ix S.arcs j).tran := by
            intro x hx he
            obtain ⟨t', c', rfl, _⟩ := hcnt.ok x hx
            simp only [] at he
            rw [he] at hx
            exact hin ⟨c', hx⟩
          have lk := hmx.look_no intLaw Try.underlying101 zeroInt2 hkey hn
          obtain ⟨w3, r3, o3, m3⟩ := hmx.store_new intLaw Try.underlying101 (.int .i64 1) hkey hn
          have HN := Lib.hid (hcnt.new hlt)
          clear hcnt hmap hmx hkey hn hin hI
          go_wp2_with fail
          go_roundw
          case rel => exact ⟨j + 1, _, by go_num, by omega, m3, HN.out, (hgr.trans GX).grown o3.grown (fun k hk => by cases hk; omega), by have := o3.2.2.2.1; rw [this]; simp; omega⟩
          case measure => simp [intOf]; omega
      · obtain rfl : j = S.arcs.length := by omega
        have HCN := Lib.hid hcnt
        clear hcnt hM0
        go_wp2_with fail
        go_loopw [8, 27] (fun out q wr => ∃ k : Nat, q = .int .i64 k ∧ k ≤ ((24 : Int)).toNat ∧ OwnI 3 wo.heap.size wr out (pickTo (deadP S) k) ∧ Gr wo wr) (fun _ q _ => ((24 : Int)).toNat - (intOf q).toNat)
        case atStart => exact ⟨0, rfl, Nat.zero_le _, OwnI.nil _ _ _, Gr.refl _⟩
        case round =>
          rename World => wi
          obtain ⟨k, rfl, hk, ho, hgi⟩ := hrel
          obtain ⟨oa, oc, rfl, _, _⟩ := ho.ints.len
          by_cases hlt : (k : Int) < ((24 : Int))
          · have hkm : k < ((24 : Int)).toNat := by omega
            have hks : I64 (k : Int) := by unfold I64; omega
            have hkey := int_key hks
            have hmx := hmap.gr hgi
            have hpl := pickTo_len (deadP S) k
            have hbs := hgi.le
            cases hp : deadP S k
            · obtain ⟨c, hc, h1⟩ := HCN.out.alive hp
              have lk := hmx.look_yes intLaw Try.underlying101 hkey hc
              have HS := Lib.hid (pickTo_no hp)
              have q1 : (c == 0) = false := by simp; omega
              clear hp hmx hkey hc
              go_wp2_with fail
              go_roundw
              case rel => exact ⟨k + 1, by go_num, by omega, by rw [HS.out]; exact ho, hgi⟩
              case measure => simp [intOf]; omega
            · have hn := HCN.out.dead hp
              have lk := hmx.look_no intLaw Try.underlying101 zeroInt2 hkey hn
              have HS := Lib.hid (pickTo_yes hp)
              clear hp hmx hkey hn
              go_wp2_with (at_builtin; go_loud (refine app_int T _ _ wo.heap.size _ (pickTo (deadP S) k) ⟨wi.heap.size, 0, none⟩ (k : Int) (by rfl) (by rfl) (by rfl) (by rfl) (ho.alloc _) (lit_cell rfl) hks (by omega) (Nat.le_trans hbs (Gr.le ((Gr.refl _).alloc _))) ?_; intro v' w7 ho7 hgs hgb hat))
              go_roundw
              case rel => exact ⟨k + 1, by go_num, by omega, by rw [HS.out]; exact ho7, hgs wo (Nat.le_refl _) (hgi.alloc _)⟩
              case measure => simp [intOf]; omega
          · obtain rfl : k = ((24 : Int)).toNat := by omega
            have hge : ((24 : Int)) ≤ ((((24 : Int)).toNat : Nat) : Int) := by omega
            go_wp2_with fail
            go_ret
            exact RetI.mk HC.out ho hgr.le (hgr.trans hgi)
end Go.Proofs.Ytelfbfjegmncaaa
