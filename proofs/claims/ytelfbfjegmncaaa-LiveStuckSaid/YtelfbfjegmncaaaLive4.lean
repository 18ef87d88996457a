/- Contracts of live.Live, Home. -/
import Derived.Test.YtelfbfjegmncaaaLive3
import Derived.Test.YtelfbfjegmncaaaStep
namespace Go.Tok
open Go.RowKit
set_option linter.unusedVariables false
theorem one_row (e : Int × Int) : ∀ n : Nat, ((List.range n).map fun (k : Nat) => if e.1 = (k : Int) then 1 else 0).sum ≤ 1 := by
  have key : ∀ n : Nat, ((List.range n).map fun (k : Nat) => if e.1 = (k : Int) then 1 else 0).sum = if 0 ≤ e.1 ∧ e.1 < n then 1 else 0 := by
    intro n
    induction n with
    | zero => rw [if_neg (by omega)]; rfl
    | succ n ih =>
      rw [List.range_succ, List.map_append, List.sum_append, ih]
      simp only [List.map_cons, List.map_nil, List.sum_cons, List.sum_nil]
      by_cases h : e.1 = (n : Int)
      · have a1 : (if e.1 = (n : Int) then 1 else 0) = 1 := if_pos h
        have a2 : (if 0 ≤ e.1 ∧ e.1 < ((n : Nat) : Int) then 1 else 0) = 0 := if_neg (by omega)
        have a3 : (if 0 ≤ e.1 ∧ e.1 < ((n + 1 : Nat) : Int) then 1 else 0) = 1 := if_pos (by omega)
        rw [a1, a2, a3]; try omega
      · have a1 : (if e.1 = (n : Int) then 1 else 0) = 0 := if_neg h
        rw [a1]
        by_cases h2 : 0 ≤ e.1 ∧ e.1 < (n : Int)
        · have a2 : (if 0 ≤ e.1 ∧ e.1 < ((n : Nat) : Int) then 1 else 0) = 1 := if_pos h2
          have a3 : (if 0 ≤ e.1 ∧ e.1 < ((n + 1 : Nat) : Int) then 1 else 0) = 1 := if_pos (by omega)
          rw [a2, a3]; try omega
        · have a2 : (if 0 ≤ e.1 ∧ e.1 < ((n : Nat) : Int) then 1 else 0) = 0 := if_neg h2
          have a3 : (if 0 ≤ e.1 ∧ e.1 < ((n + 1 : Nat) : Int) then 1 else 0) = 0 := if_neg (by omega)
          rw [a2, a3]; try omega
  intro n
  rw [key]; split <;> omega
theorem sum_add (f g : Nat → Nat) : ∀ l : List Nat, (l.map fun k => f k + g k).sum = (l.map f).sum + (l.map g).sum
  | [] => rfl
  | k :: l => by simp only [List.map_cons, List.sum_cons, sum_add f g l]; omega
theorem sum_links (n : Nat) : ∀ es : Edges, ((List.range n).map fun k => (linkRow es k).length).sum ≤ es.length
  | [] => by
    have : (fun k => (linkRow [] k).length) = fun _ => 0 := by funext k; rfl
    rw [this]
    have h : ∀ l : List Nat, (l.map fun _ => 0).sum = 0 := fun l => by induction l with
      | nil => rfl
      | cons a r ih => simp [ih]
    rw [h]; exact Nat.zero_le _
  | e :: es => by
    have he : (fun (k : Nat) => (linkRow (e :: es) k).length) = fun (k : Nat) => (if e.1 = (k : Int) then 1 else 0) + (linkRow es k).length := by
      funext k
      unfold linkRow
      by_cases h : e.1 = (k : Int)
      · rw [if_pos h, List.filter_cons_of_pos (by simpa using h), List.map_cons, List.length_cons]; omega
      · rw [if_neg h, List.filter_cons_of_neg (by simpa using h)]; omega
    rw [he, sum_add (fun (k : Nat) => if e.1 = (k : Int) then 1 else 0) (fun k => (linkRow es k).length), List.length_cons]
    have := one_row e n
    have := sum_links n es
    omega
theorem todo_links (n : Nat) (es : Edges) : todoW (linksF n es) (List.replicate (linksF n es).length false) ≤ n + es.length := by
  unfold todoW
  rw [linksF_len]
  have h1 : ((List.range n).map fun k => if ix (List.replicate n false) k = true then 0 else (ix (linksF n es) k).length + 1) = (List.range n).map fun k => (linkRow es k).length + 1 := by
    apply List.map_congr_left
    intro k hk
    have hk := List.mem_range.1 hk
    rw [linksF_ix es hk, ix_lt (by simpa using hk)]; simp
  rw [h1, sum_add (fun k => (linkRow es k).length) (fun _ => 1)]
  have h2 := sum_links n es
  have h3 : ∀ l : List Nat, (l.map fun _ => 1).sum = l.length := fun l => by induction l with
    | nil => rfl
    | cons a r ih => simp [ih]; omega
  rw [h3, List.length_range]; omega
theorem froms_len (S : SpaceD) (t : Int) : (froms S t).length ≤ S.arcs.length := by
  unfold froms; rw [List.length_map]; exact List.length_filter_le _ _
def fromsTo (S : SpaceD) (t : Int) (j : Nat) : List Int := ((S.arcs.take j).filter fun a => decide (a.tran = t)).map (·.src)
theorem fromsTo_zero (S : SpaceD) (t : Int) : fromsTo S t 0 = [] := rfl
theorem fromsTo_yes {S : SpaceD} {t : Int} {j : Nat} (h : j < S.arcs.length) (ht : (ix S.arcs j).tran = t) : fromsTo S t (j + 1) = fromsTo S t j ++ [(ix S.arcs j).src] := by
  unfold fromsTo; rw [take_ix h, List.filter_append, List.map_append]; simp [ht]
theorem fromsTo_no {S : SpaceD} {t : Int} {j : Nat} (h : j < S.arcs.length) (ht : (ix S.arcs j).tran ≠ t) : fromsTo S t (j + 1) = fromsTo S t j := by
  unfold fromsTo; rw [take_ix h, List.filter_append, List.map_append]; simp [ht]
theorem fromsTo_all (S : SpaceD) (t : Int) : fromsTo S t S.arcs.length = froms S t := by unfold fromsTo froms; rw [List.take_length]
theorem fromsTo_len {S : SpaceD} {t : Int} {j : Nat} : (fromsTo S t j).length ≤ S.arcs.length := by
  unfold fromsTo; rw [List.length_map]
  refine Nat.le_trans (List.length_filter_le _ _) ?_
  rw [List.length_take]; omega
/-- those of the first k for which p holds -/
def pickTo (p : Nat → Bool) (k : Nat) : List Int := ((List.range k).filter p).map Int.ofNat
theorem pickTo_zero (p : Nat → Bool) : pickTo p 0 = [] := rfl
theorem pickTo_yes {p : Nat → Bool} {k : Nat} (h : p k = true) : pickTo p (k + 1) = pickTo p k ++ [(k : Int)] := by unfold pickTo; rw [List.range_succ, List.filter_append]; simp [h]
theorem pickTo_no {p : Nat → Bool} {k : Nat} (h : p k = false) : pickTo p (k + 1) = pickTo p k := by unfold pickTo; rw [List.range_succ, List.filter_append]; simp [h]
theorem pickTo_len (p : Nat → Bool) (k : Nat) : (pickTo p k).length ≤ k := by
  unfold pickTo; rw [List.length_map]; exact Nat.le_trans (List.length_filter_le _ _) (by simp)
def liveP (S : SpaceD) (t : Nat) : Bool := allIn (spreadF (backL S) (froms S (t : Int)))
theorem live_pick {S : SpaceD} (h : sRightB S = true) (trans : Int) : liveF S trans = pickTo (liveP S) (upTo trans) := by unfold liveF; rw [if_pos h]; rfl
def homeP (S : SpaceD) (k : Nat) : Bool := allIn (spreadF (backL S) [(k : Int)])
theorem home_pick {S : SpaceD} (h : sRightB S = true) : homeF S = pickTo (homeP S) S.marks.length := by unfold homeF; rw [if_pos h]; rfl
theorem allIn_def (bs : List Bool) : allIn bs = !(bs.contains false) := rfl
theorem back_edges {S : SpaceD} (h : sRightB S = true) : ∀ k, k < S.arcs.length → ∃ (f : Nat) (t : Int), ix (edgesF S.arcs true) k = ((f : Int), t) ∧ f < S.marks.length := by
  intro k hk
  obtain ⟨i, j, h1, h2, h3, h4⟩ := sRight_arc h (ix_mem hk)
  exact ⟨j, _, by rw [edges_ix hk, if_pos rfl, h2], h4⟩
end Go.Tok
namespace Go.Proofs.Ytelfbfjegmncaaa
open Go.RowKit Go.Tok
set_option linter.unusedVariables false
/-- what hands back a list of ints of its own -/
def RetI (w : World) (xs : List Int) (e : Ending) (w' : World) : Prop := ∃ v', e = .returned v' ∧ OwnI 3 w.heap.size w' v' xs ∧ Gr w w'
theorem RetI.mk {w w' : World} {xs ys : List Int} {base : Nat} {v : Value} (he : xs = ys) (h : OwnI 3 base w' v ys) (hb : w.heap.size ≤ base) (g : Gr w w') : RetI w xs (.returned v) w' := by
  subst he; exact ⟨v, rfl, h.lower hb, g⟩
set_option maxHeartbeats 8000000 in
set_option maxRecDepth 100000 in
theorem Home_calls (v : Value) (S : SpaceD) (w : World) (hv : SpaceR w v S) (hm : S.marks.length ≤ 5864062014805) (ha : S.arcs.length ≤ 5864062014805) :
    Calls Try.prog 23 #[v] w (RetI w (homeF S)) := by
  have T := intTy
  obtain ⟨ma, mc, aa, ac, rfl, hc1, hc2, hc3, hc4, hM, hA⟩ := hv.open_
  have hv' := hv
  have B0 := box_cell (Gr.refl (w.alloc (.cells #[.slice ma S.marks.length mc, .slice aa S.arcs.length ac] 40))) (i := 0) rfl
  have B1 := box_cell (Gr.refl (w.alloc (.cells #[.slice ma S.marks.length mc, .slice aa S.arcs.length ac] 40))) (i := 1) rfl
  have GA : Gr w (w.alloc (.cells #[.slice ma S.marks.length mc, .slice aa S.arcs.length ac] 40)) := (Gr.refl _).alloc _
  cases hr : sRightB S
  · have HC := Lib.hid (show homeF S = [] by unfold homeF; rw [hr]; rfl)
    go_enter Try.func23, Try.ntmps23
    go_wp2_with fail
    refine (SRight_calls _ S _ (hv'.gr GA)).mono ?_
    rw [hr]; rintro _ w1 ⟨rfl, g1⟩
    go_wp2_with fail
    go_ret
    exact RetI.mk HC.out (OwnI.nil _ _ _) (Nat.le_refl _) (GA.trans g1)
  · have HC := Lib.hid (home_pick hr)
    have hok := back_edges hr
    have hbo := back_ok hr
    have hbl := back_len S
    have htd := todo_links S.marks.length (edgesF S.arcs true)
    rw [edges_len] at htd
    have HT := Lib.hid htd
    go_enter Try.func23, Try.ntmps23
    go_wp2_with fail
    refine (SRight_calls _ S _ (hv'.gr GA)).mono ?_
    rw [hr]; rintro _ w1 ⟨rfl, g1⟩
    replace B0 := cell_gr B0 g1
    replace B1 := cell_gr B1 g1
    replace GA := GA.trans g1
    clear g1 htd
    go_wp2_with fail
    refine (links_calls _ S true _ (hv'.gr GA) hok hm ha).mono ?_
    rintro _ w2 ⟨vb, rfl, hb, g2⟩
    replace B0 := cell_gr B0 g2
    replace GA := GA.trans g2
    have hll : (linksF S.marks.length (edgesF S.arcs true)).length = S.marks.length := linksF_len _ _
    obtain ⟨ba, bc, rfl, _, _⟩ := hb.len
    clear g2 B1 hok
    have HLL := Lib.hid hll
    clear hll hbl
    go_wp2_with fail
    go_loopw [4, 14] (fun out q wr => ∃ k : Nat, q = .int .i64 k ∧ k ≤ S.marks.length ∧ OwnI 3 w2.heap.size wr out (pickTo (homeP S) k) ∧ Gr w2 wr) (fun _ q _ => S.marks.length - (intOf q).toNat)
    case atStart => exact ⟨0, rfl, Nat.zero_le _, OwnI.nil _ _ _, Gr.refl _⟩
    case round =>
      rename World => wo
      obtain ⟨k, rfl, hk, ho, hgr⟩ := hrel
      by_cases hlt : k < S.marks.length
      · have GL : Gr wo (wo.alloc (.cells #[.int .i64 (k : Int)] 3)) := (Gr.refl _).alloc _
        have IL : Ints (wo.alloc (.cells #[.int .i64 (k : Int)] 3)) (.slice (some ⟨wo.heap.size, 0, none⟩) 1 1) [(k : Int)] := Ints.lit rfl rfl rfl rfl (by intro x hx; rw [List.mem_singleton.1 hx]; exact i64_nat (by omega)) (by simp)
        have hkI : (k : Int) < (S.marks.length : Int) := by omega
        have hst : ∀ f ∈ [(k : Int)], ∃ j : Nat, f = j ∧ j < (backL S).length := by intro f hf; rw [List.mem_singleton.1 hf]; exact ⟨k, rfl, by rw [back_len]; exact hlt⟩
        have hpl := pickTo_len (homeP S) k
        obtain ⟨oa, oc, rfl, _, _⟩ := ho.ints.len
        go_wp2_with fail
        refine (spread_calls _ _ (backL S) [(k : Int)] _ ((hb.gr hgr).gr GL) IL hbo hst ?_).mono ?_
        · have := HT.out; show todoW (backL S) (List.replicate (backL S).length false) + 1 ≤ _; unfold backL; omega
        rintro _ w5 ⟨v5, rfl, o5, g5⟩
        have G5 : Gr wo w5 := GL.trans g5
        cases hp : homeP S k
        · have hcn : (spreadF (backL S) [(k : Int)]).contains false = true := by unfold homeP at hp; rw [allIn_def] at hp; simpa using hp
          have HS := Lib.hid (pickTo_no hp)
          clear hp
          go_wp2_with fail
          refine (ContainsB_calls _ _ false _ o5.rd).mono ?_
          rw [hcn]; rintro _ _ ⟨rfl, rfl⟩
          go_wp2_with fail
          go_roundw
          case rel => exact ⟨k + 1, by go_num, by omega, by rw [HS.out]; exact ho.gr G5, hgr.trans G5⟩
          case measure => simp [intOf]; omega
        · have hcn : (spreadF (backL S) [(k : Int)]).contains false = false := by unfold homeP at hp; rw [allIn_def] at hp; simpa using hp
          have HS := Lib.hid (pickTo_yes hp)
          have hks : I64 (k : Int) := i64_nat (by omega)
          have hbs := (hgr.trans G5).le
          clear hp
          go_wp2_with fail
          refine (ContainsB_calls _ _ false _ o5.rd).mono ?_
          rw [hcn]; rintro _ _ ⟨rfl, rfl⟩
          go_wp2_with (at_builtin; go_loud (refine app_int T _ _ w2.heap.size _ (pickTo (homeP S) k) ⟨w5.heap.size, 0, none⟩ (k : Int) (by rfl) (by rfl) (by rfl) (by rfl) ((ho.gr G5).alloc _) (lit_cell rfl) hks (by omega) (Nat.le_trans hbs (Gr.le ((Gr.refl _).alloc _))) ?_; intro v' w7 ho7 hgs hgb hat))
          go_roundw
          case rel => exact ⟨k + 1, by go_num, by omega, by rw [HS.out]; exact ho7, hgs w2 (Nat.le_refl _) ((hgr.trans G5).alloc _)⟩
          case measure => simp [intOf]; omega
      · obtain rfl : k = S.marks.length := by omega
        go_wp2_with fail
        go_ret
        exact RetI.mk HC.out ho GA.le (GA.trans hgr)
theorem upTo_min {trans : Int} (h : 0 ≤ min trans 24) : ((upTo trans : Nat) : Int) = min trans 24 := by unfold upTo; omega
set_option maxHeartbeats 8000000 in
set_option maxRecDepth 100000 in
theorem Live_calls (v : Value) (S : SpaceD) (trans : Int) (w : World) (hv : SpaceR w v S) (ht : I64 trans) (hm : S.marks.length ≤ 5864062014805) (ha : S.arcs.length ≤ 5864062014805) :
    Calls Try.prog 22 #[v, .int .i64 trans] w (RetI w (liveF S trans)) := by
  have T := intTy
  have ht1 := ht.1
  have ht2 := ht.2
  obtain ⟨ma, mc, aa, ac, rfl, hc1, hc2, hc3, hc4, hM, hA⟩ := hv.open_
  have hv' := hv
  have B0 := box_cell (Gr.refl (w.alloc (.cells #[.slice ma S.marks.length mc, .slice aa S.arcs.length ac] 40))) (i := 0) rfl
  have B1 := box_cell (Gr.refl (w.alloc (.cells #[.slice ma S.marks.length mc, .slice aa S.arcs.length ac] 40))) (i := 1) rfl
  have GA : Gr w (w.alloc (.cells #[.slice ma S.marks.length mc, .slice aa S.arcs.length ac] 40)) := (Gr.refl _).alloc _
  cases hr : sRightB S
  · have HC := Lib.hid (show liveF S trans = [] by unfold liveF; rw [hr]; rfl)
    go_enter Try.func22, Try.ntmps22
    go_wp2_with fail
    refine (SRight_calls _ S _ (hv'.gr GA)).mono ?_
    rw [hr]; rintro _ w1 ⟨rfl, g1⟩
    go_wp2_with fail
    go_ret
    exact RetI.mk HC.out (OwnI.nil _ _ _) (Nat.le_refl _) (GA.trans g1)
  · have HC := Lib.hid (live_pick hr trans)
    have hok := back_edges hr
    have hbo := back_ok hr
    have htd := todo_links S.marks.length (edgesF S.arcs true)
    rw [edges_len] at htd
    have HT := Lib.hid htd
    have HF := Lib.hid (froms_ok hr)
    rcases (show trans ≤ 24 ∨ 24 < trans by omega) with h24 | h24
    · have hmin : min trans 24 = trans := by omega
      have hup : upTo trans = trans.toNat := by unfold upTo; rw [hmin]
      rw [hup] at HC
      have hmu : trans ≤ 24 := h24
      clear hup
      go_enter Try.func22, Try.ntmps22
      go_wp2_with fail
      refine (SRight_calls _ S _ (hv'.gr GA)).mono ?_
      rw [hr]; rintro _ w1 ⟨rfl, g1⟩
      replace B0 := cell_gr B0 g1
      replace B1 := cell_gr B1 g1
      replace GA := GA.trans g1
      clear g1 htd
      go_wp2_with fail
      refine (links_calls _ S true _ (hv'.gr GA) hok hm ha).mono ?_
      rintro _ w2 ⟨vb, rfl, hb, g2⟩
      replace B0 := cell_gr B0 g2
      replace B1 := cell_gr B1 g2
      replace GA := GA.trans g2
      have HLL := Lib.hid (linksF_len S.marks.length (edgesF S.arcs true))
      obtain ⟨ba, bc, rfl, _, _⟩ := hb.len
      clear g2 B0 hok
      go_wp2_with fail
      go_loopw [6, 18] (fun out q wr => ∃ k : Nat, q = .int .i64 k ∧ k ≤ (trans).toNat ∧ OwnI 3 w2.heap.size wr out (pickTo (liveP S) k) ∧ Gr w2 wr) (fun _ q _ => (trans).toNat - (intOf q).toNat)
      case atStart => exact ⟨0, rfl, Nat.zero_le _, OwnI.nil _ _ _, Gr.refl _⟩
      case round =>
        rename World => wo
        obtain ⟨k, rfl, hk, ho, hgr⟩ := hrel
        by_cases hlt : (k : Int) < (trans)
        · have hpl := pickTo_len (liveP S) k
          obtain ⟨oa, oc, rfl, _, _⟩ := ho.ints.len
          have B1' := cell_gr B1 hgr
          have hkm : k < (trans).toNat := by omega
          go_wp2_with fail
          go_loopw [8, 24] (fun fr q wr => ∃ j : Nat, q = .int .i64 j ∧ j ≤ S.arcs.length ∧ OwnI 3 wo.heap.size wr fr (fromsTo S (k : Int) j) ∧ Gr wo wr) (fun _ q _ => S.arcs.length - (intOf q).toNat)
          case atStart => exact ⟨0, rfl, Nat.zero_le _, OwnI.nil _ _ _, Gr.refl _⟩
          case round =>
            rename World => wi
            obtain ⟨j, rfl, hj, hf, hgi⟩ := hrel
            obtain ⟨fa, fc, rfl, _, _⟩ := hf.ints.len
            obtain ⟨nf, hnf⟩ : ∃ nf, nf = (fromsTo S (k : Int) j).length := ⟨_, rfl⟩
            rw [← hnf] at hf ⊢
            clear hnf
            by_cases hjl : j < S.arcs.length
            · obtain ⟨ab, ao, rfl, c0, c1, c2, hI⟩ := (hA.gr ((GA.trans hgr).trans hgi)).arc hjl
              have GX : Gr wi (wi.alloc (.cells #[.int .i64 (ix S.arcs j).src, .int .i64 (ix S.arcs j).tran, .int .i64 (ix S.arcs j).dst] 56)) := (Gr.refl _).alloc _
              have A0 : (wi.alloc (.cells #[.int .i64 (ix S.arcs j).src, .int .i64 (ix S.arcs j).tran, .int .i64 (ix S.arcs j).dst] 56)).cell? ⟨wi.heap.size, 0, none⟩ = some (.int .i64 (ix S.arcs j).src) := box_cell (Gr.refl _) (i := 0) rfl
              have A1 : (wi.alloc (.cells #[.int .i64 (ix S.arcs j).src, .int .i64 (ix S.arcs j).tran, .int .i64 (ix S.arcs j).dst] 56)).cell? ⟨wi.heap.size, 1, none⟩ = some (.int .i64 (ix S.arcs j).tran) := box_cell (Gr.refl _) (i := 1) rfl
              have hjI : (j : Int) < (S.arcs.length : Int) := by omega
              have hsI := hI.1
              have hfl := fromsTo_len (S := S) (t := (k : Int)) (j := j)
              have hwi := hgi.le
              by_cases htr : (ix S.arcs j).tran = (k : Int)
              · have HS := Lib.hid (fromsTo_yes hjl htr)
                have q1 : ((ix S.arcs j).tran == (k : Int)) = true := by simpa using htr
                clear htr hI
                go_wp2_with (at_builtin; go_loud (refine app_int T _ _ wo.heap.size _ (fromsTo S (k : Int) j) ⟨wi.heap.size + 1, 0, none⟩ (ix S.arcs j).src (by rfl) (by rfl) (by rfl) (by rfl) ((hf.gr GX).alloc _) (lit_cell (by simp)) hsI (by omega) (Nat.le_trans hwi (Gr.le (GX.alloc _))) ?_; intro v' w7 ho7 hgs hgb hat))
                go_roundw
                case rel => exact ⟨j + 1, by go_num, by omega, by rw [HS.out]; exact ho7, hgs wo (Nat.le_refl _) (hgi.trans (GX.alloc _))⟩
                case measure => simp [intOf]; omega
              · have HS := Lib.hid (fromsTo_no hjl htr)
                have q1 : ((ix S.arcs j).tran == (k : Int)) = false := by simpa using htr
                clear htr hI
                go_wp2_with fail
                go_roundw
                case rel => exact ⟨j + 1, by go_num, by omega, by rw [HS.out]; exact hf.gr GX, hgi.trans GX⟩
                case measure => simp [intOf]; omega
            · obtain rfl : j = S.arcs.length := by omega
              rw [fromsTo_all] at hf
              have hfl := froms_len S (k : Int)
              have GK := hgr.trans hgi
              go_wp2_with fail
              refine (spread_calls _ _ (backL S) (froms S (k : Int)) _ (hb.gr GK) ?_ hbo (HF.out _) ?_).mono ?_
              · exact hf.ints
              · have := HT.out; show todoW (backL S) (List.replicate (backL S).length false) + _ ≤ _; unfold backL; omega
              rintro _ w5 ⟨v5, rfl, o5, g5⟩
              have G5 : Gr wo w5 := hgi.trans g5
              cases hp : liveP S k
              · have hcn : (spreadF (backL S) (froms S (k : Int))).contains false = true := by unfold liveP at hp; rw [allIn_def] at hp; simpa using hp
                have HS := Lib.hid (pickTo_no hp)
                clear hp
                go_wp2_with fail
                refine (ContainsB_calls _ _ false _ o5.rd).mono ?_
                rw [hcn]; rintro _ _ ⟨rfl, rfl⟩
                go_wp2_with fail
                go_roundw
                case rel => exact ⟨k + 1, by go_num, by omega, by rw [HS.out]; exact ho.gr G5, hgr.trans G5⟩
                case measure => simp [intOf]; omega
              · have hcn : (spreadF (backL S) (froms S (k : Int))).contains false = false := by unfold liveP at hp; rw [allIn_def] at hp; simpa using hp
                have HS := Lib.hid (pickTo_yes hp)
                have hks : I64 (k : Int) := i64_nat (by omega)
                have hbs := (hgr.trans G5).le
                clear hp
                go_wp2_with fail
                refine (ContainsB_calls _ _ false _ o5.rd).mono ?_
                rw [hcn]; rintro _ _ ⟨rfl, rfl⟩
                go_wp2_with (at_builtin; go_loud (refine app_int T _ _ w2.heap.size _ (pickTo (liveP S) k) ⟨w5.heap.size, 0, none⟩ (k : Int) (by rfl) (by rfl) (by rfl) (by rfl) ((ho.gr G5).alloc _) (lit_cell rfl) hks (by omega) (Nat.le_trans hbs (Gr.le ((Gr.refl _).alloc _))) ?_; intro v' w7 ho7 hgs hgb hat))
                go_roundw
                case rel => exact ⟨k + 1, by go_num, by omega, by rw [HS.out]; exact ho7, hgs w2 (Nat.le_refl _) ((hgr.trans G5).alloc _)⟩
                case measure => simp [intOf]; omega
        · obtain rfl : k = (trans).toNat := by omega
          have hge : (trans) ≤ (((trans).toNat : Nat) : Int) := by omega
          go_wp2_with fail
          go_ret
          exact RetI.mk HC.out ho GA.le (GA.trans hgr)
    · have hmin : min trans 24 = 24 := by omega
      have hup : upTo trans = (24 : Int).toNat := by unfold upTo; rw [hmin]
      rw [hup] at HC
      clear hup
      go_enter Try.func22, Try.ntmps22
      go_wp2_with fail
      refine (SRight_calls _ S _ (hv'.gr GA)).mono ?_
      rw [hr]; rintro _ w1 ⟨rfl, g1⟩
      replace B0 := cell_gr B0 g1
      replace B1 := cell_gr B1 g1
      replace GA := GA.trans g1
      clear g1 htd
      go_wp2_with fail
      refine (links_calls _ S true _ (hv'.gr GA) hok hm ha).mono ?_
      rintro _ w2 ⟨vb, rfl, hb, g2⟩
      replace B0 := cell_gr B0 g2
      replace B1 := cell_gr B1 g2
      replace GA := GA.trans g2
      have HLL := Lib.hid (linksF_len S.marks.length (edgesF S.arcs true))
      obtain ⟨ba, bc, rfl, _, _⟩ := hb.len
      clear g2 B0 hok
      go_wp2_with fail
      go_loopw [6, 18] (fun out q wr => ∃ k : Nat, q = .int .i64 k ∧ k ≤ ((24 : Int)).toNat ∧ OwnI 3 w2.heap.size wr out (pickTo (liveP S) k) ∧ Gr w2 wr) (fun _ q _ => ((24 : Int)).toNat - (intOf q).toNat)
      case atStart => exact ⟨0, rfl, Nat.zero_le _, OwnI.nil _ _ _, Gr.refl _⟩
      case round =>
        rename World => wo
        obtain ⟨k, rfl, hk, ho, hgr⟩ := hrel
        by_cases hlt : (k : Int) < ((24 : Int))
        · have hpl := pickTo_len (liveP S) k
          obtain ⟨oa, oc, rfl, _, _⟩ := ho.ints.len
          have B1' := cell_gr B1 hgr
          have hkm : k < ((24 : Int)).toNat := by omega
          go_wp2_with fail
          go_loopw [8, 24] (fun fr q wr => ∃ j : Nat, q = .int .i64 j ∧ j ≤ S.arcs.length ∧ OwnI 3 wo.heap.size wr fr (fromsTo S (k : Int) j) ∧ Gr wo wr) (fun _ q _ => S.arcs.length - (intOf q).toNat)
          case atStart => exact ⟨0, rfl, Nat.zero_le _, OwnI.nil _ _ _, Gr.refl _⟩
          case round =>
            rename World => wi
            obtain ⟨j, rfl, hj, hf, hgi⟩ := hrel
            obtain ⟨fa, fc, rfl, _, _⟩ := hf.ints.len
            obtain ⟨nf, hnf⟩ : ∃ nf, nf = (fromsTo S (k : Int) j).length := ⟨_, rfl⟩
            rw [← hnf] at hf ⊢
            clear hnf
            by_cases hjl : j < S.arcs.length
            · obtain ⟨ab, ao, rfl, c0, c1, c2, hI⟩ := (hA.gr ((GA.trans hgr).trans hgi)).arc hjl
              have GX : Gr wi (wi.alloc (.cells #[.int .i64 (ix S.arcs j).src, .int .i64 (ix S.arcs j).tran, .int .i64 (ix S.arcs j).dst] 56)) := (Gr.refl _).alloc _
              have A0 : (wi.alloc (.cells #[.int .i64 (ix S.arcs j).src, .int .i64 (ix S.arcs j).tran, .int .i64 (ix S.arcs j).dst] 56)).cell? ⟨wi.heap.size, 0, none⟩ = some (.int .i64 (ix S.arcs j).src) := box_cell (Gr.refl _) (i := 0) rfl
              have A1 : (wi.alloc (.cells #[.int .i64 (ix S.arcs j).src, .int .i64 (ix S.arcs j).tran, .int .i64 (ix S.arcs j).dst] 56)).cell? ⟨wi.heap.size, 1, none⟩ = some (.int .i64 (ix S.arcs j).tran) := box_cell (Gr.refl _) (i := 1) rfl
              have hjI : (j : Int) < (S.arcs.length : Int) := by omega
              have hsI := hI.1
              have hfl := fromsTo_len (S := S) (t := (k : Int)) (j := j)
              have hwi := hgi.le
              by_cases htr : (ix S.arcs j).tran = (k : Int)
              · have HS := Lib.hid (fromsTo_yes hjl htr)
                have q1 : ((ix S.arcs j).tran == (k : Int)) = true := by simpa using htr
                clear htr hI
                go_wp2_with (at_builtin; go_loud (refine app_int T _ _ wo.heap.size _ (fromsTo S (k : Int) j) ⟨wi.heap.size + 1, 0, none⟩ (ix S.arcs j).src (by rfl) (by rfl) (by rfl) (by rfl) ((hf.gr GX).alloc _) (lit_cell (by simp)) hsI (by omega) (Nat.le_trans hwi (Gr.le (GX.alloc _))) ?_; intro v' w7 ho7 hgs hgb hat))
                go_roundw
                case rel => exact ⟨j + 1, by go_num, by omega, by rw [HS.out]; exact ho7, hgs wo (Nat.le_refl _) (hgi.trans (GX.alloc _))⟩
                case measure => simp [intOf]; omega
              · have HS := Lib.hid (fromsTo_no hjl htr)
                have q1 : ((ix S.arcs j).tran == (k : Int)) = false := by simpa using htr
                clear htr hI
                go_wp2_with fail
                go_roundw
                case rel => exact ⟨j + 1, by go_num, by omega, by rw [HS.out]; exact hf.gr GX, hgi.trans GX⟩
                case measure => simp [intOf]; omega
            · obtain rfl : j = S.arcs.length := by omega
              rw [fromsTo_all] at hf
              have hfl := froms_len S (k : Int)
              have GK := hgr.trans hgi
              go_wp2_with fail
              refine (spread_calls _ _ (backL S) (froms S (k : Int)) _ (hb.gr GK) ?_ hbo (HF.out _) ?_).mono ?_
              · exact hf.ints
              · have := HT.out; show todoW (backL S) (List.replicate (backL S).length false) + _ ≤ _; unfold backL; omega
              rintro _ w5 ⟨v5, rfl, o5, g5⟩
              have G5 : Gr wo w5 := hgi.trans g5
              cases hp : liveP S k
              · have hcn : (spreadF (backL S) (froms S (k : Int))).contains false = true := by unfold liveP at hp; rw [allIn_def] at hp; simpa using hp
                have HS := Lib.hid (pickTo_no hp)
                clear hp
                go_wp2_with fail
                refine (ContainsB_calls _ _ false _ o5.rd).mono ?_
                rw [hcn]; rintro _ _ ⟨rfl, rfl⟩
                go_wp2_with fail
                go_roundw
                case rel => exact ⟨k + 1, by go_num, by omega, by rw [HS.out]; exact ho.gr G5, hgr.trans G5⟩
                case measure => simp [intOf]; omega
              · have hcn : (spreadF (backL S) (froms S (k : Int))).contains false = false := by unfold liveP at hp; rw [allIn_def] at hp; simpa using hp
                have HS := Lib.hid (pickTo_yes hp)
                have hks : I64 (k : Int) := i64_nat (by omega)
                have hbs := (hgr.trans G5).le
                clear hp
                go_wp2_with fail
                refine (ContainsB_calls _ _ false _ o5.rd).mono ?_
                rw [hcn]; rintro _ _ ⟨rfl, rfl⟩
                go_wp2_with (at_builtin; go_loud (refine app_int T _ _ w2.heap.size _ (pickTo (liveP S) k) ⟨w5.heap.size, 0, none⟩ (k : Int) (by rfl) (by rfl) (by rfl) (by rfl) ((ho.gr G5).alloc _) (lit_cell rfl) hks (by omega) (Nat.le_trans hbs (Gr.le ((Gr.refl _).alloc _))) ?_; intro v' w7 ho7 hgs hgb hat))
                go_roundw
                case rel => exact ⟨k + 1, by go_num, by omega, by rw [HS.out]; exact ho7, hgs w2 (Nat.le_refl _) ((hgr.trans G5).alloc _)⟩
                case measure => simp [intOf]; omega
        · obtain rfl : k = ((24 : Int)).toNat := by omega
          have hge : ((24 : Int)) ≤ ((((24 : Int)).toNat : Nat) : Int) := by omega
          go_wp2_with fail
          go_ret
          exact RetI.mk HC.out ho GA.le (GA.trans hgr)
end Go.Proofs.Ytelfbfjegmncaaa
