/- Contract of a hall's do, where something cannot be written down. -/
import Derived.Test.YtidpppfimkhgkaaHall2
namespace Go.Proofs.Ytidpppfimkhgkaa
open Go.RowKit Go.Tok
set_option linter.unusedVariables false
set_option linter.unusedSimpArgs false
/-- what a hall's own method hands back: the hall as it is now -/
def RetH (fb : Nat) (tF : TypeId) (cF : Array Value) (w0 : World) (N : NetD) (a : Option Addr) (cap : Nat) (i : Int) (ra : Option Addr) (rn rc : Nat) (hb : Nat) (out : Value) (l : List AnsD) (h : HalD) (w : World) : Prop :=
  ∃ dv bv, Blk w hb 160 #[.int .i64 N.places, .slice a N.trans.length cap, .int .i64 i, .slice ra rn rc, dv, bv, .int .i64 (h.sure : Int)] ∧ HOwn 59 5 75 w0 hb fb tF cF out l dv h.done bv (wrL h.done) w
theorem RetH.mv {fb : Nat} {tF : TypeId} {cF : Array Value} {w0 w w' : World} {N : NetD} {a : Option Addr} {cap : Nat} {i : Int} {ra : Option Addr} {rn rc : Nat} {hb : Nat} {out : Value} {l : List AnsD} {h : HalD} (H : RetH fb tF cF w0 N a cap i ra rn rc hb out l h w) (g : Gr w w') : RetH fb tF cF w0 N a cap i ra rn rc hb out l h w' := by
  obtain ⟨dv, bv, h1, h2⟩ := H
  exact ⟨dv, bv, h1.gr g, h2.mv g⟩
theorem RetH.gr {fb : Nat} {tF : TypeId} {cF : Array Value} {w0 w : World} {N : NetD} {a : Option Addr} {cap : Nat} {i : Int} {ra : Option Addr} {rn rc : Nat} {hb : Nat} {out : Value} {l : List AnsD} {h : HalD} (H : RetH fb tF cF w0 N a cap i ra rn rc hb out l h w) : Gr w0 w := by
  obtain ⟨dv, bv, h1, h2⟩ := H
  exact h2.gr
set_option maxHeartbeats 4000000 in
set_option maxRecDepth 100000 in
theorem hdo_bad_calls {fb : Nat} {tF : TypeId} {cF : Array Value} {N : NetD} {i : Int} {w0 w : World} {hb : Nat} {a ra : Option Addr} {cap rn rc : Nat} {out : Value} {l : List AnsD} {h : HalD} {o : OpD} (HH : RetH fb tF cF w0 N a cap i ra rn rc hb out l h w) (ho : opI o) (hbad : opOkB o = false) :
    Calls Try.prog 78 #[.pointer (some ⟨hb, 0, none⟩), .agg #[.int .i64 o.kind, .int .i64 o.user, .int .i64 o.tran, .int .i64 o.item, .int .i64 o.to]] w fun e w' => e = .returned (.agg #[.int .i64 2, .int .i64 0]) ∧ RetH fb tF cF w0 N a cap i ra rn rc hb out l h w' := by
  have HG := Lib.hid HH
  clear HH
  have b0 : Blk ((w.alloc (.cells #[.int .i64 o.kind, .int .i64 o.user, .int .i64 o.tran, .int .i64 o.item, .int .i64 o.to] 59)).alloc (.cells #[.int .i64 0, .int .i64 0] 75)) w.heap.size 59 #[.int .i64 o.kind, .int .i64 o.user, .int .i64 o.tran, .int .i64 o.item, .int .i64 o.to] := (Blk.new rfl).gr ((Gr.refl _).alloc _)
  have bA : Blk ((w.alloc (.cells #[.int .i64 o.kind, .int .i64 o.user, .int .i64 o.tran, .int .i64 o.item, .int .i64 o.to] 59)).alloc (.cells #[.int .i64 0, .int .i64 0] 75)) (w.heap.size + 1) 75 #[.int .i64 0, .int .i64 0] := Blk.new (by simp)
  have GA : Gr w ((w.alloc (.cells #[.int .i64 o.kind, .int .i64 o.user, .int .i64 o.tran, .int .i64 o.item, .int .i64 o.to] 59)).alloc (.cells #[.int .i64 0, .int .i64 0] 75)) := ((Gr.refl _).alloc _).alloc _
  have P0 := b0.cell (i := 0) (v := .int .i64 o.kind) rfl
  have P1 := b0.cell (i := 1) (v := .int .i64 o.user) rfl
  have P2 := b0.cell (i := 2) (v := .int .i64 o.tran) rfl
  have P3 := b0.cell (i := 3) (v := .int .i64 o.item) rfl
  have P4 := b0.cell (i := 4) (v := .int .i64 o.to) rfl
  go_enter Try.func78, Try.ntmps78
  go_wp2_with fail
  generalize (w.alloc (.cells #[.int .i64 o.kind, .int .i64 o.user, .int .i64 o.tran, .int .i64 o.item, .int .i64 o.to] 59)).alloc (.cells #[.int .i64 0, .int .i64 0] 75) = wA at b0 bA GA P0 P1 P2 P3 P4 ⊢
  refine (Write_bad o _ ho hbad).mono ?_
  rintro _ w1 ⟨rfl, g1⟩
  replace bA := bA.gr g1
  have A0 := bA.cell (i := 0) (v := .int .i64 0) rfl
  have AF0 := bA.frozen 0
  have ba1 := bA.set 0 (.int .i64 2)
  have A1 := ba1.cell (i := 1) (v := .int .i64 0) rfl
  have AF1 := ba1.frozen 1
  have ba2 := ba1.set 1 (.int .i64 0)
  have Z0 := ba2.cell (i := 0) (v := .int .i64 2) rfl
  have Z1 := ba2.cell (i := 1) (v := .int .i64 0) rfl
  have GZ : Gr w ((w1.setCell ⟨w.heap.size + 1, 0, none⟩ (.int .i64 2)).setCell ⟨w.heap.size + 1, 1, none⟩ (.int .i64 0)) := ((GA.trans g1).setCell (p := ⟨w.heap.size + 1, 0, none⟩) (by simp) _).setCell (p := ⟨w.heap.size + 1, 1, none⟩) (by simp) _
  have HZ := Lib.hid (HG.out.mv GZ)
  clear b0 bA ba1 ba2 GA g1 GZ P0 P1 P2 P3 P4
  go_wp2_with fail
  refine bodyPost_ret (v := .agg #[.int .i64 2, .int .i64 0]) (by simp [results, Try.results78, go_sem, Z0, Z1]) rfl ?_
  exact ⟨rfl, HZ.out⟩
end Go.Proofs.Ytidpppfimkhgkaa
