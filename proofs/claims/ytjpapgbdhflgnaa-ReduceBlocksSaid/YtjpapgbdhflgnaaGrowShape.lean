/- The net of a block has a shape. No program is in sight here. -/
import Derived.Test.YtjpapgbdhflgnaaGP
import Derived.Test.YtjpapgbdhflgnaaGS
namespace Go.Tok
open Go.RowKit Go.Proofs.Ytjpapgbdhflgnaa
set_option linter.unusedVariables false
section
variable {s : GS} {A : Mk → Prop}
theorem grown_shape (ok : GOk s) (hA : SoundA 0 1 2 s.places s.links A) : shapeC (netOf s) 0 1 = 0 := by
  have hlo := ok.lo
  have hok := grown_net ok
  have e1 : (netOf s).places = s.places := rfl
  have he : (netOf s).trans.any (endB 0 1) = false := by
    rw [List.any_eq_false]
    intro t ht hb
    obtain ⟨k, hk, rfl⟩ := List.getElem_of_mem ht
    have hk' : k < s.links.length := by rwa [net_len] at hk
    have hm := ix_mem hk'
    have ht' : (netOf s).trans[k] = (netOf s).tr k := by unfold NetD.tr; simp [hk]
    rw [ht'] at hb
    unfold endB at hb
    rw [link_post ok hk', link_pre ok hk'] at hb
    have z1 : useM (ix s.links k).post ((0 : Nat) : Int) = 0 := useM_out fun h => by
      rcases hA.post _ hm with e | ⟨_, e⟩
      · rw [e] at h; have := List.mem_singleton.1 h; omega
      · have := e _ h; omega
    have z2 : useM (ix s.links k).pre ((1 : Nat) : Int) = 0 := useM_out fun h => by
      rcases hA.pre _ hm with e | ⟨_, e⟩
      · rw [e] at h; have := List.mem_singleton.1 h; omega
      · have := e _ h; omega
    rw [z1, z2] at hb
    simp at hb
  have := shapeC_walk hok (i := 0) (o := 1) (by rw [e1]; simp; omega) he
  have e2 : shapeC (netOf s) 0 1 = shapeC (netOf s) ((0 : Nat) : Int) ((1 : Nat) : Int) := rfl
  rw [e2, this, if_neg (by have := fore_full ok hA; have := back_full ok hA; omega)]
end
end Go.Tok
