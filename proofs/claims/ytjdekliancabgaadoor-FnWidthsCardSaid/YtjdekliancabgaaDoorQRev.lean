import Derived.Test.YtjdekliancabgaaDoorQOrder
set_option linter.unusedVariables false
set_option linter.unusedSimpArgs false
namespace Go.Proofs.YtjdekliancabgaaDoor.Q
open Go.RowKit Go.Proofs.YtjdekliancabgaaDoorW.PrintWords
section
variable (f:Nat → Nat → Bool)
theorem Meets.greatest (hs:∀ a b,f a b = f b a) {u v p a b:List Nat} (h:Meets f u v p a b):∀ {q x y:List Nat},cutP f q u = some x → cutP f q v = some y → ∃ z,cutP f q p = some z:=by
  intro q
  induction q generalizing u v p with
  | nil=>intro x y _ _;exact ⟨p,rfl⟩
  | cons c q ih =>
    intro x y h1 h2
    have g1:=cutP_first f hs h1 (isFirst_head f c q)
    have g2:=cutP_first f hs h2 (isFirst_head f c q)
    have g3:=Meets.first f hs h g1 g2
    obtain ⟨k1,k2,k3⟩:=h
    rw [cutP_cons,if_pos g1] at h1
    rw [cutP_cons,if_pos g2] at h2
    rw [cutP_erase f hs g3 g1] at k1
    rw [cutP_erase f hs g3 g2] at k2
    obtain ⟨z,hz⟩:=ih ⟨k1,k2,k3⟩ h1 h2
    exact ⟨z,by rw [cutP_cons,if_pos g3];exact hz⟩
theorem Meets.symm {u v p a b:List Nat} (h:Meets f u v p a b):Meets f v u p b a:=⟨h.2.1,h.1,fun c hc=>h.2.2 c ⟨hc.2,hc.1⟩⟩
theorem Meets.TrEq (hs:∀ a b,f a b = f b a) {u v p a b u' v' : List Nat} (h:Meets f u v p a b) (hu:Q.TrEq f u u') (hv:Q.TrEq f v v'):∃ a' b', Meets f u' v' p a' b' ∧ Q.TrEq f a a' ∧ Q.TrEq f b b' := by
  obtain ⟨a', a1,a2⟩:=cutP_TrEq_right f hs hu h.1
  obtain ⟨b', b1,b2⟩:=cutP_TrEq_right f hs hv h.2.1
  exact ⟨a', b', ⟨a1,b1,fun c hc=>h.2.2 c ⟨by rw [(TrEq.first f hs a2 c).1];exact hc.1,by rw [(TrEq.first f hs b2 c).1];exact hc.2⟩⟩,a2,b2⟩
end
end Go.Proofs.YtjdekliancabgaaDoor.Q
