import Derived.Test.YtemdfjdmokbcoaaGreatDoorMoreLex0
import Derived.Maps.OwnSet
import Derived.Maps.OwnOps
set_option linter.unusedVariables false
set_option linter.unusedSimpArgs false
namespace Go.Proofs.YtemdfjdmokbcoaaGreatDoor.T
open Go.RowKit Go.Proofs.YtemdfjdmokbcoaaGreatDoorW.PrintWords
open Go.Maps (Keyed Tidy has size)
def MapW {κ ε:Type} (P:Program) (k e:TypeId) (kf:κ → Lit) (ef:ε → Lit) (z:ε) (ok:κ → Prop) (w:World) (b n:Nat) (S:κ → Bool) (F:κ → ε):Prop :=
  ∃ D:DataW Unit,w.ownsMap P k (plainElem P e) b n D ∧ Tidy D ∧ (∀ a,ok a → D.atKey (kf a) (.lit (ef z)) = .lit (ef (F a))) ∧ (∀ a,ok a → has D (kf a) = S a) ∧ size D = n
section
variable {κ ε:Type} {P:Program} {k e:TypeId} {kf:κ → Lit} {ef:ε → Lit} {z:ε} {ok:κ → Prop} {w w1:World} {b n:Nat} {S:κ → Bool} {F:κ → ε}
theorem own_size {D:DataW Unit} {R:Value → Option (DataW Unit × List MemPlace)} (h:w.ownsMap P k R b n D):w.ownsMap P k R b (size D) D:=by
  obtain ⟨es,clock,hb,F,hs,rfl⟩:=h
  exact ⟨es,clock,hb,F,by simp [size,length_sorted],rfl⟩
theorem MapW.made (w:World):MapW P k e kf ef z ok (w.alloc (.map #[] 0)) w.heap.size 0 (fun _=>false) (fun _=>z) :=
  ⟨.map [],World.ownsMap_made w P k _,Go.Maps.tidy_empty,fun _ _=>rfl,fun _ _=>rfl,rfl⟩
theorem MapW.lt (h:MapW P k e kf ef z ok w b n S F):b < w.heap.size:=by obtain ⟨D,h1,_⟩:=h;exact h1.lt
theorem MapW.kept (h:MapW P k e kf ef z ok w b n S F) {row:Option Nat} (hg:w.grownBy w1 row) (hne:some b ≠ row):MapW P k e kf ef z ok w1 b n S F:=by
  obtain ⟨D,h1,h2⟩:=h
  exact ⟨D,h1.kept hg hne,h2⟩
theorem MapW.below (h:MapW P k e kf ef z ok w b n S F) (hb:Below w.heap.size w w1):MapW P k e kf ef z ok w1 b n S F:=h.kept (grown_of_below hb none) (by simp)
theorem MapW.alloc (h:MapW P k e kf ef z ok w b n S F) (o:Obj):MapW P k e kf ef z ok (w.alloc o) b n S F:=h.below (below_alloc (Below.refl _ _) o)
theorem MapW.drewN (h:MapW P k e kf ef z ok w b n S F) (m:Nat):MapW P k e kf ef z ok (w.drewN m) b n S F:=h.below (pw_below_drewN (Below.refl _ _) m)
theorem MapW.drew (h:MapW P k e kf ef z ok w b n S F):MapW P k e kf ef z ok w.drew b n S F:=h.below (below_drew (Below.refl _ _))
theorem MapW.put [DecidableEq κ] (K : Keyed P k) (hinj : ∀ a c, kf a = kf c → a = c) (hkl : ∀ a, WideAt.IsKeyLit (kf a)) {t : TypeId} (ht : P.underlying t = some (.map k e)) (h : MapW P k e kf ef z ok w b n S F) (hn : n < maxLen)
    {key val:Value} (a:κ) (x:ε) (ha:ok a) (hkey:keyOf P k key = some (kf a)) (hval:plainElem (H:=Unit) P e val = some (.lit (ef x),[])) :
    ∃ w', (Instr.mapUpdate t (.map (some b)) key val).run P w = .ok () w' ∧ MapW P k e kf ef z ok w' b (if S a then n else n + 1) (fun c=>if c = a then true else S c) (fun c=>if c = a then x else F c) ∧ w.grownBy w' (some b):=by
  obtain ⟨D,h1,h2,h3,h4,h5⟩:=h
  obtain ⟨w', hrun,r1,r2⟩:=h1.update K ht hn hkey hval
  have hs:=Go.Maps.size_put (k:=kf a) h2 (.lit (ef x))
  rw [h4 a ha,h5] at hs
  refine ⟨w', hrun,⟨D.put (kf a) (.lit (ef x)),?_,h2.put (hkl a) _,fun c hc=>?_,fun c hc=>?_,hs⟩,r2⟩
  · have:=own_size r1
    rwa [hs] at this
  · by_cases e1:c = a
    · subst e1
      simp only [if_true]
      exact Go.Maps.atKey_put_same h2.isMap (hkl c) _ _
    · simp only [if_neg e1]
      rw [Go.Maps.atKey_put_other (fun e2=>e1 (hinj _ _ e2)),h3 c hc]
  · by_cases e1:c = a
    · subst e1
      simp only [if_true]
      exact Go.Maps.has_put_same h2.isMap (hkl c) _
    · simp only [if_neg e1]
      rw [Go.Maps.has_put_other (fun e2=>e1 (hinj _ _ e2)),h4 c hc]
section
variable {ops:Array Oper} {rest:List Oper} {o:Oper} {A:Act} {Q:Exit → Act → World → Prop}
end
end
end Go.Proofs.YtemdfjdmokbcoaaGreatDoor.T
