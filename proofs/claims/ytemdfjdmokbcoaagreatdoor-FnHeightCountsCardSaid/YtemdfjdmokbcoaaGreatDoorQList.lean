import Derived.Test.YtemdfjdmokbcoaaGreatDoorMoreLex0
set_option linter.unusedVariables false
set_option linter.unusedSimpArgs false
namespace Go.Proofs.YtemdfjdmokbcoaaGreatDoor.T
open Go.RowKit Go.Proofs.YtemdfjdmokbcoaaGreatDoorW.PrintWords
structure IntsKeep (e:Nat) (w w' : World):Prop where
  size:w.heap.size ≤ w'.heap.size
  ints:∀ (k:Nat) (c:Array Value),w.heap[k]? = some (.cells c e (0,0)) → w'.heap[k]? = w.heap[k]?
section
variable {e:Nat} {w w1 w2:World}
theorem keep_ints_refl (e:Nat) (w:World):IntsKeep e w w:=⟨Nat.le_refl _,fun _ _ _=>rfl⟩
theorem keep_ints_trans (h1:IntsKeep e w w1) (h2:IntsKeep e w1 w2):IntsKeep e w w2 :=
  ⟨Nat.le_trans h1.size h2.size,fun k c hc=>(h2.ints k c ((h1.ints k c hc).trans hc)).trans (h1.ints k c hc)⟩
theorem keep_ints_below (hb:Below w.heap.size w w1):IntsKeep e w w1:=⟨hb.size,fun k c hc=>hb.block k (blk_lt hc)⟩
theorem keep_ints_grown {row:Option Nat} (hg:w.grownBy w1 row) (h:∀ k,row = some k → ∃ (c:Array Value) (t:Nat),w.heap[k]? = some (.cells c t (0,0)) ∧ t ≠ e):IntsKeep e w w1 :=
  ⟨hg.size,fun k c hc=>hg.block k (blk_lt hc) (fun he=>by
    obtain ⟨c2,t,h1,h2⟩:=h k he.symm
    rw [hc] at h1
    simp only [Option.some.injEq,Obj.cells.injEq] at h1
    exact h2 h1.2.1.symm)⟩
theorem keep_ints_set {g t j:Nat} {cs:Array Value} {u:Value} (hb:w.heap[g]? = some (.cells cs t (0,0))) (ht:t ≠ e):IntsKeep e w (w.setCell ⟨g,j,none⟩ u) :=
  ⟨by simp,fun k c hc=>Below.heap_setCell _ _ _ _ (fun he=>by
    have he' : k = g:=he
    subst he'
    rw [hb] at hc
    simp only [Option.some.injEq,Obj.cells.injEq] at hc
    exact ht hc.2.1)⟩
theorem R_ints {base:Nat} {ok:Nat → Prop} {v:Value} {xs:List Int} (h:Kd.R (Kd.int .i64) e w base ok v xs) (hk:IntsKeep e w w1):Kd.R (Kd.int .i64) e w1 base ok v xs :=
  Kd.R_mono (Kd.R_move (Kd.R_bound h) (fun k hk' => by
    obtain ⟨q,hq,c,hc⟩:=hk'.2.2.2
    have he:q = e:=by simpa [Kd.int,Kd.scalar] using hq
    subst he
    exact hk.ints k c hc)) (fun _ h=>h.1)
end
end Go.Proofs.YtemdfjdmokbcoaaGreatDoor.T
