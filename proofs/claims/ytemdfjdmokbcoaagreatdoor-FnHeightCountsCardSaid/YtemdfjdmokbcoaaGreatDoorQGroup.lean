import Derived.Test.YtemdfjdmokbcoaaGreatDoorQMap
set_option linter.unusedVariables false
set_option linter.unusedSimpArgs false
namespace Go.Proofs.YtemdfjdmokbcoaaGreatDoor.T
open Go.RowKit Go.Proofs.YtemdfjdmokbcoaaGreatDoorW.PrintWords
open Go.Maps (Keyed Tidy has size)
def rowRd (N:Nat):Value → Option (DataW Unit × List MemPlace)
  | .slice none 0 0=>some (.lit (.int .i64 (-1)),[])
  | .slice (some ⟨g,0,none⟩) n c=>if n = N ∧ c = N then some (.lit (.int .i64 (g:Int)),[]) else none
  | _=>none
theorem rowRd_inv {N:Nat} {v:Value} {g:Nat} {ps:List MemPlace} (h:rowRd N v = some (.lit (.int .i64 (g:Int)),ps)):v = .slice (some ⟨g,0,none⟩) N N:=by
  unfold rowRd at h
  split at h
  · simp at h
  · split at h
    · rename_i h1
      simp at h
      rw [h1.1,h1.2]
      have h2:=h.1
      have h3:_ = g:=Int.ofNat.inj h2
      rw [h3]
    · cases h
  · cases h
theorem rowRd_none {N:Nat} {v:Value} {ps:List MemPlace} (h:rowRd N v = some (.lit (.int .i64 (-1)),ps)):v = .slice none 0 0:=by
  unfold rowRd at h
  split at h
  · rfl
  · split at h
    · simp at h
    · cases h
  · cases h
theorem key_int (a:Int):WideAt.IsKeyLit (.int .i64 a):=trivial
def MapG (P:Program) (k:TypeId) (N:Nat) (w:World) (b n:Nat) (S:Int → Bool) (F:Int → Int):Prop :=
  ∃ D:DataW Unit,w.ownsMap P k (rowRd N) b n D ∧ Tidy D ∧ (∀ a,(Lit.int .i64 a).wf = true → D.atKey (.int .i64 a) (.lit (.int .i64 (-1))) = .lit (.int .i64 (F a))) ∧ (∀ a,(Lit.int .i64 a).wf = true → has D (.int .i64 a) = S a) ∧ size D = n
section
variable {P:Program} {k e:TypeId} {N:Nat} {w w1:World} {b n:Nat} {S:Int → Bool} {F:Int → Int}
theorem mapG_made (w:World):MapG P k N (w.alloc (.map #[] 0)) w.heap.size 0 (fun _=>false) (fun _=>-1) :=
  ⟨.map [],World.ownsMap_made w P k _,Go.Maps.tidy_empty,fun _ _=>rfl,fun _ _=>rfl,rfl⟩
theorem mapG_lt (h:MapG P k N w b n S F):b < w.heap.size:=by obtain ⟨D,h1,_⟩:=h;exact h1.lt
theorem mapG_kept (h:MapG P k N w b n S F) {row:Option Nat} (hg:w.grownBy w1 row) (hne:some b ≠ row):MapG P k N w1 b n S F:=by
  obtain ⟨D,h1,h2⟩:=h
  exact ⟨D,h1.kept hg hne,h2⟩
theorem mapG_below (h:MapG P k N w b n S F) (hb:Below w.heap.size w w1):MapG P k N w1 b n S F:=mapG_kept h (grown_of_below hb none) (by simp)
theorem mapG_block (h:MapG P k N w b n S F) (hb:w1.heap[b]? = w.heap[b]?):MapG P k N w1 b n S F:=by
  obtain ⟨D,⟨es,clock,hb1,h1⟩,h2⟩:=h
  exact ⟨D,⟨es,clock,hb.trans hb1,h1⟩,h2⟩
theorem mapG_ne (h:MapG P k N w b n S F) {g:Nat} {cs:Array Value} {t:TypeId} {fr:Nat × Nat} (hg:w.heap[g]? = some (.cells cs t fr)):g ≠ b:=by
  obtain ⟨D,⟨es,clock,hb,_⟩,_⟩:=h
  rintro rfl
  rw [hg] at hb
  cases hb
theorem mapG_put (K : Keyed P k) {t : TypeId} (ht : P.underlying t = some (.map k e)) (h : MapG P k N w b n S F) (hn : n < maxLen) {key : Value} (a : Int) (g : Nat) (ha : (Lit.int .i64 a).wf = true) (hkey : keyOf P k key = some (.int .i64 a)) :
    ∃ w', (Instr.mapUpdate t (.map (some b)) key (.slice (some ⟨g,0,none⟩) N N)).run P w = .ok () w' ∧ MapG P k N w' b (if S a then n else n + 1) (fun c=>if c = a then true else S c) (fun c=>if c = a then (g:Int) else F c) ∧ w.grownBy w' (some b):=by
  obtain ⟨D,h1,h2,h3,h4,h5⟩:=h
  have hval:rowRd N (.slice (some ⟨g,0,none⟩) N N) = some (.lit (.int .i64 (g:Int)),[]):=by unfold rowRd;simp
  obtain ⟨w', hrun,r1,r2⟩:=h1.update K ht hn hkey hval
  have hs:=Go.Maps.size_put (k:=.int .i64 a) h2 (.lit (.int .i64 (g:Int)))
  rw [h4 a ha,h5] at hs
  refine ⟨w', hrun,⟨D.put (.int .i64 a) (.lit (.int .i64 (g:Int))),?_,h2.put (key_int a) _,fun c hc=>?_,fun c hc=>?_,hs⟩,r2⟩
  · have:=own_size r1
    rwa [hs] at this
  · by_cases e1:c = a
    · subst e1
      simp only [if_true]
      exact Go.Maps.atKey_put_same h2.isMap (key_int c) _ _
    · simp only [if_neg e1]
      rw [Go.Maps.atKey_put_other (fun e2=>e1 (by simpa using e2)),h3 c hc]
  · by_cases e1:c = a
    · subst e1
      simp only [if_true]
      exact Go.Maps.has_put_same h2.isMap (key_int c) _
    · simp only [if_neg e1]
      rw [Go.Maps.has_put_other (fun e2=>e1 (by simpa using e2)),h4 c hc]
theorem mapG_look (K : Keyed P k) {t : TypeId} (ht : P.underlying t = some (.map k e)) (hz : ∀ w, (zeroValue e).run P w = .ok (.slice none 0 0) w) (h : MapG P k N w b n S F) {key : Value} (a : Int) (g : Nat) (ha : (Lit.int .i64 a).wf = true) (hF : F a = (g : Int)) (hkey : keyOf P k key = some (.int .i64 a)) :
    (Instr.lookup t (.map (some b)) key false).run P w = .ok (.slice (some ⟨g,0,none⟩) N N) w:=by
  obtain ⟨D,h1,h2,h3,h4,h5⟩:=h
  obtain ⟨v,ps,hrun,hv⟩:=h1.lookup K ht (hz w) (zd:=.lit (.int .i64 (-1))) (zp:=[]) (by rfl) hkey
  rw [h3 a ha,hF] at hv
  rw [hrun,rowRd_inv hv]
section
variable {ops:Array Oper} {rest:List Oper} {o:Oper} {A:Act} {Q:Exit → Act → World → Prop}
theorem wpList_mg_look (hg : o.guard = none) (m x : Operand) (t : TypeId) (hop : o.op = Op.lookup t m x false) (K : Keyed P k) (ht : P.underlying t = some (.map k e)) (hz : ∀ w, (zeroValue e).run P w = .ok (.slice none 0 0) w)
    (h:MapG P k N w b n S F) (hm:A.eval m = .map (some b)) (a:Int) (g:Nat) (ha:(Lit.int .i64 a).wf = true) (hF:F a = (g:Int)) (key:Value) (hx:A.eval x = key) (hkey:keyOf P k key = some (.int .i64 a))
    (hK:wpList P ops Q rest (A.put o.dst (.slice (some ⟨g,0,none⟩) N N)) w):wpList P ops Q (o :: rest) A w:=by
  refine wpList_plain hg fun K' hK' => ?_
  have hrun:=mapG_look K ht hz h a g ha hF hkey
  unfold Oper.wp
  simp [execOp,hop,hm,hx,hrun,Result.andThen]
  exact hK' _ _ hK
theorem wpList_mg_put (hg : o.guard = none) (m x v : Operand) (t : TypeId) (hop : o.op = Op.mapUpdate t m x v) (K : Keyed P k) (ht : P.underlying t = some (.map k e))
    (h:MapG P k N w b n S F) (hn:n < maxLen) (hm:A.eval m = .map (some b)) (a:Int) (g:Nat) (ha:(Lit.int .i64 a).wf = true) (key:Value) (hx:A.eval x = key) (hv:A.eval v = .slice (some ⟨g,0,none⟩) N N) (hkey:keyOf P k key = some (.int .i64 a))
    (hK:∀ w', MapG P k N w' b (if S a then n else n + 1) (fun c=>if c = a then true else S c) (fun c=>if c = a then (g:Int) else F c) → w.grownBy w' (some b) → wpList P ops Q rest (A.put o.dst undef) w'):wpList P ops Q (o :: rest) A w:=by
  refine wpList_plain hg fun K' hK' => ?_
  obtain ⟨w', hrun,r1,r2⟩:=mapG_put K ht h hn a g ha hkey
  unfold Oper.wp
  simp [execOp,hop,hm,hx,hv,hrun,Result.andThen]
  exact hK' _ _ (hK w' r1 r2)
end
end
end Go.Proofs.YtemdfjdmokbcoaaGreatDoor.T
