import Derived.Test.YtemdfjdmokbcoaaGreatDoorProg
import Derived.Test.YtemdfjdmokbcoaaGreatDoorQGroup
set_option linter.unusedVariables false
set_option linter.unusedSimpArgs false
namespace Go.Proofs.YtemdfjdmokbcoaaGreatDoor.T
open Go.RowKit Go.Proofs.YtemdfjdmokbcoaaGreatDoorW.PrintWords
def RowAt (W:World) (g N:Nat) (xs:List Int):Prop:=∃ cs:Array Value,W.heap[g]? = some (.cells cs 2 (0,0)) ∧ cs.size = N ∧ xs.length = N ∧ ∀ j,j < N → cs[j]? = some (.int .i64 (xs.getD j 0))
section
variable {W w1:World} {g N:Nat} {xs:List Int}
theorem rowAt_lt (h:RowAt W g N xs):g < W.heap.size:=by obtain ⟨cs,h1,_⟩:=h;exact blk_lt h1
theorem rowAt_block (h:RowAt W g N xs) (hb:w1.heap[g]? = W.heap[g]?):RowAt w1 g N xs:=by obtain ⟨cs,h1,h2⟩:=h;exact ⟨cs,hb.trans h1,h2⟩
theorem rowAt_cell (h:RowAt W g N xs) {k:Int} (h0:0 ≤ k) (h1:k < (N:Int)):W.cell? ⟨g,k.toNat,none⟩ = some (.int .i64 (rd xs k)):=by
  obtain ⟨cs,a1,a2,a3,a4⟩:=h
  exact (blk_cell a1 k.toNat).trans (a4 k.toNat (by omega))
theorem rowAt_frozen (h:RowAt W g N xs) (k:Nat):W.frozen? ⟨g,k,none⟩ = false:=by
  obtain ⟨cs,a1,_⟩:=h
  exact blk_frozen a1 k
theorem rowAt_set (h:RowAt W g N xs) {k:Int} (h0:0 ≤ k) (h1:k < (N:Int)) (v:Int):RowAt (W.setCell ⟨g,k.toNat,none⟩ (.int .i64 v)) g N (xs.set k.toNat v):=by
  obtain ⟨cs,a1,a2,a3,a4⟩:=h
  refine ⟨_,blk_set a1 k.toNat (.int .i64 v),by simpa using a2,by simpa using a3,fun j hj=>?_⟩
  rw [Array.getElem?_setIfInBounds]
  by_cases e:k.toNat = j
  · subst e
    rw [if_pos rfl,if_pos (by omega)]
    simp [List.getD_eq_getElem?_getD,show k.toNat < xs.length by omega]
  · rw [if_neg e,a4 j hj]
    simp [List.getD_eq_getElem?_getD,List.getElem?_set_ne e]
end
def GrI (w2:World) (N b:Nat) (G:Int → Nat) (st:List Int) (W:World) (R:Int → List Int):Prop :=
  MapG Tryz.prog 2 N W b st.length (fun a=>decide (a ∈ st)) (fun a=>if a ∈ st then (G a:Int) else -1) ∧ (∀ s ∈ st,RowAt W (G s) N (R s) ∧ w2.heap.size ≤ G s) ∧ (∀ s ∈ st,∀ t ∈ st,G s = G t → s = t) ∧ Below w2.heap.size w2 W ∧ w2.heap.size ≤ b
def updR (R:Int → List Int) (s k v:Int):Int → List Int:=fun t=>if t = s then (R s).set k.toNat v else R t
section
variable {w2:World} {N b:Nat} {G:Int → Nat} {st:List Int} {W w1:World} {R:Int → List Int}
theorem grI_below (h:GrI w2 N b G st W R) (hb:Below W.heap.size W w1):GrI w2 N b G st w1 R :=
  ⟨mapG_below h.1 hb,fun s hs=>⟨rowAt_block (h.2.1 s hs).1 (hb.block _ (rowAt_lt (h.2.1 s hs).1)),(h.2.1 s hs).2⟩,h.2.2.1,Below.grown h.2.2.2.1 (grown_of_below hb none) h.2.2.2.1.size (fun j hj=>by cases hj),h.2.2.2.2⟩
theorem grI_drawn (h:GrI w2 N b G st W R) (hd:Drawn0 W w1):GrI w2 N b G st w1 R:=by
  obtain ⟨m,rfl⟩:=hd
  exact grI_below h (pw_below_drewN (Below.refl _ _) m)
theorem grI_nil (w2:World) (N:Nat) (G:Int → Nat) (R:Int → List Int):GrI w2 N w2.heap.size G [] (w2.alloc (.map #[] 0)) R:=by
  refine ⟨?_,fun s hs=>by simp at hs,fun s hs=>by simp at hs,below_alloc (Below.refl _ _) _,Nat.le_refl _⟩
  have:=mapG_made (P:=Tryz.prog) (k:=2) (N:=N) w2
  simpa using this
theorem grI_ne (h:GrI w2 N b G st W R) {s:Int} (hs:s ∈ st):G s ≠ b:=by
  obtain ⟨cs,h1,_⟩:=(h.2.1 s hs).1
  exact mapG_ne h.1 h1
theorem grI_set (h:GrI w2 N b G st W R) {s k:Int} (hs:s ∈ st) (h0:0 ≤ k) (h1:k < (N:Int)) (v:Int):GrI w2 N b G st (W.setCell ⟨G s,k.toNat,none⟩ (.int .i64 v)) (updR R s k v):=by
  refine ⟨mapG_block h.1 (Below.heap_setCell W _ _ b (fun e=>grI_ne h hs e.symm)),fun t ht=>⟨?_,(h.2.1 t ht).2⟩,h.2.2.1,below_set h.2.2.2.1 (h.2.1 s hs).2,h.2.2.2.2⟩
  by_cases e:t = s
  · subst e
    unfold updR
    rw [if_pos rfl]
    exact rowAt_set (h.2.1 t ht).1 h0 h1 v
  · unfold updR
    rw [if_neg e]
    exact rowAt_block (h.2.1 t ht).1 (Below.heap_setCell W _ _ (G t) (fun e2=>e (h.2.2.1 t ht s hs e2)))
theorem grI_row (h:GrI w2 N b G st W R) {s:Int} (hs:s ∈ st):RowAt W (G s) N (R s):=(h.2.1 s hs).1
theorem grI_snoc (h : GrI w2 N b G st W R) {s : Int} (hn : s ∉ st) {o : Obj} {w3 : World} (hrow : RowAt (W.alloc o) W.heap.size N (R s))
    (hm:MapG Tryz.prog 2 N w3 b (if decide (s ∈ st) = true then st.length else st.length + 1) (fun c=>if c = s then true else decide (c ∈ st)) (fun c=>if c = s then ((W.heap.size:Nat):Int) else if c ∈ st then (G c:Int) else -1)) (hg:(W.alloc o).grownBy w3 (some b)) :
    GrI w2 N b (fun t=>if t = s then W.heap.size else G t) (st ++ [s]) w3 R:=by
  have hb:=below_alloc (Below.refl W.heap.size W) o
  have h2:=grI_below h hb
  have hlt:b < W.heap.size:=mapG_lt h.1
  refine ⟨?_,fun t ht=>?_,fun t ht u hu e=>?_,Below.grown h2.2.2.2.1 hg h2.2.2.2.1.size (fun j hj=>by cases hj;exact h.2.2.2.2),h.2.2.2.2⟩
  · rw [if_neg (by simpa using hn)] at hm
    have e1:(fun c=>if c = s then true else decide (c ∈ st)) = fun c=>decide (c ∈ st ++ [s]):=funext fun c=>by
      by_cases g:c = s
      · simp [g]
      · simp [g]
    have e2:(fun c=>if c = s then ((W.heap.size:Nat):Int) else if c ∈ st then (G c:Int) else -1) = fun c=>if c ∈ st ++ [s] then (((if c = s then W.heap.size else G c):Nat):Int) else -1:=funext fun c=>by
      by_cases g:c = s
      · simp [g]
      · simp [g]
    rw [e1,e2] at hm
    simpa using hm
  · by_cases e:t = s
    · subst e
      simp only [if_true]
      exact ⟨rowAt_block hrow (hg.block _ (rowAt_lt hrow) (fun e2=>by have:=Option.some.inj e2;omega)),h.2.2.2.1.size⟩
    · have ht' : t ∈ st:=by simpa [e] using ht
      simp only [if_neg e]
      exact ⟨rowAt_block (h2.2.1 t ht').1 (hg.block _ (rowAt_lt (h2.2.1 t ht').1) (fun e2=>grI_ne h ht' (Option.some.inj e2))),(h.2.1 t ht').2⟩
  · by_cases e1:t = s
    · by_cases e2:u = s
      · rw [e1,e2]
      · have hu' : u ∈ st:=by simpa [e2] using hu
        simp only [if_pos e1,if_neg e2] at e
        have:=rowAt_lt (h.2.1 u hu').1
        omega
    · have ht' : t ∈ st:=by simpa [e1] using ht
      by_cases e2:u = s
      · simp only [if_neg e1,if_pos e2] at e
        have:=rowAt_lt (h.2.1 t ht').1
        omega
      · have hu' : u ∈ st:=by simpa [e2] using hu
        simp only [if_neg e1,if_neg e2] at e
        exact h.2.2.1 t ht' u hu' e
end
theorem rd_mem {st:List Int} {i:Int} (h0:0 ≤ i) (h1:i < (st.length:Int)):rd st i ∈ st:=by
  unfold rd
  rw [List.getD_eq_getElem?_getD,List.getElem?_eq_getElem (by omega)]
  exact List.getElem_mem _
theorem made_row (W:World) (m:Nat):RowAt (W.alloc (.cells (madeCells #[.int .i64 0] m) 2)) W.heap.size m (List.replicate m 0) :=
  ⟨_,blk_new W _,size_madeCells _ _,by simp,fun j hj=>by
    unfold madeCells
    simp [hj,Nat.mod_one]⟩
section
variable {P:Program} {ops:Array Oper} {rest:List Oper} {o:Oper} {a:Act} {Q:Exit → Act → World → Prop} {W:World}
theorem make_row (hgd : o.guard = none) {Nt : Tmp} (_hd : o.dst = some Nt) (t e : TypeId) (x y : Operand) (ho : o.op = .makeSlice t x y) (m : Int) (hx : a.eval x = .int .i64 m) (hy : a.eval y = .int .i64 m) (ht : P.underlying t = some (.slice e)) (hinfo : (P.info? e).map (fun i => (i.zero, i.size, i.bytes)) = some (some (.int .i64 0), 1, 8)) (h0 : 0 ≤ m) (hl : m ≤ 1000000001)
    (h:wpList P ops Q rest (a.put o.dst (.slice (some ⟨W.heap.size,0,none⟩) m.toNat m.toNat)) (W.alloc (.cells (madeCells #[.int .i64 0] m.toNat) e))):wpList P ops Q (o :: rest) a W:=by
  obtain ⟨i0,hi,hzz⟩:=Option.map_eq_some_iff.1 hinfo
  simp only [Prod.mk.injEq] at hzz
  obtain ⟨hz0,hz1,hz2⟩:=hzz
  have hr:=run_make (P:=P) W t e i0 _ ht hi hz0 .i64 .i64 m m h0 (Int.le_refl _) (by rw [hz2];omega) (by omega)
  rw [hz1,Nat.mul_one] at hr
  have hrun:(execOp a.eval o).run P W = .ok (.value (.slice (some ⟨W.heap.size,0,none⟩) m.toNat m.toNat)) (W.alloc (.cells (madeCells #[.int .i64 0] m.toNat) e)):=by
    simp only [Value.cells] at hr
    simp [execOp,ho,hx,hy,hr]
  exact Kd.event_run hgd hrun h
end
theorem take_snocI {st:List Int} {i:Nat} (h:i < st.length):st.take (i + 1) = st.take i ++ [rd st (i:Int)]:=by
  rw [List.take_add_one,List.getElem?_eq_getElem h]
  simp [rd,List.getD_eq_getElem?_getD,h]
theorem nodup_take {st:List Int} (hd:st.Nodup) {i:Nat} (h:i < st.length):rd st (i:Int) ∉ st.take i:=by
  have e:rd st (i:Int) = st[i]:=by simp [rd,List.getD_eq_getElem?_getD,h]
  rw [e]
  intro hm
  obtain ⟨j,hj,e2⟩:=List.getElem_of_mem hm
  rw [List.length_take] at hj
  rw [List.getElem_take] at e2
  have:=(List.getElem_inj hd).1 e2
  omega
theorem rd_wf {st:List Int} (hw:(st.all fun s=>(Lit.int .i64 s).wf) = true) {i:Int} (h0:0 ≤ i) (h1:i < (st.length:Int)):(Lit.int .i64 (rd st i)).wf = true:=List.all_eq_true.1 hw _ (rd_mem h0 h1)
section
variable {P:Program} {k e:TypeId} {N:Nat} {w:World} {b n:Nat} {S:Int → Bool} {F:Int → Int} {ops:Array Oper} {rest:List Oper} {o:Oper} {A:Act} {Q:Exit → Act → World → Prop}
theorem wpList_mg_in (hg : o.guard = none) (m x : Operand) (t : TypeId) (hop : o.op = Op.lookup t m x true) (K : Go.Maps.Keyed P k) (ht : P.underlying t = some (.map k e)) (hz : ∀ w, (zeroValue e).run P w = .ok (.slice none 0 0) w)
    (h:MapG P k N w b n S F) (hm:A.eval m = .map (some b)) (a:Int) (g:Nat) (ha:(Lit.int .i64 a).wf = true) (hS:S a = true) (hF:F a = (g:Int)) (key:Value) (hx:A.eval x = key) (hkey:keyOf P k key = some (.int .i64 a))
    (hK:wpList P ops Q rest (A.put o.dst (.tuple #[.slice (some ⟨g,0,none⟩) N N,.bool true])) w):wpList P ops Q (o :: rest) A w:=by
  obtain ⟨D,h1,h2,h3,h4,h5⟩:=h
  refine wpList_lookup_own_ok w hg m x t hop k e K ht (rowRd N) (hz w) (.lit (.int .i64 (-1))) [] (by rfl) b n D hm h1 key _ hx hkey (fun v ps hv=>?_)
  rw [h3 a ha,hF] at hv
  rw [rowRd_inv hv,h4 a ha,hS]
  exact hK
theorem wpList_mg_out (hg : o.guard = none) (m x : Operand) (t : TypeId) (hop : o.op = Op.lookup t m x true) (K : Go.Maps.Keyed P k) (ht : P.underlying t = some (.map k e)) (hz : ∀ w, (zeroValue e).run P w = .ok (.slice none 0 0) w)
    (h:MapG P k N w b n S F) (hm:A.eval m = .map (some b)) (a:Int) (ha:(Lit.int .i64 a).wf = true) (hS:S a = false) (hF:F a = -1) (key:Value) (hx:A.eval x = key) (hkey:keyOf P k key = some (.int .i64 a))
    (hK:wpList P ops Q rest (A.put o.dst (.tuple #[.slice none 0 0,.bool false])) w):wpList P ops Q (o :: rest) A w:=by
  obtain ⟨D,h1,h2,h3,h4,h5⟩:=h
  refine wpList_lookup_own_ok w hg m x t hop k e K ht (rowRd N) (hz w) (.lit (.int .i64 (-1))) [] (by rfl) b n D hm h1 key _ hx hkey (fun v ps hv=>?_)
  rw [h3 a ha,hF] at hv
  rw [rowRd_none hv,h4 a ha,hS]
  exact hK
end
end Go.Proofs.YtemdfjdmokbcoaaGreatDoor.T
