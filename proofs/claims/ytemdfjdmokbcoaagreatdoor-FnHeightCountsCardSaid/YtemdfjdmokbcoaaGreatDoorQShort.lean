import Derived.Test.YtemdfjdmokbcoaaGreatDoorQWalk
set_option linter.unusedVariables false
set_option linter.defProp false
namespace Go.Proofs.YtemdfjdmokbcoaaGreatDoor.T
open Go.RowKit Go.Proofs.YtemdfjdmokbcoaaGreatDoorW.PrintWords Go.Proofs.YtemdfjdmokbcoaaGreatDoorW.PrintLast
theorem zP {p q:Prop} (h:p) (hh:p → q:=by intro h;(with_reducible repeat (first | apply zF | apply zG | apply zH));exact h):q:=hh h
theorem zQ {p q:Prop} (h:p) (hh:p → q:=by intro h;repeat (first | (with_reducible first | exact h | apply zB | apply zC | apply zD) | exact h)):q:=hh h
theorem zT {p q a:Prop} (h:p) (g:a) (hh:p → a → q:=by intro h g;repeat (first | (with_reducible first | exact h | apply zB | apply zC | apply zD | refine zE ?_ g) | exact h)):q:=hh h g
theorem zV {p q a b:Prop} (h:p) (g:a) (k:b) (hh:p → a → b → q:=by intro h g k;repeat (first | (with_reducible first | exact h | apply zB | apply zC | apply zD | refine zE ?_ g | refine zE ?_ k) | exact h)):q:=hh h g k
theorem zW {p q a b c:Prop} (h:p) (g:a) (k:b) (l:c) (hh:p → a → b → c → q:=by intro h g k l;repeat (first | (with_reducible first | exact h | apply zB | apply zC | apply zD | refine zE ?_ g | refine zE ?_ k | refine zE ?_ l) | exact h)):q:=hh h g k l
theorem yA {p q:Prop} (h:p) (hh:p → q:=by intro h;repeat (first | (with_reducible first | exact h | apply KeepBut.set_ | apply keep_drewN | apply keep_drew | apply keep_alloc) | exact h)):q:=hh h
theorem yB {p q a:Prop} (h:p) (g:a) (hh:p → a → q:=by intro h g;repeat (first | (with_reducible first | exact h | apply KeepBut.set_ | apply keep_drewN | apply keep_drew | apply keep_alloc | refine keep_far ?_ g _) | exact h)):q:=hh h g
theorem yC {p q a b:Prop} (h:p) (g:a) (k:b) (hh:p → a → b → q:=by intro h g k;repeat (first | (with_reducible first | exact h | apply KeepBut.set_ | apply keep_drewN | apply keep_drew | apply keep_alloc | refine keep_far ?_ g _ | refine keep_far ?_ k _) | exact h)):q:=hh h g k
theorem zR {p q:Prop} (h:p) (hh:p → q:=by intro h;(with_reducible repeat (first | refine zJ ?_ _ | refine zK ?_ | refine zI ?_ _));exact h):q:=hh h
theorem zS {p q:Prop} (h:p) (hh:p → q:=by intro h;repeat (first | exact h | (with_reducible refine Kd.C_alloc ?_ _) | (with_reducible refine Kd.C_drewN ?_ _) | (with_reducible refine Kd.C_drew ?_))):q:=hh h
theorem zO {P : Program} {ops : Array Oper} {Q : Exit → Act → World → Prop} {rest : List Oper} {oi : Oper} {a : Act} {w : World} (N : Option Tmp) {f : FuncId} {fn : Func} {ao : Array Operand} {ts : Array TypeId} (hf : P.funcs[f]? = some fn) (args : Array Value)
    (h : Calls P f args w fun e w' => ∃ v, e = .returned v ∧ wpList P ops Q rest (a.put N v) w') (hd : oi.dst = N := by rfl) (hg : oi.guard = none := by rfl) (hname : (fn.name == "runtime.NumGoroutine") = false := by kernel_rfl) (hb : fn.body.isSome = true := by rfl)
    (hop:oi.op = .call { callee:=.value (.func f),args:=ao,argTypes:=ts }:=by rfl) (hargs:ao.map a.eval = args:=by (try simp only [List.map_toArray,List.map_cons,List.map_nil]);first | done | rfl | (simp only [List.length_drop,List.length_take];rfl)):wpList P ops Q (oi :: rest) a w:=goesL_ N hd hg hf hname hb args hop hargs h
theorem zb {α β:Type} {x:Option α} {f:α → Option β} {b:β} (h:x.bind f = some b):∃ t,Aside0 (x = some t) ∧ f t = some b:=by
  obtain ⟨t,h1,h2⟩:=Option.bind_eq_some_iff.mp h
  exact ⟨t,⟨h1⟩,h2⟩
theorem zd {p:Prop} [Decidable p] (h:decide p = true:=by first | (with_reducible assumption) | assumption):p:=of_decide_eq_true h
theorem zr {p:Prop} (h:p:=by first | rfl | (simp [errW_none,errW_some] <;> rfl) | (simp [*,errW_none,errW_some] <;> rfl)):p:=h
theorem zn {p:Prop} (h:p:=by first | exact Kd.R_nil _ _ _ _ _ | exact Kd.N_nil _ _ _ _ _ | exact Kd.V_nil _ _ _ _ _ | exact Kd.Q_nil _ _ _ _ _ | exact Kd.S_nil _ _ _ _ _):p:=h
theorem zPV {p q:Prop} (h:p) (hh:p → q:=by intro h;(with_reducible repeat (first | apply Kd.V_alloc | apply Kd.V_drewN | apply Kd.V_drew));exact h):q:=hh h
theorem zPN {p q:Prop} (h:p) (hh:p → q:=by intro h;(with_reducible repeat (first | apply Kd.N_alloc | apply Kd.N_drewN | apply Kd.N_drew));exact h):q:=hh h
theorem zy {α:Type} {y e:α} {p q:Prop} (hy:y = e) (H:p) (hh:y = e → p → q:=by intro hy H;first | (rw [hy];with_reducible exact H) | (have H2_:=(Option.bind_some _ _).symm.trans H;rw [hy];with_reducible exact H2_) | (have H2_:=(Option.bind_some _ _).symm.trans H;with_reducible exact H2_) | with_reducible exact H | (rw [hy];exact H) | exact H):q:=hh hy H
section
variable {P:Program} {ops:Array Oper} {Q:Exit → Act → World → Prop} {md:Region.Mode} {S:World → Prop} {ds:List Nat} {T:Bool × List (List Nat × List Nat)} {B:List Nat} {oi:Oper} {v:Value} {fuel:Nat} {l:Array Bool} {a a' : Act} {w:World}
theorem zp (i : Nat) (N : Option Tmp) (l' : Array Bool) (hT : rtab md ops = T) (h : wpAnyLast P md ops Q S ds fuel l' a' w) (hi : ops[i]? = some oi := by rfl) (hN : oi.dst = N := by rfl) (hc : anyT T l.toList l'.toList i = true := by kernel_rfl)
    (hQ:∀ c a w,Q (.panic c) (a.put oi.dst v) w → Q (.panic c) a w:=by exact fun _ _ _ h=>h) (hy:Yields P ops oi v a:=by refine Or.inl ⟨by rfl,?_⟩;intro w'; go_simp;with_reducible rfl)
    (ha:a.put N v = a' := by simp only [Act.put,zL,zM,zN,i64_w,i32_w];rfl):wpAnyLast P md ops Q S ds (fuel + 1) l a w:=pure_ l' hi hN (any_of hT hc) hQ hy ha h
theorem zu (i : Nat) (N : Option Tmp) (l' : Array Bool) (hT : rtab md ops = T) (h : wpAnyLast P md ops Q S ds fuel l' a' w) (hi : ops[i]? = some oi := by rfl) (hN : oi.dst = N := by rfl) (hc : anyT T l.toList l'.toList i = true := by kernel_rfl)
    (hQ:∀ c a w,Q (.panic c) (a.put oi.dst undef) w → Q (.panic c) a w:=by exact fun _ _ _ h=>h) (hy:Yields P ops oi undef a:=by exact Or.inr ⟨by rfl,rfl⟩)
    (ha:a.put N undef = a' := by simp only [Act.put,zL,zM,zN,i64_w,i32_w];rfl):wpAnyLast P md ops Q S ds (fuel + 1) l a w:=pure_ l' hi hN (any_of hT hc) hQ hy ha h
theorem za (i : Nat) (N : Option Tmp) (l' : Array Bool) (hT : rtab md ops = T) (hW : waitsOk T.2 B = true) (hS : S w) (h : wpAnyLast P md ops Q S ds fuel l' a' w) (hi : ops[i]? = some oi := by rfl) (hN : oi.dst = N := by rfl) (hc : takeW T B ds l.toList l'.toList i = true := by kernel_rfl)
    (hQ:∀ c a w,Q (.panic c) (a.put oi.dst v) w → Q (.panic c) a w:=by exact fun _ _ _ h=>h) (hy:YieldsIf P ops S oi v a:=by refine Or.inl ⟨by rfl,?_⟩;rintro w' s0;go_simp;with_reducible rfl)
    (ha:a.put N v = a' := by simp only [Act.put,zL,zM,zN,i64_w,i32_w];rfl):wpAnyLast P md ops Q S ds (fuel + 1) l a w:=take_ l' hi hN (take_ofW hT hW hc) hQ hy hS ha h
theorem zc (i : Nat) (N : Option Tmp) (l' : Array Bool) (hT : rtab md ops = T) (hW : waitsOk T.2 B = true) (hS : S w) (h : wpAnyLast P md ops Q S ds fuel l' a' w) (hi : ops[i]? = some oi := by rfl) (hN : oi.dst = N := by rfl) (hc : takeW T B ds l.toList l'.toList i = true := by kernel_rfl)
    (hQ:∀ c a w,Q (.panic c) (a.put oi.dst v) w → Q (.panic c) a w:=by exact fun _ _ _ h=>h) (hy:YieldsIf P ops S oi v a:=by refine Or.inl ⟨by rfl,?_⟩;rintro w' ⟨s0,s1⟩;go_simp;with_reducible rfl)
    (ha:a.put N v = a' := by simp only [Act.put,zL,zM,zN,i64_w,i32_w];rfl):wpAnyLast P md ops Q S ds (fuel + 1) l a w:=take_ l' hi hN (take_ofW hT hW hc) hQ hy hS ha h
theorem ze (i : Nat) (N : Option Tmp) (l' : Array Bool) (hT : rtab md ops = T) (hW : waitsOk T.2 B = true) (hS : S w) (h : wpAnyLast P md ops Q S ds fuel l' a' w) (hi : ops[i]? = some oi := by rfl) (hN : oi.dst = N := by rfl) (hc : takeW T B ds l.toList l'.toList i = true := by kernel_rfl)
    (hQ:∀ c a w,Q (.panic c) (a.put oi.dst v) w → Q (.panic c) a w:=by exact fun _ _ _ h=>h) (hy:YieldsIf P ops S oi v a:=by refine Or.inl ⟨by rfl,?_⟩;rintro w' ⟨s0,s1,s2⟩;go_simp;with_reducible rfl)
    (ha:a.put N v = a' := by simp only [Act.put,zL,zM,zN,i64_w,i32_w];rfl):wpAnyLast P md ops Q S ds (fuel + 1) l a w:=take_ l' hi hN (take_ofW hT hW hc) hQ hy hS ha h
theorem zf (i : Nat) (N : Option Tmp) (l' : Array Bool) (hT : rtab md ops = T) (hW : waitsOk T.2 B = true) (hS : S w) (h : wpAnyLast P md ops Q S ds fuel l' a' w) (hi : ops[i]? = some oi := by rfl) (hN : oi.dst = N := by rfl) (hc : takeW T B ds l.toList l'.toList i = true := by kernel_rfl)
    (hQ:∀ c a w,Q (.panic c) (a.put oi.dst v) w → Q (.panic c) a w:=by exact fun _ _ _ h=>h) (hy:YieldsIf P ops S oi v a:=by refine Or.inl ⟨by rfl,?_⟩;rintro w' ⟨s0,s1,s2,s3⟩;go_simp;with_reducible rfl)
    (ha:a.put N v = a' := by simp only [Act.put,zL,zM,zN,i64_w,i32_w];rfl):wpAnyLast P md ops Q S ds (fuel + 1) l a w:=take_ l' hi hN (take_ofW hT hW hc) hQ hy hS ha h
end
theorem zB1 {w W w1:World} {g:Nat} {o:Obj} (h:w.heap[g]? = some o) (hb:Below W.heap.size W w1) (hh:w.heap[g]? = some o → W.heap[g]? = some o:=by intro h;(with_reducible repeat (first | refine zJ ?_ _ | refine zK ?_ | refine zI ?_ _));exact h):w1.heap[g]? = some o:=blk_below (hh h) hb
theorem zB2 {w W w1:World} {g g' : Nat} {row:Option Nat} {o:Obj} (hk:KeepBut W w1 g row) (h:w.heap[g']? = some o) (hg:g' ≠ g) (hr:some g' ≠ row:=by simp) (hh:w.heap[g']? = some o → W.heap[g']? = some o:=by intro h;(with_reducible repeat (first | refine zJ ?_ _ | refine zK ?_ | refine zI ?_ _));exact h):w1.heap[g']? = some o:=KeepBut.blk hk (hh h) hg hr
theorem zB3 {w:World} {g:Nat} {t:TypeId} {x y:Value} (h:w.heap[g]? = some (.cells #[x,y] t (0,0))):w.cell? ⟨g,0,none⟩ = some x ∧ w.cell? ⟨g,1,none⟩ = some y ∧ w.frozen? ⟨g,0,none⟩ = false ∧ w.frozen? ⟨g,1,none⟩ = false:=⟨(blk_cell h 0).trans rfl,(blk_cell h 1).trans rfl,blk_frozen h 0,blk_frozen h 1⟩
theorem zB4 {w W:World} {g b:Nat} {o:Obj} (hg:b = W.heap.size) (h:w.heap[g]? = some o) (hh:w.heap[g]? = some o → W.heap[g]? = some o:=by intro h;(with_reducible repeat (first | refine zJ ?_ _ | refine zK ?_ | refine zI ?_ _));exact h):g ≠ b:=by rw [hg];exact Nat.ne_of_lt (blk_lt (hh h))
theorem zB5 {w W:World} {g b:Nat} {o:Obj} (hg:b = W.heap.size) (h:w.heap[g]? = some o) (hh:w.heap[g]? = some o → W.heap[g]? = some o:=by intro h;(with_reducible repeat (first | refine zJ ?_ _ | refine zK ?_ | refine zI ?_ _));exact h):b ≠ g:=(zB4 hg h hh).symm
theorem zB6 {a b n:Nat} (hg:b = n) (h:a ≤ n):a ≤ b:=hg ▸ h
theorem zB7 {a b n:Nat} (hg:b = n) (h:a < n):a ≠ b:=hg ▸ Nat.ne_of_lt h
theorem zB8 {a b n:Nat} (hg:b = n) (h:a < n):b ≠ a:=(zB7 hg h).symm
theorem zB9 {α:Type} {d:Kd α} {e:TypeId} {w w1:World} {base g:Nat} {ok:Nat → Prop} {v:Value} {xs:List α} (h:d.R e w base (fun k=>ok k ∧ k ≠ g) v xs) (hk:KeepBut w w1 g none):d.R e w1 base ok v xs:=Kd.R_mono (Kd.R_keep h hk (fun _ h=>h.2)) (fun _ h=>h.1)
theorem zBE {P : Program} {ops : Array Oper} {Q : Exit → Act → World → Prop} {o : Oper} {rest : List Oper} {a : Act} {W : World} (N : Tmp) (cs : Array Value) (t : TypeId)
    (h:∀ g,g = W.heap.size → ∀ w1,w1.heap[g]? = some (.cells cs t (0,0)) → Below W.heap.size W w1 → wpList P ops Q rest (a.put o.dst (.pointer (some ⟨g,0,none⟩))) w1) (hd:o.dst = some N:=by rfl) (hg:o.guard = none:=by rfl)
    (hrun:(execOp a.eval o).run P W = .ok (.value (.pointer (some ⟨W.heap.size,0,none⟩))) (W.alloc (.cells cs t (0,0))):=by first | (go_simp;done) | (go_simp;rfl)):wpList P ops Q (o :: rest) a W:=box_event hg hd hrun h
theorem zBG {p q a b:Prop} (h:p) (n:a) (m:b) (hh:p → a → b → q:=by intro h n m;(with_reducible repeat (first | refine zJ ?_ _ | refine zK ?_ | refine zI ?_ _));refine blk_far ?_ n _;(with_reducible repeat (first | refine zJ ?_ _ | refine zK ?_ | refine zI ?_ _));refine blk_far ?_ m _;(with_reducible repeat (first | refine zJ ?_ _ | refine zK ?_ | refine zI ?_ _));exact h):q:=hh h n m
theorem zFF {α:Type} {d:Kd α} {e:Nat} {w:World} {base g:Nat} {ok:Nat → Prop} {v:Value} {xs:List α} (h:d.R e w base ok v xs) (hok:∀ k,ok k → k ≠ g) (x y:Value):d.R e ((w.setCell ⟨g,0,none⟩ x).setCell ⟨g,1,none⟩ y) base ok v xs:=Kd.R_far (p:=⟨g,1,none⟩) (Kd.R_far (p:=⟨g,0,none⟩) h hok x) hok y
theorem zFG {α:Type} {d:Kd α} {e:Nat} {w:World} {base g t:Nat} {ok:Nat → Prop} {v:Value} {xs:List α} {cells:Array Value} (h:d.R e w base ok v xs) (hb:w.heap[g]? = some (.cells cells t (0,0))) (x y:Value) (ht:∀ q,q ∈ e :: d.E → q ≠ t:=by decide):d.R e ((w.setCell ⟨g,0,none⟩ x).setCell ⟨g,1,none⟩ y) base ok v xs:=Kd.R_mono (zFF (Kd.R_types h hb ht) (fun _ hk=>hk.2) x y) (fun _ h_=>h_.1)
theorem zRp1 {W:World} {g t:Nat} {b x y:Value} (h:W.heap[g]? = some (.cells #[x,b] t (0,0))):(W.setCell ⟨g,1,none⟩ y).heap[g]? = some (.cells #[x,y] t (0,0)):=blk_put h 1 _ rfl
theorem zRp0 {W:World} {g t:Nat} {a b x:Value} (h:W.heap[g]? = some (.cells #[a,b] t (0,0))):(W.setCell ⟨g,0,none⟩ x).heap[g]? = some (.cells #[x,b] t (0,0)):=blk_put h 0 _ rfl
theorem zRP {p q:Prop} (h:p) (hh:p → q:=by intro h;(with_reducible repeat (first | refine zJ ?_ _ | refine zK ?_ | refine zI ?_ _));apply zRp1;(with_reducible repeat (first | refine zJ ?_ _ | refine zK ?_ | refine zI ?_ _));apply zRp0;(with_reducible repeat (first | refine zJ ?_ _ | refine zK ?_ | refine zI ?_ _));exact h):q:=hh h
theorem zFK {α:Type} {d:Kd α} {e:Nat} {W:World} {base c:Nat} {ok:Nat → Prop} {A:Option Addr} {l:List α} (h:Kd.V d e W base ok (.slice A l.length c) l):Kd.FK (Kd.slice e d) W ok l [.slice A l.length c]:=Kd.FK_slice_mk (Kd.V_reads' h).2.1 (Kd.V_F h)
theorem zT1 {a b:Int} (h:a = b):(a == b) = true ∧ (a != b) = false:=⟨beq_iff_eq.mpr h,bne_eq_false_iff_eq.mpr h⟩
theorem zT2 {a b:Int} (h:¬ a = b):(a == b) = false ∧ (a != b) = true:=⟨beq_eq_false_iff_ne.mpr h,bne_iff_ne.mpr h⟩
theorem zBH {w W0 W:World} {b:Nat} (hg:b = W.heap.size) (h:Below w.heap.size w W0) (hh:Below w.heap.size w W0 → Below w.heap.size w W:=by intro h;repeat (first | (with_reducible first | exact h | apply zB | apply zC | apply zD) | exact h)):w.heap.size ≤ b:=zB6 hg (below_size (hh h))
theorem zPM {α:Type} {d:Kd α} {e:Nat} {w w' : World} {base:Nat} {ok ok' : Nat → Prop} {v:Value} {xs:List α} (h:d.R e w base ok v xs) (m:∀ k,ok k → ok' k) (hh:d.R e w base ok v xs → d.R e w' base ok v xs:=by intro h;(with_reducible repeat (first | apply zF | apply zG | apply zH));exact h):d.R e w' base ok' v xs:=Kd.R_mono (hh h) m
theorem zs {p:Prop} (h:p:=by first | rfl | (simp;done) | (simp [*];done)):p:=h
theorem zw {p:Prop} (h:p:=by first | exact ⟨rfl,_,World.drewN_drewN _ _ _⟩ | exact ⟨rfl,_,Eq.trans (World.drewN_drewN _ _ _) (congrArg (World.drewN _) (Nat.add_assoc _ _ _))⟩):p:=h
theorem zg {p:Prop} (h:p:=by (try simp only [List.map_toArray,List.map_cons,List.map_nil]);first | done | rfl | (simp only [List.length_drop,List.length_take];rfl)):p:=h
def kA:=@Kd.R_mono
def kB:=@Kd.R_reads'
def kC:=@Kd.R_base
def kD:=@Kd.R_types
def kE:=@Kd.R_elder'
def kF:=@Kd.R_new'
def kG:=@Kd.V_below
def kH:=@Kd.R_lt
def kI:=@Kd.R_lower
def kJ:=@Kd.V_reads'
def kK:=@Kd.V_elder'
def kL:=@Kd.R_below
def kM:=@Kd.R_slice
def kN:=@Kd.V_mono
def kO:=@Kd.C_below
def kP:=@below_size
def kQ:=@below_step
def kS:=@gate_dst
def kT:=@KeepBut.trans
def kU:=@KeepBut.of_below
def kV:=@blk_cell
def kW:=@Below.refl
def kX:=@keep_size
def kY:=@Kd.R_far
def kZ:=@Kd.N_below
def jA:=@Kd.N_lt
def jD:=@Kd.V_elderB
def jE:=@Kd.freshB
def jF:=@Kd.fresh'
def jG:=@World.block_lt_of_cell?
def jH:=@blk_frozen
def jI:=@blk_lt
def jJ:=@far_slice
def jK:=@Kd.R_tight
def jL:=@Kd.R_V
def jM:=@Kd.V_lower
def jN:=@Kd.N_lower
def jO:=@Kd.R_nil
end Go.Proofs.YtemdfjdmokbcoaaGreatDoor.T
