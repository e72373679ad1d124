import Derived.Test.YtemdfjdmokbcoaaGreatDoorPAllx0
namespace Go.Proofs.YtemdfjdmokbcoaaGreatDoor.PAll
open Go.RowKit Go.Proofs.YtemdfjdmokbcoaaGreatDoor.T Go.Proofs.YtemdfjdmokbcoaaGreatDoorW.PrintWords Go.Proofs.YtemdfjdmokbcoaaGreatDoorW.PrintLast Go.Proofs.YtemdfjdmokbcoaaGreatDoorW.PrintMore
attribute [local go_sem] max2_int min2_int max_two min_two max_three min_three max_four min_four   -- for this text's walks alone
set_option linter.unusedVariables false
set_option linter.unusedSimpArgs false
def laws_big.f (l0:List Int):Option (Bool):=some (decide ((l0.length:Int) > 4096))
set_option maxHeartbeats 8000000 in
set_option maxRecDepth 100000 in
theorem laws_big.calls (A0 : Option Addr) (c0 : Nat) (l0 : List Int) (r : Bool) (w : World) (hr0 : Kd.C (Kd.int .u8) w A0 l0.length l0) (hc0 : l0.length ≤ c0) (h : laws_big.f l0 = some r) :
  Calls Tryz.prog 4 #[.slice A0 l0.length c0] w fun e w' => e = .returned (.bool r) ∧ Drawn0 w w' := by
 have HR0:=zA hr0
 have HC0:=zA hc0
 clear hr0 hc0
 have H:=h
 unfold laws_big.f at H
 clear h
 obtain rfl:=Option.some.inj H
 go_enter Tryz.func4,Tryz.ntmps4
 go_wp2
 go_ret
 exact ⟨zs,by repeat (first | exact Drawn0.refl _ | apply Drawn0.step)⟩
def Z76 (w0 W:World) (g:Nat) (f0:List Int) (f1:Int) (f2:Int):Prop:=∃ A0 c0,W.heap[g]? = some (.cells #[.slice A0 f0.length c0,.int .i64 f1,.int .u64 f2] 76 (0,0)) ∧ w0.heap.size ≤ g ∧ Kd.C (Kd.int .u8) w0 A0 f0.length f0
theorem Z76.grown {w0 W:World} {g:Nat} {f0:List Int} {f1:Int} {f2:Int} {W1:World} {row:Option Nat} (h:Z76 w0 W g f0 f1 f2) (hw:W.grownBy W1 row) (hne:some g ≠ row):Z76 w0 W1 g f0 f1 f2:=by
 obtain ⟨A0,c0,hb,hg,hr0⟩:=h
 exact ⟨A0,c0,blk_grown hb hw hne,hg,hr0⟩
theorem Z76.own_neN {w0 W:World} {g:Nat} {f0:List Int} {f1:Int} {f2:Int} {α:Type} {d:Kd α} {e:Nat} {base:Nat} {ok:Nat → Prop} {v:Value} {xs:List α} (h:Z76 w0 W g f0 f1 f2) (ho:Kd.N d e W base ok v xs) (ht:e ≠ 76):some g ≠ v.ownBlock:=by
 obtain ⟨A0,c0,hb,hg,hr0⟩:=h
 exact Kd.N_ne ho hb ht
theorem Z76.fresh {w0 W:World} {g:Nat} {f0:List Int} {f1:Int} {f2:Int} (h:Z76 w0 W g f0 f1 f2):∀ k,W.heap.size ≤ k → k ≠ g:=by
 obtain ⟨A0,c0,hb,hg,hr0⟩:=h
 exact jE hb
theorem Z76.kept {w0 W:World} {g:Nat} {f0:List Int} {f1:Int} {f2:Int} {W1:World} {S:Nat → Prop} (h:Z76 w0 W g f0 f1 f2) (hk:Kept W W1 S) (hne:¬ S g):Z76 w0 W1 g f0 f1 f2:=by
 obtain ⟨A0,c0,hb,hg,hr0⟩:=h
 exact ⟨A0,c0,blk_kept hb hk hne,hg,hr0⟩
theorem Z76.below {w0 W:World} {g:Nat} {f0:List Int} {f1:Int} {f2:Int} {W1:World} (h:Z76 w0 W g f0 f1 f2) (hw:Below W.heap.size W W1):Z76 w0 W1 g f0 f1 f2:=h.grown (grown_of_below hw none) (by simp)
theorem Z76.alloc {w0 W:World} {g:Nat} {f0:List Int} {f1:Int} {f2:Int} (h:Z76 w0 W g f0 f1 f2) (o:Obj):Z76 w0 (W.alloc o) g f0 f1 f2:=h.below (zB (kW _ _) o)
theorem Z76.drewN {w0 W:World} {g:Nat} {f0:List Int} {f1:Int} {f2:Int} (h:Z76 w0 W g f0 f1 f2) (m:Nat):Z76 w0 (W.drewN m) g f0 f1 f2:=h
theorem Z76.drew {w0 W:World} {g:Nat} {f0:List Int} {f1:Int} {f2:Int} (h:Z76 w0 W g f0 f1 f2):Z76 w0 W.drew g f0 f1 f2:=h
theorem Z76.at_ {w0 W:World} {g:Nat} {f0:List Int} {f1:Int} {f2:Int} {w' : World} {m:Nat} (hq:W.drewN m = w') (h:Z76 w0 W g f0 f1 f2):Z76 w0 w' g f0 f1 f2:=by subst hq;exact Z76.drewN h m
theorem Z76.apart {w0 W:World} {g:Nat} {f0:List Int} {f1:Int} {f2:Int} {α:Type} {d:Kd α} {e:Nat} {base:Nat} {ok:Nat → Prop} {v:Value} {xs:List α} (h:Z76 w0 W g f0 f1 f2) (ho:d.R e W base ok v xs) (ht:∀ q,q ∈ e :: d.E → q ≠ 76):d.R e W base (fun k=>ok k ∧ k ≠ g) v xs:=by
 obtain ⟨A0,c0,hb,hg,hr0⟩:=h
 exact kD ho hb ht
theorem Z76.own_ne {w0 W:World} {g:Nat} {f0:List Int} {f1:Int} {f2:Int} {α:Type} {d:Kd α} {e:Nat} {base:Nat} {ok:Nat → Prop} {v:Value} {xs:List α} (h:Z76 w0 W g f0 f1 f2) (ho:d.R e W base ok v xs) (ht:e ≠ 76):some g ≠ v.ownBlock:=by
 obtain ⟨A0,c0,hb,hg,hr0⟩:=h
 exact Kd.R_ne ho hb ht
theorem Z76.apartQ {w0 W:World} {g:Nat} {f0:List Int} {f1:Int} {f2:Int} {α:Type} {d:Kd α} {e:Nat} {base:Nat} {ok:Nat → Prop} {v:Value} {xs:List α} (h:Z76 w0 W g f0 f1 f2) (ho:d.Q e W base ok v xs) (ht:∀ q,q ∈ e :: d.E → q ≠ 76):d.Q e W base (fun k=>ok k ∧ k ≠ g) v xs:=by
 obtain ⟨A0,c0,hb,hg,hr0⟩:=h
 exact Kd.Q_types ho hb ht
theorem Z76.own_neQ {w0 W:World} {g:Nat} {f0:List Int} {f1:Int} {f2:Int} {α:Type} {d:Kd α} {e:Nat} {base:Nat} {ok:Nat → Prop} {v:Value} {xs:List α} (h:Z76 w0 W g f0 f1 f2) (ho:d.Q e W base ok v xs) (ht:e ≠ 76):some g ≠ v.ownBlock:=by
 obtain ⟨A0,c0,hb,hg,hr0⟩:=h
 exact Kd.Q_ne ho hb ht
theorem Z76.apartS {w0 W:World} {g:Nat} {f0:List Int} {f1:Int} {f2:Int} {α:Type} {d:Kd α} {e:Nat} {base:Nat} {ok:Nat → Prop} {v:Value} {xs:List α} (h:Z76 w0 W g f0 f1 f2) (ho:d.S e W base ok v xs) (ht:∀ q,q ∈ e :: d.E → q ≠ 76):d.S e W base (fun k=>ok k ∧ k ≠ g) v xs:=by
 obtain ⟨A0,c0,hb,hg,hr0⟩:=h
 exact Kd.S_types ho hb ht
theorem Z76.own_neS {w0 W:World} {g:Nat} {f0:List Int} {f1:Int} {f2:Int} {α:Type} {d:Kd α} {e:Nat} {base:Nat} {ok:Nat → Prop} {v:Value} {xs:List α} (h:Z76 w0 W g f0 f1 f2) (ho:d.S e W base ok v xs) (ht:e ≠ 76):some g ≠ v.ownBlock:=by
 obtain ⟨A0,c0,hb,hg,hr0⟩:=h
 exact Kd.S_ne ho hb ht
theorem Z76.lt {w0 W:World} {g:Nat} {f0:List Int} {f1:Int} {f2:Int} (h:Z76 w0 W g f0 f1 f2):g < W.heap.size:=by
 obtain ⟨A0,c0,hb,hg,hr0⟩:=h
 exact jI hb
theorem Z76.ge {w0 W:World} {g:Nat} {f0:List Int} {f1:Int} {f2:Int} (h:Z76 w0 W g f0 f1 f2):w0.heap.size ≤ g:=by
 obtain ⟨A0,c0,hb,hg,hr0⟩:=h
 exact hg
theorem Z76.ne_blk {w0 W:World} {g:Nat} {f0:List Int} {f1:Int} {f2:Int} {a:Nat} {cs:Array Value} {t:TypeId} {fr:Nat × Nat} (h:Z76 w0 W g f0 f1 f2) (hb2:W.heap[a]? = some (.cells cs t fr)) (ht:t ≠ 76):g ≠ a:=by
 obtain ⟨A0,c0,hb,hg,hr0⟩:=h
 rintro rfl
 rw [hb] at hb2
 injection hb2 with hb2
 injection hb2 with _ ht2
 exact ht ht2.symm
theorem Z76.far {w0 W:World} {g:Nat} {f0:List Int} {f1:Int} {f2:Int} {p:Addr} (h:Z76 w0 W g f0 f1 f2) (hne:g ≠ p.block) (u:Value):Z76 w0 (W.setCell p u) g f0 f1 f2:=by
 obtain ⟨A0,c0,hb,hg,hr0⟩:=h
 exact ⟨A0,c0,blk_far hb hne u,hg,hr0⟩
theorem cellS76_0 {W:World} {g:Nat} {A0:Option Addr} {c0:Nat} {f0:List Int} {f1:Int} {f2:Int} (h:W.heap[g]? = some (.cells #[.slice A0 f0.length c0,.int .i64 f1,.int .u64 f2] 76 (0,0))):W.cell? ⟨g,0,none⟩ = some (.slice A0 f0.length c0):=(kV h 0).trans rfl
theorem cellS76_1 {W:World} {g:Nat} {A0:Option Addr} {c0:Nat} {f0:List Int} {f1:Int} {f2:Int} (h:W.heap[g]? = some (.cells #[.slice A0 f0.length c0,.int .i64 f1,.int .u64 f2] 76 (0,0))):W.cell? ⟨g,1,none⟩ = some (.int .i64 f1):=(kV h 1).trans rfl
theorem Z76.set_1 {w0 W:World} {g:Nat} {f0:List Int} {f1:Int} {f2:Int} (h:Z76 w0 W g f0 f1 f2) (x:Int):Z76 w0 (W.setCell ⟨g,1,none⟩ (.int .i64 x)) g f0 x f2:=by
 obtain ⟨A0,c0,hb,hg,hr0⟩:=h
 exact ⟨A0,c0,by simpa using blk_set hb 1 (.int .i64 x),hg,hr0⟩
theorem cellS76_2 {W:World} {g:Nat} {A0:Option Addr} {c0:Nat} {f0:List Int} {f1:Int} {f2:Int} (h:W.heap[g]? = some (.cells #[.slice A0 f0.length c0,.int .i64 f1,.int .u64 f2] 76 (0,0))):W.cell? ⟨g,2,none⟩ = some (.int .u64 f2):=(kV h 2).trans rfl
theorem Z76.set_2 {w0 W:World} {g:Nat} {f0:List Int} {f1:Int} {f2:Int} (h:Z76 w0 W g f0 f1 f2) (x:Int):Z76 w0 (W.setCell ⟨g,2,none⟩ (.int .u64 x)) g f0 f1 x:=by
 obtain ⟨A0,c0,hb,hg,hr0⟩:=h
 exact ⟨A0,c0,by simpa using blk_set hb 2 (.int .u64 x),hg,hr0⟩
theorem Z76.new (w0 W:World) (A0:Option Addr) (c0:Nat) (f0:List Int) (f1:Int) (f2:Int) (hB:Below w0.heap.size w0 W) (hr0:Kd.C (Kd.int .u8) w0 A0 f0.length f0):Z76 w0 (W.alloc (.cells #[.slice A0 f0.length c0,.int .i64 f1,.int .u64 f2] 76)) W.heap.size f0 f1 f2:=⟨A0,c0,by simpa using heap_alloc_new W _,hB.size,hr0⟩
theorem Z76.uA {p q:Prop} (h:p) (hh:p → q:=by intro h;repeat (first | (with_reducible first | exact h | apply Z76.alloc | apply Z76.drewN | apply Z76.drew | apply Z76.set_1 | apply Z76.set_2) | exact h)):q:=hh h
theorem Z76.uB {p q a:Prop} (h:p) (g:a) (hh:p → a → q:=by intro h g;repeat (first | (with_reducible first | exact h | apply Z76.alloc | apply Z76.drewN | apply Z76.drew | apply Z76.set_1 | apply Z76.set_2 | refine Z76.far ?_ g _) | exact h)):q:=hh h g
theorem Z76.uC {p q a b:Prop} (h:p) (g:a) (k:b) (hh:p → a → b → q:=by intro h g k;repeat (first | (with_reducible first | exact h | apply Z76.alloc | apply Z76.drewN | apply Z76.drew | apply Z76.set_1 | apply Z76.set_2 | refine Z76.far ?_ g _ | refine Z76.far ?_ k _) | exact h)):q:=hh h g k
theorem Z76.below_keepW {w0 w w1 w2:World} {g:Nat} (h0:Below w0.heap.size w0 w) (h1:Below w.heap.size w w1) (hk:KeepBut w1 w2 g none) (hb:Below w0.heap.size w0 w2) (hg:w.heap.size ≤ g):Below w.heap.size w w2:=⟨hb.os.trans h0.os.symm,hb.tape.trans h0.tape.symm,hb.output.trans h0.output.symm,Nat.le_trans h1.size hk.1,fun k hk2=>(hk.2 k (Nat.lt_of_lt_of_le hk2 h1.size) (by omega) (by simp)).trans (h1.block k hk2)⟩
def spec_l01From.l0:Nat → List Int → Int → List Int → Int → Int → Option (List Int × Int × Int)
 | 0,_,_,_,_,_=>none
 | k + 1,x0,x4,x102000,x102001,x102002=>if x4 < (x0.length:Int) then (if x4 < 4096 then (if 0 ≤ x4 then (spec_l01From.l0 k x0 (wrap64 (x4 + 1)) x102000 x102001 (IntKind.u64.wrap ((IntKind.u64.wrap ((IntKind.u64.wrap (x102002 * 1099511628211)) + (IntKind.u64.wrap (rd x0 x4)))) + 11))) else (none)) else (some (x102000,x102001,x102002))) else (some (x102000,x102001,x102002))
def spec_l01From.f (k:Nat) (l0:List Int):Option (List Int × Int × Int):=spec_l01From.l0 k l0 0 l0 0 (IntKind.u64.wrap (9341 + (IntKind.u64.wrap ((l0.length:Int)))))
def spec_l01From.T5:Bool × List (List Nat × List Nat):=(true,[([],[]),([],[]),([1],[1]),([2],[2]),([3],[3]),([4],[4]),([],[]),([],[]),([6,7],[6,7]),([8],[8]),([9],[9]),([5,10],[5,10]),([11],[11]),([0,0,1,2,3,4,5,6,7,8,9,10,11,12],[0]),([13,0,1,2,3,4,5,6,7,8,9,10,11,12],[13]),([14,12,0,1,2,3,4,5,6,7,8,9,10,11,12],[12,14])])
def spec_l01From.B5:List Nat:=[0,0,2,6,14,30,0,0,192,448,960,2046,4094,8191,16383,32767]
theorem spec_l01From.tab5:rtab .any (opsOf Tryz.f33 5) = spec_l01From.T5:=by kernel_rfl
theorem spec_l01From.bits5:waitsOk spec_l01From.T5.2 spec_l01From.B5 = true:=by kernel_rfl
set_option maxHeartbeats 8000000 in
set_option maxRecDepth 100000 in
theorem spec_l01From.calls (k : Nat) (A0 : Option Addr) (c0 : Nat) (l0 : List Int) (r1 : List Int) (r2 : Int) (r3 : Int) (w0 w : World) (hB : Below w0.heap.size w0 w) (hr0 : Kd.C (Kd.int .u8) w0 A0 l0.length l0) (hc0 : l0.length ≤ c0) (h : spec_l01From.f k l0 = some (r1, r2, r3)) :
  Calls Tryz.prog 33 #[.slice A0 l0.length c0] w fun e w' => ∃ g_:Nat,e = .returned (.pointer (some ⟨g_,0,none⟩)) ∧ Z76 w0 w' g_ r1 r2 r3 ∧ Below w0.heap.size w0 w' ∧ Below w.heap.size w w' ∧ w.heap.size ≤ g_:=by
 have hu76:=Tryz.underlying76
 have HR0:=zA hr0
 have HC0:=zA hc0
 clear hr0 hc0
 have HBW:=zA (kW w.heap.size w)
 have HB00:=zA hB
 have HW0:=zA hB.size
 have HB:=zA hB
 clear hB
 have H:=h
 unfold spec_l01From.f at H
 clear h
 have H' := zA H
 clear H
 go_enter Tryz.func33,Tryz.ntmps33
 go_wp2_with (first | (refine zBE 11 #[.slice A0 l0.length c0,.int .i64 0,.int .u64 (IntKind.u64.wrap (9341 + (IntKind.u64.wrap ((l0.length:Int)))))] 76 ?_;intro gb101 hg w2 hbox hb;replace HB:=zA (kQ (zQ HB.out) hb);have BK101:=zA (hbox);have GW101:=zA (zBH hg HBW.out);have GE101:=zA ((Nat.le_trans HW0.out (by rw [hg];exact (kP (zQ HBW.out)):w.heap.size ≤ gb101):w0.heap.size ≤ gb101));replace HBW:=zA (kQ HBW.out hb);clear hb hbox hg))
 go_loopg [4] k (fun kq v4 w' => ∃ (x4_1:Int) (x102002_1:Int),v4 = .int .i64 x4_1 ∧ Aside0 (spec_l01From.l0 kq l0 x4_1 l0 0 x102002_1 = some (r1,r2,r3)) ∧ Aside0 (kq ≤ k) ∧ Aside0 (w'.heap[gb101]? = some (.cells #[(.slice A0 l0.length c0),.int .i64 0,.int .u64 x102002_1] 76 (0,0))) ∧ Aside0 (Below w0.heap.size w0 w') ∧ Aside0 (Below w.heap.size w w'))
 case atStart=>exact ⟨(0),(IntKind.u64.wrap (9341 + (IntKind.u64.wrap ((l0.length:Int))))),zs,H', ⟨Nat.le_refl _⟩,⟨zR BK101.out⟩,⟨zT HB.out GE101.out⟩,⟨zT HBW.out GW101.out⟩⟩
 case round =>
  clear H'
  obtain ⟨x4_1,x102002_1,rfl,HA,HK1,BK101,HB,HBW⟩:=hrel
  cases gk with
  | zero=>exact absurd HA.out (by simp [spec_l01From.l0])
  | succ k1 =>
   have H:=HA.out
   clear HA
   simp only [spec_l01From.l0] at H
   by_cases c3:x4_1 < (l0.length:Int)
   ·rw [if_pos c3] at H
    have c3b0:decide (x4_1 < (l0.length:Int)) = true:=decide_eq_true c3
    clear c3
    by_cases c4:x4_1 < 4096
    ·rw [if_pos c4] at H
     have c4b0:decide (x4_1 < 4096) = true:=decide_eq_true c4
     clear c4
     by_cases c5:0 ≤ x4_1
     ·rw [if_pos c5] at H
      have c5b0:decide (0 ≤ x4_1) = true:=decide_eq_true c5
      clear c5
      have H' := zA H
      clear H
      try go_wp2
      have n0_:=zA (zK BK101.out)
      have n1_:=zA (zD HB.out)
      have n1w_:=zA (zD HBW.out)
      clear BK101 HB HBW
      have BK101:=n0_
      have HB:=n1_
      have HBW:=n1w_
      clear n0_ n1_
      have p102:0 ≤ (x4_1:Int):=zd
      have q102:x4_1 < (l0.length:Int):=zd
      obtain ⟨ad102,e102,hx102_0⟩:=Kd.at_int HR0.out x4_1 p102 q102
      have hw102_0:=hx102_0
      cases e102
      replace hx102_0:=pw_cell_below HB.out hx102_0
      replace p102:=eq_true p102
      replace q102:=eq_true q102
      refine start_ (n:=16) (S:=fun w' => w'.cell? ⟨gb101,0,none⟩ = some (.slice (some ad102) l0.length c0) ∧ w'.cell? ⟨gb101,1,none⟩ = some (.int .i64 0) ∧ w'.cell? ⟨gb101,2,none⟩ = some (.int .u64 x102002_1) ∧ w'.cell? (ad102.add (x4_1).toNat) = some (.int .u8 (rd l0 x4_1))) (ds:=[15]) #[false,false,false,false,false,false,false,false,false,false,false,false,false,false,false,false] (by kernel_rfl) rfl rfl ⟨(kV BK101.out 0).trans rfl,(kV BK101.out 1).trans rfl,(kV BK101.out 2).trans rfl,(pw_cell_below HB.out hw102_0)⟩ (fun hHeld=>?_);refine with_tabW spec_l01From.tab5 spec_l01From.bits5 (fun HT_ HW_=>?_)
      generalize wr.drew = w6 at BK101 HB HBW hx102_0 hHeld ⊢
      refine zp 0 (some 22) #[true,false,false,false,false,false,false,false,false,false,false,false,false,false,false,false] HT_.out ?_
      refine zp 1 (some 23) #[true,true,false,false,false,false,false,false,false,false,false,false,false,false,false,false] HT_.out ?_
      refine zp 2 (some 24) #[true,true,true,false,false,false,false,false,false,false,false,false,false,false,false,false] HT_.out ?_
      refine zp 3 (some 25) #[true,true,true,true,false,false,false,false,false,false,false,false,false,false,false,false] HT_.out ?_
      refine zp 6 (some 28) #[true,true,true,true,false,false,true,false,false,false,false,false,false,false,false,false] HT_.out ?_
      refine zp 7 (some 29) #[true,true,true,true,false,false,true,true,false,false,false,false,false,false,false,false] HT_.out ?_
      refine zp 8 (some 30) #[true,true,true,true,false,false,true,true,true,false,false,false,false,false,false,false] HT_.out ?_
      refine zf 4 (some 26) #[true,true,true,true,true,false,true,true,true,false,false,false,false,false,false,false] HT_.out HW_.out hHeld ?_
      refine zp 5 (some 27) #[true,true,true,true,true,true,true,true,true,false,false,false,false,false,false,false] HT_.out ?_
      refine zf 9 (some 31) #[true,true,true,true,true,true,true,true,true,true,false,false,false,false,false,false] HT_.out HW_.out hHeld ?_
      refine zp 10 (some 32) #[true,true,true,true,true,true,true,true,true,true,true,false,false,false,false,false] HT_.out ?_
      refine zp 11 (some 33) #[true,true,true,true,true,true,true,true,true,true,true,true,false,false,false,false] HT_.out ?_
      refine zp 12 (some 34) #[true,true,true,true,true,true,true,true,true,true,true,true,true,false,false,false] HT_.out ?_
      refine zp 13 (some 35) #[true,true,true,true,true,true,true,true,true,true,true,true,true,true,false,false] HT_.out ?_
      refine zp 14 (some 36) #[true,true,true,true,true,true,true,true,true,true,true,true,true,true,true,false] HT_.out ?_
      refine last_ (i:=15) (N:=none) #[true,true,true,true,true,true,true,true,true,true,true,true,true,true,true,true] rfl rfl (one_of HT_.out (by kernel_rfl)) (by decide) (fun K hK=>?_)
      have hs7:w6.cell? ⟨gb101,2,none⟩ = some (.int .u64 x102002_1):=(kV BK101.out 2).trans rfl
      have hfs7:=jH BK101.out 2
      refine skip_ (w1:=?_) (by rfl) rfl ?_ ?_
      rotate_left
      ·go_simp
       rfl
      refine hK.out _ _ ?_
      clear hK K
      refine done_ (done_of HT_.out (by kernel_rfl)) ?_
      try go_wp2
      go_roundg k1
      case measure=>have:=HK1.out;omega
      case rel=>exact ⟨(wrap64 (x4_1 + 1)),(IntKind.u64.wrap ((IntKind.u64.wrap ((IntKind.u64.wrap (x102002_1 * 1099511628211)) + (IntKind.u64.wrap (rd l0 x4_1)))) + 11)),zs,H', ⟨by have:=HK1.out;omega⟩,⟨by (with_reducible repeat (first | refine zJ ?_ _ | refine zK ?_ | refine zI ?_ _));refine blk_put (cs:=#[.slice (some ad102) l0.length c0,.int .i64 0,.int .u64 x102002_1]) ?_ 2 _ rfl;(with_reducible repeat (first | refine zJ ?_ _ | refine zK ?_ | refine zI ?_ _));exact BK101.out⟩,⟨zT HB.out GE101.out⟩,⟨zT HBW.out GW101.out⟩⟩
     rw [if_neg c5] at H
     exact absurd H (by simp)
    rw [if_neg c4] at H
    have c4b0:decide (x4_1 < 4096) = false:=decide_eq_false c4
    clear c4
    simp only [Option.some.injEq,Prod.mk.injEq] at H
    obtain ⟨rfl,rfl,rfl⟩:=H
    go_wp2
    go_ret
    exact ⟨_,rfl,(show Z76 w0 _ gb101 l0 0 x102002_1 from ⟨_,_,by (with_reducible repeat (first | refine zJ ?_ _ | refine zK ?_ | refine zI ?_ _));exact BK101.out,GE101.out,HR0.out⟩),zT HB.out GE101.out,zT HBW.out GW101.out,GW101.out⟩
   rw [if_neg c3] at H
   have c3b0:decide (x4_1 < (l0.length:Int)) = false:=decide_eq_false c3
   clear c3
   simp only [Option.some.injEq,Prod.mk.injEq] at H
   obtain ⟨rfl,rfl,rfl⟩:=H
   go_wp2
   go_ret
   exact ⟨_,rfl,(show Z76 w0 _ gb101 l0 0 x102002_1 from ⟨_,_,by (with_reducible repeat (first | refine zJ ?_ _ | refine zK ?_ | refine zI ?_ _));exact BK101.out,GE101.out,HR0.out⟩),zT HB.out GE101.out,zT HBW.out GW101.out,GW101.out⟩
def spec_l01Next.f (s0_0:List Int) (s0_1:Int) (s0_2:Int) (a1:Int):Option (Int × Int × Int):=if a1 < 1 then (some (0,s0_1,s0_2)) else (if s0_1 < (s0_0.length:Int) then (if 0 ≤ s0_1 then (if a1 = 0 then (none) else (some (Int.tmod (wrap64 ((wrap64 (Go.bits .and .u64 ((IntKind.u64.wrap ((IntKind.u64.wrap (s0_2 * 6364136223846793005)) + 1442695040888963407)) / 8589934592) 16777215)) + (wrap64 (rd s0_0 s0_1)))) a1,wrap64 (s0_1 + 1),IntKind.u64.wrap ((IntKind.u64.wrap (s0_2 * 6364136223846793005)) + 1442695040888963407)))) else (none)) else (if a1 = 0 then (none) else (some (Int.tmod (wrap64 (Go.bits .and .u64 ((IntKind.u64.wrap ((IntKind.u64.wrap (s0_2 * 6364136223846793005)) + 1442695040888963407)) / 8589934592) 16777215)) a1,s0_1,IntKind.u64.wrap ((IntKind.u64.wrap (s0_2 * 6364136223846793005)) + 1442695040888963407)))))
set_option maxHeartbeats 8000000 in
set_option maxRecDepth 100000 in
theorem spec_l01Next.calls (g : Nat) (s0_0 : List Int) (s0_1 : Int) (s0_2 : Int) (a1 : Int) (r1 : Int) (r2 : Int) (r3 : Int) (w0 w : World) (hI : Z76 w0 w g s0_0 s0_1 s0_2) (hB : Below w0.heap.size w0 w) (h : spec_l01Next.f s0_0 s0_1 s0_2 a1 = some (r1, r2, r3)) :
  Calls Tryz.prog 35 #[.pointer (some ⟨g,0,none⟩),.int .i64 a1] w fun e w' => e = .returned (.int .i64 r1) ∧ Z76 w0 w' g s0_0 r2 r3 ∧ Below w0.heap.size w0 w' ∧ KeepBut w w' g none:=by
 have HI0:=zA hI
 have HK:=zA (KeepBut.refl w g none)
 have HL:=zA hB.size
 clear hI
 have HW0:=zA hB.size
 have HB:=zA hB
 clear hB
 have H:=h
 unfold spec_l01Next.f at H
 clear h
 by_cases c3:a1 < 1
 ·rw [if_pos c3] at H
  have c3b0:decide (a1 < 1) = true:=decide_eq_true c3
  clear c3
  simp only [Option.some.injEq,Prod.mk.injEq] at H
  obtain ⟨rfl,rfl,rfl⟩:=H
  go_enter Tryz.func35,Tryz.ntmps35
  go_wp2
  repeat (go_quiet (fail);try go_wp2)
  go_ret
  exact ⟨zr,by repeat (first | (with_reducible first | exact HI0.out | apply Z76.alloc | apply Z76.drewN | apply Z76.drew | apply Z76.set_1 | apply Z76.set_2) | exact HI0.out),zT HB.out (Z76.ge HI0.out),by repeat (first | (with_reducible first | exact HK.out | apply KeepBut.set_ | apply keep_drewN | apply keep_drew | apply keep_alloc) | exact HK.out)⟩
 rw [if_neg c3] at H
 have c3b0:decide (a1 < 1) = false:=decide_eq_false c3
 clear c3
 by_cases c4:s0_1 < (s0_0.length:Int)
 ·rw [if_pos c4] at H
  have c4b0:decide (s0_1 < (s0_0.length:Int)) = true:=decide_eq_true c4
  clear c4
  by_cases c5:0 ≤ s0_1
  ·rw [if_pos c5] at H
   have c5b0:decide (0 ≤ s0_1) = true:=decide_eq_true c5
   clear c5
   by_cases c6:a1 = 0
   ·rw [if_pos c6] at H
    exact absurd H (by simp)
   rw [if_neg c6] at H
   obtain ⟨c6b0,c6b1⟩:=zT2 c6
   simp only [Option.some.injEq,Prod.mk.injEq] at H
   obtain ⟨rfl,rfl,rfl⟩:=H
   obtain ⟨ASz7_0,cSz7_0,HGz7,hgz7,HSz7_0⟩:=HI0.out
   have hcz7_0:=cellS76_0 HGz7
   have hcz7_1:=cellS76_1 HGz7
   have hcz7_2:=cellS76_2 HGz7
   have hfz7_1:=jH HGz7 1
   have hfz7_2:=jH HGz7 2
   clear HGz7 hgz7
   have p103:0 ≤ (s0_1:Int):=zd
   have q103:s0_1 < (s0_0.length:Int):=zd
   obtain ⟨ad103,e103,hx103_0⟩:=Kd.at_int HSz7_0 s0_1 p103 q103
   cases e103
   have hn103_0:ad103.block ≠ g:=Nat.ne_of_lt (Nat.lt_of_lt_of_le (by have:=jG _ _ hx103_0;first | rwa [add_block] at this | exact this) (Z76.ge HI0.out))
   replace hx103_0:=pw_cell_below HB.out hx103_0
   replace hx103_0:=(cell_far (p:=⟨g,2,none⟩) (by first | (rw [add_block];exact hn103_0) | (show (Addr.add _ _).block ≠ _;rw [add_block];exact hn103_0) | exact hn103_0) (.int .u64 (IntKind.u64.wrap ((IntKind.u64.wrap (s0_2 * 6364136223846793005)) + 1442695040888963407)))).trans hx103_0
   (try have hy103_0:=fun (n_:Nat)=>(show (((w.drewN n_).setCell ⟨g,2,none⟩ (.int .u64 (IntKind.u64.wrap ((IntKind.u64.wrap (s0_2 * 6364136223846793005)) + 1442695040888963407))))).cell? _ = some _ from hx103_0))
   clear hn103_0
   replace p103:=eq_true p103
   replace q103:=eq_true q103
   go_enter Tryz.func35,Tryz.ntmps35
   go_wp2
   repeat (go_quiet (fail);try go_wp2)
   go_ret
   exact ⟨zr,by repeat (first | (with_reducible first | exact HI0.out | apply Z76.alloc | apply Z76.drewN | apply Z76.drew | apply Z76.set_1 | apply Z76.set_2) | exact HI0.out),zT HB.out (Z76.ge HI0.out),by repeat (first | (with_reducible first | exact HK.out | apply KeepBut.set_ | apply keep_drewN | apply keep_drew | apply keep_alloc) | exact HK.out)⟩
  rw [if_neg c5] at H
  exact absurd H (by simp)
 rw [if_neg c4] at H
 have c4b0:decide (s0_1 < (s0_0.length:Int)) = false:=decide_eq_false c4
 clear c4
 by_cases c8:a1 = 0
 ·rw [if_pos c8] at H
  exact absurd H (by simp)
 rw [if_neg c8] at H
 obtain ⟨c8b0,c8b1⟩:=zT2 c8
 simp only [Option.some.injEq,Prod.mk.injEq] at H
 obtain ⟨rfl,rfl,rfl⟩:=H
 obtain ⟨ASz9_0,cSz9_0,HGz9,hgz9,HSz9_0⟩:=HI0.out
 have hcz9_0:=cellS76_0 HGz9
 have hcz9_1:=cellS76_1 HGz9
 have hcz9_2:=cellS76_2 HGz9
 have hfz9_1:=jH HGz9 1
 have hfz9_2:=jH HGz9 2
 clear HGz9 hgz9
 go_enter Tryz.func35,Tryz.ntmps35
 go_wp2
 repeat (go_quiet (fail);try go_wp2)
 go_ret
 exact ⟨zr,by repeat (first | (with_reducible first | exact HI0.out | apply Z76.alloc | apply Z76.drewN | apply Z76.drew | apply Z76.set_1 | apply Z76.set_2) | exact HI0.out),zT HB.out (Z76.ge HI0.out),by repeat (first | (with_reducible first | exact HK.out | apply KeepBut.set_ | apply keep_drewN | apply keep_drew | apply keep_alloc) | exact HK.out)⟩
def spec_l01Pick.f (s0_0:List Int) (s0_1:Int) (s0_2:Int) (l1:List Int):Option (Int × Int × Int):=(spec_l01Next.f s0_0 s0_1 s0_2 (l1.length:Int)).bind fun bt104=>(if 0 ≤ bt104.1 then (if bt104.1 < (l1.length:Int) then (some (rd l1 bt104.1,bt104.2.1,bt104.2.2)) else (none)) else (none))
set_option maxHeartbeats 8000000 in
set_option maxRecDepth 100000 in
theorem spec_l01Pick.calls (g : Nat) (s0_0 : List Int) (s0_1 : Int) (s0_2 : Int) (A1 : Option Addr) (c1 : Nat) (l1 : List Int) (r1 : Int) (r2 : Int) (r3 : Int) (w0 w : World) (hI : Z76 w0 w g s0_0 s0_1 s0_2) (hB : Below w0.heap.size w0 w) (hr1 : Kd.C (Kd.int .i64) w A1 l1.length l1) (hc1 : l1.length ≤ c1) (hf1 : ∀ ad, A1 = some ad → 0 < l1.length → ad.block ≠ g) (h : spec_l01Pick.f s0_0 s0_1 s0_2 l1 = some (r1, r2, r3)) :
  Calls Tryz.prog 36 #[.pointer (some ⟨g,0,none⟩),.slice A1 l1.length c1] w fun e w' => e = .returned (.int .i64 r1) ∧ Z76 w0 w' g s0_0 r2 r3 ∧ Below w0.heap.size w0 w' ∧ KeepBut w w' g none:=by
 have HR1:=zA hr1
 have HC1:=zA hc1
 clear hr1 hc1
 have HI0:=zA hI
 have HK:=zA (KeepBut.refl w g none)
 have HL:=zA hB.size
 clear hI
 have HW0:=zA hB.size
 have HB:=zA hB
 clear hB
 have H:=h
 unfold spec_l01Pick.f at H
 clear h
 obtain ⟨⟨t104,t105,t106⟩,A3,H⟩:=zb H
 try dsimp only at H
 by_cases c4:0 ≤ t104
 ·rw [if_pos c4] at H
  have c4b0:decide (0 ≤ t104) = true:=decide_eq_true c4
  clear c4
  by_cases c5:t104 < (l1.length:Int)
  ·rw [if_pos c5] at H
   have c5b0:decide (t104 < (l1.length:Int)) = true:=decide_eq_true c5
   clear c5
   simp only [Option.some.injEq,Prod.mk.injEq] at H
   obtain ⟨rfl,rfl,rfl⟩:=H
   go_enter Tryz.func36,Tryz.ntmps36
   go_wp2_with (first | (refine zO (some 9) Tryz.func35 #[.pointer (some ⟨g,0,none⟩),.int .i64 (l1.length:Int)] ?_;(with_reducible refine (spec_l01Next.calls g s0_0 s0_1 s0_2 (l1.length:Int) t104 t105 t106 w0 _ ?side1 ?side2 A3.out).mono ?_);(case side1=>exact Z76.uA HI0.out);(case side2=>exact zT HB.out (Z76.ge HI0.out));rintro e w6 ⟨rfl,hi,hb,hk⟩;refine ⟨_,rfl,?_⟩;replace HK:=zA (kT (yA HK.out) hk (.inl rfl));replace HB:=zA (hb);replace HI0:=zA (hi);(try clear hb);(try clear hk);(try clear hi);have p107:0 ≤ (t104:Int):=zd;have q107:t104 < (l1.length:Int):=zd;obtain ⟨ad107,e107,hx107_0⟩:=Kd.at_int HR1.out t104 p107 q107;cases e107;replace hx107_0:=keep_cell HK.out hx107_0 (by first | (rw [add_block];exact hf1 _ rfl (by omega)) | exact hf1 _ rfl (by omega) | exact hf1 ad107 rfl (by omega));replace p107:=eq_true p107;replace q107:=eq_true q107))
   go_ret
   exact ⟨zr,by repeat (first | (with_reducible first | exact HI0.out | apply Z76.alloc | apply Z76.drewN | apply Z76.drew | apply Z76.set_1 | apply Z76.set_2) | exact HI0.out),zT HB.out (Z76.ge HI0.out),by repeat (first | (with_reducible first | exact HK.out | apply KeepBut.set_ | apply keep_drewN | apply keep_drew | apply keep_alloc) | exact HK.out)⟩
  rw [if_neg c5] at H
  exact absurd H (by simp)
 rw [if_neg c4] at H
 exact absurd H (by simp)
def spec_l01One.f (a0:Int):Option (Int):=if 0 ≤ (IntKind.u64.wrap (a0)) then (some (shl .i64 1 (IntKind.u64.wrap (a0)))) else (none)
set_option maxHeartbeats 8000000 in
set_option maxRecDepth 100000 in
theorem spec_l01One.calls (a0 : Int) (r : Int) (w : World) (h : spec_l01One.f a0 = some r) :
  Calls Tryz.prog 61 #[.int .i64 a0] w fun e w' => e = .returned (.int .i64 r) ∧ Drawn0 w w' := by
 have H:=h
 unfold spec_l01One.f at H
 clear h
 obtain ⟨ji2,hji2⟩:∃ j_:Int,(IntKind.u64.wrap (a0)) = j_:=⟨_,rfl⟩
 replace H:(if 0 ≤ (ji2) then (some (shl .i64 1 (ji2))) else (none)) = some r:=by first | (rw [hji2] at H;exact H) | (simp only [hji2] at H ⊢;exact H)
 by_cases c3:0 ≤ (ji2)
 ·rw [if_pos c3] at H
  have c3b0:=eq_true c3
  have c3b1:decide (0 ≤ (ji2)) = true:=decide_eq_true c3
  clear c3
  obtain ⟨ji4,hji4⟩:∃ j_:Int,(shl .i64 1 (ji2)) = j_:=⟨_,rfl⟩
  replace H:(some ji4) = some r:=by first | (rw [hji4] at H;exact H) | (simp only [hji4] at H ⊢;exact H)
  have hji4_:(IntKind.i64.wrap (1 * 2 ^ min (ji2).toNat 64)) = ji4:=hji4
  have hji4z:(ji2) ≤ 64 → (IntKind.i64.wrap (1 * 2 ^ (ji2).toNat)) = ji4:=shl_small hji4
  have hji4u:(IntKind.i64.wrap (2 ^ min (ji2).toNat 64)) = ji4:=by have h_:=hji4_;rw [Int.one_mul] at h_;exact h_
  have hji4v:(ji2) ≤ 64 → (IntKind.i64.wrap (2 ^ (ji2).toNat)) = ji4:=fun hle_=>by have h_:=hji4z hle_;rw [Int.one_mul] at h_;exact h_
  have hji4y:(wrap64 (1 * 2 ^ min (ji2).toNat 64)) = ji4:=(i64_w _).symm.trans hji4_
  have hji4x:(ji2) ≤ 64 → (wrap64 (1 * 2 ^ (ji2).toNat)) = ji4:=fun h_=>(i64_w _).symm.trans (hji4z h_)
  obtain rfl:=Option.some.inj H
  go_enter Tryz.func61,Tryz.ntmps61
  go_wp2
  go_ret
  exact ⟨by first | rfl | (simp;done) | (simp only [← hji2,← hji4] <;> (first | rfl | simp)) | (simp [*];done),by repeat (first | exact Drawn0.refl _ | apply Drawn0.step)⟩
 rw [if_neg c3] at H
 exact absurd H (by simp)
def spec_l02Free.l0:Nat → Int → Int → Int → List Int → Option (Int × List Int)
 | 0,_,_,_,_=>none
 | k + 1,x0,x4,x113000,x113001=>if x4 < x0 then ((spec_l01One.f x4).bind fun t113=>(if x113001.length < 17592186044416 then (spec_l02Free.l0 k x0 (wrap64 (x4 + 1)) x113000 (x113001 ++ [t113])) else (none))) else (some (x113000,x113001))
def spec_l02Free.f (k:Nat) (a0:Int):Option (Int × List Int):=spec_l02Free.l0 k a0 0 a0 (([]:List Int))
def spec_l02Free.T5:Bool × List (List Nat × List Nat):=(true,[([],[]),([0],[0]),([],[]),([2],[2]),([3],[3]),([1,4,3],[1,4]),([0,1,2,3,4,5],[]),([6,5,5,0,1,2,3,4,5],[5,6])])
def spec_l02Free.B5:List Nat:=[0,1,0,4,12,31,63,127]
theorem spec_l02Free.tab5:rtab .any (opsOf Tryz.f76 5) = spec_l02Free.T5:=by kernel_rfl
theorem spec_l02Free.bits5:waitsOk spec_l02Free.T5.2 spec_l02Free.B5 = true:=by kernel_rfl
set_option maxHeartbeats 8000000 in
set_option maxRecDepth 100000 in
theorem spec_l02Free.calls (k : Nat) (a0 : Int) (r1 : Int) (r2 : List Int) (w : World) (h : spec_l02Free.f k a0 = some (r1, r2)) :
  Calls Tryz.prog 76 #[.int .i64 a0] w fun e w' => ∃ v1_:Value,e = .returned (.agg #[.int .i64 r1,v1_]) ∧ Kd.R (Kd.int .i64) 2 w' w.heap.size (fun _=>True) v1_ r2 ∧ Below w.heap.size w w' := by
 have hu26:=Tryz.underlying26
 have HB:=zA (kW w.heap.size w)
 have H:=h
 unfold spec_l02Free.f at H
 clear h
 obtain ⟨y109,hy109⟩:∃ y_:List Int,y_ = (([]:List Int)):=⟨_,rfl⟩
 replace H:(spec_l02Free.l0 k a0 0 a0 y109) = some (r1,r2):=zy hy109 H
 have Ny109:=zA hy109
 clear hy109
 have H' := zA H
 clear H
 go_enter Tryz.func76,Tryz.ntmps76
 go_wp2_with (first | (refine zBE 2 #[.int .i64 0,.slice none 0 0] 26 ?_;intro gb108 hg w2 hbox hb;have BK108:=zA (hbox);have GW108:=zA (zBH hg HB.out);have GE108:=zA (zBH hg HB.out);replace HB:=zA (kQ (zQ HB.out) hb);clear hb hbox hg) | ((with_reducible refine kS (N:=6) rfl ?_);refine Kd.R_lit (Kd.int .i64) _ 2 ?hg (N:=6) ?hd (xs:=([]:List Int)) (inner:=[]) (ok:=fun _=>True) (okp:=fun _=>True) ?hr ?hp (fun _ hk=>hk) trivial (kW _ _) (Nat.le_refl _) (by simp) ?_;(case hd=>rfl);(case hg=>rfl);(case hr=>first | (go_simp;done) | (go_simp;rfl));(case hp=>exact (Reps.none _ _));intro v110 w3 ho4 hb hg_ hnew_;clear hg_ hnew_;(first | rw [← Ny109.out] at ho4 | (simp only [Int.reduceToNat] at ho4;rw [← Ny109.out] at ho4));have HO111:=zA (kI ho4 (kP (zT HB.out GE108.out)));replace BK108:=zA (zB1 BK108.out hb);replace HB:=zA (kQ (zT HB.out GE108.out) hb);clear hb ho4;obtain ⟨Ao5,co5,eo5⟩:=kM HO111.out;subst eo5) | (refine zBE 3 #[.int .i64 0,.slice none 0 0] 26 ?_;intro gb112 hg w6 hbox hb;replace HO111:=zA (kL (zP HO111.out) hb);have BK112:=zA (hbox);have GW112:=zA (zB6 hg (kP (zT HB.out GE108.out)):w.heap.size ≤ gb112);have GE112:=zA (zB6 hg (kP (zT HB.out GE108.out)):w.heap.size ≤ gb112);replace HB:=zA (kQ (zT HB.out GE108.out) hb);have NB108_112:=zA (zB4 hg BK108.out:gb108 ≠ gb112);have NB112_108:=zA (zB5 hg BK108.out:gb112 ≠ gb108);replace BK108:=zA (zB1 BK108.out hb);clear hb hbox hg;have hnb7:=NB112_108.out;have hnc7:=NB108_112.out;obtain ⟨hcz8_0,hcz8_1,hfz8_0,hfz8_1⟩:=zB3 BK112.out))
 go_loopg [4] k (fun kq v4 w' => ∃ (x4_1:Int) (x113001_1:List Int) (u113001:Value),v4 = .int .i64 x4_1 ∧ Aside0 (spec_l02Free.l0 kq a0 x4_1 a0 x113001_1 = some (r1,r2)) ∧ Aside0 (kq ≤ k) ∧ Aside0 (Kd.R (Kd.int .i64) 2 w' w.heap.size (fun _=>True) u113001 x113001_1) ∧ Aside0 (w'.heap[gb108]? = some (.cells #[.int .i64 0,(.slice none 0 0)] 26 (0,0))) ∧ Aside0 (w'.heap[gb112]? = some (.cells #[.int .i64 a0,u113001] 26 (0,0))) ∧ Aside0 (Below w.heap.size w w'))
 case atStart=>exact ⟨(0),(y109),(.slice Ao5 y109.length co5),zs,H', ⟨Nat.le_refl _⟩,⟨by (with_reducible repeat (first | apply zF | apply zG | apply zH));exact kA (kY (p:=⟨gb112,1,none⟩) (kY (p:=⟨gb112,0,none⟩) (kD HO111.out BK112.out (by decide)) (fun _ hk=>hk.2) (.int .i64 a0)) (fun _ hk=>hk.2) (.slice Ao5 y109.length co5)) (fun _ hk=>trivial)⟩,⟨by (with_reducible repeat (first | refine zJ ?_ _ | refine zK ?_ | refine zI ?_ _));refine blk_far ?_ NB108_112.out _;(with_reducible repeat (first | refine zJ ?_ _ | refine zK ?_ | refine zI ?_ _));refine blk_far ?_ NB108_112.out _;(with_reducible repeat (first | refine zJ ?_ _ | refine zK ?_ | refine zI ?_ _));exact BK108.out⟩,⟨by (with_reducible repeat (first | refine zJ ?_ _ | refine zK ?_ | refine zI ?_ _));refine blk_put (cs:=#[.int .i64 a0,.slice none 0 0]) ?_ 1 _ rfl;(with_reducible repeat (first | refine zJ ?_ _ | refine zK ?_ | refine zI ?_ _));refine blk_put (cs:=#[.int .i64 0,.slice none 0 0]) ?_ 0 _ rfl;(with_reducible repeat (first | refine zJ ?_ _ | refine zK ?_ | refine zI ?_ _));exact BK112.out⟩,⟨zV HB.out GE108.out GE112.out⟩⟩
 case round =>
  clear H'
  try clear c7
  try clear hcz8_0
  try clear hcz8_1
  try clear hfz8_0
  try clear hfz8_1
  obtain ⟨x4_1,x113001_1,u113001,rfl,HA,HK1,HO_113001,BK108,BK112,HB⟩:=hrel
  cases gk with
  | zero=>exact absurd HA.out (by simp [spec_l02Free.l0])
  | succ k1 =>
   have H:=HA.out
   clear HA
   simp only [spec_l02Free.l0] at H
   by_cases c9:x4_1 < a0
   ·rw [if_pos c9] at H
    have c9b0:decide (x4_1 < a0) = true:=decide_eq_true c9
    clear c9
    obtain ⟨t113,A10,H⟩:=zb H
    try dsimp only at H
    by_cases c11:x113001_1.length < 17592186044416
    ·rw [if_pos c11] at H
     have LMc11:=zA c11
     clear c11
     obtain ⟨y114,hy114⟩:∃ y_:List Int,y_ = (x113001_1 ++ [t113]):=⟨_,rfl⟩
     replace H:(spec_l02Free.l0 k1 a0 (wrap64 (x4_1 + 1)) a0 y114) = some (r1,r2):=zy hy114 H
     have Ny114:=zA hy114
     clear hy114
     have H' := zA H
     clear H
     try go_wp2
     replace HO_113001:=zA (zH HO_113001.out)
     replace BK108:=zA (zK BK108.out)
     replace BK112:=zA (zK BK112.out)
     replace HB:=zA (zD HB.out)
     refine start_ (n:=8) (S:=fun w' => w'.cell? ⟨gb112,0,none⟩ = some (.int .i64 a0) ∧ w'.cell? ⟨gb112,1,none⟩ = some (u113001)) (ds:=[7]) #[false,false,false,false,false,false,false,false] (by kernel_rfl) rfl rfl ⟨(kV BK112.out 0).trans rfl,(kV BK112.out 1).trans rfl⟩ (fun hHeld=>?_);refine with_tabW spec_l02Free.tab5 spec_l02Free.bits5 (fun HT_ HW_=>?_)
     generalize wr.drew = w12 at HO_113001 BK108 BK112 HB hHeld ⊢
     refine zp 0 (some 13) #[true,false,false,false,false,false,false,false] HT_.out ?_
     refine zp 2 (some 15) #[true,false,true,false,false,false,false,false] HT_.out ?_
     refine zc 1 (some 14) #[true,true,true,false,false,false,false,false] HT_.out HW_.out hHeld ?_
     refine one_ (i:=3) (N:=some 16) #[true,true,true,true,false,false,false,false] rfl rfl (one_of HT_.out (by kernel_rfl)) (by decide) (fun K hK=>?_)
     refine goes_ Tryz.func61 (by kernel_rfl) rfl #[.int .i64 x4_1] (by rfl) rfl rfl zg ?_
     with_reducible refine (spec_l01One.calls x4_1 t113 _ A10.out).mono ?_
     rintro e w' ⟨rfl,⟨nd,rfl⟩⟩
     refine ⟨_,rfl,?_⟩
     refine hK.out _ _ ⟨(kV BK112.out 0).trans rfl,(kV BK112.out 1).trans rfl⟩ (fun hHeld=>?_)
     clear hK K
     refine norm_ (a' := ?_) ?_ ?_
     rotate_left
     ·show Act.put _ (some 16) _ = _
      simp only [Act.put,zL,zM,zN,i64_w,i32_w]
      rfl
     refine one_ (i:=4) (N:=some 17) #[true,true,true,true,true,false,false,false] rfl rfl (one_of HT_.out (by kernel_rfl)) (by decide) (fun K hK=>?_)
     refine value_ (w1:=?_) (v:=?_) (by rfl) rfl ?_ ?_
     rotate_left 2
     ·go_simp
      constructor
      ·rfl
      rfl
     refine hK.out _ _ ⟨(kV (zI BK112.out _) 0).trans rfl,(kV (zI BK112.out _) 1).trans rfl⟩ (fun hHeld=>?_)
     clear hK K
     refine norm_ (a' := ?_) ?_ ?_
     rotate_left
     ·show Act.put _ (some 17) _ = _
      simp only [Act.put,zL,zM,zN,i64_w,i32_w]
      rfl
     refine one_ (i:=5) (N:=some 18) #[true,true,true,true,true,true,false,false] rfl rfl (one_of HT_.out (by kernel_rfl)) (by decide) (fun K hK=>?_)
     refine Kd.R_append_step (Kd.int .i64) (w0:=w) w.heap.size (by rfl) (.tmp 14) (.tmp 17) 24 2 (.int .i64 0) 8 rfl Tryz.underlying24 info2 rfl (by decide) (by omega) u113001 x113001_1 t113 [.int .i64 t113] (fun _=>True) (fun _=>False) rfl rfl ?aP (fun _ hk=>hk.elim) ?aF ?aO ?aB ?aS ?aL ?_
     (case aP=>exact rfl)
     (case aB=>exact (zV HB.out GE108.out GE112.out))
     (case aF=>exact (fun _ _=>trivial))
     (case aO=>exact (zP HO_113001.out))
     (case aS=>exact (kP (zV HB.out GE108.out GE112.out)))
     (case aL=>have:=LMc11.out;omega)
     intro v115 w13 ho hb hg hat
     rw [← Ny114.out] at ho
     replace BK108:=zA (blk_grown (g:=gb108) (o:=.cells #[.int .i64 0,.slice none 0 0] 26 (0,0)) (zR BK108.out) hg (Kd.R_ne HO_113001.out BK108.out (by decide)))
     replace BK112:=zA (blk_grown (g:=gb112) (o:=.cells #[.int .i64 a0,u113001] 26 (0,0)) (zR BK112.out) hg (Kd.R_ne HO_113001.out BK112.out (by decide)))
     replace HB:=zA (hb)
     have HO116:=zA (ho)
     clear HO_113001 ho hb hg hat
     obtain ⟨Ao14,co14,eo14⟩:=kM HO116.out
     (first | subst eo14 | (injection eo14 with f1_ f2_ f3_;have f4_:=f1_.symm;have f5_:=f3_.symm;clear f1_ f2_ f3_;subst f4_;subst f5_))
     refine hK.out _ _ ⟨(kV BK112.out 0).trans rfl,(kV BK112.out 1).trans rfl⟩ (fun hHeld=>?_)
     clear hK K
     refine norm_ (a' := ?_) ?_ ?_
     rotate_left
     ·show Act.put _ (some 18) _ = _
      simp only [Act.put,zL,zM,zN,i64_w,i32_w]
      rfl
     refine zp 6 (some 19) #[true,true,true,true,true,true,true,false] HT_.out ?_
     refine last_ (i:=7) (N:=none) #[true,true,true,true,true,true,true,true] rfl rfl (one_of HT_.out (by kernel_rfl)) (by decide) (fun K hK=>?_)
     have hs15:w13.cell? ⟨gb112,1,none⟩ = some (u113001):=(kV BK112.out 1).trans rfl
     have hfs15:=jH BK112.out 1
     have hns15_0:=NB108_112.out
     have hms15_0:=NB112_108.out
     refine skip_ (w1:=?_) (by rfl) rfl ?_ ?_
     rotate_left
     ·go_simp
      rfl
     refine hK.out _ _ ?_
     clear hK K
     refine done_ (done_of HT_.out (by kernel_rfl)) ?_
     try go_wp2
     go_roundg k1
     case measure=>have:=HK1.out;omega
     case rel=>exact ⟨(wrap64 (x4_1 + 1)),(y114),(.slice Ao14 y114.length co14),zs,H', ⟨by have:=HK1.out;omega⟩,⟨by (with_reducible repeat (first | apply zF | apply zG | apply zH));exact kA (kY (p:=⟨gb112,1,none⟩) (kD HO116.out BK112.out (by decide)) (fun _ hk=>hk.2) (.slice Ao14 y114.length co14)) (fun _ hk=>trivial)⟩,⟨by (with_reducible repeat (first | refine zJ ?_ _ | refine zK ?_ | refine zI ?_ _));refine blk_far ?_ NB108_112.out _;(with_reducible repeat (first | refine zJ ?_ _ | refine zK ?_ | refine zI ?_ _));exact BK108.out⟩,⟨by (with_reducible repeat (first | refine zJ ?_ _ | refine zK ?_ | refine zI ?_ _));refine blk_put (cs:=#[.int .i64 a0,u113001]) ?_ 1 _ rfl;(with_reducible repeat (first | refine zJ ?_ _ | refine zK ?_ | refine zI ?_ _));exact BK112.out⟩,⟨zV HB.out GE108.out GE112.out⟩⟩
    rw [if_neg c11] at H
    exact absurd H (by simp)
   rw [if_neg c9] at H
   have c9b0:decide (x4_1 < a0) = false:=decide_eq_false c9
   clear c9
   simp only [Option.some.injEq,Prod.mk.injEq] at H
   obtain ⟨rfl,rfl⟩:=H
   have hnb16:=NB112_108.out
   have hnc16:=NB108_112.out
   obtain ⟨hcz17_0,hcz17_1,hfz17_0,hfz17_1⟩:=zB3 BK112.out
   obtain ⟨hcz18_0,hcz18_1,hfz18_0,hfz18_1⟩:=zB3 BK108.out
   obtain ⟨Ao19,co19,eo19⟩:=kM HO_113001.out
   subst eo19
   go_wp2
   refine bodyPost_ret (results_cell_row rfl _ _ gb108 26 #[.int .i64 a0,.slice Ao19 x113001_1.length co19] (0,0) _ rfl (zRP BK108.out) Tryz.underlying26 rfl (by kernel_rfl)) rfl ?_
   exact ⟨_,zr,by (with_reducible repeat (first | apply zF | apply zG | apply zH));exact kA (kY (p:=⟨gb108,1,none⟩) (kY (p:=⟨gb108,0,none⟩) (kD HO_113001.out BK108.out (by decide)) (fun _ hk=>hk.2) (.int .i64 a0)) (fun _ hk=>hk.2) (.slice Ao19 x113001_1.length co19)) (fun _ hk=>trivial),zV HB.out GE108.out GE112.out⟩
def spec_l01One_Bl02Join.f (a0:Int):Option (Int):=spec_l01One.f a0
theorem spec_l01One_Bl02Join.calls (a0:Int) (r:Int) (w:World) (h:spec_l01One_Bl02Join.f a0 = some r) :
 Calls Tryz.prog 61 #[.int .i64 a0] w fun e w' => e = .returned (.int .i64 r) ∧ Below w.heap.size w w' := by
 refine (spec_l01One.calls a0 r w h).mono ?_
 rintro e w' ⟨h1,h2⟩
 exact ⟨h1,Drawn0.below h2⟩
def spec_l02Join.f (a0_0:Int) (l0_1:List Int) (a1:Int) (a2:Int):Option (List Int):=if 0 ≤ a1 then (if a1 < (l0_1.length:Int) then ((spec_l01One_Bl02Join.f a2).bind fun t119=>((some (l0_1.set (a1:Int).toNat (Go.bits .or .i64 (rd l0_1 a1) t119):List Int)).bind fun y120=>(if 0 ≤ a2 then (if a2 < (l0_1.length:Int) then ((spec_l01One_Bl02Join.f a1).bind fun t122=>(some (y120.set (a2:Int).toNat (Go.bits .or .i64 (rd y120 a2) t122)))) else (none)) else (none)))) else (none)) else (none)
def spec_l02Join.T1:Bool × List (List Nat × List Nat):=(true,[([],[]),([0],[0]),([],[]),([],[]),([3],[3]),([],[]),([4,5],[4,5]),([6],[6]),([],[]),([8],[8]),([7,9],[7,9]),([1,2,0,1,2,3,4,5,6,7,8,9,10],[1,2]),([11,10,9,0,1,2,3,4,5,6,7,8,9,10],[10,11])])
def spec_l02Join.B1:List Nat:=[0,1,0,0,8,0,56,120,0,256,1016,2047,4095]
theorem spec_l02Join.tab1:rtab .any (opsOf Tryz.f77 1) = spec_l02Join.T1:=by kernel_rfl
theorem spec_l02Join.bits1:waitsOk spec_l02Join.T1.2 spec_l02Join.B1 = true:=by kernel_rfl
def spec_l02Join.T2:Bool × List (List Nat × List Nat):=(true,[([],[]),([0],[0]),([],[]),([],[]),([3],[3]),([],[]),([4,5],[4,5]),([6],[6]),([],[]),([8],[8]),([7,9],[7,9]),([1,2,0,1,2,3,4,5,6,7,8,9,10],[1,2]),([11,10,9,0,1,2,3,4,5,6,7,8,9,10],[10,11])])
def spec_l02Join.B2:List Nat:=[0,1,0,0,8,0,56,120,0,256,1016,2047,4095]
theorem spec_l02Join.tab2:rtab .any (opsOf Tryz.f77 2) = spec_l02Join.T2:=by kernel_rfl
theorem spec_l02Join.bits2:waitsOk spec_l02Join.T2.2 spec_l02Join.B2 = true:=by kernel_rfl
set_option maxHeartbeats 8000000 in
set_option maxRecDepth 100000 in
theorem spec_l02Join.calls (a0_0 : Int) (P0_1_ : Nat → Prop) (u9000_ : Value) (l0_1 : List Int) (a1 : Int) (a2 : Int) (r : List Int) (w0 w : World) (hB : Below w0.heap.size w0 w) (ho0_1 : Kd.R (Kd.int .i64) 2 w w0.heap.size P0_1_ u9000_ l0_1) (h : spec_l02Join.f a0_0 l0_1 a1 a2 = some r) :
  Calls Tryz.prog 77 #[.agg #[.int .i64 a0_0,u9000_],.int .i64 a1,.int .i64 a2] w fun e w' => e = .returned (.tuple #[]) ∧ Kd.R (Kd.int .i64) 2 w' w0.heap.size (fun k_=>(P0_1_ k_ ∨ w.heap.size ≤ k_)) u9000_ r ∧ Below w0.heap.size w0 w' ∧ Kept w w' (fun k_=>P0_1_ k_):=by
 have hu26:=Tryz.underlying26
 have HO0_1:=zA (show Kd.R (Kd.int .i64) 2 w w0.heap.size (fun k_=>(P0_1_ k_ ∨ w.heap.size ≤ k_)) u9000_ l0_1 from kA ho0_1 (fun k_ hk=>(.inl hk)))
 have HK:=zA (Kept.refl w (fun k_=>P0_1_ k_))
 have HW0:=zA hB.size
 have HB:=zA hB
 clear hB
 have H:=h
 unfold spec_l02Join.f at H
 clear h
 by_cases c4:0 ≤ a1
 ·rw [if_pos c4] at H
  have c4b0:decide (0 ≤ a1) = true:=decide_eq_true c4
  clear c4
  by_cases c5:a1 < (l0_1.length:Int)
  ·rw [if_pos c5] at H
   have c5b0:decide (a1 < (l0_1.length:Int)) = true:=decide_eq_true c5
   clear c5
   obtain ⟨t119,A6,H⟩:=zb H
   try dsimp only at H
   obtain ⟨y120,hy120⟩:∃ y_:List Int,y_ = (l0_1.set (a1:Int).toNat (Go.bits .or .i64 (rd l0_1 a1) t119)):=⟨_,rfl⟩
   replace H:(if 0 ≤ a2 then (if a2 < (l0_1.length:Int) then ((spec_l01One_Bl02Join.f a1).bind fun t122=>(some (y120.set (a2:Int).toNat (Go.bits .or .i64 (rd y120 a2) t122)))) else (none)) else (none)) = some r:=zy hy120 H
   have Ny120:=zA hy120
   clear hy120
   by_cases c8:0 ≤ a2
   ·rw [if_pos c8] at H
    have c8b0:decide (0 ≤ a2) = true:=decide_eq_true c8
    clear c8
    by_cases c9:a2 < (l0_1.length:Int)
    ·rw [if_pos c9] at H
     have c9b0:decide (a2 < (l0_1.length:Int)) = true:=decide_eq_true c9
     clear c9
     obtain ⟨t122,A10,H⟩:=zb H
     try dsimp only at H
     obtain ⟨y123,hy123⟩:∃ y_:List Int,y_ = (y120.set (a2:Int).toNat (Go.bits .or .i64 (rd y120 a2) t122)):=⟨_,rfl⟩
     replace H:(some y123) = some r:=zy hy123 H
     have Ny123:=zA hy123
     clear hy123
     obtain rfl:=Option.some.inj H
     obtain ⟨Ao12,co12,eo12⟩:=kM HO0_1.out
     subst eo12
     go_enter Tryz.func77,Tryz.ntmps77
     try go_wp2_with (first | (refine zBE 3 #[.int .i64 a0_0,.slice Ao12 l0_1.length co12] 26 ?_;intro gb117 hg w13 hbox hb;replace HO0_1:=zA (kL (zP HO0_1.out) hb);have BK117:=zA (hbox);have GW117:=zA (zB6 hg (by first | exact HK.out.1 | exact (show Kept w _ (fun k_=>P0_1_ k_) from by repeat (first | (with_reducible first | exact HK.out | apply Kept.alloc | apply Kept.drewN | apply Kept.drew) | exact HK.out)).1):w.heap.size ≤ gb117);replace HK:=zA (Kept.below (S:=(fun k_=>P0_1_ k_)) (by repeat (first | (with_reducible first | exact HK.out | apply Kept.alloc | apply Kept.drewN | apply Kept.drew) | exact HK.out)) hb);have GE117:=zA (zBH hg HB.out);replace HB:=zA (kQ (zQ HB.out) hb);clear hb hbox hg))
     replace HO0_1:=zA (zH HO0_1.out)
     replace BK117:=zA (zK BK117.out)
     replace HK:=zA (Kept.drew HK.out)
     replace HB:=zA (zD HB.out)
     have p118:0 ≤ (a1:Int):=zd
     have q118:a1 < (l0_1.length:Int):=zd
     obtain ⟨ad118,e118,hx118_0⟩:=Kd.at_int (kB HO0_1.out).2.2 a1 p118 q118
     cases e118
     replace p118:=eq_true p118
     replace q118:=eq_true q118
     refine start_ (n:=13) (S:=fun w' => w'.cell? ⟨gb117,0,none⟩ = some (.int .i64 a0_0) ∧ w'.cell? ⟨gb117,1,none⟩ = some (.slice (some ad118) l0_1.length co12) ∧ w'.cell? (ad118.add (a1).toNat) = some (.int .i64 (rd l0_1 a1))) (ds:=[12]) #[false,false,false,false,false,false,false,false,false,false,false,false,false] (by kernel_rfl) rfl rfl ⟨(kV BK117.out 0).trans rfl,(kV BK117.out 1).trans rfl,hx118_0⟩ (fun hHeld=>?_);refine with_tabW spec_l02Join.tab1 spec_l02Join.bits1 (fun HT_ HW_=>?_)
     generalize w13.drew = w14 at HO0_1 BK117 HK HB hx118_0 hHeld ⊢
     refine zp 0 (some 6) #[true,false,false,false,false,false,false,false,false,false,false,false,false] HT_.out ?_
     refine zp 2 (some 8) #[true,false,true,false,false,false,false,false,false,false,false,false,false] HT_.out ?_
     refine zp 3 (some 9) #[true,false,true,true,false,false,false,false,false,false,false,false,false] HT_.out ?_
     refine zp 5 (some 11) #[true,false,true,true,false,true,false,false,false,false,false,false,false] HT_.out ?_
     refine zp 8 (some 14) #[true,false,true,true,false,true,false,false,true,false,false,false,false] HT_.out ?_
     refine ze 1 (some 7) #[true,true,true,true,false,true,false,false,true,false,false,false,false] HT_.out HW_.out hHeld ?_
     refine ze 4 (some 10) #[true,true,true,true,true,true,false,false,true,false,false,false,false] HT_.out HW_.out hHeld ?_
     refine zp 6 (some 12) #[true,true,true,true,true,true,true,false,true,false,false,false,false] HT_.out ?_
     refine ze 7 (some 13) #[true,true,true,true,true,true,true,true,true,false,false,false,false] HT_.out HW_.out hHeld ?_
     refine one_ (i:=9) (N:=some 15) #[true,true,true,true,true,true,true,true,true,true,false,false,false] rfl rfl (one_of HT_.out (by kernel_rfl)) (by decide) (fun K hK=>?_)
     refine goes_ Tryz.func61 (by kernel_rfl) rfl #[.int .i64 a2] (by rfl) rfl rfl zg ?_
     with_reducible refine (spec_l01One_Bl02Join.calls a2 t119 _ A6.out).mono ?_
     rintro e w15 ⟨rfl,hb⟩
     have HS2_:=(hb.cell (jG _ _ (hHeld.2.2))).trans (hHeld.2.2)
     refine ⟨_,rfl,?_⟩
     replace HO0_1:=zA (kL (zP HO0_1.out) hb)
     replace BK117:=zA (zB1 BK117.out hb)
     replace HK:=zA (Kept.below (S:=(fun k_=>P0_1_ k_)) (by repeat (first | (with_reducible first | exact HK.out | apply Kept.alloc | apply Kept.drewN | apply Kept.drew | refine Kept.setCell ?_ (.inr GW117.out) _) | exact HK.out)) hb)
     replace HB:=zA (kQ (zT HB.out GE117.out) hb)
     (try clear hb)
     (try clear hb2)
     (try clear hk)
     (try clear hi)
     (try clear hgw)
     have p7:0 ≤ (a1:Int):=zd
     have q7:(a1:Int) < ((l0_1.length:Int):Int):=zd
     obtain ⟨go7,co7,eo7,gb7,gl7,cl7,HG7⟩:=Kd.R_form HO0_1.out (by omega)
     (first | cases eo7 | (injection eo7 with ea_ en_ ec_;(first | subst ea_ | (injection ea_ with ea_;subst ea_));subst ec_;clear en_))
     have GB7:=zA gb7
     have GG7:=zA HG7
     clear gb7 gl7 HG7
     have HMgo7:=zA (show (P0_1_ go7 ∨ w.heap.size ≤ go7) from (HO0_1.out.1 _ rfl))
     (first | simp only [add_plain] at hx118_0 | skip)
     obtain ⟨hx7_0,hf7_0⟩:=Kd.R_celln 0 HO0_1.out (a1:Int) p7 q7
     replace p7:=eq_true p7
     replace q7:=eq_true q7
     have HP16:=Kd.R_putn HO0_1.out (a1:Int) (Go.bits .or .i64 (rd l0_1 a1) t119)
     rw [← Ny120.out] at HP16
     have HQ16:=zA HP16
     clear HP16
     refine hK.out _ _ ⟨(kV BK117.out 0).trans rfl,(kV BK117.out 1).trans rfl,HS2_⟩ (fun hHeld=>?_)
     clear hK K
     refine norm_ (a' := ?_) ?_ ?_
     rotate_left
     ·show Act.put _ (some 15) _ = _
      simp only [Act.put,zL,zM,zN,i64_w,i32_w]
      rfl
     refine zp 10 (some 16) #[true,true,true,true,true,true,true,true,true,true,true,false,false] HT_.out ?_
     refine zp 11 (some 17) #[true,true,true,true,true,true,true,true,true,true,true,true,false] HT_.out ?_
     refine last_ (i:=12) (N:=none) #[true,true,true,true,true,true,true,true,true,true,true,true,true] rfl rfl (one_of HT_.out (by kernel_rfl)) (by decide) (fun K hK=>?_)
     refine skip_ (w1:=?_) (by rfl) rfl ?_ ?_
     rotate_left
     ·go_simp
      rfl
     refine hK.out _ _ ?_
     clear hK K
     refine done_ (done_of HT_.out (by kernel_rfl)) ?_
     try go_wp2
     have n0_:Aside0 (Kd.R (Kd.int .i64) 2 (w15.setCell ⟨go7,(a1:Int).toNat,none⟩ (.int .i64 (Go.bits .or .i64 (rd l0_1 a1) t119))) w0.heap.size (fun k_=>(P0_1_ k_ ∨ w.heap.size ≤ k_)) (.slice (some ⟨go7,0,none⟩) l0_1.length co12) y120):=⟨zP HQ16.out⟩
     have n1_:Aside0 ((w15.setCell ⟨go7,(a1:Int).toNat,none⟩ (.int .i64 (Go.bits .or .i64 (rd l0_1 a1) t119))).heap[gb117]? = some (.cells #[.int .i64 a0_0,.slice (some ⟨go7,0,none⟩) l0_1.length co12] 26 (0,0))):=⟨by (with_reducible repeat (first | refine zJ ?_ _ | refine zK ?_ | refine zI ?_ _));refine blk_far ?_ (by have h_:=Kd.R_ne HO0_1.out BK117.out (by decide);intro e_;exact h_ (by rw [e_];rfl)) _;(with_reducible repeat (first | refine zJ ?_ _ | refine zK ?_ | refine zI ?_ _));exact BK117.out⟩
     have n2_:Aside0 (Kept w (w15.setCell ⟨go7,(a1:Int).toNat,none⟩ (.int .i64 (Go.bits .or .i64 (rd l0_1 a1) t119))) (fun k_=>P0_1_ k_)):=⟨by repeat (first | (with_reducible first | exact HK.out | apply Kept.alloc | apply Kept.drewN | apply Kept.drew | refine Kept.setCell ?_ HMgo7.out _ | refine Kept.setCell ?_ (.inr GW117.out) _) | exact HK.out)⟩
     have n3_:Aside0 (Below w0.heap.size w0 (w15.setCell ⟨go7,(a1:Int).toNat,none⟩ (.int .i64 (Go.bits .or .i64 (rd l0_1 a1) t119)))):=⟨zV HB.out GB7.out GE117.out⟩
     (try clear HO0_1)
     (try clear BK117)
     (try clear HK)
     (try clear HB)
     generalize (w15.setCell ⟨go7,(a1:Int).toNat,none⟩ (.int .i64 (Go.bits .or .i64 (rd l0_1 a1) t119))) = w17 at n0_ n1_ n2_ n3_ ⊢
     have HO0_1:=n0_
     have BK117:=n1_
     have HK:=n2_
     have HB:=n3_
     clear n0_ n1_ n2_ n3_
     replace HO0_1:=zA (zH HO0_1.out)
     replace BK117:=zA (zK BK117.out)
     replace HK:=zA (Kept.drew HK.out)
     replace HB:=zA (zD HB.out)
     have p121:0 ≤ (a2:Int):=zd
     have q121:a2 < (y120.length:Int):=(by have h_:(a2:Int) < ((l0_1.length:Int):Int):=zd;first | (have e_:=(kB HO0_1.out).1;omega) | simpa only [Ny120.out,List.length_set] using h_)
     have ql121:((a2:Int) < ((l0_1.length:Int):Int)) = True:=eq_true (zd)
     obtain ⟨ad121,e121,hx121_0⟩:=Kd.at_int (kB HO0_1.out).2.2 a2 p121 q121
     obtain rfl:(⟨go7,0,none⟩:Addr) = ad121:=(by injection e121)
     (first | simp only [add_plain] at hx121_0 | simp only [add_at] at hx121_0 | simp only [Addr.add,Nat.zero_add] at hx121_0 | skip)
     replace p121:=eq_true p121
     replace q121:=eq_true q121
     refine start_ (n:=13) (S:=fun w' => w'.cell? ⟨gb117,0,none⟩ = some (.int .i64 a0_0) ∧ w'.cell? ⟨gb117,1,none⟩ = some (.slice (some ⟨go7,0,none⟩) l0_1.length co12) ∧ w'.cell? ⟨go7,(a2).toNat,none⟩ = some (.int .i64 (rd y120 a2))) (ds:=[12]) #[false,false,false,false,false,false,false,false,false,false,false,false,false] (by kernel_rfl) rfl rfl ⟨(kV BK117.out 0).trans rfl,(kV BK117.out 1).trans rfl,hx121_0⟩ (fun hHeld=>?_);refine with_tabW spec_l02Join.tab2 spec_l02Join.bits2 (fun HT_ HW_=>?_)
     generalize w17.drew = w18 at HO0_1 BK117 HK HB HQ16 hx121_0 hHeld ⊢
     refine zp 0 (some 18) #[true,false,false,false,false,false,false,false,false,false,false,false,false] HT_.out ?_
     refine zp 2 (some 20) #[true,false,true,false,false,false,false,false,false,false,false,false,false] HT_.out ?_
     refine zp 3 (some 21) #[true,false,true,true,false,false,false,false,false,false,false,false,false] HT_.out ?_
     refine zp 5 (some 23) #[true,false,true,true,false,true,false,false,false,false,false,false,false] HT_.out ?_
     refine zp 8 (some 26) #[true,false,true,true,false,true,false,false,true,false,false,false,false] HT_.out ?_
     refine ze 1 (some 19) #[true,true,true,true,false,true,false,false,true,false,false,false,false] HT_.out HW_.out hHeld ?_
     refine ze 4 (some 22) #[true,true,true,true,true,true,false,false,true,false,false,false,false] HT_.out HW_.out hHeld ?_
     refine zp 6 (some 24) #[true,true,true,true,true,true,true,false,true,false,false,false,false] HT_.out ?_
     refine ze 7 (some 25) #[true,true,true,true,true,true,true,true,true,false,false,false,false] HT_.out HW_.out hHeld ?_
     refine one_ (i:=9) (N:=some 27) #[true,true,true,true,true,true,true,true,true,true,false,false,false] rfl rfl (one_of HT_.out (by kernel_rfl)) (by decide) (fun K hK=>?_)
     refine goes_ Tryz.func61 (by kernel_rfl) rfl #[.int .i64 a1] (by rfl) rfl rfl zg ?_
     with_reducible refine (spec_l01One_Bl02Join.calls a1 t122 _ A10.out).mono ?_
     rintro e w19 ⟨rfl,hb⟩
     have HS2_:=(hb.cell (jG _ _ (hHeld.2.2))).trans (hHeld.2.2)
     refine ⟨_,rfl,?_⟩
     replace HO0_1:=zA (kL (zP HO0_1.out) hb)
     replace BK117:=zA (zB1 BK117.out hb)
     replace HK:=zA (Kept.below (S:=(fun k_=>P0_1_ k_)) (by repeat (first | (with_reducible first | exact HK.out | apply Kept.alloc | apply Kept.drewN | apply Kept.drew | refine Kept.setCell ?_ (.inr GW117.out) _) | exact HK.out)) hb)
     replace HB:=zA (kQ (zT HB.out GE117.out) hb)
     (try clear hb)
     (try clear hb2)
     (try clear hk)
     (try clear hi)
     (try clear hgw)
     have p11:0 ≤ (a2:Int):=zd
     have q11:(a2:Int) < ((l0_1.length:Int):Int):=zd
     obtain ⟨hx11_0,hf11_0⟩:=Kd.R_celln 0 HO0_1.out (a2:Int) p11 q11
     replace p11:=eq_true p11
     replace q11:=eq_true q11
     have HP20:=Kd.R_putn HO0_1.out (a2:Int) (Go.bits .or .i64 (rd y120 a2) t122)
     rw [← Ny123.out] at HP20
     have HQ20:=zA HP20
     clear HP20
     refine hK.out _ _ ⟨(kV BK117.out 0).trans rfl,(kV BK117.out 1).trans rfl,HS2_⟩ (fun hHeld=>?_)
     clear hK K
     refine norm_ (a' := ?_) ?_ ?_
     rotate_left
     ·show Act.put _ (some 27) _ = _
      simp only [Act.put,zL,zM,zN,i64_w,i32_w]
      rfl
     refine zp 10 (some 28) #[true,true,true,true,true,true,true,true,true,true,true,false,false] HT_.out ?_
     refine zp 11 (some 29) #[true,true,true,true,true,true,true,true,true,true,true,true,false] HT_.out ?_
     refine last_ (i:=12) (N:=none) #[true,true,true,true,true,true,true,true,true,true,true,true,true] rfl rfl (one_of HT_.out (by kernel_rfl)) (by decide) (fun K hK=>?_)
     refine skip_ (w1:=?_) (by rfl) rfl ?_ ?_
     rotate_left
     ·go_simp
      rfl
     refine hK.out _ _ ?_
     clear hK K
     refine done_ (done_of HT_.out (by kernel_rfl)) ?_
     try go_wp2
     first | go_end0 | ((try simp only [Exit.inBlock,Exit.then]);refine bodyPost_ret (results_none rfl _ _ _) rfl ?_)
     exact ⟨zr,zP HQ20.out,zV HB.out GB7.out GE117.out,by repeat (first | (with_reducible first | exact HK.out | apply Kept.alloc | apply Kept.drewN | apply Kept.drew | refine Kept.setCell ?_ HMgo7.out _ | refine Kept.setCell ?_ (.inr GW117.out) _) | exact HK.out)⟩
    rw [if_neg c9] at H
    exact absurd H (by simp)
   rw [if_neg c8] at H
   exact absurd H (by simp)
  rw [if_neg c5] at H
  exact absurd H (by simp)
 rw [if_neg c4] at H
 exact absurd H (by simp)
mutual
def spec_l02Draw.j0:Nat → Int → Bool → List Int → Int → Int → Option (Int × List Int × Int × Int)
 | 0,_,_,_,_,_=>none
 | k + 1,x1,x16,x1000,x1001,x1002=>if x16 = true then (some (4,(([11,7,14,13]:List Int)),x1001,x1002)) else ((spec_l01Next.f x1000 x1001 x1002 (wrap64 (x1 + 1))).bind fun bt131=>(if bt131.1 < 2 then ((spec_l01Next.f x1000 bt131.2.1 bt131.2.2 (wrap64 (x1 + 1))).bind fun bt134=>(spec_l02Draw.j1 k bt134.1 x1000 bt134.2.1 bt134.2.2)) else (spec_l02Draw.j1 k bt131.1 x1000 bt131.2.1 bt131.2.2)))
def spec_l02Draw.j1:Nat → Int → List Int → Int → Int → Option (Int × List Int × Int × Int)
 | 0,_,_,_,_=>none
 | k + 1,x5,x1000,x1001,x1002=>(spec_l02Free.f k x5).bind fun bt137=>((spec_l01Pick.f x1000 x1001 x1002 (([2,2,3,4]:List Int))).bind fun bt144=>(spec_l02Draw.l0 k x5 bt144.1 0 x1000 bt144.2.1 bt144.2.2 bt137.1 bt137.2))
def spec_l02Draw.l0:Nat → Int → Int → Int → List Int → Int → Int → Int → List Int → Option (Int × List Int × Int × Int)
 | 0,_,_,_,_,_,_,_,_=>none
 | k + 1,x5,x7,x8,x1000,x1001,x1002,x148000,x148001=>if x8 < x5 then (spec_l02Draw.l1 k x5 x7 x8 0 x1000 x1001 x1002 x148000 x148001) else (some (x148000,x148001,x1001,x1002))
def spec_l02Draw.l1:Nat → Int → Int → Int → Int → List Int → Int → Int → Int → List Int → Option (Int × List Int × Int × Int)
 | 0,_,_,_,_,_,_,_,_,_=>none
 | k + 1,x5,x7,x8,x9,x1000,x1001,x1002,x148000,x148001=>if x9 < x8 then ((spec_l01Next.f x1000 x1001 x1002 x7).bind fun bt148=>(if bt148.1 = 0 then ((spec_l02Join.f x148000 x148001 x8 x9).bind fun t151=>(spec_l02Draw.l1 k x5 x7 x8 (wrap64 (x9 + 1)) x1000 bt148.2.1 bt148.2.2 x148000 t151)) else (spec_l02Draw.l1 k x5 x7 x8 (wrap64 (x9 + 1)) x1000 bt148.2.1 bt148.2.2 x148000 x148001))) else (spec_l02Draw.l0 k x5 x7 (wrap64 (x8 + 1)) x1000 x1001 x1002 x148000 x148001)
end
def spec_l02Draw.f (k:Nat) (s0_0:List Int) (s0_1:Int) (s0_2:Int) (a1:Int):Option (Int × List Int × Int × Int):=if a1 ≥ 4 then ((spec_l01Next.f s0_0 s0_1 s0_2 6).bind fun bt125=>(spec_l02Draw.j0 k a1 (bt125.1 == 0) s0_0 bt125.2.1 bt125.2.2)) else (spec_l02Draw.j0 k a1 false s0_0 s0_1 s0_2)
set_option maxHeartbeats 8000000 in
set_option maxRecDepth 100000 in
theorem spec_l02Draw.calls (k : Nat) (g : Nat) (s0_0 : List Int) (s0_1 : Int) (s0_2 : Int) (a1 : Int) (r1 : Int) (r2 : List Int) (r3 : Int) (r4 : Int) (w0 w : World) (hI : Z76 w0 w g s0_0 s0_1 s0_2) (hB : Below w0.heap.size w0 w) (h : spec_l02Draw.f k s0_0 s0_1 s0_2 a1 = some (r1, r2, r3, r4)) :
  Calls Tryz.prog 60 #[.pointer (some ⟨g,0,none⟩),.int .i64 a1] w fun e w' => ∃ v1_:Value,e = .returned (.agg #[.int .i64 r1,v1_]) ∧ Kd.R (Kd.int .i64) 2 w' w.heap.size (fun _=>True) v1_ r2 ∧ Z76 w0 w' g s0_0 r3 r4 ∧ Below w0.heap.size w0 w' ∧ KeepBut w w' g none:=by
 have hu26:=Tryz.underlying26
 have HI0:=zA hI
 have HK:=zA (KeepBut.refl w g none)
 have HL:=zA hB.size
 clear hI
 have HW0:=zA hB.size
 have HB:=zA hB
 clear hB
 have H:=h
 unfold spec_l02Draw.f at H
 clear h
 have HC3:=zA H
 clear H
 go_enter Tryz.func60,Tryz.ntmps60
 go_upto_region 1 with (first | (refine zBE 4 #[.int .i64 0,.slice none 0 0] 26 ?_;intro gb124 hg w4 hbox hb;replace HB:=zA (kQ (zT HB.out (Z76.ge HI0.out)) hb);have BK124:=zA (hbox);have GW124:=zA (zB6 hg (kX (w:=w) (g:=g) (row:=none) (yA HK.out)):w.heap.size ≤ gb124);have GE124:=zA ((Nat.le_trans HW0.out (by rw [hg];exact (kX (w:=w) (g:=g) (row:=none) (yA HK.out)):w.heap.size ≤ gb124):w0.heap.size ≤ gb124));replace HK:=zA (kT (yA HK.out) (kU hb g none) (.inl rfl));have NB0_124:=zA (zB7 hg (Z76.lt (show Z76 w0 _ g s0_0 s0_1 s0_2 from Z76.uA HI0.out)):g ≠ gb124);have NB124_0:=zA (zB8 hg (Z76.lt (show Z76 w0 _ g s0_0 s0_1 s0_2 from Z76.uA HI0.out)):gb124 ≠ g);replace HI0:=zA (Z76.below (Z76.uA HI0.out) hb);clear hb hbox hg))
 (try simp only [Act.put,zL,zM,zN])
 go_cut [16] (fun v16 wc=>∃ (kq:Nat) (x16_2:Bool) (x1001_2:Int) (x1002_2:Int),v16 = .bool x16_2 ∧ Aside0 (spec_l02Draw.j0 kq a1 x16_2 s0_0 x1001_2 x1002_2 = some (r1,r2,r3,r4)) ∧ Aside0 (kq ≤ k) ∧ Aside0 (wc.heap[gb124]? = some (.cells #[.int .i64 0,(.slice none 0 0)] 26 (0,0))) ∧ Aside0 (Z76 w0 wc g s0_0 x1001_2 x1002_2) ∧ Aside0 (KeepBut w wc g none) ∧ Aside0 (Below w0.heap.size w0 wc))
 case first =>
  have H:=HC3.out
  clear HC3
  by_cases c5:a1 ≥ 4
  ·rw [if_pos c5] at H
   have c5b0:decide (4 ≤ a1) = true:=decide_eq_true c5
   clear c5
   (first | rw [c5b0] | (simp only [i64_w,i32_w];rw [c5b0]) | skip)
   obtain ⟨⟨t125,t126,t127⟩,A6,H⟩:=zb H
   try dsimp only at H
   have H' := zA H
   clear H
   go_wp2_with (first | (go_at_call 35;(with_reducible refine (spec_l01Next.calls g s0_0 s0_1 s0_2 6 t125 t126 t127 w0 _ ?side1 ?side2 A6.out).mono ?_);(case side1=>exact Z76.uB HI0.out NB0_124.out);(case side2=>exact zV HB.out (Z76.ge HI0.out) GE124.out);rintro e w7 ⟨rfl,hi,hb,hk⟩;replace BK124:=zA (zB2 hk BK124.out NB124_0.out);replace HK:=zA (kT (yB HK.out GW124.out) hk (.inl rfl));replace HB:=zA (hb);replace HI0:=zA (hi);(try clear hb);(try clear hk);(try clear hi)))
   go_meet
   case rel=>exact ⟨_,((t125 == 0)),(t126),(t127),zs,H', ⟨by first | omega | exact Nat.le_refl _⟩,⟨zR BK124.out⟩,⟨Z76.uB HI0.out NB0_124.out⟩,⟨yB HK.out GW124.out⟩,⟨zV HB.out (Z76.ge HI0.out) GE124.out⟩⟩
  rw [if_neg c5] at H
  have c5b0:decide (4 ≤ a1) = false:=decide_eq_false c5
  clear c5
  (first | rw [c5b0] | (simp only [i64_w,i32_w];rw [c5b0]) | skip)
  have H' := zA H
  clear H
  go_wp2
  go_meet
  case rel=>exact ⟨_,(false),(s0_1),(s0_2),zs,H', ⟨by first | omega | exact Nat.le_refl _⟩,⟨zR BK124.out⟩,⟨Z76.uB HI0.out NB0_124.out⟩,⟨yB HK.out GW124.out⟩,⟨zV HB.out (Z76.ge HI0.out) GE124.out⟩⟩
 case rest =>
  clear HC3
  try clear c5
  try clear c6
  obtain ⟨kq,x16_2,x1001_2,x1002_2,rfl,HA,HJ2,BK124,HI0,HK,HB⟩:=hcut
  cases kq with
  | zero=>exact absurd HA.out (by simp [spec_l02Draw.j0])
  | succ kj2 =>
   have H:=HA.out
   clear HA
   simp only [spec_l02Draw.j0] at H
   by_cases c8:x16_2 = true
   ·subst c8
    rw [if_pos rfl] at H
    obtain ⟨y128,hy128⟩:∃ y_:List Int,y_ = (([11,7,14,13]:List Int)):=⟨_,rfl⟩
    replace H:(some (4,y128,x1001_2,x1002_2)) = some (r1,r2,r3,r4):=zy hy128 H
    have Ny128:=zA hy128
    clear hy128
    simp only [Option.some.injEq,Prod.mk.injEq] at H
    obtain ⟨rfl,rfl,rfl,rfl⟩:=H
    go_wp2_with (first | ((with_reducible refine kS (N:=17) rfl ?_);refine Kd.R_lit (Kd.int .i64) _ 2 ?hg (N:=17) ?hd (xs:=([11,7,14,13]:List Int)) (inner:=[.int .i64 11,.int .i64 7,.int .i64 14,.int .i64 13]) (ok:=fun _=>True) (okp:=fun _=>True) ?hr ?hp (fun _ hk=>hk) trivial (kW _ _) (Nat.le_refl _) (by simp) ?_;(case hd=>rfl);(case hg=>rfl);(case hr=>first | (go_simp;done) | (go_simp;rfl));(case hp=>exact (Reps.one (show Kd.M (Kd.int .i64) _ _ _ 11 [.int .i64 11] from rfl) (Reps.one (show Kd.M (Kd.int .i64) _ _ _ 7 [.int .i64 7] from rfl) (Reps.one (show Kd.M (Kd.int .i64) _ _ _ 14 [.int .i64 14] from rfl) (Reps.one (show Kd.M (Kd.int .i64) _ _ _ 13 [.int .i64 13] from rfl) (Reps.none _ _))))));intro v129 w9 ho10 hb hg_ hnew_;clear hg_ hnew_;(first | rw [← Ny128.out] at ho10 | (simp only [Int.reduceToNat] at ho10;rw [← Ny128.out] at ho10));have HO130:=zA (kI ho10 (kX (w:=w) (g:=g) (row:=none) (yB HK.out GW124.out)));replace BK124:=zA (zB1 BK124.out hb);replace HK:=zA (kT (yB HK.out GW124.out) (kU hb g none) (.inl rfl));replace HB:=zA (kQ (zV HB.out (Z76.ge HI0.out) GE124.out) hb);replace HI0:=zA (Z76.below (Z76.uB HI0.out NB0_124.out) hb);clear hb ho10;obtain ⟨Ao11,co11,eo11⟩:=kM HO130.out;subst eo11;have hnb12:=NB124_0.out;have hnc12:=NB0_124.out;obtain ⟨hcz13_0,hcz13_1,hfz13_0,hfz13_1⟩:=zB3 BK124.out))
    refine bodyPost_ret (results_cell_row rfl _ _ gb124 26 #[.int .i64 4,.slice Ao11 y128.length co11] (0,0) _ rfl (zRP BK124.out) Tryz.underlying26 rfl (by kernel_rfl)) rfl ?_
    exact ⟨_,zr,by (with_reducible repeat (first | apply zF | apply zG | apply zH));exact kA (kY (p:=⟨gb124,1,none⟩) (kY (p:=⟨gb124,0,none⟩) (kD HO130.out BK124.out (by decide)) (fun _ hk=>hk.2) (.int .i64 4)) (fun _ hk=>hk.2) (.slice Ao11 y128.length co11)) (fun _ hk=>trivial),by repeat (first | (with_reducible first | exact HI0.out | apply Z76.alloc | apply Z76.drewN | apply Z76.drew | apply Z76.set_1 | apply Z76.set_2 | refine Z76.far ?_ NB0_124.out _) | exact HI0.out),zV HB.out (Z76.ge HI0.out) GE124.out,by repeat (first | (with_reducible first | exact HK.out | apply KeepBut.set_ | apply keep_drewN | apply keep_drew | apply keep_alloc | refine keep_far ?_ GW124.out _) | exact HK.out)⟩
   replace c8:=Bool.eq_false_iff.mpr c8
   subst c8
   rw [if_neg (show ¬ (false = true) by decide)] at H
   obtain ⟨⟨t131,t132,t133⟩,A14,H⟩:=zb H
   try dsimp only at H
   have HC15:=zA H
   clear H
   go_upto_if 24 with (first | (refine zO (some 22) Tryz.func35 #[.pointer (some ⟨g,0,none⟩),.int .i64 (wrap64 (a1 + 1))] ?_;(with_reducible refine (spec_l01Next.calls g s0_0 x1001_2 x1002_2 (wrap64 (a1 + 1)) t131 t132 t133 w0 _ ?side1 ?side2 A14.out).mono ?_);(case side1=>exact Z76.uB HI0.out NB0_124.out);(case side2=>exact zV HB.out (Z76.ge HI0.out) GE124.out);rintro e w16 ⟨rfl,hi,hb,hk⟩;refine ⟨_,rfl,?_⟩;replace BK124:=zA (zB2 hk BK124.out NB124_0.out);replace HK:=zA (kT (yB HK.out GW124.out) hk (.inl rfl));replace HB:=zA (hb);replace HI0:=zA (hi);(try clear hb);(try clear hk);(try clear hi)))
   (try simp only [Act.put,zL,zM,zN])
   go_cut [5] (fun v5 wc=>∃ (kq:Nat) (x5_14:Int) (x1001_14:Int) (x1002_14:Int),v5 = .int .i64 x5_14 ∧ Aside0 (spec_l02Draw.j1 kq x5_14 s0_0 x1001_14 x1002_14 = some (r1,r2,r3,r4)) ∧ Aside0 (kq ≤ kj2) ∧ Aside0 (wc.heap[gb124]? = some (.cells #[.int .i64 0,(.slice none 0 0)] 26 (0,0))) ∧ Aside0 (Z76 w0 wc g s0_0 x1001_14 x1002_14) ∧ Aside0 (KeepBut w wc g none) ∧ Aside0 (Below w0.heap.size w0 wc))
   case first =>
    have H:=HC15.out
    clear HC15
    by_cases c17:t131 < 2
    ·rw [if_pos c17] at H
     have c17b0:decide (t131 < 2) = true:=decide_eq_true c17
     clear c17
     (first | rw [c17b0] | (simp only [i64_w,i32_w];rw [c17b0]) | skip)
     obtain ⟨⟨t134,t135,t136⟩,A18,H⟩:=zb H
     try dsimp only at H
     have H' := zA H
     clear H
     go_wp2_with (first | (refine zO (some 28) Tryz.func35 #[.pointer (some ⟨g,0,none⟩),.int .i64 (wrap64 (a1 + 1))] ?_;(with_reducible refine (spec_l01Next.calls g s0_0 t132 t133 (wrap64 (a1 + 1)) t134 t135 t136 w0 _ ?side1 ?side2 A18.out).mono ?_);(case side1=>exact Z76.uB HI0.out NB0_124.out);(case side2=>exact zV HB.out (Z76.ge HI0.out) GE124.out);rintro e w19 ⟨rfl,hi,hb,hk⟩;refine ⟨_,rfl,?_⟩;replace BK124:=zA (zB2 hk BK124.out NB124_0.out);replace HK:=zA (kT (yB HK.out GW124.out) hk (.inl rfl));replace HB:=zA (hb);replace HI0:=zA (hi);(try clear hb);(try clear hk);(try clear hi)))
     go_meet
     case rel=>exact ⟨_,(t134),(t135),(t136),zs,H', ⟨by have:=HJ2.out;first | omega | exact Nat.le_refl _⟩,⟨zR BK124.out⟩,⟨Z76.uB HI0.out NB0_124.out⟩,⟨yB HK.out GW124.out⟩,⟨zV HB.out (Z76.ge HI0.out) GE124.out⟩⟩
    rw [if_neg c17] at H
    have c17b0:decide (t131 < 2) = false:=decide_eq_false c17
    clear c17
    (first | rw [c17b0] | (simp only [i64_w,i32_w];rw [c17b0]) | skip)
    have H' := zA H
    clear H
    go_wp2
    go_meet
    case rel=>exact ⟨_,(t131),(t132),(t133),zs,H', ⟨by have:=HJ2.out;first | omega | exact Nat.le_refl _⟩,⟨zR BK124.out⟩,⟨Z76.uB HI0.out NB0_124.out⟩,⟨yB HK.out GW124.out⟩,⟨zV HB.out (Z76.ge HI0.out) GE124.out⟩⟩
   case rest =>
    clear HC15
    try clear c1
    try clear c3
    try clear c5
    try clear c6
    try clear c8
    try clear c12
    try clear c17
    try clear hcz13_0
    try clear hcz13_1
    try clear hfz13_0
    try clear hfz13_1
    obtain ⟨kq,x5_14,x1001_14,x1002_14,rfl,HA,HJ14,BK124,HI0,HK,HB⟩:=hcut
    cases kq with
    | zero=>exact absurd HA.out (by simp [spec_l02Draw.j1])
    | succ kj14 =>
     have H:=HA.out
     clear HA
     simp only [spec_l02Draw.j1] at H
     obtain ⟨⟨t137,t138⟩,A20,H⟩:=zb H
     try dsimp only at H
     obtain ⟨y141,hy141⟩:∃ y_:List Int,y_ = (([2,2,3,4]:List Int)):=⟨_,rfl⟩
     replace H:((spec_l01Pick.f s0_0 x1001_14 x1002_14 y141).bind fun bt144=>(spec_l02Draw.l0 kj14 x5_14 bt144.1 0 s0_0 bt144.2.1 bt144.2.2 t137 t138)) = some (r1,r2,r3,r4):=zy hy141 H
     have Ny141:=zA hy141
     clear hy141
     obtain ⟨⟨t144,t145,t146⟩,A21,H⟩:=zb H
     try dsimp only at H
     have H' := zA H
     clear H
     go_wp2_with (first | (refine zO (some 30) Tryz.func76 #[.int .i64 x5_14] ?_;(with_reducible refine (spec_l02Free.calls kj14 x5_14 t137 t138 _ A20.out).mono ?_);rintro e w22 ⟨v139,rfl,ho0,hb⟩;refine ⟨_,rfl,?_⟩;have HO140:=zA (kI ho0 (kX (w:=w) (g:=g) (row:=none) (yB HK.out GW124.out)));replace BK124:=zA (zB1 BK124.out hb);replace HK:=zA (kT (yB HK.out GW124.out) (kU hb g none) (.inl rfl));replace HB:=zA (kQ (zV HB.out (Z76.ge HI0.out) GE124.out) hb);replace HI0:=zA (Z76.below (Z76.uB HI0.out NB0_124.out) hb);(try clear hb);(try clear ho0)) | ((with_reducible refine kS (N:=32) rfl ?_);refine Kd.R_lit (Kd.int .i64) _ 2 ?hg (N:=32) ?hd (xs:=([2,2,3,4]:List Int)) (inner:=[.int .i64 2,.int .i64 2,.int .i64 3,.int .i64 4]) (ok:=fun _=>True) (okp:=fun _=>True) ?hr ?hp (fun _ hk=>hk) trivial (kW _ _) (Nat.le_refl _) (by simp) ?_;(case hd=>rfl);(case hg=>rfl);(case hr=>first | (go_simp;done) | (go_simp;rfl));(case hp=>exact (Reps.one (show Kd.M (Kd.int .i64) _ _ _ 2 [.int .i64 2] from rfl) (Reps.one (show Kd.M (Kd.int .i64) _ _ _ 2 [.int .i64 2] from rfl) (Reps.one (show Kd.M (Kd.int .i64) _ _ _ 3 [.int .i64 3] from rfl) (Reps.one (show Kd.M (Kd.int .i64) _ _ _ 4 [.int .i64 4] from rfl) (Reps.none _ _))))));intro v142 w23 ho24 hb hg_ hnew_;clear hg_ hnew_;(first | rw [← Ny141.out] at ho24 | (simp only [Int.reduceToNat] at ho24;rw [← Ny141.out] at ho24));have HO143:=zA (kI (kF ho24 (kH (zP HO140.out))) (kX (w:=w) (g:=g) (row:=none) (yB HK.out GW124.out)));replace HO140:=zA (kE (zP HO140.out) (kC ho24) hb);replace BK124:=zA (zB1 BK124.out hb);replace HK:=zA (kT (yB HK.out GW124.out) (kU hb g none) (.inl rfl));replace HB:=zA (kQ (zV HB.out (Z76.ge HI0.out) GE124.out) hb);replace HI0:=zA (Z76.below (Z76.uB HI0.out NB0_124.out) hb);clear hb ho24;obtain ⟨Ao25,co25,eo25⟩:=kM HO143.out;subst eo25) | (refine zO (some 33) Tryz.func36 #[.pointer (some ⟨g,0,none⟩),.slice Ao25 y141.length co25] ?_;(with_reducible refine (spec_l01Pick.calls g s0_0 x1001_14 x1002_14 _ _ y141 t144 t145 t146 w0 _ ?side1 ?side2 ?side3 ?side4 ?side5 A21.out).mono ?_);(case side1=>exact Z76.uB HI0.out NB0_124.out);(case side2=>exact zV HB.out (Z76.ge HI0.out) GE124.out);(case side3=>exact zS (kB HO143.out).2.2);(case side4=>exact (kB HO143.out).2.1);(case side5=>exact jJ (Z76.own_ne HI0.out HO143.out (by decide)));rintro e w26 ⟨rfl,hi,hb,hk⟩;refine ⟨_,rfl,?_⟩;replace BK124:=zA (zB2 hk BK124.out NB124_0.out);replace HO140:=zA (zB9 (Z76.apart (show Z76 w0 _ g s0_0 x1001_14 x1002_14 from Z76.uB HI0.out NB0_124.out) (zP HO140.out) (by decide)) hk);replace HO143:=zA (zB9 (Z76.apart (show Z76 w0 _ g s0_0 x1001_14 x1002_14 from Z76.uB HI0.out NB0_124.out) (zP HO143.out) (by decide)) hk);replace HK:=zA (kT (yB HK.out GW124.out) hk (.inl rfl));replace HB:=zA (hb);replace HI0:=zA (hi);(try clear hb);(try clear hk);(try clear hi)) | (refine zBE 6 #[.int .i64 0,.slice none 0 0] 26 ?_;intro gb147 hg w27 hbox hb;replace HO140:=zA (kL (zP HO140.out) hb);replace HO143:=zA (kL (zP HO143.out) hb);replace HB:=zA (kQ (zV HB.out (Z76.ge HI0.out) GE124.out) hb);have BK147:=zA (hbox);have GW147:=zA (zB6 hg (kX (w:=w) (g:=g) (row:=none) (yB HK.out GW124.out)):w.heap.size ≤ gb147);have GE147:=zA ((Nat.le_trans HW0.out (by rw [hg];exact (kX (w:=w) (g:=g) (row:=none) (yB HK.out GW124.out)):w.heap.size ≤ gb147):w0.heap.size ≤ gb147));replace HK:=zA (kT (yB HK.out GW124.out) (kU hb g none) (.inl rfl));have NB124_147:=zA (zB4 hg BK124.out:gb124 ≠ gb147);have NB147_124:=zA (zB5 hg BK124.out:gb147 ≠ gb124);replace BK124:=zA (zB1 BK124.out hb);have NB0_147:=zA (zB7 hg (Z76.lt (show Z76 w0 _ g s0_0 t145 t146 from Z76.uB HI0.out NB0_124.out)):g ≠ gb147);have NB147_0:=zA (zB8 hg (Z76.lt (show Z76 w0 _ g s0_0 t145 t146 from Z76.uB HI0.out NB0_124.out)):gb147 ≠ g);replace HI0:=zA (Z76.below (Z76.uB HI0.out NB0_124.out) hb);clear hb hbox hg;have hnb28:=NB147_124.out;have hnc28:=NB124_147.out;have hnb29:=NB147_0.out;have hnc29:=NB0_147.out;obtain ⟨hcz30_0,hcz30_1,hfz30_0,hfz30_1⟩:=zB3 BK147.out;obtain ⟨Ao31,co31,eo31⟩:=kM HO140.out;subst eo31))
     go_loopg [8] kj14 (fun kq v8 w' => ∃ (x8_3:Int) (x1001_3:Int) (x1002_3:Int) (x148001_3:List Int) (u148001:Value),v8 = .int .i64 x8_3 ∧ Aside0 (spec_l02Draw.l0 kq x5_14 t144 x8_3 s0_0 x1001_3 x1002_3 t137 x148001_3 = some (r1,r2,r3,r4)) ∧ Aside0 (kq ≤ kj14) ∧ Aside0 (Kd.R (Kd.int .i64) 2 w' w.heap.size (fun _=>True) u148001 x148001_3) ∧ Aside0 (w'.heap[gb124]? = some (.cells #[.int .i64 0,(.slice none 0 0)] 26 (0,0))) ∧ Aside0 (w'.heap[gb147]? = some (.cells #[.int .i64 t137,u148001] 26 (0,0))) ∧ Aside0 (Z76 w0 w' g s0_0 x1001_3 x1002_3) ∧ Aside0 (KeepBut w w' g none) ∧ Aside0 (Below w0.heap.size w0 w'))
     case atStart=>exact ⟨(0),(t145),(t146),(t138),(.slice Ao31 t138.length co31),zs,H', ⟨Nat.le_refl _⟩,⟨by (with_reducible repeat (first | apply zF | apply zG | apply zH));exact kA (kY (p:=⟨gb147,1,none⟩) (kY (p:=⟨gb147,0,none⟩) (kD HO140.out BK147.out (by decide)) (fun _ hk=>hk.2) (.int .i64 t137)) (fun _ hk=>hk.2) (.slice Ao31 t138.length co31)) (fun _ hk=>trivial)⟩,⟨by (with_reducible repeat (first | refine zJ ?_ _ | refine zK ?_ | refine zI ?_ _));refine blk_far ?_ NB124_147.out _;(with_reducible repeat (first | refine zJ ?_ _ | refine zK ?_ | refine zI ?_ _));refine blk_far ?_ NB124_147.out _;(with_reducible repeat (first | refine zJ ?_ _ | refine zK ?_ | refine zI ?_ _));exact BK124.out⟩,⟨by (with_reducible repeat (first | refine zJ ?_ _ | refine zK ?_ | refine zI ?_ _));refine blk_put (cs:=#[.int .i64 t137,.slice none 0 0]) ?_ 1 _ rfl;(with_reducible repeat (first | refine zJ ?_ _ | refine zK ?_ | refine zI ?_ _));refine blk_put (cs:=#[.int .i64 0,.slice none 0 0]) ?_ 0 _ rfl;(with_reducible repeat (first | refine zJ ?_ _ | refine zK ?_ | refine zI ?_ _));exact BK147.out⟩,⟨Z76.uC HI0.out NB0_124.out NB0_147.out⟩,⟨yC HK.out GW124.out GW147.out⟩,⟨zW HB.out (Z76.ge HI0.out) GE124.out GE147.out⟩⟩
     case round =>
      clear H'
      try clear c1
      try clear c2
      try clear c3
      try clear c5
      try clear c6
      try clear c7
      try clear c8
      try clear c12
      try clear c17
      try clear c28
      try clear c29
      try clear hcz13_0
      try clear hcz13_1
      try clear hcz30_0
      try clear hcz30_1
      try clear hfz13_0
      try clear hfz13_1
      try clear hfz30_0
      try clear hfz30_1
      obtain ⟨x8_3,x1001_3,x1002_3,x148001_3,u148001,rfl,HA,HK3,HO_148001,BK124,BK147,HI0,HK,HB⟩:=hrel
      cases gk with
      | zero=>exact absurd HA.out (by simp [spec_l02Draw.l0])
      | succ k3 =>
       have H:=HA.out
       clear HA
       simp only [spec_l02Draw.l0] at H
       by_cases c32:x8_3 < x5_14
       ·rw [if_pos c32] at H
        have c32b0:decide (x8_3 < x5_14) = true:=decide_eq_true c32
        clear c32
        have H' := zA H
        clear H
        go_wp2
        go_loopg [9] k3 (fun kq v9 w' => ∃ (x9_4:Int) (x1001_4:Int) (x1002_4:Int) (x148001_4:List Int) (u148001:Value),v9 = .int .i64 x9_4 ∧ Aside0 (spec_l02Draw.l1 kq x5_14 t144 x8_3 x9_4 s0_0 x1001_4 x1002_4 t137 x148001_4 = some (r1,r2,r3,r4)) ∧ Aside0 (kq ≤ k3) ∧ Aside0 (Kd.R (Kd.int .i64) 2 w' w.heap.size (fun _=>True) u148001 x148001_4) ∧ Aside0 (w'.heap[gb124]? = some (.cells #[.int .i64 0,(.slice none 0 0)] 26 (0,0))) ∧ Aside0 (w'.heap[gb147]? = some (.cells #[.int .i64 t137,u148001] 26 (0,0))) ∧ Aside0 (Z76 w0 w' g s0_0 x1001_4 x1002_4) ∧ Aside0 (KeepBut w w' g none) ∧ Aside0 (Below w0.heap.size w0 w'))
        case atStart=>exact ⟨(0),(x1001_3),(x1002_3),(x148001_3),(u148001),zs,H', ⟨Nat.le_refl _⟩,⟨zP HO_148001.out⟩,⟨zR BK124.out⟩,⟨zR BK147.out⟩,⟨Z76.uC HI0.out NB0_124.out NB0_147.out⟩,⟨yC HK.out GW124.out GW147.out⟩,⟨zW HB.out (Z76.ge HI0.out) GE124.out GE147.out⟩⟩
        case round =>
         clear H'
         try clear c1
         try clear c2
         try clear c3
         try clear c5
         try clear c6
         try clear c7
         try clear c8
         try clear c12
         try clear c17
         try clear c28
         try clear c29
         try clear c32
         try clear hcz13_0
         try clear hcz13_1
         try clear hcz30_0
         try clear hcz30_1
         try clear hfz13_0
         try clear hfz13_1
         try clear hfz30_0
         try clear hfz30_1
         obtain ⟨x9_4,x1001_4,x1002_4,x148001_4,u148001,rfl,HA,HK4,HO_148001,BK124,BK147,HI0,HK,HB⟩:=hrel
         cases gk with
         | zero=>exact absurd HA.out (by simp [spec_l02Draw.l1])
         | succ k4 =>
          have H:=HA.out
          clear HA
          simp only [spec_l02Draw.l1] at H
          by_cases c33:x9_4 < x8_3
          ·rw [if_pos c33] at H
           have c33b0:decide (x9_4 < x8_3) = true:=decide_eq_true c33
           clear c33
           obtain ⟨⟨t148,t149,t150⟩,A34,H⟩:=zb H
           try dsimp only at H
           by_cases c35:t148 = 0
           ·rw [if_pos c35] at H
            obtain ⟨c35b0,c35b1⟩:=zT1 c35
            clear c35
            obtain ⟨t151,A36,H⟩:=zb H
            try dsimp only at H
            have H' := zA H
            clear H
            go_wp2_with (first | (refine zO (some 46) Tryz.func35 #[.pointer (some ⟨g,0,none⟩),.int .i64 t144] ?_;(with_reducible refine (spec_l01Next.calls g s0_0 x1001_4 x1002_4 t144 t148 t149 t150 w0 _ ?side1 ?side2 A34.out).mono ?_);(case side1=>exact Z76.uC HI0.out NB0_124.out NB0_147.out);(case side2=>exact zW HB.out (Z76.ge HI0.out) GE124.out GE147.out);rintro e w37 ⟨rfl,hi,hb,hk⟩;refine ⟨_,rfl,?_⟩;replace HO_148001:=zA (zB9 (Z76.apart (show Z76 w0 _ g s0_0 x1001_4 x1002_4 from Z76.uC HI0.out NB0_124.out NB0_147.out) (zP HO_148001.out) (by decide)) hk);replace BK124:=zA (zB2 hk BK124.out NB124_0.out);replace BK147:=zA (zB2 hk BK147.out NB147_0.out);replace HK:=zA (kT (yC HK.out GW124.out GW147.out) hk (.inl rfl));replace HB:=zA (hb);replace HI0:=zA (hi);(try clear hb);(try clear hk);(try clear hi);have hnb38:=NB147_124.out;have hnc38:=NB124_147.out;have hnb39:=NB147_0.out;have hnc39:=NB0_147.out;obtain ⟨hcz40_0,hcz40_1,hfz40_0,hfz40_1⟩:=zB3 BK147.out;obtain ⟨Ao41,co41,eo41⟩:=kM HO_148001.out;subst eo41) | (refine zO (some 51) Tryz.func77 #[.agg #[.int .i64 t137,.slice Ao41 x148001_4.length co41],.int .i64 x8_3,.int .i64 x9_4] ?_;(with_reducible refine (spec_l02Join.calls t137 (fun k_=>some k_ = (.slice Ao41 x148001_4.length co41:Value).ownBlock) (.slice Ao41 x148001_4.length co41) x148001_4 x8_3 x9_4 t151 w0 _ ?side1 ?side2 A36.out).mono ?_);(case side1=>exact zW HB.out (Z76.ge HI0.out) GE124.out GE147.out);(case side2=>exact kI (jK rfl HO_148001.out) HL.out);rintro e w42 ⟨rfl,hy0,hb,hkp⟩;refine ⟨_,rfl,?_⟩;have n0_:=zA (Kd.R_reok rfl (Kd.R_raise (d:=(Kd.int .i64)) (b:=w0.heap.size) (b' := w.heap.size) (fun _ _ _ _ h_=>h_) hy0 (fun k_ e_=>Or.elim (hy0.1 k_ e_) (fun hs_=>(fun e_=>kC HO_148001.out k_ e_.symm) hs_) (fun hn_=>Nat.le_trans (kX (w:=w) (g:=g) (row:=none) (yC HK.out GW124.out GW147.out)) hn_))) (fun k_ e_=>HO_148001.out.1 k_ e_));have n1_:=zA (blk_kept (zR BK124.out) hkp (fun hs_=>(fun e_=>(Kd.R_ne HO_148001.out BK124.out (by decide)) e_) hs_));have n2_:=zA (blk_kept (zR BK147.out) hkp (fun hs_=>(fun e_=>(Kd.R_ne HO_148001.out BK147.out (by decide)) e_) hs_));have n3_:=zA (Z76.kept (Z76.uC HI0.out NB0_124.out NB0_147.out) hkp (fun hs_=>(fun e_=>(Z76.own_ne HI0.out HO_148001.out (by decide)) e_) hs_));have n4_:=zA (Kept.keepG (yC HK.out GW124.out GW147.out) hkp (fun k_ hs_=>(fun e_=>.inr (kC HO_148001.out k_ e_.symm)) hs_));have n5_:=zA (hb);clear HO_148001;clear BK124;clear BK147;clear HI0;clear HK;clear HB;have HO_148001:=n0_;have BK124:=n1_;have BK147:=n2_;have HI0:=n3_;have HK:=n4_;have HB:=n5_;clear n0_ n1_ n2_ n3_ n4_ n5_;(try clear hb);(try clear hkp);(try clear hy0)))
            go_roundg k4
            case measure=>have:=HJ2.out;have:=HJ14.out;have:=HK3.out;have:=HK4.out;omega
            case rel=>exact ⟨(wrap64 (x9_4 + 1)),(t149),(t150),(t151),(.slice Ao41 x148001_4.length co41),zs,H', ⟨by have:=HJ2.out;have:=HJ14.out;have:=HK3.out;have:=HK4.out;omega⟩,⟨zP HO_148001.out⟩,⟨zR BK124.out⟩,⟨zR BK147.out⟩,⟨Z76.uC HI0.out NB0_124.out NB0_147.out⟩,⟨yC HK.out GW124.out GW147.out⟩,⟨zW HB.out (Z76.ge HI0.out) GE124.out GE147.out⟩⟩
           rw [if_neg c35] at H
           obtain ⟨c35b0,c35b1⟩:=zT2 c35
           have H' := zA H
           clear H
           go_wp2_with (first | (refine zO (some 46) Tryz.func35 #[.pointer (some ⟨g,0,none⟩),.int .i64 t144] ?_;(with_reducible refine (spec_l01Next.calls g s0_0 x1001_4 x1002_4 t144 t148 t149 t150 w0 _ ?side1 ?side2 A34.out).mono ?_);(case side1=>exact Z76.uC HI0.out NB0_124.out NB0_147.out);(case side2=>exact zW HB.out (Z76.ge HI0.out) GE124.out GE147.out);rintro e w43 ⟨rfl,hi,hb,hk⟩;refine ⟨_,rfl,?_⟩;replace HO_148001:=zA (zB9 (Z76.apart (show Z76 w0 _ g s0_0 x1001_4 x1002_4 from Z76.uC HI0.out NB0_124.out NB0_147.out) (zP HO_148001.out) (by decide)) hk);replace BK124:=zA (zB2 hk BK124.out NB124_0.out);replace BK147:=zA (zB2 hk BK147.out NB147_0.out);replace HK:=zA (kT (yC HK.out GW124.out GW147.out) hk (.inl rfl));replace HB:=zA (hb);replace HI0:=zA (hi);(try clear hb);(try clear hk);(try clear hi)))
           go_roundg k4
           case measure=>have:=HJ2.out;have:=HJ14.out;have:=HK3.out;have:=HK4.out;omega
           case rel=>exact ⟨(wrap64 (x9_4 + 1)),(t149),(t150),(x148001_4),(u148001),zs,H', ⟨by have:=HJ2.out;have:=HJ14.out;have:=HK3.out;have:=HK4.out;omega⟩,⟨zP HO_148001.out⟩,⟨zR BK124.out⟩,⟨zR BK147.out⟩,⟨Z76.uC HI0.out NB0_124.out NB0_147.out⟩,⟨yC HK.out GW124.out GW147.out⟩,⟨zW HB.out (Z76.ge HI0.out) GE124.out GE147.out⟩⟩
          rw [if_neg c33] at H
          have c33b0:decide (x9_4 < x8_3) = false:=decide_eq_false c33
          clear c33
          have H' := zA H
          clear H
          go_wp2
          go_roundg k4
          case measure=>have:=HJ2.out;have:=HJ14.out;have:=HK3.out;have:=HK4.out;omega
          case rel=>exact ⟨(wrap64 (x8_3 + 1)),(x1001_4),(x1002_4),(x148001_4),(u148001),zs,H', ⟨by have:=HJ2.out;have:=HJ14.out;have:=HK3.out;have:=HK4.out;omega⟩,⟨zP HO_148001.out⟩,⟨zR BK124.out⟩,⟨zR BK147.out⟩,⟨Z76.uC HI0.out NB0_124.out NB0_147.out⟩,⟨yC HK.out GW124.out GW147.out⟩,⟨zW HB.out (Z76.ge HI0.out) GE124.out GE147.out⟩⟩
       rw [if_neg c32] at H
       have c32b0:decide (x8_3 < x5_14) = false:=decide_eq_false c32
       clear c32
       simp only [Option.some.injEq,Prod.mk.injEq] at H
       obtain ⟨rfl,rfl,rfl,rfl⟩:=H
       have hnb44:=NB147_124.out
       have hnc44:=NB124_147.out
       have hnb45:=NB147_0.out
       have hnc45:=NB0_147.out
       obtain ⟨hcz46_0,hcz46_1,hfz46_0,hfz46_1⟩:=zB3 BK147.out
       have hnb47:=NB124_0.out
       have hnc47:=NB0_124.out
       obtain ⟨hcz48_0,hcz48_1,hfz48_0,hfz48_1⟩:=zB3 BK124.out
       obtain ⟨Ao49,co49,eo49⟩:=kM HO_148001.out
       subst eo49
       go_wp2
       refine bodyPost_ret (results_cell_row rfl _ _ gb124 26 #[.int .i64 t137,.slice Ao49 x148001_3.length co49] (0,0) _ rfl (zRP BK124.out) Tryz.underlying26 rfl (by kernel_rfl)) rfl ?_
       exact ⟨_,zr,by (with_reducible repeat (first | apply zF | apply zG | apply zH));exact kA (kY (p:=⟨gb124,1,none⟩) (kY (p:=⟨gb124,0,none⟩) (kD HO_148001.out BK124.out (by decide)) (fun _ hk=>hk.2) (.int .i64 t137)) (fun _ hk=>hk.2) (.slice Ao49 x148001_3.length co49)) (fun _ hk=>trivial),by repeat (first | (with_reducible first | exact HI0.out | apply Z76.alloc | apply Z76.drewN | apply Z76.drew | apply Z76.set_1 | apply Z76.set_2 | refine Z76.far ?_ NB0_124.out _ | refine Z76.far ?_ NB0_147.out _) | exact HI0.out),zW HB.out (Z76.ge HI0.out) GE124.out GE147.out,by repeat (first | (with_reducible first | exact HK.out | apply KeepBut.set_ | apply keep_drewN | apply keep_drew | apply keep_alloc | refine keep_far ?_ GW124.out _ | refine keep_far ?_ GW147.out _) | exact HK.out)⟩
end Go.Proofs.YtemdfjdmokbcoaaGreatDoor.PAll
