import Derived.Test.YtpenijicdldipaaDoorPAllx0
import Derived.Test.YtpenijicdldipaaDoorPAllx1
namespace Go.Proofs.YtpenijicdldipaaDoor.PAll
open Go.RowKit Go.Proofs.YtpenijicdldipaaDoor.T Go.Proofs.YtpenijicdldipaaDoorW.PrintWords Go.Proofs.YtpenijicdldipaaDoorW.PrintLast Go.Proofs.YtpenijicdldipaaDoorW.PrintMore
attribute [local go_sem] max2_int min2_int max_two min_two max_three min_three max_four min_four   -- for this text's walks alone
set_option linter.unusedVariables false
set_option linter.unusedSimpArgs false
def laws_big.f (l0:List Int):Option (Bool):=some (decide ((l0.length:Int) > 4096))
set_option maxHeartbeats 8000000 in
set_option maxRecDepth 100000 in
theorem laws_big.calls (A0:Option Addr) (c0:Nat) (l0:List Int) (r:Bool) (w:World) (hr0:Kd.C (Kd.int .u8) w A0 l0.length l0) (hc0:l0.length ≤ c0) (h:laws_big.f l0 = some r) :
  Calls Tryd.prog 15 #[.slice A0 l0.length c0] w fun e w' => e = .returned (.bool r) ∧ Drawn0 w w' := by
 have HR0:=zA hr0
 have HC0:=zA hc0
 clear hr0 hc0
 have H:=h
 unfold laws_big.f at H
 clear h
 obtain rfl:=Option.some.inj H
 go_enter Tryd.func15,Tryd.ntmps15
 go_wp2
 go_ret
 exact ⟨zs,by repeat (first | exact Drawn0.refl _ | apply Drawn0.step)⟩
def Z82 (w0 W:World) (g:Nat) (f0:List Int) (f1:Int) (f2:Int):Prop:=∃ A0 c0,W.heap[g]? = some (.cells #[.slice A0 f0.length c0,.int .i64 f1,.int .u64 f2] 82 (0,0)) ∧ w0.heap.size ≤ g ∧ Kd.C (Kd.int .u8) w0 A0 f0.length f0
theorem Z82.grown {w0 W:World} {g:Nat} {f0:List Int} {f1:Int} {f2:Int} {W1:World} {row:Option Nat} (h:Z82 w0 W g f0 f1 f2) (hw:W.grownBy W1 row) (hne:some g ≠ row):Z82 w0 W1 g f0 f1 f2:=by
 obtain ⟨A0,c0,hb,hg,hr0⟩:=h
 exact ⟨A0,c0,blk_grown hb hw hne,hg,hr0⟩
theorem Z82.own_neN {w0 W:World} {g:Nat} {f0:List Int} {f1:Int} {f2:Int} {α:Type} {d:Kd α} {e:Nat} {base:Nat} {ok:Nat → Prop} {v:Value} {xs:List α} (h:Z82 w0 W g f0 f1 f2) (ho:Kd.N d e W base ok v xs) (ht:e ≠ 82):some g ≠ v.ownBlock:=by
 obtain ⟨A0,c0,hb,hg,hr0⟩:=h
 exact Kd.N_ne ho hb ht
theorem Z82.fresh {w0 W:World} {g:Nat} {f0:List Int} {f1:Int} {f2:Int} (h:Z82 w0 W g f0 f1 f2):∀ k,W.heap.size ≤ k → k ≠ g:=by
 obtain ⟨A0,c0,hb,hg,hr0⟩:=h
 exact jE hb
theorem Z82.kept {w0 W:World} {g:Nat} {f0:List Int} {f1:Int} {f2:Int} {W1:World} {S:Nat → Prop} (h:Z82 w0 W g f0 f1 f2) (hk:Kept W W1 S) (hne:¬ S g):Z82 w0 W1 g f0 f1 f2:=by
 obtain ⟨A0,c0,hb,hg,hr0⟩:=h
 exact ⟨A0,c0,blk_kept hb hk hne,hg,hr0⟩
theorem Z82.below {w0 W:World} {g:Nat} {f0:List Int} {f1:Int} {f2:Int} {W1:World} (h:Z82 w0 W g f0 f1 f2) (hw:Below W.heap.size W W1):Z82 w0 W1 g f0 f1 f2:=h.grown (grown_of_below hw none) (by simp)
theorem Z82.alloc {w0 W:World} {g:Nat} {f0:List Int} {f1:Int} {f2:Int} (h:Z82 w0 W g f0 f1 f2) (o:Obj):Z82 w0 (W.alloc o) g f0 f1 f2:=h.below (zB (kW _ _) o)
theorem Z82.drewN {w0 W:World} {g:Nat} {f0:List Int} {f1:Int} {f2:Int} (h:Z82 w0 W g f0 f1 f2) (m:Nat):Z82 w0 (W.drewN m) g f0 f1 f2:=h
theorem Z82.drew {w0 W:World} {g:Nat} {f0:List Int} {f1:Int} {f2:Int} (h:Z82 w0 W g f0 f1 f2):Z82 w0 W.drew g f0 f1 f2:=h
theorem Z82.at_ {w0 W:World} {g:Nat} {f0:List Int} {f1:Int} {f2:Int} {w' : World} {m:Nat} (hq:W.drewN m = w') (h:Z82 w0 W g f0 f1 f2):Z82 w0 w' g f0 f1 f2:=by subst hq;exact Z82.drewN h m
theorem Z82.apart {w0 W:World} {g:Nat} {f0:List Int} {f1:Int} {f2:Int} {α:Type} {d:Kd α} {e:Nat} {base:Nat} {ok:Nat → Prop} {v:Value} {xs:List α} (h:Z82 w0 W g f0 f1 f2) (ho:d.R e W base ok v xs) (ht:∀ q,q ∈ e :: d.E → q ≠ 82):d.R e W base (fun k=>ok k ∧ k ≠ g) v xs:=by
 obtain ⟨A0,c0,hb,hg,hr0⟩:=h
 exact kD ho hb ht
theorem Z82.own_ne {w0 W:World} {g:Nat} {f0:List Int} {f1:Int} {f2:Int} {α:Type} {d:Kd α} {e:Nat} {base:Nat} {ok:Nat → Prop} {v:Value} {xs:List α} (h:Z82 w0 W g f0 f1 f2) (ho:d.R e W base ok v xs) (ht:e ≠ 82):some g ≠ v.ownBlock:=by
 obtain ⟨A0,c0,hb,hg,hr0⟩:=h
 exact Kd.R_ne ho hb ht
theorem Z82.apartQ {w0 W:World} {g:Nat} {f0:List Int} {f1:Int} {f2:Int} {α:Type} {d:Kd α} {e:Nat} {base:Nat} {ok:Nat → Prop} {v:Value} {xs:List α} (h:Z82 w0 W g f0 f1 f2) (ho:d.Q e W base ok v xs) (ht:∀ q,q ∈ e :: d.E → q ≠ 82):d.Q e W base (fun k=>ok k ∧ k ≠ g) v xs:=by
 obtain ⟨A0,c0,hb,hg,hr0⟩:=h
 exact Kd.Q_types ho hb ht
theorem Z82.own_neQ {w0 W:World} {g:Nat} {f0:List Int} {f1:Int} {f2:Int} {α:Type} {d:Kd α} {e:Nat} {base:Nat} {ok:Nat → Prop} {v:Value} {xs:List α} (h:Z82 w0 W g f0 f1 f2) (ho:d.Q e W base ok v xs) (ht:e ≠ 82):some g ≠ v.ownBlock:=by
 obtain ⟨A0,c0,hb,hg,hr0⟩:=h
 exact Kd.Q_ne ho hb ht
theorem Z82.apartS {w0 W:World} {g:Nat} {f0:List Int} {f1:Int} {f2:Int} {α:Type} {d:Kd α} {e:Nat} {base:Nat} {ok:Nat → Prop} {v:Value} {xs:List α} (h:Z82 w0 W g f0 f1 f2) (ho:d.S e W base ok v xs) (ht:∀ q,q ∈ e :: d.E → q ≠ 82):d.S e W base (fun k=>ok k ∧ k ≠ g) v xs:=by
 obtain ⟨A0,c0,hb,hg,hr0⟩:=h
 exact Kd.S_types ho hb ht
theorem Z82.own_neS {w0 W:World} {g:Nat} {f0:List Int} {f1:Int} {f2:Int} {α:Type} {d:Kd α} {e:Nat} {base:Nat} {ok:Nat → Prop} {v:Value} {xs:List α} (h:Z82 w0 W g f0 f1 f2) (ho:d.S e W base ok v xs) (ht:e ≠ 82):some g ≠ v.ownBlock:=by
 obtain ⟨A0,c0,hb,hg,hr0⟩:=h
 exact Kd.S_ne ho hb ht
theorem Z82.lt {w0 W:World} {g:Nat} {f0:List Int} {f1:Int} {f2:Int} (h:Z82 w0 W g f0 f1 f2):g < W.heap.size:=by
 obtain ⟨A0,c0,hb,hg,hr0⟩:=h
 exact jI hb
theorem Z82.ge {w0 W:World} {g:Nat} {f0:List Int} {f1:Int} {f2:Int} (h:Z82 w0 W g f0 f1 f2):w0.heap.size ≤ g:=by
 obtain ⟨A0,c0,hb,hg,hr0⟩:=h
 exact hg
theorem Z82.ne_blk {w0 W:World} {g:Nat} {f0:List Int} {f1:Int} {f2:Int} {a:Nat} {cs:Array Value} {t:TypeId} {fr:Nat × Nat} (h:Z82 w0 W g f0 f1 f2) (hb2:W.heap[a]? = some (.cells cs t fr)) (ht:t ≠ 82):g ≠ a:=by
 obtain ⟨A0,c0,hb,hg,hr0⟩:=h
 rintro rfl
 rw [hb] at hb2
 injection hb2 with hb2
 injection hb2 with _ ht2
 exact ht ht2.symm
theorem Z82.far {w0 W:World} {g:Nat} {f0:List Int} {f1:Int} {f2:Int} {p:Addr} (h:Z82 w0 W g f0 f1 f2) (hne:g ≠ p.block) (u:Value):Z82 w0 (W.setCell p u) g f0 f1 f2:=by
 obtain ⟨A0,c0,hb,hg,hr0⟩:=h
 exact ⟨A0,c0,blk_far hb hne u,hg,hr0⟩
theorem cellS82_0 {W:World} {g:Nat} {A0:Option Addr} {c0:Nat} {f0:List Int} {f1:Int} {f2:Int} (h:W.heap[g]? = some (.cells #[.slice A0 f0.length c0,.int .i64 f1,.int .u64 f2] 82 (0,0))):W.cell? ⟨g,0,none⟩ = some (.slice A0 f0.length c0):=(kV h 0).trans rfl
theorem cellS82_1 {W:World} {g:Nat} {A0:Option Addr} {c0:Nat} {f0:List Int} {f1:Int} {f2:Int} (h:W.heap[g]? = some (.cells #[.slice A0 f0.length c0,.int .i64 f1,.int .u64 f2] 82 (0,0))):W.cell? ⟨g,1,none⟩ = some (.int .i64 f1):=(kV h 1).trans rfl
theorem Z82.set_1 {w0 W:World} {g:Nat} {f0:List Int} {f1:Int} {f2:Int} (h:Z82 w0 W g f0 f1 f2) (x:Int):Z82 w0 (W.setCell ⟨g,1,none⟩ (.int .i64 x)) g f0 x f2:=by
 obtain ⟨A0,c0,hb,hg,hr0⟩:=h
 exact ⟨A0,c0,by simpa using blk_set hb 1 (.int .i64 x),hg,hr0⟩
theorem cellS82_2 {W:World} {g:Nat} {A0:Option Addr} {c0:Nat} {f0:List Int} {f1:Int} {f2:Int} (h:W.heap[g]? = some (.cells #[.slice A0 f0.length c0,.int .i64 f1,.int .u64 f2] 82 (0,0))):W.cell? ⟨g,2,none⟩ = some (.int .u64 f2):=(kV h 2).trans rfl
theorem Z82.set_2 {w0 W:World} {g:Nat} {f0:List Int} {f1:Int} {f2:Int} (h:Z82 w0 W g f0 f1 f2) (x:Int):Z82 w0 (W.setCell ⟨g,2,none⟩ (.int .u64 x)) g f0 f1 x:=by
 obtain ⟨A0,c0,hb,hg,hr0⟩:=h
 exact ⟨A0,c0,by simpa using blk_set hb 2 (.int .u64 x),hg,hr0⟩
theorem Z82.new (w0 W:World) (A0:Option Addr) (c0:Nat) (f0:List Int) (f1:Int) (f2:Int) (hB:Below w0.heap.size w0 W) (hr0:Kd.C (Kd.int .u8) w0 A0 f0.length f0):Z82 w0 (W.alloc (.cells #[.slice A0 f0.length c0,.int .i64 f1,.int .u64 f2] 82)) W.heap.size f0 f1 f2:=⟨A0,c0,by simpa using heap_alloc_new W _,hB.size,hr0⟩
theorem Z82.uA {p q:Prop} (h:p) (hh:p → q:=by intro h;repeat (first | (with_reducible first | exact h | apply Z82.alloc | apply Z82.drewN | apply Z82.drew | apply Z82.set_1 | apply Z82.set_2) | exact h)):q:=hh h
theorem Z82.uB {p q a:Prop} (h:p) (g:a) (hh:p → a → q:=by intro h g;repeat (first | (with_reducible first | exact h | apply Z82.alloc | apply Z82.drewN | apply Z82.drew | apply Z82.set_1 | apply Z82.set_2 | refine Z82.far ?_ g _) | exact h)):q:=hh h g
theorem Z82.uC {p q a b:Prop} (h:p) (g:a) (k:b) (hh:p → a → b → q:=by intro h g k;repeat (first | (with_reducible first | exact h | apply Z82.alloc | apply Z82.drewN | apply Z82.drew | apply Z82.set_1 | apply Z82.set_2 | refine Z82.far ?_ g _ | refine Z82.far ?_ k _) | exact h)):q:=hh h g k
theorem Z82.below_keepW {w0 w w1 w2:World} {g:Nat} (h0:Below w0.heap.size w0 w) (h1:Below w.heap.size w w1) (hk:KeepBut w1 w2 g none) (hb:Below w0.heap.size w0 w2) (hg:w.heap.size ≤ g):Below w.heap.size w w2:=⟨hb.os.trans h0.os.symm,hb.tape.trans h0.tape.symm,hb.output.trans h0.output.symm,Nat.le_trans h1.size hk.1,fun k hk2=>(hk.2 k (Nat.lt_of_lt_of_le hk2 h1.size) (by omega) (by simp)).trans (h1.block k hk2)⟩
def spec_l01From.l0:Nat → List Int → Int → List Int → Int → Int → Option (List Int × Int × Int)
 | 0,_,_,_,_,_=>none
 | k + 1,x0,x4,x441000,x441001,x441002=>if x4 < (x0.length:Int) then (if x4 < 4096 then (if 0 ≤ x4 then (spec_l01From.l0 k x0 (wrap64 (x4 + 1)) x441000 x441001 (IntKind.u64.wrap ((IntKind.u64.wrap ((IntKind.u64.wrap (x441002 * 1099511628211)) + (IntKind.u64.wrap (rd x0 x4)))) + 11))) else (none)) else (some (x441000,x441001,x441002))) else (some (x441000,x441001,x441002))
def spec_l01From.f (k:Nat) (l0:List Int):Option (List Int × Int × Int):=spec_l01From.l0 k l0 0 l0 0 (IntKind.u64.wrap (9341 + (IntKind.u64.wrap ((l0.length:Int)))))
def spec_l01From.T5:Bool × List (List Nat × List Nat):=(true,[([],[]),([],[]),([1],[1]),([2],[2]),([3],[3]),([4],[4]),([],[]),([],[]),([6,7],[6,7]),([8],[8]),([9],[9]),([5,10],[5,10]),([11],[11]),([0,0,1,2,3,4,5,6,7,8,9,10,11,12],[0]),([13,0,1,2,3,4,5,6,7,8,9,10,11,12],[13]),([14,12,0,1,2,3,4,5,6,7,8,9,10,11,12],[12,14])])
def spec_l01From.B5:List Nat:=[0,0,2,6,14,30,0,0,192,448,960,2046,4094,8191,16383,32767]
theorem spec_l01From.tab5:rtab .any (opsOf Tryd.f54 5) = spec_l01From.T5:=by kernel_rfl
theorem spec_l01From.bits5:waitsOk spec_l01From.T5.2 spec_l01From.B5 = true:=by kernel_rfl
set_option maxHeartbeats 8000000 in
set_option maxRecDepth 100000 in
theorem spec_l01From.calls (k:Nat) (A0:Option Addr) (c0:Nat) (l0:List Int) (r1:List Int) (r2:Int) (r3:Int) (w0 w:World) (hB:Below w0.heap.size w0 w) (hr0:Kd.C (Kd.int .u8) w0 A0 l0.length l0) (hc0:l0.length ≤ c0) (h:spec_l01From.f k l0 = some (r1,r2,r3)) :
  Calls Tryd.prog 54 #[.slice A0 l0.length c0] w fun e w' => ∃ g_:Nat,e = .returned (.pointer (some ⟨g_,0,none⟩)) ∧ Z82 w0 w' g_ r1 r2 r3 ∧ Below w0.heap.size w0 w' ∧ Below w.heap.size w w' ∧ w.heap.size ≤ g_:=by
 have hu82:=Tryd.underlying82
 have HR0:=zA hr0
 have HC0:=zA hc0
 clear hr0 hc0
 have HBW:=zA (kW w.heap.size w)
 have HB00:=zA hB
 have HW0:=zA hB.size
 have HB:=zA hB
 clear hB
 have H:=h
 unfold spec_l01From.f at H
 clear h
 have H' := zA H
 clear H
 go_enter Tryd.func54,Tryd.ntmps54
 go_wp2_with (first | (refine zBE 11 #[.slice A0 l0.length c0,.int .i64 0,.int .u64 (IntKind.u64.wrap (9341 + (IntKind.u64.wrap ((l0.length:Int)))))] 82 ?_;intro gb440 hg w2 hbox hb;replace HB:=zA (kQ (zQ HB.out) hb);have BK440:=zA (hbox);have GW440:=zA (zBH hg HBW.out);have GE440:=zA ((Nat.le_trans HW0.out (by rw [hg];exact (kP (zQ HBW.out)):w.heap.size ≤ gb440):w0.heap.size ≤ gb440));replace HBW:=zA (kQ HBW.out hb);clear hb hbox hg))
 go_loopg [4] k (fun kq v4 w' => ∃ (x4_1:Int) (x441002_1:Int),v4 = .int .i64 x4_1 ∧ Aside0 (spec_l01From.l0 kq l0 x4_1 l0 0 x441002_1 = some (r1,r2,r3)) ∧ Aside0 (kq ≤ k) ∧ Aside0 (w'.heap[gb440]? = some (.cells #[(.slice A0 l0.length c0),.int .i64 0,.int .u64 x441002_1] 82 (0,0))) ∧ Aside0 (Below w0.heap.size w0 w') ∧ Aside0 (Below w.heap.size w w'))
 case atStart=>exact ⟨(0),(IntKind.u64.wrap (9341 + (IntKind.u64.wrap ((l0.length:Int))))),zs,H', ⟨Nat.le_refl _⟩,⟨zR BK440.out⟩,⟨zT HB.out GE440.out⟩,⟨zT HBW.out GW440.out⟩⟩
 case round =>
  clear H'
  obtain ⟨x4_1,x441002_1,rfl,HA,HK1,BK440,HB,HBW⟩:=hrel
  cases gk with
  | zero=>exact absurd HA.out (by simp [spec_l01From.l0])
  | succ k1 =>
   have H:=HA.out
   clear HA
   simp only [spec_l01From.l0] at H
   by_cases c3:x4_1 < (l0.length:Int)
   ·rw [if_pos c3] at H
    have c3b0:decide (x4_1 < (l0.length:Int)) = true:=decide_eq_true c3
    clear c3
    by_cases c4:x4_1 < 4096
    ·rw [if_pos c4] at H
     have c4b0:decide (x4_1 < 4096) = true:=decide_eq_true c4
     clear c4
     by_cases c5:0 ≤ x4_1
     ·rw [if_pos c5] at H
      have c5b0:decide (0 ≤ x4_1) = true:=decide_eq_true c5
      clear c5
      have H' := zA H
      clear H
      try go_wp2
      have n0_:=zA (zK BK440.out)
      have n1_:=zA (zD HB.out)
      have n1w_:=zA (zD HBW.out)
      clear BK440 HB HBW
      have BK440:=n0_
      have HB:=n1_
      have HBW:=n1w_
      clear n0_ n1_
      have p441:0 ≤ (x4_1:Int):=zd
      have q441:x4_1 < (l0.length:Int):=zd
      obtain ⟨ad441,e441,hx441_0⟩:=Kd.at_int HR0.out x4_1 p441 q441
      have hw441_0:=hx441_0
      cases e441
      replace hx441_0:=pw_cell_below HB.out hx441_0
      replace p441:=eq_true p441
      replace q441:=eq_true q441
      refine start_ (n:=16) (S:=fun w' => w'.cell? ⟨gb440,0,none⟩ = some (.slice (some ad441) l0.length c0) ∧ w'.cell? ⟨gb440,1,none⟩ = some (.int .i64 0) ∧ w'.cell? ⟨gb440,2,none⟩ = some (.int .u64 x441002_1) ∧ w'.cell? (ad441.add (x4_1).toNat) = some (.int .u8 (rd l0 x4_1))) (ds:=[15]) #[false,false,false,false,false,false,false,false,false,false,false,false,false,false,false,false] (by kernel_rfl) rfl rfl ⟨(kV BK440.out 0).trans rfl,(kV BK440.out 1).trans rfl,(kV BK440.out 2).trans rfl,(pw_cell_below HB.out hw441_0)⟩ (fun hHeld=>?_);refine with_tabW spec_l01From.tab5 spec_l01From.bits5 (fun HT_ HW_=>?_)
      generalize wr.drew = w6 at BK440 HB HBW hx441_0 hHeld ⊢
      refine zp 0 (some 22) #[true,false,false,false,false,false,false,false,false,false,false,false,false,false,false,false] HT_.out ?_
      refine zp 1 (some 23) #[true,true,false,false,false,false,false,false,false,false,false,false,false,false,false,false] HT_.out ?_
      refine zp 2 (some 24) #[true,true,true,false,false,false,false,false,false,false,false,false,false,false,false,false] HT_.out ?_
      refine zp 3 (some 25) #[true,true,true,true,false,false,false,false,false,false,false,false,false,false,false,false] HT_.out ?_
      refine zp 6 (some 28) #[true,true,true,true,false,false,true,false,false,false,false,false,false,false,false,false] HT_.out ?_
      refine zp 7 (some 29) #[true,true,true,true,false,false,true,true,false,false,false,false,false,false,false,false] HT_.out ?_
      refine zp 8 (some 30) #[true,true,true,true,false,false,true,true,true,false,false,false,false,false,false,false] HT_.out ?_
      refine zf 4 (some 26) #[true,true,true,true,true,false,true,true,true,false,false,false,false,false,false,false] HT_.out HW_.out hHeld ?_
      refine zp 5 (some 27) #[true,true,true,true,true,true,true,true,true,false,false,false,false,false,false,false] HT_.out ?_
      refine zf 9 (some 31) #[true,true,true,true,true,true,true,true,true,true,false,false,false,false,false,false] HT_.out HW_.out hHeld ?_
      refine zp 10 (some 32) #[true,true,true,true,true,true,true,true,true,true,true,false,false,false,false,false] HT_.out ?_
      refine zp 11 (some 33) #[true,true,true,true,true,true,true,true,true,true,true,true,false,false,false,false] HT_.out ?_
      refine zp 12 (some 34) #[true,true,true,true,true,true,true,true,true,true,true,true,true,false,false,false] HT_.out ?_
      refine zp 13 (some 35) #[true,true,true,true,true,true,true,true,true,true,true,true,true,true,false,false] HT_.out ?_
      refine zp 14 (some 36) #[true,true,true,true,true,true,true,true,true,true,true,true,true,true,true,false] HT_.out ?_
      refine last_ (i:=15) (N:=none) #[true,true,true,true,true,true,true,true,true,true,true,true,true,true,true,true] rfl rfl (one_of HT_.out (by kernel_rfl)) (by decide) (fun K hK=>?_)
      have hs7:w6.cell? ⟨gb440,2,none⟩ = some (.int .u64 x441002_1):=(kV BK440.out 2).trans rfl
      have hfs7:=jH BK440.out 2
      refine skip_ (w1:=?_) (by rfl) rfl ?_ ?_
      rotate_left
      ·go_simp
       rfl
      refine hK.out _ _ ?_
      clear hK K
      refine done_ (done_of HT_.out (by kernel_rfl)) ?_
      try go_wp2
      go_roundg k1
      case measure=>have:=HK1.out;omega
      case rel=>exact ⟨(wrap64 (x4_1 + 1)),(IntKind.u64.wrap ((IntKind.u64.wrap ((IntKind.u64.wrap (x441002_1 * 1099511628211)) + (IntKind.u64.wrap (rd l0 x4_1)))) + 11)),zs,H', ⟨by have:=HK1.out;omega⟩,⟨by (with_reducible repeat (first | refine zJ ?_ _ | refine zK ?_ | refine zI ?_ _));refine blk_put (cs:=#[.slice (some ad441) l0.length c0,.int .i64 0,.int .u64 x441002_1]) ?_ 2 _ rfl;(with_reducible repeat (first | refine zJ ?_ _ | refine zK ?_ | refine zI ?_ _));exact BK440.out⟩,⟨zT HB.out GE440.out⟩,⟨zT HBW.out GW440.out⟩⟩
     rw [if_neg c5] at H
     exact absurd H (by simp)
    rw [if_neg c4] at H
    have c4b0:decide (x4_1 < 4096) = false:=decide_eq_false c4
    clear c4
    simp only [Option.some.injEq,Prod.mk.injEq] at H
    obtain ⟨rfl,rfl,rfl⟩:=H
    go_wp2
    go_ret
    exact ⟨_,rfl,(show Z82 w0 _ gb440 l0 0 x441002_1 from ⟨_,_,by (with_reducible repeat (first | refine zJ ?_ _ | refine zK ?_ | refine zI ?_ _));exact BK440.out,GE440.out,HR0.out⟩),zT HB.out GE440.out,zT HBW.out GW440.out,GW440.out⟩
   rw [if_neg c3] at H
   have c3b0:decide (x4_1 < (l0.length:Int)) = false:=decide_eq_false c3
   clear c3
   simp only [Option.some.injEq,Prod.mk.injEq] at H
   obtain ⟨rfl,rfl,rfl⟩:=H
   go_wp2
   go_ret
   exact ⟨_,rfl,(show Z82 w0 _ gb440 l0 0 x441002_1 from ⟨_,_,by (with_reducible repeat (first | refine zJ ?_ _ | refine zK ?_ | refine zI ?_ _));exact BK440.out,GE440.out,HR0.out⟩),zT HB.out GE440.out,zT HBW.out GW440.out,GW440.out⟩
def spec_l01Next.f (s0_0:List Int) (s0_1:Int) (s0_2:Int) (a1:Int):Option (Int × Int × Int):=if a1 < 1 then (some (0,s0_1,s0_2)) else (if s0_1 < (s0_0.length:Int) then (if 0 ≤ s0_1 then (if a1 = 0 then (none) else (some (Int.tmod (wrap64 ((wrap64 (Go.bits .and .u64 ((IntKind.u64.wrap ((IntKind.u64.wrap (s0_2 * 6364136223846793005)) + 1442695040888963407)) / 8589934592) 16777215)) + (wrap64 (rd s0_0 s0_1)))) a1,wrap64 (s0_1 + 1),IntKind.u64.wrap ((IntKind.u64.wrap (s0_2 * 6364136223846793005)) + 1442695040888963407)))) else (none)) else (if a1 = 0 then (none) else (some (Int.tmod (wrap64 (Go.bits .and .u64 ((IntKind.u64.wrap ((IntKind.u64.wrap (s0_2 * 6364136223846793005)) + 1442695040888963407)) / 8589934592) 16777215)) a1,s0_1,IntKind.u64.wrap ((IntKind.u64.wrap (s0_2 * 6364136223846793005)) + 1442695040888963407)))))
set_option maxHeartbeats 8000000 in
set_option maxRecDepth 100000 in
theorem spec_l01Next.calls (g:Nat) (s0_0:List Int) (s0_1:Int) (s0_2:Int) (a1:Int) (r1:Int) (r2:Int) (r3:Int) (w0 w:World) (hI:Z82 w0 w g s0_0 s0_1 s0_2) (hB:Below w0.heap.size w0 w) (h:spec_l01Next.f s0_0 s0_1 s0_2 a1 = some (r1,r2,r3)) :
  Calls Tryd.prog 56 #[.pointer (some ⟨g,0,none⟩),.int .i64 a1] w fun e w' => e = .returned (.int .i64 r1) ∧ Z82 w0 w' g s0_0 r2 r3 ∧ Below w0.heap.size w0 w' ∧ KeepBut w w' g none:=by
 have HI0:=zA hI
 have HK:=zA (KeepBut.refl w g none)
 have HL:=zA hB.size
 clear hI
 have HW0:=zA hB.size
 have HB:=zA hB
 clear hB
 have H:=h
 unfold spec_l01Next.f at H
 clear h
 by_cases c3:a1 < 1
 ·rw [if_pos c3] at H
  have c3b0:decide (a1 < 1) = true:=decide_eq_true c3
  clear c3
  simp only [Option.some.injEq,Prod.mk.injEq] at H
  obtain ⟨rfl,rfl,rfl⟩:=H
  go_enter Tryd.func56,Tryd.ntmps56
  go_wp2
  repeat (go_quiet (fail);try go_wp2)
  go_ret
  exact ⟨zr,by repeat (first | (with_reducible first | exact HI0.out | apply Z82.alloc | apply Z82.drewN | apply Z82.drew | apply Z82.set_1 | apply Z82.set_2) | exact HI0.out),zT HB.out (Z82.ge HI0.out),by repeat (first | (with_reducible first | exact HK.out | apply KeepBut.set_ | apply keep_drewN | apply keep_drew | apply keep_alloc) | exact HK.out)⟩
 rw [if_neg c3] at H
 have c3b0:decide (a1 < 1) = false:=decide_eq_false c3
 clear c3
 by_cases c4:s0_1 < (s0_0.length:Int)
 ·rw [if_pos c4] at H
  have c4b0:decide (s0_1 < (s0_0.length:Int)) = true:=decide_eq_true c4
  clear c4
  by_cases c5:0 ≤ s0_1
  ·rw [if_pos c5] at H
   have c5b0:decide (0 ≤ s0_1) = true:=decide_eq_true c5
   clear c5
   by_cases c6:a1 = 0
   ·rw [if_pos c6] at H
    exact absurd H (by simp)
   rw [if_neg c6] at H
   obtain ⟨c6b0,c6b1⟩:=zT2 c6
   simp only [Option.some.injEq,Prod.mk.injEq] at H
   obtain ⟨rfl,rfl,rfl⟩:=H
   obtain ⟨ASz7_0,cSz7_0,HGz7,hgz7,HSz7_0⟩:=HI0.out
   have hcz7_0:=cellS82_0 HGz7
   have hcz7_1:=cellS82_1 HGz7
   have hcz7_2:=cellS82_2 HGz7
   have hfz7_1:=jH HGz7 1
   have hfz7_2:=jH HGz7 2
   clear HGz7 hgz7
   have p442:0 ≤ (s0_1:Int):=zd
   have q442:s0_1 < (s0_0.length:Int):=zd
   obtain ⟨ad442,e442,hx442_0⟩:=Kd.at_int HSz7_0 s0_1 p442 q442
   cases e442
   have hn442_0:ad442.block ≠ g:=Nat.ne_of_lt (Nat.lt_of_lt_of_le (by have:=jG _ _ hx442_0;first | rwa [add_block] at this | exact this) (Z82.ge HI0.out))
   replace hx442_0:=pw_cell_below HB.out hx442_0
   replace hx442_0:=(cell_far (p:=⟨g,2,none⟩) (by first | (rw [add_block];exact hn442_0) | (show (Addr.add _ _).block ≠ _;rw [add_block];exact hn442_0) | exact hn442_0) (.int .u64 (IntKind.u64.wrap ((IntKind.u64.wrap (s0_2 * 6364136223846793005)) + 1442695040888963407)))).trans hx442_0
   (try have hy442_0:=fun (n_:Nat)=>(show (((w.drewN n_).setCell ⟨g,2,none⟩ (.int .u64 (IntKind.u64.wrap ((IntKind.u64.wrap (s0_2 * 6364136223846793005)) + 1442695040888963407))))).cell? _ = some _ from hx442_0))
   clear hn442_0
   replace p442:=eq_true p442
   replace q442:=eq_true q442
   go_enter Tryd.func56,Tryd.ntmps56
   go_wp2
   repeat (go_quiet (fail);try go_wp2)
   go_ret
   exact ⟨zr,by repeat (first | (with_reducible first | exact HI0.out | apply Z82.alloc | apply Z82.drewN | apply Z82.drew | apply Z82.set_1 | apply Z82.set_2) | exact HI0.out),zT HB.out (Z82.ge HI0.out),by repeat (first | (with_reducible first | exact HK.out | apply KeepBut.set_ | apply keep_drewN | apply keep_drew | apply keep_alloc) | exact HK.out)⟩
  rw [if_neg c5] at H
  exact absurd H (by simp)
 rw [if_neg c4] at H
 have c4b0:decide (s0_1 < (s0_0.length:Int)) = false:=decide_eq_false c4
 clear c4
 by_cases c8:a1 = 0
 ·rw [if_pos c8] at H
  exact absurd H (by simp)
 rw [if_neg c8] at H
 obtain ⟨c8b0,c8b1⟩:=zT2 c8
 simp only [Option.some.injEq,Prod.mk.injEq] at H
 obtain ⟨rfl,rfl,rfl⟩:=H
 obtain ⟨ASz9_0,cSz9_0,HGz9,hgz9,HSz9_0⟩:=HI0.out
 have hcz9_0:=cellS82_0 HGz9
 have hcz9_1:=cellS82_1 HGz9
 have hcz9_2:=cellS82_2 HGz9
 have hfz9_1:=jH HGz9 1
 have hfz9_2:=jH HGz9 2
 clear HGz9 hgz9
 go_enter Tryd.func56,Tryd.ntmps56
 go_wp2
 repeat (go_quiet (fail);try go_wp2)
 go_ret
 exact ⟨zr,by repeat (first | (with_reducible first | exact HI0.out | apply Z82.alloc | apply Z82.drewN | apply Z82.drew | apply Z82.set_1 | apply Z82.set_2) | exact HI0.out),zT HB.out (Z82.ge HI0.out),by repeat (first | (with_reducible first | exact HK.out | apply KeepBut.set_ | apply keep_drewN | apply keep_drew | apply keep_alloc) | exact HK.out)⟩
def spec_l02Free.l0:Nat → Int → Int → Int → List Int → Option (Int × List Int)
 | 0,_,_,_,_=>none
 | k + 1,x0,x4,x448000,x448001=>if x4 < x0 then ((spec_l01One.f x4).bind fun t448=>(if x448001.length < 17592186044416 then (spec_l02Free.l0 k x0 (wrap64 (x4 + 1)) x448000 (x448001 ++ [t448])) else (none))) else (some (x448000,x448001))
def spec_l02Free.f (k:Nat) (a0:Int):Option (Int × List Int):=spec_l02Free.l0 k a0 0 a0 (([]:List Int))
def spec_l02Free.T5:Bool × List (List Nat × List Nat):=(true,[([],[]),([0],[0]),([],[]),([2],[2]),([3],[3]),([1,4,3],[1,4]),([0,1,2,3,4,5],[]),([6,5,5,0,1,2,3,4,5],[5,6])])
def spec_l02Free.B5:List Nat:=[0,1,0,4,12,31,63,127]
theorem spec_l02Free.tab5:rtab .any (opsOf Tryd.f73 5) = spec_l02Free.T5:=by kernel_rfl
theorem spec_l02Free.bits5:waitsOk spec_l02Free.T5.2 spec_l02Free.B5 = true:=by kernel_rfl
set_option maxHeartbeats 8000000 in
set_option maxRecDepth 100000 in
theorem spec_l02Free.calls (k:Nat) (a0:Int) (r1:Int) (r2:List Int) (w:World) (h:spec_l02Free.f k a0 = some (r1,r2)) :
  Calls Tryd.prog 73 #[.int .i64 a0] w fun e w' => ∃ v1_:Value,e = .returned (.agg #[.int .i64 r1,v1_]) ∧ Kd.R (Kd.int .i64) 2 w' w.heap.size (fun _=>True) v1_ r2 ∧ Below w.heap.size w w' := by
 have hu28:=Tryd.underlying28
 have HB:=zA (kW w.heap.size w)
 have H:=h
 unfold spec_l02Free.f at H
 clear h
 obtain ⟨y444,hy444⟩:∃ y_:List Int,y_ = (([]:List Int)):=⟨_,rfl⟩
 replace H:(spec_l02Free.l0 k a0 0 a0 y444) = some (r1,r2):=zy hy444 H
 have Ny444:=zA hy444
 clear hy444
 have H' := zA H
 clear H
 go_enter Tryd.func73,Tryd.ntmps73
 go_wp2_with (first | (refine zBE 2 #[.int .i64 0,.slice none 0 0] 28 ?_;intro gb443 hg w2 hbox hb;have BK443:=zA (hbox);have GW443:=zA (zBH hg HB.out);have GE443:=zA (zBH hg HB.out);replace HB:=zA (kQ (zQ HB.out) hb);clear hb hbox hg) | ((with_reducible refine kS (N:=6) rfl ?_);refine Kd.R_lit (Kd.int .i64) _ 2 ?hg (N:=6) ?hd (xs:=([]:List Int)) (inner:=[]) (ok:=fun _=>True) (okp:=fun _=>True) ?hr ?hp (fun _ hk=>hk) trivial (kW _ _) (Nat.le_refl _) (by simp) ?_;(case hd=>rfl);(case hg=>rfl);(case hr=>first | (go_simp;done) | (go_simp;rfl));(case hp=>exact (Reps.none _ _));intro v445 w3 ho4 hb hg_ hnew_;clear hg_ hnew_;(first | rw [← Ny444.out] at ho4 | (simp only [Int.reduceToNat] at ho4;rw [← Ny444.out] at ho4));have HO446:=zA (kI ho4 (kP (zT HB.out GE443.out)));replace BK443:=zA (zB1 BK443.out hb);replace HB:=zA (kQ (zT HB.out GE443.out) hb);clear hb ho4;obtain ⟨Ao5,co5,eo5⟩:=kM HO446.out;subst eo5) | (refine zBE 3 #[.int .i64 0,.slice none 0 0] 28 ?_;intro gb447 hg w6 hbox hb;replace HO446:=zA (kL (zP HO446.out) hb);have BK447:=zA (hbox);have GW447:=zA (zB6 hg (kP (zT HB.out GE443.out)):w.heap.size ≤ gb447);have GE447:=zA (zB6 hg (kP (zT HB.out GE443.out)):w.heap.size ≤ gb447);replace HB:=zA (kQ (zT HB.out GE443.out) hb);have NB443_447:=zA (zB4 hg BK443.out:gb443 ≠ gb447);have NB447_443:=zA (zB5 hg BK443.out:gb447 ≠ gb443);replace BK443:=zA (zB1 BK443.out hb);clear hb hbox hg;have hnb7:=NB447_443.out;have hnc7:=NB443_447.out;obtain ⟨hcz8_0,hcz8_1,hfz8_0,hfz8_1⟩:=zB3 BK447.out))
 go_loopg [4] k (fun kq v4 w' => ∃ (x4_1:Int) (x448001_1:List Int) (u448001:Value),v4 = .int .i64 x4_1 ∧ Aside0 (spec_l02Free.l0 kq a0 x4_1 a0 x448001_1 = some (r1,r2)) ∧ Aside0 (kq ≤ k) ∧ Aside0 (Kd.R (Kd.int .i64) 2 w' w.heap.size (fun _=>True) u448001 x448001_1) ∧ Aside0 (w'.heap[gb443]? = some (.cells #[.int .i64 0,(.slice none 0 0)] 28 (0,0))) ∧ Aside0 (w'.heap[gb447]? = some (.cells #[.int .i64 a0,u448001] 28 (0,0))) ∧ Aside0 (Below w.heap.size w w'))
 case atStart=>exact ⟨(0),(y444),(.slice Ao5 y444.length co5),zs,H', ⟨Nat.le_refl _⟩,⟨by (with_reducible repeat (first | apply zF | apply zG | apply zH));exact kA (kY (p:=⟨gb447,1,none⟩) (kY (p:=⟨gb447,0,none⟩) (kD HO446.out BK447.out (by decide)) (fun _ hk=>hk.2) (.int .i64 a0)) (fun _ hk=>hk.2) (.slice Ao5 y444.length co5)) (fun _ hk=>trivial)⟩,⟨by (with_reducible repeat (first | refine zJ ?_ _ | refine zK ?_ | refine zI ?_ _));refine blk_far ?_ NB443_447.out _;(with_reducible repeat (first | refine zJ ?_ _ | refine zK ?_ | refine zI ?_ _));refine blk_far ?_ NB443_447.out _;(with_reducible repeat (first | refine zJ ?_ _ | refine zK ?_ | refine zI ?_ _));exact BK443.out⟩,⟨by (with_reducible repeat (first | refine zJ ?_ _ | refine zK ?_ | refine zI ?_ _));refine blk_put (cs:=#[.int .i64 a0,.slice none 0 0]) ?_ 1 _ rfl;(with_reducible repeat (first | refine zJ ?_ _ | refine zK ?_ | refine zI ?_ _));refine blk_put (cs:=#[.int .i64 0,.slice none 0 0]) ?_ 0 _ rfl;(with_reducible repeat (first | refine zJ ?_ _ | refine zK ?_ | refine zI ?_ _));exact BK447.out⟩,⟨zV HB.out GE443.out GE447.out⟩⟩
 case round =>
  clear H'
  try clear c7
  try clear hcz8_0
  try clear hcz8_1
  try clear hfz8_0
  try clear hfz8_1
  obtain ⟨x4_1,x448001_1,u448001,rfl,HA,HK1,HO_448001,BK443,BK447,HB⟩:=hrel
  cases gk with
  | zero=>exact absurd HA.out (by simp [spec_l02Free.l0])
  | succ k1 =>
   have H:=HA.out
   clear HA
   simp only [spec_l02Free.l0] at H
   by_cases c9:x4_1 < a0
   ·rw [if_pos c9] at H
    have c9b0:decide (x4_1 < a0) = true:=decide_eq_true c9
    clear c9
    obtain ⟨t448,A10,H⟩:=zb H
    try dsimp only at H
    by_cases c11:x448001_1.length < 17592186044416
    ·rw [if_pos c11] at H
     have LMc11:=zA c11
     clear c11
     obtain ⟨y449,hy449⟩:∃ y_:List Int,y_ = (x448001_1 ++ [t448]):=⟨_,rfl⟩
     replace H:(spec_l02Free.l0 k1 a0 (wrap64 (x4_1 + 1)) a0 y449) = some (r1,r2):=zy hy449 H
     have Ny449:=zA hy449
     clear hy449
     have H' := zA H
     clear H
     try go_wp2
     replace HO_448001:=zA (zH HO_448001.out)
     replace BK443:=zA (zK BK443.out)
     replace BK447:=zA (zK BK447.out)
     replace HB:=zA (zD HB.out)
     refine start_ (n:=8) (S:=fun w' => w'.cell? ⟨gb447,0,none⟩ = some (.int .i64 a0) ∧ w'.cell? ⟨gb447,1,none⟩ = some (u448001)) (ds:=[7]) #[false,false,false,false,false,false,false,false] (by kernel_rfl) rfl rfl ⟨(kV BK447.out 0).trans rfl,(kV BK447.out 1).trans rfl⟩ (fun hHeld=>?_);refine with_tabW spec_l02Free.tab5 spec_l02Free.bits5 (fun HT_ HW_=>?_)
     generalize wr.drew = w12 at HO_448001 BK443 BK447 HB hHeld ⊢
     refine zp 0 (some 13) #[true,false,false,false,false,false,false,false] HT_.out ?_
     refine zp 2 (some 15) #[true,false,true,false,false,false,false,false] HT_.out ?_
     refine zc 1 (some 14) #[true,true,true,false,false,false,false,false] HT_.out HW_.out hHeld ?_
     refine one_ (i:=3) (N:=some 16) #[true,true,true,true,false,false,false,false] rfl rfl (one_of HT_.out (by kernel_rfl)) (by decide) (fun K hK=>?_)
     refine goes_ Tryd.func66 (by kernel_rfl) rfl #[.int .i64 x4_1] (by rfl) rfl rfl zg ?_
     with_reducible refine (spec_l01One.calls x4_1 t448 _ A10.out).mono ?_
     rintro e w' ⟨rfl,⟨nd,rfl⟩⟩
     refine ⟨_,rfl,?_⟩
     refine hK.out _ _ ⟨(kV BK447.out 0).trans rfl,(kV BK447.out 1).trans rfl⟩ (fun hHeld=>?_)
     clear hK K
     refine norm_ (a' := ?_) ?_ ?_
     rotate_left
     ·show Act.put _ (some 16) _ = _
      simp only [Act.put,zL,zM,zN,i64_w,i32_w]
      rfl
     refine one_ (i:=4) (N:=some 17) #[true,true,true,true,true,false,false,false] rfl rfl (one_of HT_.out (by kernel_rfl)) (by decide) (fun K hK=>?_)
     refine value_ (w1:=?_) (v:=?_) (by rfl) rfl ?_ ?_
     rotate_left 2
     ·go_simp
      constructor
      ·rfl
      rfl
     refine hK.out _ _ ⟨(kV (zI BK447.out _) 0).trans rfl,(kV (zI BK447.out _) 1).trans rfl⟩ (fun hHeld=>?_)
     clear hK K
     refine norm_ (a' := ?_) ?_ ?_
     rotate_left
     ·show Act.put _ (some 17) _ = _
      simp only [Act.put,zL,zM,zN,i64_w,i32_w]
      rfl
     refine one_ (i:=5) (N:=some 18) #[true,true,true,true,true,true,false,false] rfl rfl (one_of HT_.out (by kernel_rfl)) (by decide) (fun K hK=>?_)
     refine Kd.R_append_step (Kd.int .i64) (w0:=w) w.heap.size (by rfl) (.tmp 14) (.tmp 17) 22 2 (.int .i64 0) 8 rfl Tryd.underlying22 info2 rfl (by decide) (by omega) u448001 x448001_1 t448 [.int .i64 t448] (fun _=>True) (fun _=>False) rfl rfl ?aP (fun _ hk=>hk.elim) ?aF ?aO ?aB ?aS ?aL ?_
     (case aP=>exact rfl)
     (case aB=>exact (zV HB.out GE443.out GE447.out))
     (case aF=>exact (fun _ _=>trivial))
     (case aO=>exact (zP HO_448001.out))
     (case aS=>exact (kP (zV HB.out GE443.out GE447.out)))
     (case aL=>have:=LMc11.out;omega)
     intro v450 w13 ho hb hg hat
     rw [← Ny449.out] at ho
     replace BK443:=zA (blk_grown (g:=gb443) (o:=.cells #[.int .i64 0,.slice none 0 0] 28 (0,0)) (zR BK443.out) hg (Kd.R_ne HO_448001.out BK443.out (by decide)))
     replace BK447:=zA (blk_grown (g:=gb447) (o:=.cells #[.int .i64 a0,u448001] 28 (0,0)) (zR BK447.out) hg (Kd.R_ne HO_448001.out BK447.out (by decide)))
     replace HB:=zA (hb)
     have HO451:=zA (ho)
     clear HO_448001 ho hb hg hat
     obtain ⟨Ao14,co14,eo14⟩:=kM HO451.out
     (first | subst eo14 | (injection eo14 with f1_ f2_ f3_;have f4_:=f1_.symm;have f5_:=f3_.symm;clear f1_ f2_ f3_;subst f4_;subst f5_))
     refine hK.out _ _ ⟨(kV BK447.out 0).trans rfl,(kV BK447.out 1).trans rfl⟩ (fun hHeld=>?_)
     clear hK K
     refine norm_ (a' := ?_) ?_ ?_
     rotate_left
     ·show Act.put _ (some 18) _ = _
      simp only [Act.put,zL,zM,zN,i64_w,i32_w]
      rfl
     refine zp 6 (some 19) #[true,true,true,true,true,true,true,false] HT_.out ?_
     refine last_ (i:=7) (N:=none) #[true,true,true,true,true,true,true,true] rfl rfl (one_of HT_.out (by kernel_rfl)) (by decide) (fun K hK=>?_)
     have hs15:w13.cell? ⟨gb447,1,none⟩ = some (u448001):=(kV BK447.out 1).trans rfl
     have hfs15:=jH BK447.out 1
     have hns15_0:=NB443_447.out
     have hms15_0:=NB447_443.out
     refine skip_ (w1:=?_) (by rfl) rfl ?_ ?_
     rotate_left
     ·go_simp
      rfl
     refine hK.out _ _ ?_
     clear hK K
     refine done_ (done_of HT_.out (by kernel_rfl)) ?_
     try go_wp2
     go_roundg k1
     case measure=>have:=HK1.out;omega
     case rel=>exact ⟨(wrap64 (x4_1 + 1)),(y449),(.slice Ao14 y449.length co14),zs,H', ⟨by have:=HK1.out;omega⟩,⟨by (with_reducible repeat (first | apply zF | apply zG | apply zH));exact kA (kY (p:=⟨gb447,1,none⟩) (kD HO451.out BK447.out (by decide)) (fun _ hk=>hk.2) (.slice Ao14 y449.length co14)) (fun _ hk=>trivial)⟩,⟨by (with_reducible repeat (first | refine zJ ?_ _ | refine zK ?_ | refine zI ?_ _));refine blk_far ?_ NB443_447.out _;(with_reducible repeat (first | refine zJ ?_ _ | refine zK ?_ | refine zI ?_ _));exact BK443.out⟩,⟨by (with_reducible repeat (first | refine zJ ?_ _ | refine zK ?_ | refine zI ?_ _));refine blk_put (cs:=#[.int .i64 a0,u448001]) ?_ 1 _ rfl;(with_reducible repeat (first | refine zJ ?_ _ | refine zK ?_ | refine zI ?_ _));exact BK447.out⟩,⟨zV HB.out GE443.out GE447.out⟩⟩
    rw [if_neg c11] at H
    exact absurd H (by simp)
   rw [if_neg c9] at H
   have c9b0:decide (x4_1 < a0) = false:=decide_eq_false c9
   clear c9
   simp only [Option.some.injEq,Prod.mk.injEq] at H
   obtain ⟨rfl,rfl⟩:=H
   have hnb16:=NB447_443.out
   have hnc16:=NB443_447.out
   obtain ⟨hcz17_0,hcz17_1,hfz17_0,hfz17_1⟩:=zB3 BK447.out
   obtain ⟨hcz18_0,hcz18_1,hfz18_0,hfz18_1⟩:=zB3 BK443.out
   obtain ⟨Ao19,co19,eo19⟩:=kM HO_448001.out
   subst eo19
   go_wp2
   refine bodyPost_ret (results_cell_row rfl _ _ gb443 28 #[.int .i64 a0,.slice Ao19 x448001_1.length co19] (0,0) _ rfl (zRP BK443.out) Tryd.underlying28 rfl (by kernel_rfl)) rfl ?_
   exact ⟨_,zr,by (with_reducible repeat (first | apply zF | apply zG | apply zH));exact kA (kY (p:=⟨gb443,1,none⟩) (kY (p:=⟨gb443,0,none⟩) (kD HO_448001.out BK443.out (by decide)) (fun _ hk=>hk.2) (.int .i64 a0)) (fun _ hk=>hk.2) (.slice Ao19 x448001_1.length co19)) (fun _ hk=>trivial),zV HB.out GE443.out GE447.out⟩
def spec_l01Pick.f (s0_0:List Int) (s0_1:Int) (s0_2:Int) (l1:List Int):Option (Int × Int × Int):=(spec_l01Next.f s0_0 s0_1 s0_2 (l1.length:Int)).bind fun bt452=>(if 0 ≤ bt452.1 then (if bt452.1 < (l1.length:Int) then (some (rd l1 bt452.1,bt452.2.1,bt452.2.2)) else (none)) else (none))
set_option maxHeartbeats 8000000 in
set_option maxRecDepth 100000 in
theorem spec_l01Pick.calls (g:Nat) (s0_0:List Int) (s0_1:Int) (s0_2:Int) (A1:Option Addr) (c1:Nat) (l1:List Int) (r1:Int) (r2:Int) (r3:Int) (w0 w:World) (hI:Z82 w0 w g s0_0 s0_1 s0_2) (hB:Below w0.heap.size w0 w) (hr1:Kd.C (Kd.int .i64) w A1 l1.length l1) (hc1:l1.length ≤ c1) (hf1:∀ ad,A1 = some ad → 0 < l1.length → ad.block ≠ g) (h:spec_l01Pick.f s0_0 s0_1 s0_2 l1 = some (r1,r2,r3)) :
  Calls Tryd.prog 74 #[.pointer (some ⟨g,0,none⟩),.slice A1 l1.length c1] w fun e w' => e = .returned (.int .i64 r1) ∧ Z82 w0 w' g s0_0 r2 r3 ∧ Below w0.heap.size w0 w' ∧ KeepBut w w' g none:=by
 have HR1:=zA hr1
 have HC1:=zA hc1
 clear hr1 hc1
 have HI0:=zA hI
 have HK:=zA (KeepBut.refl w g none)
 have HL:=zA hB.size
 clear hI
 have HW0:=zA hB.size
 have HB:=zA hB
 clear hB
 have H:=h
 unfold spec_l01Pick.f at H
 clear h
 obtain ⟨⟨t452,t453,t454⟩,A3,H⟩:=zb H
 try dsimp only at H
 by_cases c4:0 ≤ t452
 ·rw [if_pos c4] at H
  have c4b0:decide (0 ≤ t452) = true:=decide_eq_true c4
  clear c4
  by_cases c5:t452 < (l1.length:Int)
  ·rw [if_pos c5] at H
   have c5b0:decide (t452 < (l1.length:Int)) = true:=decide_eq_true c5
   clear c5
   simp only [Option.some.injEq,Prod.mk.injEq] at H
   obtain ⟨rfl,rfl,rfl⟩:=H
   go_enter Tryd.func74,Tryd.ntmps74
   go_wp2_with (first | (refine zO (some 9) Tryd.func56 #[.pointer (some ⟨g,0,none⟩),.int .i64 (l1.length:Int)] ?_;(with_reducible refine (spec_l01Next.calls g s0_0 s0_1 s0_2 (l1.length:Int) t452 t453 t454 w0 _ ?side1 ?side2 A3.out).mono ?_);(case side1=>exact Z82.uA HI0.out);(case side2=>exact zT HB.out (Z82.ge HI0.out));rintro e w6 ⟨rfl,hi,hb,hk⟩;refine ⟨_,rfl,?_⟩;replace HK:=zA (kT (yA HK.out) hk (.inl rfl));replace HB:=zA (hb);replace HI0:=zA (hi);(try clear hb);(try clear hk);(try clear hi);have p455:0 ≤ (t452:Int):=zd;have q455:t452 < (l1.length:Int):=zd;obtain ⟨ad455,e455,hx455_0⟩:=Kd.at_int HR1.out t452 p455 q455;cases e455;replace hx455_0:=keep_cell HK.out hx455_0 (by first | (rw [add_block];exact hf1 _ rfl (by omega)) | exact hf1 _ rfl (by omega) | exact hf1 ad455 rfl (by omega));replace p455:=eq_true p455;replace q455:=eq_true q455))
   go_ret
   exact ⟨zr,by repeat (first | (with_reducible first | exact HI0.out | apply Z82.alloc | apply Z82.drewN | apply Z82.drew | apply Z82.set_1 | apply Z82.set_2) | exact HI0.out),zT HB.out (Z82.ge HI0.out),by repeat (first | (with_reducible first | exact HK.out | apply KeepBut.set_ | apply keep_drewN | apply keep_drew | apply keep_alloc) | exact HK.out)⟩
  rw [if_neg c5] at H
  exact absurd H (by simp)
 rw [if_neg c4] at H
 exact absurd H (by simp)
def spec_l01One_Bl02Join.f (a0:Int):Option (Int):=spec_l01One.f a0
theorem spec_l01One_Bl02Join.calls (a0:Int) (r:Int) (w:World) (h:spec_l01One_Bl02Join.f a0 = some r) :
 Calls Tryd.prog 66 #[.int .i64 a0] w fun e w' => e = .returned (.int .i64 r) ∧ Below w.heap.size w w' := by
 refine (spec_l01One.calls a0 r w h).mono ?_
 rintro e w' ⟨h1,h2⟩
 exact ⟨h1,Drawn0.below h2⟩
def spec_l02Join.f (a0_0:Int) (l0_1:List Int) (a1:Int) (a2:Int):Option (List Int):=if 0 ≤ a1 then (if a1 < (l0_1.length:Int) then ((spec_l01One_Bl02Join.f a2).bind fun t458=>((some (l0_1.set (a1:Int).toNat (Go.bits .or .i64 (rd l0_1 a1) t458):List Int)).bind fun y459=>(if 0 ≤ a2 then (if a2 < (l0_1.length:Int) then ((spec_l01One_Bl02Join.f a1).bind fun t461=>(some (y459.set (a2:Int).toNat (Go.bits .or .i64 (rd y459 a2) t461)))) else (none)) else (none)))) else (none)) else (none)
def spec_l02Join.T1:Bool × List (List Nat × List Nat):=(true,[([],[]),([0],[0]),([],[]),([],[]),([3],[3]),([],[]),([4,5],[4,5]),([6],[6]),([],[]),([8],[8]),([7,9],[7,9]),([1,2,0,1,2,3,4,5,6,7,8,9,10],[1,2]),([11,10,9,0,1,2,3,4,5,6,7,8,9,10],[10,11])])
def spec_l02Join.B1:List Nat:=[0,1,0,0,8,0,56,120,0,256,1016,2047,4095]
theorem spec_l02Join.tab1:rtab .any (opsOf Tryd.f75 1) = spec_l02Join.T1:=by kernel_rfl
theorem spec_l02Join.bits1:waitsOk spec_l02Join.T1.2 spec_l02Join.B1 = true:=by kernel_rfl
def spec_l02Join.T2:Bool × List (List Nat × List Nat):=(true,[([],[]),([0],[0]),([],[]),([],[]),([3],[3]),([],[]),([4,5],[4,5]),([6],[6]),([],[]),([8],[8]),([7,9],[7,9]),([1,2,0,1,2,3,4,5,6,7,8,9,10],[1,2]),([11,10,9,0,1,2,3,4,5,6,7,8,9,10],[10,11])])
def spec_l02Join.B2:List Nat:=[0,1,0,0,8,0,56,120,0,256,1016,2047,4095]
theorem spec_l02Join.tab2:rtab .any (opsOf Tryd.f75 2) = spec_l02Join.T2:=by kernel_rfl
theorem spec_l02Join.bits2:waitsOk spec_l02Join.T2.2 spec_l02Join.B2 = true:=by kernel_rfl
set_option maxHeartbeats 8000000 in
set_option maxRecDepth 100000 in
theorem spec_l02Join.calls (a0_0:Int) (P0_1_:Nat → Prop) (u9000_:Value) (l0_1:List Int) (a1:Int) (a2:Int) (r:List Int) (w0 w:World) (hB:Below w0.heap.size w0 w) (ho0_1:Kd.R (Kd.int .i64) 2 w w0.heap.size P0_1_ u9000_ l0_1) (h:spec_l02Join.f a0_0 l0_1 a1 a2 = some r) :
  Calls Tryd.prog 75 #[.agg #[.int .i64 a0_0,u9000_],.int .i64 a1,.int .i64 a2] w fun e w' => e = .returned (.tuple #[]) ∧ Kd.R (Kd.int .i64) 2 w' w0.heap.size (fun k_=>(P0_1_ k_ ∨ w.heap.size ≤ k_)) u9000_ r ∧ Below w0.heap.size w0 w' ∧ Kept w w' (fun k_=>P0_1_ k_):=by
 have hu28:=Tryd.underlying28
 have HO0_1:=zA (show Kd.R (Kd.int .i64) 2 w w0.heap.size (fun k_=>(P0_1_ k_ ∨ w.heap.size ≤ k_)) u9000_ l0_1 from kA ho0_1 (fun k_ hk=>(.inl hk)))
 have HK:=zA (Kept.refl w (fun k_=>P0_1_ k_))
 have HW0:=zA hB.size
 have HB:=zA hB
 clear hB
 have H:=h
 unfold spec_l02Join.f at H
 clear h
 by_cases c4:0 ≤ a1
 ·rw [if_pos c4] at H
  have c4b0:decide (0 ≤ a1) = true:=decide_eq_true c4
  clear c4
  by_cases c5:a1 < (l0_1.length:Int)
  ·rw [if_pos c5] at H
   have c5b0:decide (a1 < (l0_1.length:Int)) = true:=decide_eq_true c5
   clear c5
   obtain ⟨t458,A6,H⟩:=zb H
   try dsimp only at H
   obtain ⟨y459,hy459⟩:∃ y_:List Int,y_ = (l0_1.set (a1:Int).toNat (Go.bits .or .i64 (rd l0_1 a1) t458)):=⟨_,rfl⟩
   replace H:(if 0 ≤ a2 then (if a2 < (l0_1.length:Int) then ((spec_l01One_Bl02Join.f a1).bind fun t461=>(some (y459.set (a2:Int).toNat (Go.bits .or .i64 (rd y459 a2) t461)))) else (none)) else (none)) = some r:=zy hy459 H
   have Ny459:=zA hy459
   clear hy459
   by_cases c8:0 ≤ a2
   ·rw [if_pos c8] at H
    have c8b0:decide (0 ≤ a2) = true:=decide_eq_true c8
    clear c8
    by_cases c9:a2 < (l0_1.length:Int)
    ·rw [if_pos c9] at H
     have c9b0:decide (a2 < (l0_1.length:Int)) = true:=decide_eq_true c9
     clear c9
     obtain ⟨t461,A10,H⟩:=zb H
     try dsimp only at H
     obtain ⟨y462,hy462⟩:∃ y_:List Int,y_ = (y459.set (a2:Int).toNat (Go.bits .or .i64 (rd y459 a2) t461)):=⟨_,rfl⟩
     replace H:(some y462) = some r:=zy hy462 H
     have Ny462:=zA hy462
     clear hy462
     obtain rfl:=Option.some.inj H
     obtain ⟨Ao12,co12,eo12⟩:=kM HO0_1.out
     subst eo12
     go_enter Tryd.func75,Tryd.ntmps75
     try go_wp2_with (first | (refine zBE 3 #[.int .i64 a0_0,.slice Ao12 l0_1.length co12] 28 ?_;intro gb456 hg w13 hbox hb;replace HO0_1:=zA (kL (zP HO0_1.out) hb);have BK456:=zA (hbox);have GW456:=zA (zB6 hg (by first | exact HK.out.1 | exact (show Kept w _ (fun k_=>P0_1_ k_) from by repeat (first | (with_reducible first | exact HK.out | apply Kept.alloc | apply Kept.drewN | apply Kept.drew) | exact HK.out)).1):w.heap.size ≤ gb456);replace HK:=zA (Kept.below (S:=(fun k_=>P0_1_ k_)) (by repeat (first | (with_reducible first | exact HK.out | apply Kept.alloc | apply Kept.drewN | apply Kept.drew) | exact HK.out)) hb);have GE456:=zA (zBH hg HB.out);replace HB:=zA (kQ (zQ HB.out) hb);clear hb hbox hg))
     replace HO0_1:=zA (zH HO0_1.out)
     replace BK456:=zA (zK BK456.out)
     replace HK:=zA (Kept.drew HK.out)
     replace HB:=zA (zD HB.out)
     have p457:0 ≤ (a1:Int):=zd
     have q457:a1 < (l0_1.length:Int):=zd
     obtain ⟨ad457,e457,hx457_0⟩:=Kd.at_int (kB HO0_1.out).2.2 a1 p457 q457
     cases e457
     replace p457:=eq_true p457
     replace q457:=eq_true q457
     refine start_ (n:=13) (S:=fun w' => w'.cell? ⟨gb456,0,none⟩ = some (.int .i64 a0_0) ∧ w'.cell? ⟨gb456,1,none⟩ = some (.slice (some ad457) l0_1.length co12) ∧ w'.cell? (ad457.add (a1).toNat) = some (.int .i64 (rd l0_1 a1))) (ds:=[12]) #[false,false,false,false,false,false,false,false,false,false,false,false,false] (by kernel_rfl) rfl rfl ⟨(kV BK456.out 0).trans rfl,(kV BK456.out 1).trans rfl,hx457_0⟩ (fun hHeld=>?_);refine with_tabW spec_l02Join.tab1 spec_l02Join.bits1 (fun HT_ HW_=>?_)
     generalize w13.drew = w14 at HO0_1 BK456 HK HB hx457_0 hHeld ⊢
     refine zp 0 (some 6) #[true,false,false,false,false,false,false,false,false,false,false,false,false] HT_.out ?_
     refine zp 2 (some 8) #[true,false,true,false,false,false,false,false,false,false,false,false,false] HT_.out ?_
     refine zp 3 (some 9) #[true,false,true,true,false,false,false,false,false,false,false,false,false] HT_.out ?_
     refine zp 5 (some 11) #[true,false,true,true,false,true,false,false,false,false,false,false,false] HT_.out ?_
     refine zp 8 (some 14) #[true,false,true,true,false,true,false,false,true,false,false,false,false] HT_.out ?_
     refine ze 1 (some 7) #[true,true,true,true,false,true,false,false,true,false,false,false,false] HT_.out HW_.out hHeld ?_
     refine ze 4 (some 10) #[true,true,true,true,true,true,false,false,true,false,false,false,false] HT_.out HW_.out hHeld ?_
     refine zp 6 (some 12) #[true,true,true,true,true,true,true,false,true,false,false,false,false] HT_.out ?_
     refine ze 7 (some 13) #[true,true,true,true,true,true,true,true,true,false,false,false,false] HT_.out HW_.out hHeld ?_
     refine one_ (i:=9) (N:=some 15) #[true,true,true,true,true,true,true,true,true,true,false,false,false] rfl rfl (one_of HT_.out (by kernel_rfl)) (by decide) (fun K hK=>?_)
     refine goes_ Tryd.func66 (by kernel_rfl) rfl #[.int .i64 a2] (by rfl) rfl rfl zg ?_
     with_reducible refine (spec_l01One_Bl02Join.calls a2 t458 _ A6.out).mono ?_
     rintro e w15 ⟨rfl,hb⟩
     have HS2_:=(hb.cell (jG _ _ (hHeld.2.2))).trans (hHeld.2.2)
     refine ⟨_,rfl,?_⟩
     replace HO0_1:=zA (kL (zP HO0_1.out) hb)
     replace BK456:=zA (zB1 BK456.out hb)
     replace HK:=zA (Kept.below (S:=(fun k_=>P0_1_ k_)) (by repeat (first | (with_reducible first | exact HK.out | apply Kept.alloc | apply Kept.drewN | apply Kept.drew | refine Kept.setCell ?_ (.inr GW456.out) _) | exact HK.out)) hb)
     replace HB:=zA (kQ (zT HB.out GE456.out) hb)
     (try clear hb)
     (try clear hb2)
     (try clear hk)
     (try clear hi)
     (try clear hgw)
     have p7:0 ≤ (a1:Int):=zd
     have q7:(a1:Int) < ((l0_1.length:Int):Int):=zd
     obtain ⟨go7,co7,eo7,gb7,gl7,cl7,HG7⟩:=Kd.R_form HO0_1.out (by omega)
     (first | cases eo7 | (injection eo7 with ea_ en_ ec_;(first | subst ea_ | (injection ea_ with ea_;subst ea_));subst ec_;clear en_))
     have GB7:=zA gb7
     have GG7:=zA HG7
     clear gb7 gl7 HG7
     have HMgo7:=zA (show (P0_1_ go7 ∨ w.heap.size ≤ go7) from (HO0_1.out.1 _ rfl))
     (first | simp only [add_plain] at hx457_0 | skip)
     obtain ⟨hx7_0,hf7_0⟩:=Kd.R_celln 0 HO0_1.out (a1:Int) p7 q7
     replace p7:=eq_true p7
     replace q7:=eq_true q7
     have HP16:=Kd.R_putn HO0_1.out (a1:Int) (Go.bits .or .i64 (rd l0_1 a1) t458)
     rw [← Ny459.out] at HP16
     have HQ16:=zA HP16
     clear HP16
     refine hK.out _ _ ⟨(kV BK456.out 0).trans rfl,(kV BK456.out 1).trans rfl,HS2_⟩ (fun hHeld=>?_)
     clear hK K
     refine norm_ (a' := ?_) ?_ ?_
     rotate_left
     ·show Act.put _ (some 15) _ = _
      simp only [Act.put,zL,zM,zN,i64_w,i32_w]
      rfl
     refine zp 10 (some 16) #[true,true,true,true,true,true,true,true,true,true,true,false,false] HT_.out ?_
     refine zp 11 (some 17) #[true,true,true,true,true,true,true,true,true,true,true,true,false] HT_.out ?_
     refine last_ (i:=12) (N:=none) #[true,true,true,true,true,true,true,true,true,true,true,true,true] rfl rfl (one_of HT_.out (by kernel_rfl)) (by decide) (fun K hK=>?_)
     refine skip_ (w1:=?_) (by rfl) rfl ?_ ?_
     rotate_left
     ·go_simp
      rfl
     refine hK.out _ _ ?_
     clear hK K
     refine done_ (done_of HT_.out (by kernel_rfl)) ?_
     try go_wp2
     have n0_:Aside0 (Kd.R (Kd.int .i64) 2 (w15.setCell ⟨go7,(a1:Int).toNat,none⟩ (.int .i64 (Go.bits .or .i64 (rd l0_1 a1) t458))) w0.heap.size (fun k_=>(P0_1_ k_ ∨ w.heap.size ≤ k_)) (.slice (some ⟨go7,0,none⟩) l0_1.length co12) y459):=⟨zP HQ16.out⟩
     have n1_:Aside0 ((w15.setCell ⟨go7,(a1:Int).toNat,none⟩ (.int .i64 (Go.bits .or .i64 (rd l0_1 a1) t458))).heap[gb456]? = some (.cells #[.int .i64 a0_0,.slice (some ⟨go7,0,none⟩) l0_1.length co12] 28 (0,0))):=⟨by (with_reducible repeat (first | refine zJ ?_ _ | refine zK ?_ | refine zI ?_ _));refine blk_far ?_ (by have h_:=Kd.R_ne HO0_1.out BK456.out (by decide);intro e_;exact h_ (by rw [e_];rfl)) _;(with_reducible repeat (first | refine zJ ?_ _ | refine zK ?_ | refine zI ?_ _));exact BK456.out⟩
     have n2_:Aside0 (Kept w (w15.setCell ⟨go7,(a1:Int).toNat,none⟩ (.int .i64 (Go.bits .or .i64 (rd l0_1 a1) t458))) (fun k_=>P0_1_ k_)):=⟨by repeat (first | (with_reducible first | exact HK.out | apply Kept.alloc | apply Kept.drewN | apply Kept.drew | refine Kept.setCell ?_ HMgo7.out _ | refine Kept.setCell ?_ (.inr GW456.out) _) | exact HK.out)⟩
     have n3_:Aside0 (Below w0.heap.size w0 (w15.setCell ⟨go7,(a1:Int).toNat,none⟩ (.int .i64 (Go.bits .or .i64 (rd l0_1 a1) t458)))):=⟨zV HB.out GB7.out GE456.out⟩
     (try clear HO0_1)
     (try clear BK456)
     (try clear HK)
     (try clear HB)
     generalize (w15.setCell ⟨go7,(a1:Int).toNat,none⟩ (.int .i64 (Go.bits .or .i64 (rd l0_1 a1) t458))) = w17 at n0_ n1_ n2_ n3_ ⊢
     have HO0_1:=n0_
     have BK456:=n1_
     have HK:=n2_
     have HB:=n3_
     clear n0_ n1_ n2_ n3_
     replace HO0_1:=zA (zH HO0_1.out)
     replace BK456:=zA (zK BK456.out)
     replace HK:=zA (Kept.drew HK.out)
     replace HB:=zA (zD HB.out)
     have p460:0 ≤ (a2:Int):=zd
     have q460:a2 < (y459.length:Int):=(by have h_:(a2:Int) < ((l0_1.length:Int):Int):=zd;first | (have e_:=(kB HO0_1.out).1;omega) | simpa only [Ny459.out,List.length_set] using h_)
     have ql460:((a2:Int) < ((l0_1.length:Int):Int)) = True:=eq_true (zd)
     obtain ⟨ad460,e460,hx460_0⟩:=Kd.at_int (kB HO0_1.out).2.2 a2 p460 q460
     obtain rfl:(⟨go7,0,none⟩:Addr) = ad460:=(by injection e460)
     (first | simp only [add_plain] at hx460_0 | simp only [add_at] at hx460_0 | simp only [Addr.add,Nat.zero_add] at hx460_0 | skip)
     replace p460:=eq_true p460
     replace q460:=eq_true q460
     refine start_ (n:=13) (S:=fun w' => w'.cell? ⟨gb456,0,none⟩ = some (.int .i64 a0_0) ∧ w'.cell? ⟨gb456,1,none⟩ = some (.slice (some ⟨go7,0,none⟩) l0_1.length co12) ∧ w'.cell? ⟨go7,(a2).toNat,none⟩ = some (.int .i64 (rd y459 a2))) (ds:=[12]) #[false,false,false,false,false,false,false,false,false,false,false,false,false] (by kernel_rfl) rfl rfl ⟨(kV BK456.out 0).trans rfl,(kV BK456.out 1).trans rfl,hx460_0⟩ (fun hHeld=>?_);refine with_tabW spec_l02Join.tab2 spec_l02Join.bits2 (fun HT_ HW_=>?_)
     generalize w17.drew = w18 at HO0_1 BK456 HK HB HQ16 hx460_0 hHeld ⊢
     refine zp 0 (some 18) #[true,false,false,false,false,false,false,false,false,false,false,false,false] HT_.out ?_
     refine zp 2 (some 20) #[true,false,true,false,false,false,false,false,false,false,false,false,false] HT_.out ?_
     refine zp 3 (some 21) #[true,false,true,true,false,false,false,false,false,false,false,false,false] HT_.out ?_
     refine zp 5 (some 23) #[true,false,true,true,false,true,false,false,false,false,false,false,false] HT_.out ?_
     refine zp 8 (some 26) #[true,false,true,true,false,true,false,false,true,false,false,false,false] HT_.out ?_
     refine ze 1 (some 19) #[true,true,true,true,false,true,false,false,true,false,false,false,false] HT_.out HW_.out hHeld ?_
     refine ze 4 (some 22) #[true,true,true,true,true,true,false,false,true,false,false,false,false] HT_.out HW_.out hHeld ?_
     refine zp 6 (some 24) #[true,true,true,true,true,true,true,false,true,false,false,false,false] HT_.out ?_
     refine ze 7 (some 25) #[true,true,true,true,true,true,true,true,true,false,false,false,false] HT_.out HW_.out hHeld ?_
     refine one_ (i:=9) (N:=some 27) #[true,true,true,true,true,true,true,true,true,true,false,false,false] rfl rfl (one_of HT_.out (by kernel_rfl)) (by decide) (fun K hK=>?_)
     refine goes_ Tryd.func66 (by kernel_rfl) rfl #[.int .i64 a1] (by rfl) rfl rfl zg ?_
     with_reducible refine (spec_l01One_Bl02Join.calls a1 t461 _ A10.out).mono ?_
     rintro e w19 ⟨rfl,hb⟩
     have HS2_:=(hb.cell (jG _ _ (hHeld.2.2))).trans (hHeld.2.2)
     refine ⟨_,rfl,?_⟩
     replace HO0_1:=zA (kL (zP HO0_1.out) hb)
     replace BK456:=zA (zB1 BK456.out hb)
     replace HK:=zA (Kept.below (S:=(fun k_=>P0_1_ k_)) (by repeat (first | (with_reducible first | exact HK.out | apply Kept.alloc | apply Kept.drewN | apply Kept.drew | refine Kept.setCell ?_ (.inr GW456.out) _) | exact HK.out)) hb)
     replace HB:=zA (kQ (zT HB.out GE456.out) hb)
     (try clear hb)
     (try clear hb2)
     (try clear hk)
     (try clear hi)
     (try clear hgw)
     have p11:0 ≤ (a2:Int):=zd
     have q11:(a2:Int) < ((l0_1.length:Int):Int):=zd
     obtain ⟨hx11_0,hf11_0⟩:=Kd.R_celln 0 HO0_1.out (a2:Int) p11 q11
     replace p11:=eq_true p11
     replace q11:=eq_true q11
     have HP20:=Kd.R_putn HO0_1.out (a2:Int) (Go.bits .or .i64 (rd y459 a2) t461)
     rw [← Ny462.out] at HP20
     have HQ20:=zA HP20
     clear HP20
     refine hK.out _ _ ⟨(kV BK456.out 0).trans rfl,(kV BK456.out 1).trans rfl,HS2_⟩ (fun hHeld=>?_)
     clear hK K
     refine norm_ (a' := ?_) ?_ ?_
     rotate_left
     ·show Act.put _ (some 27) _ = _
      simp only [Act.put,zL,zM,zN,i64_w,i32_w]
      rfl
     refine zp 10 (some 28) #[true,true,true,true,true,true,true,true,true,true,true,false,false] HT_.out ?_
     refine zp 11 (some 29) #[true,true,true,true,true,true,true,true,true,true,true,true,false] HT_.out ?_
     refine last_ (i:=12) (N:=none) #[true,true,true,true,true,true,true,true,true,true,true,true,true] rfl rfl (one_of HT_.out (by kernel_rfl)) (by decide) (fun K hK=>?_)
     refine skip_ (w1:=?_) (by rfl) rfl ?_ ?_
     rotate_left
     ·go_simp
      rfl
     refine hK.out _ _ ?_
     clear hK K
     refine done_ (done_of HT_.out (by kernel_rfl)) ?_
     try go_wp2
     first | go_end0 | ((try simp only [Exit.inBlock,Exit.then]);refine bodyPost_ret (results_none rfl _ _ _) rfl ?_)
     exact ⟨zr,zP HQ20.out,zV HB.out GB7.out GE456.out,by repeat (first | (with_reducible first | exact HK.out | apply Kept.alloc | apply Kept.drewN | apply Kept.drew | refine Kept.setCell ?_ HMgo7.out _ | refine Kept.setCell ?_ (.inr GW456.out) _) | exact HK.out)⟩
    rw [if_neg c9] at H
    exact absurd H (by simp)
   rw [if_neg c8] at H
   exact absurd H (by simp)
  rw [if_neg c5] at H
  exact absurd H (by simp)
 rw [if_neg c4] at H
 exact absurd H (by simp)
mutual
def spec_l02Draw.j0:Nat → Int → Bool → List Int → Int → Int → Option (Int × List Int × Int × Int)
 | 0,_,_,_,_,_=>none
 | k + 1,x1,x16,x1000,x1001,x1002=>if x16 = true then (some (4,(([11,7,14,13]:List Int)),x1001,x1002)) else ((spec_l01Next.f x1000 x1001 x1002 (wrap64 (x1 + 1))).bind fun bt470=>(if bt470.1 < 2 then ((spec_l01Next.f x1000 bt470.2.1 bt470.2.2 (wrap64 (x1 + 1))).bind fun bt473=>(spec_l02Draw.j1 k bt473.1 x1000 bt473.2.1 bt473.2.2)) else (spec_l02Draw.j1 k bt470.1 x1000 bt470.2.1 bt470.2.2)))
def spec_l02Draw.j1:Nat → Int → List Int → Int → Int → Option (Int × List Int × Int × Int)
 | 0,_,_,_,_=>none
 | k + 1,x5,x1000,x1001,x1002=>(spec_l02Free.f k x5).bind fun bt476=>((spec_l01Pick.f x1000 x1001 x1002 (([2,2,3,4]:List Int))).bind fun bt483=>(spec_l02Draw.l0 k x5 bt483.1 0 x1000 bt483.2.1 bt483.2.2 bt476.1 bt476.2))
def spec_l02Draw.l0:Nat → Int → Int → Int → List Int → Int → Int → Int → List Int → Option (Int × List Int × Int × Int)
 | 0,_,_,_,_,_,_,_,_=>none
 | k + 1,x5,x7,x8,x1000,x1001,x1002,x487000,x487001=>if x8 < x5 then (spec_l02Draw.l1 k x5 x7 x8 0 x1000 x1001 x1002 x487000 x487001) else (some (x487000,x487001,x1001,x1002))
def spec_l02Draw.l1:Nat → Int → Int → Int → Int → List Int → Int → Int → Int → List Int → Option (Int × List Int × Int × Int)
 | 0,_,_,_,_,_,_,_,_,_=>none
 | k + 1,x5,x7,x8,x9,x1000,x1001,x1002,x487000,x487001=>if x9 < x8 then ((spec_l01Next.f x1000 x1001 x1002 x7).bind fun bt487=>(if bt487.1 = 0 then ((spec_l02Join.f x487000 x487001 x8 x9).bind fun t490=>(spec_l02Draw.l1 k x5 x7 x8 (wrap64 (x9 + 1)) x1000 bt487.2.1 bt487.2.2 x487000 t490)) else (spec_l02Draw.l1 k x5 x7 x8 (wrap64 (x9 + 1)) x1000 bt487.2.1 bt487.2.2 x487000 x487001))) else (spec_l02Draw.l0 k x5 x7 (wrap64 (x8 + 1)) x1000 x1001 x1002 x487000 x487001)
end
def spec_l02Draw.f (k:Nat) (s0_0:List Int) (s0_1:Int) (s0_2:Int) (a1:Int):Option (Int × List Int × Int × Int):=if a1 ≥ 4 then ((spec_l01Next.f s0_0 s0_1 s0_2 6).bind fun bt464=>(spec_l02Draw.j0 k a1 (bt464.1 == 0) s0_0 bt464.2.1 bt464.2.2)) else (spec_l02Draw.j0 k a1 false s0_0 s0_1 s0_2)
set_option maxHeartbeats 8000000 in
set_option maxRecDepth 100000 in
theorem spec_l02Draw.calls (k:Nat) (g:Nat) (s0_0:List Int) (s0_1:Int) (s0_2:Int) (a1:Int) (r1:Int) (r2:List Int) (r3:Int) (r4:Int) (w0 w:World) (hI:Z82 w0 w g s0_0 s0_1 s0_2) (hB:Below w0.heap.size w0 w) (h:spec_l02Draw.f k s0_0 s0_1 s0_2 a1 = some (r1,r2,r3,r4)) :
  Calls Tryd.prog 55 #[.pointer (some ⟨g,0,none⟩),.int .i64 a1] w fun e w' => ∃ v1_:Value,e = .returned (.agg #[.int .i64 r1,v1_]) ∧ Kd.R (Kd.int .i64) 2 w' w.heap.size (fun _=>True) v1_ r2 ∧ Z82 w0 w' g s0_0 r3 r4 ∧ Below w0.heap.size w0 w' ∧ KeepBut w w' g none:=by
 have hu28:=Tryd.underlying28
 have HI0:=zA hI
 have HK:=zA (KeepBut.refl w g none)
 have HL:=zA hB.size
 clear hI
 have HW0:=zA hB.size
 have HB:=zA hB
 clear hB
 have H:=h
 unfold spec_l02Draw.f at H
 clear h
 have HC3:=zA H
 clear H
 go_enter Tryd.func55,Tryd.ntmps55
 go_upto_region 1 with (first | (refine zBE 4 #[.int .i64 0,.slice none 0 0] 28 ?_;intro gb463 hg w4 hbox hb;replace HB:=zA (kQ (zT HB.out (Z82.ge HI0.out)) hb);have BK463:=zA (hbox);have GW463:=zA (zB6 hg (kX (w:=w) (g:=g) (row:=none) (yA HK.out)):w.heap.size ≤ gb463);have GE463:=zA ((Nat.le_trans HW0.out (by rw [hg];exact (kX (w:=w) (g:=g) (row:=none) (yA HK.out)):w.heap.size ≤ gb463):w0.heap.size ≤ gb463));replace HK:=zA (kT (yA HK.out) (kU hb g none) (.inl rfl));have NB0_463:=zA (zB7 hg (Z82.lt (show Z82 w0 _ g s0_0 s0_1 s0_2 from Z82.uA HI0.out)):g ≠ gb463);have NB463_0:=zA (zB8 hg (Z82.lt (show Z82 w0 _ g s0_0 s0_1 s0_2 from Z82.uA HI0.out)):gb463 ≠ g);replace HI0:=zA (Z82.below (Z82.uA HI0.out) hb);clear hb hbox hg))
 (try simp only [Act.put,zL,zM,zN])
 go_cut [16] (fun v16 wc=>∃ (kq:Nat) (x16_2:Bool) (x1001_2:Int) (x1002_2:Int),v16 = .bool x16_2 ∧ Aside0 (spec_l02Draw.j0 kq a1 x16_2 s0_0 x1001_2 x1002_2 = some (r1,r2,r3,r4)) ∧ Aside0 (kq ≤ k) ∧ Aside0 (wc.heap[gb463]? = some (.cells #[.int .i64 0,(.slice none 0 0)] 28 (0,0))) ∧ Aside0 (Z82 w0 wc g s0_0 x1001_2 x1002_2) ∧ Aside0 (KeepBut w wc g none) ∧ Aside0 (Below w0.heap.size w0 wc))
 case first =>
  have H:=HC3.out
  clear HC3
  by_cases c5:a1 ≥ 4
  ·rw [if_pos c5] at H
   have c5b0:decide (4 ≤ a1) = true:=decide_eq_true c5
   clear c5
   (first | rw [c5b0] | (simp only [i64_w,i32_w];rw [c5b0]) | skip)
   obtain ⟨⟨t464,t465,t466⟩,A6,H⟩:=zb H
   try dsimp only at H
   have H' := zA H
   clear H
   go_wp2_with (first | (go_at_call 56;(with_reducible refine (spec_l01Next.calls g s0_0 s0_1 s0_2 6 t464 t465 t466 w0 _ ?side1 ?side2 A6.out).mono ?_);(case side1=>exact Z82.uB HI0.out NB0_463.out);(case side2=>exact zV HB.out (Z82.ge HI0.out) GE463.out);rintro e w7 ⟨rfl,hi,hb,hk⟩;replace BK463:=zA (zB2 hk BK463.out NB463_0.out);replace HK:=zA (kT (yB HK.out GW463.out) hk (.inl rfl));replace HB:=zA (hb);replace HI0:=zA (hi);(try clear hb);(try clear hk);(try clear hi)))
   go_meet
   case rel=>exact ⟨_,((t464 == 0)),(t465),(t466),zs,H', ⟨by first | omega | exact Nat.le_refl _⟩,⟨zR BK463.out⟩,⟨Z82.uB HI0.out NB0_463.out⟩,⟨yB HK.out GW463.out⟩,⟨zV HB.out (Z82.ge HI0.out) GE463.out⟩⟩
  rw [if_neg c5] at H
  have c5b0:decide (4 ≤ a1) = false:=decide_eq_false c5
  clear c5
  (first | rw [c5b0] | (simp only [i64_w,i32_w];rw [c5b0]) | skip)
  have H' := zA H
  clear H
  go_wp2
  go_meet
  case rel=>exact ⟨_,(false),(s0_1),(s0_2),zs,H', ⟨by first | omega | exact Nat.le_refl _⟩,⟨zR BK463.out⟩,⟨Z82.uB HI0.out NB0_463.out⟩,⟨yB HK.out GW463.out⟩,⟨zV HB.out (Z82.ge HI0.out) GE463.out⟩⟩
 case rest =>
  clear HC3
  try clear c5
  obtain ⟨kq,x16_2,x1001_2,x1002_2,rfl,HA,HJ2,BK463,HI0,HK,HB⟩:=hcut
  cases kq with
  | zero=>exact absurd HA.out (by simp [spec_l02Draw.j0])
  | succ kj2 =>
   have H:=HA.out
   clear HA
   simp only [spec_l02Draw.j0] at H
   by_cases c8:x16_2 = true
   ·subst c8
    rw [if_pos rfl] at H
    obtain ⟨y467,hy467⟩:∃ y_:List Int,y_ = (([11,7,14,13]:List Int)):=⟨_,rfl⟩
    replace H:(some (4,y467,x1001_2,x1002_2)) = some (r1,r2,r3,r4):=zy hy467 H
    have Ny467:=zA hy467
    clear hy467
    simp only [Option.some.injEq,Prod.mk.injEq] at H
    obtain ⟨rfl,rfl,rfl,rfl⟩:=H
    go_wp2_with (first | ((with_reducible refine kS (N:=17) rfl ?_);refine Kd.R_lit (Kd.int .i64) _ 2 ?hg (N:=17) ?hd (xs:=([11,7,14,13]:List Int)) (inner:=[.int .i64 11,.int .i64 7,.int .i64 14,.int .i64 13]) (ok:=fun _=>True) (okp:=fun _=>True) ?hr ?hp (fun _ hk=>hk) trivial (kW _ _) (Nat.le_refl _) (by simp) ?_;(case hd=>rfl);(case hg=>rfl);(case hr=>first | (go_simp;done) | (go_simp;rfl));(case hp=>exact (Reps.one (show Kd.M (Kd.int .i64) _ _ _ 11 [.int .i64 11] from rfl) (Reps.one (show Kd.M (Kd.int .i64) _ _ _ 7 [.int .i64 7] from rfl) (Reps.one (show Kd.M (Kd.int .i64) _ _ _ 14 [.int .i64 14] from rfl) (Reps.one (show Kd.M (Kd.int .i64) _ _ _ 13 [.int .i64 13] from rfl) (Reps.none _ _))))));intro v468 w9 ho10 hb hg_ hnew_;clear hg_ hnew_;(first | rw [← Ny467.out] at ho10 | (simp only [Int.reduceToNat] at ho10;rw [← Ny467.out] at ho10));have HO469:=zA (kI ho10 (kX (w:=w) (g:=g) (row:=none) (yB HK.out GW463.out)));replace BK463:=zA (zB1 BK463.out hb);replace HK:=zA (kT (yB HK.out GW463.out) (kU hb g none) (.inl rfl));replace HB:=zA (kQ (zV HB.out (Z82.ge HI0.out) GE463.out) hb);replace HI0:=zA (Z82.below (Z82.uB HI0.out NB0_463.out) hb);clear hb ho10;obtain ⟨Ao11,co11,eo11⟩:=kM HO469.out;subst eo11;have hnb12:=NB463_0.out;have hnc12:=NB0_463.out;obtain ⟨hcz13_0,hcz13_1,hfz13_0,hfz13_1⟩:=zB3 BK463.out))
    refine bodyPost_ret (results_cell_row rfl _ _ gb463 28 #[.int .i64 4,.slice Ao11 y467.length co11] (0,0) _ rfl (zRP BK463.out) Tryd.underlying28 rfl (by kernel_rfl)) rfl ?_
    exact ⟨_,zr,by (with_reducible repeat (first | apply zF | apply zG | apply zH));exact kA (kY (p:=⟨gb463,1,none⟩) (kY (p:=⟨gb463,0,none⟩) (kD HO469.out BK463.out (by decide)) (fun _ hk=>hk.2) (.int .i64 4)) (fun _ hk=>hk.2) (.slice Ao11 y467.length co11)) (fun _ hk=>trivial),by repeat (first | (with_reducible first | exact HI0.out | apply Z82.alloc | apply Z82.drewN | apply Z82.drew | apply Z82.set_1 | apply Z82.set_2 | refine Z82.far ?_ NB0_463.out _) | exact HI0.out),zV HB.out (Z82.ge HI0.out) GE463.out,by repeat (first | (with_reducible first | exact HK.out | apply KeepBut.set_ | apply keep_drewN | apply keep_drew | apply keep_alloc | refine keep_far ?_ GW463.out _) | exact HK.out)⟩
   replace c8:=Bool.eq_false_iff.mpr c8
   subst c8
   rw [if_neg (show ¬ (false = true) by decide)] at H
   obtain ⟨⟨t470,t471,t472⟩,A14,H⟩:=zb H
   try dsimp only at H
   have HC15:=zA H
   clear H
   go_upto_if 24 with (first | (refine zO (some 22) Tryd.func56 #[.pointer (some ⟨g,0,none⟩),.int .i64 (wrap64 (a1 + 1))] ?_;(with_reducible refine (spec_l01Next.calls g s0_0 x1001_2 x1002_2 (wrap64 (a1 + 1)) t470 t471 t472 w0 _ ?side1 ?side2 A14.out).mono ?_);(case side1=>exact Z82.uB HI0.out NB0_463.out);(case side2=>exact zV HB.out (Z82.ge HI0.out) GE463.out);rintro e w16 ⟨rfl,hi,hb,hk⟩;refine ⟨_,rfl,?_⟩;replace BK463:=zA (zB2 hk BK463.out NB463_0.out);replace HK:=zA (kT (yB HK.out GW463.out) hk (.inl rfl));replace HB:=zA (hb);replace HI0:=zA (hi);(try clear hb);(try clear hk);(try clear hi)))
   (try simp only [Act.put,zL,zM,zN])
   go_cut [5] (fun v5 wc=>∃ (kq:Nat) (x5_14:Int) (x1001_14:Int) (x1002_14:Int),v5 = .int .i64 x5_14 ∧ Aside0 (spec_l02Draw.j1 kq x5_14 s0_0 x1001_14 x1002_14 = some (r1,r2,r3,r4)) ∧ Aside0 (kq ≤ kj2) ∧ Aside0 (wc.heap[gb463]? = some (.cells #[.int .i64 0,(.slice none 0 0)] 28 (0,0))) ∧ Aside0 (Z82 w0 wc g s0_0 x1001_14 x1002_14) ∧ Aside0 (KeepBut w wc g none) ∧ Aside0 (Below w0.heap.size w0 wc))
   case first =>
    have H:=HC15.out
    clear HC15
    by_cases c17:t470 < 2
    ·rw [if_pos c17] at H
     have c17b0:decide (t470 < 2) = true:=decide_eq_true c17
     clear c17
     (first | rw [c17b0] | (simp only [i64_w,i32_w];rw [c17b0]) | skip)
     obtain ⟨⟨t473,t474,t475⟩,A18,H⟩:=zb H
     try dsimp only at H
     have H' := zA H
     clear H
     go_wp2_with (first | (refine zO (some 28) Tryd.func56 #[.pointer (some ⟨g,0,none⟩),.int .i64 (wrap64 (a1 + 1))] ?_;(with_reducible refine (spec_l01Next.calls g s0_0 t471 t472 (wrap64 (a1 + 1)) t473 t474 t475 w0 _ ?side1 ?side2 A18.out).mono ?_);(case side1=>exact Z82.uB HI0.out NB0_463.out);(case side2=>exact zV HB.out (Z82.ge HI0.out) GE463.out);rintro e w19 ⟨rfl,hi,hb,hk⟩;refine ⟨_,rfl,?_⟩;replace BK463:=zA (zB2 hk BK463.out NB463_0.out);replace HK:=zA (kT (yB HK.out GW463.out) hk (.inl rfl));replace HB:=zA (hb);replace HI0:=zA (hi);(try clear hb);(try clear hk);(try clear hi)))
     go_meet
     case rel=>exact ⟨_,(t473),(t474),(t475),zs,H', ⟨by have:=HJ2.out;first | omega | exact Nat.le_refl _⟩,⟨zR BK463.out⟩,⟨Z82.uB HI0.out NB0_463.out⟩,⟨yB HK.out GW463.out⟩,⟨zV HB.out (Z82.ge HI0.out) GE463.out⟩⟩
    rw [if_neg c17] at H
    have c17b0:decide (t470 < 2) = false:=decide_eq_false c17
    clear c17
    (first | rw [c17b0] | (simp only [i64_w,i32_w];rw [c17b0]) | skip)
    have H' := zA H
    clear H
    go_wp2
    go_meet
    case rel=>exact ⟨_,(t470),(t471),(t472),zs,H', ⟨by have:=HJ2.out;first | omega | exact Nat.le_refl _⟩,⟨zR BK463.out⟩,⟨Z82.uB HI0.out NB0_463.out⟩,⟨yB HK.out GW463.out⟩,⟨zV HB.out (Z82.ge HI0.out) GE463.out⟩⟩
   case rest =>
    clear HC15
    try clear c1
    try clear c5
    try clear c8
    try clear c12
    try clear c17
    try clear hcz13_0
    try clear hcz13_1
    try clear hfz13_0
    try clear hfz13_1
    obtain ⟨kq,x5_14,x1001_14,x1002_14,rfl,HA,HJ14,BK463,HI0,HK,HB⟩:=hcut
    cases kq with
    | zero=>exact absurd HA.out (by simp [spec_l02Draw.j1])
    | succ kj14 =>
     have H:=HA.out
     clear HA
     simp only [spec_l02Draw.j1] at H
     obtain ⟨⟨t476,t477⟩,A20,H⟩:=zb H
     try dsimp only at H
     obtain ⟨y480,hy480⟩:∃ y_:List Int,y_ = (([2,2,3,4]:List Int)):=⟨_,rfl⟩
     replace H:((spec_l01Pick.f s0_0 x1001_14 x1002_14 y480).bind fun bt483=>(spec_l02Draw.l0 kj14 x5_14 bt483.1 0 s0_0 bt483.2.1 bt483.2.2 t476 t477)) = some (r1,r2,r3,r4):=zy hy480 H
     have Ny480:=zA hy480
     clear hy480
     obtain ⟨⟨t483,t484,t485⟩,A21,H⟩:=zb H
     try dsimp only at H
     have H' := zA H
     clear H
     go_wp2_with (first | (refine zO (some 30) Tryd.func73 #[.int .i64 x5_14] ?_;(with_reducible refine (spec_l02Free.calls kj14 x5_14 t476 t477 _ A20.out).mono ?_);rintro e w22 ⟨v478,rfl,ho0,hb⟩;refine ⟨_,rfl,?_⟩;have HO479:=zA (kI ho0 (kX (w:=w) (g:=g) (row:=none) (yB HK.out GW463.out)));replace BK463:=zA (zB1 BK463.out hb);replace HK:=zA (kT (yB HK.out GW463.out) (kU hb g none) (.inl rfl));replace HB:=zA (kQ (zV HB.out (Z82.ge HI0.out) GE463.out) hb);replace HI0:=zA (Z82.below (Z82.uB HI0.out NB0_463.out) hb);(try clear hb);(try clear ho0)) | ((with_reducible refine kS (N:=32) rfl ?_);refine Kd.R_lit (Kd.int .i64) _ 2 ?hg (N:=32) ?hd (xs:=([2,2,3,4]:List Int)) (inner:=[.int .i64 2,.int .i64 2,.int .i64 3,.int .i64 4]) (ok:=fun _=>True) (okp:=fun _=>True) ?hr ?hp (fun _ hk=>hk) trivial (kW _ _) (Nat.le_refl _) (by simp) ?_;(case hd=>rfl);(case hg=>rfl);(case hr=>first | (go_simp;done) | (go_simp;rfl));(case hp=>exact (Reps.one (show Kd.M (Kd.int .i64) _ _ _ 2 [.int .i64 2] from rfl) (Reps.one (show Kd.M (Kd.int .i64) _ _ _ 2 [.int .i64 2] from rfl) (Reps.one (show Kd.M (Kd.int .i64) _ _ _ 3 [.int .i64 3] from rfl) (Reps.one (show Kd.M (Kd.int .i64) _ _ _ 4 [.int .i64 4] from rfl) (Reps.none _ _))))));intro v481 w23 ho24 hb hg_ hnew_;clear hg_ hnew_;(first | rw [← Ny480.out] at ho24 | (simp only [Int.reduceToNat] at ho24;rw [← Ny480.out] at ho24));have HO482:=zA (kI (kF ho24 (kH (zP HO479.out))) (kX (w:=w) (g:=g) (row:=none) (yB HK.out GW463.out)));replace HO479:=zA (kE (zP HO479.out) (kC ho24) hb);replace BK463:=zA (zB1 BK463.out hb);replace HK:=zA (kT (yB HK.out GW463.out) (kU hb g none) (.inl rfl));replace HB:=zA (kQ (zV HB.out (Z82.ge HI0.out) GE463.out) hb);replace HI0:=zA (Z82.below (Z82.uB HI0.out NB0_463.out) hb);clear hb ho24;obtain ⟨Ao25,co25,eo25⟩:=kM HO482.out;subst eo25) | (refine zO (some 33) Tryd.func74 #[.pointer (some ⟨g,0,none⟩),.slice Ao25 y480.length co25] ?_;(with_reducible refine (spec_l01Pick.calls g s0_0 x1001_14 x1002_14 _ _ y480 t483 t484 t485 w0 _ ?side1 ?side2 ?side3 ?side4 ?side5 A21.out).mono ?_);(case side1=>exact Z82.uB HI0.out NB0_463.out);(case side2=>exact zV HB.out (Z82.ge HI0.out) GE463.out);(case side3=>exact zS (kB HO482.out).2.2);(case side4=>exact (kB HO482.out).2.1);(case side5=>exact jJ (Z82.own_ne HI0.out HO482.out (by decide)));rintro e w26 ⟨rfl,hi,hb,hk⟩;refine ⟨_,rfl,?_⟩;replace BK463:=zA (zB2 hk BK463.out NB463_0.out);replace HO479:=zA (zB9 (Z82.apart (show Z82 w0 _ g s0_0 x1001_14 x1002_14 from Z82.uB HI0.out NB0_463.out) (zP HO479.out) (by decide)) hk);replace HO482:=zA (zB9 (Z82.apart (show Z82 w0 _ g s0_0 x1001_14 x1002_14 from Z82.uB HI0.out NB0_463.out) (zP HO482.out) (by decide)) hk);replace HK:=zA (kT (yB HK.out GW463.out) hk (.inl rfl));replace HB:=zA (hb);replace HI0:=zA (hi);(try clear hb);(try clear hk);(try clear hi)) | (refine zBE 6 #[.int .i64 0,.slice none 0 0] 28 ?_;intro gb486 hg w27 hbox hb;replace HO479:=zA (kL (zP HO479.out) hb);replace HO482:=zA (kL (zP HO482.out) hb);replace HB:=zA (kQ (zV HB.out (Z82.ge HI0.out) GE463.out) hb);have BK486:=zA (hbox);have GW486:=zA (zB6 hg (kX (w:=w) (g:=g) (row:=none) (yB HK.out GW463.out)):w.heap.size ≤ gb486);have GE486:=zA ((Nat.le_trans HW0.out (by rw [hg];exact (kX (w:=w) (g:=g) (row:=none) (yB HK.out GW463.out)):w.heap.size ≤ gb486):w0.heap.size ≤ gb486));replace HK:=zA (kT (yB HK.out GW463.out) (kU hb g none) (.inl rfl));have NB463_486:=zA (zB4 hg BK463.out:gb463 ≠ gb486);have NB486_463:=zA (zB5 hg BK463.out:gb486 ≠ gb463);replace BK463:=zA (zB1 BK463.out hb);have NB0_486:=zA (zB7 hg (Z82.lt (show Z82 w0 _ g s0_0 t484 t485 from Z82.uB HI0.out NB0_463.out)):g ≠ gb486);have NB486_0:=zA (zB8 hg (Z82.lt (show Z82 w0 _ g s0_0 t484 t485 from Z82.uB HI0.out NB0_463.out)):gb486 ≠ g);replace HI0:=zA (Z82.below (Z82.uB HI0.out NB0_463.out) hb);clear hb hbox hg;have hnb28:=NB486_463.out;have hnc28:=NB463_486.out;have hnb29:=NB486_0.out;have hnc29:=NB0_486.out;obtain ⟨hcz30_0,hcz30_1,hfz30_0,hfz30_1⟩:=zB3 BK486.out;obtain ⟨Ao31,co31,eo31⟩:=kM HO479.out;subst eo31))
     go_loopg [8] kj14 (fun kq v8 w' => ∃ (x8_3:Int) (x1001_3:Int) (x1002_3:Int) (x487001_3:List Int) (u487001:Value),v8 = .int .i64 x8_3 ∧ Aside0 (spec_l02Draw.l0 kq x5_14 t483 x8_3 s0_0 x1001_3 x1002_3 t476 x487001_3 = some (r1,r2,r3,r4)) ∧ Aside0 (kq ≤ kj14) ∧ Aside0 (Kd.R (Kd.int .i64) 2 w' w.heap.size (fun _=>True) u487001 x487001_3) ∧ Aside0 (w'.heap[gb463]? = some (.cells #[.int .i64 0,(.slice none 0 0)] 28 (0,0))) ∧ Aside0 (w'.heap[gb486]? = some (.cells #[.int .i64 t476,u487001] 28 (0,0))) ∧ Aside0 (Z82 w0 w' g s0_0 x1001_3 x1002_3) ∧ Aside0 (KeepBut w w' g none) ∧ Aside0 (Below w0.heap.size w0 w'))
     case atStart=>exact ⟨(0),(t484),(t485),(t477),(.slice Ao31 t477.length co31),zs,H', ⟨Nat.le_refl _⟩,⟨by (with_reducible repeat (first | apply zF | apply zG | apply zH));exact kA (kY (p:=⟨gb486,1,none⟩) (kY (p:=⟨gb486,0,none⟩) (kD HO479.out BK486.out (by decide)) (fun _ hk=>hk.2) (.int .i64 t476)) (fun _ hk=>hk.2) (.slice Ao31 t477.length co31)) (fun _ hk=>trivial)⟩,⟨by (with_reducible repeat (first | refine zJ ?_ _ | refine zK ?_ | refine zI ?_ _));refine blk_far ?_ NB463_486.out _;(with_reducible repeat (first | refine zJ ?_ _ | refine zK ?_ | refine zI ?_ _));refine blk_far ?_ NB463_486.out _;(with_reducible repeat (first | refine zJ ?_ _ | refine zK ?_ | refine zI ?_ _));exact BK463.out⟩,⟨by (with_reducible repeat (first | refine zJ ?_ _ | refine zK ?_ | refine zI ?_ _));refine blk_put (cs:=#[.int .i64 t476,.slice none 0 0]) ?_ 1 _ rfl;(with_reducible repeat (first | refine zJ ?_ _ | refine zK ?_ | refine zI ?_ _));refine blk_put (cs:=#[.int .i64 0,.slice none 0 0]) ?_ 0 _ rfl;(with_reducible repeat (first | refine zJ ?_ _ | refine zK ?_ | refine zI ?_ _));exact BK486.out⟩,⟨Z82.uC HI0.out NB0_463.out NB0_486.out⟩,⟨yC HK.out GW463.out GW486.out⟩,⟨zW HB.out (Z82.ge HI0.out) GE463.out GE486.out⟩⟩
     case round =>
      clear H'
      try clear c1
      try clear c2
      try clear c5
      try clear c7
      try clear c8
      try clear c12
      try clear c17
      try clear c28
      try clear c29
      try clear hcz13_0
      try clear hcz13_1
      try clear hcz30_0
      try clear hcz30_1
      try clear hfz13_0
      try clear hfz13_1
      try clear hfz30_0
      try clear hfz30_1
      obtain ⟨x8_3,x1001_3,x1002_3,x487001_3,u487001,rfl,HA,HK3,HO_487001,BK463,BK486,HI0,HK,HB⟩:=hrel
      cases gk with
      | zero=>exact absurd HA.out (by simp [spec_l02Draw.l0])
      | succ k3 =>
       have H:=HA.out
       clear HA
       simp only [spec_l02Draw.l0] at H
       by_cases c32:x8_3 < x5_14
       ·rw [if_pos c32] at H
        have c32b0:decide (x8_3 < x5_14) = true:=decide_eq_true c32
        clear c32
        have H' := zA H
        clear H
        go_wp2
        go_loopg [9] k3 (fun kq v9 w' => ∃ (x9_4:Int) (x1001_4:Int) (x1002_4:Int) (x487001_4:List Int) (u487001:Value),v9 = .int .i64 x9_4 ∧ Aside0 (spec_l02Draw.l1 kq x5_14 t483 x8_3 x9_4 s0_0 x1001_4 x1002_4 t476 x487001_4 = some (r1,r2,r3,r4)) ∧ Aside0 (kq ≤ k3) ∧ Aside0 (Kd.R (Kd.int .i64) 2 w' w.heap.size (fun _=>True) u487001 x487001_4) ∧ Aside0 (w'.heap[gb463]? = some (.cells #[.int .i64 0,(.slice none 0 0)] 28 (0,0))) ∧ Aside0 (w'.heap[gb486]? = some (.cells #[.int .i64 t476,u487001] 28 (0,0))) ∧ Aside0 (Z82 w0 w' g s0_0 x1001_4 x1002_4) ∧ Aside0 (KeepBut w w' g none) ∧ Aside0 (Below w0.heap.size w0 w'))
        case atStart=>exact ⟨(0),(x1001_3),(x1002_3),(x487001_3),(u487001),zs,H', ⟨Nat.le_refl _⟩,⟨zP HO_487001.out⟩,⟨zR BK463.out⟩,⟨zR BK486.out⟩,⟨Z82.uC HI0.out NB0_463.out NB0_486.out⟩,⟨yC HK.out GW463.out GW486.out⟩,⟨zW HB.out (Z82.ge HI0.out) GE463.out GE486.out⟩⟩
        case round =>
         clear H'
         try clear c1
         try clear c2
         try clear c3
         try clear c5
         try clear c7
         try clear c8
         try clear c12
         try clear c17
         try clear c28
         try clear c29
         try clear c32
         try clear hcz13_0
         try clear hcz13_1
         try clear hcz30_0
         try clear hcz30_1
         try clear hfz13_0
         try clear hfz13_1
         try clear hfz30_0
         try clear hfz30_1
         obtain ⟨x9_4,x1001_4,x1002_4,x487001_4,u487001,rfl,HA,HK4,HO_487001,BK463,BK486,HI0,HK,HB⟩:=hrel
         cases gk with
         | zero=>exact absurd HA.out (by simp [spec_l02Draw.l1])
         | succ k4 =>
          have H:=HA.out
          clear HA
          simp only [spec_l02Draw.l1] at H
          by_cases c33:x9_4 < x8_3
          ·rw [if_pos c33] at H
           have c33b0:decide (x9_4 < x8_3) = true:=decide_eq_true c33
           clear c33
           obtain ⟨⟨t487,t488,t489⟩,A34,H⟩:=zb H
           try dsimp only at H
           by_cases c35:t487 = 0
           ·rw [if_pos c35] at H
            obtain ⟨c35b0,c35b1⟩:=zT1 c35
            clear c35
            obtain ⟨t490,A36,H⟩:=zb H
            try dsimp only at H
            have H' := zA H
            clear H
            go_wp2_with (first | (refine zO (some 46) Tryd.func56 #[.pointer (some ⟨g,0,none⟩),.int .i64 t483] ?_;(with_reducible refine (spec_l01Next.calls g s0_0 x1001_4 x1002_4 t483 t487 t488 t489 w0 _ ?side1 ?side2 A34.out).mono ?_);(case side1=>exact Z82.uC HI0.out NB0_463.out NB0_486.out);(case side2=>exact zW HB.out (Z82.ge HI0.out) GE463.out GE486.out);rintro e w37 ⟨rfl,hi,hb,hk⟩;refine ⟨_,rfl,?_⟩;replace HO_487001:=zA (zB9 (Z82.apart (show Z82 w0 _ g s0_0 x1001_4 x1002_4 from Z82.uC HI0.out NB0_463.out NB0_486.out) (zP HO_487001.out) (by decide)) hk);replace BK463:=zA (zB2 hk BK463.out NB463_0.out);replace BK486:=zA (zB2 hk BK486.out NB486_0.out);replace HK:=zA (kT (yC HK.out GW463.out GW486.out) hk (.inl rfl));replace HB:=zA (hb);replace HI0:=zA (hi);(try clear hb);(try clear hk);(try clear hi);have hnb38:=NB486_463.out;have hnc38:=NB463_486.out;have hnb39:=NB486_0.out;have hnc39:=NB0_486.out;obtain ⟨hcz40_0,hcz40_1,hfz40_0,hfz40_1⟩:=zB3 BK486.out;obtain ⟨Ao41,co41,eo41⟩:=kM HO_487001.out;subst eo41) | (refine zO (some 51) Tryd.func75 #[.agg #[.int .i64 t476,.slice Ao41 x487001_4.length co41],.int .i64 x8_3,.int .i64 x9_4] ?_;(with_reducible refine (spec_l02Join.calls t476 (fun k_=>some k_ = (.slice Ao41 x487001_4.length co41:Value).ownBlock) (.slice Ao41 x487001_4.length co41) x487001_4 x8_3 x9_4 t490 w0 _ ?side1 ?side2 A36.out).mono ?_);(case side1=>exact zW HB.out (Z82.ge HI0.out) GE463.out GE486.out);(case side2=>exact kI (jK rfl HO_487001.out) HL.out);rintro e w42 ⟨rfl,hy0,hb,hkp⟩;refine ⟨_,rfl,?_⟩;have n0_:=zA (Kd.R_reok rfl (Kd.R_raise (d:=(Kd.int .i64)) (b:=w0.heap.size) (b' := w.heap.size) (fun _ _ _ _ h_=>h_) hy0 (fun k_ e_=>Or.elim (hy0.1 k_ e_) (fun hs_=>(fun e_=>kC HO_487001.out k_ e_.symm) hs_) (fun hn_=>Nat.le_trans (kX (w:=w) (g:=g) (row:=none) (yC HK.out GW463.out GW486.out)) hn_))) (fun k_ e_=>HO_487001.out.1 k_ e_));have n1_:=zA (blk_kept (zR BK463.out) hkp (fun hs_=>(fun e_=>(Kd.R_ne HO_487001.out BK463.out (by decide)) e_) hs_));have n2_:=zA (blk_kept (zR BK486.out) hkp (fun hs_=>(fun e_=>(Kd.R_ne HO_487001.out BK486.out (by decide)) e_) hs_));have n3_:=zA (Z82.kept (Z82.uC HI0.out NB0_463.out NB0_486.out) hkp (fun hs_=>(fun e_=>(Z82.own_ne HI0.out HO_487001.out (by decide)) e_) hs_));have n4_:=zA (Kept.keepG (yC HK.out GW463.out GW486.out) hkp (fun k_ hs_=>(fun e_=>.inr (kC HO_487001.out k_ e_.symm)) hs_));have n5_:=zA (hb);clear HO_487001;clear BK463;clear BK486;clear HI0;clear HK;clear HB;have HO_487001:=n0_;have BK463:=n1_;have BK486:=n2_;have HI0:=n3_;have HK:=n4_;have HB:=n5_;clear n0_ n1_ n2_ n3_ n4_ n5_;(try clear hb);(try clear hkp);(try clear hy0)))
            go_roundg k4
            case measure=>have:=HJ2.out;have:=HJ14.out;have:=HK3.out;have:=HK4.out;omega
            case rel=>exact ⟨(wrap64 (x9_4 + 1)),(t488),(t489),(t490),(.slice Ao41 x487001_4.length co41),zs,H', ⟨by have:=HJ2.out;have:=HJ14.out;have:=HK3.out;have:=HK4.out;omega⟩,⟨zP HO_487001.out⟩,⟨zR BK463.out⟩,⟨zR BK486.out⟩,⟨Z82.uC HI0.out NB0_463.out NB0_486.out⟩,⟨yC HK.out GW463.out GW486.out⟩,⟨zW HB.out (Z82.ge HI0.out) GE463.out GE486.out⟩⟩
           rw [if_neg c35] at H
           obtain ⟨c35b0,c35b1⟩:=zT2 c35
           have H' := zA H
           clear H
           go_wp2_with (first | (refine zO (some 46) Tryd.func56 #[.pointer (some ⟨g,0,none⟩),.int .i64 t483] ?_;(with_reducible refine (spec_l01Next.calls g s0_0 x1001_4 x1002_4 t483 t487 t488 t489 w0 _ ?side1 ?side2 A34.out).mono ?_);(case side1=>exact Z82.uC HI0.out NB0_463.out NB0_486.out);(case side2=>exact zW HB.out (Z82.ge HI0.out) GE463.out GE486.out);rintro e w43 ⟨rfl,hi,hb,hk⟩;refine ⟨_,rfl,?_⟩;replace HO_487001:=zA (zB9 (Z82.apart (show Z82 w0 _ g s0_0 x1001_4 x1002_4 from Z82.uC HI0.out NB0_463.out NB0_486.out) (zP HO_487001.out) (by decide)) hk);replace BK463:=zA (zB2 hk BK463.out NB463_0.out);replace BK486:=zA (zB2 hk BK486.out NB486_0.out);replace HK:=zA (kT (yC HK.out GW463.out GW486.out) hk (.inl rfl));replace HB:=zA (hb);replace HI0:=zA (hi);(try clear hb);(try clear hk);(try clear hi)))
           go_roundg k4
           case measure=>have:=HJ2.out;have:=HJ14.out;have:=HK3.out;have:=HK4.out;omega
           case rel=>exact ⟨(wrap64 (x9_4 + 1)),(t488),(t489),(x487001_4),(u487001),zs,H', ⟨by have:=HJ2.out;have:=HJ14.out;have:=HK3.out;have:=HK4.out;omega⟩,⟨zP HO_487001.out⟩,⟨zR BK463.out⟩,⟨zR BK486.out⟩,⟨Z82.uC HI0.out NB0_463.out NB0_486.out⟩,⟨yC HK.out GW463.out GW486.out⟩,⟨zW HB.out (Z82.ge HI0.out) GE463.out GE486.out⟩⟩
          rw [if_neg c33] at H
          have c33b0:decide (x9_4 < x8_3) = false:=decide_eq_false c33
          clear c33
          have H' := zA H
          clear H
          go_wp2
          go_roundg k4
          case measure=>have:=HJ2.out;have:=HJ14.out;have:=HK3.out;have:=HK4.out;omega
          case rel=>exact ⟨(wrap64 (x8_3 + 1)),(x1001_4),(x1002_4),(x487001_4),(u487001),zs,H', ⟨by have:=HJ2.out;have:=HJ14.out;have:=HK3.out;have:=HK4.out;omega⟩,⟨zP HO_487001.out⟩,⟨zR BK463.out⟩,⟨zR BK486.out⟩,⟨Z82.uC HI0.out NB0_463.out NB0_486.out⟩,⟨yC HK.out GW463.out GW486.out⟩,⟨zW HB.out (Z82.ge HI0.out) GE463.out GE486.out⟩⟩
       rw [if_neg c32] at H
       have c32b0:decide (x8_3 < x5_14) = false:=decide_eq_false c32
       clear c32
       simp only [Option.some.injEq,Prod.mk.injEq] at H
       obtain ⟨rfl,rfl,rfl,rfl⟩:=H
       have hnb44:=NB486_463.out
       have hnc44:=NB463_486.out
       have hnb45:=NB486_0.out
       have hnc45:=NB0_486.out
       obtain ⟨hcz46_0,hcz46_1,hfz46_0,hfz46_1⟩:=zB3 BK486.out
       have hnb47:=NB463_0.out
       have hnc47:=NB0_463.out
       obtain ⟨hcz48_0,hcz48_1,hfz48_0,hfz48_1⟩:=zB3 BK463.out
       obtain ⟨Ao49,co49,eo49⟩:=kM HO_487001.out
       subst eo49
       go_wp2
       refine bodyPost_ret (results_cell_row rfl _ _ gb463 28 #[.int .i64 t476,.slice Ao49 x487001_3.length co49] (0,0) _ rfl (zRP BK463.out) Tryd.underlying28 rfl (by kernel_rfl)) rfl ?_
       exact ⟨_,zr,by (with_reducible repeat (first | apply zF | apply zG | apply zH));exact kA (kY (p:=⟨gb463,1,none⟩) (kY (p:=⟨gb463,0,none⟩) (kD HO_487001.out BK463.out (by decide)) (fun _ hk=>hk.2) (.int .i64 t476)) (fun _ hk=>hk.2) (.slice Ao49 x487001_3.length co49)) (fun _ hk=>trivial),by repeat (first | (with_reducible first | exact HI0.out | apply Z82.alloc | apply Z82.drewN | apply Z82.drew | apply Z82.set_1 | apply Z82.set_2 | refine Z82.far ?_ NB0_463.out _ | refine Z82.far ?_ NB0_486.out _) | exact HI0.out),zW HB.out (Z82.ge HI0.out) GE463.out GE486.out,by repeat (first | (with_reducible first | exact HK.out | apply KeepBut.set_ | apply keep_drewN | apply keep_drew | apply keep_alloc | refine keep_far ?_ GW463.out _ | refine keep_far ?_ GW486.out _) | exact HK.out)⟩
end Go.Proofs.YtpenijicdldipaaDoor.PAll
