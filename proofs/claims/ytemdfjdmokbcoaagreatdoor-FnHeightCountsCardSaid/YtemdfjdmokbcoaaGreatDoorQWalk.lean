import Derived.Test.YtemdfjdmokbcoaaGreatDoorProg
import Derived.Test.YtemdfjdmokbcoaaGreatDoorMoreLex0
set_option linter.unusedVariables false
set_option linter.unusedSimpArgs false
namespace Go.Proofs.YtemdfjdmokbcoaaGreatDoor.T
open Go.RowKit Go.Proofs.YtemdfjdmokbcoaaGreatDoorW.PrintWords
theorem zA {p:Prop} (h:p):Aside0 p:=⟨h⟩
theorem zB {w W:World} (h:Below w.heap.size w W) (o:Obj):Below w.heap.size w (W.alloc o):=below_alloc h o
theorem zC {B:Nat} {w W:World} (h:Below B w W) (n:Nat):Below B w (W.drewN n):=pw_below_drewN h n
theorem zD {base:Nat} {w W:World} (h:Below base w W):Below base w W.drew:=below_drew1 h
theorem zE {w W:World} {g j:Nat} {v:Value} (h:Below w.heap.size w W) (hg:w.heap.size ≤ g):Below w.heap.size w (W.setCell ⟨g,j,none⟩ v):=below_set h hg
theorem zF {α:Type} {d:Kd α} {e:Nat} {w:World} {base:Nat} {ok:Nat → Prop} {v:Value} {xs:List α} (h:d.R e w base ok v xs) (o:Obj):d.R e (w.alloc o) base ok v xs:=Kd.R_alloc h o
theorem zG {α:Type} {d:Kd α} {e:Nat} {w:World} {base:Nat} {ok:Nat → Prop} {v:Value} {xs:List α} (h:d.R e w base ok v xs) (m:Nat):d.R e (w.drewN m) base ok v xs:=Kd.R_drewN h m
theorem zH {α:Type} {d:Kd α} {e:Nat} {w:World} {base:Nat} {ok:Nat → Prop} {v:Value} {xs:List α} (h:d.R e w base ok v xs):d.R e w.drew base ok v xs:=Kd.R_drew h
theorem zI {w:World} {g:Nat} {o:Obj} (h:w.heap[g]? = some o) (o' : Obj):(w.alloc o').heap[g]? = some o:=blk_alloc h o'
theorem zJ {w:World} {g:Nat} {o:Obj} (h:w.heap[g]? = some o) (n:Nat):(w.drewN n).heap[g]? = some o:=blk_drewN h n
theorem zK {w:World} {g:Nat} {o:Obj} (h:w.heap[g]? = some o):w.drew.heap[g]? = some o:=blk_drew h
theorem zL {α:Type} (l:List α) (i:Nat) (a:α):l.toArray.setIfInBounds i a = (l.set i a).toArray:=List.setIfInBounds_toArray l i a
theorem zM {α:Type} {x:α} {xs:List α} {a:α}:(x :: xs).set 0 a = a :: xs:=List.set_cons_zero
theorem zN {α:Type} {x:α} {xs:List α} {i:Nat} {a:α}:(x :: xs).set (i + 1) a = x :: xs.set i a:=List.set_cons_succ
end Go.Proofs.YtemdfjdmokbcoaaGreatDoor.T
namespace Go.Proofs.YtemdfjdmokbcoaaGreatDoorW.PrintWords.Kd
open Go.RowKit
open Go.Proofs.YtemdfjdmokbcoaaGreatDoorW.PrintWords
section
variable {P:Program} {ops:Array Oper} {rest:List Oper} {o:Oper} {a:Act} {Q:Exit → Act → World → Prop} {W:World} {α:Type}
end
end Go.Proofs.YtemdfjdmokbcoaaGreatDoorW.PrintWords.Kd
namespace Go.Proofs.YtemdfjdmokbcoaaGreatDoor.T
open Go.RowKit Go.Proofs.YtemdfjdmokbcoaaGreatDoorW.PrintWords
theorem enters_fn {f : FuncId} {fn : Func} {c : Code} (hf : Tryz.prog.funcs[f]? = some fn) (hname : (fn.name == "runtime.NumGoroutine") = false) (hb : fn.body = some c) : ∀ (args : Array Value) (w : World), (callFunc f args).run Tryz.prog w = .ok (.enter f args) w := by
  intro args w
  have h1 : fn.name ≠ "runtime.NumGoroutine" := by simpa using hname
  simp [callFunc,hf,h1,hb,mark]
def PredOf (g:Nat) (lb:Array Value) (p:Int → Bool) (w:World) (l:List Int):Prop :=
  ∀ (W:World) (x:Int),x ∈ l → Below w.heap.size w W → Calls Tryz.prog g (#[.int .i64 x] ++ lb) W fun e W' => e = .returned (.bool (p x)) ∧ Below W.heap.size W W'
def PredL (g:Nat) (lb:Array Value) (p:List Int → Bool) (w:World):Prop :=
  ∀ (W:World) (A:Option Addr) (c:Nat) (x:List Int),Below w.heap.size w W → (Kd.int .i64).C W A x.length x → x.length ≤ c →
    Calls Tryz.prog g (#[.slice A x.length c] ++ lb) W fun e W' => e = .returned (.bool (p x)) ∧ Below W.heap.size W W'
def idxP {α:Type} (p:α → Bool) (l:List α):Int:=if l.any p then (l.findIdx p:Int) else -1
theorem idxP_hit {α:Type} (d:α) (p:α → Bool) (l:List α) (k:Nat) (hk:k < l.length) (hp:p (l.getD k d) = true) (h:∀ j,j < k → p (l.getD j d) = false):idxP p l = k:=by
  unfold idxP
  have e:∀ j (hj:j < l.length),l.getD j d = l[j]:=fun j hj=>by simp [List.getD_eq_getElem?_getD,hj]
  have hf:l.findIdx p = k:=by
    rw [List.findIdx_eq hk]
    exact ⟨by rw [← e k hk];exact hp,fun j hj=>by rw [← e j (by omega)];exact h j hj⟩
  rw [if_pos,hf]
  rw [List.any_eq_true]
  exact ⟨l[k],List.getElem_mem hk,by rw [← e k hk];exact hp⟩
theorem idxP_miss {α:Type} (d:α) (p:α → Bool) (l:List α) (h:∀ j,j < l.length → p (l.getD j d) = false):idxP p l = -1:=by
  unfold idxP
  rw [if_neg]
  intro hh
  obtain ⟨x,hx,hpx⟩:=List.any_eq_true.mp hh
  obtain ⟨j,hj,rfl⟩:=List.getElem_of_mem hx
  have:=h j hj
  simp [List.getD_eq_getElem?_getD,hj] at this
  rw [this] at hpx;cases hpx
theorem idxP_nonneg {α:Type} (p:α → Bool) (l:List α):decide (0 ≤ idxP p l) = l.any p:=by
  unfold idxP
  cases h:l.any p <;> simp
theorem at_row {e : Nat} {w : World} {A : Option Addr} {n : Nat} {xs : List (List Int)} (h : Kd.C (Kd.slice e (Kd.int .i64)) w A n xs) (i : Nat) (h1 : i < n) :
    ∃ ad A0 c0,A = some ad ∧ w.cell? (ad.add i) = some (.slice A0 (xs.getD i []).length c0) ∧ (xs.getD i []).length ≤ c0 ∧ (Kd.int .i64).C w A0 (xs.getD i []).length (xs.getD i []):=by
  obtain ⟨ad,c,e,_,hK,hc0⟩:=Kd.C_get h ([]:List Int) (i:Int) (by omega) (by omega)
  have hc:∀ j u,c[j]? = some u → w.cell? (ad.add ((i:Int).toNat * 1 + j)) = some u:=hc0
  obtain ⟨A0,c0,rfl,l0,g0⟩:=hK
  refine ⟨ad,A0,c0,e,?_,?_,?_⟩
  · have hq:=hc 0 _ rfl
    rw [Nat.mul_one,Nat.add_zero,Int.toNat_natCast] at hq
    exact hq
  · rw [Int.toNat_natCast] at l0;exact l0
  · rw [Int.toNat_natCast] at g0;exact g0
set_option maxHeartbeats 2000000 in
theorem indexFunc_any (A0 : Option Addr) (c0 : Nat) (l0 : List Int) (g : Nat) (lb : Array Value) (p : Int → Bool) (w : World)
    (eg:∀ args w,(callFunc g args).run Tryz.prog w = .ok (.enter g args) w)
    (hp:PredOf g lb p w l0) (hr0:Kd.C (Kd.int .i64) w A0 l0.length l0) :
    Calls Tryz.prog 66 #[.slice A0 l0.length c0,.func (.func g) #[] lb] w fun e w' => e = .returned (.int .i64 (idxP p l0)) ∧ Below w.heap.size w w' := by
  have hl:l0.length ≤ 9223372036854775807:=hr0.2.1
  have HR0:=Aside0.mk hr0
  clear hr0
  have HP:=Aside0.mk hp
  clear hp
  go_enter Tryz.func66,Tryz.ntmps66
  go_wp2
  go_loopg [5,8] l0.length (fun gg _ s8 wr=>∃ kk:Nat,kk ≤ l0.length ∧ l0.length - kk ≤ gg ∧ s8 = .int .i64 kk ∧ Aside0 (Below w.heap.size w wr) ∧ Aside0 (∀ j,j < kk → p (l0.getD j 0) = false))
  case atStart=>exact ⟨0,Nat.zero_le _,by omega,rfl,⟨Below.refl _ _⟩,⟨fun j hj=>absurd hj (Nat.not_lt_zero _)⟩⟩
  case round =>
    obtain ⟨kk,hkk,hg,rfl,HB,A⟩:=hrel
    by_cases hlt:kk < l0.length
    · have hltz:(kk:Int) < (l0.length:Int):=by omega
      obtain ⟨ad,e0,hcell⟩:=Kd.at_int HR0.out kk (by omega) hltz
      cases e0
      rw [Int.toNat_natCast] at hcell
      have hy:=Aside0.mk (show l0.getD kk 0 = rd l0 kk by simp [rd])
      have hmem:rd l0 kk ∈ l0:=by
        rw [← hy.out,List.getD_eq_getElem?_getD,List.getElem?_eq_getElem hlt]
        exact List.getElem_mem hlt
      generalize rd l0 kk = y at hcell hy hmem
      replace hcell:=pw_cell_below HB.out hcell
      have hcall:=HP.out wr y hmem HB.out
      clear hmem
      cases hq:p y with
      | true =>
        rw [hq] at hcall
        replace hq:=Aside0.mk hq
        replace hcall:=Aside0.mk hcall
        go_wp2_with fail
        refine hcall.out.mono ?_
        rintro e w' ⟨rfl,hb⟩
        have HB' := Aside0.mk (below_step HB.out hb)
        clear hcall hcell hb
        go_wp2
        go_ret
        refine ⟨?_,HB'.out⟩
        rw [idxP_hit 0 p l0 kk hlt (by rw [hy.out];exact hq.out) A.out]
        rfl
      | false =>
        rw [hq] at hcall
        replace hq:=Aside0.mk hq
        replace hcall:=Aside0.mk hcall
        go_wp2_with fail
        refine hcall.out.mono ?_
        rintro e w' ⟨rfl,hb⟩
        have HB' := Aside0.mk (below_step HB.out hb)
        clear hcall hcell hb
        go_wp2
        go_roundg (l0.length - (kk + 1))
        case measure=>omega
        case rel =>
          refine ⟨kk + 1,by omega,by omega,by go_num,HB', ⟨fun j hj=>?_⟩⟩
          by_cases e:j = kk
          · subst e
            rw [hy.out];exact hq.out
          · exact A.out j (by omega)
    · have hltz:¬ (kk:Int) < (l0.length:Int):=by omega
      have:kk = l0.length:=by omega
      subst this
      go_wp2
      go_ret
      refine ⟨?_,HB.out⟩
      rw [idxP_miss 0 p l0 A.out]
      rfl
theorem containsFunc_any (A0 : Option Addr) (c0 : Nat) (l0 : List Int) (g : Nat) (lb : Array Value) (p : Int → Bool) (w : World)
    (eg:∀ args w,(callFunc g args).run Tryz.prog w = .ok (.enter g args) w)
    (hp:PredOf g lb p w l0) (hr0:Kd.C (Kd.int .i64) w A0 l0.length l0) :
    Calls Tryz.prog 42 #[.slice A0 l0.length c0,.func (.func g) #[] lb] w fun e w' => e = .returned (.bool (l0.any p)) ∧ Below w.heap.size w w' := by
  rw [← idxP_nonneg p l0]
  have h:=indexFunc_any A0 c0 l0 g lb p w eg hp hr0
  clear hp hr0
  generalize idxP p l0 = r at h ⊢
  go_enter Tryz.func42,Tryz.ntmps42
  go_wp2_with fail
  refine h.mono ?_
  rintro e w' ⟨rfl,hb⟩
  replace hb:=Aside0.mk hb
  clear h
  go_wp2
  go_ret
  exact ⟨rfl,hb.out⟩
set_option maxHeartbeats 2000000 in
theorem indexFuncL_any {e : Nat} (A0 : Option Addr) (c0 : Nat) (l0 : List (List Int)) (g : Nat) (lb : Array Value) (p : List Int → Bool) (w : World)
    (eg:∀ args w,(callFunc g args).run Tryz.prog w = .ok (.enter g args) w)
    (hp:PredL g lb p w) (hr0:Kd.C (Kd.slice e (Kd.int .i64)) w A0 l0.length l0) :
    Calls Tryz.prog 75 #[.slice A0 l0.length c0,.func (.func g) #[] lb] w fun e w' => e = .returned (.int .i64 (idxP p l0)) ∧ Below w.heap.size w w' := by
  have hl:l0.length ≤ 9223372036854775807:=hr0.2.1
  have HR0:=Aside0.mk hr0
  clear hr0
  have HP:=Aside0.mk hp
  clear hp
  go_enter Tryz.func75,Tryz.ntmps75
  go_wp2
  go_loopg [5,8] l0.length (fun gg _ s8 wr=>∃ kk:Nat,kk ≤ l0.length ∧ l0.length - kk ≤ gg ∧ s8 = .int .i64 kk ∧ Aside0 (Below w.heap.size w wr) ∧ Aside0 (∀ j,j < kk → p (l0.getD j []) = false))
  case atStart=>exact ⟨0,Nat.zero_le _,by omega,rfl,⟨Below.refl _ _⟩,⟨fun j hj=>absurd hj (Nat.not_lt_zero _)⟩⟩
  case round =>
    obtain ⟨kk,hkk,hg,rfl,HB,A⟩:=hrel
    by_cases hlt:kk < l0.length
    · have hltz:(kk:Int) < (l0.length:Int):=by omega
      obtain ⟨ad,A1,c1,e0,hcell,hc1,hC1⟩:=at_row HR0.out kk hlt
      cases e0
      have B:=Aside0.mk (show l0.getD kk [] = l0.getD kk [] from rfl)
      generalize hy:l0.getD kk [] = y at hcell hc1 hC1
      replace hy:=Aside0.mk hy
      clear B
      replace hcell:=pw_cell_below HB.out hcell
      have hcall:=HP.out wr A1 c1 y HB.out (Kd.C_below hC1 HB.out) hc1
      clear hC1 hc1
      cases hq:p y with
      | true =>
        rw [hq] at hcall
        replace hq:=Aside0.mk hq
        replace hcall:=Aside0.mk hcall
        go_wp2_with fail
        refine hcall.out.mono ?_
        rintro e w' ⟨rfl,hb⟩
        have HB' := Aside0.mk (below_step HB.out hb)
        clear hcall hcell hb
        go_wp2
        go_ret
        refine ⟨?_,HB'.out⟩
        rw [idxP_hit [] p l0 kk hlt (by rw [hy.out];exact hq.out) A.out]
        rfl
      | false =>
        rw [hq] at hcall
        replace hq:=Aside0.mk hq
        replace hcall:=Aside0.mk hcall
        go_wp2_with fail
        refine hcall.out.mono ?_
        rintro e w' ⟨rfl,hb⟩
        have HB' := Aside0.mk (below_step HB.out hb)
        clear hcall hcell hb
        go_wp2
        go_roundg (l0.length - (kk + 1))
        case measure=>omega
        case rel =>
          refine ⟨kk + 1,by omega,by omega,by go_num,HB', ⟨fun j hj=>?_⟩⟩
          by_cases e:j = kk
          · subst e
            rw [hy.out];exact hq.out
          · exact A.out j (by omega)
    · have hltz:¬ (kk:Int) < (l0.length:Int):=by omega
      have:kk = l0.length:=by omega
      subst this
      go_wp2
      go_ret
      refine ⟨?_,HB.out⟩
      rw [idxP_miss [] p l0 A.out]
      rfl
theorem containsFuncL_any {e : Nat} (A0 : Option Addr) (c0 : Nat) (l0 : List (List Int)) (g : Nat) (lb : Array Value) (p : List Int → Bool) (w : World)
    (eg:∀ args w,(callFunc g args).run Tryz.prog w = .ok (.enter g args) w)
    (hp:PredL g lb p w) (hr0:Kd.C (Kd.slice e (Kd.int .i64)) w A0 l0.length l0) :
    Calls Tryz.prog 57 #[.slice A0 l0.length c0,.func (.func g) #[] lb] w fun e w' => e = .returned (.bool (l0.any p)) ∧ Below w.heap.size w w' := by
  rw [← idxP_nonneg p l0]
  have h:=indexFuncL_any A0 c0 l0 g lb p w eg hp hr0
  clear hp hr0
  generalize idxP p l0 = r at h ⊢
  go_enter Tryz.func57,Tryz.ntmps57
  go_wp2_with fail
  refine h.mono ?_
  rintro e w' ⟨rfl,hb⟩
  replace hb:=Aside0.mk hb
  clear h
  go_wp2
  go_ret
  exact ⟨rfl,hb.out⟩
end Go.Proofs.YtemdfjdmokbcoaaGreatDoor.T
