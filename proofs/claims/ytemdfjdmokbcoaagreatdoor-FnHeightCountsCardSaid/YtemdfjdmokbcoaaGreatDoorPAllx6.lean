import Derived.Test.YtemdfjdmokbcoaaGreatDoorPAllx0
import Derived.Test.YtemdfjdmokbcoaaGreatDoorPAllx2
import Derived.Test.YtemdfjdmokbcoaaGreatDoorPAllx3
namespace Go.Proofs.YtemdfjdmokbcoaaGreatDoor.PAll
open Go.RowKit Go.Proofs.YtemdfjdmokbcoaaGreatDoor.T Go.Proofs.YtemdfjdmokbcoaaGreatDoorW.PrintWords Go.Proofs.YtemdfjdmokbcoaaGreatDoorW.PrintLast Go.Proofs.YtemdfjdmokbcoaaGreatDoorW.PrintMore
attribute [local go_sem] max2_int min2_int max_two min_two max_three min_three max_four min_four   -- for this text's walks alone
set_option linter.unusedVariables false
set_option linter.unusedSimpArgs false
def srt_ren:Go.Shelf.Ren:=⟨fun | 5=>79 | 8=>84 | 7=>83 | 19=>94 | 20=>95 | 10=>85 | 11=>86 | 12=>87 | 13=>88 | 14=>89 | 15=>90 | 16=>91 | 17=>92 | 18=>93 | 30=>96 | 31=>97 | 32=>98 | 33=>99 | 34=>100 | 35=>101 | 40=>102 | n=>n,fun | 23=>24 | 25=>2 | 3=>3 | 32=>77 | 22=>24 | 0=>0 | 44=>105 | 46=>67 | 4=>4 | 36=>98 | 35=>97 | 41=>102 | 5=>5 | 9=>9 | 53=>106 | 57=>110 | 63=>112 | 64=>113 | n=>n,fun n=>n⟩
theorem srt:SlLaysM.n5 Tryz.prog srt_ren:={
 mixed:=by kernel_rfl,
 f5:=⟨Tryz.f79.name,by decide,Tryz.func79.trans (congrArg some (by kernel_rfl))⟩,
 f7:=⟨Tryz.f83.name,by decide,Tryz.func83.trans (congrArg some (by kernel_rfl))⟩,
 f8:=Tryz.func84.trans (congrArg some (by kernel_rfl)),
 f10:=⟨Tryz.f85.name,by decide,Tryz.func85.trans (congrArg some (by kernel_rfl))⟩,
 f11:=⟨Tryz.f86.name,by decide,Tryz.func86.trans (congrArg some (by kernel_rfl))⟩,
 f12:=⟨Tryz.f87.name,by decide,Tryz.func87.trans (congrArg some (by kernel_rfl))⟩,
 f13:=⟨Tryz.f88.name,by decide,Tryz.func88.trans (congrArg some (by kernel_rfl))⟩,
 f14:=⟨Tryz.f89.name,by decide,Tryz.func89.trans (congrArg some (by kernel_rfl))⟩,
 f15:=⟨Tryz.f90.name,by decide,Tryz.func90.trans (congrArg some (by kernel_rfl))⟩,
 f16:=⟨Tryz.f91.name,by decide,Tryz.func91.trans (congrArg some (by kernel_rfl))⟩,
 f17:=⟨Tryz.f92.name,by decide,Tryz.func92.trans (congrArg some (by kernel_rfl))⟩,
 f18:=⟨Tryz.f93.name,by decide,Tryz.func93.trans (congrArg some (by kernel_rfl))⟩,
 f19:=Tryz.func94.trans (congrArg some (by kernel_rfl)),
 f20:=Tryz.func95.trans (congrArg some (by kernel_rfl)),
 f30:=⟨Tryz.f96.name,by decide,Tryz.func96.trans (congrArg some (by kernel_rfl))⟩,
 f31:=Tryz.func97.trans (congrArg some (by kernel_rfl)),
 f32:=Tryz.func98.trans (congrArg some (by kernel_rfl)),
 f33:=⟨Tryz.f99.name,by decide,Tryz.func99.trans (congrArg some (by kernel_rfl))⟩,
 f34:=⟨Tryz.f100.name,by decide,Tryz.func100.trans (congrArg some (by kernel_rfl))⟩,
 f35:=⟨Tryz.f101.name,by decide,Tryz.func101.trans (congrArg some (by kernel_rfl))⟩,
 f40:=⟨Tryz.f102.name,by decide,Tryz.func102.trans (congrArg some (by kernel_rfl))⟩,
 t0:=Tryz.underlying0,
 a0:=Tryz.isAgg0,
 z0:=Tryz.sizeOf0,
 v0:=Tryz.zeroValue0,
 t3:=Tryz.underlying3,
 a3:=Tryz.isAgg3,
 z3:=Tryz.sizeOf3,
 v3:=Tryz.zeroValue3,
 t4:=Tryz.underlying4,
 a4:=Tryz.isAgg4,
 z4:=Tryz.sizeOf4,
 v4:=Tryz.zeroValue4,
 t5:=Tryz.underlying5,
 a5:=Tryz.isAgg5,
 z5:=Tryz.sizeOf5,
 v5:=Tryz.zeroValue5,
 t9:=Tryz.underlying9,
 a9:=Tryz.isAgg9,
 z9:=Tryz.sizeOf9,
 v9:=Tryz.zeroValue9,
 t22:=Tryz.underlying24,
 a22:=Tryz.isAgg24,
 z22:=Tryz.sizeOf24,
 v22:=Tryz.zeroValue24,
 t23:=Tryz.underlying24,
 a23:=Tryz.isAgg24,
 z23:=Tryz.sizeOf24,
 v23:=Tryz.zeroValue24,
 t25:=Tryz.underlying2,
 a25:=Tryz.isAgg2,
 z25:=Tryz.sizeOf2,
 v25:=Tryz.zeroValue2,
 t32:=Tryz.underlying77,
 a32:=Tryz.isAgg77,
 z32:=Tryz.sizeOf77,
 v32:=Tryz.zeroValue77,
 t35:=Tryz.underlying97,
 a35:=Tryz.isAgg97,
 z35:=Tryz.sizeOf97,
 v35:=Tryz.zeroValue97,
 t36:=Tryz.underlying98,
 a36:=Tryz.isAgg98,
 z36:=Tryz.sizeOf98,
 v36:=Tryz.zeroValue98,
 t41:=Tryz.underlying102,
 a41:=Tryz.isAgg102,
 z41:=Tryz.sizeOf102,
 v41:=Tryz.zeroValue102,
 t44:=Tryz.underlying105,
 a44:=Tryz.isAgg105,
 z44:=Tryz.sizeOf105,
 v44:=Tryz.zeroValue105,
 t46:=Tryz.underlying67,
 a46:=Tryz.isAgg67,
 z46:=Tryz.sizeOf67,
 v46:=Tryz.zeroValue67,
 t53:=Tryz.underlying106,
 a53:=Tryz.isAgg106,
 z53:=Tryz.sizeOf106,
 v53:=Tryz.zeroValue106,
 t57:=Tryz.underlying110,
 a57:=Tryz.isAgg110,
 z57:=Tryz.sizeOf110,
 v57:=Tryz.zeroValue110,
 t63:=Tryz.underlying112,
 a63:=Tryz.isAgg112,
 z63:=Tryz.sizeOf112,
 v63:=Tryz.zeroValue112,
 t64:=Tryz.underlying113,
 a64:=Tryz.isAgg113,
 z64:=Tryz.sizeOf113,
 v64:=Tryz.zeroValue113 }
set_option maxHeartbeats 2000000 in
set_option maxRecDepth 100000 in
theorem sort_R (M : Nat) (g cap : Nat) (xs : List Int) (w : World) (h : Kd.R (Kd.int .i64) 2 w M (fun _ => True) (.slice (some ⟨g, 0, none⟩) xs.length cap) xs) (hl : xs.length < 4611686018427387904) :
  Calls Tryz.prog 79 #[.slice (some ⟨g,0,none⟩) xs.length cap] w fun e w' => e = .returned (.tuple #[]) ∧ Kd.R (Kd.int .i64) 2 w' M (fun _=>True) (.slice (some ⟨g,0,none⟩) xs.length cap) (xs.mergeSort fun x y=>decide (x ≤ y)) ∧ w.grownBy w' (some g):=by
 have hH:Go.Sort.Holds (Value.int .i64) w g 0 xs.toArray:=fun j hj=>by
  have hj' : j < xs.length:=by simpa using hj
  obtain ⟨a,b⟩:=Kd.R_celln (0:Int) h (j:Int) (by omega) (by omega)
  rw [Nat.zero_add]
  refine ⟨?_,b⟩
  have e:rdOf (0:Int) xs (j:Int) = xs.toArray[j]!:=by simp [rdOf,hj', List.getD]
  rw [← e]
  exact a
 have hblk:g < w.heap.size:=kH h g rfl
 have hs:Calls Tryz.prog 79 #[.slice (some ⟨g,0,none⟩) xs.length cap] w _:=AnyM.slices_Sort_int srt g 0 cap xs w hH hblk hl
 refine hs.mono ?_
 rintro e w' ⟨he,n,os,rfl⟩
 obtain ⟨hlen,hv⟩:=Kd.own_of_R h
 rcases hv with ⟨hv,_⟩ | ⟨g', cap', cur,hv,hb,hbk,hnc,hcm,hcs,htk⟩
 ·cases hv
 injection hv with e1 e2 e3
 injection e1 with e1
 injection e1 with e1
 subst e1
 subst e3
 have hk:(Go.Sort.grow (Go.Sort.putRow (Value.int .i64) (Go.Sort.ahead w n) g 0 (xs.mergeSort fun x y=>decide (x ≤ y)).toArray) os).heap[g]? = some (.cells (Go.Sort.putCells (Value.int .i64) 0 (xs.mergeSort fun x y=>decide (x ≤ y)).toArray cur) 2 (0,0)):=by
  show ((w.heap.modify g _) ++ os)[g]? = _
  rw [Array.getElem?_append_left (by simpa using hblk),Array.getElem?_modify,if_pos rfl,hbk]
  rfl
 have hm:(xs.mergeSort fun x y=>decide (x ≤ y)).length = xs.length:=List.length_mergeSort xs
 refine ⟨he,Kd.R_of_own ⟨?_,Or.inr ⟨g,cap,_,?_,hb,hk,?_,hcm,?_,?_⟩⟩ (fun _ _=>trivial),⟨rfl,rfl,rfl,?_,?_⟩⟩
 ·rw [encs_length,Nat.mul_one]
 ·rw [hm]
 ·rw [hm];exact hnc
 ·simpa [Go.Sort.putCells] using hcs
 ·refine List.ext_getElem? (fun j=>?_)
  rw [Nat.mul_one,hm,List.getElem?_take]
  have hcl:xs.length ≤ cur.size:=by omega
  by_cases hj:j < xs.length
  ·rw [if_pos hj]
   simp [Go.Sort.putCells,encs,hm,hj,List.getElem?_eq_getElem,Array.getElem?_eq_getElem (show j < cur.size by omega)]
  rw [if_neg hj]
  simp [encs,List.getElem?_eq_none,hm,show xs.length ≤ j by omega]
 ·simp [Go.Sort.grow,Go.Sort.putRow,Go.Sort.mapBlock,Go.Sort.ahead]
 intro k hk1 hk2
 show ((w.heap.modify g _) ++ os)[k]? = _
 rw [Array.getElem?_append_left (by simpa using hk1),Array.getElem?_modify,if_neg (fun e=>hk2 (by rw [e]))]
@[go_sem] theorem field_depends (a b:Value) (w:World):Sem.run Tryz.prog (Instr.field 26 (.agg #[a,b]) 1) w = .ok b w:=by
 have hi:=Tryz.sizeOf24
 have hg:=Tryz.isAgg24
 simp [Instr.field,asAgg,go_sem,hi,hg]
structure FBut (M B:Nat) (w w' : World):Prop where
 os:w'.os = w.os
 tape:w'.tape = w.tape
 output:w'.output = w.output
 size:w.heap.size ≤ w'.heap.size
 block:∀ i,i < M → i ≠ B → w'.heap[i]? = w.heap[i]?
theorem FBut.refl (M B:Nat) (w:World):FBut M B w w:=⟨rfl,rfl,rfl,Nat.le_refl _,fun _ _ _=>rfl⟩
theorem FBut.trans {M B:Nat} {w w1 w2:World} (h:FBut M B w w1) (k:FBut M B w1 w2):FBut M B w w2 :=
 ⟨k.os.trans h.os,k.tape.trans h.tape,k.output.trans h.output,Nat.le_trans h.size k.size,fun i h1 h2=>(k.block i h1 h2).trans (h.block i h1 h2)⟩
theorem FBut.of_below {M B:Nat} {w w1:World} (h:Below w.heap.size w w1) (hM:M ≤ w.heap.size):FBut M B w w1:=⟨h.os,h.tape,h.output,h.size,fun i h1 _=>h.block i (by omega)⟩
theorem FBut.of_grown {M B:Nat} {w w1:World} {row:Option Nat} (h:w.grownBy w1 row) (hM:M ≤ w.heap.size) (hr:∀ k,row = some k → M ≤ k):FBut M B w w1 :=
 ⟨h.os,h.tape,h.output,h.size,fun i h1 _=>h.block i (by omega) (fun e=>by have:=hr i e.symm;omega)⟩
theorem FBut.set {M B:Nat} {w w1:World} (h:FBut M B w w1) (j:Nat) (u:Value):FBut M B w (w1.setCell ⟨B,j,none⟩ u) :=
 ⟨by simpa [World.setCell] using h.os,by simpa [World.setCell] using h.tape,by simpa [World.setCell] using h.output,by simpa using h.size,fun i h1 h2=>(Below.heap_setCell w1 ⟨B,j,none⟩ u i h2).trans (h.block i h1 h2)⟩
structure Hold (P:Prop):Prop where
 go:P
set_option maxHeartbeats 4000000 in
set_option maxRecDepth 100000 in
theorem family_add (M B : Nat) (v : Value) (xs : List Int) (m : Int) (w : World) (hB : w.heap[B]? = some (.cells #[v, .bool false] 80 (0, 0))) (hR : Kd.R (Kd.int .i64) 2 w M (fun _ => True) v xs) (hBM : B < M) (hM : M ≤ w.heap.size) (hl : xs.length < 4096) :
  Calls Tryz.prog 78 #[.pointer (some ⟨B,0,none⟩),.int .i64 m] w fun e w' => ∃ v', e = .returned (.bool true) ∧ w'.heap[B]? = some (.cells #[v', .bool false] 80 (0,0)) ∧ Kd.R (Kd.int .i64) 2 w' M (fun _=>True) v' (xs ++ [m]) ∧ FBut M B w w' := by
 obtain ⟨A,c,rfl,hc,hC⟩:=Kd.R_reads hR
 have hBl:=jI hB
 have h0:=kV hB 0
 have h1:=kV hB 1
 have f0:=jH hB 0
 have f1:=jH hB 1
 have HR:=zA hR
 have HBB:=zA hB
 clear hR hC hB
 have hfz:¬ (xs.length:Int) = 4096:=by omega
 have hfq:((xs.length:Int) == 4096) = false:=by simpa using hfz
 have hs:=blk_set HBB.out 1 (.bool false)
 have HS:=zA (show (w.setCell ⟨B,1,none⟩ (.bool false)).heap[B]? = some (.cells #[.slice A xs.length c,.bool false] 80 (0,0)) by simpa using hs)
 have HR1:=zA (Kd.R_set HR.out HBB.out (by decide) 1 (.bool false))
 have HM1:=zA (show M ≤ (w.setCell ⟨B,1,none⟩ (.bool false)).heap.size by simpa using hM)
 clear hs
 go_enter Tryz.func78,Tryz.ntmps78
 go_wp2_with (first | ((with_reducible refine gate_builtin (b:=.append) (xs:=#[.tmp 23,.tmp 25]) rfl ?_);at_builtin;refine Hold.go ?_))
 refine ⟨?_⟩
 refine Kd.R_append (Kd.int .i64) (w0:=w.setCell ⟨B,1,none⟩ (.bool false)) M rfl (.tmp 23) (.tmp 25) 24 2 (.int .i64 0) 8 rfl Tryz.underlying24 info2 rfl (by decide) (by omega) (.slice A xs.length c) xs m [.int .i64 m] (fun _=>True) (fun _=>False) (by simp [Act.eval]) (by simp [Act.eval]) ?aP (fun _ hk=>hk.elim) ?aF ?aO ?aB ?aS ?aL ?_
 case aP=>exact rfl
 case aB=>exact kW M _
 case aF=>exact (fun _ _=>trivial)
 case aO=>exact (zP HR1.out)
 case aS=>exact HM1.out
 case aL=>omega
 intro v6 w6 ho hb hg hat
 have HO6:=zA ho
 have HG6:=zA hg
 have hob:∀ k,(Value.slice A xs.length c).ownBlock = some k → M ≤ k:=by
  obtain ⟨_,inner,hown,_⟩:=HR1.out
  exact own_base hown
 have hne:some B ≠ (Value.slice A xs.length c).ownBlock:=fun e=>by
  have:=hob B e.symm
  omega
 have B6:=blk_grown HS.out hg hne
 have hB6:=jI B6
 have g0:=kV B6 0
 have g1:=kV B6 1
 have k0:=jH B6 0
 have k1:=jH B6 1
 have F6:=((FBut.refl M B w).set 1 (.bool false)).trans (FBut.of_grown (B:=B) hg HM1.out hob)
 have HB6:=zA B6
 have HF6:=zA F6
 clear ho hb hg hat B6 F6 hob
 obtain ⟨A6,c6,rfl,hc6,hC6⟩:=Kd.R_reads HO6.out
 clear hC6
 go_wp2
 go_ret
 refine ⟨.slice A6 (xs ++ [m]).length c6,rfl,?_,Kd.R_set HO6.out HB6.out (by decide) 0 _,HF6.out.set 0 _⟩
 have:=blk_set HB6.out 0 (.slice A6 (xs ++ [m]).length c6)
 simpa using this
def impl_growCliques.l0 (near:List Int):Nat → Int → Int → Option (List Int)
 | 0,_,_=>none
 | k + 1,ch,op=>if op = 0 then some [] else (impl_least.f op).bind fun i=>if 0 ≤ i then (if i < (near.length:Int) then (impl_one.f i).bind fun o=>(impl_growCliques.l0 near k (Go.bits .or .i64 ch o) (Go.bits .and .i64 (Go.bits .and .i64 op (wrap64 (op - 1))) (rd near i))).bind fun xs=>(impl_growCliques.l0 near k ch (Go.bits .and .i64 op (wrap64 (op - 1)))).bind fun ys=>some (Go.bits .or .i64 ch o :: (xs ++ ys)) else none) else none
structure FRest (M B:Nat) (An:Option Addr) (near:List Int) (w:World):Prop where
 lt:B < M
 le:M ≤ w.heap.size
 tab:∀ w', FBut M B w w' → TabW w'
 near:∀ w', FBut M B w w' → (Kd.int .i64).C w' An near.length near
theorem FRest.on {M B:Nat} {An:Option Addr} {near:List Int} {w w1:World} (h:FRest M B An near w) (k:FBut M B w w1):FRest M B An near w1 :=
 ⟨h.lt,Nat.le_trans h.le k.size,fun w' e=>h.tab w' (k.trans e),fun w' e=>h.near w' (k.trans e)⟩
set_option maxHeartbeats 8000000 in
set_option maxRecDepth 100000 in
theorem grow_calls (M B : Nat) (An : Option Addr) (cn : Nat) (near : List Int) (hcn : near.length ≤ cn) : ∀ (k : Nat) (ch op : Int) (r : List Int) (xs : List Int) (v : Value) (w : World), impl_growCliques.l0 near k ch op = some r →
  w.heap[B]? = some (.cells #[v,.bool false] 80 (0,0)) → Kd.R (Kd.int .i64) 2 w M (fun _=>True) v xs → FRest M B An near w → xs.length + r.length < 4096 →
  Calls Tryz.prog 62 #[.slice An near.length cn,.int .i64 ch,.int .i64 op,.pointer (some ⟨B,0,none⟩)] w fun e w' => ∃ v', e = .returned (.bool true) ∧ w'.heap[B]? = some (.cells #[v', .bool false] 80 (0,0)) ∧ Kd.R (Kd.int .i64) 2 w' M (fun _=>True) v' (xs ++ ch :: r) ∧ FBut M B w w' := by
 intro k
 induction k using Nat.strongRecOn with
 | ind k IH =>
 intro ch op r xs v w hf hB hR hF hl
 have H' := zA hf
 have HB:=zA hB
 have HR:=zA hR
 have HF:=zA hF
 clear hf hB hR hF
 go_enter Tryz.func62,Tryz.ntmps62
 go_wp2_with (first | (go_at_call 78;(with_reducible refine (family_add M B v xs ch w HB.out HR.out HF.out.lt HF.out.le (by omega)).mono ?_);rintro e w1 ⟨v1,rfl,hb1,hr1,hf1⟩;have HB1:=zA hb1;have HR1:=zA hr1;have HF1:=zA hf1;clear hb1 hr1 hf1))
 go_loopg [2,9] k (fun kq v2 v9 w' => ∃ (op_1:Int) (r_1 xs_1:List Int) (v_1:Value),v2 = .int .i64 op_1 ∧ Aside0 (impl_growCliques.l0 near kq ch op_1 = some r_1) ∧ Aside0 (kq ≤ k) ∧ Aside0 (w'.heap[B]? = some (.cells #[v_1,.bool false] 80 (0,0))) ∧ Aside0 (Kd.R (Kd.int .i64) 2 w' M (fun _=>True) v_1 xs_1) ∧ Aside0 (FBut M B w w') ∧ Aside0 (xs_1 ++ r_1 = xs ++ ch :: r))
 case atStart=>exact ⟨op,r,xs ++ [ch],v1,rfl,H', ⟨Nat.le_refl _⟩,HB1,HR1,HF1,⟨by simp⟩⟩
 case round =>
  obtain ⟨op_1,r_1,xs_1,v_1,rfl,HA,HK1,HB2,HR2,HF2,HX⟩:=hrel
  cases gk with
  | zero=>exact absurd HA.out (by simp [impl_growCliques.l0])
  | succ k1 =>
   have H:=HA.out
   clear HA H' HB1 HR1 HF1
   simp only [impl_growCliques.l0] at H
   by_cases c4:op_1 = 0
   ·rw [if_pos c4] at H
    obtain ⟨c4b0,c4b1⟩:=zT1 c4
    clear c4
    obtain rfl:=Option.some.inj H
    go_wp2
    go_ret
    have hx:=HX.out
    rw [List.append_nil] at hx
    subst hx
    exact ⟨rfl,v_1,HB2.out,HR2.out,HF2.out⟩
   rw [if_neg c4] at H
   obtain ⟨c4b0,c4b1⟩:=zT2 c4
   obtain ⟨i,A5,H⟩:=zb H
   try dsimp only at H
   by_cases p1:0 ≤ i
   ·rw [if_pos p1] at H
    by_cases q1:i < (near.length:Int)
    ·rw [if_pos q1] at H
     obtain ⟨o,A6,H⟩:=zb H
     obtain ⟨la,A7,H⟩:=zb H
     obtain ⟨lb,A8,H⟩:=zb H
     have A9:=zA (Option.some.inj H)
     clear H
     have HF3:=zA (HF.out.on HF2.out)
     have HN:=zA (HF3.out.near _ (FBut.refl _ _ _))
     have HT:=zA (HF3.out.tab _ (FBut.refl _ _ _))
     obtain ⟨ad,e0,hcell⟩:=Kd.at_int HN.out i p1 q1
     subst e0
     have p1b:decide (0 ≤ i) = true:=decide_eq_true p1
     have q1b:decide (i < (near.length:Int)) = true:=decide_eq_true q1
     go_wp2_with (first | (refine zO (some 21) Tryz.func67 #[.int .i64 op_1] ?_;(with_reducible refine (impl_least.calls op_1 i _ ?side1 A5.out).mono ?_);(case side1=>exact HT.out);rintro e w' ⟨rfl,⟨nd,rfl⟩⟩;refine ⟨_,rfl,?_⟩))
     have hd:Below wr.heap.size wr (wr.drewN nd).drew:=below_drew (zC (kW wr.heap.size wr) nd)
     have hfd:=FBut.of_below (M:=M) (B:=B) hd HF3.out.le
     have HF4:=zA (HF3.out.on hfd)
     have HFB:=zA (HF2.out.trans hfd)
     have HB4:=zA ((hd.block B (jI HB2.out)).trans HB2.out)
     have HR4:=zA (kL HR2.out hd)
     have hcell4:(wr.drewN nd).drew.cell? (ad.add i.toNat) = some (.int .i64 (rd near i)):=pw_cell_below hd hcell
     clear hd hfd
     refine start_ (n:=17) (S:=fun w' => w'.cell? (ad.add i.toNat) = some (.int .i64 (rd near i))) (ds:=[]) #[false,false,false,false,false,false,false,false,false,false,false,false,false,false,false,false,false] (by kernel_rfl) rfl rfl hcell4 (fun hHeld=>?_)
     generalize (wr.drewN nd).drew = w4 at HF4 HFB HB4 HR4 hcell4 hHeld ⊢
     refine pure_ (i:=0) (N:=some 22) (v:=?_) (a' := ?_) #[true,false,false,false,false,false,false,false,false,false,false,false,false,false,false,false,false] rfl rfl (by kernel_rfl) (fun _ _ _ h=>h) (Or.inl ⟨by rfl,?_⟩) ?_ ?_
     rotate_left
     ·intro w'
      go_simp
      with_reducible rfl
     rotate_left
     ·simp only [Act.put,zL,zM,zN,i64_w,i32_w]
      rfl
     refine pure_ (i:=1) (N:=some 23) (v:=?_) (a' := ?_) #[true,true,false,false,false,false,false,false,false,false,false,false,false,false,false,false,false] rfl rfl (by kernel_rfl) (fun _ _ _ h=>h) (Or.inl ⟨by rfl,?_⟩) ?_ ?_
     rotate_left
     ·intro w'
      go_simp
      with_reducible rfl
     rotate_left
     ·simp only [Act.put,zL,zM,zN,i64_w,i32_w]
      rfl
     refine pure_ (i:=2) (N:=some 24) (v:=?_) (a' := ?_) #[true,true,true,false,false,false,false,false,false,false,false,false,false,false,false,false,false] rfl rfl (by kernel_rfl) (fun _ _ _ h=>h) (Or.inl ⟨by rfl,?_⟩) ?_ ?_
     rotate_left
     ·intro w'
      go_simp
      with_reducible rfl
     rotate_left
     ·simp only [Act.put,zL,zM,zN,i64_w,i32_w]
      rfl
     refine pure_ (i:=5) (N:=some 27) (v:=?_) (a' := ?_) #[true,true,true,false,false,true,false,false,false,false,false,false,false,false,false,false,false] rfl rfl (by kernel_rfl) (fun _ _ _ h=>h) (Or.inl ⟨by rfl,?_⟩) ?_ ?_
     rotate_left
     ·intro w'
      go_simp
      with_reducible rfl
     rotate_left
     ·simp only [Act.put,zL,zM,zN,i64_w,i32_w]
      rfl
     refine pure_ (i:=6) (N:=some 28) (v:=?_) (a' := ?_) #[true,true,true,false,false,true,true,false,false,false,false,false,false,false,false,false,false] rfl rfl (by kernel_rfl) (fun _ _ _ h=>h) (Or.inl ⟨by rfl,?_⟩) ?_ ?_
     rotate_left
     ·intro w'
      go_simp
      with_reducible rfl
     rotate_left
     ·simp only [Act.put,zL,zM,zN,i64_w,i32_w]
      rfl
     refine pure_ (i:=7) (N:=some 29) (v:=?_) (a' := ?_) #[true,true,true,false,false,true,true,true,false,false,false,false,false,false,false,false,false] rfl rfl (by kernel_rfl) (fun _ _ _ h=>h) (Or.inl ⟨by rfl,?_⟩) ?_ ?_
     rotate_left
     ·intro w'
      go_simp
      with_reducible rfl
     rotate_left
     ·simp only [Act.put,zL,zM,zN,i64_w,i32_w]
      rfl
     refine pure_ (i:=8) (N:=some 30) (v:=?_) (a' := ?_) #[true,true,true,false,false,true,true,true,true,false,false,false,false,false,false,false,false] rfl rfl (by kernel_rfl) (fun _ _ _ h=>h) (Or.inl ⟨by rfl,?_⟩) ?_ ?_
     rotate_left
     ·intro w'
      go_simp
      with_reducible rfl
     rotate_left
     ·simp only [Act.put,zL,zM,zN,i64_w,i32_w]
      rfl
     refine pure_ (i:=9) (N:=some 31) (v:=?_) (a' := ?_) #[true,true,true,false,false,true,true,true,true,true,false,false,false,false,false,false,false] rfl rfl (by kernel_rfl) (fun _ _ _ h=>h) (Or.inl ⟨by rfl,?_⟩) ?_ ?_
     rotate_left
     ·intro w'
      go_simp
      with_reducible rfl
     rotate_left
     ·simp only [Act.put,zL,zM,zN,i64_w,i32_w]
      rfl
     refine pure_ (i:=10) (N:=some 32) (v:=?_) (a' := ?_) #[true,true,true,false,false,true,true,true,true,true,true,false,false,false,false,false,false] rfl rfl (by kernel_rfl) (fun _ _ _ h=>h) (Or.inl ⟨by rfl,?_⟩) ?_ ?_
     rotate_left
     ·intro w'
      go_simp
      with_reducible rfl
     rotate_left
     ·simp only [Act.put,zL,zM,zN,i64_w,i32_w]
      rfl
     refine pure_ (i:=11) (N:=some 33) (v:=?_) (a' := ?_) #[true,true,true,false,false,true,true,true,true,true,true,true,false,false,false,false,false] rfl rfl (by kernel_rfl) (fun _ _ _ h=>h) (Or.inl ⟨by rfl,?_⟩) ?_ ?_
     rotate_left
     ·intro w'
      go_simp
      with_reducible rfl
     rotate_left
     ·simp only [Act.put,zL,zM,zN,i64_w,i32_w]
      rfl
     refine take_ (i:=12) (N:=some 34) (v:=?_) (a' := ?_) #[true,true,true,false,false,true,true,true,true,true,true,true,true,false,false,false,false] rfl rfl (by kernel_rfl) (fun _ _ _ h=>h) (Or.inl ⟨by rfl,?_⟩) hHeld ?_ ?_
     rotate_left
     ·intro w' s0
      go_simp
      with_reducible rfl
     rotate_left
     ·simp only [Act.put,zL,zM,zN,i64_w,i32_w]
      rfl
     refine pure_ (i:=13) (N:=some 35) (v:=?_) (a' := ?_) #[true,true,true,false,false,true,true,true,true,true,true,true,true,true,false,false,false] rfl rfl (by kernel_rfl) (fun _ _ _ h=>h) (Or.inl ⟨by rfl,?_⟩) ?_ ?_
     rotate_left
     ·intro w'
      go_simp
      with_reducible rfl
     rotate_left
     ·simp only [Act.put,zL,zM,zN,i64_w,i32_w]
      rfl
     refine pure_ (i:=14) (N:=some 36) (v:=?_) (a' := ?_) #[true,true,true,false,false,true,true,true,true,true,true,true,true,true,true,false,false] rfl rfl (by kernel_rfl) (fun _ _ _ h=>h) (Or.inl ⟨by rfl,?_⟩) ?_ ?_
     rotate_left
     ·intro w'
      go_simp
      with_reducible rfl
     rotate_left
     ·simp only [Act.put,zL,zM,zN,i64_w,i32_w]
      rfl
     refine one_ (i:=3) (N:=some 25) #[true,true,true,true,false,true,true,true,true,true,true,true,true,true,true,false,false] rfl rfl (by kernel_rfl) (by decide) (fun K hK=>?_)
     refine goes_ Tryz.func55 (by kernel_rfl) rfl #[.int .i64 i] (by rfl) rfl rfl (by simp only [List.map_toArray,List.map_cons,List.map_nil];rfl) ?_
     with_reducible refine (impl_one.calls i o _ A6.out).mono ?_
     rintro e w5 ⟨rfl,⟨nd5,rfl⟩⟩
     refine ⟨_,rfl,?_⟩
     have hd5:Below w4.heap.size w4 (w4.drewN nd5):=zC (kW _ _) nd5
     have hfd5:=FBut.of_below (M:=M) (B:=B) hd5 HF4.out.le
     have HF5:=zA (HF4.out.on hfd5)
     have HFB5:=zA (HFB.out.trans hfd5)
     have HB5:=zA ((hd5.block B (jI HB4.out)).trans HB4.out)
     have HR5:=zA (kL HR4.out hd5)
     refine hK.out _ _ (pw_cell_below hd5 hcell4) (fun hHeld=>?_)
     clear hd5 hfd5
     generalize w4.drewN nd5 = w5 at HF5 HFB5 HB5 HR5 hHeld ⊢
     clear hK K
     refine norm_ (a' := ?_) ?_ ?_
     rotate_left
     ·show Act.put _ (some 25) _ = _
      simp only [Act.put,zL,zM,zN,i64_w,i32_w]
      rfl
     refine pure_ (i:=4) (N:=some 26) (v:=?_) (a' := ?_) #[true,true,true,true,true,true,true,true,true,true,true,true,true,true,true,false,false] rfl rfl (by kernel_rfl) (fun _ _ _ h=>h) (Or.inl ⟨by rfl,?_⟩) ?_ ?_
     rotate_left
     ·intro w'
      go_simp
      with_reducible rfl
     rotate_left
     ·simp only [Act.put,zL,zM,zN,i64_w,i32_w]
      rfl
     refine one_ (i:=15) (N:=some 37) #[true,true,true,true,true,true,true,true,true,true,true,true,true,true,true,true,false] rfl rfl (by kernel_rfl) (by decide) (fun K hK=>?_)
     refine goes_ Tryz.func62 (by kernel_rfl) rfl #[.slice (some ad) near.length cn,.int .i64 (Go.bits .or .i64 ch o),.int .i64 (Go.bits .and .i64 (Go.bits .and .i64 op_1 (wrap64 (op_1 - 1))) (rd near i)),.pointer (some ⟨B,0,none⟩)] (by rfl) rfl rfl (by simp only [List.map_toArray,List.map_cons,List.map_nil];rfl) ?_
     have hxl:xs_1.length + la.length < 4096:=by
      have hx:=congrArg List.length HX.out
      rw [← A9.out] at hx
      simp only [List.length_append,List.length_cons] at hx
      omega
     with_reducible refine (IH k1 (by have:=HK1.out;omega) _ _ la xs_1 v_1 _ A7.out HB5.out HR5.out HF5.out hxl).mono ?_
     rintro e w6 ⟨v6,rfl,hb6,hr6,hf6⟩
     refine ⟨_,rfl,?_⟩
     have HF6:=zA (HF5.out.on hf6)
     have HFB6:=zA (HFB5.out.trans hf6)
     have HB6:=zA hb6
     have HR6:=zA hr6
     obtain ⟨ad6,e6,hcell6⟩:=Kd.at_int (HF5.out.near _ hf6) i p1 q1
     injection e6 with e6
     subst e6
     refine hK.out _ _ hcell6 (fun hHeld=>?_)
     clear hb6 hr6 hf6 hK K
     refine norm_ (a' := ?_) ?_ ?_
     rotate_left
     ·show Act.put _ (some 37) _ = _
      simp only [Act.put,zL,zM,zN,i64_w,i32_w]
      rfl
     refine pure_ (i:=16) (N:=some 38) (v:=?_) (a' := ?_) #[true,true,true,true,true,true,true,true,true,true,true,true,true,true,true,true,true] rfl rfl (by kernel_rfl) (fun _ _ _ h=>h) (Or.inl ⟨by rfl,?_⟩) ?_ ?_
     rotate_left
     ·intro w'
      go_simp
      with_reducible rfl
     rotate_left
     ·simp only [Act.put,zL,zM,zN,i64_w,i32_w]
      rfl
     refine done_ (by kernel_rfl) ?_
     go_wp2
     go_roundg k1
     case measure=>have:=HK1.out;omega
     case rel =>
      refine ⟨Go.bits .and .i64 op_1 (wrap64 (op_1 - 1)),lb,xs_1 ++ (Go.bits .or .i64 ch o) :: la,v6,rfl,A8,⟨by have:=HK1.out;omega⟩,HB6,HR6,HFB6,⟨?_⟩⟩
      have hx:=HX.out
      rw [← A9.out] at hx
      rw [← hx]
      simp
    rw [if_neg q1] at H
    exact absurd H (by simp)
   rw [if_neg p1] at H
   exact absurd H (by simp)
set_option maxHeartbeats 2000000 in
set_option maxRecDepth 100000 in
theorem family_sorted (M B : Nat) (v : Value) (xs : List Int) (w : World) (hB : w.heap[B]? = some (.cells #[v, .bool false] 80 (0, 0))) (hR : Kd.R (Kd.int .i64) 2 w M (fun _ => True) v xs) (hBM : B < M) (hM : M ≤ w.heap.size) (hl : xs.length < 4096) (hp : 0 < xs.length) :
  Calls Tryz.prog 64 #[.pointer (some ⟨B,0,none⟩)] w fun e w' => ∃ v', e = .returned (.tuple #[v', .int .i64 0]) ∧ Kd.R (Kd.int .i64) 2 w' M (fun _=>True) v' (xs.mergeSort fun x y=>decide (x ≤ y)) ∧ FBut M B w w' := by
 obtain ⟨g,c,rfl,hg,hgl,_⟩:=Kd.R_form hR hp
 have hBl:=jI hB
 have h0:=kV hB 0
 have h1:=kV hB 1
 have HR:=zA hR
 have HBB:=zA hB
 clear hR hB
 go_enter Tryz.func64,Tryz.ntmps64
 go_wp2_with (first | (go_at_call 79;refine Hold.go ?_))
 refine ⟨?_⟩
 refine (sort_R M g c xs w HR.out (by omega)).mono ?_
 rintro e w5 ⟨rfl,hr5,hg5⟩
 have hne:some B ≠ some g:=fun e=>by
  injection e with e
  omega
 have hB5:=blk_grown HBB.out hg5 hne
 have hB5l:=jI hB5
 have k0:=kV hB5 0
 have HR5:=zA hr5
 have HF5:=zA (FBut.of_grown (B:=B) hg5 hM (fun k e=>by
  injection e with e
  omega))
 clear hr5 hg5 hB5
 go_wp2
 go_ret2
 exact ⟨_,rfl,HR5.out,HF5.out⟩
def impl_cliques.f (k:Nat) (l0:List Int):Option (List Int × Int) :=
 (impl_mutual.f k l0).bind fun near=>(impl_length_int64.f l0).bind fun n=>(impl_one.f n).bind fun o=>(impl_growCliques.l0 near k 0 (wrap64 (o - 1))).bind fun r=>if r.length < 4095 then some ((0 :: r).mergeSort fun x y=>decide (x ≤ y),0) else none
set_option maxHeartbeats 8000000 in
set_option maxRecDepth 100000 in
theorem impl_cliques.calls (k : Nat) (A0 : Option Addr) (c0 : Nat) (l0 : List Int) (r1 : List Int) (r2 : Int) (w : World) (hr0 : Kd.C (Kd.int .i64) w A0 l0.length l0) (hc0 : l0.length ≤ c0) (hT : TabW w) (h : impl_cliques.f k l0 = some (r1, r2)) :
  Calls Tryz.prog 39 #[.slice A0 l0.length c0] w fun e w' => ∃ v0_:Value,e = .returned (.tuple #[v0_,.int .i64 r2]) ∧ Kd.R (Kd.int .i64) 2 w' w.heap.size (fun _=>True) v0_ r1 ∧ Below w.heap.size w w' := by
 have HR0:=zA hr0
 have HC0:=zA hc0
 have HT:=zA hT
 clear hr0 hc0 hT
 have H:=h
 unfold impl_cliques.f at H
 clear h
 obtain ⟨near,A1,H⟩:=zb H
 try dsimp only at H
 obtain ⟨n,A2,H⟩:=zb H
 try dsimp only at H
 obtain ⟨o,A3,H⟩:=zb H
 try dsimp only at H
 obtain ⟨r,A4,H⟩:=zb H
 try dsimp only at H
 by_cases hl:r.length < 4095
 ·rw [if_pos hl] at H
  injection H with H
  injection H with e1 e2
  subst e1
  subst e2
  go_enter Tryz.func39,Tryz.ntmps39
  go_wp2_with (first | (go_at_call 63;refine Hold.go ?_))
  refine ⟨?_⟩
  have hb1:Below w.heap.size w (w.alloc (.cells #[.slice none 0 0,.bool false] 80)):=zB (kW _ w) _
  have hcell:(w.alloc (.cells #[.slice none 0 0,.bool false] 80)).heap[w.heap.size]? = some (.cells #[.slice none 0 0,.bool false] 80 (0,0)):=by
   show (w.heap.push _)[w.heap.size]? = _
   exact Array.getElem?_push_size
  have hsz:(w.alloc (.cells #[.slice none 0 0,.bool false] 80)).heap.size = w.heap.size + 1:=Array.size_push _
  generalize w.alloc (.cells #[.slice none 0 0,.bool false] 80) = w1 at hb1 hcell hsz ⊢
  refine (impl_mutual.calls k A0 c0 l0 near w1 (kO HR0.out hb1) HC0.out (TabW.below HT.out hb1) A1.out).mono ?_
  rintro e w2 ⟨v2,rfl,hr2,hb2⟩
  obtain ⟨An,cn,rfl,hcn,hC2⟩:=Kd.R_reads hr2
  have HB2:=zA ((hb2.block _ (by omega)).trans hcell)
  have hs2:=hb2.size
  have hb3:Below w.heap.size w w2:=⟨hb2.os.trans hb1.os,hb2.tape.trans hb1.tape,hb2.output.trans hb1.output,by omega,fun i hi=>(hb2.block i (by omega)).trans (hb1.block i hi)⟩
  have HR2:=zA hr2
  have HD2:=zA hb3
  have HC2:=zA (kO HR0.out hb3)
  clear hb1 hcell hr2 hb2 hC2 hb3
  go_wp2_with (first | (go_at_call 31;(with_reducible refine (impl_length_int64.calls _ _ l0 n _ ?side1 ?side2 A2.out).mono ?_);(case side1=>exact HC2.out);(case side2=>exact HC0.out);rintro e w' ⟨rfl,⟨nd,rfl⟩⟩) | (go_at_call 55;(with_reducible refine (impl_one.calls n o _ A3.out).mono ?_);rintro e w' ⟨rfl,⟨nd3,rfl⟩⟩) | (go_at_call 62;refine Hold.go ?_))
  refine ⟨?_⟩
  have hd3:Below w2.heap.size w2 (w2.drewN (nd + nd3)):=zC (kW _ _) _
  have hb3:Below w.heap.size w (w2.drewN (nd + nd3)):=⟨hd3.os.trans HD2.out.os,hd3.tape.trans HD2.out.tape,hd3.output.trans HD2.out.output,by have:=hd3.size;omega,fun i hi=>(hd3.block i (by omega)).trans (HD2.out.block i hi)⟩
  have hr3:=kL HR2.out hd3
  have hB3:=(hd3.block _ (by omega)).trans HB2.out
  have hs3:=hd3.size
  generalize w2.drewN (nd + nd3) = w3 at hd3 hb3 hr3 hB3 hs3 ⊢
  have hlt:w.heap.size < w3.heap.size:=by omega
  have hbw:∀ w', FBut w3.heap.size w.heap.size w3 w' → Below w.heap.size w w' := fun w' e=>⟨e.os.trans hb3.os,e.tape.trans hb3.tape,e.output.trans hb3.output,by have:=e.size;omega,fun i hi=>(e.block i (by omega) (by omega)).trans (hb3.block i hi)⟩
  have hne:some w.heap.size ≠ (Value.slice An near.length cn).ownBlock:=fun e=>by
   have:=kC hr3 _ e.symm
   omega
  have HFR:FRest w3.heap.size w.heap.size An near w3:=⟨hlt,Nat.le_refl _,fun w' e=>TabW.below HT.out (hbw w' e),fun w' e=>(kB (Kd.R_grown1 hr3 rfl (row:=some w.heap.size) ⟨e.os,e.tape,e.output,e.size,fun k hk hn=>e.block k hk (fun h=>hn (by rw [h]))⟩ hne)).2.2⟩
  refine (grow_calls w3.heap.size w.heap.size An cn near hcn k 0 (wrap64 (o - 1)) r [] (.slice none 0 0) w3 A4.out hB3 (jO _ _ _ _ _) HFR (by simp;omega)).mono ?_
  rintro e w4 ⟨v4,rfl,hb4,hr4,hf4⟩
  have HB4:=zA hb4
  have HR4:=zA hr4
  have HF4:=zA hf4
  have HBW:=zA hbw
  have hM4:=hf4.size
  have hlr:([] ++ 0 :: r:List Int).length < 4096:=by simp;omega
  have hpr:0 < ([] ++ 0 :: r:List Int).length:=by simp
  clear hd3 hb3 hr3 hB3 hbw hne HFR hb4 hr4 hf4
  go_wp2_with (first | (go_at_call 64;(with_reducible refine (family_sorted w3.heap.size w.heap.size v4 ([] ++ 0 :: r) w4 HB4.out HR4.out hlt hM4 hlr hpr).mono ?_);rintro e w5 ⟨v5,rfl,hr5,hf5⟩))
  go_ret2
  exact ⟨_,rfl,kI hr5 (by omega),HBW.out _ (HF4.out.trans hf5)⟩
 rw [if_neg hl] at H
 exact absurd H (by simp)
def impl_allLetters.f (a0_0:Int) (l0_1:List Int):Option (Int):=(impl_one.f a0_0).bind fun t406=>(some (wrap64 (t406 - 1)))
set_option maxHeartbeats 8000000 in
set_option maxRecDepth 100000 in
theorem impl_allLetters.calls (a0_0 : Int) (A0_1 : Option Addr) (c0_1 : Nat) (l0_1 : List Int) (r : Int) (w : World) (hr0_1 : Kd.C (Kd.int .i64) w A0_1 l0_1.length l0_1) (hc0_1 : l0_1.length ≤ c0_1) (h : impl_allLetters.f a0_0 l0_1 = some r) :
  Calls Tryz.prog 65 #[.agg #[.int .i64 a0_0,.slice A0_1 l0_1.length c0_1]] w fun e w' => e = .returned (.int .i64 r) ∧ Below w.heap.size w w' := by
 have hu26:=Tryz.underlying26
 have HR0_1:=zA hr0_1
 have HC0_1:=zA hc0_1
 clear hr0_1 hc0_1
 have HB:=zA (kW w.heap.size w)
 have H:=h
 unfold impl_allLetters.f at H
 clear h
 obtain ⟨t406,A2,H⟩:=zb H
 try dsimp only at H
 obtain rfl:=Option.some.inj H
 go_enter Tryz.func65,Tryz.ntmps65
 go_wp2_with (first | (refine zBE 1 #[.int .i64 a0_0,.slice A0_1 l0_1.length c0_1] 26 ?_;intro gb405 hg w3 hbox hb;have BK405:=zA (hbox);have GW405:=zA (zBH hg HB.out);have GE405:=zA (zBH hg HB.out);replace HB:=zA (kQ (zQ HB.out) hb);clear hb hbox hg;obtain ⟨hcz4_0,hcz4_1,hfz4_0,hfz4_1⟩:=zB3 BK405.out) | (refine zO (some 5) Tryz.func55 #[.int .i64 a0_0] ?_;(with_reducible refine (impl_one.calls a0_0 t406 _ A2.out).mono ?_);rintro e w' ⟨rfl,⟨nd,rfl⟩⟩;refine ⟨_,rfl,?_⟩))
 go_ret
 exact ⟨zr,zT HB.out GE405.out⟩
end Go.Proofs.YtemdfjdmokbcoaaGreatDoor.PAll
