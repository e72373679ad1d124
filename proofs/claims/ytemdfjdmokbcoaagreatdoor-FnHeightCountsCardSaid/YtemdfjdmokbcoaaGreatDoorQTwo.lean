import Derived.Test.YtemdfjdmokbcoaaGreatDoorProg
import Derived.Test.YtemdfjdmokbcoaaGreatDoorQGrid
set_option linter.unusedVariables false
set_option linter.unusedSimpArgs false
namespace Go.Proofs.YtemdfjdmokbcoaaGreatDoor.T
open Go.RowKit Go.Proofs.YtemdfjdmokbcoaaGreatDoorW.PrintWords
section
variable {w2 w0:World} {N b:Nat} {G:Int → Nat} {st:List Int} {W w3:World} {R:Int → List Int}
theorem grI_far (h:GrI w2 N b G st W R) {g:Nat} (h2:w2.heap.size ≤ g) (hb:g ≠ b) (hg:∀ s ∈ st,g ≠ G s) (k:Nat) (v:Value):GrI w2 N b G st (W.setCell ⟨g,k,none⟩ v) R :=
  ⟨mapG_block h.1 (Below.heap_setCell W _ _ b (fun e=>hb e.symm)),fun t ht=>⟨rowAt_block (h.2.1 t ht).1 (Below.heap_setCell W _ _ (G t) (fun e=>hg t ht e.symm)),(h.2.1 t ht).2⟩,h.2.2.1,below_set h.2.2.2.1 h2,h.2.2.2.2⟩
theorem grI_other (h:GrI w2 N b G st W R) {c:Nat} (hg:W.grownBy w3 (some c)) (h2:w2.heap.size ≤ c) (hb:b ≠ c) (hr:∀ s ∈ st,G s ≠ c):GrI w2 N b G st w3 R :=
  ⟨mapG_kept h.1 hg (fun e=>hb (Option.some.inj e)),fun t ht=>⟨rowAt_block (h.2.1 t ht).1 (hg.block _ (rowAt_lt (h.2.1 t ht).1) (fun e=>hr t ht (Option.some.inj e))),(h.2.1 t ht).2⟩,h.2.2.1,Below.grown h.2.2.2.1 hg h.2.2.2.1.size (fun j hj=>by cases hj;exact h2),h.2.2.2.2⟩
theorem grI_from (h:GrI w2 N b G st W R) (hb:Below w0.heap.size w0 w2):GrI w0 N b G st W R :=
  ⟨h.1,fun s hs=>⟨(h.2.1 s hs).1,Nat.le_trans hb.size (h.2.1 s hs).2⟩,h.2.2.1,Below.grown hb (grown_of_below h.2.2.2.1 none) hb.size (fun j hj=>by cases hj),Nat.le_trans hb.size h.2.2.2.2⟩
end
theorem rowAt_R {W:World} {g N base:Nat} {xs:List Int} {ok:Nat → Prop} (h:RowAt W g N xs) (hN:N ≤ 1000000001) (hb:base ≤ g) (hok:ok g):Kd.R (Kd.int .i64) 2 W base ok (.slice (some ⟨g,0,none⟩) N N) xs:=by
  obtain ⟨cs,h1,h2,h3,h4⟩:=h
  subst h3
  refine Kd.R_of_own ⟨by simp [encs],Or.inr ⟨g,xs.length,cs,rfl,hb,h1,Nat.le_refl _,by unfold maxLen;omega,by omega,?_⟩⟩ (fun k hk=>?_)
  · refine List.ext_getElem? (fun j=>?_)
    by_cases hj:j < xs.length
    · rw [List.getElem?_take,if_pos (by omega),Array.getElem?_toList,h4 j hj]
      simp [encs,List.getD_eq_getElem?_getD,hj]
    · rw [List.getElem?_eq_none (by simp;omega),List.getElem?_eq_none (by simp [encs];omega)]
  · have e:g = k:=by simpa [Value.ownBlock] using hk
    rw [← e]
    exact hok
def OneR (w2:World) (m0 N bo b:Nat) (G:Int → Nat) (st:List Int) (v:Value) (s0:List Int) (W:World) (R:Int → List Int) (out:List Int):Prop :=
  GrI w2 N b G st W R ∧ RowAt W bo N out ∧ w2.heap.size ≤ bo ∧ bo ≠ b ∧ (∀ s ∈ st,bo ≠ G s) ∧ m0 ≤ b ∧ (∀ s ∈ st,m0 ≤ G s) ∧ Kd.R (Kd.int .i64) 2 W w2.heap.size (fun k=>k ≠ bo ∧ k < m0) v s0
section
variable {w2:World} {m0 N bo b:Nat} {G:Int → Nat} {st:List Int} {v:Value} {s0:List Int} {W w1:World} {R:Int → List Int} {out:List Int}
theorem oneR_below (h:OneR w2 m0 N bo b G st v s0 W R out) (hb:Below W.heap.size W w1):OneR w2 m0 N bo b G st v s0 w1 R out:=by
  obtain ⟨a1,a2,a3,a4,a5,a6,a7,a8⟩:=h
  exact ⟨grI_below a1 hb,rowAt_block a2 (hb.block _ (rowAt_lt a2)),a3,a4,a5,a6,a7,Kd.R_below a8 hb⟩
theorem oneR_drawn (h:OneR w2 m0 N bo b G st v s0 W R out) (hd:Drawn0 W w1):OneR w2 m0 N bo b G st v s0 w1 R out:=by
  obtain ⟨m,rfl⟩:=hd
  exact oneR_below h (pw_below_drewN (Below.refl _ _) m)
theorem oneR_set (h:OneR w2 m0 N bo b G st v s0 W R out) {s k:Int} (hs:s ∈ st) (h0:0 ≤ k) (h1:k < (N:Int)) (x:Int):OneR w2 m0 N bo b G st v s0 (W.setCell ⟨G s,k.toNat,none⟩ (.int .i64 x)) (updR R s k x) out:=by
  obtain ⟨a1,a2,a3,a4,a5,a6,a7,a8⟩:=h
  exact ⟨grI_set a1 hs h0 h1 x,rowAt_block a2 (Below.heap_setCell W _ _ bo (fun e=>a5 s hs e)),a3,a4,a5,a6,a7,Kd.R_far a8 (fun k hk e=>by have:=a7 s hs;have:=hk.2;simp only at e;omega) _⟩
theorem oneR_out (h:OneR w2 m0 N bo b G st v s0 W R out) {k:Int} (h0:0 ≤ k) (h1:k < (N:Int)) (x:Int):OneR w2 m0 N bo b G st v s0 (W.setCell ⟨bo,k.toNat,none⟩ (.int .i64 x)) R (out.set k.toNat x):=by
  obtain ⟨a1,a2,a3,a4,a5,a6,a7,a8⟩:=h
  exact ⟨grI_far a1 a3 a4 a5 _ _,rowAt_set a2 h0 h1 x,a3,a4,a5,a6,a7,Kd.R_far a8 (fun k hk e=>hk.1 e) _⟩
theorem oneR_far (h:OneR w2 m0 N bo b G st v s0 W R out) {g:Nat} (h2:w2.heap.size ≤ g) (h4:m0 ≤ g) (h3:g ≠ bo) (hb:g ≠ b) (hg:∀ s ∈ st,g ≠ G s) (k:Nat) (x:Value):OneR w2 m0 N bo b G st v s0 (W.setCell ⟨g,k,none⟩ x) R out:=by
  obtain ⟨a1,a2,a3,a4,a5,a6,a7,a8⟩:=h
  exact ⟨grI_far a1 h2 hb hg k x,rowAt_block a2 (Below.heap_setCell W _ _ bo (fun e=>h3 e.symm)),a3,a4,a5,a6,a7,Kd.R_far a8 (fun k hk e=>by have:=hk.2;simp only at e;omega) _⟩
theorem oneR_other (h:OneR w2 m0 N bo b G st v s0 W R out) {c:Nat} (hg:W.grownBy w1 (some c)) (h2:w2.heap.size ≤ c) (h4:m0 ≤ c) (h3:bo ≠ c) (hb:b ≠ c) (hr:∀ s ∈ st,G s ≠ c):OneR w2 m0 N bo b G st v s0 w1 R out:=by
  obtain ⟨a1,a2,a3,a4,a5,a6,a7,a8⟩:=h
  exact ⟨grI_other a1 hg h2 hb hr,rowAt_block a2 (hg.block _ (rowAt_lt a2) (fun e=>h3 (Option.some.inj e))),a3,a4,a5,a6,a7,Kd.R_grown a8 hg (fun k hk e=>by have:=hk.2;have:=Option.some.inj e;omega)⟩
theorem oneR_snoc (h : OneR w2 m0 N bo b G st v s0 W R out) {s : Int} (hn : s ∉ st) {o : Obj} {w3 : World} (hrow : RowAt (W.alloc o) W.heap.size N (R s))
    (hm:MapG Tryz.prog 2 N w3 b (if decide (s ∈ st) = true then st.length else st.length + 1) (fun c=>if c = s then true else decide (c ∈ st)) (fun c=>if c = s then ((W.heap.size:Nat):Int) else if c ∈ st then (G c:Int) else -1)) (hg:(W.alloc o).grownBy w3 (some b)) :
    OneR w2 m0 N bo b (fun t=>if t = s then W.heap.size else G t) (st ++ [s]) v s0 w3 R out:=by
  obtain ⟨a1,a2,a3,a4,a5,a6,a7,a8⟩:=h
  have hlt:=rowAt_lt a2
  have hlb:=mapG_lt a1.1
  have hb:=below_alloc (Below.refl W.heap.size W) o
  have ho:=rowAt_block a2 (hb.block _ hlt)
  refine ⟨grI_snoc a1 hn hrow hm hg,rowAt_block ho (hg.block _ (rowAt_lt ho) (fun e=>a4 (Option.some.inj e))),a3,a4,fun t ht=>?_,a6,fun t ht=>?_,Kd.R_grown (Kd.R_below a8 hb) hg (fun k hk e=>by have:=hk.2;have:=Option.some.inj e;omega)⟩
  · by_cases e:t = s
    · simp only [if_pos e];omega
    · simp only [if_neg e]
      exact a5 t (by simpa [e] using ht)
  · by_cases e:t = s
    · simp only [if_pos e];omega
    · simp only [if_neg e]
      exact a7 t (by simpa [e] using ht)
theorem oneR_nil (hr:RowAt W bo N out) (h2:w2.heap.size ≤ bo) (hb:Below w2.heap.size w2 W) (hm:m0 ≤ W.heap.size) (hs:Kd.R (Kd.int .i64) 2 W w2.heap.size (fun k=>k ≠ bo ∧ k < m0) v s0) (G:Int → Nat) (R:Int → List Int):OneR w2 m0 N bo W.heap.size G [] v s0 (W.alloc (.map #[] 0)) R out:=by
  have hlt:=rowAt_lt hr
  have hx:=below_alloc (Below.refl W.heap.size W) (.map #[] 0)
  exact ⟨grI_from (grI_nil W N G R) hb,rowAt_block hr (hx.block _ hlt),h2,by omega,fun s hs=>by simp at hs,hm,fun s hs=>by simp at hs,Kd.R_below hs hx⟩
theorem oneR_tail (h:OneR w2 m0 N bo b G st v s0 W R out):Below w2.heap.size w2 W:=h.1.2.2.2.1
end
def TwoR (w2:World) (m0 N bo b1:Nat) (G1:Int → Nat) (st:List Int) (R1:Int → List Int) (m b2:Nat) (G2:Int → Nat) (st2:List Int) (v:Value) (s0:List Int) (W:World) (R2:Int → List Int) (out:List Int):Prop :=
  OneR w2 m0 N bo b1 G1 st v s0 W R1 out ∧ OneR w2 m0 N bo b2 G2 st2 v s0 W R2 out ∧ b1 < m ∧ (∀ s ∈ st,G1 s < m) ∧ m ≤ b2 ∧ (∀ s ∈ st2,m ≤ G2 s) ∧ w2.heap.size ≤ m ∧ m0 ≤ m
section
variable {w2:World} {m0 N bo b1:Nat} {G1:Int → Nat} {st:List Int} {R1:Int → List Int} {m b2:Nat} {G2:Int → Nat} {st2:List Int} {v:Value} {s0:List Int} {W w1:World} {R2:Int → List Int} {out:List Int}
theorem twoR_start (h:OneR w2 m0 N bo b1 G1 st v s0 W R1 out) (G2:Int → Nat) (R2:Int → List Int):TwoR w2 m0 N bo b1 G1 st R1 W.heap.size W.heap.size G2 [] v s0 (W.alloc (.map #[] 0)) R2 out:=by
  have hx:=below_alloc (Below.refl W.heap.size W) (.map #[] 0)
  have hlt:=mapG_lt h.1.1
  have hm0:=h.2.2.2.2.2.1
  exact ⟨oneR_below h hx,oneR_nil h.2.1 h.2.2.1 h.1.2.2.2.1 (by omega) h.2.2.2.2.2.2.2 G2 R2,hlt,fun s hs=>rowAt_lt (h.1.2.1 s hs).1,Nat.le_refl _,fun s hs=>by simp at hs,h.1.2.2.2.1.size,by omega⟩
theorem twoR_below (h:TwoR w2 m0 N bo b1 G1 st R1 m b2 G2 st2 v s0 W R2 out) (hb:Below W.heap.size W w1):TwoR w2 m0 N bo b1 G1 st R1 m b2 G2 st2 v s0 w1 R2 out :=
  ⟨oneR_below h.1 hb,oneR_below h.2.1 hb,h.2.2⟩
theorem twoR_drawn (h:TwoR w2 m0 N bo b1 G1 st R1 m b2 G2 st2 v s0 W R2 out) (hd:Drawn0 W w1):TwoR w2 m0 N bo b1 G1 st R1 m b2 G2 st2 v s0 w1 R2 out :=
  ⟨oneR_drawn h.1 hd,oneR_drawn h.2.1 hd,h.2.2⟩
theorem twoR_out (h:TwoR w2 m0 N bo b1 G1 st R1 m b2 G2 st2 v s0 W R2 out) {k:Int} (h0:0 ≤ k) (h1:k < (N:Int)) (x:Int):TwoR w2 m0 N bo b1 G1 st R1 m b2 G2 st2 v s0 (W.setCell ⟨bo,k.toNat,none⟩ (.int .i64 x)) R2 (out.set k.toNat x) :=
  ⟨oneR_out h.1 h0 h1 x,oneR_out h.2.1 h0 h1 x,h.2.2⟩
theorem twoR_set (h:TwoR w2 m0 N bo b1 G1 st R1 m b2 G2 st2 v s0 W R2 out) {s k:Int} (hs:s ∈ st2) (h0:0 ≤ k) (h1:k < (N:Int)) (x:Int):TwoR w2 m0 N bo b1 G1 st R1 m b2 G2 st2 v s0 (W.setCell ⟨G2 s,k.toNat,none⟩ (.int .i64 x)) (updR R2 s k x) out:=by
  obtain ⟨a1,a2,a3,a4,a5,a6,a7,a8⟩:=h
  have h2:=a6 s hs
  exact ⟨oneR_far a1 (Nat.le_trans a7 h2) (Nat.le_trans a8 h2) (fun e=>a2.2.2.2.2.1 s hs e.symm) (by omega) (fun t ht=>by have:=a4 t ht;omega) _ _,oneR_set a2 hs h0 h1 x,a3,a4,a5,a6,a7,a8⟩
theorem twoR_snoc (h : TwoR w2 m0 N bo b1 G1 st R1 m b2 G2 st2 v s0 W R2 out) {s : Int} (hn : s ∉ st2) {o : Obj} {w3 : World} (hrow : RowAt (W.alloc o) W.heap.size N (R2 s))
    (hm:MapG Tryz.prog 2 N w3 b2 (if decide (s ∈ st2) = true then st2.length else st2.length + 1) (fun c=>if c = s then true else decide (c ∈ st2)) (fun c=>if c = s then ((W.heap.size:Nat):Int) else if c ∈ st2 then (G2 c:Int) else -1)) (hg:(W.alloc o).grownBy w3 (some b2)) :
    TwoR w2 m0 N bo b1 G1 st R1 m b2 (fun t=>if t = s then W.heap.size else G2 t) (st2 ++ [s]) v s0 w3 R2 out:=by
  obtain ⟨a1,a2,a3,a4,a5,a6,a7,a8⟩:=h
  have hb:=below_alloc (Below.refl W.heap.size W) o
  have hlt:=mapG_lt a2.1.1
  refine ⟨oneR_other (oneR_below a1 hb) hg (Nat.le_trans a7 a5) (Nat.le_trans a8 a5) a2.2.2.2.1 (by omega) (fun t ht=>by have:=a4 t ht;omega),oneR_snoc a2 hn hrow hm hg,a3,a4,a5,fun t ht=>?_,a7,a8⟩
  by_cases e:t = s
  · simp only [if_pos e];omega
  · simp only [if_neg e]
    exact a6 t (by simpa [e] using ht)
end
end Go.Proofs.YtemdfjdmokbcoaaGreatDoor.T
