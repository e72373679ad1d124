import Derived.Test.YtpenijicdldipaaDoorPAllx0
import Derived.Test.YtpenijicdldipaaDoorPAllx2
import Derived.Test.YtpenijicdldipaaDoorPAllx3
import Derived.Test.YtpenijicdldipaaDoorPAllx4
import Derived.Test.YtpenijicdldipaaDoorPAllx9
namespace Go.Proofs.YtpenijicdldipaaDoor.PAll
open Go.RowKit Go.Proofs.YtpenijicdldipaaDoor.T Go.Proofs.YtpenijicdldipaaDoorW.PrintWords Go.Proofs.YtpenijicdldipaaDoorW.PrintLast Go.Proofs.YtpenijicdldipaaDoorW.PrintMore
attribute [local go_sem] max2_int min2_int max_two min_two max_three min_three max_four min_four   -- for this text's walks alone
set_option linter.unusedVariables false
set_option linter.unusedSimpArgs false
def impl_LatestSteps.l0:Nat → List Int → Int → Int → Int → Option (List Int × Int)
 | 0,_,_,_,_=>none
 | k + 1,x9,x10,x34,x35=>if x35 < x34 then (if 0 ≤ x35 then (if x35 < (x9.length:Int) then (impl_LatestSteps.l0 k (x9.set (x35:Int).toNat (wrap64 ((wrap64 (x10 + 1)) - (rd x9 x35)))) x10 x34 (wrap64 (x35 + 1))) else (none)) else (none)) else (some (x9,0))
def impl_LatestSteps.f (k:Nat) (a0_0:Int) (l0_1:List Int) (l1:List Int):Option (List Int × Int):=(impl_checkWords.f k a0_0 l0_1 (([l1]:List (List Int)))).bind fun t711=>(if t711 = 0 then ((impl_positions.f k a0_0 l0_1 l1).bind fun bt712=>((impl_chainsFrom.f k bt712.2).bind fun t718=>((impl_Alphabet_ties.f a0_0 l0_1).bind fun t721=>((impl_ties_foata.f k t721 l1).bind fun t724=>((impl_length_int64.f t724).bind fun t727=>(impl_LatestSteps.l0 k t718 t727 (t718.length:Int) 0)))))) else (some (([]:List Int),t711)))
set_option maxHeartbeats 8000000 in
set_option maxRecDepth 100000 in
theorem impl_LatestSteps.calls (k:Nat) (a0_0:Int) (P0_1_:Nat → Prop) (A0_1:Option Addr) (c0_1:Nat) (l0_1:List Int) (P1_:Nat → Prop) (A1:Option Addr) (c1:Nat) (l1:List Int) (r1:List Int) (r2:Int) (w:World) (hs0_1:Kd.V (Kd.int .i64) 2 w w.heap.size (fun k_=>P0_1_ k_) (.slice A0_1 l0_1.length c0_1) l0_1) (hs1:Kd.V (Kd.int .i64) 2 w w.heap.size (fun k_=>P1_ k_) (.slice A1 l1.length c1) l1) (hT:TabW w) (h:impl_LatestSteps.f k a0_0 l0_1 l1 = some (r1,r2)) :
  Calls Tryd.prog 22 #[.agg #[.int .i64 a0_0,.slice A0_1 l0_1.length c0_1],.slice A1 l1.length c1] w fun e w' => ∃ v0_:Value,e = .returned (.tuple #[v0_,.int .i64 r2]) ∧ Kd.R (Kd.int .i64) 2 w' w.heap.size (fun k_=>(w.heap.size ≤ k_)) v0_ r1 ∧ Below w.heap.size w w' := by
 have hu28:=Tryd.underlying28
 have HT:=zA hT
 clear hT
 have HO0_1:=zA (show Kd.V (Kd.int .i64) 2 w w.heap.size (fun k_=>((P0_1_ k_ ∨ P1_ k_) ∨ w.heap.size ≤ k_)) (.slice A0_1 l0_1.length c0_1) l0_1 from kN hs0_1 (fun k_ hk=>.inl (.inl hk)))
 have HO1:=zA (show Kd.V (Kd.int .i64) 2 w w.heap.size (fun k_=>((P0_1_ k_ ∨ P1_ k_) ∨ w.heap.size ≤ k_)) (.slice A1 l1.length c1) l1 from kN hs1 (fun k_ hk=>.inl (.inr hk)))
 have HB:=zA (kW w.heap.size w)
 have H:=h
 unfold impl_LatestSteps.f at H
 clear h
 obtain ⟨y708,hy708⟩:∃ y_:List (List Int),y_ = (([l1]:List (List Int))):=⟨_,rfl⟩
 replace H:((impl_checkWords.f k a0_0 l0_1 y708).bind fun t711=>(if t711 = 0 then ((impl_positions.f k a0_0 l0_1 l1).bind fun bt712=>((impl_chainsFrom.f k bt712.2).bind fun t718=>((impl_Alphabet_ties.f a0_0 l0_1).bind fun t721=>((impl_ties_foata.f k t721 l1).bind fun t724=>((impl_length_int64.f t724).bind fun t727=>(impl_LatestSteps.l0 k t718 t727 (t718.length:Int) 0)))))) else (some (([]:List Int),t711)))) = some (r1,r2):=zy hy708 H
 have Ny708:=zA hy708
 clear hy708
 obtain ⟨t711,A3,H⟩:=zb H
 try dsimp only at H
 by_cases c4:t711 = 0
 ·rw [if_pos c4] at H
  obtain ⟨c4b0,c4b1⟩:=zT1 c4
  clear c4
  obtain ⟨⟨t712,t715⟩,A5,H⟩:=zb H
  try dsimp only at H
  obtain ⟨t718,A6,H⟩:=zb H
  try dsimp only at H
  obtain ⟨t721,A7,H⟩:=zb H
  try dsimp only at H
  obtain ⟨t724,A8,H⟩:=zb H
  try dsimp only at H
  obtain ⟨t727,A9,H⟩:=zb H
  try dsimp only at H
  have H' := zA H
  clear H
  go_enter Tryd.func22,Tryd.ntmps22
  go_wp2_with (first | (refine zBE 2 #[.int .i64 a0_0,.slice A0_1 l0_1.length c0_1] 28 ?_;intro gb707 hg w10 hbox hb;replace HO0_1:=zA (kG (jD (zPV HO0_1.out) gb707 (Nat.le_of_eq hg.symm)) hb);replace HO1:=zA (kG (jD (zPV HO1.out) gb707 (Nat.le_of_eq hg.symm)) hb);have BK707:=zA (hbox);have GW707:=zA (zBH hg HB.out);have GE707:=zA (zBH hg HB.out);replace HB:=zA (kQ (zQ HB.out) hb);clear hb hbox hg;obtain ⟨hcz11_0,hcz11_1,hfz11_0,hfz11_1⟩:=zB3 BK707.out) | ((with_reducible refine kS (N:=15) rfl ?_);refine Kd.N_lit (Kd.slice 2 (Kd.int .i64)) _ 22 ?hg (N' := 15) ?hd (xs:=([l1]:List (List Int))) (inner:=[.slice A1 l1.length c1]) (ok:=(fun k_=>((P0_1_ k_ ∨ P1_ k_) ∨ w.heap.size ≤ k_) ∧ k_ ≠ gb707)) (okp:=(fun k_=>((P0_1_ k_ ∨ P1_ k_) ∨ w.heap.size ≤ k_) ∧ k_ ≠ gb707)) ?hr ?hp (fun _ hk=>hk) ((show ∀ k_:Nat,(_:Nat) ≤ k_ → (fun k_=>((P0_1_ k_ ∨ P1_ k_) ∨ w.heap.size ≤ k_) ∧ k_ ≠ gb707) k_ from fun k_ hk=>⟨(.inr (Nat.le_trans (kP (zT HB.out GE707.out)) hk)),jE (g:=gb707) (o:=.cells #[.int .i64 a0_0,.slice A0_1 l0_1.length c0_1] 28 (0,0)) (zR BK707.out) k_ hk⟩) _ (Nat.le_refl _)) (kW _ _) (Nat.le_refl _) (by simp) ?_;(case hd=>rfl);(case hg=>rfl);(case hr=>first | (go_simp;done) | (go_simp;rfl));(case hp=>exact (Reps.one (show Kd.FK (Kd.slice 2 (Kd.int .i64)) _ _ l1 [.slice A1 l1.length c1] from (zFK (kN (ok' := (fun k_=>((P0_1_ k_ ∨ P1_ k_) ∨ w.heap.size ≤ k_) ∧ k_ ≠ gb707)) (HO1.out) (fun k_ hk=>⟨hk.1,hk.2⟩)))) (Reps.none _ _)));intro v709 w12 ho13 hb hg_ hnew_;clear hg_ hnew_;(first | rw [← Ny708.out] at ho13 | (simp only [Int.reduceToNat] at ho13;rw [← Ny708.out] at ho13));replace HO0_1:=zA (kK (zPV HO0_1.out) (Kd.N_base ho13) hb);replace HO1:=zA (kK (zPV HO1.out) (Kd.N_base ho13) hb);have HO710:=zA (jN ho13 (kP (zT HB.out GE707.out)));replace BK707:=zA (zB1 BK707.out hb);replace HB:=zA (kQ (zT HB.out GE707.out) hb);clear hb ho13;obtain ⟨Ao14,co14,eo14⟩:=Kd.N_slice HO710.out;subst eo14) | (refine zO (some 16) Tryd.func30 #[.agg #[.int .i64 a0_0,.slice A0_1 l0_1.length c0_1],.slice Ao14 y708.length co14] ?_;(with_reducible refine (impl_checkWords.calls k a0_0 _ _ l0_1 _ _ y708 t711 _ ?side1 ?side2 ?side3 ?side4 ?side5 A3.out).mono ?_);(case side1=>exact zS (kJ HO0_1.out).2.2);(case side2=>exact (kJ HO0_1.out).2.1);(case side3=>exact zS (Kd.N_reads' HO710.out).2.2);(case side4=>exact (Kd.N_reads' HO710.out).2.1);(case side5=>exact TabW.below HT.out (zT HB.out GE707.out));rintro e w15 ⟨rfl,hb⟩;refine ⟨_,rfl,?_⟩;replace HO0_1:=zA (kG (zPV HO0_1.out) hb);replace HO1:=zA (kG (zPV HO1.out) hb);replace HO710:=zA (kZ (zPN HO710.out) hb);replace BK707:=zA (zB1 BK707.out hb);replace HB:=zA (kQ (zT HB.out GE707.out) hb);(try clear hb);obtain ⟨hcz16_0,hcz16_1,hfz16_0,hfz16_1⟩:=zB3 BK707.out) | (refine zO (some 23) Tryd.func31 #[.agg #[.int .i64 a0_0,.slice A0_1 l0_1.length c0_1],.slice A1 l1.length c1] ?_;(with_reducible refine (impl_positions.calls k a0_0 _ _ l0_1 _ _ l1 t712 t715 _ ?side1 ?side2 ?side3 ?side4 ?side5 A5.out).mono ?_);(case side1=>exact zS (kJ HO0_1.out).2.2);(case side2=>exact (kJ HO0_1.out).2.1);(case side3=>exact zS (kJ HO1.out).2.2);(case side4=>exact (kJ HO1.out).2.1);(case side5=>exact TabW.below HT.out (zT HB.out GE707.out));rintro e w17 ⟨v713,v716,rfl,ho0,ho1,hb⟩;refine ⟨_,rfl,?_⟩;replace HO0_1:=zA (kN (Kd.V_told (Kd.V_told (Kd.V_old (zPV HO0_1.out) hb) (kC ho0)) (kC ho1)) (fun _ h_=>h_.1));replace HO1:=zA (kN (Kd.V_told (Kd.V_told (Kd.V_old (zPV HO1.out) hb) (kC ho0)) (kC ho1)) (fun _ h_=>h_.1));replace HO710:=zA (Kd.N_mono (Kd.N_told (Kd.N_told (Kd.N_old (zPN HO710.out) hb) (kC ho0)) (kC ho1)) (fun _ h_=>h_.1));have HO714:=zA (kI (Kd.R_newM (M:=fun k_=>(w.heap.size ≤ k_)) ho0 (kP (zT HB.out GE707.out)) (fun k_ h_=>h_)) (kP (zT HB.out GE707.out)));have HO717:=zA (kI (Kd.R_newM (M:=fun k_=>(w.heap.size ≤ k_)) ho1 (kP (zT HB.out GE707.out)) (fun k_ h_=>h_)) (kP (zT HB.out GE707.out)));replace BK707:=zA (zB1 BK707.out hb);replace HB:=zA (kQ (zT HB.out GE707.out) hb);(try clear hb);(try clear ho0);(try clear ho1);obtain ⟨Ao18,co18,eo18⟩:=kM HO717.out;subst eo18) | (refine zO (some 27) Tryd.func32 #[.slice Ao18 t715.length co18] ?_;(with_reducible refine (impl_chainsFrom.calls k _ _ t715 t718 _ ?side1 ?side2 ?side3 A6.out).mono ?_);(case side1=>exact zS (kB HO717.out).2.2);(case side2=>exact (kB HO717.out).2.1);(case side3=>exact TabW.below HT.out (zT HB.out GE707.out));rintro e w19 ⟨v719,rfl,ho0,hb⟩;refine ⟨_,rfl,?_⟩;replace HO0_1:=zA (kK (zPV HO0_1.out) (kC ho0) hb);replace HO1:=zA (kK (zPV HO1.out) (kC ho0) hb);replace HO710:=zA (Kd.N_elder' (zPN HO710.out) (kC ho0) hb);have HO720:=zA (kI (kF (kF (Kd.R_newM (M:=fun k_=>(w.heap.size ≤ k_)) ho0 (kP (zT HB.out GE707.out)) (fun k_ h_=>h_)) (kH (zP HO714.out))) (kH (zP HO717.out))) (kP (zT HB.out GE707.out)));replace HO714:=zA (kE (zP HO714.out) (kC ho0) hb);replace HO717:=zA (kE (zP HO717.out) (kC ho0) hb);replace BK707:=zA (zB1 BK707.out hb);replace HB:=zA (kQ (zT HB.out GE707.out) hb);(try clear hb);(try clear ho0);obtain ⟨hcz20_0,hcz20_1,hfz20_0,hfz20_1⟩:=zB3 BK707.out) | (refine zO (some 29) Tryd.func38 #[.agg #[.int .i64 a0_0,.slice A0_1 l0_1.length c0_1]] ?_;(with_reducible refine (impl_Alphabet_ties.calls a0_0 (fun k_=>(((((((P0_1_ k_ ∨ P1_ k_) ∨ w.heap.size ≤ k_) ∧ k_ ≠ gb707) ∧ some k_ ≠ (.slice Ao14 y708.length co14:Value).ownBlock) ∧ some k_ ≠ (v713:Value).ownBlock) ∧ some k_ ≠ (.slice Ao18 t715.length co18:Value).ownBlock) ∧ some k_ ≠ (v719:Value).ownBlock)) _ _ l0_1 t721 _ ?side1 A7.out).mono ?_);(case side1=>exact HO0_1.out);rintro e w21 ⟨v722,rfl,ho0,hb⟩;refine ⟨_,rfl,?_⟩;replace HO0_1:=zA (kG (zPV HO0_1.out) hb);replace HO1:=zA (kG (zPV HO1.out) hb);have HO723:=zA (jM (kN (ok' := fun k_=>((P0_1_ k_ ∨ P1_ k_) ∨ w.heap.size ≤ k_) ∧ some k_ ≠ (.slice Ao14 y708.length co14:Value).ownBlock ∧ some k_ ≠ (v713:Value).ownBlock ∧ some k_ ≠ (.slice Ao18 t715.length co18:Value).ownBlock ∧ some k_ ≠ (v719:Value).ownBlock ∧ k_ ≠ gb707) ho0 (fun k_ hk_=>⟨Or.elim hk_ (fun hs_=>hs_.1.1.1.1.1) (fun hn_=>(.inr (Nat.le_trans (kP (zT HB.out GE707.out)) hn_))),Or.elim hk_ (fun hs_=>hs_.1.1.1.2) (fun hn_=>(jF (jA (zPN HO710.out)) k_ hn_)),Or.elim hk_ (fun hs_=>hs_.1.1.2) (fun hn_=>(jF (kH (zP HO714.out)) k_ hn_)),Or.elim hk_ (fun hs_=>hs_.1.2) (fun hn_=>(jF (kH (zP HO717.out)) k_ hn_)),Or.elim hk_ (fun hs_=>hs_.2) (fun hn_=>(jF (kH (zP HO720.out)) k_ hn_)),Or.elim hk_ (fun hs_=>hs_.1.1.1.1.2) (fun hn_=>(jE (g:=gb707) (o:=.cells #[.int .i64 a0_0,.slice A0_1 l0_1.length c0_1] 28 (0,0)) (zR BK707.out) k_ hn_))⟩)) (kP (zT HB.out GE707.out)));replace HO710:=zA (kZ (zPN HO710.out) hb);replace HO714:=zA (kL (zP HO714.out) hb);replace HO717:=zA (kL (zP HO717.out) hb);replace HO720:=zA (kL (zP HO720.out) hb);replace BK707:=zA (zB1 BK707.out hb);replace HB:=zA (kQ (zT HB.out GE707.out) hb);(try clear hb);(try clear ho0);obtain ⟨Ao22,co22,eo22⟩:=Kd.V_slice HO723.out;subst eo22) | (refine zO (some 31) Tryd.func39 #[.slice Ao22 t721.length co22,.slice A1 l1.length c1] ?_;(with_reducible refine (impl_ties_foata.calls k _ _ t721 _ _ l1 t724 _ ?side1 ?side2 ?side3 ?side4 A8.out).mono ?_);(case side1=>exact zS (kJ HO723.out).2.2);(case side2=>exact (kJ HO723.out).2.1);(case side3=>exact zS (kJ HO1.out).2.2);(case side4=>exact (kJ HO1.out).2.1);rintro e w23 ⟨v725,rfl,ho0,hb⟩;refine ⟨_,rfl,?_⟩;replace HO0_1:=zA (kK (zPV HO0_1.out) (kC ho0) hb);replace HO1:=zA (kK (zPV HO1.out) (kC ho0) hb);replace HO710:=zA (Kd.N_elder' (zPN HO710.out) (kC ho0) hb);replace HO723:=zA (kK (zPV HO723.out) (kC ho0) hb);have HO726:=zA (kI (kF (kF (kF (Kd.R_newM (M:=fun k_=>(w.heap.size ≤ k_)) ho0 (kP (zT HB.out GE707.out)) (fun k_ h_=>h_)) (kH (zP HO714.out))) (kH (zP HO717.out))) (kH (zP HO720.out))) (kP (zT HB.out GE707.out)));replace HO714:=zA (kE (zP HO714.out) (kC ho0) hb);replace HO717:=zA (kE (zP HO717.out) (kC ho0) hb);replace HO720:=zA (kE (zP HO720.out) (kC ho0) hb);replace BK707:=zA (zB1 BK707.out hb);replace HB:=zA (kQ (zT HB.out GE707.out) hb);(try clear hb);(try clear ho0);obtain ⟨Ao24,co24,eo24⟩:=kM HO726.out;subst eo24) | (refine zO (some 32) Tryd.func34 #[.slice Ao24 t724.length co24] ?_;(with_reducible refine (impl_length_int64.calls _ _ t724 t727 _ ?side1 ?side2 A9.out).mono ?_);(case side1=>exact zS (kB HO726.out).2.2);(case side2=>exact (kB HO726.out).2.1);rintro e w' ⟨rfl,⟨nd,rfl⟩⟩;refine ⟨_,rfl,?_⟩;obtain ⟨Ao25,co25,eo25⟩:=kM HO720.out;subst eo25))
  go_loopg [35] k (fun kq v35 w' => ∃ (x9_1:List Int) (x35_1:Int),v35 = .int .i64 x35_1 ∧ Aside0 (impl_LatestSteps.l0 kq x9_1 t727 (t718.length:Int) x35_1 = some (r1,r2)) ∧ Aside0 (kq ≤ k) ∧ Aside0 (Kd.R (Kd.int .i64) 2 w' w.heap.size (fun k_=>(w.heap.size ≤ k_)) (.slice Ao25 t718.length co25) x9_1) ∧ Aside0 (Kd.V (Kd.int .i64) 2 w' w.heap.size (fun k_=>((P0_1_ k_ ∨ P1_ k_) ∨ w.heap.size ≤ k_) ∧ some k_ ≠ ((.slice Ao25 t718.length co25):Value).ownBlock ∧ k_ ≠ gb707) (.slice A0_1 l0_1.length c0_1) l0_1) ∧ Aside0 (w'.heap[gb707]? = some (.cells #[.int .i64 a0_0,(.slice A0_1 l0_1.length c0_1)] 28 (0,0))) ∧ Aside0 (Below w.heap.size w w'))
  case atStart=>exact ⟨(t718),(0),zs,H', ⟨Nat.le_refl _⟩,⟨zPM HO720.out (fun _ hk=>hk.1.1.1.1)⟩,⟨by (with_reducible repeat (first | apply Kd.V_alloc | apply Kd.V_drewN | apply Kd.V_drew));exact kN HO0_1.out (fun _ hk=>⟨hk.1.1.1.1.1.1,⟨hk.1.2,hk.1.1.1.1.1.2⟩⟩)⟩,⟨zR BK707.out⟩,⟨zT HB.out GE707.out⟩⟩
  case round =>
   clear H'
   try clear c1
   try clear c2
   try clear c3
   try clear c4
   try clear c22
   try clear hcz11_0
   try clear hcz11_1
   try clear hcz16_0
   try clear hcz16_1
   try clear hcz20_0
   try clear hcz20_1
   try clear hfz11_0
   try clear hfz11_1
   try clear hfz16_0
   try clear hfz16_1
   try clear hfz20_0
   try clear hfz20_1
   obtain ⟨x9_1,x35_1,rfl,HA,HK1,HO_9,HO_708001,BK707,HB⟩:=hrel
   have hl9_1:=(kB HO_9.out).1
   rw [hl9_1] at HO_9
   (try simp only [hl9_1])
   (try simp only [hl9_1] at BK707)
   (try simp only [hl9_1] at HO_708001)
   cases gk with
   | zero=>exact absurd HA.out (by simp [impl_LatestSteps.l0])
   | succ k1 =>
    have H:=HA.out
    clear HA
    simp only [impl_LatestSteps.l0] at H
    by_cases c26:x35_1 < (t718.length:Int)
    ·rw [if_pos c26] at H
     have c26b0:decide (x35_1 < (t718.length:Int)) = true:=decide_eq_true c26
     (try (have c26b0h0_:=c26b0;rw [hl9_1] at c26b0h0_))
     clear c26
     by_cases c27:0 ≤ x35_1
     ·rw [if_pos c27] at H
      have c27b0:decide (0 ≤ x35_1) = true:=decide_eq_true c27
      clear c27
      by_cases c28:x35_1 < (x9_1.length:Int)
      ·rw [if_pos c28] at H
       have c28b0:decide (x35_1 < (x9_1.length:Int)) = true:=decide_eq_true c28
       (try (have c28b0h0_:=c28b0;rw [hl9_1] at c28b0h0_))
       clear c28
       obtain ⟨y729,hy729⟩:∃ y_:List Int,y_ = (x9_1.set (x35_1:Int).toNat (wrap64 ((wrap64 (t727 + 1)) - (rd x9_1 x35_1)))):=⟨_,rfl⟩
       replace H:(impl_LatestSteps.l0 k1 y729 t727 (t718.length:Int) (wrap64 (x35_1 + 1))) = some (r1,r2):=zy hy729 H
       have Ny729:=zA hy729
       clear hy729
       have H' := zA H
       clear H
       have p728:0 ≤ (x35_1:Int):=zd
       have q728:x35_1 < (x9_1.length:Int):=zd
       obtain ⟨ad728,e728,hx728_0⟩:=Kd.at_int (kB HO_9.out).2.2 x35_1 p728 q728
       cases e728
       replace p728:=eq_true p728
       replace q728:=eq_true q728
       have p29:0 ≤ (x35_1:Int):=zd
       have q29:(x35_1:Int) < ((x9_1.length:Int):Int):=zd
       obtain ⟨go29,co29,eo29,gb29,gl29,cl29,HG29⟩:=Kd.R_form HO_9.out (by omega)
       (first | cases eo29 | (injection eo29 with ea_ en_ ec_;(first | subst ea_ | (injection ea_ with ea_;subst ea_));subst ec_;clear en_))
       have GB29:=zA gb29
       have GG29:=zA HG29
       clear gb29 gl29 HG29
       (first | simp only [add_plain] at hx728_0 | skip)
       obtain ⟨hx29_0,hf29_0⟩:=Kd.R_celln 0 HO_9.out (x35_1:Int) p29 q29
       replace p29:=eq_true p29
       replace q29:=eq_true q29
       have HP30:=Kd.R_putg HO_9.out (x35_1:Int) (wrap64 ((wrap64 (t727 + 1)) - (rd x9_1 x35_1)))
       go_wp2_with (first | ((with_reducible refine gate_store (t:=2) (p:=46) rfl ?_);refine store_event (t:=2) (p:=46) (v:=?vo_w31) (w1:=(wr.setCell ⟨go29,(x35_1:Int).toNat,none⟩ (.int .i64 (wrap64 ((wrap64 (t727 + 1)) - (rd x9_1 x35_1)))))) ?hg ?ho ?hn ?hr ?_;(case ho=>rfl);(case hg=>rfl);(case hn=>rfl);(case hr=>first | (go_simp;done) | (go_simp;rfl));intro w31 hw;have hg:wr.grownBy w31 (some go29):=(by rw [hw];exact HP30.2);have hp_:Kd.R (Kd.int .i64) 2 w31 w.heap.size (fun k_=>(w.heap.size ≤ k_)) (.slice (some ⟨go29,0,none⟩) x9_1.length co25) y729:=(by rw [hw,Ny729.out];exact HP30.1);clear HP30;replace HO_708001:=zA (Kd.V_afterv (v:=(.slice (some ⟨go29,0,none⟩) x9_1.length co25)) (v1:=(.slice (some ⟨go29,0,none⟩) x9_1.length co25)) (ok:=(fun k_=>((P0_1_ k_ ∨ P1_ k_) ∨ w.heap.size ≤ k_) ∧ k_ ≠ gb707)) (by (with_reducible repeat (first | apply Kd.V_alloc | apply Kd.V_drewN | apply Kd.V_drew));exact kN HO_708001.out (fun _ hk=>⟨⟨hk.1,hk.2.2⟩,hk.2.1⟩)) hg (.inl rfl));replace BK707:=zA (blk_grown (g:=gb707) (o:=.cells #[.int .i64 a0_0,.slice A0_1 l0_1.length c0_1] 28 (0,0)) (zR BK707.out) hg (Kd.R_ne HO_9.out BK707.out (by decide)));replace HO_9:=zA (hp_);replace HB:=zA ((by rw [hw];exact zE (HB.out) GB29.out:Below w.heap.size w w31));clear hg hw hp_))
       (try simp only [← hl9_1])
       go_roundg k1
       case measure=>have:=HK1.out;omega
       case rel=>exact ⟨(y729),(wrap64 (x35_1 + 1)),zs,H', ⟨by have:=HK1.out;omega⟩,⟨by (try simp only [hl9_1]);(with_reducible repeat (first | apply zF | apply zG | apply zH));exact HO_9.out⟩,⟨by (try simp only [hl9_1]);(with_reducible repeat (first | apply Kd.V_alloc | apply Kd.V_drewN | apply Kd.V_drew));exact kN HO_708001.out (fun _ hk=>⟨hk.1.1,⟨hk.2,hk.1.2⟩⟩)⟩,⟨by (try simp only [hl9_1]);(with_reducible repeat (first | refine zJ ?_ _ | refine zK ?_ | refine zI ?_ _));exact BK707.out⟩,⟨zT HB.out GE707.out⟩⟩
      rw [if_neg c28] at H
      exact absurd H (by simp)
     rw [if_neg c27] at H
     exact absurd H (by simp)
    rw [if_neg c26] at H
    have c26b0:decide (x35_1 < (t718.length:Int)) = false:=decide_eq_false c26
    (try (have c26b0h0_:=c26b0;rw [hl9_1] at c26b0h0_))
    clear c26
    simp only [Option.some.injEq,Prod.mk.injEq] at H
    obtain ⟨rfl,rfl⟩:=H
    go_wp2
    go_ret2
    exact ⟨_,zr,zP HO_9.out,zT HB.out GE707.out⟩
 rw [if_neg c4] at H
 obtain ⟨c4b0,c4b1⟩:=zT2 c4
 simp only [Option.some.injEq,Prod.mk.injEq] at H
 obtain ⟨rfl,rfl⟩:=H
 go_enter Tryd.func22,Tryd.ntmps22
 go_wp2_with (first | (refine zBE 2 #[.int .i64 a0_0,.slice A0_1 l0_1.length c0_1] 28 ?_;intro gb707 hg w32 hbox hb;replace HO0_1:=zA (kG (jD (zPV HO0_1.out) gb707 (Nat.le_of_eq hg.symm)) hb);replace HO1:=zA (kG (jD (zPV HO1.out) gb707 (Nat.le_of_eq hg.symm)) hb);have BK707:=zA (hbox);have GW707:=zA (zBH hg HB.out);have GE707:=zA (zBH hg HB.out);replace HB:=zA (kQ (zQ HB.out) hb);clear hb hbox hg;obtain ⟨hcz33_0,hcz33_1,hfz33_0,hfz33_1⟩:=zB3 BK707.out) | ((with_reducible refine kS (N:=15) rfl ?_);refine Kd.N_lit (Kd.slice 2 (Kd.int .i64)) _ 22 ?hg (N' := 15) ?hd (xs:=([l1]:List (List Int))) (inner:=[.slice A1 l1.length c1]) (ok:=(fun k_=>((P0_1_ k_ ∨ P1_ k_) ∨ w.heap.size ≤ k_) ∧ k_ ≠ gb707)) (okp:=(fun k_=>((P0_1_ k_ ∨ P1_ k_) ∨ w.heap.size ≤ k_) ∧ k_ ≠ gb707)) ?hr ?hp (fun _ hk=>hk) ((show ∀ k_:Nat,(_:Nat) ≤ k_ → (fun k_=>((P0_1_ k_ ∨ P1_ k_) ∨ w.heap.size ≤ k_) ∧ k_ ≠ gb707) k_ from fun k_ hk=>⟨(.inr (Nat.le_trans (kP (zT HB.out GE707.out)) hk)),jE (g:=gb707) (o:=.cells #[.int .i64 a0_0,.slice A0_1 l0_1.length c0_1] 28 (0,0)) (zR BK707.out) k_ hk⟩) _ (Nat.le_refl _)) (kW _ _) (Nat.le_refl _) (by simp) ?_;(case hd=>rfl);(case hg=>rfl);(case hr=>first | (go_simp;done) | (go_simp;rfl));(case hp=>exact (Reps.one (show Kd.FK (Kd.slice 2 (Kd.int .i64)) _ _ l1 [.slice A1 l1.length c1] from (zFK (kN (ok' := (fun k_=>((P0_1_ k_ ∨ P1_ k_) ∨ w.heap.size ≤ k_) ∧ k_ ≠ gb707)) (HO1.out) (fun k_ hk=>⟨hk.1,hk.2⟩)))) (Reps.none _ _)));intro v709 w34 ho35 hb hg_ hnew_;clear hg_ hnew_;(first | rw [← Ny708.out] at ho35 | (simp only [Int.reduceToNat] at ho35;rw [← Ny708.out] at ho35));replace HO0_1:=zA (kK (zPV HO0_1.out) (Kd.N_base ho35) hb);replace HO1:=zA (kK (zPV HO1.out) (Kd.N_base ho35) hb);have HO710:=zA (jN ho35 (kP (zT HB.out GE707.out)));replace BK707:=zA (zB1 BK707.out hb);replace HB:=zA (kQ (zT HB.out GE707.out) hb);clear hb ho35;obtain ⟨Ao36,co36,eo36⟩:=Kd.N_slice HO710.out;subst eo36) | (refine zO (some 16) Tryd.func30 #[.agg #[.int .i64 a0_0,.slice A0_1 l0_1.length c0_1],.slice Ao36 y708.length co36] ?_;(with_reducible refine (impl_checkWords.calls k a0_0 _ _ l0_1 _ _ y708 t711 _ ?side1 ?side2 ?side3 ?side4 ?side5 A3.out).mono ?_);(case side1=>exact zS (kJ HO0_1.out).2.2);(case side2=>exact (kJ HO0_1.out).2.1);(case side3=>exact zS (Kd.N_reads' HO710.out).2.2);(case side4=>exact (Kd.N_reads' HO710.out).2.1);(case side5=>exact TabW.below HT.out (zT HB.out GE707.out));rintro e w37 ⟨rfl,hb⟩;refine ⟨_,rfl,?_⟩;replace HO0_1:=zA (kG (zPV HO0_1.out) hb);replace HO1:=zA (kG (zPV HO1.out) hb);replace HO710:=zA (kZ (zPN HO710.out) hb);replace BK707:=zA (zB1 BK707.out hb);replace HB:=zA (kQ (zT HB.out GE707.out) hb);(try clear hb)))
 go_ret2
 exact ⟨_,zr,zn,zT HB.out GE707.out⟩
def impl_checkPosition.f (k:Nat) (a0_0:Int) (l0_1:List Int) (l1:List Int) (a2:Int):Option (List Int × Int):=(impl_checkWords.f k a0_0 l0_1 (([l1]:List (List Int)))).bind fun t734=>(if t734 = 0 then ((impl_length_int64.f l1).bind fun t735=>((impl_inRange.f a2 0 (wrap64 (t735 - 1))).bind fun t736=>(if t736 = true then ((impl_positions.f k a0_0 l0_1 l1).bind fun bt737=>(some (bt737.2,0))) else (some (([]:List Int),2))))) else (some (([]:List Int),t734)))
set_option maxHeartbeats 8000000 in
set_option maxRecDepth 100000 in
theorem impl_checkPosition.calls (k:Nat) (a0_0:Int) (A0_1:Option Addr) (c0_1:Nat) (l0_1:List Int) (P1_:Nat → Prop) (A1:Option Addr) (c1:Nat) (l1:List Int) (a2:Int) (r1:List Int) (r2:Int) (w:World) (hr0_1:Kd.C (Kd.int .i64) w A0_1 l0_1.length l0_1) (hc0_1:l0_1.length ≤ c0_1) (hs1:Kd.V (Kd.int .i64) 2 w w.heap.size (fun k_=>P1_ k_) (.slice A1 l1.length c1) l1) (hT:TabW w) (h:impl_checkPosition.f k a0_0 l0_1 l1 a2 = some (r1,r2)) :
  Calls Tryd.prog 41 #[.agg #[.int .i64 a0_0,.slice A0_1 l0_1.length c0_1],.slice A1 l1.length c1,.int .i64 a2] w fun e w' => ∃ v0_:Value,e = .returned (.tuple #[v0_,.int .i64 r2]) ∧ Kd.R (Kd.int .i64) 2 w' w.heap.size (fun k_=>(w.heap.size ≤ k_)) v0_ r1 ∧ Below w.heap.size w w' := by
 have hu28:=Tryd.underlying28
 have HT:=zA hT
 clear hT
 have HR0_1:=zA hr0_1
 have HC0_1:=zA hc0_1
 clear hr0_1 hc0_1
 have HO1:=zA (show Kd.V (Kd.int .i64) 2 w w.heap.size (fun k_=>(P1_ k_ ∨ w.heap.size ≤ k_)) (.slice A1 l1.length c1) l1 from kN hs1 (fun k_ hk=>.inl hk))
 have HB:=zA (kW w.heap.size w)
 have H:=h
 unfold impl_checkPosition.f at H
 clear h
 obtain ⟨y731,hy731⟩:∃ y_:List (List Int),y_ = (([l1]:List (List Int))):=⟨_,rfl⟩
 replace H:((impl_checkWords.f k a0_0 l0_1 y731).bind fun t734=>(if t734 = 0 then ((impl_length_int64.f l1).bind fun t735=>((impl_inRange.f a2 0 (wrap64 (t735 - 1))).bind fun t736=>(if t736 = true then ((impl_positions.f k a0_0 l0_1 l1).bind fun bt737=>(some (bt737.2,0))) else (some (([]:List Int),2))))) else (some (([]:List Int),t734)))) = some (r1,r2):=zy hy731 H
 have Ny731:=zA hy731
 clear hy731
 obtain ⟨t734,A4,H⟩:=zb H
 try dsimp only at H
 by_cases c5:t734 = 0
 ·rw [if_pos c5] at H
  obtain ⟨c5b0,c5b1⟩:=zT1 c5
  clear c5
  obtain ⟨t735,A6,H⟩:=zb H
  try dsimp only at H
  obtain ⟨t736,A7,H⟩:=zb H
  try dsimp only at H
  by_cases c8:t736 = true
  ·subst c8
   rw [if_pos rfl] at H
   obtain ⟨⟨t737,t740⟩,A9,H⟩:=zb H
   try dsimp only at H
   simp only [Option.some.injEq,Prod.mk.injEq] at H
   obtain ⟨rfl,rfl⟩:=H
   go_enter Tryd.func41,Tryd.ntmps41
   go_wp2_with (first | (refine zBE 3 #[.int .i64 a0_0,.slice A0_1 l0_1.length c0_1] 28 ?_;intro gb730 hg w10 hbox hb;replace HO1:=zA (kG (jD (zPV HO1.out) gb730 (Nat.le_of_eq hg.symm)) hb);have BK730:=zA (hbox);have GW730:=zA (zBH hg HB.out);have GE730:=zA (zBH hg HB.out);replace HB:=zA (kQ (zQ HB.out) hb);clear hb hbox hg;obtain ⟨hcz11_0,hcz11_1,hfz11_0,hfz11_1⟩:=zB3 BK730.out) | ((with_reducible refine kS (N:=13) rfl ?_);refine Kd.N_lit (Kd.slice 2 (Kd.int .i64)) _ 22 ?hg (N' := 13) ?hd (xs:=([l1]:List (List Int))) (inner:=[.slice A1 l1.length c1]) (ok:=(fun k_=>(P1_ k_ ∨ w.heap.size ≤ k_) ∧ k_ ≠ gb730)) (okp:=(fun k_=>(P1_ k_ ∨ w.heap.size ≤ k_) ∧ k_ ≠ gb730)) ?hr ?hp (fun _ hk=>hk) ((show ∀ k_:Nat,(_:Nat) ≤ k_ → (fun k_=>(P1_ k_ ∨ w.heap.size ≤ k_) ∧ k_ ≠ gb730) k_ from fun k_ hk=>⟨(.inr (Nat.le_trans (kP (zT HB.out GE730.out)) hk)),jE (g:=gb730) (o:=.cells #[.int .i64 a0_0,.slice A0_1 l0_1.length c0_1] 28 (0,0)) (zR BK730.out) k_ hk⟩) _ (Nat.le_refl _)) (kW _ _) (Nat.le_refl _) (by simp) ?_;(case hd=>rfl);(case hg=>rfl);(case hr=>first | (go_simp;done) | (go_simp;rfl));(case hp=>exact (Reps.one (show Kd.FK (Kd.slice 2 (Kd.int .i64)) _ _ l1 [.slice A1 l1.length c1] from (zFK (kN (ok' := (fun k_=>(P1_ k_ ∨ w.heap.size ≤ k_) ∧ k_ ≠ gb730)) (HO1.out) (fun k_ hk=>⟨hk.1,hk.2⟩)))) (Reps.none _ _)));intro v732 w12 ho13 hb hg_ hnew_;clear hg_ hnew_;(first | rw [← Ny731.out] at ho13 | (simp only [Int.reduceToNat] at ho13;rw [← Ny731.out] at ho13));replace HO1:=zA (kK (zPV HO1.out) (Kd.N_base ho13) hb);have HO733:=zA (jN ho13 (kP (zT HB.out GE730.out)));replace BK730:=zA (zB1 BK730.out hb);replace HB:=zA (kQ (zT HB.out GE730.out) hb);clear hb ho13;obtain ⟨Ao14,co14,eo14⟩:=Kd.N_slice HO733.out;subst eo14) | (refine zO (some 14) Tryd.func30 #[.agg #[.int .i64 a0_0,.slice A0_1 l0_1.length c0_1],.slice Ao14 y731.length co14] ?_;(with_reducible refine (impl_checkWords.calls k a0_0 _ _ l0_1 _ _ y731 t734 _ ?side1 ?side2 ?side3 ?side4 ?side5 A4.out).mono ?_);(case side1=>exact zS (kO HR0_1.out HB.out));(case side2=>exact HC0_1.out);(case side3=>exact zS (Kd.N_reads' HO733.out).2.2);(case side4=>exact (Kd.N_reads' HO733.out).2.1);(case side5=>exact TabW.below HT.out (zT HB.out GE730.out));rintro e w15 ⟨rfl,hb⟩;refine ⟨_,rfl,?_⟩;replace HO1:=zA (kG (zPV HO1.out) hb);replace HO733:=zA (kZ (zPN HO733.out) hb);replace BK730:=zA (zB1 BK730.out hb);replace HB:=zA (kQ (zT HB.out GE730.out) hb);(try clear hb)) | (refine zO (some 20) Tryd.func34 #[.slice A1 l1.length c1] ?_;(with_reducible refine (impl_length_int64.calls _ _ l1 t735 _ ?side1 ?side2 A6.out).mono ?_);(case side1=>exact zS (kJ HO1.out).2.2);(case side2=>exact (kJ HO1.out).2.1);rintro e w' ⟨rfl,⟨nd,rfl⟩⟩;refine ⟨_,rfl,?_⟩) | (refine zO (some 22) Tryd.func61 #[.int .i64 a2,.int .i64 0,.int .i64 (wrap64 (t735 - 1))] ?_;(with_reducible refine (impl_inRange.calls a2 0 (wrap64 (t735 - 1)) true _ A7.out).mono ?_);rintro e w' ⟨rfl,⟨nd,rfl⟩⟩;refine ⟨_,rfl,?_⟩;obtain ⟨hcz16_0,hcz16_1,hfz16_0,hfz16_1⟩:=zB3 BK730.out) | (refine zO (some 27) Tryd.func31 #[.agg #[.int .i64 a0_0,.slice A0_1 l0_1.length c0_1],.slice A1 l1.length c1] ?_;(with_reducible refine (impl_positions.calls k a0_0 _ _ l0_1 _ _ l1 t737 t740 _ ?side1 ?side2 ?side3 ?side4 ?side5 A9.out).mono ?_);(case side1=>exact zS (kO HR0_1.out (zT HB.out GE730.out)));(case side2=>exact HC0_1.out);(case side3=>exact zS (kJ HO1.out).2.2);(case side4=>exact (kJ HO1.out).2.1);(case side5=>exact TabW.below HT.out (zT HB.out GE730.out));rintro e w17 ⟨v738,v741,rfl,ho0,ho1,hb⟩;refine ⟨_,rfl,?_⟩;replace HO1:=zA (kN (Kd.V_told (Kd.V_told (Kd.V_old (zPV HO1.out) hb) (kC ho0)) (kC ho1)) (fun _ h_=>h_.1));replace HO733:=zA (Kd.N_mono (Kd.N_told (Kd.N_told (Kd.N_old (zPN HO733.out) hb) (kC ho0)) (kC ho1)) (fun _ h_=>h_.1));have HO739:=zA (kI (Kd.R_newM (M:=fun k_=>(w.heap.size ≤ k_)) ho0 (kP (zT HB.out GE730.out)) (fun k_ h_=>h_)) (kP (zT HB.out GE730.out)));have HO742:=zA (kI (Kd.R_newM (M:=fun k_=>(w.heap.size ≤ k_)) ho1 (kP (zT HB.out GE730.out)) (fun k_ h_=>h_)) (kP (zT HB.out GE730.out)));replace BK730:=zA (zB1 BK730.out hb);replace HB:=zA (kQ (zT HB.out GE730.out) hb);(try clear hb);(try clear ho0);(try clear ho1)))
   go_ret2
   exact ⟨_,zr,by (with_reducible repeat (first | apply zF | apply zG | apply zH));exact kA HO742.out (fun _ hk=>hk.1),zT HB.out GE730.out⟩
  replace c8:=Bool.eq_false_iff.mpr c8
  subst c8
  rw [if_neg (show ¬ (false = true) by decide)] at H
  simp only [Option.some.injEq,Prod.mk.injEq] at H
  obtain ⟨rfl,rfl⟩:=H
  go_enter Tryd.func41,Tryd.ntmps41
  go_wp2_with (first | (refine zBE 3 #[.int .i64 a0_0,.slice A0_1 l0_1.length c0_1] 28 ?_;intro gb730 hg w18 hbox hb;replace HO1:=zA (kG (jD (zPV HO1.out) gb730 (Nat.le_of_eq hg.symm)) hb);have BK730:=zA (hbox);have GW730:=zA (zBH hg HB.out);have GE730:=zA (zBH hg HB.out);replace HB:=zA (kQ (zQ HB.out) hb);clear hb hbox hg;obtain ⟨hcz19_0,hcz19_1,hfz19_0,hfz19_1⟩:=zB3 BK730.out) | ((with_reducible refine kS (N:=13) rfl ?_);refine Kd.N_lit (Kd.slice 2 (Kd.int .i64)) _ 22 ?hg (N' := 13) ?hd (xs:=([l1]:List (List Int))) (inner:=[.slice A1 l1.length c1]) (ok:=(fun k_=>(P1_ k_ ∨ w.heap.size ≤ k_) ∧ k_ ≠ gb730)) (okp:=(fun k_=>(P1_ k_ ∨ w.heap.size ≤ k_) ∧ k_ ≠ gb730)) ?hr ?hp (fun _ hk=>hk) ((show ∀ k_:Nat,(_:Nat) ≤ k_ → (fun k_=>(P1_ k_ ∨ w.heap.size ≤ k_) ∧ k_ ≠ gb730) k_ from fun k_ hk=>⟨(.inr (Nat.le_trans (kP (zT HB.out GE730.out)) hk)),jE (g:=gb730) (o:=.cells #[.int .i64 a0_0,.slice A0_1 l0_1.length c0_1] 28 (0,0)) (zR BK730.out) k_ hk⟩) _ (Nat.le_refl _)) (kW _ _) (Nat.le_refl _) (by simp) ?_;(case hd=>rfl);(case hg=>rfl);(case hr=>first | (go_simp;done) | (go_simp;rfl));(case hp=>exact (Reps.one (show Kd.FK (Kd.slice 2 (Kd.int .i64)) _ _ l1 [.slice A1 l1.length c1] from (zFK (kN (ok' := (fun k_=>(P1_ k_ ∨ w.heap.size ≤ k_) ∧ k_ ≠ gb730)) (HO1.out) (fun k_ hk=>⟨hk.1,hk.2⟩)))) (Reps.none _ _)));intro v732 w20 ho21 hb hg_ hnew_;clear hg_ hnew_;(first | rw [← Ny731.out] at ho21 | (simp only [Int.reduceToNat] at ho21;rw [← Ny731.out] at ho21));replace HO1:=zA (kK (zPV HO1.out) (Kd.N_base ho21) hb);have HO733:=zA (jN ho21 (kP (zT HB.out GE730.out)));replace BK730:=zA (zB1 BK730.out hb);replace HB:=zA (kQ (zT HB.out GE730.out) hb);clear hb ho21;obtain ⟨Ao22,co22,eo22⟩:=Kd.N_slice HO733.out;subst eo22) | (refine zO (some 14) Tryd.func30 #[.agg #[.int .i64 a0_0,.slice A0_1 l0_1.length c0_1],.slice Ao22 y731.length co22] ?_;(with_reducible refine (impl_checkWords.calls k a0_0 _ _ l0_1 _ _ y731 t734 _ ?side1 ?side2 ?side3 ?side4 ?side5 A4.out).mono ?_);(case side1=>exact zS (kO HR0_1.out HB.out));(case side2=>exact HC0_1.out);(case side3=>exact zS (Kd.N_reads' HO733.out).2.2);(case side4=>exact (Kd.N_reads' HO733.out).2.1);(case side5=>exact TabW.below HT.out (zT HB.out GE730.out));rintro e w23 ⟨rfl,hb⟩;refine ⟨_,rfl,?_⟩;replace HO1:=zA (kG (zPV HO1.out) hb);replace HO733:=zA (kZ (zPN HO733.out) hb);replace BK730:=zA (zB1 BK730.out hb);replace HB:=zA (kQ (zT HB.out GE730.out) hb);(try clear hb)) | (refine zO (some 20) Tryd.func34 #[.slice A1 l1.length c1] ?_;(with_reducible refine (impl_length_int64.calls _ _ l1 t735 _ ?side1 ?side2 A6.out).mono ?_);(case side1=>exact zS (kJ HO1.out).2.2);(case side2=>exact (kJ HO1.out).2.1);rintro e w' ⟨rfl,⟨nd,rfl⟩⟩;refine ⟨_,rfl,?_⟩) | (refine zO (some 22) Tryd.func61 #[.int .i64 a2,.int .i64 0,.int .i64 (wrap64 (t735 - 1))] ?_;(with_reducible refine (impl_inRange.calls a2 0 (wrap64 (t735 - 1)) false _ A7.out).mono ?_);rintro e w' ⟨rfl,⟨nd,rfl⟩⟩;refine ⟨_,rfl,?_⟩))
  go_ret2
  exact ⟨_,zr,zn,zT HB.out GE730.out⟩
 rw [if_neg c5] at H
 obtain ⟨c5b0,c5b1⟩:=zT2 c5
 simp only [Option.some.injEq,Prod.mk.injEq] at H
 obtain ⟨rfl,rfl⟩:=H
 go_enter Tryd.func41,Tryd.ntmps41
 go_wp2_with (first | (refine zBE 3 #[.int .i64 a0_0,.slice A0_1 l0_1.length c0_1] 28 ?_;intro gb730 hg w24 hbox hb;replace HO1:=zA (kG (jD (zPV HO1.out) gb730 (Nat.le_of_eq hg.symm)) hb);have BK730:=zA (hbox);have GW730:=zA (zBH hg HB.out);have GE730:=zA (zBH hg HB.out);replace HB:=zA (kQ (zQ HB.out) hb);clear hb hbox hg;obtain ⟨hcz25_0,hcz25_1,hfz25_0,hfz25_1⟩:=zB3 BK730.out) | ((with_reducible refine kS (N:=13) rfl ?_);refine Kd.N_lit (Kd.slice 2 (Kd.int .i64)) _ 22 ?hg (N' := 13) ?hd (xs:=([l1]:List (List Int))) (inner:=[.slice A1 l1.length c1]) (ok:=(fun k_=>(P1_ k_ ∨ w.heap.size ≤ k_) ∧ k_ ≠ gb730)) (okp:=(fun k_=>(P1_ k_ ∨ w.heap.size ≤ k_) ∧ k_ ≠ gb730)) ?hr ?hp (fun _ hk=>hk) ((show ∀ k_:Nat,(_:Nat) ≤ k_ → (fun k_=>(P1_ k_ ∨ w.heap.size ≤ k_) ∧ k_ ≠ gb730) k_ from fun k_ hk=>⟨(.inr (Nat.le_trans (kP (zT HB.out GE730.out)) hk)),jE (g:=gb730) (o:=.cells #[.int .i64 a0_0,.slice A0_1 l0_1.length c0_1] 28 (0,0)) (zR BK730.out) k_ hk⟩) _ (Nat.le_refl _)) (kW _ _) (Nat.le_refl _) (by simp) ?_;(case hd=>rfl);(case hg=>rfl);(case hr=>first | (go_simp;done) | (go_simp;rfl));(case hp=>exact (Reps.one (show Kd.FK (Kd.slice 2 (Kd.int .i64)) _ _ l1 [.slice A1 l1.length c1] from (zFK (kN (ok' := (fun k_=>(P1_ k_ ∨ w.heap.size ≤ k_) ∧ k_ ≠ gb730)) (HO1.out) (fun k_ hk=>⟨hk.1,hk.2⟩)))) (Reps.none _ _)));intro v732 w26 ho27 hb hg_ hnew_;clear hg_ hnew_;(first | rw [← Ny731.out] at ho27 | (simp only [Int.reduceToNat] at ho27;rw [← Ny731.out] at ho27));replace HO1:=zA (kK (zPV HO1.out) (Kd.N_base ho27) hb);have HO733:=zA (jN ho27 (kP (zT HB.out GE730.out)));replace BK730:=zA (zB1 BK730.out hb);replace HB:=zA (kQ (zT HB.out GE730.out) hb);clear hb ho27;obtain ⟨Ao28,co28,eo28⟩:=Kd.N_slice HO733.out;subst eo28) | (refine zO (some 14) Tryd.func30 #[.agg #[.int .i64 a0_0,.slice A0_1 l0_1.length c0_1],.slice Ao28 y731.length co28] ?_;(with_reducible refine (impl_checkWords.calls k a0_0 _ _ l0_1 _ _ y731 t734 _ ?side1 ?side2 ?side3 ?side4 ?side5 A4.out).mono ?_);(case side1=>exact zS (kO HR0_1.out HB.out));(case side2=>exact HC0_1.out);(case side3=>exact zS (Kd.N_reads' HO733.out).2.2);(case side4=>exact (Kd.N_reads' HO733.out).2.1);(case side5=>exact TabW.below HT.out (zT HB.out GE730.out));rintro e w29 ⟨rfl,hb⟩;refine ⟨_,rfl,?_⟩;replace HO1:=zA (kG (zPV HO1.out) hb);replace HO733:=zA (kZ (zPN HO733.out) hb);replace BK730:=zA (zB1 BK730.out hb);replace HB:=zA (kQ (zT HB.out GE730.out) hb);(try clear hb)))
 go_ret2
 exact ⟨_,zr,zn,zT HB.out GE730.out⟩
def impl_PastOf.f (k:Nat) (a0_0:Int) (l0_1:List Int) (l1:List Int) (a2:Int):Option (Int × Int):=(impl_checkPosition.f k a0_0 l0_1 l1 a2).bind fun bt744=>(if bt744.2 = 0 then ((impl_converse.f k bt744.1).bind fun t748=>(if 0 ≤ a2 then (if a2 < (t748.length:Int) then (some (rd t748 a2,0)) else (none)) else (none))) else (some (0,bt744.2)))
set_option maxHeartbeats 8000000 in
set_option maxRecDepth 100000 in
theorem impl_PastOf.calls (k:Nat) (a0_0:Int) (A0_1:Option Addr) (c0_1:Nat) (l0_1:List Int) (A1:Option Addr) (c1:Nat) (l1:List Int) (a2:Int) (r1:Int) (r2:Int) (w:World) (hr0_1:Kd.C (Kd.int .i64) w A0_1 l0_1.length l0_1) (hc0_1:l0_1.length ≤ c0_1) (hr1:Kd.C (Kd.int .i64) w A1 l1.length l1) (hc1:l1.length ≤ c1) (hT:TabW w) (h:impl_PastOf.f k a0_0 l0_1 l1 a2 = some (r1,r2)) :
  Calls Tryd.prog 23 #[.agg #[.int .i64 a0_0,.slice A0_1 l0_1.length c0_1],.slice A1 l1.length c1,.int .i64 a2] w fun e w' => e = .returned (.tuple #[.int .i64 r1,.int .i64 r2]) ∧ Below w.heap.size w w' := by
 have hu28:=Tryd.underlying28
 have HT:=zA hT
 clear hT
 have HR0_1:=zA hr0_1
 have HC0_1:=zA hc0_1
 clear hr0_1 hc0_1
 have HR1:=zA hr1
 have HC1:=zA hc1
 clear hr1 hc1
 have HB:=zA (kW w.heap.size w)
 have H:=h
 unfold impl_PastOf.f at H
 clear h
 obtain ⟨⟨t744,t747⟩,A4,H⟩:=zb H
 try dsimp only at H
 by_cases c5:t747 = 0
 ·rw [if_pos c5] at H
  obtain ⟨c5b0,c5b1⟩:=zT1 c5
  clear c5
  obtain ⟨t748,A6,H⟩:=zb H
  try dsimp only at H
  by_cases c7:0 ≤ a2
  ·rw [if_pos c7] at H
   have c7b0:decide (0 ≤ a2) = true:=decide_eq_true c7
   clear c7
   by_cases c8:a2 < (t748.length:Int)
   ·rw [if_pos c8] at H
    have c8b0:decide (a2 < (t748.length:Int)) = true:=decide_eq_true c8
    clear c8
    simp only [Option.some.injEq,Prod.mk.injEq] at H
    obtain ⟨rfl,rfl⟩:=H
    go_enter Tryd.func23,Tryd.ntmps23
    go_wp2_with (first | (refine zBE 3 #[.int .i64 a0_0,.slice A0_1 l0_1.length c0_1] 28 ?_;intro gb743 hg w9 hbox hb;have BK743:=zA (hbox);have GW743:=zA (zBH hg HB.out);have GE743:=zA (zBH hg HB.out);replace HB:=zA (kQ (zQ HB.out) hb);clear hb hbox hg;obtain ⟨hcz10_0,hcz10_1,hfz10_0,hfz10_1⟩:=zB3 BK743.out) | (refine zO (some 14) Tryd.func41 #[.agg #[.int .i64 a0_0,.slice A0_1 l0_1.length c0_1],.slice A1 l1.length c1,.int .i64 a2] ?_;(with_reducible refine (impl_checkPosition.calls k a0_0 _ _ l0_1 (fun k_=>k_ < w.heap.size) _ _ l1 a2 t744 t747 _ ?side1 ?side2 ?side3 ?side4 A4.out).mono ?_);(case side1=>exact zS (kO HR0_1.out HB.out));(case side2=>exact HC0_1.out);(case side3=>exact Kd.V_mk HC1.out (Kd.F_below (Kd.C_F (Kd.heap_int .i64) HR1.out) (zT HB.out GE743.out)));(case side4=>exact TabW.below HT.out (zT HB.out GE743.out));rintro e w11 ⟨v745,rfl,ho0,hb⟩;refine ⟨_,rfl,?_⟩;have HO746:=zA (kI (kA (ok' := fun k_=>True) ho0 (fun _ hk_=>trivial)) (kP (zT HB.out GE743.out)));replace BK743:=zA (zB1 BK743.out hb);replace HB:=zA (kQ (zT HB.out GE743.out) hb);(try clear hb);(try clear ho0);obtain ⟨Ao12,co12,eo12⟩:=kM HO746.out;subst eo12) | (refine zO (some 21) Tryd.func42 #[.slice Ao12 t744.length co12] ?_;(with_reducible refine (impl_converse.calls k _ _ t744 t748 _ ?side1 ?side2 ?side3 A6.out).mono ?_);(case side1=>exact zS (kB HO746.out).2.2);(case side2=>exact (kB HO746.out).2.1);(case side3=>exact TabW.below HT.out (zT HB.out GE743.out));rintro e w13 ⟨v749,rfl,ho0,hb⟩;refine ⟨_,rfl,?_⟩;have HO750:=zA (kI (kF ho0 (kH (zP HO746.out))) (kP (zT HB.out GE743.out)));replace HO746:=zA (kE (zP HO746.out) (kC ho0) hb);replace BK743:=zA (zB1 BK743.out hb);replace HB:=zA (kQ (zT HB.out GE743.out) hb);(try clear hb);(try clear ho0);obtain ⟨Ao14,co14,eo14⟩:=kM HO750.out;subst eo14;have p751:0 ≤ (a2:Int):=zd;have q751:a2 < (t748.length:Int):=zd;obtain ⟨ad751,e751,hx751_0⟩:=Kd.at_int (kB HO750.out).2.2 a2 p751 q751;cases e751;replace p751:=eq_true p751;replace q751:=eq_true q751))
    go_ret2
    exact ⟨zr,zT HB.out GE743.out⟩
   rw [if_neg c8] at H
   exact absurd H (by simp)
  rw [if_neg c7] at H
  exact absurd H (by simp)
 rw [if_neg c5] at H
 obtain ⟨c5b0,c5b1⟩:=zT2 c5
 simp only [Option.some.injEq,Prod.mk.injEq] at H
 obtain ⟨rfl,rfl⟩:=H
 go_enter Tryd.func23,Tryd.ntmps23
 go_wp2_with (first | (refine zBE 3 #[.int .i64 a0_0,.slice A0_1 l0_1.length c0_1] 28 ?_;intro gb743 hg w15 hbox hb;have BK743:=zA (hbox);have GW743:=zA (zBH hg HB.out);have GE743:=zA (zBH hg HB.out);replace HB:=zA (kQ (zQ HB.out) hb);clear hb hbox hg;obtain ⟨hcz16_0,hcz16_1,hfz16_0,hfz16_1⟩:=zB3 BK743.out) | (refine zO (some 14) Tryd.func41 #[.agg #[.int .i64 a0_0,.slice A0_1 l0_1.length c0_1],.slice A1 l1.length c1,.int .i64 a2] ?_;(with_reducible refine (impl_checkPosition.calls k a0_0 _ _ l0_1 (fun k_=>k_ < w.heap.size) _ _ l1 a2 t744 t747 _ ?side1 ?side2 ?side3 ?side4 A4.out).mono ?_);(case side1=>exact zS (kO HR0_1.out HB.out));(case side2=>exact HC0_1.out);(case side3=>exact Kd.V_mk HC1.out (Kd.F_below (Kd.C_F (Kd.heap_int .i64) HR1.out) (zT HB.out GE743.out)));(case side4=>exact TabW.below HT.out (zT HB.out GE743.out));rintro e w17 ⟨v745,rfl,ho0,hb⟩;refine ⟨_,rfl,?_⟩;have HO746:=zA (kI (kA (ok' := fun k_=>True) ho0 (fun _ hk_=>trivial)) (kP (zT HB.out GE743.out)));replace BK743:=zA (zB1 BK743.out hb);replace HB:=zA (kQ (zT HB.out GE743.out) hb);(try clear hb);(try clear ho0)))
 go_ret2
 exact ⟨zr,zT HB.out GE743.out⟩
def impl_IsMask.f (a0:Int) (a1:Int):Option (Bool):=(impl_inRange.f a1 0 24).bind fun t752=>(if t752 = true then ((impl_one.f a1).bind fun t753=>((impl_inRange.f a0 0 (wrap64 (t753 - 1))).bind fun t754=>(some t754))) else (some false))
set_option maxHeartbeats 8000000 in
set_option maxRecDepth 100000 in
theorem impl_IsMask.calls (a0:Int) (a1:Int) (r:Bool) (w:World) (h:impl_IsMask.f a0 a1 = some r) :
  Calls Tryd.prog 43 #[.int .i64 a0,.int .i64 a1] w fun e w' => e = .returned (.bool r) ∧ Drawn0 w w' := by
 have H:=h
 unfold impl_IsMask.f at H
 clear h
 obtain ⟨t752,A3,H⟩:=zb H
 try dsimp only at H
 by_cases c4:t752 = true
 ·subst c4
  rw [if_pos rfl] at H
  obtain ⟨t753,A5,H⟩:=zb H
  try dsimp only at H
  obtain ⟨t754,A6,H⟩:=zb H
  try dsimp only at H
  obtain rfl:=Option.some.inj H
  go_enter Tryd.func43,Tryd.ntmps43
  go_wp2_with (first | (refine zO (some 6) Tryd.func61 #[.int .i64 a1,.int .i64 0,.int .i64 24] ?_;(with_reducible refine (impl_inRange.calls a1 0 24 true _ A3.out).mono ?_);rintro e w' ⟨rfl,⟨nd,rfl⟩⟩;refine ⟨_,rfl,?_⟩) | (go_at_call 33;(with_reducible refine (impl_one.calls a1 t753 _ A5.out).mono ?_);rintro e w' ⟨rfl,⟨nd,rfl⟩⟩) | (go_at_call 61;(with_reducible refine (impl_inRange.calls a0 0 (wrap64 (t753 - 1)) t754 _ A6.out).mono ?_);rintro e w' ⟨rfl,⟨nd,rfl⟩⟩))
  go_ret
  exact ⟨zs,by repeat (first | exact Drawn0.refl _ | apply Drawn0.step)⟩
 replace c4:=Bool.eq_false_iff.mpr c4
 subst c4
 rw [if_neg (show ¬ (false = true) by decide)] at H
 obtain rfl:=Option.some.inj H
 go_enter Tryd.func43,Tryd.ntmps43
 go_wp2_with (first | (refine zO (some 6) Tryd.func61 #[.int .i64 a1,.int .i64 0,.int .i64 24] ?_;(with_reducible refine (impl_inRange.calls a1 0 24 false _ A3.out).mono ?_);rintro e w' ⟨rfl,⟨nd,rfl⟩⟩;refine ⟨_,rfl,?_⟩))
 go_ret
 exact ⟨zs,by repeat (first | exact Drawn0.refl _ | apply Drawn0.step)⟩
def impl_lettersAt.l0:Nat → List Int → List Int → List Int → Int → Int → Option (List Int)
 | 0,_,_,_,_,_=>none
 | k + 1,x0,x5,x10,x11,x12=>if x12 < x11 then (if 0 ≤ x12 then (if x12 < (x10.length:Int) then (if 0 ≤ (rd x10 x12) then (if (rd x10 x12) < (x0.length:Int) then (if x5.length < 17592186044416 then (impl_lettersAt.l0 k x0 (x5 ++ [rd x0 (rd x10 x12)]) x10 x11 (wrap64 (x12 + 1))) else (none)) else (none)) else (none)) else (none)) else (none)) else (some x5)
def impl_lettersAt.f (k:Nat) (l0:List Int) (a1:Int):Option (List Int):=(impl_members.f k a1).bind fun t758=>(impl_lettersAt.l0 k l0 (([]:List Int)) t758 (t758.length:Int) 0)
set_option maxHeartbeats 8000000 in
set_option maxRecDepth 100000 in
theorem impl_lettersAt.calls (k:Nat) (A0:Option Addr) (c0:Nat) (l0:List Int) (a1:Int) (r:List Int) (w:World) (hr0:Kd.C (Kd.int .i64) w A0 l0.length l0) (hc0:l0.length ≤ c0) (hT:TabW w) (h:impl_lettersAt.f k l0 a1 = some r) :
  Calls Tryd.prog 44 #[.slice A0 l0.length c0,.int .i64 a1] w fun e w' => ∃ v0_:Value,e = .returned (v0_) ∧ Kd.R (Kd.int .i64) 2 w' w.heap.size (fun _=>True) v0_ r ∧ Below w.heap.size w w' := by
 have HT:=zA hT
 clear hT
 have HR0:=zA hr0
 have HC0:=zA hc0
 clear hr0 hc0
 have HB:=zA (kW w.heap.size w)
 have H:=h
 unfold impl_lettersAt.f at H
 clear h
 obtain ⟨y755,hy755⟩:∃ y_:List Int,y_ = (([]:List Int)):=⟨_,rfl⟩
 replace H:((impl_members.f k a1).bind fun t758=>(impl_lettersAt.l0 k l0 y755 t758 (t758.length:Int) 0)) = some r:=zy hy755 H
 have Ny755:=zA hy755
 clear hy755
 obtain ⟨t758,A3,H⟩:=zb H
 try dsimp only at H
 have H' := zA H
 clear H
 go_enter Tryd.func44,Tryd.ntmps44
 go_wp2_with (first | ((with_reducible refine kS (N:=8) rfl ?_);refine Kd.R_lit (Kd.int .i64) _ 2 ?hg (N:=8) ?hd (xs:=([]:List Int)) (inner:=[]) (ok:=fun _=>True) (okp:=fun _=>True) ?hr ?hp (fun _ hk=>hk) trivial (kW _ _) (Nat.le_refl _) (by simp) ?_;(case hd=>rfl);(case hg=>rfl);(case hr=>first | (go_simp;done) | (go_simp;rfl));(case hp=>exact (Reps.none _ _));intro v756 w4 ho5 hb hg_ hnew_;clear hg_ hnew_;(first | rw [← Ny755.out] at ho5 | (simp only [Int.reduceToNat] at ho5;rw [← Ny755.out] at ho5));have HO757:=zA (kI ho5 (kP (zQ HB.out)));replace HB:=zA (kQ (zQ HB.out) hb);clear hb ho5) | (refine zO (some 10) Tryd.func36 #[.int .i64 a1] ?_;(with_reducible refine (impl_members.calls k a1 t758 _ ?side1 A3.out).mono ?_);(case side1=>exact TabW.below HT.out (zQ HB.out));rintro e w6 ⟨v759,rfl,ho0,hb⟩;refine ⟨_,rfl,?_⟩;have HO760:=zA (kI (kF ho0 (kH (zP HO757.out))) (kP (zQ HB.out)));replace HO757:=zA (kE (zP HO757.out) (kC ho0) hb);replace HB:=zA (kQ (zQ HB.out) hb);(try clear hb);(try clear ho0);obtain ⟨Ao7,co7,eo7⟩:=kM HO760.out;subst eo7))
 go_loopg [5,12] k (fun kq v5 v12 w' => ∃ (x5_1:List Int) (x12_1:Int),v12 = .int .i64 x12_1 ∧ Aside0 (impl_lettersAt.l0 kq l0 x5_1 t758 (t758.length:Int) x12_1 = some r) ∧ Aside0 (kq ≤ k) ∧ Aside0 (Kd.R (Kd.int .i64) 2 w' w.heap.size (fun k_=>some k_ ≠ ((.slice Ao7 t758.length co7):Value).ownBlock) v5 x5_1) ∧ Aside0 (Kd.R (Kd.int .i64) 2 w' w.heap.size (fun k_=>some k_ ≠ (v5:Value).ownBlock) (.slice Ao7 t758.length co7) t758) ∧ Aside0 (Below w.heap.size w w'))
 case atStart=>exact ⟨(y755),(0),zs,H', ⟨Nat.le_refl _⟩,⟨zPM HO757.out (fun _ hk=>hk.2)⟩,⟨zPM HO760.out (fun _ hk=>hk.2)⟩,⟨zQ HB.out⟩⟩
 case round =>
  clear H'
  try clear c3
  try clear c4
  obtain ⟨x5_1,x12_1,rfl,HA,HK1,HO_5,HO_10,HB⟩:=hrel
  cases gk with
  | zero=>exact absurd HA.out (by simp [impl_lettersAt.l0])
  | succ k1 =>
   have H:=HA.out
   clear HA
   simp only [impl_lettersAt.l0] at H
   by_cases c8:x12_1 < (t758.length:Int)
   ·rw [if_pos c8] at H
    have c8b0:decide (x12_1 < (t758.length:Int)) = true:=decide_eq_true c8
    clear c8
    by_cases c9:0 ≤ x12_1
    ·rw [if_pos c9] at H
     have c9b0:decide (0 ≤ x12_1) = true:=decide_eq_true c9
     clear c9
     by_cases c10:x12_1 < (t758.length:Int)
     ·rw [if_pos c10] at H
      have c10b0:decide (x12_1 < (t758.length:Int)) = true:=decide_eq_true c10
      clear c10
      by_cases c11:0 ≤ (rd t758 x12_1)
      ·rw [if_pos c11] at H
       have c11b0:decide (0 ≤ (rd t758 x12_1)) = true:=decide_eq_true c11
       clear c11
       by_cases c12:(rd t758 x12_1) < (l0.length:Int)
       ·rw [if_pos c12] at H
        have c12b0:decide ((rd t758 x12_1) < (l0.length:Int)) = true:=decide_eq_true c12
        clear c12
        by_cases c13:x5_1.length < 17592186044416
        ·rw [if_pos c13] at H
         have LMc13:=zA c13
         clear c13
         obtain ⟨y763,hy763⟩:∃ y_:List Int,y_ = (x5_1 ++ [rd l0 (rd t758 x12_1)]):=⟨_,rfl⟩
         replace H:(impl_lettersAt.l0 k1 l0 y763 t758 (t758.length:Int) (wrap64 (x12_1 + 1))) = some r:=zy hy763 H
         have Ny763:=zA hy763
         clear hy763
         have H' := zA H
         clear H
         have p761:0 ≤ (x12_1:Int):=zd
         have q761:x12_1 < (t758.length:Int):=zd
         obtain ⟨ad761,e761,hx761_0⟩:=Kd.at_int (kB HO_10.out).2.2 x12_1 p761 q761
         cases e761
         replace p761:=eq_true p761
         replace q761:=eq_true q761
         have p762:0 ≤ ((rd t758 x12_1):Int):=zd
         have q762:(rd t758 x12_1) < (l0.length:Int):=zd
         obtain ⟨ad762,e762,hx762_0⟩:=Kd.at_int HR0.out (rd t758 x12_1) p762 q762
         cases e762
         replace hx762_0:=(HB.out.cell (jG w _ hx762_0)).trans hx762_0
         replace p762:=eq_true p762
         replace q762:=eq_true q762
         go_wp2_with (first | ((with_reducible refine gate_builtin (b:=.append) (xs:=#[.tmp 16,.tmp 21]) rfl ?_);at_builtin;refine Kd.R_append (Kd.int .i64) (w0:=w) w.heap.size rfl (.tmp 16) (.tmp 21) 22 2 (.int .i64 0) 8 rfl Tryd.underlying22 info2 rfl (by decide) (by omega) u5 x5_1 (rd l0 (rd t758 x12_1)) [.int .i64 (rd l0 (rd t758 x12_1))] (fun k_=>some k_ ≠ (.slice (some ad761) t758.length co7:Value).ownBlock) (fun _=>False) rfl rfl ?aP (fun _ hk=>hk.elim) ?aF ?aO ?aB ?aS ?aL ?_;(case aP=>exact rfl);(case aB=>exact (zQ HB.out));(case aF=>exact (fun k_ hk=>jF (kH (zP HO_10.out)) k_ hk));(case aO=>exact (zP HO_5.out));(case aS=>exact (kP (zQ HB.out)));(case aL=>have:=LMc13.out;omega);intro v764 w14 ho hb hg hat;rw [← Ny763.out] at ho;replace HO_10:=zA (Kd.R_after (ok:=(fun _=>True)) (by (with_reducible repeat (first | apply zF | apply zG | apply zH));exact kA HO_10.out (fun _ hk=>⟨trivial,hk⟩)) hg hat);replace HB:=zA (hb);have HO765:=zA (ho);clear HO_5;clear ho hb hg hat))
         go_roundg k1
         case measure=>have:=HK1.out;omega
         case rel=>exact ⟨(y763),(wrap64 (x12_1 + 1)),zs,H', ⟨by have:=HK1.out;omega⟩,⟨zP HO765.out⟩,⟨zPM HO_10.out (fun _ hk=>hk.2)⟩,⟨zQ HB.out⟩⟩
        rw [if_neg c13] at H
        exact absurd H (by simp)
       rw [if_neg c12] at H
       exact absurd H (by simp)
      rw [if_neg c11] at H
      exact absurd H (by simp)
     rw [if_neg c10] at H
     exact absurd H (by simp)
    rw [if_neg c9] at H
    exact absurd H (by simp)
   rw [if_neg c8] at H
   have c8b0:decide (x12_1 < (t758.length:Int)) = false:=decide_eq_false c8
   clear c8
   obtain rfl:=Option.some.inj H
   go_wp2
   go_ret
   exact ⟨_,zr,by (with_reducible repeat (first | apply zF | apply zG | apply zH));exact kA HO_5.out (fun _ hk=>trivial),zQ HB.out⟩
def impl_PrefixAt.l0:Nat → Int → List Int → List Int → Int → Int → Int → List Int → Option (List Int × Int)
 | 0,_,_,_,_,_,_,_=>none
 | k + 1,x2,x9,x34,x35,x36,x767000,x767001=>if x36 < x35 then (if 0 ≤ x36 then (if x36 < (x34.length:Int) then (if (Go.bits .andNot .i64 (rd x34 x36) x2) = 0 then (impl_PrefixAt.l0 k x2 x9 x34 x35 (wrap64 (x36 + 1)) x767000 x767001) else (some (([]:List Int),5))) else (none)) else (none)) else ((impl_Alphabet_ties.f x767000 x767001).bind fun t786=>((impl_lettersAt.f k x9 x2).bind fun t789=>((impl_ties_normal.f k t786 t789).bind fun t792=>(some (t792,0)))))
def impl_PrefixAt.f (k:Nat) (a0_0:Int) (l0_1:List Int) (l1:List Int) (a2:Int):Option (List Int × Int):=(impl_checkWords.f k a0_0 l0_1 (([l1]:List (List Int)))).bind fun t770=>(if t770 = 0 then ((impl_length_int64.f l1).bind fun t771=>((impl_IsMask.f a2 t771).bind fun t772=>(if t772 = true then ((impl_positions.f k a0_0 l0_1 l1).bind fun bt773=>((impl_converse.f k bt773.2).bind fun t779=>((impl_lettersAt.f k t779 a2).bind fun t782=>(impl_PrefixAt.l0 k a2 bt773.1 t782 (t782.length:Int) 0 a0_0 l0_1)))) else (some (([]:List Int),2))))) else (some (([]:List Int),t770)))
set_option maxHeartbeats 8000000 in
set_option maxRecDepth 100000 in
theorem impl_PrefixAt.calls (k:Nat) (a0_0:Int) (P0_1_:Nat → Prop) (A0_1:Option Addr) (c0_1:Nat) (l0_1:List Int) (P1_:Nat → Prop) (A1:Option Addr) (c1:Nat) (l1:List Int) (a2:Int) (r1:List Int) (r2:Int) (w:World) (hs0_1:Kd.V (Kd.int .i64) 2 w w.heap.size (fun k_=>P0_1_ k_) (.slice A0_1 l0_1.length c0_1) l0_1) (hs1:Kd.V (Kd.int .i64) 2 w w.heap.size (fun k_=>P1_ k_) (.slice A1 l1.length c1) l1) (hT:TabW w) (h:impl_PrefixAt.f k a0_0 l0_1 l1 a2 = some (r1,r2)) :
  Calls Tryd.prog 24 #[.agg #[.int .i64 a0_0,.slice A0_1 l0_1.length c0_1],.slice A1 l1.length c1,.int .i64 a2] w fun e w' => ∃ v0_:Value,e = .returned (.tuple #[v0_,.int .i64 r2]) ∧ Kd.R (Kd.int .i64) 2 w' w.heap.size (fun k_=>(w.heap.size ≤ k_)) v0_ r1 ∧ Below w.heap.size w w' := by
 have hu28:=Tryd.underlying28
 have HT:=zA hT
 clear hT
 have HO0_1:=zA (show Kd.V (Kd.int .i64) 2 w w.heap.size (fun k_=>((P0_1_ k_ ∨ P1_ k_) ∨ w.heap.size ≤ k_)) (.slice A0_1 l0_1.length c0_1) l0_1 from kN hs0_1 (fun k_ hk=>.inl (.inl hk)))
 have HO1:=zA (show Kd.V (Kd.int .i64) 2 w w.heap.size (fun k_=>((P0_1_ k_ ∨ P1_ k_) ∨ w.heap.size ≤ k_)) (.slice A1 l1.length c1) l1 from kN hs1 (fun k_ hk=>.inl (.inr hk)))
 have HB:=zA (kW w.heap.size w)
 have H:=h
 unfold impl_PrefixAt.f at H
 clear h
 obtain ⟨y767,hy767⟩:∃ y_:List (List Int),y_ = (([l1]:List (List Int))):=⟨_,rfl⟩
 replace H:((impl_checkWords.f k a0_0 l0_1 y767).bind fun t770=>(if t770 = 0 then ((impl_length_int64.f l1).bind fun t771=>((impl_IsMask.f a2 t771).bind fun t772=>(if t772 = true then ((impl_positions.f k a0_0 l0_1 l1).bind fun bt773=>((impl_converse.f k bt773.2).bind fun t779=>((impl_lettersAt.f k t779 a2).bind fun t782=>(impl_PrefixAt.l0 k a2 bt773.1 t782 (t782.length:Int) 0 a0_0 l0_1)))) else (some (([]:List Int),2))))) else (some (([]:List Int),t770)))) = some (r1,r2):=zy hy767 H
 have Ny767:=zA hy767
 clear hy767
 obtain ⟨t770,A4,H⟩:=zb H
 try dsimp only at H
 by_cases c5:t770 = 0
 ·rw [if_pos c5] at H
  obtain ⟨c5b0,c5b1⟩:=zT1 c5
  clear c5
  obtain ⟨t771,A6,H⟩:=zb H
  try dsimp only at H
  obtain ⟨t772,A7,H⟩:=zb H
  try dsimp only at H
  by_cases c8:t772 = true
  ·subst c8
   rw [if_pos rfl] at H
   obtain ⟨⟨t773,t776⟩,A9,H⟩:=zb H
   try dsimp only at H
   obtain ⟨t779,A10,H⟩:=zb H
   try dsimp only at H
   obtain ⟨t782,A11,H⟩:=zb H
   try dsimp only at H
   have H' := zA H
   clear H
   go_enter Tryd.func24,Tryd.ntmps24
   go_wp2_with (first | (refine zBE 3 #[.int .i64 a0_0,.slice A0_1 l0_1.length c0_1] 28 ?_;intro gb766 hg w12 hbox hb;replace HO0_1:=zA (kG (jD (zPV HO0_1.out) gb766 (Nat.le_of_eq hg.symm)) hb);replace HO1:=zA (kG (jD (zPV HO1.out) gb766 (Nat.le_of_eq hg.symm)) hb);have BK766:=zA (hbox);have GW766:=zA (zBH hg HB.out);have GE766:=zA (zBH hg HB.out);replace HB:=zA (kQ (zQ HB.out) hb);clear hb hbox hg;obtain ⟨hcz13_0,hcz13_1,hfz13_0,hfz13_1⟩:=zB3 BK766.out) | ((with_reducible refine kS (N:=15) rfl ?_);refine Kd.N_lit (Kd.slice 2 (Kd.int .i64)) _ 22 ?hg (N' := 15) ?hd (xs:=([l1]:List (List Int))) (inner:=[.slice A1 l1.length c1]) (ok:=(fun k_=>((P0_1_ k_ ∨ P1_ k_) ∨ w.heap.size ≤ k_) ∧ k_ ≠ gb766)) (okp:=(fun k_=>((P0_1_ k_ ∨ P1_ k_) ∨ w.heap.size ≤ k_) ∧ k_ ≠ gb766)) ?hr ?hp (fun _ hk=>hk) ((show ∀ k_:Nat,(_:Nat) ≤ k_ → (fun k_=>((P0_1_ k_ ∨ P1_ k_) ∨ w.heap.size ≤ k_) ∧ k_ ≠ gb766) k_ from fun k_ hk=>⟨(.inr (Nat.le_trans (kP (zT HB.out GE766.out)) hk)),jE (g:=gb766) (o:=.cells #[.int .i64 a0_0,.slice A0_1 l0_1.length c0_1] 28 (0,0)) (zR BK766.out) k_ hk⟩) _ (Nat.le_refl _)) (kW _ _) (Nat.le_refl _) (by simp) ?_;(case hd=>rfl);(case hg=>rfl);(case hr=>first | (go_simp;done) | (go_simp;rfl));(case hp=>exact (Reps.one (show Kd.FK (Kd.slice 2 (Kd.int .i64)) _ _ l1 [.slice A1 l1.length c1] from (zFK (kN (ok' := (fun k_=>((P0_1_ k_ ∨ P1_ k_) ∨ w.heap.size ≤ k_) ∧ k_ ≠ gb766)) (HO1.out) (fun k_ hk=>⟨hk.1,hk.2⟩)))) (Reps.none _ _)));intro v768 w14 ho15 hb hg_ hnew_;clear hg_ hnew_;(first | rw [← Ny767.out] at ho15 | (simp only [Int.reduceToNat] at ho15;rw [← Ny767.out] at ho15));replace HO0_1:=zA (kK (zPV HO0_1.out) (Kd.N_base ho15) hb);replace HO1:=zA (kK (zPV HO1.out) (Kd.N_base ho15) hb);have HO769:=zA (jN ho15 (kP (zT HB.out GE766.out)));replace BK766:=zA (zB1 BK766.out hb);replace HB:=zA (kQ (zT HB.out GE766.out) hb);clear hb ho15;obtain ⟨Ao16,co16,eo16⟩:=Kd.N_slice HO769.out;subst eo16) | (refine zO (some 16) Tryd.func30 #[.agg #[.int .i64 a0_0,.slice A0_1 l0_1.length c0_1],.slice Ao16 y767.length co16] ?_;(with_reducible refine (impl_checkWords.calls k a0_0 _ _ l0_1 _ _ y767 t770 _ ?side1 ?side2 ?side3 ?side4 ?side5 A4.out).mono ?_);(case side1=>exact zS (kJ HO0_1.out).2.2);(case side2=>exact (kJ HO0_1.out).2.1);(case side3=>exact zS (Kd.N_reads' HO769.out).2.2);(case side4=>exact (Kd.N_reads' HO769.out).2.1);(case side5=>exact TabW.below HT.out (zT HB.out GE766.out));rintro e w17 ⟨rfl,hb⟩;refine ⟨_,rfl,?_⟩;replace HO0_1:=zA (kG (zPV HO0_1.out) hb);replace HO1:=zA (kG (zPV HO1.out) hb);replace HO769:=zA (kZ (zPN HO769.out) hb);replace BK766:=zA (zB1 BK766.out hb);replace HB:=zA (kQ (zT HB.out GE766.out) hb);(try clear hb)) | (refine zO (some 22) Tryd.func34 #[.slice A1 l1.length c1] ?_;(with_reducible refine (impl_length_int64.calls _ _ l1 t771 _ ?side1 ?side2 A6.out).mono ?_);(case side1=>exact zS (kJ HO1.out).2.2);(case side2=>exact (kJ HO1.out).2.1);rintro e w' ⟨rfl,⟨nd,rfl⟩⟩;refine ⟨_,rfl,?_⟩) | (refine zO (some 23) Tryd.func43 #[.int .i64 a2,.int .i64 t771] ?_;(with_reducible refine (impl_IsMask.calls a2 t771 true _ A7.out).mono ?_);rintro e w' ⟨rfl,⟨nd,rfl⟩⟩;refine ⟨_,rfl,?_⟩;obtain ⟨hcz18_0,hcz18_1,hfz18_0,hfz18_1⟩:=zB3 BK766.out) | (refine zO (some 28) Tryd.func31 #[.agg #[.int .i64 a0_0,.slice A0_1 l0_1.length c0_1],.slice A1 l1.length c1] ?_;(with_reducible refine (impl_positions.calls k a0_0 _ _ l0_1 _ _ l1 t773 t776 _ ?side1 ?side2 ?side3 ?side4 ?side5 A9.out).mono ?_);(case side1=>exact zS (kJ HO0_1.out).2.2);(case side2=>exact (kJ HO0_1.out).2.1);(case side3=>exact zS (kJ HO1.out).2.2);(case side4=>exact (kJ HO1.out).2.1);(case side5=>exact TabW.below HT.out (zT HB.out GE766.out));rintro e w19 ⟨v774,v777,rfl,ho0,ho1,hb⟩;refine ⟨_,rfl,?_⟩;replace HO0_1:=zA (kN (Kd.V_told (Kd.V_told (Kd.V_old (zPV HO0_1.out) hb) (kC ho0)) (kC ho1)) (fun _ h_=>h_.1));replace HO1:=zA (kN (Kd.V_told (Kd.V_told (Kd.V_old (zPV HO1.out) hb) (kC ho0)) (kC ho1)) (fun _ h_=>h_.1));replace HO769:=zA (Kd.N_mono (Kd.N_told (Kd.N_told (Kd.N_old (zPN HO769.out) hb) (kC ho0)) (kC ho1)) (fun _ h_=>h_.1));have HO775:=zA (kI (Kd.R_newM (M:=fun k_=>(w.heap.size ≤ k_)) ho0 (kP (zT HB.out GE766.out)) (fun k_ h_=>h_)) (kP (zT HB.out GE766.out)));have HO778:=zA (kI (Kd.R_newM (M:=fun k_=>(w.heap.size ≤ k_)) ho1 (kP (zT HB.out GE766.out)) (fun k_ h_=>h_)) (kP (zT HB.out GE766.out)));replace BK766:=zA (zB1 BK766.out hb);replace HB:=zA (kQ (zT HB.out GE766.out) hb);(try clear hb);(try clear ho0);(try clear ho1);obtain ⟨Ao20,co20,eo20⟩:=kM HO778.out;subst eo20) | (refine zO (some 32) Tryd.func42 #[.slice Ao20 t776.length co20] ?_;(with_reducible refine (impl_converse.calls k _ _ t776 t779 _ ?side1 ?side2 ?side3 A10.out).mono ?_);(case side1=>exact zS (kB HO778.out).2.2);(case side2=>exact (kB HO778.out).2.1);(case side3=>exact TabW.below HT.out (zT HB.out GE766.out));rintro e w21 ⟨v780,rfl,ho0,hb⟩;refine ⟨_,rfl,?_⟩;replace HO0_1:=zA (kK (zPV HO0_1.out) (kC ho0) hb);replace HO1:=zA (kK (zPV HO1.out) (kC ho0) hb);replace HO769:=zA (Kd.N_elder' (zPN HO769.out) (kC ho0) hb);have HO781:=zA (kI (kF (kF (Kd.R_newM (M:=fun k_=>(w.heap.size ≤ k_)) ho0 (kP (zT HB.out GE766.out)) (fun k_ h_=>h_)) (kH (zP HO775.out))) (kH (zP HO778.out))) (kP (zT HB.out GE766.out)));replace HO775:=zA (kE (zP HO775.out) (kC ho0) hb);replace HO778:=zA (kE (zP HO778.out) (kC ho0) hb);replace BK766:=zA (zB1 BK766.out hb);replace HB:=zA (kQ (zT HB.out GE766.out) hb);(try clear hb);(try clear ho0);obtain ⟨Ao22,co22,eo22⟩:=kM HO781.out;subst eo22) | (refine zO (some 34) Tryd.func44 #[.slice Ao22 t779.length co22,.int .i64 a2] ?_;(with_reducible refine (impl_lettersAt.calls k _ _ t779 a2 t782 _ ?side1 ?side2 ?side3 A11.out).mono ?_);(case side1=>exact zS (kB HO781.out).2.2);(case side2=>exact (kB HO781.out).2.1);(case side3=>exact TabW.below HT.out (zT HB.out GE766.out));rintro e w23 ⟨v783,rfl,ho0,hb⟩;refine ⟨_,rfl,?_⟩;replace HO0_1:=zA (kK (zPV HO0_1.out) (kC ho0) hb);replace HO1:=zA (kK (zPV HO1.out) (kC ho0) hb);replace HO769:=zA (Kd.N_elder' (zPN HO769.out) (kC ho0) hb);have HO784:=zA (kI (kF (kF (kF (Kd.R_newM (M:=fun k_=>(w.heap.size ≤ k_)) ho0 (kP (zT HB.out GE766.out)) (fun k_ h_=>h_)) (kH (zP HO775.out))) (kH (zP HO778.out))) (kH (zP HO781.out))) (kP (zT HB.out GE766.out)));replace HO775:=zA (kE (zP HO775.out) (kC ho0) hb);replace HO778:=zA (kE (zP HO778.out) (kC ho0) hb);replace HO781:=zA (kE (zP HO781.out) (kC ho0) hb);replace BK766:=zA (zB1 BK766.out hb);replace HB:=zA (kQ (zT HB.out GE766.out) hb);(try clear hb);(try clear ho0);obtain ⟨Ao24,co24,eo24⟩:=kM HO784.out;subst eo24))
   go_loopg [36] k (fun kq v36 w' => ∃ (x36_1:Int),v36 = .int .i64 x36_1 ∧ Aside0 (impl_PrefixAt.l0 kq a2 t773 t782 (t782.length:Int) x36_1 a0_0 l0_1 = some (r1,r2)) ∧ Aside0 (kq ≤ k) ∧ Aside0 (Kd.R (Kd.int .i64) 2 w' w.heap.size (fun k_=>(w.heap.size ≤ k_) ∧ some k_ ≠ ((.slice Ao24 t782.length co24):Value).ownBlock) v774 t773) ∧ Aside0 (Kd.R (Kd.int .i64) 2 w' w.heap.size (fun k_=>(w.heap.size ≤ k_) ∧ some k_ ≠ (v774:Value).ownBlock) (.slice Ao24 t782.length co24) t782) ∧ Aside0 (Kd.V (Kd.int .i64) 2 w' w.heap.size (fun k_=>((P0_1_ k_ ∨ P1_ k_) ∨ w.heap.size ≤ k_) ∧ some k_ ≠ (v774:Value).ownBlock ∧ some k_ ≠ ((.slice Ao24 t782.length co24):Value).ownBlock ∧ k_ ≠ gb766) (.slice A0_1 l0_1.length c0_1) l0_1) ∧ Aside0 (w'.heap[gb766]? = some (.cells #[.int .i64 a0_0,(.slice A0_1 l0_1.length c0_1)] 28 (0,0))) ∧ Aside0 (Below w.heap.size w w'))
   case atStart=>exact ⟨(0),zs,H', ⟨Nat.le_refl _⟩,⟨zPM HO775.out (fun _ hk=>⟨hk.1.1.1,hk.2⟩)⟩,⟨zPM HO784.out (fun _ hk=>⟨hk.1.1.1.1,hk.1.1.2⟩)⟩,⟨by (with_reducible repeat (first | apply Kd.V_alloc | apply Kd.V_drewN | apply Kd.V_drew));exact kN HO0_1.out (fun _ hk=>⟨hk.1.1.1.1.1.1,⟨hk.1.1.1.2,⟨hk.2,hk.1.1.1.1.1.2⟩⟩⟩)⟩,⟨zR BK766.out⟩,⟨zT HB.out GE766.out⟩⟩
   case round =>
    clear H'
    try clear c1
    try clear c2
    try clear c3
    try clear c4
    try clear c5
    try clear c8
    try clear c24
    try clear hcz13_0
    try clear hcz13_1
    try clear hcz18_0
    try clear hcz18_1
    try clear hfz13_0
    try clear hfz13_1
    try clear hfz18_0
    try clear hfz18_1
    obtain ⟨x36_1,rfl,HA,HK1,HO_9,HO_34,HO_767001,BK766,HB⟩:=hrel
    cases gk with
    | zero=>exact absurd HA.out (by simp [impl_PrefixAt.l0])
    | succ k1 =>
     have H:=HA.out
     clear HA
     simp only [impl_PrefixAt.l0] at H
     by_cases c25:x36_1 < (t782.length:Int)
     ·rw [if_pos c25] at H
      have c25b0:decide (x36_1 < (t782.length:Int)) = true:=decide_eq_true c25
      clear c25
      by_cases c26:0 ≤ x36_1
      ·rw [if_pos c26] at H
       have c26b0:decide (0 ≤ x36_1) = true:=decide_eq_true c26
       clear c26
       by_cases c27:x36_1 < (t782.length:Int)
       ·rw [if_pos c27] at H
        have c27b0:decide (x36_1 < (t782.length:Int)) = true:=decide_eq_true c27
        clear c27
        by_cases c28:(Go.bits .andNot .i64 (rd t782 x36_1) a2) = 0
        ·rw [if_pos c28] at H
         obtain ⟨c28b0,c28b1⟩:=zT1 c28
         clear c28
         have H' := zA H
         clear H
         have p785:0 ≤ (x36_1:Int):=zd
         have q785:x36_1 < (t782.length:Int):=zd
         obtain ⟨ad785,e785,hx785_0⟩:=Kd.at_int (kB HO_34.out).2.2 x36_1 p785 q785
         cases e785
         replace p785:=eq_true p785
         replace q785:=eq_true q785
         go_wp2
         go_roundg k1
         case measure=>have:=HK1.out;omega
         case rel=>exact ⟨(wrap64 (x36_1 + 1)),zs,H', ⟨by have:=HK1.out;omega⟩,⟨zP HO_9.out⟩,⟨zP HO_34.out⟩,⟨zPV HO_767001.out⟩,⟨zR BK766.out⟩,⟨zT HB.out GE766.out⟩⟩
        rw [if_neg c28] at H
        obtain ⟨c28b0,c28b1⟩:=zT2 c28
        simp only [Option.some.injEq,Prod.mk.injEq] at H
        obtain ⟨rfl,rfl⟩:=H
        have p785:0 ≤ (x36_1:Int):=zd
        have q785:x36_1 < (t782.length:Int):=zd
        obtain ⟨ad785,e785,hx785_0⟩:=Kd.at_int (kB HO_34.out).2.2 x36_1 p785 q785
        cases e785
        replace p785:=eq_true p785
        replace q785:=eq_true q785
        go_wp2
        go_ret2
        exact ⟨_,zr,zn,zT HB.out GE766.out⟩
       rw [if_neg c27] at H
       exact absurd H (by simp)
      rw [if_neg c26] at H
      exact absurd H (by simp)
     rw [if_neg c25] at H
     have c25b0:decide (x36_1 < (t782.length:Int)) = false:=decide_eq_false c25
     clear c25
     obtain ⟨t786,A29,H⟩:=zb H
     try dsimp only at H
     obtain ⟨t789,A30,H⟩:=zb H
     try dsimp only at H
     obtain ⟨t792,A31,H⟩:=zb H
     try dsimp only at H
     simp only [Option.some.injEq,Prod.mk.injEq] at H
     obtain ⟨rfl,rfl⟩:=H
     obtain ⟨hcz32_0,hcz32_1,hfz32_0,hfz32_1⟩:=zB3 BK766.out
     go_wp2_with (first | (refine zO (some 46) Tryd.func38 #[.agg #[.int .i64 a0_0,.slice A0_1 l0_1.length c0_1]] ?_;(with_reducible refine (impl_Alphabet_ties.calls a0_0 (fun k_=>(((P0_1_ k_ ∨ P1_ k_) ∨ w.heap.size ≤ k_) ∧ (some k_ ≠ (v774:Value).ownBlock ∧ (some k_ ≠ (.slice Ao24 t782.length co24:Value).ownBlock ∧ k_ ≠ gb766)))) _ _ l0_1 t786 _ ?side1 A29.out).mono ?_);(case side1=>exact HO_767001.out);rintro e w33 ⟨v787,rfl,ho0,hb⟩;refine ⟨_,rfl,?_⟩;replace HO_767001:=zA (kG (zPV HO_767001.out) hb);have HO788:=zA (jM (kN (ok' := fun k_=>((P0_1_ k_ ∨ P1_ k_) ∨ w.heap.size ≤ k_) ∧ some k_ ≠ (v774:Value).ownBlock ∧ some k_ ≠ (.slice Ao24 t782.length co24:Value).ownBlock ∧ k_ ≠ gb766) ho0 (fun k_ hk_=>⟨Or.elim hk_ (fun hs_=>hs_.1) (fun hn_=>(.inr (Nat.le_trans (kP (zT HB.out GE766.out)) hn_))),Or.elim hk_ (fun hs_=>hs_.2.1) (fun hn_=>(jF (kH (zP HO_9.out)) k_ hn_)),Or.elim hk_ (fun hs_=>hs_.2.2.1) (fun hn_=>(jF (kH (zP HO_34.out)) k_ hn_)),Or.elim hk_ (fun hs_=>hs_.2.2.2) (fun hn_=>(jE (g:=gb766) (o:=.cells #[.int .i64 a0_0,.slice A0_1 l0_1.length c0_1] 28 (0,0)) (zR BK766.out) k_ hn_))⟩)) (kP (zT HB.out GE766.out)));replace HO_9:=zA (kL (zP HO_9.out) hb);replace HO_34:=zA (kL (zP HO_34.out) hb);replace BK766:=zA (zB1 BK766.out hb);replace HB:=zA (kQ (zT HB.out GE766.out) hb);(try clear hb);(try clear ho0);obtain ⟨Ao34,co34,eo34⟩:=kM HO_9.out;subst eo34) | (refine zO (some 49) Tryd.func44 #[.slice Ao34 t773.length co34,.int .i64 a2] ?_;(with_reducible refine (impl_lettersAt.calls k1 _ _ t773 a2 t789 _ ?side1 ?side2 ?side3 A30.out).mono ?_);(case side1=>exact zS (kB HO_9.out).2.2);(case side2=>exact (kB HO_9.out).2.1);(case side3=>exact TabW.below HT.out (zT HB.out GE766.out));rintro e w35 ⟨v790,rfl,ho0,hb⟩;refine ⟨_,rfl,?_⟩;replace HO_767001:=zA (kK (zPV HO_767001.out) (kC ho0) hb);replace HO788:=zA (kK (zPV HO788.out) (kC ho0) hb);have HO791:=zA (kI (kF (kF (Kd.R_newM (M:=fun k_=>(w.heap.size ≤ k_)) ho0 (kP (zT HB.out GE766.out)) (fun k_ h_=>h_)) (kH (zP HO_9.out))) (kH (zP HO_34.out))) (kP (zT HB.out GE766.out)));replace HO_9:=zA (kE (zP HO_9.out) (kC ho0) hb);replace HO_34:=zA (kE (zP HO_34.out) (kC ho0) hb);replace BK766:=zA (zB1 BK766.out hb);replace HB:=zA (kQ (zT HB.out GE766.out) hb);(try clear hb);(try clear ho0);obtain ⟨Ao36,co36,eo36⟩:=Kd.V_slice HO788.out;subst eo36;obtain ⟨Ao37,co37,eo37⟩:=kM HO791.out;subst eo37) | (refine zO (some 50) Tryd.func40 #[.slice Ao36 t786.length co36,.slice Ao37 t789.length co37] ?_;(with_reducible refine (impl_ties_normal.calls k1 _ _ t786 (fun k_=>some k_ = (.slice Ao37 t789.length co37:Value).ownBlock) _ _ t789 t792 _ ?side1 ?side2 ?side3 ?side4 A31.out).mono ?_);(case side1=>exact zS (kJ HO788.out).2.2);(case side2=>exact (kJ HO788.out).2.1);(case side3=>exact jL (jK rfl (kD (HO791.out) BK766.out (by decide))));(case side4=>exact TabW.below HT.out (zT HB.out GE766.out));rintro e w38 ⟨v793,rfl,ho0,hb⟩;refine ⟨_,rfl,?_⟩;replace HO_767001:=zA (kK (zPV HO_767001.out) (kC ho0) hb);replace HO788:=zA (kK (zPV HO788.out) (kC ho0) hb);have HO794:=zA (kI (kF (kF (kF (Kd.R_newM (M:=fun k_=>(w.heap.size ≤ k_)) (kA (ok' := fun k_=>True) ho0 (fun _ hk_=>trivial)) (kP (zT HB.out GE766.out)) (fun k_ h_=>h_)) (kH (zP HO_9.out))) (kH (zP HO_34.out))) (kH (zP HO791.out))) (kP (zT HB.out GE766.out)));replace HO_9:=zA (kE (zP HO_9.out) (kC ho0) hb);replace HO_34:=zA (kE (zP HO_34.out) (kC ho0) hb);replace HO791:=zA (kE (zP HO791.out) (kC ho0) hb);replace BK766:=zA (zB1 BK766.out hb);replace HB:=zA (kQ (zT HB.out GE766.out) hb);(try clear hb);(try clear ho0)))
     go_ret2
     exact ⟨_,zr,by (with_reducible repeat (first | apply zF | apply zG | apply zH));exact kA HO794.out (fun _ hk=>hk.1.1.1.1),zT HB.out GE766.out⟩
  replace c8:=Bool.eq_false_iff.mpr c8
  subst c8
  rw [if_neg (show ¬ (false = true) by decide)] at H
  simp only [Option.some.injEq,Prod.mk.injEq] at H
  obtain ⟨rfl,rfl⟩:=H
  go_enter Tryd.func24,Tryd.ntmps24
  go_wp2_with (first | (refine zBE 3 #[.int .i64 a0_0,.slice A0_1 l0_1.length c0_1] 28 ?_;intro gb766 hg w39 hbox hb;replace HO0_1:=zA (kG (jD (zPV HO0_1.out) gb766 (Nat.le_of_eq hg.symm)) hb);replace HO1:=zA (kG (jD (zPV HO1.out) gb766 (Nat.le_of_eq hg.symm)) hb);have BK766:=zA (hbox);have GW766:=zA (zBH hg HB.out);have GE766:=zA (zBH hg HB.out);replace HB:=zA (kQ (zQ HB.out) hb);clear hb hbox hg;obtain ⟨hcz40_0,hcz40_1,hfz40_0,hfz40_1⟩:=zB3 BK766.out) | ((with_reducible refine kS (N:=15) rfl ?_);refine Kd.N_lit (Kd.slice 2 (Kd.int .i64)) _ 22 ?hg (N' := 15) ?hd (xs:=([l1]:List (List Int))) (inner:=[.slice A1 l1.length c1]) (ok:=(fun k_=>((P0_1_ k_ ∨ P1_ k_) ∨ w.heap.size ≤ k_) ∧ k_ ≠ gb766)) (okp:=(fun k_=>((P0_1_ k_ ∨ P1_ k_) ∨ w.heap.size ≤ k_) ∧ k_ ≠ gb766)) ?hr ?hp (fun _ hk=>hk) ((show ∀ k_:Nat,(_:Nat) ≤ k_ → (fun k_=>((P0_1_ k_ ∨ P1_ k_) ∨ w.heap.size ≤ k_) ∧ k_ ≠ gb766) k_ from fun k_ hk=>⟨(.inr (Nat.le_trans (kP (zT HB.out GE766.out)) hk)),jE (g:=gb766) (o:=.cells #[.int .i64 a0_0,.slice A0_1 l0_1.length c0_1] 28 (0,0)) (zR BK766.out) k_ hk⟩) _ (Nat.le_refl _)) (kW _ _) (Nat.le_refl _) (by simp) ?_;(case hd=>rfl);(case hg=>rfl);(case hr=>first | (go_simp;done) | (go_simp;rfl));(case hp=>exact (Reps.one (show Kd.FK (Kd.slice 2 (Kd.int .i64)) _ _ l1 [.slice A1 l1.length c1] from (zFK (kN (ok' := (fun k_=>((P0_1_ k_ ∨ P1_ k_) ∨ w.heap.size ≤ k_) ∧ k_ ≠ gb766)) (HO1.out) (fun k_ hk=>⟨hk.1,hk.2⟩)))) (Reps.none _ _)));intro v768 w41 ho42 hb hg_ hnew_;clear hg_ hnew_;(first | rw [← Ny767.out] at ho42 | (simp only [Int.reduceToNat] at ho42;rw [← Ny767.out] at ho42));replace HO0_1:=zA (kK (zPV HO0_1.out) (Kd.N_base ho42) hb);replace HO1:=zA (kK (zPV HO1.out) (Kd.N_base ho42) hb);have HO769:=zA (jN ho42 (kP (zT HB.out GE766.out)));replace BK766:=zA (zB1 BK766.out hb);replace HB:=zA (kQ (zT HB.out GE766.out) hb);clear hb ho42;obtain ⟨Ao43,co43,eo43⟩:=Kd.N_slice HO769.out;subst eo43) | (refine zO (some 16) Tryd.func30 #[.agg #[.int .i64 a0_0,.slice A0_1 l0_1.length c0_1],.slice Ao43 y767.length co43] ?_;(with_reducible refine (impl_checkWords.calls k a0_0 _ _ l0_1 _ _ y767 t770 _ ?side1 ?side2 ?side3 ?side4 ?side5 A4.out).mono ?_);(case side1=>exact zS (kJ HO0_1.out).2.2);(case side2=>exact (kJ HO0_1.out).2.1);(case side3=>exact zS (Kd.N_reads' HO769.out).2.2);(case side4=>exact (Kd.N_reads' HO769.out).2.1);(case side5=>exact TabW.below HT.out (zT HB.out GE766.out));rintro e w44 ⟨rfl,hb⟩;refine ⟨_,rfl,?_⟩;replace HO0_1:=zA (kG (zPV HO0_1.out) hb);replace HO1:=zA (kG (zPV HO1.out) hb);replace HO769:=zA (kZ (zPN HO769.out) hb);replace BK766:=zA (zB1 BK766.out hb);replace HB:=zA (kQ (zT HB.out GE766.out) hb);(try clear hb)) | (refine zO (some 22) Tryd.func34 #[.slice A1 l1.length c1] ?_;(with_reducible refine (impl_length_int64.calls _ _ l1 t771 _ ?side1 ?side2 A6.out).mono ?_);(case side1=>exact zS (kJ HO1.out).2.2);(case side2=>exact (kJ HO1.out).2.1);rintro e w' ⟨rfl,⟨nd,rfl⟩⟩;refine ⟨_,rfl,?_⟩) | (refine zO (some 23) Tryd.func43 #[.int .i64 a2,.int .i64 t771] ?_;(with_reducible refine (impl_IsMask.calls a2 t771 false _ A7.out).mono ?_);rintro e w' ⟨rfl,⟨nd,rfl⟩⟩;refine ⟨_,rfl,?_⟩))
  go_ret2
  exact ⟨_,zr,zn,zT HB.out GE766.out⟩
 rw [if_neg c5] at H
 obtain ⟨c5b0,c5b1⟩:=zT2 c5
 simp only [Option.some.injEq,Prod.mk.injEq] at H
 obtain ⟨rfl,rfl⟩:=H
 go_enter Tryd.func24,Tryd.ntmps24
 go_wp2_with (first | (refine zBE 3 #[.int .i64 a0_0,.slice A0_1 l0_1.length c0_1] 28 ?_;intro gb766 hg w45 hbox hb;replace HO0_1:=zA (kG (jD (zPV HO0_1.out) gb766 (Nat.le_of_eq hg.symm)) hb);replace HO1:=zA (kG (jD (zPV HO1.out) gb766 (Nat.le_of_eq hg.symm)) hb);have BK766:=zA (hbox);have GW766:=zA (zBH hg HB.out);have GE766:=zA (zBH hg HB.out);replace HB:=zA (kQ (zQ HB.out) hb);clear hb hbox hg;obtain ⟨hcz46_0,hcz46_1,hfz46_0,hfz46_1⟩:=zB3 BK766.out) | ((with_reducible refine kS (N:=15) rfl ?_);refine Kd.N_lit (Kd.slice 2 (Kd.int .i64)) _ 22 ?hg (N' := 15) ?hd (xs:=([l1]:List (List Int))) (inner:=[.slice A1 l1.length c1]) (ok:=(fun k_=>((P0_1_ k_ ∨ P1_ k_) ∨ w.heap.size ≤ k_) ∧ k_ ≠ gb766)) (okp:=(fun k_=>((P0_1_ k_ ∨ P1_ k_) ∨ w.heap.size ≤ k_) ∧ k_ ≠ gb766)) ?hr ?hp (fun _ hk=>hk) ((show ∀ k_:Nat,(_:Nat) ≤ k_ → (fun k_=>((P0_1_ k_ ∨ P1_ k_) ∨ w.heap.size ≤ k_) ∧ k_ ≠ gb766) k_ from fun k_ hk=>⟨(.inr (Nat.le_trans (kP (zT HB.out GE766.out)) hk)),jE (g:=gb766) (o:=.cells #[.int .i64 a0_0,.slice A0_1 l0_1.length c0_1] 28 (0,0)) (zR BK766.out) k_ hk⟩) _ (Nat.le_refl _)) (kW _ _) (Nat.le_refl _) (by simp) ?_;(case hd=>rfl);(case hg=>rfl);(case hr=>first | (go_simp;done) | (go_simp;rfl));(case hp=>exact (Reps.one (show Kd.FK (Kd.slice 2 (Kd.int .i64)) _ _ l1 [.slice A1 l1.length c1] from (zFK (kN (ok' := (fun k_=>((P0_1_ k_ ∨ P1_ k_) ∨ w.heap.size ≤ k_) ∧ k_ ≠ gb766)) (HO1.out) (fun k_ hk=>⟨hk.1,hk.2⟩)))) (Reps.none _ _)));intro v768 w47 ho48 hb hg_ hnew_;clear hg_ hnew_;(first | rw [← Ny767.out] at ho48 | (simp only [Int.reduceToNat] at ho48;rw [← Ny767.out] at ho48));replace HO0_1:=zA (kK (zPV HO0_1.out) (Kd.N_base ho48) hb);replace HO1:=zA (kK (zPV HO1.out) (Kd.N_base ho48) hb);have HO769:=zA (jN ho48 (kP (zT HB.out GE766.out)));replace BK766:=zA (zB1 BK766.out hb);replace HB:=zA (kQ (zT HB.out GE766.out) hb);clear hb ho48;obtain ⟨Ao49,co49,eo49⟩:=Kd.N_slice HO769.out;subst eo49) | (refine zO (some 16) Tryd.func30 #[.agg #[.int .i64 a0_0,.slice A0_1 l0_1.length c0_1],.slice Ao49 y767.length co49] ?_;(with_reducible refine (impl_checkWords.calls k a0_0 _ _ l0_1 _ _ y767 t770 _ ?side1 ?side2 ?side3 ?side4 ?side5 A4.out).mono ?_);(case side1=>exact zS (kJ HO0_1.out).2.2);(case side2=>exact (kJ HO0_1.out).2.1);(case side3=>exact zS (Kd.N_reads' HO769.out).2.2);(case side4=>exact (Kd.N_reads' HO769.out).2.1);(case side5=>exact TabW.below HT.out (zT HB.out GE766.out));rintro e w50 ⟨rfl,hb⟩;refine ⟨_,rfl,?_⟩;replace HO0_1:=zA (kG (zPV HO0_1.out) hb);replace HO1:=zA (kG (zPV HO1.out) hb);replace HO769:=zA (kZ (zPN HO769.out) hb);replace BK766:=zA (zB1 BK766.out hb);replace HB:=zA (kQ (zT HB.out GE766.out) hb);(try clear hb)))
 go_ret2
 exact ⟨_,zr,zn,zT HB.out GE766.out⟩
def laws_hasInt.l0:Nat → List Int → Int → Int → Option (Bool)
 | 0,_,_,_=>none
 | k + 1,x0,x1,x5=>if x5 < (x0.length:Int) then (if 0 ≤ x5 then (if (rd x0 x5) = x1 then (some true) else (laws_hasInt.l0 k x0 x1 (wrap64 (x5 + 1)))) else (none)) else (some false)
def laws_hasInt.f (k:Nat) (l0:List Int) (a1:Int):Option (Bool):=laws_hasInt.l0 k l0 a1 0
set_option maxHeartbeats 8000000 in
set_option maxRecDepth 100000 in
theorem laws_hasInt.calls (k:Nat) (A0:Option Addr) (c0:Nat) (l0:List Int) (a1:Int) (r:Bool) (w:World) (hr0:Kd.C (Kd.int .i64) w A0 l0.length l0) (hc0:l0.length ≤ c0) (h:laws_hasInt.f k l0 a1 = some r) :
  Calls Tryd.prog 25 #[.slice A0 l0.length c0,.int .i64 a1] w fun e w' => e = .returned (.bool r) ∧ Drawn0 w w' := by
 have HR0:=zA hr0
 have HC0:=zA hc0
 clear hr0 hc0
 have H:=h
 unfold laws_hasInt.f at H
 clear h
 have H' := zA H
 clear H
 go_enter Tryd.func25,Tryd.ntmps25
 go_wp2
 go_loopg [5] k (fun kq v5 w' => ∃ (x5_1:Int),v5 = .int .i64 x5_1 ∧ Aside0 (laws_hasInt.l0 kq l0 a1 x5_1 = some r) ∧ Aside0 (kq ≤ k) ∧ Drawn0 w w')
 case atStart=>exact ⟨(0),zs,H', ⟨Nat.le_refl _⟩,by repeat (first | exact Drawn0.refl _ | apply Drawn0.step)⟩
 case round =>
  clear H'
  try clear c2
  obtain ⟨x5_1,rfl,HA,HK1,⟨m1,rfl⟩⟩:=hrel
  cases gk with
  | zero=>exact absurd HA.out (by simp [laws_hasInt.l0])
  | succ k1 =>
   have H:=HA.out
   clear HA
   simp only [laws_hasInt.l0] at H
   by_cases c3:x5_1 < (l0.length:Int)
   ·rw [if_pos c3] at H
    have c3b0:decide (x5_1 < (l0.length:Int)) = true:=decide_eq_true c3
    clear c3
    by_cases c4:0 ≤ x5_1
    ·rw [if_pos c4] at H
     have c4b0:decide (0 ≤ x5_1) = true:=decide_eq_true c4
     clear c4
     by_cases c5:(rd l0 x5_1) = a1
     ·rw [if_pos c5] at H
      obtain ⟨c5b0,c5b1⟩:=zT1 c5
      clear c5
      obtain rfl:=Option.some.inj H
      have p795:0 ≤ (x5_1:Int):=zd
      have q795:x5_1 < (l0.length:Int):=zd
      obtain ⟨ad795,e795,hx795_0⟩:=Kd.at_int HR0.out x5_1 p795 q795
      cases e795
      replace p795:=eq_true p795
      replace q795:=eq_true q795
      go_wp2
      go_ret
      exact ⟨zs,by repeat (first | exact Drawn0.refl _ | apply Drawn0.step)⟩
     rw [if_neg c5] at H
     obtain ⟨c5b0,c5b1⟩:=zT2 c5
     have H' := zA H
     clear H
     have p795:0 ≤ (x5_1:Int):=zd
     have q795:x5_1 < (l0.length:Int):=zd
     obtain ⟨ad795,e795,hx795_0⟩:=Kd.at_int HR0.out x5_1 p795 q795
     cases e795
     replace p795:=eq_true p795
     replace q795:=eq_true q795
     go_wp2
     go_roundg k1
     case measure=>have:=HK1.out;omega
     case rel=>exact ⟨(wrap64 (x5_1 + 1)),zs,H', ⟨by have:=HK1.out;omega⟩,by repeat (first | exact Drawn0.refl _ | apply Drawn0.step)⟩
    rw [if_neg c4] at H
    exact absurd H (by simp)
   rw [if_neg c3] at H
   have c3b0:decide (x5_1 < (l0.length:Int)) = false:=decide_eq_false c3
   clear c3
   obtain rfl:=Option.some.inj H
   go_wp2
   go_ret
   exact ⟨zs,by repeat (first | exact Drawn0.refl _ | apply Drawn0.step)⟩
end Go.Proofs.YtpenijicdldipaaDoor.PAll
