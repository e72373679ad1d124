import Derived.Test.YtkiacoilecdepaaDoorPAllx0
import Derived.Test.YtkiacoilecdepaaDoorPAllx1
import Derived.Test.YtkiacoilecdepaaDoorPAllx6
import Derived.Test.YtkiacoilecdepaaDoorPAllx8
import Derived.Test.YtkiacoilecdepaaDoorPAllx17
import Derived.Test.YtkiacoilecdepaaDoorPAllx18
import Derived.Test.YtkiacoilecdepaaDoorPAllx24
namespace Go.Proofs.YtkiacoilecdepaaDoor.PAll
open Go.RowKit Go.Proofs.YtkiacoilecdepaaDoor.T Go.Proofs.YtkiacoilecdepaaDoorW.PrintWords Go.Proofs.YtkiacoilecdepaaDoorW.PrintLast Go.Proofs.YtkiacoilecdepaaDoorW.PrintMore
attribute [local go_sem] max2_int min2_int max_two min_two max_three min_three max_four min_four   -- for this text's walks alone
set_option linter.unusedVariables false
set_option linter.unusedSimpArgs false
mutual
def laws_FnLattice.j0 : Nat → List Int → List Int → List Int → List Int → Int → Bool → Int → List Int → Option (Bool)
 | 0, _, _, _, _, _, _, _, _ => none
 | k + 1, x0, x4, x5, x6, x7, x62, x1711000, x1711001 => if x62 = true then (none) else (if x7 = 1 then (laws_FnLattice.j1 k x0 x4 x5 x6 x7 true x1711000 x1711001) else (laws_FnLattice.j1 k x0 x4 x5 x6 x7 (x7 == 2) x1711000 x1711001))
def laws_FnLattice.j1 : Nat → List Int → List Int → List Int → List Int → Int → Bool → Int → List Int → Option (Bool)
 | 0, _, _, _, _, _, _, _, _ => none
 | k + 1, x0, x4, x5, x6, x7, x68, x1711000, x1711001 => if x68 = true then (some true) else ((impl_MeetOf.f k x1711000 x1711001 x4 x5).bind fun bt1720 => ((impl_MeetOf.f k x1711000 x1711001 x5 x4).bind fun bt1724 => ((impl_IsPrefix.f k x1711000 x1711001 bt1720.1 x4).bind fun bt1728 => ((impl_IsPrefix.f k x1711000 x1711001 bt1720.1 x5).bind fun bt1730 => (if bt1720.2 = 0 then (if bt1724.2 = 0 then (if bt1728.2 = 0 then (if bt1730.2 = 0 then ((laws_likeInts.f k bt1720.1 bt1724.1).bind fun t1732 => (if t1732 = true then (if bt1728.1 = true then (laws_FnLattice.j2 k x0 x4 x5 x6 x7 bt1720.1 (!bt1730.1) x1711000 x1711001) else (laws_FnLattice.j2 k x0 x4 x5 x6 x7 bt1720.1 true x1711000 x1711001)) else (laws_FnLattice.j2 k x0 x4 x5 x6 x7 bt1720.1 true x1711000 x1711001))) else (laws_FnLattice.j2 k x0 x4 x5 x6 x7 bt1720.1 true x1711000 x1711001)) else (laws_FnLattice.j2 k x0 x4 x5 x6 x7 bt1720.1 true x1711000 x1711001)) else (laws_FnLattice.j2 k x0 x4 x5 x6 x7 bt1720.1 true x1711000 x1711001)) else (laws_FnLattice.j2 k x0 x4 x5 x6 x7 bt1720.1 true x1711000 x1711001))))))
def laws_FnLattice.j2 : Nat → List Int → List Int → List Int → List Int → Int → List Int → Bool → Int → List Int → Option (Bool)
 | 0, _, _, _, _, _, _, _, _, _ => none
 | k + 1, x0, x4, x5, x6, x7, x10, x124, x1711000, x1711001 => if x124 = true then (none) else ((laws_roll.f k x0 508).bind fun bt1733 => ((laws_shuffle5.f k bt1733.1 bt1733.2.1 bt1733.2.2 x1711000 x1711001 x4).bind fun bt1737 => ((laws_dice_below.f bt1733.1 bt1737.2.1 bt1737.2.2 (wrap64 ((bt1737.1.length : Int) + 1))).bind fun bt1742 => (if 0 ≤ bt1742.1 then (if bt1742.1 ≤ (bt1737.1.length : Int) then ((some (bt1737.1.take (bt1742.1 : Int).toNat : List Int)).bind fun y1745 => ((impl_IsPrefix.f k x1711000 x1711001 y1745 x5).bind fun bt1748 => ((impl_IsPrefix.f k x1711000 x1711001 y1745 x10).bind fun bt1750 => (if bt1748.2 = 0 then (if bt1750.2 = 0 then (laws_FnLattice.j3 k x4 x5 x6 x7 x10 (bt1748.1 != bt1750.1) x1711000 x1711001) else (laws_FnLattice.j3 k x4 x5 x6 x7 x10 true x1711000 x1711001)) else (laws_FnLattice.j3 k x4 x5 x6 x7 x10 true x1711000 x1711001))))) else (none)) else (none)))))
def laws_FnLattice.j3 : Nat → List Int → List Int → List Int → Int → List Int → Bool → Int → List Int → Option (Bool)
 | 0, _, _, _, _, _, _, _, _ => none
 | k + 1, x4, x5, x6, x7, x10, x162, x1711000, x1711001 => if x162 = true then (none) else (if x7 = 0 then ((impl_MeetOf.f k x1711000 x1711001 x4 x6).bind fun bt1752 => ((impl_NormalForm.f k x1711000 x1711001 x4).bind fun bt1756 => ((impl_JoinOf.f k x1711000 x1711001 x4 x10).bind fun bt1760 => ((impl_JoinOf.f k x1711000 x1711001 x5 x4).bind fun bt1764 => (if bt1752.2 = 0 then (if bt1756.2 = 0 then (if bt1760.2 = 0 then (if bt1764.2 = 0 then ((laws_likeInts.f k bt1752.1 bt1756.1).bind fun t1768 => (if t1768 = true then ((laws_likeInts.f k bt1760.1 bt1756.1).bind fun t1769 => (if t1769 = true then ((laws_likeInts.f k bt1764.1 x6).bind fun t1770 => (if t1770 = true then (some ((wrap64 ((x6.length : Int) + (x10.length : Int))) == (wrap64 ((x4.length : Int) + (x5.length : Int))))) else (none))) else (none))) else (none))) else (none)) else (none)) else (none)) else (none)))))) else (some true))
end
def laws_FnLattice.f (k : Nat) (l0 : List Int) : Option (Bool) := (laws_big.f l0).bind fun t1699 => (if t1699 = true then (some true) else ((spec_DrawJoinOf.f k l0).bind fun bt1700 => ((impl_JoinOf.f k bt1700.1 bt1700.2.1 bt1700.2.2.1 bt1700.2.2.2).bind fun bt1711 => ((spec_JoinOf.f k bt1700.1 bt1700.2.1 bt1700.2.2.1 bt1700.2.2.2).bind fun bt1715 => (if bt1711.2 = bt1715.2 then ((laws_likeInts.f k bt1711.1 bt1715.1).bind fun t1719 => (laws_FnLattice.j0 k l0 bt1700.2.2.1 bt1700.2.2.2 bt1711.1 bt1711.2 (!t1719) bt1700.1 bt1700.2.1)) else (laws_FnLattice.j0 k l0 bt1700.2.2.1 bt1700.2.2.2 bt1711.1 bt1711.2 true bt1700.1 bt1700.2.1))))))
set_option maxHeartbeats 8000000 in
set_option maxRecDepth 100000 in
theorem laws_FnLattice.calls (k : Nat) (A0 : Option Addr) (c0 : Nat) (l0 : List Int) (r : Bool) (w : World) (hr0 : Kd.C (Kd.int .u8) w A0 l0.length l0) (hc0 : l0.length ≤ c0) (hT : TabW w) (h : laws_FnLattice.f k l0 = some r) :
  Calls Tryd.prog 8 #[.slice A0 l0.length c0] w fun e w' => e = .returned (.bool r) ∧ Below w.heap.size w w' := by
 have hu26 := Tryd.underlying26
 have HT := zA hT
 clear hT
 have HR0 := zA hr0
 have HC0 := zA hc0
 clear hr0 hc0
 have HB := zA (kW w.heap.size w)
 have H := h
 unfold laws_FnLattice.f at H
 clear h
 obtain ⟨t1699, A2, H⟩ := zb H
 try dsimp only at H
 by_cases c3 : t1699 = true
 ·subst c3
  rw [if_pos rfl] at H
  obtain rfl := Option.some.inj H
  go_enter Tryd.func8, Tryd.ntmps8
  go_wp2_with (first | (refine zO (some 33) Tryd.func9 #[.slice A0 l0.length c0] ?_; (with_reducible refine (laws_big.calls _ _ l0 true _ ?side1 ?side2 A2.out).mono ?_); (case side1 => exact zS HR0.out); (case side2 => exact HC0.out); rintro e w' ⟨rfl, ⟨nd, rfl⟩⟩; refine ⟨_, rfl, ?_⟩))
  go_ret
  exact ⟨zr, zQ HB.out⟩
 replace c3 := Bool.eq_false_iff.mpr c3
 subst c3
 rw [if_neg (show ¬ (false = true) by decide)] at H
 obtain ⟨⟨t1700, t1701, t1704, t1707⟩, A4, H⟩ := zb H
 try dsimp only at H
 obtain ⟨⟨t1711, t1714⟩, A5, H⟩ := zb H
 try dsimp only at H
 obtain ⟨⟨t1715, t1718⟩, A6, H⟩ := zb H
 try dsimp only at H
 have HC7 := zA H
 clear H
 go_enter Tryd.func8, Tryd.ntmps8
 go_upto_region 6 with (first | (refine zO (some 33) Tryd.func9 #[.slice A0 l0.length c0] ?_; (with_reducible refine (laws_big.calls _ _ l0 false _ ?side1 ?side2 A2.out).mono ?_); (case side1 => exact zS HR0.out); (case side2 => exact HC0.out); rintro e w' ⟨rfl, ⟨nd, rfl⟩⟩; refine ⟨_, rfl, ?_⟩) | (refine zO (some 36) Tryd.func44 #[.slice A0 l0.length c0] ?_; (with_reducible refine (spec_DrawJoinOf.calls k _ _ l0 t1700 t1701 t1704 t1707 _ ?side1 ?side2 A4.out).mono ?_); (case side1 => exact zS HR0.out); (case side2 => exact HC0.out); rintro e w8 ⟨v1702, v1705, v1708, rfl, ho0, ho1, ho2, hb⟩; refine ⟨_, rfl, ?_⟩; have HO1703 := zA (kI ho0 (kP (zQ HB.out))); have HO1706 := zA (kI ho1 (kP (zQ HB.out))); have HO1709 := zA (kI ho2 (kP (zQ HB.out))); replace HB := zA (kQ (zQ HB.out) hb); (try clear hb); (try clear ho0); (try clear ho1); (try clear ho2)) | (refine zBE 3 #[.int .i64 0, .slice none 0 0] 26 ?_; intro gb1710 hg w9 hbox hb; replace HO1703 := zA (kL (zP HO1703.out) hb); replace HO1706 := zA (kL (zP HO1706.out) hb); replace HO1709 := zA (kL (zP HO1709.out) hb); have BK1710 := zA (hbox); have GW1710 := zA (zBH hg HB.out); have GE1710 := zA (zBH hg HB.out); replace HB := zA (kQ (zQ HB.out) hb); clear hb hbox hg; obtain ⟨hcz10_0, hcz10_1, hfz10_0, hfz10_1⟩ := zB3 BK1710.out; obtain ⟨Ao11, co11, eo11⟩ := kM HO1703.out; subst eo11) | ((with_reducible refine gate_store (t := 26) (p := 3) rfl ?_); refine store_event (t := 26) (p := 3) (v := ?vo_w12) (w1 := ((w9.setCell ⟨gb1710, 0, none⟩ (.int .i64 t1700)).setCell ⟨gb1710, 1, none⟩ (.slice Ao11 t1701.length co11))) ?hg ?ho ?hn ?hr ?_; (case ho => rfl); (case hg => rfl); (case hn => rfl); (case hr => first | (go_simp; done) | (go_simp; rfl)); intro w12 hw; replace HO1703 : Aside0 (Kd.R (Kd.int .i64) 2 w12 w.heap.size (fun k_ => some k_ ≠ (v1705 : Value).ownBlock ∧ some k_ ≠ (v1708 : Value).ownBlock) (.slice Ao11 t1701.length co11) t1701) := ⟨(by rw [hw]; exact (by (with_reducible repeat (first | apply zF | apply zG | apply zH)); exact kA (kY (p := ⟨gb1710, 1, none⟩) (kY (p := ⟨gb1710, 0, none⟩) (kD HO1703.out BK1710.out (by decide)) (fun _ hk => hk.2) (.int .i64 t1700)) (fun _ hk => hk.2) (.slice Ao11 t1701.length co11)) (fun _ hk => ⟨hk.1.1, hk.1.2⟩)))⟩; replace HO1706 : Aside0 (Kd.R (Kd.int .i64) 2 w12 w.heap.size (fun k_ => some k_ ≠ (.slice Ao11 t1701.length co11 : Value).ownBlock ∧ some k_ ≠ (v1708 : Value).ownBlock) v1705 t1704) := ⟨(by rw [hw]; exact (by (with_reducible repeat (first | apply zF | apply zG | apply zH)); exact kA (kY (p := ⟨gb1710, 1, none⟩) (kY (p := ⟨gb1710, 0, none⟩) (kD HO1706.out BK1710.out (by decide)) (fun _ hk => hk.2) (.int .i64 t1700)) (fun _ hk => hk.2) (.slice Ao11 t1701.length co11)) (fun _ hk => ⟨hk.1.1, hk.1.2⟩)))⟩; replace HO1709 : Aside0 (Kd.R (Kd.int .i64) 2 w12 w.heap.size (fun k_ => some k_ ≠ (.slice Ao11 t1701.length co11 : Value).ownBlock ∧ some k_ ≠ (v1705 : Value).ownBlock) v1708 t1707) := ⟨(by rw [hw]; exact (by (with_reducible repeat (first | apply zF | apply zG | apply zH)); exact kA (kY (p := ⟨gb1710, 1, none⟩) (kY (p := ⟨gb1710, 0, none⟩) (kD HO1709.out BK1710.out (by decide)) (fun _ hk => hk.2) (.int .i64 t1700)) (fun _ hk => hk.2) (.slice Ao11 t1701.length co11)) (fun _ hk => ⟨hk.1.1, hk.1.2⟩)))⟩; replace BK1710 : Aside0 (w12.heap[gb1710]? = some (.cells #[.int .i64 t1700, .slice Ao11 t1701.length co11] 26 (0, 0))) := ⟨(by rw [hw]; exact (zRP BK1710.out))⟩; replace HB : Aside0 (Below w.heap.size w w12) := ⟨(by rw [hw]; exact (zT HB.out GE1710.out))⟩; clear hw; obtain ⟨hcz13_0, hcz13_1, hfz13_0, hfz13_1⟩ := zB3 BK1710.out; obtain ⟨Ao14, co14, eo14⟩ := kM HO1706.out; subst eo14; obtain ⟨Ao15, co15, eo15⟩ := kM HO1709.out; subst eo15) | (refine zO (some 44) Tryd.func40 #[.agg #[.int .i64 t1700, .slice Ao11 t1701.length co11], .slice Ao14 t1704.length co14, .slice Ao15 t1707.length co15] ?_; (with_reducible refine (impl_JoinOf.calls k t1700 (fun k_ => some k_ = (.slice Ao11 t1701.length co11 : Value).ownBlock) _ _ t1701 (fun k_ => some k_ = (.slice Ao14 t1704.length co14 : Value).ownBlock) _ _ t1704 (fun k_ => some k_ = (.slice Ao15 t1707.length co15 : Value).ownBlock) _ _ t1707 t1711 t1714 _ ?side1 ?side2 ?side3 ?side4 A5.out).mono ?_); (case side1 => exact jL (jK rfl (kD (HO1703.out) BK1710.out (by decide)))); (case side2 => exact jL (jK rfl (kD (HO1706.out) BK1710.out (by decide)))); (case side3 => exact jL (jK rfl (kD (HO1709.out) BK1710.out (by decide)))); (case side4 => exact TabW.below HT.out (zT HB.out GE1710.out)); rintro e w16 ⟨v1712, rfl, ho0, hb⟩; refine ⟨_, rfl, ?_⟩; have HO1713 := zA (kI (kF (kF (kF (kA (ok' := fun k_ => True) ho0 (fun _ hk_ => trivial)) (kH (zP HO1703.out))) (kH (zP HO1706.out))) (kH (zP HO1709.out))) (kP (zT HB.out GE1710.out))); replace HO1703 := zA (kE (zP HO1703.out) (kC ho0) hb); replace HO1706 := zA (kE (zP HO1706.out) (kC ho0) hb); replace HO1709 := zA (kE (zP HO1709.out) (kC ho0) hb); replace BK1710 := zA (zB1 BK1710.out hb); replace HB := zA (kQ (zT HB.out GE1710.out) hb); (try clear hb); (try clear ho0); obtain ⟨hcz17_0, hcz17_1, hfz17_0, hfz17_1⟩ := zB3 BK1710.out) | (refine zO (some 51) Tryd.func45 #[.agg #[.int .i64 t1700, .slice Ao11 t1701.length co11], .slice Ao14 t1704.length co14, .slice Ao15 t1707.length co15] ?_; (with_reducible refine (spec_JoinOf.calls k t1700 _ _ t1701 _ _ t1704 _ _ t1707 t1715 t1718 _ ?side1 ?side2 ?side3 ?side4 ?side5 ?side6 A6.out).mono ?_); (case side1 => exact zS (kB HO1703.out).2.2); (case side2 => exact (kB HO1703.out).2.1); (case side3 => exact zS (kB HO1706.out).2.2); (case side4 => exact (kB HO1706.out).2.1); (case side5 => exact zS (kB HO1709.out).2.2); (case side6 => exact (kB HO1709.out).2.1); rintro e w18 ⟨v1716, rfl, ho0, hb⟩; refine ⟨_, rfl, ?_⟩; have HO1717 := zA (kI (kF (kF (kF (kF ho0 (kH (zP HO1703.out))) (kH (zP HO1706.out))) (kH (zP HO1709.out))) (kH (zP HO1713.out))) (kP (zT HB.out GE1710.out))); replace HO1703 := zA (kE (zP HO1703.out) (kC ho0) hb); replace HO1706 := zA (kE (zP HO1706.out) (kC ho0) hb); replace HO1709 := zA (kE (zP HO1709.out) (kC ho0) hb); replace HO1713 := zA (kE (zP HO1713.out) (kC ho0) hb); replace BK1710 := zA (zB1 BK1710.out hb); replace HB := zA (kQ (zT HB.out GE1710.out) hb); (try clear hb); (try clear ho0)))
 (try simp only [Act.put, zL, zM, zN])
 go_cut [62] (fun v62 wc => ∃ (kq : Nat) (x62_6 : Bool), v62 = .bool x62_6 ∧ Aside0 (laws_FnLattice.j0 kq l0 t1704 t1707 t1711 t1714 x62_6 t1700 t1701 = some r) ∧ Aside0 (kq ≤ k) ∧ Aside0 (Kd.R (Kd.int .i64) 2 wc w.heap.size (fun k_ => some k_ ≠ ((.slice Ao15 t1707.length co15) : Value).ownBlock ∧ some k_ ≠ (v1712 : Value).ownBlock ∧ some k_ ≠ ((.slice Ao11 t1701.length co11) : Value).ownBlock) (.slice Ao14 t1704.length co14) t1704) ∧ Aside0 (Kd.R (Kd.int .i64) 2 wc w.heap.size (fun k_ => some k_ ≠ ((.slice Ao14 t1704.length co14) : Value).ownBlock ∧ some k_ ≠ (v1712 : Value).ownBlock ∧ some k_ ≠ ((.slice Ao11 t1701.length co11) : Value).ownBlock) (.slice Ao15 t1707.length co15) t1707) ∧ Aside0 (Kd.R (Kd.int .i64) 2 wc w.heap.size (fun k_ => some k_ ≠ ((.slice Ao14 t1704.length co14) : Value).ownBlock ∧ some k_ ≠ ((.slice Ao15 t1707.length co15) : Value).ownBlock ∧ some k_ ≠ ((.slice Ao11 t1701.length co11) : Value).ownBlock) v1712 t1711) ∧ Aside0 (Kd.R (Kd.int .i64) 2 wc w.heap.size (fun k_ => some k_ ≠ ((.slice Ao14 t1704.length co14) : Value).ownBlock ∧ some k_ ≠ ((.slice Ao15 t1707.length co15) : Value).ownBlock ∧ some k_ ≠ (v1712 : Value).ownBlock) (.slice Ao11 t1701.length co11) t1701) ∧ Aside0 (wc.heap[gb1710]? = some (.cells #[.int .i64 t1700, (.slice Ao11 t1701.length co11)] 26 (0, 0))) ∧ Aside0 (Below w.heap.size w wc))
 case first => as_aux_lemma =>
  have H := HC7.out
  clear HC7
  by_cases c19 : t1714 = t1718
  ·rw [if_pos c19] at H
   obtain ⟨c19b0, c19b1⟩ := zT1 c19
   clear c19
   (first | rw [c19b0] | (simp only [i64_w, i32_w]; rw [c19b0]) | skip)
   obtain ⟨t1719, A20, H⟩ := zb H
   try dsimp only at H
   have H' := zA H
   clear H
   obtain ⟨Ao21, co21, eo21⟩ := kM HO1713.out
   subst eo21
   obtain ⟨Ao22, co22, eo22⟩ := kM HO1717.out
   subst eo22
   go_wp2_with (first | (go_at_call 20; (with_reducible refine (laws_likeInts.calls k _ _ t1711 _ _ t1715 t1719 _ ?side1 ?side2 ?side3 ?side4 A20.out).mono ?_); (case side1 => exact zS (kB HO1713.out).2.2); (case side2 => exact (kB HO1713.out).2.1); (case side3 => exact zS (kB HO1717.out).2.2); (case side4 => exact (kB HO1717.out).2.1); rintro e w' ⟨rfl, ⟨nd, rfl⟩⟩))
   go_meet
   case rel => exact ⟨_, (!t1719), zs, H', ⟨by first | omega | exact Nat.le_refl _⟩, ⟨zPM HO1706.out (fun _ hk => ⟨hk.1.1.2, ⟨hk.1.2, hk.1.1.1⟩⟩)⟩, ⟨zPM HO1709.out (fun _ hk => ⟨hk.1.1.2, ⟨hk.1.2, hk.1.1.1⟩⟩)⟩, ⟨zPM HO1713.out (fun _ hk => ⟨hk.1.1.2, ⟨hk.1.2, hk.1.1.1.2⟩⟩)⟩, ⟨zPM HO1703.out (fun _ hk => ⟨hk.1.1.1, ⟨hk.1.1.2, hk.1.2⟩⟩)⟩, ⟨zR BK1710.out⟩, ⟨zT HB.out GE1710.out⟩⟩
  rw [if_neg c19] at H
  obtain ⟨c19b0, c19b1⟩ := zT2 c19
  (first | rw [c19b0] | (simp only [i64_w, i32_w]; rw [c19b0]) | skip)
  have H' := zA H
  clear H
  go_wp2
  go_meet
  case rel => exact ⟨_, (true), zs, H', ⟨by first | omega | exact Nat.le_refl _⟩, ⟨zPM HO1706.out (fun _ hk => ⟨hk.1.1.2, ⟨hk.1.2, hk.1.1.1⟩⟩)⟩, ⟨zPM HO1709.out (fun _ hk => ⟨hk.1.1.2, ⟨hk.1.2, hk.1.1.1⟩⟩)⟩, ⟨zPM HO1713.out (fun _ hk => ⟨hk.1.1.2, ⟨hk.1.2, hk.1.1.1.2⟩⟩)⟩, ⟨zPM HO1703.out (fun _ hk => ⟨hk.1.1.1, ⟨hk.1.1.2, hk.1.2⟩⟩)⟩, ⟨zR BK1710.out⟩, ⟨zT HB.out GE1710.out⟩⟩
 case rest =>
  clear HC7
  try clear c1
  try clear c3
  try clear c4
  try clear c8
  try clear c9
  try clear c19
  try clear hcz10_0
  try clear hcz10_1
  try clear hcz13_0
  try clear hcz13_1
  try clear hcz17_0
  try clear hcz17_1
  try clear hfz10_0
  try clear hfz10_1
  try clear hfz13_0
  try clear hfz13_1
  try clear hfz17_0
  try clear hfz17_1
  obtain ⟨kq, x62_6, rfl, HA, HJ6, HO_4, HO_5, HO_6, HO_1711001, BK1710, HB⟩ := hcut
  cases kq with
  | zero => exact absurd HA.out (by simp [laws_FnLattice.j0])
  | succ kj6 =>
   have H := HA.out
   clear HA
   simp only [laws_FnLattice.j0] at H
   by_cases c23 : x62_6 = true
   ·subst c23
    rw [if_pos rfl] at H
    exact absurd H (by simp)
   replace c23 := Bool.eq_false_iff.mpr c23
   subst c23
   rw [if_neg (show ¬ (false = true) by decide)] at H
   have HC24 := zA H
   clear H
   go_upto_region 8 with (fail)
   go_cut [68] (fun v68 wc => ∃ (kq : Nat) (x68_23 : Bool), v68 = .bool x68_23 ∧ Aside0 (laws_FnLattice.j1 kq l0 t1704 t1707 t1711 t1714 x68_23 t1700 t1701 = some r) ∧ Aside0 (kq ≤ kj6) ∧ Aside0 (Kd.R (Kd.int .i64) 2 wc w.heap.size (fun k_ => some k_ ≠ ((.slice Ao15 t1707.length co15) : Value).ownBlock ∧ some k_ ≠ (v1712 : Value).ownBlock ∧ some k_ ≠ ((.slice Ao11 t1701.length co11) : Value).ownBlock) (.slice Ao14 t1704.length co14) t1704) ∧ Aside0 (Kd.R (Kd.int .i64) 2 wc w.heap.size (fun k_ => some k_ ≠ ((.slice Ao14 t1704.length co14) : Value).ownBlock ∧ some k_ ≠ (v1712 : Value).ownBlock ∧ some k_ ≠ ((.slice Ao11 t1701.length co11) : Value).ownBlock) (.slice Ao15 t1707.length co15) t1707) ∧ Aside0 (Kd.R (Kd.int .i64) 2 wc w.heap.size (fun k_ => some k_ ≠ ((.slice Ao14 t1704.length co14) : Value).ownBlock ∧ some k_ ≠ ((.slice Ao15 t1707.length co15) : Value).ownBlock ∧ some k_ ≠ ((.slice Ao11 t1701.length co11) : Value).ownBlock) v1712 t1711) ∧ Aside0 (Kd.R (Kd.int .i64) 2 wc w.heap.size (fun k_ => some k_ ≠ ((.slice Ao14 t1704.length co14) : Value).ownBlock ∧ some k_ ≠ ((.slice Ao15 t1707.length co15) : Value).ownBlock ∧ some k_ ≠ (v1712 : Value).ownBlock) (.slice Ao11 t1701.length co11) t1701) ∧ Aside0 (wc.heap[gb1710]? = some (.cells #[.int .i64 t1700, (.slice Ao11 t1701.length co11)] 26 (0, 0))) ∧ Aside0 (Below w.heap.size w wc))
   case first => as_aux_lemma =>
    have H := HC24.out
    clear HC24
    by_cases c25 : t1714 = 1
    ·rw [if_pos c25] at H
     obtain ⟨c25b0, c25b1⟩ := zT1 c25
     clear c25
     (first | rw [c25b0] | (simp only [i64_w, i32_w]; rw [c25b0]) | skip)
     have H' := zA H
     clear H
     go_wp2
     go_meet
     case rel => exact ⟨_, (true), zs, H', ⟨by have := HJ6.out; first | omega | exact Nat.le_refl _⟩, ⟨zP HO_4.out⟩, ⟨zP HO_5.out⟩, ⟨zP HO_6.out⟩, ⟨zP HO_1711001.out⟩, ⟨zR BK1710.out⟩, ⟨zT HB.out GE1710.out⟩⟩
    rw [if_neg c25] at H
    obtain ⟨c25b0, c25b1⟩ := zT2 c25
    (first | rw [c25b0] | (simp only [i64_w, i32_w]; rw [c25b0]) | skip)
    have H' := zA H
    clear H
    go_wp2
    go_meet
    case rel => exact ⟨_, ((t1714 == 2)), zs, H', ⟨by have := HJ6.out; first | omega | exact Nat.le_refl _⟩, ⟨zP HO_4.out⟩, ⟨zP HO_5.out⟩, ⟨zP HO_6.out⟩, ⟨zP HO_1711001.out⟩, ⟨zR BK1710.out⟩, ⟨zT HB.out GE1710.out⟩⟩
   case rest =>
    clear HC24
    try clear c1
    try clear c2
    try clear c3
    try clear c4
    try clear c8
    try clear c9
    try clear c19
    try clear c23
    try clear c25
    try clear hcz10_0
    try clear hcz10_1
    try clear hcz13_0
    try clear hcz13_1
    try clear hcz17_0
    try clear hcz17_1
    try clear hfz10_0
    try clear hfz10_1
    try clear hfz13_0
    try clear hfz13_1
    try clear hfz17_0
    try clear hfz17_1
    obtain ⟨kq, x68_23, rfl, HA, HJ23, HO_4, HO_5, HO_6, HO_1711001, BK1710, HB⟩ := hcut
    cases kq with
    | zero => exact absurd HA.out (by simp [laws_FnLattice.j1])
    | succ kj23 =>
     have H := HA.out
     clear HA
     simp only [laws_FnLattice.j1] at H
     by_cases c26 : x68_23 = true
     ·subst c26
      rw [if_pos rfl] at H
      obtain rfl := Option.some.inj H
      go_wp2
      go_ret
      exact ⟨zr, zT HB.out GE1710.out⟩
     replace c26 := Bool.eq_false_iff.mpr c26
     subst c26
     rw [if_neg (show ¬ (false = true) by decide)] at H
     obtain ⟨⟨t1720, t1723⟩, A27, H⟩ := zb H
     try dsimp only at H
     obtain ⟨⟨t1724, t1727⟩, A28, H⟩ := zb H
     try dsimp only at H
     obtain ⟨⟨t1728, t1729⟩, A29, H⟩ := zb H
     try dsimp only at H
     obtain ⟨⟨t1730, t1731⟩, A30, H⟩ := zb H
     try dsimp only at H
     have HC31 := zA H
     clear H
     obtain ⟨hcz32_0, hcz32_1, hfz32_0, hfz32_1⟩ := zB3 BK1710.out
     go_upto_region 14 with (first | (refine zO (some 73) Tryd.func46 #[.agg #[.int .i64 t1700, .slice Ao11 t1701.length co11], .slice Ao14 t1704.length co14, .slice Ao15 t1707.length co15] ?_; (with_reducible refine (impl_MeetOf.calls kj23 t1700 (fun k_ => some k_ = (.slice Ao11 t1701.length co11 : Value).ownBlock) _ _ t1701 (fun k_ => some k_ = (.slice Ao14 t1704.length co14 : Value).ownBlock) _ _ t1704 (fun k_ => some k_ = (.slice Ao15 t1707.length co15 : Value).ownBlock) _ _ t1707 t1720 t1723 _ ?side1 ?side2 ?side3 ?side4 A27.out).mono ?_); (case side1 => exact jL (jK rfl (kD (HO_1711001.out) BK1710.out (by decide)))); (case side2 => exact jL (jK rfl (kD (HO_4.out) BK1710.out (by decide)))); (case side3 => exact jL (jK rfl (kD (HO_5.out) BK1710.out (by decide)))); (case side4 => exact TabW.below HT.out (zT HB.out GE1710.out)); rintro e w33 ⟨v1721, rfl, ho0, hb⟩; refine ⟨_, rfl, ?_⟩; have HO1722 := zA (kI (kF (kF (kF (kF (kA (ok' := fun k_ => True) ho0 (fun _ hk_ => trivial)) (kH (zP HO_4.out))) (kH (zP HO_5.out))) (kH (zP HO_6.out))) (kH (zP HO_1711001.out))) (kP (zT HB.out GE1710.out))); replace HO_4 := zA (kE (zP HO_4.out) (kC ho0) hb); replace HO_5 := zA (kE (zP HO_5.out) (kC ho0) hb); replace HO_6 := zA (kE (zP HO_6.out) (kC ho0) hb); replace HO_1711001 := zA (kE (zP HO_1711001.out) (kC ho0) hb); replace BK1710 := zA (zB1 BK1710.out hb); replace HB := zA (kQ (zT HB.out GE1710.out) hb); (try clear hb); (try clear ho0); obtain ⟨hcz34_0, hcz34_1, hfz34_0, hfz34_1⟩ := zB3 BK1710.out) | (refine zO (some 80) Tryd.func46 #[.agg #[.int .i64 t1700, .slice Ao11 t1701.length co11], .slice Ao15 t1707.length co15, .slice Ao14 t1704.length co14] ?_; (with_reducible refine (impl_MeetOf.calls kj23 t1700 (fun k_ => some k_ = (.slice Ao11 t1701.length co11 : Value).ownBlock) _ _ t1701 (fun k_ => some k_ = (.slice Ao15 t1707.length co15 : Value).ownBlock) _ _ t1707 (fun k_ => some k_ = (.slice Ao14 t1704.length co14 : Value).ownBlock) _ _ t1704 t1724 t1727 _ ?side1 ?side2 ?side3 ?side4 A28.out).mono ?_); (case side1 => exact jL (jK rfl (kD (HO_1711001.out) BK1710.out (by decide)))); (case side2 => exact jL (jK rfl (kD (HO_5.out) BK1710.out (by decide)))); (case side3 => exact jL (jK rfl (kD (HO_4.out) BK1710.out (by decide)))); (case side4 => exact TabW.below HT.out (zT HB.out GE1710.out)); rintro e w35 ⟨v1725, rfl, ho0, hb⟩; refine ⟨_, rfl, ?_⟩; have HO1726 := zA (kI (kF (kF (kF (kF (kF (kA (ok' := fun k_ => True) ho0 (fun _ hk_ => trivial)) (kH (zP HO_4.out))) (kH (zP HO_5.out))) (kH (zP HO_6.out))) (kH (zP HO_1711001.out))) (kH (zP HO1722.out))) (kP (zT HB.out GE1710.out))); replace HO_4 := zA (kE (zP HO_4.out) (kC ho0) hb); replace HO_5 := zA (kE (zP HO_5.out) (kC ho0) hb); replace HO_6 := zA (kE (zP HO_6.out) (kC ho0) hb); replace HO_1711001 := zA (kE (zP HO_1711001.out) (kC ho0) hb); replace HO1722 := zA (kE (zP HO1722.out) (kC ho0) hb); replace BK1710 := zA (zB1 BK1710.out hb); replace HB := zA (kQ (zT HB.out GE1710.out) hb); (try clear hb); (try clear ho0); obtain ⟨hcz36_0, hcz36_1, hfz36_0, hfz36_1⟩ := zB3 BK1710.out; obtain ⟨Ao37, co37, eo37⟩ := kM HO1722.out; subst eo37) | (refine zO (some 87) Tryd.func16 #[.agg #[.int .i64 t1700, .slice Ao11 t1701.length co11], .slice Ao37 t1720.length co37, .slice Ao14 t1704.length co14] ?_; (with_reducible refine (impl_IsPrefix.calls kj23 t1700 (fun k_ => some k_ = (.slice Ao11 t1701.length co11 : Value).ownBlock) _ _ t1701 (fun k_ => some k_ = (.slice Ao37 t1720.length co37 : Value).ownBlock) _ _ t1720 (fun k_ => some k_ = (.slice Ao14 t1704.length co14 : Value).ownBlock) _ _ t1704 t1728 t1729 _ ?side1 ?side2 ?side3 ?side4 A29.out).mono ?_); (case side1 => exact jL (jK rfl (kD (HO_1711001.out) BK1710.out (by decide)))); (case side2 => exact jL (jK rfl (kD (HO1722.out) BK1710.out (by decide)))); (case side3 => exact jL (jK rfl (kD (HO_4.out) BK1710.out (by decide)))); (case side4 => exact TabW.below HT.out (zT HB.out GE1710.out)); rintro e w38 ⟨rfl, hb⟩; refine ⟨_, rfl, ?_⟩; replace HO_4 := zA (kL (zP HO_4.out) hb); replace HO_5 := zA (kL (zP HO_5.out) hb); replace HO_6 := zA (kL (zP HO_6.out) hb); replace HO_1711001 := zA (kL (zP HO_1711001.out) hb); replace HO1722 := zA (kL (zP HO1722.out) hb); replace HO1726 := zA (kL (zP HO1726.out) hb); replace BK1710 := zA (zB1 BK1710.out hb); replace HB := zA (kQ (zT HB.out GE1710.out) hb); (try clear hb); obtain ⟨hcz39_0, hcz39_1, hfz39_0, hfz39_1⟩ := zB3 BK1710.out) | (refine zO (some 94) Tryd.func16 #[.agg #[.int .i64 t1700, .slice Ao11 t1701.length co11], .slice Ao37 t1720.length co37, .slice Ao15 t1707.length co15] ?_; (with_reducible refine (impl_IsPrefix.calls kj23 t1700 (fun k_ => some k_ = (.slice Ao11 t1701.length co11 : Value).ownBlock) _ _ t1701 (fun k_ => some k_ = (.slice Ao37 t1720.length co37 : Value).ownBlock) _ _ t1720 (fun k_ => some k_ = (.slice Ao15 t1707.length co15 : Value).ownBlock) _ _ t1707 t1730 t1731 _ ?side1 ?side2 ?side3 ?side4 A30.out).mono ?_); (case side1 => exact jL (jK rfl (kD (HO_1711001.out) BK1710.out (by decide)))); (case side2 => exact jL (jK rfl (kD (HO1722.out) BK1710.out (by decide)))); (case side3 => exact jL (jK rfl (kD (HO_5.out) BK1710.out (by decide)))); (case side4 => exact TabW.below HT.out (zT HB.out GE1710.out)); rintro e w40 ⟨rfl, hb⟩; refine ⟨_, rfl, ?_⟩; replace HO_4 := zA (kL (zP HO_4.out) hb); replace HO_5 := zA (kL (zP HO_5.out) hb); replace HO_6 := zA (kL (zP HO_6.out) hb); replace HO_1711001 := zA (kL (zP HO_1711001.out) hb); replace HO1722 := zA (kL (zP HO1722.out) hb); replace HO1726 := zA (kL (zP HO1726.out) hb); replace BK1710 := zA (zB1 BK1710.out hb); replace HB := zA (kQ (zT HB.out GE1710.out) hb); (try clear hb)))
     (try simp only [Act.put, zL, zM, zN])
     go_cut [124] (fun v124 wc => ∃ (kq : Nat) (x124_30 : Bool), v124 = .bool x124_30 ∧ Aside0 (laws_FnLattice.j2 kq l0 t1704 t1707 t1711 t1714 t1720 x124_30 t1700 t1701 = some r) ∧ Aside0 (kq ≤ kj23) ∧ Aside0 (Kd.R (Kd.int .i64) 2 wc w.heap.size (fun k_ => some k_ ≠ ((.slice Ao15 t1707.length co15) : Value).ownBlock ∧ some k_ ≠ (v1712 : Value).ownBlock ∧ some k_ ≠ ((.slice Ao37 t1720.length co37) : Value).ownBlock ∧ some k_ ≠ ((.slice Ao11 t1701.length co11) : Value).ownBlock) (.slice Ao14 t1704.length co14) t1704) ∧ Aside0 (Kd.R (Kd.int .i64) 2 wc w.heap.size (fun k_ => some k_ ≠ ((.slice Ao14 t1704.length co14) : Value).ownBlock ∧ some k_ ≠ (v1712 : Value).ownBlock ∧ some k_ ≠ ((.slice Ao37 t1720.length co37) : Value).ownBlock ∧ some k_ ≠ ((.slice Ao11 t1701.length co11) : Value).ownBlock) (.slice Ao15 t1707.length co15) t1707) ∧ Aside0 (Kd.R (Kd.int .i64) 2 wc w.heap.size (fun k_ => some k_ ≠ ((.slice Ao14 t1704.length co14) : Value).ownBlock ∧ some k_ ≠ ((.slice Ao15 t1707.length co15) : Value).ownBlock ∧ some k_ ≠ ((.slice Ao37 t1720.length co37) : Value).ownBlock ∧ some k_ ≠ ((.slice Ao11 t1701.length co11) : Value).ownBlock) v1712 t1711) ∧ Aside0 (Kd.R (Kd.int .i64) 2 wc w.heap.size (fun k_ => some k_ ≠ ((.slice Ao14 t1704.length co14) : Value).ownBlock ∧ some k_ ≠ ((.slice Ao15 t1707.length co15) : Value).ownBlock ∧ some k_ ≠ (v1712 : Value).ownBlock ∧ some k_ ≠ ((.slice Ao11 t1701.length co11) : Value).ownBlock) (.slice Ao37 t1720.length co37) t1720) ∧ Aside0 (Kd.R (Kd.int .i64) 2 wc w.heap.size (fun k_ => some k_ ≠ ((.slice Ao14 t1704.length co14) : Value).ownBlock ∧ some k_ ≠ ((.slice Ao15 t1707.length co15) : Value).ownBlock ∧ some k_ ≠ (v1712 : Value).ownBlock ∧ some k_ ≠ ((.slice Ao37 t1720.length co37) : Value).ownBlock) (.slice Ao11 t1701.length co11) t1701) ∧ Aside0 (wc.heap[gb1710]? = some (.cells #[.int .i64 t1700, (.slice Ao11 t1701.length co11)] 26 (0, 0))) ∧ Aside0 (Below w.heap.size w wc))
     case first => as_aux_lemma =>
      have H := HC31.out
      clear HC31
      by_cases c41 : t1723 = 0
      ·rw [if_pos c41] at H
       obtain ⟨c41b0, c41b1⟩ := zT1 c41
       clear c41
       (first | rw [c41b0] | (simp only [i64_w, i32_w]; rw [c41b0]) | skip)
       by_cases c42 : t1727 = 0
       ·rw [if_pos c42] at H
        obtain ⟨c42b0, c42b1⟩ := zT1 c42
        clear c42
        by_cases c43 : t1729 = 0
        ·rw [if_pos c43] at H
         obtain ⟨c43b0, c43b1⟩ := zT1 c43
         clear c43
         by_cases c44 : t1731 = 0
         ·rw [if_pos c44] at H
          obtain ⟨c44b0, c44b1⟩ := zT1 c44
          clear c44
          obtain ⟨t1732, A45, H⟩ := zb H
          try dsimp only at H
          by_cases c46 : t1732 = true
          ·subst c46
           rw [if_pos rfl] at H
           by_cases c47 : t1728 = true
           ·subst c47
            rw [if_pos rfl] at H
            have H' := zA H
            clear H
            obtain ⟨Ao48, co48, eo48⟩ := kM HO1726.out
            subst eo48
            go_wp2_with (first | (go_at_call 20; (with_reducible refine (laws_likeInts.calls kj23 _ _ t1720 _ _ t1724 true _ ?side1 ?side2 ?side3 ?side4 A45.out).mono ?_); (case side1 => exact zS (kB HO1722.out).2.2); (case side2 => exact (kB HO1722.out).2.1); (case side3 => exact zS (kB HO1726.out).2.2); (case side4 => exact (kB HO1726.out).2.1); rintro e w' ⟨rfl, ⟨nd, rfl⟩⟩))
            go_meet
            case rel => exact ⟨_, (!t1730), zs, H', ⟨by have := HJ6.out; have := HJ23.out; first | omega | exact Nat.le_refl _⟩, ⟨zPM HO_4.out (fun _ hk => ⟨hk.1.1.1, ⟨hk.1.1.2.1, ⟨hk.1.2, hk.1.1.2.2⟩⟩⟩)⟩, ⟨zPM HO_5.out (fun _ hk => ⟨hk.1.1.1, ⟨hk.1.1.2.1, ⟨hk.1.2, hk.1.1.2.2⟩⟩⟩)⟩, ⟨zPM HO_6.out (fun _ hk => ⟨hk.1.1.1, ⟨hk.1.1.2.1, ⟨hk.1.2, hk.1.1.2.2⟩⟩⟩)⟩, ⟨zPM HO1722.out (fun _ hk => ⟨hk.1.1.1.1.2, ⟨hk.1.1.1.2, ⟨hk.1.1.2, hk.1.2⟩⟩⟩)⟩, ⟨zPM HO_1711001.out (fun _ hk => ⟨hk.1.1.1, ⟨hk.1.1.2.1, ⟨hk.1.1.2.2, hk.1.2⟩⟩⟩)⟩, ⟨zR BK1710.out⟩, ⟨zT HB.out GE1710.out⟩⟩
           replace c47 := Bool.eq_false_iff.mpr c47
           subst c47
           rw [if_neg (show ¬ (false = true) by decide)] at H
           have H' := zA H
           clear H
           obtain ⟨Ao49, co49, eo49⟩ := kM HO1726.out
           subst eo49
           go_wp2_with (first | (go_at_call 20; (with_reducible refine (laws_likeInts.calls kj23 _ _ t1720 _ _ t1724 true _ ?side1 ?side2 ?side3 ?side4 A45.out).mono ?_); (case side1 => exact zS (kB HO1722.out).2.2); (case side2 => exact (kB HO1722.out).2.1); (case side3 => exact zS (kB HO1726.out).2.2); (case side4 => exact (kB HO1726.out).2.1); rintro e w' ⟨rfl, ⟨nd, rfl⟩⟩))
           go_meet
           case rel => exact ⟨_, (true), zs, H', ⟨by have := HJ6.out; have := HJ23.out; first | omega | exact Nat.le_refl _⟩, ⟨zPM HO_4.out (fun _ hk => ⟨hk.1.1.1, ⟨hk.1.1.2.1, ⟨hk.1.2, hk.1.1.2.2⟩⟩⟩)⟩, ⟨zPM HO_5.out (fun _ hk => ⟨hk.1.1.1, ⟨hk.1.1.2.1, ⟨hk.1.2, hk.1.1.2.2⟩⟩⟩)⟩, ⟨zPM HO_6.out (fun _ hk => ⟨hk.1.1.1, ⟨hk.1.1.2.1, ⟨hk.1.2, hk.1.1.2.2⟩⟩⟩)⟩, ⟨zPM HO1722.out (fun _ hk => ⟨hk.1.1.1.1.2, ⟨hk.1.1.1.2, ⟨hk.1.1.2, hk.1.2⟩⟩⟩)⟩, ⟨zPM HO_1711001.out (fun _ hk => ⟨hk.1.1.1, ⟨hk.1.1.2.1, ⟨hk.1.1.2.2, hk.1.2⟩⟩⟩)⟩, ⟨zR BK1710.out⟩, ⟨zT HB.out GE1710.out⟩⟩
          replace c46 := Bool.eq_false_iff.mpr c46
          subst c46
          rw [if_neg (show ¬ (false = true) by decide)] at H
          have H' := zA H
          clear H
          obtain ⟨Ao50, co50, eo50⟩ := kM HO1726.out
          subst eo50
          go_wp2_with (first | (go_at_call 20; (with_reducible refine (laws_likeInts.calls kj23 _ _ t1720 _ _ t1724 false _ ?side1 ?side2 ?side3 ?side4 A45.out).mono ?_); (case side1 => exact zS (kB HO1722.out).2.2); (case side2 => exact (kB HO1722.out).2.1); (case side3 => exact zS (kB HO1726.out).2.2); (case side4 => exact (kB HO1726.out).2.1); rintro e w' ⟨rfl, ⟨nd, rfl⟩⟩))
          go_meet
          case rel => exact ⟨_, (true), zs, H', ⟨by have := HJ6.out; have := HJ23.out; first | omega | exact Nat.le_refl _⟩, ⟨zPM HO_4.out (fun _ hk => ⟨hk.1.1.1, ⟨hk.1.1.2.1, ⟨hk.1.2, hk.1.1.2.2⟩⟩⟩)⟩, ⟨zPM HO_5.out (fun _ hk => ⟨hk.1.1.1, ⟨hk.1.1.2.1, ⟨hk.1.2, hk.1.1.2.2⟩⟩⟩)⟩, ⟨zPM HO_6.out (fun _ hk => ⟨hk.1.1.1, ⟨hk.1.1.2.1, ⟨hk.1.2, hk.1.1.2.2⟩⟩⟩)⟩, ⟨zPM HO1722.out (fun _ hk => ⟨hk.1.1.1.1.2, ⟨hk.1.1.1.2, ⟨hk.1.1.2, hk.1.2⟩⟩⟩)⟩, ⟨zPM HO_1711001.out (fun _ hk => ⟨hk.1.1.1, ⟨hk.1.1.2.1, ⟨hk.1.1.2.2, hk.1.2⟩⟩⟩)⟩, ⟨zR BK1710.out⟩, ⟨zT HB.out GE1710.out⟩⟩
         rw [if_neg c44] at H
         obtain ⟨c44b0, c44b1⟩ := zT2 c44
         have H' := zA H
         clear H
         go_wp2
         go_meet
         case rel => exact ⟨_, (true), zs, H', ⟨by have := HJ6.out; have := HJ23.out; first | omega | exact Nat.le_refl _⟩, ⟨zPM HO_4.out (fun _ hk => ⟨hk.1.1.1, ⟨hk.1.1.2.1, ⟨hk.1.2, hk.1.1.2.2⟩⟩⟩)⟩, ⟨zPM HO_5.out (fun _ hk => ⟨hk.1.1.1, ⟨hk.1.1.2.1, ⟨hk.1.2, hk.1.1.2.2⟩⟩⟩)⟩, ⟨zPM HO_6.out (fun _ hk => ⟨hk.1.1.1, ⟨hk.1.1.2.1, ⟨hk.1.2, hk.1.1.2.2⟩⟩⟩)⟩, ⟨zPM HO1722.out (fun _ hk => ⟨hk.1.1.1.1.2, ⟨hk.1.1.1.2, ⟨hk.1.1.2, hk.1.2⟩⟩⟩)⟩, ⟨zPM HO_1711001.out (fun _ hk => ⟨hk.1.1.1, ⟨hk.1.1.2.1, ⟨hk.1.1.2.2, hk.1.2⟩⟩⟩)⟩, ⟨zR BK1710.out⟩, ⟨zT HB.out GE1710.out⟩⟩
        rw [if_neg c43] at H
        obtain ⟨c43b0, c43b1⟩ := zT2 c43
        have H' := zA H
        clear H
        go_wp2
        go_meet
        case rel => exact ⟨_, (true), zs, H', ⟨by have := HJ6.out; have := HJ23.out; first | omega | exact Nat.le_refl _⟩, ⟨zPM HO_4.out (fun _ hk => ⟨hk.1.1.1, ⟨hk.1.1.2.1, ⟨hk.1.2, hk.1.1.2.2⟩⟩⟩)⟩, ⟨zPM HO_5.out (fun _ hk => ⟨hk.1.1.1, ⟨hk.1.1.2.1, ⟨hk.1.2, hk.1.1.2.2⟩⟩⟩)⟩, ⟨zPM HO_6.out (fun _ hk => ⟨hk.1.1.1, ⟨hk.1.1.2.1, ⟨hk.1.2, hk.1.1.2.2⟩⟩⟩)⟩, ⟨zPM HO1722.out (fun _ hk => ⟨hk.1.1.1.1.2, ⟨hk.1.1.1.2, ⟨hk.1.1.2, hk.1.2⟩⟩⟩)⟩, ⟨zPM HO_1711001.out (fun _ hk => ⟨hk.1.1.1, ⟨hk.1.1.2.1, ⟨hk.1.1.2.2, hk.1.2⟩⟩⟩)⟩, ⟨zR BK1710.out⟩, ⟨zT HB.out GE1710.out⟩⟩
       rw [if_neg c42] at H
       obtain ⟨c42b0, c42b1⟩ := zT2 c42
       have H' := zA H
       clear H
       go_wp2
       go_meet
       case rel => exact ⟨_, (true), zs, H', ⟨by have := HJ6.out; have := HJ23.out; first | omega | exact Nat.le_refl _⟩, ⟨zPM HO_4.out (fun _ hk => ⟨hk.1.1.1, ⟨hk.1.1.2.1, ⟨hk.1.2, hk.1.1.2.2⟩⟩⟩)⟩, ⟨zPM HO_5.out (fun _ hk => ⟨hk.1.1.1, ⟨hk.1.1.2.1, ⟨hk.1.2, hk.1.1.2.2⟩⟩⟩)⟩, ⟨zPM HO_6.out (fun _ hk => ⟨hk.1.1.1, ⟨hk.1.1.2.1, ⟨hk.1.2, hk.1.1.2.2⟩⟩⟩)⟩, ⟨zPM HO1722.out (fun _ hk => ⟨hk.1.1.1.1.2, ⟨hk.1.1.1.2, ⟨hk.1.1.2, hk.1.2⟩⟩⟩)⟩, ⟨zPM HO_1711001.out (fun _ hk => ⟨hk.1.1.1, ⟨hk.1.1.2.1, ⟨hk.1.1.2.2, hk.1.2⟩⟩⟩)⟩, ⟨zR BK1710.out⟩, ⟨zT HB.out GE1710.out⟩⟩
      rw [if_neg c41] at H
      obtain ⟨c41b0, c41b1⟩ := zT2 c41
      (first | rw [c41b0] | (simp only [i64_w, i32_w]; rw [c41b0]) | skip)
      have H' := zA H
      clear H
      go_wp2
      go_meet
      case rel => exact ⟨_, (true), zs, H', ⟨by have := HJ6.out; have := HJ23.out; first | omega | exact Nat.le_refl _⟩, ⟨zPM HO_4.out (fun _ hk => ⟨hk.1.1.1, ⟨hk.1.1.2.1, ⟨hk.1.2, hk.1.1.2.2⟩⟩⟩)⟩, ⟨zPM HO_5.out (fun _ hk => ⟨hk.1.1.1, ⟨hk.1.1.2.1, ⟨hk.1.2, hk.1.1.2.2⟩⟩⟩)⟩, ⟨zPM HO_6.out (fun _ hk => ⟨hk.1.1.1, ⟨hk.1.1.2.1, ⟨hk.1.2, hk.1.1.2.2⟩⟩⟩)⟩, ⟨zPM HO1722.out (fun _ hk => ⟨hk.1.1.1.1.2, ⟨hk.1.1.1.2, ⟨hk.1.1.2, hk.1.2⟩⟩⟩)⟩, ⟨zPM HO_1711001.out (fun _ hk => ⟨hk.1.1.1, ⟨hk.1.1.2.1, ⟨hk.1.1.2.2, hk.1.2⟩⟩⟩)⟩, ⟨zR BK1710.out⟩, ⟨zT HB.out GE1710.out⟩⟩
     case rest =>
      clear HC31
      try clear c1
      try clear c2
      try clear c3
      try clear c4
      try clear c8
      try clear c9
      try clear c16
      try clear c19
      try clear c23
      try clear c25
      try clear c26
      try clear c40
      try clear c41
      try clear c42
      try clear c43
      try clear c44
      try clear c45
      try clear c46
      try clear c47
      try clear hcz10_0
      try clear hcz10_1
      try clear hcz13_0
      try clear hcz13_1
      try clear hcz17_0
      try clear hcz17_1
      try clear hcz32_0
      try clear hcz32_1
      try clear hcz34_0
      try clear hcz34_1
      try clear hcz36_0
      try clear hcz36_1
      try clear hcz39_0
      try clear hcz39_1
      try clear hfz10_0
      try clear hfz10_1
      try clear hfz13_0
      try clear hfz13_1
      try clear hfz17_0
      try clear hfz17_1
      try clear hfz32_0
      try clear hfz32_1
      try clear hfz34_0
      try clear hfz34_1
      try clear hfz36_0
      try clear hfz36_1
      try clear hfz39_0
      try clear hfz39_1
      obtain ⟨kq, x124_30, rfl, HA, HJ30, HO_4, HO_5, HO_6, HO_10, HO_1711001, BK1710, HB⟩ := hcut
      cases kq with
      | zero => exact absurd HA.out (by simp [laws_FnLattice.j2])
      | succ kj30 =>
       have H := HA.out
       clear HA
       simp only [laws_FnLattice.j2] at H
       by_cases c51 : x124_30 = true
       ·subst c51
        rw [if_pos rfl] at H
        exact absurd H (by simp)
       replace c51 := Bool.eq_false_iff.mpr c51
       subst c51
       rw [if_neg (show ¬ (false = true) by decide)] at H
       obtain ⟨⟨t1733, t1734, t1735⟩, A52, H⟩ := zb H
       try dsimp only at H
       obtain ⟨⟨t1737, t1740, t1741⟩, A53, H⟩ := zb H
       try dsimp only at H
       obtain ⟨⟨t1742, t1743, t1744⟩, A54, H⟩ := zb H
       try dsimp only at H
       by_cases c55 : 0 ≤ t1742
       ·rw [if_pos c55] at H
        have c55b0 := eq_true c55
        have c55b1 : decide (0 ≤ t1742) = true := decide_eq_true c55
        clear c55
        by_cases c56 : t1742 ≤ (t1737.length : Int)
        ·rw [if_pos c56] at H
         have c56b0 := eq_true c56
         have c56b1 : decide (t1742 ≤ (t1737.length : Int)) = true := decide_eq_true c56
         clear c56
         obtain ⟨y1745, hy1745⟩ : ∃ y_ : List Int, y_ = (t1737.take (t1742 : Int).toNat) := ⟨_, rfl⟩
         replace H : ((impl_IsPrefix.f kj30 t1700 t1701 y1745 t1707).bind fun bt1748 => ((impl_IsPrefix.f kj30 t1700 t1701 y1745 t1720).bind fun bt1750 => (if bt1748.2 = 0 then (if bt1750.2 = 0 then (laws_FnLattice.j3 kj30 t1704 t1707 t1711 t1714 t1720 (bt1748.1 != bt1750.1) t1700 t1701) else (laws_FnLattice.j3 kj30 t1704 t1707 t1711 t1714 t1720 true t1700 t1701)) else (laws_FnLattice.j3 kj30 t1704 t1707 t1711 t1714 t1720 true t1700 t1701)))) = some r := zy hy1745 H
         have Ny1745 := zA hy1745
         clear hy1745
         obtain ⟨⟨t1748, t1749⟩, A57, H⟩ := zb H
         try dsimp only at H
         obtain ⟨⟨t1750, t1751⟩, A58, H⟩ := zb H
         try dsimp only at H
         have HC59 := zA H
         clear H
         go_upto_region 21 with (first | (refine zO (some 126) Tryd.func41 #[.slice A0 l0.length c0, .int .u64 508] ?_; (with_reducible refine (laws_roll.calls kj30 _ _ l0 508 t1733 t1734 t1735 w _ ?side1 ?side2 ?side3 A52.out).mono ?_); (case side1 => exact zT HB.out GE1710.out); (case side2 => exact HR0.out); (case side3 => exact HC0.out); rintro e w60 ⟨g1736, rfl, hi, hb, hb2, hgw⟩; refine ⟨_, rfl, ?_⟩; replace HO_4 := zA (kL (zP HO_4.out) hb2); replace HO_5 := zA (kL (zP HO_5.out) hb2); replace HO_6 := zA (kL (zP HO_6.out) hb2); replace HO_10 := zA (kL (zP HO_10.out) hb2); replace HO_1711001 := zA (kL (zP HO_1711001.out) hb2); replace HB := zA (hb); have HI1736 := zA (hi); have NB1736_1710 := zA (Z81.ne_blk hi (blk_below (g := gb1710) (o := .cells #[.int .i64 t1700, .slice Ao11 t1701.length co11] 26 (0, 0)) (zR BK1710.out) hb2) (by decide)); have NB1710_1736 := zA (Ne.symm (Z81.ne_blk hi (blk_below (g := gb1710) (o := .cells #[.int .i64 t1700, .slice Ao11 t1701.length co11] 26 (0, 0)) (zR BK1710.out) hb2) (by decide))); replace BK1710 := zA (zB1 BK1710.out hb2); (try clear hb); (try clear hb2); (try clear hi); (try clear hgw); have hnb61 := NB1710_1736.out; have hnc61 := NB1736_1710.out; obtain ⟨hcz62_0, hcz62_1, hfz62_0, hfz62_1⟩ := zB3 BK1710.out) | (refine zO (some 130) Tryd.func42 #[.pointer (some ⟨g1736, 0, none⟩), .agg #[.int .i64 t1700, .slice Ao11 t1701.length co11], .slice Ao14 t1704.length co14] ?_; (with_reducible refine (laws_shuffle5.calls kj30 g1736 t1733 t1734 t1735 t1700 _ _ t1701 _ _ t1704 t1737 t1740 t1741 w _ ?side1 ?side2 ?side3 ?side4 ?side5 ?side6 ?side7 ?side8 A53.out).mono ?_); (case side1 => exact Z81.uB HI1736.out NB1736_1710.out); (case side2 => exact zV HB.out (Z81.ge HI1736.out) GE1710.out); (case side3 => exact zS (kB HO_1711001.out).2.2); (case side4 => exact (kB HO_1711001.out).2.1); (case side5 => exact jJ (Z81.own_ne HI1736.out HO_1711001.out (by decide))); (case side6 => exact zS (kB HO_4.out).2.2); (case side7 => exact (kB HO_4.out).2.1); (case side8 => exact jJ (Z81.own_ne HI1736.out HO_4.out (by decide))); rintro e w63 ⟨v1738, rfl, ho0, hi, hb, hk⟩; refine ⟨_, rfl, ?_⟩; replace BK1710 := zA (zB2 hk BK1710.out NB1710_1736.out); have HO1739 := zA (kI (kF (kF (kF (kF (kF ho0 (kH (zP HO_4.out))) (kH (zP HO_5.out))) (kH (zP HO_6.out))) (kH (zP HO_10.out))) (kH (zP HO_1711001.out))) (kP (zV HB.out (Z81.ge HI1736.out) GE1710.out))); replace HO_4 := zA (kA (Kd.R_told (Kd.R_oldK (Z81.apart (show Z81 w _ g1736 t1733 t1734 t1735 from Z81.uB HI1736.out NB1736_1710.out) (zP HO_4.out) (by decide)) hk) (kC ho0)) (fun _ h_ => h_.1)); replace HO_5 := zA (kA (Kd.R_told (Kd.R_oldK (Z81.apart (show Z81 w _ g1736 t1733 t1734 t1735 from Z81.uB HI1736.out NB1736_1710.out) (zP HO_5.out) (by decide)) hk) (kC ho0)) (fun _ h_ => h_.1)); replace HO_6 := zA (kA (Kd.R_told (Kd.R_oldK (Z81.apart (show Z81 w _ g1736 t1733 t1734 t1735 from Z81.uB HI1736.out NB1736_1710.out) (zP HO_6.out) (by decide)) hk) (kC ho0)) (fun _ h_ => h_.1)); replace HO_10 := zA (kA (Kd.R_told (Kd.R_oldK (Z81.apart (show Z81 w _ g1736 t1733 t1734 t1735 from Z81.uB HI1736.out NB1736_1710.out) (zP HO_10.out) (by decide)) hk) (kC ho0)) (fun _ h_ => h_.1)); replace HO_1711001 := zA (kA (Kd.R_told (Kd.R_oldK (Z81.apart (show Z81 w _ g1736 t1733 t1734 t1735 from Z81.uB HI1736.out NB1736_1710.out) (zP HO_1711001.out) (by decide)) hk) (kC ho0)) (fun _ h_ => h_.1)); replace HB := zA (hb); replace HI1736 := zA (hi); (try clear hb); (try clear hk); (try clear hi); (try clear ho0); obtain ⟨Ao64, co64, eo64⟩ := kM HO1739.out; subst eo64) | (refine zO (some 136) Tryd.func43 #[.pointer (some ⟨g1736, 0, none⟩), .int .i64 (wrap64 ((t1737.length : Int) + 1))] ?_; (with_reducible refine (laws_dice_below.calls g1736 t1733 t1740 t1741 (wrap64 ((t1737.length : Int) + 1)) t1742 t1743 t1744 w _ ?side1 ?side2 A54.out).mono ?_); (case side1 => exact Z81.uB HI1736.out NB1736_1710.out); (case side2 => exact zV HB.out (Z81.ge HI1736.out) GE1710.out); rintro e w65 ⟨rfl, hi, hb, hk⟩; refine ⟨_, rfl, ?_⟩; replace HO_4 := zA (zB9 (Z81.apart (show Z81 w _ g1736 t1733 t1740 t1741 from Z81.uB HI1736.out NB1736_1710.out) (zP HO_4.out) (by decide)) hk); replace HO_5 := zA (zB9 (Z81.apart (show Z81 w _ g1736 t1733 t1740 t1741 from Z81.uB HI1736.out NB1736_1710.out) (zP HO_5.out) (by decide)) hk); replace HO_6 := zA (zB9 (Z81.apart (show Z81 w _ g1736 t1733 t1740 t1741 from Z81.uB HI1736.out NB1736_1710.out) (zP HO_6.out) (by decide)) hk); replace HO_10 := zA (zB9 (Z81.apart (show Z81 w _ g1736 t1733 t1740 t1741 from Z81.uB HI1736.out NB1736_1710.out) (zP HO_10.out) (by decide)) hk); replace HO_1711001 := zA (zB9 (Z81.apart (show Z81 w _ g1736 t1733 t1740 t1741 from Z81.uB HI1736.out NB1736_1710.out) (zP HO_1711001.out) (by decide)) hk); replace BK1710 := zA (zB2 hk BK1710.out NB1710_1736.out); replace HO1739 := zA (zB9 (Z81.apart (show Z81 w _ g1736 t1733 t1740 t1741 from Z81.uB HI1736.out NB1736_1710.out) (zP HO1739.out) (by decide)) hk); replace HB := zA (hb); replace HI1736 := zA (hi); (try clear hb); (try clear hk); (try clear hi); have q66 : (t1742 : Int) ≤ ((t1737.length : Int) : Int) := zd; obtain ⟨i066, hi066, _, hsz66, _⟩ := info_parts info2; have hcut66 := cut_to (P := Tryd.prog) 24 2 .i64 Tryd.underlying24 hi066 Ao64 t1737.length co64 t1742 (zd) q66 (kB HO1739.out).2.1; have hr66 := Kd.R_take (m := (t1742 : Int).toNat) HO1739.out (by omega); have hy66 : y1745.length = (t1742 : Int).toNat := (by rw [Ny1745.out, List.length_take]; omega); rw [← Ny1745.out] at hr66; rw [← hy66] at hr66 hcut66; clear hy66 hi066 hsz66 HO1739; have HO1747 := zA hr66; clear hr66; replace q66 := eq_true q66; obtain ⟨hcz67_0, hcz67_1, hfz67_0, hfz67_1⟩ := zB3 BK1710.out) | (refine zO (some 142) Tryd.func16 #[.agg #[.int .i64 t1700, .slice Ao11 t1701.length co11], .slice Ao64 y1745.length co64, .slice Ao15 t1707.length co15] ?_; (with_reducible refine (impl_IsPrefix.calls kj30 t1700 (fun k_ => some k_ = (.slice Ao11 t1701.length co11 : Value).ownBlock) _ _ t1701 (fun k_ => some k_ = (.slice Ao64 y1745.length co64 : Value).ownBlock) _ _ y1745 (fun k_ => some k_ = (.slice Ao15 t1707.length co15 : Value).ownBlock) _ _ t1707 t1748 t1749 _ ?side1 ?side2 ?side3 ?side4 A57.out).mono ?_); (case side1 => exact jL (jK rfl (Z81.apart HI1736.out (kD (HO_1711001.out) BK1710.out (by decide)) (by decide)))); (case side2 => exact jL (jK rfl (Z81.apart HI1736.out (kD (HO1747.out) BK1710.out (by decide)) (by decide)))); (case side3 => exact jL (jK rfl (Z81.apart HI1736.out (kD (HO_5.out) BK1710.out (by decide)) (by decide)))); (case side4 => exact TabW.below HT.out (zV HB.out (Z81.ge HI1736.out) GE1710.out)); rintro e w68 ⟨rfl, hb⟩; refine ⟨_, rfl, ?_⟩; replace HO_4 := zA (kL (zP HO_4.out) hb); replace HO_5 := zA (kL (zP HO_5.out) hb); replace HO_6 := zA (kL (zP HO_6.out) hb); replace HO_10 := zA (kL (zP HO_10.out) hb); replace HO_1711001 := zA (kL (zP HO_1711001.out) hb); replace HO1747 := zA (kL (zP HO1747.out) hb); replace BK1710 := zA (zB1 BK1710.out hb); replace HB := zA (kQ (zV HB.out (Z81.ge HI1736.out) GE1710.out) hb); replace HI1736 := zA (Z81.below (Z81.uB HI1736.out NB1736_1710.out) hb); (try clear hb); obtain ⟨hcz69_0, hcz69_1, hfz69_0, hfz69_1⟩ := zB3 BK1710.out) | (refine zO (some 149) Tryd.func16 #[.agg #[.int .i64 t1700, .slice Ao11 t1701.length co11], .slice Ao64 y1745.length co64, .slice Ao37 t1720.length co37] ?_; (with_reducible refine (impl_IsPrefix.calls kj30 t1700 (fun k_ => some k_ = (.slice Ao11 t1701.length co11 : Value).ownBlock) _ _ t1701 (fun k_ => some k_ = (.slice Ao64 y1745.length co64 : Value).ownBlock) _ _ y1745 (fun k_ => some k_ = (.slice Ao37 t1720.length co37 : Value).ownBlock) _ _ t1720 t1750 t1751 _ ?side1 ?side2 ?side3 ?side4 A58.out).mono ?_); (case side1 => exact jL (jK rfl (Z81.apart HI1736.out (kD (HO_1711001.out) BK1710.out (by decide)) (by decide)))); (case side2 => exact jL (jK rfl (Z81.apart HI1736.out (kD (HO1747.out) BK1710.out (by decide)) (by decide)))); (case side3 => exact jL (jK rfl (Z81.apart HI1736.out (kD (HO_10.out) BK1710.out (by decide)) (by decide)))); (case side4 => exact TabW.below HT.out (zV HB.out (Z81.ge HI1736.out) GE1710.out)); rintro e w70 ⟨rfl, hb⟩; refine ⟨_, rfl, ?_⟩; replace HO_4 := zA (kL (zP HO_4.out) hb); replace HO_5 := zA (kL (zP HO_5.out) hb); replace HO_6 := zA (kL (zP HO_6.out) hb); replace HO_10 := zA (kL (zP HO_10.out) hb); replace HO_1711001 := zA (kL (zP HO_1711001.out) hb); replace HO1747 := zA (kL (zP HO1747.out) hb); replace BK1710 := zA (zB1 BK1710.out hb); replace HB := zA (kQ (zV HB.out (Z81.ge HI1736.out) GE1710.out) hb); replace HI1736 := zA (Z81.below (Z81.uB HI1736.out NB1736_1710.out) hb); (try clear hb)))
         (try simp only [Act.put, zL, zM, zN])
         go_cut [162] (fun v162 wc => ∃ (kq : Nat) (x162_58 : Bool), v162 = .bool x162_58 ∧ Aside0 (laws_FnLattice.j3 kq t1704 t1707 t1711 t1714 t1720 x162_58 t1700 t1701 = some r) ∧ Aside0 (kq ≤ kj30) ∧ Aside0 (Kd.R (Kd.int .i64) 2 wc w.heap.size (fun k_ => some k_ ≠ ((.slice Ao15 t1707.length co15) : Value).ownBlock ∧ some k_ ≠ (v1712 : Value).ownBlock ∧ some k_ ≠ ((.slice Ao37 t1720.length co37) : Value).ownBlock ∧ some k_ ≠ ((.slice Ao11 t1701.length co11) : Value).ownBlock) (.slice Ao14 t1704.length co14) t1704) ∧ Aside0 (Kd.R (Kd.int .i64) 2 wc w.heap.size (fun k_ => some k_ ≠ ((.slice Ao14 t1704.length co14) : Value).ownBlock ∧ some k_ ≠ (v1712 : Value).ownBlock ∧ some k_ ≠ ((.slice Ao37 t1720.length co37) : Value).ownBlock ∧ some k_ ≠ ((.slice Ao11 t1701.length co11) : Value).ownBlock) (.slice Ao15 t1707.length co15) t1707) ∧ Aside0 (Kd.R (Kd.int .i64) 2 wc w.heap.size (fun k_ => some k_ ≠ ((.slice Ao14 t1704.length co14) : Value).ownBlock ∧ some k_ ≠ ((.slice Ao15 t1707.length co15) : Value).ownBlock ∧ some k_ ≠ ((.slice Ao37 t1720.length co37) : Value).ownBlock ∧ some k_ ≠ ((.slice Ao11 t1701.length co11) : Value).ownBlock) v1712 t1711) ∧ Aside0 (Kd.R (Kd.int .i64) 2 wc w.heap.size (fun k_ => some k_ ≠ ((.slice Ao14 t1704.length co14) : Value).ownBlock ∧ some k_ ≠ ((.slice Ao15 t1707.length co15) : Value).ownBlock ∧ some k_ ≠ (v1712 : Value).ownBlock ∧ some k_ ≠ ((.slice Ao11 t1701.length co11) : Value).ownBlock) (.slice Ao37 t1720.length co37) t1720) ∧ Aside0 (Kd.R (Kd.int .i64) 2 wc w.heap.size (fun k_ => some k_ ≠ ((.slice Ao14 t1704.length co14) : Value).ownBlock ∧ some k_ ≠ ((.slice Ao15 t1707.length co15) : Value).ownBlock ∧ some k_ ≠ (v1712 : Value).ownBlock ∧ some k_ ≠ ((.slice Ao37 t1720.length co37) : Value).ownBlock) (.slice Ao11 t1701.length co11) t1701) ∧ Aside0 (wc.heap[gb1710]? = some (.cells #[.int .i64 t1700, (.slice Ao11 t1701.length co11)] 26 (0, 0))) ∧ Aside0 (Below w.heap.size w wc))
         case first => as_aux_lemma =>
          have H := HC59.out
          clear HC59
          by_cases c71 : t1749 = 0
          ·rw [if_pos c71] at H
           obtain ⟨c71b0, c71b1⟩ := zT1 c71
           clear c71
           (first | rw [c71b0] | (simp only [i64_w, i32_w]; rw [c71b0]) | skip)
           by_cases c72 : t1751 = 0
           ·rw [if_pos c72] at H
            obtain ⟨c72b0, c72b1⟩ := zT1 c72
            clear c72
            have H' := zA H
            clear H
            go_wp2
            go_meet
            case rel => exact ⟨_, ((t1748 != t1750)), zs, H', ⟨by have := HJ6.out; have := HJ23.out; have := HJ30.out; first | omega | exact Nat.le_refl _⟩, ⟨zPM HO_4.out (fun _ hk => ⟨hk.1.1, ⟨hk.1.2.1, ⟨hk.1.2.2.1, hk.1.2.2.2⟩⟩⟩)⟩, ⟨zPM HO_5.out (fun _ hk => ⟨hk.1.1, ⟨hk.1.2.1, ⟨hk.1.2.2.1, hk.1.2.2.2⟩⟩⟩)⟩, ⟨zPM HO_6.out (fun _ hk => ⟨hk.1.1, ⟨hk.1.2.1, ⟨hk.1.2.2.1, hk.1.2.2.2⟩⟩⟩)⟩, ⟨zPM HO_10.out (fun _ hk => ⟨hk.1.1, ⟨hk.1.2.1, ⟨hk.1.2.2.1, hk.1.2.2.2⟩⟩⟩)⟩, ⟨zPM HO_1711001.out (fun _ hk => ⟨hk.1.1, ⟨hk.1.2.1, ⟨hk.1.2.2.1, hk.1.2.2.2⟩⟩⟩)⟩, ⟨zR BK1710.out⟩, ⟨zV HB.out (Z81.ge HI1736.out) GE1710.out⟩⟩
           rw [if_neg c72] at H
           obtain ⟨c72b0, c72b1⟩ := zT2 c72
           have H' := zA H
           clear H
           go_wp2
           go_meet
           case rel => exact ⟨_, (true), zs, H', ⟨by have := HJ6.out; have := HJ23.out; have := HJ30.out; first | omega | exact Nat.le_refl _⟩, ⟨zPM HO_4.out (fun _ hk => ⟨hk.1.1, ⟨hk.1.2.1, ⟨hk.1.2.2.1, hk.1.2.2.2⟩⟩⟩)⟩, ⟨zPM HO_5.out (fun _ hk => ⟨hk.1.1, ⟨hk.1.2.1, ⟨hk.1.2.2.1, hk.1.2.2.2⟩⟩⟩)⟩, ⟨zPM HO_6.out (fun _ hk => ⟨hk.1.1, ⟨hk.1.2.1, ⟨hk.1.2.2.1, hk.1.2.2.2⟩⟩⟩)⟩, ⟨zPM HO_10.out (fun _ hk => ⟨hk.1.1, ⟨hk.1.2.1, ⟨hk.1.2.2.1, hk.1.2.2.2⟩⟩⟩)⟩, ⟨zPM HO_1711001.out (fun _ hk => ⟨hk.1.1, ⟨hk.1.2.1, ⟨hk.1.2.2.1, hk.1.2.2.2⟩⟩⟩)⟩, ⟨zR BK1710.out⟩, ⟨zV HB.out (Z81.ge HI1736.out) GE1710.out⟩⟩
          rw [if_neg c71] at H
          obtain ⟨c71b0, c71b1⟩ := zT2 c71
          (first | rw [c71b0] | (simp only [i64_w, i32_w]; rw [c71b0]) | skip)
          have H' := zA H
          clear H
          go_wp2
          go_meet
          case rel => exact ⟨_, (true), zs, H', ⟨by have := HJ6.out; have := HJ23.out; have := HJ30.out; first | omega | exact Nat.le_refl _⟩, ⟨zPM HO_4.out (fun _ hk => ⟨hk.1.1, ⟨hk.1.2.1, ⟨hk.1.2.2.1, hk.1.2.2.2⟩⟩⟩)⟩, ⟨zPM HO_5.out (fun _ hk => ⟨hk.1.1, ⟨hk.1.2.1, ⟨hk.1.2.2.1, hk.1.2.2.2⟩⟩⟩)⟩, ⟨zPM HO_6.out (fun _ hk => ⟨hk.1.1, ⟨hk.1.2.1, ⟨hk.1.2.2.1, hk.1.2.2.2⟩⟩⟩)⟩, ⟨zPM HO_10.out (fun _ hk => ⟨hk.1.1, ⟨hk.1.2.1, ⟨hk.1.2.2.1, hk.1.2.2.2⟩⟩⟩)⟩, ⟨zPM HO_1711001.out (fun _ hk => ⟨hk.1.1, ⟨hk.1.2.1, ⟨hk.1.2.2.1, hk.1.2.2.2⟩⟩⟩)⟩, ⟨zR BK1710.out⟩, ⟨zV HB.out (Z81.ge HI1736.out) GE1710.out⟩⟩
         case rest =>
          clear HC59
          try clear c1
          try clear c2
          try clear c3
          try clear c4
          try clear c5
          try clear c6
          try clear c7
          try clear c8
          try clear c9
          try clear c16
          try clear c19
          try clear c23
          try clear c25
          try clear c26
          try clear c40
          try clear c41
          try clear c42
          try clear c43
          try clear c44
          try clear c45
          try clear c46
          try clear c47
          try clear c51
          try clear c55
          try clear c56
          try clear c61
          try clear c71
          try clear c72
          try clear hcz10_0
          try clear hcz10_1
          try clear hcz13_0
          try clear hcz13_1
          try clear hcz17_0
          try clear hcz17_1
          try clear hcz32_0
          try clear hcz32_1
          try clear hcz34_0
          try clear hcz34_1
          try clear hcz36_0
          try clear hcz36_1
          try clear hcz39_0
          try clear hcz39_1
          try clear hcz62_0
          try clear hcz62_1
          try clear hcz67_0
          try clear hcz67_1
          try clear hcz69_0
          try clear hcz69_1
          try clear hfz10_0
          try clear hfz10_1
          try clear hfz13_0
          try clear hfz13_1
          try clear hfz17_0
          try clear hfz17_1
          try clear hfz32_0
          try clear hfz32_1
          try clear hfz34_0
          try clear hfz34_1
          try clear hfz36_0
          try clear hfz36_1
          try clear hfz39_0
          try clear hfz39_1
          try clear hfz62_0
          try clear hfz62_1
          try clear hfz67_0
          try clear hfz67_1
          try clear hfz69_0
          try clear hfz69_1
          obtain ⟨kq, x162_58, rfl, HA, HJ58, HO_4, HO_5, HO_6, HO_10, HO_1711001, BK1710, HB⟩ := hcut
          cases kq with
          | zero => exact absurd HA.out (by simp [laws_FnLattice.j3])
          | succ kj58 =>
           have H := HA.out
           clear HA
           simp only [laws_FnLattice.j3] at H
           by_cases c73 : x162_58 = true
           ·subst c73
            rw [if_pos rfl] at H
            exact absurd H (by simp)
           replace c73 := Bool.eq_false_iff.mpr c73
           subst c73
           rw [if_neg (show ¬ (false = true) by decide)] at H
           by_cases c74 : t1714 = 0
           ·rw [if_pos c74] at H
            obtain ⟨c74b0, c74b1⟩ := zT1 c74
            clear c74
            obtain ⟨⟨t1752, t1755⟩, A75, H⟩ := zb H
            try dsimp only at H
            obtain ⟨⟨t1756, t1759⟩, A76, H⟩ := zb H
            try dsimp only at H
            obtain ⟨⟨t1760, t1763⟩, A77, H⟩ := zb H
            try dsimp only at H
            obtain ⟨⟨t1764, t1767⟩, A78, H⟩ := zb H
            try dsimp only at H
            by_cases c79 : t1755 = 0
            ·rw [if_pos c79] at H
             obtain ⟨c79b0, c79b1⟩ := zT1 c79
             clear c79
             by_cases c80 : t1759 = 0
             ·rw [if_pos c80] at H
              obtain ⟨c80b0, c80b1⟩ := zT1 c80
              clear c80
              by_cases c81 : t1763 = 0
              ·rw [if_pos c81] at H
               obtain ⟨c81b0, c81b1⟩ := zT1 c81
               clear c81
               by_cases c82 : t1767 = 0
               ·rw [if_pos c82] at H
                obtain ⟨c82b0, c82b1⟩ := zT1 c82
                clear c82
                obtain ⟨t1768, A83, H⟩ := zb H
                try dsimp only at H
                by_cases c84 : t1768 = true
                ·subst c84
                 rw [if_pos rfl] at H
                 obtain ⟨t1769, A85, H⟩ := zb H
                 try dsimp only at H
                 by_cases c86 : t1769 = true
                 ·subst c86
                  rw [if_pos rfl] at H
                  obtain ⟨t1770, A87, H⟩ := zb H
                  try dsimp only at H
                  by_cases c88 : t1770 = true
                  ·subst c88
                   rw [if_pos rfl] at H
                   obtain rfl := Option.some.inj H
                   obtain ⟨hcz89_0, hcz89_1, hfz89_0, hfz89_1⟩ := zB3 BK1710.out
                   obtain ⟨Ao90, co90, eo90⟩ := kM HO_6.out
                   subst eo90
                   go_wp2_with (first | (refine zO (some 169) Tryd.func46 #[.agg #[.int .i64 t1700, .slice Ao11 t1701.length co11], .slice Ao14 t1704.length co14, .slice Ao90 t1711.length co90] ?_; (with_reducible refine (impl_MeetOf.calls kj58 t1700 (fun k_ => some k_ = (.slice Ao11 t1701.length co11 : Value).ownBlock) _ _ t1701 (fun k_ => some k_ = (.slice Ao14 t1704.length co14 : Value).ownBlock) _ _ t1704 (fun k_ => some k_ = (.slice Ao90 t1711.length co90 : Value).ownBlock) _ _ t1711 t1752 t1755 _ ?side1 ?side2 ?side3 ?side4 A75.out).mono ?_); (case side1 => exact jL (jK rfl (kD (HO_1711001.out) BK1710.out (by decide)))); (case side2 => exact jL (jK rfl (kD (HO_4.out) BK1710.out (by decide)))); (case side3 => exact jL (jK rfl (kD (HO_6.out) BK1710.out (by decide)))); (case side4 => exact TabW.below HT.out (zT HB.out GE1710.out)); rintro e w91 ⟨v1753, rfl, ho0, hb⟩; refine ⟨_, rfl, ?_⟩; have HO1754 := zA (kI (kF (kF (kF (kF (kF (kA (ok' := fun k_ => True) ho0 (fun _ hk_ => trivial)) (kH (zP HO_4.out))) (kH (zP HO_5.out))) (kH (zP HO_6.out))) (kH (zP HO_10.out))) (kH (zP HO_1711001.out))) (kP (zT HB.out GE1710.out))); replace HO_4 := zA (kE (zP HO_4.out) (kC ho0) hb); replace HO_5 := zA (kE (zP HO_5.out) (kC ho0) hb); replace HO_6 := zA (kE (zP HO_6.out) (kC ho0) hb); replace HO_10 := zA (kE (zP HO_10.out) (kC ho0) hb); replace HO_1711001 := zA (kE (zP HO_1711001.out) (kC ho0) hb); replace BK1710 := zA (zB1 BK1710.out hb); replace HB := zA (kQ (zT HB.out GE1710.out) hb); (try clear hb); (try clear ho0); obtain ⟨hcz92_0, hcz92_1, hfz92_0, hfz92_1⟩ := zB3 BK1710.out) | (refine zO (some 175) Tryd.func47 #[.agg #[.int .i64 t1700, .slice Ao11 t1701.length co11], .slice Ao14 t1704.length co14] ?_; (with_reducible refine (impl_NormalForm.calls kj58 t1700 (fun k_ => some k_ = (.slice Ao11 t1701.length co11 : Value).ownBlock) _ _ t1701 (fun k_ => some k_ = (.slice Ao14 t1704.length co14 : Value).ownBlock) _ _ t1704 t1756 t1759 _ ?side1 ?side2 ?side3 A76.out).mono ?_); (case side1 => exact jL (jK rfl (kD (HO_1711001.out) BK1710.out (by decide)))); (case side2 => exact jL (jK rfl (kD (HO_4.out) BK1710.out (by decide)))); (case side3 => exact TabW.below HT.out (zT HB.out GE1710.out)); rintro e w93 ⟨v1757, rfl, ho0, hb⟩; refine ⟨_, rfl, ?_⟩; have HO1758 := zA (kI (kF (kF (kF (kF (kF (kF (kA (ok' := fun k_ => True) ho0 (fun _ hk_ => trivial)) (kH (zP HO_4.out))) (kH (zP HO_5.out))) (kH (zP HO_6.out))) (kH (zP HO_10.out))) (kH (zP HO_1711001.out))) (kH (zP HO1754.out))) (kP (zT HB.out GE1710.out))); replace HO_4 := zA (kE (zP HO_4.out) (kC ho0) hb); replace HO_5 := zA (kE (zP HO_5.out) (kC ho0) hb); replace HO_6 := zA (kE (zP HO_6.out) (kC ho0) hb); replace HO_10 := zA (kE (zP HO_10.out) (kC ho0) hb); replace HO_1711001 := zA (kE (zP HO_1711001.out) (kC ho0) hb); replace HO1754 := zA (kE (zP HO1754.out) (kC ho0) hb); replace BK1710 := zA (zB1 BK1710.out hb); replace HB := zA (kQ (zT HB.out GE1710.out) hb); (try clear hb); (try clear ho0); obtain ⟨hcz94_0, hcz94_1, hfz94_0, hfz94_1⟩ := zB3 BK1710.out) | (refine zO (some 182) Tryd.func40 #[.agg #[.int .i64 t1700, .slice Ao11 t1701.length co11], .slice Ao14 t1704.length co14, .slice Ao37 t1720.length co37] ?_; (with_reducible refine (impl_JoinOf.calls kj58 t1700 (fun k_ => some k_ = (.slice Ao11 t1701.length co11 : Value).ownBlock) _ _ t1701 (fun k_ => some k_ = (.slice Ao14 t1704.length co14 : Value).ownBlock) _ _ t1704 (fun k_ => some k_ = (.slice Ao37 t1720.length co37 : Value).ownBlock) _ _ t1720 t1760 t1763 _ ?side1 ?side2 ?side3 ?side4 A77.out).mono ?_); (case side1 => exact jL (jK rfl (kD (HO_1711001.out) BK1710.out (by decide)))); (case side2 => exact jL (jK rfl (kD (HO_4.out) BK1710.out (by decide)))); (case side3 => exact jL (jK rfl (kD (HO_10.out) BK1710.out (by decide)))); (case side4 => exact TabW.below HT.out (zT HB.out GE1710.out)); rintro e w95 ⟨v1761, rfl, ho0, hb⟩; refine ⟨_, rfl, ?_⟩; have HO1762 := zA (kI (kF (kF (kF (kF (kF (kF (kF (kA (ok' := fun k_ => True) ho0 (fun _ hk_ => trivial)) (kH (zP HO_4.out))) (kH (zP HO_5.out))) (kH (zP HO_6.out))) (kH (zP HO_10.out))) (kH (zP HO_1711001.out))) (kH (zP HO1754.out))) (kH (zP HO1758.out))) (kP (zT HB.out GE1710.out))); replace HO_4 := zA (kE (zP HO_4.out) (kC ho0) hb); replace HO_5 := zA (kE (zP HO_5.out) (kC ho0) hb); replace HO_6 := zA (kE (zP HO_6.out) (kC ho0) hb); replace HO_10 := zA (kE (zP HO_10.out) (kC ho0) hb); replace HO_1711001 := zA (kE (zP HO_1711001.out) (kC ho0) hb); replace HO1754 := zA (kE (zP HO1754.out) (kC ho0) hb); replace HO1758 := zA (kE (zP HO1758.out) (kC ho0) hb); replace BK1710 := zA (zB1 BK1710.out hb); replace HB := zA (kQ (zT HB.out GE1710.out) hb); (try clear hb); (try clear ho0); obtain ⟨hcz96_0, hcz96_1, hfz96_0, hfz96_1⟩ := zB3 BK1710.out) | (refine zO (some 189) Tryd.func40 #[.agg #[.int .i64 t1700, .slice Ao11 t1701.length co11], .slice Ao15 t1707.length co15, .slice Ao14 t1704.length co14] ?_; (with_reducible refine (impl_JoinOf.calls kj58 t1700 (fun k_ => some k_ = (.slice Ao11 t1701.length co11 : Value).ownBlock) _ _ t1701 (fun k_ => some k_ = (.slice Ao15 t1707.length co15 : Value).ownBlock) _ _ t1707 (fun k_ => some k_ = (.slice Ao14 t1704.length co14 : Value).ownBlock) _ _ t1704 t1764 t1767 _ ?side1 ?side2 ?side3 ?side4 A78.out).mono ?_); (case side1 => exact jL (jK rfl (kD (HO_1711001.out) BK1710.out (by decide)))); (case side2 => exact jL (jK rfl (kD (HO_5.out) BK1710.out (by decide)))); (case side3 => exact jL (jK rfl (kD (HO_4.out) BK1710.out (by decide)))); (case side4 => exact TabW.below HT.out (zT HB.out GE1710.out)); rintro e w97 ⟨v1765, rfl, ho0, hb⟩; refine ⟨_, rfl, ?_⟩; have HO1766 := zA (kI (kF (kF (kF (kF (kF (kF (kF (kF (kA (ok' := fun k_ => True) ho0 (fun _ hk_ => trivial)) (kH (zP HO_4.out))) (kH (zP HO_5.out))) (kH (zP HO_6.out))) (kH (zP HO_10.out))) (kH (zP HO_1711001.out))) (kH (zP HO1754.out))) (kH (zP HO1758.out))) (kH (zP HO1762.out))) (kP (zT HB.out GE1710.out))); replace HO_4 := zA (kE (zP HO_4.out) (kC ho0) hb); replace HO_5 := zA (kE (zP HO_5.out) (kC ho0) hb); replace HO_6 := zA (kE (zP HO_6.out) (kC ho0) hb); replace HO_10 := zA (kE (zP HO_10.out) (kC ho0) hb); replace HO_1711001 := zA (kE (zP HO_1711001.out) (kC ho0) hb); replace HO1754 := zA (kE (zP HO1754.out) (kC ho0) hb); replace HO1758 := zA (kE (zP HO1758.out) (kC ho0) hb); replace HO1762 := zA (kE (zP HO1762.out) (kC ho0) hb); replace BK1710 := zA (zB1 BK1710.out hb); replace HB := zA (kQ (zT HB.out GE1710.out) hb); (try clear hb); (try clear ho0); obtain ⟨Ao98, co98, eo98⟩ := kM HO1754.out; subst eo98; obtain ⟨Ao99, co99, eo99⟩ := kM HO1758.out; subst eo99) | (go_at_call 20; (with_reducible refine (laws_likeInts.calls kj58 _ _ t1752 _ _ t1756 true _ ?side1 ?side2 ?side3 ?side4 A83.out).mono ?_); (case side1 => exact zS (kB HO1754.out).2.2); (case side2 => exact (kB HO1754.out).2.1); (case side3 => exact zS (kB HO1758.out).2.2); (case side4 => exact (kB HO1758.out).2.1); rintro e w' ⟨rfl, ⟨nd, rfl⟩⟩; obtain ⟨Ao100, co100, eo100⟩ := kM HO1762.out; subst eo100) | (go_at_call 20; (with_reducible refine (laws_likeInts.calls kj58 _ _ t1760 _ _ t1756 true _ ?side1 ?side2 ?side3 ?side4 A85.out).mono ?_); (case side1 => exact zS (kB HO1762.out).2.2); (case side2 => exact (kB HO1762.out).2.1); (case side3 => exact zS (kB HO1758.out).2.2); (case side4 => exact (kB HO1758.out).2.1); rintro e w' ⟨rfl, ⟨nd, rfl⟩⟩; obtain ⟨Ao101, co101, eo101⟩ := kM HO1766.out; subst eo101) | (go_at_call 20; (with_reducible refine (laws_likeInts.calls kj58 _ _ t1764 _ _ t1711 true _ ?side1 ?side2 ?side3 ?side4 A87.out).mono ?_); (case side1 => exact zS (kB HO1766.out).2.2); (case side2 => exact (kB HO1766.out).2.1); (case side3 => exact zS (kB HO_6.out).2.2); (case side4 => exact (kB HO_6.out).2.1); rintro e w' ⟨rfl, ⟨nd, rfl⟩⟩))
                   go_ret
                   exact ⟨zr, zT HB.out GE1710.out⟩
                  replace c88 := Bool.eq_false_iff.mpr c88
                  subst c88
                  rw [if_neg (show ¬ (false = true) by decide)] at H
                  exact absurd H (by simp)
                 replace c86 := Bool.eq_false_iff.mpr c86
                 subst c86
                 rw [if_neg (show ¬ (false = true) by decide)] at H
                 exact absurd H (by simp)
                replace c84 := Bool.eq_false_iff.mpr c84
                subst c84
                rw [if_neg (show ¬ (false = true) by decide)] at H
                exact absurd H (by simp)
               rw [if_neg c82] at H
               exact absurd H (by simp)
              rw [if_neg c81] at H
              exact absurd H (by simp)
             rw [if_neg c80] at H
             exact absurd H (by simp)
            rw [if_neg c79] at H
            exact absurd H (by simp)
           rw [if_neg c74] at H
           obtain ⟨c74b0, c74b1⟩ := zT2 c74
           obtain rfl := Option.some.inj H
           go_wp2
           go_ret
           exact ⟨zr, zT HB.out GE1710.out⟩
        rw [if_neg c56] at H
        exact absurd H (by simp)
       rw [if_neg c55] at H
       exact absurd H (by simp)
end Go.Proofs.YtkiacoilecdepaaDoor.PAll
