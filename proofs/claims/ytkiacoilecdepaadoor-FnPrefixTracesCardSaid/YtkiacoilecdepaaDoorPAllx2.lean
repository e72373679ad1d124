-- Printed by a program of the session (wip/tools/pgen.py) out of the translation. Not trusted: Lean checks it.
import Derived.Test.YtkiacoilecdepaaDoorPAllx0
import Derived.Test.YtkiacoilecdepaaDoorPAllx1
namespace Go.Proofs.YtkiacoilecdepaaDoor.PAll
open Go.RowKit Go.Proofs.YtkiacoilecdepaaDoor.T Go.Proofs.YtkiacoilecdepaaDoorW.PrintWords Go.Proofs.YtkiacoilecdepaaDoorW.PrintLast Go.Proofs.YtkiacoilecdepaaDoorW.PrintMore
attribute [local go_sem] max2_int min2_int max_two min_two max_three min_three max_four min_four   -- for this text's walks alone
set_option linter.unusedVariables false
set_option linter.unusedSimpArgs false

/-! ### spec_l02Join: function 122 -/
def spec_l01One_Bl02Join.f (a0 : Int) : Option (Int) := spec_l01One.f a0
theorem spec_l01One_Bl02Join.calls (a0 : Int) (r : Int) (w : World) (h : spec_l01One_Bl02Join.f a0 = some r) :
 Calls Tryd.prog 54 #[.int .i64 a0] w fun e w' => e = .returned (.int .i64 r) ∧ Below w.heap.size w w' := by
 refine (spec_l01One.calls a0 r w h).mono ?_
 rintro e w' ⟨h1, h2⟩
 exact ⟨h1, Drawn0.below h2⟩
def spec_l02Join.f (a0_0 : Int) (l0_1 : List Int) (a1 : Int) (a2 : Int) : Option (List Int) := if 0 ≤ a1 then (if a1 < (l0_1.length : Int) then ((spec_l01One_Bl02Join.f a2).bind fun t197 => ((some (l0_1.set (a1 : Int).toNat (Go.bits .or .i64 (rd l0_1 a1) t197) : List Int)).bind fun y198 => (if 0 ≤ a2 then (if a2 < (l0_1.length : Int) then ((spec_l01One_Bl02Join.f a1).bind fun t200 => (some (y198.set (a2 : Int).toNat (Go.bits .or .i64 (rd y198 a2) t200)))) else (none)) else (none)))) else (none)) else (none)
def spec_l02Join.T1 : Bool × List (List Nat × List Nat) := (true, [([], []), ([0], [0]), ([], []), ([], []), ([3], [3]), ([], []), ([4, 5], [4, 5]), ([6], [6]), ([], []), ([8], [8]), ([7, 9], [7, 9]), ([1, 2, 0, 1, 2, 3, 4, 5, 6, 7, 8, 9, 10], [1, 2]), ([11, 10, 9, 0, 1, 2, 3, 4, 5, 6, 7, 8, 9, 10], [10, 11])])
def spec_l02Join.B1 : List Nat := [0, 1, 0, 0, 8, 0, 56, 120, 0, 256, 1016, 2047, 4095]
theorem spec_l02Join.tab1 : rtab .any (opsOf Tryd.f122 1) = spec_l02Join.T1 := by kernel_rfl
theorem spec_l02Join.bits1 : waitsOk spec_l02Join.T1.2 spec_l02Join.B1 = true := by kernel_rfl
def spec_l02Join.T2 : Bool × List (List Nat × List Nat) := (true, [([], []), ([0], [0]), ([], []), ([], []), ([3], [3]), ([], []), ([4, 5], [4, 5]), ([6], [6]), ([], []), ([8], [8]), ([7, 9], [7, 9]), ([1, 2, 0, 1, 2, 3, 4, 5, 6, 7, 8, 9, 10], [1, 2]), ([11, 10, 9, 0, 1, 2, 3, 4, 5, 6, 7, 8, 9, 10], [10, 11])])
def spec_l02Join.B2 : List Nat := [0, 1, 0, 0, 8, 0, 56, 120, 0, 256, 1016, 2047, 4095]
theorem spec_l02Join.tab2 : rtab .any (opsOf Tryd.f122 2) = spec_l02Join.T2 := by kernel_rfl
theorem spec_l02Join.bits2 : waitsOk spec_l02Join.T2.2 spec_l02Join.B2 = true := by kernel_rfl
set_option maxHeartbeats 8000000 in
set_option maxRecDepth 100000 in
theorem spec_l02Join.calls (a0_0 : Int) (P0_1_ : Nat → Prop) (u9000_ : Value) (l0_1 : List Int) (a1 : Int) (a2 : Int) (r : List Int) (w0 w : World) (hB : Below w0.heap.size w0 w) (ho0_1 : Kd.R (Kd.int .i64) 2 w w0.heap.size P0_1_ u9000_ l0_1) (h : spec_l02Join.f a0_0 l0_1 a1 a2 = some r) :
  Calls Tryd.prog 122 #[.agg #[.int .i64 a0_0, u9000_], .int .i64 a1, .int .i64 a2] w fun e w' => e = .returned (.tuple #[]) ∧ Kd.R (Kd.int .i64) 2 w' w0.heap.size (fun k_ => (P0_1_ k_ ∨ w.heap.size ≤ k_)) u9000_ r ∧ Below w0.heap.size w0 w' ∧ Kept w w' (fun k_ => P0_1_ k_) := by
 have hu26 := Tryd.underlying26
 have HO0_1 := zA (show Kd.R (Kd.int .i64) 2 w w0.heap.size (fun k_ => (P0_1_ k_ ∨ w.heap.size ≤ k_)) u9000_ l0_1 from Kd.R_mono ho0_1 (fun k_ hk => (.inl hk)))
 have HK := zA (Kept.refl w (fun k_ => P0_1_ k_))
 have HW0 := zA hB.size
 have HB := zA hB
 clear hB
 have H : (if 0 ≤ a1 then (if a1 < (l0_1.length : Int) then ((spec_l01One_Bl02Join.f a2).bind fun t197 => ((some (l0_1.set (a1 : Int).toNat (Go.bits .or .i64 (rd l0_1 a1) t197) : List Int)).bind fun y198 => (if 0 ≤ a2 then (if a2 < (l0_1.length : Int) then ((spec_l01One_Bl02Join.f a1).bind fun t200 => (some (y198.set (a2 : Int).toNat (Go.bits .or .i64 (rd y198 a2) t200)))) else (none)) else (none)))) else (none)) else (none)) = some r := h
 clear h
 by_cases c4 : 0 ≤ a1
 ·rw [if_pos c4] at H
  have c4b0 : decide (0 ≤ a1) = true := decide_eq_true c4
  clear c4
  by_cases c5 : a1 < (l0_1.length : Int)
  ·rw [if_pos c5] at H
   have c5b0 : decide (a1 < (l0_1.length : Int)) = true := decide_eq_true c5
   clear c5
   obtain ⟨t197, A6, H⟩ := zb H
   try dsimp only at H
   obtain ⟨y198, hy198⟩ : ∃ y_ : List Int, y_ = (l0_1.set (a1 : Int).toNat (Go.bits .or .i64 (rd l0_1 a1) t197)) := ⟨_, rfl⟩
   replace H : (if 0 ≤ a2 then (if a2 < (l0_1.length : Int) then ((spec_l01One_Bl02Join.f a1).bind fun t200 => (some (y198.set (a2 : Int).toNat (Go.bits .or .i64 (rd y198 a2) t200)))) else (none)) else (none)) = some r := zy hy198 H
   have Ny198 := zA hy198
   clear hy198
   by_cases c8 : 0 ≤ a2
   ·rw [if_pos c8] at H
    have c8b0 : decide (0 ≤ a2) = true := decide_eq_true c8
    clear c8
    by_cases c9 : a2 < (l0_1.length : Int)
    ·rw [if_pos c9] at H
     have c9b0 : decide (a2 < (l0_1.length : Int)) = true := decide_eq_true c9
     clear c9
     obtain ⟨t200, A10, H⟩ := zb H
     try dsimp only at H
     obtain ⟨y201, hy201⟩ : ∃ y_ : List Int, y_ = (y198.set (a2 : Int).toNat (Go.bits .or .i64 (rd y198 a2) t200)) := ⟨_, rfl⟩
     replace H : (some y201) = some r := zy hy201 H
     have Ny201 := zA hy201
     clear hy201
     obtain rfl := Option.some.inj H
     obtain ⟨Ao12, co12, eo12⟩ := Kd.R_slice HO0_1.out
     subst eo12
     go_enter Tryd.func122, Tryd.ntmps122
     try go_wp2_with (first | ((with_reducible refine gate_dst (N := 3) rfl ?_); refine box_event ?hg (N := 3) ?hd (cs := #[.int .i64 a0_0, .slice Ao12 l0_1.length co12]) (t := 26) ?hr ?_; (case hd => rfl); (case hg => rfl); (case hr => first | (go_simp; done) | (go_simp; rfl)); intro gb195 hg w13 hbox hb; replace HO0_1 := zA (Kd.R_below (zP HO0_1.out) hb); have BK195 := zA (hbox); have GW195 := zA ((by rw [hg]; exact (by first | exact HK.out.1 | exact (show Kept w _ (fun k_ => P0_1_ k_) from by repeat (first | (with_reducible first | exact HK.out | apply Kept.alloc | apply Kept.drewN | apply Kept.drew) | exact HK.out)).1) : w.heap.size ≤ gb195)); replace HK := zA (Kept.below (S := (fun k_ => P0_1_ k_)) (by repeat (first | (with_reducible first | exact HK.out | apply Kept.alloc | apply Kept.drewN | apply Kept.drew) | exact HK.out)) hb); have GE195 := zA ((by rw [hg]; exact (below_size (zQ HB.out)) : w0.heap.size ≤ gb195)); replace HB := zA (below_step (zQ HB.out) hb); clear hb hbox hg))
     replace HO0_1 := zA (zH HO0_1.out)
     replace BK195 := zA (zK BK195.out)
     replace HK := zA (Kept.drew HK.out)
     replace HB := zA (zD HB.out)
     have p196 : 0 ≤ (a1 : Int) := zd
     have q196 : a1 < (l0_1.length : Int) := zd
     obtain ⟨ad196, e196, hx196_0⟩ := Kd.at_int (Kd.R_reads' HO0_1.out).2.2 a1 p196 q196
     cases e196
     replace p196 := eq_true p196
     replace q196 := eq_true q196
     refine start_ (n := 13) (S := fun w' => w'.cell? ⟨gb195, 0, none⟩ = some (.int .i64 a0_0) ∧ w'.cell? ⟨gb195, 1, none⟩ = some (.slice (some ad196) l0_1.length co12) ∧ w'.cell? (ad196.add (a1).toNat) = some (.int .i64 (rd l0_1 a1))) (ds := [12]) #[false, false, false, false, false, false, false, false, false, false, false, false, false] (by kernel_rfl) rfl rfl ⟨(blk_cell BK195.out 0).trans rfl, (blk_cell BK195.out 1).trans rfl, hx196_0⟩ (fun hHeld => ?_); refine with_tabW spec_l02Join.tab1 spec_l02Join.bits1 (fun HT_ HW_ => ?_)
     generalize w13.drew = w14 at HO0_1 BK195 HK HB hx196_0 hHeld ⊢
     refine zp 0 (some 6) #[true, false, false, false, false, false, false, false, false, false, false, false, false] HT_.out ?_
     refine zp 2 (some 8) #[true, false, true, false, false, false, false, false, false, false, false, false, false] HT_.out ?_
     refine zp 3 (some 9) #[true, false, true, true, false, false, false, false, false, false, false, false, false] HT_.out ?_
     refine zp 5 (some 11) #[true, false, true, true, false, true, false, false, false, false, false, false, false] HT_.out ?_
     refine zp 8 (some 14) #[true, false, true, true, false, true, false, false, true, false, false, false, false] HT_.out ?_
     refine ze 1 (some 7) #[true, true, true, true, false, true, false, false, true, false, false, false, false] HT_.out HW_.out hHeld ?_
     refine ze 4 (some 10) #[true, true, true, true, true, true, false, false, true, false, false, false, false] HT_.out HW_.out hHeld ?_
     refine zp 6 (some 12) #[true, true, true, true, true, true, true, false, true, false, false, false, false] HT_.out ?_
     refine ze 7 (some 13) #[true, true, true, true, true, true, true, true, true, false, false, false, false] HT_.out HW_.out hHeld ?_
     refine one_ (i := 9) (N := some 15) #[true, true, true, true, true, true, true, true, true, true, false, false, false] rfl rfl (one_of HT_.out (by kernel_rfl)) (by decide) (fun K hK => ?_)
     refine goes_ Tryd.func54 (by kernel_rfl) rfl #[.int .i64 a2] (by rfl) rfl rfl (by (try simp only [List.map_toArray, List.map_cons, List.map_nil]); first | done | rfl | (simp only [List.length_drop, List.length_take]; rfl)) ?_
     with_reducible refine (spec_l01One_Bl02Join.calls a2 t197 _ A6.out).mono ?_
     rintro e w15 ⟨rfl, hb⟩
     have HS2_ := (hb.cell (World.block_lt_of_cell? _ _ (hHeld.2.2))).trans (hHeld.2.2)
     refine ⟨_, rfl, ?_⟩
     replace HO0_1 := zA (Kd.R_below (zP HO0_1.out) hb)
     replace BK195 := zA (blk_below (g := gb195) (o := .cells #[.int .i64 a0_0, .slice (some ad196) l0_1.length co12] 26 (0, 0)) (zR BK195.out) hb)
     replace HK := zA (Kept.below (S := (fun k_ => P0_1_ k_)) (by repeat (first | (with_reducible first | exact HK.out | apply Kept.alloc | apply Kept.drewN | apply Kept.drew | refine Kept.setCell ?_ (.inr GW195.out) _) | exact HK.out)) hb)
     replace HB := zA (below_step (zT HB.out GE195.out) hb)
     (try clear hb)
     (try clear hb2)
     (try clear hk)
     (try clear hi)
     (try clear hgw)
     have p7 : 0 ≤ (a1 : Int) := zd
     have q7 : (a1 : Int) < ((l0_1.length : Int) : Int) := zd
     obtain ⟨go7, co7, eo7, gb7, gl7, cl7, HG7⟩ := Kd.R_form HO0_1.out (by omega)
     (first | cases eo7 | (injection eo7 with ea_ en_ ec_; (first | subst ea_ | (injection ea_ with ea_; subst ea_)); subst ec_; clear en_))
     have GB7 := zA gb7
     have GG7 := zA HG7
     clear gb7 gl7 HG7
     have HMgo7 := zA (show (P0_1_ go7 ∨ w.heap.size ≤ go7) from (HO0_1.out.1 _ rfl))
     (first | simp only [add_plain] at hx196_0 | skip)
     obtain ⟨hx7_0, hf7_0⟩ := Kd.R_celln 0 HO0_1.out (a1 : Int) p7 q7
     replace p7 := eq_true p7
     replace q7 := eq_true q7
     have HP16 := Kd.R_putn HO0_1.out (a1 : Int) (Go.bits .or .i64 (rd l0_1 a1) t197)
     rw [← Ny198.out] at HP16
     have HQ16 := zA HP16
     clear HP16
     refine hK.out _ _ ⟨(blk_cell BK195.out 0).trans rfl, (blk_cell BK195.out 1).trans rfl, HS2_⟩ (fun hHeld => ?_)
     clear hK K
     refine norm_ (a' := ?_) ?_ ?_
     rotate_left
     ·show Act.put _ (some 15) _ = _
      simp only [Act.put, zL, zM, zN, i64_w, i32_w]
      rfl
     refine zp 10 (some 16) #[true, true, true, true, true, true, true, true, true, true, true, false, false] HT_.out ?_
     refine zp 11 (some 17) #[true, true, true, true, true, true, true, true, true, true, true, true, false] HT_.out ?_
     refine last_ (i := 12) (N := none) #[true, true, true, true, true, true, true, true, true, true, true, true, true] rfl rfl (one_of HT_.out (by kernel_rfl)) (by decide) (fun K hK => ?_)
     refine skip_ (w1 := ?_) (by rfl) rfl ?_ ?_
     rotate_left
     ·go_simp
      rfl
     refine hK.out _ _ ?_
     clear hK K
     refine done_ (done_of HT_.out (by kernel_rfl)) ?_
     try go_wp2
     have n0_ : Aside0 (Kd.R (Kd.int .i64) 2 (w15.setCell ⟨go7, (a1 : Int).toNat, none⟩ (.int .i64 (Go.bits .or .i64 (rd l0_1 a1) t197))) w0.heap.size (fun k_ => (P0_1_ k_ ∨ w.heap.size ≤ k_)) (.slice (some ⟨go7, 0, none⟩) l0_1.length co12) y198) := ⟨by (with_reducible repeat (first | apply zF | apply zG | apply zH)); exact HQ16.out⟩
     have n1_ : Aside0 ((w15.setCell ⟨go7, (a1 : Int).toNat, none⟩ (.int .i64 (Go.bits .or .i64 (rd l0_1 a1) t197))).heap[gb195]? = some (.cells #[.int .i64 a0_0, .slice (some ⟨go7, 0, none⟩) l0_1.length co12] 26 (0, 0))) := ⟨by (with_reducible repeat (first | refine zJ ?_ _ | refine zK ?_ | refine zI ?_ _)); refine blk_far ?_ (by have h_ := Kd.R_ne HO0_1.out BK195.out (by decide); intro e_; exact h_ (by rw [e_]; rfl)) _; (with_reducible repeat (first | refine zJ ?_ _ | refine zK ?_ | refine zI ?_ _)); exact BK195.out⟩
     have n2_ : Aside0 (Kept w (w15.setCell ⟨go7, (a1 : Int).toNat, none⟩ (.int .i64 (Go.bits .or .i64 (rd l0_1 a1) t197))) (fun k_ => P0_1_ k_)) := ⟨by repeat (first | (with_reducible first | exact HK.out | apply Kept.alloc | apply Kept.drewN | apply Kept.drew | refine Kept.setCell ?_ HMgo7.out _ | refine Kept.setCell ?_ (.inr GW195.out) _) | exact HK.out)⟩
     have n3_ : Aside0 (Below w0.heap.size w0 (w15.setCell ⟨go7, (a1 : Int).toNat, none⟩ (.int .i64 (Go.bits .or .i64 (rd l0_1 a1) t197)))) := ⟨zV HB.out GB7.out GE195.out⟩
     (try clear HO0_1)
     (try clear BK195)
     (try clear HK)
     (try clear HB)
     generalize (w15.setCell ⟨go7, (a1 : Int).toNat, none⟩ (.int .i64 (Go.bits .or .i64 (rd l0_1 a1) t197))) = w17 at n0_ n1_ n2_ n3_ ⊢
     have HO0_1 := n0_
     have BK195 := n1_
     have HK := n2_
     have HB := n3_
     clear n0_ n1_ n2_ n3_
     replace HO0_1 := zA (zH HO0_1.out)
     replace BK195 := zA (zK BK195.out)
     replace HK := zA (Kept.drew HK.out)
     replace HB := zA (zD HB.out)
     have p199 : 0 ≤ (a2 : Int) := zd
     have q199 : a2 < (y198.length : Int) := (by have h_ : (a2 : Int) < ((l0_1.length : Int) : Int) := zd; first | (have e_ := (Kd.R_reads' HO0_1.out).1; omega) | simpa only [Ny198.out, List.length_set] using h_)
     have ql199 : ((a2 : Int) < ((l0_1.length : Int) : Int)) = True := eq_true (zd)
     obtain ⟨ad199, e199, hx199_0⟩ := Kd.at_int (Kd.R_reads' HO0_1.out).2.2 a2 p199 q199
     obtain rfl : (⟨go7, 0, none⟩ : Addr) = ad199 := (by injection e199)
     (first | simp only [add_plain] at hx199_0 | simp only [add_at] at hx199_0 | simp only [Addr.add, Nat.zero_add] at hx199_0 | skip)
     replace p199 := eq_true p199
     replace q199 := eq_true q199
     refine start_ (n := 13) (S := fun w' => w'.cell? ⟨gb195, 0, none⟩ = some (.int .i64 a0_0) ∧ w'.cell? ⟨gb195, 1, none⟩ = some (.slice (some ⟨go7, 0, none⟩) l0_1.length co12) ∧ w'.cell? ⟨go7, (a2).toNat, none⟩ = some (.int .i64 (rd y198 a2))) (ds := [12]) #[false, false, false, false, false, false, false, false, false, false, false, false, false] (by kernel_rfl) rfl rfl ⟨(blk_cell BK195.out 0).trans rfl, (blk_cell BK195.out 1).trans rfl, hx199_0⟩ (fun hHeld => ?_); refine with_tabW spec_l02Join.tab2 spec_l02Join.bits2 (fun HT_ HW_ => ?_)
     generalize w17.drew = w18 at HO0_1 BK195 HK HB HQ16 hx199_0 hHeld ⊢
     refine zp 0 (some 18) #[true, false, false, false, false, false, false, false, false, false, false, false, false] HT_.out ?_
     refine zp 2 (some 20) #[true, false, true, false, false, false, false, false, false, false, false, false, false] HT_.out ?_
     refine zp 3 (some 21) #[true, false, true, true, false, false, false, false, false, false, false, false, false] HT_.out ?_
     refine zp 5 (some 23) #[true, false, true, true, false, true, false, false, false, false, false, false, false] HT_.out ?_
     refine zp 8 (some 26) #[true, false, true, true, false, true, false, false, true, false, false, false, false] HT_.out ?_
     refine ze 1 (some 19) #[true, true, true, true, false, true, false, false, true, false, false, false, false] HT_.out HW_.out hHeld ?_
     refine ze 4 (some 22) #[true, true, true, true, true, true, false, false, true, false, false, false, false] HT_.out HW_.out hHeld ?_
     refine zp 6 (some 24) #[true, true, true, true, true, true, true, false, true, false, false, false, false] HT_.out ?_
     refine ze 7 (some 25) #[true, true, true, true, true, true, true, true, true, false, false, false, false] HT_.out HW_.out hHeld ?_
     refine one_ (i := 9) (N := some 27) #[true, true, true, true, true, true, true, true, true, true, false, false, false] rfl rfl (one_of HT_.out (by kernel_rfl)) (by decide) (fun K hK => ?_)
     refine goes_ Tryd.func54 (by kernel_rfl) rfl #[.int .i64 a1] (by rfl) rfl rfl (by (try simp only [List.map_toArray, List.map_cons, List.map_nil]); first | done | rfl | (simp only [List.length_drop, List.length_take]; rfl)) ?_
     with_reducible refine (spec_l01One_Bl02Join.calls a1 t200 _ A10.out).mono ?_
     rintro e w19 ⟨rfl, hb⟩
     have HS2_ := (hb.cell (World.block_lt_of_cell? _ _ (hHeld.2.2))).trans (hHeld.2.2)
     refine ⟨_, rfl, ?_⟩
     replace HO0_1 := zA (Kd.R_below (zP HO0_1.out) hb)
     replace BK195 := zA (blk_below (g := gb195) (o := .cells #[.int .i64 a0_0, .slice (some ⟨go7, 0, none⟩) l0_1.length co12] 26 (0, 0)) (zR BK195.out) hb)
     replace HK := zA (Kept.below (S := (fun k_ => P0_1_ k_)) (by repeat (first | (with_reducible first | exact HK.out | apply Kept.alloc | apply Kept.drewN | apply Kept.drew | refine Kept.setCell ?_ (.inr GW195.out) _) | exact HK.out)) hb)
     replace HB := zA (below_step (zT HB.out GE195.out) hb)
     (try clear hb)
     (try clear hb2)
     (try clear hk)
     (try clear hi)
     (try clear hgw)
     have p11 : 0 ≤ (a2 : Int) := zd
     have q11 : (a2 : Int) < ((l0_1.length : Int) : Int) := zd
     obtain ⟨hx11_0, hf11_0⟩ := Kd.R_celln 0 HO0_1.out (a2 : Int) p11 q11
     replace p11 := eq_true p11
     replace q11 := eq_true q11
     have HP20 := Kd.R_putn HO0_1.out (a2 : Int) (Go.bits .or .i64 (rd y198 a2) t200)
     rw [← Ny201.out] at HP20
     have HQ20 := zA HP20
     clear HP20
     refine hK.out _ _ ⟨(blk_cell BK195.out 0).trans rfl, (blk_cell BK195.out 1).trans rfl, HS2_⟩ (fun hHeld => ?_)
     clear hK K
     refine norm_ (a' := ?_) ?_ ?_
     rotate_left
     ·show Act.put _ (some 27) _ = _
      simp only [Act.put, zL, zM, zN, i64_w, i32_w]
      rfl
     refine zp 10 (some 28) #[true, true, true, true, true, true, true, true, true, true, true, false, false] HT_.out ?_
     refine zp 11 (some 29) #[true, true, true, true, true, true, true, true, true, true, true, true, false] HT_.out ?_
     refine last_ (i := 12) (N := none) #[true, true, true, true, true, true, true, true, true, true, true, true, true] rfl rfl (one_of HT_.out (by kernel_rfl)) (by decide) (fun K hK => ?_)
     refine skip_ (w1 := ?_) (by rfl) rfl ?_ ?_
     rotate_left
     ·go_simp
      rfl
     refine hK.out _ _ ?_
     clear hK K
     refine done_ (done_of HT_.out (by kernel_rfl)) ?_
     try go_wp2
     first | go_end0 | ((try simp only [Exit.inBlock, Exit.then]); refine bodyPost_ret (results_none rfl _ _ _) rfl ?_)
     exact ⟨zr, zP HQ20.out, zV HB.out GB7.out GE195.out, by repeat (first | (with_reducible first | exact HK.out | apply Kept.alloc | apply Kept.drewN | apply Kept.drew | refine Kept.setCell ?_ HMgo7.out _ | refine Kept.setCell ?_ (.inr GW195.out) _) | exact HK.out)⟩
    rw [if_neg c9] at H
    exact absurd H (by simp)
   rw [if_neg c8] at H
   exact absurd H (by simp)
  rw [if_neg c5] at H
  exact absurd H (by simp)
 rw [if_neg c4] at H
 exact absurd H (by simp)

/-! ### spec_l02Draw: function 97 -/
mutual
def spec_l02Draw.j0 : Nat → Int → Bool → List Int → Int → Int → Option (Int × List Int × Int × Int)
 | 0, _, _, _, _, _ => none
 | k + 1, x1, x16, x1000, x1001, x1002 => if x16 = true then (some (4, (([11, 7, 14, 13] : List Int)), x1001, x1002)) else ((spec_l01Next.f x1000 x1001 x1002 (wrap64 (x1 + 1))).bind fun bt209 => (if bt209.1 < 2 then ((spec_l01Next.f x1000 bt209.2.1 bt209.2.2 (wrap64 (x1 + 1))).bind fun bt212 => (spec_l02Draw.j1 k bt212.1 x1000 bt212.2.1 bt212.2.2)) else (spec_l02Draw.j1 k bt209.1 x1000 bt209.2.1 bt209.2.2)))
def spec_l02Draw.j1 : Nat → Int → List Int → Int → Int → Option (Int × List Int × Int × Int)
 | 0, _, _, _, _ => none
 | k + 1, x5, x1000, x1001, x1002 => (spec_l02Free.f k x5).bind fun bt215 => ((spec_l01Pick.f x1000 x1001 x1002 (([2, 2, 3, 4] : List Int))).bind fun bt222 => (spec_l02Draw.l0 k x5 bt222.1 0 x1000 bt222.2.1 bt222.2.2 bt215.1 bt215.2))
def spec_l02Draw.l0 : Nat → Int → Int → Int → List Int → Int → Int → Int → List Int → Option (Int × List Int × Int × Int)
 | 0, _, _, _, _, _, _, _, _ => none
 | k + 1, x5, x7, x8, x1000, x1001, x1002, x226000, x226001 => if x8 < x5 then (spec_l02Draw.l1 k x5 x7 x8 0 x1000 x1001 x1002 x226000 x226001) else (some (x226000, x226001, x1001, x1002))
def spec_l02Draw.l1 : Nat → Int → Int → Int → Int → List Int → Int → Int → Int → List Int → Option (Int × List Int × Int × Int)
 | 0, _, _, _, _, _, _, _, _, _ => none
 | k + 1, x5, x7, x8, x9, x1000, x1001, x1002, x226000, x226001 => if x9 < x8 then ((spec_l01Next.f x1000 x1001 x1002 x7).bind fun bt226 => (if bt226.1 = 0 then ((spec_l02Join.f x226000 x226001 x8 x9).bind fun t229 => (spec_l02Draw.l1 k x5 x7 x8 (wrap64 (x9 + 1)) x1000 bt226.2.1 bt226.2.2 x226000 t229)) else (spec_l02Draw.l1 k x5 x7 x8 (wrap64 (x9 + 1)) x1000 bt226.2.1 bt226.2.2 x226000 x226001))) else (spec_l02Draw.l0 k x5 x7 (wrap64 (x8 + 1)) x1000 x1001 x1002 x226000 x226001)
end
def spec_l02Draw.f (k : Nat) (s0_0 : List Int) (s0_1 : Int) (s0_2 : Int) (a1 : Int) : Option (Int × List Int × Int × Int) := if a1 ≥ 4 then ((spec_l01Next.f s0_0 s0_1 s0_2 6).bind fun bt203 => (spec_l02Draw.j0 k a1 (bt203.1 == 0) s0_0 bt203.2.1 bt203.2.2)) else (spec_l02Draw.j0 k a1 false s0_0 s0_1 s0_2)

set_option maxHeartbeats 8000000 in
set_option maxRecDepth 100000 in
theorem spec_l02Draw.calls (k : Nat) (g : Nat) (s0_0 : List Int) (s0_1 : Int) (s0_2 : Int) (a1 : Int) (r1 : Int) (r2 : List Int) (r3 : Int) (r4 : Int) (w0 w : World) (hI : Z101 w0 w g s0_0 s0_1 s0_2) (hB : Below w0.heap.size w0 w) (h : spec_l02Draw.f k s0_0 s0_1 s0_2 a1 = some (r1, r2, r3, r4)) :
  Calls Tryd.prog 97 #[.pointer (some ⟨g, 0, none⟩), .int .i64 a1] w fun e w' => ∃ v1_ : Value, e = .returned (.agg #[.int .i64 r1, v1_]) ∧ Kd.R (Kd.int .i64) 2 w' w.heap.size (fun _ => True) v1_ r2 ∧ Z101 w0 w' g s0_0 r3 r4 ∧ Below w0.heap.size w0 w' ∧ KeepBut w w' g none := by
 have hu26 := Tryd.underlying26
 have HI0 := zA hI
 have HK := zA (KeepBut.refl w g none)
 have HL := zA hB.size
 clear hI
 have HW0 := zA hB.size
 have HB := zA hB
 clear hB
 have H : (if a1 ≥ 4 then ((spec_l01Next.f s0_0 s0_1 s0_2 6).bind fun bt203 => (spec_l02Draw.j0 k a1 (bt203.1 == 0) s0_0 bt203.2.1 bt203.2.2)) else (spec_l02Draw.j0 k a1 false s0_0 s0_1 s0_2)) = some (r1, r2, r3, r4) := h
 clear h
 have HC3 := zA H
 clear H
 go_enter Tryd.func97, Tryd.ntmps97
 go_upto_region 1 with (first | ((with_reducible refine gate_dst (N := 4) rfl ?_); refine box_event ?hg (N := 4) ?hd (cs := #[.int .i64 0, .slice none 0 0]) (t := 26) ?hr ?_; (case hd => rfl); (case hg => rfl); (case hr => first | (go_simp; done) | (go_simp; rfl)); intro gb202 hg w4 hbox hb; have n0_ := zA (Z101.below (Z101.uA HI0.out) hb); have n1_ := zA (KeepBut.trans (yA HK.out) (KeepBut.of_below hb g none) (.inl rfl)); have n2_ := zA (below_step (zT HB.out (Z101.ge HI0.out)) hb); have n3_ := zA (hbox); have n4_ := zA ((by rw [hg]; exact (keep_size (w := w) (g := g) (row := none) (yA HK.out)) : w.heap.size ≤ gb202)); have n5_ := zA ((Nat.le_trans HW0.out (by rw [hg]; exact (keep_size (w := w) (g := g) (row := none) (yA HK.out)) : w.heap.size ≤ gb202) : w0.heap.size ≤ gb202)); have n6_ := zA ((by rw [hg]; exact Nat.ne_of_lt (Z101.lt (show Z101 w0 _ g s0_0 s0_1 s0_2 from Z101.uA HI0.out)) : g ≠ gb202)); have n7_ := zA ((by rw [hg]; exact Nat.ne_of_gt (Z101.lt (show Z101 w0 _ g s0_0 s0_1 s0_2 from Z101.uA HI0.out)) : gb202 ≠ g)); clear HI0; clear HK; clear HB; have HI0 := n0_; have HK := n1_; have HB := n2_; have BK202 := n3_; have GW202 := n4_; have GE202 := n5_; have NB0_202 := n6_; have NB202_0 := n7_; clear n0_ n1_ n2_ n3_ n4_ n5_ n6_ n7_; clear hb hbox hg))
 (try simp only [Act.put, zL, zM, zN])
 go_cut [16] (fun v16 wc => ∃ (kq : Nat) (x16_2 : Bool) (x1001_2 : Int) (x1002_2 : Int), v16 = .bool x16_2 ∧ Aside0 (spec_l02Draw.j0 kq a1 x16_2 s0_0 x1001_2 x1002_2 = some (r1, r2, r3, r4)) ∧ Aside0 (kq ≤ k) ∧ Aside0 (wc.heap[gb202]? = some (.cells #[.int .i64 0, (.slice none 0 0)] 26 (0, 0))) ∧ Aside0 (Z101 w0 wc g s0_0 x1001_2 x1002_2) ∧ Aside0 (KeepBut w wc g none) ∧ Aside0 (Below w0.heap.size w0 wc))
 case first =>
  have H := HC3.out
  clear HC3
  by_cases c5 : a1 ≥ 4
  ·rw [if_pos c5] at H
   have c5b0 : decide (4 ≤ a1) = true := decide_eq_true c5
   clear c5
   (first | rw [c5b0] | (simp only [i64_w, i32_w]; rw [c5b0]) | skip)
   obtain ⟨⟨t203, t204, t205⟩, A6, H⟩ := zb H
   try dsimp only at H
   have H' := zA H
   clear H
   go_wp2_with (first | (go_at_call 79; (with_reducible refine (spec_l01Next.calls g s0_0 s0_1 s0_2 6 t203 t204 t205 w0 _ ?side1 ?side2 A6.out).mono ?_); (case side1 => exact Z101.uB HI0.out NB0_202.out); (case side2 => exact zV HB.out (Z101.ge HI0.out) GE202.out); rintro e w7 ⟨rfl, hi, hb, hk⟩; replace BK202 := zA (KeepBut.blk hk (g' := gb202) (o := .cells #[.int .i64 0, .slice none 0 0] 26 (0, 0)) (zR BK202.out) NB202_0.out (by simp)); replace HK := zA (KeepBut.trans (yB HK.out GW202.out) hk (.inl rfl)); replace HB := zA (hb); replace HI0 := zA (hi)))
   go_meet
   case rel => exact ⟨_, ((t203 == 0)), (t204), (t205), (by first | rfl | (simp; done) | (simp [*]; done)), H', ⟨by first | omega | exact Nat.le_refl _⟩, ⟨by (with_reducible repeat (first | refine zJ ?_ _ | refine zK ?_ | refine zI ?_ _)); exact BK202.out⟩, ⟨Z101.uB HI0.out NB0_202.out⟩, ⟨yB HK.out GW202.out⟩, ⟨zV HB.out (Z101.ge HI0.out) GE202.out⟩⟩
  rw [if_neg c5] at H
  have c5b0 : decide (4 ≤ a1) = false := decide_eq_false c5
  clear c5
  (first | rw [c5b0] | (simp only [i64_w, i32_w]; rw [c5b0]) | skip)
  have H' := zA H
  clear H
  go_wp2
  go_meet
  case rel => exact ⟨_, (false), (s0_1), (s0_2), (by first | rfl | (simp; done) | (simp [*]; done)), H', ⟨by first | omega | exact Nat.le_refl _⟩, ⟨by (with_reducible repeat (first | refine zJ ?_ _ | refine zK ?_ | refine zI ?_ _)); exact BK202.out⟩, ⟨Z101.uB HI0.out NB0_202.out⟩, ⟨yB HK.out GW202.out⟩, ⟨zV HB.out (Z101.ge HI0.out) GE202.out⟩⟩
 case rest =>
  clear HC3
  try clear p2
  try clear c5
  try clear c5b0
  obtain ⟨kq, x16_2, x1001_2, x1002_2, rfl, HA, HJ2, BK202, HI0, HK, HB⟩ := hcut
  cases kq with
  | zero => exact absurd HA.out (by simp [spec_l02Draw.j0])
  | succ kj2 =>
   have H := HA.out
   clear HA
   simp only [spec_l02Draw.j0] at H
   by_cases c8 : x16_2 = true
   ·subst c8
    have H1 : (some (4, (([11, 7, 14, 13] : List Int)), x1001_2, x1002_2)) = some (r1, r2, r3, r4) := by rw [if_pos rfl] at H; exact H
    clear H
    have H := H1
    clear H1
    obtain ⟨y206, hy206⟩ : ∃ y_ : List Int, y_ = (([11, 7, 14, 13] : List Int)) := ⟨_, rfl⟩
    replace H : (some (4, y206, x1001_2, x1002_2)) = some (r1, r2, r3, r4) := zy hy206 H
    have Ny206 := zA hy206
    clear hy206
    simp only [Option.some.injEq, Prod.mk.injEq] at H
    obtain ⟨rfl, rfl, rfl, rfl⟩ := H
    go_wp2_with (first | ((with_reducible refine gate_dst (N := 17) rfl ?_); refine Kd.R_lit (Kd.int .i64) _ 2 ?hg (N := 17) ?hd (xs := ([11, 7, 14, 13] : List Int)) (inner := [.int .i64 11, .int .i64 7, .int .i64 14, .int .i64 13]) (ok := fun _ => True) (okp := fun _ => True) ?hr ?hp (fun _ hk => hk) trivial (Below.refl _ _) (Nat.le_refl _) (by simp) ?_; (case hd => rfl); (case hg => rfl); (case hr => first | (go_simp; done) | (go_simp; rfl)); (case hp => exact (Reps.one (show Kd.M (Kd.int .i64) _ _ _ 11 [.int .i64 11] from rfl) (Reps.one (show Kd.M (Kd.int .i64) _ _ _ 7 [.int .i64 7] from rfl) (Reps.one (show Kd.M (Kd.int .i64) _ _ _ 14 [.int .i64 14] from rfl) (Reps.one (show Kd.M (Kd.int .i64) _ _ _ 13 [.int .i64 13] from rfl) (Reps.none _ _)))))); intro v207 w9 ho10 hb hg_ hnew_; clear hg_ hnew_; (first | rw [← Ny206.out] at ho10 | (simp only [Int.reduceToNat] at ho10; rw [← Ny206.out] at ho10)); have HO208 := zA (Kd.R_lower ho10 (keep_size (w := w) (g := g) (row := none) (yB HK.out GW202.out))); replace BK202 := zA (blk_below (g := gb202) (o := .cells #[.int .i64 0, .slice none 0 0] 26 (0, 0)) (zR BK202.out) hb); replace HK := zA (KeepBut.trans (yB HK.out GW202.out) (KeepBut.of_below hb g none) (.inl rfl)); replace HB := zA (below_step (zV HB.out (Z101.ge HI0.out) GE202.out) hb); replace HI0 := zA (Z101.below (Z101.uB HI0.out NB0_202.out) hb); clear hb ho10; obtain ⟨Ao11, co11, eo11⟩ := Kd.R_slice HO208.out; subst eo11; have hnb12 := NB202_0.out; have hnc12 := NB0_202.out; have hcz13_0 : w9.cell? ⟨gb202, 0, none⟩ = some (.int .i64 0) := (blk_cell BK202.out 0).trans rfl; have hcz13_1 : w9.cell? ⟨gb202, 1, none⟩ = some (.slice none 0 0) := (blk_cell BK202.out 1).trans rfl; have hfz13_0 := blk_frozen BK202.out 0; have hfz13_1 := blk_frozen BK202.out 1))
    refine bodyPost_ret (results_cell_row rfl _ _ gb202 26 #[.int .i64 4, .slice Ao11 y206.length co11] (0, 0) _ rfl (by (with_reducible repeat (first | refine zJ ?_ _ | refine zK ?_ | refine zI ?_ _)); refine blk_put (cs := #[.int .i64 4, .slice none 0 0]) ?_ 1 _ rfl; (with_reducible repeat (first | refine zJ ?_ _ | refine zK ?_ | refine zI ?_ _)); refine blk_put (cs := #[.int .i64 0, .slice none 0 0]) ?_ 0 _ rfl; (with_reducible repeat (first | refine zJ ?_ _ | refine zK ?_ | refine zI ?_ _)); exact BK202.out) Tryd.underlying26 rfl (by kernel_rfl)) rfl ?_
    exact ⟨_, zr, by (with_reducible repeat (first | apply zF | apply zG | apply zH)); exact Kd.R_mono (Kd.R_far (p := ⟨gb202, 1, none⟩) (Kd.R_far (p := ⟨gb202, 0, none⟩) (Kd.R_types HO208.out BK202.out (by decide)) (fun _ hk => hk.2) (.int .i64 4)) (fun _ hk => hk.2) (.slice Ao11 y206.length co11)) (fun _ hk => trivial), by repeat (first | (with_reducible first | exact HI0.out | apply Z101.alloc | apply Z101.drewN | apply Z101.drew | apply Z101.set_1 | apply Z101.set_2 | refine Z101.far ?_ NB0_202.out _) | exact HI0.out), zV HB.out (Z101.ge HI0.out) GE202.out, by repeat (first | (with_reducible first | exact HK.out | apply KeepBut.set_ | apply keep_drewN | apply keep_drew | apply keep_alloc | refine keep_far ?_ GW202.out _) | exact HK.out)⟩
   replace c8 := Bool.eq_false_iff.mpr c8
   subst c8
   have H1 : ((spec_l01Next.f s0_0 x1001_2 x1002_2 (wrap64 (a1 + 1))).bind fun bt209 => (if bt209.1 < 2 then ((spec_l01Next.f s0_0 bt209.2.1 bt209.2.2 (wrap64 (a1 + 1))).bind fun bt212 => (spec_l02Draw.j1 kj2 bt212.1 s0_0 bt212.2.1 bt212.2.2)) else (spec_l02Draw.j1 kj2 bt209.1 s0_0 bt209.2.1 bt209.2.2))) = some (r1, r2, r3, r4) := by rw [if_neg (show ¬ (false = true) by decide)] at H; exact H
   clear H
   have H := H1
   clear H1
   obtain ⟨⟨t209, t210, t211⟩, A14, H⟩ := zb H
   try dsimp only at H
   have HC15 := zA H
   clear H
   go_upto_if 24 with (first | ((with_reducible refine gate_callee (f := 79) rfl ?_); refine zO (some 22) Tryd.func79 #[.pointer (some ⟨g, 0, none⟩), .int .i64 (wrap64 (a1 + 1))] ?_; (with_reducible refine (spec_l01Next.calls g s0_0 x1001_2 x1002_2 (wrap64 (a1 + 1)) t209 t210 t211 w0 _ ?side1 ?side2 A14.out).mono ?_); (case side1 => exact Z101.uB HI0.out NB0_202.out); (case side2 => exact zV HB.out (Z101.ge HI0.out) GE202.out); rintro e w16 ⟨rfl, hi, hb, hk⟩; refine ⟨_, rfl, ?_⟩; have n0_ := zA (KeepBut.blk hk (g' := gb202) (o := .cells #[.int .i64 0, .slice none 0 0] 26 (0, 0)) (zR BK202.out) NB202_0.out (by simp)); have n1_ := zA (KeepBut.trans (yB HK.out GW202.out) hk (.inl rfl)); have n2_ := zA (hb); have n3_ := zA (hi); clear BK202; clear HK; clear HB; clear HI0; have BK202 := n0_; have HK := n1_; have HB := n2_; have HI0 := n3_; clear n0_ n1_ n2_ n3_; (try clear hb); (try clear hk); (try clear hi)))
   (try simp only [Act.put, zL, zM, zN])
   go_cut [5] (fun v5 wc => ∃ (kq : Nat) (x5_14 : Int) (x1001_14 : Int) (x1002_14 : Int), v5 = .int .i64 x5_14 ∧ Aside0 (spec_l02Draw.j1 kq x5_14 s0_0 x1001_14 x1002_14 = some (r1, r2, r3, r4)) ∧ Aside0 (kq ≤ kj2) ∧ Aside0 (wc.heap[gb202]? = some (.cells #[.int .i64 0, (.slice none 0 0)] 26 (0, 0))) ∧ Aside0 (Z101 w0 wc g s0_0 x1001_14 x1002_14) ∧ Aside0 (KeepBut w wc g none) ∧ Aside0 (Below w0.heap.size w0 wc))
   case first =>
    have H := HC15.out
    clear HC15
    by_cases c17 : t209 < 2
    ·rw [if_pos c17] at H
     have c17b0 : decide (t209 < 2) = true := decide_eq_true c17
     clear c17
     (first | rw [c17b0] | (simp only [i64_w, i32_w]; rw [c17b0]) | skip)
     obtain ⟨⟨t212, t213, t214⟩, A18, H⟩ := zb H
     try dsimp only at H
     have H' := zA H
     clear H
     go_wp2_with (first | ((with_reducible refine gate_callee (f := 79) rfl ?_); refine zO (some 28) Tryd.func79 #[.pointer (some ⟨g, 0, none⟩), .int .i64 (wrap64 (a1 + 1))] ?_; (with_reducible refine (spec_l01Next.calls g s0_0 t210 t211 (wrap64 (a1 + 1)) t212 t213 t214 w0 _ ?side1 ?side2 A18.out).mono ?_); (case side1 => exact Z101.uB HI0.out NB0_202.out); (case side2 => exact zV HB.out (Z101.ge HI0.out) GE202.out); rintro e w19 ⟨rfl, hi, hb, hk⟩; refine ⟨_, rfl, ?_⟩; replace BK202 := zA (KeepBut.blk hk (g' := gb202) (o := .cells #[.int .i64 0, .slice none 0 0] 26 (0, 0)) (zR BK202.out) NB202_0.out (by simp)); replace HK := zA (KeepBut.trans (yB HK.out GW202.out) hk (.inl rfl)); replace HB := zA (hb); replace HI0 := zA (hi); (try clear hb); (try clear hk); (try clear hi)))
     go_meet
     case rel => exact ⟨_, (t212), (t213), (t214), (by first | rfl | (simp; done) | (simp [*]; done)), H', ⟨by have := HJ2.out; first | omega | exact Nat.le_refl _⟩, ⟨by (with_reducible repeat (first | refine zJ ?_ _ | refine zK ?_ | refine zI ?_ _)); exact BK202.out⟩, ⟨Z101.uB HI0.out NB0_202.out⟩, ⟨yB HK.out GW202.out⟩, ⟨zV HB.out (Z101.ge HI0.out) GE202.out⟩⟩
    rw [if_neg c17] at H
    have c17b0 : decide (t209 < 2) = false := decide_eq_false c17
    clear c17
    (first | rw [c17b0] | (simp only [i64_w, i32_w]; rw [c17b0]) | skip)
    have H' := zA H
    clear H
    go_wp2
    go_meet
    case rel => exact ⟨_, (t209), (t210), (t211), (by first | rfl | (simp; done) | (simp [*]; done)), H', ⟨by have := HJ2.out; first | omega | exact Nat.le_refl _⟩, ⟨by (with_reducible repeat (first | refine zJ ?_ _ | refine zK ?_ | refine zI ?_ _)); exact BK202.out⟩, ⟨Z101.uB HI0.out NB0_202.out⟩, ⟨yB HK.out GW202.out⟩, ⟨zV HB.out (Z101.ge HI0.out) GE202.out⟩⟩
   case rest =>
    clear HC15
    try clear c1
    try clear p2
    try clear c5
    try clear c5b0
    try clear p6
    try clear c7
    try clear c8
    try clear c9
    try clear c12
    try clear c17
    try clear c17b0
    try clear hcz13_0
    try clear hcz13_1
    try clear hfz13_0
    try clear hfz13_1
    try clear p2
    obtain ⟨kq, x5_14, x1001_14, x1002_14, rfl, HA, HJ14, BK202, HI0, HK, HB⟩ := hcut
    cases kq with
    | zero => exact absurd HA.out (by simp [spec_l02Draw.j1])
    | succ kj14 =>
     have H := HA.out
     clear HA
     simp only [spec_l02Draw.j1] at H
     obtain ⟨⟨t215, t216⟩, A20, H⟩ := zb H
     try dsimp only at H
     obtain ⟨y219, hy219⟩ : ∃ y_ : List Int, y_ = (([2, 2, 3, 4] : List Int)) := ⟨_, rfl⟩
     replace H : ((spec_l01Pick.f s0_0 x1001_14 x1002_14 y219).bind fun bt222 => (spec_l02Draw.l0 kj14 x5_14 bt222.1 0 s0_0 bt222.2.1 bt222.2.2 t215 t216)) = some (r1, r2, r3, r4) := zy hy219 H
     have Ny219 := zA hy219
     clear hy219
     obtain ⟨⟨t222, t223, t224⟩, A21, H⟩ := zb H
     try dsimp only at H
     have H' := zA H
     clear H
     go_wp2_with (first | ((with_reducible refine gate_callee (f := 94) rfl ?_); refine zO (some 30) Tryd.func94 #[.int .i64 x5_14] ?_; (with_reducible refine (spec_l02Free.calls kj14 x5_14 t215 t216 _ A20.out).mono ?_); rintro e w22 ⟨v217, rfl, ho0, hb⟩; refine ⟨_, rfl, ?_⟩; have HO218 := zA (Kd.R_lower ho0 (keep_size (w := w) (g := g) (row := none) (yB HK.out GW202.out))); replace BK202 := zA (blk_below (g := gb202) (o := .cells #[.int .i64 0, .slice none 0 0] 26 (0, 0)) (zR BK202.out) hb); replace HK := zA (KeepBut.trans (yB HK.out GW202.out) (KeepBut.of_below hb g none) (.inl rfl)); replace HB := zA (below_step (zV HB.out (Z101.ge HI0.out) GE202.out) hb); replace HI0 := zA (Z101.below (Z101.uB HI0.out NB0_202.out) hb); (try clear hb); (try clear ho0)) | ((with_reducible refine gate_dst (N := 32) rfl ?_); refine Kd.R_lit (Kd.int .i64) _ 2 ?hg (N := 32) ?hd (xs := ([2, 2, 3, 4] : List Int)) (inner := [.int .i64 2, .int .i64 2, .int .i64 3, .int .i64 4]) (ok := fun _ => True) (okp := fun _ => True) ?hr ?hp (fun _ hk => hk) trivial (Below.refl _ _) (Nat.le_refl _) (by simp) ?_; (case hd => rfl); (case hg => rfl); (case hr => first | (go_simp; done) | (go_simp; rfl)); (case hp => exact (Reps.one (show Kd.M (Kd.int .i64) _ _ _ 2 [.int .i64 2] from rfl) (Reps.one (show Kd.M (Kd.int .i64) _ _ _ 2 [.int .i64 2] from rfl) (Reps.one (show Kd.M (Kd.int .i64) _ _ _ 3 [.int .i64 3] from rfl) (Reps.one (show Kd.M (Kd.int .i64) _ _ _ 4 [.int .i64 4] from rfl) (Reps.none _ _)))))); intro v220 w23 ho24 hb hg_ hnew_; clear hg_ hnew_; (first | rw [← Ny219.out] at ho24 | (simp only [Int.reduceToNat] at ho24; rw [← Ny219.out] at ho24)); have HO221 := zA (Kd.R_lower (Kd.R_new' ho24 (Kd.R_lt (zP HO218.out))) (keep_size (w := w) (g := g) (row := none) (yB HK.out GW202.out))); replace HO218 := zA (Kd.R_elder' (zP HO218.out) (Kd.R_base ho24) hb); replace BK202 := zA (blk_below (g := gb202) (o := .cells #[.int .i64 0, .slice none 0 0] 26 (0, 0)) (zR BK202.out) hb); replace HK := zA (KeepBut.trans (yB HK.out GW202.out) (KeepBut.of_below hb g none) (.inl rfl)); replace HB := zA (below_step (zV HB.out (Z101.ge HI0.out) GE202.out) hb); replace HI0 := zA (Z101.below (Z101.uB HI0.out NB0_202.out) hb); clear hb ho24; obtain ⟨Ao25, co25, eo25⟩ := Kd.R_slice HO221.out; subst eo25) | ((with_reducible refine gate_callee (f := 81) rfl ?_); refine zO (some 33) Tryd.func81 #[.pointer (some ⟨g, 0, none⟩), .slice Ao25 y219.length co25] ?_; (with_reducible refine (spec_l01Pick.calls g s0_0 x1001_14 x1002_14 _ _ y219 t222 t223 t224 w0 _ ?side1 ?side2 ?side3 ?side4 ?side5 A21.out).mono ?_); (case side1 => exact Z101.uB HI0.out NB0_202.out); (case side2 => exact zV HB.out (Z101.ge HI0.out) GE202.out); (case side3 => exact zS (Kd.R_reads' HO221.out).2.2); (case side4 => exact (Kd.R_reads' HO221.out).2.1); (case side5 => exact far_slice (Z101.own_ne HI0.out HO221.out (by decide))); rintro e w26 ⟨rfl, hi, hb, hk⟩; refine ⟨_, rfl, ?_⟩; replace BK202 := zA (KeepBut.blk hk (g' := gb202) (o := .cells #[.int .i64 0, .slice none 0 0] 26 (0, 0)) (zR BK202.out) NB202_0.out (by simp)); replace HO218 := zA (Kd.R_mono (Kd.R_keep (Z101.apart (show Z101 w0 _ g s0_0 x1001_14 x1002_14 from Z101.uB HI0.out NB0_202.out) (zP HO218.out) (by decide)) hk (fun _ h => h.2)) (fun _ h => h.1)); replace HO221 := zA (Kd.R_mono (Kd.R_keep (Z101.apart (show Z101 w0 _ g s0_0 x1001_14 x1002_14 from Z101.uB HI0.out NB0_202.out) (zP HO221.out) (by decide)) hk (fun _ h => h.2)) (fun _ h => h.1)); replace HK := zA (KeepBut.trans (yB HK.out GW202.out) hk (.inl rfl)); replace HB := zA (hb); replace HI0 := zA (hi); (try clear hb); (try clear hk); (try clear hi)) | ((with_reducible refine gate_dst (N := 6) rfl ?_); refine box_event ?hg (N := 6) ?hd (cs := #[.int .i64 0, .slice none 0 0]) (t := 26) ?hr ?_; (case hd => rfl); (case hg => rfl); (case hr => first | (go_simp; done) | (go_simp; rfl)); intro gb225 hg w27 hbox hb; replace HO218 := zA (Kd.R_below (zP HO218.out) hb); replace HO221 := zA (Kd.R_below (zP HO221.out) hb); replace HB := zA (below_step (zV HB.out (Z101.ge HI0.out) GE202.out) hb); have BK225 := zA (hbox); have GW225 := zA ((by rw [hg]; exact (keep_size (w := w) (g := g) (row := none) (yB HK.out GW202.out)) : w.heap.size ≤ gb225)); have GE225 := zA ((Nat.le_trans HW0.out (by rw [hg]; exact (keep_size (w := w) (g := g) (row := none) (yB HK.out GW202.out)) : w.heap.size ≤ gb225) : w0.heap.size ≤ gb225)); replace HK := zA (KeepBut.trans (yB HK.out GW202.out) (KeepBut.of_below hb g none) (.inl rfl)); have NB202_225 := zA ((by rw [hg]; exact Nat.ne_of_lt (blk_lt (g := gb202) (o := .cells #[.int .i64 0, .slice none 0 0] 26 (0, 0)) (zR BK202.out)) : gb202 ≠ gb225)); have NB225_202 := zA ((by rw [hg]; exact Nat.ne_of_gt (blk_lt (g := gb202) (o := .cells #[.int .i64 0, .slice none 0 0] 26 (0, 0)) (zR BK202.out)) : gb225 ≠ gb202)); replace BK202 := zA (blk_below (g := gb202) (o := .cells #[.int .i64 0, .slice none 0 0] 26 (0, 0)) (zR BK202.out) hb); have NB0_225 := zA ((by rw [hg]; exact Nat.ne_of_lt (Z101.lt (show Z101 w0 _ g s0_0 t223 t224 from Z101.uB HI0.out NB0_202.out)) : g ≠ gb225)); have NB225_0 := zA ((by rw [hg]; exact Nat.ne_of_gt (Z101.lt (show Z101 w0 _ g s0_0 t223 t224 from Z101.uB HI0.out NB0_202.out)) : gb225 ≠ g)); replace HI0 := zA (Z101.below (Z101.uB HI0.out NB0_202.out) hb); clear hb hbox hg; have hnb28 := NB225_202.out; have hnc28 := NB202_225.out; have hnb29 := NB225_0.out; have hnc29 := NB0_225.out; have hcz30_0 : w27.cell? ⟨gb225, 0, none⟩ = some (.int .i64 0) := (blk_cell BK225.out 0).trans rfl; have hcz30_1 : w27.cell? ⟨gb225, 1, none⟩ = some (.slice none 0 0) := (blk_cell BK225.out 1).trans rfl; have hfz30_0 := blk_frozen BK225.out 0; have hfz30_1 := blk_frozen BK225.out 1; obtain ⟨Ao31, co31, eo31⟩ := Kd.R_slice HO218.out; subst eo31))
     go_loopg [8] kj14 (fun kq v8 w' => ∃ (x8_3 : Int) (x1001_3 : Int) (x1002_3 : Int) (x226001_3 : List Int) (u226001 : Value), v8 = .int .i64 x8_3 ∧ Aside0 (spec_l02Draw.l0 kq x5_14 t222 x8_3 s0_0 x1001_3 x1002_3 t215 x226001_3 = some (r1, r2, r3, r4)) ∧ Aside0 (kq ≤ kj14) ∧ Aside0 (Kd.R (Kd.int .i64) 2 w' w.heap.size (fun _ => True) u226001 x226001_3) ∧ Aside0 (w'.heap[gb202]? = some (.cells #[.int .i64 0, (.slice none 0 0)] 26 (0, 0))) ∧ Aside0 (w'.heap[gb225]? = some (.cells #[.int .i64 t215, u226001] 26 (0, 0))) ∧ Aside0 (Z101 w0 w' g s0_0 x1001_3 x1002_3) ∧ Aside0 (KeepBut w w' g none) ∧ Aside0 (Below w0.heap.size w0 w'))
     case atStart => exact ⟨(0), (t223), (t224), (t216), (.slice Ao31 t216.length co31), (by first | rfl | (simp; done) | (simp [*]; done)), H', ⟨Nat.le_refl _⟩, ⟨by (with_reducible repeat (first | apply zF | apply zG | apply zH)); exact Kd.R_mono (Kd.R_far (p := ⟨gb225, 1, none⟩) (Kd.R_far (p := ⟨gb225, 0, none⟩) (Kd.R_types HO218.out BK225.out (by decide)) (fun _ hk => hk.2) (.int .i64 t215)) (fun _ hk => hk.2) (.slice Ao31 t216.length co31)) (fun _ hk => trivial)⟩, ⟨by (with_reducible repeat (first | refine zJ ?_ _ | refine zK ?_ | refine zI ?_ _)); refine blk_far ?_ NB202_225.out _; (with_reducible repeat (first | refine zJ ?_ _ | refine zK ?_ | refine zI ?_ _)); refine blk_far ?_ NB202_225.out _; (with_reducible repeat (first | refine zJ ?_ _ | refine zK ?_ | refine zI ?_ _)); exact BK202.out⟩, ⟨by (with_reducible repeat (first | refine zJ ?_ _ | refine zK ?_ | refine zI ?_ _)); refine blk_put (cs := #[.int .i64 t215, .slice none 0 0]) ?_ 1 _ rfl; (with_reducible repeat (first | refine zJ ?_ _ | refine zK ?_ | refine zI ?_ _)); refine blk_put (cs := #[.int .i64 0, .slice none 0 0]) ?_ 0 _ rfl; (with_reducible repeat (first | refine zJ ?_ _ | refine zK ?_ | refine zI ?_ _)); exact BK225.out⟩, ⟨Z101.uC HI0.out NB0_202.out NB0_225.out⟩, ⟨yC HK.out GW202.out GW225.out⟩, ⟨zW HB.out (Z101.ge HI0.out) GE202.out GE225.out⟩⟩
     case round =>
      clear H'
      try clear c1
      try clear c2
      try clear p2
      try clear c5
      try clear c5b0
      try clear p6
      try clear c7
      try clear c8
      try clear c9
      try clear c12
      try clear c17
      try clear c17b0
      try clear c28
      try clear c29
      try clear hcz13_0
      try clear hcz13_1
      try clear hcz30_0
      try clear hcz30_1
      try clear hfz13_0
      try clear hfz13_1
      try clear hfz30_0
      try clear hfz30_1
      try clear p2
      try clear p6
      obtain ⟨x8_3, x1001_3, x1002_3, x226001_3, u226001, rfl, HA, HK3, HO_226001, BK202, BK225, HI0, HK, HB⟩ := hrel
      cases gk with
      | zero => exact absurd HA.out (by simp [spec_l02Draw.l0])
      | succ k3 =>
       have H := HA.out
       clear HA
       simp only [spec_l02Draw.l0] at H
       by_cases c32 : x8_3 < x5_14
       ·rw [if_pos c32] at H
        have c32b0 : decide (x8_3 < x5_14) = true := decide_eq_true c32
        clear c32
        have H' := zA H
        clear H
        go_wp2
        go_loopg [9] k3 (fun kq v9 w' => ∃ (x9_4 : Int) (x1001_4 : Int) (x1002_4 : Int) (x226001_4 : List Int) (u226001 : Value), v9 = .int .i64 x9_4 ∧ Aside0 (spec_l02Draw.l1 kq x5_14 t222 x8_3 x9_4 s0_0 x1001_4 x1002_4 t215 x226001_4 = some (r1, r2, r3, r4)) ∧ Aside0 (kq ≤ k3) ∧ Aside0 (Kd.R (Kd.int .i64) 2 w' w.heap.size (fun _ => True) u226001 x226001_4) ∧ Aside0 (w'.heap[gb202]? = some (.cells #[.int .i64 0, (.slice none 0 0)] 26 (0, 0))) ∧ Aside0 (w'.heap[gb225]? = some (.cells #[.int .i64 t215, u226001] 26 (0, 0))) ∧ Aside0 (Z101 w0 w' g s0_0 x1001_4 x1002_4) ∧ Aside0 (KeepBut w w' g none) ∧ Aside0 (Below w0.heap.size w0 w'))
        case atStart => exact ⟨(0), (x1001_3), (x1002_3), (x226001_3), (u226001), (by first | rfl | (simp; done) | (simp [*]; done)), H', ⟨Nat.le_refl _⟩, ⟨by (with_reducible repeat (first | apply zF | apply zG | apply zH)); exact HO_226001.out⟩, ⟨by (with_reducible repeat (first | refine zJ ?_ _ | refine zK ?_ | refine zI ?_ _)); exact BK202.out⟩, ⟨by (with_reducible repeat (first | refine zJ ?_ _ | refine zK ?_ | refine zI ?_ _)); exact BK225.out⟩, ⟨Z101.uC HI0.out NB0_202.out NB0_225.out⟩, ⟨yC HK.out GW202.out GW225.out⟩, ⟨zW HB.out (Z101.ge HI0.out) GE202.out GE225.out⟩⟩
        case round =>
         clear H'
         try clear c1
         try clear c2
         try clear p2
         try clear c3
         try clear c5
         try clear c5b0
         try clear p6
         try clear c7
         try clear c8
         try clear c9
         try clear c12
         try clear c17
         try clear c17b0
         try clear c28
         try clear c29
         try clear c32
         try clear c32b0
         try clear hcz13_0
         try clear hcz13_1
         try clear hcz30_0
         try clear hcz30_1
         try clear hfz13_0
         try clear hfz13_1
         try clear hfz30_0
         try clear hfz30_1
         try clear p2
         try clear p6
         obtain ⟨x9_4, x1001_4, x1002_4, x226001_4, u226001, rfl, HA, HK4, HO_226001, BK202, BK225, HI0, HK, HB⟩ := hrel
         cases gk with
         | zero => exact absurd HA.out (by simp [spec_l02Draw.l1])
         | succ k4 =>
          have H := HA.out
          clear HA
          simp only [spec_l02Draw.l1] at H
          by_cases c33 : x9_4 < x8_3
          ·rw [if_pos c33] at H
           have c33b0 : decide (x9_4 < x8_3) = true := decide_eq_true c33
           clear c33
           obtain ⟨⟨t226, t227, t228⟩, A34, H⟩ := zb H
           try dsimp only at H
           by_cases c35 : t226 = 0
           ·rw [if_pos c35] at H
            have c35b0 : (t226 == 0) = true := beq_iff_eq.mpr c35
            have c35b1 : (t226 != 0) = false := bne_eq_false_iff_eq.mpr c35
            clear c35
            obtain ⟨t229, A36, H⟩ := zb H
            try dsimp only at H
            have H' := zA H
            clear H
            go_wp2_with (first | ((with_reducible refine gate_callee (f := 79) rfl ?_); refine zO (some 46) Tryd.func79 #[.pointer (some ⟨g, 0, none⟩), .int .i64 t222] ?_; (with_reducible refine (spec_l01Next.calls g s0_0 x1001_4 x1002_4 t222 t226 t227 t228 w0 _ ?side1 ?side2 A34.out).mono ?_); (case side1 => exact Z101.uC HI0.out NB0_202.out NB0_225.out); (case side2 => exact zW HB.out (Z101.ge HI0.out) GE202.out GE225.out); rintro e w37 ⟨rfl, hi, hb, hk⟩; refine ⟨_, rfl, ?_⟩; replace HO_226001 := zA (Kd.R_mono (Kd.R_keep (Z101.apart (show Z101 w0 _ g s0_0 x1001_4 x1002_4 from Z101.uC HI0.out NB0_202.out NB0_225.out) (zP HO_226001.out) (by decide)) hk (fun _ h => h.2)) (fun _ h => h.1)); replace BK202 := zA (KeepBut.blk hk (g' := gb202) (o := .cells #[.int .i64 0, .slice none 0 0] 26 (0, 0)) (zR BK202.out) NB202_0.out (by simp)); replace BK225 := zA (KeepBut.blk hk (g' := gb225) (o := .cells #[.int .i64 t215, u226001] 26 (0, 0)) (zR BK225.out) NB225_0.out (by simp)); replace HK := zA (KeepBut.trans (yC HK.out GW202.out GW225.out) hk (.inl rfl)); replace HB := zA (hb); replace HI0 := zA (hi); (try clear hb); (try clear hk); (try clear hi); have hnb38 := NB225_202.out; have hnc38 := NB202_225.out; have hnb39 := NB225_0.out; have hnc39 := NB0_225.out; have hcz40_0 : w37.cell? ⟨gb225, 0, none⟩ = some (.int .i64 t215) := (blk_cell BK225.out 0).trans rfl; have hcz40_1 : w37.cell? ⟨gb225, 1, none⟩ = some (u226001) := (blk_cell BK225.out 1).trans rfl; have hfz40_0 := blk_frozen BK225.out 0; have hfz40_1 := blk_frozen BK225.out 1; obtain ⟨Ao41, co41, eo41⟩ := Kd.R_slice HO_226001.out; subst eo41) | ((with_reducible refine gate_callee (f := 122) rfl ?_); refine zO (some 51) Tryd.func122 #[.agg #[.int .i64 t215, .slice Ao41 x226001_4.length co41], .int .i64 x8_3, .int .i64 x9_4] ?_; (with_reducible refine (spec_l02Join.calls t215 (fun k_ => some k_ = (.slice Ao41 x226001_4.length co41 : Value).ownBlock) (.slice Ao41 x226001_4.length co41) x226001_4 x8_3 x9_4 t229 w0 _ ?side1 ?side2 A36.out).mono ?_); (case side1 => exact zW HB.out (Z101.ge HI0.out) GE202.out GE225.out); (case side2 => exact Kd.R_lower (Kd.R_tight rfl HO_226001.out) HL.out); rintro e w42 ⟨rfl, hy0, hb, hkp⟩; refine ⟨_, rfl, ?_⟩; have n0_ := zA (Kd.R_reok rfl (Kd.R_raise (d := (Kd.int .i64)) (b := w0.heap.size) (b' := w.heap.size) (fun _ _ _ _ h_ => h_) hy0 (fun k_ e_ => Or.elim (hy0.1 k_ e_) (fun hs_ => (fun e_ => Kd.R_base HO_226001.out k_ e_.symm) hs_) (fun hn_ => Nat.le_trans (keep_size (w := w) (g := g) (row := none) (yC HK.out GW202.out GW225.out)) hn_))) (fun k_ e_ => HO_226001.out.1 k_ e_)); have n1_ := zA (blk_kept (zR BK202.out) hkp (fun hs_ => (fun e_ => (Kd.R_ne HO_226001.out BK202.out (by decide)) e_) hs_)); have n2_ := zA (blk_kept (zR BK225.out) hkp (fun hs_ => (fun e_ => (Kd.R_ne HO_226001.out BK225.out (by decide)) e_) hs_)); have n3_ := zA (Z101.kept (Z101.uC HI0.out NB0_202.out NB0_225.out) hkp (fun hs_ => (fun e_ => (Z101.own_ne HI0.out HO_226001.out (by decide)) e_) hs_)); have n4_ := zA (Kept.keepG (yC HK.out GW202.out GW225.out) hkp (fun k_ hs_ => (fun e_ => .inr (Kd.R_base HO_226001.out k_ e_.symm)) hs_)); have n5_ := zA (hb); clear HO_226001; clear BK202; clear BK225; clear HI0; clear HK; clear HB; have HO_226001 := n0_; have BK202 := n1_; have BK225 := n2_; have HI0 := n3_; have HK := n4_; have HB := n5_; clear n0_ n1_ n2_ n3_ n4_ n5_; (try clear hb); (try clear hkp); (try clear hy0)))
            go_roundg k4
            case measure => have := HJ2.out; have := HJ14.out; have := HK3.out; have := HK4.out; omega
            case rel => exact ⟨(wrap64 (x9_4 + 1)), (t227), (t228), (t229), (.slice Ao41 x226001_4.length co41), (by first | rfl | (simp; done) | (simp [*]; done)), H', ⟨by have := HJ2.out; have := HJ14.out; have := HK3.out; have := HK4.out; omega⟩, ⟨by (with_reducible repeat (first | apply zF | apply zG | apply zH)); exact HO_226001.out⟩, ⟨by (with_reducible repeat (first | refine zJ ?_ _ | refine zK ?_ | refine zI ?_ _)); exact BK202.out⟩, ⟨by (with_reducible repeat (first | refine zJ ?_ _ | refine zK ?_ | refine zI ?_ _)); exact BK225.out⟩, ⟨Z101.uC HI0.out NB0_202.out NB0_225.out⟩, ⟨yC HK.out GW202.out GW225.out⟩, ⟨zW HB.out (Z101.ge HI0.out) GE202.out GE225.out⟩⟩
           rw [if_neg c35] at H
           have c35b0 : (t226 == 0) = false := beq_eq_false_iff_ne.mpr c35
           have c35b1 : (t226 != 0) = true := bne_iff_ne.mpr c35
           have H' := zA H
           clear H
           go_wp2_with (first | ((with_reducible refine gate_callee (f := 79) rfl ?_); refine zO (some 46) Tryd.func79 #[.pointer (some ⟨g, 0, none⟩), .int .i64 t222] ?_; (with_reducible refine (spec_l01Next.calls g s0_0 x1001_4 x1002_4 t222 t226 t227 t228 w0 _ ?side1 ?side2 A34.out).mono ?_); (case side1 => exact Z101.uC HI0.out NB0_202.out NB0_225.out); (case side2 => exact zW HB.out (Z101.ge HI0.out) GE202.out GE225.out); rintro e w43 ⟨rfl, hi, hb, hk⟩; refine ⟨_, rfl, ?_⟩; replace HO_226001 := zA (Kd.R_mono (Kd.R_keep (Z101.apart (show Z101 w0 _ g s0_0 x1001_4 x1002_4 from Z101.uC HI0.out NB0_202.out NB0_225.out) (zP HO_226001.out) (by decide)) hk (fun _ h => h.2)) (fun _ h => h.1)); replace BK202 := zA (KeepBut.blk hk (g' := gb202) (o := .cells #[.int .i64 0, .slice none 0 0] 26 (0, 0)) (zR BK202.out) NB202_0.out (by simp)); replace BK225 := zA (KeepBut.blk hk (g' := gb225) (o := .cells #[.int .i64 t215, u226001] 26 (0, 0)) (zR BK225.out) NB225_0.out (by simp)); replace HK := zA (KeepBut.trans (yC HK.out GW202.out GW225.out) hk (.inl rfl)); replace HB := zA (hb); replace HI0 := zA (hi); (try clear hb); (try clear hk); (try clear hi)))
           go_roundg k4
           case measure => have := HJ2.out; have := HJ14.out; have := HK3.out; have := HK4.out; omega
           case rel => exact ⟨(wrap64 (x9_4 + 1)), (t227), (t228), (x226001_4), (u226001), (by first | rfl | (simp; done) | (simp [*]; done)), H', ⟨by have := HJ2.out; have := HJ14.out; have := HK3.out; have := HK4.out; omega⟩, ⟨by (with_reducible repeat (first | apply zF | apply zG | apply zH)); exact HO_226001.out⟩, ⟨by (with_reducible repeat (first | refine zJ ?_ _ | refine zK ?_ | refine zI ?_ _)); exact BK202.out⟩, ⟨by (with_reducible repeat (first | refine zJ ?_ _ | refine zK ?_ | refine zI ?_ _)); exact BK225.out⟩, ⟨Z101.uC HI0.out NB0_202.out NB0_225.out⟩, ⟨yC HK.out GW202.out GW225.out⟩, ⟨zW HB.out (Z101.ge HI0.out) GE202.out GE225.out⟩⟩
          rw [if_neg c33] at H
          have c33b0 : decide (x9_4 < x8_3) = false := decide_eq_false c33
          clear c33
          have H' := zA H
          clear H
          go_wp2
          go_roundg k4
          case measure => have := HJ2.out; have := HJ14.out; have := HK3.out; have := HK4.out; omega
          case rel => exact ⟨(wrap64 (x8_3 + 1)), (x1001_4), (x1002_4), (x226001_4), (u226001), (by first | rfl | (simp; done) | (simp [*]; done)), H', ⟨by have := HJ2.out; have := HJ14.out; have := HK3.out; have := HK4.out; omega⟩, ⟨by (with_reducible repeat (first | apply zF | apply zG | apply zH)); exact HO_226001.out⟩, ⟨by (with_reducible repeat (first | refine zJ ?_ _ | refine zK ?_ | refine zI ?_ _)); exact BK202.out⟩, ⟨by (with_reducible repeat (first | refine zJ ?_ _ | refine zK ?_ | refine zI ?_ _)); exact BK225.out⟩, ⟨Z101.uC HI0.out NB0_202.out NB0_225.out⟩, ⟨yC HK.out GW202.out GW225.out⟩, ⟨zW HB.out (Z101.ge HI0.out) GE202.out GE225.out⟩⟩
       rw [if_neg c32] at H
       have c32b0 : decide (x8_3 < x5_14) = false := decide_eq_false c32
       clear c32
       simp only [Option.some.injEq, Prod.mk.injEq] at H
       obtain ⟨rfl, rfl, rfl, rfl⟩ := H
       have hnb44 := NB225_202.out
       have hnc44 := NB202_225.out
       have hnb45 := NB225_0.out
       have hnc45 := NB0_225.out
       have hcz46_0 : wr.cell? ⟨gb225, 0, none⟩ = some (.int .i64 t215) := (blk_cell BK225.out 0).trans rfl
       have hcz46_1 : wr.cell? ⟨gb225, 1, none⟩ = some (u226001) := (blk_cell BK225.out 1).trans rfl
       have hfz46_0 := blk_frozen BK225.out 0
       have hfz46_1 := blk_frozen BK225.out 1
       have hnb47 := NB202_0.out
       have hnc47 := NB0_202.out
       have hcz48_0 : wr.cell? ⟨gb202, 0, none⟩ = some (.int .i64 0) := (blk_cell BK202.out 0).trans rfl
       have hcz48_1 : wr.cell? ⟨gb202, 1, none⟩ = some (.slice none 0 0) := (blk_cell BK202.out 1).trans rfl
       have hfz48_0 := blk_frozen BK202.out 0
       have hfz48_1 := blk_frozen BK202.out 1
       obtain ⟨Ao49, co49, eo49⟩ := Kd.R_slice HO_226001.out
       subst eo49
       go_wp2
       refine bodyPost_ret (results_cell_row rfl _ _ gb202 26 #[.int .i64 t215, .slice Ao49 x226001_3.length co49] (0, 0) _ rfl (by (with_reducible repeat (first | refine zJ ?_ _ | refine zK ?_ | refine zI ?_ _)); refine blk_put (cs := #[.int .i64 t215, .slice none 0 0]) ?_ 1 _ rfl; (with_reducible repeat (first | refine zJ ?_ _ | refine zK ?_ | refine zI ?_ _)); refine blk_put (cs := #[.int .i64 0, .slice none 0 0]) ?_ 0 _ rfl; (with_reducible repeat (first | refine zJ ?_ _ | refine zK ?_ | refine zI ?_ _)); exact BK202.out) Tryd.underlying26 rfl (by kernel_rfl)) rfl ?_
       exact ⟨_, zr, by (with_reducible repeat (first | apply zF | apply zG | apply zH)); exact Kd.R_mono (Kd.R_far (p := ⟨gb202, 1, none⟩) (Kd.R_far (p := ⟨gb202, 0, none⟩) (Kd.R_types HO_226001.out BK202.out (by decide)) (fun _ hk => hk.2) (.int .i64 t215)) (fun _ hk => hk.2) (.slice Ao49 x226001_3.length co49)) (fun _ hk => trivial), by repeat (first | (with_reducible first | exact HI0.out | apply Z101.alloc | apply Z101.drewN | apply Z101.drew | apply Z101.set_1 | apply Z101.set_2 | refine Z101.far ?_ NB0_202.out _ | refine Z101.far ?_ NB0_225.out _) | exact HI0.out), zW HB.out (Z101.ge HI0.out) GE202.out GE225.out, by repeat (first | (with_reducible first | exact HK.out | apply KeepBut.set_ | apply keep_drewN | apply keep_drew | apply keep_alloc | refine keep_far ?_ GW202.out _ | refine keep_far ?_ GW225.out _) | exact HK.out)⟩

end Go.Proofs.YtkiacoilecdepaaDoor.PAll
