-- Printed by a program of the session (wip/tools/pgen.py) out of the translation. Not trusted: Lean checks it.
import Derived.Test.YthgapkbkhoeleaaDoorPAllx0
import Derived.Test.YthgapkbkhoeleaaDoorPAllx6
namespace Go.Proofs.YthgapkbkhoeleaaDoor.PAll
open Go.RowKit Go.Proofs.YthgapkbkhoeleaaDoor.T Go.Proofs.YthgapkbkhoeleaaDoorW.PrintWords Go.Proofs.YthgapkbkhoeleaaDoorW.PrintLast Go.Proofs.YthgapkbkhoeleaaDoorW.PrintMore
attribute [local go_sem] max2_int min2_int max_two min_two max_three min_three max_four min_four   -- for this text's walks alone
set_option linter.unusedVariables false
set_option linter.unusedSimpArgs false

/-! ### impl_ties_apart: function 129: a contract of our own -/
def impl_ties_apart.f (k : Nat) (l0 : List Int) (l1 l2 : List Int) : Option Bool :=
 (impl_maskOf.f k l2).bind fun m => if l1.all (fun a => decide (0 ≤ a ∧ a < (l0.length : Int))) = true then some (l1.all fun a => decide (Go.bits .and .i64 (rd l0 a) m = 0)) else none
set_option maxHeartbeats 2000000 in
set_option maxRecDepth 100000 in
theorem apart_pred (k : Nat) (A0 : Option Addr) (ct : Nat) (T : List Int) (A2 : Option Addr) (cv : Nat) (v : List Int) (m : Int) (B : Nat) (w : World) (hB : B + 1 < w.heap.size)
  (hD : (Kd.int .i64).C w A0 T.length T) (hV : (Kd.int .i64).C w A2 v.length v) (hcv : v.length ≤ cv) (h0 : w.cell? ⟨B, 0, none⟩ = some (.slice A0 T.length ct)) (h1 : w.cell? ⟨B + 1, 0, none⟩ = some (.slice A2 v.length cv))
  (hm : impl_maskOf.f k v = some m) (l : List Int) (hl : ∀ x ∈ l, 0 ≤ x ∧ x < (T.length : Int)) :
  PredOf 180 #[.pointer (some ⟨B, 0, none⟩), .pointer (some ⟨B + 1, 0, none⟩)] (fun x => !decide (Go.bits .and .i64 (rd T x) m = 0)) w l := fun W x hx hb => by
 obtain ⟨hx0, hx1⟩ := hl x hx
 clear hl hx
 have HM := zA hm
 have W1 := zA (zD (kW W.heap.size W))
 have hb1 := kQ hb W1.out
 have HV := zA (kO hV hb1)
 have HD := zA (kO hD hb1)
 have K0 := zA ((hb1.cell (p := ⟨B, 0, none⟩) (by simp; omega)).trans h0)
 have K1 := zA ((hb1.cell (p := ⟨B + 1, 0, none⟩) (by simpa using hB)).trans h1)
 clear h0 h1 hb hb1 hV hD hm
 obtain ⟨ad, e0, hcell⟩ := Kd.at_int HD.out x hx0 hx1
 cases e0
 have K2 := zA hcell
 clear hcell HD
 have p1 : (decide (0 ≤ x)) = true := by simpa using hx0
 have p2 : (decide (x < (T.length : Int))) = true := by simpa using hx1
 show Calls Tryd.prog 180 #[.int .i64 x, .pointer (some ⟨B, 0, none⟩), .pointer (some ⟨B + 1, 0, none⟩)] W _
 go_enter Tryd.func180, Tryd.ntmps180
 go_wp2
 refine start_ (n := 9) (S := fun w' => w'.cell? ⟨B, 0, none⟩ = some (.slice (some ad) T.length ct) ∧ w'.cell? ⟨B + 1, 0, none⟩ = some (.slice A2 v.length cv) ∧ w'.cell? (ad.add x.toNat) = some (.int .i64 (rd T x))) (ds := []) #[false, false, false, false, false, false, false, false, false] (by kernel_rfl) rfl rfl ⟨K0.out, K1.out, K2.out⟩ (fun hHeld => ?_)
 refine pure_ (i := 1) (N := some 6) (v := ?_) (a' := ?_) #[false, true, false, false, false, false, false, false, false] rfl rfl (by kernel_rfl) (fun _ _ _ h => h) (Or.inl ⟨by rfl, ?_⟩) ?_ ?_
 rotate_left
 ·intro w'
  go_simp
  with_reducible rfl
 rotate_left
 ·simp only [Act.put, zL, zM, zN, i64_w, i32_w]
  rfl
 refine take_ (i := 0) (N := some 5) (v := ?_) (a' := ?_) #[true, true, false, false, false, false, false, false, false] rfl rfl (by kernel_rfl) (fun _ _ _ h => h) (Or.inl ⟨by rfl, ?_⟩) hHeld ?_ ?_
 rotate_left
 ·rintro w' ⟨s0, s1, s2⟩
  go_simp
  with_reducible rfl
 rotate_left
 ·simp only [Act.put, zL, zM, zN, i64_w, i32_w]
  rfl
 refine pure_ (i := 2) (N := some 7) (v := ?_) (a' := ?_) #[true, true, true, false, false, false, false, false, false] rfl rfl (by kernel_rfl) (fun _ _ _ h => h) (Or.inl ⟨by rfl, ?_⟩) ?_ ?_
 rotate_left
 ·intro w'
  go_simp
  with_reducible rfl
 rotate_left
 ·simp only [Act.put, zL, zM, zN, i64_w, i32_w]
  rfl
 refine take_ (i := 3) (N := some 8) (v := ?_) (a' := ?_) #[true, true, true, true, false, false, false, false, false] rfl rfl (by kernel_rfl) (fun _ _ _ h => h) (Or.inl ⟨by rfl, ?_⟩) hHeld ?_ ?_
 rotate_left
 ·rintro w' ⟨s0, s1, s2⟩
  go_simp
  with_reducible rfl
 rotate_left
 ·simp only [Act.put, zL, zM, zN, i64_w, i32_w]
  rfl
 refine take_ (i := 4) (N := some 9) (v := ?_) (a' := ?_) #[true, true, true, true, true, false, false, false, false] rfl rfl (by kernel_rfl) (fun _ _ _ h => h) (Or.inl ⟨by rfl, ?_⟩) hHeld ?_ ?_
 rotate_left
 ·rintro w' ⟨s0, s1, s2⟩
  go_simp
  with_reducible rfl
 rotate_left
 ·simp only [Act.put, zL, zM, zN, i64_w, i32_w]
  rfl
 refine one_ (i := 5) (N := some 10) #[true, true, true, true, true, true, false, false, false] rfl rfl (by kernel_rfl) (by decide) (fun K hK => ?_)
 refine goes_ Tryd.func150 (by kernel_rfl) rfl #[.slice A2 v.length cv] (by rfl) rfl rfl (by simp only [List.map_toArray, List.map_cons, List.map_nil]; rfl) ?_
 with_reducible refine (impl_maskOf.calls k A2 cv v m _ HV.out hcv HM.out).mono ?_
 rintro e w3 ⟨rfl, hd⟩
 refine ⟨_, rfl, ?_⟩
 have hb2 := Drawn0.below hd
 clear hd
 refine hK.out _ _ ⟨pw_cell_below hb2 K0.out, pw_cell_below hb2 K1.out, pw_cell_below hb2 K2.out⟩ (fun hHeld => ?_)
 clear hK K
 refine norm_ (a' := ?_) ?_ ?_
 rotate_left
 ·show Act.put _ (some 10) _ = _
  simp only [Act.put, zL, zM, zN, i64_w, i32_w]
  rfl
 refine pure_ (i := 6) (N := some 11) (v := ?_) (a' := ?_) #[true, true, true, true, true, true, true, false, false] rfl rfl (by kernel_rfl) (fun _ _ _ h => h) (Or.inl ⟨by rfl, ?_⟩) ?_ ?_
 rotate_left
 ·intro w'
  go_simp
  with_reducible rfl
 rotate_left
 ·simp only [Act.put, zL, zM, zN, i64_w, i32_w]
  rfl
 refine pure_ (i := 7) (N := some 12) (v := ?_) (a' := ?_) #[true, true, true, true, true, true, true, true, false] rfl rfl (by kernel_rfl) (fun _ _ _ h => h) (Or.inl ⟨by rfl, ?_⟩) ?_ ?_
 rotate_left
 ·intro w'
  go_simp
  with_reducible rfl
 rotate_left
 ·simp only [Act.put, zL, zM, zN, i64_w, i32_w]
  rfl
 refine pure_ (i := 8) (N := some 4) (v := ?_) (a' := ?_) #[true, true, true, true, true, true, true, true, true] rfl rfl (by kernel_rfl) (fun _ _ _ h => h) (Or.inl ⟨by rfl, ?_⟩) ?_ ?_
 rotate_left
 ·intro w'
  go_simp
  with_reducible rfl
 rotate_left
 ·simp only [Act.put, zL, zM, zN, i64_w, i32_w]
  rfl
 refine done_ (by kernel_rfl) ?_
 go_wp2
 go_ret
 exact ⟨rfl, kQ W1.out hb2⟩
set_option maxRecDepth 100000 in
theorem impl_ties_apart.calls (k : Nat) (A0 : Option Addr) (c0 : Nat) (l0 : List Int) (A1 : Option Addr) (c1 : Nat) (l1 : List Int) (A2 : Option Addr) (c2 : Nat) (l2 : List Int) (r : Bool) (w : World) (hr0 : Kd.C (Kd.int .i64) w A0 l0.length l0) (hc0 : l0.length ≤ c0) (hr1 : Kd.C (Kd.int .i64) w A1 l1.length l1) (hc1 : l1.length ≤ c1) (hr2 : Kd.C (Kd.int .i64) w A2 l2.length l2) (hc2 : l2.length ≤ c2) (h : impl_ties_apart.f k l0 l1 l2 = some r) :
  Calls Tryd.prog 129 #[.slice A0 l0.length c0, .slice A1 l1.length c1, .slice A2 l2.length c2] w fun e w' => e = .returned (.bool r) ∧ Below w.heap.size w w' := by
 obtain ⟨m, hm, hr⟩ := Option.bind_eq_some_iff.mp h
 clear h
 by_cases hall : l1.all (fun a => decide (0 ≤ a ∧ a < (l0.length : Int))) = true
 ·rw [if_pos hall] at hr
  have hW : Below w.heap.size w ((w.alloc (.cells #[.slice A0 l0.length c0] 77)).alloc (.cells #[.slice A2 l2.length c2] 22)) := zB (zB (kW _ w) _) _
  have eg : ∀ args w, (callFunc 180 args).run Tryd.prog w = .ok (.enter 180 args) w := enters_fn Tryd.func180 (by kernel_rfl) rfl
  have hcon := containsFunc_any A1 c1 l1 180 #[.pointer (some ⟨w.heap.size, 0, none⟩), .pointer (some ⟨w.heap.size + 1, 0, none⟩)] (fun x => !decide (Go.bits .and .i64 (rd l0 x) m = 0)) _ eg
   (apart_pred k A0 c0 l0 A2 c2 l2 m w.heap.size ((w.alloc (.cells #[.slice A0 l0.length c0] 77)).alloc (.cells #[.slice A2 l2.length c2] 22)) (by simp) (kO hr0 hW) (kO hr2 hW) hc2 (by simp) (by simp) hm l1 (fun x hx => by simpa using List.all_eq_true.1 hall x hx)) (kO hr1 hW)
  have hr' : (!(l1.any fun x => !decide (Go.bits .and .i64 (rd l0 x) m = 0))) = r := by
   rw [← Option.some.inj hr, List.all_eq_not_any_not]
  clear hr hr0 hr1 hr2 hc0 hc1 hc2 eg hm hall
  generalize (l1.any fun x => !decide (Go.bits .and .i64 (rd l0 x) m = 0)) = b at hcon hr'
  subst hr'
  replace hW := zA hW
  replace hcon := zA hcon
  go_enter Tryd.func129, Tryd.ntmps129
  go_wp2_with fail
  refine hcon.out.mono ?_
  rintro e w' ⟨rfl, hb⟩
  replace hb := zA hb
  clear hcon
  go_wp2
  go_ret
  exact ⟨rfl, kQ hW.out hb.out⟩
 rw [if_neg hall] at hr
 cases hr

end Go.Proofs.YthgapkbkhoeleaaDoor.PAll
