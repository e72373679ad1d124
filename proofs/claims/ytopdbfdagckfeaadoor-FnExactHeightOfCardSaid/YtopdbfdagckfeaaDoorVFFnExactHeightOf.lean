import Derived.Test.YtopdbfdagckfeaaDoorQFoata
import Derived.Test.YtopdbfdagckfeaaDoorVAFnExactHeightOf
set_option linter.unusedVariables false
set_option linter.unusedSimpArgs false
/-! Foata forms: both come to the plain one. -/
namespace Go.Proofs.YtopdbfdagckfeaaDoor.PFnExactHeightOf
open Go.RowKit Go.Proofs.YtopdbfdagckfeaaDoorW.PrintWords Go.Proofs.YtopdbfdagckfeaaDoorW.PrintMore Go.Proofs.YtopdbfdagckfeaaDoor.Q

theorem getD_lt {w : List Nat} {n i : Nat} (hw : ∀ x ∈ w, x < n) (hi : i < w.length) : w.getD i 0 < n := by
  rw [List.getD_eq_getElem?_getD, List.getElem?_eq_getElem hi]; exact hw _ (List.getElem_mem hi)
theorem rd_getD (w : List Nat) (i : Nat) : rd (ints w) (i : Int) = ((w.getD i 0 : Nat) : Int) := by
  by_cases h : i < w.length
  · rw [rd_ints w i h]; simp [List.getD_eq_getElem?_getD, h]
  · rw [rd_nat]; simp [ints, List.getD_eq_getElem?_getD, h]
theorem l02Dep_eq (n : Nat) (hn : n ≤ 24) (f : Nat → Nat → Bool) (x : Int) (a b : Nat) (ha : a < n) (hb : b < n) : spec_l02Dep.f x (mat n f) (a : Int) (b : Int) = some (f a b) := by
  unfold spec_l02Dep.f
  have := mk_lt n (f a)
  have := pow24 hn
  rw [if_pos (by omega), if_pos (by simp; omega), rd_mat n f a ha, l01Bit_eq _ b (by omega) (by omega), testBit_mk]
  simp [hb]
theorem l03Heights_ev (n : Nat) (hn : n ≤ 8) (f : Nat → Nat → Bool) (w : List Nat) (hl : w.length ≤ 10000) (hw : ∀ x ∈ w, x < n) : Ev (fun k => spec_l03Heights.f k (n : Int) (mat n f) (ints w)) (ints (hts f w w.length)) := by
  simp only [spec_l03Heights.f]
  have outer : ∀ (d i : Nat), i + d = w.length → Ev (fun k => spec_l03Heights.l0 k (ints w) (ints (hts f w i)) (i : Int) (n : Int) (mat n f)) (ints (hts f w w.length)) := by
    intro d
    induction d with
    | zero =>
      intro i hi
      refine Ev.succ ?_
      simp only [spec_l03Heights.l0]
      refine Ev.neg (by simp; omega) (Ev.const ?_)
      rw [show i = w.length by omega]
    | succ d ih =>
      intro i hi
      refine Ev.succ ?_
      simp only [spec_l03Heights.l0]
      refine Ev.pos (by simp; omega) ?_
      have hb : ∀ k, k ≤ i → hPart f w (hts f w i) i k ≤ 10001 ∧ ∀ j, (hts f w i).getD j 0 ≤ 10000 := by
        intro k hk
        have hj : ∀ j, (hts f w i).getD j 0 ≤ 10000 := fun j => by
          by_cases g : j < i
          · have := ((stepInv f w i).pos j g).2
            have := stp_length_le f w i
            omega
          · rw [List.getD_eq_getElem?_getD, List.getElem?_eq_none (by rw [hts_length]; omega)]; simp
        refine ⟨?_, hj⟩
        rcases (hPart_spec f w (hts f w i) i k).2.2 with e | ⟨j, _, _, e⟩
        · omega
        · have := hj j; omega
      have inner : ∀ (e k : Nat), k + e = i → Ev (fun q => spec_l03Heights.l1 q (ints w) (ints (hts f w i)) (i : Int) ((hPart f w (hts f w i) i k : Nat) : Int) (k : Int) (n : Int) (mat n f)) (ints (hts f w w.length)) := by
        intro e
        induction e with
        | zero =>
          intro k hk
          refine Ev.succ ?_
          simp only [spec_l03Heights.l1]
          refine Ev.neg (by omega) (Ev.pos (by rw [ints_length, hts_length]; omega) ?_)
          rw [w64' (by omega), show k = i by omega, show ints (hts f w i) ++ [((hPart f w (hts f w i) i i : Nat) : Int)] = ints (hts f w (i + 1)) by simp [hts, ints_append, ints]]
          exact ih (i + 1) (by omega)
        | succ e ihe =>
          intro k hk
          refine Ev.succ ?_
          simp only [spec_l03Heights.l1]
          refine Ev.pos (by omega) (Ev.pos (by omega) (Ev.pos (by simp; omega) (Ev.pos (by omega) (Ev.pos (by simp; omega) ?_))))
          rw [rd_getD, rd_getD, l02Dep_eq n (by omega) f _ _ _ (getD_lt hw (by omega)) (getD_lt hw (by omega)), rd_getD]
          have hbk := hb k (by omega)
          have hbj := hbk.2 k
          have hn' : ((hPart f w (hts f w i) i (k + 1) : Nat) : Int) = if f (w.getD k 0) (w.getD i 0) = true ∧ hPart f w (hts f w i) i k < (hts f w i).getD k 0 + 1 then (((hts f w i).getD k 0 : Nat) : Int) + 1 else ((hPart f w (hts f w i) i k : Nat) : Int) := by
            simp only [hPart]
            split <;> simp
          have := ihe (k + 1) (by omega)
          rw [hn'] at this
          refine Ev.some_bind ?_
          refine Ev.ite (fun c => ?_) (fun c => ?_)
          · refine Ev.pos (by rw [ints_length, hts_length]; omega) ?_
            rw [w64' (by omega)]
            refine Ev.ite (fun g => ?_) (fun g => ?_)
            · rw [if_pos ⟨c, by omega⟩] at this
              rw [w64' (by omega)]
              exact this
            · rw [if_neg (fun h => g (by have := h.2; omega))] at this
              rw [w64' (by omega)]
              exact this
          · rw [if_neg (fun h => c h.1)] at this
            rw [w64' (by omega)]
            exact this
      exact inner i 0 (by omega)
  exact outer w.length 0 (by omega)
theorem ints_set (l : List Nat) (i v : Nat) : (ints l).set i (v : Int) = ints (l.set i v) := by simp [ints, List.map_set]
theorem l03Foata_ev (n : Nat) (hn : n ≤ 8) (f : Nat → Nat → Bool) (w : List Nat) (hl : w.length ≤ 10000) (hw : ∀ x ∈ w, x < n) : Ev (fun k => spec_l03Foata.f k (n : Int) (mat n f) (ints w)) (ints (foataP f w)) := by
  simp only [spec_l03Foata.f]
  refine Ev.bind (l03Heights_ev n hn f w hl hw) ?_
  have outer : ∀ (d i : Nat), i + d = w.length → Ev (fun k => spec_l03Foata.l0 k (ints w) (ints (stp f w i)) (ints (hts f w w.length)) (i : Int)) (ints (foataP f w)) := by
    intro d
    induction d with
    | zero =>
      intro i hi
      refine Ev.succ ?_
      simp only [spec_l03Foata.l0]
      refine Ev.neg (by simp; omega) (Ev.const ?_)
      rw [foataP, show i = w.length by omega]
    | succ d ih =>
      intro i hi
      refine Ev.succ ?_
      simp only [spec_l03Foata.l0]
      refine Ev.pos (by simp; omega) ?_
      have hlen := stp_length_le f w i
      have hsame : ∀ e, i + 1 + e ≤ w.length → (hts f w (i + 1 + e)).getD i 0 = (hts f w (i + 1)).getD i 0 := by
        intro e
        induction e with
        | zero => intro _; rfl
        | succ e ihe => intro he; rw [← Nat.add_assoc, hts_prefix f w (i + 1 + e) i (by omega)]; exact ihe (by omega)
      have hH : rd (ints (hts f w w.length)) (i : Int) = (((hts f w (i + 1)).getD i 0 : Nat) : Int) := by
        rw [rd_getD]
        have := hsame (w.length - (i + 1)) (by omega)
        rw [show i + 1 + (w.length - (i + 1)) = w.length by omega] at this
        rw [this]
      have hHb : 1 ≤ (hts f w (i + 1)).getD i 0 ∧ (hts f w (i + 1)).getD i 0 ≤ i + 1 := by
        have := (stepInv f w (i + 1)).pos i (by omega)
        have := stp_length_le f w (i + 1)
        omega
      have hstp : stp f w (i + 1) = stepF (stp f w i) ((hts f w (i + 1)).getD i 0) (w.getD i 0) := rfl
      have hbd := stp_lt f w n hw i (by omega)
      generalize (hts f w (i + 1)).getD i 0 = h at *
      have inner : ∀ (e : Nat) (z : Nat), (stp f w i).length + z + e = max h (stp f w i).length → Ev (fun k => spec_l03Foata.l1 k (ints w) (ints (stp f w i ++ List.replicate z 0)) (ints (hts f w w.length)) (i : Int)) (ints (foataP f w)) := by
        intro e
        induction e with
        | zero =>
          intro z hz
          refine Ev.succ ?_
          simp only [spec_l03Foata.l1]
          rw [hH]
          refine Ev.pos (by omega) (Ev.pos (by simp [hts_length]; omega) (Ev.neg (by simp; omega) ?_))
          have e1 : wrap64 ((h : Int) - 1) = ((h - 1 : Nat) : Int) := (w64' (by omega)).trans (by omega)
          rw [e1]
          refine Ev.pos (by omega) (Ev.pos (by simp; omega) (Ev.pos (by simp; omega) ?_))
          have hx := getD_lt hw (show i < w.length by omega)
          rw [rd_getD, l01One_eq _ (by omega), rd_getD]
          refine Ev.some_bind ?_
          have h0 : (stp f w i ++ List.replicate z 0).getD (h - 1) 0 < 2 ^ n := by
            have := hbd (h - 1)
            simp only [List.getD_eq_getElem?_getD] at this ⊢
            by_cases g : h - 1 < (stp f w i).length
            · rwa [List.getElem?_append_left g]
            · rw [List.getElem?_append_right (by omega), List.getElem?_replicate]
              have := Nat.two_pow_pos n
              split <;> simpa using this
          have h1 : (2 : Nat) ^ n ≤ 2 ^ 24 := pow24 (by omega)
          have h2 : (2 : Nat) ^ (w.getD i 0) ≤ 2 ^ 24 := pow24 (by omega)
          rw [b_or _ _ (by omega) (by omega), w64' (by omega), Int.toNat_natCast, ints_set]
          have e2 : (stp f w i ++ List.replicate z 0).set (h - 1) ((stp f w i ++ List.replicate z 0).getD (h - 1) 0 ||| 2 ^ (w.getD i 0)) = stp f w (i + 1) := by
            rw [hstp]
            simp only [stepF]
            rw [show h - (stp f w i).length = z by omega]
          rw [e2]
          exact ih (i + 1) (by omega)
        | succ e ihe =>
          intro z hz
          refine Ev.succ ?_
          simp only [spec_l03Foata.l1]
          rw [hH]
          refine Ev.pos (by omega) (Ev.pos (by simp [hts_length]; omega) (Ev.pos (by simp; omega) (Ev.pos (by simp; omega) ?_)))
          have := ihe (z + 1) (by omega)
          rw [show ints (stp f w i ++ List.replicate (z + 1) 0) = ints (stp f w i ++ List.replicate z 0) ++ [0] by rw [List.replicate_succ', ← List.append_assoc, ints_append]; rfl] at this
          exact this
      have := inner (max h (stp f w i).length - (stp f w i).length) 0 (by omega)
      simpa using this
  exact outer w.length 0 (by omega)
theorem foata_ev (n : Nat) (hn : n ≤ 8) (f : Nat → Nat → Bool) (hs : ∀ a b, f a b = f b a) (w : List Nat) (hl : w.length ≤ 10000) (hw : ∀ x ∈ w, x < n) : Ev (fun k => impl_ties_foata.f k (mat n f) (ints w)) (ints (foataP f w)) := by
  simp only [impl_ties_foata.f]
  have outer : ∀ (d i : Nat), i + d = w.length → Ev (fun k => impl_ties_foata.l0 k (mat n f) (ints (stp f w i)) (ints w) (w.length : Int) (i : Int)) (ints (foataP f w)) := by
    intro d
    induction d with
    | zero =>
      intro i hi
      refine Ev.succ ?_
      simp only [impl_ties_foata.l0]
      refine Ev.neg (by omega) (Ev.const ?_)
      rw [foataP, show i = w.length by omega]
    | succ d ih =>
      intro i hi
      refine Ev.succ ?_
      simp only [impl_ties_foata.l0]
      refine Ev.pos (by omega) (Ev.pos (by omega) (Ev.pos (by simp; omega) ?_))
      have hx := getD_lt hw (show i < w.length by omega)
      have hlen := stp_length_le f w i
      have hbd := stp_lt f w n hw i (by omega)
      have hstp : stp f w (i + 1) = stepF (stp f w i) (hPart f w (hts f w i) i i) (w.getD i 0) := by simp only [stp]; rw [hts_last]
      have seen := height_seen f w hs n hw i (by omega)
      have ih' := ih (i + 1) (by omega)
      have h1 : (2 : Nat) ^ n ≤ 2 ^ 24 := pow24 (by omega)
      have h2 : (2 : Nat) ^ (w.getD i 0) ≤ 2 ^ 24 := pow24 (by omega)
      have hm := mk_lt n (f (w.getD i 0))
      rw [rd_getD]
      -- from place l on nothing meets; what follows at l
      have fin : ∀ l, l ≤ (stp f w i).length → hPart f w (hts f w i) i i = l + 1 → Ev (fun k => if (l : Int) = ((ints (stp f w i)).length : Int) then (if (ints (stp f w i)).length < 17592186044416 then ((some (ints (stp f w i) ++ [0] : List Int)).bind fun y => (if 0 ≤ (l : Int) then (if (l : Int) < (y.length : Int) then ((impl_one.f ((w.getD i 0 : Nat) : Int)).bind fun t => (impl_ties_foata.l0 k (mat n f) (y.set ((l : Int) : Int).toNat (Go.bits .or .i64 (rd y (l : Int)) t)) (ints w) (w.length : Int) (wrap64 ((i : Int) + 1)))) else none) else none)) else none) else (if 0 ≤ (l : Int) then (if (l : Int) < ((ints (stp f w i)).length : Int) then ((impl_one.f ((w.getD i 0 : Nat) : Int)).bind fun t => (impl_ties_foata.l0 k (mat n f) ((ints (stp f w i)).set ((l : Int) : Int).toNat (Go.bits .or .i64 (rd (ints (stp f w i)) (l : Int)) t)) (ints w) (w.length : Int) (wrap64 ((i : Int) + 1)))) else none) else none)) (ints (foataP f w)) := by
        intro l hl hh
        rw [hstp, hh] at ih'
        simp only [stepF, Nat.add_sub_cancel] at ih'
        rw [one_eq _ (by omega)]
        refine Ev.ite (fun c => ?_) (fun c => ?_)
        · have el : l = (stp f w i).length := by rw [ints_length] at c; omega
          refine Ev.pos (by simp; omega) (Ev.some_bind (Ev.pos (by omega) (Ev.pos (by simp; omega) (Ev.some_bind ?_))))
          have e0 : ints (stp f w i) ++ [0] = ints (stp f w i ++ [0]) := by rw [ints_append]; rfl
          rw [e0, rd_getD, w64' (by omega), Int.toNat_natCast]
          have hz : (stp f w i ++ [0]).getD l 0 = 0 := by subst el; simp [List.getD_eq_getElem?_getD]
          rw [hz, b_or _ _ (by decide) (by omega), show (ints (stp f w i ++ [0])).set l (((0 ||| 2 ^ (w.getD i 0) : Nat)) : Int) = ints ((stp f w i ++ [0]).set l (0 ||| 2 ^ (w.getD i 0))) by simp [ints, List.map_set]]
          rw [show l + 1 - (stp f w i).length = 1 by omega, show List.replicate 1 0 = [0] from rfl, hz] at ih'
          exact ih'
        · have el : l < (stp f w i).length := by
            rw [ints_length] at c; omega
          refine Ev.pos (by omega) (Ev.pos (by simp; omega) (Ev.some_bind ?_))
          have hb := hbd l
          rw [rd_getD, w64' (by omega), Int.toNat_natCast, b_or _ _ (by omega) (by omega), show (ints (stp f w i)).set l ((((stp f w i).getD l 0 ||| 2 ^ (w.getD i 0) : Nat)) : Int) = ints ((stp f w i).set l ((stp f w i).getD l 0 ||| 2 ^ (w.getD i 0))) by simp [ints, List.map_set]]
          rw [show l + 1 - (stp f w i).length = 0 by omega, List.replicate_zero, List.append_nil] at ih'
          exact ih'
      have inner : ∀ l, l ≤ (stp f w i).length → (∀ s, l ≤ s → s < (stp f w i).length → (stp f w i).getD s 0 &&& mk n (f (w.getD i 0)) = 0) → Ev (fun k => impl_ties_foata.l1 k (mat n f) (ints (stp f w i)) ((w.getD i 0 : Nat) : Int) (l : Int) (ints w) (w.length : Int) (i : Int)) (ints (foataP f w)) := by
        intro l
        induction l with
        | zero =>
          intro hl hz
          refine Ev.succ ?_
          simp only [impl_ties_foata.l1]
          refine Ev.neg (by omega) ?_
          exact fin 0 hl (seen 0 hl (.inl rfl) hz)
        | succ l ihl =>
          intro hl hz
          refine Ev.succ ?_
          simp only [impl_ties_foata.l1]
          have e1 : wrap64 (((l + 1 : Nat) : Int) - 1) = (l : Int) := (w64' (by omega)).trans (by omega)
          rw [e1]
          refine Ev.pos (by omega) (Ev.pos (by omega) (Ev.pos (by rw [ints_length]; omega) (Ev.pos (by omega) (Ev.pos (by rw [mat_length]; omega) ?_))))
          have hb := hbd l
          rw [rd_getD (stp f w i) l, rd_mat n f _ hx, b_and _ _ (by omega) (by omega)]
          refine Ev.ite (fun c => ?_) (fun c => ?_)
          · refine ihl (by omega) (fun s h3 h4 => ?_)
            by_cases e : s = l
            · subst e; exact Int.ofNat.inj c
            · exact hz s (by omega) h4
          · exact fin (l + 1) hl (seen (l + 1) hl (.inr (fun h => c (by rw [Nat.add_sub_cancel] at h; rw [h]; rfl))) hz)
      have := inner (stp f w i).length (Nat.le_refl _) (by intro s h3 h4; omega)
      rw [← ints_length (stp f w i)] at this
      exact this
  have := outer w.length 0 (by omega)
  rw [ints_length]
  exact this
end Go.Proofs.YtopdbfdagckfeaaDoor.PFnExactHeightOf
