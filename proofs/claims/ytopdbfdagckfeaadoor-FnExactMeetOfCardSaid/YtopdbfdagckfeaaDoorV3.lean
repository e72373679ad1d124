import Derived.Test.YtopdbfdagckfeaaDoorPAllx4
import Derived.Test.YtopdbfdagckfeaaDoorV0
import Derived.Test.YtopdbfdagckfeaaDoorQBase
import Derived.Test.YtopdbfdagckfeaaDoorQMeet
import Derived.Test.YtopdbfdagckfeaaDoorQTrace
set_option linter.unusedVariables false
set_option linter.unusedSimpArgs false
namespace Go.Proofs.YtopdbfdagckfeaaDoor.PAll
open Go.RowKit Go.Proofs.YtopdbfdagckfeaaDoorW.PrintWords Go.Proofs.YtopdbfdagckfeaaDoorW.PrintMore Go.Proofs.YtopdbfdagckfeaaDoor.Q
theorem l01Own_eq (l : List Int) (h : l.length < 17592186044416) : spec_l01Own.f l = some l := by
  unfold spec_l01Own.f
  simp only [Option.bind_some, List.length_nil, List.nil_append]
  rw [if_pos (by omega)]
theorem l03Without_eq (w : List Nat) (hl : w.length ≤ 1000000) (i : Nat) (hi : i < w.length) : spec_l03Without.f (ints w) (i : Int) = some (ints (w.eraseIdx i)) := by
  unfold spec_l03Without.f
  rw [if_pos (by omega), if_pos (by simp; omega), w64' (by omega), Int.toNat_natCast, l01Own_eq _ (by simp; omega)]
  simp only [Option.bind_some]
  rw [if_pos (by omega), if_pos (by simp; omega), show ((i : Int) + 1).toNat = i + 1 by omega, if_pos (by simp; omega), ← ints_eraseIdx, List.eraseIdx_eq_take_drop_succ]
theorem l03Without_first (f : Nat → Nat → Bool) (w : List Nat) (hl : w.length ≤ 1000000) (a : Nat) (h : isFirst f w a = true) : spec_l03Without.f (ints w) (fIdx f w a) = some (ints (w.erase a)) := by
  have hm := isFirst_mem f h
  unfold fIdx
  rw [if_pos h, l03Without_eq w hl _ (idxOf_lt hm), erase_idx hm]
theorem Index_l0 (a : Nat) : ∀ (suf pre : List Nat), (pre ++ suf).length ≤ 1000000 →
    Ev (fun k => slices_Index_int64_int64.l0 k (ints (pre ++ suf)) (a : Int) ((pre ++ suf).length : Int) (pre.length : Int)) (if a ∈ suf then ((pre.length + suf.idxOf a : Nat) : Int) else -1) := by
  intro suf
  induction suf with
  | nil =>
    intro pre hl
    refine Ev.succ ?_
    simp only [slices_Index_int64_int64.l0]
    exact Ev.neg (by simp) (Ev.const rfl)
  | cons b suf ih =>
    intro pre hl
    simp only [List.length_append, List.length_cons] at hl
    refine Ev.succ ?_
    simp only [slices_Index_int64_int64.l0]
    refine Ev.pos (by simp; omega) (Ev.pos (by omega) (Ev.pos (by simp; omega) ?_))
    rw [rd_mid]
    refine Ev.ite (fun c => ?_) (fun c => ?_)
    · obtain rfl := Int.ofNat.inj c
      refine Ev.const ?_
      simp
    · have c' : ¬ b = a := fun e => c (by rw [e])
      rw [w64' (by omega)]
      have := ih (pre ++ [b]) (by simp; omega)
      simp only [List.append_assoc, List.cons_append, List.nil_append, List.length_append, List.length_cons, List.length_nil] at this ⊢
      refine Ev.val this ?_
      rw [idxOf_tail _ c']
      have e1 : a ∈ b :: suf ↔ a ∈ suf := by simp [List.mem_cons, show ¬ a = b from fun e => c' e.symm]
      by_cases h : a ∈ suf
      · rw [if_pos h, if_pos (e1.2 h)]
        congr 1
        omega
      · rw [if_neg h, if_neg (fun k => h (e1.1 k))]
theorem Index_ev (w : List Nat) (hl : w.length ≤ 1000000) (a : Nat) : Ev (fun k => slices_Index_int64_int64.f k (ints w) (a : Int)) (if a ∈ w then ((w.idxOf a : Nat) : Int) else -1) := by
  simp only [slices_Index_int64_int64.f]
  have := Index_l0 a w [] hl
  simpa using this
theorem withoutFirst_ev (w : List Nat) (hl : w.length ≤ 1000000) (a : Nat) (h : a ∈ w) : Ev (fun k => impl_withoutFirst.f k (ints w) (a : Int)) (ints (w.erase a)) := by
  simp only [impl_withoutFirst.f]
  have hi := idxOf_lt h
  refine Ev.bind (Index_ev w hl a) ?_
  rw [if_pos h]
  refine Ev.pos (by omega) (Ev.pos (by simp; omega) ?_)
  rw [w64' (by omega)]
  refine Ev.pos (by omega) (Ev.pos (by simp; omega) ?_)
  rw [Int.toNat_natCast, show ((w.idxOf a : Int) + 1).toNat = w.idxOf a + 1 by omega]
  refine Ev.const ?_
  unfold slices_Concat_int64_int64.f
  rw [if_pos (by simp; omega), ← erase_idx h, ← ints_eraseIdx, List.eraseIdx_eq_take_drop_succ]
  simp
end Go.Proofs.YtopdbfdagckfeaaDoor.PAll
