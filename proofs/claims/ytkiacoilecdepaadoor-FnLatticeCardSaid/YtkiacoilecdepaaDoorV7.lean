import Derived.Test.YtkiacoilecdepaaDoorPAllx11
import Derived.Test.YtkiacoilecdepaaDoorV0
import Derived.Test.YtkiacoilecdepaaDoorV1
import Derived.Test.YtkiacoilecdepaaDoorQBase
import Derived.Test.YtkiacoilecdepaaDoorQMeet
import Derived.Test.YtkiacoilecdepaaDoorQRev
import Derived.Test.YtkiacoilecdepaaDoorQTrace
set_option linter.unusedVariables false
set_option linter.unusedSimpArgs false
namespace Go.Proofs.YtkiacoilecdepaaDoor.PAll
open Go.RowKit Go.Proofs.YtkiacoilecdepaaDoorW.PrintWords Go.Proofs.YtkiacoilecdepaaDoorW.PrintMore Go.Proofs.YtkiacoilecdepaaDoor.Q
theorem l05Independent_ev (n : Nat) (hn : n ≤ 24) (f : Nat → Nat → Bool) (u v : List Nat) (hl : u.length ≤ 1000000) (hv : v.length ≤ 1000000) (hu : ∀ x ∈ u, x < n) (hw : ∀ x ∈ v, x < n) : Ev (fun k => spec_l05Independent.f k (n : Int) (mat n f) (ints u) (ints v)) (apartP f u v) := by
 simp only [spec_l05Independent.f]
 have outer : ∀ (suf pre : List Nat), pre ++ suf = u → Ev (fun k => spec_l05Independent.l0 k (ints u) (ints v) (pre.length : Int) (n : Int) (mat n f)) (apartP f suf v) := by
  intro suf
  induction suf with
  | nil =>
   intro pre hp
   refine Ev.succ ?_
   simp only [spec_l05Independent.l0]
   refine Ev.neg (by simp [← hp]) (Ev.const rfl)
  | cons a suf ih =>
   intro pre hp
   have hlen : pre.length + suf.length + 1 = u.length := by rw [← hp]; simp; omega
   have ha : a < n := hu a (by simp [← hp])
   refine Ev.succ ?_
   simp only [spec_l05Independent.l0]
   refine Ev.pos (by simp; omega) ?_
   have inner : ∀ (s q : List Nat), q ++ s = v → (∀ b ∈ q, f a b = false) → Ev (fun k => spec_l05Independent.l1 k (ints u) (ints v) (pre.length : Int) (q.length : Int) (n : Int) (mat n f)) (apartP f (a :: suf) v) := by
    intro s
    induction s with
    | nil =>
     intro q hq hf
     refine Ev.succ ?_
     simp only [spec_l05Independent.l1]
     refine Ev.neg (by simp [← hq]) ?_
     rw [w64' (by omega)]
     have := ih (pre ++ [a]) (by simpa using hp)
     simp only [List.length_append, List.length_cons, List.length_nil] at this
     refine Ev.val this ?_
     simp only [List.append_nil] at hq
     subst hq
     simp only [apartP, List.all_cons]
     rw [show (q.all fun b => !f a b) = true from by simpa using hf]
     rfl
    | cons b s ihs =>
     intro q hq hf
     have hlq : q.length + s.length + 1 = v.length := by rw [← hq]; simp; omega
     have hb : b < n := hw b (by simp [← hq])
     refine Ev.succ ?_
     simp only [spec_l05Independent.l1]
     refine Ev.pos (by simp; omega) (Ev.pos (by omega) (Ev.pos (by simp; omega) (Ev.pos (by omega) ?_)))
     have r1 : rd (ints u) (pre.length : Int) = (a : Int) := by rw [← hp]; exact rd_mid pre suf a
     have r2 : rd (ints v) (q.length : Int) = (b : Int) := by rw [← hq]; exact rd_mid q s b
     rw [r1, r2, l02Dep_eq n hn f _ a b ha hb]
     refine Ev.some_bind (Ev.ite (fun g => ?_) (fun g => ?_))
     ·refine Ev.const ?_
      congr 1
      symm
      rw [← Bool.not_eq_true, apartP_iff]
      intro h
      rw [h a (by simp) b (by simp [← hq])] at g
      cases g
     ·rw [w64' (by omega)]
      have := ihs (q ++ [b]) (by simpa using hq) (fun x hx => by
       rcases List.mem_append.1 hx with h | h
       ·exact hf x h
       ·rw [List.mem_singleton.1 h]; simpa using g)
      simp only [List.length_append, List.length_cons, List.length_nil] at this
      exact this
   exact inner v [] rfl (by simp)
 exact outer u [] rfl
end Go.Proofs.YtkiacoilecdepaaDoor.PAll
