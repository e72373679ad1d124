import Derived.Test.YtkiacoilecdepaaDoorQRev
set_option linter.unusedVariables false
set_option linter.unusedSimpArgs false
namespace Go.Proofs.YtkiacoilecdepaaDoor.Q
open Go.RowKit Go.Proofs.YtkiacoilecdepaaDoorW.PrintWords
section
variable (f : Nat → Nat → Bool)
theorem Meets.swap (hs : ∀ a b, f a b = f b a) {n : Nat} (hr : ∀ a, a < n → f a a = true) {u v p a b : List Nat} (ha : ∀ x ∈ a, x < n) (h : Meets f u v p a b) (g : apartP f a b = true) : Q.TrEq f (v ++ a) (u ++ b) := by
 have t1 : Q.TrEq f (v ++ a) ((p ++ b) ++ a) := TrEq.append_right f hs (cutP_spec f hs h.2.1) a
 have t2 : Q.TrEq f (u ++ b) ((p ++ a) ++ b) := TrEq.append_right f hs (cutP_spec f hs h.1) b
 have t3 : Q.TrEq f ((p ++ b) ++ a) ((p ++ a) ++ b) := by
  rw [List.append_assoc, List.append_assoc]
  exact TrEq.append_left f p (apart_comm f hs hr a b ha g)
 exact TrEq.trans f hs t1 (TrEq.trans f hs t3 (TrEq.symm f hs t2))
theorem apart_symm (hs : ∀ a b, f a b = f b a) {a b : List Nat} (h : apartP f a b = true) : apartP f b a = true := (apartP_iff f b a).2 fun x hx y hy => by rw [hs]; exact (apartP_iff f a b).1 h y hy x hx
end
end Go.Proofs.YtkiacoilecdepaaDoor.Q
