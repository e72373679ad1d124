/- For every code, FnPrefixesIn answers true: the greatest prefix with letters of a set has such letters only, and no letter of the set is a first letter of what follows it. No condition. -/
import Derived.Test.YtkiacoilecdepaaDoorPAllx1
import Derived.Test.YtkiacoilecdepaaDoorPAllx13
import Derived.Test.YtkiacoilecdepaaDoorPAllx14
import Derived.Test.YtkiacoilecdepaaDoorV0
import Derived.Test.YtkiacoilecdepaaDoorV3
import Derived.Test.YtkiacoilecdepaaDoorV4
import Derived.Test.YtkiacoilecdepaaDoorV7
import Derived.Test.YtkiacoilecdepaaDoorQBase
import Derived.Test.YtkiacoilecdepaaDoorQMask
import Derived.Test.YtkiacoilecdepaaDoorQMeet
import Derived.Test.YtkiacoilecdepaaDoorQOrder
import Derived.Test.YtkiacoilecdepaaDoorQRev
import Derived.Test.YtkiacoilecdepaaDoorQTrace
import Derived.Test.YtkiacoilecdepaaDoorStmtFnPrefixesIn
set_option linter.unusedVariables false
set_option linter.unusedSimpArgs false
namespace Go.Proofs.YtkiacoilecdepaaDoor.LFnPrefixesIn
open Go.RowKit Go.Proofs.YtkiacoilecdepaaDoorW.PrintWords Go.Proofs.YtkiacoilecdepaaDoorW.PrintMore Go.Proofs.YtkiacoilecdepaaDoor.Q
open Go.Proofs.YtkiacoilecdepaaDoor.PAll
theorem law_ev (c : List Int) (hb : ∀ x ∈ c, 0 ≤ x ∧ x ≤ 255) : Ev (fun k => laws_FnPrefixesIn.f k c) true := by
  simp only [laws_FnPrefixesIn.f, laws_big.f]
  refine Ev.some_bind (Ev.ite (fun _ => Ev.now _) (fun g => ?_))
  obtain ⟨n, D, w, mask, _, hd⟩ := DrawProjectionOf_ev c hb (by simp at g; omega)
  have hd' : Ev (fun k => spec_DrawPrefixIn.f k c) (n, D, w, mask) := by
    simp only [spec_DrawPrefixIn.f]
    exact Ev.bind hd (Ev.now _)
  obtain ⟨r, hrl, h1, h2, h3⟩ := PrefixIn_both n D w mask
  refine Ev.bind hd' (Ev.bind h2 (Ev.bind h1 (Ev.pos rfl (Ev.bind (likeInts_ev r.1 (by omega)) (Ev.succ ?_)))))
  simp only [laws_FnPrefixesIn.j0]
  refine Ev.neg (by simp) (Ev.ite (fun k0 => ?_) (fun _ => Ev.now _))
  obtain ⟨m, f, u, M, p, rest, rfl, rfl, rfl, rfl, hm, hs, hul, hu, hM, hA, hI, hr1⟩ := h3 k0
  have hp : ∀ x ∈ p, x < m := fun x hx => hu x (cutP_mem f hI.1 x hx)
  have hr : ∀ x ∈ rest, x < m := fun x hx => hu x (cutP_sub f hI.1 x hx)
  have hpl := cutP_length f hI.1
  have hpn := normalP_length f hs hp
  have hpt := normalP_lt f hs hp
  have hrn := normalP_length f hs hr
  have hrt := normalP_lt f hs hr
  have htp := normalP_TrEq f hs _ p rfl hp
  have htr := normalP_TrEq f hs _ rest rfl hr
  have hcut : cutP f (normalP f m p) u = some rest := by rw [cutP_TrEq f hs htp u]; exact hI.1
  have hL := LeftQuotient_ok hm hA (show (normalP f m p).length ≤ 24 by omega) hpt hul hu hcut
  have hF := FirstLetters_ok hm hA (show (normalP f m rest).length ≤ 24 by omega) hrt
  have hP := ProjectionOf_ok hm hA (show (normalP f m p).length ≤ 24 by omega) hpt hM
  have hfil : (normalP f m p).filter (fun a => M.testBit a) = normalP f m p := List.filter_eq_self.2 fun x hx => hI.2.1 x ((TrEq.mem f htp x).1 hx)
  have hnn : normalP f m (normalP f m p) = normalP f m p := normalP_congr f hs hpt hp htp
  rw [hfil, hnn] at hP
  have hlt := mk_lt m (isFirst f (normalP f m rest))
  have h24 := pow_lt62 (show m ≤ 24 by omega)
  have hz : mk m (isFirst f (normalP f m rest)) &&& M = 0 := (and_zero _ hM).2 (List.all_eq_true.2 fun k _ => by
    cases e : isFirst f (normalP f m rest) k with
    | false => rfl
    | true =>
      rw [(TrEq.first f hs htr k).1] at e
      rw [show M.testBit k = false from hI.2.2 k e]; rfl)
  rw [hr1]
  refine Ev.bind hL (Ev.bind hF (Ev.bind hP (Ev.pos rfl (Ev.pos rfl (Ev.pos rfl (Ev.pos ?_ (Ev.bind (likeInts_ev _ (by simp; omega)) (Ev.now _))))))))
  show Go.bits .and .i64 ((mk m (isFirst f (normalP f m rest)) : Nat) : Int) (M : Int) = 0
  rw [b_and _ _ (by omega) (by omega), hz]; rfl
theorem big_ev (c : List Int) (h : 4096 < c.length) : Ev (fun k => laws_FnPrefixesIn.f k c) true := by
  simp only [laws_FnPrefixesIn.f, laws_big.f]
  exact Ev.some_bind (Ev.pos (by simp; omega) (Ev.now _))
theorem pure : PureStmt := fun c _ h2 => (law_ev c (fun x hx => u8_bounds (h2 x hx))).rounds
end Go.Proofs.YtkiacoilecdepaaDoor.LFnPrefixesIn
