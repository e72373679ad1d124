import Derived.Test.YtemdfjdmokbcoaaGreatDoorMoreLex0
set_option linter.unusedVariables false
set_option linter.unusedSimpArgs false
namespace Go.Proofs.YtemdfjdmokbcoaaGreatDoor.Q
open Go.RowKit Go.Proofs.YtemdfjdmokbcoaaGreatDoorW.PrintWords
theorem Ev.succ {α:Type} {g:Nat → Option α} {r:α} (h:Ev (fun k=>g (k + 1)) r):Ev g r:=Ev.step (fun _=>rfl) h
theorem Ev.pos {α:Type} {c:Prop} [Decidable c] {f g:Nat → Option α} {r:α} (h:c) (k:Ev f r):Ev (fun n=>if c then f n else g n) r :=
  Ev.congr (fun n=>if_pos h) k
theorem Ev.neg {α:Type} {c:Prop} [Decidable c] {f g:Nat → Option α} {r:α} (h:¬ c) (k:Ev g r):Ev (fun n=>if c then f n else g n) r :=
  Ev.congr (fun n=>if_neg h) k
theorem Ev.ite {α:Type} {c:Prop} [Decidable c] {f g:Nat → Option α} {r:α} (h:c → Ev f r) (k:¬ c → Ev g r):Ev (fun n=>if c then f n else g n) r:=by
  by_cases hc:c
  · exact Ev.pos hc (h hc)
  · exact Ev.neg hc (k hc)
theorem Ev.some_bind {α β:Type} {f:Nat → α → Option β} {a:α} {r:β} (k:Ev (fun n=>f n a) r):Ev (fun n=>(some a).bind (f n)) r:=k
theorem Ev.val {α:Type} {g:Nat → Option α} {r r' : α} (h:Ev g r) (e:r = r'):Ev g r' := e ▸ h
theorem Ev.const {α:Type} {o:Option α} {r:α} (h:o = some r):Ev (fun _=>o) r:=⟨0,fun _ _=>h⟩
theorem w64 {x:Int} (h0:-9223372036854775808 ≤ x) (h1:x ≤ 9223372036854775807):wrap64 x = x:=by unfold wrap64;omega
theorem w64' {x:Int} (h:-9000000000000000000 ≤ x ∧ x ≤ 9000000000000000000):wrap64 x = x:=by unfold wrap64;omega
theorem rd_nat (xs:List Int) (i:Nat):rd xs (i:Int) = xs.getD i 0:=by simp [rd]
theorem rd_lt (xs:List Int) (i:Nat) (h:i < xs.length):rd xs (i:Int) = xs[i]:=by simp [rd,List.getD_eq_getElem?_getD,h]
theorem tdiv_cases (x U:Int):x.tdiv U = if 0 ≤ x then x / U else -((-x) / U):=by
  split
  · rename_i h;exact Int.tdiv_eq_ediv_of_nonneg h
  · rename_i h
    have:x.tdiv U = -((-x).tdiv U):=by rw [Int.neg_tdiv];omega
    rw [this,Int.tdiv_eq_ediv_of_nonneg (by omega)]
theorem mul_bd {a b A B:Int} (ha:-A ≤ a ∧ a ≤ A) (hb:-B ≤ b ∧ b ≤ B):-(A * B) ≤ a * b ∧ a * b ≤ A * B:=by
  have h1:a.natAbs ≤ A.toNat:=by omega
  have h2:b.natAbs ≤ B.toNat:=by omega
  have h3:=Nat.mul_le_mul h1 h2
  rw [← Int.natAbs_mul] at h3
  have h4:((A.toNat * B.toNat:Nat):Int) = A * B:=by
    rw [Int.natCast_mul,Int.toNat_of_nonneg (by omega),Int.toNat_of_nonneg (by omega)]
  omega
end Go.Proofs.YtemdfjdmokbcoaaGreatDoor.Q
