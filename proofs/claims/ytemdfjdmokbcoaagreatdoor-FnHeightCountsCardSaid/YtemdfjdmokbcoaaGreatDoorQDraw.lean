import Derived.Test.YtemdfjdmokbcoaaGreatDoorQTrace
set_option linter.unusedVariables false
set_option linter.unusedSimpArgs false
namespace Go.Proofs.YtemdfjdmokbcoaaGreatDoor.Q
open Go.RowKit Go.Proofs.YtemdfjdmokbcoaaGreatDoorW.PrintWords
def Src (c:List Int) (a:Int):Prop:=(∀ x ∈ c,0 ≤ x ∧ x ≤ 255) ∧ c.length ≤ 4096 ∧ 0 ≤ a ∧ a ≤ (c.length:Int)
theorem u64_range (x:Int):0 ≤ IntKind.u64.wrap x ∧ IntKind.u64.wrap x < 18446744073709551616:=by
  simp [IntKind.wrap,IntKind.bits,IntKind.signed]
  omega
theorem u64_mask (x:Int) (h0:0 ≤ x) (h1:x < 18446744073709551616):∃ b:Int,Go.bits .and .u64 x 16777215 = b ∧ 0 ≤ b ∧ b ≤ 16777215:=by
  obtain ⟨m,rfl⟩:=Int.eq_ofNat_of_zero_le h0
  have:=(bits_nat .u64 64 (by decide) (fun n h0 h1=>by
    obtain ⟨m,rfl⟩:=Int.eq_ofNat_of_zero_le h0
    exact u64_nat m (by have : (2 : Int) ^ 64 = ((2 ^ 64 : Nat) : Int) := by decide
                        omega)) m 16777215 (by have : (2 : Nat) ^ 64 = 18446744073709551616 := by decide
                                               omega) (by decide)).1
  refine ⟨_,this,Int.natCast_nonneg _,?_⟩
  have:=@Nat.and_le_right m 16777215
  omega
theorem tmod_range (x n:Int) (hx:0 ≤ x) (hn:1 ≤ n):0 ≤ Int.tmod x n ∧ Int.tmod x n < n:=by
  rw [Int.tmod_eq_emod_of_nonneg hx]
  exact ⟨Int.emod_nonneg _ (by omega),Int.emod_lt_of_pos _ (by omega)⟩
def pcP (m:Nat):Nat:=if h:m = 0 then 0 else m % 2 + pcP (m / 2)
theorem pcP_zero:pcP 0 = 0:=by rw [pcP];simp
theorem pcP_pos {m:Nat} (h:m ≠ 0):pcP m = m % 2 + pcP (m / 2):=by rw [pcP];simp [h]
theorem pcP_le:∀ (k m:Nat),m < 2 ^ k → pcP m ≤ k:=by
  intro k
  induction k with
  | zero=>intro m h;rw [show m = 0 by simpa using h,pcP_zero];exact Nat.le_refl 0
  | succ k ih =>
    intro m h
    by_cases h0:m = 0
    · subst h0;rw [pcP_zero];omega
    · rw [pcP_pos h0]
      have:=ih (m / 2) (by rw [Nat.pow_succ] at h;omega)
      omega
def stepP (n:Nat) (f:Nat → Nat → Bool) (m:Nat):Bool:=(List.range n).all fun a=>!m.testBit a || decide (mk n (f a) &&& m = 2 ^ a)
def stepsP (n:Nat) (f:Nat → Nat → Bool):List Nat:=(List.range (2 ^ n)).filter (stepP n f)
def addK (out:List Int) (k:Nat):List Int:=(out ++ List.replicate (k + 1 - out.length) 0).set k (rd out k + 1 - 2 * ((k % 2:Nat):Int))
def cliqueP (ms:List Nat):List Int:=ms.foldl (fun out m=>addK out (pcP m)) []
theorem addK_length (out:List Int) (k:Nat):(addK out k).length = max out.length (k + 1):=by
  simp [addK];omega
end Go.Proofs.YtemdfjdmokbcoaaGreatDoor.Q
