import Derived.Test.YtjdekliancabgaaDoorQBase
import Derived.Test.YtjdekliancabgaaDoorQFoata
import Derived.Test.YtjdekliancabgaaDoorQMap
import Derived.Test.YtjdekliancabgaaDoorQMask
import Derived.Test.YtjdekliancabgaaDoorQMeet
import Derived.Test.YtjdekliancabgaaDoorQOrder
import Derived.Test.YtjdekliancabgaaDoorQRev
import Derived.Test.YtjdekliancabgaaDoorQTab
import Derived.Test.YtjdekliancabgaaDoorQTrace
set_option linter.unusedVariables false
set_option linter.unusedSimpArgs false
namespace Go.Proofs.YtjdekliancabgaaDoor.PAll
open Go.RowKit Go.Proofs.YtjdekliancabgaaDoorW.PrintWords Go.Proofs.YtjdekliancabgaaDoorW.PrintMore Go.Proofs.YtjdekliancabgaaDoor.Q
def Alpha (n:Int) (D:List Int):Prop :=
  (0 ≤ n ∧ n ≤ 8) ∧ (D.length:Int) = n ∧ (∀ x ∈ D,0 ≤ x ∧ x < ((2 ^ D.length:Nat):Int)) ∧ ∀ a,a < D.length → bitR D a a = true ∧ ∀ b,b < D.length → bitR D a b = bitR D b a
instance (n:Int) (D:List Int):Decidable (Alpha n D):=by unfold Alpha;infer_instance
theorem Alpha.form {n:Int} {D:List Int} (h:Alpha n D):∃ (m:Nat) (f:Nat → Nat → Bool),n = (m:Int) ∧ D = mat m f ∧ m ≤ 8 ∧ (∀ a b,f a b = f b a) ∧ ∀ a,a < m → f a a = true:=by
  obtain ⟨h1,h2,h3,h4⟩:=h
  refine ⟨D.length,fun a b=>decide (a < D.length ∧ b < D.length) && (bitR D a b),h2.symm,?_,by omega,fun a b=>?_,fun a ha=>?_⟩
  · exact (eq_mat D h3).trans (mat_congr fun i k hi hk=>by simp [hi,hk])
  · by_cases ha:a < D.length <;> by_cases hb:b < D.length <;> simp [ha,hb]
    exact (h4 a ha).2 b hb
  · simp [ha,(h4 a ha).1]
theorem pow24 {m:Nat} (h:m ≤ 24):(2:Nat) ^ m ≤ 2 ^ 24:=Nat.pow_le_pow_right (by decide) h
def Word (n:Int) (w:List Int):Prop:=w.length ≤ 24 ∧ ∀ x ∈ w,0 ≤ x ∧ x ≤ n - 1
instance (n:Int) (w:List Int):Decidable (Word n w):=by unfold Word;infer_instance
theorem Word.form {n:Nat} {w:List Int} (h:Word (n:Int) w):∃ u:List Nat,w = ints u ∧ u.length ≤ 24 ∧ ∀ x ∈ u,x < n:=by
  refine ⟨w.map Int.toNat,?_,by simpa using h.1,fun x hx=>?_⟩
  · unfold ints
    rw [List.map_map]
    conv=>lhs;rw [← List.map_id w]
    apply List.map_congr_left
    intro x hx
    have:=h.2 x hx
    simp only [Function.comp,id]
    omega
  · obtain ⟨y,hy,rfl⟩:=List.mem_map.mp hx
    have:=h.2 y hy
    omega
theorem getD_lt {w:List Nat} {n i:Nat} (hw:∀ x ∈ w,x < n) (hi:i < w.length):w.getD i 0 < n:=by
  rw [List.getD_eq_getElem?_getD,List.getElem?_eq_getElem hi];exact hw _ (List.getElem_mem hi)
theorem rd_getD (w:List Nat) (i:Nat):rd (ints w) (i:Int) = ((w.getD i 0:Nat):Int):=by
  by_cases h:i < w.length
  · rw [rd_ints w i h];simp [List.getD_eq_getElem?_getD,h]
  · rw [rd_nat];simp [ints,List.getD_eq_getElem?_getD,h]
theorem rd_mid (pre suf:List Nat) (b:Nat):rd (ints (pre ++ b :: suf)) (pre.length:Int) = (b:Int):=by
  rw [rd_ints _ _ (by simp)]
  simp
theorem ints_eraseIdx (w:List Nat) (i:Nat):(ints w).eraseIdx i = ints (w.eraseIdx i):=by
  rw [List.eraseIdx_eq_take_drop_succ,List.eraseIdx_eq_take_drop_succ]
  simp [ints]
theorem erase_idx {w:List Nat} {a:Nat} (h:a ∈ w):w.eraseIdx (w.idxOf a) = w.erase a:=(List.erase_eq_eraseIdx_of_idxOf rfl).symm
theorem idxOf_lt {w:List Nat} {a:Nat} (h:a ∈ w):w.idxOf a < w.length:=List.idxOf_lt_length_iff.2 h
instance (f:Nat → Nat → Bool) (u v:List Nat):Decidable (TrEq f u v):=by unfold TrEq;infer_instance
def fIdx (f:Nat → Nat → Bool) (w:List Nat) (a:Nat):Int:=if isFirst f w a = true then ((w.idxOf a:Nat):Int) else -1
theorem mem_mid {n:Nat} {pre suf:List Nat} {b:Nat} (h:∀ x ∈ pre ++ b :: suf,x < n):b < n:=h b (by simp)
theorem idxOf_tail {a b:Nat} (l:List Nat) (h:¬ b = a):(b :: l).idxOf a = l.idxOf a + 1:=by
  rw [List.idxOf_cons,show (b == a) = false by simpa using h]
  rfl
theorem ctz_mk {n:Nat} (hn:n ≤ 24) {p:Nat → Bool} (h:∃ a,a < n ∧ p a = true):Lib.ctz 64 (mk n p) = leastF p n:=by
  have hlt:mk n p < 2 ^ 64:=Nat.lt_of_lt_of_le (mk_lt n p) (Nat.pow_le_pow_right (by decide) (by omega))
  have h0:mk n p ≠ 0:=by
    obtain ⟨a,ha,hp⟩:=h
    intro e
    have:=testBit_mk n p a
    rw [e] at this
    simp [ha,hp] at this
  obtain ⟨h1,h2,h3,h4⟩:=lowest _ h0 hlt
  rw [testBit_mk] at h1
  simp only [Bool.and_eq_true,decide_eq_true_eq] at h1
  refine (leastF_unique h1.1 h1.2 fun i hi=>?_).symm
  have:=h2 i hi
  rw [testBit_mk] at this
  simpa [show i < n by omega] using this
theorem mk_or (n:Nat) (p q:Nat → Bool):mk n p ||| mk n q = mk n fun a=>p a || q a:=bits_ext fun i=>by
  rw [Nat.testBit_or,testBit_mk,testBit_mk,testBit_mk]
  by_cases hi:i < n <;> simp [hi]
theorem mk_or_one (n:Nat) (p:Nat → Bool) (x:Nat) (hx:x < n):mk n p ||| 2 ^ x = mk n fun a=>p a || decide (a = x):=bits_ext fun i=>by
  rw [Nat.testBit_or,testBit_mk,testBit_mk,testBit_one]
  by_cases e:x = i
  · subst e;simp [hx]
  · simp [e,show ¬ i = x from fun h=>e h.symm]
theorem mat_row (n:Nat) (f:Nat → Nat → Bool) (a:Nat) (ha:a < n) (p:Nat → Bool):(mat n f).set a ((mk n p:Nat):Int) = mat n fun i k=>if i = a then p k else f i k:=by
  apply List.ext_getElem
  · simp
  · intro q h1 h2
    have hq:q < n:=by simpa using h1
    rw [List.getElem_set]
    by_cases e:a = q
    · subst e
      rw [if_pos rfl]
      simp [mat]
    · rw [if_neg e]
      simp only [mat,List.getElem_map,List.getElem_range]
      congr 1
      exact mk_congr fun i _=>by rw [if_neg (fun h=>e h.symm)]
theorem mk62 {n:Nat} (hn:n ≤ 24) (p:Nat → Bool):mk n p < 2 ^ 62:=Nat.lt_of_lt_of_le (mk_lt n p) (Nat.pow_le_pow_right (by decide) (by omega))
theorem two62 {n:Nat} (hn:n ≤ 24):(2:Nat) ^ n < 2 ^ 62:=Nat.lt_of_le_of_lt (pow24 hn) (by decide)
theorem pow_lt62 {n:Nat} (hn:n ≤ 24):(2:Nat) ^ n ≤ 2 ^ 24 ∧ (2:Nat) ^ 24 < 2 ^ 62:=⟨pow24 hn,by decide⟩
theorem mk_full (n:Nat):2 ^ n - 1 = mk n fun _=>true:=bits_ext fun i=>by rw [testBit_full,testBit_mk];simp
theorem mk_without {n:Nat} (hn:n ≤ 24) (p q:Nat → Bool):without (mk n p) (mk n q) = mk n fun a=>p a && !q a:=bits_ext fun i=>by
  rw [testBit_without _ _ _ (mk62 hn _) (mk62 hn _),testBit_mk,testBit_mk,testBit_mk]
  by_cases hi:i < n <;> simp [hi]
theorem ChainAt.le {g:Nat → Nat → Bool} {n:Nat} {B:Nat → Nat} {i0:Nat} (h:∀ j,i0 ≤ j → j < n → ChainAt g n B j):∀ d i,i + d + 1 = n → i0 ≤ i → B i ≤ n - i:=by
  intro d
  induction d using Nat.strongRecOn with
  | ind d ih =>
    intro i hi h0
    rcases (h i h0 (by omega)).2.2 with e | ⟨k,k1,k2,k3,k4⟩
    · omega
    · have:=ih (n - k - 1) (by omega) k (by omega) (by omega)
      omega
theorem Word.of {n:Nat} {u:List Nat} (hl:u.length ≤ 24) (hu:∀ x ∈ u,x < n):Word (n:Int) (ints u):=by
  refine ⟨by simpa using hl,fun x hx=>?_⟩
  obtain ⟨y,hy,rfl⟩:=List.mem_map.1 hx
  have:=hu y hy
  omega
theorem u8_bounds {x:Int} (h:(Lit.int .u8 x).wf = true):0 ≤ x ∧ x ≤ 255:=by
  simp only [Lit.wf,IntKind.min,IntKind.max,IntKind.signed,IntKind.bits,Bool.and_eq_true,decide_eq_true_eq] at h
  simp at h
  omega
end Go.Proofs.YtjdekliancabgaaDoor.PAll
