import Derived.Test.YtemdfjdmokbcoaaDoorMoreLex0
import Derived.Maps.OwnSet
import Derived.Maps.OwnOps
set_option linter.unusedVariables false
set_option linter.unusedSimpArgs false
/-! Maps that the call makes, told by what they hold at each key. -/
namespace Go.Proofs.YtemdfjdmokbcoaaDoor.T
open Go.RowKit Go.Proofs.YtemdfjdmokbcoaaDoorW.PrintWords
open Go.Maps (Keyed Tidy has size)
/-- block b is a map of n entries; S tells which keys are there, F what stands at a key (z where none is) -/
def MapW {κ ε : Type} (P : Program) (k e : TypeId) (kf : κ → Lit) (ef : ε → Lit) (z : ε) (ok : κ → Prop) (w : World) (b n : Nat) (S : κ → Bool) (F : κ → ε) : Prop :=
  ∃ D : DataW Unit, w.ownsMap P k (plainElem P e) b n D ∧ Tidy D ∧ (∀ a, ok a → D.atKey (kf a) (.lit (ef z)) = .lit (ef (F a))) ∧ (∀ a, ok a → has D (kf a) = S a) ∧ size D = n
section
variable {κ ε : Type} {P : Program} {k e : TypeId} {kf : κ → Lit} {ef : ε → Lit} {z : ε} {ok : κ → Prop} {w w1 : World} {b n : Nat} {S : κ → Bool} {F : κ → ε}
theorem own_size {D : DataW Unit} {R : Value → Option (DataW Unit × List MemPlace)} (h : w.ownsMap P k R b n D) : w.ownsMap P k R b (size D) D := by
  obtain ⟨es, clock, hb, F, hs, rfl⟩ := h
  exact ⟨es, clock, hb, F, by simp [size, length_sorted], rfl⟩
theorem MapW.made (w : World) : MapW P k e kf ef z ok (w.alloc (.map #[] 0)) w.heap.size 0 (fun _ => false) (fun _ => z) :=
  ⟨.map [], World.ownsMap_made w P k _, Go.Maps.tidy_empty, fun _ _ => rfl, fun _ _ => rfl, rfl⟩
theorem MapW.lt (h : MapW P k e kf ef z ok w b n S F) : b < w.heap.size := by obtain ⟨D, h1, _⟩ := h; exact h1.lt
theorem MapW.kept (h : MapW P k e kf ef z ok w b n S F) {row : Option Nat} (hg : w.grownBy w1 row) (hne : some b ≠ row) : MapW P k e kf ef z ok w1 b n S F := by
  obtain ⟨D, h1, h2⟩ := h
  exact ⟨D, h1.kept hg hne, h2⟩
theorem MapW.below (h : MapW P k e kf ef z ok w b n S F) (hb : Below w.heap.size w w1) : MapW P k e kf ef z ok w1 b n S F := h.kept (grown_of_below hb none) (by simp)
theorem MapW.alloc (h : MapW P k e kf ef z ok w b n S F) (o : Obj) : MapW P k e kf ef z ok (w.alloc o) b n S F := h.below (below_alloc (Below.refl _ _) o)
theorem MapW.drewN (h : MapW P k e kf ef z ok w b n S F) (m : Nat) : MapW P k e kf ef z ok (w.drewN m) b n S F := h.below (pw_below_drewN (Below.refl _ _) m)
theorem MapW.drew (h : MapW P k e kf ef z ok w b n S F) : MapW P k e kf ef z ok w.drew b n S F := h.below (below_drew (Below.refl _ _))
/-- what is in a block of cells is another block than the map's -/
theorem MapW.ne_cells (h : MapW P k e kf ef z ok w b n S F) {g : Nat} {cs : Array Value} {t : TypeId} {fr : Nat × Nat} (hg : w.heap[g]? = some (.cells cs t fr)) : g ≠ b := by
  obtain ⟨D, ⟨es, clock, hb, _⟩, _⟩ := h
  rintro rfl
  rw [hg] at hb
  cases hb
theorem MapW.put [DecidableEq κ] (K : Keyed P k) (hinj : ∀ a c, kf a = kf c → a = c) (hkl : ∀ a, WideAt.IsKeyLit (kf a)) {t : TypeId} (ht : P.underlying t = some (.map k e)) (h : MapW P k e kf ef z ok w b n S F) (hn : n < maxLen)
    {key val : Value} (a : κ) (x : ε) (ha : ok a) (hkey : keyOf P k key = some (kf a)) (hval : plainElem (H := Unit) P e val = some (.lit (ef x), [])) :
    ∃ w', (Instr.mapUpdate t (.map (some b)) key val).run P w = .ok () w' ∧ MapW P k e kf ef z ok w' b (if S a then n else n + 1) (fun c => if c = a then true else S c) (fun c => if c = a then x else F c) ∧ w.grownBy w' (some b) := by
  obtain ⟨D, h1, h2, h3, h4, h5⟩ := h
  obtain ⟨w', hrun, r1, r2⟩ := h1.update K ht hn hkey hval
  have hs := Go.Maps.size_put (k := kf a) h2 (.lit (ef x))
  rw [h4 a ha, h5] at hs
  refine ⟨w', hrun, ⟨D.put (kf a) (.lit (ef x)), ?_, h2.put (hkl a) _, fun c hc => ?_, fun c hc => ?_, hs⟩, r2⟩
  · have := own_size r1
    rwa [hs] at this
  · by_cases e1 : c = a
    · subst e1
      simp only [if_true]
      exact Go.Maps.atKey_put_same h2.isMap (hkl c) _ _
    · simp only [if_neg e1]
      rw [Go.Maps.atKey_put_other (fun e2 => e1 (hinj _ _ e2)), h3 c hc]
  · by_cases e1 : c = a
    · subst e1
      simp only [if_true]
      exact Go.Maps.has_put_same h2.isMap (hkl c) _
    · simp only [if_neg e1]
      rw [Go.Maps.has_put_other (fun e2 => e1 (hinj _ _ e2)), h4 c hc]
theorem plainElem_bool_inv {v : Value} {y : DataW Unit × List MemPlace} (he : P.underlying e = some .bool) (h : plainElem P e v = some y) : ∃ c, v = .bool c ∧ y = (.lit (.bool c), []) := by
  unfold plainElem at h
  rw [he] at h
  cases v <;> simp at h
  exact ⟨_, rfl, h.symm⟩
section
variable {ops : Array Oper} {rest : List Oper} {o : Oper} {A : Act} {Q : Exit → Act → World → Prop}
/-- 'm[k]' of whole numbers. -/
theorem wpList_mw_int {kf : κ → Lit} {ok : κ → Prop} {F : κ → Int} (hg : o.guard = none) (m x : Operand) (t : TypeId) (hop : o.op = Op.lookup t m x false) (K : Keyed P k) (ht : P.underlying t = some (.map k e)) (he : P.underlying e = some (.int .i64))
    (hz : ∀ w, (zeroValue e).run P w = .ok (.int .i64 0) w) (h : MapW P k e kf (Lit.int .i64) 0 ok w b n S F) (hm : A.eval m = .map (some b)) (a : κ) (ha : ok a) (key : Value) (hx : A.eval x = key) (hkey : keyOf P k key = some (kf a))
    (hK : wpList P ops Q rest (A.put o.dst (.int .i64 (F a))) w) : wpList P ops Q (o :: rest) A w := by
  obtain ⟨D, h1, h2, h3, h4, h5⟩ := h
  refine wpList_lookup_own_int w hg m x t hop k e .i64 K ht he (hz w) b n D hm h1 key (kf a) hx hkey (fun c hc _ => ?_)
  rw [h3 a ha] at hc
  simp only [DataW.lit.injEq, Lit.int.injEq, true_and] at hc
  rw [← hc]
  exact hK
/-- 'm[k]' of bools. -/
theorem wpList_mw_bool {kf : κ → Lit} {ok : κ → Prop} {F : κ → Bool} (hg : o.guard = none) (m x : Operand) (t : TypeId) (hop : o.op = Op.lookup t m x false) (K : Keyed P k) (ht : P.underlying t = some (.map k e)) (he : P.underlying e = some .bool)
    (hz : ∀ w, (zeroValue e).run P w = .ok (.bool false) w) (h : MapW P k e kf Lit.bool false ok w b n S F) (hm : A.eval m = .map (some b)) (a : κ) (ha : ok a) (key : Value) (hx : A.eval x = key) (hkey : keyOf P k key = some (kf a))
    (hK : wpList P ops Q rest (A.put o.dst (.bool (F a))) w) : wpList P ops Q (o :: rest) A w := by
  obtain ⟨D, h1, h2, h3, h4, h5⟩ := h
  refine wpList_plain hg fun K' hK' => ?_
  obtain ⟨v, ps, hrun, hv⟩ := h1.lookup K ht (hz w) (plainElem_bool he false) hkey
  obtain ⟨c, rfl, hc⟩ := plainElem_bool_inv he hv
  simp only [Prod.mk.injEq] at hc
  have hc1 := hc.1
  rw [h3 a ha] at hc1
  simp only [DataW.lit.injEq, Lit.bool.injEq] at hc1
  subst hc1
  unfold Oper.wp
  simp [execOp, hop, hm, hx, hrun, Result.andThen]
  exact hK' _ _ hK
/-- 'm[k] = v'. -/
theorem wpList_mw_put [DecidableEq κ] (hg : o.guard = none) (m x v : Operand) (t : TypeId) (hop : o.op = Op.mapUpdate t m x v) (K : Keyed P k) (hinj : ∀ a c, kf a = kf c → a = c) (hkl : ∀ a, WideAt.IsKeyLit (kf a)) (ht : P.underlying t = some (.map k e))
    (h : MapW P k e kf ef z ok w b n S F) (hn : n < maxLen) (hm : A.eval m = .map (some b)) (a : κ) (ha : ok a) (key val : Value) (hx : A.eval x = key) (hv : A.eval v = val) (hkey : keyOf P k key = some (kf a)) (y : ε) (hval : plainElem (H := Unit) P e val = some (.lit (ef y), []))
    (hK : ∀ w', MapW P k e kf ef z ok w' b (if S a then n else n + 1) (fun c => if c = a then true else S c) (fun c => if c = a then y else F c) → w.grownBy w' (some b) → wpList P ops Q rest (A.put o.dst undef) w') : wpList P ops Q (o :: rest) A w := by
  refine wpList_plain hg fun K' hK' => ?_
  obtain ⟨w', hrun, r1, r2⟩ := h.put K hinj hkl ht hn a y ha hkey hval
  unfold Oper.wp
  simp [execOp, hop, hm, hx, hv, hrun, Result.andThen]
  exact hK' _ _ (hK w' r1 r2)
/-- 'len(m)'. -/
theorem wpList_mw_len (hg : o.guard = none) (m : Operand) (t : TypeId) (hop : o.op = Op.call { callee := Callee.builtin Builtin.len, args := #[m], argTypes := #[t] }) (ht : P.underlying t = some (.map k e))
    (h : MapW P k e kf ef z ok w b n S F) (hm : A.eval m = .map (some b)) (hK : wpList P ops Q rest (A.put o.dst (.int .i64 n)) w) : wpList P ops Q (o :: rest) A w := by
  obtain ⟨D, h1, h2, h3, h4, h5⟩ := h
  exact wpList_len_own w hg m t hop k e ht _ b n D hm h1 (by rw [h5]; exact hK)
end
end
end Go.Proofs.YtemdfjdmokbcoaaDoor.T
