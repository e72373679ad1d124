import Derived.Test.YtkiacoilecdepaaDoorQWalk
set_option linter.unusedVariables false
/-! Short forms of what the printed texts do again and again: a fact is carried past what a region makes and draws. -/
namespace Go.Proofs.YtkiacoilecdepaaDoor.T
open Go.RowKit Go.Proofs.YtkiacoilecdepaaDoorW.PrintWords Go.Proofs.YtkiacoilecdepaaDoorW.PrintLast
theorem zP {p q : Prop} (h : p) (hh : p → q := by intro h; (with_reducible repeat (first | apply zF | apply zG | apply zH)); exact h) : q := hh h
theorem zQ {p q : Prop} (h : p) (hh : p → q := by intro h; repeat (first | (with_reducible first | exact h | apply zB | apply zC | apply zD) | exact h)) : q := hh h
theorem zT {p q a : Prop} (h : p) (g : a) (hh : p → a → q := by intro h g; repeat (first | (with_reducible first | exact h | apply zB | apply zC | apply zD | refine zE ?_ g) | exact h)) : q := hh h g
theorem zV {p q a b : Prop} (h : p) (g : a) (k : b) (hh : p → a → b → q := by intro h g k; repeat (first | (with_reducible first | exact h | apply zB | apply zC | apply zD | refine zE ?_ g | refine zE ?_ k) | exact h)) : q := hh h g k
theorem zW {p q a b c : Prop} (h : p) (g : a) (k : b) (l : c) (hh : p → a → b → c → q := by intro h g k l; repeat (first | (with_reducible first | exact h | apply zB | apply zC | apply zD | refine zE ?_ g | refine zE ?_ k | refine zE ?_ l) | exact h)) : q := hh h g k l
theorem yA {p q : Prop} (h : p) (hh : p → q := by intro h; repeat (first | (with_reducible first | exact h | apply KeepBut.set_ | apply keep_drewN | apply keep_drew | apply keep_alloc) | exact h)) : q := hh h
theorem yB {p q a : Prop} (h : p) (g : a) (hh : p → a → q := by intro h g; repeat (first | (with_reducible first | exact h | apply KeepBut.set_ | apply keep_drewN | apply keep_drew | apply keep_alloc | refine keep_far ?_ g _) | exact h)) : q := hh h g
theorem yC {p q a b : Prop} (h : p) (g : a) (k : b) (hh : p → a → b → q := by intro h g k; repeat (first | (with_reducible first | exact h | apply KeepBut.set_ | apply keep_drewN | apply keep_drew | apply keep_alloc | refine keep_far ?_ g _ | refine keep_far ?_ k _) | exact h)) : q := hh h g k
theorem zR {p q : Prop} (h : p) (hh : p → q := by intro h; (with_reducible repeat (first | refine zJ ?_ _ | refine zK ?_ | refine zI ?_ _)); exact h) : q := hh h
theorem zS {p q : Prop} (h : p) (hh : p → q := by intro h; repeat (first | exact h | (with_reducible refine Kd.C_alloc ?_ _) | (with_reducible refine Kd.C_drewN ?_ _) | (with_reducible refine Kd.C_drew ?_))) : q := hh h
theorem zO {P : Program} {ops : Array Oper} {Q : Exit → Act → World → Prop} {rest : List Oper} {oi : Oper} {a : Act} {w : World} (N : Option Tmp) {f : FuncId} {fn : Func} {ao : Array Operand} {ts : Array TypeId} (hf : P.funcs[f]? = some fn) (args : Array Value)
    (h : Calls P f args w fun e w' => ∃ v, e = .returned v ∧ wpList P ops Q rest (a.put N v) w') (hd : oi.dst = N := by rfl) (hg : oi.guard = none := by rfl) (hname : (fn.name == "runtime.NumGoroutine") = false := by kernel_rfl) (hb : fn.body.isSome = true := by rfl)
    (hop : oi.op = .call { callee := .value (.func f), args := ao, argTypes := ts } := by rfl) (hargs : ao.map a.eval = args := by (try simp only [List.map_toArray, List.map_cons, List.map_nil]); first | done | rfl | (simp only [List.length_drop, List.length_take]; rfl)) : wpList P ops Q (oi :: rest) a w := goesL_ N hd hg hf hname hb args hop hargs h
end Go.Proofs.YtkiacoilecdepaaDoor.T
