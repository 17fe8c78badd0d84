/- The comparison of two nodes. -/
import Derived.Test.YtpmlmibceiolpaaGreatDoorGLaws
set_option linter.unusedSimpArgs false
set_option linter.unusedVariables false
namespace Go.Proofs.YtpmlmibceiolpaaGreatDoor
open Go.RowKit

set_option maxRecDepth 100000 in
theorem nd_eql (a b : Nd) (w : World) : (binOp .eql 42 (ndA a) (ndA b)).run Tryz.prog w = .ok (.bool (decide (a = b))) w := by
  have hu := nd_underlying
  rw [Tryz.underlying42] at hu
  injection hu with hu
  injection hu with hu
  unfold ndA
  rw [run_eql_struct, run_equalIn_agg _ _ _ _ _ nd_underlying nd_stood, ← hu]
  simp [Op.eqFields, go_sem, Tryz.underlying3, Tryz.underlying40]
  by_cases h : a = b
  · subst h; simp
  · rw [decide_eq_false h]
    by_cases h1 : a.fst = b.fst
    · by_cases h2 : a.snd.fst = b.snd.fst
      · by_cases h3 : a.snd.snd.fst = b.snd.snd.fst
        · have h4 : ¬ a.snd.snd.snd = b.snd.snd.snd := fun h4 => h (Prod.ext h1 (Prod.ext h2 (Prod.ext h3 h4)))
          simp [h1, h2, h3, h4]
        · simp [h1, h2, h3]
      · simp [h1, h2]
    · simp [h1]
theorem wpList_eql_nd {w : World} {ops : Array Oper} {rest : List Oper} {o : Oper} {a : Act} {Q : Exit → Act → World → Prop} (hg : o.guard = none) (x y : Operand) (ty : TypeId) (hop : o.op = Op.binOp .eql 42 x y ty) (n1 n2 : Nd) (hx : a.eval x = ndA n1) (hy : a.eval y = ndA n2)
    (h : wpList Tryz.prog ops Q rest (a.put o.dst (.bool (decide (n1 = n2)))) w) : wpList Tryz.prog ops Q (o :: rest) a w := by
  refine wpList_plain hg fun K' hK' => ?_
  have e1 := run_eqGuard_agg (P := Tryz.prog) w .eql 42 x y #[.int .i64 n1.1, .int .i64 n1.2.1, .int .i64 n1.2.2.1, .string ⟨n1.2.2.2.toArray⟩] #[.int .i64 n2.1, .int .i64 n2.2.1, .int .i64 n2.2.2.1, .string ⟨n2.2.2.2.toArray⟩] nd_guard
  have e2 := nd_eql n1 n2 w
  unfold Oper.wp
  unfold ndA at hx hy e2
  simp only [execOp, hop, hx, hy, Sem.run_bind, e1, Result.andThen_ok]
  simp only [e2, Result.andThen_ok, Sem.run_pure]
  exact hK' _ _ h
end Go.Proofs.YtpmlmibceiolpaaGreatDoor
