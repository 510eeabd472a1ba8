/-
An instruction laid open.
-/
import Derived.Test.YtmgcpjgpmjhemaaGreatDoorRowBase
import Derived.Test.YtmgcpjgpmjhemaaGreatDoorLinePure
import Derived.Deep.Strs
namespace Go.Proofs.YtmgcpjgpmjhemaaGreatDoor.Pc
open Go.ChangeShapes Go.WideShapes Go.ChangeAt Go.RowKit Go.Deep
set_option linter.unusedVariables false

theorem laidOut : laidOutB Tryz.prog = true := by kernel_rfl
theorem cells_int : Tryz.prog.cellsOf 3 = 1 := by kernel_rfl
theorem cells_str : Tryz.prog.cellsOf 9 = 1 := by kernel_rfl
theorem cells_ins : Tryz.prog.cellsOf 23 = 3 := by kernel_rfl
theorem wfI_of {n : Int} (h : (Lit.int .i64 n).wf = true) : wfI n := by
  simp only [Lit.wf, Bool.and_eq_true, decide_eq_true_eq] at h
  have hmin : IntKind.i64.min = -9223372036854775808 := rfl
  have hmax : IntKind.i64.max = 9223372036854775807 := rfl
  exact ⟨by omega, by omega⟩

set_option maxRecDepth 100000 in
/-- An instruction, laid open: its three cells. -/
theorem open_ins {H : Type} {enc : TypeId × Value → H} {w : World} {base : Nat} {sp : Nat → Bool} {held : Bool} {fuel : Nat} {cs : List Value} {x : DataW H × List MemPlace}
    (h : DataW.trod enc Tryz.prog w base sp held fuel 23 cs = some x) : ∃ (op n : Int) (s : ByteArray), cs = [.int .i64 op, .int .i64 n, .string s] ∧ wfI op ∧ wfI n := by
  obtain ⟨y0, y1, y2, m, hx, hl, hy0, hy1, hy2⟩ := trod_struct3 Tryz.underlying23 h
  rw [cells_ins] at hl
  match cs, hl with
  | [c0, c1, c2], _ =>
  simp only [cells_int, cells_str, List.drop_succ_cons, List.drop_zero, List.take_succ_cons, List.take_zero] at hy0 hy1 hy2
  obtain ⟨a, e0, _, wa⟩ := DataW.trod_int Tryz.underlying3 hy0
  obtain ⟨b, e1, _, wb⟩ := DataW.trod_int Tryz.underlying3 hy1
  obtain ⟨s, e2, _, _⟩ := DataW.trod_string Tryz.underlying9 hy2
  simp only [List.cons.injEq, and_true] at e0 e1 e2
  subst e0 e1 e2
  exact ⟨a, b, s, rfl, wfI_of wa, wfI_of wb⟩
end Go.Proofs.YtmgcpjgpmjhemaaGreatDoor.Pc
