/-
The contract of value.Arity in the form that the printed walks take.
-/
import Derived.Test.YtmgcpjgpmjhemaaGreatDoorExtOps
namespace Go.Proofs.YtmgcpjgpmjhemaaGreatDoor.Pc
open Go.RowKit Go.Proofs.YtmgcpjgpmjhemaaGreatDoorW.PrintWords Go.Proofs.YtmgcpjgpmjhemaaGreatDoorW.PrintLast Go.Proofs.YtmgcpjgpmjhemaaGreatDoorW.PrintMore
set_option linter.unusedVariables false

def rowAt (n : Int) : List OpRow → Option OpRow
  | [] => none
  | r :: l => match rowAt n l with
    | some x => some x
    | none => if r.key = n then some r else none

theorem putAll_at (l : List (Int × Value)) (rows : List OpRow) (w : World) (base : Nat) (n : Int) (z : Value) (h : All2 (OpIs w base) l rows) :
    ∀ D : DataW Value, Maps.IsMap D → ∃ v, (l.foldl (fun D p => D.put (.int .i64 p.1) (.held p.2)) D).atKey (.int .i64 n) (.held z) = v ∧
      match rowAt n rows with
      | some r => ∃ p, v = .held p ∧ OpIs w base (n, p) r
      | none => v = D.atKey (.int .i64 n) (.held z) := by
  induction h with
  | nil => intro D hD; exact ⟨_, rfl, rfl⟩
  | @cons p r l rows hp _ ih =>
    intro D hD
    obtain ⟨v, hv, hm⟩ := ih (D.put (.int .i64 p.1) (.held p.2)) (hD.put _ _)
    refine ⟨v, hv, ?_⟩
    simp only [rowAt]
    cases hr : rowAt n rows with
    | some x => rw [hr] at hm; exact hm
    | none =>
      rw [hr] at hm
      simp only at hm ⊢
      by_cases hk : r.key = n
      · rw [if_pos hk]
        have e : p.1 = n := hp.1.trans hk
        rw [e, Maps.atKey_put_same hD (show WideAt.IsKeyLit (.int .i64 n) from trivial)] at hm
        exact ⟨p.2, hm, ⟨hk.symm, hp.2⟩⟩
      · rw [if_neg hk]
        simp only
        rw [Maps.atKey_put_other (by intro e; injection e with _ e; exact hk (hp.1.symm.trans e.symm))] at hm
        exact hm

def opZero : Value := .agg #[.slice none 0 0, .int .i64 0, .nilFunc]
theorem opZero_is (w : World) : (zeroValue 167).run Tryz.prog w = .ok opZero w := by kernel_rfl

theorem ops_lookup {w : World} {base b : Nat} {rows : List OpRow} (H : OpsSt w base b rows) (n : Int) (hwf : (Lit.int .i64 n).wf = true) :
    ∃ v, (Instr.lookup 168 (.map (some b)) (.int .i64 n) false).run Tryz.prog w = .ok v w ∧
      match rowAt n rows with
      | some r => OpIs w base (n, v) r
      | none => v = opZero := by
  obtain ⟨_, l, hm, hf⟩ := H
  obtain ⟨v, ps, hrun, hv⟩ := World.ownsMap.lookup hm (Go.Maps.int_keyed Tryz.underlying3) Tryz.underlying168 (opZero_is w) (show RV opZero = _ from rfl) (Go.Maps.keyOf_int_mk Tryz.underlying3 hwf)
  refine ⟨v, hrun, ?_⟩
  have hv' : DataW.held v = (putAll l).atKey (.int .i64 n) (.held opZero) := by
    simp only [RV, Option.some.injEq, Prod.mk.injEq] at hv
    exact hv.1
  obtain ⟨d, hd, hmatch⟩ := putAll_at l rows w base n opZero hf (.map []) ⟨_, rfl⟩
  unfold putAll at hv'
  rw [hd] at hv'
  cases hr : rowAt n rows with
  | some r =>
    rw [hr] at hmatch
    obtain ⟨p, rfl, hp⟩ := hmatch
    injection hv' with e
    subst e
    exact hp
  | none =>
    rw [hr] at hmatch
    simp only at hmatch
    rw [hmatch] at hv'
    have e2 : (DataW.map ([] : List (Lit × DataW Value))).atKey (.int .i64 n) (.held opZero) = .held opZero := rfl
    rw [e2] at hv'
    injection hv' with e

def arity (n : Int) : Int := match rowAt n opRows with
  | some r => r.takes.length
  | none => 0
def value_Arity.f (a0 : Int) : Option Int := if (Lit.int .i64 a0).wf = true then some (arity a0) else none

theorem field_takes (A : Option Addr) (n c : Nat) (t f : Value) (W : World) : (Instr.field 167 (.agg #[.slice A n c, t, f]) 0).run Tryz.prog W = .ok (.slice A n c) W := by
  kernel_rfl

set_option maxRecDepth 100000 in
theorem value_Arity.calls (a0 : Int) (r : Int) (w : World) (h : value_Arity.f a0 = some r) :
    Calls Tryz.prog 98 #[.int .i64 a0] w fun e w' => e = .returned (.int .i64 r) ∧ Below w.heap.size w w' := by
  unfold value_Arity.f at h
  split at h
  · rename_i hwf
    have HR := Aside0.mk (Option.some.inj h)
    have HWF := Aside0.mk hwf
    clear h hwf
    have hfd := field_takes
    go_enter Tryz.func98, Tryz.ntmps98
    go_wp2_with fail
    refine (ops_call w).mono ?_
    rintro e w' ⟨b, rfl, hs, hb⟩
    obtain ⟨v, hrun, hm⟩ := ops_lookup hs a0 HWF.out
    have HB := Aside0.mk hb
    have HS := Aside0.mk hs
    clear hb hs
    have hv : ∃ A n c t f, v = .agg #[.slice A n c, t, f] ∧ (n : Int) = r := by
      have hr := HR.out
      unfold arity at hr
      cases hq : rowAt a0 opRows with
      | some x =>
        rw [hq] at hm hr
        obtain ⟨_, g, _, hg, _⟩ := hm
        exact ⟨_, _, _, _, _, hg, hr⟩
      | none =>
        rw [hq] at hm hr
        exact ⟨_, _, _, _, _, hm, hr⟩
    clear hm
    obtain ⟨A, n, c, t, f, rfl, rfl⟩ := hv
    go_wp2
    go_ret
    exact ⟨rfl, HB.out⟩
  · cases h
end Go.Proofs.YtmgcpjgpmjhemaaGreatDoor.Pc
