/-
What code.isOp, code.May and code.Name compute, said plainly.
-/
import Derived.Test.YtmgcpjgpmjhemaaGreatDoorPc2
import Derived.Test.YtmgcpjgpmjhemaaGreatDoorPc4
import Derived.Test.YtmgcpjgpmjhemaaGreatDoorCodePure
namespace Go.Proofs.YtmgcpjgpmjhemaaGreatDoor.Pc
open Go.RowKit Go.Proofs.YtmgcpjgpmjhemaaGreatDoorW.PrintWords Go.Proofs.YtmgcpjgpmjhemaaGreatDoorW.PrintLast Go.Proofs.YtmgcpjgpmjhemaaGreatDoorW.PrintMore
open CodePure (esc Bs)
set_option linter.unusedVariables false

def bs (l : List UInt8) : ByteArray := ⟨l.toArray⟩
theorem bs_append (a b : List UInt8) : bs (a ++ b) = bs a ++ bs b := by
  apply ByteArray.ext
  simp [bs, ByteArray.data_append]
def nameL (op : Int) : List UInt8 := namesL.getD op.toNat []
def lineL (op n : Int) (s : List UInt8) : List UInt8 :=
  if op = 0 ∨ op = 2 then nameL op ++ [32] ++ Lib.itoa n else if op = 1 then nameL 1 ++ [32, 34] ++ esc s ++ [34] else nameL op
def mayB (op n : Int) (s : List UInt8) : Bool :=
  decide (0 ≤ op ∧ op ≤ 23) && (if op = 0 then true else if op = 2 then decide (0 ≤ n ∧ n < 50) else decide (n = 0)) && (if op = 1 then decide (s.length ≤ 1000) else decide (s = []))
def wfI (n : Int) : Prop := -9223372036854775808 ≤ n ∧ n ≤ 9223372036854775807
instance (n : Int) : Decidable (wfI n) := inferInstanceAs (Decidable (_ ∧ _))
theorem wfI_wf {n : Int} (h : wfI n) : (Lit.int .i64 n).wf = true := by
  obtain ⟨h1, h2⟩ := h
  have hmin : IntKind.i64.min = -9223372036854775808 := rfl
  have hmax : IntKind.i64.max = 9223372036854775807 := rfl
  simp only [Lit.wf, Bool.and_eq_true, decide_eq_true_eq]
  omega

theorem rowAt_none (n : Int) (l : List OpRow) (h : ∀ r ∈ l, r.key ≠ n) : rowAt n l = none := by
  induction l with
  | nil => rfl
  | cons r l ih =>
    simp only [rowAt, ih (fun r hr => h r (List.mem_cons_of_mem _ hr)), if_neg (h r List.mem_cons_self)]
theorem keys_in : opRows.all (fun r => decide (4 ≤ r.key ∧ r.key ≤ 21)) = true := by decide +kernel
theorem arity_pos (n : Int) : decide (0 < arity n) = decide (4 ≤ n ∧ n ≤ 21) := by
  by_cases h : 4 ≤ n ∧ n ≤ 21
  · have hk : ∀ k : Nat, k < 18 → decide (0 < arity (4 + k)) = true := by decide +kernel
    have := hk (n - 4).toNat (by omega)
    rw [show (4 : Int) + ((n - 4).toNat : Nat) = n by omega] at this
    rw [this]
    simp [h]
  · have hn : rowAt n opRows = none := rowAt_none n _ fun r hr e => by
      have := List.all_eq_true.1 keys_in r hr
      simp only [decide_eq_true_eq] at this
      omega
    have e : arity n = 0 := by
      unfold arity
      rw [hn]
    rw [e]
    simp [h]

theorem isOp_eq (op : Int) (h : wfI op) : code_isOp.f op = some (decide (0 ≤ op ∧ op ≤ 23)) := by
  have ha : value_Arity.f op = some (arity op) := if_pos (wfI_wf h)
  have hp := arity_pos op
  unfold code_isOp.f
  rw [ha]
  by_cases h0 : op ≥ 0
  · rw [if_pos h0]
    by_cases h3 : op ≤ 3
    · rw [if_pos h3]; congr 1; symm; simp; omega
    · rw [if_neg h3]
      by_cases h22 : op = 22
      · rw [if_pos h22]; congr 1; symm; simp; omega
      · rw [if_neg h22]
        by_cases h23 : op = 23
        · rw [if_pos h23]; congr 1; symm; simp; omega
        · rw [if_neg h23]
          show some (decide (0 < arity op)) = _
          rw [hp]
          congr 1
          rw [decide_eq_decide]
          omega
  · rw [if_neg h0, if_neg (by omega), if_neg (by omega)]
    show some (decide (0 < arity op)) = _
    rw [hp]
    congr 1
    rw [decide_eq_decide]
    omega

theorem may_eq (op n : Int) (s : ByteArray) (h : wfI op) : code_May.f op n s = some (mayB op n s.data.toList) := by
  have hl : s.toList = s.data.toList := ByteArray.toList_eq s
  have hs : (s.toList == ([] : List UInt8)) = decide (s.data.toList = []) := by
    rw [hl]
    cases s.data.toList <;> rfl
  have hz : (s.data.toList).length = s.size := by simp
  unfold code_May.f mayB
  rw [isOp_eq op h, hs, hz]
  simp only [Option.bind_some]
  by_cases h0 : op = 0
  · subst h0
    simp
  · by_cases h1 : op = 1
    · subst h1
      by_cases hn : n = 0
      · subst hn; simp; omega
      · simp [hn]
    · by_cases h2 : op = 2
      · subst h2
        by_cases hn : n ≥ 0
        · by_cases hm : n < 50
          · simp [hn, hm]
          · simp [hn, hm]
        · simp [hn]
      · rw [if_neg h0, if_neg h1, if_neg h2]
        by_cases hn : n = 0
        · subst hn
          by_cases hi : 0 ≤ op ∧ op ≤ 23
          · simp [hi, h0, h1, h2]
          · simp [hi]
        · by_cases hi : 0 ≤ op ∧ op ≤ 23
          · simp [hi, h0, h1, h2, hn]
          · simp [hi, hn]

theorem name_eq (op : Int) (h0 : 0 ≤ op) (h1 : op ≤ 23) : code_Name.f op = some (bs (nameL op)) := by
  have hk : ∀ k : Nat, k < 24 → (code_Name.f k).map (·.data) = some (nameL k).toArray := by decide +kernel
  have := hk op.toNat (by omega)
  rw [show ((op.toNat : Nat) : Int) = op by omega] at this
  cases hq : code_Name.f op with
  | none => rw [hq] at this; cases this
  | some b =>
    rw [hq] at this
    simp only [Option.map_some, Option.some.injEq] at this
    cases b with
    | mk d => rw [show d = (nameL op).toArray from this]; rfl
end Go.Proofs.YtmgcpjgpmjhemaaGreatDoor.Pc
