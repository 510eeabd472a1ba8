/-
What code.Print computes, said plainly.
-/
import Derived.Test.YtmgcpjgpmjhemaaGreatDoorLinePure
import Derived.Test.YtmgcpjgpmjhemaaGreatDoorReplPure
import Derived.Lib.ItoaLen
namespace Go.Proofs.YtmgcpjgpmjhemaaGreatDoor.Pc
open Go.RowKit Go.Proofs.YtmgcpjgpmjhemaaGreatDoorW.PrintWords Go.Proofs.YtmgcpjgpmjhemaaGreatDoorW.PrintLast Go.Proofs.YtmgcpjgpmjhemaaGreatDoorW.PrintMore
open CodePure (esc Bs)
set_option linter.unusedVariables false

def lineS (x : S23) : List UInt8 := lineL x.f0 x.f1 x.f2.data.toList
def mayS (x : S23) : Bool := mayB x.f0 x.f1 x.f2.data.toList
def okS (x : S23) : Prop := wfI x.f0 ∧ wfI x.f1 ∧ x.f2.size ≤ 100000
instance (x : S23) : Decidable (okS x) := inferInstanceAs (Decidable (_ ∧ _))
def linesL (l : List S23) : List UInt8 := l.flatMap fun x => lineS x ++ [10]

theorem lineL_len (op n : Int) (s : List UInt8) (h1 : wfI n) (hs : s.length ≤ 100000) (hop : 0 ≤ op ∧ op ≤ 23) : (lineL op n s).length ≤ 200100 := by
  have hk : ∀ k : Nat, k < 24 → (nameL k).length ≤ 6 := by decide +kernel
  have hn := hk op.toNat (by omega)
  rw [show ((op.toNat : Nat) : Int) = op by omega] at hn
  have hi := Lib.itoa_length_le n h1.1 h1.2
  have he := CodePure.esc_length s
  unfold lineL
  split
  · simp; omega
  · split
    · have h1 := hk 1 (by decide)
      rw [show ((1 : Nat) : Int) = 1 from rfl] at h1
      simp; omega
    · omega

theorem mayB_op {op n : Int} {s : List UInt8} (h : mayB op n s = true) : 0 ≤ op ∧ op ≤ 23 := by
  unfold mayB at h
  simp only [Bool.and_eq_true, decide_eq_true_eq] at h
  exact h.1.1
theorem lineS_len (x : S23) (h : okS x) (hm : mayS x = true) : (lineS x).length ≤ 200100 :=
  lineL_len _ _ _ h.2.1 (by have := h.2.2; simpa using this) (mayB_op hm)

theorem linesL_take {l : List S23} {k : Nat} {x : S23} (h : l[k]? = some x) : linesL (l.take (k + 1)) = linesL (l.take k) ++ (lineS x ++ [10]) := by
  rw [List.take_add_one, h]
  simp [linesL]
theorem rd_at {l : List S23} {k : Nat} (hk : k < l.length) : l[k]? = some (rd_T23 l k) := by
  simp [rd_T23, hk]

def code_Print.f (l : List S23) : Option (ByteArray × Int) :=
  if 200 < l.length then some (⟨#[]⟩, 5)
  else if ∀ x ∈ l, okS x then some (if l.all mayS then (bs (linesL l), 0) else (⟨#[]⟩, 1)) else none
end Go.Proofs.YtmgcpjgpmjhemaaGreatDoor.Pc
