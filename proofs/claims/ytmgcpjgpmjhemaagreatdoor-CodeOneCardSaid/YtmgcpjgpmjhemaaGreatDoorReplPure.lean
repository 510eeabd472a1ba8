/-
How long 'esc' makes a text; when it leaves it as it is.
-/
import Derived.Test.YtmgcpjgpmjhemaaGreatDoorCodePure
import Derived.Lib.Bytealg
namespace Go.Proofs.YtmgcpjgpmjhemaaGreatDoor.CodePure
open Go

def hitb (c : UInt8) : Bool := c == 10 || c == 92 || c == 34
def hits (l : Bs) : Nat := l.countP hitb

theorem esc1_len (c : UInt8) : (esc1 c).length = 1 + (if hitb c then 1 else 0) := by
  unfold esc1 hitb
  by_cases h1 : c = 34
  · subst h1; rfl
  · by_cases h2 : c = 92
    · subst h2; rfl
    · by_cases h3 : c = 10
      · subst h3; rfl
      · simp [h1, h2, h3]
theorem esc1_same {c : UInt8} (h : hitb c = false) : esc1 c = [c] := by
  have hl := esc1_len c
  unfold hitb at h
  simp at h
  simp [esc1, h]

theorem esc_len (l : Bs) : (esc l).length = l.length + hits l := by
  induction l with
  | nil => rfl
  | cons c l ih =>
    simp only [esc, List.flatMap_cons, List.length_append] at ih ⊢
    rw [show (l.flatMap esc1).length = (esc l).length from rfl] at ih ⊢
    simp only [hits, List.countP_cons, List.length_cons, esc1_len]
    rw [ih]
    simp only [hits]
    omega
theorem esc_same {l : Bs} (h : hits l = 0) : esc l = l := by
  induction l with
  | nil => rfl
  | cons c l ih =>
    have h1 : hitb c = false := by
      simp only [hits, List.countP_cons] at h
      by_cases hc : hitb c = true
      · simp [hc] at h
      · simpa using hc
    have h2 : hits l = 0 := by
      simp only [hits, List.countP_cons] at h ⊢
      omega
    simp only [esc, List.flatMap_cons, esc1_same h1]
    exact congrArg (c :: ·) (ih h2)
theorem hits_counts (l : Bs) : Lib.countByte l 10 + Lib.countByte l 92 + Lib.countByte l 34 = hits l := by
  induction l with
  | nil => rfl
  | cons c l ih =>
    simp only [Lib.countByte, hits, List.countP_cons, List.count_cons] at ih ⊢
    rw [← ih]
    unfold hitb
    by_cases h1 : c = 34
    · subst h1; simp; omega
    · by_cases h2 : c = 92
      · subst h2; simp; omega
      · by_cases h3 : c = 10
        · subst h3; simp; omega
        · simp [h1, h2, h3]
theorem hits_take {l : Bs} {k : Nat} {c : UInt8} (h : l[k]? = some c) : hits (l.take (k + 1)) = hits (l.take k) + (if hitb c then 1 else 0) := by
  rw [List.take_add_one, h]
  simp [hits, List.countP_append, List.countP_cons]
theorem esc_take {l : Bs} {k : Nat} {c : UInt8} (h : l[k]? = some c) : esc (l.take (k + 1)) = esc (l.take k) ++ esc1 c := by
  rw [List.take_add_one, h]
  simp [esc]
theorem hits_take_le (l : Bs) (k : Nat) : hits (l.take k) ≤ hits l := by
  have := List.take_append_drop k l
  have h : hits l = hits (l.take k) + hits (l.drop k) := by
    conv => lhs; rw [← this]
    exact List.countP_append
  omega
theorem hits_le (l : Bs) : hits l ≤ l.length := List.countP_le_length
theorem esc_take_len_le (l : Bs) (k : Nat) : (esc (l.take k)).length ≤ (esc l).length := by
  rw [esc_len, esc_len]
  have := hits_take_le l k
  simp
  omega
end Go.Proofs.YtmgcpjgpmjhemaaGreatDoor.CodePure
