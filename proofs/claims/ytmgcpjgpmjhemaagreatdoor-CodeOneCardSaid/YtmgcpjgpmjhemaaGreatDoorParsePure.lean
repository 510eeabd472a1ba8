/-
What code.Parse computes, said plainly; a line is read as its instruction; what is read, written, is what was read.
-/
import Derived.Test.YtmgcpjgpmjhemaaGreatDoorPrintPure
import Derived.Test.YtmgcpjgpmjhemaaGreatDoorPc5
namespace Go.Proofs.YtmgcpjgpmjhemaaGreatDoor.Pc
open Go.RowKit Go.Proofs.YtmgcpjgpmjhemaaGreatDoorW.PrintWords Go.Proofs.YtmgcpjgpmjhemaaGreatDoorW.PrintLast Go.Proofs.YtmgcpjgpmjhemaaGreatDoorW.PrintMore
open CodePure (esc Bs unesc figs)
set_option linter.unusedVariables false

/-- The text before the first blank, behind it, and whether there is one. -/
def cut1 : Bs → Bs × Bs × Bool
  | [] => ([], [], false)
  | c :: r => if c = 32 then ([], r, true) else ((c :: (cut1 r).1), (cut1 r).2.1, (cut1 r).2.2)

theorem cut_cut1 (s : Bs) : Lib.cut s [32] = cut1 s := by
  induction s with
  | nil => rfl
  | cons c r ih =>
    by_cases hc : c = 32
    · subst hc
      have : Lib.index (32 :: r) [32] = 0 := by simp [Lib.index]
      simp [Lib.cut, this, cut1]
    · have hge := Lib.index_ge r [32]
      have hp : ([32] : Bs).isPrefixOf (c :: r) = false := by
        simp [List.isPrefixOf]
        exact fun h => hc h.symm
      have hi : Lib.index (c :: r) [32] = if Lib.index r [32] = -1 then -1 else Lib.index r [32] + 1 := by
        simp [Lib.index, hp]
      unfold cut1
      rw [if_neg hc, ← ih]
      unfold Lib.cut
      rw [hi]
      by_cases h1 : Lib.index r [32] = -1
      · rw [if_pos h1, h1]
        simp
      · rw [if_neg h1]
        have h2 : 0 ≤ Lib.index r [32] := by omega
        rw [if_pos h2, if_pos (by omega)]
        have e : (Lib.index r [32] + 1).toNat = (Lib.index r [32]).toNat + 1 := by omega
        simp [e]

theorem cut1_app (a r : Bs) (h : ∀ c ∈ a, c ≠ 32) : cut1 (a ++ 32 :: r) = (a, r, true) := by
  induction a with
  | nil => simp [cut1]
  | cons c a ih =>
    have hc : c ≠ 32 := h c List.mem_cons_self
    have := ih (fun x hx => h x (List.mem_cons_of_mem _ hx))
    simp only [List.cons_append, cut1, if_neg hc, this]
theorem cut1_none (a : Bs) (h : ∀ c ∈ a, c ≠ 32) : cut1 a = (a, [], false) := by
  induction a with
  | nil => rfl
  | cons c a ih =>
    have hc : c ≠ 32 := h c List.mem_cons_self
    have := ih (fun x hx => h x (List.mem_cons_of_mem _ hx))
    simp only [cut1, if_neg hc, this]
theorem cut1_back (s : Bs) : ((cut1 s).2.2 = true → s = (cut1 s).1 ++ 32 :: (cut1 s).2.1) ∧ ((cut1 s).2.2 = false → s = (cut1 s).1 ∧ (cut1 s).2.1 = []) := by
  induction s with
  | nil => exact ⟨(fun h => by cases h), fun _ => ⟨rfl, rfl⟩⟩
  | cons c r ih =>
    unfold cut1
    by_cases hc : c = 32
    · subst hc
      simp
    · simp only [if_neg hc]
      exact ⟨(fun h => congrArg (c :: ·) (ih.1 h)), fun h => ⟨congrArg (c :: ·) (ih.2 h).1, (ih.2 h).2⟩⟩
theorem cut1_len (s : Bs) : (cut1 s).1.length ≤ s.length ∧ (cut1 s).2.1.length ≤ s.length := by
  induction s with
  | nil => exact ⟨Nat.le_refl _, Nat.le_refl _⟩
  | cons c r ih =>
    unfold cut1
    by_cases hc : c = 32
    · simp [if_pos hc]
    · simp only [if_neg hc, List.length_cons]; omega

/-- The place of a name among the names, or -1. -/
def idxFrom (a : Bs) : List Bs → Int → Int
  | [], _ => -1
  | b :: l, i => if a = b then i else idxFrom a l (i + 1)
def idxL (a : Bs) : Int := idxFrom a namesL 0
theorem index_run (a1 : ByteArray) (L : List ByteArray) : ∀ (m i k : Nat), m = L.length - i → i ≤ L.length → m < k → L.length < 1000 →
    slices_Index_string_string.l0 k L a1 (L.length : Int) i = some (idxFrom a1.data.toList ((L.drop i).map (·.data.toList)) i) := by
  intro m
  induction m with
  | zero =>
    intro i k hm hi hk hL
    have he : i = L.length := by omega
    subst he
    cases k with
    | zero => omega
    | succ k => simp [slices_Index_string_string.l0, idxFrom]
  | succ m ih =>
    intro i k hm hi hk hL
    cases k with
    | zero => omega
    | succ k =>
      have hlt : i < L.length := by omega
      have hd : L.drop i = L[i] :: L.drop (i + 1) := List.drop_eq_getElem_cons hlt
      have hr : rdOf ByteArray.empty L (i : Int) = L[i] := by simp [rdOf, hlt]
      have hw : wrap64 ((i : Int) + 1) = ((i + 1 : Nat) : Int) := by
        unfold wrap64; omega
      simp only [slices_Index_string_string.l0]
      rw [if_pos (by omega), if_pos (by omega), if_pos (by omega), hr, hd, hw, ih (i + 1) k (by omega) (by omega) (by omega) hL]
      simp only [List.map_cons, idxFrom, ByteArray.toList_eq]
      by_cases he : a1.data.toList = L[i].data.toList
      · rw [if_pos he, if_pos he]
      · rw [if_neg he, if_neg he]; simp
theorem index_eq (k : Nat) (hk : 30 ≤ k) (a1 : ByteArray) : slices_Index_string_string.f k namesB a1 = some (idxL a1.data.toList) := by
  have hl : namesB.length = 24 := by decide +kernel
  unfold slices_Index_string_string.f idxL
  have := index_run a1 namesB 24 0 k (by omega) (by omega) (by omega) (by omega)
  have e : ((namesB.drop 0).map (·.data.toList)) = namesL := by decide +kernel
  rw [e] at this
  exact this

def quotedL (a : Bs) : Option Bs := if a.length < 2 then none else if a.head? ≠ some 34 then none else if a.getLast? ≠ some 34 then none else unesc (a.drop 1).dropLast

def parseL (s : Bs) : Option (Int × Int × Bs) :=
  let i := idxL (cut1 s).1
  if i = 0 ∨ i = 2 then match figs (cut1 s).2.1 with
    | some n => if mayB i n [] then some (i, n, []) else none
    | none => none
  else if i = 1 then match quotedL (cut1 s).2.1 with
    | some t => if mayB 1 0 t then some (1, 0, t) else none
    | none => none
  else if 0 ≤ i ∧ (cut1 s).2.2 = false ∧ mayB i 0 [] = true then some (i, 0, []) else none

def parseR (s : Bs) : Int × Int × ByteArray × Int := match parseL s with
  | some (i, n, t) => (i, n, bs t, 0)
  | none => (0, 0, ⟨#[]⟩, 3)

theorem idxFrom_lt (a : Bs) : ∀ (l : List Bs) (i : Int), idxFrom a l i = -1 ∨ (i ≤ idxFrom a l i ∧ idxFrom a l i < i + l.length)
  | [], i => .inl rfl
  | b :: l, i => by
    unfold idxFrom
    split
    · right; simp; omega
    · rcases idxFrom_lt a l (i + 1) with h | h
      · exact .inl h
      · right; simp; omega
theorem idxL_lt (a : Bs) : idxL a = -1 ∨ (0 ≤ idxL a ∧ idxL a ≤ 23) := by
  rcases idxFrom_lt a namesL 0 with h | h
  · exact .inl h
  · right
    have hl : namesL.length = 24 := by decide +kernel
    rw [hl] at h
    unfold idxL
    omega
theorem wf_idx (a : Bs) : wfI (idxL a) := by
  rcases idxL_lt a with h | h
  · rw [h]; exact ⟨by decide, by decide⟩
  · exact ⟨by omega, by omega⟩
end Go.Proofs.YtmgcpjgpmjhemaaGreatDoor.Pc
