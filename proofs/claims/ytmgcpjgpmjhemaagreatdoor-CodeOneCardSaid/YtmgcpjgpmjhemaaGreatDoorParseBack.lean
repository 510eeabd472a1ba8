/-
A line is read as its instruction; what is read, written, is what was read.
-/
import Derived.Test.YtmgcpjgpmjhemaaGreatDoorParseEq
namespace Go.Proofs.YtmgcpjgpmjhemaaGreatDoor.Pc
open Go.RowKit Go.Proofs.YtmgcpjgpmjhemaaGreatDoorW.PrintWords Go.Proofs.YtmgcpjgpmjhemaaGreatDoorW.PrintLast Go.Proofs.YtmgcpjgpmjhemaaGreatDoorW.PrintMore
open CodePure (esc Bs unesc figs)
set_option linter.unusedVariables false

theorem name_facts (op : Int) (h : 0 ≤ op ∧ op ≤ 23) : idxL (nameL op) = op ∧ (∀ c ∈ nameL op, c ≠ 32) ∧ (∀ c ∈ nameL op, c ≠ 10) := by
  have hk : ∀ k : Nat, k < 24 → (decide (idxL (nameL k) = k) && (nameL k).all (fun c => c != 32) && (nameL k).all (fun c => c != 10)) = true := by decide +kernel
  have := hk op.toNat (by omega)
  rw [show ((op.toNat : Nat) : Int) = op by omega] at this
  simp only [Bool.and_eq_true, decide_eq_true_eq, List.all_eq_true, bne_iff_ne] at this
  exact ⟨this.1.1, this.1.2, this.2⟩
theorem idxFrom_at (a : Bs) : ∀ (l : List Bs) (i j : Int), idxFrom a l i = j → 0 ≤ i → i ≤ j → l.getD (j - i).toNat [] = a
  | [], i, j, h, h0, hj => by
    simp only [idxFrom] at h
    omega
  | b :: l, i, j, h, h0, hj => by
    unfold idxFrom at h
    split at h
    · rename_i e
      subst h
      simp [e]
    · rcases idxFrom_lt a l (i + 1) with hx | hx
      · omega
      · have := idxFrom_at a l (i + 1) j h (by omega) (by omega)
        rw [show (j - i).toNat = (j - (i + 1)).toNat + 1 by omega]
        simpa using this
theorem idxL_name {a : Bs} {i : Int} (h : idxL a = i) (hi : 0 ≤ i) : nameL i = a := by
  have := idxFrom_at a namesL 0 i h (Int.le_refl 0) hi
  rwa [show (i - 0).toNat = i.toNat by omega] at this

theorem may_parts {op n : Int} {s : Bs} (h : mayB op n s = true) : (0 ≤ op ∧ op ≤ 23) ∧ (op = 0 → s = []) ∧ (op = 2 → 0 ≤ n ∧ n < 50 ∧ s = []) ∧ (op = 1 → n = 0 ∧ s.length ≤ 1000) ∧ (op ≠ 0 → op ≠ 1 → op ≠ 2 → n = 0 ∧ s = []) := by
  unfold mayB at h
  simp only [Bool.and_eq_true, decide_eq_true_eq] at h
  obtain ⟨⟨h1, h2⟩, h3⟩ := h
  refine ⟨h1, ?_, ?_, ?_, ?_⟩
  · rintro rfl; simpa using h3
  · rintro rfl
    simp at h2 h3
    exact ⟨h2.1, h2.2, h3⟩
  · rintro rfl
    simp at h2 h3
    exact ⟨h2, h3⟩
  · intro a b c
    simp [a, b, c] at h2 h3
    exact ⟨h2, h3⟩

theorem quotedL_esc (s : Bs) : quotedL (34 :: (esc s ++ [34])) = some s := by
  unfold quotedL
  rw [if_neg (by simp), if_neg (by simp)]
  have e : (34 :: (esc s ++ [34])).getLast? = some 34 := by
    rw [show (34 :: (esc s ++ [34]) : Bs) = (34 :: esc s) ++ [34] from rfl, List.getLast?_append]
    simp
  rw [e, if_neg (by simp)]
  simp [CodePure.unesc_esc]
theorem quotedL_back {a t : Bs} (h : quotedL a = some t) : a = 34 :: (esc t ++ [34]) := by
  unfold quotedL at h
  split at h
  · cases h
  · split at h
    · cases h
    · split at h
      · cases h
      · rename_i h1 h2 h3
        have h2' : a.head? = some 34 := Decidable.not_not.1 h2
        have h3' : a.getLast? = some 34 := Decidable.not_not.1 h3
        have := CodePure.esc_unesc h
        rw [this]
        cases a with
        | nil => simp at h1
        | cons c r =>
          simp at h2'
          subst h2'
          simp only [List.drop_succ_cons, List.drop_zero]
          have hr : r ≠ [] := by rintro rfl; simp at h1
          have hl : r.getLast? = some 34 := by rwa [List.getLast?_cons_of_ne_nil hr] at h3'
          congr 1
          have hx := List.dropLast_concat_getLast hr
          rw [List.getLast?_eq_some_getLast hr] at hl
          injection hl with hl
          rw [hl] at hx
          exact hx.symm

theorem parse_line (op n : Int) (s : Bs) (hn : wfI n) (h : mayB op n s = true) : parseL (lineL op n s) = some (op, n, s) := by
  obtain ⟨hop, p0, p2, p1, pe⟩ := may_parts h
  obtain ⟨f1, f2, f3⟩ := name_facts op hop
  unfold lineL
  by_cases h02 : op = 0 ∨ op = 2
  · rw [if_pos h02]
    have hs : s = [] := by rcases h02 with e | e; exact p0 e; exact (p2 e).2.2
    subst hs
    rw [List.append_assoc, show ([32] ++ Lib.itoa n : Bs) = 32 :: Lib.itoa n from rfl]
    unfold parseL
    rw [cut1_app _ _ f2]
    simp only [f1]
    rw [if_pos h02, CodePure.figs_itoa n hn.1 hn.2]
    simp [h]
  · rw [if_neg h02]
    by_cases h1 : op = 1
    · subst h1
      obtain ⟨rfl, _⟩ := p1 rfl
      rw [if_pos rfl, show (nameL 1 ++ [32, 34] ++ esc s ++ [34] : Bs) = nameL 1 ++ 32 :: (34 :: (esc s ++ [34])) by simp]
      unfold parseL
      rw [cut1_app _ _ f2]
      simp only [f1]
      rw [if_neg h02, if_pos trivial, quotedL_esc]
      simp [h]
    · rw [if_neg h1]
      obtain ⟨rfl, rfl⟩ := pe (fun e => h02 (.inl e)) h1 (fun e => h02 (.inr e))
      unfold parseL
      rw [cut1_none _ f2]
      simp only [f1]
      rw [if_neg h02, if_neg h1, if_pos ⟨hop.1, trivial, h⟩]

theorem line_parse {s : Bs} {i n : Int} {t : Bs} (h : parseL s = some (i, n, t)) : mayB i n t = true ∧ lineL i n t = s ∧ wfI n := by
  have hb := cut1_back s
  unfold parseL at h
  generalize cut1 s = p at *
  obtain ⟨a, r, m⟩ := p
  simp only at h hb
  have hw0 : wfI 0 := ⟨by decide, by decide⟩
  split at h
  · rename_i h02
    split at h
    · rename_i v hv
      split at h
      · rename_i hm
        simp only [Option.some.injEq, Prod.mk.injEq] at h
        obtain ⟨rfl, rfl, rfl⟩ := h
        refine ⟨hm, ?_, figs_wf hv⟩
        have hi0 : 0 ≤ idxL a := by omega
        have hnm := idxL_name (a := a) rfl hi0
        have hit := CodePure.figs_some hv
        unfold lineL
        rw [if_pos h02, hnm, hit]
        cases m with
        | true => rw [hb.1 rfl]; simp
        | false =>
          obtain ⟨_, rfl⟩ := hb.2 rfl
          rw [CodePure.figs_nil] at hv
          cases hv
      · cases h
    · cases h
  · rename_i h02
    split at h
    · rename_i h1
      split at h
      · rename_i v hv
        split at h
        · rename_i hm
          simp only [Option.some.injEq, Prod.mk.injEq] at h
          obtain ⟨rfl, rfl, rfl⟩ := h
          refine ⟨hm, ?_, hw0⟩
          have hnm := idxL_name (a := a) h1 (by decide)
          have hq := quotedL_back hv
          unfold lineL
          rw [if_neg (by decide), if_pos rfl, hnm]
          cases m with
          | true => rw [hb.1 rfl, hq]; simp
          | false =>
            obtain ⟨_, rfl⟩ := hb.2 rfl
            cases hq
        · cases h
      · cases h
    · rename_i h1
      split at h
      · rename_i hc
        simp only [Option.some.injEq, Prod.mk.injEq] at h
        obtain ⟨rfl, rfl, rfl⟩ := h
        refine ⟨hc.2.2, ?_, hw0⟩
        have hnm := idxL_name (a := a) rfl hc.1
        unfold lineL
        rw [if_neg h02, if_neg h1, hnm]
        exact (hb.2 hc.2.1).1.symm
      · cases h

theorem line_no10 (op n : Int) (s : Bs) (hop : 0 ≤ op ∧ op ≤ 23) : ∀ c ∈ lineL op n s, c ≠ 10 := by
  obtain ⟨_, _, f3⟩ := name_facts op hop
  have f1 := (name_facts 1 (by decide)).2.2
  intro c hc
  unfold lineL at hc
  split at hc
  · rcases List.mem_append.1 hc with hc | hc
    · rcases List.mem_append.1 hc with hc | hc
      · exact f3 c hc
      · simp at hc; rw [hc]; decide
    · exact CodePure.itoa_no n 10 (.inl rfl) c hc
  · split at hc
    · rcases List.mem_append.1 hc with hc | hc
      · rcases List.mem_append.1 hc with hc | hc
        · rcases List.mem_append.1 hc with hc | hc
          · exact f1 c hc
          · simp at hc; rcases hc with rfl | rfl <;> decide
        · exact CodePure.esc_no10 s c hc
      · simp at hc; rw [hc]; decide
    · exact f3 c hc
end Go.Proofs.YtmgcpjgpmjhemaaGreatDoor.Pc
