/-
Parts of the proof of CodePieces: ParseBack, ReadPure, ReadEq, Pc1, Pc7, Pc11, BackRead, AlivePure, ExtOnce, ExtRepl, ExtReplB, ExtReplC, ExtLine, ExtPrint. No condition of ours.
-/
import Derived.Test.YtmgcpjgpmjhemaaGreatDoorMCodePieces4
import Derived.Lib.Split
import Derived.Lib.SplitLaws
import Derived.Test.YtmgcpjgpmjhemaaGreatDoorMCodePieces1
import Derived.WalkKit
import Derived.Laws.LoneSync
import Derived.Defers
import Derived.WalkSpells
import Derived.Test.YtmgcpjgpmjhemaaGreatDoorMCodePieces2
import Derived.Deep.AppendLies
import Derived.Laws.MakeOwn
import Derived.Laws.IdiomStrings
import Derived.Laws.NewBlocks
import Derived.Lib.SliceRun
import Derived.Deep.WholeRow
import Derived.Outline
import Derived.BigQuiet
import Derived.Laws.CopyOwn
import Derived.Deep.RegionHeld3
import Derived.Test.YtmgcpjgpmjhemaaGreatDoorMCodePieces3
/-
A line is read as its instruction; what is read, written, is what was read.
-/
namespace Go.Proofs.YtmgcpjgpmjhemaaGreatDoor.Pc
open Go.RowKit Go.Proofs.YtmgcpjgpmjhemaaGreatDoorW.PrintWords Go.Proofs.YtmgcpjgpmjhemaaGreatDoorW.PrintLast Go.Proofs.YtmgcpjgpmjhemaaGreatDoorW.PrintMore
open CodePure (esc Bs unesc figs)
set_option linter.unusedVariables false

theorem name_facts (op : Int) (h : 0 ≤ op ∧ op ≤ 23) : idxL (nameL op) = op ∧ (∀ c ∈ nameL op, c ≠ 32) ∧ (∀ c ∈ nameL op, c ≠ 10) := by
  have hk : ∀ k : Nat, k < 24 → (decide (idxL (nameL k) = k) && (nameL k).all (fun c => c != 32) && (nameL k).all (fun c => c != 10)) = true := by decide +kernel
  have := hk op.toNat (by omega)
  rw [show ((op.toNat : Nat) : Int) = op by omega] at this
  simp only [Bool.and_eq_true, decide_eq_true_eq, List.all_eq_true, bne_iff_ne] at this
  exact ⟨this.1.1, this.1.2, this.2⟩
theorem idxFrom_at (a : Bs) : ∀ (l : List Bs) (i j : Int), idxFrom a l i = j → 0 ≤ i → i ≤ j → l.getD (j - i).toNat [] = a
  | [], i, j, h, h0, hj => by
    simp only [idxFrom] at h
    omega
  | b :: l, i, j, h, h0, hj => by
    unfold idxFrom at h
    split at h
    · rename_i e
      subst h
      simp [e]
    · rcases idxFrom_lt a l (i + 1) with hx | hx
      · omega
      · have := idxFrom_at a l (i + 1) j h (by omega) (by omega)
        rw [show (j - i).toNat = (j - (i + 1)).toNat + 1 by omega]
        simpa using this
theorem idxL_name {a : Bs} {i : Int} (h : idxL a = i) (hi : 0 ≤ i) : nameL i = a := by
  have := idxFrom_at a namesL 0 i h (Int.le_refl 0) hi
  rwa [show (i - 0).toNat = i.toNat by omega] at this

theorem may_parts {op n : Int} {s : Bs} (h : mayB op n s = true) : (0 ≤ op ∧ op ≤ 23) ∧ (op = 0 → s = []) ∧ (op = 2 → 0 ≤ n ∧ n < 50 ∧ s = []) ∧ (op = 1 → n = 0 ∧ s.length ≤ 1000) ∧ (op ≠ 0 → op ≠ 1 → op ≠ 2 → n = 0 ∧ s = []) := by
  unfold mayB at h
  simp only [Bool.and_eq_true, decide_eq_true_eq] at h
  obtain ⟨⟨h1, h2⟩, h3⟩ := h
  refine ⟨h1, ?_, ?_, ?_, ?_⟩
  · rintro rfl; simpa using h3
  · rintro rfl
    simp at h2 h3
    exact ⟨h2.1, h2.2, h3⟩
  · rintro rfl
    simp at h2 h3
    exact ⟨h2, h3⟩
  · intro a b c
    simp [a, b, c] at h2 h3
    exact ⟨h2, h3⟩

theorem quotedL_esc (s : Bs) : quotedL (34 :: (esc s ++ [34])) = some s := by
  unfold quotedL
  rw [if_neg (by simp), if_neg (by simp)]
  have e : (34 :: (esc s ++ [34])).getLast? = some 34 := by
    rw [show (34 :: (esc s ++ [34]) : Bs) = (34 :: esc s) ++ [34] from rfl, List.getLast?_append]
    simp
  rw [e, if_neg (by simp)]
  simp [CodePure.unesc_esc]
theorem quotedL_back {a t : Bs} (h : quotedL a = some t) : a = 34 :: (esc t ++ [34]) := by
  unfold quotedL at h
  split at h
  · cases h
  · split at h
    · cases h
    · split at h
      · cases h
      · rename_i h1 h2 h3
        have h2' : a.head? = some 34 := Decidable.not_not.1 h2
        have h3' : a.getLast? = some 34 := Decidable.not_not.1 h3
        have := CodePure.esc_unesc h
        rw [this]
        cases a with
        | nil => simp at h1
        | cons c r =>
          simp at h2'
          subst h2'
          simp only [List.drop_succ_cons, List.drop_zero]
          have hr : r ≠ [] := by rintro rfl; simp at h1
          have hl : r.getLast? = some 34 := by rwa [List.getLast?_cons_of_ne_nil hr] at h3'
          congr 1
          have hx := List.dropLast_concat_getLast hr
          rw [List.getLast?_eq_some_getLast hr] at hl
          injection hl with hl
          rw [hl] at hx
          exact hx.symm

theorem parse_line (op n : Int) (s : Bs) (hn : wfI n) (h : mayB op n s = true) : parseL (lineL op n s) = some (op, n, s) := by
  obtain ⟨hop, p0, p2, p1, pe⟩ := may_parts h
  obtain ⟨f1, f2, f3⟩ := name_facts op hop
  unfold lineL
  by_cases h02 : op = 0 ∨ op = 2
  · rw [if_pos h02]
    have hs : s = [] := by rcases h02 with e | e; exact p0 e; exact (p2 e).2.2
    subst hs
    rw [List.append_assoc, show ([32] ++ Lib.itoa n : Bs) = 32 :: Lib.itoa n from rfl]
    unfold parseL
    rw [cut1_app _ _ f2]
    simp only [f1]
    rw [if_pos h02, CodePure.figs_itoa n hn.1 hn.2]
    simp [h]
  · rw [if_neg h02]
    by_cases h1 : op = 1
    · subst h1
      obtain ⟨rfl, _⟩ := p1 rfl
      rw [if_pos rfl, show (nameL 1 ++ [32, 34] ++ esc s ++ [34] : Bs) = nameL 1 ++ 32 :: (34 :: (esc s ++ [34])) by simp]
      unfold parseL
      rw [cut1_app _ _ f2]
      simp only [f1]
      rw [if_neg h02, if_pos trivial, quotedL_esc]
      simp [h]
    · rw [if_neg h1]
      obtain ⟨rfl, rfl⟩ := pe (fun e => h02 (.inl e)) h1 (fun e => h02 (.inr e))
      unfold parseL
      rw [cut1_none _ f2]
      simp only [f1]
      rw [if_neg h02, if_neg h1, if_pos ⟨hop.1, trivial, h⟩]

theorem line_parse {s : Bs} {i n : Int} {t : Bs} (h : parseL s = some (i, n, t)) : mayB i n t = true ∧ lineL i n t = s ∧ wfI n := by
  have hb := cut1_back s
  unfold parseL at h
  generalize cut1 s = p at *
  obtain ⟨a, r, m⟩ := p
  simp only at h hb
  have hw0 : wfI 0 := ⟨by decide, by decide⟩
  split at h
  · rename_i h02
    split at h
    · rename_i v hv
      split at h
      · rename_i hm
        simp only [Option.some.injEq, Prod.mk.injEq] at h
        obtain ⟨rfl, rfl, rfl⟩ := h
        refine ⟨hm, ?_, figs_wf hv⟩
        have hi0 : 0 ≤ idxL a := by omega
        have hnm := idxL_name (a := a) rfl hi0
        have hit := CodePure.figs_some hv
        unfold lineL
        rw [if_pos h02, hnm, hit]
        cases m with
        | true => rw [hb.1 rfl]; simp
        | false =>
          obtain ⟨_, rfl⟩ := hb.2 rfl
          rw [CodePure.figs_nil] at hv
          cases hv
      · cases h
    · cases h
  · rename_i h02
    split at h
    · rename_i h1
      split at h
      · rename_i v hv
        split at h
        · rename_i hm
          simp only [Option.some.injEq, Prod.mk.injEq] at h
          obtain ⟨rfl, rfl, rfl⟩ := h
          refine ⟨hm, ?_, hw0⟩
          have hnm := idxL_name (a := a) h1 (by decide)
          have hq := quotedL_back hv
          unfold lineL
          rw [if_neg (by decide), if_pos rfl, hnm]
          cases m with
          | true => rw [hb.1 rfl, hq]; simp
          | false =>
            obtain ⟨_, rfl⟩ := hb.2 rfl
            cases hq
        · cases h
      · cases h
    · rename_i h1
      split at h
      · rename_i hc
        simp only [Option.some.injEq, Prod.mk.injEq] at h
        obtain ⟨rfl, rfl, rfl⟩ := h
        refine ⟨hc.2.2, ?_, hw0⟩
        have hnm := idxL_name (a := a) rfl hc.1
        unfold lineL
        rw [if_neg h02, if_neg h1, hnm]
        exact (hb.2 hc.2.1).1.symm
      · cases h

theorem line_no10 (op n : Int) (s : Bs) (hop : 0 ≤ op ∧ op ≤ 23) : ∀ c ∈ lineL op n s, c ≠ 10 := by
  obtain ⟨_, _, f3⟩ := name_facts op hop
  have f1 := (name_facts 1 (by decide)).2.2
  intro c hc
  unfold lineL at hc
  split at hc
  · rcases List.mem_append.1 hc with hc | hc
    · rcases List.mem_append.1 hc with hc | hc
      · exact f3 c hc
      · simp at hc; rw [hc]; decide
    · exact CodePure.itoa_no n 10 (.inl rfl) c hc
  · split at hc
    · rcases List.mem_append.1 hc with hc | hc
      · rcases List.mem_append.1 hc with hc | hc
        · rcases List.mem_append.1 hc with hc | hc
          · exact f1 c hc
          · simp at hc; rcases hc with rfl | rfl <;> decide
        · exact CodePure.esc_no10 s c hc
      · simp at hc; rw [hc]; decide
    · exact f3 c hc
end Go.Proofs.YtmgcpjgpmjhemaaGreatDoor.Pc

/-
What code.Read computes, said plainly.
-/
namespace Go.Proofs.YtmgcpjgpmjhemaaGreatDoor.Pc
open Go.RowKit Go.Proofs.YtmgcpjgpmjhemaaGreatDoorW.PrintWords Go.Proofs.YtmgcpjgpmjhemaaGreatDoorW.PrintLast Go.Proofs.YtmgcpjgpmjhemaaGreatDoorW.PrintMore
open CodePure (esc Bs unesc figs)
set_option linter.unusedVariables false

/-- A text cut at each line's end. -/
def pieces : Bs → List Bs
  | [] => [[]]
  | c :: r => if c = 10 then [] :: pieces r else match pieces r with
    | [] => [[c]]
    | p :: ps => (c :: p) :: ps
theorem pieces_cons (c : UInt8) (r : Bs) : pieces (c :: r) = if c = 10 then [] :: pieces r else match pieces r with
    | [] => [[c]]
    | p :: ps => (c :: p) :: ps := rfl
theorem pieces_ne (s : Bs) : ∃ p ps, pieces s = p :: ps := by
  cases s with
  | nil => exact ⟨_, _, rfl⟩
  | cons c r =>
    rw [pieces_cons]
    split
    · exact ⟨_, _, rfl⟩
    · split <;> exact ⟨_, _, rfl⟩
theorem pieces_no (a : Bs) (h : ∀ c ∈ a, c ≠ 10) : pieces a = [a] := by
  induction a with
  | nil => rfl
  | cons c r ih =>
    rw [pieces_cons, if_neg (h c List.mem_cons_self), ih (fun x hx => h x (List.mem_cons_of_mem _ hx))]
theorem pieces_app (a r : Bs) (h : ∀ c ∈ a, c ≠ 10) : pieces (a ++ 10 :: r) = a :: pieces r := by
  induction a with
  | nil => simp [pieces]
  | cons c a ih =>
    rw [List.cons_append]
    rw [pieces_cons, if_neg (h c List.mem_cons_self), ih (fun x hx => h x (List.mem_cons_of_mem _ hx))]

theorem index10 (c : UInt8) (r : Bs) : Lib.index (c :: r) [10] = if c = 10 then 0 else if Lib.index r [10] = -1 then -1 else Lib.index r [10] + 1 := by
  by_cases hc : c = 10
  · subst hc; simp [Lib.index]
  · have hp : ([10] : Bs).isPrefixOf (c :: r) = false := by
      simp [List.isPrefixOf]
      exact fun h => hc h.symm
    rw [if_neg hc]
    simp [Lib.index, hp]
theorem pieces_index (s : Bs) : (Lib.index s [10] = -1 → pieces s = [s] ∧ s.count 10 = 0) ∧ (Lib.index s [10] ≠ -1 → pieces s = s.take (Lib.index s [10]).toNat :: pieces (s.drop ((Lib.index s [10]).toNat + 1)) ∧ s.count 10 = (s.drop ((Lib.index s [10]).toNat + 1)).count 10 + 1) := by
  induction s with
  | nil => exact ⟨fun _ => ⟨rfl, rfl⟩, fun h => absurd rfl h⟩
  | cons c r ih =>
    have hge := Lib.index_ge r [10]
    rw [index10]
    by_cases hc : c = 10
    · subst hc
      rw [if_pos rfl]
      refine ⟨fun h => by omega, fun _ => ?_⟩
      simp [pieces]
    · rw [if_neg hc]
      by_cases h1 : Lib.index r [10] = -1
      · rw [if_pos h1]
        obtain ⟨e, e2⟩ := ih.1 h1
        refine ⟨fun _ => ⟨?_, ?_⟩, fun h => absurd rfl h⟩
        · rw [pieces_cons, if_neg hc, e]
        · rw [List.count_cons, e2]; simp [hc]
      · rw [if_neg h1]
        obtain ⟨e, e2⟩ := ih.2 h1
        have et : (Lib.index r [10] + 1).toNat = (Lib.index r [10]).toNat + 1 := by omega
        refine ⟨fun h => by omega, fun _ => ⟨?_, ?_⟩⟩
        · rw [et]
          rw [pieces_cons, if_neg hc, e]
          rfl
        · rw [et, List.count_cons, e2]
          simp [hc]
theorem splitK_pieces : ∀ (k : Nat) (s : Bs), s.count 10 ≤ k → Lib.splitK [10] 0 k s = pieces s
  | 0, s, h => by
    by_cases h1 : Lib.index s [10] = -1
    · rw [((pieces_index s).1 h1).1]; rfl
    · have := ((pieces_index s).2 h1).2
      omega
  | k + 1, s, h => by
    unfold Lib.splitK
    by_cases h1 : Lib.index s [10] = -1
    · rw [if_pos (by simp [h1]), ((pieces_index s).1 h1).1]
    · obtain ⟨e, e2⟩ := (pieces_index s).2 h1
      rw [if_neg (by simp [h1]), e, splitK_pieces k _ (by simp; omega)]
      simp

def parseAll : List Bs → Option (List S23)
  | [] => some []
  | l :: ls => match parseL l with
    | none => none
    | some (i, n, t) => (parseAll ls).map (⟨i, n, bs t⟩ :: ·)
def readL (s : Bs) : List S23 × Int :=
  if 200 < s.count 10 then ([], 5) else if s = [] then ([], 0) else if s.getLast? ≠ some 10 then ([], 3) else match parseAll (pieces s.dropLast) with
    | some l => (l, 0)
    | none => ([], 3)
end Go.Proofs.YtmgcpjgpmjhemaaGreatDoor.Pc

/-
code.Read's printed function is 'readL'; what is printed is read; what is read, printed, is what was read.
-/
namespace Go.Proofs.YtmgcpjgpmjhemaaGreatDoor.Pc
open Go.RowKit Go.Proofs.YtmgcpjgpmjhemaaGreatDoorW.PrintWords Go.Proofs.YtmgcpjgpmjhemaaGreatDoorW.PrintLast Go.Proofs.YtmgcpjgpmjhemaaGreatDoorW.PrintMore
open CodePure (esc Bs unesc figs)
set_option linter.unusedVariables false

theorem pieces_len (s : Bs) : (pieces s).length = s.count 10 + 1 ∧ ∀ p ∈ pieces s, p.length ≤ s.length := by
  induction s with
  | nil => exact ⟨rfl, by simp [pieces]⟩
  | cons c r ih =>
    rw [pieces_cons]
    by_cases hc : c = 10
    · rw [if_pos hc]
      refine ⟨by simp [hc, ih.1], fun p hp => ?_⟩
      rcases List.mem_cons.1 hp with rfl | hp
      · simp
      · have := ih.2 p hp; simp; omega
    · rw [if_neg hc]
      obtain ⟨p, ps, e⟩ := pieces_ne r
      rw [e] at ih ⊢
      refine ⟨by simp [hc] at ih ⊢; omega, fun q hq => ?_⟩
      rcases List.mem_cons.1 hq with rfl | hq
      · have := ih.2 p List.mem_cons_self; simp; omega
      · have := ih.2 q (List.mem_cons_of_mem _ hq); simp; omega

theorem read_run (f : Nat) (hf : 41 ≤ f) (L : List ByteArray) (hL : L.length ≤ 100000) (hS : ∀ l ∈ L, l.size ≤ 1000000) : ∀ (m i : Nat) (acc : List S23), m = L.length - i → i ≤ L.length → acc.length ≤ 1000000 - m →
    code_Read.l0 (m + f) acc L (L.length : Int) i = some (match parseAll ((L.drop i).map (·.data.toList)) with | some l => (acc ++ l, 0) | none => ([], 3)) := by
  intro m
  induction m with
  | zero =>
    intro i acc hm hi ha
    have he : i = L.length := by omega
    subst he
    obtain ⟨f', rfl⟩ : ∃ f', f = f' + 1 := ⟨f - 1, by omega⟩
    simp [code_Read.l0, parseAll]
  | succ m ih =>
    intro i acc hm hi ha
    have hlt : i < L.length := by omega
    have hd : L.drop i = L[i] :: L.drop (i + 1) := List.drop_eq_getElem_cons hlt
    have hr : rdOf ByteArray.empty L (i : Int) = L[i] := by simp [rdOf, hlt]
    have hw : wrap64 ((i : Int) + 1) = ((i + 1 : Nat) : Int) := by unfold wrap64; omega
    have hp := parse_eq (m + f) (by omega) L[i] (hS _ (List.getElem_mem hlt))
    rw [show m + 1 + f = (m + f) + 1 by omega]
    simp only [code_Read.l0]
    rw [if_pos (by omega), if_pos (by omega), if_pos (by omega), hr, hp, hd]
    simp only [Option.bind_some, List.map_cons, parseAll, parseR]
    cases hq : parseL L[i].data.toList with
    | none => simp
    | some x =>
      obtain ⟨a, b, t⟩ := x
      simp only [if_true]
      rw [if_pos (by omega), hw, ih (i + 1) _ (by omega) (by omega) (by simp; omega)]
      cases parseAll ((L.drop (i + 1)).map (·.data.toList)) with
      | none => simp
      | some l => simp

theorem suffix10 (s : Bs) : Lib.hasSuffix s [10] = decide (s.getLast? = some 10) := by
  unfold Lib.hasSuffix
  by_cases h : s.getLast? = some 10
  · rw [decide_eq_true h]
    rw [List.isSuffixOf_iff_suffix]
    obtain ⟨a, rfl⟩ := List.getLast?_eq_some_iff.1 h
    exact ⟨a, rfl⟩
  · rw [decide_eq_false h, Bool.eq_false_iff]
    intro hs
    rw [List.isSuffixOf_iff_suffix] at hs
    obtain ⟨a, rfl⟩ := hs
    exact h (by simp)

theorem countFrom10 : ∀ (fuel : Nat) (s : Bs), s.length < fuel → Lib.countFrom [10] fuel s = s.count 10
  | 0, s, h => by omega
  | fuel + 1, s, h => by
    unfold Lib.countFrom
    by_cases h1 : Lib.index s [10] = -1
    · rw [if_pos (by simp [h1]), ((pieces_index s).1 h1).2]
    · obtain ⟨_, e2⟩ := (pieces_index s).2 h1
      rw [if_neg (by simp [h1]), e2]
      have hl : 0 < s.length := by
        cases s with
        | nil => exact absurd rfl h1
        | cons c r => simp
      have := countFrom10 fuel (s.drop ((Lib.index s [10]).toNat + 1)) (by simp; omega)
      simp only [List.length_singleton]
      omega

theorem read_eq (s : ByteArray) (hs : s.size ≤ 100000) (k : Nat) (hk : s.size + 45 ≤ k) : code_Read.f k s = some (readL s.data.toList) := by
  have hlen : s.data.toList.length = s.size := by simp
  obtain ⟨l, hL⟩ : ∃ l, s.data.toList = l := ⟨_, rfl⟩
  rw [hL] at hlen
  have hc : strings_Count.f s ⟨#[10]⟩ = some ((l.count 10 : Nat) : Int) := by
    show some ((Lib.countByte s.data.toList 10 : Nat) : Int) = _
    rw [hL]; rfl
  have hcl : l.count 10 ≤ l.length := List.count_le_length
  unfold code_Read.f readL
  rw [hc, hL]
  simp only [Option.bind_some]
  by_cases h2 : 200 < l.count 10
  · rw [if_pos (by omega), if_pos h2]
  · rw [if_neg (by omega), if_neg h2]
    have he : (s.toList = ([] : List UInt8)) = (l = []) := by rw [ByteArray.toList_eq, hL]
    simp only [he]
    by_cases h3 : l = []
    · rw [if_pos h3, if_pos h3]
    · rw [if_neg h3, if_neg h3]
      have hsuf : strings_HasSuffix.f s ⟨#[10]⟩ = some (decide (l.getLast? = some 10)) := by
        unfold strings_HasSuffix.f
        rw [if_pos (by omega), hL]
        show some (Lib.hasSuffix l [10]) = _
        rw [suffix10]
      rw [hsuf]
      simp only [Option.bind_some]
      by_cases h4 : l.getLast? = some 10
      · rw [decide_eq_true h4]
        simp only [if_true]
        rw [if_neg (by simp [h4])]
        have htr : strings_TrimSuffix.f s ⟨#[10]⟩ = some (bs l.dropLast) := by
          unfold strings_TrimSuffix.f
          rw [if_pos (by omega), hL]
          show some (⟨(Lib.trimSuffix l [10]).toArray⟩ : ByteArray) = _
          unfold Lib.trimSuffix
          rw [if_pos (by rw [suffix10, decide_eq_true h4]), List.dropLast_eq_take]
          rfl
        rw [htr]
        simp only [Option.bind_some]
        have hsz : (bs l.dropLast).size = l.length - 1 := by show l.dropLast.length = _; simp
        have hsp : strings_Split.f (bs l.dropLast) ⟨#[10]⟩ = some (Lib.splitB ⟨#[10]⟩ 0 (Lib.countB (bs l.dropLast) ⟨#[10]⟩) (bs l.dropLast)) := by
          unfold strings_Split.f
          rw [if_pos ⟨by omega, by decide⟩]
        rw [hsp]
        simp only [Option.bind_some]
        obtain ⟨L, hLL⟩ : ∃ L, Lib.splitB ⟨#[10]⟩ 0 (Lib.countB (bs l.dropLast) ⟨#[10]⟩) (bs l.dropLast) = L := ⟨_, rfl⟩
        have hlenL : L.length = Lib.countB (bs l.dropLast) ⟨#[10]⟩ + 1 := by rw [← hLL]; exact Lib.splitB_all _ (by decide) 0 _ _ rfl
        have hcb : Lib.countB (bs l.dropLast) ⟨#[10]⟩ = l.dropLast.count 10 := countFrom10 _ l.dropLast (Nat.lt_succ_self _)
        have hmap : L.map (·.data.toList) = pieces l.dropLast := by
          rw [← hLL, Lib.splitB_data, hcb]
          exact splitK_pieces _ _ (Nat.le_refl _)
        have hpl := pieces_len l.dropLast
        have hLs : ∀ x ∈ L, x.size ≤ 1000000 := fun x hx => by
          have := hpl.2 x.data.toList (by rw [← hmap]; exact List.mem_map_of_mem hx)
          have h5 : x.data.toList.length = x.size := by simp
          simp at this
          omega
        have hcd : l.dropLast.count 10 ≤ l.dropLast.length := List.count_le_length
        have hrun := read_run (k - L.length) (by simp at hcd; omega) L (by simp at hcd; omega) hLs L.length 0 [] (by omega) (Nat.zero_le _) (by simp)
        rw [show L.length + (k - L.length) = k by simp at hcd; omega] at hrun
        rw [hLL]
        have hz : ((0 : Nat) : Int) = 0 := rfl
        rw [hz] at hrun
        rw [hrun, List.drop_zero, hmap]
        cases parseAll (pieces l.dropLast) <;> simp
      · rw [decide_eq_false h4]
        simp [h4]
end Go.Proofs.YtmgcpjgpmjhemaaGreatDoor.Pc

namespace Go.Proofs.YtmgcpjgpmjhemaaGreatDoor.Pc
open Go.RowKit Go.Proofs.YtmgcpjgpmjhemaaGreatDoorW.PrintWords Go.Proofs.YtmgcpjgpmjhemaaGreatDoorW.PrintLast Go.Proofs.YtmgcpjgpmjhemaaGreatDoorW.PrintMore
attribute [local go_sem] max2_int min2_int max_two min_two max_three min_three max_four min_four   -- for this text's walks alone
set_option linter.unusedVariables false
set_option linter.unusedSimpArgs false

theorem eqA23 (d : Nat) (w : World) (x0 y0 : Int) (x1 y1 : Int) (x2 y2 : ByteArray) :
    (Op.equalIn (d + 2) 23 (.agg #[.int .i64 x0, .int .i64 x1, .string x2]) (.agg #[.int .i64 y0, .int .i64 y1, .string y2])).run Tryz.prog w = .ok (x0 == y0 && (x1 == y1 && (x2.toList == y2.toList))) w := by
  refine eqA_of Tryz.underlying23 (by kernel_rfl) ?_
  refine eqf_cons (by rfl) (by go_simp; rfl) (by go_simp; rfl) (by go_simp) ?_
  refine eqf_cons (by rfl) (by go_simp; rfl) (by go_simp; rfl) (by go_simp) ?_
  exact eqf_last (by rfl) (by go_simp; rfl) (by go_simp; rfl) (by go_simp)
end Go.Proofs.YtmgcpjgpmjhemaaGreatDoor.Pc

namespace Go.Proofs.YtmgcpjgpmjhemaaGreatDoor.Pc
open Go.RowKit Go.Proofs.YtmgcpjgpmjhemaaGreatDoorW.PrintWords Go.Proofs.YtmgcpjgpmjhemaaGreatDoorW.PrintLast Go.Proofs.YtmgcpjgpmjhemaaGreatDoorW.PrintMore
attribute [local go_sem] max2_int min2_int max_two min_two max_three min_three max_four min_four   -- for this text's walks alone
set_option linter.unusedVariables false
set_option linter.unusedSimpArgs false

/-! ### threshinglaw14_small: function 21 -/
def threshinglaw14_small.l0 : Nat → List (S23) → Int → Int → Option (Bool)
  | 0, _, _, _ => none
  | k + 1, x0, x3, x4 => if x4 < (x0.length : Int) then (if 0 ≤ x4 then (threshinglaw14_small.l0 k x0 (wrap64 (x3 + (((rd_T23 x0 x4).f2).size : Int))) (wrap64 (x4 + 1))) else (none)) else (if (x0.length : Int) ≤ 250 then (some (decide (x3 ≤ 1200))) else (some false))
def threshinglaw14_small.f (k : Nat) (l0 : List (S23)) : Option (Bool) := threshinglaw14_small.l0 k l0 0 0
theorem threshinglaw14_small.mono_l : ∀ k, (∀ y0 y1 y2, LeO (threshinglaw14_small.l0 k y0 y1 y2) (threshinglaw14_small.l0 (k + 1) y0 y1 y2))
  | 0 => fun _ _ _ r h => by simp [threshinglaw14_small.l0] at h
  | k + 1 => by
    have ih0 := threshinglaw14_small.mono_l k
    · intro y0 y1 y2
      unfold threshinglaw14_small.l0
      repeat' first
      | (with_reducible exact ih0 _ _ _)
      | (with_reducible exact LeO.refl _)
      | (with_reducible exact LeO.none _)
      | (with_reducible refine LeO.ite ?_ ?_)
      | (with_reducible refine LeO.bind ?_ (fun _ => ?_))
      | exact ih0 _ _ _
      | exact LeO.none _
      | refine LeO.ite ?_ ?_
      | refine LeO.bind ?_ (fun _ => ?_)
theorem threshinglaw14_small.mono : ∀ a0 k, LeO (threshinglaw14_small.f k a0) (threshinglaw14_small.f (k + 1) a0) := by
  intro a0 k
  have ih0 := threshinglaw14_small.mono_l k
  unfold threshinglaw14_small.f
  repeat' first
      | (with_reducible exact ih0 _ _ _)
      | (with_reducible exact LeO.refl _)
      | (with_reducible exact LeO.none _)
      | (with_reducible refine LeO.ite ?_ ?_)
      | (with_reducible refine LeO.bind ?_ (fun _ => ?_))
      | exact ih0 _ _ _
      | exact LeO.none _
      | refine LeO.ite ?_ ?_
      | refine LeO.bind ?_ (fun _ => ?_)
set_option maxHeartbeats 8000000 in
set_option maxRecDepth 100000 in
theorem threshinglaw14_small.calls (k : Nat) (A0 : Option Addr) (c0 : Nat) (l0 : List (S23)) (r : Bool) (w : World) (hr0 : Kd.C k23 w A0 l0.length l0) (hc0 : l0.length ≤ c0) (h : threshinglaw14_small.f k l0 = some r) :
    Calls Tryz.prog 21 #[.slice A0 l0.length c0] w fun e w' => e = .returned (.bool r) ∧ Drawn0 w w' := by
  have HR0 := Aside0.mk hr0
  have HC0 := Aside0.mk hc0
  clear hr0 hc0
  have H : (threshinglaw14_small.l0 k l0 0 0) = some r := h
  clear h
  have H' := Aside0.mk H
  clear H
  go_enter Tryz.func21, Tryz.ntmps21
  go_wp2
  go_loopg [3, 4] k (fun kq v3 v4 w' => ∃ (x3_1 : Int) (x4_1 : Int), v3 = .int .i64 x3_1 ∧ v4 = .int .i64 x4_1 ∧ Aside0 (threshinglaw14_small.l0 kq l0 x3_1 x4_1 = some r) ∧ Aside0 (kq ≤ k) ∧ Drawn0 w w')
  case atStart => exact ⟨(0), (0), (by first | rfl | (simp; done) | (simp [*]; done)), (by first | rfl | (simp; done) | (simp [*]; done)), H', ⟨Nat.le_refl _⟩, by repeat (first | exact Drawn0.refl _ | apply Drawn0.step)⟩
  case round =>
    clear H'
    obtain ⟨x3_1, x4_1, rfl, rfl, HA, HK1, ⟨m1, rfl⟩⟩ := hrel
    cases gk with
    | zero => exact absurd HA.out (by simp [threshinglaw14_small.l0])
    | succ k1 =>
      have H := HA.out
      clear HA
      simp only [threshinglaw14_small.l0] at H
      by_cases c2 : x4_1 < (l0.length : Int)
      · rw [if_pos c2] at H
        have c2b0 : decide (x4_1 < (l0.length : Int)) = true := decide_eq_true c2
        clear c2
        by_cases c3 : 0 ≤ x4_1
        · rw [if_pos c3] at H
          have c3b0 : decide (0 ≤ x4_1) = true := decide_eq_true c3
          clear c3
          have H' := Aside0.mk H
          clear H
          have p166 : 0 ≤ (x4_1 : Int) := of_decide_eq_true (by first | (with_reducible assumption) | assumption)
          have q166 : x4_1 < (l0.length : Int) := of_decide_eq_true (by first | (with_reducible assumption) | assumption)
          obtain ⟨ad166, e166, hx166_0, hx166_1, hx166_2⟩ := at_T23 HR0.out x4_1 p166 q166
          cases e166
          replace p166 := eq_true p166
          replace q166 := eq_true q166
          go_wp2
          go_roundg k1
          case measure => have := HK1.out; omega
          case rel => exact ⟨(wrap64 (x3_1 + (((rd_T23 l0 x4_1).f2).size : Int))), (wrap64 (x4_1 + 1)), (by first | rfl | (simp; done) | (simp [*]; done)), (by first | rfl | (simp; done) | (simp [*]; done)), H', ⟨by have := HK1.out; omega⟩, by repeat (first | exact Drawn0.refl _ | apply Drawn0.step)⟩
        · rw [if_neg c3] at H
          exact absurd H (by simp)
      · rw [if_neg c2] at H
        have c2b0 : decide (x4_1 < (l0.length : Int)) = false := decide_eq_false c2
        clear c2
        by_cases c4 : (l0.length : Int) ≤ 250
        · rw [if_pos c4] at H
          have c4b0 : decide ((l0.length : Int) ≤ 250) = true := decide_eq_true c4
          have c4b1 : decide (l0.length ≤ 250) = true := decide_eq_true (by omega)
          clear c4
          obtain rfl := Option.some.inj H
          go_wp2
          go_ret
          exact ⟨by first | rfl | (simp; done) | (simp [*]; done), by repeat (first | exact Drawn0.refl _ | apply Drawn0.step)⟩
        · rw [if_neg c4] at H
          have c4b0 : decide ((l0.length : Int) ≤ 250) = false := decide_eq_false c4
          have c4b1 : decide (l0.length ≤ 250) = false := decide_eq_false (by omega)
          clear c4
          obtain rfl := Option.some.inj H
          go_wp2
          go_ret
          exact ⟨by first | rfl | (simp; done) | (simp [*]; done), by repeat (first | exact Drawn0.refl _ | apply Drawn0.step)⟩

end Go.Proofs.YtmgcpjgpmjhemaaGreatDoor.Pc

namespace Go.Proofs.YtmgcpjgpmjhemaaGreatDoor.Pc
open Go.RowKit Go.Proofs.YtmgcpjgpmjhemaaGreatDoorW.PrintWords Go.Proofs.YtmgcpjgpmjhemaaGreatDoorW.PrintLast Go.Proofs.YtmgcpjgpmjhemaaGreatDoorW.PrintMore
attribute [local go_sem] max2_int min2_int max_two min_two max_three min_three max_four min_four   -- for this text's walks alone
set_option linter.unusedVariables false
set_option linter.unusedSimpArgs false

attribute [local go_sem high] eqA23
/-! ### threshingref14_Same: function 26 -/
def threshingref14_Same.l0 : Nat → List (S23) → List (S23) → Int → Option (Bool)
  | 0, _, _, _ => none
  | k + 1, x0, x1, x5 => if x5 < (x0.length : Int) then (if 0 ≤ x5 then (if x5 < (x1.length : Int) then (if (!(((rd_T23 x0 x5).f0) == ((rd_T23 x1 x5).f0)) || (!(((rd_T23 x0 x5).f1) == ((rd_T23 x1 x5).f1)) || (!((((rd_T23 x0 x5).f2).toList) == (((rd_T23 x1 x5).f2).toList))))) = true then (some false) else (threshingref14_Same.l0 k x0 x1 (wrap64 (x5 + 1)))) else (none)) else (none)) else (some true)
def threshingref14_Same.f (k : Nat) (l0 : List (S23)) (l1 : List (S23)) : Option (Bool) := if (l0.length : Int) = (l1.length : Int) then (threshingref14_Same.l0 k l0 l1 0) else (some false)
theorem threshingref14_Same.mono_l : ∀ k, (∀ y0 y1 y2, LeO (threshingref14_Same.l0 k y0 y1 y2) (threshingref14_Same.l0 (k + 1) y0 y1 y2))
  | 0 => fun _ _ _ r h => by simp [threshingref14_Same.l0] at h
  | k + 1 => by
    have ih0 := threshingref14_Same.mono_l k
    · intro y0 y1 y2
      unfold threshingref14_Same.l0
      repeat' first
      | (with_reducible exact ih0 _ _ _)
      | (with_reducible exact LeO.refl _)
      | (with_reducible exact LeO.none _)
      | (with_reducible refine LeO.ite ?_ ?_)
      | (with_reducible refine LeO.bind ?_ (fun _ => ?_))
      | exact ih0 _ _ _
      | exact LeO.none _
      | refine LeO.ite ?_ ?_
      | refine LeO.bind ?_ (fun _ => ?_)
theorem threshingref14_Same.mono : ∀ a0 a1 k, LeO (threshingref14_Same.f k a0 a1) (threshingref14_Same.f (k + 1) a0 a1) := by
  intro a0 a1 k
  have ih0 := threshingref14_Same.mono_l k
  unfold threshingref14_Same.f
  repeat' first
      | (with_reducible exact ih0 _ _ _)
      | (with_reducible exact LeO.refl _)
      | (with_reducible exact LeO.none _)
      | (with_reducible refine LeO.ite ?_ ?_)
      | (with_reducible refine LeO.bind ?_ (fun _ => ?_))
      | exact ih0 _ _ _
      | exact LeO.none _
      | refine LeO.ite ?_ ?_
      | refine LeO.bind ?_ (fun _ => ?_)
set_option maxHeartbeats 8000000 in
set_option maxRecDepth 100000 in
theorem threshingref14_Same.calls (k : Nat) (A0 : Option Addr) (c0 : Nat) (l0 : List (S23)) (A1 : Option Addr) (c1 : Nat) (l1 : List (S23)) (r : Bool) (w : World) (hr0 : Kd.C k23 w A0 l0.length l0) (hc0 : l0.length ≤ c0) (hr1 : Kd.C k23 w A1 l1.length l1) (hc1 : l1.length ≤ c1) (h : threshingref14_Same.f k l0 l1 = some r) :
    Calls Tryz.prog 26 #[.slice A0 l0.length c0, .slice A1 l1.length c1] w fun e w' => e = .returned (.bool r) ∧ Drawn0 w w' := by
  have hu23 := Tryz.underlying23
  have HR0 := Aside0.mk hr0
  have HC0 := Aside0.mk hc0
  clear hr0 hc0
  have HR1 := Aside0.mk hr1
  have HC1 := Aside0.mk hc1
  clear hr1 hc1
  have H : (if (l0.length : Int) = (l1.length : Int) then (threshingref14_Same.l0 k l0 l1 0) else (some false)) = some r := h
  clear h
  by_cases c3 : (l0.length : Int) = (l1.length : Int)
  · rw [if_pos c3] at H
    have c3b0 : ((l0.length : Int) == (l1.length : Int)) = true := beq_iff_eq.mpr c3
    have c3b1 : ((l0.length : Int) != (l1.length : Int)) = false := bne_eq_false_iff_eq.mpr c3
    have c3b2 : (l0.length == l1.length) = true := by first | simpa using c3 | (simp at c3 ⊢; omega)
    clear c3
    have H' := Aside0.mk H
    clear H
    go_enter Tryz.func26, Tryz.ntmps26
    go_wp2
    repeat (go_quiet (fail); try go_wp2)
    go_loopg [5] k (fun kq v5 w' => ∃ (x5_1 : Int), v5 = .int .i64 x5_1 ∧ Aside0 (threshingref14_Same.l0 kq l0 l1 x5_1 = some r) ∧ Aside0 (kq ≤ k) ∧ Drawn0 w w')
    case atStart => exact ⟨(0), (by first | rfl | (simp; done) | (simp [*]; done)), H', ⟨Nat.le_refl _⟩, by repeat (first | exact Drawn0.refl _ | apply Drawn0.step)⟩
    case round =>
      clear H'
      try clear c1
      try clear c2
      try clear p2
      try clear c3
      try clear c3b0
      try clear c3b1
      try clear c3b2
      obtain ⟨x5_1, rfl, HA, HK1, ⟨m1, rfl⟩⟩ := hrel
      cases gk with
      | zero => exact absurd HA.out (by simp [threshingref14_Same.l0])
      | succ k1 =>
        have H := HA.out
        clear HA
        simp only [threshingref14_Same.l0] at H
        by_cases c4 : x5_1 < (l0.length : Int)
        · rw [if_pos c4] at H
          have c4b0 : decide (x5_1 < (l0.length : Int)) = true := decide_eq_true c4
          clear c4
          by_cases c5 : 0 ≤ x5_1
          · rw [if_pos c5] at H
            have c5b0 : decide (0 ≤ x5_1) = true := decide_eq_true c5
            clear c5
            by_cases c6 : x5_1 < (l1.length : Int)
            · rw [if_pos c6] at H
              have c6b0 : decide (x5_1 < (l1.length : Int)) = true := decide_eq_true c6
              clear c6
              by_cases c7 : (!(((rd_T23 l0 x5_1).f0) == ((rd_T23 l1 x5_1).f0)) || (!(((rd_T23 l0 x5_1).f1) == ((rd_T23 l1 x5_1).f1)) || (!((((rd_T23 l0 x5_1).f2).toList) == (((rd_T23 l1 x5_1).f2).toList))))) = true
              · rw [if_pos c7] at H
                have c7b0 : (!(((rd_T23 l0 x5_1).f0) == ((rd_T23 l1 x5_1).f0)) || (!(((rd_T23 l0 x5_1).f1) == ((rd_T23 l1 x5_1).f1)) || (!((((rd_T23 l0 x5_1).f2).toList) == (((rd_T23 l1 x5_1).f2).toList))))) = true := c7
                clear c7
                obtain rfl := Option.some.inj H
                have p257 : 0 ≤ (x5_1 : Int) := of_decide_eq_true (by first | (with_reducible assumption) | assumption)
                have q257 : x5_1 < (l0.length : Int) := of_decide_eq_true (by first | (with_reducible assumption) | assumption)
                obtain ⟨ad257, e257, hx257_0, hx257_1, hx257_2⟩ := at_T23 HR0.out x5_1 p257 q257
                cases e257
                replace p257 := eq_true p257
                replace q257 := eq_true q257
                have p258 : 0 ≤ (x5_1 : Int) := of_decide_eq_true (by first | (with_reducible assumption) | assumption)
                have q258 : x5_1 < (l1.length : Int) := of_decide_eq_true (by first | (with_reducible assumption) | assumption)
                obtain ⟨ad258, e258, hx258_0, hx258_1, hx258_2⟩ := at_T23 HR1.out x5_1 p258 q258
                cases e258
                replace p258 := eq_true p258
                replace q258 := eq_true q258
                go_wp2
                repeat (go_quiet (fail); try go_wp2)
                go_ret
                exact ⟨by first | rfl | (simp; done) | (simp [*]; done), by repeat (first | exact Drawn0.refl _ | apply Drawn0.step)⟩
              · rw [if_neg c7] at H
                have c7b0 : (!(((rd_T23 l0 x5_1).f0) == ((rd_T23 l1 x5_1).f0)) || (!(((rd_T23 l0 x5_1).f1) == ((rd_T23 l1 x5_1).f1)) || (!((((rd_T23 l0 x5_1).f2).toList) == (((rd_T23 l1 x5_1).f2).toList))))) = false := by simpa using c7
                clear c7
                have H' := Aside0.mk H
                clear H
                have p257 : 0 ≤ (x5_1 : Int) := of_decide_eq_true (by first | (with_reducible assumption) | assumption)
                have q257 : x5_1 < (l0.length : Int) := of_decide_eq_true (by first | (with_reducible assumption) | assumption)
                obtain ⟨ad257, e257, hx257_0, hx257_1, hx257_2⟩ := at_T23 HR0.out x5_1 p257 q257
                cases e257
                replace p257 := eq_true p257
                replace q257 := eq_true q257
                have p258 : 0 ≤ (x5_1 : Int) := of_decide_eq_true (by first | (with_reducible assumption) | assumption)
                have q258 : x5_1 < (l1.length : Int) := of_decide_eq_true (by first | (with_reducible assumption) | assumption)
                obtain ⟨ad258, e258, hx258_0, hx258_1, hx258_2⟩ := at_T23 HR1.out x5_1 p258 q258
                cases e258
                replace p258 := eq_true p258
                replace q258 := eq_true q258
                go_wp2
                repeat (go_quiet (fail); try go_wp2)
                go_roundg k1
                case measure => have := HK1.out; omega
                case rel => exact ⟨(wrap64 (x5_1 + 1)), (by first | rfl | (simp; done) | (simp [*]; done)), H', ⟨by have := HK1.out; omega⟩, by repeat (first | exact Drawn0.refl _ | apply Drawn0.step)⟩
            · rw [if_neg c6] at H
              exact absurd H (by simp)
          · rw [if_neg c5] at H
            exact absurd H (by simp)
        · rw [if_neg c4] at H
          have c4b0 : decide (x5_1 < (l0.length : Int)) = false := decide_eq_false c4
          clear c4
          obtain rfl := Option.some.inj H
          go_wp2
          repeat (go_quiet (fail); try go_wp2)
          go_ret
          exact ⟨by first | rfl | (simp; done) | (simp [*]; done), by repeat (first | exact Drawn0.refl _ | apply Drawn0.step)⟩
  · rw [if_neg c3] at H
    have c3b0 : ((l0.length : Int) == (l1.length : Int)) = false := beq_eq_false_iff_ne.mpr c3
    have c3b1 : ((l0.length : Int) != (l1.length : Int)) = true := bne_iff_ne.mpr c3
    have c3b2 : (l0.length == l1.length) = false := by first | simpa using c3 | (simp at c3 ⊢; omega)
    obtain rfl := Option.some.inj H
    go_enter Tryz.func26, Tryz.ntmps26
    go_wp2
    repeat (go_quiet (fail); try go_wp2)
    go_ret
    exact ⟨by first | rfl | (simp; done) | (simp [*]; done), by repeat (first | exact Drawn0.refl _ | apply Drawn0.step)⟩

/-! ### api_Ins: function 64 -/
def api_Ins.l0 : Nat → List (S23) → List (S23) → Int → Int → Option (Bool)
  | 0, _, _, _, _ => none
  | k + 1, x0, x1, x12, x13 => if x13 < x12 then (if 0 ≤ x13 then (if x13 < (x0.length : Int) then (if x13 < (x1.length : Int) then (if (!(((rd_T23 x0 x13).f0) == ((rd_T23 x1 x13).f0)) || (!(((rd_T23 x0 x13).f1) == ((rd_T23 x1 x13).f1)) || (!((((rd_T23 x0 x13).f2).toList) == (((rd_T23 x1 x13).f2).toList))))) = true then (some false) else (api_Ins.l0 k x0 x1 x12 (wrap64 (x13 + 1)))) else (none)) else (none)) else (none)) else (some true)
def api_Ins.f (k : Nat) (l0 : List (S23)) (l1 : List (S23)) : Option (Bool) := if (l0.length : Int) = (l1.length : Int) then (api_Ins.l0 k l0 l1 (l0.length : Int) 0) else (some false)
theorem api_Ins.mono_l : ∀ k, (∀ y0 y1 y2 y3, LeO (api_Ins.l0 k y0 y1 y2 y3) (api_Ins.l0 (k + 1) y0 y1 y2 y3))
  | 0 => fun _ _ _ _ r h => by simp [api_Ins.l0] at h
  | k + 1 => by
    have ih0 := api_Ins.mono_l k
    · intro y0 y1 y2 y3
      unfold api_Ins.l0
      repeat' first
      | (with_reducible exact ih0 _ _ _ _)
      | (with_reducible exact LeO.refl _)
      | (with_reducible exact LeO.none _)
      | (with_reducible refine LeO.ite ?_ ?_)
      | (with_reducible refine LeO.bind ?_ (fun _ => ?_))
      | exact ih0 _ _ _ _
      | exact LeO.none _
      | refine LeO.ite ?_ ?_
      | refine LeO.bind ?_ (fun _ => ?_)
theorem api_Ins.mono : ∀ a0 a1 k, LeO (api_Ins.f k a0 a1) (api_Ins.f (k + 1) a0 a1) := by
  intro a0 a1 k
  have ih0 := api_Ins.mono_l k
  unfold api_Ins.f
  repeat' first
      | (with_reducible exact ih0 _ _ _ _)
      | (with_reducible exact LeO.refl _)
      | (with_reducible exact LeO.none _)
      | (with_reducible refine LeO.ite ?_ ?_)
      | (with_reducible refine LeO.bind ?_ (fun _ => ?_))
      | exact ih0 _ _ _ _
      | exact LeO.none _
      | refine LeO.ite ?_ ?_
      | refine LeO.bind ?_ (fun _ => ?_)
set_option maxHeartbeats 8000000 in
set_option maxRecDepth 100000 in
theorem api_Ins.calls (k : Nat) (A0 : Option Addr) (c0 : Nat) (l0 : List (S23)) (A1 : Option Addr) (c1 : Nat) (l1 : List (S23)) (r : Bool) (w : World) (hr0 : Kd.C k23 w A0 l0.length l0) (hc0 : l0.length ≤ c0) (hr1 : Kd.C k23 w A1 l1.length l1) (hc1 : l1.length ≤ c1) (h : api_Ins.f k l0 l1 = some r) :
    Calls Tryz.prog 64 #[.slice A0 l0.length c0, .slice A1 l1.length c1] w fun e w' => e = .returned (.bool r) ∧ Drawn0 w w' := by
  have hu23 := Tryz.underlying23
  have HR0 := Aside0.mk hr0
  have HC0 := Aside0.mk hc0
  clear hr0 hc0
  have HR1 := Aside0.mk hr1
  have HC1 := Aside0.mk hc1
  clear hr1 hc1
  have H : (if (l0.length : Int) = (l1.length : Int) then (api_Ins.l0 k l0 l1 (l0.length : Int) 0) else (some false)) = some r := h
  clear h
  by_cases c3 : (l0.length : Int) = (l1.length : Int)
  · rw [if_pos c3] at H
    have c3b0 : ((l0.length : Int) == (l1.length : Int)) = true := beq_iff_eq.mpr c3
    have c3b1 : ((l0.length : Int) != (l1.length : Int)) = false := bne_eq_false_iff_eq.mpr c3
    have c3b2 : (l0.length == l1.length) = true := by first | simpa using c3 | (simp at c3 ⊢; omega)
    clear c3
    have H' := Aside0.mk H
    clear H
    go_enter Tryz.func64, Tryz.ntmps64
    go_wp2
    repeat (go_quiet (fail); try go_wp2)
    go_loopg [13] k (fun kq v13 w' => ∃ (x13_1 : Int), v13 = .int .i64 x13_1 ∧ Aside0 (api_Ins.l0 kq l0 l1 (l0.length : Int) x13_1 = some r) ∧ Aside0 (kq ≤ k) ∧ Drawn0 w w')
    case atStart => exact ⟨(0), (by first | rfl | (simp; done) | (simp [*]; done)), H', ⟨Nat.le_refl _⟩, by repeat (first | exact Drawn0.refl _ | apply Drawn0.step)⟩
    case round =>
      clear H'
      try clear c1
      try clear p2
      try clear c3
      try clear c3b0
      try clear c3b1
      try clear c3b2
      obtain ⟨x13_1, rfl, HA, HK1, ⟨m1, rfl⟩⟩ := hrel
      cases gk with
      | zero => exact absurd HA.out (by simp [api_Ins.l0])
      | succ k1 =>
        have H := HA.out
        clear HA
        simp only [api_Ins.l0] at H
        by_cases c4 : x13_1 < (l0.length : Int)
        · rw [if_pos c4] at H
          have c4b0 : decide (x13_1 < (l0.length : Int)) = true := decide_eq_true c4
          clear c4
          by_cases c5 : 0 ≤ x13_1
          · rw [if_pos c5] at H
            have c5b0 : decide (0 ≤ x13_1) = true := decide_eq_true c5
            clear c5
            by_cases c6 : x13_1 < (l0.length : Int)
            · rw [if_pos c6] at H
              have c6b0 : decide (x13_1 < (l0.length : Int)) = true := decide_eq_true c6
              clear c6
              by_cases c7 : x13_1 < (l1.length : Int)
              · rw [if_pos c7] at H
                have c7b0 : decide (x13_1 < (l1.length : Int)) = true := decide_eq_true c7
                clear c7
                by_cases c8 : (!(((rd_T23 l0 x13_1).f0) == ((rd_T23 l1 x13_1).f0)) || (!(((rd_T23 l0 x13_1).f1) == ((rd_T23 l1 x13_1).f1)) || (!((((rd_T23 l0 x13_1).f2).toList) == (((rd_T23 l1 x13_1).f2).toList))))) = true
                · rw [if_pos c8] at H
                  have c8b0 : (!(((rd_T23 l0 x13_1).f0) == ((rd_T23 l1 x13_1).f0)) || (!(((rd_T23 l0 x13_1).f1) == ((rd_T23 l1 x13_1).f1)) || (!((((rd_T23 l0 x13_1).f2).toList) == (((rd_T23 l1 x13_1).f2).toList))))) = true := c8
                  clear c8
                  obtain rfl := Option.some.inj H
                  have p259 : 0 ≤ (x13_1 : Int) := of_decide_eq_true (by first | (with_reducible assumption) | assumption)
                  have q259 : x13_1 < (l0.length : Int) := of_decide_eq_true (by first | (with_reducible assumption) | assumption)
                  obtain ⟨ad259, e259, hx259_0, hx259_1, hx259_2⟩ := at_T23 HR0.out x13_1 p259 q259
                  cases e259
                  replace p259 := eq_true p259
                  replace q259 := eq_true q259
                  have p260 : 0 ≤ (x13_1 : Int) := of_decide_eq_true (by first | (with_reducible assumption) | assumption)
                  have q260 : x13_1 < (l1.length : Int) := of_decide_eq_true (by first | (with_reducible assumption) | assumption)
                  obtain ⟨ad260, e260, hx260_0, hx260_1, hx260_2⟩ := at_T23 HR1.out x13_1 p260 q260
                  cases e260
                  replace p260 := eq_true p260
                  replace q260 := eq_true q260
                  go_wp2
                  repeat (go_quiet (fail); try go_wp2)
                  go_ret
                  exact ⟨by first | rfl | (simp; done) | (simp [*]; done), by repeat (first | exact Drawn0.refl _ | apply Drawn0.step)⟩
                · rw [if_neg c8] at H
                  have c8b0 : (!(((rd_T23 l0 x13_1).f0) == ((rd_T23 l1 x13_1).f0)) || (!(((rd_T23 l0 x13_1).f1) == ((rd_T23 l1 x13_1).f1)) || (!((((rd_T23 l0 x13_1).f2).toList) == (((rd_T23 l1 x13_1).f2).toList))))) = false := by simpa using c8
                  clear c8
                  have H' := Aside0.mk H
                  clear H
                  have p259 : 0 ≤ (x13_1 : Int) := of_decide_eq_true (by first | (with_reducible assumption) | assumption)
                  have q259 : x13_1 < (l0.length : Int) := of_decide_eq_true (by first | (with_reducible assumption) | assumption)
                  obtain ⟨ad259, e259, hx259_0, hx259_1, hx259_2⟩ := at_T23 HR0.out x13_1 p259 q259
                  cases e259
                  replace p259 := eq_true p259
                  replace q259 := eq_true q259
                  have p260 : 0 ≤ (x13_1 : Int) := of_decide_eq_true (by first | (with_reducible assumption) | assumption)
                  have q260 : x13_1 < (l1.length : Int) := of_decide_eq_true (by first | (with_reducible assumption) | assumption)
                  obtain ⟨ad260, e260, hx260_0, hx260_1, hx260_2⟩ := at_T23 HR1.out x13_1 p260 q260
                  cases e260
                  replace p260 := eq_true p260
                  replace q260 := eq_true q260
                  go_wp2
                  repeat (go_quiet (fail); try go_wp2)
                  go_roundg k1
                  case measure => have := HK1.out; omega
                  case rel => exact ⟨(wrap64 (x13_1 + 1)), (by first | rfl | (simp; done) | (simp [*]; done)), H', ⟨by have := HK1.out; omega⟩, by repeat (first | exact Drawn0.refl _ | apply Drawn0.step)⟩
              · rw [if_neg c7] at H
                exact absurd H (by simp)
            · rw [if_neg c6] at H
              exact absurd H (by simp)
          · rw [if_neg c5] at H
            exact absurd H (by simp)
        · rw [if_neg c4] at H
          have c4b0 : decide (x13_1 < (l0.length : Int)) = false := decide_eq_false c4
          clear c4
          obtain rfl := Option.some.inj H
          go_wp2
          repeat (go_quiet (fail); try go_wp2)
          go_ret
          exact ⟨by first | rfl | (simp; done) | (simp [*]; done), by repeat (first | exact Drawn0.refl _ | apply Drawn0.step)⟩
  · rw [if_neg c3] at H
    have c3b0 : ((l0.length : Int) == (l1.length : Int)) = false := beq_eq_false_iff_ne.mpr c3
    have c3b1 : ((l0.length : Int) != (l1.length : Int)) = true := bne_iff_ne.mpr c3
    have c3b2 : (l0.length == l1.length) = false := by first | simpa using c3 | (simp at c3 ⊢; omega)
    obtain rfl := Option.some.inj H
    go_enter Tryz.func64, Tryz.ntmps64
    go_wp2
    repeat (go_quiet (fail); try go_wp2)
    go_ret
    exact ⟨by first | rfl | (simp; done) | (simp [*]; done), by repeat (first | exact Drawn0.refl _ | apply Drawn0.step)⟩

/-! ### code_Same: function 27 -/
def code_Same.f (k : Nat) (l0 : List (S23)) (l1 : List (S23)) : Option (Bool) := (api_Ins.f k l0 l1).bind fun t261 => (some t261)
theorem code_Same.mono : ∀ a0 a1 k, LeO (code_Same.f k a0 a1) (code_Same.f (k + 1) a0 a1) := by
  intro a0 a1 k
  unfold code_Same.f
  repeat' first
      | (with_reducible exact api_Ins.mono _ _ _)
      | (with_reducible exact LeO.refl _)
      | (with_reducible exact LeO.none _)
      | (with_reducible refine LeO.ite ?_ ?_)
      | (with_reducible refine LeO.bind ?_ (fun _ => ?_))
      | exact api_Ins.mono _ _ _
      | exact LeO.none _
      | refine LeO.ite ?_ ?_
      | refine LeO.bind ?_ (fun _ => ?_)
set_option maxHeartbeats 8000000 in
set_option maxRecDepth 100000 in
theorem code_Same.calls (k : Nat) (A0 : Option Addr) (c0 : Nat) (l0 : List (S23)) (A1 : Option Addr) (c1 : Nat) (l1 : List (S23)) (r : Bool) (w : World) (hr0 : Kd.C k23 w A0 l0.length l0) (hc0 : l0.length ≤ c0) (hr1 : Kd.C k23 w A1 l1.length l1) (hc1 : l1.length ≤ c1) (h : code_Same.f k l0 l1 = some r) :
    Calls Tryz.prog 27 #[.slice A0 l0.length c0, .slice A1 l1.length c1] w fun e w' => e = .returned (.bool r) ∧ Drawn0 w w' := by
  have HR0 := Aside0.mk hr0
  have HC0 := Aside0.mk hc0
  clear hr0 hc0
  have HR1 := Aside0.mk hr1
  have HC1 := Aside0.mk hc1
  clear hr1 hc1
  have H : ((api_Ins.f k l0 l1).bind fun t261 => (some t261)) = some r := h
  clear h
  replace H := Option.bind_eq_some_iff.mp H
  obtain ⟨t261, A30, H⟩ := H
  replace H : (some t261) = some r := H
  have A3 := Aside0.mk A30
  clear A30
  obtain rfl := Option.some.inj H
  go_enter Tryz.func27, Tryz.ntmps27
  go_wp2_with (first | ((with_reducible refine gate_callee (f := 64) rfl ?_); refine goesL_ (some 7) rfl rfl Tryz.func64 (by kernel_rfl) rfl #[.slice A0 l0.length c0, .slice A1 l1.length c1] rfl (by (try simp only [List.map_toArray, List.map_cons, List.map_nil]); first | done | rfl | (simp only [List.length_drop, List.length_take]; rfl)) ?_; (with_reducible refine (api_Ins.calls k _ _ l0 _ _ l1 t261 _ ?side1 ?side2 ?side3 ?side4 A3.out).mono ?_); (case side1 => repeat (first | exact HR0.out | (with_reducible refine Kd.C_alloc ?_ _) | (with_reducible refine Kd.C_drewN ?_ _) | (with_reducible refine Kd.C_drew ?_))); (case side2 => exact HC0.out); (case side3 => repeat (first | exact HR1.out | (with_reducible refine Kd.C_alloc ?_ _) | (with_reducible refine Kd.C_drewN ?_ _) | (with_reducible refine Kd.C_drew ?_))); (case side4 => exact HC1.out); rintro e w' ⟨rfl, ⟨nd, rfl⟩⟩; refine ⟨_, rfl, ?_⟩))
  go_ret
  exact ⟨by first | rfl | (simp; done) | (simp [*]; done), by repeat (first | exact Drawn0.refl _ | apply Drawn0.step)⟩

end Go.Proofs.YtmgcpjgpmjhemaaGreatDoor.Pc

/-
What is printed is read; what is read, printed, is what was read; 'Same' of a program and itself.
-/
namespace Go.Proofs.YtmgcpjgpmjhemaaGreatDoor.Pc
open Go.RowKit Go.Proofs.YtmgcpjgpmjhemaaGreatDoorW.PrintWords Go.Proofs.YtmgcpjgpmjhemaaGreatDoorW.PrintLast Go.Proofs.YtmgcpjgpmjhemaaGreatDoorW.PrintMore
open CodePure (esc Bs unesc figs)
set_option linter.unusedVariables false

theorem linesL_cons (x : S23) (l : List S23) : linesL (x :: l) = lineS x ++ 10 :: linesL l := by simp [linesL]
theorem lineS_no (x : S23) (h : mayS x = true) : ∀ c ∈ lineS x, c ≠ 10 := line_no10 _ _ _ (mayB_op h)
theorem linesL_last (x : S23) (l : List S23) : (linesL (x :: l)).getLast? = some 10 := by
  induction l generalizing x with
  | nil => simp [linesL]
  | cons y l ih =>
    rw [linesL_cons, List.getLast?_append, List.getLast?_cons_of_ne_nil (by rw [linesL_cons]; simp), ih y]
    rfl
theorem linesL_count (l : List S23) (h : l.all mayS = true) : (linesL l).count 10 = l.length := by
  induction l with
  | nil => rfl
  | cons x l ih =>
    simp only [List.all_cons, Bool.and_eq_true] at h
    have h0 : (lineS x).count 10 = 0 := List.count_eq_zero.2 fun hc => lineS_no x h.1 10 hc rfl
    rw [linesL_cons, List.count_append, h0, List.count_cons, ih h.2]
    simp
theorem linesL_pieces (x : S23) (l : List S23) (h : (x :: l).all mayS = true) : pieces (linesL (x :: l)).dropLast = (x :: l).map lineS := by
  induction l generalizing x with
  | nil =>
    simp only [List.all_cons, Bool.and_eq_true] at h
    have e : (linesL [x]).dropLast = lineS x := by simp [linesL]
    rw [e, pieces_no _ (lineS_no x h.1)]
    rfl
  | cons y l ih =>
    simp only [List.all_cons, Bool.and_eq_true] at h
    have hne : linesL (y :: l) ≠ [] := by rw [linesL_cons]; simp
    have e : (linesL (x :: y :: l)).dropLast = lineS x ++ 10 :: (linesL (y :: l)).dropLast := by
      rw [linesL_cons, List.dropLast_append_of_ne_nil (by simp), List.dropLast_cons_of_ne_nil hne]
    rw [e, pieces_app _ _ (lineS_no x h.1), ih y (by simp only [List.all_cons, Bool.and_eq_true]; exact h.2)]
    rfl
theorem bs_back (b : ByteArray) : bs b.data.toList = b := by
  cases b with
  | mk d => simp [bs]
theorem parseAll_lines (l : List S23) (h : l.all mayS = true) (hw : ∀ x ∈ l, okS x) : parseAll (l.map lineS) = some l := by
  induction l with
  | nil => rfl
  | cons x l ih =>
    simp only [List.all_cons, Bool.and_eq_true] at h
    have hp := parse_line x.f0 x.f1 x.f2.data.toList (hw x List.mem_cons_self).2.1 h.1
    simp only [List.map_cons, parseAll]
    rw [show lineS x = lineL x.f0 x.f1 x.f2.data.toList from rfl, hp]
    simp only
    rw [ih h.2 (fun y hy => hw y (List.mem_cons_of_mem _ hy)), bs_back]
    rfl
theorem read_print (l : List S23) (h : l.all mayS = true) (hw : ∀ x ∈ l, okS x) (hl : l.length ≤ 200) : readL (linesL l) = (l, 0) := by
  unfold readL
  rw [linesL_count l h, if_neg (by omega)]
  cases l with
  | nil => rfl
  | cons x l =>
    have hne : linesL (x :: l) ≠ [] := by rw [linesL_cons]; simp
    rw [if_neg hne, linesL_last, if_neg (by simp), linesL_pieces x l h, parseAll_lines _ h hw]

theorem pieces_join (s : Bs) : (pieces s).flatMap (· ++ [10]) = s ++ [10] := by
  induction s with
  | nil => rfl
  | cons c r ih =>
    rw [pieces_cons]
    by_cases hc : c = 10
    · subst hc
      rw [if_pos rfl, List.flatMap_cons, ih]
      rfl
    · rw [if_neg hc]
      obtain ⟨p, ps, e⟩ := pieces_ne r
      rw [e] at ih ⊢
      simp only [List.flatMap_cons] at ih ⊢
      rw [List.cons_append, List.cons_append, ih]
      rfl
theorem parseAll_back : ∀ (ls : List Bs) (q : List S23), parseAll ls = some q → q.map lineS = ls ∧ q.all mayS = true ∧ ∀ x ∈ q, okS x
  | [], q, h => by
    obtain rfl := Option.some.inj h
    exact ⟨rfl, rfl, by simp⟩
  | l :: ls, q, h => by
    unfold parseAll at h
    cases hp : parseL l with
    | none => rw [hp] at h; cases h
    | some x =>
      obtain ⟨i, n, t⟩ := x
      rw [hp] at h
      simp only [Option.map_eq_some_iff] at h
      obtain ⟨q', hq', rfl⟩ := h
      obtain ⟨h1, h2, h3⟩ := parseAll_back ls q' hq'
      obtain ⟨m1, m2, m3⟩ := line_parse hp
      obtain ⟨hop, p0, p2, p1, pe⟩ := may_parts m1
      refine ⟨?_, ?_, ?_⟩
      · rw [List.map_cons, h1]
        congr 1
      · rw [List.all_cons, h2]
        show (mayB i n t && true) = true
        rw [m1]; rfl
      · intro x hx
        rcases List.mem_cons.1 hx with rfl | hx
        · refine ⟨⟨by show _ ≤ i; omega, by show i ≤ _; omega⟩, m3, ?_⟩
          show t.length ≤ 100000
          by_cases e1 : i = 1
          · have := (p1 e1).2; omega
          · have : t = [] := by
              by_cases e0 : i = 0
              · exact p0 e0
              · by_cases e2 : i = 2
                · exact (p2 e2).2.2
                · exact (pe e0 e1 e2).2
            simp [this]
        · exact h3 x hx
theorem print_read {s : Bs} {q : List S23} (h : readL s = (q, 0)) : q.all mayS = true ∧ (∀ x ∈ q, okS x) ∧ q.length ≤ 200 ∧ linesL q = s := by
  unfold readL at h
  split at h
  · cases h
  · rename_i h2
    split at h
    · rename_i h3
      obtain rfl := (Prod.mk.inj h).1
      exact ⟨rfl, by simp, by simp, by rw [h3]; rfl⟩
    · split at h
      · cases h
      · rename_i h3 h4
        have h4' : s.getLast? = some 10 := Decidable.not_not.1 h4
        split at h
        · rename_i l hp
          obtain rfl := (Prod.mk.inj h).1
          obtain ⟨h5, h6, h7⟩ := parseAll_back _ _ hp
          obtain ⟨a, rfl⟩ := List.getLast?_eq_some_iff.1 h4'
          simp only [List.dropLast_concat] at hp h5
          refine ⟨h6, h7, ?_, ?_⟩
          · have := congrArg List.length h5
            rw [List.length_map, (pieces_len a).1] at this
            have hc : (a ++ [10]).count 10 = a.count 10 + 1 := by simp
            omega
          · rw [← pieces_join a, ← h5]
            simp [linesL, List.flatMap_map]
        · cases h

theorem same_run (l : List S23) (hl : l.length ≤ 1000000) : ∀ (m i : Nat), m = l.length - i → i ≤ l.length → ∀ f, 1 ≤ f → api_Ins.l0 (m + f) l l (l.length : Int) i = some true := by
  intro m
  induction m with
  | zero =>
    intro i hm hi f hf
    obtain ⟨f', rfl⟩ : ∃ f', f = f' + 1 := ⟨f - 1, by omega⟩
    have he : i = l.length := by omega
    subst he
    simp [api_Ins.l0]
  | succ m ih =>
    intro i hm hi f hf
    have hlt : i < l.length := by omega
    have hw : wrap64 ((i : Int) + 1) = ((i + 1 : Nat) : Int) := by unfold wrap64; omega
    rw [show m + 1 + f = (m + f) + 1 by omega]
    simp only [api_Ins.l0]
    rw [if_pos (by omega), if_pos (by omega), if_pos (by omega), if_pos (by omega), if_neg (by simp), hw]
    exact ih (i + 1) (by omega) (by omega) f hf
theorem same_self (l : List S23) (hl : l.length ≤ 1000000) (k : Nat) (hk : l.length + 1 ≤ k) : code_Same.f k l l = some true := by
  unfold code_Same.f api_Ins.f
  rw [if_pos rfl]
  have := same_run l hl l.length 0 (by omega) (Nat.zero_le _) (k - l.length) (by omega)
  rw [show l.length + (k - l.length) = k by omega] at this
  rw [show ((0 : Nat) : Int) = 0 from rfl] at this
  rw [this]
  rfl
theorem refSame_run (l : List S23) (hl : l.length ≤ 1000000) : ∀ (m i : Nat), m = l.length - i → i ≤ l.length → ∀ f, 1 ≤ f → threshingref14_Same.l0 (m + f) l l i = some true := by
  intro m
  induction m with
  | zero =>
    intro i hm hi f hf
    obtain ⟨f', rfl⟩ : ∃ f', f = f' + 1 := ⟨f - 1, by omega⟩
    have he : i = l.length := by omega
    subst he
    simp [threshingref14_Same.l0]
  | succ m ih =>
    intro i hm hi f hf
    have hlt : i < l.length := by omega
    have hw : wrap64 ((i : Int) + 1) = ((i + 1 : Nat) : Int) := by unfold wrap64; omega
    rw [show m + 1 + f = (m + f) + 1 by omega]
    simp only [threshingref14_Same.l0]
    rw [if_pos (by omega), if_pos (by omega), if_pos (by omega), if_neg (by simp), hw]
    exact ih (i + 1) (by omega) (by omega) f hf
theorem refSame_self (l : List S23) (hl : l.length ≤ 1000000) (k : Nat) (hk : l.length + 1 ≤ k) : threshingref14_Same.f k l l = some true := by
  unfold threshingref14_Same.f
  rw [if_pos rfl]
  have := refSame_run l hl l.length 0 (by omega) (Nat.zero_le _) (k - l.length) (by omega)
  rw [show l.length + (k - l.length) = k by omega] at this
  rw [show ((0 : Nat) : Int) = 0 from rfl] at this
  exact this
end Go.Proofs.YtmgcpjgpmjhemaaGreatDoor.Pc

/-
The laws' live question is answered true.
-/
namespace Go.Proofs.YtmgcpjgpmjhemaaGreatDoor.Pc
open Go.RowKit Go.Proofs.YtmgcpjgpmjhemaaGreatDoorW.PrintWords Go.Proofs.YtmgcpjgpmjhemaaGreatDoorW.PrintLast Go.Proofs.YtmgcpjgpmjhemaaGreatDoorW.PrintMore
set_option linter.unusedVariables false

theorem alive_at : threshinglaw14_alive.f 40 = some true := by decide +kernel
theorem alive_true (k : Nat) (hk : 40 ≤ k) : threshinglaw14_alive.f k = some true := by
  have : ∀ d, threshinglaw14_alive.f (40 + d) = some true := by
    intro d
    induction d with
    | zero => exact alive_at
    | succ d ih => exact threshinglaw14_alive.mono (40 + d) _ ih
  rw [show k = 40 + (k - 40) by omega]
  exact this _

end Go.Proofs.YtmgcpjgpmjhemaaGreatDoor.Pc

/-
sync.Once.Do by one goroutine, the function handed in met by its own contract.
-/
namespace Go.Proofs.YtmgcpjgpmjhemaaGreatDoor.Pc
open Go.RowKit
set_option linter.unusedVariables false

theorem disable (w : World) : (callFunc 223 #[]).run Tryz.prog w = .ok (.value (.tuple #[])) w := run_call_mark0 Tryz.func223 (by kernel_rfl) (by kernel_rfl) (by kernel_rfl) .disable (by kernel_rfl) w
theorem enable (w : World) : (callFunc 225 #[]).run Tryz.prog w = .ok (.value (.tuple #[])) w := run_call_mark0 Tryz.func225 (by kernel_rfl) (by kernel_rfl) (by kernel_rfl) .enable (by kernel_rfl) w
theorem acquire (a : Addr) (w : World) : (callFunc 226 #[.pointer (some a)]).run Tryz.prog w = .ok (.value (.tuple #[])) w := run_call_marked Tryz.func226 (by kernel_rfl) (by kernel_rfl) (by kernel_rfl) .acquire (by kernel_rfl) a w
theorem releaseMerge (a : Addr) (w : World) : (callFunc 228 #[.pointer (some a)]).run Tryz.prog w = .ok (.value (.tuple #[])) w := run_call_marked Tryz.func228 (by kernel_rfl) (by kernel_rfl) (by kernel_rfl) .releaseMerge (by kernel_rfl) a w

theorem store_deferred (a : Addr) (x : Value) (u : FrameMode) (w : World) (hc : w.cell? a = some x) (hz : w.frozen? a = false) :
    CallsD Tryz.prog 149 #[.pointer (some a), .bool true] u w fun e u' w' => u' = u ∧ (e = .returned (.tuple #[]) ∧ w' = w.drew.setCell a (.int .u32 1)) := by
  have hc' : w.drew.cell? a = some x := by go_simp
  have hz' : w.drew.frozen? a = false := by go_simp
  have hst := run_call_store (P := Tryz.prog) Tryz.func201 (by kernel_rfl) (by kernel_rfl) (by kernel_rfl) (by kernel_rfl) (k := .u32) (y := 1) hc' hz'
  go_enter_d Tryz.func149, Tryz.ntmps149
  go_wp2
  go_region_calls
  all_goals (go_end0; exact ⟨rfl, rfl⟩)

set_option maxRecDepth 100000 in
theorem unlock_deferred (a : Addr) (u : FrameMode) (w : World) (hc : w.cell? a = some (.int .i32 1)) (hz : w.frozen? a = false) :
    CallsD Tryz.prog 148 #[.pointer (some a)] u w fun e u' w' => u' = u ∧ (e = .returned (.tuple #[]) ∧ w' = w.setCell a (.int .i32 0)) := by
  have hd := disable
  have he := enable
  have hr := releaseMerge
  have hadd := run_call_add (P := Tryz.prog) Tryz.func229 (by kernel_rfl) (by kernel_rfl) (by kernel_rfl) .i32 (by kernel_rfl) (y := -1) (s := 0) hc hz (by simp [go_sem]; rfl)
  have hcv := run_convert_to_unsafe (P := Tryz.prog) (src := 269) (dst := 170) Tryz.underlying269 Tryz.underlying170 (by kernel_rfl) hc
  go_enter_d Tryz.func148, Tryz.ntmps148
  go_wp2
  go_end0
  go_wp2
  go_end0
  exact ⟨rfl, rfl⟩

set_option maxRecDepth 100000 in
theorem lock_free (a : Addr) (w : World) (hc : w.cell? a = some (.int .i32 0)) (hz : w.frozen? a = false) :
    Calls Tryz.prog 147 #[.pointer (some a)] w fun e w' => e = .returned (.tuple #[]) ∧ w' = w.setCell a (.int .i32 1) := by
  have hd := disable
  have he := enable
  have ha := acquire
  have hcas := run_call_cas_hit (P := Tryz.prog) Tryz.func224 (by kernel_rfl) (by kernel_rfl) (by kernel_rfl) .i32 (by kernel_rfl) (y := 1) hc hz
  have hc' : (w.setCell a (.int .i32 1)).cell? a = some (.int .i32 1) := World.cell?_setCell_same w a _ hc
  have hcv := run_convert_to_unsafe (P := Tryz.prog) (src := 269) (dst := 170) Tryz.underlying269 Tryz.underlying170 (by kernel_rfl) hc'
  go_enter Tryz.func147, Tryz.ntmps147
  go_wp2
  first | go_end0 | (simp only [Exit.inBlock, Exit.then]; refine bodyPost_ret (results_none rfl _ _ _) rfl ?_) | refine bodyPost_ret (results_none rfl _ _ _) rfl ?_
  go_wp2
  go_end0
  exact ⟨rfl, rfl⟩

theorem load_zero (a : Addr) (w : World) (hc : w.cell? a = some (.int .u32 0)) :
    Calls Tryz.prog 120 #[.pointer (some a)] w fun e w' => e = .returned (.bool false) ∧ w' = w := by
  have hl := run_call_load (P := Tryz.prog) Tryz.func146 (by kernel_rfl) (by kernel_rfl) (by kernel_rfl) .u32 (by kernel_rfl) hc
  go_enter Tryz.func120, Tryz.ntmps120
  go_wp2
  go_ret
  exact ⟨rfl, rfl⟩

set_option maxRecDepth 100000 in
set_option maxHeartbeats 1600000 in
theorem slow_once (b : Nat) (fst : Array Value) (w : World) (Q : World → Prop)
    (h0 : w.cell? ⟨b, 0, none⟩ = some (.int .u32 0)) (h1 : w.cell? ⟨b, 1, none⟩ = some (.int .i32 0))
    (f0 : w.frozen? ⟨b, 0, none⟩ = false) (f1 : w.frozen? ⟨b, 1, none⟩ = false)
    (hq : ∀ w1, Q w1 → w1.cell? ⟨b, 0, none⟩ = some (.int .u32 0) ∧ w1.cell? ⟨b, 1, none⟩ = some (.int .i32 1) ∧ w1.frozen? ⟨b, 0, none⟩ = false ∧ w1.frozen? ⟨b, 1, none⟩ = false)
    (hf : Calls Tryz.prog 91 fst (w.setCell ⟨b, 1, none⟩ (.int .i32 1)) fun e w' => e = .returned (.tuple #[]) ∧ Q w') :
    Calls Tryz.prog 121 #[.pointer (some ⟨b, 0, none⟩), .func (.func 91) fst #[]] w fun e w' => e = .returned (.tuple #[]) ∧
      ∃ w1, Q w1 ∧ w' = (w1.drew.setCell ⟨b, 0, none⟩ (.int .u32 1)).setCell ⟨b, 1, none⟩ (.int .i32 0) := by
  have hnot : ∀ (x : Bool) (w : World), (Op.unary .not (.bool x)).run Tryz.prog w = .ok (.bool (!x)) w := fun _ _ => rfl
  have e0 : (w.setCell ⟨b, 1, none⟩ (.int .i32 1)).cell? ⟨b, 0, none⟩ = some (.int .u32 0) := (World.cell?_setCell_other _ ⟨b, 1, none⟩ ⟨b, 0, none⟩ _ (by simp)).trans h0
  go_enter_defers Tryz.func121, Tryz.ntmps121
  go_wp2_with (first
    | (go_at_call 147; refine (lock_free ⟨b, 1, none⟩ _ (by go_simp) (by go_simp)).mono ?_; rintro e w' ⟨rfl, rfl⟩)
    | (go_at_call 120; refine (load_zero ⟨b, 0, none⟩ _ e0).mono ?_; rintro e w' ⟨rfl, rfl⟩)
    | (go_at_call 91; refine hf.mono ?_; rintro e w1 ⟨rfl, hw1⟩))
  obtain ⟨q0, q1, z0, z1⟩ := hq w1 hw1
  refine leaves_cons (f := 149) (args := #[.pointer (some ⟨b, 0, none⟩), .bool true]) (by simp) (by simp [go_sem]) ?_
  refine (store_deferred ⟨b, 0, none⟩ (.int .u32 0) .returning _ q0 z0).mono ?_
  rintro e u' w'' ⟨rfl, rfl, rfl⟩
  refine leaves_cons (f := 148) (args := #[.pointer (some ⟨b, 1, none⟩)]) (by simp [settle]) (by simp [go_sem]) ?_
  refine (unlock_deferred ⟨b, 1, none⟩ _ _ ?_ (by simp [z1])).mono ?_
  · refine (World.cell?_setCell_other _ ⟨b, 0, none⟩ ⟨b, 1, none⟩ _ (by simp)).trans ?_
    rw [World.cell?_drew]
    exact q1
  rintro e u' w'' ⟨rfl, rfl, rfl⟩
  simp [Leaves, settle, results, Tryz.results121]
  exact ⟨w1, hw1, rfl⟩

set_option maxRecDepth 100000 in
set_option maxHeartbeats 1600000 in
theorem do_once (b : Nat) (fst : Array Value) (w : World) (Q : World → Prop)
    (h0 : w.cell? ⟨b, 0, none⟩ = some (.int .u32 0)) (h1 : w.cell? ⟨b, 1, none⟩ = some (.int .i32 0))
    (f0 : w.frozen? ⟨b, 0, none⟩ = false) (f1 : w.frozen? ⟨b, 1, none⟩ = false)
    (hq : ∀ w1, Q w1 → w1.cell? ⟨b, 0, none⟩ = some (.int .u32 0) ∧ w1.cell? ⟨b, 1, none⟩ = some (.int .i32 1) ∧ w1.frozen? ⟨b, 0, none⟩ = false ∧ w1.frozen? ⟨b, 1, none⟩ = false)
    (hf : Calls Tryz.prog 91 fst (w.setCell ⟨b, 1, none⟩ (.int .i32 1)) fun e w' => e = .returned (.tuple #[]) ∧ Q w') :
    Calls Tryz.prog 90 #[.pointer (some ⟨b, 0, none⟩), .func (.func 91) fst #[]] w fun e w' => e = .returned (.tuple #[]) ∧
      ∃ w1, Q w1 ∧ w' = (w1.drew.setCell ⟨b, 0, none⟩ (.int .u32 1)).setCell ⟨b, 1, none⟩ (.int .i32 0) := by
  have hnot : ∀ (x : Bool) (w : World), (Op.unary .not (.bool x)).run Tryz.prog w = .ok (.bool (!x)) w := fun _ _ => rfl
  go_enter Tryz.func90, Tryz.ntmps90
  go_wp2_with (first
    | (go_at_call 120; refine (load_zero ⟨b, 0, none⟩ _ h0).mono ?_; rintro e w' ⟨rfl, rfl⟩)
    | (go_at_call 121; refine (slow_once b fst _ Q h0 h1 f0 f1 hq hf).mono ?_; rintro e w' ⟨rfl, hw'⟩))
  first | go_end0 | (simp only [Exit.inBlock, Exit.then]; refine bodyPost_ret (results_none rfl _ _ _) rfl ?_) | refine bodyPost_ret (results_none rfl _ _ _) rfl ?_
  exact ⟨rfl, hw'⟩
end Go.Proofs.YtmgcpjgpmjhemaaGreatDoor.Pc

/-
strings.NewReplacer and (*strings.Replacer).Replace at the three pairs that code.Line hands over.
-/
namespace Go.Proofs.YtmgcpjgpmjhemaaGreatDoor.Pc
open Go.RowKit Go.Proofs.YtmgcpjgpmjhemaaGreatDoorW.PrintWords Go.Proofs.YtmgcpjgpmjhemaaGreatDoorW.PrintLast Go.Proofs.YtmgcpjgpmjhemaaGreatDoorW.PrintMore
set_option linter.unusedVariables false

structure ReplCells (w : World) (b : Nat) : Prop where
  c0 : w.cell? ⟨b, 0, none⟩ = some (.string ⟨#[34]⟩)
  c1 : w.cell? ⟨b, 1, none⟩ = some (.string ⟨#[92, 34]⟩)
  c2 : w.cell? ⟨b, 2, none⟩ = some (.string ⟨#[92]⟩)
  c3 : w.cell? ⟨b, 3, none⟩ = some (.string ⟨#[92, 92]⟩)
  c4 : w.cell? ⟨b, 4, none⟩ = some (.string ⟨#[10]⟩)
  c5 : w.cell? ⟨b, 5, none⟩ = some (.string ⟨#[92, 110]⟩)

/-- A Replacer that has not been built yet; 'k': what its lock says. -/
structure IsRepl (k : Int) (w : World) (p ob : Nat) : Prop where
  d : w.cell? ⟨p, 0, none⟩ = some (.int .u32 0)
  l : w.cell? ⟨p, 1, none⟩ = some (.int .i32 k)
  r : w.cell? ⟨p, 3, none⟩ = some .nilIface
  o : ∃ oc, w.cell? ⟨p, 4, none⟩ = some (.slice (some ⟨ob, 0, none⟩) 6 oc)
  z : ∀ i, w.frozen? ⟨p, i, none⟩ = false
  lt : ob < p
  cs : ReplCells w ob

set_option maxRecDepth 100000 in
set_option maxHeartbeats 1600000 in
theorem newReplacer (b : Nat) (w : World) (hc : ReplCells w b) :
    Calls Tryz.prog 45 #[.slice (some ⟨b, 0, none⟩) 6 6] w fun e w' => ∃ p ob, e = .returned (.pointer (some ⟨p, 0, none⟩)) ∧ IsRepl 0 w' p ob ∧ w.heap.size ≤ p ∧ Below w.heap.size w w' := by
  obtain ⟨c0, c1, c2, c3, c4, c5⟩ := hc
  go_enter Tryz.func45, Tryz.ntmps45
  go_wp2_with fail
  go_ret
  refine ⟨w.heap.size + 1, w.heap.size, rfl, ⟨?_, ?_, ?_, ⟨(Question.appendCap 6 0 9).cut (w.tape w.drawn (Question.appendCap 6 0 9)), ?_⟩, ?_, Nat.lt_succ_self _, ?_⟩, Nat.le_succ _, ?_⟩
  · go_simp
  · go_simp
  · go_simp
  · go_simp; try rfl
  · intro i; go_simp
  · constructor <;> (go_simp; rw [Array.getElem?_append_left (by simp)]; rfl)
  · exact (((Below.refl _ _).alloc (Nat.le_refl _) _).alloc (by simp) _).drew

theorem zero_bsr : Tryz.zeroCells203 = Array.replicate 257 (.slice none 0 0) := by kernel_rfl

theorem store_bsr (v : Value) (hv : v.oneCell' = true) : ∃ cs : Array Value, cs.size = 257 ∧ (∀ i, i < 256 → cs[i]? = some (.slice none 0 0)) ∧ cs[256]? = some v ∧
    ∀ (w w' : World) (n : Nat), n = w.heap.size → (storeCells ⟨n, 0, none⟩ (Tryz.zeroCells203.toList.set 256 v)).run Tryz.prog (w.alloc (.cells Tryz.zeroCells203 203)) = .ok () (w.alloc (.cells cs 203)) := by
  refine ⟨((Array.replicate 257 (.slice none 0 0)).setIfInBounds 256 v), by simp, fun i hi => ?_, by simp, ?_⟩
  · rw [Array.getElem?_setIfInBounds_ne (by omega), Array.getElem?_replicate, if_pos (by omega)]
  · rintro w w' n rfl
    rw [zero_bsr]
    have h := run_storeCells_new (P := Tryz.prog) w 203 (Array.replicate 257 (.slice none 0 0)) ((Array.replicate 257 (.slice none 0 0)).setIfInBounds 256 v) (by simp only [Array.size_setIfInBounds, Array.size_replicate]; kernel_rfl) (by simp) (by
      rw [Array.all_eq_true]
      intro i hi
      rw [Array.getElem_setIfInBounds (by simpa using hi)]
      split
      · exact hv
      · rw [Array.getElem_replicate]; rfl)
    simpa only [Array.toList_setIfInBounds] using h

theorem conv_one (W : World) (n : Nat) (z : Int) (hn : n = W.heap.size) (h0 : 0 ≤ z) (h1 : z < 256) :
    (convert 82 9 (.slice (some ⟨n, 0, none⟩) 1 1)).run Tryz.prog (W.alloc (.cells #[.int .u8 z] 5)) = .ok (.string ⟨#[UInt8.ofNat z.toNat]⟩) (W.alloc (.cells #[.int .u8 z] 5)) := by
  subst hn
  refine run_convert_bytes_back (W.alloc (.cells #[.int .u8 z] 5)) 82 9 5 ⟨W.heap.size, 0, none⟩ 1 [UInt8.ofNat z.toNat] Tryz.underlying82 Tryz.underlying5 Tryz.underlying9 (fun j hj => ?_)
  have hj0 : j = 0 := by simpa using hj
  subst hj0
  have e : ((⟨W.heap.size, 0, none⟩ : Addr).add 0) = ⟨W.heap.size, 0, none⟩ := rfl
  rw [e, World.cell?_alloc_new]
  simp
  omega

theorem conv_one1 (W : World) (n : Nat) (z : Int) (hn : n = W.heap.size) (h0 : 0 ≤ z) (h1 : z < 256) :
    (convert 82 9 (.slice (some ⟨n, 0, none⟩) 1 1)).run Tryz.prog (W.alloc (.cells #[.int .u8 z] 5)).drew = .ok (.string ⟨#[UInt8.ofNat z.toNat]⟩) (W.alloc (.cells #[.int .u8 z] 5)).drew := by
  have h := conv_one W.drew n z hn h0 h1
  exact h
theorem conv_one2 (W : World) (n : Nat) (z : Int) (hn : n = W.heap.size) (h0 : 0 ≤ z) (h1 : z < 256) :
    (convert 82 9 (.slice (some ⟨n, 0, none⟩) 1 1)).run Tryz.prog (W.alloc (.cells #[.int .u8 z] 5)).drew.drew = .ok (.string ⟨#[UInt8.ofNat z.toNat]⟩) (W.alloc (.cells #[.int .u8 z] 5)).drew.drew := by
  have h := conv_one W.drew.drew n z hn h0 h1
  exact h

theorem conv_bytes (W : World) (s : ByteArray) :
    (convert 9 82 (.string s)).run Tryz.prog W = .ok (.slice (some ⟨W.heap.size, 0, none⟩) s.size (grownCap W s.size 0 5))
      (W.drew.alloc (.cells (bytesRow s (grownCap W s.size 0 5)) 5 ((bytesRow s (grownCap W s.size 0 5)).size, (bytesRow s (grownCap W s.size 0 5)).size + 1))) :=
  run_bytes_of_string W 9 82 5 s Tryz.underlying9 Tryz.underlying82 Tryz.underlying5

/-- A byteStringReplacer for the three bytes: what its cells hold. -/
structure IsBsr (w : World) (q : Nat) : Prop where
  no : ∀ i, i < 256 → i ≠ 10 → i ≠ 34 → i ≠ 92 → w.cell? ⟨q, i, none⟩ = some (.slice none 0 0)
  r10 : ∃ a c, w.cell? ⟨q, 10, none⟩ = some (.slice (some ⟨a, 0, none⟩) 2 c) ∧ w.cell? ⟨a, 0, none⟩ = some (.int .u8 92) ∧ w.cell? ⟨a, 1, none⟩ = some (.int .u8 110)
  r34 : ∃ a c, w.cell? ⟨q, 34, none⟩ = some (.slice (some ⟨a, 0, none⟩) 2 c) ∧ w.cell? ⟨a, 0, none⟩ = some (.int .u8 92) ∧ w.cell? ⟨a, 1, none⟩ = some (.int .u8 34)
  r92 : ∃ a c, w.cell? ⟨q, 92, none⟩ = some (.slice (some ⟨a, 0, none⟩) 2 c) ∧ w.cell? ⟨a, 0, none⟩ = some (.int .u8 92) ∧ w.cell? ⟨a, 1, none⟩ = some (.int .u8 92)
  tr : ∃ b c, w.cell? ⟨q, 256, none⟩ = some (.slice (some ⟨b, 0, none⟩) 3 c) ∧ w.cell? ⟨b, 0, none⟩ = some (.string ⟨#[10]⟩) ∧ w.cell? ⟨b, 1, none⟩ = some (.string ⟨#[92]⟩) ∧ w.cell? ⟨b, 2, none⟩ = some (.string ⟨#[34]⟩)

theorem cell_keep {w w' : World} (hb : Below w.heap.size w w') {a : Addr} {v : Value} (hc : w.cell? a = some v) : w'.cell? a = some v := (hb.cell (World.block_lt_of_cell? w _ hc)).trans hc
theorem IsBsr.below {w w' : World} {q : Nat} (h : IsBsr w q) (hb : Below w.heap.size w w') : IsBsr w' q := by
  obtain ⟨no, ⟨a1, c1, p1, p2, p3⟩, ⟨a2, c2, q1, q2, q3⟩, ⟨a3, c3, r1, r2, r3⟩, ⟨b, c, s1, s2, s3, s4⟩⟩ := h
  exact ⟨fun i hi h1 h2 h3 => cell_keep hb (no i hi h1 h2 h3), ⟨a1, c1, cell_keep hb p1, cell_keep hb p2, cell_keep hb p3⟩, ⟨a2, c2, cell_keep hb q1, cell_keep hb q2, cell_keep hb q3⟩, ⟨a3, c3, cell_keep hb r1, cell_keep hb r2, cell_keep hb r3⟩, ⟨b, c, cell_keep hb s1, cell_keep hb s2, cell_keep hb s3, cell_keep hb s4⟩⟩

theorem cell_marked (W : World) (c : Array Value) (t : TypeId) (fr : Nat × Nat) (n i : Nat) (hn : n = W.heap.size) : (W.alloc (.cells c t fr)).cell? ⟨n, i, none⟩ = c[i]? := by
  subst hn
  exact World.cell?_alloc_mark W c t fr i

theorem set_two {cs cs1 : Array Value} {i : Nat} {u v : Value} (h : (cs.setIfInBounds 256 u).setIfInBounds i v = cs1) (hs : Aside0 (cs.size = 257)) (hi : i < 256) :
    Aside0 (cs1.size = 257) ∧ cs1[256]? = some u ∧ cs1[i]? = some v ∧ Aside0 (∀ j, j < 256 → j ≠ i → cs1[j]? = cs[j]?) := by
  have hs := hs.out
  subst h
  refine ⟨⟨by simpa using hs⟩, ?_, ?_, ⟨fun j hj hne => ?_⟩⟩
  · rw [Array.getElem?_setIfInBounds_ne (by omega), Array.getElem?_setIfInBounds_self_of_lt (by omega)]
  · rw [Array.getElem?_setIfInBounds_self_of_lt (by simp; omega)]
  · rw [Array.getElem?_setIfInBounds_ne (by omega), Array.getElem?_setIfInBounds_ne (by omega)]

set_option maxRecDepth 100000 in
set_option maxHeartbeats 1600000 in
theorem repl_build (p ob : Nat) (w : World) (h : IsRepl 1 w p ob) :
    Calls Tryz.prog 122 #[.pointer (some ⟨p, 0, none⟩)] w fun e w' => ∃ q, e = .returned (.iface 204 (.pointer (some ⟨q, 0, none⟩))) ∧ IsBsr w' q ∧ Below w.heap.size w w' := by
  obtain ⟨hd, hl, hr, ⟨oc, ho⟩, hz, hlt, ⟨c0, c1, c2, c3, c4, c5⟩⟩ := h
  obtain ⟨cs, hcsz, hcs0, hcs256, hst0⟩ := store_bsr (.slice (some ⟨w.heap.size, 0, none⟩) 0 3) rfl
  have hst := fun W : World => hst0 W W _ rfl
  have hst1 := hst (w.alloc (.cells #[.string ⟨#[]⟩, .string ⟨#[]⟩, .string ⟨#[]⟩] 9))
  rw [show (w.alloc (.cells #[.string ⟨#[]⟩, .string ⟨#[]⟩, .string ⟨#[]⟩] 9)).heap.size = w.heap.size + 1 by simp] at hst1
  clear hst hst0
  have b0 : ob < w.heap.size := World.block_lt_of_cell? w _ c0
  have b1 : ob ≤ w.heap.size := by omega
  have b2 : ob < w.heap.size + 2 := by omega
  have b3 : ob < w.heap.size + 3 := by omega
  have b4 : ob < w.heap.size + 4 := by omega
  have b5 : ob < w.heap.size + 5 := by omega
  have b6 : ob < w.heap.size + 6 := by omega
  have b7 : ob < w.heap.size + 7 := by omega
  have b8 : ob < w.heap.size + 8 := by omega
  have b9 : ob < w.heap.size + 9 := by omega
  have b10 : ob < w.heap.size + 10 := by omega
  have b11 : ob < w.heap.size + 11 := by omega
  have b12 : ob < w.heap.size + 12 := by omega
  have b13 : ob < w.heap.size + 13 := by omega
  have b14 : ob < w.heap.size + 14 := by omega
  have e10 : ∀ h, ((⟨#[10]⟩ : ByteArray)[0]'h).toNat = 10 := fun _ => rfl
  have e34 : ∀ h, ((⟨#[34]⟩ : ByteArray)[0]'h).toNat = 34 := fun _ => rfl
  have e92 : ∀ h, ((⟨#[92]⟩ : ByteArray)[0]'h).toNat = 92 := fun _ => rfl
  have z10 := hcs0 10 (by decide)
  have z34 := hcs0 34 (by decide)
  have z92 := hcs0 92 (by decide)
  have HS0 := Aside0.mk hcsz
  have HS00 := Aside0.mk hcs0
  clear hcs0 hcsz
  have hc1 := conv_one
  have hc11 := conv_one1
  have hc12 := conv_one2
  have hc2 := conv_bytes
  have emk : madeCells (Value.string ⟨#[]⟩).cells ((3 : Int).toNat * Tryz.t9.size) = #[.string ⟨#[]⟩, .string ⟨#[]⟩, .string ⟨#[]⟩] := by kernel_rfl
  have hmk : ∀ w, (Instr.makeSlice 73 (.int .i64 0) (.int .i64 3)).run Tryz.prog w = .ok (.slice (some ⟨w.heap.size, 0, none⟩) 0 3) (w.alloc (.cells #[.string ⟨#[]⟩, .string ⟨#[]⟩, .string ⟨#[]⟩] 9)) := fun w => by
    have h := run_make w 73 9 Tryz.t9 (.string ⟨#[]⟩) Tryz.underlying73 (by kernel_rfl) (by kernel_rfl) .i64 .i64 0 3 (by decide) (by decide) (by decide) (by decide)
    rw [emk] at h
    exact h
  clear emk
  go_enter Tryz.func122, Tryz.ntmps122
  go_wp2_with fail
  refine wp_loop_rounds 4 ?_
  rw [rounds_succ]
  go_wp2_with fail
  rw [rounds_succ]
  go_wp2_with fail
  rw [rounds_succ]
  go_wp2_with fail
  rw [rounds_succ]
  go_wp2_with fail
  have hq : ∀ (w : World) (a : Option Addr) (n c n' c' : Nat), (binOp .eql 82 (.slice a n c) (.slice none n' c')).run Tryz.prog w = .ok (.bool a.isNone) w := fun w a n c n' c' => Lib.run_eql_slice_nil w _ _ a n c n' c' Tryz.underlying82
  refine wp_loop_rounds 4 ?_
  rw [rounds_succ]
  go_wp2_with fail
  generalize grownCap _ 2 0 5 = g1
  generalize hE1 : (cs.setIfInBounds 256 _).setIfInBounds 10 _ = cs1
  obtain ⟨HS1, y1, x10, HJ1⟩ := set_two hE1 HS0 (by decide)
  have x92 := (HJ1.out 92 (by decide) (by decide)).trans z92
  have x34 := (HJ1.out 34 (by decide) (by decide)).trans z34
  clear hE1 hcs256
  rw [rounds_succ]
  go_wp2_with fail
  generalize grownCap _ 2 0 5 = g2
  generalize hE2 : (cs1.setIfInBounds 256 _).setIfInBounds 92 _ = cs2
  obtain ⟨HS2, y2, v92, HJ2⟩ := set_two hE2 HS1 (by decide)
  have v10 := (HJ2.out 10 (by decide) (by decide)).trans x10
  have v34 := (HJ2.out 34 (by decide) (by decide)).trans x34
  clear hE2 y1
  rw [rounds_succ]
  go_wp2_with fail
  generalize grownCap _ 2 0 5 = g3
  generalize hE3 : (cs2.setIfInBounds 256 _).setIfInBounds 34 _ = cs3
  obtain ⟨HS3, y3, u34, HJ3⟩ := set_two hE3 HS2 (by decide)
  have u10 := (HJ3.out 10 (by decide) (by decide)).trans v10
  have u92 := (HJ3.out 92 (by decide) (by decide)).trans v92
  clear hE3 y2
  rw [rounds_succ]
  go_wp2_with fail
  go_ret
  have br : ∀ (x y : UInt8) (g : Nat), (bytesRow ⟨#[x, y]⟩ g)[0]? = some (.int .u8 x.toNat) ∧ (bytesRow ⟨#[x, y]⟩ g)[1]? = some (.int .u8 y.toNat) := by
    intro x y g
    constructor <;> simp [bytesRow, Array.getElem?_append]
  have hcm := cell_marked
  refine ⟨w.heap.size + 1, rfl, ⟨fun i hi h1 h2 h3 => ?_, ?_, ?_, ?_, ?_⟩, ?_⟩
  · have := ((HJ3.out i hi h2).trans ((HJ2.out i hi h3).trans (HJ1.out i hi h1))).trans (HS00.out i hi)
    go_simp
  · refine ⟨w.heap.size + 1 + 1 + 1 + 1, g1, ?_, ?_, ?_⟩
    · go_simp
    · have := (br 92 110 g1).1
      go_simp
    · have := (br 92 110 g1).2
      go_simp
  · refine ⟨w.heap.size + 1 + 1 + 1 + 1 + 1 + 1 + 1 + 1 + 1 + 1, g3, ?_, ?_, ?_⟩
    · go_simp
    · have := (br 92 34 g3).1
      go_simp
    · have := (br 92 34 g3).2
      go_simp
  · refine ⟨w.heap.size + 1 + 1 + 1 + 1 + 1 + 1 + 1, g2, ?_, ?_, ?_⟩
    · go_simp
    · have := (br 92 92 g2).1
      go_simp
    · have := (br 92 92 g2).2
      go_simp
  · refine ⟨w.heap.size, 3, ?_, ?_, ?_, ?_⟩
    · go_simp
    · go_simp
    · go_simp
    · go_simp
  · repeat first | exact Below.refl _ _ | refine Below.drew ?_ | refine Below.alloc ?_ (by simp <;> omega) _
end Go.Proofs.YtmgcpjgpmjhemaaGreatDoor.Pc

/-
(*strings.Replacer).buildOnce, (*strings.byteStringReplacer).Replace, (*strings.Replacer).Replace.
-/
namespace Go.Proofs.YtmgcpjgpmjhemaaGreatDoor.Pc
open Go.RowKit Go.Proofs.YtmgcpjgpmjhemaaGreatDoorW.PrintWords Go.Proofs.YtmgcpjgpmjhemaaGreatDoorW.PrintLast Go.Proofs.YtmgcpjgpmjhemaaGreatDoorW.PrintMore
open CodePure (esc esc1 Bs hits hitb)
set_option linter.unusedVariables false

theorem bsr_at {w : World} {q : Nat} (h : IsBsr w q) (c : UInt8) : (hitb c = false ∧ w.cell? ⟨q, c.toNat, none⟩ = some (.slice none 0 0)) ∨
    (hitb c = true ∧ ∃ a cp x, esc1 c = [92, x] ∧ w.cell? ⟨q, c.toNat, none⟩ = some (.slice (some ⟨a, 0, none⟩) 2 cp) ∧ w.cell? ⟨a, 0, none⟩ = some (.int .u8 92) ∧ w.cell? ⟨a, 1, none⟩ = some (.int .u8 (UInt8.toNat x))) := by
  by_cases h1 : c = 10
  · subst h1
    obtain ⟨a, cp, p1, p2, p3⟩ := h.r10
    exact .inr ⟨rfl, a, cp, 110, rfl, p1, p2, p3⟩
  · by_cases h2 : c = 92
    · subst h2
      obtain ⟨a, cp, p1, p2, p3⟩ := h.r92
      exact .inr ⟨rfl, a, cp, 92, rfl, p1, p2, p3⟩
    · by_cases h3 : c = 34
      · subst h3
        obtain ⟨a, cp, p1, p2, p3⟩ := h.r34
        exact .inr ⟨rfl, a, cp, 34, rfl, p1, p2, p3⟩
      · have n : ∀ k : Nat, k < 256 → c ≠ UInt8.ofNat k → c.toNat ≠ k := fun k hk hc e => hc (by rw [← e]; simp)
        refine .inl ⟨by simp [hitb, h1, h2, h3], h.no c.toNat c.toNat_lt (n 10 (by decide) h1) (n 34 (by decide) h3) (n 92 (by decide) h2)⟩

theorem byte_at (s : ByteArray) (k : Nat) (c : UInt8) (h : k < s.size) (hc : s[k]'h = c) : s.data.toList[k]? = some c := by
  rw [← hc]
  rw [List.getElem?_eq_getElem (by simpa using h)]
  rfl

def sumc (l : Bs) : Nat → Nat
  | 0 => 0
  | 1 => Lib.countByte l 10
  | 2 => Lib.countByte l 10 + Lib.countByte l 92
  | _ => hits l
theorem sumc_le (l : Bs) (k : Nat) : sumc l k ≤ l.length := by
  have h := CodePure.hits_counts l
  have h2 := CodePure.hits_le l
  match k with
  | 0 => exact Nat.zero_le _
  | 1 => show Lib.countByte l 10 ≤ _; omega
  | 2 => show Lib.countByte l 10 + Lib.countByte l 92 ≤ _; omega
  | k + 3 => exact h2
theorem sumc_0 (l : Bs) (n : Nat) (h : Lib.countByte l 10 = n) : sumc l 1 = sumc l 0 + n := by simp [sumc, h]
theorem sumc_1 (l : Bs) (n : Nat) (h : Lib.countByte l 92 = n) : sumc l 2 = sumc l 1 + n := by simp [sumc, h]
theorem sumc_2 (l : Bs) (n : Nat) (h : Lib.countByte l 34 = n) : sumc l 3 = sumc l 2 + n := by simp [sumc, ← h, ← CodePure.hits_counts l]
theorem lit_of (x : UInt8) (n : Nat) (h : x.toNat = n) : x = UInt8.ofNat n := by rw [← h]; simp

/-- The row of the buffer: the first 'j' cells are the bytes of 'out', of 'n' cells in all. -/
def Row (wr : World) (B n : Nat) (out : Bs) : Prop := ∃ L : List Value, wr.heap[B]? = some (.cells L.toArray 5 (0, 0)) ∧ L.length = n ∧ L.take out.length = out.map (fun c => Value.int .u8 (c.toNat : Int))
theorem row_cell {wr : World} {B n : Nat} {out : Bs} (h : Row wr B n out) (j : Nat) (hj : j < n) : (∃ x, wr.cell? ⟨B, j, none⟩ = some x) ∧ wr.frozen? ⟨B, j, none⟩ = false := by
  obtain ⟨L, h1, h2, _⟩ := h
  refine ⟨⟨L[j]'(by omega), ?_⟩, by simp [World.frozen?, h1]⟩
  simp [World.cell?, h1, show j < L.length by omega]
theorem row_set {wr : World} {B n : Nat} {out : Bs} (h : Row wr B n out) (hj : out.length < n) (c : UInt8) : Row (wr.setCell ⟨B, out.length, none⟩ (.int .u8 (c.toNat : Int))) B n (out ++ [c]) := by
  obtain ⟨L, h1, h2, h3⟩ := h
  refine ⟨L.set out.length (.int .u8 (c.toNat : Int)), ?_, by simpa using h2, ?_⟩
  · rw [setCell_eq_setRow wr B out.length L.toArray _ _ _ h1]
    rw [setRow_heap wr B L.toArray _ _ _ h1]
    simp
  · simp only [List.length_append, List.length_singleton, List.map_append, List.map_cons, List.map_nil]
    rw [List.take_add_one, List.take_set_of_le (Nat.le_refl _), h3]
    simp [show out.length < L.length by omega]
theorem row_splice {w' : World} {B n : Nat} {out cs : Bs} {L : List Value} (h2 : L.length = n) (h3 : L.take out.length = out.map (fun c => Value.int .u8 (c.toNat : Int))) (hj : out.length + cs.length ≤ n)
    (h : w'.heap[B]? = some (.cells (splice L out.length (cs.map (fun c => Value.int .u8 (c.toNat : Int)))).toArray 5 (0, 0))) : Row w' B n (out ++ cs) := by
  refine ⟨_, h, ?_, ?_⟩
  · rw [length_splice _ _ _ (by simp; omega)]; exact h2
  · have e : out.length = (out.map (fun c => Value.int .u8 (c.toNat : Int))).length := by simp
    unfold splice
    rw [h3, ← List.append_assoc, List.map_append]
    exact List.take_left' (by simp)

set_option maxRecDepth 100000 in
set_option maxHeartbeats 4000000 in
theorem bsr_Replace (q : Nat) (s : ByteArray) (w : World) (h : IsBsr w q) (hsz : s.size ≤ 70368744177664) :
    Calls Tryz.prog 283 #[.pointer (some ⟨q, 0, none⟩), .string s] w fun e w' => e = .returned (.string ⟨(esc s.data.toList).toArray⟩) ∧ Below w.heap.size w w' := by
  have e10 : ∀ h, ((⟨#[10]⟩ : ByteArray)[0]'h).toNat = 10 := fun _ => rfl
  have e34 : ∀ h, ((⟨#[34]⟩ : ByteArray)[0]'h).toNat = 34 := fun _ => rfl
  have e92 : ∀ h, ((⟨#[92]⟩ : ByteArray)[0]'h).toNat = 92 := fun _ => rfl
  have nq0 : ∀ (w : World), (binOp .neq 82 (.slice none 0 0) (.slice none 0 0)).run Tryz.prog w = .ok (.bool false) w := fun w => run_neq_slice_nil_any w _ _ none 0 0 0 0 Tryz.underlying82
  have nq1 : ∀ (w : World) (a : Addr) (n c : Nat), (binOp .neq 82 (.slice (some a) n c) (.slice none 0 0)).run Tryz.prog w = .ok (.bool true) w := fun w a n c => run_neq_slice_nil_any w _ _ (some a) n c 0 0 Tryz.underlying82
  have HB0 := Aside0.mk h
  obtain ⟨l, hl⟩ : ∃ l, s.data.toList = l := ⟨_, rfl⟩
  have HLE : Aside0 (s.data.toList = l) := ⟨hl⟩
  have hlen : l.length = s.size := by rw [← hl]; simp
  obtain ⟨_, ⟨a1, c1, p1, p2, p3⟩, ⟨a2, c2, q1, q2, q3⟩, ⟨a3, c3, r1, r2, r3⟩, ⟨tb, tc, s1, s2, s3, s4⟩⟩ := h
  rw [hl]
  clear hl
  go_enter Tryz.func283, Tryz.ntmps283
  by_cases hbig : (24 : Int) ≤ (s.size : Int)
  · go_wp2_with fail
    go_loopw [5, 6, 32] (fun i5 i6 i32 wr => ∃ k : Nat, k ≤ 3 ∧ i5 = .int .i64 ((s.size : Int) + (sumc l k : Nat)) ∧ i6 = .bool (decide (0 < sumc l k)) ∧ i32 = .int .i64 k ∧ Aside0 (Below w.heap.size w wr)) (fun _ _ i _ => 3 - (intOf i).toNat)
    case atStart => exact ⟨0, by decide, by simp [sumc], by simp [sumc], rfl, ⟨Below.refl _ _⟩⟩
    case round =>
      obtain ⟨k, hk, rfl, rfl, rfl, HW⟩ := hrel
      have P1 := cell_keep HW.out p1
      have Q1 := cell_keep HW.out q1
      have R1 := cell_keep HW.out r1
      have S2 := cell_keep HW.out s2
      have S3 := cell_keep HW.out s3
      have S4 := cell_keep HW.out s4
      by_cases hk3 : k < 3
      · have hkk : k = 0 ∨ k = 1 ∨ k = 2 := by omega
        rcases hkk with rfl | rfl | rfl
        · obtain ⟨n, hn⟩ : ∃ n, Lib.countByte l 10 = n := ⟨_, rfl⟩
          have HS := Aside0.mk (sumc_0 l n hn)
          have hb1 := sumc_le l 1
          have hcount : ∀ W, Calls Tryz.prog 60 #[.string s, .string ⟨#[10]⟩] W fun e w' => e = .returned (.int .i64 n) ∧ w' = W := fun W => by
            have := Tryz.strings_Count_one s 10 W
            rw [HLE.out, hn] at this
            exact this
          have HC := Aside0.mk hcount
          rw [HS.out] at hb1
          clear hcount hn
          obtain ⟨m, hm⟩ : ∃ m, sumc l 0 = m := ⟨_, rfl⟩
          have HM := Aside0.mk hm
          rw [hm] at hb1 ⊢
          clear hm
          by_cases hn0 : n = 0
          · have t0 : ((n : Int) != 0) = false := by simp [hn0]
            have n0 := Aside0.mk hn0
            clear hn0
            go_wp2_with (go_at_call 60; refine (HC.out _).mono ?_; rintro e w' ⟨rfl, rfl⟩)
            go_roundw
            case rel => exact ⟨1, by decide, by rw [HS.out, HM.out, n0.out, Nat.add_zero], by rw [HS.out, HM.out, n0.out, Nat.add_zero], by go_num, HW⟩
            case measure => simp [intOf]
          · have t0 : ((n : Int) != 0) = true := by simp [hn0]
            have n0 := Aside0.mk (Nat.pos_of_ne_zero hn0)
            clear hn0
            go_wp2_with (go_at_call 60; refine (HC.out _).mono ?_; rintro e w' ⟨rfl, rfl⟩)
            go_quiet (fail)
            go_wp2_with fail
            go_roundw
            case rel => exact ⟨1, by decide, by rw [HS.out, HM.out]; go_num, by rw [HS.out, decide_eq_true (Nat.lt_of_lt_of_le n0.out (Nat.le_add_left _ _))], by go_num, ⟨pw_below_drewN HW.out _⟩⟩
            case measure => simp [intOf]
        · obtain ⟨n, hn⟩ : ∃ n, Lib.countByte l 92 = n := ⟨_, rfl⟩
          have HS := Aside0.mk (sumc_1 l n hn)
          have hb1 := sumc_le l 2
          have hcount : ∀ W, Calls Tryz.prog 60 #[.string s, .string ⟨#[92]⟩] W fun e w' => e = .returned (.int .i64 n) ∧ w' = W := fun W => by
            have := Tryz.strings_Count_one s 92 W
            rw [HLE.out, hn] at this
            exact this
          have HC := Aside0.mk hcount
          rw [HS.out] at hb1
          clear hcount hn
          obtain ⟨m, hm⟩ : ∃ m, sumc l 1 = m := ⟨_, rfl⟩
          have HM := Aside0.mk hm
          rw [hm] at hb1 ⊢
          clear hm
          by_cases hn0 : n = 0
          · have t0 : ((n : Int) != 0) = false := by simp [hn0]
            have n0 := Aside0.mk hn0
            clear hn0
            go_wp2_with (go_at_call 60; refine (HC.out _).mono ?_; rintro e w' ⟨rfl, rfl⟩)
            go_roundw
            case rel => exact ⟨2, by decide, by rw [HS.out, HM.out, n0.out, Nat.add_zero], by rw [HS.out, HM.out, n0.out, Nat.add_zero], by go_num, HW⟩
            case measure => simp [intOf]
          · have t0 : ((n : Int) != 0) = true := by simp [hn0]
            have n0 := Aside0.mk (Nat.pos_of_ne_zero hn0)
            clear hn0
            go_wp2_with (go_at_call 60; refine (HC.out _).mono ?_; rintro e w' ⟨rfl, rfl⟩)
            go_quiet (fail)
            go_wp2_with fail
            go_roundw
            case rel => exact ⟨2, by decide, by rw [HS.out, HM.out]; go_num, by rw [HS.out, decide_eq_true (Nat.lt_of_lt_of_le n0.out (Nat.le_add_left _ _))], by go_num, ⟨pw_below_drewN HW.out _⟩⟩
            case measure => simp [intOf]
        · obtain ⟨n, hn⟩ : ∃ n, Lib.countByte l 34 = n := ⟨_, rfl⟩
          have HS := Aside0.mk (sumc_2 l n hn)
          have hb1 := sumc_le l 3
          have hcount : ∀ W, Calls Tryz.prog 60 #[.string s, .string ⟨#[34]⟩] W fun e w' => e = .returned (.int .i64 n) ∧ w' = W := fun W => by
            have := Tryz.strings_Count_one s 34 W
            rw [HLE.out, hn] at this
            exact this
          have HC := Aside0.mk hcount
          rw [HS.out] at hb1
          clear hcount hn
          obtain ⟨m, hm⟩ : ∃ m, sumc l 2 = m := ⟨_, rfl⟩
          have HM := Aside0.mk hm
          rw [hm] at hb1 ⊢
          clear hm
          by_cases hn0 : n = 0
          · have t0 : ((n : Int) != 0) = false := by simp [hn0]
            have n0 := Aside0.mk hn0
            clear hn0
            go_wp2_with (go_at_call 60; refine (HC.out _).mono ?_; rintro e w' ⟨rfl, rfl⟩)
            go_roundw
            case rel => exact ⟨3, by decide, by rw [HS.out, HM.out, n0.out, Nat.add_zero], by rw [HS.out, HM.out, n0.out, Nat.add_zero], by go_num, HW⟩
            case measure => simp [intOf]
          · have t0 : ((n : Int) != 0) = true := by simp [hn0]
            have n0 := Aside0.mk (Nat.pos_of_ne_zero hn0)
            clear hn0
            go_wp2_with (go_at_call 60; refine (HC.out _).mono ?_; rintro e w' ⟨rfl, rfl⟩)
            go_quiet (fail)
            go_wp2_with fail
            go_roundw
            case rel => exact ⟨3, by decide, by rw [HS.out, HM.out]; go_num, by rw [HS.out, decide_eq_true (Nat.lt_of_lt_of_le n0.out (Nat.le_add_left _ _))], by go_num, ⟨pw_below_drewN HW.out _⟩⟩
            case measure => simp [intOf]
      · obtain rfl : k = 3 := by omega
        clear hk3 hk
        rw [show ((3 : Nat) : Int) = (3 : Int) from rfl]
        have hN : (s.size : Int) + (sumc l 3 : Nat) = ((esc l).length : Int) := by rw [CodePure.esc_len, hlen]; show _ + ((hits l : Nat) : Int) = _; omega
        have hNle : (esc l).length ≤ 140737488355328 := by have := CodePure.esc_len l; have := CodePure.hits_le l; omega
        rw [hN]
        clear hN
        by_cases hh : hits l = 0
        · have hany : decide (0 < sumc l 3) = false := by show decide (0 < hits l) = false; simp [hh]
          have HES : Aside0 (esc l = l) := ⟨CodePure.esc_same hh⟩
          have HSS : Aside0 (s = ⟨l.toArray⟩) := ⟨by rw [← HLE.out]⟩
          rw [hany, HES.out]
          clear hany hh
          go_wp2_with fail
          go_ret
          exact ⟨by rw [HES.out, ← HSS.out]; rfl, HW.out⟩
        · have hany : decide (0 < sumc l 3) = true := decide_eq_true (Nat.pos_of_ne_zero hh)
          rw [hany]
          obtain ⟨N, hN⟩ : ∃ N, (esc l).length = N := ⟨_, rfl⟩
          have HN := Aside0.mk hN
          rw [hN] at hNle ⊢
          have hmk : ∀ W, (Instr.makeSlice 82 (.int .i64 (N : Int)) (.int .i64 (N : Int))).run Tryz.prog W = .ok (.slice (some ⟨W.heap.size, 0, none⟩) N N) (W.alloc (.cells (madeCells #[.int .u8 0] N) 5)) :=
            run_make_row' 82 5 (.int .u8 0) 1 Tryz.underlying82 (by kernel_rfl) rfl .i64 .i64 N (by omega) (by omega)
          clear hany hh hN
          go_wp2_with fail
          have hBsz := HW.out.size
          have HR0 : Aside0 (Row (wr.alloc (.cells (madeCells #[.int .u8 0] N) 5)) wr.heap.size N (esc (l.take 0))) := ⟨(madeCells #[.int .u8 0] N).toList, by rw [Array.toArray_toList]; exact heap_alloc_new wr _, by simp [size_madeCells], by simp [esc]⟩
          have HW0 : Aside0 (Below w.heap.size w (wr.alloc (.cells (madeCells #[.int .u8 0] N) 5))) := ⟨HW.out.alloc hBsz _⟩
          obtain ⟨B, hB⟩ : ∃ B, wr.heap.size = B := ⟨_, rfl⟩
          rw [hB] at HR0 hBsz ⊢
          clear HW hB
          go_loopw [13, 14] (fun i13 i14 wx => ∃ k : Nat, k ≤ s.size ∧ i13 = .int .i64 ((esc (l.take k)).length : Nat) ∧ i14 = .int .i64 k ∧ Aside0 (Row wx B N (esc (l.take k))) ∧ Aside0 (Below w.heap.size w wx)) (fun _ i _ => s.size - (intOf i).toNat)
          case atStart => exact ⟨0, Nat.zero_le _, rfl, rfl, HR0, HW0⟩
          case round =>
            obtain ⟨k, hk, rfl, rfl, HR, HW⟩ := hrel
            by_cases hlt : k < s.size
            · obtain ⟨c, hc⟩ : ∃ c, s[k]'hlt = c := ⟨_, rfl⟩
              have HL := HLE.out ▸ byte_at s k c hlt hc
              have HT := CodePure.esc_take HL
              have hbnd := CodePure.esc_take_len_le l (k + 1)
              rw [HT, List.length_append, HN.out] at hbnd
              have HX := Aside0.mk HT
              clear HT HL
              have hc0 : (0 : Int) ≤ (c.toNat : Int) := by omega
              have hc1 : (c.toNat : Int) < 256 := by have := c.toNat_lt; omega
              obtain ⟨out, hout⟩ : ∃ out, esc (l.take k) = out := ⟨_, rfl⟩
              rw [hout] at HR HX hbnd ⊢
              clear hout
              obtain ⟨j, hj⟩ : ∃ j, out.length = j := ⟨_, rfl⟩
              have HJ := Aside0.mk hj
              rw [hj] at hbnd ⊢
              clear hj
              rcases bsr_at HB0.out c with ⟨hh, d0⟩ | ⟨hh, a, cp, x, hx, d0, d1, d2⟩
              · have D0 := cell_keep HW.out d0
                rw [CodePure.esc1_same hh] at HX hbnd
                have hjN : j < N := by simp at hbnd; omega
                obtain ⟨⟨y, HC⟩, HZ⟩ := row_cell HR.out j hjN
                have HR2 := Aside0.mk (row_set HR.out (by rw [HJ.out]; exact hjN) c)
                have HW2 : Aside0 (Below w.heap.size w (wr.setCell ⟨B, j, none⟩ (.int .u8 (c.toNat : Int)))) := ⟨HW.out.setCell hBsz _⟩
                rw [HJ.out] at HR2
                have hjj : (j : Int) < (N : Int) := by omega
                clear hh d0
                go_wp2_with fail
                go_roundw
                case rel => exact ⟨k + 1, by omega, by rw [HX.out, List.length_append, HJ.out]; rfl, by go_num, ⟨HX.out ▸ HR2.out⟩, HW2⟩
                case measure => simp [intOf]; omega
              · have D0 := cell_keep HW.out d0
                have D1 := cell_keep HW.out d1
                have D2 := cell_keep HW.out d2
                rw [hx] at HX hbnd
                have hjN : (j : Int) + 2 ≤ (N : Int) := by simp at hbnd; omega
                obtain ⟨L, g1, g2, g3⟩ := HR.out
                have HG := Aside0.mk g1
                have HG2 := Aside0.mk g2
                have HG3 := Aside0.mk g3
                clear hh d0 d1 d2 g1 g2 g3 hx
                have hBh : B < wr.heap.size := by
                  rcases Nat.lt_or_ge B wr.heap.size with h | h
                  · exact h
                  · have := HG.out
                    rw [Array.getElem?_eq_none h] at this
                    cases this
                have hj1 : (j : Int) < (N : Int) := by omega
                have hj2 : j < N := by omega
                have hj3 : j ≤ N := by omega
                have HCS := Aside0.mk (show (([92, x] : Bs).map (fun c => Value.int .u8 (c.toNat : Int))).length = Nat.min 2 (N - j) from (Nat.min_eq_left (show 2 ≤ N - j by omega)).symm)
                have hNj : ¬ N = j := by omega
                have HP : Aside0 (∀ (jj : Nat) (v : Value), (([92, x] : Bs).map (fun c => Value.int .u8 (c.toNat : Int)))[jj]? = some v → wr.cell? ((⟨a, 0, none⟩ : Addr).add jj) = some v) := ⟨fun jj v hv => by
                  match jj, hv with
                  | 0, hv => exact (Option.some.inj hv) ▸ D1
                  | 1, hv => exact (Option.some.inj hv) ▸ D2⟩
                have HF : Aside0 (j + (([92, x] : Bs).map (fun c => Value.int .u8 (c.toNat : Int))).length ≤ L.length) := ⟨by rw [HG2.out]; show j + 2 ≤ N; omega⟩
                have H1 : Aside0 (∀ v ∈ ([92, x] : Bs).map (fun c => Value.int .u8 (c.toNat : Int)), v.oneCell' = true) := ⟨by intro v hv; simp at hv; rcases hv with rfl | rfl <;> rfl⟩
                go_wp2_with fail
                go_region_law (refine step_copy_splice rfl (.tmp 105) (.tmp 111) 82 82 rfl 5 Tryz.underlying82 (by kernel_rfl) _ _ _ _ _ _ rfl rfl B j L 5 HG.out (([92, x] : Bs).map (fun c => Value.int .u8 (c.toNat : Int))) (by first | exact HCS.out | (have := HCS.out; simp at this ⊢; omega)) (fun _ => ⟨rfl, _, rfl, HP.out⟩) HF.out H1.out w.heap.size w (by first | exact HW.out | exact HW.out.drew | exact HW.out.drew.drew) hBsz ?_; intro w4 hg4 hb4)
                have HG4 : Aside0 (w4.heap[B]? = some (.cells (splice L j (([92, x] : Bs).map (fun c => Value.int .u8 (c.toNat : Int)))).toArray 5 (0, 0))) := ⟨hg4⟩
                have HW4 := Aside0.mk hb4
                have HR4 : Aside0 (Row w4 B N (out ++ [92, x])) := ⟨row_splice HG2.out HG3.out (by rw [HJ.out]; show j + 2 ≤ N; omega) (by rw [HJ.out]; exact HG4.out)⟩
                have hwr : IntKind.i64.wrap ((j : Int) + 2) = (j : Int) + 2 := by rw [IntKind.wrap_i64]; omega
                clear hg4 hb4
                go_wp2_with fail
                go_roundw
                case rel => exact ⟨k + 1, by omega, by rw [HX.out, List.length_append, HJ.out]; rfl, by go_num, ⟨HX.out ▸ HR4.out⟩, HW4⟩
                case measure => simp [intOf]; omega
            · obtain rfl : k = s.size := by omega
              clear hlt hk
              have htk : l.take s.size = l := List.take_of_length_le (by omega)
              rw [htk] at HR ⊢
              obtain ⟨L, g1, g2, g3⟩ := HR.out
              rw [HN.out, List.take_of_length_le (by omega)] at g3
              have hcv := run_convert_bytes_back (P := Tryz.prog) wr 82 9 5 ⟨B, 0, none⟩ N (esc l) Tryz.underlying82 Tryz.underlying5 Tryz.underlying9 (fun i hi => by
                have e : ((⟨B, 0, none⟩ : Addr).add i) = ⟨B, i, none⟩ := by unfold Addr.add; split <;> simp_all
                rw [e]
                simp [World.cell?, g1, g3, hi])
              rw [HN.out] at hcv
              clear htk g1 g2 g3
              go_wp2_with fail
              go_ret
              exact ⟨rfl, HW.out⟩
  · go_wp2_with fail
    go_loopw [5, 6, 10] (fun i5 i6 i10 wr => ∃ k : Nat, k ≤ s.size ∧ i5 = .int .i64 ((s.size : Int) + (hits (l.take k) : Nat)) ∧ i6 = .bool (decide (0 < hits (l.take k))) ∧ i10 = .int .i64 k ∧ Aside0 (Below w.heap.size w wr)) (fun _ _ i _ => s.size - (intOf i).toNat)
    case atStart => exact ⟨0, Nat.zero_le _, by simp [hits], by simp [hits], rfl, ⟨Below.refl _ _⟩⟩
    case round =>
      obtain ⟨k, hk, rfl, rfl, rfl, HW⟩ := hrel
      by_cases hlt : k < s.size
      · obtain ⟨c, hc⟩ : ∃ c, s[k]'hlt = c := ⟨_, rfl⟩
        have HL := HLE.out ▸ byte_at s k c hlt hc
        have HT := Aside0.mk (CodePure.hits_take HL)
        have hb1 := CodePure.hits_take_le l k
        have hb2 := CodePure.hits_le l
        have hc0 : (0 : Int) ≤ (c.toNat : Int) := by omega
        have hc1 : (c.toNat : Int) < 256 := by have := c.toNat_lt; omega
        clear HL
        obtain ⟨m, hm⟩ : ∃ m, hits (l.take k) = m := ⟨_, rfl⟩
        have HM := Aside0.mk hm
        rw [hm] at hb1 ⊢
        clear hm
        rcases bsr_at HB0.out c with ⟨hh, d0⟩ | ⟨hh, a, cp, x, hx, d0, d1, d2⟩
        · have D0 := cell_keep HW.out d0
          have HH := Aside0.mk hh
          clear hh d0
          go_wp2_with fail
          go_roundw
          case rel => exact ⟨k + 1, by omega, by rw [HT.out, HM.out, HH.out]; rfl, by rw [HT.out, HM.out, HH.out]; rfl, by go_num, HW⟩
          case measure => simp [intOf]; omega
        · have D0 := cell_keep HW.out d0
          have HH := Aside0.mk hh
          clear hh d0 d1 d2 hx
          go_wp2_with fail
          go_roundw
          case rel => exact ⟨k + 1, by omega, by rw [HT.out, HM.out, HH.out]; go_num, by rw [HT.out, HM.out, HH.out]; simp, by go_num, HW⟩
          case measure => simp [intOf]; omega
      · obtain rfl : k = s.size := by omega
        clear hlt hk
        have htk : l.take s.size = l := List.take_of_length_le (by omega)
        rw [htk]
        clear htk
        have hN : (s.size : Int) + (hits l : Nat) = ((esc l).length : Int) := by rw [CodePure.esc_len, hlen]; omega
        have hNle : (esc l).length ≤ 140737488355328 := by have := CodePure.esc_len l; have := CodePure.hits_le l; omega
        rw [hN]
        clear hN
        by_cases hh : hits l = 0
        · have hany : decide (0 < hits l) = false := by simp [hh]
          have HES : Aside0 (esc l = l) := ⟨CodePure.esc_same hh⟩
          have HSS : Aside0 (s = ⟨l.toArray⟩) := ⟨by rw [← HLE.out]⟩
          rw [hany, HES.out]
          clear hany hh
          go_wp2_with fail
          go_ret
          exact ⟨by rw [HES.out, ← HSS.out]; rfl, HW.out⟩
        · have hany : decide (0 < hits l) = true := decide_eq_true (Nat.pos_of_ne_zero hh)
          rw [hany]
          obtain ⟨N, hN⟩ : ∃ N, (esc l).length = N := ⟨_, rfl⟩
          have HN := Aside0.mk hN
          rw [hN] at hNle ⊢
          have hmk : ∀ W, (Instr.makeSlice 82 (.int .i64 (N : Int)) (.int .i64 (N : Int))).run Tryz.prog W = .ok (.slice (some ⟨W.heap.size, 0, none⟩) N N) (W.alloc (.cells (madeCells #[.int .u8 0] N) 5)) :=
            run_make_row' 82 5 (.int .u8 0) 1 Tryz.underlying82 (by kernel_rfl) rfl .i64 .i64 N (by omega) (by omega)
          clear hany hh hN
          go_wp2_with fail
          have hBsz := HW.out.size
          have HR0 : Aside0 (Row (wr.alloc (.cells (madeCells #[.int .u8 0] N) 5)) wr.heap.size N (esc (l.take 0))) := ⟨(madeCells #[.int .u8 0] N).toList, by rw [Array.toArray_toList]; exact heap_alloc_new wr _, by simp [size_madeCells], by simp [esc]⟩
          have HW0 : Aside0 (Below w.heap.size w (wr.alloc (.cells (madeCells #[.int .u8 0] N) 5))) := ⟨HW.out.alloc hBsz _⟩
          obtain ⟨B, hB⟩ : ∃ B, wr.heap.size = B := ⟨_, rfl⟩
          rw [hB] at HR0 hBsz ⊢
          clear HW hB
          go_loopw [13, 14] (fun i13 i14 wx => ∃ k : Nat, k ≤ s.size ∧ i13 = .int .i64 ((esc (l.take k)).length : Nat) ∧ i14 = .int .i64 k ∧ Aside0 (Row wx B N (esc (l.take k))) ∧ Aside0 (Below w.heap.size w wx)) (fun _ i _ => s.size - (intOf i).toNat)
          case atStart => exact ⟨0, Nat.zero_le _, rfl, rfl, HR0, HW0⟩
          case round =>
            obtain ⟨k, hk, rfl, rfl, HR, HW⟩ := hrel
            by_cases hlt : k < s.size
            · obtain ⟨c, hc⟩ : ∃ c, s[k]'hlt = c := ⟨_, rfl⟩
              have HL := HLE.out ▸ byte_at s k c hlt hc
              have HT := CodePure.esc_take HL
              have hbnd := CodePure.esc_take_len_le l (k + 1)
              rw [HT, List.length_append, HN.out] at hbnd
              have HX := Aside0.mk HT
              clear HT HL
              have hc0 : (0 : Int) ≤ (c.toNat : Int) := by omega
              have hc1 : (c.toNat : Int) < 256 := by have := c.toNat_lt; omega
              obtain ⟨out, hout⟩ : ∃ out, esc (l.take k) = out := ⟨_, rfl⟩
              rw [hout] at HR HX hbnd ⊢
              clear hout
              obtain ⟨j, hj⟩ : ∃ j, out.length = j := ⟨_, rfl⟩
              have HJ := Aside0.mk hj
              rw [hj] at hbnd ⊢
              clear hj
              rcases bsr_at HB0.out c with ⟨hh, d0⟩ | ⟨hh, a, cp, x, hx, d0, d1, d2⟩
              · have D0 := cell_keep HW.out d0
                rw [CodePure.esc1_same hh] at HX hbnd
                have hjN : j < N := by simp at hbnd; omega
                obtain ⟨⟨y, HC⟩, HZ⟩ := row_cell HR.out j hjN
                have HR2 := Aside0.mk (row_set HR.out (by rw [HJ.out]; exact hjN) c)
                have HW2 : Aside0 (Below w.heap.size w (wr.setCell ⟨B, j, none⟩ (.int .u8 (c.toNat : Int)))) := ⟨HW.out.setCell hBsz _⟩
                rw [HJ.out] at HR2
                have hjj : (j : Int) < (N : Int) := by omega
                clear hh d0
                go_wp2_with fail
                go_roundw
                case rel => exact ⟨k + 1, by omega, by rw [HX.out, List.length_append, HJ.out]; rfl, by go_num, ⟨HX.out ▸ HR2.out⟩, HW2⟩
                case measure => simp [intOf]; omega
              · have D0 := cell_keep HW.out d0
                have D1 := cell_keep HW.out d1
                have D2 := cell_keep HW.out d2
                rw [hx] at HX hbnd
                have hjN : (j : Int) + 2 ≤ (N : Int) := by simp at hbnd; omega
                obtain ⟨L, g1, g2, g3⟩ := HR.out
                have HG := Aside0.mk g1
                have HG2 := Aside0.mk g2
                have HG3 := Aside0.mk g3
                clear hh d0 d1 d2 g1 g2 g3 hx
                have hBh : B < wr.heap.size := by
                  rcases Nat.lt_or_ge B wr.heap.size with h | h
                  · exact h
                  · have := HG.out
                    rw [Array.getElem?_eq_none h] at this
                    cases this
                have hj1 : (j : Int) < (N : Int) := by omega
                have hj2 : j < N := by omega
                have hj3 : j ≤ N := by omega
                have HCS := Aside0.mk (show (([92, x] : Bs).map (fun c => Value.int .u8 (c.toNat : Int))).length = Nat.min 2 (N - j) from (Nat.min_eq_left (show 2 ≤ N - j by omega)).symm)
                have hNj : ¬ N = j := by omega
                have HP : Aside0 (∀ (jj : Nat) (v : Value), (([92, x] : Bs).map (fun c => Value.int .u8 (c.toNat : Int)))[jj]? = some v → wr.cell? ((⟨a, 0, none⟩ : Addr).add jj) = some v) := ⟨fun jj v hv => by
                  match jj, hv with
                  | 0, hv => exact (Option.some.inj hv) ▸ D1
                  | 1, hv => exact (Option.some.inj hv) ▸ D2⟩
                have HF : Aside0 (j + (([92, x] : Bs).map (fun c => Value.int .u8 (c.toNat : Int))).length ≤ L.length) := ⟨by rw [HG2.out]; show j + 2 ≤ N; omega⟩
                have H1 : Aside0 (∀ v ∈ ([92, x] : Bs).map (fun c => Value.int .u8 (c.toNat : Int)), v.oneCell' = true) := ⟨by intro v hv; simp at hv; rcases hv with rfl | rfl <;> rfl⟩
                go_wp2_with fail
                go_region_law (refine step_copy_splice rfl (.tmp 105) (.tmp 111) 82 82 rfl 5 Tryz.underlying82 (by kernel_rfl) _ _ _ _ _ _ rfl rfl B j L 5 HG.out (([92, x] : Bs).map (fun c => Value.int .u8 (c.toNat : Int))) (by first | exact HCS.out | (have := HCS.out; simp at this ⊢; omega)) (fun _ => ⟨rfl, _, rfl, HP.out⟩) HF.out H1.out w.heap.size w (by first | exact HW.out | exact HW.out.drew | exact HW.out.drew.drew) hBsz ?_; intro w4 hg4 hb4)
                have HG4 : Aside0 (w4.heap[B]? = some (.cells (splice L j (([92, x] : Bs).map (fun c => Value.int .u8 (c.toNat : Int)))).toArray 5 (0, 0))) := ⟨hg4⟩
                have HW4 := Aside0.mk hb4
                have HR4 : Aside0 (Row w4 B N (out ++ [92, x])) := ⟨row_splice HG2.out HG3.out (by rw [HJ.out]; show j + 2 ≤ N; omega) (by rw [HJ.out]; exact HG4.out)⟩
                have hwr : IntKind.i64.wrap ((j : Int) + 2) = (j : Int) + 2 := by rw [IntKind.wrap_i64]; omega
                clear hg4 hb4
                go_wp2_with fail
                go_roundw
                case rel => exact ⟨k + 1, by omega, by rw [HX.out, List.length_append, HJ.out]; rfl, by go_num, ⟨HX.out ▸ HR4.out⟩, HW4⟩
                case measure => simp [intOf]; omega
            · obtain rfl : k = s.size := by omega
              clear hlt hk
              have htk : l.take s.size = l := List.take_of_length_le (by omega)
              rw [htk] at HR ⊢
              obtain ⟨L, g1, g2, g3⟩ := HR.out
              rw [HN.out, List.take_of_length_le (by omega)] at g3
              have hcv := run_convert_bytes_back (P := Tryz.prog) wr 82 9 5 ⟨B, 0, none⟩ N (esc l) Tryz.underlying82 Tryz.underlying5 Tryz.underlying9 (fun i hi => by
                have e : ((⟨B, 0, none⟩ : Addr).add i) = ⟨B, i, none⟩ := by unfold Addr.add; split <;> simp_all
                rw [e]
                simp [World.cell?, g1, g3, hi])
              rw [HN.out] at hcv
              clear htk g1 g2 g3
              go_wp2_with fail
              go_ret
              exact ⟨rfl, HW.out⟩
end Go.Proofs.YtmgcpjgpmjhemaaGreatDoor.Pc

/-
(*strings.Replacer).buildOnce and (*strings.Replacer).Replace.
-/
namespace Go.Proofs.YtmgcpjgpmjhemaaGreatDoor.Pc
open Go.RowKit Go.Proofs.YtmgcpjgpmjhemaaGreatDoorW.PrintWords Go.Proofs.YtmgcpjgpmjhemaaGreatDoorW.PrintLast Go.Proofs.YtmgcpjgpmjhemaaGreatDoorW.PrintMore
open CodePure (esc)
set_option linter.unusedVariables false

theorem IsBsr.apart {w w' : World} {q p : Nat} {z : Int} (h : IsBsr w q) (h0 : w.cell? ⟨p, 0, none⟩ = some (.int .u32 z)) (hk : ∀ a : Addr, a.block ≠ p → w'.cell? a = w.cell? a) : IsBsr w' q := by
  have ne : ∀ (b : Nat) (v : Value), w.cell? ⟨b, 0, none⟩ = some v → v ≠ .int .u32 z → b ≠ p := by
    rintro b v hb hv rfl
    rw [h0] at hb
    exact hv (Option.some.inj hb).symm
  obtain ⟨no, ⟨a1, c1, p1, p2, p3⟩, ⟨a2, c2, q1, q2, q3⟩, ⟨a3, c3, r1, r2, r3⟩, ⟨b, c, s1, s2, s3, s4⟩⟩ := h
  have hq := ne q _ (no 0 (by decide) (by decide) (by decide) (by decide)) (by simp)
  have h1 := ne a1 _ p2 (by simp)
  have h2 := ne a2 _ q2 (by simp)
  have h3 := ne a3 _ r2 (by simp)
  have h4 := ne b _ s2 (by simp)
  exact ⟨fun i hi x1 x2 x3 => (hk _ hq).trans (no i hi x1 x2 x3), ⟨a1, c1, (hk _ hq).trans p1, (hk _ h1).trans p2, (hk _ h1).trans p3⟩, ⟨a2, c2, (hk _ hq).trans q1, (hk _ h2).trans q2, (hk _ h2).trans q3⟩,
    ⟨a3, c3, (hk _ hq).trans r1, (hk _ h3).trans r2, (hk _ h3).trans r3⟩, ⟨b, c, (hk _ hq).trans s1, (hk _ h4).trans s2, (hk _ h4).trans s3, (hk _ h4).trans s4⟩⟩
theorem set_far (w : World) (p i : Nat) (v : Value) (a : Addr) (ha : a.block ≠ p) : (w.setCell ⟨p, i, none⟩ v).cell? a = w.cell? a :=
  World.cell?_setCell_other _ _ _ _ (fun e => ha (by rw [← e]))

/-- What lies behind 'buildOnce': the Replacer 'p' holds a byteStringReplacer; 'd', 'l': its Once. -/
structure Built (d l : Int) (p : Nat) (w w' : World) : Prop where
  d : w'.cell? ⟨p, 0, none⟩ = some (.int .u32 d)
  l : w'.cell? ⟨p, 1, none⟩ = some (.int .i32 l)
  z : ∀ i, w'.frozen? ⟨p, i, none⟩ = false
  b : Below p w w'
  r : ∃ q, w'.cell? ⟨p, 3, none⟩ = some (.iface 204 (.pointer (some ⟨q, 0, none⟩))) ∧ IsBsr w' q

set_option maxRecDepth 100000 in
set_option maxHeartbeats 1600000 in
theorem repl_buildOnce (p ob : Nat) (w : World) (h : IsRepl 1 w p ob) :
    Calls Tryz.prog 91 #[.pointer (some ⟨p, 0, none⟩)] w fun e w' => e = .returned (.tuple #[]) ∧ Built 0 1 p w w' := by
  have HI := Aside0.mk h
  obtain ⟨hd, hl, hr, ⟨oc, ho⟩, hz, hlt, _⟩ := h
  have hp := World.block_lt_of_cell? w _ hd
  go_enter Tryz.func91, Tryz.ntmps91
  go_wp2_with (go_at_call 122; refine (repl_build p ob _ HI.out).mono ?_; rintro e w1 ⟨q, rfl, hb, hbl⟩; have d0 := cell_keep hbl hd; have d1 := cell_keep hbl hl; have d3 := cell_keep hbl hr; have d4 := cell_keep hbl ho; have z3 : ∀ i, w1.frozen? ⟨p, i, none⟩ = false := fun i => (hbl.frozen hp).trans (hz i); have e4 : ∀ v, (w1.setCell ⟨p, 3, none⟩ v).cell? ⟨p, 4, none⟩ = some (.slice (some ⟨ob, 0, none⟩) 6 oc) := fun v => (World.cell?_setCell_other _ _ _ _ (by simp)).trans d4; have ez : ∀ v, (w1.setCell ⟨p, 3, none⟩ v).frozen? ⟨p, 4, none⟩ = false := fun v => by simp [z3])
  first | go_end0 | (simp only [Exit.inBlock, Exit.then]; refine bodyPost_ret (results_none rfl _ _ _) rfl ?_) | refine bodyPost_ret (results_none rfl _ _ _) rfl ?_
  refine ⟨rfl, ?_, ?_, ?_, ?_, q, ?_, ?_⟩
  · exact (World.cell?_setCell_other _ _ _ _ (by simp)).trans ((World.cell?_setCell_other _ _ _ _ (by simp)).trans d0)
  · exact (World.cell?_setCell_other _ _ _ _ (by simp)).trans ((World.cell?_setCell_other _ _ _ _ (by simp)).trans d1)
  · intro i; simp [z3]
  · exact ((hbl.mono (Nat.le_of_lt hp)).setCell (Nat.le_refl p) _).setCell (Nat.le_refl p) _
  · exact (World.cell?_setCell_other _ _ _ _ (by simp)).trans (World.cell?_setCell_same _ _ _ d3)
  · exact hb.apart d0 (fun a ha => (set_far _ _ _ _ a ha).trans (set_far _ _ _ _ a ha))

theorem repl_once (p ob : Nat) (w : World) (h : IsRepl 0 w p ob) :
    Calls Tryz.prog 90 #[.pointer (some ⟨p, 0, none⟩), .func (.func 91) #[.pointer (some ⟨p, 0, none⟩)] #[]] w fun e w' => e = .returned (.tuple #[]) ∧ Built 1 0 p w w' := by
  have hd := h.d
  have hl := h.l
  have hz := h.z
  obtain ⟨oc, ho⟩ := h.o
  have hI : IsRepl 1 (w.setCell ⟨p, 1, none⟩ (.int .i32 1)) p ob := by
    refine ⟨(World.cell?_setCell_other _ _ _ _ (by simp)).trans hd, World.cell?_setCell_same _ _ _ hl, (World.cell?_setCell_other _ _ _ _ (by simp)).trans h.r, ⟨oc, (World.cell?_setCell_other _ _ _ _ (by simp)).trans ho⟩, fun i => by simp [hz], h.lt, ?_⟩
    have hne : ∀ i, (w.setCell ⟨p, 1, none⟩ (.int .i32 1)).cell? ⟨ob, i, none⟩ = w.cell? ⟨ob, i, none⟩ := fun i => set_far w p 1 _ ⟨ob, i, none⟩ (Nat.ne_of_lt h.lt)
    exact ⟨(hne 0).trans h.cs.c0, (hne 1).trans h.cs.c1, (hne 2).trans h.cs.c2, (hne 3).trans h.cs.c3, (hne 4).trans h.cs.c4, (hne 5).trans h.cs.c5⟩
  refine (do_once p #[.pointer (some ⟨p, 0, none⟩)] w (Built 0 1 p (w.setCell ⟨p, 1, none⟩ (.int .i32 1))) hd hl (hz 0) (hz 1) (fun w1 h1 => ⟨h1.d, h1.l, h1.z 0, h1.z 1⟩) (repl_buildOnce p ob _ hI)).mono ?_
  rintro e w' ⟨rfl, w1, h1, rfl⟩
  obtain ⟨q, hr, hb⟩ := h1.r
  have c0 : w1.drew.cell? ⟨p, 0, none⟩ = some (.int .u32 0) := h1.d
  have c1 : w1.drew.cell? ⟨p, 1, none⟩ = some (.int .i32 1) := h1.l
  refine ⟨rfl, ?_, ?_, ?_, ?_, q, ?_, ?_⟩
  · exact (World.cell?_setCell_other _ _ _ _ (by simp)).trans (World.cell?_setCell_same _ _ _ c0)
  · exact World.cell?_setCell_same _ _ _ ((World.cell?_setCell_other _ _ _ _ (by simp)).trans c1)
  · intro i; simp [h1.z]
  · exact ((((Below.refl p w).setCell (Nat.le_refl p) _).trans h1.b).drew.setCell (Nat.le_refl p) _).setCell (Nat.le_refl p) _
  · exact (World.cell?_setCell_other _ _ _ _ (by simp)).trans ((World.cell?_setCell_other _ _ _ _ (by simp)).trans hr)
  · exact hb.apart h1.d (fun a ha => (set_far _ _ _ _ a ha).trans (set_far _ _ _ _ a ha))

set_option maxRecDepth 100000 in
set_option maxHeartbeats 1600000 in
theorem repl_Replace (p ob : Nat) (s : ByteArray) (w : World) (h : IsRepl 0 w p ob) (hsz : s.size ≤ 70368744177664) :
    Calls Tryz.prog 46 #[.pointer (some ⟨p, 0, none⟩), .string s] w fun e w' => e = .returned (.string ⟨(esc s.data.toList).toArray⟩) ∧ Below p w w' := by
  have HI := Aside0.mk h
  clear h
  have hm : ∀ (q : Nat) (w : World), (method 429 204 (.pointer (some ⟨q, 0, none⟩)) "Replace").run Tryz.prog w = .ok (283, .pointer (some ⟨q, 0, none⟩)) w := fun _ _ => by kernel_rfl
  have hmf : ∀ (fn : Fn) (first cap : Array Value) (w : World), (Instr.makeFunc fn first cap).run Tryz.prog w = .ok (.func fn first cap) w := fun _ _ _ _ => rfl
  go_enter Tryz.func46, Tryz.ntmps46
  go_wp2_with (first
    | (go_at_call 90; refine (repl_once p ob _ HI.out).mono ?_; rintro e w1 ⟨rfl, hB⟩; have hBd := hB.d; obtain ⟨q, hr, hb⟩ := hB.r; have HBQ := Aside0.mk hb; have HBB := Aside0.mk hB.b; clear hb hB)
    | (go_at_call 283; refine (bsr_Replace q s _ HBQ.out hsz).mono ?_; rintro e w2 ⟨rfl, hb2⟩; have HB2 := Aside0.mk hb2; clear hb2))
  go_ret
  exact ⟨rfl, HBB.out.trans (HB2.out.mono (Nat.le_of_lt (World.block_lt_of_cell? _ _ hBd)))⟩
end Go.Proofs.YtmgcpjgpmjhemaaGreatDoor.Pc

/-
The contract of code.Line in the form that the printed walks take.
-/
namespace Go.Proofs.YtmgcpjgpmjhemaaGreatDoor.Pc
open Go.RowKit Go.Proofs.YtmgcpjgpmjhemaaGreatDoorW.PrintWords Go.Proofs.YtmgcpjgpmjhemaaGreatDoorW.PrintLast Go.Proofs.YtmgcpjgpmjhemaaGreatDoorW.PrintMore
open CodePure (esc Bs)
set_option linter.unusedVariables false

def code_Line.f (op n : Int) (s : ByteArray) : Option (ByteArray × Int) :=
  if wfI op ∧ wfI n ∧ s.size ≤ 70368744177664 then some (if mayB op n s.data.toList then (bs (lineL op n s.data.toList), 0) else (⟨#[]⟩, 1)) else none

/-- What the box of the parameter holds. -/
structure Box (w0 : World) (op n : Int) (s : ByteArray) (B : Nat) (w : World) : Prop where
  c0 : w.cell? ⟨B, 0, none⟩ = some (.int .i64 op)
  c1 : w.cell? ⟨B, 1, none⟩ = some (.int .i64 n)
  c2 : w.cell? ⟨B, 2, none⟩ = some (.string s)
  b : Below w0.heap.size w0 w
  lt : B < w.heap.size
theorem Box.keep {w0 w w' : World} {op n : Int} {s : ByteArray} {B : Nat} (h : Box w0 op n s B w) (hb : Below w.heap.size w w') : Box w0 op n s B w' :=
  ⟨cell_keep hb h.c0, cell_keep hb h.c1, cell_keep hb h.c2, h.b.trans (hb.mono h.b.size), Nat.lt_of_lt_of_le h.lt hb.size⟩

theorem Box.keepP {w0 w w' : World} {op n : Int} {s : ByteArray} {B p : Nat} (h : Box w0 op n s B w) (hB : B < p) (h0 : w0.heap.size ≤ p) (hb : Below p w w') : Box w0 op n s B w' :=
  ⟨(hb.cell hB).trans h.c0, (hb.cell hB).trans h.c1, (hb.cell hB).trans h.c2, h.b.trans (hb.mono h0), Nat.lt_of_lt_of_le h.lt hb.size⟩

set_option maxRecDepth 100000 in
set_option maxHeartbeats 4000000 in
theorem code_Line.calls (a0_0 : Int) (a0_1 : Int) (a0_2 : ByteArray) (r1 : ByteArray) (r2 : Int) (w : World) (hG : Gl w) (h : code_Line.f a0_0 a0_1 a0_2 = some (r1, r2)) :
    Calls Tryz.prog 13 #[.agg #[.int .i64 a0_0, .int .i64 a0_1, .string a0_2]] w fun e w' => e = .returned (.tuple #[.string r1, .int .i64 r2]) ∧ Below w.heap.size w w' := by
  unfold code_Line.f at h
  split at h
  · rename_i hc
    obtain ⟨h0, h1, h2⟩ := hc
    have HM : ∀ W, Calls Tryz.prog 17 #[.agg #[.int .i64 a0_0, .int .i64 a0_1, .string a0_2]] W fun e w' => e = .returned (.bool (mayB a0_0 a0_1 a0_2.data.toList)) ∧ Below W.heap.size W w' := fun W => code_May.calls a0_0 a0_1 a0_2 _ W (may_eq a0_0 a0_1 a0_2 h0)
    have HGL := Aside0.mk hG
    have HW0 := Aside0.mk h0
    have HW1 := Aside0.mk h1
    have HW2 := Aside0.mk h2
    clear hG h0 h1 h2
    have H := Aside0.mk (Option.some.inj h)
    clear h
    have hnot : ∀ (x : Bool) (w : World), (Op.unary .not (.bool x)).run Tryz.prog w = .ok (.bool (!x)) w := fun _ _ => rfl
    have bk0 : Box w a0_0 a0_1 a0_2 w.heap.size (w.alloc (.cells #[.int .i64 a0_0, .int .i64 a0_1, .string a0_2] 23)) :=
      ⟨by simp, by simp, by simp, (Below.refl _ _).alloc (Nat.le_refl _) _, by simp⟩
    have BK0 := Aside0.mk bk0
    clear bk0
    cases hm : mayB a0_0 a0_1 a0_2.data.toList with
    | false =>
      rw [hm] at HM H
      obtain ⟨rfl, rfl⟩ := Prod.mk.inj H.out
      have HMM := Aside0.mk HM
      clear HM hm H
      go_enter Tryz.func13, Tryz.ntmps13
      go_wp2_with (go_at_call 17; refine (HMM.out _).mono ?_; rintro e w1 ⟨rfl, hb1⟩; have BK1 := Aside0.mk (BK0.out.keep hb1); clear hb1)
      go_ret2
      exact ⟨rfl, BK1.out.b⟩
    | true =>
      rw [hm] at HM H
      obtain ⟨rfl, rfl⟩ := Prod.mk.inj H.out
      have HMM := Aside0.mk HM
      have hop : 0 ≤ a0_0 ∧ a0_0 ≤ 23 := by
        unfold mayB at hm
        simp only [Bool.and_eq_true, decide_eq_true_eq] at hm
        exact hm.1.1
      have HN : Aside0 (∀ W, Gl W → Calls Tryz.prog 19 #[.int .i64 a0_0] W fun e w' => e = .returned (.string (bs (nameL a0_0))) ∧ Below W.heap.size W w') := ⟨fun W hg => code_Name.calls a0_0 _ W hg (name_eq a0_0 hop.1 hop.2)⟩
      have HI : Aside0 (∀ W, Gl W → Calls Tryz.prog 44 #[.int .i64 a0_1] W fun e w' => e = .returned (.string (bs (Lib.itoa a0_1))) ∧ Below W.heap.size W w') := ⟨fun W hg => itoa_call a0_1 HW1.out.1 HW1.out.2 W hg⟩
      obtain ⟨nm, hnm⟩ : ∃ nm, bs (nameL a0_0) = nm := ⟨_, rfl⟩
      obtain ⟨it, hit⟩ : ∃ it, bs (Lib.itoa a0_1) = it := ⟨_, rfl⟩
      have HNM := Aside0.mk hnm
      have HIT := Aside0.mk hit
      have s1 : nm.size ≤ 6 := by
        rw [← hnm]
        have hk : ∀ k : Nat, k < 24 → (nameL k).length ≤ 6 := by decide +kernel
        have := hk a0_0.toNat (by omega)
        rw [show ((a0_0.toNat : Nat) : Int) = a0_0 by omega] at this
        exact this
      have s2 : it.size ≤ 21 := by rw [← hit]; exact Lib.itoa_length_le a0_1 HW1.out.1 HW1.out.2
      have n1 : (9223372036854775807 < nm.size + 1) = False := eq_false (by omega)
      have n2 : (9223372036854775807 < nm.size + 1 + it.size) = False := eq_false (by omega)
      rw [hnm] at HN
      rw [hit] at HI
      clear HM hm H hop hnm hit
      by_cases h02 : a0_0 = 0 ∨ a0_0 = 2
      · have hl : lineL a0_0 a0_1 a0_2.data.toList = nameL a0_0 ++ [32] ++ Lib.itoa a0_1 := if_pos h02
        rw [hl]
        by_cases e0 : a0_0 = 0
        · have t0 : (a0_0 == 0) = true := by simp [e0]
          clear h02 e0
          go_enter Tryz.func13, Tryz.ntmps13
          go_wp2_with (go_at_call 17; refine (HMM.out _).mono ?_; rintro e w1 ⟨rfl, hb1⟩; have BK1 := Aside0.mk (BK0.out.keep hb1); have k0 := BK1.out.c0; have k1 := BK1.out.c1; have k2 := BK1.out.c2; clear hb1)
          obtain ⟨B, hB⟩ : ∃ B, w.heap.size = B := ⟨_, rfl⟩
          have HBB := Aside0.mk hB
          rw [hB] at k0 k1 k2 BK1 ⊢
          clear hB
          go_region_held3 (fun w' => w'.cell? ⟨B, 0, none⟩ = some (.int .i64 a0_0) ∧ w'.cell? ⟨B, 1, none⟩ = some (.int .i64 a0_1))
            (first | exact ⟨k0, k1⟩ | exact ⟨q0, q1⟩ | exact ⟨v0, v1⟩)
            (first
              | (go_at_call 19; refine (HN.out _ (gl_below HGL.out BK1.out.b.drew)).mono ?_; rintro e w2 ⟨rfl, hb2⟩; have BK2 := Aside0.mk (BK1.out.keep ((Below.refl _ _).drew.trans hb2)); have q0 := BK2.out.c0; have q1 := BK2.out.c1; clear hb2)
              | (go_at_call 44; refine (HI.out _ (gl_below HGL.out BK2.out.b)).mono ?_; rintro e w3 ⟨rfl, hb3⟩; have BK3 := Aside0.mk (BK2.out.keep hb3); have v0 := BK3.out.c0; have v1 := BK3.out.c1; clear hb3))
          go_wp2_with fail
          go_ret2
          refine ⟨?_, HBB.out ▸ BK3.out.b⟩
          rw [← HNM.out, ← HIT.out]
          rw [bs_append, bs_append]
          rfl
        · have t0 : (a0_0 == 0) = false := by simp [e0]
          have t1 : (a0_0 == 2) = true := by
            rcases h02 with h | h
            · exact absurd h e0
            · simp [h]
          clear h02 e0
          go_enter Tryz.func13, Tryz.ntmps13
          go_wp2_with (go_at_call 17; refine (HMM.out _).mono ?_; rintro e w1 ⟨rfl, hb1⟩; have BK1 := Aside0.mk (BK0.out.keep hb1); have k0 := BK1.out.c0; have k1 := BK1.out.c1; have k2 := BK1.out.c2; clear hb1)
          obtain ⟨B, hB⟩ : ∃ B, w.heap.size = B := ⟨_, rfl⟩
          have HBB := Aside0.mk hB
          rw [hB] at k0 k1 k2 BK1 ⊢
          clear hB
          go_region_held3 (fun w' => w'.cell? ⟨B, 0, none⟩ = some (.int .i64 a0_0) ∧ w'.cell? ⟨B, 1, none⟩ = some (.int .i64 a0_1))
            (first | exact ⟨k0, k1⟩ | exact ⟨q0, q1⟩ | exact ⟨v0, v1⟩)
            (first
              | (go_at_call 19; refine (HN.out _ (gl_below HGL.out BK1.out.b.drew)).mono ?_; rintro e w2 ⟨rfl, hb2⟩; have BK2 := Aside0.mk (BK1.out.keep ((Below.refl _ _).drew.trans hb2)); have q0 := BK2.out.c0; have q1 := BK2.out.c1; clear hb2)
              | (go_at_call 44; refine (HI.out _ (gl_below HGL.out BK2.out.b)).mono ?_; rintro e w3 ⟨rfl, hb3⟩; have BK3 := Aside0.mk (BK2.out.keep hb3); have v0 := BK3.out.c0; have v1 := BK3.out.c1; clear hb3))
          go_wp2_with fail
          go_ret2
          refine ⟨?_, HBB.out ▸ BK3.out.b⟩
          rw [← HNM.out, ← HIT.out]
          rw [bs_append, bs_append]
          rfl
      · have t0 : (a0_0 == 0) = false := by simp; omega
        have t1 : (a0_0 == 2) = false := by simp; omega
        by_cases e1 : a0_0 = 1
        · have hl : lineL a0_0 a0_1 a0_2.data.toList = nameL a0_0 ++ [32, 34] ++ esc a0_2.data.toList ++ [34] := by
            unfold lineL
            rw [if_neg h02, if_pos e1, e1]
          rw [hl]
          have t2 : (a0_0 == 1) = true := by simp [e1]
          have HES := Aside0.mk (CodePure.esc_length a0_2.data.toList)
          clear h02 e1
          go_enter Tryz.func13, Tryz.ntmps13
          go_wp2_with (go_at_call 17; refine (HMM.out _).mono ?_; rintro e w1 ⟨rfl, hb1⟩; have BK1 := Aside0.mk (BK0.out.keep hb1); have k0 := BK1.out.c0; have k1 := BK1.out.c1; have k2 := BK1.out.c2; clear hb1)
          obtain ⟨B, hB⟩ : ∃ B, w.heap.size = B := ⟨_, rfl⟩
          have HBB := Aside0.mk hB
          rw [hB] at k0 k1 k2 BK1 ⊢
          clear hB
          obtain ⟨es, hes⟩ : ∃ es, (⟨(esc a0_2.data.toList).toArray⟩ : ByteArray) = es := ⟨_, rfl⟩
          have HEE := Aside0.mk hes
          have s3 : es.size ≤ 140737488355328 := by
            rw [← hes]
            have h1 := HES.out
            have h2 := HW2.out
            show (esc a0_2.data.toList).length ≤ _
            have h3 : (a0_2.data.toList).length = a0_2.size := by simp
            omega
          have n3 : (9223372036854775807 < nm.size + 2) = False := eq_false (by omega)
          have n4 : (9223372036854775807 < nm.size + 2 + es.size) = False := eq_false (by omega)
          have n5 : (9223372036854775807 < nm.size + 2 + es.size + 1) = False := eq_false (by omega)
          clear hes
          go_region_held3 (fun w' => w'.cell? ⟨B, 2, none⟩ = some (.string a0_2))
            (first | exact k2 | exact q2 | exact v2 | (rw [World.cell?_drew, World.cell?_alloc_past _ _ _ BK1.out.lt]; exact k2))
            (first
              | (go_at_call 45; refine (newReplacer w1.heap.size _ ⟨by simp, by simp, by simp, by simp, by simp, by simp⟩).mono ?_; rintro e w2 ⟨p, ob, rfl, hrep, hpge, hb2⟩; have HRP := Aside0.mk hrep; have HPG : Aside0 (w1.heap.size ≤ p) := ⟨by simp at hpge; omega⟩; have BK2 := Aside0.mk (BK1.out.keep ((((Below.refl w1.heap.size w1).alloc (Nat.le_refl _) _).drew.trans (hb2.mono (by simp))))); have q2 := BK2.out.c2; clear hrep hpge hb2)
              | (go_at_call 46; refine (repl_Replace p ob a0_2 _ HRP.out HW2.out).mono ?_; rw [HEE.out]; rintro e w3 ⟨rfl, hb3⟩; have BK3 := Aside0.mk (BK2.out.keepP (Nat.lt_of_lt_of_le BK1.out.lt HPG.out) (Nat.le_trans BK1.out.b.size HPG.out) hb3); have v0 := BK3.out.c0; have v2 := BK3.out.c2; clear hb3))
          go_wp2_with (go_at_call 19; refine (HN.out _ (gl_below HGL.out BK3.out.b)).mono ?_; rintro e w4 ⟨rfl, hb4⟩; have BK4 := Aside0.mk (BK3.out.keep hb4); clear hb4)
          go_ret2
          refine ⟨?_, HBB.out ▸ BK4.out.b⟩
          rw [← HNM.out, ← HEE.out]
          rw [bs_append, bs_append, bs_append]
          rfl
        · have hl : lineL a0_0 a0_1 a0_2.data.toList = nameL a0_0 := by
            unfold lineL
            rw [if_neg h02, if_neg e1]
          rw [hl]
          have t2 : (a0_0 == 1) = false := by simp [e1]
          clear h02 e1
          go_enter Tryz.func13, Tryz.ntmps13
          go_wp2_with (first
            | (go_at_call 17; refine (HMM.out _).mono ?_; rintro e w1 ⟨rfl, hb1⟩; have BK1 := Aside0.mk (BK0.out.keep hb1); have k0 := BK1.out.c0; have k1 := BK1.out.c1; have k2 := BK1.out.c2; clear hb1)
            | (go_at_call 19; refine (HN.out _ (gl_below HGL.out BK1.out.b)).mono ?_; rintro e w2 ⟨rfl, hb2⟩; have BK2 := Aside0.mk (BK1.out.keep hb2); clear hb2))
          go_ret2
          refine ⟨?_, BK2.out.b⟩
          rw [← HNM.out]
          rfl
  · cases h
end Go.Proofs.YtmgcpjgpmjhemaaGreatDoor.Pc

/-
The contract of code.Print in the form that the printed walks take.
-/
namespace Go.Proofs.YtmgcpjgpmjhemaaGreatDoor.Pc
open Go.RowKit Go.Proofs.YtmgcpjgpmjhemaaGreatDoorW.PrintWords Go.Proofs.YtmgcpjgpmjhemaaGreatDoorW.PrintLast Go.Proofs.YtmgcpjgpmjhemaaGreatDoorW.PrintMore
open CodePure (esc Bs)
set_option linter.unusedVariables false

theorem ownsRow_keep {B : Nat} {e : TypeId} {k : Nat} {v : Value} {n : Nat} {xs : List Value} {w w' : World} (h : w.ownsRow B e k v n xs) (hb : Below w.heap.size w w') : w'.ownsRow B e k v n xs :=
  h.kept (row := none) ⟨hb.os, hb.tape, hb.output, hb.size, fun j hj _ => hb.block j hj⟩ (by cases hv : v.ownBlock <;> simp)
theorem isB_keep {B b : Nat} {l : List UInt8} {w w' : World} (h : IsB B b l w) (hb : Below w.heap.size w w') : IsB B b l w' := by
  rcases h with ⟨h0, v, h1, h2, h3⟩ | ⟨h0, v, h1, h2, h3⟩
  · exact .inl ⟨h0, v, (hb.block b (by rcases Nat.lt_or_ge b w.heap.size with h | h; exact h; rw [Array.getElem?_eq_none h] at h1; cases h1)).trans h1, ownsRow_keep h2 hb, h3⟩
  · exact .inr ⟨h0, v, (hb.block b (by rcases Nat.lt_or_ge b w.heap.size with h | h; exact h; rw [Array.getElem?_eq_none h] at h1; cases h1)).trans h1, ownsRow_keep h2 hb, h3⟩
theorem strCells_bs (l : List UInt8) : Lib.strCells (bs l) = Lib.byteCells l := by
  simp [Lib.strCells, Lib.byteCells, bs]

set_option maxRecDepth 100000 in
set_option maxHeartbeats 4000000 in
theorem code_Print.calls (A0 : Option Addr) (c0 : Nat) (l0 : List S23) (r1 : ByteArray) (r2 : Int) (w : World) (hr0 : Kd.C k23 w A0 l0.length l0) (hc0 : l0.length ≤ c0) (hG : Gl w) (h : code_Print.f l0 = some (r1, r2)) :
    Calls Tryz.prog 22 #[.slice A0 l0.length c0] w fun e w' => e = .returned (.tuple #[.string r1, .int .i64 r2]) ∧ Below w.heap.size w w' := by
  have HR0 := Aside0.mk hr0
  have HGL := Aside0.mk hG
  clear hr0 hG
  unfold code_Print.f at h
  split at h
  · rename_i hc
    have c2 : decide (200 < (l0.length : Int)) = true := decide_eq_true (by omega)
    obtain ⟨rfl, rfl⟩ := Prod.mk.inj (Option.some.inj h)
    clear h
    go_enter Tryz.func22, Tryz.ntmps22
    go_wp2
    go_ret2
    exact ⟨rfl, Below.refl _ _⟩
  · split at h
    · rename_i hc hok
      have HC : Aside0 (l0.length ≤ 200) := ⟨by omega⟩
      have HOK := Aside0.mk hok
      have H := Aside0.mk (Option.some.inj h)
      have c2 : decide (200 < (l0.length : Int)) = false := decide_eq_false (by omega)
      clear h hok hc
      go_enter Tryz.func22, Tryz.ntmps22
      go_wp2_with fail
      have hB0 : IsB w.heap.size w.heap.size (linesL (l0.take 0)) (w.alloc (.cells #[.pointer none, .slice none 0 0] 84)) :=
        .inl ⟨Nat.le_refl _, .slice none 0 0, heap_alloc_new w _, own_nil _ _ _ _, by simp [Value.ownBlock]⟩
      have HB0 := Aside0.mk hB0
      have HW0 : Aside0 (Below w.heap.size w (w.alloc (.cells #[.pointer none, .slice none 0 0] 84))) := ⟨(Below.refl w.heap.size w).alloc (Nat.le_refl _) _⟩
      clear hB0
      obtain ⟨B, hB⟩ : ∃ B, w.heap.size = B := ⟨_, rfl⟩
      have HBB := Aside0.mk hB
      rw [hB] at HB0 HW0 ⊢
      clear hB
      go_loopw [14] (fun i wr => ∃ k : Nat, k ≤ l0.length ∧ i = .int .i64 k ∧ Aside0 ((l0.take k).all mayS = true) ∧ Aside0 (IsB B B (linesL (l0.take k)) wr) ∧ Aside0 (Below B w wr) ∧ Aside0 ((linesL (l0.take k)).length ≤ 200101 * k)) (fun i _ => l0.length - (intOf i).toNat)
      case atStart => exact ⟨0, Nat.zero_le _, rfl, ⟨rfl⟩, HB0, HW0, ⟨Nat.le_refl _⟩⟩
      case round =>
        obtain ⟨k, hk, rfl, HM, HBl, HW, HL⟩ := hrel
        by_cases hlt : k < l0.length
        · obtain ⟨x, hx⟩ : ∃ x, rd_T23 l0 k = x := ⟨_, rfl⟩
          have hat := rd_at hlt
          rw [hx] at hat
          have hokx : okS x := HOK.out x (List.mem_of_getElem? hat)
          have HTK := Aside0.mk (linesL_take hat)
          have HAL : Aside0 ((l0.take (k + 1)).all mayS = mayS x) := ⟨by rw [List.take_add_one, hat]; simp only [Option.toList_some, List.all_append, HM.out, List.all_cons, List.all_nil, Bool.true_and, Bool.and_true]⟩
          obtain ⟨ad, hA, d0, d1, d2⟩ := at_T23 HR0.out k (by omega) (by omega)
          rw [hx] at d0 d1 d2
          simp only [Int.toNat_natCast] at d0 d1 d2
          subst hA
          have D0 := (HW.out.cell (HBB.out ▸ World.block_lt_of_cell? w _ d0)).trans d0
          have D1 := (HW.out.cell (HBB.out ▸ World.block_lt_of_cell? w _ d1)).trans d1
          have D2 := (HW.out.cell (HBB.out ▸ World.block_lt_of_cell? w _ d2)).trans d2
          have hBw := HW.out.size
          rw [HBB.out] at hBw
          have HLF : Aside0 (code_Line.f x.f0 x.f1 x.f2 = some (if mayS x then (bs (lineS x), 0) else (⟨#[]⟩, 1))) := ⟨if_pos ⟨hokx.1, hokx.2.1, by have := hokx.2.2; omega⟩⟩
          have HOX := Aside0.mk hokx
          have hmem : x ∈ l0 := List.mem_of_getElem? hat
          have HMEM := Aside0.mk hmem
          clear hx hat hokx d0 d1 d2 hmem
          cases hm : mayS x with
          | true =>
            have HMX := Aside0.mk hm
            have hlen := lineS_len x HOX.out hm
            rw [hm] at HLF
            have HLN : Aside0 (∀ W, Gl W → Calls Tryz.prog 13 #[.agg #[.int .i64 x.f0, .int .i64 x.f1, .string x.f2]] W fun e w' => e = .returned (.tuple #[.string (bs (lineS x)), .int .i64 0]) ∧ Below W.heap.size W w') := ⟨fun W hg => code_Line.calls x.f0 x.f1 x.f2 _ _ W hg HLF.out⟩
            obtain ⟨ln, hln⟩ : ∃ ln, bs (lineS x) = ln := ⟨_, rfl⟩
            have HLNE := Aside0.mk hln
            have hsz : ln.size ≤ 200100 := by rw [← hln]; exact hlen
            have n1 : (9223372036854775807 < ln.size + 1) = False := eq_false (by omega)
            rw [hln] at HLN
            have HSC : Aside0 (Lib.strCells (ln ++ ⟨#[10]⟩) = Lib.byteCells (lineS x ++ [10])) := ⟨by rw [← hln, ← strCells_bs, bs_append]; rfl⟩
            have HSZ : Aside0 ((ln ++ ⟨#[10]⟩ : ByteArray).size ≤ 200101) := ⟨by rw [ByteArray.size_append]; show ln.size + 1 ≤ _; omega⟩
            have hk1 : k + 1 ≤ l0.length := by omega
            have hk2 : k < 200 := by have := HC.out; omega
            have HK1 : Aside0 (k < l0.length ∧ k + 1 ≤ l0.length) := ⟨hlt, hk1⟩
            clear hm hlen hln hk1
            go_wp2_with (first
              | (go_at_call 13; refine (HLN.out _ (gl_below HGL.out (HBB.out ▸ HW.out.alloc hBw _))).mono ?_; rintro e w2 ⟨rfl, hb2⟩; have hb3 := ((Below.refl wr.heap.size wr).alloc (Nat.le_refl _) _).trans (hb2.mono (by simp)); have HBl2 := Aside0.mk (isB_keep HBl.out hb3); have HW2 := Aside0.mk (HW.out.trans (hb3.mono hBw)); clear hb2 hb3)
              | (go_at_call 58; refine (Tryz.Builder_WriteString B B _ _ _ HBl2.out (by have h1 := HL.out; have h2 := HSZ.out; have h3 := HC.out; simp only [Lib.byteCells, List.length_map]; omega) (by have h2 := HW2.out.size; rw [HBB.out] at h2; exact h2)).mono ?_; rw [HSC.out]; rintro e w3 ⟨rfl, hbd, hb3⟩; have HBl3 : Aside0 (IsB B B (linesL (l0.take (k + 1))) w3) := ⟨.inr (by rw [HTK.out, Lib.byteCells, List.map_append]; exact hbd)⟩; have HW3 := Aside0.mk (HW2.out.trans hb3); clear hbd hb3))
            go_roundw
            case rel => exact ⟨k + 1, HK1.out.2, by go_num, ⟨by rw [HAL.out]; exact HMX.out⟩, HBl3, HW3, ⟨by rw [HTK.out, List.length_append, List.length_append]; have h1 := HL.out; have h2 := lineS_len x HOX.out HMX.out; simp only [List.length_singleton]; omega⟩⟩
            case measure =>
              have := HK1.out.1
              simp [intOf]
              omega
          | false =>
            have hall : l0.all mayS = false := by
              rw [Bool.eq_false_iff]
              intro hall
              have := List.all_eq_true.1 hall x HMEM.out
              rw [hm] at this
              cases this
            have hr := H.out
            rw [hall] at hr
            obtain ⟨rfl, rfl⟩ := Prod.mk.inj hr
            rw [hm] at HLF
            have HLN : Aside0 (∀ W, Gl W → Calls Tryz.prog 13 #[.agg #[.int .i64 x.f0, .int .i64 x.f1, .string x.f2]] W fun e w' => e = .returned (.tuple #[.string ⟨#[]⟩, .int .i64 1]) ∧ Below W.heap.size W w') := ⟨fun W hg => code_Line.calls x.f0 x.f1 x.f2 _ _ W hg HLF.out⟩
            clear hm hall hr
            go_wp2_with (first
              | (go_at_call 13; refine (HLN.out _ (gl_below HGL.out (HBB.out ▸ HW.out.alloc hBw _))).mono ?_; rintro e w2 ⟨rfl, hb2⟩; have hb3 := ((Below.refl wr.heap.size wr).alloc (Nat.le_refl _) _).trans (hb2.mono (by simp)); have HW2 := Aside0.mk (HW.out.trans (hb3.mono hBw)); clear hb2 hb3))
            go_ret2
            exact ⟨rfl, HBB.out ▸ HW2.out⟩
        · obtain rfl : k = l0.length := by omega
          have htk : l0.take l0.length = l0 := List.take_of_length_le (Nat.le_refl _)
          rw [htk] at HM HBl
          have hr := H.out
          rw [HM.out] at hr
          obtain ⟨rfl, rfl⟩ := Prod.mk.inj hr
          have hBw := HW.out.size
          rw [HBB.out] at hBw
          clear hr htk hlt hk
          go_wp2_with (go_at_call 59; refine (Tryz.Builder_String_any B B (linesL l0) wr HBl.out hBw).mono ?_; rintro e w' ⟨rfl, hbw⟩; have HW2 := Aside0.mk (HW.out.trans hbw); clear hbw)
          go_ret2
          exact ⟨rfl, HBB.out ▸ HW2.out⟩
    · cases h
end Go.Proofs.YtmgcpjgpmjhemaaGreatDoor.Pc
