/-
Parts of the proof of CodePieces: ParsePure, ParseEq, ParseBack, ReadPure, ReadEq, Pc1, Pc7, Pc11, BackRead, SmallPure, RowSlice, AlivePure, ExtOnce, ExtRepl, ExtReplB, ExtReplC. No condition of ours.
-/
import Derived.Test.YtmgcpjgpmjhemaaGreatDoorMCodePieces2
import Derived.Test.YtmgcpjgpmjhemaaGreatDoorMCodePieces3
import Derived.Lib.Split
import Derived.Lib.SplitLaws
import Derived.Test.YtmgcpjgpmjhemaaGreatDoorMCodePieces1
import Derived.SizedLaws
import Derived.Deep.Slices
import Derived.WalkKit
import Derived.Laws.LoneSync
import Derived.Defers
import Derived.WalkSpells
import Derived.Deep.AppendLies
import Derived.Laws.MakeOwn
import Derived.Laws.IdiomStrings
import Derived.Laws.NewBlocks
import Derived.Lib.SliceRun
import Derived.Deep.WholeRow
import Derived.Outline
import Derived.BigQuiet
import Derived.Laws.CopyOwn
/-
What code.Parse computes, said plainly; a line is read as its instruction; what is read, written, is what was read.
-/
namespace Go.Proofs.YtmgcpjgpmjhemaaGreatDoor.Pc
open Go.RowKit Go.Proofs.YtmgcpjgpmjhemaaGreatDoorW.PrintWords Go.Proofs.YtmgcpjgpmjhemaaGreatDoorW.PrintLast Go.Proofs.YtmgcpjgpmjhemaaGreatDoorW.PrintMore
open CodePure (esc Bs unesc figs)
set_option linter.unusedVariables false

/-- The text before the first blank, behind it, and whether there is one. -/
def cut1 : Bs → Bs × Bs × Bool
  | [] => ([], [], false)
  | c :: r => if c = 32 then ([], r, true) else ((c :: (cut1 r).1), (cut1 r).2.1, (cut1 r).2.2)

theorem cut_cut1 (s : Bs) : Lib.cut s [32] = cut1 s := by
  induction s with
  | nil => rfl
  | cons c r ih =>
    by_cases hc : c = 32
    · subst hc
      have : Lib.index (32 :: r) [32] = 0 := by simp [Lib.index]
      simp [Lib.cut, this, cut1]
    · have hge := Lib.index_ge r [32]
      have hp : ([32] : Bs).isPrefixOf (c :: r) = false := by
        simp [List.isPrefixOf]
        exact fun h => hc h.symm
      have hi : Lib.index (c :: r) [32] = if Lib.index r [32] = -1 then -1 else Lib.index r [32] + 1 := by
        simp [Lib.index, hp]
      unfold cut1
      rw [if_neg hc, ← ih]
      unfold Lib.cut
      rw [hi]
      by_cases h1 : Lib.index r [32] = -1
      · rw [if_pos h1, h1]
        simp
      · rw [if_neg h1]
        have h2 : 0 ≤ Lib.index r [32] := by omega
        rw [if_pos h2, if_pos (by omega)]
        have e : (Lib.index r [32] + 1).toNat = (Lib.index r [32]).toNat + 1 := by omega
        simp [e]

theorem cut1_app (a r : Bs) (h : ∀ c ∈ a, c ≠ 32) : cut1 (a ++ 32 :: r) = (a, r, true) := by
  induction a with
  | nil => simp [cut1]
  | cons c a ih =>
    have hc : c ≠ 32 := h c List.mem_cons_self
    have := ih (fun x hx => h x (List.mem_cons_of_mem _ hx))
    simp only [List.cons_append, cut1, if_neg hc, this]
theorem cut1_none (a : Bs) (h : ∀ c ∈ a, c ≠ 32) : cut1 a = (a, [], false) := by
  induction a with
  | nil => rfl
  | cons c a ih =>
    have hc : c ≠ 32 := h c List.mem_cons_self
    have := ih (fun x hx => h x (List.mem_cons_of_mem _ hx))
    simp only [cut1, if_neg hc, this]
theorem cut1_back (s : Bs) : ((cut1 s).2.2 = true → s = (cut1 s).1 ++ 32 :: (cut1 s).2.1) ∧ ((cut1 s).2.2 = false → s = (cut1 s).1 ∧ (cut1 s).2.1 = []) := by
  induction s with
  | nil => exact ⟨(fun h => by cases h), fun _ => ⟨rfl, rfl⟩⟩
  | cons c r ih =>
    unfold cut1
    by_cases hc : c = 32
    · subst hc
      simp
    · simp only [if_neg hc]
      exact ⟨(fun h => congrArg (c :: ·) (ih.1 h)), fun h => ⟨congrArg (c :: ·) (ih.2 h).1, (ih.2 h).2⟩⟩
theorem cut1_len (s : Bs) : (cut1 s).1.length ≤ s.length ∧ (cut1 s).2.1.length ≤ s.length := by
  induction s with
  | nil => exact ⟨Nat.le_refl _, Nat.le_refl _⟩
  | cons c r ih =>
    unfold cut1
    by_cases hc : c = 32
    · simp [if_pos hc]
    · simp only [if_neg hc, List.length_cons]; omega

/-- The place of a name among the names, or -1. -/
def idxFrom (a : Bs) : List Bs → Int → Int
  | [], _ => -1
  | b :: l, i => if a = b then i else idxFrom a l (i + 1)
def idxL (a : Bs) : Int := idxFrom a namesL 0
theorem index_run (a1 : ByteArray) (L : List ByteArray) : ∀ (m i k : Nat), m = L.length - i → i ≤ L.length → m < k → L.length < 1000 →
    slices_Index_string_string.l0 k L a1 (L.length : Int) i = some (idxFrom a1.data.toList ((L.drop i).map (·.data.toList)) i) := by
  intro m
  induction m with
  | zero =>
    intro i k hm hi hk hL
    have he : i = L.length := by omega
    subst he
    cases k with
    | zero => omega
    | succ k => simp [slices_Index_string_string.l0, idxFrom]
  | succ m ih =>
    intro i k hm hi hk hL
    cases k with
    | zero => omega
    | succ k =>
      have hlt : i < L.length := by omega
      have hd : L.drop i = L[i] :: L.drop (i + 1) := List.drop_eq_getElem_cons hlt
      have hr : rdOf ByteArray.empty L (i : Int) = L[i] := by simp [rdOf, hlt]
      have hw : wrap64 ((i : Int) + 1) = ((i + 1 : Nat) : Int) := by
        unfold wrap64; omega
      simp only [slices_Index_string_string.l0]
      rw [if_pos (by omega), if_pos (by omega), if_pos (by omega), hr, hd, hw, ih (i + 1) k (by omega) (by omega) (by omega) hL]
      simp only [List.map_cons, idxFrom, ByteArray.toList_eq]
      by_cases he : a1.data.toList = L[i].data.toList
      · rw [if_pos he, if_pos he]
      · rw [if_neg he, if_neg he]; simp
theorem index_eq (k : Nat) (hk : 30 ≤ k) (a1 : ByteArray) : slices_Index_string_string.f k namesB a1 = some (idxL a1.data.toList) := by
  have hl : namesB.length = 24 := by decide +kernel
  unfold slices_Index_string_string.f idxL
  have := index_run a1 namesB 24 0 k (by omega) (by omega) (by omega) (by omega)
  have e : ((namesB.drop 0).map (·.data.toList)) = namesL := by decide +kernel
  rw [e] at this
  exact this

def quotedL (a : Bs) : Option Bs := if a.length < 2 then none else if a.head? ≠ some 34 then none else if a.getLast? ≠ some 34 then none else unesc (a.drop 1).dropLast

def parseL (s : Bs) : Option (Int × Int × Bs) :=
  let i := idxL (cut1 s).1
  if i = 0 ∨ i = 2 then match figs (cut1 s).2.1 with
    | some n => if mayB i n [] then some (i, n, []) else none
    | none => none
  else if i = 1 then match quotedL (cut1 s).2.1 with
    | some t => if mayB 1 0 t then some (1, 0, t) else none
    | none => none
  else if 0 ≤ i ∧ (cut1 s).2.2 = false ∧ mayB i 0 [] = true then some (i, 0, []) else none

def parseR (s : Bs) : Int × Int × ByteArray × Int := match parseL s with
  | some (i, n, t) => (i, n, bs t, 0)
  | none => (0, 0, ⟨#[]⟩, 3)

theorem idxFrom_lt (a : Bs) : ∀ (l : List Bs) (i : Int), idxFrom a l i = -1 ∨ (i ≤ idxFrom a l i ∧ idxFrom a l i < i + l.length)
  | [], i => .inl rfl
  | b :: l, i => by
    unfold idxFrom
    split
    · right; simp; omega
    · rcases idxFrom_lt a l (i + 1) with h | h
      · exact .inl h
      · right; simp; omega
theorem idxL_lt (a : Bs) : idxL a = -1 ∨ (0 ≤ idxL a ∧ idxL a ≤ 23) := by
  rcases idxFrom_lt a namesL 0 with h | h
  · exact .inl h
  · right
    have hl : namesL.length = 24 := by decide +kernel
    rw [hl] at h
    unfold idxL
    omega
theorem wf_idx (a : Bs) : wfI (idxL a) := by
  rcases idxL_lt a with h | h
  · rw [h]; exact ⟨by decide, by decide⟩
  · exact ⟨by omega, by omega⟩
end Go.Proofs.YtmgcpjgpmjhemaaGreatDoor.Pc

/-
code.Parse's printed function is 'parseR'.
-/
namespace Go.Proofs.YtmgcpjgpmjhemaaGreatDoor.Pc
open Go.RowKit Go.Proofs.YtmgcpjgpmjhemaaGreatDoorW.PrintWords Go.Proofs.YtmgcpjgpmjhemaaGreatDoorW.PrintLast Go.Proofs.YtmgcpjgpmjhemaaGreatDoorW.PrintMore
open CodePure (esc Bs unesc figs)
set_option linter.unusedVariables false

theorem figs_num {s : Bs} {n : Int} (h : figs s = some n) : atoiNum s = n := by
  unfold figs at h
  unfold atoiNum
  generalize Lib.atoiAll s = r at h ⊢
  rcases r with v | _ | _
  · simp only at h ⊢
    split at h
    · injection h
    · cases h
  · cases h
  · cases h
theorem figs_wf {s : Bs} {n : Int} (h : figs s = some n) : wfI n := by
  unfold figs at h
  split at h
  · rename_i v hv
    have := Lib.atoiAll_bounds hv
    split at h
    · injection h with h
      rw [← h]
      exact ⟨this.1, this.2⟩
    · cases h
  · cases h
  · cases h

theorem bt_list (a : ByteArray) (i : Nat) (h : i < a.size) (c : UInt8) (hc : a.data.toList[i]? = some c) : bt a i = c.toNat := by
  have h' : i < a.data.toList.length := by simpa using h
  rw [List.getElem?_eq_getElem h'] at hc
  have e := bt_at a (i : Int) (by simpa using h)
  rw [← e]
  injection hc with hc
  rw [← hc]
  rfl
theorem byte34 (c : UInt8) : (c.toNat : Int) ≠ 34 ↔ c ≠ 34 := by
  constructor
  · rintro h rfl; exact h rfl
  · intro h e
    apply h
    apply UInt8.toNat_inj.1
    show c.toNat = 34
    omega
theorem quoted_eq (a : ByteArray) : quotedB a = quotedL a.data.toList := by
  have hl : a.data.toList.length = a.size := by simp
  unfold quotedB quotedL
  by_cases h2 : a.size < 2
  · rw [if_pos h2, if_pos (by omega)]
  · rw [if_neg h2, if_neg (show ¬ a.data.toList.length < 2 by omega)]
    have e0 : a.data.toList.head? = a.data.toList[0]? := List.head?_eq_getElem?
    have e1 : a.data.toList.getLast? = a.data.toList[a.size - 1]? := by rw [List.getLast?_eq_getElem?, hl]
    obtain ⟨c, hc⟩ : ∃ c, a.data.toList[0]? = some c := ⟨_, List.getElem?_eq_getElem (by omega)⟩
    obtain ⟨d, hd⟩ : ∃ d, a.data.toList[a.size - 1]? = some d := ⟨_, List.getElem?_eq_getElem (by omega)⟩
    have b0 := bt_list a 0 (by omega) c hc
    have b1 := bt_list a (a.size - 1) (by omega) d hd
    rw [e0, e1, hc, hd]
    have b0' : bt a 0 = (c.toNat : Int) := b0
    have b1' : bt a (a.size - 1) = (d.toNat : Int) := by
      rw [← b1]
      unfold bt
      simp only [show ((a.size : Int) - 1).toNat = (((a.size - 1 : Nat)) : Int).toNat by omega]
    rw [b0', b1']
    by_cases hc34 : c = 34
    · have x1 : ¬ ((c.toNat : Int) ≠ 34) := fun h => (byte34 c).1 h hc34
      have y1 : ¬ (some c ≠ some (34 : UInt8)) := by simp [hc34]
      rw [if_neg x1, if_neg y1]
      by_cases hd34 : d = 34
      · have x2 : ¬ ((d.toNat : Int) ≠ 34) := fun h => (byte34 d).1 h hd34
        have y2 : ¬ (some d ≠ some (34 : UInt8)) := by simp [hd34]
        rw [if_neg x2, if_neg y2]
        congr 1
        simp [List.dropLast_eq_take, hl]
      · have y2 : some d ≠ some (34 : UInt8) := by simp [hd34]
        rw [if_pos ((byte34 d).2 hd34), if_pos y2]
    · have y1 : some c ≠ some (34 : UInt8) := by simp [hc34]
      rw [if_pos ((byte34 c).2 hc34), if_pos y1]

theorem parse_eq (k : Nat) (hk : 40 ≤ k) (s : ByteArray) (hs : s.size ≤ 1000000) : code_Parse.f k s = some (parseR s.data.toList) := by
  have hl : s.data.toList.length = s.size := by simp
  obtain ⟨l, hL⟩ : ∃ l, s.data.toList = l := ⟨_, rfl⟩
  have hlen := cut1_len l
  rw [hL] at hl
  have hcut : strings_Cut.f s ⟨#[32]⟩ = some (bs (cut1 l).1, bs (cut1 l).2.1, (cut1 l).2.2) := by
    unfold strings_Cut.f
    rw [if_pos (by omega), hL]
    show some ((⟨(Lib.cut l [32]).1.toArray⟩ : ByteArray), (⟨(Lib.cut l [32]).2.1.toArray⟩ : ByteArray), (Lib.cut l [32]).2.2) = _
    rw [cut_cut1]
    rfl
  have hwd : code_words.f = some namesB := rfl
  have hidx : slices_Index_string_string.f k namesB (bs (cut1 l).1) = some (idxL (cut1 l).1) := index_eq k (by omega) _
  obtain ⟨k', rfl⟩ : ∃ k', k = k' + 1 := ⟨k - 1, by omega⟩
  have hwi := wf_idx (cut1 l).1
  have hb := idxL_lt (cut1 l).1
  unfold code_Parse.f parseR parseL
  rw [hcut, hwd]
  simp only [Option.bind_some]
  rw [hidx]
  simp only [Option.bind_some, hL]
  generalize cut1 l = p at *
  obtain ⟨a, r, m⟩ := p
  simp only at hlen hwi hb ⊢
  obtain ⟨i, hi⟩ : ∃ i, idxL a = i := ⟨_, rfl⟩
  rw [hi] at hwi hb ⊢
  have hrs : (bs r).size = r.length := rfl
  have hfig : code_figures.f (bs r) = some (atoiNum r, (figs r).isSome) := if_pos (by rw [hrs]; omega)
  have hquo : code_quoted.f (bs r) = some (match quotedL r with
    | some l => (⟨l.toArray⟩, true)
    | none => (⟨#[]⟩, false)) := by
    unfold code_quoted.f
    rw [if_pos (by rw [hrs]; omega), quoted_eq]
    rfl
  have hmay : ∀ n (t : ByteArray), code_May.f i n t = some (mayB i n t.data.toList) := fun n t => may_eq i n t hwi
  by_cases h0 : i = 0
  · subst h0
    simp only [if_pos, code_Parse.j0, hfig, Option.bind_some, beq_self_eq_true, hmay, true_or]
    cases hf : figs r with
    | none => simp
    | some n =>
      rw [figs_num hf]
      simp only [Option.isSome_some, if_true]
      cases mayB 0 n [] <;> rfl
  · by_cases h2 : i = 2
    · subst h2
      simp only [if_pos, code_Parse.j0, hfig, Option.bind_some, beq_self_eq_true, hmay, or_true, if_neg h0]
      cases hf : figs r with
      | none => simp
      | some n =>
        rw [figs_num hf]
        simp only [Option.isSome_some, if_true]
        cases mayB 2 n [] <;> rfl
    · have hb2 : (i == 2) = false := by simp [h2]
      rw [if_neg h0, hb2, if_neg (by omega)]
      by_cases h1 : i = 1
      · subst h1
        simp only [code_Parse.j0, hquo, Option.bind_some, hmay, if_true, if_neg (show ¬ (false = true) by decide)]
        cases hq : quotedL r with
        | none => simp
        | some t =>
          simp only [if_true]
          cases mayB 1 0 t <;> rfl
      · simp only [code_Parse.j0, Option.bind_some, hmay, if_neg (show ¬ (false = true) by decide), if_neg h1]
        by_cases hi0 : i ≥ 0
        · rw [decide_eq_true hi0]
          simp only [if_true]
          cases m with
          | true => simp
          | false =>
            simp only [if_neg (show ¬ (false = true) by decide)]
            cases hmm : mayB i 0 [] with
            | true => simp [hi0, bs]
            | false => simp
        · rw [decide_eq_false hi0]
          have : ¬ (0 ≤ i ∧ m = false ∧ mayB i 0 [] = true) := fun h => hi0 h.1
          simp [this]
end Go.Proofs.YtmgcpjgpmjhemaaGreatDoor.Pc

/-
A line is read as its instruction; what is read, written, is what was read.
-/
namespace Go.Proofs.YtmgcpjgpmjhemaaGreatDoor.Pc
open Go.RowKit Go.Proofs.YtmgcpjgpmjhemaaGreatDoorW.PrintWords Go.Proofs.YtmgcpjgpmjhemaaGreatDoorW.PrintLast Go.Proofs.YtmgcpjgpmjhemaaGreatDoorW.PrintMore
open CodePure (esc Bs unesc figs)
set_option linter.unusedVariables false

theorem name_facts (op : Int) (h : 0 ≤ op ∧ op ≤ 23) : idxL (nameL op) = op ∧ (∀ c ∈ nameL op, c ≠ 32) ∧ (∀ c ∈ nameL op, c ≠ 10) := by
  have hk : ∀ k : Nat, k < 24 → (decide (idxL (nameL k) = k) && (nameL k).all (fun c => c != 32) && (nameL k).all (fun c => c != 10)) = true := by decide +kernel
  have := hk op.toNat (by omega)
  rw [show ((op.toNat : Nat) : Int) = op by omega] at this
  simp only [Bool.and_eq_true, decide_eq_true_eq, List.all_eq_true, bne_iff_ne] at this
  exact ⟨this.1.1, this.1.2, this.2⟩
theorem idxFrom_at (a : Bs) : ∀ (l : List Bs) (i j : Int), idxFrom a l i = j → 0 ≤ i → i ≤ j → l.getD (j - i).toNat [] = a
  | [], i, j, h, h0, hj => by
    simp only [idxFrom] at h
    omega
  | b :: l, i, j, h, h0, hj => by
    unfold idxFrom at h
    split at h
    · rename_i e
      subst h
      simp [e]
    · rcases idxFrom_lt a l (i + 1) with hx | hx
      · omega
      · have := idxFrom_at a l (i + 1) j h (by omega) (by omega)
        rw [show (j - i).toNat = (j - (i + 1)).toNat + 1 by omega]
        simpa using this
theorem idxL_name {a : Bs} {i : Int} (h : idxL a = i) (hi : 0 ≤ i) : nameL i = a := by
  have := idxFrom_at a namesL 0 i h (Int.le_refl 0) hi
  rwa [show (i - 0).toNat = i.toNat by omega] at this

theorem may_parts {op n : Int} {s : Bs} (h : mayB op n s = true) : (0 ≤ op ∧ op ≤ 23) ∧ (op = 0 → s = []) ∧ (op = 2 → 0 ≤ n ∧ n < 50 ∧ s = []) ∧ (op = 1 → n = 0 ∧ s.length ≤ 1000) ∧ (op ≠ 0 → op ≠ 1 → op ≠ 2 → n = 0 ∧ s = []) := by
  unfold mayB at h
  simp only [Bool.and_eq_true, decide_eq_true_eq] at h
  obtain ⟨⟨h1, h2⟩, h3⟩ := h
  refine ⟨h1, ?_, ?_, ?_, ?_⟩
  · rintro rfl; simpa using h3
  · rintro rfl
    simp at h2 h3
    exact ⟨h2.1, h2.2, h3⟩
  · rintro rfl
    simp at h2 h3
    exact ⟨h2, h3⟩
  · intro a b c
    simp [a, b, c] at h2 h3
    exact ⟨h2, h3⟩

theorem quotedL_esc (s : Bs) : quotedL (34 :: (esc s ++ [34])) = some s := by
  unfold quotedL
  rw [if_neg (by simp), if_neg (by simp)]
  have e : (34 :: (esc s ++ [34])).getLast? = some 34 := by
    rw [show (34 :: (esc s ++ [34]) : Bs) = (34 :: esc s) ++ [34] from rfl, List.getLast?_append]
    simp
  rw [e, if_neg (by simp)]
  simp [CodePure.unesc_esc]
theorem quotedL_back {a t : Bs} (h : quotedL a = some t) : a = 34 :: (esc t ++ [34]) := by
  unfold quotedL at h
  split at h
  · cases h
  · split at h
    · cases h
    · split at h
      · cases h
      · rename_i h1 h2 h3
        have h2' : a.head? = some 34 := Decidable.not_not.1 h2
        have h3' : a.getLast? = some 34 := Decidable.not_not.1 h3
        have := CodePure.esc_unesc h
        rw [this]
        cases a with
        | nil => simp at h1
        | cons c r =>
          simp at h2'
          subst h2'
          simp only [List.drop_succ_cons, List.drop_zero]
          have hr : r ≠ [] := by rintro rfl; simp at h1
          have hl : r.getLast? = some 34 := by rwa [List.getLast?_cons_of_ne_nil hr] at h3'
          congr 1
          have hx := List.dropLast_concat_getLast hr
          rw [List.getLast?_eq_some_getLast hr] at hl
          injection hl with hl
          rw [hl] at hx
          exact hx.symm

theorem parse_line (op n : Int) (s : Bs) (hn : wfI n) (h : mayB op n s = true) : parseL (lineL op n s) = some (op, n, s) := by
  obtain ⟨hop, p0, p2, p1, pe⟩ := may_parts h
  obtain ⟨f1, f2, f3⟩ := name_facts op hop
  unfold lineL
  by_cases h02 : op = 0 ∨ op = 2
  · rw [if_pos h02]
    have hs : s = [] := by rcases h02 with e | e; exact p0 e; exact (p2 e).2.2
    subst hs
    rw [List.append_assoc, show ([32] ++ Lib.itoa n : Bs) = 32 :: Lib.itoa n from rfl]
    unfold parseL
    rw [cut1_app _ _ f2]
    simp only [f1]
    rw [if_pos h02, CodePure.figs_itoa n hn.1 hn.2]
    simp [h]
  · rw [if_neg h02]
    by_cases h1 : op = 1
    · subst h1
      obtain ⟨rfl, _⟩ := p1 rfl
      rw [if_pos rfl, show (nameL 1 ++ [32, 34] ++ esc s ++ [34] : Bs) = nameL 1 ++ 32 :: (34 :: (esc s ++ [34])) by simp]
      unfold parseL
      rw [cut1_app _ _ f2]
      simp only [f1]
      rw [if_neg h02, if_pos trivial, quotedL_esc]
      simp [h]
    · rw [if_neg h1]
      obtain ⟨rfl, rfl⟩ := pe (fun e => h02 (.inl e)) h1 (fun e => h02 (.inr e))
      unfold parseL
      rw [cut1_none _ f2]
      simp only [f1]
      rw [if_neg h02, if_neg h1, if_pos ⟨hop.1, trivial, h⟩]

theorem line_parse {s : Bs} {i n : Int} {t : Bs} (h : parseL s = some (i, n, t)) : mayB i n t = true ∧ lineL i n t = s ∧ wfI n := by
  have hb := cut1_back s
  unfold parseL at h
  generalize cut1 s = p at *
  obtain ⟨a, r, m⟩ := p
  simp only at h hb
  have hw0 : wfI 0 := ⟨by decide, by decide⟩
  split at h
  · rename_i h02
    split at h
    · rename_i v hv
      split at h
      · rename_i hm
        simp only [Option.some.injEq, Prod.mk.injEq] at h
        obtain ⟨rfl, rfl, rfl⟩ := h
        refine ⟨hm, ?_, figs_wf hv⟩
        have hi0 : 0 ≤ idxL a := by omega
        have hnm := idxL_name (a := a) rfl hi0
        have hit := CodePure.figs_some hv
        unfold lineL
        rw [if_pos h02, hnm, hit]
        cases m with
        | true => rw [hb.1 rfl]; simp
        | false =>
          obtain ⟨_, rfl⟩ := hb.2 rfl
          rw [CodePure.figs_nil] at hv
          cases hv
      · cases h
    · cases h
  · rename_i h02
    split at h
    · rename_i h1
      split at h
      · rename_i v hv
        split at h
        · rename_i hm
          simp only [Option.some.injEq, Prod.mk.injEq] at h
          obtain ⟨rfl, rfl, rfl⟩ := h
          refine ⟨hm, ?_, hw0⟩
          have hnm := idxL_name (a := a) h1 (by decide)
          have hq := quotedL_back hv
          unfold lineL
          rw [if_neg (by decide), if_pos rfl, hnm]
          cases m with
          | true => rw [hb.1 rfl, hq]; simp
          | false =>
            obtain ⟨_, rfl⟩ := hb.2 rfl
            cases hq
        · cases h
      · cases h
    · rename_i h1
      split at h
      · rename_i hc
        simp only [Option.some.injEq, Prod.mk.injEq] at h
        obtain ⟨rfl, rfl, rfl⟩ := h
        refine ⟨hc.2.2, ?_, hw0⟩
        have hnm := idxL_name (a := a) rfl hc.1
        unfold lineL
        rw [if_neg h02, if_neg h1, hnm]
        exact (hb.2 hc.2.1).1.symm
      · cases h

theorem line_no10 (op n : Int) (s : Bs) (hop : 0 ≤ op ∧ op ≤ 23) : ∀ c ∈ lineL op n s, c ≠ 10 := by
  obtain ⟨_, _, f3⟩ := name_facts op hop
  have f1 := (name_facts 1 (by decide)).2.2
  intro c hc
  unfold lineL at hc
  split at hc
  · rcases List.mem_append.1 hc with hc | hc
    · rcases List.mem_append.1 hc with hc | hc
      · exact f3 c hc
      · simp at hc; rw [hc]; decide
    · exact CodePure.itoa_no n 10 (.inl rfl) c hc
  · split at hc
    · rcases List.mem_append.1 hc with hc | hc
      · rcases List.mem_append.1 hc with hc | hc
        · rcases List.mem_append.1 hc with hc | hc
          · exact f1 c hc
          · simp at hc; rcases hc with rfl | rfl <;> decide
        · exact CodePure.esc_no10 s c hc
      · simp at hc; rw [hc]; decide
    · exact f3 c hc
end Go.Proofs.YtmgcpjgpmjhemaaGreatDoor.Pc

/-
What code.Read computes, said plainly.
-/
namespace Go.Proofs.YtmgcpjgpmjhemaaGreatDoor.Pc
open Go.RowKit Go.Proofs.YtmgcpjgpmjhemaaGreatDoorW.PrintWords Go.Proofs.YtmgcpjgpmjhemaaGreatDoorW.PrintLast Go.Proofs.YtmgcpjgpmjhemaaGreatDoorW.PrintMore
open CodePure (esc Bs unesc figs)
set_option linter.unusedVariables false

/-- A text cut at each line's end. -/
def pieces : Bs → List Bs
  | [] => [[]]
  | c :: r => if c = 10 then [] :: pieces r else match pieces r with
    | [] => [[c]]
    | p :: ps => (c :: p) :: ps
theorem pieces_cons (c : UInt8) (r : Bs) : pieces (c :: r) = if c = 10 then [] :: pieces r else match pieces r with
    | [] => [[c]]
    | p :: ps => (c :: p) :: ps := rfl
theorem pieces_ne (s : Bs) : ∃ p ps, pieces s = p :: ps := by
  cases s with
  | nil => exact ⟨_, _, rfl⟩
  | cons c r =>
    rw [pieces_cons]
    split
    · exact ⟨_, _, rfl⟩
    · split <;> exact ⟨_, _, rfl⟩
theorem pieces_no (a : Bs) (h : ∀ c ∈ a, c ≠ 10) : pieces a = [a] := by
  induction a with
  | nil => rfl
  | cons c r ih =>
    rw [pieces_cons, if_neg (h c List.mem_cons_self), ih (fun x hx => h x (List.mem_cons_of_mem _ hx))]
theorem pieces_app (a r : Bs) (h : ∀ c ∈ a, c ≠ 10) : pieces (a ++ 10 :: r) = a :: pieces r := by
  induction a with
  | nil => simp [pieces]
  | cons c a ih =>
    rw [List.cons_append]
    rw [pieces_cons, if_neg (h c List.mem_cons_self), ih (fun x hx => h x (List.mem_cons_of_mem _ hx))]

theorem index10 (c : UInt8) (r : Bs) : Lib.index (c :: r) [10] = if c = 10 then 0 else if Lib.index r [10] = -1 then -1 else Lib.index r [10] + 1 := by
  by_cases hc : c = 10
  · subst hc; simp [Lib.index]
  · have hp : ([10] : Bs).isPrefixOf (c :: r) = false := by
      simp [List.isPrefixOf]
      exact fun h => hc h.symm
    rw [if_neg hc]
    simp [Lib.index, hp]
theorem pieces_index (s : Bs) : (Lib.index s [10] = -1 → pieces s = [s] ∧ s.count 10 = 0) ∧ (Lib.index s [10] ≠ -1 → pieces s = s.take (Lib.index s [10]).toNat :: pieces (s.drop ((Lib.index s [10]).toNat + 1)) ∧ s.count 10 = (s.drop ((Lib.index s [10]).toNat + 1)).count 10 + 1) := by
  induction s with
  | nil => exact ⟨fun _ => ⟨rfl, rfl⟩, fun h => absurd rfl h⟩
  | cons c r ih =>
    have hge := Lib.index_ge r [10]
    rw [index10]
    by_cases hc : c = 10
    · subst hc
      rw [if_pos rfl]
      refine ⟨fun h => by omega, fun _ => ?_⟩
      simp [pieces]
    · rw [if_neg hc]
      by_cases h1 : Lib.index r [10] = -1
      · rw [if_pos h1]
        obtain ⟨e, e2⟩ := ih.1 h1
        refine ⟨fun _ => ⟨?_, ?_⟩, fun h => absurd rfl h⟩
        · rw [pieces_cons, if_neg hc, e]
        · rw [List.count_cons, e2]; simp [hc]
      · rw [if_neg h1]
        obtain ⟨e, e2⟩ := ih.2 h1
        have et : (Lib.index r [10] + 1).toNat = (Lib.index r [10]).toNat + 1 := by omega
        refine ⟨fun h => by omega, fun _ => ⟨?_, ?_⟩⟩
        · rw [et]
          rw [pieces_cons, if_neg hc, e]
          rfl
        · rw [et, List.count_cons, e2]
          simp [hc]
theorem splitK_pieces : ∀ (k : Nat) (s : Bs), s.count 10 ≤ k → Lib.splitK [10] 0 k s = pieces s
  | 0, s, h => by
    by_cases h1 : Lib.index s [10] = -1
    · rw [((pieces_index s).1 h1).1]; rfl
    · have := ((pieces_index s).2 h1).2
      omega
  | k + 1, s, h => by
    unfold Lib.splitK
    by_cases h1 : Lib.index s [10] = -1
    · rw [if_pos (by simp [h1]), ((pieces_index s).1 h1).1]
    · obtain ⟨e, e2⟩ := (pieces_index s).2 h1
      rw [if_neg (by simp [h1]), e, splitK_pieces k _ (by simp; omega)]
      simp

def parseAll : List Bs → Option (List S23)
  | [] => some []
  | l :: ls => match parseL l with
    | none => none
    | some (i, n, t) => (parseAll ls).map (⟨i, n, bs t⟩ :: ·)
def readL (s : Bs) : List S23 × Int :=
  if 200 < s.count 10 then ([], 5) else if s = [] then ([], 0) else if s.getLast? ≠ some 10 then ([], 3) else match parseAll (pieces s.dropLast) with
    | some l => (l, 0)
    | none => ([], 3)
end Go.Proofs.YtmgcpjgpmjhemaaGreatDoor.Pc

/-
code.Read's printed function is 'readL'; what is printed is read; what is read, printed, is what was read.
-/
namespace Go.Proofs.YtmgcpjgpmjhemaaGreatDoor.Pc
open Go.RowKit Go.Proofs.YtmgcpjgpmjhemaaGreatDoorW.PrintWords Go.Proofs.YtmgcpjgpmjhemaaGreatDoorW.PrintLast Go.Proofs.YtmgcpjgpmjhemaaGreatDoorW.PrintMore
open CodePure (esc Bs unesc figs)
set_option linter.unusedVariables false

theorem pieces_len (s : Bs) : (pieces s).length = s.count 10 + 1 ∧ ∀ p ∈ pieces s, p.length ≤ s.length := by
  induction s with
  | nil => exact ⟨rfl, by simp [pieces]⟩
  | cons c r ih =>
    rw [pieces_cons]
    by_cases hc : c = 10
    · rw [if_pos hc]
      refine ⟨by simp [hc, ih.1], fun p hp => ?_⟩
      rcases List.mem_cons.1 hp with rfl | hp
      · simp
      · have := ih.2 p hp; simp; omega
    · rw [if_neg hc]
      obtain ⟨p, ps, e⟩ := pieces_ne r
      rw [e] at ih ⊢
      refine ⟨by simp [hc] at ih ⊢; omega, fun q hq => ?_⟩
      rcases List.mem_cons.1 hq with rfl | hq
      · have := ih.2 p List.mem_cons_self; simp; omega
      · have := ih.2 q (List.mem_cons_of_mem _ hq); simp; omega

theorem read_run (f : Nat) (hf : 41 ≤ f) (L : List ByteArray) (hL : L.length ≤ 100000) (hS : ∀ l ∈ L, l.size ≤ 1000000) : ∀ (m i : Nat) (acc : List S23), m = L.length - i → i ≤ L.length → acc.length ≤ 1000000 - m →
    code_Read.l0 (m + f) acc L (L.length : Int) i = some (match parseAll ((L.drop i).map (·.data.toList)) with | some l => (acc ++ l, 0) | none => ([], 3)) := by
  intro m
  induction m with
  | zero =>
    intro i acc hm hi ha
    have he : i = L.length := by omega
    subst he
    obtain ⟨f', rfl⟩ : ∃ f', f = f' + 1 := ⟨f - 1, by omega⟩
    simp [code_Read.l0, parseAll]
  | succ m ih =>
    intro i acc hm hi ha
    have hlt : i < L.length := by omega
    have hd : L.drop i = L[i] :: L.drop (i + 1) := List.drop_eq_getElem_cons hlt
    have hr : rdOf ByteArray.empty L (i : Int) = L[i] := by simp [rdOf, hlt]
    have hw : wrap64 ((i : Int) + 1) = ((i + 1 : Nat) : Int) := by unfold wrap64; omega
    have hp := parse_eq (m + f) (by omega) L[i] (hS _ (List.getElem_mem hlt))
    rw [show m + 1 + f = (m + f) + 1 by omega]
    simp only [code_Read.l0]
    rw [if_pos (by omega), if_pos (by omega), if_pos (by omega), hr, hp, hd]
    simp only [Option.bind_some, List.map_cons, parseAll, parseR]
    cases hq : parseL L[i].data.toList with
    | none => simp
    | some x =>
      obtain ⟨a, b, t⟩ := x
      simp only [if_true]
      rw [if_pos (by omega), hw, ih (i + 1) _ (by omega) (by omega) (by simp; omega)]
      cases parseAll ((L.drop (i + 1)).map (·.data.toList)) with
      | none => simp
      | some l => simp

theorem suffix10 (s : Bs) : Lib.hasSuffix s [10] = decide (s.getLast? = some 10) := by
  unfold Lib.hasSuffix
  by_cases h : s.getLast? = some 10
  · rw [decide_eq_true h]
    rw [List.isSuffixOf_iff_suffix]
    obtain ⟨a, rfl⟩ := List.getLast?_eq_some_iff.1 h
    exact ⟨a, rfl⟩
  · rw [decide_eq_false h, Bool.eq_false_iff]
    intro hs
    rw [List.isSuffixOf_iff_suffix] at hs
    obtain ⟨a, rfl⟩ := hs
    exact h (by simp)

theorem countFrom10 : ∀ (fuel : Nat) (s : Bs), s.length < fuel → Lib.countFrom [10] fuel s = s.count 10
  | 0, s, h => by omega
  | fuel + 1, s, h => by
    unfold Lib.countFrom
    by_cases h1 : Lib.index s [10] = -1
    · rw [if_pos (by simp [h1]), ((pieces_index s).1 h1).2]
    · obtain ⟨_, e2⟩ := (pieces_index s).2 h1
      rw [if_neg (by simp [h1]), e2]
      have hl : 0 < s.length := by
        cases s with
        | nil => exact absurd rfl h1
        | cons c r => simp
      have := countFrom10 fuel (s.drop ((Lib.index s [10]).toNat + 1)) (by simp; omega)
      simp only [List.length_singleton]
      omega

theorem read_eq (s : ByteArray) (hs : s.size ≤ 100000) (k : Nat) (hk : s.size + 45 ≤ k) : code_Read.f k s = some (readL s.data.toList) := by
  have hlen : s.data.toList.length = s.size := by simp
  obtain ⟨l, hL⟩ : ∃ l, s.data.toList = l := ⟨_, rfl⟩
  rw [hL] at hlen
  have hc : strings_Count.f s ⟨#[10]⟩ = some ((l.count 10 : Nat) : Int) := by
    show some ((Lib.countByte s.data.toList 10 : Nat) : Int) = _
    rw [hL]; rfl
  have hcl : l.count 10 ≤ l.length := List.count_le_length
  unfold code_Read.f readL
  rw [hc, hL]
  simp only [Option.bind_some]
  by_cases h2 : 200 < l.count 10
  · rw [if_pos (by omega), if_pos h2]
  · rw [if_neg (by omega), if_neg h2]
    have he : (s.toList = ([] : List UInt8)) = (l = []) := by rw [ByteArray.toList_eq, hL]
    simp only [he]
    by_cases h3 : l = []
    · rw [if_pos h3, if_pos h3]
    · rw [if_neg h3, if_neg h3]
      have hsuf : strings_HasSuffix.f s ⟨#[10]⟩ = some (decide (l.getLast? = some 10)) := by
        unfold strings_HasSuffix.f
        rw [if_pos (by omega), hL]
        show some (Lib.hasSuffix l [10]) = _
        rw [suffix10]
      rw [hsuf]
      simp only [Option.bind_some]
      by_cases h4 : l.getLast? = some 10
      · rw [decide_eq_true h4]
        simp only [if_true]
        rw [if_neg (by simp [h4])]
        have htr : strings_TrimSuffix.f s ⟨#[10]⟩ = some (bs l.dropLast) := by
          unfold strings_TrimSuffix.f
          rw [if_pos (by omega), hL]
          show some (⟨(Lib.trimSuffix l [10]).toArray⟩ : ByteArray) = _
          unfold Lib.trimSuffix
          rw [if_pos (by rw [suffix10, decide_eq_true h4]), List.dropLast_eq_take]
          rfl
        rw [htr]
        simp only [Option.bind_some]
        have hsz : (bs l.dropLast).size = l.length - 1 := by show l.dropLast.length = _; simp
        have hsp : strings_Split.f (bs l.dropLast) ⟨#[10]⟩ = some (Lib.splitB ⟨#[10]⟩ 0 (Lib.countB (bs l.dropLast) ⟨#[10]⟩) (bs l.dropLast)) := by
          unfold strings_Split.f
          rw [if_pos ⟨by omega, by decide⟩]
        rw [hsp]
        simp only [Option.bind_some]
        obtain ⟨L, hLL⟩ : ∃ L, Lib.splitB ⟨#[10]⟩ 0 (Lib.countB (bs l.dropLast) ⟨#[10]⟩) (bs l.dropLast) = L := ⟨_, rfl⟩
        have hlenL : L.length = Lib.countB (bs l.dropLast) ⟨#[10]⟩ + 1 := by rw [← hLL]; exact Lib.splitB_all _ (by decide) 0 _ _ rfl
        have hcb : Lib.countB (bs l.dropLast) ⟨#[10]⟩ = l.dropLast.count 10 := countFrom10 _ l.dropLast (Nat.lt_succ_self _)
        have hmap : L.map (·.data.toList) = pieces l.dropLast := by
          rw [← hLL, Lib.splitB_data, hcb]
          exact splitK_pieces _ _ (Nat.le_refl _)
        have hpl := pieces_len l.dropLast
        have hLs : ∀ x ∈ L, x.size ≤ 1000000 := fun x hx => by
          have := hpl.2 x.data.toList (by rw [← hmap]; exact List.mem_map_of_mem hx)
          have h5 : x.data.toList.length = x.size := by simp
          simp at this
          omega
        have hcd : l.dropLast.count 10 ≤ l.dropLast.length := List.count_le_length
        have hrun := read_run (k - L.length) (by simp at hcd; omega) L (by simp at hcd; omega) hLs L.length 0 [] (by omega) (Nat.zero_le _) (by simp)
        rw [show L.length + (k - L.length) = k by simp at hcd; omega] at hrun
        rw [hLL]
        have hz : ((0 : Nat) : Int) = 0 := rfl
        rw [hz] at hrun
        rw [hrun, List.drop_zero, hmap]
        cases parseAll (pieces l.dropLast) <;> simp
      · rw [decide_eq_false h4]
        simp [h4]
end Go.Proofs.YtmgcpjgpmjhemaaGreatDoor.Pc

namespace Go.Proofs.YtmgcpjgpmjhemaaGreatDoor.Pc
open Go.RowKit Go.Proofs.YtmgcpjgpmjhemaaGreatDoorW.PrintWords Go.Proofs.YtmgcpjgpmjhemaaGreatDoorW.PrintLast Go.Proofs.YtmgcpjgpmjhemaaGreatDoorW.PrintMore
attribute [local go_sem] max2_int min2_int max_two min_two max_three min_three max_four min_four   -- for this text's walks alone
set_option linter.unusedVariables false
set_option linter.unusedSimpArgs false

theorem eqA23 (d : Nat) (w : World) (x0 y0 : Int) (x1 y1 : Int) (x2 y2 : ByteArray) :
    (Op.equalIn (d + 2) 23 (.agg #[.int .i64 x0, .int .i64 x1, .string x2]) (.agg #[.int .i64 y0, .int .i64 y1, .string y2])).run Tryz.prog w = .ok (x0 == y0 && (x1 == y1 && (x2.toList == y2.toList))) w := by
  refine eqA_of Tryz.underlying23 (by kernel_rfl) ?_
  refine eqf_cons (by rfl) (by go_simp; rfl) (by go_simp; rfl) (by go_simp) ?_
  refine eqf_cons (by rfl) (by go_simp; rfl) (by go_simp; rfl) (by go_simp) ?_
  exact eqf_last (by rfl) (by go_simp; rfl) (by go_simp; rfl) (by go_simp)
end Go.Proofs.YtmgcpjgpmjhemaaGreatDoor.Pc

namespace Go.Proofs.YtmgcpjgpmjhemaaGreatDoor.Pc
open Go.RowKit Go.Proofs.YtmgcpjgpmjhemaaGreatDoorW.PrintWords Go.Proofs.YtmgcpjgpmjhemaaGreatDoorW.PrintLast Go.Proofs.YtmgcpjgpmjhemaaGreatDoorW.PrintMore
attribute [local go_sem] max2_int min2_int max_two min_two max_three min_three max_four min_four   -- for this text's walks alone
set_option linter.unusedVariables false
set_option linter.unusedSimpArgs false

/-! ### threshinglaw14_small: function 21 -/
def threshinglaw14_small.l0 : Nat → List (S23) → Int → Int → Option (Bool)
  | 0, _, _, _ => none
  | k + 1, x0, x3, x4 => if x4 < (x0.length : Int) then (if 0 ≤ x4 then (threshinglaw14_small.l0 k x0 (wrap64 (x3 + (((rd_T23 x0 x4).f2).size : Int))) (wrap64 (x4 + 1))) else (none)) else (if (x0.length : Int) ≤ 250 then (some (decide (x3 ≤ 1200))) else (some false))
def threshinglaw14_small.f (k : Nat) (l0 : List (S23)) : Option (Bool) := threshinglaw14_small.l0 k l0 0 0
theorem threshinglaw14_small.mono_l : ∀ k, (∀ y0 y1 y2, LeO (threshinglaw14_small.l0 k y0 y1 y2) (threshinglaw14_small.l0 (k + 1) y0 y1 y2))
  | 0 => fun _ _ _ r h => by simp [threshinglaw14_small.l0] at h
  | k + 1 => by
    have ih0 := threshinglaw14_small.mono_l k
    · intro y0 y1 y2
      unfold threshinglaw14_small.l0
      repeat' first
      | (with_reducible exact ih0 _ _ _)
      | (with_reducible exact LeO.refl _)
      | (with_reducible exact LeO.none _)
      | (with_reducible refine LeO.ite ?_ ?_)
      | (with_reducible refine LeO.bind ?_ (fun _ => ?_))
      | exact ih0 _ _ _
      | exact LeO.none _
      | refine LeO.ite ?_ ?_
      | refine LeO.bind ?_ (fun _ => ?_)
theorem threshinglaw14_small.mono : ∀ a0 k, LeO (threshinglaw14_small.f k a0) (threshinglaw14_small.f (k + 1) a0) := by
  intro a0 k
  have ih0 := threshinglaw14_small.mono_l k
  unfold threshinglaw14_small.f
  repeat' first
      | (with_reducible exact ih0 _ _ _)
      | (with_reducible exact LeO.refl _)
      | (with_reducible exact LeO.none _)
      | (with_reducible refine LeO.ite ?_ ?_)
      | (with_reducible refine LeO.bind ?_ (fun _ => ?_))
      | exact ih0 _ _ _
      | exact LeO.none _
      | refine LeO.ite ?_ ?_
      | refine LeO.bind ?_ (fun _ => ?_)
set_option maxHeartbeats 8000000 in
set_option maxRecDepth 100000 in
theorem threshinglaw14_small.calls (k : Nat) (A0 : Option Addr) (c0 : Nat) (l0 : List (S23)) (r : Bool) (w : World) (hr0 : Kd.C k23 w A0 l0.length l0) (hc0 : l0.length ≤ c0) (h : threshinglaw14_small.f k l0 = some r) :
    Calls Tryz.prog 21 #[.slice A0 l0.length c0] w fun e w' => e = .returned (.bool r) ∧ Drawn0 w w' := by
  have HR0 := Aside0.mk hr0
  have HC0 := Aside0.mk hc0
  clear hr0 hc0
  have H : (threshinglaw14_small.l0 k l0 0 0) = some r := h
  clear h
  have H' := Aside0.mk H
  clear H
  go_enter Tryz.func21, Tryz.ntmps21
  go_wp2
  go_loopg [3, 4] k (fun kq v3 v4 w' => ∃ (x3_1 : Int) (x4_1 : Int), v3 = .int .i64 x3_1 ∧ v4 = .int .i64 x4_1 ∧ Aside0 (threshinglaw14_small.l0 kq l0 x3_1 x4_1 = some r) ∧ Aside0 (kq ≤ k) ∧ Drawn0 w w')
  case atStart => exact ⟨(0), (0), (by first | rfl | (simp; done) | (simp [*]; done)), (by first | rfl | (simp; done) | (simp [*]; done)), H', ⟨Nat.le_refl _⟩, by repeat (first | exact Drawn0.refl _ | apply Drawn0.step)⟩
  case round =>
    clear H'
    obtain ⟨x3_1, x4_1, rfl, rfl, HA, HK1, ⟨m1, rfl⟩⟩ := hrel
    cases gk with
    | zero => exact absurd HA.out (by simp [threshinglaw14_small.l0])
    | succ k1 =>
      have H := HA.out
      clear HA
      simp only [threshinglaw14_small.l0] at H
      by_cases c2 : x4_1 < (l0.length : Int)
      · rw [if_pos c2] at H
        have c2b0 : decide (x4_1 < (l0.length : Int)) = true := decide_eq_true c2
        clear c2
        by_cases c3 : 0 ≤ x4_1
        · rw [if_pos c3] at H
          have c3b0 : decide (0 ≤ x4_1) = true := decide_eq_true c3
          clear c3
          have H' := Aside0.mk H
          clear H
          have p166 : 0 ≤ (x4_1 : Int) := of_decide_eq_true (by first | (with_reducible assumption) | assumption)
          have q166 : x4_1 < (l0.length : Int) := of_decide_eq_true (by first | (with_reducible assumption) | assumption)
          obtain ⟨ad166, e166, hx166_0, hx166_1, hx166_2⟩ := at_T23 HR0.out x4_1 p166 q166
          cases e166
          replace p166 := eq_true p166
          replace q166 := eq_true q166
          go_wp2
          go_roundg k1
          case measure => have := HK1.out; omega
          case rel => exact ⟨(wrap64 (x3_1 + (((rd_T23 l0 x4_1).f2).size : Int))), (wrap64 (x4_1 + 1)), (by first | rfl | (simp; done) | (simp [*]; done)), (by first | rfl | (simp; done) | (simp [*]; done)), H', ⟨by have := HK1.out; omega⟩, by repeat (first | exact Drawn0.refl _ | apply Drawn0.step)⟩
        · rw [if_neg c3] at H
          exact absurd H (by simp)
      · rw [if_neg c2] at H
        have c2b0 : decide (x4_1 < (l0.length : Int)) = false := decide_eq_false c2
        clear c2
        by_cases c4 : (l0.length : Int) ≤ 250
        · rw [if_pos c4] at H
          have c4b0 : decide ((l0.length : Int) ≤ 250) = true := decide_eq_true c4
          have c4b1 : decide (l0.length ≤ 250) = true := decide_eq_true (by omega)
          clear c4
          obtain rfl := Option.some.inj H
          go_wp2
          go_ret
          exact ⟨by first | rfl | (simp; done) | (simp [*]; done), by repeat (first | exact Drawn0.refl _ | apply Drawn0.step)⟩
        · rw [if_neg c4] at H
          have c4b0 : decide ((l0.length : Int) ≤ 250) = false := decide_eq_false c4
          have c4b1 : decide (l0.length ≤ 250) = false := decide_eq_false (by omega)
          clear c4
          obtain rfl := Option.some.inj H
          go_wp2
          go_ret
          exact ⟨by first | rfl | (simp; done) | (simp [*]; done), by repeat (first | exact Drawn0.refl _ | apply Drawn0.step)⟩

end Go.Proofs.YtmgcpjgpmjhemaaGreatDoor.Pc

namespace Go.Proofs.YtmgcpjgpmjhemaaGreatDoor.Pc
open Go.RowKit Go.Proofs.YtmgcpjgpmjhemaaGreatDoorW.PrintWords Go.Proofs.YtmgcpjgpmjhemaaGreatDoorW.PrintLast Go.Proofs.YtmgcpjgpmjhemaaGreatDoorW.PrintMore
attribute [local go_sem] max2_int min2_int max_two min_two max_three min_three max_four min_four   -- for this text's walks alone
set_option linter.unusedVariables false
set_option linter.unusedSimpArgs false

attribute [local go_sem high] eqA23
/-! ### threshingref14_Same: function 26 -/
def threshingref14_Same.l0 : Nat → List (S23) → List (S23) → Int → Option (Bool)
  | 0, _, _, _ => none
  | k + 1, x0, x1, x5 => if x5 < (x0.length : Int) then (if 0 ≤ x5 then (if x5 < (x1.length : Int) then (if (!(((rd_T23 x0 x5).f0) == ((rd_T23 x1 x5).f0)) || (!(((rd_T23 x0 x5).f1) == ((rd_T23 x1 x5).f1)) || (!((((rd_T23 x0 x5).f2).toList) == (((rd_T23 x1 x5).f2).toList))))) = true then (some false) else (threshingref14_Same.l0 k x0 x1 (wrap64 (x5 + 1)))) else (none)) else (none)) else (some true)
def threshingref14_Same.f (k : Nat) (l0 : List (S23)) (l1 : List (S23)) : Option (Bool) := if (l0.length : Int) = (l1.length : Int) then (threshingref14_Same.l0 k l0 l1 0) else (some false)
set_option maxHeartbeats 8000000 in
set_option maxRecDepth 100000 in
theorem threshingref14_Same.calls (k : Nat) (A0 : Option Addr) (c0 : Nat) (l0 : List (S23)) (A1 : Option Addr) (c1 : Nat) (l1 : List (S23)) (r : Bool) (w : World) (hr0 : Kd.C k23 w A0 l0.length l0) (hc0 : l0.length ≤ c0) (hr1 : Kd.C k23 w A1 l1.length l1) (hc1 : l1.length ≤ c1) (h : threshingref14_Same.f k l0 l1 = some r) :
    Calls Tryz.prog 26 #[.slice A0 l0.length c0, .slice A1 l1.length c1] w fun e w' => e = .returned (.bool r) ∧ Drawn0 w w' := by
  have hu23 := Tryz.underlying23
  have HR0 := Aside0.mk hr0
  have HC0 := Aside0.mk hc0
  clear hr0 hc0
  have HR1 := Aside0.mk hr1
  have HC1 := Aside0.mk hc1
  clear hr1 hc1
  have H : (if (l0.length : Int) = (l1.length : Int) then (threshingref14_Same.l0 k l0 l1 0) else (some false)) = some r := h
  clear h
  by_cases c3 : (l0.length : Int) = (l1.length : Int)
  · rw [if_pos c3] at H
    have c3b0 : ((l0.length : Int) == (l1.length : Int)) = true := beq_iff_eq.mpr c3
    have c3b1 : ((l0.length : Int) != (l1.length : Int)) = false := bne_eq_false_iff_eq.mpr c3
    have c3b2 : (l0.length == l1.length) = true := by first | simpa using c3 | (simp at c3 ⊢; omega)
    clear c3
    have H' := Aside0.mk H
    clear H
    go_enter Tryz.func26, Tryz.ntmps26
    go_wp2
    repeat (go_quiet (fail); try go_wp2)
    go_loopg [5] k (fun kq v5 w' => ∃ (x5_1 : Int), v5 = .int .i64 x5_1 ∧ Aside0 (threshingref14_Same.l0 kq l0 l1 x5_1 = some r) ∧ Aside0 (kq ≤ k) ∧ Drawn0 w w')
    case atStart => exact ⟨(0), (by first | rfl | (simp; done) | (simp [*]; done)), H', ⟨Nat.le_refl _⟩, by repeat (first | exact Drawn0.refl _ | apply Drawn0.step)⟩
    case round =>
      clear H'
      try clear c1
      try clear c2
      try clear p2
      try clear c3
      try clear c3b0
      try clear c3b1
      try clear c3b2
      obtain ⟨x5_1, rfl, HA, HK1, ⟨m1, rfl⟩⟩ := hrel
      cases gk with
      | zero => exact absurd HA.out (by simp [threshingref14_Same.l0])
      | succ k1 =>
        have H := HA.out
        clear HA
        simp only [threshingref14_Same.l0] at H
        by_cases c4 : x5_1 < (l0.length : Int)
        · rw [if_pos c4] at H
          have c4b0 : decide (x5_1 < (l0.length : Int)) = true := decide_eq_true c4
          clear c4
          by_cases c5 : 0 ≤ x5_1
          · rw [if_pos c5] at H
            have c5b0 : decide (0 ≤ x5_1) = true := decide_eq_true c5
            clear c5
            by_cases c6 : x5_1 < (l1.length : Int)
            · rw [if_pos c6] at H
              have c6b0 : decide (x5_1 < (l1.length : Int)) = true := decide_eq_true c6
              clear c6
              by_cases c7 : (!(((rd_T23 l0 x5_1).f0) == ((rd_T23 l1 x5_1).f0)) || (!(((rd_T23 l0 x5_1).f1) == ((rd_T23 l1 x5_1).f1)) || (!((((rd_T23 l0 x5_1).f2).toList) == (((rd_T23 l1 x5_1).f2).toList))))) = true
              · rw [if_pos c7] at H
                have c7b0 : (!(((rd_T23 l0 x5_1).f0) == ((rd_T23 l1 x5_1).f0)) || (!(((rd_T23 l0 x5_1).f1) == ((rd_T23 l1 x5_1).f1)) || (!((((rd_T23 l0 x5_1).f2).toList) == (((rd_T23 l1 x5_1).f2).toList))))) = true := c7
                clear c7
                obtain rfl := Option.some.inj H
                have p257 : 0 ≤ (x5_1 : Int) := of_decide_eq_true (by first | (with_reducible assumption) | assumption)
                have q257 : x5_1 < (l0.length : Int) := of_decide_eq_true (by first | (with_reducible assumption) | assumption)
                obtain ⟨ad257, e257, hx257_0, hx257_1, hx257_2⟩ := at_T23 HR0.out x5_1 p257 q257
                cases e257
                replace p257 := eq_true p257
                replace q257 := eq_true q257
                have p258 : 0 ≤ (x5_1 : Int) := of_decide_eq_true (by first | (with_reducible assumption) | assumption)
                have q258 : x5_1 < (l1.length : Int) := of_decide_eq_true (by first | (with_reducible assumption) | assumption)
                obtain ⟨ad258, e258, hx258_0, hx258_1, hx258_2⟩ := at_T23 HR1.out x5_1 p258 q258
                cases e258
                replace p258 := eq_true p258
                replace q258 := eq_true q258
                go_wp2
                repeat (go_quiet (fail); try go_wp2)
                go_ret
                exact ⟨by first | rfl | (simp; done) | (simp [*]; done), by repeat (first | exact Drawn0.refl _ | apply Drawn0.step)⟩
              · rw [if_neg c7] at H
                have c7b0 : (!(((rd_T23 l0 x5_1).f0) == ((rd_T23 l1 x5_1).f0)) || (!(((rd_T23 l0 x5_1).f1) == ((rd_T23 l1 x5_1).f1)) || (!((((rd_T23 l0 x5_1).f2).toList) == (((rd_T23 l1 x5_1).f2).toList))))) = false := by simpa using c7
                clear c7
                have H' := Aside0.mk H
                clear H
                have p257 : 0 ≤ (x5_1 : Int) := of_decide_eq_true (by first | (with_reducible assumption) | assumption)
                have q257 : x5_1 < (l0.length : Int) := of_decide_eq_true (by first | (with_reducible assumption) | assumption)
                obtain ⟨ad257, e257, hx257_0, hx257_1, hx257_2⟩ := at_T23 HR0.out x5_1 p257 q257
                cases e257
                replace p257 := eq_true p257
                replace q257 := eq_true q257
                have p258 : 0 ≤ (x5_1 : Int) := of_decide_eq_true (by first | (with_reducible assumption) | assumption)
                have q258 : x5_1 < (l1.length : Int) := of_decide_eq_true (by first | (with_reducible assumption) | assumption)
                obtain ⟨ad258, e258, hx258_0, hx258_1, hx258_2⟩ := at_T23 HR1.out x5_1 p258 q258
                cases e258
                replace p258 := eq_true p258
                replace q258 := eq_true q258
                go_wp2
                repeat (go_quiet (fail); try go_wp2)
                go_roundg k1
                case measure => have := HK1.out; omega
                case rel => exact ⟨(wrap64 (x5_1 + 1)), (by first | rfl | (simp; done) | (simp [*]; done)), H', ⟨by have := HK1.out; omega⟩, by repeat (first | exact Drawn0.refl _ | apply Drawn0.step)⟩
            · rw [if_neg c6] at H
              exact absurd H (by simp)
          · rw [if_neg c5] at H
            exact absurd H (by simp)
        · rw [if_neg c4] at H
          have c4b0 : decide (x5_1 < (l0.length : Int)) = false := decide_eq_false c4
          clear c4
          obtain rfl := Option.some.inj H
          go_wp2
          repeat (go_quiet (fail); try go_wp2)
          go_ret
          exact ⟨by first | rfl | (simp; done) | (simp [*]; done), by repeat (first | exact Drawn0.refl _ | apply Drawn0.step)⟩
  · rw [if_neg c3] at H
    have c3b0 : ((l0.length : Int) == (l1.length : Int)) = false := beq_eq_false_iff_ne.mpr c3
    have c3b1 : ((l0.length : Int) != (l1.length : Int)) = true := bne_iff_ne.mpr c3
    have c3b2 : (l0.length == l1.length) = false := by first | simpa using c3 | (simp at c3 ⊢; omega)
    obtain rfl := Option.some.inj H
    go_enter Tryz.func26, Tryz.ntmps26
    go_wp2
    repeat (go_quiet (fail); try go_wp2)
    go_ret
    exact ⟨by first | rfl | (simp; done) | (simp [*]; done), by repeat (first | exact Drawn0.refl _ | apply Drawn0.step)⟩

/-! ### api_Ins: function 64 -/
def api_Ins.l0 : Nat → List (S23) → List (S23) → Int → Int → Option (Bool)
  | 0, _, _, _, _ => none
  | k + 1, x0, x1, x12, x13 => if x13 < x12 then (if 0 ≤ x13 then (if x13 < (x0.length : Int) then (if x13 < (x1.length : Int) then (if (!(((rd_T23 x0 x13).f0) == ((rd_T23 x1 x13).f0)) || (!(((rd_T23 x0 x13).f1) == ((rd_T23 x1 x13).f1)) || (!((((rd_T23 x0 x13).f2).toList) == (((rd_T23 x1 x13).f2).toList))))) = true then (some false) else (api_Ins.l0 k x0 x1 x12 (wrap64 (x13 + 1)))) else (none)) else (none)) else (none)) else (some true)
def api_Ins.f (k : Nat) (l0 : List (S23)) (l1 : List (S23)) : Option (Bool) := if (l0.length : Int) = (l1.length : Int) then (api_Ins.l0 k l0 l1 (l0.length : Int) 0) else (some false)
theorem api_Ins.mono_l : ∀ k, (∀ y0 y1 y2 y3, LeO (api_Ins.l0 k y0 y1 y2 y3) (api_Ins.l0 (k + 1) y0 y1 y2 y3))
  | 0 => fun _ _ _ _ r h => by simp [api_Ins.l0] at h
  | k + 1 => by
    have ih0 := api_Ins.mono_l k
    · intro y0 y1 y2 y3
      unfold api_Ins.l0
      repeat' first
      | (with_reducible exact ih0 _ _ _ _)
      | (with_reducible exact LeO.refl _)
      | (with_reducible exact LeO.none _)
      | (with_reducible refine LeO.ite ?_ ?_)
      | (with_reducible refine LeO.bind ?_ (fun _ => ?_))
      | exact ih0 _ _ _ _
      | exact LeO.none _
      | refine LeO.ite ?_ ?_
      | refine LeO.bind ?_ (fun _ => ?_)
theorem api_Ins.mono : ∀ a0 a1 k, LeO (api_Ins.f k a0 a1) (api_Ins.f (k + 1) a0 a1) := by
  intro a0 a1 k
  have ih0 := api_Ins.mono_l k
  unfold api_Ins.f
  repeat' first
      | (with_reducible exact ih0 _ _ _ _)
      | (with_reducible exact LeO.refl _)
      | (with_reducible exact LeO.none _)
      | (with_reducible refine LeO.ite ?_ ?_)
      | (with_reducible refine LeO.bind ?_ (fun _ => ?_))
      | exact ih0 _ _ _ _
      | exact LeO.none _
      | refine LeO.ite ?_ ?_
      | refine LeO.bind ?_ (fun _ => ?_)
set_option maxHeartbeats 8000000 in
set_option maxRecDepth 100000 in
theorem api_Ins.calls (k : Nat) (A0 : Option Addr) (c0 : Nat) (l0 : List (S23)) (A1 : Option Addr) (c1 : Nat) (l1 : List (S23)) (r : Bool) (w : World) (hr0 : Kd.C k23 w A0 l0.length l0) (hc0 : l0.length ≤ c0) (hr1 : Kd.C k23 w A1 l1.length l1) (hc1 : l1.length ≤ c1) (h : api_Ins.f k l0 l1 = some r) :
    Calls Tryz.prog 64 #[.slice A0 l0.length c0, .slice A1 l1.length c1] w fun e w' => e = .returned (.bool r) ∧ Drawn0 w w' := by
  have hu23 := Tryz.underlying23
  have HR0 := Aside0.mk hr0
  have HC0 := Aside0.mk hc0
  clear hr0 hc0
  have HR1 := Aside0.mk hr1
  have HC1 := Aside0.mk hc1
  clear hr1 hc1
  have H : (if (l0.length : Int) = (l1.length : Int) then (api_Ins.l0 k l0 l1 (l0.length : Int) 0) else (some false)) = some r := h
  clear h
  by_cases c3 : (l0.length : Int) = (l1.length : Int)
  · rw [if_pos c3] at H
    have c3b0 : ((l0.length : Int) == (l1.length : Int)) = true := beq_iff_eq.mpr c3
    have c3b1 : ((l0.length : Int) != (l1.length : Int)) = false := bne_eq_false_iff_eq.mpr c3
    have c3b2 : (l0.length == l1.length) = true := by first | simpa using c3 | (simp at c3 ⊢; omega)
    clear c3
    have H' := Aside0.mk H
    clear H
    go_enter Tryz.func64, Tryz.ntmps64
    go_wp2
    repeat (go_quiet (fail); try go_wp2)
    go_loopg [13] k (fun kq v13 w' => ∃ (x13_1 : Int), v13 = .int .i64 x13_1 ∧ Aside0 (api_Ins.l0 kq l0 l1 (l0.length : Int) x13_1 = some r) ∧ Aside0 (kq ≤ k) ∧ Drawn0 w w')
    case atStart => exact ⟨(0), (by first | rfl | (simp; done) | (simp [*]; done)), H', ⟨Nat.le_refl _⟩, by repeat (first | exact Drawn0.refl _ | apply Drawn0.step)⟩
    case round =>
      clear H'
      try clear c1
      try clear p2
      try clear c3
      try clear c3b0
      try clear c3b1
      try clear c3b2
      obtain ⟨x13_1, rfl, HA, HK1, ⟨m1, rfl⟩⟩ := hrel
      cases gk with
      | zero => exact absurd HA.out (by simp [api_Ins.l0])
      | succ k1 =>
        have H := HA.out
        clear HA
        simp only [api_Ins.l0] at H
        by_cases c4 : x13_1 < (l0.length : Int)
        · rw [if_pos c4] at H
          have c4b0 : decide (x13_1 < (l0.length : Int)) = true := decide_eq_true c4
          clear c4
          by_cases c5 : 0 ≤ x13_1
          · rw [if_pos c5] at H
            have c5b0 : decide (0 ≤ x13_1) = true := decide_eq_true c5
            clear c5
            by_cases c6 : x13_1 < (l0.length : Int)
            · rw [if_pos c6] at H
              have c6b0 : decide (x13_1 < (l0.length : Int)) = true := decide_eq_true c6
              clear c6
              by_cases c7 : x13_1 < (l1.length : Int)
              · rw [if_pos c7] at H
                have c7b0 : decide (x13_1 < (l1.length : Int)) = true := decide_eq_true c7
                clear c7
                by_cases c8 : (!(((rd_T23 l0 x13_1).f0) == ((rd_T23 l1 x13_1).f0)) || (!(((rd_T23 l0 x13_1).f1) == ((rd_T23 l1 x13_1).f1)) || (!((((rd_T23 l0 x13_1).f2).toList) == (((rd_T23 l1 x13_1).f2).toList))))) = true
                · rw [if_pos c8] at H
                  have c8b0 : (!(((rd_T23 l0 x13_1).f0) == ((rd_T23 l1 x13_1).f0)) || (!(((rd_T23 l0 x13_1).f1) == ((rd_T23 l1 x13_1).f1)) || (!((((rd_T23 l0 x13_1).f2).toList) == (((rd_T23 l1 x13_1).f2).toList))))) = true := c8
                  clear c8
                  obtain rfl := Option.some.inj H
                  have p259 : 0 ≤ (x13_1 : Int) := of_decide_eq_true (by first | (with_reducible assumption) | assumption)
                  have q259 : x13_1 < (l0.length : Int) := of_decide_eq_true (by first | (with_reducible assumption) | assumption)
                  obtain ⟨ad259, e259, hx259_0, hx259_1, hx259_2⟩ := at_T23 HR0.out x13_1 p259 q259
                  cases e259
                  replace p259 := eq_true p259
                  replace q259 := eq_true q259
                  have p260 : 0 ≤ (x13_1 : Int) := of_decide_eq_true (by first | (with_reducible assumption) | assumption)
                  have q260 : x13_1 < (l1.length : Int) := of_decide_eq_true (by first | (with_reducible assumption) | assumption)
                  obtain ⟨ad260, e260, hx260_0, hx260_1, hx260_2⟩ := at_T23 HR1.out x13_1 p260 q260
                  cases e260
                  replace p260 := eq_true p260
                  replace q260 := eq_true q260
                  go_wp2
                  repeat (go_quiet (fail); try go_wp2)
                  go_ret
                  exact ⟨by first | rfl | (simp; done) | (simp [*]; done), by repeat (first | exact Drawn0.refl _ | apply Drawn0.step)⟩
                · rw [if_neg c8] at H
                  have c8b0 : (!(((rd_T23 l0 x13_1).f0) == ((rd_T23 l1 x13_1).f0)) || (!(((rd_T23 l0 x13_1).f1) == ((rd_T23 l1 x13_1).f1)) || (!((((rd_T23 l0 x13_1).f2).toList) == (((rd_T23 l1 x13_1).f2).toList))))) = false := by simpa using c8
                  clear c8
                  have H' := Aside0.mk H
                  clear H
                  have p259 : 0 ≤ (x13_1 : Int) := of_decide_eq_true (by first | (with_reducible assumption) | assumption)
                  have q259 : x13_1 < (l0.length : Int) := of_decide_eq_true (by first | (with_reducible assumption) | assumption)
                  obtain ⟨ad259, e259, hx259_0, hx259_1, hx259_2⟩ := at_T23 HR0.out x13_1 p259 q259
                  cases e259
                  replace p259 := eq_true p259
                  replace q259 := eq_true q259
                  have p260 : 0 ≤ (x13_1 : Int) := of_decide_eq_true (by first | (with_reducible assumption) | assumption)
                  have q260 : x13_1 < (l1.length : Int) := of_decide_eq_true (by first | (with_reducible assumption) | assumption)
                  obtain ⟨ad260, e260, hx260_0, hx260_1, hx260_2⟩ := at_T23 HR1.out x13_1 p260 q260
                  cases e260
                  replace p260 := eq_true p260
                  replace q260 := eq_true q260
                  go_wp2
                  repeat (go_quiet (fail); try go_wp2)
                  go_roundg k1
                  case measure => have := HK1.out; omega
                  case rel => exact ⟨(wrap64 (x13_1 + 1)), (by first | rfl | (simp; done) | (simp [*]; done)), H', ⟨by have := HK1.out; omega⟩, by repeat (first | exact Drawn0.refl _ | apply Drawn0.step)⟩
              · rw [if_neg c7] at H
                exact absurd H (by simp)
            · rw [if_neg c6] at H
              exact absurd H (by simp)
          · rw [if_neg c5] at H
            exact absurd H (by simp)
        · rw [if_neg c4] at H
          have c4b0 : decide (x13_1 < (l0.length : Int)) = false := decide_eq_false c4
          clear c4
          obtain rfl := Option.some.inj H
          go_wp2
          repeat (go_quiet (fail); try go_wp2)
          go_ret
          exact ⟨by first | rfl | (simp; done) | (simp [*]; done), by repeat (first | exact Drawn0.refl _ | apply Drawn0.step)⟩
  · rw [if_neg c3] at H
    have c3b0 : ((l0.length : Int) == (l1.length : Int)) = false := beq_eq_false_iff_ne.mpr c3
    have c3b1 : ((l0.length : Int) != (l1.length : Int)) = true := bne_iff_ne.mpr c3
    have c3b2 : (l0.length == l1.length) = false := by first | simpa using c3 | (simp at c3 ⊢; omega)
    obtain rfl := Option.some.inj H
    go_enter Tryz.func64, Tryz.ntmps64
    go_wp2
    repeat (go_quiet (fail); try go_wp2)
    go_ret
    exact ⟨by first | rfl | (simp; done) | (simp [*]; done), by repeat (first | exact Drawn0.refl _ | apply Drawn0.step)⟩

/-! ### code_Same: function 27 -/
def code_Same.f (k : Nat) (l0 : List (S23)) (l1 : List (S23)) : Option (Bool) := (api_Ins.f k l0 l1).bind fun t261 => (some t261)
theorem code_Same.mono : ∀ a0 a1 k, LeO (code_Same.f k a0 a1) (code_Same.f (k + 1) a0 a1) := by
  intro a0 a1 k
  unfold code_Same.f
  repeat' first
      | (with_reducible exact api_Ins.mono _ _ _)
      | (with_reducible exact LeO.refl _)
      | (with_reducible exact LeO.none _)
      | (with_reducible refine LeO.ite ?_ ?_)
      | (with_reducible refine LeO.bind ?_ (fun _ => ?_))
      | exact api_Ins.mono _ _ _
      | exact LeO.none _
      | refine LeO.ite ?_ ?_
      | refine LeO.bind ?_ (fun _ => ?_)
set_option maxHeartbeats 8000000 in
set_option maxRecDepth 100000 in
theorem code_Same.calls (k : Nat) (A0 : Option Addr) (c0 : Nat) (l0 : List (S23)) (A1 : Option Addr) (c1 : Nat) (l1 : List (S23)) (r : Bool) (w : World) (hr0 : Kd.C k23 w A0 l0.length l0) (hc0 : l0.length ≤ c0) (hr1 : Kd.C k23 w A1 l1.length l1) (hc1 : l1.length ≤ c1) (h : code_Same.f k l0 l1 = some r) :
    Calls Tryz.prog 27 #[.slice A0 l0.length c0, .slice A1 l1.length c1] w fun e w' => e = .returned (.bool r) ∧ Drawn0 w w' := by
  have HR0 := Aside0.mk hr0
  have HC0 := Aside0.mk hc0
  clear hr0 hc0
  have HR1 := Aside0.mk hr1
  have HC1 := Aside0.mk hc1
  clear hr1 hc1
  have H : ((api_Ins.f k l0 l1).bind fun t261 => (some t261)) = some r := h
  clear h
  replace H := Option.bind_eq_some_iff.mp H
  obtain ⟨t261, A30, H⟩ := H
  (try dsimp only at H)
  have A3 := Aside0.mk A30
  clear A30
  obtain rfl := Option.some.inj H
  go_enter Tryz.func27, Tryz.ntmps27
  go_wp2_with (first | ((with_reducible refine gate_callee (f := 64) rfl ?_); refine goesL_ (some 7) rfl rfl Tryz.func64 (by kernel_rfl) rfl #[.slice A0 l0.length c0, .slice A1 l1.length c1] rfl (by (try simp only [List.map_toArray, List.map_cons, List.map_nil]); first | done | rfl | (simp only [List.length_drop, List.length_take]; rfl)) ?_; (with_reducible refine (api_Ins.calls k _ _ l0 _ _ l1 t261 _ ?side1 ?side2 ?side3 ?side4 A3.out).mono ?_); (case side1 => repeat (first | exact HR0.out | (with_reducible refine Kd.C_alloc ?_ _) | (with_reducible refine Kd.C_drewN ?_ _) | (with_reducible refine Kd.C_drew ?_))); (case side2 => exact HC0.out); (case side3 => repeat (first | exact HR1.out | (with_reducible refine Kd.C_alloc ?_ _) | (with_reducible refine Kd.C_drewN ?_ _) | (with_reducible refine Kd.C_drew ?_))); (case side4 => exact HC1.out); rintro e w' ⟨rfl, ⟨nd, rfl⟩⟩; refine ⟨_, rfl, ?_⟩))
  go_ret
  exact ⟨by first | rfl | (simp; done) | (simp [*]; done), by repeat (first | exact Drawn0.refl _ | apply Drawn0.step)⟩

end Go.Proofs.YtmgcpjgpmjhemaaGreatDoor.Pc

/-
What is printed is read; what is read, printed, is what was read; 'Same' of a program and itself.
-/
namespace Go.Proofs.YtmgcpjgpmjhemaaGreatDoor.Pc
open Go.RowKit Go.Proofs.YtmgcpjgpmjhemaaGreatDoorW.PrintWords Go.Proofs.YtmgcpjgpmjhemaaGreatDoorW.PrintLast Go.Proofs.YtmgcpjgpmjhemaaGreatDoorW.PrintMore
open CodePure (esc Bs unesc figs)
set_option linter.unusedVariables false

theorem linesL_cons (x : S23) (l : List S23) : linesL (x :: l) = lineS x ++ 10 :: linesL l := by simp [linesL]
theorem lineS_no (x : S23) (h : mayS x = true) : ∀ c ∈ lineS x, c ≠ 10 := line_no10 _ _ _ (mayB_op h)
theorem linesL_last (x : S23) (l : List S23) : (linesL (x :: l)).getLast? = some 10 := by
  induction l generalizing x with
  | nil => simp [linesL]
  | cons y l ih =>
    rw [linesL_cons, List.getLast?_append, List.getLast?_cons_of_ne_nil (by rw [linesL_cons]; simp), ih y]
    rfl
theorem linesL_count (l : List S23) (h : l.all mayS = true) : (linesL l).count 10 = l.length := by
  induction l with
  | nil => rfl
  | cons x l ih =>
    simp only [List.all_cons, Bool.and_eq_true] at h
    have h0 : (lineS x).count 10 = 0 := List.count_eq_zero.2 fun hc => lineS_no x h.1 10 hc rfl
    rw [linesL_cons, List.count_append, h0, List.count_cons, ih h.2]
    simp
theorem linesL_pieces (x : S23) (l : List S23) (h : (x :: l).all mayS = true) : pieces (linesL (x :: l)).dropLast = (x :: l).map lineS := by
  induction l generalizing x with
  | nil =>
    simp only [List.all_cons, Bool.and_eq_true] at h
    have e : (linesL [x]).dropLast = lineS x := by simp [linesL]
    rw [e, pieces_no _ (lineS_no x h.1)]
    rfl
  | cons y l ih =>
    simp only [List.all_cons, Bool.and_eq_true] at h
    have hne : linesL (y :: l) ≠ [] := by rw [linesL_cons]; simp
    have e : (linesL (x :: y :: l)).dropLast = lineS x ++ 10 :: (linesL (y :: l)).dropLast := by
      rw [linesL_cons, List.dropLast_append_of_ne_nil (by simp), List.dropLast_cons_of_ne_nil hne]
    rw [e, pieces_app _ _ (lineS_no x h.1), ih y (by simp only [List.all_cons, Bool.and_eq_true]; exact h.2)]
    rfl
theorem bs_back (b : ByteArray) : bs b.data.toList = b := by
  cases b with
  | mk d => simp [bs]
theorem parseAll_lines (l : List S23) (h : l.all mayS = true) (hw : ∀ x ∈ l, okS x) : parseAll (l.map lineS) = some l := by
  induction l with
  | nil => rfl
  | cons x l ih =>
    simp only [List.all_cons, Bool.and_eq_true] at h
    have hp := parse_line x.f0 x.f1 x.f2.data.toList (hw x List.mem_cons_self).2.1 h.1
    simp only [List.map_cons, parseAll]
    rw [show lineS x = lineL x.f0 x.f1 x.f2.data.toList from rfl, hp]
    simp only
    rw [ih h.2 (fun y hy => hw y (List.mem_cons_of_mem _ hy)), bs_back]
    rfl
theorem read_print (l : List S23) (h : l.all mayS = true) (hw : ∀ x ∈ l, okS x) (hl : l.length ≤ 200) : readL (linesL l) = (l, 0) := by
  unfold readL
  rw [linesL_count l h, if_neg (by omega)]
  cases l with
  | nil => rfl
  | cons x l =>
    have hne : linesL (x :: l) ≠ [] := by rw [linesL_cons]; simp
    rw [if_neg hne, linesL_last, if_neg (by simp), linesL_pieces x l h, parseAll_lines _ h hw]

theorem pieces_join (s : Bs) : (pieces s).flatMap (· ++ [10]) = s ++ [10] := by
  induction s with
  | nil => rfl
  | cons c r ih =>
    rw [pieces_cons]
    by_cases hc : c = 10
    · subst hc
      rw [if_pos rfl, List.flatMap_cons, ih]
      rfl
    · rw [if_neg hc]
      obtain ⟨p, ps, e⟩ := pieces_ne r
      rw [e] at ih ⊢
      simp only [List.flatMap_cons] at ih ⊢
      rw [List.cons_append, List.cons_append, ih]
      rfl
theorem parseAll_back : ∀ (ls : List Bs) (q : List S23), parseAll ls = some q → q.map lineS = ls ∧ q.all mayS = true ∧ ∀ x ∈ q, okS x
  | [], q, h => by
    obtain rfl := Option.some.inj h
    exact ⟨rfl, rfl, by simp⟩
  | l :: ls, q, h => by
    unfold parseAll at h
    cases hp : parseL l with
    | none => rw [hp] at h; cases h
    | some x =>
      obtain ⟨i, n, t⟩ := x
      rw [hp] at h
      simp only [Option.map_eq_some_iff] at h
      obtain ⟨q', hq', rfl⟩ := h
      obtain ⟨h1, h2, h3⟩ := parseAll_back ls q' hq'
      obtain ⟨m1, m2, m3⟩ := line_parse hp
      obtain ⟨hop, p0, p2, p1, pe⟩ := may_parts m1
      refine ⟨?_, ?_, ?_⟩
      · rw [List.map_cons, h1]
        congr 1
      · rw [List.all_cons, h2]
        show (mayB i n t && true) = true
        rw [m1]; rfl
      · intro x hx
        rcases List.mem_cons.1 hx with rfl | hx
        · refine ⟨⟨by show _ ≤ i; omega, by show i ≤ _; omega⟩, m3, ?_⟩
          show t.length ≤ 100000
          by_cases e1 : i = 1
          · have := (p1 e1).2; omega
          · have : t = [] := by
              by_cases e0 : i = 0
              · exact p0 e0
              · by_cases e2 : i = 2
                · exact (p2 e2).2.2
                · exact (pe e0 e1 e2).2
            simp [this]
        · exact h3 x hx
theorem print_read {s : Bs} {q : List S23} (h : readL s = (q, 0)) : q.all mayS = true ∧ (∀ x ∈ q, okS x) ∧ q.length ≤ 200 ∧ linesL q = s := by
  unfold readL at h
  split at h
  · cases h
  · rename_i h2
    split at h
    · rename_i h3
      obtain rfl := (Prod.mk.inj h).1
      exact ⟨rfl, by simp, by simp, by rw [h3]; rfl⟩
    · split at h
      · cases h
      · rename_i h3 h4
        have h4' : s.getLast? = some 10 := Decidable.not_not.1 h4
        split at h
        · rename_i l hp
          obtain rfl := (Prod.mk.inj h).1
          obtain ⟨h5, h6, h7⟩ := parseAll_back _ _ hp
          obtain ⟨a, rfl⟩ := List.getLast?_eq_some_iff.1 h4'
          simp only [List.dropLast_concat] at hp h5
          refine ⟨h6, h7, ?_, ?_⟩
          · have := congrArg List.length h5
            rw [List.length_map, (pieces_len a).1] at this
            have hc : (a ++ [10]).count 10 = a.count 10 + 1 := by simp
            omega
          · rw [← pieces_join a, ← h5]
            simp [linesL, List.flatMap_map]
        · cases h

theorem same_run (l : List S23) (hl : l.length ≤ 1000000) : ∀ (m i : Nat), m = l.length - i → i ≤ l.length → ∀ f, 1 ≤ f → api_Ins.l0 (m + f) l l (l.length : Int) i = some true := by
  intro m
  induction m with
  | zero =>
    intro i hm hi f hf
    obtain ⟨f', rfl⟩ : ∃ f', f = f' + 1 := ⟨f - 1, by omega⟩
    have he : i = l.length := by omega
    subst he
    simp [api_Ins.l0]
  | succ m ih =>
    intro i hm hi f hf
    have hlt : i < l.length := by omega
    have hw : wrap64 ((i : Int) + 1) = ((i + 1 : Nat) : Int) := by unfold wrap64; omega
    rw [show m + 1 + f = (m + f) + 1 by omega]
    simp only [api_Ins.l0]
    rw [if_pos (by omega), if_pos (by omega), if_pos (by omega), if_pos (by omega), if_neg (by simp), hw]
    exact ih (i + 1) (by omega) (by omega) f hf
theorem same_self (l : List S23) (hl : l.length ≤ 1000000) (k : Nat) (hk : l.length + 1 ≤ k) : code_Same.f k l l = some true := by
  unfold code_Same.f api_Ins.f
  rw [if_pos rfl]
  have := same_run l hl l.length 0 (by omega) (Nat.zero_le _) (k - l.length) (by omega)
  rw [show l.length + (k - l.length) = k by omega] at this
  rw [show ((0 : Nat) : Int) = 0 from rfl] at this
  rw [this]
  rfl
theorem refSame_run (l : List S23) (hl : l.length ≤ 1000000) : ∀ (m i : Nat), m = l.length - i → i ≤ l.length → ∀ f, 1 ≤ f → threshingref14_Same.l0 (m + f) l l i = some true := by
  intro m
  induction m with
  | zero =>
    intro i hm hi f hf
    obtain ⟨f', rfl⟩ : ∃ f', f = f' + 1 := ⟨f - 1, by omega⟩
    have he : i = l.length := by omega
    subst he
    simp [threshingref14_Same.l0]
  | succ m ih =>
    intro i hm hi f hf
    have hlt : i < l.length := by omega
    have hw : wrap64 ((i : Int) + 1) = ((i + 1 : Nat) : Int) := by unfold wrap64; omega
    rw [show m + 1 + f = (m + f) + 1 by omega]
    simp only [threshingref14_Same.l0]
    rw [if_pos (by omega), if_pos (by omega), if_pos (by omega), if_neg (by simp), hw]
    exact ih (i + 1) (by omega) (by omega) f hf
theorem refSame_self (l : List S23) (hl : l.length ≤ 1000000) (k : Nat) (hk : l.length + 1 ≤ k) : threshingref14_Same.f k l l = some true := by
  unfold threshingref14_Same.f
  rw [if_pos rfl]
  have := refSame_run l hl l.length 0 (by omega) (Nat.zero_le _) (k - l.length) (by omega)
  rw [show l.length + (k - l.length) = k by omega] at this
  rw [show ((0 : Nat) : Int) = 0 from rfl] at this
  exact this
end Go.Proofs.YtmgcpjgpmjhemaaGreatDoor.Pc

/-
Few instructions of short texts; how long their lines are.
-/
namespace Go.Proofs.YtmgcpjgpmjhemaaGreatDoor.Pc
open Go.RowKit Go.Proofs.YtmgcpjgpmjhemaaGreatDoorW.PrintWords Go.Proofs.YtmgcpjgpmjhemaaGreatDoorW.PrintLast Go.Proofs.YtmgcpjgpmjhemaaGreatDoorW.PrintMore
open CodePure (esc Bs unesc figs)
set_option linter.unusedVariables false

/-- An instruction as the form lets it come in. -/
def inS (x : S23) : Prop := wfI x.f0 ∧ wfI x.f1 ∧ x.f2.size ≤ 140737488351232
def sumS (l : List S23) : Nat := (l.map fun x => x.f2.size).sum
def smallB (l : List S23) : Bool := decide (l.length ≤ 250 ∧ sumS l ≤ 1200)

theorem small_big (l : List S23) (hl : 250 < l.length) (hm : l.length < 9000000000000000000) : ∀ (m i : Nat) (acc : Int), m = l.length - i → i ≤ l.length → ∀ f, 1 ≤ f → threshinglaw14_small.l0 (m + f) l acc i = some false := by
  intro m
  induction m with
  | zero =>
    intro i acc hm hi f hf
    obtain ⟨f', rfl⟩ : ∃ f', f = f' + 1 := ⟨f - 1, by omega⟩
    simp only [threshinglaw14_small.l0]
    rw [if_neg (by omega), if_neg (by omega)]
  | succ m ih =>
    intro i acc hm hi f hf
    have hw : wrap64 ((i : Int) + 1) = ((i + 1 : Nat) : Int) := by unfold wrap64; omega
    rw [show m + 1 + f = (m + f) + 1 by omega]
    simp only [threshinglaw14_small.l0]
    rw [if_pos (by omega), if_pos (by omega), hw]
    exact ih (i + 1) _ (by omega) (by omega) f hf
theorem small_few (l : List S23) (hl : l.length ≤ 250) (hw0 : ∀ x ∈ l, x.f2.size ≤ 140737488351232) : ∀ (m i : Nat) (acc : Nat), m = l.length - i → i ≤ l.length → acc ≤ i * 140737488351232 → ∀ f, 1 ≤ f →
    threshinglaw14_small.l0 (m + f) l acc i = some (decide (acc + sumS (l.drop i) ≤ 1200)) := by
  intro m
  induction m with
  | zero =>
    intro i acc hm hi ha f hf
    obtain ⟨f', rfl⟩ : ∃ f', f = f' + 1 := ⟨f - 1, by omega⟩
    have he : i = l.length := by omega
    subst he
    simp only [threshinglaw14_small.l0]
    rw [if_neg (by omega), if_pos (by omega), List.drop_length]
    congr 1
    rw [decide_eq_decide]
    simp [sumS]
    omega
  | succ m ih =>
    intro i acc hm hi ha f hf
    have hlt : i < l.length := by omega
    have hd : l.drop i = l[i] :: l.drop (i + 1) := List.drop_eq_getElem_cons hlt
    have hr : rd_T23 l (i : Int) = l[i] := by simp [rd_T23, hlt]
    have hz := hw0 l[i] (List.getElem_mem hlt)
    have hw : wrap64 ((i : Int) + 1) = ((i + 1 : Nat) : Int) := by unfold wrap64; omega
    have hw2 : wrap64 ((acc : Int) + (l[i].f2.size : Int)) = ((acc + l[i].f2.size : Nat) : Int) := by unfold wrap64; omega
    rw [show m + 1 + f = (m + f) + 1 by omega]
    simp only [threshinglaw14_small.l0]
    rw [if_pos (by omega), if_pos (by omega), hr, hw, hw2, ih (i + 1) _ (by omega) (by omega) (by omega) f hf, hd]
    congr 1
    rw [decide_eq_decide]
    simp only [sumS, List.map_cons, List.sum_cons]
    omega
theorem small_eq (l : List S23) (hw : ∀ x ∈ l, x.f2.size ≤ 140737488351232) (hm : l.length < 9000000000000000000) (k : Nat) (hk : l.length + 1 ≤ k) : threshinglaw14_small.f k l = some (smallB l) := by
  unfold threshinglaw14_small.f smallB
  by_cases hl : l.length ≤ 250
  · have := small_few l hl hw l.length 0 0 (by omega) (Nat.zero_le _) (Nat.zero_le _) (k - l.length) (by omega)
    rw [show l.length + (k - l.length) = k by omega] at this
    have hz : ((0 : Nat) : Int) = 0 := rfl
    rw [hz] at this
    rw [this]
    simp [hl]
  · have := small_big l (by omega) hm l.length 0 0 (by omega) (Nat.zero_le _) (k - l.length) (by omega)
    rw [show l.length + (k - l.length) = k by omega] at this
    have hz : ((0 : Nat) : Int) = 0 := rfl
    rw [hz] at this
    rw [this]
    simp [hl]
theorem sum_mem (l : List S23) (x : S23) (h : x ∈ l) : x.f2.size ≤ sumS l := by
  induction l with
  | nil => cases h
  | cons y l ih =>
    simp only [sumS, List.map_cons, List.sum_cons]
    rcases List.mem_cons.1 h with rfl | h
    · omega
    · have := ih h
      simp only [sumS] at this
      omega
theorem small_ok {l : List S23} (h : smallB l = true) (hw : ∀ x ∈ l, inS x) : ∀ x ∈ l, okS x := fun x hx => by
  have h1 := sum_mem l x hx
  have h2 : sumS l ≤ 1200 := by
    unfold smallB at h
    simp at h
    exact h.2
  exact ⟨(hw x hx).1, (hw x hx).2.1, by omega⟩
theorem lineS_len2 (x : S23) (h : okS x) (hm : mayS x = true) : (lineS x).length ≤ 2 * x.f2.size + 30 := by
  have hk : ∀ k : Nat, k < 24 → (nameL k).length ≤ 6 := by decide +kernel
  have hop := mayB_op hm
  have hn := hk x.f0.toNat (by omega)
  rw [show ((x.f0.toNat : Nat) : Int) = x.f0 by omega] at hn
  have h1 := hk 1 (by decide)
  rw [show ((1 : Nat) : Int) = 1 from rfl] at h1
  have hi := Lib.itoa_length_le x.f1 h.2.1.1 h.2.1.2
  have he := CodePure.esc_length x.f2.data.toList
  have hz : x.f2.data.toList.length = x.f2.size := by simp
  unfold lineS lineL
  split
  · simp; omega
  · split
    · simp; omega
    · omega
theorem linesL_len (l : List S23) (h : l.all mayS = true) (hw : ∀ x ∈ l, okS x) : (linesL l).length ≤ 2 * sumS l + 31 * l.length := by
  induction l with
  | nil => simp [linesL]
  | cons x l ih =>
    simp only [List.all_cons, Bool.and_eq_true] at h
    have h1 := lineS_len2 x (hw x List.mem_cons_self) h.1
    have h2 := ih h.2 (fun y hy => hw y (List.mem_cons_of_mem _ hy))
    rw [linesL_cons]
    simp only [sumS, List.map_cons, List.sum_cons, List.length_append, List.length_cons] at h2 ⊢
    omega

theorem readL_err {s : Bs} {q : List S23} {e : Int} (h : readL s = (q, e)) (he : e ≠ 0) : q = [] := by
  unfold readL at h
  split at h
  · exact (Prod.mk.inj h).1.symm
  · split at h
    · exact (Prod.mk.inj h).1.symm
    · split at h
      · exact (Prod.mk.inj h).1.symm
      · split at h
        · exact absurd (Prod.mk.inj h).2.symm he
        · exact (Prod.mk.inj h).1.symm

end Go.Proofs.YtmgcpjgpmjhemaaGreatDoor.Pc

/-
A slice of instructions laid open, with the bounds that the form gives.
-/
namespace Go.Proofs.YtmgcpjgpmjhemaaGreatDoor.Pc
open Go.ChangeShapes Go.WideShapes Go.ChangeAt Go.RowKit Go.Deep
open Go.Proofs.YtmgcpjgpmjhemaaGreatDoorW.PrintWords Go.Proofs.YtmgcpjgpmjhemaaGreatDoorW.PrintLast Go.Proofs.YtmgcpjgpmjhemaaGreatDoorW.PrintMore
set_option linter.unusedVariables false

theorem weightsAll_mem {H : Type} {P : Program} {e : TypeId} {d : DataW H} {n : Nat} (hn : n ∈ d.weights P e) : ∀ {l : List (DataW H)}, d ∈ l → n ∈ DataW.weightsAll P e l
  | [], h => by cases h
  | x :: l, h => by
    unfold DataW.weightsAll
    rcases List.mem_cons.1 h with rfl | h
    · exact List.mem_append_left _ hn
    · exact List.mem_append_right _ (weightsAll_mem hn h)

set_option maxRecDepth 100000 in
/-- An instruction, laid open: its three cells and its datum. -/
theorem open_insD {H : Type} {enc : TypeId × Value → H} {w : World} {base : Nat} {sp : Nat → Bool} {held : Bool} {fuel : Nat} {cs : List Value} {x : DataW H × List MemPlace}
    (h : DataW.trod enc Tryz.prog w base sp held fuel 23 cs = some x) : ∃ (y : S23), cs = [.int .i64 y.f0, .int .i64 y.f1, .string y.f2] ∧ wfI y.f0 ∧ wfI y.f1 ∧ x.1 = .agg [.lit (.int .i64 y.f0), .lit (.int .i64 y.f1), .lit (.string y.f2.data.toList)] := by
  obtain ⟨y0, y1, y2, m, hx, hl, hy0, hy1, hy2⟩ := trod_struct3 Tryz.underlying23 h
  rw [cells_ins] at hl
  match cs, hl with
  | [c0, c1, c2], _ =>
  simp only [cells_int, cells_str, List.drop_succ_cons, List.drop_zero, List.take_succ_cons, List.take_zero] at hy0 hy1 hy2
  obtain ⟨a, e0, z0, wa⟩ := DataW.trod_int Tryz.underlying3 hy0
  obtain ⟨b, e1, z1, wb⟩ := DataW.trod_int Tryz.underlying3 hy1
  obtain ⟨s, e2, z2, _⟩ := DataW.trod_string Tryz.underlying9 hy2
  simp only [List.cons.injEq, and_true] at e0 e1 e2
  subst e0 e1 e2
  exact ⟨⟨a, b, s⟩, rfl, wfI_of wa, wfI_of wb, by rw [hx, z0, z1, z2]⟩
theorem bytes_ins : Tryz.prog.bytesOf 23 = 32 := by kernel_rfl
instance : Inhabited S23 := ⟨z23⟩

/-- A string inside an instruction inside a slice is no longer than the form lets it be. -/
theorem size_in {H : Type} {y : S23} {D : DataW H} {es sp : List (DataW H)} (hD : D = .agg [.lit (.int .i64 y.f0), .lit (.int .i64 y.f1), .lit (.string y.f2.data.toList)]) (hm : D ∈ es)
    (hsz : ((DataW.slice es sp).weights Tryz.prog 33).all (· ≤ reachBytes) = true) : y.f2.size ≤ 140737488351232 := by
  have h1 : y.f2.data.toList.length ∈ D.weights Tryz.prog 23 := by
    subst hD
    unfold DataW.weights
    rw [Tryz.underlying23]
    simp [DataW.weightsEach, DataW.weights]
  have h2 := weightsAll_mem h1 hm
  have h3 : y.f2.data.toList.length ∈ (DataW.slice es sp).weights Tryz.prog 33 := by
    unfold DataW.weights
    rw [Tryz.underlying33]
    exact List.mem_cons_of_mem _ (List.mem_append_left _ h2)
  have h4 := List.all_eq_true.1 hsz _ h3
  have h5 : y.f2.data.toList.length = y.f2.size := by simp
  have h6 : reachBytes = 140737488351232 := by decide
  simp at h4
  omega

set_option maxRecDepth 100000 in
theorem open_inss {H : Type} {enc : TypeId × Value → H} {w : World} {sp : Nat → Bool} {held : Bool} {fuel : Nat} {cs : List Value} {x : DataW H × List MemPlace}
    (h : DataW.trod enc Tryz.prog w 0 sp held fuel 33 cs = some x) (hsz : (x.1.weights Tryz.prog 33).all (· ≤ reachBytes) = true) :
    ∃ (A : Option Addr) (cap : Nat) (l : List S23), cs = [.slice A l.length cap] ∧ l.length ≤ cap ∧ l.length < 9000000000000000000 ∧ Kd.C k23 w A l.length l ∧ ∀ y ∈ l, inS y := by
  rcases open_slice Tryz.underlying33 h with ⟨rfl, rfl⟩ | ⟨a, len, cap, m, n, D, Pl, rfl, _, hl, hm, hmm, rfl, hx⟩
  · exact ⟨none, 0, [], rfl, Nat.le_refl _, by decide, ⟨rfl, by decide, fun h => absurd h (by decide)⟩, by simp⟩
  · have hlm : len ≤ m := by rw [hmm]; split <;> omega
    rw [cells_ins] at hx
    have each : ∀ i, i < len → ∃ y : S23, (∀ j u, ([.int .i64 y.f0, .int .i64 y.f1, .string y.f2] : List Value)[j]? = some u → w.cell? (a.add (i * 3 + j)) = some u) ∧ wfI y.f0 ∧ wfI y.f1 ∧ D i = .agg [.lit (.int .i64 y.f0), .lit (.int .i64 y.f1), .lit (.string y.f2.data.toList)] := fun i hi => by
      obtain ⟨cs', hc, ht⟩ := hx i (by omega)
      obtain ⟨y, rfl, w0, w1, hD⟩ := open_insD ht
      obtain ⟨_, _, hcell⟩ := World.cells?_some hc
      refine ⟨y, fun j u hu => ?_, w0, w1, hD⟩
      have hj : j < 3 := by
        have := (List.getElem?_eq_some_iff.1 hu).1
        simpa using this
      have := hcell j hj
      rw [hu] at this
      rw [← this, Addr.add_add]
    obtain ⟨Y, hY⟩ := choose_lt each
    have hlen : ((List.range len).map Y).length = len := by simp
    refine ⟨some a, cap, (List.range len).map Y, by rw [hlen], by rw [hlen]; exact hl, ?_, ?_, ?_⟩
    · have h1 : ((((List.range len).map D).length + ((List.range (m - len)).map fun j => D (len + j)).length) * Tryz.prog.bytesOf 23) ∈ (DataW.slice ((List.range len).map D) ((List.range (m - len)).map fun j => D (len + j))).weights Tryz.prog 33 := by
        unfold DataW.weights
        rw [Tryz.underlying33]
        simp
      have h4 := List.all_eq_true.1 hsz _ h1
      have h6 : reachBytes = 140737488351232 := by decide
      rw [bytes_ins] at h4
      simp at h4
      rw [hlen]
      omega
    · rw [hlen]
      refine ⟨hlen, by have : maxLen = 9223372036854775807 := rfl; omega, fun hpos => ⟨a, rfl, fun j p hp => ?_⟩⟩
      rw [List.getElem?_map] at hp
      obtain ⟨i, hi, rfl⟩ := Option.map_eq_some_iff.1 hp
      obtain ⟨hj, rfl⟩ := List.getElem?_eq_some_iff.1 hi
      simp at hj
      rw [List.getElem_range] at *
      exact ⟨_, rfl, k23_mk w (Y j), fun i u hu => (hY j hj).1 i u hu⟩
    · intro y hy
      obtain ⟨i, hi, rfl⟩ := List.mem_map.1 hy
      have hi' := List.mem_range.1 hi
      obtain ⟨_, w0, w1, hD⟩ := hY i hi'
      exact ⟨w0, w1, size_in hD (List.mem_map_of_mem hi) hsz⟩
theorem all_left {a b : List Nat} {f : Nat → Bool} (h : (a ++ b).all f = true) : a.all f = true := by
  rw [List.all_append, Bool.and_eq_true] at h
  exact h.1
theorem all_right {a b : List Nat} {f : Nat → Bool} (h : (a ++ b).all f = true) : b.all f = true := by
  rw [List.all_append, Bool.and_eq_true] at h
  exact h.2
end Go.Proofs.YtmgcpjgpmjhemaaGreatDoor.Pc

/-
The laws' live question is answered true.
-/
namespace Go.Proofs.YtmgcpjgpmjhemaaGreatDoor.Pc
open Go.RowKit Go.Proofs.YtmgcpjgpmjhemaaGreatDoorW.PrintWords Go.Proofs.YtmgcpjgpmjhemaaGreatDoorW.PrintLast Go.Proofs.YtmgcpjgpmjhemaaGreatDoorW.PrintMore
set_option linter.unusedVariables false

theorem alive_at : threshinglaw14_alive.f 40 = some true := by decide +kernel
theorem alive_true (k : Nat) (hk : 40 ≤ k) : threshinglaw14_alive.f k = some true := by
  have : ∀ d, threshinglaw14_alive.f (40 + d) = some true := by
    intro d
    induction d with
    | zero => exact alive_at
    | succ d ih => exact threshinglaw14_alive.mono (40 + d) _ ih
  rw [show k = 40 + (k - 40) by omega]
  exact this _

end Go.Proofs.YtmgcpjgpmjhemaaGreatDoor.Pc

/-
sync.Once.Do by one goroutine, the function handed in met by its own contract.
-/
namespace Go.Proofs.YtmgcpjgpmjhemaaGreatDoor.Pc
open Go.RowKit
set_option linter.unusedVariables false

theorem disable (w : World) : (callFunc 223 #[]).run Tryz.prog w = .ok (.value (.tuple #[])) w := run_call_mark0 Tryz.func223 (by kernel_rfl) (by kernel_rfl) (by kernel_rfl) .disable (by kernel_rfl) w
theorem enable (w : World) : (callFunc 225 #[]).run Tryz.prog w = .ok (.value (.tuple #[])) w := run_call_mark0 Tryz.func225 (by kernel_rfl) (by kernel_rfl) (by kernel_rfl) .enable (by kernel_rfl) w
theorem acquire (a : Addr) (w : World) : (callFunc 226 #[.pointer (some a)]).run Tryz.prog w = .ok (.value (.tuple #[])) w := run_call_marked Tryz.func226 (by kernel_rfl) (by kernel_rfl) (by kernel_rfl) .acquire (by kernel_rfl) a w
theorem releaseMerge (a : Addr) (w : World) : (callFunc 228 #[.pointer (some a)]).run Tryz.prog w = .ok (.value (.tuple #[])) w := run_call_marked Tryz.func228 (by kernel_rfl) (by kernel_rfl) (by kernel_rfl) .releaseMerge (by kernel_rfl) a w

theorem store_deferred (a : Addr) (x : Value) (u : FrameMode) (w : World) (hc : w.cell? a = some x) (hz : w.frozen? a = false) :
    CallsD Tryz.prog 149 #[.pointer (some a), .bool true] u w fun e u' w' => u' = u ∧ (e = .returned (.tuple #[]) ∧ w' = w.drew.setCell a (.int .u32 1)) := by
  have hc' : w.drew.cell? a = some x := by go_simp
  have hz' : w.drew.frozen? a = false := by go_simp
  have hst := run_call_store (P := Tryz.prog) Tryz.func201 (by kernel_rfl) (by kernel_rfl) (by kernel_rfl) (by kernel_rfl) (k := .u32) (y := 1) hc' hz'
  go_enter_d Tryz.func149, Tryz.ntmps149
  go_wp2
  go_region_calls
  all_goals (go_end0; exact ⟨rfl, rfl⟩)

set_option maxRecDepth 100000 in
theorem unlock_deferred (a : Addr) (u : FrameMode) (w : World) (hc : w.cell? a = some (.int .i32 1)) (hz : w.frozen? a = false) :
    CallsD Tryz.prog 148 #[.pointer (some a)] u w fun e u' w' => u' = u ∧ (e = .returned (.tuple #[]) ∧ w' = w.setCell a (.int .i32 0)) := by
  have hd := disable
  have he := enable
  have hr := releaseMerge
  have hadd := run_call_add (P := Tryz.prog) Tryz.func229 (by kernel_rfl) (by kernel_rfl) (by kernel_rfl) .i32 (by kernel_rfl) (y := -1) (s := 0) hc hz (by simp [go_sem]; rfl)
  have hcv := run_convert_to_unsafe (P := Tryz.prog) (src := 269) (dst := 170) Tryz.underlying269 Tryz.underlying170 (by kernel_rfl) hc
  go_enter_d Tryz.func148, Tryz.ntmps148
  go_wp2
  go_end0
  go_wp2
  go_end0
  exact ⟨rfl, rfl⟩

set_option maxRecDepth 100000 in
theorem lock_free (a : Addr) (w : World) (hc : w.cell? a = some (.int .i32 0)) (hz : w.frozen? a = false) :
    Calls Tryz.prog 147 #[.pointer (some a)] w fun e w' => e = .returned (.tuple #[]) ∧ w' = w.setCell a (.int .i32 1) := by
  have hd := disable
  have he := enable
  have ha := acquire
  have hcas := run_call_cas_hit (P := Tryz.prog) Tryz.func224 (by kernel_rfl) (by kernel_rfl) (by kernel_rfl) .i32 (by kernel_rfl) (y := 1) hc hz
  have hc' : (w.setCell a (.int .i32 1)).cell? a = some (.int .i32 1) := World.cell?_setCell_same w a _ hc
  have hcv := run_convert_to_unsafe (P := Tryz.prog) (src := 269) (dst := 170) Tryz.underlying269 Tryz.underlying170 (by kernel_rfl) hc'
  go_enter Tryz.func147, Tryz.ntmps147
  go_wp2
  first | go_end0 | (simp only [Exit.inBlock, Exit.then]; refine bodyPost_ret (results_none rfl _ _ _) rfl ?_) | refine bodyPost_ret (results_none rfl _ _ _) rfl ?_
  go_wp2
  go_end0
  exact ⟨rfl, rfl⟩

theorem load_zero (a : Addr) (w : World) (hc : w.cell? a = some (.int .u32 0)) :
    Calls Tryz.prog 120 #[.pointer (some a)] w fun e w' => e = .returned (.bool false) ∧ w' = w := by
  have hl := run_call_load (P := Tryz.prog) Tryz.func146 (by kernel_rfl) (by kernel_rfl) (by kernel_rfl) .u32 (by kernel_rfl) hc
  go_enter Tryz.func120, Tryz.ntmps120
  go_wp2
  go_ret
  exact ⟨rfl, rfl⟩

set_option maxRecDepth 100000 in
set_option maxHeartbeats 1600000 in
theorem slow_once (b : Nat) (fst : Array Value) (w : World) (Q : World → Prop)
    (h0 : w.cell? ⟨b, 0, none⟩ = some (.int .u32 0)) (h1 : w.cell? ⟨b, 1, none⟩ = some (.int .i32 0))
    (f0 : w.frozen? ⟨b, 0, none⟩ = false) (f1 : w.frozen? ⟨b, 1, none⟩ = false)
    (hq : ∀ w1, Q w1 → w1.cell? ⟨b, 0, none⟩ = some (.int .u32 0) ∧ w1.cell? ⟨b, 1, none⟩ = some (.int .i32 1) ∧ w1.frozen? ⟨b, 0, none⟩ = false ∧ w1.frozen? ⟨b, 1, none⟩ = false)
    (hf : Calls Tryz.prog 91 fst (w.setCell ⟨b, 1, none⟩ (.int .i32 1)) fun e w' => e = .returned (.tuple #[]) ∧ Q w') :
    Calls Tryz.prog 121 #[.pointer (some ⟨b, 0, none⟩), .func (.func 91) fst #[]] w fun e w' => e = .returned (.tuple #[]) ∧
      ∃ w1, Q w1 ∧ w' = (w1.drew.setCell ⟨b, 0, none⟩ (.int .u32 1)).setCell ⟨b, 1, none⟩ (.int .i32 0) := by
  have hnot : ∀ (x : Bool) (w : World), (Op.unary .not (.bool x)).run Tryz.prog w = .ok (.bool (!x)) w := fun _ _ => rfl
  have e0 : (w.setCell ⟨b, 1, none⟩ (.int .i32 1)).cell? ⟨b, 0, none⟩ = some (.int .u32 0) := (World.cell?_setCell_other _ ⟨b, 1, none⟩ ⟨b, 0, none⟩ _ (by simp)).trans h0
  go_enter_defers Tryz.func121, Tryz.ntmps121
  go_wp2_with (first
    | (go_at_call 147; refine (lock_free ⟨b, 1, none⟩ _ (by go_simp) (by go_simp)).mono ?_; rintro e w' ⟨rfl, rfl⟩)
    | (go_at_call 120; refine (load_zero ⟨b, 0, none⟩ _ e0).mono ?_; rintro e w' ⟨rfl, rfl⟩)
    | (go_at_call 91; refine hf.mono ?_; rintro e w1 ⟨rfl, hw1⟩))
  obtain ⟨q0, q1, z0, z1⟩ := hq w1 hw1
  refine leaves_cons (f := 149) (args := #[.pointer (some ⟨b, 0, none⟩), .bool true]) (by simp) (by simp [go_sem]) ?_
  refine (store_deferred ⟨b, 0, none⟩ (.int .u32 0) .returning _ q0 z0).mono ?_
  rintro e u' w'' ⟨rfl, rfl, rfl⟩
  refine leaves_cons (f := 148) (args := #[.pointer (some ⟨b, 1, none⟩)]) (by simp [settle]) (by simp [go_sem]) ?_
  refine (unlock_deferred ⟨b, 1, none⟩ _ _ ?_ (by simp [z1])).mono ?_
  · refine (World.cell?_setCell_other _ ⟨b, 0, none⟩ ⟨b, 1, none⟩ _ (by simp)).trans ?_
    rw [World.cell?_drew]
    exact q1
  rintro e u' w'' ⟨rfl, rfl, rfl⟩
  simp [Leaves, settle, results, Tryz.results121]
  exact ⟨w1, hw1, rfl⟩

set_option maxRecDepth 100000 in
set_option maxHeartbeats 1600000 in
theorem do_once (b : Nat) (fst : Array Value) (w : World) (Q : World → Prop)
    (h0 : w.cell? ⟨b, 0, none⟩ = some (.int .u32 0)) (h1 : w.cell? ⟨b, 1, none⟩ = some (.int .i32 0))
    (f0 : w.frozen? ⟨b, 0, none⟩ = false) (f1 : w.frozen? ⟨b, 1, none⟩ = false)
    (hq : ∀ w1, Q w1 → w1.cell? ⟨b, 0, none⟩ = some (.int .u32 0) ∧ w1.cell? ⟨b, 1, none⟩ = some (.int .i32 1) ∧ w1.frozen? ⟨b, 0, none⟩ = false ∧ w1.frozen? ⟨b, 1, none⟩ = false)
    (hf : Calls Tryz.prog 91 fst (w.setCell ⟨b, 1, none⟩ (.int .i32 1)) fun e w' => e = .returned (.tuple #[]) ∧ Q w') :
    Calls Tryz.prog 90 #[.pointer (some ⟨b, 0, none⟩), .func (.func 91) fst #[]] w fun e w' => e = .returned (.tuple #[]) ∧
      ∃ w1, Q w1 ∧ w' = (w1.drew.setCell ⟨b, 0, none⟩ (.int .u32 1)).setCell ⟨b, 1, none⟩ (.int .i32 0) := by
  have hnot : ∀ (x : Bool) (w : World), (Op.unary .not (.bool x)).run Tryz.prog w = .ok (.bool (!x)) w := fun _ _ => rfl
  go_enter Tryz.func90, Tryz.ntmps90
  go_wp2_with (first
    | (go_at_call 120; refine (load_zero ⟨b, 0, none⟩ _ h0).mono ?_; rintro e w' ⟨rfl, rfl⟩)
    | (go_at_call 121; refine (slow_once b fst _ Q h0 h1 f0 f1 hq hf).mono ?_; rintro e w' ⟨rfl, hw'⟩))
  first | go_end0 | (simp only [Exit.inBlock, Exit.then]; refine bodyPost_ret (results_none rfl _ _ _) rfl ?_) | refine bodyPost_ret (results_none rfl _ _ _) rfl ?_
  exact ⟨rfl, hw'⟩
end Go.Proofs.YtmgcpjgpmjhemaaGreatDoor.Pc

/-
strings.NewReplacer and (*strings.Replacer).Replace at the three pairs that code.Line hands over.
-/
namespace Go.Proofs.YtmgcpjgpmjhemaaGreatDoor.Pc
open Go.RowKit Go.Proofs.YtmgcpjgpmjhemaaGreatDoorW.PrintWords Go.Proofs.YtmgcpjgpmjhemaaGreatDoorW.PrintLast Go.Proofs.YtmgcpjgpmjhemaaGreatDoorW.PrintMore
set_option linter.unusedVariables false

structure ReplCells (w : World) (b : Nat) : Prop where
  c0 : w.cell? ⟨b, 0, none⟩ = some (.string ⟨#[34]⟩)
  c1 : w.cell? ⟨b, 1, none⟩ = some (.string ⟨#[92, 34]⟩)
  c2 : w.cell? ⟨b, 2, none⟩ = some (.string ⟨#[92]⟩)
  c3 : w.cell? ⟨b, 3, none⟩ = some (.string ⟨#[92, 92]⟩)
  c4 : w.cell? ⟨b, 4, none⟩ = some (.string ⟨#[10]⟩)
  c5 : w.cell? ⟨b, 5, none⟩ = some (.string ⟨#[92, 110]⟩)

/-- A Replacer that has not been built yet; 'k': what its lock says. -/
structure IsRepl (k : Int) (w : World) (p ob : Nat) : Prop where
  d : w.cell? ⟨p, 0, none⟩ = some (.int .u32 0)
  l : w.cell? ⟨p, 1, none⟩ = some (.int .i32 k)
  r : w.cell? ⟨p, 3, none⟩ = some .nilIface
  o : ∃ oc, w.cell? ⟨p, 4, none⟩ = some (.slice (some ⟨ob, 0, none⟩) 6 oc)
  z : ∀ i, w.frozen? ⟨p, i, none⟩ = false
  lt : ob < p
  cs : ReplCells w ob

set_option maxRecDepth 100000 in
set_option maxHeartbeats 1600000 in
theorem newReplacer (b : Nat) (w : World) (hc : ReplCells w b) :
    Calls Tryz.prog 45 #[.slice (some ⟨b, 0, none⟩) 6 6] w fun e w' => ∃ p ob, e = .returned (.pointer (some ⟨p, 0, none⟩)) ∧ IsRepl 0 w' p ob ∧ w.heap.size ≤ p ∧ Below w.heap.size w w' := by
  obtain ⟨c0, c1, c2, c3, c4, c5⟩ := hc
  go_enter Tryz.func45, Tryz.ntmps45
  go_wp2_with fail
  go_ret
  refine ⟨w.heap.size + 1, w.heap.size, rfl, ⟨?_, ?_, ?_, ⟨(Question.appendCap 6 0 9).cut (w.tape w.drawn (Question.appendCap 6 0 9)), ?_⟩, ?_, Nat.lt_succ_self _, ?_⟩, Nat.le_succ _, ?_⟩
  · go_simp
  · go_simp
  · go_simp
  · go_simp; try rfl
  · intro i; go_simp
  · constructor <;> (go_simp; rw [Array.getElem?_append_left (by simp)]; rfl)
  · exact (((Below.refl _ _).alloc (Nat.le_refl _) _).alloc (by simp) _).drew

theorem zero_bsr : Tryz.zeroCells203 = Array.replicate 257 (.slice none 0 0) := by kernel_rfl

theorem store_bsr (v : Value) (hv : v.oneCell' = true) : ∃ cs : Array Value, cs.size = 257 ∧ (∀ i, i < 256 → cs[i]? = some (.slice none 0 0)) ∧ cs[256]? = some v ∧
    ∀ (w w' : World) (n : Nat), n = w.heap.size → (storeCells ⟨n, 0, none⟩ (Tryz.zeroCells203.toList.set 256 v)).run Tryz.prog (w.alloc (.cells Tryz.zeroCells203 203)) = .ok () (w.alloc (.cells cs 203)) := by
  refine ⟨((Array.replicate 257 (.slice none 0 0)).setIfInBounds 256 v), by simp, fun i hi => ?_, by simp, ?_⟩
  · rw [Array.getElem?_setIfInBounds_ne (by omega), Array.getElem?_replicate, if_pos (by omega)]
  · rintro w w' n rfl
    rw [zero_bsr]
    have h := run_storeCells_new (P := Tryz.prog) w 203 (Array.replicate 257 (.slice none 0 0)) ((Array.replicate 257 (.slice none 0 0)).setIfInBounds 256 v) (by simp only [Array.size_setIfInBounds, Array.size_replicate]; kernel_rfl) (by simp) (by
      rw [Array.all_eq_true]
      intro i hi
      rw [Array.getElem_setIfInBounds (by simpa using hi)]
      split
      · exact hv
      · rw [Array.getElem_replicate]; rfl)
    simpa only [Array.toList_setIfInBounds] using h

theorem conv_one (W : World) (n : Nat) (z : Int) (hn : n = W.heap.size) (h0 : 0 ≤ z) (h1 : z < 256) :
    (convert 82 9 (.slice (some ⟨n, 0, none⟩) 1 1)).run Tryz.prog (W.alloc (.cells #[.int .u8 z] 5)) = .ok (.string ⟨#[UInt8.ofNat z.toNat]⟩) (W.alloc (.cells #[.int .u8 z] 5)) := by
  subst hn
  refine run_convert_bytes_back (W.alloc (.cells #[.int .u8 z] 5)) 82 9 5 ⟨W.heap.size, 0, none⟩ 1 [UInt8.ofNat z.toNat] Tryz.underlying82 Tryz.underlying5 Tryz.underlying9 (fun j hj => ?_)
  have hj0 : j = 0 := by simpa using hj
  subst hj0
  have e : ((⟨W.heap.size, 0, none⟩ : Addr).add 0) = ⟨W.heap.size, 0, none⟩ := rfl
  rw [e, World.cell?_alloc_new]
  simp
  omega

theorem conv_one1 (W : World) (n : Nat) (z : Int) (hn : n = W.heap.size) (h0 : 0 ≤ z) (h1 : z < 256) :
    (convert 82 9 (.slice (some ⟨n, 0, none⟩) 1 1)).run Tryz.prog (W.alloc (.cells #[.int .u8 z] 5)).drew = .ok (.string ⟨#[UInt8.ofNat z.toNat]⟩) (W.alloc (.cells #[.int .u8 z] 5)).drew := by
  have h := conv_one W.drew n z hn h0 h1
  exact h
theorem conv_one2 (W : World) (n : Nat) (z : Int) (hn : n = W.heap.size) (h0 : 0 ≤ z) (h1 : z < 256) :
    (convert 82 9 (.slice (some ⟨n, 0, none⟩) 1 1)).run Tryz.prog (W.alloc (.cells #[.int .u8 z] 5)).drew.drew = .ok (.string ⟨#[UInt8.ofNat z.toNat]⟩) (W.alloc (.cells #[.int .u8 z] 5)).drew.drew := by
  have h := conv_one W.drew.drew n z hn h0 h1
  exact h

theorem conv_bytes (W : World) (s : ByteArray) :
    (convert 9 82 (.string s)).run Tryz.prog W = .ok (.slice (some ⟨W.heap.size, 0, none⟩) s.size (grownCap W s.size 0 5))
      (W.drew.alloc (.cells (bytesRow s (grownCap W s.size 0 5)) 5 ((bytesRow s (grownCap W s.size 0 5)).size, (bytesRow s (grownCap W s.size 0 5)).size + 1))) :=
  run_bytes_of_string W 9 82 5 s Tryz.underlying9 Tryz.underlying82 Tryz.underlying5

/-- A byteStringReplacer for the three bytes: what its cells hold. -/
structure IsBsr (w : World) (q : Nat) : Prop where
  no : ∀ i, i < 256 → i ≠ 10 → i ≠ 34 → i ≠ 92 → w.cell? ⟨q, i, none⟩ = some (.slice none 0 0)
  r10 : ∃ a c, w.cell? ⟨q, 10, none⟩ = some (.slice (some ⟨a, 0, none⟩) 2 c) ∧ w.cell? ⟨a, 0, none⟩ = some (.int .u8 92) ∧ w.cell? ⟨a, 1, none⟩ = some (.int .u8 110)
  r34 : ∃ a c, w.cell? ⟨q, 34, none⟩ = some (.slice (some ⟨a, 0, none⟩) 2 c) ∧ w.cell? ⟨a, 0, none⟩ = some (.int .u8 92) ∧ w.cell? ⟨a, 1, none⟩ = some (.int .u8 34)
  r92 : ∃ a c, w.cell? ⟨q, 92, none⟩ = some (.slice (some ⟨a, 0, none⟩) 2 c) ∧ w.cell? ⟨a, 0, none⟩ = some (.int .u8 92) ∧ w.cell? ⟨a, 1, none⟩ = some (.int .u8 92)
  tr : ∃ b c, w.cell? ⟨q, 256, none⟩ = some (.slice (some ⟨b, 0, none⟩) 3 c) ∧ w.cell? ⟨b, 0, none⟩ = some (.string ⟨#[10]⟩) ∧ w.cell? ⟨b, 1, none⟩ = some (.string ⟨#[92]⟩) ∧ w.cell? ⟨b, 2, none⟩ = some (.string ⟨#[34]⟩)

theorem cell_keep {w w' : World} (hb : Below w.heap.size w w') {a : Addr} {v : Value} (hc : w.cell? a = some v) : w'.cell? a = some v := (hb.cell (World.block_lt_of_cell? w _ hc)).trans hc
theorem IsBsr.below {w w' : World} {q : Nat} (h : IsBsr w q) (hb : Below w.heap.size w w') : IsBsr w' q := by
  obtain ⟨no, ⟨a1, c1, p1, p2, p3⟩, ⟨a2, c2, q1, q2, q3⟩, ⟨a3, c3, r1, r2, r3⟩, ⟨b, c, s1, s2, s3, s4⟩⟩ := h
  exact ⟨fun i hi h1 h2 h3 => cell_keep hb (no i hi h1 h2 h3), ⟨a1, c1, cell_keep hb p1, cell_keep hb p2, cell_keep hb p3⟩, ⟨a2, c2, cell_keep hb q1, cell_keep hb q2, cell_keep hb q3⟩, ⟨a3, c3, cell_keep hb r1, cell_keep hb r2, cell_keep hb r3⟩, ⟨b, c, cell_keep hb s1, cell_keep hb s2, cell_keep hb s3, cell_keep hb s4⟩⟩

theorem cell_marked (W : World) (c : Array Value) (t : TypeId) (fr : Nat × Nat) (n i : Nat) (hn : n = W.heap.size) : (W.alloc (.cells c t fr)).cell? ⟨n, i, none⟩ = c[i]? := by
  subst hn
  exact World.cell?_alloc_mark W c t fr i

theorem set_two {cs cs1 : Array Value} {i : Nat} {u v : Value} (h : (cs.setIfInBounds 256 u).setIfInBounds i v = cs1) (hs : Aside0 (cs.size = 257)) (hi : i < 256) :
    Aside0 (cs1.size = 257) ∧ cs1[256]? = some u ∧ cs1[i]? = some v ∧ Aside0 (∀ j, j < 256 → j ≠ i → cs1[j]? = cs[j]?) := by
  have hs := hs.out
  subst h
  refine ⟨⟨by simpa using hs⟩, ?_, ?_, ⟨fun j hj hne => ?_⟩⟩
  · rw [Array.getElem?_setIfInBounds_ne (by omega), Array.getElem?_setIfInBounds_self_of_lt (by omega)]
  · rw [Array.getElem?_setIfInBounds_self_of_lt (by simp; omega)]
  · rw [Array.getElem?_setIfInBounds_ne (by omega), Array.getElem?_setIfInBounds_ne (by omega)]

set_option maxRecDepth 100000 in
set_option maxHeartbeats 1600000 in
theorem repl_build (p ob : Nat) (w : World) (h : IsRepl 1 w p ob) :
    Calls Tryz.prog 122 #[.pointer (some ⟨p, 0, none⟩)] w fun e w' => ∃ q, e = .returned (.iface 204 (.pointer (some ⟨q, 0, none⟩))) ∧ IsBsr w' q ∧ Below w.heap.size w w' := by
  obtain ⟨hd, hl, hr, ⟨oc, ho⟩, hz, hlt, ⟨c0, c1, c2, c3, c4, c5⟩⟩ := h
  obtain ⟨cs, hcsz, hcs0, hcs256, hst0⟩ := store_bsr (.slice (some ⟨w.heap.size, 0, none⟩) 0 3) rfl
  have hst := fun W : World => hst0 W W _ rfl
  have hst1 := hst (w.alloc (.cells #[.string ⟨#[]⟩, .string ⟨#[]⟩, .string ⟨#[]⟩] 9))
  rw [show (w.alloc (.cells #[.string ⟨#[]⟩, .string ⟨#[]⟩, .string ⟨#[]⟩] 9)).heap.size = w.heap.size + 1 by simp] at hst1
  clear hst hst0
  have b0 : ob < w.heap.size := World.block_lt_of_cell? w _ c0
  have b1 : ob ≤ w.heap.size := by omega
  have b2 : ob < w.heap.size + 2 := by omega
  have b3 : ob < w.heap.size + 3 := by omega
  have b4 : ob < w.heap.size + 4 := by omega
  have b5 : ob < w.heap.size + 5 := by omega
  have b6 : ob < w.heap.size + 6 := by omega
  have b7 : ob < w.heap.size + 7 := by omega
  have b8 : ob < w.heap.size + 8 := by omega
  have b9 : ob < w.heap.size + 9 := by omega
  have b10 : ob < w.heap.size + 10 := by omega
  have b11 : ob < w.heap.size + 11 := by omega
  have b12 : ob < w.heap.size + 12 := by omega
  have b13 : ob < w.heap.size + 13 := by omega
  have b14 : ob < w.heap.size + 14 := by omega
  have e10 : ∀ h, ((⟨#[10]⟩ : ByteArray)[0]'h).toNat = 10 := fun _ => rfl
  have e34 : ∀ h, ((⟨#[34]⟩ : ByteArray)[0]'h).toNat = 34 := fun _ => rfl
  have e92 : ∀ h, ((⟨#[92]⟩ : ByteArray)[0]'h).toNat = 92 := fun _ => rfl
  have z10 := hcs0 10 (by decide)
  have z34 := hcs0 34 (by decide)
  have z92 := hcs0 92 (by decide)
  have HS0 := Aside0.mk hcsz
  have HS00 := Aside0.mk hcs0
  clear hcs0 hcsz
  have hc1 := conv_one
  have hc11 := conv_one1
  have hc12 := conv_one2
  have hc2 := conv_bytes
  have emk : madeCells (Value.string ⟨#[]⟩).cells ((3 : Int).toNat * Tryz.t9.size) = #[.string ⟨#[]⟩, .string ⟨#[]⟩, .string ⟨#[]⟩] := by kernel_rfl
  have hmk : ∀ w, (Instr.makeSlice 73 (.int .i64 0) (.int .i64 3)).run Tryz.prog w = .ok (.slice (some ⟨w.heap.size, 0, none⟩) 0 3) (w.alloc (.cells #[.string ⟨#[]⟩, .string ⟨#[]⟩, .string ⟨#[]⟩] 9)) := fun w => by
    have h := run_make w 73 9 Tryz.t9 (.string ⟨#[]⟩) Tryz.underlying73 (by kernel_rfl) (by kernel_rfl) .i64 .i64 0 3 (by decide) (by decide) (by decide) (by decide)
    rw [emk] at h
    exact h
  clear emk
  go_enter Tryz.func122, Tryz.ntmps122
  go_wp2_with fail
  refine wp_loop_rounds 4 ?_
  rw [rounds_succ]
  go_wp2_with fail
  rw [rounds_succ]
  go_wp2_with fail
  rw [rounds_succ]
  go_wp2_with fail
  rw [rounds_succ]
  go_wp2_with fail
  have hq : ∀ (w : World) (a : Option Addr) (n c n' c' : Nat), (binOp .eql 82 (.slice a n c) (.slice none n' c')).run Tryz.prog w = .ok (.bool a.isNone) w := fun w a n c n' c' => Lib.run_eql_slice_nil w _ _ a n c n' c' Tryz.underlying82
  refine wp_loop_rounds 4 ?_
  rw [rounds_succ]
  go_wp2_with fail
  generalize grownCap _ 2 0 5 = g1
  generalize hE1 : (cs.setIfInBounds 256 _).setIfInBounds 10 _ = cs1
  obtain ⟨HS1, y1, x10, HJ1⟩ := set_two hE1 HS0 (by decide)
  have x92 := (HJ1.out 92 (by decide) (by decide)).trans z92
  have x34 := (HJ1.out 34 (by decide) (by decide)).trans z34
  clear hE1 hcs256
  rw [rounds_succ]
  go_wp2_with fail
  generalize grownCap _ 2 0 5 = g2
  generalize hE2 : (cs1.setIfInBounds 256 _).setIfInBounds 92 _ = cs2
  obtain ⟨HS2, y2, v92, HJ2⟩ := set_two hE2 HS1 (by decide)
  have v10 := (HJ2.out 10 (by decide) (by decide)).trans x10
  have v34 := (HJ2.out 34 (by decide) (by decide)).trans x34
  clear hE2 y1
  rw [rounds_succ]
  go_wp2_with fail
  generalize grownCap _ 2 0 5 = g3
  generalize hE3 : (cs2.setIfInBounds 256 _).setIfInBounds 34 _ = cs3
  obtain ⟨HS3, y3, u34, HJ3⟩ := set_two hE3 HS2 (by decide)
  have u10 := (HJ3.out 10 (by decide) (by decide)).trans v10
  have u92 := (HJ3.out 92 (by decide) (by decide)).trans v92
  clear hE3 y2
  rw [rounds_succ]
  go_wp2_with fail
  go_ret
  have br : ∀ (x y : UInt8) (g : Nat), (bytesRow ⟨#[x, y]⟩ g)[0]? = some (.int .u8 x.toNat) ∧ (bytesRow ⟨#[x, y]⟩ g)[1]? = some (.int .u8 y.toNat) := by
    intro x y g
    constructor <;> simp [bytesRow, Array.getElem?_append]
  have hcm := cell_marked
  refine ⟨w.heap.size + 1, rfl, ⟨fun i hi h1 h2 h3 => ?_, ?_, ?_, ?_, ?_⟩, ?_⟩
  · have := ((HJ3.out i hi h2).trans ((HJ2.out i hi h3).trans (HJ1.out i hi h1))).trans (HS00.out i hi)
    go_simp
  · refine ⟨w.heap.size + 1 + 1 + 1 + 1, g1, ?_, ?_, ?_⟩
    · go_simp
    · have := (br 92 110 g1).1
      go_simp
    · have := (br 92 110 g1).2
      go_simp
  · refine ⟨w.heap.size + 1 + 1 + 1 + 1 + 1 + 1 + 1 + 1 + 1 + 1, g3, ?_, ?_, ?_⟩
    · go_simp
    · have := (br 92 34 g3).1
      go_simp
    · have := (br 92 34 g3).2
      go_simp
  · refine ⟨w.heap.size + 1 + 1 + 1 + 1 + 1 + 1 + 1, g2, ?_, ?_, ?_⟩
    · go_simp
    · have := (br 92 92 g2).1
      go_simp
    · have := (br 92 92 g2).2
      go_simp
  · refine ⟨w.heap.size, 3, ?_, ?_, ?_, ?_⟩
    · go_simp
    · go_simp
    · go_simp
    · go_simp
  · repeat first | exact Below.refl _ _ | refine Below.drew ?_ | refine Below.alloc ?_ (by simp <;> omega) _
end Go.Proofs.YtmgcpjgpmjhemaaGreatDoor.Pc

/-
(*strings.Replacer).buildOnce, (*strings.byteStringReplacer).Replace, (*strings.Replacer).Replace.
-/
namespace Go.Proofs.YtmgcpjgpmjhemaaGreatDoor.Pc
open Go.RowKit Go.Proofs.YtmgcpjgpmjhemaaGreatDoorW.PrintWords Go.Proofs.YtmgcpjgpmjhemaaGreatDoorW.PrintLast Go.Proofs.YtmgcpjgpmjhemaaGreatDoorW.PrintMore
open CodePure (esc esc1 Bs hits hitb)
set_option linter.unusedVariables false

theorem bsr_at {w : World} {q : Nat} (h : IsBsr w q) (c : UInt8) : (hitb c = false ∧ w.cell? ⟨q, c.toNat, none⟩ = some (.slice none 0 0)) ∨
    (hitb c = true ∧ ∃ a cp x, esc1 c = [92, x] ∧ w.cell? ⟨q, c.toNat, none⟩ = some (.slice (some ⟨a, 0, none⟩) 2 cp) ∧ w.cell? ⟨a, 0, none⟩ = some (.int .u8 92) ∧ w.cell? ⟨a, 1, none⟩ = some (.int .u8 (UInt8.toNat x))) := by
  by_cases h1 : c = 10
  · subst h1
    obtain ⟨a, cp, p1, p2, p3⟩ := h.r10
    exact .inr ⟨rfl, a, cp, 110, rfl, p1, p2, p3⟩
  · by_cases h2 : c = 92
    · subst h2
      obtain ⟨a, cp, p1, p2, p3⟩ := h.r92
      exact .inr ⟨rfl, a, cp, 92, rfl, p1, p2, p3⟩
    · by_cases h3 : c = 34
      · subst h3
        obtain ⟨a, cp, p1, p2, p3⟩ := h.r34
        exact .inr ⟨rfl, a, cp, 34, rfl, p1, p2, p3⟩
      · have n : ∀ k : Nat, k < 256 → c ≠ UInt8.ofNat k → c.toNat ≠ k := fun k hk hc e => hc (by rw [← e]; simp)
        refine .inl ⟨by simp [hitb, h1, h2, h3], h.no c.toNat c.toNat_lt (n 10 (by decide) h1) (n 34 (by decide) h3) (n 92 (by decide) h2)⟩

theorem byte_at (s : ByteArray) (k : Nat) (c : UInt8) (h : k < s.size) (hc : s[k]'h = c) : s.data.toList[k]? = some c := by
  rw [← hc]
  rw [List.getElem?_eq_getElem (by simpa using h)]
  rfl

def sumc (l : Bs) : Nat → Nat
  | 0 => 0
  | 1 => Lib.countByte l 10
  | 2 => Lib.countByte l 10 + Lib.countByte l 92
  | _ => hits l
theorem sumc_le (l : Bs) (k : Nat) : sumc l k ≤ l.length := by
  have h := CodePure.hits_counts l
  have h2 := CodePure.hits_le l
  match k with
  | 0 => exact Nat.zero_le _
  | 1 => show Lib.countByte l 10 ≤ _; omega
  | 2 => show Lib.countByte l 10 + Lib.countByte l 92 ≤ _; omega
  | k + 3 => exact h2
theorem sumc_0 (l : Bs) (n : Nat) (h : Lib.countByte l 10 = n) : sumc l 1 = sumc l 0 + n := by simp [sumc, h]
theorem sumc_1 (l : Bs) (n : Nat) (h : Lib.countByte l 92 = n) : sumc l 2 = sumc l 1 + n := by simp [sumc, h]
theorem sumc_2 (l : Bs) (n : Nat) (h : Lib.countByte l 34 = n) : sumc l 3 = sumc l 2 + n := by simp [sumc, ← h, ← CodePure.hits_counts l]
theorem lit_of (x : UInt8) (n : Nat) (h : x.toNat = n) : x = UInt8.ofNat n := by rw [← h]; simp

/-- The row of the buffer: the first 'j' cells are the bytes of 'out', of 'n' cells in all. -/
def Row (wr : World) (B n : Nat) (out : Bs) : Prop := ∃ L : List Value, wr.heap[B]? = some (.cells L.toArray 5 (0, 0)) ∧ L.length = n ∧ L.take out.length = out.map (fun c => Value.int .u8 (c.toNat : Int))
theorem row_cell {wr : World} {B n : Nat} {out : Bs} (h : Row wr B n out) (j : Nat) (hj : j < n) : (∃ x, wr.cell? ⟨B, j, none⟩ = some x) ∧ wr.frozen? ⟨B, j, none⟩ = false := by
  obtain ⟨L, h1, h2, _⟩ := h
  refine ⟨⟨L[j]'(by omega), ?_⟩, by simp [World.frozen?, h1]⟩
  simp [World.cell?, h1, show j < L.length by omega]
theorem row_set {wr : World} {B n : Nat} {out : Bs} (h : Row wr B n out) (hj : out.length < n) (c : UInt8) : Row (wr.setCell ⟨B, out.length, none⟩ (.int .u8 (c.toNat : Int))) B n (out ++ [c]) := by
  obtain ⟨L, h1, h2, h3⟩ := h
  refine ⟨L.set out.length (.int .u8 (c.toNat : Int)), ?_, by simpa using h2, ?_⟩
  · rw [setCell_eq_setRow wr B out.length L.toArray _ _ _ h1]
    rw [setRow_heap wr B L.toArray _ _ _ h1]
    simp
  · simp only [List.length_append, List.length_singleton, List.map_append, List.map_cons, List.map_nil]
    rw [List.take_add_one, List.take_set_of_le (Nat.le_refl _), h3]
    simp [show out.length < L.length by omega]
theorem row_splice {w' : World} {B n : Nat} {out cs : Bs} {L : List Value} (h2 : L.length = n) (h3 : L.take out.length = out.map (fun c => Value.int .u8 (c.toNat : Int))) (hj : out.length + cs.length ≤ n)
    (h : w'.heap[B]? = some (.cells (splice L out.length (cs.map (fun c => Value.int .u8 (c.toNat : Int)))).toArray 5 (0, 0))) : Row w' B n (out ++ cs) := by
  refine ⟨_, h, ?_, ?_⟩
  · rw [length_splice _ _ _ (by simp; omega)]; exact h2
  · have e : out.length = (out.map (fun c => Value.int .u8 (c.toNat : Int))).length := by simp
    unfold splice
    rw [h3, ← List.append_assoc, List.map_append]
    exact List.take_left' (by simp)

set_option maxRecDepth 100000 in
set_option maxHeartbeats 4000000 in
theorem bsr_Replace (q : Nat) (s : ByteArray) (w : World) (h : IsBsr w q) (hsz : s.size ≤ 70368744177664) :
    Calls Tryz.prog 283 #[.pointer (some ⟨q, 0, none⟩), .string s] w fun e w' => e = .returned (.string ⟨(esc s.data.toList).toArray⟩) ∧ Below w.heap.size w w' := by
  have e10 : ∀ h, ((⟨#[10]⟩ : ByteArray)[0]'h).toNat = 10 := fun _ => rfl
  have e34 : ∀ h, ((⟨#[34]⟩ : ByteArray)[0]'h).toNat = 34 := fun _ => rfl
  have e92 : ∀ h, ((⟨#[92]⟩ : ByteArray)[0]'h).toNat = 92 := fun _ => rfl
  have nq0 : ∀ (w : World), (binOp .neq 82 (.slice none 0 0) (.slice none 0 0)).run Tryz.prog w = .ok (.bool false) w := fun w => run_neq_slice_nil_any w _ _ none 0 0 0 0 Tryz.underlying82
  have nq1 : ∀ (w : World) (a : Addr) (n c : Nat), (binOp .neq 82 (.slice (some a) n c) (.slice none 0 0)).run Tryz.prog w = .ok (.bool true) w := fun w a n c => run_neq_slice_nil_any w _ _ (some a) n c 0 0 Tryz.underlying82
  have HB0 := Aside0.mk h
  obtain ⟨l, hl⟩ : ∃ l, s.data.toList = l := ⟨_, rfl⟩
  have HLE : Aside0 (s.data.toList = l) := ⟨hl⟩
  have hlen : l.length = s.size := by rw [← hl]; simp
  obtain ⟨_, ⟨a1, c1, p1, p2, p3⟩, ⟨a2, c2, q1, q2, q3⟩, ⟨a3, c3, r1, r2, r3⟩, ⟨tb, tc, s1, s2, s3, s4⟩⟩ := h
  rw [hl]
  clear hl
  go_enter Tryz.func283, Tryz.ntmps283
  by_cases hbig : (24 : Int) ≤ (s.size : Int)
  · go_wp2_with fail
    go_loopw [5, 6, 32] (fun i5 i6 i32 wr => ∃ k : Nat, k ≤ 3 ∧ i5 = .int .i64 ((s.size : Int) + (sumc l k : Nat)) ∧ i6 = .bool (decide (0 < sumc l k)) ∧ i32 = .int .i64 k ∧ Aside0 (Below w.heap.size w wr)) (fun _ _ i _ => 3 - (intOf i).toNat)
    case atStart => exact ⟨0, by decide, by simp [sumc], by simp [sumc], rfl, ⟨Below.refl _ _⟩⟩
    case round =>
      obtain ⟨k, hk, rfl, rfl, rfl, HW⟩ := hrel
      have P1 := cell_keep HW.out p1
      have Q1 := cell_keep HW.out q1
      have R1 := cell_keep HW.out r1
      have S2 := cell_keep HW.out s2
      have S3 := cell_keep HW.out s3
      have S4 := cell_keep HW.out s4
      by_cases hk3 : k < 3
      · have hkk : k = 0 ∨ k = 1 ∨ k = 2 := by omega
        rcases hkk with rfl | rfl | rfl
        · obtain ⟨n, hn⟩ : ∃ n, Lib.countByte l 10 = n := ⟨_, rfl⟩
          have HS := Aside0.mk (sumc_0 l n hn)
          have hb1 := sumc_le l 1
          have hcount : ∀ W, Calls Tryz.prog 60 #[.string s, .string ⟨#[10]⟩] W fun e w' => e = .returned (.int .i64 n) ∧ w' = W := fun W => by
            have := Tryz.strings_Count_one s 10 W
            rw [HLE.out, hn] at this
            exact this
          have HC := Aside0.mk hcount
          rw [HS.out] at hb1
          clear hcount hn
          obtain ⟨m, hm⟩ : ∃ m, sumc l 0 = m := ⟨_, rfl⟩
          have HM := Aside0.mk hm
          rw [hm] at hb1 ⊢
          clear hm
          by_cases hn0 : n = 0
          · have t0 : ((n : Int) != 0) = false := by simp [hn0]
            have n0 := Aside0.mk hn0
            clear hn0
            go_wp2_with (go_at_call 60; refine (HC.out _).mono ?_; rintro e w' ⟨rfl, rfl⟩)
            go_roundw
            case rel => exact ⟨1, by decide, by rw [HS.out, HM.out, n0.out, Nat.add_zero], by rw [HS.out, HM.out, n0.out, Nat.add_zero], by go_num, HW⟩
            case measure => simp [intOf]
          · have t0 : ((n : Int) != 0) = true := by simp [hn0]
            have n0 := Aside0.mk (Nat.pos_of_ne_zero hn0)
            clear hn0
            go_wp2_with (go_at_call 60; refine (HC.out _).mono ?_; rintro e w' ⟨rfl, rfl⟩)
            go_quiet (fail)
            go_wp2_with fail
            go_roundw
            case rel => exact ⟨1, by decide, by rw [HS.out, HM.out]; go_num, by rw [HS.out, decide_eq_true (Nat.lt_of_lt_of_le n0.out (Nat.le_add_left _ _))], by go_num, ⟨pw_below_drewN HW.out _⟩⟩
            case measure => simp [intOf]
        · obtain ⟨n, hn⟩ : ∃ n, Lib.countByte l 92 = n := ⟨_, rfl⟩
          have HS := Aside0.mk (sumc_1 l n hn)
          have hb1 := sumc_le l 2
          have hcount : ∀ W, Calls Tryz.prog 60 #[.string s, .string ⟨#[92]⟩] W fun e w' => e = .returned (.int .i64 n) ∧ w' = W := fun W => by
            have := Tryz.strings_Count_one s 92 W
            rw [HLE.out, hn] at this
            exact this
          have HC := Aside0.mk hcount
          rw [HS.out] at hb1
          clear hcount hn
          obtain ⟨m, hm⟩ : ∃ m, sumc l 1 = m := ⟨_, rfl⟩
          have HM := Aside0.mk hm
          rw [hm] at hb1 ⊢
          clear hm
          by_cases hn0 : n = 0
          · have t0 : ((n : Int) != 0) = false := by simp [hn0]
            have n0 := Aside0.mk hn0
            clear hn0
            go_wp2_with (go_at_call 60; refine (HC.out _).mono ?_; rintro e w' ⟨rfl, rfl⟩)
            go_roundw
            case rel => exact ⟨2, by decide, by rw [HS.out, HM.out, n0.out, Nat.add_zero], by rw [HS.out, HM.out, n0.out, Nat.add_zero], by go_num, HW⟩
            case measure => simp [intOf]
          · have t0 : ((n : Int) != 0) = true := by simp [hn0]
            have n0 := Aside0.mk (Nat.pos_of_ne_zero hn0)
            clear hn0
            go_wp2_with (go_at_call 60; refine (HC.out _).mono ?_; rintro e w' ⟨rfl, rfl⟩)
            go_quiet (fail)
            go_wp2_with fail
            go_roundw
            case rel => exact ⟨2, by decide, by rw [HS.out, HM.out]; go_num, by rw [HS.out, decide_eq_true (Nat.lt_of_lt_of_le n0.out (Nat.le_add_left _ _))], by go_num, ⟨pw_below_drewN HW.out _⟩⟩
            case measure => simp [intOf]
        · obtain ⟨n, hn⟩ : ∃ n, Lib.countByte l 34 = n := ⟨_, rfl⟩
          have HS := Aside0.mk (sumc_2 l n hn)
          have hb1 := sumc_le l 3
          have hcount : ∀ W, Calls Tryz.prog 60 #[.string s, .string ⟨#[34]⟩] W fun e w' => e = .returned (.int .i64 n) ∧ w' = W := fun W => by
            have := Tryz.strings_Count_one s 34 W
            rw [HLE.out, hn] at this
            exact this
          have HC := Aside0.mk hcount
          rw [HS.out] at hb1
          clear hcount hn
          obtain ⟨m, hm⟩ : ∃ m, sumc l 2 = m := ⟨_, rfl⟩
          have HM := Aside0.mk hm
          rw [hm] at hb1 ⊢
          clear hm
          by_cases hn0 : n = 0
          · have t0 : ((n : Int) != 0) = false := by simp [hn0]
            have n0 := Aside0.mk hn0
            clear hn0
            go_wp2_with (go_at_call 60; refine (HC.out _).mono ?_; rintro e w' ⟨rfl, rfl⟩)
            go_roundw
            case rel => exact ⟨3, by decide, by rw [HS.out, HM.out, n0.out, Nat.add_zero], by rw [HS.out, HM.out, n0.out, Nat.add_zero], by go_num, HW⟩
            case measure => simp [intOf]
          · have t0 : ((n : Int) != 0) = true := by simp [hn0]
            have n0 := Aside0.mk (Nat.pos_of_ne_zero hn0)
            clear hn0
            go_wp2_with (go_at_call 60; refine (HC.out _).mono ?_; rintro e w' ⟨rfl, rfl⟩)
            go_quiet (fail)
            go_wp2_with fail
            go_roundw
            case rel => exact ⟨3, by decide, by rw [HS.out, HM.out]; go_num, by rw [HS.out, decide_eq_true (Nat.lt_of_lt_of_le n0.out (Nat.le_add_left _ _))], by go_num, ⟨pw_below_drewN HW.out _⟩⟩
            case measure => simp [intOf]
      · obtain rfl : k = 3 := by omega
        clear hk3 hk
        rw [show ((3 : Nat) : Int) = (3 : Int) from rfl]
        have hN : (s.size : Int) + (sumc l 3 : Nat) = ((esc l).length : Int) := by rw [CodePure.esc_len, hlen]; show _ + ((hits l : Nat) : Int) = _; omega
        have hNle : (esc l).length ≤ 140737488355328 := by have := CodePure.esc_len l; have := CodePure.hits_le l; omega
        rw [hN]
        clear hN
        by_cases hh : hits l = 0
        · have hany : decide (0 < sumc l 3) = false := by show decide (0 < hits l) = false; simp [hh]
          have HES : Aside0 (esc l = l) := ⟨CodePure.esc_same hh⟩
          have HSS : Aside0 (s = ⟨l.toArray⟩) := ⟨by rw [← HLE.out]⟩
          rw [hany, HES.out]
          clear hany hh
          go_wp2_with fail
          go_ret
          exact ⟨by rw [HES.out, ← HSS.out]; rfl, HW.out⟩
        · have hany : decide (0 < sumc l 3) = true := decide_eq_true (Nat.pos_of_ne_zero hh)
          rw [hany]
          obtain ⟨N, hN⟩ : ∃ N, (esc l).length = N := ⟨_, rfl⟩
          have HN := Aside0.mk hN
          rw [hN] at hNle ⊢
          have hmk : ∀ W, (Instr.makeSlice 82 (.int .i64 (N : Int)) (.int .i64 (N : Int))).run Tryz.prog W = .ok (.slice (some ⟨W.heap.size, 0, none⟩) N N) (W.alloc (.cells (madeCells #[.int .u8 0] N) 5)) :=
            run_make_row' 82 5 (.int .u8 0) 1 Tryz.underlying82 (by kernel_rfl) rfl .i64 .i64 N (by omega) (by omega)
          clear hany hh hN
          go_wp2_with fail
          have hBsz := HW.out.size
          have HR0 : Aside0 (Row (wr.alloc (.cells (madeCells #[.int .u8 0] N) 5)) wr.heap.size N (esc (l.take 0))) := ⟨(madeCells #[.int .u8 0] N).toList, by rw [Array.toArray_toList]; exact heap_alloc_new wr _, by simp [size_madeCells], by simp [esc]⟩
          have HW0 : Aside0 (Below w.heap.size w (wr.alloc (.cells (madeCells #[.int .u8 0] N) 5))) := ⟨HW.out.alloc hBsz _⟩
          obtain ⟨B, hB⟩ : ∃ B, wr.heap.size = B := ⟨_, rfl⟩
          rw [hB] at HR0 hBsz ⊢
          clear HW hB
          go_loopw [13, 14] (fun i13 i14 wx => ∃ k : Nat, k ≤ s.size ∧ i13 = .int .i64 ((esc (l.take k)).length : Nat) ∧ i14 = .int .i64 k ∧ Aside0 (Row wx B N (esc (l.take k))) ∧ Aside0 (Below w.heap.size w wx)) (fun _ i _ => s.size - (intOf i).toNat)
          case atStart => exact ⟨0, Nat.zero_le _, rfl, rfl, HR0, HW0⟩
          case round =>
            obtain ⟨k, hk, rfl, rfl, HR, HW⟩ := hrel
            by_cases hlt : k < s.size
            · obtain ⟨c, hc⟩ : ∃ c, s[k]'hlt = c := ⟨_, rfl⟩
              have HL := HLE.out ▸ byte_at s k c hlt hc
              have HT := CodePure.esc_take HL
              have hbnd := CodePure.esc_take_len_le l (k + 1)
              rw [HT, List.length_append, HN.out] at hbnd
              have HX := Aside0.mk HT
              clear HT HL
              have hc0 : (0 : Int) ≤ (c.toNat : Int) := by omega
              have hc1 : (c.toNat : Int) < 256 := by have := c.toNat_lt; omega
              obtain ⟨out, hout⟩ : ∃ out, esc (l.take k) = out := ⟨_, rfl⟩
              rw [hout] at HR HX hbnd ⊢
              clear hout
              obtain ⟨j, hj⟩ : ∃ j, out.length = j := ⟨_, rfl⟩
              have HJ := Aside0.mk hj
              rw [hj] at hbnd ⊢
              clear hj
              rcases bsr_at HB0.out c with ⟨hh, d0⟩ | ⟨hh, a, cp, x, hx, d0, d1, d2⟩
              · have D0 := cell_keep HW.out d0
                rw [CodePure.esc1_same hh] at HX hbnd
                have hjN : j < N := by simp at hbnd; omega
                obtain ⟨⟨y, HC⟩, HZ⟩ := row_cell HR.out j hjN
                have HR2 := Aside0.mk (row_set HR.out (by rw [HJ.out]; exact hjN) c)
                have HW2 : Aside0 (Below w.heap.size w (wr.setCell ⟨B, j, none⟩ (.int .u8 (c.toNat : Int)))) := ⟨HW.out.setCell hBsz _⟩
                rw [HJ.out] at HR2
                have hjj : (j : Int) < (N : Int) := by omega
                clear hh d0
                go_wp2_with fail
                go_roundw
                case rel => exact ⟨k + 1, by omega, by rw [HX.out, List.length_append, HJ.out]; rfl, by go_num, ⟨HX.out ▸ HR2.out⟩, HW2⟩
                case measure => simp [intOf]; omega
              · have D0 := cell_keep HW.out d0
                have D1 := cell_keep HW.out d1
                have D2 := cell_keep HW.out d2
                rw [hx] at HX hbnd
                have hjN : (j : Int) + 2 ≤ (N : Int) := by simp at hbnd; omega
                obtain ⟨L, g1, g2, g3⟩ := HR.out
                have HG := Aside0.mk g1
                have HG2 := Aside0.mk g2
                have HG3 := Aside0.mk g3
                clear hh d0 d1 d2 g1 g2 g3 hx
                have hBh : B < wr.heap.size := by
                  rcases Nat.lt_or_ge B wr.heap.size with h | h
                  · exact h
                  · have := HG.out
                    rw [Array.getElem?_eq_none h] at this
                    cases this
                have hj1 : (j : Int) < (N : Int) := by omega
                have hj2 : j < N := by omega
                have hj3 : j ≤ N := by omega
                have HCS := Aside0.mk (show (([92, x] : Bs).map (fun c => Value.int .u8 (c.toNat : Int))).length = Nat.min 2 (N - j) from (Nat.min_eq_left (show 2 ≤ N - j by omega)).symm)
                have hNj : ¬ N = j := by omega
                have HP : Aside0 (∀ (jj : Nat) (v : Value), (([92, x] : Bs).map (fun c => Value.int .u8 (c.toNat : Int)))[jj]? = some v → wr.cell? ((⟨a, 0, none⟩ : Addr).add jj) = some v) := ⟨fun jj v hv => by
                  match jj, hv with
                  | 0, hv => exact (Option.some.inj hv) ▸ D1
                  | 1, hv => exact (Option.some.inj hv) ▸ D2⟩
                have HF : Aside0 (j + (([92, x] : Bs).map (fun c => Value.int .u8 (c.toNat : Int))).length ≤ L.length) := ⟨by rw [HG2.out]; show j + 2 ≤ N; omega⟩
                have H1 : Aside0 (∀ v ∈ ([92, x] : Bs).map (fun c => Value.int .u8 (c.toNat : Int)), v.oneCell' = true) := ⟨by intro v hv; simp at hv; rcases hv with rfl | rfl <;> rfl⟩
                go_wp2_with fail
                go_region_law (refine step_copy_splice rfl (.tmp 105) (.tmp 111) 82 82 rfl 5 Tryz.underlying82 (by kernel_rfl) _ _ _ _ _ _ rfl rfl B j L 5 HG.out (([92, x] : Bs).map (fun c => Value.int .u8 (c.toNat : Int))) (by first | exact HCS.out | (have := HCS.out; simp at this ⊢; omega)) (fun _ => ⟨rfl, _, rfl, HP.out⟩) HF.out H1.out w.heap.size w (by first | exact HW.out | exact HW.out.drew | exact HW.out.drew.drew) hBsz ?_; intro w4 hg4 hb4)
                have HG4 : Aside0 (w4.heap[B]? = some (.cells (splice L j (([92, x] : Bs).map (fun c => Value.int .u8 (c.toNat : Int)))).toArray 5 (0, 0))) := ⟨hg4⟩
                have HW4 := Aside0.mk hb4
                have HR4 : Aside0 (Row w4 B N (out ++ [92, x])) := ⟨row_splice HG2.out HG3.out (by rw [HJ.out]; show j + 2 ≤ N; omega) (by rw [HJ.out]; exact HG4.out)⟩
                have hwr : IntKind.i64.wrap ((j : Int) + 2) = (j : Int) + 2 := by rw [IntKind.wrap_i64]; omega
                clear hg4 hb4
                go_wp2_with fail
                go_roundw
                case rel => exact ⟨k + 1, by omega, by rw [HX.out, List.length_append, HJ.out]; rfl, by go_num, ⟨HX.out ▸ HR4.out⟩, HW4⟩
                case measure => simp [intOf]; omega
            · obtain rfl : k = s.size := by omega
              clear hlt hk
              have htk : l.take s.size = l := List.take_of_length_le (by omega)
              rw [htk] at HR ⊢
              obtain ⟨L, g1, g2, g3⟩ := HR.out
              rw [HN.out, List.take_of_length_le (by omega)] at g3
              have hcv := run_convert_bytes_back (P := Tryz.prog) wr 82 9 5 ⟨B, 0, none⟩ N (esc l) Tryz.underlying82 Tryz.underlying5 Tryz.underlying9 (fun i hi => by
                have e : ((⟨B, 0, none⟩ : Addr).add i) = ⟨B, i, none⟩ := by unfold Addr.add; split <;> simp_all
                rw [e]
                simp [World.cell?, g1, g3, hi])
              rw [HN.out] at hcv
              clear htk g1 g2 g3
              go_wp2_with fail
              go_ret
              exact ⟨rfl, HW.out⟩
  · go_wp2_with fail
    go_loopw [5, 6, 10] (fun i5 i6 i10 wr => ∃ k : Nat, k ≤ s.size ∧ i5 = .int .i64 ((s.size : Int) + (hits (l.take k) : Nat)) ∧ i6 = .bool (decide (0 < hits (l.take k))) ∧ i10 = .int .i64 k ∧ Aside0 (Below w.heap.size w wr)) (fun _ _ i _ => s.size - (intOf i).toNat)
    case atStart => exact ⟨0, Nat.zero_le _, by simp [hits], by simp [hits], rfl, ⟨Below.refl _ _⟩⟩
    case round =>
      obtain ⟨k, hk, rfl, rfl, rfl, HW⟩ := hrel
      by_cases hlt : k < s.size
      · obtain ⟨c, hc⟩ : ∃ c, s[k]'hlt = c := ⟨_, rfl⟩
        have HL := HLE.out ▸ byte_at s k c hlt hc
        have HT := Aside0.mk (CodePure.hits_take HL)
        have hb1 := CodePure.hits_take_le l k
        have hb2 := CodePure.hits_le l
        have hc0 : (0 : Int) ≤ (c.toNat : Int) := by omega
        have hc1 : (c.toNat : Int) < 256 := by have := c.toNat_lt; omega
        clear HL
        obtain ⟨m, hm⟩ : ∃ m, hits (l.take k) = m := ⟨_, rfl⟩
        have HM := Aside0.mk hm
        rw [hm] at hb1 ⊢
        clear hm
        rcases bsr_at HB0.out c with ⟨hh, d0⟩ | ⟨hh, a, cp, x, hx, d0, d1, d2⟩
        · have D0 := cell_keep HW.out d0
          have HH := Aside0.mk hh
          clear hh d0
          go_wp2_with fail
          go_roundw
          case rel => exact ⟨k + 1, by omega, by rw [HT.out, HM.out, HH.out]; rfl, by rw [HT.out, HM.out, HH.out]; rfl, by go_num, HW⟩
          case measure => simp [intOf]; omega
        · have D0 := cell_keep HW.out d0
          have HH := Aside0.mk hh
          clear hh d0 d1 d2 hx
          go_wp2_with fail
          go_roundw
          case rel => exact ⟨k + 1, by omega, by rw [HT.out, HM.out, HH.out]; go_num, by rw [HT.out, HM.out, HH.out]; simp, by go_num, HW⟩
          case measure => simp [intOf]; omega
      · obtain rfl : k = s.size := by omega
        clear hlt hk
        have htk : l.take s.size = l := List.take_of_length_le (by omega)
        rw [htk]
        clear htk
        have hN : (s.size : Int) + (hits l : Nat) = ((esc l).length : Int) := by rw [CodePure.esc_len, hlen]; omega
        have hNle : (esc l).length ≤ 140737488355328 := by have := CodePure.esc_len l; have := CodePure.hits_le l; omega
        rw [hN]
        clear hN
        by_cases hh : hits l = 0
        · have hany : decide (0 < hits l) = false := by simp [hh]
          have HES : Aside0 (esc l = l) := ⟨CodePure.esc_same hh⟩
          have HSS : Aside0 (s = ⟨l.toArray⟩) := ⟨by rw [← HLE.out]⟩
          rw [hany, HES.out]
          clear hany hh
          go_wp2_with fail
          go_ret
          exact ⟨by rw [HES.out, ← HSS.out]; rfl, HW.out⟩
        · have hany : decide (0 < hits l) = true := decide_eq_true (Nat.pos_of_ne_zero hh)
          rw [hany]
          obtain ⟨N, hN⟩ : ∃ N, (esc l).length = N := ⟨_, rfl⟩
          have HN := Aside0.mk hN
          rw [hN] at hNle ⊢
          have hmk : ∀ W, (Instr.makeSlice 82 (.int .i64 (N : Int)) (.int .i64 (N : Int))).run Tryz.prog W = .ok (.slice (some ⟨W.heap.size, 0, none⟩) N N) (W.alloc (.cells (madeCells #[.int .u8 0] N) 5)) :=
            run_make_row' 82 5 (.int .u8 0) 1 Tryz.underlying82 (by kernel_rfl) rfl .i64 .i64 N (by omega) (by omega)
          clear hany hh hN
          go_wp2_with fail
          have hBsz := HW.out.size
          have HR0 : Aside0 (Row (wr.alloc (.cells (madeCells #[.int .u8 0] N) 5)) wr.heap.size N (esc (l.take 0))) := ⟨(madeCells #[.int .u8 0] N).toList, by rw [Array.toArray_toList]; exact heap_alloc_new wr _, by simp [size_madeCells], by simp [esc]⟩
          have HW0 : Aside0 (Below w.heap.size w (wr.alloc (.cells (madeCells #[.int .u8 0] N) 5))) := ⟨HW.out.alloc hBsz _⟩
          obtain ⟨B, hB⟩ : ∃ B, wr.heap.size = B := ⟨_, rfl⟩
          rw [hB] at HR0 hBsz ⊢
          clear HW hB
          go_loopw [13, 14] (fun i13 i14 wx => ∃ k : Nat, k ≤ s.size ∧ i13 = .int .i64 ((esc (l.take k)).length : Nat) ∧ i14 = .int .i64 k ∧ Aside0 (Row wx B N (esc (l.take k))) ∧ Aside0 (Below w.heap.size w wx)) (fun _ i _ => s.size - (intOf i).toNat)
          case atStart => exact ⟨0, Nat.zero_le _, rfl, rfl, HR0, HW0⟩
          case round =>
            obtain ⟨k, hk, rfl, rfl, HR, HW⟩ := hrel
            by_cases hlt : k < s.size
            · obtain ⟨c, hc⟩ : ∃ c, s[k]'hlt = c := ⟨_, rfl⟩
              have HL := HLE.out ▸ byte_at s k c hlt hc
              have HT := CodePure.esc_take HL
              have hbnd := CodePure.esc_take_len_le l (k + 1)
              rw [HT, List.length_append, HN.out] at hbnd
              have HX := Aside0.mk HT
              clear HT HL
              have hc0 : (0 : Int) ≤ (c.toNat : Int) := by omega
              have hc1 : (c.toNat : Int) < 256 := by have := c.toNat_lt; omega
              obtain ⟨out, hout⟩ : ∃ out, esc (l.take k) = out := ⟨_, rfl⟩
              rw [hout] at HR HX hbnd ⊢
              clear hout
              obtain ⟨j, hj⟩ : ∃ j, out.length = j := ⟨_, rfl⟩
              have HJ := Aside0.mk hj
              rw [hj] at hbnd ⊢
              clear hj
              rcases bsr_at HB0.out c with ⟨hh, d0⟩ | ⟨hh, a, cp, x, hx, d0, d1, d2⟩
              · have D0 := cell_keep HW.out d0
                rw [CodePure.esc1_same hh] at HX hbnd
                have hjN : j < N := by simp at hbnd; omega
                obtain ⟨⟨y, HC⟩, HZ⟩ := row_cell HR.out j hjN
                have HR2 := Aside0.mk (row_set HR.out (by rw [HJ.out]; exact hjN) c)
                have HW2 : Aside0 (Below w.heap.size w (wr.setCell ⟨B, j, none⟩ (.int .u8 (c.toNat : Int)))) := ⟨HW.out.setCell hBsz _⟩
                rw [HJ.out] at HR2
                have hjj : (j : Int) < (N : Int) := by omega
                clear hh d0
                go_wp2_with fail
                go_roundw
                case rel => exact ⟨k + 1, by omega, by rw [HX.out, List.length_append, HJ.out]; rfl, by go_num, ⟨HX.out ▸ HR2.out⟩, HW2⟩
                case measure => simp [intOf]; omega
              · have D0 := cell_keep HW.out d0
                have D1 := cell_keep HW.out d1
                have D2 := cell_keep HW.out d2
                rw [hx] at HX hbnd
                have hjN : (j : Int) + 2 ≤ (N : Int) := by simp at hbnd; omega
                obtain ⟨L, g1, g2, g3⟩ := HR.out
                have HG := Aside0.mk g1
                have HG2 := Aside0.mk g2
                have HG3 := Aside0.mk g3
                clear hh d0 d1 d2 g1 g2 g3 hx
                have hBh : B < wr.heap.size := by
                  rcases Nat.lt_or_ge B wr.heap.size with h | h
                  · exact h
                  · have := HG.out
                    rw [Array.getElem?_eq_none h] at this
                    cases this
                have hj1 : (j : Int) < (N : Int) := by omega
                have hj2 : j < N := by omega
                have hj3 : j ≤ N := by omega
                have HCS := Aside0.mk (show (([92, x] : Bs).map (fun c => Value.int .u8 (c.toNat : Int))).length = Nat.min 2 (N - j) from (Nat.min_eq_left (show 2 ≤ N - j by omega)).symm)
                have hNj : ¬ N = j := by omega
                have HP : Aside0 (∀ (jj : Nat) (v : Value), (([92, x] : Bs).map (fun c => Value.int .u8 (c.toNat : Int)))[jj]? = some v → wr.cell? ((⟨a, 0, none⟩ : Addr).add jj) = some v) := ⟨fun jj v hv => by
                  match jj, hv with
                  | 0, hv => exact (Option.some.inj hv) ▸ D1
                  | 1, hv => exact (Option.some.inj hv) ▸ D2⟩
                have HF : Aside0 (j + (([92, x] : Bs).map (fun c => Value.int .u8 (c.toNat : Int))).length ≤ L.length) := ⟨by rw [HG2.out]; show j + 2 ≤ N; omega⟩
                have H1 : Aside0 (∀ v ∈ ([92, x] : Bs).map (fun c => Value.int .u8 (c.toNat : Int)), v.oneCell' = true) := ⟨by intro v hv; simp at hv; rcases hv with rfl | rfl <;> rfl⟩
                go_wp2_with fail
                go_region_law (refine step_copy_splice rfl (.tmp 105) (.tmp 111) 82 82 rfl 5 Tryz.underlying82 (by kernel_rfl) _ _ _ _ _ _ rfl rfl B j L 5 HG.out (([92, x] : Bs).map (fun c => Value.int .u8 (c.toNat : Int))) (by first | exact HCS.out | (have := HCS.out; simp at this ⊢; omega)) (fun _ => ⟨rfl, _, rfl, HP.out⟩) HF.out H1.out w.heap.size w (by first | exact HW.out | exact HW.out.drew | exact HW.out.drew.drew) hBsz ?_; intro w4 hg4 hb4)
                have HG4 : Aside0 (w4.heap[B]? = some (.cells (splice L j (([92, x] : Bs).map (fun c => Value.int .u8 (c.toNat : Int)))).toArray 5 (0, 0))) := ⟨hg4⟩
                have HW4 := Aside0.mk hb4
                have HR4 : Aside0 (Row w4 B N (out ++ [92, x])) := ⟨row_splice HG2.out HG3.out (by rw [HJ.out]; show j + 2 ≤ N; omega) (by rw [HJ.out]; exact HG4.out)⟩
                have hwr : IntKind.i64.wrap ((j : Int) + 2) = (j : Int) + 2 := by rw [IntKind.wrap_i64]; omega
                clear hg4 hb4
                go_wp2_with fail
                go_roundw
                case rel => exact ⟨k + 1, by omega, by rw [HX.out, List.length_append, HJ.out]; rfl, by go_num, ⟨HX.out ▸ HR4.out⟩, HW4⟩
                case measure => simp [intOf]; omega
            · obtain rfl : k = s.size := by omega
              clear hlt hk
              have htk : l.take s.size = l := List.take_of_length_le (by omega)
              rw [htk] at HR ⊢
              obtain ⟨L, g1, g2, g3⟩ := HR.out
              rw [HN.out, List.take_of_length_le (by omega)] at g3
              have hcv := run_convert_bytes_back (P := Tryz.prog) wr 82 9 5 ⟨B, 0, none⟩ N (esc l) Tryz.underlying82 Tryz.underlying5 Tryz.underlying9 (fun i hi => by
                have e : ((⟨B, 0, none⟩ : Addr).add i) = ⟨B, i, none⟩ := by unfold Addr.add; split <;> simp_all
                rw [e]
                simp [World.cell?, g1, g3, hi])
              rw [HN.out] at hcv
              clear htk g1 g2 g3
              go_wp2_with fail
              go_ret
              exact ⟨rfl, HW.out⟩
end Go.Proofs.YtmgcpjgpmjhemaaGreatDoor.Pc

/-
(*strings.Replacer).buildOnce and (*strings.Replacer).Replace.
-/
namespace Go.Proofs.YtmgcpjgpmjhemaaGreatDoor.Pc
open Go.RowKit Go.Proofs.YtmgcpjgpmjhemaaGreatDoorW.PrintWords Go.Proofs.YtmgcpjgpmjhemaaGreatDoorW.PrintLast Go.Proofs.YtmgcpjgpmjhemaaGreatDoorW.PrintMore
open CodePure (esc)
set_option linter.unusedVariables false

theorem IsBsr.apart {w w' : World} {q p : Nat} {z : Int} (h : IsBsr w q) (h0 : w.cell? ⟨p, 0, none⟩ = some (.int .u32 z)) (hk : ∀ a : Addr, a.block ≠ p → w'.cell? a = w.cell? a) : IsBsr w' q := by
  have ne : ∀ (b : Nat) (v : Value), w.cell? ⟨b, 0, none⟩ = some v → v ≠ .int .u32 z → b ≠ p := by
    rintro b v hb hv rfl
    rw [h0] at hb
    exact hv (Option.some.inj hb).symm
  obtain ⟨no, ⟨a1, c1, p1, p2, p3⟩, ⟨a2, c2, q1, q2, q3⟩, ⟨a3, c3, r1, r2, r3⟩, ⟨b, c, s1, s2, s3, s4⟩⟩ := h
  have hq := ne q _ (no 0 (by decide) (by decide) (by decide) (by decide)) (by simp)
  have h1 := ne a1 _ p2 (by simp)
  have h2 := ne a2 _ q2 (by simp)
  have h3 := ne a3 _ r2 (by simp)
  have h4 := ne b _ s2 (by simp)
  exact ⟨fun i hi x1 x2 x3 => (hk _ hq).trans (no i hi x1 x2 x3), ⟨a1, c1, (hk _ hq).trans p1, (hk _ h1).trans p2, (hk _ h1).trans p3⟩, ⟨a2, c2, (hk _ hq).trans q1, (hk _ h2).trans q2, (hk _ h2).trans q3⟩,
    ⟨a3, c3, (hk _ hq).trans r1, (hk _ h3).trans r2, (hk _ h3).trans r3⟩, ⟨b, c, (hk _ hq).trans s1, (hk _ h4).trans s2, (hk _ h4).trans s3, (hk _ h4).trans s4⟩⟩
theorem set_far (w : World) (p i : Nat) (v : Value) (a : Addr) (ha : a.block ≠ p) : (w.setCell ⟨p, i, none⟩ v).cell? a = w.cell? a :=
  World.cell?_setCell_other _ _ _ _ (fun e => ha (by rw [← e]))

/-- What lies behind 'buildOnce': the Replacer 'p' holds a byteStringReplacer; 'd', 'l': its Once. -/
structure Built (d l : Int) (p : Nat) (w w' : World) : Prop where
  d : w'.cell? ⟨p, 0, none⟩ = some (.int .u32 d)
  l : w'.cell? ⟨p, 1, none⟩ = some (.int .i32 l)
  z : ∀ i, w'.frozen? ⟨p, i, none⟩ = false
  b : Below p w w'
  r : ∃ q, w'.cell? ⟨p, 3, none⟩ = some (.iface 204 (.pointer (some ⟨q, 0, none⟩))) ∧ IsBsr w' q

set_option maxRecDepth 100000 in
set_option maxHeartbeats 1600000 in
theorem repl_buildOnce (p ob : Nat) (w : World) (h : IsRepl 1 w p ob) :
    Calls Tryz.prog 91 #[.pointer (some ⟨p, 0, none⟩)] w fun e w' => e = .returned (.tuple #[]) ∧ Built 0 1 p w w' := by
  have HI := Aside0.mk h
  obtain ⟨hd, hl, hr, ⟨oc, ho⟩, hz, hlt, _⟩ := h
  have hp := World.block_lt_of_cell? w _ hd
  go_enter Tryz.func91, Tryz.ntmps91
  go_wp2_with (go_at_call 122; refine (repl_build p ob _ HI.out).mono ?_; rintro e w1 ⟨q, rfl, hb, hbl⟩; have d0 := cell_keep hbl hd; have d1 := cell_keep hbl hl; have d3 := cell_keep hbl hr; have d4 := cell_keep hbl ho; have z3 : ∀ i, w1.frozen? ⟨p, i, none⟩ = false := fun i => (hbl.frozen hp).trans (hz i); have e4 : ∀ v, (w1.setCell ⟨p, 3, none⟩ v).cell? ⟨p, 4, none⟩ = some (.slice (some ⟨ob, 0, none⟩) 6 oc) := fun v => (World.cell?_setCell_other _ _ _ _ (by simp)).trans d4; have ez : ∀ v, (w1.setCell ⟨p, 3, none⟩ v).frozen? ⟨p, 4, none⟩ = false := fun v => by simp [z3])
  first | go_end0 | (simp only [Exit.inBlock, Exit.then]; refine bodyPost_ret (results_none rfl _ _ _) rfl ?_) | refine bodyPost_ret (results_none rfl _ _ _) rfl ?_
  refine ⟨rfl, ?_, ?_, ?_, ?_, q, ?_, ?_⟩
  · exact (World.cell?_setCell_other _ _ _ _ (by simp)).trans ((World.cell?_setCell_other _ _ _ _ (by simp)).trans d0)
  · exact (World.cell?_setCell_other _ _ _ _ (by simp)).trans ((World.cell?_setCell_other _ _ _ _ (by simp)).trans d1)
  · intro i; simp [z3]
  · exact ((hbl.mono (Nat.le_of_lt hp)).setCell (Nat.le_refl p) _).setCell (Nat.le_refl p) _
  · exact (World.cell?_setCell_other _ _ _ _ (by simp)).trans (World.cell?_setCell_same _ _ _ d3)
  · exact hb.apart d0 (fun a ha => (set_far _ _ _ _ a ha).trans (set_far _ _ _ _ a ha))

theorem repl_once (p ob : Nat) (w : World) (h : IsRepl 0 w p ob) :
    Calls Tryz.prog 90 #[.pointer (some ⟨p, 0, none⟩), .func (.func 91) #[.pointer (some ⟨p, 0, none⟩)] #[]] w fun e w' => e = .returned (.tuple #[]) ∧ Built 1 0 p w w' := by
  have hd := h.d
  have hl := h.l
  have hz := h.z
  obtain ⟨oc, ho⟩ := h.o
  have hI : IsRepl 1 (w.setCell ⟨p, 1, none⟩ (.int .i32 1)) p ob := by
    refine ⟨(World.cell?_setCell_other _ _ _ _ (by simp)).trans hd, World.cell?_setCell_same _ _ _ hl, (World.cell?_setCell_other _ _ _ _ (by simp)).trans h.r, ⟨oc, (World.cell?_setCell_other _ _ _ _ (by simp)).trans ho⟩, fun i => by simp [hz], h.lt, ?_⟩
    have hne : ∀ i, (w.setCell ⟨p, 1, none⟩ (.int .i32 1)).cell? ⟨ob, i, none⟩ = w.cell? ⟨ob, i, none⟩ := fun i => set_far w p 1 _ ⟨ob, i, none⟩ (Nat.ne_of_lt h.lt)
    exact ⟨(hne 0).trans h.cs.c0, (hne 1).trans h.cs.c1, (hne 2).trans h.cs.c2, (hne 3).trans h.cs.c3, (hne 4).trans h.cs.c4, (hne 5).trans h.cs.c5⟩
  refine (do_once p #[.pointer (some ⟨p, 0, none⟩)] w (Built 0 1 p (w.setCell ⟨p, 1, none⟩ (.int .i32 1))) hd hl (hz 0) (hz 1) (fun w1 h1 => ⟨h1.d, h1.l, h1.z 0, h1.z 1⟩) (repl_buildOnce p ob _ hI)).mono ?_
  rintro e w' ⟨rfl, w1, h1, rfl⟩
  obtain ⟨q, hr, hb⟩ := h1.r
  have c0 : w1.drew.cell? ⟨p, 0, none⟩ = some (.int .u32 0) := h1.d
  have c1 : w1.drew.cell? ⟨p, 1, none⟩ = some (.int .i32 1) := h1.l
  refine ⟨rfl, ?_, ?_, ?_, ?_, q, ?_, ?_⟩
  · exact (World.cell?_setCell_other _ _ _ _ (by simp)).trans (World.cell?_setCell_same _ _ _ c0)
  · exact World.cell?_setCell_same _ _ _ ((World.cell?_setCell_other _ _ _ _ (by simp)).trans c1)
  · intro i; simp [h1.z]
  · exact ((((Below.refl p w).setCell (Nat.le_refl p) _).trans h1.b).drew.setCell (Nat.le_refl p) _).setCell (Nat.le_refl p) _
  · exact (World.cell?_setCell_other _ _ _ _ (by simp)).trans ((World.cell?_setCell_other _ _ _ _ (by simp)).trans hr)
  · exact hb.apart h1.d (fun a ha => (set_far _ _ _ _ a ha).trans (set_far _ _ _ _ a ha))

set_option maxRecDepth 100000 in
set_option maxHeartbeats 1600000 in
theorem repl_Replace (p ob : Nat) (s : ByteArray) (w : World) (h : IsRepl 0 w p ob) (hsz : s.size ≤ 70368744177664) :
    Calls Tryz.prog 46 #[.pointer (some ⟨p, 0, none⟩), .string s] w fun e w' => e = .returned (.string ⟨(esc s.data.toList).toArray⟩) ∧ Below p w w' := by
  have HI := Aside0.mk h
  clear h
  have hm : ∀ (q : Nat) (w : World), (method 429 204 (.pointer (some ⟨q, 0, none⟩)) "Replace").run Tryz.prog w = .ok (283, .pointer (some ⟨q, 0, none⟩)) w := fun _ _ => by kernel_rfl
  have hmf : ∀ (fn : Fn) (first cap : Array Value) (w : World), (Instr.makeFunc fn first cap).run Tryz.prog w = .ok (.func fn first cap) w := fun _ _ _ _ => rfl
  go_enter Tryz.func46, Tryz.ntmps46
  go_wp2_with (first
    | (go_at_call 90; refine (repl_once p ob _ HI.out).mono ?_; rintro e w1 ⟨rfl, hB⟩; have hBd := hB.d; obtain ⟨q, hr, hb⟩ := hB.r; have HBQ := Aside0.mk hb; have HBB := Aside0.mk hB.b; clear hb hB)
    | (go_at_call 283; refine (bsr_Replace q s _ HBQ.out hsz).mono ?_; rintro e w2 ⟨rfl, hb2⟩; have HB2 := Aside0.mk hb2; clear hb2))
  go_ret
  exact ⟨rfl, HBB.out.trans (HB2.out.mono (Nat.le_of_lt (World.block_lt_of_cell? _ _ hBd)))⟩
end Go.Proofs.YtmgcpjgpmjhemaaGreatDoor.Pc
