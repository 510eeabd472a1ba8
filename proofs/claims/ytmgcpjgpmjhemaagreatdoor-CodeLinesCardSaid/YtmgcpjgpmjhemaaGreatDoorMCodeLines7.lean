/-
Parts of the proof of CodeLines: ParseBack, RefPure, RefUnq, RefParse, AlivePure, Pc1, ExtOnce, ExtRepl, ExtReplB, ExtReplC, ExtLine. No condition of ours.
-/
import Derived.Test.YtmgcpjgpmjhemaaGreatDoorMCodeLines6
import Derived.Test.YtmgcpjgpmjhemaaGreatDoorMCodeLines4
import Derived.IntWalk
import Derived.Lib.IndexBytes
import Derived.Test.YtmgcpjgpmjhemaaGreatDoorMCodeLines5
import Derived.Test.YtmgcpjgpmjhemaaGreatDoorMCodeLines1
import Derived.WalkKit
import Derived.Laws.LoneSync
import Derived.Defers
import Derived.WalkSpells
import Derived.Deep.AppendLies
import Derived.Laws.MakeOwn
import Derived.Laws.IdiomStrings
import Derived.Laws.NewBlocks
import Derived.Lib.SliceRun
import Derived.Deep.WholeRow
import Derived.Outline
import Derived.BigQuiet
import Derived.Laws.CopyOwn
import Derived.Test.YtmgcpjgpmjhemaaGreatDoorMCodeLines2
import Derived.Deep.RegionHeld3
/-
A line is read as its instruction; what is read, written, is what was read.
-/
namespace Go.Proofs.YtmgcpjgpmjhemaaGreatDoor.Pc
open Go.RowKit Go.Proofs.YtmgcpjgpmjhemaaGreatDoorW.PrintWords Go.Proofs.YtmgcpjgpmjhemaaGreatDoorW.PrintLast Go.Proofs.YtmgcpjgpmjhemaaGreatDoorW.PrintMore
open CodePure (esc Bs unesc figs)
set_option linter.unusedVariables false

theorem name_facts (op : Int) (h : 0 ≤ op ∧ op ≤ 23) : idxL (nameL op) = op ∧ (∀ c ∈ nameL op, c ≠ 32) ∧ (∀ c ∈ nameL op, c ≠ 10) := by
  have hk : ∀ k : Nat, k < 24 → (decide (idxL (nameL k) = k) && (nameL k).all (fun c => c != 32) && (nameL k).all (fun c => c != 10)) = true := by decide +kernel
  have := hk op.toNat (by omega)
  rw [show ((op.toNat : Nat) : Int) = op by omega] at this
  simp only [Bool.and_eq_true, decide_eq_true_eq, List.all_eq_true, bne_iff_ne] at this
  exact ⟨this.1.1, this.1.2, this.2⟩
theorem idxFrom_at (a : Bs) : ∀ (l : List Bs) (i j : Int), idxFrom a l i = j → 0 ≤ i → i ≤ j → l.getD (j - i).toNat [] = a
  | [], i, j, h, h0, hj => by
    simp only [idxFrom] at h
    omega
  | b :: l, i, j, h, h0, hj => by
    unfold idxFrom at h
    split at h
    · rename_i e
      subst h
      simp [e]
    · rcases idxFrom_lt a l (i + 1) with hx | hx
      · omega
      · have := idxFrom_at a l (i + 1) j h (by omega) (by omega)
        rw [show (j - i).toNat = (j - (i + 1)).toNat + 1 by omega]
        simpa using this
theorem idxL_name {a : Bs} {i : Int} (h : idxL a = i) (hi : 0 ≤ i) : nameL i = a := by
  have := idxFrom_at a namesL 0 i h (Int.le_refl 0) hi
  rwa [show (i - 0).toNat = i.toNat by omega] at this

theorem may_parts {op n : Int} {s : Bs} (h : mayB op n s = true) : (0 ≤ op ∧ op ≤ 23) ∧ (op = 0 → s = []) ∧ (op = 2 → 0 ≤ n ∧ n < 50 ∧ s = []) ∧ (op = 1 → n = 0 ∧ s.length ≤ 1000) ∧ (op ≠ 0 → op ≠ 1 → op ≠ 2 → n = 0 ∧ s = []) := by
  unfold mayB at h
  simp only [Bool.and_eq_true, decide_eq_true_eq] at h
  obtain ⟨⟨h1, h2⟩, h3⟩ := h
  refine ⟨h1, ?_, ?_, ?_, ?_⟩
  · rintro rfl; simpa using h3
  · rintro rfl
    simp at h2 h3
    exact ⟨h2.1, h2.2, h3⟩
  · rintro rfl
    simp at h2 h3
    exact ⟨h2, h3⟩
  · intro a b c
    simp [a, b, c] at h2 h3
    exact ⟨h2, h3⟩

theorem quotedL_esc (s : Bs) : quotedL (34 :: (esc s ++ [34])) = some s := by
  unfold quotedL
  rw [if_neg (by simp), if_neg (by simp)]
  have e : (34 :: (esc s ++ [34])).getLast? = some 34 := by
    rw [show (34 :: (esc s ++ [34]) : Bs) = (34 :: esc s) ++ [34] from rfl, List.getLast?_append]
    simp
  rw [e, if_neg (by simp)]
  simp [CodePure.unesc_esc]
theorem quotedL_back {a t : Bs} (h : quotedL a = some t) : a = 34 :: (esc t ++ [34]) := by
  unfold quotedL at h
  split at h
  · cases h
  · split at h
    · cases h
    · split at h
      · cases h
      · rename_i h1 h2 h3
        have h2' : a.head? = some 34 := Decidable.not_not.1 h2
        have h3' : a.getLast? = some 34 := Decidable.not_not.1 h3
        have := CodePure.esc_unesc h
        rw [this]
        cases a with
        | nil => simp at h1
        | cons c r =>
          simp at h2'
          subst h2'
          simp only [List.drop_succ_cons, List.drop_zero]
          have hr : r ≠ [] := by rintro rfl; simp at h1
          have hl : r.getLast? = some 34 := by rwa [List.getLast?_cons_of_ne_nil hr] at h3'
          congr 1
          have hx := List.dropLast_concat_getLast hr
          rw [List.getLast?_eq_some_getLast hr] at hl
          injection hl with hl
          rw [hl] at hx
          exact hx.symm

theorem parse_line (op n : Int) (s : Bs) (hn : wfI n) (h : mayB op n s = true) : parseL (lineL op n s) = some (op, n, s) := by
  obtain ⟨hop, p0, p2, p1, pe⟩ := may_parts h
  obtain ⟨f1, f2, f3⟩ := name_facts op hop
  unfold lineL
  by_cases h02 : op = 0 ∨ op = 2
  · rw [if_pos h02]
    have hs : s = [] := by rcases h02 with e | e; exact p0 e; exact (p2 e).2.2
    subst hs
    rw [List.append_assoc, show ([32] ++ Lib.itoa n : Bs) = 32 :: Lib.itoa n from rfl]
    unfold parseL
    rw [cut1_app _ _ f2]
    simp only [f1]
    rw [if_pos h02, CodePure.figs_itoa n hn.1 hn.2]
    simp [h]
  · rw [if_neg h02]
    by_cases h1 : op = 1
    · subst h1
      obtain ⟨rfl, _⟩ := p1 rfl
      rw [if_pos rfl, show (nameL 1 ++ [32, 34] ++ esc s ++ [34] : Bs) = nameL 1 ++ 32 :: (34 :: (esc s ++ [34])) by simp]
      unfold parseL
      rw [cut1_app _ _ f2]
      simp only [f1]
      rw [if_neg h02, if_pos trivial, quotedL_esc]
      simp [h]
    · rw [if_neg h1]
      obtain ⟨rfl, rfl⟩ := pe (fun e => h02 (.inl e)) h1 (fun e => h02 (.inr e))
      unfold parseL
      rw [cut1_none _ f2]
      simp only [f1]
      rw [if_neg h02, if_neg h1, if_pos ⟨hop.1, trivial, h⟩]

theorem line_parse {s : Bs} {i n : Int} {t : Bs} (h : parseL s = some (i, n, t)) : mayB i n t = true ∧ lineL i n t = s ∧ wfI n := by
  have hb := cut1_back s
  unfold parseL at h
  generalize cut1 s = p at *
  obtain ⟨a, r, m⟩ := p
  simp only at h hb
  have hw0 : wfI 0 := ⟨by decide, by decide⟩
  split at h
  · rename_i h02
    split at h
    · rename_i v hv
      split at h
      · rename_i hm
        simp only [Option.some.injEq, Prod.mk.injEq] at h
        obtain ⟨rfl, rfl, rfl⟩ := h
        refine ⟨hm, ?_, figs_wf hv⟩
        have hi0 : 0 ≤ idxL a := by omega
        have hnm := idxL_name (a := a) rfl hi0
        have hit := CodePure.figs_some hv
        unfold lineL
        rw [if_pos h02, hnm, hit]
        cases m with
        | true => rw [hb.1 rfl]; simp
        | false =>
          obtain ⟨_, rfl⟩ := hb.2 rfl
          rw [CodePure.figs_nil] at hv
          cases hv
      · cases h
    · cases h
  · rename_i h02
    split at h
    · rename_i h1
      split at h
      · rename_i v hv
        split at h
        · rename_i hm
          simp only [Option.some.injEq, Prod.mk.injEq] at h
          obtain ⟨rfl, rfl, rfl⟩ := h
          refine ⟨hm, ?_, hw0⟩
          have hnm := idxL_name (a := a) h1 (by decide)
          have hq := quotedL_back hv
          unfold lineL
          rw [if_neg (by decide), if_pos rfl, hnm]
          cases m with
          | true => rw [hb.1 rfl, hq]; simp
          | false =>
            obtain ⟨_, rfl⟩ := hb.2 rfl
            cases hq
        · cases h
      · cases h
    · rename_i h1
      split at h
      · rename_i hc
        simp only [Option.some.injEq, Prod.mk.injEq] at h
        obtain ⟨rfl, rfl, rfl⟩ := h
        refine ⟨hc.2.2, ?_, hw0⟩
        have hnm := idxL_name (a := a) rfl hc.1
        unfold lineL
        rw [if_neg h02, if_neg h1, hnm]
        exact (hb.2 hc.2.1).1.symm
      · cases h

theorem line_no10 (op n : Int) (s : Bs) (hop : 0 ≤ op ∧ op ≤ 23) : ∀ c ∈ lineL op n s, c ≠ 10 := by
  obtain ⟨_, _, f3⟩ := name_facts op hop
  have f1 := (name_facts 1 (by decide)).2.2
  intro c hc
  unfold lineL at hc
  split at hc
  · rcases List.mem_append.1 hc with hc | hc
    · rcases List.mem_append.1 hc with hc | hc
      · exact f3 c hc
      · simp at hc; rw [hc]; decide
    · exact CodePure.itoa_no n 10 (.inl rfl) c hc
  · split at hc
    · rcases List.mem_append.1 hc with hc | hc
      · rcases List.mem_append.1 hc with hc | hc
        · rcases List.mem_append.1 hc with hc | hc
          · exact f1 c hc
          · simp at hc; rcases hc with rfl | rfl <;> decide
        · exact CodePure.esc_no10 s c hc
      · simp at hc; rw [hc]; decide
    · exact f3 c hc
end Go.Proofs.YtmgcpjgpmjhemaaGreatDoor.Pc

/-
The reference's functions of one instruction compute what ours compute: May, Name, Figures, quoted, Line; and of a program: Print.
-/
namespace Go.Proofs.YtmgcpjgpmjhemaaGreatDoor.Pc
open Go.RowKit Go.Proofs.YtmgcpjgpmjhemaaGreatDoorW.PrintWords Go.Proofs.YtmgcpjgpmjhemaaGreatDoorW.PrintLast Go.Proofs.YtmgcpjgpmjhemaaGreatDoorW.PrintMore
open CodePure (esc Bs unesc figs)
open Go.Lib (decDigits itoa)
set_option linter.unusedVariables false

def ib (l : Bs) : List Int := l.map fun b => (b.toNat : Int)
theorem str_ib (l : Bs) : strOfNums (ib l) = bs l := by
  simp [strOfNums, ib, bs, Function.comp_def]
theorem ib_app (a b : Bs) : ib (a ++ b) = ib a ++ ib b := by simp [ib]
theorem ib_len (a : Bs) : (ib a).length = a.length := by simp [ib]
theorem byteN (c d : UInt8) : ((c.toNat : Int) = (d.toNat : Int)) ↔ c = d := ⟨fun h => UInt8.toNat_inj.1 (by omega), fun h => by rw [h]⟩

theorem refMay_eq (op n : Int) (s : ByteArray) : threshingref14_May.f op n s = some (mayB op n s.data.toList) := by
  have hl : s.toList = s.data.toList := ByteArray.toList_eq s
  have hz : s.data.toList.length = s.size := by simp
  unfold threshingref14_May.f mayB
  rw [hl, hz]
  by_cases hr : 0 ≤ op ∧ op ≤ 23
  · rw [if_neg (by omega), if_neg (by omega), decide_eq_true hr, Bool.true_and]
    by_cases h1 : op = 1
    · subst h1
      rw [if_pos rfl]
      by_cases hs : (s.size : Int) > 1000
      · have h2 : ¬ s.size ≤ 1000 := by omega
        rw [if_pos hs]
        simp [h2]
      · have h2 : s.size ≤ 1000 := by omega
        rw [if_neg hs, if_neg (by decide), if_neg (by decide)]
        simp [h2]
        rfl
    · rw [if_neg h1, if_neg h1]
      by_cases hs : s.data.toList = []
      · have h2 : ¬ (s.size : Int) > 1000 := by rw [hs] at hz; simp at hz; omega
        rw [if_pos hs, if_neg h2]
        by_cases h0 : op = 0
        · simp [h0, hs]
        · by_cases h3 : op = 2
          · subst h3
            by_cases ha : n ≥ 0
            · by_cases hb : n ≤ 49
              · simp [ha, hb, hs]; omega
              · simp [ha, hb]; omega
            · simp [ha]
          · rw [if_neg h0, if_neg h3, if_neg h0, if_neg h3]
            simp [hs]
            rfl
      · rw [if_neg hs]
        simp [hs]
  · rw [decide_eq_false hr]
    by_cases h0 : op < 0
    · rw [if_pos h0]; simp
    · rw [if_neg h0, if_pos (by omega)]; simp

theorem refName_eq (op : Int) (h0 : 0 ≤ op) (h1 : op ≤ 23) : threshingref14_Name.f op = some (bs (nameL op)) := by
  have hk : ∀ k : Nat, k < 24 → (threshingref14_Name.f k).map (·.data) = some (nameL k).toArray := by decide +kernel
  have := hk op.toNat (by omega)
  rw [show ((op.toNat : Nat) : Int) = op by omega] at this
  cases hq : threshingref14_Name.f op with
  | none => rw [hq] at this; cases this
  | some b =>
    rw [hq] at this
    simp only [Option.map_some, Option.some.injEq] at this
    cases b with
    | mk d => rw [show d = (nameL op).toArray from this]; rfl

theorem refFig (k : Nat) : ∀ u : Nat, u < 10 ^ (k + 1) → u < 18446744073709551616 → threshingref13_figures.f (k + 1) u = some (bs (decDigits u)) ∧ (decDigits u).length ≤ k + 1 := by
  have one : ∀ u : Nat, strOfNums (([(IntKind.u64.wrap (48 + (Int.tmod (u : Int) 10))) % 256] : List Int)) = bs [UInt8.ofNat (48 + u % 10)] := fun u => by
    have e : Int.tmod (u : Int) 10 = ((u % 10 : Nat) : Int) := rfl
    rw [e, IntWalk.u64_in _ (by omega), show ((48 : Int) + ((u % 10 : Nat) : Int)) % 256 = ((48 + u % 10 : Nat) : Int) by omega]
    rfl
  induction k with
  | zero =>
    intro u hu hu2
    have h10 : u < 10 := by simpa using hu
    rw [decDigits, dif_pos h10]
    refine ⟨?_, by simp⟩
    simp only [threshingref13_figures.f, Option.bind_some]
    rw [if_pos (by omega), one, Nat.mod_eq_of_lt h10]
  | succ k ih =>
    intro u hu hu2
    simp only [threshingref13_figures.f, Option.bind_some]
    rw [one]
    by_cases h10 : u < 10
    · rw [decDigits, dif_pos h10, if_pos (by omega), Nat.mod_eq_of_lt h10]
      exact ⟨rfl, by simp⟩
    · have e : Int.tdiv (u : Int) 10 = ((u / 10 : Nat) : Int) := rfl
      have hp : u / 10 < 10 ^ (k + 1) := by
        rw [Nat.pow_succ] at hu
        omega
      obtain ⟨h1, h2⟩ := ih (u / 10) hp (by omega)
      simp only [threshingref13_figures.f, Option.bind_some] at h1
      rw [decDigits, dif_neg h10, if_neg (by omega), e, IntWalk.u64_in _ (by omega), h1, bs_append]
      refine ⟨?_, by simp; omega⟩
      simp only [Option.bind_some]
      have hz : (bs (decDigits (u / 10))).size = (decDigits (u / 10)).length := rfl
      have hz2 : (bs [UInt8.ofNat (48 + u % 10)]).size = 1 := rfl
      by_cases hk : k ≤ 100
      · rw [if_pos (by omega)]
      · have hd : (decDigits (u / 10)).length ≤ 20 + 1 := by
          have := (refFigLen 20 (u / 10) (by omega))
          exact this
        rw [if_pos (by omega)]
where
  refFigLen (k : Nat) : ∀ u : Nat, u < 10 ^ (k + 1) → (decDigits u).length ≤ k + 1 := by
    induction k with
    | zero =>
      intro u hu
      have h10 : u < 10 := by simpa using hu
      rw [decDigits, dif_pos h10]
      simp
    | succ k ih =>
      intro u hu
      by_cases h10 : u < 10
      · rw [decDigits, dif_pos h10]
        simp
      · have := ih (u / 10) (by rw [Nat.pow_succ] at hu; omega)
        rw [decDigits, dif_neg h10]
        simp
        omega

theorem refFigures_eq (n : Int) (h : wfI n) (k : Nat) (hk : 25 ≤ k) : threshingref13_Figures.f k n = some (bs (itoa n)) := by
  obtain ⟨h1, h2⟩ := h
  obtain ⟨k, rfl⟩ : ∃ m, k = (m + 24) + 1 := ⟨k - 25, by omega⟩
  have hpow : (100000000000000000000 : Nat) ≤ 10 ^ (k + 24 + 1) := by
    rw [show k + 24 + 1 = 20 + (k + 5) by omega, Nat.pow_add]
    have : 0 < 10 ^ (k + 5) := Nat.pow_pos (by omega)
    calc (100000000000000000000 : Nat) = 10 ^ 20 * 1 := by decide
      _ ≤ 10 ^ 20 * 10 ^ (k + 5) := Nat.mul_le_mul_left _ this
  have hz : ∀ l : Bs, (bs l).size = l.length := fun _ => rfl
  unfold threshingref13_Figures.f itoa
  by_cases hn : n < 0
  · obtain ⟨f1, f2⟩ := refFig (k + 24) n.natAbs (by omega) (by omega)
    have f3 := refFig.refFigLen 20 n.natAbs (by omega)
    have e : IntKind.u64.wrap (-(IntKind.u64.wrap n)) = (n.natAbs : Int) := by
      have hw : IntKind.u64.wrap n = n + 18446744073709551616 := by
        show n % 18446744073709551616 = _
        omega
      rw [hw]
      show (-(n + 18446744073709551616)) % 18446744073709551616 = _
      omega
    rw [if_pos hn, if_pos hn, e, f1]
    simp only [Option.bind_some]
    rw [if_pos (by rw [hz]; omega), show (45 :: decDigits n.natAbs : Bs) = [45] ++ decDigits n.natAbs from rfl, bs_append]
    rfl
  · obtain ⟨f1, f2⟩ := refFig (k + 24) n.toNat (by omega) (by omega)
    rw [if_neg hn, if_neg hn, IntWalk.u64_in _ (by omega), show n = ((n.toNat : Nat) : Int) by omega, f1]
    rfl

theorem esc_cons (c : UInt8) (r : Bs) : esc (c :: r) = CodePure.esc1 c ++ esc r := rfl
theorem refQuoted_run (s : ByteArray) (hs : s.size ≤ 1000000) : ∀ (m i : Nat) (out : List Int), m = s.size - i → i ≤ s.size → out.length ≤ 2 * i + 1 → ∀ f, 1 ≤ f →
    threshingref14_quoted.l0 (m + f) s out i = some (strOfNums (out ++ ib (esc (s.data.toList.drop i)) ++ [34])) := by
  have hl : s.data.toList.length = s.size := by simp
  intro m
  induction m with
  | zero =>
    intro i out hm hi ho f hf
    obtain ⟨f', rfl⟩ : ∃ f', f = f' + 1 := ⟨f - 1, by omega⟩
    have he : i = s.data.toList.length := by omega
    simp only [threshingref14_quoted.l0]
    rw [if_neg (by omega), if_pos (by omega), he, List.drop_length]
    simp [esc, ib]
  | succ m ih =>
    intro i out hm hi ho f hf
    have hlt : i < s.data.toList.length := by omega
    have hd : s.data.toList.drop i = s.data.toList[i] :: s.data.toList.drop (i + 1) := List.drop_eq_getElem_cons hlt
    have hb := bt_list s i (by omega) s.data.toList[i] (List.getElem?_eq_getElem hlt)
    have hw : wrap64 ((i : Int) + 1) = ((i + 1 : Nat) : Int) := by unfold wrap64; omega
    generalize s.data.toList[i] = c at hd hb
    have h10 : ((c.toNat : Int) = 10) ↔ c = 10 := byteN c 10
    have h34 : ((c.toNat : Int) = 34) ↔ c = 34 := byteN c 34
    have h92 : ((c.toNat : Int) = 92) ↔ c = 92 := byteN c 92
    rw [show m + 1 + f = (m + f) + 1 by omega, hd, esc_cons]
    simp only [threshingref14_quoted.l0]
    rw [if_pos (by omega), if_pos (by omega), hb, hw]
    unfold CodePure.esc1
    by_cases c10 : c = 10
    · rw [if_pos (h10.2 c10), c10, if_neg (by decide), if_neg (by decide), if_pos rfl]
      simp only [Option.bind_some]
      rw [if_pos (by simp; omega), ih (i + 1) _ (by omega) (by omega) (by simp; omega) f hf, ib_app]
      simp [ib]
    · rw [if_neg (fun h => c10 (h10.1 h)), if_neg c10]
      by_cases c34 : c = 34
      · rw [if_pos (h34.2 c34), if_pos c34, c34, if_pos (by omega)]
        simp only [Option.bind_some]
        rw [if_pos (by simp; omega), ih (i + 1) _ (by omega) (by omega) (by simp; omega) f hf, ib_app]
        simp [ib]
      · rw [if_neg (fun h => c34 (h34.1 h)), if_neg c34]
        by_cases c92 : c = 92
        · rw [if_pos (h92.2 c92), if_pos c92, c92, if_pos (by omega)]
          simp only [Option.bind_some]
          rw [if_pos (by simp; omega), ih (i + 1) _ (by omega) (by omega) (by simp; omega) f hf, ib_app]
          simp [ib]
        · rw [if_neg (fun h => c92 (h92.1 h)), if_neg c92, if_pos (by omega), ih (i + 1) _ (by omega) (by omega) (by simp; omega) f hf, ib_app]
          simp [ib]
theorem refQuoted_eq (s : ByteArray) (hs : s.size ≤ 1000000) (k : Nat) (hk : s.size + 1 ≤ k) : threshingref14_quoted.f k s = some (bs (34 :: (esc s.data.toList ++ [34]))) := by
  have := refQuoted_run s hs s.size 0 [34] (by omega) (Nat.zero_le _) (by simp) (k - s.size) (by omega)
  rw [show s.size + (k - s.size) = k by omega, show ((0 : Nat) : Int) = 0 from rfl] at this
  unfold threshingref14_quoted.f
  rw [this, List.drop_zero, ← str_ib]
  simp [ib]

theorem refLine_eq (op n : Int) (s : ByteArray) (hn : wfI n) (hs : s.size ≤ 1000000) (k : Nat) (hk : s.size + 30 ≤ k) :
    threshingref14_Line.f k op n s = some (if mayB op n s.data.toList then (bs (lineL op n s.data.toList), 0) else (⟨#[]⟩, 1)) := by
  obtain ⟨k, rfl⟩ : ∃ m, k = m + 1 := ⟨k - 1, by omega⟩
  have hz : ∀ l : Bs, (bs l).size = l.length := fun _ => rfl
  have hsz : s.data.toList.length = s.size := by simp
  unfold threshingref14_Line.f
  rw [refMay_eq]
  simp only [Option.bind_some]
  cases hm : mayB op n s.data.toList with
  | false => rfl
  | true =>
    obtain ⟨hop, p0, p2, p1, pe⟩ := may_parts hm
    have hk6 : ∀ k : Nat, k < 24 → (nameL k).length ≤ 6 := by decide +kernel
    have hnm := hk6 op.toNat (by omega)
    rw [show ((op.toNat : Nat) : Int) = op by omega] at hnm
    have hit := Lib.itoa_length_le n hn.1 hn.2
    have he := CodePure.esc_length s.data.toList
    simp only [if_true]
    have h02 : (if op = 0 then threshingref14_Line.j0 (k + 1) op (op == 0) op n s else threshingref14_Line.j0 (k + 1) op (op == 2) op n s) = threshingref14_Line.j0 (k + 1) op (decide (op = 0 ∨ op = 2)) op n s := by
      by_cases h0 : op = 0
      · subst h0; rfl
      · rw [if_neg h0]
        congr 1
        simp [h0]
        rfl
    rw [h02]
    unfold lineL
    by_cases h : op = 0 ∨ op = 2
    · rw [decide_eq_true h, if_pos h]
      simp only [threshingref14_Line.j0, if_true]
      rw [refName_eq op hop.1 hop.2, refFigures_eq n hn k (by omega)]
      simp only [Option.bind_some]
      have e : bs (nameL op) ++ (⟨#[32]⟩ : ByteArray) = bs (nameL op ++ [32]) := (bs_append _ _).symm
      rw [e, if_pos (by rw [hz]; omega), if_pos (by rw [hz, hz]; simp; omega), ← bs_append]
    · rw [decide_eq_false h, if_neg h]
      simp only [threshingref14_Line.j0, if_neg (show ¬ (false = true) by decide)]
      by_cases h1 : op = 1
      · subst h1
        rw [if_pos rfl, if_pos rfl, refQuoted_eq s hs k (by omega)]
        simp only [Option.bind_some]
        have e : (⟨#[116, 101, 120, 116, 32]⟩ : ByteArray) = bs (nameL 1 ++ [32]) := rfl
        rw [if_pos (by rw [hz]; simp; omega), e, ← bs_append]
        simp
      · rw [if_neg h1, if_neg h1, refName_eq op hop.1 hop.2]
        rfl

theorem refPrint_run (l : List S23) (hl : l.length ≤ 200) (hw : ∀ x ∈ l, okS x) (K : Nat) (hK : 100100 ≤ K) : ∀ (m i : Nat), m = l.length - i → i ≤ l.length → (l.take i).all mayS = true →
    threshingref14_Print.l0 (m + K) l (bs (linesL (l.take i))) i = some (if l.all mayS then (bs (linesL l), 0) else (⟨#[]⟩, 1)) := by
  have hz : ∀ l : Bs, (bs l).size = l.length := fun _ => rfl
  intro m
  induction m with
  | zero =>
    intro i hm hi ha
    obtain ⟨K', rfl⟩ : ∃ f', K = f' + 1 := ⟨K - 1, by omega⟩
    have he : i = l.length := by omega
    subst he
    simp only [threshingref14_Print.l0]
    rw [List.take_length] at ha ⊢
    rw [if_neg (by omega), ha]
    rfl
  | succ m ih =>
    intro i hm hi ha
    have hlt : i < l.length := by omega
    have hr : rd_T23 l (i : Int) = l[i] := by simp [rd_T23, hlt]
    have hw64 : wrap64 ((i : Int) + 1) = ((i + 1 : Nat) : Int) := by unfold wrap64; omega
    have hx := hw _ (List.getElem_mem hlt)
    have hline := refLine_eq l[i].f0 l[i].f1 l[i].f2 hx.2.1 (by have := hx.2.2; omega) (m + K) (by have := hx.2.2; omega)
    have hlines : (linesL (l.take i)).length ≤ 200101 * i := by
      clear ih hline
      induction i with
      | zero => simp [linesL]
      | succ i ihi =>
        have hi' : i < l.length := by omega
        have ht := linesL_take (l := l) (k := i) (x := l[i]) (List.getElem?_eq_getElem hi')
        rw [List.take_succ_eq_append_getElem hi', List.all_append, Bool.and_eq_true] at ha
        have := lineS_len l[i] (hw _ (List.getElem_mem hi')) (by simpa using ha.2)
        have hp : (linesL (l.take i)).length ≤ 200101 * i := by
          have hx' := hw _ (List.getElem_mem hi')
          exact linesL_le l hw i (by omega) ha.1
        rw [ht, List.length_append, List.length_append]
        simp
        omega
    rw [show m + 1 + K = (m + K) + 1 by omega]
    simp only [threshingref14_Print.l0]
    rw [if_pos (by omega), if_pos (by omega), hr, hline]
    simp only [Option.bind_some]
    cases hmay : mayB l[i].f0 l[i].f1 l[i].f2.data.toList with
    | false =>
      have : l.all mayS = false := by
        rw [Bool.eq_false_iff]
        intro hall
        have := List.all_eq_true.1 hall _ (List.getElem_mem hlt)
        unfold mayS at this
        rw [hmay] at this
        cases this
      rw [this]
      rfl
    | true =>
      simp only [if_true]
      have hlen := lineS_len l[i] hx (by unfold mayS; exact hmay)
      unfold lineS at hlen
      rw [if_pos (by rw [hz, hz]; omega), ← bs_append, if_pos (by rw [hz]; simp; omega), hw64]
      have ht := linesL_take (l := l) (k := i) (x := l[i]) (List.getElem?_eq_getElem hlt)
      have e : bs (linesL (l.take i) ++ lineL l[i].f0 l[i].f1 l[i].f2.data.toList) ++ (⟨#[10]⟩ : ByteArray) = bs (linesL (l.take (i + 1))) := by
        rw [ht, ← List.append_assoc, bs_append _ [10]]
        rfl
      rw [e]
      refine ih (i + 1) (by omega) (by omega) ?_
      rw [List.take_succ_eq_append_getElem hlt, List.all_append, ha]
      simp [mayS, hmay]
where
  linesL_le (l : List S23) (hw : ∀ x ∈ l, okS x) : ∀ i, i ≤ l.length → (l.take i).all mayS = true → (linesL (l.take i)).length ≤ 200101 * i
    | 0, _, _ => by simp [linesL]
    | i + 1, hi, ha => by
      have hi' : i < l.length := by omega
      have ht := linesL_take (l := l) (k := i) (x := l[i]) (List.getElem?_eq_getElem hi')
      rw [List.take_succ_eq_append_getElem hi', List.all_append, Bool.and_eq_true] at ha
      have := lineS_len l[i] (hw _ (List.getElem_mem hi')) (by simpa using ha.2)
      have hp := linesL_le l hw i (by omega) ha.1
      rw [ht, List.length_append, List.length_append]
      simp
      omega
theorem refPrint_eq (l : List S23) (hw : ∀ x ∈ l, okS x) (k : Nat) (hk : 100400 ≤ k) : threshingref14_Print.f k l = code_Print.f l := by
  unfold threshingref14_Print.f code_Print.f
  by_cases h : 200 < l.length
  · rw [if_pos (by omega), if_pos h]
  · rw [if_neg (by omega), if_neg h, if_pos hw]
    have := refPrint_run l (by omega) hw (k - l.length) (by omega) l.length 0 (by omega) (Nat.zero_le _) rfl
    rw [show l.length + (k - l.length) = k by omega] at this
    exact this
end Go.Proofs.YtmgcpjgpmjhemaaGreatDoor.Pc

/-
The reference's unquoted and number, said plainly.
-/
namespace Go.Proofs.YtmgcpjgpmjhemaaGreatDoor.Pc
open Go.RowKit Go.Proofs.YtmgcpjgpmjhemaaGreatDoorW.PrintWords Go.Proofs.YtmgcpjgpmjhemaaGreatDoorW.PrintLast Go.Proofs.YtmgcpjgpmjhemaaGreatDoorW.PrintMore
open CodePure (esc Bs unesc figs)
open Go.Lib (decDigits itoa)
set_option linter.unusedVariables false

/-! ### the text in quotes -/
def unqR : Bs → Bs
  | [] => []
  | [_] => []
  | c :: d :: r => if c = 92 ∧ r ≠ [] then (if d = 110 then 10 else d) :: unqR r else c :: unqR (d :: r)
theorem unqR_esc (t : Bs) : unqR (esc t ++ [34]) = t := by
  induction t with
  | nil => rfl
  | cons c t ih =>
    have hne : esc t ++ [34] ≠ [] := by simp
    rw [esc_cons]
    unfold CodePure.esc1
    by_cases h34 : c = 34
    · rw [if_pos h34, h34]
      show unqR (92 :: 34 :: (esc t ++ [34])) = _
      rw [unqR, if_pos ⟨rfl, hne⟩, ih]
      rfl
    · rw [if_neg h34]
      by_cases h92 : c = 92
      · rw [if_pos h92, h92]
        show unqR (92 :: 92 :: (esc t ++ [34])) = _
        rw [unqR, if_pos ⟨rfl, hne⟩, ih]
        rfl
      · rw [if_neg h92]
        by_cases h10 : c = 10
        · rw [if_pos h10, h10]
          show unqR (92 :: 110 :: (esc t ++ [34])) = _
          rw [unqR, if_pos ⟨rfl, hne⟩, ih]
          rfl
        · rw [if_neg h10]
          obtain ⟨d, r, e⟩ := List.exists_cons_of_ne_nil hne
          show unqR (c :: (esc t ++ [34])) = _
          rw [e] at ih ⊢
          rw [unqR, if_neg (fun h => h92 h.1), ih]
theorem unqR_len : ∀ s : Bs, (unqR s).length ≤ s.length
  | [] => by simp [unqR]
  | [_] => by simp [unqR]
  | c :: d :: r => by
    have h1 := unqR_len r
    have h2 := unqR_len (d :: r)
    rw [unqR]
    split <;> (simp at h1 h2 ⊢; omega)

theorem refUnq_run (s : ByteArray) (hs : s.size ≤ 1000000) : ∀ (m i : Nat) (out : List Int), s.size - i ≤ m → i ≤ 1000001 → out.length ≤ i → ∀ f, 2 ≤ f →
    threshingref14_unquoted.l0 (2 * m + f) s out i = some (strOfNums (out ++ ib (unqR (s.data.toList.drop i)))) := by
  have hl : s.data.toList.length = s.size := by simp
  have stop : ∀ (i : Nat) (out : List Int), s.size ≤ i + 1 → i ≤ 1000001 → ∀ f, 1 ≤ f → threshingref14_unquoted.l0 f s out i = some (strOfNums (out ++ ib (unqR (s.data.toList.drop i)))) := by
    intro i out h1 h2 f hf
    obtain ⟨f', rfl⟩ : ∃ f', f = f' + 1 := ⟨f - 1, by omega⟩
    have hw : wrap64 ((i : Int) + 1) = ((i + 1 : Nat) : Int) := by unfold wrap64; omega
    simp only [threshingref14_unquoted.l0]
    rw [hw, if_neg (by omega)]
    have hd : (s.data.toList.drop i).length ≤ 1 := by simp; omega
    match hq : s.data.toList.drop i, hd with
    | [], _ => simp [unqR, ib]
    | [c], _ => simp [unqR, ib]
  intro m
  induction m with
  | zero =>
    intro i out hm hi ho f hf
    exact stop i out (by omega) hi _ (by omega)
  | succ m ih =>
    intro i out hm hi ho f hf
    by_cases h : s.size ≤ i + 1
    · exact stop i out h hi _ (by omega)
    · have hw : wrap64 ((i : Int) + 1) = ((i + 1 : Nat) : Int) := by clear ih stop; unfold wrap64; omega
      have hw2 : wrap64 ((i : Int) + 2) = ((i + 2 : Nat) : Int) := by clear ih stop; unfold wrap64; omega
      have hw3 : wrap64 (((i + 1 : Nat) : Int) + 1) = ((i + 2 : Nat) : Int) := by clear ih stop; unfold wrap64; omega
      have hlt : i < s.data.toList.length := by omega
      have hlt2 : i + 1 < s.data.toList.length := by omega
      have hd : s.data.toList.drop i = s.data.toList[i] :: s.data.toList[i + 1] :: s.data.toList.drop (i + 2) := by
        rw [List.drop_eq_getElem_cons hlt, List.drop_eq_getElem_cons hlt2]
      have hd1 : s.data.toList.drop (i + 1) = s.data.toList[i + 1] :: s.data.toList.drop (i + 2) := List.drop_eq_getElem_cons hlt2
      have hb := bt_list s i (by omega) s.data.toList[i] (List.getElem?_eq_getElem hlt)
      have hb1 := bt_list s (i + 1) (by omega) s.data.toList[i + 1] (List.getElem?_eq_getElem hlt2)
      have hne : (s.data.toList.drop (i + 2) ≠ []) ↔ i + 2 < s.size := by
        rw [Ne, List.drop_eq_nil_iff]
        omega
      generalize s.data.toList[i] = c at hd hb
      generalize s.data.toList[i + 1] = d at hd hd1 hb1
      have h92 : ((c.toNat : Int) = 92) ↔ c = 92 := byteN c 92
      have h110 : ((d.toNat : Int) = 110) ↔ d = 110 := byteN d 110
      have plain : ∀ f', 1 ≤ f' → threshingref14_unquoted.j1 (2 * m + 2 + f') s out i (c.toNat : Int) false = some (strOfNums (out ++ ib (c :: unqR (d :: s.data.toList.drop (i + 2))))) := by
        intro f' hf'
        rw [show 2 * m + 2 + f' = (2 * m + (f' + 1)) + 1 by omega]
        simp only [threshingref14_unquoted.j1]
        rw [if_neg (by decide), if_pos (by omega), hw, ih (i + 1) _ (by omega) (by omega) (by simp; omega) _ (by omega), hd1]
        simp [ib]
      rw [show 2 * (m + 1) + f = (2 * m + 2 + (f - 1)) + 1 by omega, hd, unqR]
      simp only [threshingref14_unquoted.l0]
      rw [hw, hw2, if_pos (by omega), if_pos (by omega), if_pos (by omega), hb]
      by_cases c92 : c = 92
      · rw [if_pos (h92.2 c92)]
        by_cases h2 : i + 2 < s.size
        · rw [decide_eq_true (show ((i + 2 : Nat) : Int) < (s.size : Int) by omega), if_pos ⟨c92, hne.2 h2⟩]
          rw [show 2 * m + 2 + (f - 1) = (2 * m + f) + 1 by omega]
          simp only [threshingref14_unquoted.j1, if_true]
          rw [hw, hb1, hw3, if_pos (by omega), if_pos (by omega)]
          by_cases d110 : d = 110
          · rw [if_pos (h110.2 d110), if_pos d110, if_pos (by omega), ih (i + 2) _ (by omega) (by omega) (by simp; omega) _ hf]
            simp [ib]
          · rw [if_neg (fun h => d110 (h110.1 h)), if_neg d110, if_pos (by omega), ih (i + 2) _ (by omega) (by omega) (by simp; omega) _ hf]
            simp [ib]
        · rw [decide_eq_false (show ¬ ((i + 2 : Nat) : Int) < (s.size : Int) by omega), if_neg (fun h => h2 (hne.1 h.2))]
          exact plain _ (by omega)
      · rw [if_neg (fun h => c92 (h92.1 h)), if_neg (fun h => c92 h.1)]
        exact plain _ (by omega)
theorem refUnq_eq (s : ByteArray) (hs : s.size ≤ 1000000) (k : Nat) (hk : 2 * s.size + 2 ≤ k) : threshingref14_unquoted.f k s = some (bs (unqR (s.data.toList.drop 1))) := by
  have := refUnq_run s hs s.size 1 [] (by omega) (by omega) (by simp) (k - 2 * s.size) (by omega)
  rw [show 2 * s.size + (k - 2 * s.size) = k by omega, show ((1 : Nat) : Int) = 1 from rfl] at this
  unfold threshingref14_unquoted.f
  rw [this, List.nil_append, str_ib]

/-! ### the number -/
def numStep (n : Int) (c : UInt8) : Int := if c = 45 then n else wrap64 (wrap64 (wrap64 (10 * n) + wrap64 (c.toNat : Int)) - 48)
def numF (l : Bs) (n : Int) : Int := l.foldl numStep n
def numberR (s : Bs) : Int := if s.head? = some 45 then wrap64 (-(numF s 0)) else numF s 0
theorem wrap_wf (x : Int) : wfI (wrap64 x) := by unfold wfI wrap64; omega
theorem numF_wf (l : Bs) : ∀ n, wfI n → wfI (numF l n) := by
  induction l with
  | nil => intro n h; exact h
  | cons c l ih =>
    intro n h
    refine ih _ ?_
    unfold numStep
    split
    · exact h
    · exact wrap_wf _
theorem numberR_wf (s : Bs) : wfI (numberR s) := by
  unfold numberR
  split
  · exact wrap_wf _
  · exact numF_wf _ _ ⟨by decide, by decide⟩
theorem numF_dec (u : Nat) : numF (decDigits u) 0 = wrap64 u := by
  induction u using Nat.strongRecOn with
  | _ u ih =>
    have step : ∀ (a : Int) (d : Nat), d < 10 → numStep a (UInt8.ofNat (48 + d)) = wrap64 (10 * a + d) := by
      intro a d hd
      have e := CodePure.digit_nat d hd
      have hne : UInt8.ofNat (48 + d) ≠ 45 := by
        intro h
        have h2 : (UInt8.ofNat (48 + d)).toNat = 45 := by rw [h]; rfl
        omega
      unfold numStep
      rw [if_neg hne, e]
      unfold wrap64
      omega
    rw [decDigits]
    split
    · rename_i h
      show numStep 0 _ = _
      rw [step 0 u h]
      simp
    · rename_i h
      have hs : numF (decDigits (u / 10) ++ [UInt8.ofNat (48 + u % 10)]) 0 = numStep (numF (decDigits (u / 10)) 0) (UInt8.ofNat (48 + u % 10)) := by simp [numF]
      rw [hs, ih (u / 10) (by omega), step _ _ (by omega)]
      unfold wrap64
      omega
theorem numberR_itoa (n : Int) (h : wfI n) : numberR (itoa n) = n := by
  obtain ⟨h1, h2⟩ := h
  unfold numberR itoa
  by_cases hn : n < 0
  · rw [if_pos hn]
    have e : numF (45 :: decDigits n.natAbs) 0 = wrap64 n.natAbs := numF_dec _
    rw [List.head?_cons, if_pos rfl, e]
    unfold wrap64
    omega
  · rw [if_neg hn]
    obtain ⟨c, r, e, hc1, hc2⟩ := CodePure.dec_head n.toNat
    have hne : ¬ (decDigits n.toNat).head? = some 45 := by
      rw [e]
      intro h
      have h2 : c = 45 := by simpa using h
      rw [h2] at hc1
      exact absurd hc1 (by decide)
    rw [if_neg hne, numF_dec]
    unfold wrap64
    omega
theorem refNumber_run (s : ByteArray) (hs : s.size ≤ 1000000) : ∀ (m i : Nat) (n : Int), m = s.size - i → i ≤ s.size → ∀ f, 1 ≤ f →
    threshingref14_number.l0 (m + f) s n i = some (if s.data.toList.head? = some 45 then wrap64 (-(numF (s.data.toList.drop i) n)) else numF (s.data.toList.drop i) n) := by
  have hl : s.data.toList.length = s.size := by simp
  intro m
  induction m with
  | zero =>
    intro i n hm hi f hf
    obtain ⟨f', rfl⟩ : ∃ f', f = f' + 1 := ⟨f - 1, by omega⟩
    have he : i = s.data.toList.length := by omega
    simp only [threshingref14_number.l0]
    rw [if_neg (by omega), he, List.drop_length]
    by_cases h0 : s.size = 0
    · have e : s.data.toList = [] := List.eq_nil_of_length_eq_zero (by omega)
      rw [if_neg (by omega), e]
      rfl
    · have hb := bt_list s 0 (by omega) s.data.toList[0] (List.getElem?_eq_getElem (by omega))
      rw [if_pos (by omega), if_pos (by omega), show (0 : Int) = ((0 : Nat) : Int) from rfl, hb, List.head?_eq_getElem?, List.getElem?_eq_getElem (show 0 < s.data.toList.length by omega)]
      generalize s.data.toList[0] = c
      have h45 : ((c.toNat : Int) = 45) ↔ c = 45 := byteN c 45
      by_cases c45 : c = 45
      · rw [if_pos (h45.2 c45), if_pos (by rw [c45])]
        rfl
      · rw [if_neg (fun h => c45 (h45.1 h)), if_neg (by simpa using c45)]
        rfl
  | succ m ih =>
    intro i n hm hi f hf
    have hlt : i < s.data.toList.length := by omega
    have hd : s.data.toList.drop i = s.data.toList[i] :: s.data.toList.drop (i + 1) := List.drop_eq_getElem_cons hlt
    have hb := bt_list s i (by omega) s.data.toList[i] (List.getElem?_eq_getElem hlt)
    have hw : wrap64 ((i : Int) + 1) = ((i + 1 : Nat) : Int) := by unfold wrap64; omega
    generalize s.data.toList[i] = c at hd hb
    have h45 : ((c.toNat : Int) = 45) ↔ c = 45 := byteN c 45
    rw [show m + 1 + f = (m + f) + 1 by omega, hd]
    simp only [threshingref14_number.l0]
    rw [if_pos (by omega), if_pos (by omega), hb, hw]
    have e : numF (c :: s.data.toList.drop (i + 1)) n = numF (s.data.toList.drop (i + 1)) (numStep n c) := rfl
    rw [e]
    unfold numStep
    by_cases c45 : c = 45
    · rw [if_pos (h45.2 c45), if_pos c45, ih (i + 1) n (by omega) (by omega) f hf]
    · rw [if_neg (fun h => c45 (h45.1 h)), if_neg c45, ih (i + 1) _ (by omega) (by omega) f hf]
theorem refNumber_eq (s : ByteArray) (hs : s.size ≤ 1000000) (k : Nat) (hk : s.size + 1 ≤ k) : threshingref14_number.f k s = some (numberR s.data.toList) := by
  have := refNumber_run s hs s.size 0 0 (by omega) (Nat.zero_le _) (k - s.size) (by omega)
  rw [show s.size + (k - s.size) = k by omega, show ((0 : Nat) : Int) = 0 from rfl, List.drop_zero] at this
  exact this

end Go.Proofs.YtmgcpjgpmjhemaaGreatDoor.Pc

/-
The reference's Parse computes what ours computes.
-/
namespace Go.Proofs.YtmgcpjgpmjhemaaGreatDoor.Pc
open Go.RowKit Go.Proofs.YtmgcpjgpmjhemaaGreatDoorW.PrintWords Go.Proofs.YtmgcpjgpmjhemaaGreatDoorW.PrintLast Go.Proofs.YtmgcpjgpmjhemaaGreatDoorW.PrintMore
open CodePure (esc Bs unesc figs)
open Go.Lib (decDigits itoa)
set_option linter.unusedVariables false

/-! ### Parse -/
def candT (op : Int) (s : Bs) : Bs := if s.length > (nameL op).length + 1 ∧ op = 1 then unqR (s.drop ((nameL op).length + 2)) else []
def candN (op : Int) (s : Bs) : Int := if s.length > (nameL op).length + 1 ∧ (op = 0 ∨ op = 2) then numberR (s.drop ((nameL op).length + 1)) else 0
def candP (op : Int) (s : Bs) : Option (Int × Int × Bs) :=
  if s.length < (nameL op).length ∨ s.take (nameL op).length ≠ nameL op then none
  else if mayB op (candN op s) (candT op s) = true ∧ lineL op (candN op s) (candT op s) = s then some (op, candN op s, candT op s) else none
theorem candN_wf (op : Int) (s : Bs) : wfI (candN op s) := by
  unfold candN
  split
  · exact numberR_wf _
  · exact ⟨by decide, by decide⟩
theorem candT_len (op : Int) (s : Bs) : (candT op s).length ≤ s.length := by
  unfold candT
  split
  · have := unqR_len (s.drop ((nameL op).length + 2))
    simp at this
    omega
  · simp
theorem cand_parse {op : Int} {s : Bs} {x : Int × Int × Bs} (h : candP op s = some x) : parseL s = some x := by
  unfold candP at h
  split at h
  · cases h
  · split at h
    · rename_i hc
      have hp := parse_line op (candN op s) (candT op s) (candN_wf op s) hc.1
      rw [hc.2] at hp
      rw [hp, ← h]
    · cases h
theorem parse_cand {s : Bs} {i n : Int} {t : Bs} (h : parseL s = some (i, n, t)) : (0 ≤ i ∧ i ≤ 23) ∧ candP i s = some (i, n, t) := by
  obtain ⟨hm, hl, hn⟩ := line_parse h
  obtain ⟨hop, p0, p2, p1, pe⟩ := may_parts hm
  refine ⟨hop, ?_⟩
  have hpre : ∃ r, s = nameL i ++ r := by
    rw [← hl]
    unfold lineL
    split
    · exact ⟨[32] ++ itoa n, by simp⟩
    · split
      · rename_i h1
        rw [h1]
        exact ⟨[32, 34] ++ esc t ++ [34], by simp⟩
      · exact ⟨[], by simp⟩
  have hT : candT i s = t := by
    unfold candT
    by_cases h1 : i = 1
    · subst h1
      have e : s = nameL 1 ++ [32, 34] ++ esc t ++ [34] := by rw [← hl]; rfl
      rw [if_pos ⟨by rw [e]; simp, rfl⟩, e]
      have : (nameL 1 ++ [32, 34] ++ esc t ++ [34] : Bs).drop ((nameL 1).length + 2) = esc t ++ [34] := by
        rw [show (nameL 1 ++ [32, 34] ++ esc t ++ [34] : Bs) = (nameL 1 ++ [32, 34]) ++ (esc t ++ [34]) by simp, List.drop_left' (by simp)]
      rw [this, unqR_esc]
    · rw [if_neg (fun h => h1 h.2)]
      by_cases h0 : i = 0
      · exact (p0 h0).symm
      · by_cases h2 : i = 2
        · exact (p2 h2).2.2.symm
        · exact (pe h0 h1 h2).2.symm
  have hN : candN i s = n := by
    unfold candN
    by_cases h02 : i = 0 ∨ i = 2
    · have e : s = nameL i ++ [32] ++ itoa n := by
        rw [← hl]
        unfold lineL
        rw [if_pos h02]
      have hne := CodePure.itoa_ne n
      have hlen : 0 < (itoa n).length := List.length_pos_iff.2 hne
      have hd : (nameL i ++ [32] ++ itoa n : Bs).drop ((nameL i).length + 1) = itoa n := List.drop_left' (by simp)
      rw [if_pos ⟨by rw [e]; simp; omega, h02⟩, e, hd, numberR_itoa n hn]
    · rw [if_neg (fun h => h02 h.2)]
      by_cases h1 : i = 1
      · exact (p1 h1).1.symm
      · exact (pe (fun e => h02 (.inl e)) h1 (fun e => h02 (.inr e))).1.symm
  obtain ⟨r, hr⟩ := hpre
  unfold candP
  rw [hT, hN, if_neg (by rw [hr]; simp), if_pos ⟨hm, hl⟩]

def firstP (s : Bs) : Nat → Int → Option (Int × Int × Bs)
  | 0, _ => none
  | m + 1, op => match candP op s with
    | some x => some x
    | none => firstP s m (op + 1)
theorem firstP_succ (s : Bs) (m : Nat) (op : Int) : firstP s (m + 1) op = match candP op s with
    | some x => some x
    | none => firstP s m (op + 1) := rfl
theorem firstP_some (s : Bs) (x : Int × Int × Bs) : ∀ m op, firstP s m op = some x → ∃ i, candP i s = some x
  | 0, op, h => by cases h
  | m + 1, op, h => by
    rw [firstP_succ] at h
    cases hc : candP op s with
    | some y => rw [hc] at h; exact ⟨op, hc.trans h⟩
    | none => rw [hc] at h; exact firstP_some s x m (op + 1) h
theorem firstP_none (s : Bs) : ∀ m op, firstP s m op = none → ∀ i, op ≤ i → i < op + m → candP i s = none
  | 0, op, h, i, h1, h2 => by omega
  | m + 1, op, h, i, h1, h2 => by
    rw [firstP_succ] at h
    cases hc : candP op s with
    | some y => rw [hc] at h; cases h
    | none =>
      rw [hc] at h
      by_cases e : i = op
      · rw [e]; exact hc
      · exact firstP_none s m (op + 1) h i (by omega) (by omega)
theorem firstP_eq (s : Bs) : firstP s 24 0 = parseL s := by
  cases h : firstP s 24 0 with
  | some x =>
    obtain ⟨i, hi⟩ := firstP_some s x _ _ h
    exact (cand_parse hi).symm
  | none =>
    cases hp : parseL s with
    | none => rfl
    | some x =>
      obtain ⟨i, n, t⟩ := x
      obtain ⟨hi, hc⟩ := parse_cand hp
      have := firstP_none s _ _ h i (by omega) (by omega)
      rw [this] at hc
      cases hc

def outP (x : Option (Int × Int × Bs)) : Int × Int × ByteArray × Int := match x with
  | some (i, n, t) => (i, n, bs t, 0)
  | none => (0, 0, ⟨#[]⟩, 3)
theorem wrap_succ (n : Nat) (h : n < 9000000000000000000) : wrap64 ((n : Int) + 1) = ((n + 1 : Nat) : Int) := by unfold wrap64; omega
theorem parse_last (s : ByteArray) (l : Bs) (hL : s.data.toList = l) (hs : s.size ≤ 1000000) (op : Nat) (hop : op ≤ 23) (f : Nat) (hf : s.size + 100 ≤ f) (n : Int) (t : Bs) (en : n = candN op l) (et : t = candT op l)
    (hno : ¬ (l.length < (nameL op).length ∨ l.take (nameL op).length ≠ nameL op)) (X : Option (Int × Int × ByteArray × Int)) :
    ((threshingref14_Line.f f op n (bs t)).bind fun bt235 => (if bt235.2 = 0 then (if bt235.1.toList = s.toList then (some ((op : Int), n, bs t, (0 : Int))) else X) else X)) = match candP op l with | some x => some (outP (some x)) | none => X := by
  have hl : s.data.toList.length = s.size := by simp
  rw [hL] at hl
  have hz : (bs t).size = t.length := rfl
  have ht := candT_len op l
  have hn := candN_wf op l
  rw [← et] at ht
  rw [← en] at hn
  rw [refLine_eq op n (bs t) hn (by omega) f (by omega)]
  have e0 : (bs t).data.toList = t := rfl
  simp only [Option.bind_some, e0]
  unfold candP
  rw [if_neg hno, ← en, ← et, ByteArray.toList_eq, ByteArray.toList_eq, hL]
  cases hm : mayB op n t with
  | false => simp
  | true =>
    have e1 : (bs (lineL op n t)).data.toList = lineL op n t := rfl
    simp only [if_true, e1]
    by_cases hlin : lineL op n t = l
    · rw [if_pos hlin, if_pos ⟨trivial, hlin⟩]
      rfl
    · rw [if_neg hlin, if_neg (fun h => hlin h.2)]
theorem parse_j3 (s : ByteArray) (l : Bs) (hL : s.data.toList = l) (hs : s.size ≤ 1000000) (op : Nat) (hop : op ≤ 23) (N : Nat) (hN : (nameL op).length = N) (hN6 : N ≤ 6) (k : Nat) (hk : 2 * s.size + 100 ≤ k) (t : Bs) (et : t = candT op l)
    (hno : ¬ (l.length < N ∨ l.take N ≠ nameL op)) (X : Option (Int × Int × ByteArray × Int)) (hX : threshingref14_Parse.l0 k s (wrap64 ((op : Int) + 1)) = X) :
    threshingref14_Parse.j3 (k + 2) s op N op 0 (bs t) = match candP op l with | some x => some (outP (some x)) | none => X := by
  have hl : s.data.toList.length = s.size := by simp
  rw [hL] at hl
  have hw6 := wrap_succ N (by omega)
  have lst := fun n en => parse_last s l hL hs op hop k (by omega) n t en et (by rw [hN]; exact hno) X
  rw [show k + 2 = (k + 1) + 1 by omega]
  simp only [threshingref14_Parse.j3]
  rw [hw6]
  have off : candN op l = 0 → threshingref14_Parse.j4 (k + 1) s op N false op 0 (bs t) = match candP op l with | some x => some (outP (some x)) | none => X := by
    intro h0
    simp only [threshingref14_Parse.j4, if_neg (show ¬ (false = true) by decide)]
    rw [hX]
    exact lst 0 h0.symm
  by_cases h3 : l.length > N + 1
  · rw [if_pos (by omega)]
    have hex : (s.extract (((N + 1 : Nat) : Int)).toNat s.size).data.toList = l.drop (N + 1) := by rw [Lib.extract_to_end, hL]; rfl
    have hexs : (s.extract (((N + 1 : Nat) : Int)).toNat s.size).size ≤ s.size := by
      have h9 : (s.extract (((N + 1 : Nat) : Int)).toNat s.size).data.toList.length = (s.extract (((N + 1 : Nat) : Int)).toNat s.size).size := by simp
      rw [hex, List.length_drop] at h9
      omega
    have on : (op = 0 ∨ op = 2) → threshingref14_Parse.j4 (k + 1) s op N true op 0 (bs t) = match candP op l with | some x => some (outP (some x)) | none => X := by
      intro h02
      simp only [threshingref14_Parse.j4, if_true]
      rw [hw6, if_pos (by omega), if_pos (by omega), refNumber_eq _ (by omega) _ (by omega), hex]
      simp only [Option.bind_some]
      rw [hX]
      refine lst _ ?_
      unfold candN
      rw [hN, if_pos ⟨h3, by omega⟩]
    by_cases h0 : op = 0
    · rw [if_pos (by omega)]
      exact on (.inl h0)
    · rw [if_neg (by omega)]
      by_cases h2 : op = 2
      · rw [show ((op : Int) == 2) = true by simp [h2]]
        exact on (.inr h2)
      · rw [show ((op : Int) == 2) = false by rw [beq_eq_false_iff_ne]; omega]
        refine off ?_
        unfold candN
        rw [if_neg (by rintro ⟨_, h | h⟩ <;> omega)]
  · rw [if_neg (by omega)]
    refine off ?_
    unfold candN
    rw [hN, if_neg (by rintro ⟨h, _⟩; omega)]
theorem drop_two (l : Bs) (n : Nat) : (l.drop (n + 1)).drop 1 = l.drop (n + 2) := by
  have e : n + 1 + 1 = n + 2 := by omega
  rw [List.drop_drop, e]
theorem parse_j1 (s : ByteArray) (l : Bs) (hL : s.data.toList = l) (hs : s.size ≤ 1000000) (op : Nat) (hop : op ≤ 23) (N : Nat) (hN : (nameL op).length = N) (hN6 : N ≤ 6) (k : Nat) (hk : 2 * s.size + 100 ≤ k)
    (hno : ¬ (l.length < N ∨ l.take N ≠ nameL op)) (X : Option (Int × Int × ByteArray × Int)) (hX : threshingref14_Parse.l0 k s (wrap64 ((op : Int) + 1)) = X) :
    threshingref14_Parse.j1 (k + 4) s op N false op 0 ⟨#[]⟩ = match candP op l with | some x => some (outP (some x)) | none => X := by
  have hl : s.data.toList.length = s.size := by simp
  rw [hL] at hl
  have hw6 := wrap_succ N (by omega)
  obtain ⟨K2, hK2⟩ : ∃ K2, K2 = k + 2 := ⟨_, rfl⟩
  have j3 : ∀ t, t = candT op l → threshingref14_Parse.j3 K2 s op N op 0 (bs t) = match candP op l with | some x => some (outP (some x)) | none => X := by
    rw [hK2]
    exact fun t et => parse_j3 s l hL hs op hop N hN hN6 k hk t et hno X hX
  rw [show k + 4 = (k + 3) + 1 by omega]
  simp only [threshingref14_Parse.j1, if_neg (show ¬ (false = true) by decide)]
  rw [hw6]
  have off : candT op l = [] → threshingref14_Parse.j2 (k + 3) s op N false op 0 ⟨#[]⟩ = match candP op l with | some x => some (outP (some x)) | none => X := by
    intro h0
    rw [show k + 3 = K2 + 1 by omega]
    simp only [threshingref14_Parse.j2, if_neg (show ¬ (false = true) by decide)]
    exact j3 [] h0.symm
  by_cases h3 : l.length > N + 1
  · rw [if_pos (by omega)]
    have hex : (s.extract (((N + 1 : Nat) : Int)).toNat s.size).data.toList = l.drop (N + 1) := by rw [Lib.extract_to_end, hL]; rfl
    have hexs : (s.extract (((N + 1 : Nat) : Int)).toNat s.size).size ≤ s.size := by
      have h9 : (s.extract (((N + 1 : Nat) : Int)).toNat s.size).data.toList.length = (s.extract (((N + 1 : Nat) : Int)).toNat s.size).size := by simp
      rw [hex, List.length_drop] at h9
      omega
    by_cases o1 : op = 1
    · rw [show ((op : Int) == 1) = true by simp [o1], show k + 3 = K2 + 1 by omega]
      simp only [threshingref14_Parse.j2, if_true]
      rw [hw6, if_pos (by omega), if_pos (by omega), refUnq_eq _ (by omega) _ (by omega), hex]
      simp only [Option.bind_some]
      have hdd : (l.drop (N + 1)).drop 1 = l.drop (N + 2) := drop_two l N
      refine j3 _ ?_
      unfold candT
      rw [hN, if_pos ⟨h3, by omega⟩, hdd]
    · rw [show ((op : Int) == 1) = false by rw [beq_eq_false_iff_ne]; omega]
      refine off ?_
      unfold candT
      rw [if_neg (by rintro ⟨_, h⟩; omega)]
  · rw [if_neg (by omega)]
    refine off ?_
    unfold candT
    rw [hN, if_neg (by rintro ⟨h, _⟩; omega)]
theorem name_len6 (op : Nat) (h : op ≤ 23) : (nameL op).length ≤ 6 := by
  have hk6 : ∀ k : Nat, k < 24 → (nameL k).length ≤ 6 := by decide +kernel
  exact hk6 op (by omega)
theorem parse_step (s : ByteArray) (l : Bs) (hL : s.data.toList = l) (hs : s.size ≤ 1000000) (op : Nat) (hop : op ≤ 23) (k : Nat) (hk : 2 * s.size + 100 ≤ k) (X : Option (Int × Int × ByteArray × Int))
    (hX : ∀ f, k ≤ f → threshingref14_Parse.l0 f s (wrap64 ((op : Int) + 1)) = X) :
    threshingref14_Parse.l0 (k + 5) s op = match candP op l with | some x => some (outP (some x)) | none => X := by
  have hl : s.data.toList.length = s.size := by simp
  rw [hL] at hl
  have hn6 := name_len6 op hop
  obtain ⟨N, hN⟩ : ∃ N, (nameL op).length = N := ⟨_, rfl⟩
  rw [hN] at hn6
  have hsz : ((bs (nameL op)).size : Int) = (N : Int) := by rw [← hN]; rfl
  have hNm : threshingref14_Name.f op = some (bs (nameL op)) := refName_eq op (by omega) (by omega)
  have skip : ∀ (a b : Int) (c : ByteArray), threshingref14_Parse.j1 (k + 4) s op N true a b c = X := by
    intro a b c
    rw [show k + 4 = (k + 3) + 1 by omega]
    simp only [threshingref14_Parse.j1, if_true]
    exact hX _ (by omega)
  rw [show k + 5 = (k + 4) + 1 by omega]
  simp only [threshingref14_Parse.l0]
  rw [if_pos (by omega), hNm]
  simp only [Option.bind_some]
  rw [hsz]
  by_cases h1 : l.length < N
  · rw [if_pos (by omega), skip]
    unfold candP
    rw [hN, if_pos (.inl h1)]
  · rw [if_neg (by omega), if_pos (by omega), if_pos (by omega)]
    have ex : (s.extract 0 ((N : Int)).toNat).toList = l.take N := by
      rw [ByteArray.toList_eq, Lib.extract_data, hL]
      simp
    have en : (bs (nameL op)).toList = nameL op := by rw [ByteArray.toList_eq]; rfl
    rw [ex, en]
    by_cases h2 : l.take N = nameL op
    · rw [show (l.take N != nameL op) = false by rw [h2]; simp]
      exact parse_j1 s l hL hs op hop N hN hn6 k hk (fun h => h.elim h1 (fun h => h h2)) X (hX k (Nat.le_refl _))
    · rw [show (l.take N != nameL op) = true by simpa using h2, skip]
      unfold candP
      rw [hN, if_pos (.inr h2)]
theorem refParse_run (s : ByteArray) (hs : s.size ≤ 1000000) : ∀ (m op : Nat), m + op = 24 → ∀ k, 5 * m + 2 * s.size + 100 ≤ k → threshingref14_Parse.l0 k s op = some (outP (firstP s.data.toList m op)) := by
  intro m
  induction m with
  | zero =>
    intro op hop k hk
    obtain ⟨k, rfl⟩ : ∃ k', k = k' + 1 := ⟨k - 1, by omega⟩
    simp only [threshingref14_Parse.l0]
    rw [if_neg (by omega)]
    rfl
  | succ m ih =>
    intro op hop k hk
    obtain ⟨k, rfl⟩ : ∃ k', k = k' + 5 := ⟨k - 5, by omega⟩
    rw [parse_step s _ rfl hs op (by omega) k (by omega) (some (outP (firstP s.data.toList m ((op + 1 : Nat) : Int)))) (fun f hf => by rw [wrap_succ op (by omega)]; exact ih (op + 1) (by omega) f (by omega)), firstP_succ]
    cases candP op s.data.toList <;> rfl
theorem refParse_eq (s : ByteArray) (hs : s.size ≤ 1000000) (k : Nat) (hk : 2 * s.size + 220 ≤ k) : threshingref14_Parse.f k s = some (parseR s.data.toList) := by
  have := refParse_run s hs 24 0 rfl k (by omega)
  rw [show ((0 : Nat) : Int) = 0 from rfl, firstP_eq] at this
  exact this
end Go.Proofs.YtmgcpjgpmjhemaaGreatDoor.Pc

/-
The laws' live question is answered true.
-/
namespace Go.Proofs.YtmgcpjgpmjhemaaGreatDoor.Pc
open Go.RowKit Go.Proofs.YtmgcpjgpmjhemaaGreatDoorW.PrintWords Go.Proofs.YtmgcpjgpmjhemaaGreatDoorW.PrintLast Go.Proofs.YtmgcpjgpmjhemaaGreatDoorW.PrintMore
set_option linter.unusedVariables false

theorem alive_at : threshinglaw14_alive.f 40 = some true := by decide +kernel
theorem alive_true (k : Nat) (hk : 40 ≤ k) : threshinglaw14_alive.f k = some true := by
  have : ∀ d, threshinglaw14_alive.f (40 + d) = some true := by
    intro d
    induction d with
    | zero => exact alive_at
    | succ d ih => exact threshinglaw14_alive.mono (40 + d) _ ih
  rw [show k = 40 + (k - 40) by omega]
  exact this _

end Go.Proofs.YtmgcpjgpmjhemaaGreatDoor.Pc

namespace Go.Proofs.YtmgcpjgpmjhemaaGreatDoor.Pc
open Go.RowKit Go.Proofs.YtmgcpjgpmjhemaaGreatDoorW.PrintWords Go.Proofs.YtmgcpjgpmjhemaaGreatDoorW.PrintLast Go.Proofs.YtmgcpjgpmjhemaaGreatDoorW.PrintMore
attribute [local go_sem] max2_int min2_int max_two min_two max_three min_three max_four min_four   -- for this text's walks alone
set_option linter.unusedVariables false
set_option linter.unusedSimpArgs false

theorem eqA23 (d : Nat) (w : World) (x0 y0 : Int) (x1 y1 : Int) (x2 y2 : ByteArray) :
    (Op.equalIn (d + 2) 23 (.agg #[.int .i64 x0, .int .i64 x1, .string x2]) (.agg #[.int .i64 y0, .int .i64 y1, .string y2])).run Tryz.prog w = .ok (x0 == y0 && (x1 == y1 && (x2.toList == y2.toList))) w := by
  refine eqA_of Tryz.underlying23 (by kernel_rfl) ?_
  refine eqf_cons (by rfl) (by go_simp; rfl) (by go_simp; rfl) (by go_simp) ?_
  refine eqf_cons (by rfl) (by go_simp; rfl) (by go_simp; rfl) (by go_simp) ?_
  exact eqf_last (by rfl) (by go_simp; rfl) (by go_simp; rfl) (by go_simp)
end Go.Proofs.YtmgcpjgpmjhemaaGreatDoor.Pc

/-
sync.Once.Do by one goroutine, the function handed in met by its own contract.
-/
namespace Go.Proofs.YtmgcpjgpmjhemaaGreatDoor.Pc
open Go.RowKit
set_option linter.unusedVariables false

theorem disable (w : World) : (callFunc 223 #[]).run Tryz.prog w = .ok (.value (.tuple #[])) w := run_call_mark0 Tryz.func223 (by kernel_rfl) (by kernel_rfl) (by kernel_rfl) .disable (by kernel_rfl) w
theorem enable (w : World) : (callFunc 225 #[]).run Tryz.prog w = .ok (.value (.tuple #[])) w := run_call_mark0 Tryz.func225 (by kernel_rfl) (by kernel_rfl) (by kernel_rfl) .enable (by kernel_rfl) w
theorem acquire (a : Addr) (w : World) : (callFunc 226 #[.pointer (some a)]).run Tryz.prog w = .ok (.value (.tuple #[])) w := run_call_marked Tryz.func226 (by kernel_rfl) (by kernel_rfl) (by kernel_rfl) .acquire (by kernel_rfl) a w
theorem releaseMerge (a : Addr) (w : World) : (callFunc 228 #[.pointer (some a)]).run Tryz.prog w = .ok (.value (.tuple #[])) w := run_call_marked Tryz.func228 (by kernel_rfl) (by kernel_rfl) (by kernel_rfl) .releaseMerge (by kernel_rfl) a w

theorem store_deferred (a : Addr) (x : Value) (u : FrameMode) (w : World) (hc : w.cell? a = some x) (hz : w.frozen? a = false) :
    CallsD Tryz.prog 149 #[.pointer (some a), .bool true] u w fun e u' w' => u' = u ∧ (e = .returned (.tuple #[]) ∧ w' = w.drew.setCell a (.int .u32 1)) := by
  have hc' : w.drew.cell? a = some x := by go_simp
  have hz' : w.drew.frozen? a = false := by go_simp
  have hst := run_call_store (P := Tryz.prog) Tryz.func201 (by kernel_rfl) (by kernel_rfl) (by kernel_rfl) (by kernel_rfl) (k := .u32) (y := 1) hc' hz'
  go_enter_d Tryz.func149, Tryz.ntmps149
  go_wp2
  go_region_calls
  all_goals (go_end0; exact ⟨rfl, rfl⟩)

set_option maxRecDepth 100000 in
theorem unlock_deferred (a : Addr) (u : FrameMode) (w : World) (hc : w.cell? a = some (.int .i32 1)) (hz : w.frozen? a = false) :
    CallsD Tryz.prog 148 #[.pointer (some a)] u w fun e u' w' => u' = u ∧ (e = .returned (.tuple #[]) ∧ w' = w.setCell a (.int .i32 0)) := by
  have hd := disable
  have he := enable
  have hr := releaseMerge
  have hadd := run_call_add (P := Tryz.prog) Tryz.func229 (by kernel_rfl) (by kernel_rfl) (by kernel_rfl) .i32 (by kernel_rfl) (y := -1) (s := 0) hc hz (by simp [go_sem]; rfl)
  have hcv := run_convert_to_unsafe (P := Tryz.prog) (src := 269) (dst := 170) Tryz.underlying269 Tryz.underlying170 (by kernel_rfl) hc
  go_enter_d Tryz.func148, Tryz.ntmps148
  go_wp2
  go_end0
  go_wp2
  go_end0
  exact ⟨rfl, rfl⟩

set_option maxRecDepth 100000 in
theorem lock_free (a : Addr) (w : World) (hc : w.cell? a = some (.int .i32 0)) (hz : w.frozen? a = false) :
    Calls Tryz.prog 147 #[.pointer (some a)] w fun e w' => e = .returned (.tuple #[]) ∧ w' = w.setCell a (.int .i32 1) := by
  have hd := disable
  have he := enable
  have ha := acquire
  have hcas := run_call_cas_hit (P := Tryz.prog) Tryz.func224 (by kernel_rfl) (by kernel_rfl) (by kernel_rfl) .i32 (by kernel_rfl) (y := 1) hc hz
  have hc' : (w.setCell a (.int .i32 1)).cell? a = some (.int .i32 1) := World.cell?_setCell_same w a _ hc
  have hcv := run_convert_to_unsafe (P := Tryz.prog) (src := 269) (dst := 170) Tryz.underlying269 Tryz.underlying170 (by kernel_rfl) hc'
  go_enter Tryz.func147, Tryz.ntmps147
  go_wp2
  first | go_end0 | (simp only [Exit.inBlock, Exit.then]; refine bodyPost_ret (results_none rfl _ _ _) rfl ?_) | refine bodyPost_ret (results_none rfl _ _ _) rfl ?_
  go_wp2
  go_end0
  exact ⟨rfl, rfl⟩

theorem load_zero (a : Addr) (w : World) (hc : w.cell? a = some (.int .u32 0)) :
    Calls Tryz.prog 120 #[.pointer (some a)] w fun e w' => e = .returned (.bool false) ∧ w' = w := by
  have hl := run_call_load (P := Tryz.prog) Tryz.func146 (by kernel_rfl) (by kernel_rfl) (by kernel_rfl) .u32 (by kernel_rfl) hc
  go_enter Tryz.func120, Tryz.ntmps120
  go_wp2
  go_ret
  exact ⟨rfl, rfl⟩

set_option maxRecDepth 100000 in
set_option maxHeartbeats 1600000 in
theorem slow_once (b : Nat) (fst : Array Value) (w : World) (Q : World → Prop)
    (h0 : w.cell? ⟨b, 0, none⟩ = some (.int .u32 0)) (h1 : w.cell? ⟨b, 1, none⟩ = some (.int .i32 0))
    (f0 : w.frozen? ⟨b, 0, none⟩ = false) (f1 : w.frozen? ⟨b, 1, none⟩ = false)
    (hq : ∀ w1, Q w1 → w1.cell? ⟨b, 0, none⟩ = some (.int .u32 0) ∧ w1.cell? ⟨b, 1, none⟩ = some (.int .i32 1) ∧ w1.frozen? ⟨b, 0, none⟩ = false ∧ w1.frozen? ⟨b, 1, none⟩ = false)
    (hf : Calls Tryz.prog 91 fst (w.setCell ⟨b, 1, none⟩ (.int .i32 1)) fun e w' => e = .returned (.tuple #[]) ∧ Q w') :
    Calls Tryz.prog 121 #[.pointer (some ⟨b, 0, none⟩), .func (.func 91) fst #[]] w fun e w' => e = .returned (.tuple #[]) ∧
      ∃ w1, Q w1 ∧ w' = (w1.drew.setCell ⟨b, 0, none⟩ (.int .u32 1)).setCell ⟨b, 1, none⟩ (.int .i32 0) := by
  have hnot : ∀ (x : Bool) (w : World), (Op.unary .not (.bool x)).run Tryz.prog w = .ok (.bool (!x)) w := fun _ _ => rfl
  have e0 : (w.setCell ⟨b, 1, none⟩ (.int .i32 1)).cell? ⟨b, 0, none⟩ = some (.int .u32 0) := (World.cell?_setCell_other _ ⟨b, 1, none⟩ ⟨b, 0, none⟩ _ (by simp)).trans h0
  go_enter_defers Tryz.func121, Tryz.ntmps121
  go_wp2_with (first
    | (go_at_call 147; refine (lock_free ⟨b, 1, none⟩ _ (by go_simp) (by go_simp)).mono ?_; rintro e w' ⟨rfl, rfl⟩)
    | (go_at_call 120; refine (load_zero ⟨b, 0, none⟩ _ e0).mono ?_; rintro e w' ⟨rfl, rfl⟩)
    | (go_at_call 91; refine hf.mono ?_; rintro e w1 ⟨rfl, hw1⟩))
  obtain ⟨q0, q1, z0, z1⟩ := hq w1 hw1
  refine leaves_cons (f := 149) (args := #[.pointer (some ⟨b, 0, none⟩), .bool true]) (by simp) (by simp [go_sem]) ?_
  refine (store_deferred ⟨b, 0, none⟩ (.int .u32 0) .returning _ q0 z0).mono ?_
  rintro e u' w'' ⟨rfl, rfl, rfl⟩
  refine leaves_cons (f := 148) (args := #[.pointer (some ⟨b, 1, none⟩)]) (by simp [settle]) (by simp [go_sem]) ?_
  refine (unlock_deferred ⟨b, 1, none⟩ _ _ ?_ (by simp [z1])).mono ?_
  · refine (World.cell?_setCell_other _ ⟨b, 0, none⟩ ⟨b, 1, none⟩ _ (by simp)).trans ?_
    rw [World.cell?_drew]
    exact q1
  rintro e u' w'' ⟨rfl, rfl, rfl⟩
  simp [Leaves, settle, results, Tryz.results121]
  exact ⟨w1, hw1, rfl⟩

set_option maxRecDepth 100000 in
set_option maxHeartbeats 1600000 in
theorem do_once (b : Nat) (fst : Array Value) (w : World) (Q : World → Prop)
    (h0 : w.cell? ⟨b, 0, none⟩ = some (.int .u32 0)) (h1 : w.cell? ⟨b, 1, none⟩ = some (.int .i32 0))
    (f0 : w.frozen? ⟨b, 0, none⟩ = false) (f1 : w.frozen? ⟨b, 1, none⟩ = false)
    (hq : ∀ w1, Q w1 → w1.cell? ⟨b, 0, none⟩ = some (.int .u32 0) ∧ w1.cell? ⟨b, 1, none⟩ = some (.int .i32 1) ∧ w1.frozen? ⟨b, 0, none⟩ = false ∧ w1.frozen? ⟨b, 1, none⟩ = false)
    (hf : Calls Tryz.prog 91 fst (w.setCell ⟨b, 1, none⟩ (.int .i32 1)) fun e w' => e = .returned (.tuple #[]) ∧ Q w') :
    Calls Tryz.prog 90 #[.pointer (some ⟨b, 0, none⟩), .func (.func 91) fst #[]] w fun e w' => e = .returned (.tuple #[]) ∧
      ∃ w1, Q w1 ∧ w' = (w1.drew.setCell ⟨b, 0, none⟩ (.int .u32 1)).setCell ⟨b, 1, none⟩ (.int .i32 0) := by
  have hnot : ∀ (x : Bool) (w : World), (Op.unary .not (.bool x)).run Tryz.prog w = .ok (.bool (!x)) w := fun _ _ => rfl
  go_enter Tryz.func90, Tryz.ntmps90
  go_wp2_with (first
    | (go_at_call 120; refine (load_zero ⟨b, 0, none⟩ _ h0).mono ?_; rintro e w' ⟨rfl, rfl⟩)
    | (go_at_call 121; refine (slow_once b fst _ Q h0 h1 f0 f1 hq hf).mono ?_; rintro e w' ⟨rfl, hw'⟩))
  first | go_end0 | (simp only [Exit.inBlock, Exit.then]; refine bodyPost_ret (results_none rfl _ _ _) rfl ?_) | refine bodyPost_ret (results_none rfl _ _ _) rfl ?_
  exact ⟨rfl, hw'⟩
end Go.Proofs.YtmgcpjgpmjhemaaGreatDoor.Pc

/-
strings.NewReplacer and (*strings.Replacer).Replace at the three pairs that code.Line hands over.
-/
namespace Go.Proofs.YtmgcpjgpmjhemaaGreatDoor.Pc
open Go.RowKit Go.Proofs.YtmgcpjgpmjhemaaGreatDoorW.PrintWords Go.Proofs.YtmgcpjgpmjhemaaGreatDoorW.PrintLast Go.Proofs.YtmgcpjgpmjhemaaGreatDoorW.PrintMore
set_option linter.unusedVariables false

structure ReplCells (w : World) (b : Nat) : Prop where
  c0 : w.cell? ⟨b, 0, none⟩ = some (.string ⟨#[34]⟩)
  c1 : w.cell? ⟨b, 1, none⟩ = some (.string ⟨#[92, 34]⟩)
  c2 : w.cell? ⟨b, 2, none⟩ = some (.string ⟨#[92]⟩)
  c3 : w.cell? ⟨b, 3, none⟩ = some (.string ⟨#[92, 92]⟩)
  c4 : w.cell? ⟨b, 4, none⟩ = some (.string ⟨#[10]⟩)
  c5 : w.cell? ⟨b, 5, none⟩ = some (.string ⟨#[92, 110]⟩)

/-- A Replacer that has not been built yet; 'k': what its lock says. -/
structure IsRepl (k : Int) (w : World) (p ob : Nat) : Prop where
  d : w.cell? ⟨p, 0, none⟩ = some (.int .u32 0)
  l : w.cell? ⟨p, 1, none⟩ = some (.int .i32 k)
  r : w.cell? ⟨p, 3, none⟩ = some .nilIface
  o : ∃ oc, w.cell? ⟨p, 4, none⟩ = some (.slice (some ⟨ob, 0, none⟩) 6 oc)
  z : ∀ i, w.frozen? ⟨p, i, none⟩ = false
  lt : ob < p
  cs : ReplCells w ob

set_option maxRecDepth 100000 in
set_option maxHeartbeats 1600000 in
theorem newReplacer (b : Nat) (w : World) (hc : ReplCells w b) :
    Calls Tryz.prog 45 #[.slice (some ⟨b, 0, none⟩) 6 6] w fun e w' => ∃ p ob, e = .returned (.pointer (some ⟨p, 0, none⟩)) ∧ IsRepl 0 w' p ob ∧ w.heap.size ≤ p ∧ Below w.heap.size w w' := by
  obtain ⟨c0, c1, c2, c3, c4, c5⟩ := hc
  go_enter Tryz.func45, Tryz.ntmps45
  go_wp2_with fail
  go_ret
  refine ⟨w.heap.size + 1, w.heap.size, rfl, ⟨?_, ?_, ?_, ⟨(Question.appendCap 6 0 9).cut (w.tape w.drawn (Question.appendCap 6 0 9)), ?_⟩, ?_, Nat.lt_succ_self _, ?_⟩, Nat.le_succ _, ?_⟩
  · go_simp
  · go_simp
  · go_simp
  · go_simp; try rfl
  · intro i; go_simp
  · constructor <;> (go_simp; rw [Array.getElem?_append_left (by simp)]; rfl)
  · exact (((Below.refl _ _).alloc (Nat.le_refl _) _).alloc (by simp) _).drew

theorem zero_bsr : Tryz.zeroCells203 = Array.replicate 257 (.slice none 0 0) := by kernel_rfl

theorem store_bsr (v : Value) (hv : v.oneCell' = true) : ∃ cs : Array Value, cs.size = 257 ∧ (∀ i, i < 256 → cs[i]? = some (.slice none 0 0)) ∧ cs[256]? = some v ∧
    ∀ (w w' : World) (n : Nat), n = w.heap.size → (storeCells ⟨n, 0, none⟩ (Tryz.zeroCells203.toList.set 256 v)).run Tryz.prog (w.alloc (.cells Tryz.zeroCells203 203)) = .ok () (w.alloc (.cells cs 203)) := by
  refine ⟨((Array.replicate 257 (.slice none 0 0)).setIfInBounds 256 v), by simp, fun i hi => ?_, by simp, ?_⟩
  · rw [Array.getElem?_setIfInBounds_ne (by omega), Array.getElem?_replicate, if_pos (by omega)]
  · rintro w w' n rfl
    rw [zero_bsr]
    have h := run_storeCells_new (P := Tryz.prog) w 203 (Array.replicate 257 (.slice none 0 0)) ((Array.replicate 257 (.slice none 0 0)).setIfInBounds 256 v) (by simp only [Array.size_setIfInBounds, Array.size_replicate]; kernel_rfl) (by simp) (by
      rw [Array.all_eq_true]
      intro i hi
      rw [Array.getElem_setIfInBounds (by simpa using hi)]
      split
      · exact hv
      · rw [Array.getElem_replicate]; rfl)
    simpa only [Array.toList_setIfInBounds] using h

theorem conv_one (W : World) (n : Nat) (z : Int) (hn : n = W.heap.size) (h0 : 0 ≤ z) (h1 : z < 256) :
    (convert 82 9 (.slice (some ⟨n, 0, none⟩) 1 1)).run Tryz.prog (W.alloc (.cells #[.int .u8 z] 5)) = .ok (.string ⟨#[UInt8.ofNat z.toNat]⟩) (W.alloc (.cells #[.int .u8 z] 5)) := by
  subst hn
  refine run_convert_bytes_back (W.alloc (.cells #[.int .u8 z] 5)) 82 9 5 ⟨W.heap.size, 0, none⟩ 1 [UInt8.ofNat z.toNat] Tryz.underlying82 Tryz.underlying5 Tryz.underlying9 (fun j hj => ?_)
  have hj0 : j = 0 := by simpa using hj
  subst hj0
  have e : ((⟨W.heap.size, 0, none⟩ : Addr).add 0) = ⟨W.heap.size, 0, none⟩ := rfl
  rw [e, World.cell?_alloc_new]
  simp
  omega

theorem conv_one1 (W : World) (n : Nat) (z : Int) (hn : n = W.heap.size) (h0 : 0 ≤ z) (h1 : z < 256) :
    (convert 82 9 (.slice (some ⟨n, 0, none⟩) 1 1)).run Tryz.prog (W.alloc (.cells #[.int .u8 z] 5)).drew = .ok (.string ⟨#[UInt8.ofNat z.toNat]⟩) (W.alloc (.cells #[.int .u8 z] 5)).drew := by
  have h := conv_one W.drew n z hn h0 h1
  exact h
theorem conv_one2 (W : World) (n : Nat) (z : Int) (hn : n = W.heap.size) (h0 : 0 ≤ z) (h1 : z < 256) :
    (convert 82 9 (.slice (some ⟨n, 0, none⟩) 1 1)).run Tryz.prog (W.alloc (.cells #[.int .u8 z] 5)).drew.drew = .ok (.string ⟨#[UInt8.ofNat z.toNat]⟩) (W.alloc (.cells #[.int .u8 z] 5)).drew.drew := by
  have h := conv_one W.drew.drew n z hn h0 h1
  exact h

theorem conv_bytes (W : World) (s : ByteArray) :
    (convert 9 82 (.string s)).run Tryz.prog W = .ok (.slice (some ⟨W.heap.size, 0, none⟩) s.size (grownCap W s.size 0 5))
      (W.drew.alloc (.cells (bytesRow s (grownCap W s.size 0 5)) 5 ((bytesRow s (grownCap W s.size 0 5)).size, (bytesRow s (grownCap W s.size 0 5)).size + 1))) :=
  run_bytes_of_string W 9 82 5 s Tryz.underlying9 Tryz.underlying82 Tryz.underlying5

/-- A byteStringReplacer for the three bytes: what its cells hold. -/
structure IsBsr (w : World) (q : Nat) : Prop where
  no : ∀ i, i < 256 → i ≠ 10 → i ≠ 34 → i ≠ 92 → w.cell? ⟨q, i, none⟩ = some (.slice none 0 0)
  r10 : ∃ a c, w.cell? ⟨q, 10, none⟩ = some (.slice (some ⟨a, 0, none⟩) 2 c) ∧ w.cell? ⟨a, 0, none⟩ = some (.int .u8 92) ∧ w.cell? ⟨a, 1, none⟩ = some (.int .u8 110)
  r34 : ∃ a c, w.cell? ⟨q, 34, none⟩ = some (.slice (some ⟨a, 0, none⟩) 2 c) ∧ w.cell? ⟨a, 0, none⟩ = some (.int .u8 92) ∧ w.cell? ⟨a, 1, none⟩ = some (.int .u8 34)
  r92 : ∃ a c, w.cell? ⟨q, 92, none⟩ = some (.slice (some ⟨a, 0, none⟩) 2 c) ∧ w.cell? ⟨a, 0, none⟩ = some (.int .u8 92) ∧ w.cell? ⟨a, 1, none⟩ = some (.int .u8 92)
  tr : ∃ b c, w.cell? ⟨q, 256, none⟩ = some (.slice (some ⟨b, 0, none⟩) 3 c) ∧ w.cell? ⟨b, 0, none⟩ = some (.string ⟨#[10]⟩) ∧ w.cell? ⟨b, 1, none⟩ = some (.string ⟨#[92]⟩) ∧ w.cell? ⟨b, 2, none⟩ = some (.string ⟨#[34]⟩)

theorem cell_keep {w w' : World} (hb : Below w.heap.size w w') {a : Addr} {v : Value} (hc : w.cell? a = some v) : w'.cell? a = some v := (hb.cell (World.block_lt_of_cell? w _ hc)).trans hc
theorem IsBsr.below {w w' : World} {q : Nat} (h : IsBsr w q) (hb : Below w.heap.size w w') : IsBsr w' q := by
  obtain ⟨no, ⟨a1, c1, p1, p2, p3⟩, ⟨a2, c2, q1, q2, q3⟩, ⟨a3, c3, r1, r2, r3⟩, ⟨b, c, s1, s2, s3, s4⟩⟩ := h
  exact ⟨fun i hi h1 h2 h3 => cell_keep hb (no i hi h1 h2 h3), ⟨a1, c1, cell_keep hb p1, cell_keep hb p2, cell_keep hb p3⟩, ⟨a2, c2, cell_keep hb q1, cell_keep hb q2, cell_keep hb q3⟩, ⟨a3, c3, cell_keep hb r1, cell_keep hb r2, cell_keep hb r3⟩, ⟨b, c, cell_keep hb s1, cell_keep hb s2, cell_keep hb s3, cell_keep hb s4⟩⟩

theorem cell_marked (W : World) (c : Array Value) (t : TypeId) (fr : Nat × Nat) (n i : Nat) (hn : n = W.heap.size) : (W.alloc (.cells c t fr)).cell? ⟨n, i, none⟩ = c[i]? := by
  subst hn
  exact World.cell?_alloc_mark W c t fr i

theorem set_two {cs cs1 : Array Value} {i : Nat} {u v : Value} (h : (cs.setIfInBounds 256 u).setIfInBounds i v = cs1) (hs : Aside0 (cs.size = 257)) (hi : i < 256) :
    Aside0 (cs1.size = 257) ∧ cs1[256]? = some u ∧ cs1[i]? = some v ∧ Aside0 (∀ j, j < 256 → j ≠ i → cs1[j]? = cs[j]?) := by
  have hs := hs.out
  subst h
  refine ⟨⟨by simpa using hs⟩, ?_, ?_, ⟨fun j hj hne => ?_⟩⟩
  · rw [Array.getElem?_setIfInBounds_ne (by omega), Array.getElem?_setIfInBounds_self_of_lt (by omega)]
  · rw [Array.getElem?_setIfInBounds_self_of_lt (by simp; omega)]
  · rw [Array.getElem?_setIfInBounds_ne (by omega), Array.getElem?_setIfInBounds_ne (by omega)]

set_option maxRecDepth 100000 in
set_option maxHeartbeats 1600000 in
theorem repl_build (p ob : Nat) (w : World) (h : IsRepl 1 w p ob) :
    Calls Tryz.prog 122 #[.pointer (some ⟨p, 0, none⟩)] w fun e w' => ∃ q, e = .returned (.iface 204 (.pointer (some ⟨q, 0, none⟩))) ∧ IsBsr w' q ∧ Below w.heap.size w w' := by
  obtain ⟨hd, hl, hr, ⟨oc, ho⟩, hz, hlt, ⟨c0, c1, c2, c3, c4, c5⟩⟩ := h
  obtain ⟨cs, hcsz, hcs0, hcs256, hst0⟩ := store_bsr (.slice (some ⟨w.heap.size, 0, none⟩) 0 3) rfl
  have hst := fun W : World => hst0 W W _ rfl
  have hst1 := hst (w.alloc (.cells #[.string ⟨#[]⟩, .string ⟨#[]⟩, .string ⟨#[]⟩] 9))
  rw [show (w.alloc (.cells #[.string ⟨#[]⟩, .string ⟨#[]⟩, .string ⟨#[]⟩] 9)).heap.size = w.heap.size + 1 by simp] at hst1
  clear hst hst0
  have b0 : ob < w.heap.size := World.block_lt_of_cell? w _ c0
  have b1 : ob ≤ w.heap.size := by omega
  have b2 : ob < w.heap.size + 2 := by omega
  have b3 : ob < w.heap.size + 3 := by omega
  have b4 : ob < w.heap.size + 4 := by omega
  have b5 : ob < w.heap.size + 5 := by omega
  have b6 : ob < w.heap.size + 6 := by omega
  have b7 : ob < w.heap.size + 7 := by omega
  have b8 : ob < w.heap.size + 8 := by omega
  have b9 : ob < w.heap.size + 9 := by omega
  have b10 : ob < w.heap.size + 10 := by omega
  have b11 : ob < w.heap.size + 11 := by omega
  have b12 : ob < w.heap.size + 12 := by omega
  have b13 : ob < w.heap.size + 13 := by omega
  have b14 : ob < w.heap.size + 14 := by omega
  have e10 : ∀ h, ((⟨#[10]⟩ : ByteArray)[0]'h).toNat = 10 := fun _ => rfl
  have e34 : ∀ h, ((⟨#[34]⟩ : ByteArray)[0]'h).toNat = 34 := fun _ => rfl
  have e92 : ∀ h, ((⟨#[92]⟩ : ByteArray)[0]'h).toNat = 92 := fun _ => rfl
  have z10 := hcs0 10 (by decide)
  have z34 := hcs0 34 (by decide)
  have z92 := hcs0 92 (by decide)
  have HS0 := Aside0.mk hcsz
  have HS00 := Aside0.mk hcs0
  clear hcs0 hcsz
  have hc1 := conv_one
  have hc11 := conv_one1
  have hc12 := conv_one2
  have hc2 := conv_bytes
  have emk : madeCells (Value.string ⟨#[]⟩).cells ((3 : Int).toNat * Tryz.t9.size) = #[.string ⟨#[]⟩, .string ⟨#[]⟩, .string ⟨#[]⟩] := by kernel_rfl
  have hmk : ∀ w, (Instr.makeSlice 73 (.int .i64 0) (.int .i64 3)).run Tryz.prog w = .ok (.slice (some ⟨w.heap.size, 0, none⟩) 0 3) (w.alloc (.cells #[.string ⟨#[]⟩, .string ⟨#[]⟩, .string ⟨#[]⟩] 9)) := fun w => by
    have h := run_make w 73 9 Tryz.t9 (.string ⟨#[]⟩) Tryz.underlying73 (by kernel_rfl) (by kernel_rfl) .i64 .i64 0 3 (by decide) (by decide) (by decide) (by decide)
    rw [emk] at h
    exact h
  clear emk
  go_enter Tryz.func122, Tryz.ntmps122
  go_wp2_with fail
  refine wp_loop_rounds 4 ?_
  rw [rounds_succ]
  go_wp2_with fail
  rw [rounds_succ]
  go_wp2_with fail
  rw [rounds_succ]
  go_wp2_with fail
  rw [rounds_succ]
  go_wp2_with fail
  have hq : ∀ (w : World) (a : Option Addr) (n c n' c' : Nat), (binOp .eql 82 (.slice a n c) (.slice none n' c')).run Tryz.prog w = .ok (.bool a.isNone) w := fun w a n c n' c' => Lib.run_eql_slice_nil w _ _ a n c n' c' Tryz.underlying82
  refine wp_loop_rounds 4 ?_
  rw [rounds_succ]
  go_wp2_with fail
  generalize grownCap _ 2 0 5 = g1
  generalize hE1 : (cs.setIfInBounds 256 _).setIfInBounds 10 _ = cs1
  obtain ⟨HS1, y1, x10, HJ1⟩ := set_two hE1 HS0 (by decide)
  have x92 := (HJ1.out 92 (by decide) (by decide)).trans z92
  have x34 := (HJ1.out 34 (by decide) (by decide)).trans z34
  clear hE1 hcs256
  rw [rounds_succ]
  go_wp2_with fail
  generalize grownCap _ 2 0 5 = g2
  generalize hE2 : (cs1.setIfInBounds 256 _).setIfInBounds 92 _ = cs2
  obtain ⟨HS2, y2, v92, HJ2⟩ := set_two hE2 HS1 (by decide)
  have v10 := (HJ2.out 10 (by decide) (by decide)).trans x10
  have v34 := (HJ2.out 34 (by decide) (by decide)).trans x34
  clear hE2 y1
  rw [rounds_succ]
  go_wp2_with fail
  generalize grownCap _ 2 0 5 = g3
  generalize hE3 : (cs2.setIfInBounds 256 _).setIfInBounds 34 _ = cs3
  obtain ⟨HS3, y3, u34, HJ3⟩ := set_two hE3 HS2 (by decide)
  have u10 := (HJ3.out 10 (by decide) (by decide)).trans v10
  have u92 := (HJ3.out 92 (by decide) (by decide)).trans v92
  clear hE3 y2
  rw [rounds_succ]
  go_wp2_with fail
  go_ret
  have br : ∀ (x y : UInt8) (g : Nat), (bytesRow ⟨#[x, y]⟩ g)[0]? = some (.int .u8 x.toNat) ∧ (bytesRow ⟨#[x, y]⟩ g)[1]? = some (.int .u8 y.toNat) := by
    intro x y g
    constructor <;> simp [bytesRow, Array.getElem?_append]
  have hcm := cell_marked
  refine ⟨w.heap.size + 1, rfl, ⟨fun i hi h1 h2 h3 => ?_, ?_, ?_, ?_, ?_⟩, ?_⟩
  · have := ((HJ3.out i hi h2).trans ((HJ2.out i hi h3).trans (HJ1.out i hi h1))).trans (HS00.out i hi)
    go_simp
  · refine ⟨w.heap.size + 1 + 1 + 1 + 1, g1, ?_, ?_, ?_⟩
    · go_simp
    · have := (br 92 110 g1).1
      go_simp
    · have := (br 92 110 g1).2
      go_simp
  · refine ⟨w.heap.size + 1 + 1 + 1 + 1 + 1 + 1 + 1 + 1 + 1 + 1, g3, ?_, ?_, ?_⟩
    · go_simp
    · have := (br 92 34 g3).1
      go_simp
    · have := (br 92 34 g3).2
      go_simp
  · refine ⟨w.heap.size + 1 + 1 + 1 + 1 + 1 + 1 + 1, g2, ?_, ?_, ?_⟩
    · go_simp
    · have := (br 92 92 g2).1
      go_simp
    · have := (br 92 92 g2).2
      go_simp
  · refine ⟨w.heap.size, 3, ?_, ?_, ?_, ?_⟩
    · go_simp
    · go_simp
    · go_simp
    · go_simp
  · repeat first | exact Below.refl _ _ | refine Below.drew ?_ | refine Below.alloc ?_ (by simp <;> omega) _
end Go.Proofs.YtmgcpjgpmjhemaaGreatDoor.Pc

/-
(*strings.Replacer).buildOnce, (*strings.byteStringReplacer).Replace, (*strings.Replacer).Replace.
-/
namespace Go.Proofs.YtmgcpjgpmjhemaaGreatDoor.Pc
open Go.RowKit Go.Proofs.YtmgcpjgpmjhemaaGreatDoorW.PrintWords Go.Proofs.YtmgcpjgpmjhemaaGreatDoorW.PrintLast Go.Proofs.YtmgcpjgpmjhemaaGreatDoorW.PrintMore
open CodePure (esc esc1 Bs hits hitb)
set_option linter.unusedVariables false

theorem bsr_at {w : World} {q : Nat} (h : IsBsr w q) (c : UInt8) : (hitb c = false ∧ w.cell? ⟨q, c.toNat, none⟩ = some (.slice none 0 0)) ∨
    (hitb c = true ∧ ∃ a cp x, esc1 c = [92, x] ∧ w.cell? ⟨q, c.toNat, none⟩ = some (.slice (some ⟨a, 0, none⟩) 2 cp) ∧ w.cell? ⟨a, 0, none⟩ = some (.int .u8 92) ∧ w.cell? ⟨a, 1, none⟩ = some (.int .u8 (UInt8.toNat x))) := by
  by_cases h1 : c = 10
  · subst h1
    obtain ⟨a, cp, p1, p2, p3⟩ := h.r10
    exact .inr ⟨rfl, a, cp, 110, rfl, p1, p2, p3⟩
  · by_cases h2 : c = 92
    · subst h2
      obtain ⟨a, cp, p1, p2, p3⟩ := h.r92
      exact .inr ⟨rfl, a, cp, 92, rfl, p1, p2, p3⟩
    · by_cases h3 : c = 34
      · subst h3
        obtain ⟨a, cp, p1, p2, p3⟩ := h.r34
        exact .inr ⟨rfl, a, cp, 34, rfl, p1, p2, p3⟩
      · have n : ∀ k : Nat, k < 256 → c ≠ UInt8.ofNat k → c.toNat ≠ k := fun k hk hc e => hc (by rw [← e]; simp)
        refine .inl ⟨by simp [hitb, h1, h2, h3], h.no c.toNat c.toNat_lt (n 10 (by decide) h1) (n 34 (by decide) h3) (n 92 (by decide) h2)⟩

theorem byte_at (s : ByteArray) (k : Nat) (c : UInt8) (h : k < s.size) (hc : s[k]'h = c) : s.data.toList[k]? = some c := by
  rw [← hc]
  rw [List.getElem?_eq_getElem (by simpa using h)]
  rfl

def sumc (l : Bs) : Nat → Nat
  | 0 => 0
  | 1 => Lib.countByte l 10
  | 2 => Lib.countByte l 10 + Lib.countByte l 92
  | _ => hits l
theorem sumc_le (l : Bs) (k : Nat) : sumc l k ≤ l.length := by
  have h := CodePure.hits_counts l
  have h2 := CodePure.hits_le l
  match k with
  | 0 => exact Nat.zero_le _
  | 1 => show Lib.countByte l 10 ≤ _; omega
  | 2 => show Lib.countByte l 10 + Lib.countByte l 92 ≤ _; omega
  | k + 3 => exact h2
theorem sumc_0 (l : Bs) (n : Nat) (h : Lib.countByte l 10 = n) : sumc l 1 = sumc l 0 + n := by simp [sumc, h]
theorem sumc_1 (l : Bs) (n : Nat) (h : Lib.countByte l 92 = n) : sumc l 2 = sumc l 1 + n := by simp [sumc, h]
theorem sumc_2 (l : Bs) (n : Nat) (h : Lib.countByte l 34 = n) : sumc l 3 = sumc l 2 + n := by simp [sumc, ← h, ← CodePure.hits_counts l]
theorem lit_of (x : UInt8) (n : Nat) (h : x.toNat = n) : x = UInt8.ofNat n := by rw [← h]; simp

/-- The row of the buffer: the first 'j' cells are the bytes of 'out', of 'n' cells in all. -/
def Row (wr : World) (B n : Nat) (out : Bs) : Prop := ∃ L : List Value, wr.heap[B]? = some (.cells L.toArray 5 (0, 0)) ∧ L.length = n ∧ L.take out.length = out.map (fun c => Value.int .u8 (c.toNat : Int))
theorem row_cell {wr : World} {B n : Nat} {out : Bs} (h : Row wr B n out) (j : Nat) (hj : j < n) : (∃ x, wr.cell? ⟨B, j, none⟩ = some x) ∧ wr.frozen? ⟨B, j, none⟩ = false := by
  obtain ⟨L, h1, h2, _⟩ := h
  refine ⟨⟨L[j]'(by omega), ?_⟩, by simp [World.frozen?, h1]⟩
  simp [World.cell?, h1, show j < L.length by omega]
theorem row_set {wr : World} {B n : Nat} {out : Bs} (h : Row wr B n out) (hj : out.length < n) (c : UInt8) : Row (wr.setCell ⟨B, out.length, none⟩ (.int .u8 (c.toNat : Int))) B n (out ++ [c]) := by
  obtain ⟨L, h1, h2, h3⟩ := h
  refine ⟨L.set out.length (.int .u8 (c.toNat : Int)), ?_, by simpa using h2, ?_⟩
  · rw [setCell_eq_setRow wr B out.length L.toArray _ _ _ h1]
    rw [setRow_heap wr B L.toArray _ _ _ h1]
    simp
  · simp only [List.length_append, List.length_singleton, List.map_append, List.map_cons, List.map_nil]
    rw [List.take_add_one, List.take_set_of_le (Nat.le_refl _), h3]
    simp [show out.length < L.length by omega]
theorem row_splice {w' : World} {B n : Nat} {out cs : Bs} {L : List Value} (h2 : L.length = n) (h3 : L.take out.length = out.map (fun c => Value.int .u8 (c.toNat : Int))) (hj : out.length + cs.length ≤ n)
    (h : w'.heap[B]? = some (.cells (splice L out.length (cs.map (fun c => Value.int .u8 (c.toNat : Int)))).toArray 5 (0, 0))) : Row w' B n (out ++ cs) := by
  refine ⟨_, h, ?_, ?_⟩
  · rw [length_splice _ _ _ (by simp; omega)]; exact h2
  · have e : out.length = (out.map (fun c => Value.int .u8 (c.toNat : Int))).length := by simp
    unfold splice
    rw [h3, ← List.append_assoc, List.map_append]
    exact List.take_left' (by simp)

set_option maxRecDepth 100000 in
set_option maxHeartbeats 4000000 in
theorem bsr_Replace (q : Nat) (s : ByteArray) (w : World) (h : IsBsr w q) (hsz : s.size ≤ 70368744177664) :
    Calls Tryz.prog 283 #[.pointer (some ⟨q, 0, none⟩), .string s] w fun e w' => e = .returned (.string ⟨(esc s.data.toList).toArray⟩) ∧ Below w.heap.size w w' := by
  have e10 : ∀ h, ((⟨#[10]⟩ : ByteArray)[0]'h).toNat = 10 := fun _ => rfl
  have e34 : ∀ h, ((⟨#[34]⟩ : ByteArray)[0]'h).toNat = 34 := fun _ => rfl
  have e92 : ∀ h, ((⟨#[92]⟩ : ByteArray)[0]'h).toNat = 92 := fun _ => rfl
  have nq0 : ∀ (w : World), (binOp .neq 82 (.slice none 0 0) (.slice none 0 0)).run Tryz.prog w = .ok (.bool false) w := fun w => run_neq_slice_nil_any w _ _ none 0 0 0 0 Tryz.underlying82
  have nq1 : ∀ (w : World) (a : Addr) (n c : Nat), (binOp .neq 82 (.slice (some a) n c) (.slice none 0 0)).run Tryz.prog w = .ok (.bool true) w := fun w a n c => run_neq_slice_nil_any w _ _ (some a) n c 0 0 Tryz.underlying82
  have HB0 := Aside0.mk h
  obtain ⟨l, hl⟩ : ∃ l, s.data.toList = l := ⟨_, rfl⟩
  have HLE : Aside0 (s.data.toList = l) := ⟨hl⟩
  have hlen : l.length = s.size := by rw [← hl]; simp
  obtain ⟨_, ⟨a1, c1, p1, p2, p3⟩, ⟨a2, c2, q1, q2, q3⟩, ⟨a3, c3, r1, r2, r3⟩, ⟨tb, tc, s1, s2, s3, s4⟩⟩ := h
  rw [hl]
  clear hl
  go_enter Tryz.func283, Tryz.ntmps283
  by_cases hbig : (24 : Int) ≤ (s.size : Int)
  · go_wp2_with fail
    go_loopw [5, 6, 32] (fun i5 i6 i32 wr => ∃ k : Nat, k ≤ 3 ∧ i5 = .int .i64 ((s.size : Int) + (sumc l k : Nat)) ∧ i6 = .bool (decide (0 < sumc l k)) ∧ i32 = .int .i64 k ∧ Aside0 (Below w.heap.size w wr)) (fun _ _ i _ => 3 - (intOf i).toNat)
    case atStart => exact ⟨0, by decide, by simp [sumc], by simp [sumc], rfl, ⟨Below.refl _ _⟩⟩
    case round =>
      obtain ⟨k, hk, rfl, rfl, rfl, HW⟩ := hrel
      have P1 := cell_keep HW.out p1
      have Q1 := cell_keep HW.out q1
      have R1 := cell_keep HW.out r1
      have S2 := cell_keep HW.out s2
      have S3 := cell_keep HW.out s3
      have S4 := cell_keep HW.out s4
      by_cases hk3 : k < 3
      · have hkk : k = 0 ∨ k = 1 ∨ k = 2 := by omega
        rcases hkk with rfl | rfl | rfl
        · obtain ⟨n, hn⟩ : ∃ n, Lib.countByte l 10 = n := ⟨_, rfl⟩
          have HS := Aside0.mk (sumc_0 l n hn)
          have hb1 := sumc_le l 1
          have hcount : ∀ W, Calls Tryz.prog 60 #[.string s, .string ⟨#[10]⟩] W fun e w' => e = .returned (.int .i64 n) ∧ w' = W := fun W => by
            have := Tryz.strings_Count_one s 10 W
            rw [HLE.out, hn] at this
            exact this
          have HC := Aside0.mk hcount
          rw [HS.out] at hb1
          clear hcount hn
          obtain ⟨m, hm⟩ : ∃ m, sumc l 0 = m := ⟨_, rfl⟩
          have HM := Aside0.mk hm
          rw [hm] at hb1 ⊢
          clear hm
          by_cases hn0 : n = 0
          · have t0 : ((n : Int) != 0) = false := by simp [hn0]
            have n0 := Aside0.mk hn0
            clear hn0
            go_wp2_with (go_at_call 60; refine (HC.out _).mono ?_; rintro e w' ⟨rfl, rfl⟩)
            go_roundw
            case rel => exact ⟨1, by decide, by rw [HS.out, HM.out, n0.out, Nat.add_zero], by rw [HS.out, HM.out, n0.out, Nat.add_zero], by go_num, HW⟩
            case measure => simp [intOf]
          · have t0 : ((n : Int) != 0) = true := by simp [hn0]
            have n0 := Aside0.mk (Nat.pos_of_ne_zero hn0)
            clear hn0
            go_wp2_with (go_at_call 60; refine (HC.out _).mono ?_; rintro e w' ⟨rfl, rfl⟩)
            go_quiet (fail)
            go_wp2_with fail
            go_roundw
            case rel => exact ⟨1, by decide, by rw [HS.out, HM.out]; go_num, by rw [HS.out, decide_eq_true (Nat.lt_of_lt_of_le n0.out (Nat.le_add_left _ _))], by go_num, ⟨pw_below_drewN HW.out _⟩⟩
            case measure => simp [intOf]
        · obtain ⟨n, hn⟩ : ∃ n, Lib.countByte l 92 = n := ⟨_, rfl⟩
          have HS := Aside0.mk (sumc_1 l n hn)
          have hb1 := sumc_le l 2
          have hcount : ∀ W, Calls Tryz.prog 60 #[.string s, .string ⟨#[92]⟩] W fun e w' => e = .returned (.int .i64 n) ∧ w' = W := fun W => by
            have := Tryz.strings_Count_one s 92 W
            rw [HLE.out, hn] at this
            exact this
          have HC := Aside0.mk hcount
          rw [HS.out] at hb1
          clear hcount hn
          obtain ⟨m, hm⟩ : ∃ m, sumc l 1 = m := ⟨_, rfl⟩
          have HM := Aside0.mk hm
          rw [hm] at hb1 ⊢
          clear hm
          by_cases hn0 : n = 0
          · have t0 : ((n : Int) != 0) = false := by simp [hn0]
            have n0 := Aside0.mk hn0
            clear hn0
            go_wp2_with (go_at_call 60; refine (HC.out _).mono ?_; rintro e w' ⟨rfl, rfl⟩)
            go_roundw
            case rel => exact ⟨2, by decide, by rw [HS.out, HM.out, n0.out, Nat.add_zero], by rw [HS.out, HM.out, n0.out, Nat.add_zero], by go_num, HW⟩
            case measure => simp [intOf]
          · have t0 : ((n : Int) != 0) = true := by simp [hn0]
            have n0 := Aside0.mk (Nat.pos_of_ne_zero hn0)
            clear hn0
            go_wp2_with (go_at_call 60; refine (HC.out _).mono ?_; rintro e w' ⟨rfl, rfl⟩)
            go_quiet (fail)
            go_wp2_with fail
            go_roundw
            case rel => exact ⟨2, by decide, by rw [HS.out, HM.out]; go_num, by rw [HS.out, decide_eq_true (Nat.lt_of_lt_of_le n0.out (Nat.le_add_left _ _))], by go_num, ⟨pw_below_drewN HW.out _⟩⟩
            case measure => simp [intOf]
        · obtain ⟨n, hn⟩ : ∃ n, Lib.countByte l 34 = n := ⟨_, rfl⟩
          have HS := Aside0.mk (sumc_2 l n hn)
          have hb1 := sumc_le l 3
          have hcount : ∀ W, Calls Tryz.prog 60 #[.string s, .string ⟨#[34]⟩] W fun e w' => e = .returned (.int .i64 n) ∧ w' = W := fun W => by
            have := Tryz.strings_Count_one s 34 W
            rw [HLE.out, hn] at this
            exact this
          have HC := Aside0.mk hcount
          rw [HS.out] at hb1
          clear hcount hn
          obtain ⟨m, hm⟩ : ∃ m, sumc l 2 = m := ⟨_, rfl⟩
          have HM := Aside0.mk hm
          rw [hm] at hb1 ⊢
          clear hm
          by_cases hn0 : n = 0
          · have t0 : ((n : Int) != 0) = false := by simp [hn0]
            have n0 := Aside0.mk hn0
            clear hn0
            go_wp2_with (go_at_call 60; refine (HC.out _).mono ?_; rintro e w' ⟨rfl, rfl⟩)
            go_roundw
            case rel => exact ⟨3, by decide, by rw [HS.out, HM.out, n0.out, Nat.add_zero], by rw [HS.out, HM.out, n0.out, Nat.add_zero], by go_num, HW⟩
            case measure => simp [intOf]
          · have t0 : ((n : Int) != 0) = true := by simp [hn0]
            have n0 := Aside0.mk (Nat.pos_of_ne_zero hn0)
            clear hn0
            go_wp2_with (go_at_call 60; refine (HC.out _).mono ?_; rintro e w' ⟨rfl, rfl⟩)
            go_quiet (fail)
            go_wp2_with fail
            go_roundw
            case rel => exact ⟨3, by decide, by rw [HS.out, HM.out]; go_num, by rw [HS.out, decide_eq_true (Nat.lt_of_lt_of_le n0.out (Nat.le_add_left _ _))], by go_num, ⟨pw_below_drewN HW.out _⟩⟩
            case measure => simp [intOf]
      · obtain rfl : k = 3 := by omega
        clear hk3 hk
        rw [show ((3 : Nat) : Int) = (3 : Int) from rfl]
        have hN : (s.size : Int) + (sumc l 3 : Nat) = ((esc l).length : Int) := by rw [CodePure.esc_len, hlen]; show _ + ((hits l : Nat) : Int) = _; omega
        have hNle : (esc l).length ≤ 140737488355328 := by have := CodePure.esc_len l; have := CodePure.hits_le l; omega
        rw [hN]
        clear hN
        by_cases hh : hits l = 0
        · have hany : decide (0 < sumc l 3) = false := by show decide (0 < hits l) = false; simp [hh]
          have HES : Aside0 (esc l = l) := ⟨CodePure.esc_same hh⟩
          have HSS : Aside0 (s = ⟨l.toArray⟩) := ⟨by rw [← HLE.out]⟩
          rw [hany, HES.out]
          clear hany hh
          go_wp2_with fail
          go_ret
          exact ⟨by rw [HES.out, ← HSS.out]; rfl, HW.out⟩
        · have hany : decide (0 < sumc l 3) = true := decide_eq_true (Nat.pos_of_ne_zero hh)
          rw [hany]
          obtain ⟨N, hN⟩ : ∃ N, (esc l).length = N := ⟨_, rfl⟩
          have HN := Aside0.mk hN
          rw [hN] at hNle ⊢
          have hmk : ∀ W, (Instr.makeSlice 82 (.int .i64 (N : Int)) (.int .i64 (N : Int))).run Tryz.prog W = .ok (.slice (some ⟨W.heap.size, 0, none⟩) N N) (W.alloc (.cells (madeCells #[.int .u8 0] N) 5)) :=
            run_make_row' 82 5 (.int .u8 0) 1 Tryz.underlying82 (by kernel_rfl) rfl .i64 .i64 N (by omega) (by omega)
          clear hany hh hN
          go_wp2_with fail
          have hBsz := HW.out.size
          have HR0 : Aside0 (Row (wr.alloc (.cells (madeCells #[.int .u8 0] N) 5)) wr.heap.size N (esc (l.take 0))) := ⟨(madeCells #[.int .u8 0] N).toList, by rw [Array.toArray_toList]; exact heap_alloc_new wr _, by simp [size_madeCells], by simp [esc]⟩
          have HW0 : Aside0 (Below w.heap.size w (wr.alloc (.cells (madeCells #[.int .u8 0] N) 5))) := ⟨HW.out.alloc hBsz _⟩
          obtain ⟨B, hB⟩ : ∃ B, wr.heap.size = B := ⟨_, rfl⟩
          rw [hB] at HR0 hBsz ⊢
          clear HW hB
          go_loopw [13, 14] (fun i13 i14 wx => ∃ k : Nat, k ≤ s.size ∧ i13 = .int .i64 ((esc (l.take k)).length : Nat) ∧ i14 = .int .i64 k ∧ Aside0 (Row wx B N (esc (l.take k))) ∧ Aside0 (Below w.heap.size w wx)) (fun _ i _ => s.size - (intOf i).toNat)
          case atStart => exact ⟨0, Nat.zero_le _, rfl, rfl, HR0, HW0⟩
          case round =>
            obtain ⟨k, hk, rfl, rfl, HR, HW⟩ := hrel
            by_cases hlt : k < s.size
            · obtain ⟨c, hc⟩ : ∃ c, s[k]'hlt = c := ⟨_, rfl⟩
              have HL := HLE.out ▸ byte_at s k c hlt hc
              have HT := CodePure.esc_take HL
              have hbnd := CodePure.esc_take_len_le l (k + 1)
              rw [HT, List.length_append, HN.out] at hbnd
              have HX := Aside0.mk HT
              clear HT HL
              have hc0 : (0 : Int) ≤ (c.toNat : Int) := by omega
              have hc1 : (c.toNat : Int) < 256 := by have := c.toNat_lt; omega
              obtain ⟨out, hout⟩ : ∃ out, esc (l.take k) = out := ⟨_, rfl⟩
              rw [hout] at HR HX hbnd ⊢
              clear hout
              obtain ⟨j, hj⟩ : ∃ j, out.length = j := ⟨_, rfl⟩
              have HJ := Aside0.mk hj
              rw [hj] at hbnd ⊢
              clear hj
              rcases bsr_at HB0.out c with ⟨hh, d0⟩ | ⟨hh, a, cp, x, hx, d0, d1, d2⟩
              · have D0 := cell_keep HW.out d0
                rw [CodePure.esc1_same hh] at HX hbnd
                have hjN : j < N := by simp at hbnd; omega
                obtain ⟨⟨y, HC⟩, HZ⟩ := row_cell HR.out j hjN
                have HR2 := Aside0.mk (row_set HR.out (by rw [HJ.out]; exact hjN) c)
                have HW2 : Aside0 (Below w.heap.size w (wr.setCell ⟨B, j, none⟩ (.int .u8 (c.toNat : Int)))) := ⟨HW.out.setCell hBsz _⟩
                rw [HJ.out] at HR2
                have hjj : (j : Int) < (N : Int) := by omega
                clear hh d0
                go_wp2_with fail
                go_roundw
                case rel => exact ⟨k + 1, by omega, by rw [HX.out, List.length_append, HJ.out]; rfl, by go_num, ⟨HX.out ▸ HR2.out⟩, HW2⟩
                case measure => simp [intOf]; omega
              · have D0 := cell_keep HW.out d0
                have D1 := cell_keep HW.out d1
                have D2 := cell_keep HW.out d2
                rw [hx] at HX hbnd
                have hjN : (j : Int) + 2 ≤ (N : Int) := by simp at hbnd; omega
                obtain ⟨L, g1, g2, g3⟩ := HR.out
                have HG := Aside0.mk g1
                have HG2 := Aside0.mk g2
                have HG3 := Aside0.mk g3
                clear hh d0 d1 d2 g1 g2 g3 hx
                have hBh : B < wr.heap.size := by
                  rcases Nat.lt_or_ge B wr.heap.size with h | h
                  · exact h
                  · have := HG.out
                    rw [Array.getElem?_eq_none h] at this
                    cases this
                have hj1 : (j : Int) < (N : Int) := by omega
                have hj2 : j < N := by omega
                have hj3 : j ≤ N := by omega
                have HCS := Aside0.mk (show (([92, x] : Bs).map (fun c => Value.int .u8 (c.toNat : Int))).length = Nat.min 2 (N - j) from (Nat.min_eq_left (show 2 ≤ N - j by omega)).symm)
                have hNj : ¬ N = j := by omega
                have HP : Aside0 (∀ (jj : Nat) (v : Value), (([92, x] : Bs).map (fun c => Value.int .u8 (c.toNat : Int)))[jj]? = some v → wr.cell? ((⟨a, 0, none⟩ : Addr).add jj) = some v) := ⟨fun jj v hv => by
                  match jj, hv with
                  | 0, hv => exact (Option.some.inj hv) ▸ D1
                  | 1, hv => exact (Option.some.inj hv) ▸ D2⟩
                have HF : Aside0 (j + (([92, x] : Bs).map (fun c => Value.int .u8 (c.toNat : Int))).length ≤ L.length) := ⟨by rw [HG2.out]; show j + 2 ≤ N; omega⟩
                have H1 : Aside0 (∀ v ∈ ([92, x] : Bs).map (fun c => Value.int .u8 (c.toNat : Int)), v.oneCell' = true) := ⟨by intro v hv; simp at hv; rcases hv with rfl | rfl <;> rfl⟩
                go_wp2_with fail
                go_region_law (refine step_copy_splice rfl (.tmp 105) (.tmp 111) 82 82 rfl 5 Tryz.underlying82 (by kernel_rfl) _ _ _ _ _ _ rfl rfl B j L 5 HG.out (([92, x] : Bs).map (fun c => Value.int .u8 (c.toNat : Int))) (by first | exact HCS.out | (have := HCS.out; simp at this ⊢; omega)) (fun _ => ⟨rfl, _, rfl, HP.out⟩) HF.out H1.out w.heap.size w (by first | exact HW.out | exact HW.out.drew | exact HW.out.drew.drew) hBsz ?_; intro w4 hg4 hb4)
                have HG4 : Aside0 (w4.heap[B]? = some (.cells (splice L j (([92, x] : Bs).map (fun c => Value.int .u8 (c.toNat : Int)))).toArray 5 (0, 0))) := ⟨hg4⟩
                have HW4 := Aside0.mk hb4
                have HR4 : Aside0 (Row w4 B N (out ++ [92, x])) := ⟨row_splice HG2.out HG3.out (by rw [HJ.out]; show j + 2 ≤ N; omega) (by rw [HJ.out]; exact HG4.out)⟩
                have hwr : IntKind.i64.wrap ((j : Int) + 2) = (j : Int) + 2 := by rw [IntKind.wrap_i64]; omega
                clear hg4 hb4
                go_wp2_with fail
                go_roundw
                case rel => exact ⟨k + 1, by omega, by rw [HX.out, List.length_append, HJ.out]; rfl, by go_num, ⟨HX.out ▸ HR4.out⟩, HW4⟩
                case measure => simp [intOf]; omega
            · obtain rfl : k = s.size := by omega
              clear hlt hk
              have htk : l.take s.size = l := List.take_of_length_le (by omega)
              rw [htk] at HR ⊢
              obtain ⟨L, g1, g2, g3⟩ := HR.out
              rw [HN.out, List.take_of_length_le (by omega)] at g3
              have hcv := run_convert_bytes_back (P := Tryz.prog) wr 82 9 5 ⟨B, 0, none⟩ N (esc l) Tryz.underlying82 Tryz.underlying5 Tryz.underlying9 (fun i hi => by
                have e : ((⟨B, 0, none⟩ : Addr).add i) = ⟨B, i, none⟩ := by unfold Addr.add; split <;> simp_all
                rw [e]
                simp [World.cell?, g1, g3, hi])
              rw [HN.out] at hcv
              clear htk g1 g2 g3
              go_wp2_with fail
              go_ret
              exact ⟨rfl, HW.out⟩
  · go_wp2_with fail
    go_loopw [5, 6, 10] (fun i5 i6 i10 wr => ∃ k : Nat, k ≤ s.size ∧ i5 = .int .i64 ((s.size : Int) + (hits (l.take k) : Nat)) ∧ i6 = .bool (decide (0 < hits (l.take k))) ∧ i10 = .int .i64 k ∧ Aside0 (Below w.heap.size w wr)) (fun _ _ i _ => s.size - (intOf i).toNat)
    case atStart => exact ⟨0, Nat.zero_le _, by simp [hits], by simp [hits], rfl, ⟨Below.refl _ _⟩⟩
    case round =>
      obtain ⟨k, hk, rfl, rfl, rfl, HW⟩ := hrel
      by_cases hlt : k < s.size
      · obtain ⟨c, hc⟩ : ∃ c, s[k]'hlt = c := ⟨_, rfl⟩
        have HL := HLE.out ▸ byte_at s k c hlt hc
        have HT := Aside0.mk (CodePure.hits_take HL)
        have hb1 := CodePure.hits_take_le l k
        have hb2 := CodePure.hits_le l
        have hc0 : (0 : Int) ≤ (c.toNat : Int) := by omega
        have hc1 : (c.toNat : Int) < 256 := by have := c.toNat_lt; omega
        clear HL
        obtain ⟨m, hm⟩ : ∃ m, hits (l.take k) = m := ⟨_, rfl⟩
        have HM := Aside0.mk hm
        rw [hm] at hb1 ⊢
        clear hm
        rcases bsr_at HB0.out c with ⟨hh, d0⟩ | ⟨hh, a, cp, x, hx, d0, d1, d2⟩
        · have D0 := cell_keep HW.out d0
          have HH := Aside0.mk hh
          clear hh d0
          go_wp2_with fail
          go_roundw
          case rel => exact ⟨k + 1, by omega, by rw [HT.out, HM.out, HH.out]; rfl, by rw [HT.out, HM.out, HH.out]; rfl, by go_num, HW⟩
          case measure => simp [intOf]; omega
        · have D0 := cell_keep HW.out d0
          have HH := Aside0.mk hh
          clear hh d0 d1 d2 hx
          go_wp2_with fail
          go_roundw
          case rel => exact ⟨k + 1, by omega, by rw [HT.out, HM.out, HH.out]; go_num, by rw [HT.out, HM.out, HH.out]; simp, by go_num, HW⟩
          case measure => simp [intOf]; omega
      · obtain rfl : k = s.size := by omega
        clear hlt hk
        have htk : l.take s.size = l := List.take_of_length_le (by omega)
        rw [htk]
        clear htk
        have hN : (s.size : Int) + (hits l : Nat) = ((esc l).length : Int) := by rw [CodePure.esc_len, hlen]; omega
        have hNle : (esc l).length ≤ 140737488355328 := by have := CodePure.esc_len l; have := CodePure.hits_le l; omega
        rw [hN]
        clear hN
        by_cases hh : hits l = 0
        · have hany : decide (0 < hits l) = false := by simp [hh]
          have HES : Aside0 (esc l = l) := ⟨CodePure.esc_same hh⟩
          have HSS : Aside0 (s = ⟨l.toArray⟩) := ⟨by rw [← HLE.out]⟩
          rw [hany, HES.out]
          clear hany hh
          go_wp2_with fail
          go_ret
          exact ⟨by rw [HES.out, ← HSS.out]; rfl, HW.out⟩
        · have hany : decide (0 < hits l) = true := decide_eq_true (Nat.pos_of_ne_zero hh)
          rw [hany]
          obtain ⟨N, hN⟩ : ∃ N, (esc l).length = N := ⟨_, rfl⟩
          have HN := Aside0.mk hN
          rw [hN] at hNle ⊢
          have hmk : ∀ W, (Instr.makeSlice 82 (.int .i64 (N : Int)) (.int .i64 (N : Int))).run Tryz.prog W = .ok (.slice (some ⟨W.heap.size, 0, none⟩) N N) (W.alloc (.cells (madeCells #[.int .u8 0] N) 5)) :=
            run_make_row' 82 5 (.int .u8 0) 1 Tryz.underlying82 (by kernel_rfl) rfl .i64 .i64 N (by omega) (by omega)
          clear hany hh hN
          go_wp2_with fail
          have hBsz := HW.out.size
          have HR0 : Aside0 (Row (wr.alloc (.cells (madeCells #[.int .u8 0] N) 5)) wr.heap.size N (esc (l.take 0))) := ⟨(madeCells #[.int .u8 0] N).toList, by rw [Array.toArray_toList]; exact heap_alloc_new wr _, by simp [size_madeCells], by simp [esc]⟩
          have HW0 : Aside0 (Below w.heap.size w (wr.alloc (.cells (madeCells #[.int .u8 0] N) 5))) := ⟨HW.out.alloc hBsz _⟩
          obtain ⟨B, hB⟩ : ∃ B, wr.heap.size = B := ⟨_, rfl⟩
          rw [hB] at HR0 hBsz ⊢
          clear HW hB
          go_loopw [13, 14] (fun i13 i14 wx => ∃ k : Nat, k ≤ s.size ∧ i13 = .int .i64 ((esc (l.take k)).length : Nat) ∧ i14 = .int .i64 k ∧ Aside0 (Row wx B N (esc (l.take k))) ∧ Aside0 (Below w.heap.size w wx)) (fun _ i _ => s.size - (intOf i).toNat)
          case atStart => exact ⟨0, Nat.zero_le _, rfl, rfl, HR0, HW0⟩
          case round =>
            obtain ⟨k, hk, rfl, rfl, HR, HW⟩ := hrel
            by_cases hlt : k < s.size
            · obtain ⟨c, hc⟩ : ∃ c, s[k]'hlt = c := ⟨_, rfl⟩
              have HL := HLE.out ▸ byte_at s k c hlt hc
              have HT := CodePure.esc_take HL
              have hbnd := CodePure.esc_take_len_le l (k + 1)
              rw [HT, List.length_append, HN.out] at hbnd
              have HX := Aside0.mk HT
              clear HT HL
              have hc0 : (0 : Int) ≤ (c.toNat : Int) := by omega
              have hc1 : (c.toNat : Int) < 256 := by have := c.toNat_lt; omega
              obtain ⟨out, hout⟩ : ∃ out, esc (l.take k) = out := ⟨_, rfl⟩
              rw [hout] at HR HX hbnd ⊢
              clear hout
              obtain ⟨j, hj⟩ : ∃ j, out.length = j := ⟨_, rfl⟩
              have HJ := Aside0.mk hj
              rw [hj] at hbnd ⊢
              clear hj
              rcases bsr_at HB0.out c with ⟨hh, d0⟩ | ⟨hh, a, cp, x, hx, d0, d1, d2⟩
              · have D0 := cell_keep HW.out d0
                rw [CodePure.esc1_same hh] at HX hbnd
                have hjN : j < N := by simp at hbnd; omega
                obtain ⟨⟨y, HC⟩, HZ⟩ := row_cell HR.out j hjN
                have HR2 := Aside0.mk (row_set HR.out (by rw [HJ.out]; exact hjN) c)
                have HW2 : Aside0 (Below w.heap.size w (wr.setCell ⟨B, j, none⟩ (.int .u8 (c.toNat : Int)))) := ⟨HW.out.setCell hBsz _⟩
                rw [HJ.out] at HR2
                have hjj : (j : Int) < (N : Int) := by omega
                clear hh d0
                go_wp2_with fail
                go_roundw
                case rel => exact ⟨k + 1, by omega, by rw [HX.out, List.length_append, HJ.out]; rfl, by go_num, ⟨HX.out ▸ HR2.out⟩, HW2⟩
                case measure => simp [intOf]; omega
              · have D0 := cell_keep HW.out d0
                have D1 := cell_keep HW.out d1
                have D2 := cell_keep HW.out d2
                rw [hx] at HX hbnd
                have hjN : (j : Int) + 2 ≤ (N : Int) := by simp at hbnd; omega
                obtain ⟨L, g1, g2, g3⟩ := HR.out
                have HG := Aside0.mk g1
                have HG2 := Aside0.mk g2
                have HG3 := Aside0.mk g3
                clear hh d0 d1 d2 g1 g2 g3 hx
                have hBh : B < wr.heap.size := by
                  rcases Nat.lt_or_ge B wr.heap.size with h | h
                  · exact h
                  · have := HG.out
                    rw [Array.getElem?_eq_none h] at this
                    cases this
                have hj1 : (j : Int) < (N : Int) := by omega
                have hj2 : j < N := by omega
                have hj3 : j ≤ N := by omega
                have HCS := Aside0.mk (show (([92, x] : Bs).map (fun c => Value.int .u8 (c.toNat : Int))).length = Nat.min 2 (N - j) from (Nat.min_eq_left (show 2 ≤ N - j by omega)).symm)
                have hNj : ¬ N = j := by omega
                have HP : Aside0 (∀ (jj : Nat) (v : Value), (([92, x] : Bs).map (fun c => Value.int .u8 (c.toNat : Int)))[jj]? = some v → wr.cell? ((⟨a, 0, none⟩ : Addr).add jj) = some v) := ⟨fun jj v hv => by
                  match jj, hv with
                  | 0, hv => exact (Option.some.inj hv) ▸ D1
                  | 1, hv => exact (Option.some.inj hv) ▸ D2⟩
                have HF : Aside0 (j + (([92, x] : Bs).map (fun c => Value.int .u8 (c.toNat : Int))).length ≤ L.length) := ⟨by rw [HG2.out]; show j + 2 ≤ N; omega⟩
                have H1 : Aside0 (∀ v ∈ ([92, x] : Bs).map (fun c => Value.int .u8 (c.toNat : Int)), v.oneCell' = true) := ⟨by intro v hv; simp at hv; rcases hv with rfl | rfl <;> rfl⟩
                go_wp2_with fail
                go_region_law (refine step_copy_splice rfl (.tmp 105) (.tmp 111) 82 82 rfl 5 Tryz.underlying82 (by kernel_rfl) _ _ _ _ _ _ rfl rfl B j L 5 HG.out (([92, x] : Bs).map (fun c => Value.int .u8 (c.toNat : Int))) (by first | exact HCS.out | (have := HCS.out; simp at this ⊢; omega)) (fun _ => ⟨rfl, _, rfl, HP.out⟩) HF.out H1.out w.heap.size w (by first | exact HW.out | exact HW.out.drew | exact HW.out.drew.drew) hBsz ?_; intro w4 hg4 hb4)
                have HG4 : Aside0 (w4.heap[B]? = some (.cells (splice L j (([92, x] : Bs).map (fun c => Value.int .u8 (c.toNat : Int)))).toArray 5 (0, 0))) := ⟨hg4⟩
                have HW4 := Aside0.mk hb4
                have HR4 : Aside0 (Row w4 B N (out ++ [92, x])) := ⟨row_splice HG2.out HG3.out (by rw [HJ.out]; show j + 2 ≤ N; omega) (by rw [HJ.out]; exact HG4.out)⟩
                have hwr : IntKind.i64.wrap ((j : Int) + 2) = (j : Int) + 2 := by rw [IntKind.wrap_i64]; omega
                clear hg4 hb4
                go_wp2_with fail
                go_roundw
                case rel => exact ⟨k + 1, by omega, by rw [HX.out, List.length_append, HJ.out]; rfl, by go_num, ⟨HX.out ▸ HR4.out⟩, HW4⟩
                case measure => simp [intOf]; omega
            · obtain rfl : k = s.size := by omega
              clear hlt hk
              have htk : l.take s.size = l := List.take_of_length_le (by omega)
              rw [htk] at HR ⊢
              obtain ⟨L, g1, g2, g3⟩ := HR.out
              rw [HN.out, List.take_of_length_le (by omega)] at g3
              have hcv := run_convert_bytes_back (P := Tryz.prog) wr 82 9 5 ⟨B, 0, none⟩ N (esc l) Tryz.underlying82 Tryz.underlying5 Tryz.underlying9 (fun i hi => by
                have e : ((⟨B, 0, none⟩ : Addr).add i) = ⟨B, i, none⟩ := by unfold Addr.add; split <;> simp_all
                rw [e]
                simp [World.cell?, g1, g3, hi])
              rw [HN.out] at hcv
              clear htk g1 g2 g3
              go_wp2_with fail
              go_ret
              exact ⟨rfl, HW.out⟩
end Go.Proofs.YtmgcpjgpmjhemaaGreatDoor.Pc

/-
(*strings.Replacer).buildOnce and (*strings.Replacer).Replace.
-/
namespace Go.Proofs.YtmgcpjgpmjhemaaGreatDoor.Pc
open Go.RowKit Go.Proofs.YtmgcpjgpmjhemaaGreatDoorW.PrintWords Go.Proofs.YtmgcpjgpmjhemaaGreatDoorW.PrintLast Go.Proofs.YtmgcpjgpmjhemaaGreatDoorW.PrintMore
open CodePure (esc)
set_option linter.unusedVariables false

theorem IsBsr.apart {w w' : World} {q p : Nat} {z : Int} (h : IsBsr w q) (h0 : w.cell? ⟨p, 0, none⟩ = some (.int .u32 z)) (hk : ∀ a : Addr, a.block ≠ p → w'.cell? a = w.cell? a) : IsBsr w' q := by
  have ne : ∀ (b : Nat) (v : Value), w.cell? ⟨b, 0, none⟩ = some v → v ≠ .int .u32 z → b ≠ p := by
    rintro b v hb hv rfl
    rw [h0] at hb
    exact hv (Option.some.inj hb).symm
  obtain ⟨no, ⟨a1, c1, p1, p2, p3⟩, ⟨a2, c2, q1, q2, q3⟩, ⟨a3, c3, r1, r2, r3⟩, ⟨b, c, s1, s2, s3, s4⟩⟩ := h
  have hq := ne q _ (no 0 (by decide) (by decide) (by decide) (by decide)) (by simp)
  have h1 := ne a1 _ p2 (by simp)
  have h2 := ne a2 _ q2 (by simp)
  have h3 := ne a3 _ r2 (by simp)
  have h4 := ne b _ s2 (by simp)
  exact ⟨fun i hi x1 x2 x3 => (hk _ hq).trans (no i hi x1 x2 x3), ⟨a1, c1, (hk _ hq).trans p1, (hk _ h1).trans p2, (hk _ h1).trans p3⟩, ⟨a2, c2, (hk _ hq).trans q1, (hk _ h2).trans q2, (hk _ h2).trans q3⟩,
    ⟨a3, c3, (hk _ hq).trans r1, (hk _ h3).trans r2, (hk _ h3).trans r3⟩, ⟨b, c, (hk _ hq).trans s1, (hk _ h4).trans s2, (hk _ h4).trans s3, (hk _ h4).trans s4⟩⟩
theorem set_far (w : World) (p i : Nat) (v : Value) (a : Addr) (ha : a.block ≠ p) : (w.setCell ⟨p, i, none⟩ v).cell? a = w.cell? a :=
  World.cell?_setCell_other _ _ _ _ (fun e => ha (by rw [← e]))

/-- What lies behind 'buildOnce': the Replacer 'p' holds a byteStringReplacer; 'd', 'l': its Once. -/
structure Built (d l : Int) (p : Nat) (w w' : World) : Prop where
  d : w'.cell? ⟨p, 0, none⟩ = some (.int .u32 d)
  l : w'.cell? ⟨p, 1, none⟩ = some (.int .i32 l)
  z : ∀ i, w'.frozen? ⟨p, i, none⟩ = false
  b : Below p w w'
  r : ∃ q, w'.cell? ⟨p, 3, none⟩ = some (.iface 204 (.pointer (some ⟨q, 0, none⟩))) ∧ IsBsr w' q

set_option maxRecDepth 100000 in
set_option maxHeartbeats 1600000 in
theorem repl_buildOnce (p ob : Nat) (w : World) (h : IsRepl 1 w p ob) :
    Calls Tryz.prog 91 #[.pointer (some ⟨p, 0, none⟩)] w fun e w' => e = .returned (.tuple #[]) ∧ Built 0 1 p w w' := by
  have HI := Aside0.mk h
  obtain ⟨hd, hl, hr, ⟨oc, ho⟩, hz, hlt, _⟩ := h
  have hp := World.block_lt_of_cell? w _ hd
  go_enter Tryz.func91, Tryz.ntmps91
  go_wp2_with (go_at_call 122; refine (repl_build p ob _ HI.out).mono ?_; rintro e w1 ⟨q, rfl, hb, hbl⟩; have d0 := cell_keep hbl hd; have d1 := cell_keep hbl hl; have d3 := cell_keep hbl hr; have d4 := cell_keep hbl ho; have z3 : ∀ i, w1.frozen? ⟨p, i, none⟩ = false := fun i => (hbl.frozen hp).trans (hz i); have e4 : ∀ v, (w1.setCell ⟨p, 3, none⟩ v).cell? ⟨p, 4, none⟩ = some (.slice (some ⟨ob, 0, none⟩) 6 oc) := fun v => (World.cell?_setCell_other _ _ _ _ (by simp)).trans d4; have ez : ∀ v, (w1.setCell ⟨p, 3, none⟩ v).frozen? ⟨p, 4, none⟩ = false := fun v => by simp [z3])
  first | go_end0 | (simp only [Exit.inBlock, Exit.then]; refine bodyPost_ret (results_none rfl _ _ _) rfl ?_) | refine bodyPost_ret (results_none rfl _ _ _) rfl ?_
  refine ⟨rfl, ?_, ?_, ?_, ?_, q, ?_, ?_⟩
  · exact (World.cell?_setCell_other _ _ _ _ (by simp)).trans ((World.cell?_setCell_other _ _ _ _ (by simp)).trans d0)
  · exact (World.cell?_setCell_other _ _ _ _ (by simp)).trans ((World.cell?_setCell_other _ _ _ _ (by simp)).trans d1)
  · intro i; simp [z3]
  · exact ((hbl.mono (Nat.le_of_lt hp)).setCell (Nat.le_refl p) _).setCell (Nat.le_refl p) _
  · exact (World.cell?_setCell_other _ _ _ _ (by simp)).trans (World.cell?_setCell_same _ _ _ d3)
  · exact hb.apart d0 (fun a ha => (set_far _ _ _ _ a ha).trans (set_far _ _ _ _ a ha))

theorem repl_once (p ob : Nat) (w : World) (h : IsRepl 0 w p ob) :
    Calls Tryz.prog 90 #[.pointer (some ⟨p, 0, none⟩), .func (.func 91) #[.pointer (some ⟨p, 0, none⟩)] #[]] w fun e w' => e = .returned (.tuple #[]) ∧ Built 1 0 p w w' := by
  have hd := h.d
  have hl := h.l
  have hz := h.z
  obtain ⟨oc, ho⟩ := h.o
  have hI : IsRepl 1 (w.setCell ⟨p, 1, none⟩ (.int .i32 1)) p ob := by
    refine ⟨(World.cell?_setCell_other _ _ _ _ (by simp)).trans hd, World.cell?_setCell_same _ _ _ hl, (World.cell?_setCell_other _ _ _ _ (by simp)).trans h.r, ⟨oc, (World.cell?_setCell_other _ _ _ _ (by simp)).trans ho⟩, fun i => by simp [hz], h.lt, ?_⟩
    have hne : ∀ i, (w.setCell ⟨p, 1, none⟩ (.int .i32 1)).cell? ⟨ob, i, none⟩ = w.cell? ⟨ob, i, none⟩ := fun i => set_far w p 1 _ ⟨ob, i, none⟩ (Nat.ne_of_lt h.lt)
    exact ⟨(hne 0).trans h.cs.c0, (hne 1).trans h.cs.c1, (hne 2).trans h.cs.c2, (hne 3).trans h.cs.c3, (hne 4).trans h.cs.c4, (hne 5).trans h.cs.c5⟩
  refine (do_once p #[.pointer (some ⟨p, 0, none⟩)] w (Built 0 1 p (w.setCell ⟨p, 1, none⟩ (.int .i32 1))) hd hl (hz 0) (hz 1) (fun w1 h1 => ⟨h1.d, h1.l, h1.z 0, h1.z 1⟩) (repl_buildOnce p ob _ hI)).mono ?_
  rintro e w' ⟨rfl, w1, h1, rfl⟩
  obtain ⟨q, hr, hb⟩ := h1.r
  have c0 : w1.drew.cell? ⟨p, 0, none⟩ = some (.int .u32 0) := h1.d
  have c1 : w1.drew.cell? ⟨p, 1, none⟩ = some (.int .i32 1) := h1.l
  refine ⟨rfl, ?_, ?_, ?_, ?_, q, ?_, ?_⟩
  · exact (World.cell?_setCell_other _ _ _ _ (by simp)).trans (World.cell?_setCell_same _ _ _ c0)
  · exact World.cell?_setCell_same _ _ _ ((World.cell?_setCell_other _ _ _ _ (by simp)).trans c1)
  · intro i; simp [h1.z]
  · exact ((((Below.refl p w).setCell (Nat.le_refl p) _).trans h1.b).drew.setCell (Nat.le_refl p) _).setCell (Nat.le_refl p) _
  · exact (World.cell?_setCell_other _ _ _ _ (by simp)).trans ((World.cell?_setCell_other _ _ _ _ (by simp)).trans hr)
  · exact hb.apart h1.d (fun a ha => (set_far _ _ _ _ a ha).trans (set_far _ _ _ _ a ha))

set_option maxRecDepth 100000 in
set_option maxHeartbeats 1600000 in
theorem repl_Replace (p ob : Nat) (s : ByteArray) (w : World) (h : IsRepl 0 w p ob) (hsz : s.size ≤ 70368744177664) :
    Calls Tryz.prog 46 #[.pointer (some ⟨p, 0, none⟩), .string s] w fun e w' => e = .returned (.string ⟨(esc s.data.toList).toArray⟩) ∧ Below p w w' := by
  have HI := Aside0.mk h
  clear h
  have hm : ∀ (q : Nat) (w : World), (method 429 204 (.pointer (some ⟨q, 0, none⟩)) "Replace").run Tryz.prog w = .ok (283, .pointer (some ⟨q, 0, none⟩)) w := fun _ _ => by kernel_rfl
  have hmf : ∀ (fn : Fn) (first cap : Array Value) (w : World), (Instr.makeFunc fn first cap).run Tryz.prog w = .ok (.func fn first cap) w := fun _ _ _ _ => rfl
  go_enter Tryz.func46, Tryz.ntmps46
  go_wp2_with (first
    | (go_at_call 90; refine (repl_once p ob _ HI.out).mono ?_; rintro e w1 ⟨rfl, hB⟩; have hBd := hB.d; obtain ⟨q, hr, hb⟩ := hB.r; have HBQ := Aside0.mk hb; have HBB := Aside0.mk hB.b; clear hb hB)
    | (go_at_call 283; refine (bsr_Replace q s _ HBQ.out hsz).mono ?_; rintro e w2 ⟨rfl, hb2⟩; have HB2 := Aside0.mk hb2; clear hb2))
  go_ret
  exact ⟨rfl, HBB.out.trans (HB2.out.mono (Nat.le_of_lt (World.block_lt_of_cell? _ _ hBd)))⟩
end Go.Proofs.YtmgcpjgpmjhemaaGreatDoor.Pc

/-
The contract of code.Line in the form that the printed walks take.
-/
namespace Go.Proofs.YtmgcpjgpmjhemaaGreatDoor.Pc
open Go.RowKit Go.Proofs.YtmgcpjgpmjhemaaGreatDoorW.PrintWords Go.Proofs.YtmgcpjgpmjhemaaGreatDoorW.PrintLast Go.Proofs.YtmgcpjgpmjhemaaGreatDoorW.PrintMore
open CodePure (esc Bs)
set_option linter.unusedVariables false

def code_Line.f (op n : Int) (s : ByteArray) : Option (ByteArray × Int) :=
  if wfI op ∧ wfI n ∧ s.size ≤ 70368744177664 then some (if mayB op n s.data.toList then (bs (lineL op n s.data.toList), 0) else (⟨#[]⟩, 1)) else none

/-- What the box of the parameter holds. -/
structure Box (w0 : World) (op n : Int) (s : ByteArray) (B : Nat) (w : World) : Prop where
  c0 : w.cell? ⟨B, 0, none⟩ = some (.int .i64 op)
  c1 : w.cell? ⟨B, 1, none⟩ = some (.int .i64 n)
  c2 : w.cell? ⟨B, 2, none⟩ = some (.string s)
  b : Below w0.heap.size w0 w
  lt : B < w.heap.size
theorem Box.keep {w0 w w' : World} {op n : Int} {s : ByteArray} {B : Nat} (h : Box w0 op n s B w) (hb : Below w.heap.size w w') : Box w0 op n s B w' :=
  ⟨cell_keep hb h.c0, cell_keep hb h.c1, cell_keep hb h.c2, h.b.trans (hb.mono h.b.size), Nat.lt_of_lt_of_le h.lt hb.size⟩

theorem Box.keepP {w0 w w' : World} {op n : Int} {s : ByteArray} {B p : Nat} (h : Box w0 op n s B w) (hB : B < p) (h0 : w0.heap.size ≤ p) (hb : Below p w w') : Box w0 op n s B w' :=
  ⟨(hb.cell hB).trans h.c0, (hb.cell hB).trans h.c1, (hb.cell hB).trans h.c2, h.b.trans (hb.mono h0), Nat.lt_of_lt_of_le h.lt hb.size⟩

set_option maxRecDepth 100000 in
set_option maxHeartbeats 4000000 in
theorem code_Line.calls (a0_0 : Int) (a0_1 : Int) (a0_2 : ByteArray) (r1 : ByteArray) (r2 : Int) (w : World) (hG : Gl w) (h : code_Line.f a0_0 a0_1 a0_2 = some (r1, r2)) :
    Calls Tryz.prog 13 #[.agg #[.int .i64 a0_0, .int .i64 a0_1, .string a0_2]] w fun e w' => e = .returned (.tuple #[.string r1, .int .i64 r2]) ∧ Below w.heap.size w w' := by
  unfold code_Line.f at h
  split at h
  · rename_i hc
    obtain ⟨h0, h1, h2⟩ := hc
    have HM : ∀ W, Calls Tryz.prog 17 #[.agg #[.int .i64 a0_0, .int .i64 a0_1, .string a0_2]] W fun e w' => e = .returned (.bool (mayB a0_0 a0_1 a0_2.data.toList)) ∧ Below W.heap.size W w' := fun W => code_May.calls a0_0 a0_1 a0_2 _ W (may_eq a0_0 a0_1 a0_2 h0)
    have HGL := Aside0.mk hG
    have HW0 := Aside0.mk h0
    have HW1 := Aside0.mk h1
    have HW2 := Aside0.mk h2
    clear hG h0 h1 h2
    have H := Aside0.mk (Option.some.inj h)
    clear h
    have hnot : ∀ (x : Bool) (w : World), (Op.unary .not (.bool x)).run Tryz.prog w = .ok (.bool (!x)) w := fun _ _ => rfl
    have bk0 : Box w a0_0 a0_1 a0_2 w.heap.size (w.alloc (.cells #[.int .i64 a0_0, .int .i64 a0_1, .string a0_2] 23)) :=
      ⟨by simp, by simp, by simp, (Below.refl _ _).alloc (Nat.le_refl _) _, by simp⟩
    have BK0 := Aside0.mk bk0
    clear bk0
    cases hm : mayB a0_0 a0_1 a0_2.data.toList with
    | false =>
      rw [hm] at HM H
      obtain ⟨rfl, rfl⟩ := Prod.mk.inj H.out
      have HMM := Aside0.mk HM
      clear HM hm H
      go_enter Tryz.func13, Tryz.ntmps13
      go_wp2_with (go_at_call 17; refine (HMM.out _).mono ?_; rintro e w1 ⟨rfl, hb1⟩; have BK1 := Aside0.mk (BK0.out.keep hb1); clear hb1)
      go_ret2
      exact ⟨rfl, BK1.out.b⟩
    | true =>
      rw [hm] at HM H
      obtain ⟨rfl, rfl⟩ := Prod.mk.inj H.out
      have HMM := Aside0.mk HM
      have hop : 0 ≤ a0_0 ∧ a0_0 ≤ 23 := by
        unfold mayB at hm
        simp only [Bool.and_eq_true, decide_eq_true_eq] at hm
        exact hm.1.1
      have HN : Aside0 (∀ W, Gl W → Calls Tryz.prog 19 #[.int .i64 a0_0] W fun e w' => e = .returned (.string (bs (nameL a0_0))) ∧ Below W.heap.size W w') := ⟨fun W hg => code_Name.calls a0_0 _ W hg (name_eq a0_0 hop.1 hop.2)⟩
      have HI : Aside0 (∀ W, Gl W → Calls Tryz.prog 44 #[.int .i64 a0_1] W fun e w' => e = .returned (.string (bs (Lib.itoa a0_1))) ∧ Below W.heap.size W w') := ⟨fun W hg => itoa_call a0_1 HW1.out.1 HW1.out.2 W hg⟩
      obtain ⟨nm, hnm⟩ : ∃ nm, bs (nameL a0_0) = nm := ⟨_, rfl⟩
      obtain ⟨it, hit⟩ : ∃ it, bs (Lib.itoa a0_1) = it := ⟨_, rfl⟩
      have HNM := Aside0.mk hnm
      have HIT := Aside0.mk hit
      have s1 : nm.size ≤ 6 := by
        rw [← hnm]
        have hk : ∀ k : Nat, k < 24 → (nameL k).length ≤ 6 := by decide +kernel
        have := hk a0_0.toNat (by omega)
        rw [show ((a0_0.toNat : Nat) : Int) = a0_0 by omega] at this
        exact this
      have s2 : it.size ≤ 21 := by rw [← hit]; exact Lib.itoa_length_le a0_1 HW1.out.1 HW1.out.2
      have n1 : (9223372036854775807 < nm.size + 1) = False := eq_false (by omega)
      have n2 : (9223372036854775807 < nm.size + 1 + it.size) = False := eq_false (by omega)
      rw [hnm] at HN
      rw [hit] at HI
      clear HM hm H hop hnm hit
      by_cases h02 : a0_0 = 0 ∨ a0_0 = 2
      · have hl : lineL a0_0 a0_1 a0_2.data.toList = nameL a0_0 ++ [32] ++ Lib.itoa a0_1 := if_pos h02
        rw [hl]
        by_cases e0 : a0_0 = 0
        · have t0 : (a0_0 == 0) = true := by simp [e0]
          clear h02 e0
          go_enter Tryz.func13, Tryz.ntmps13
          go_wp2_with (go_at_call 17; refine (HMM.out _).mono ?_; rintro e w1 ⟨rfl, hb1⟩; have BK1 := Aside0.mk (BK0.out.keep hb1); have k0 := BK1.out.c0; have k1 := BK1.out.c1; have k2 := BK1.out.c2; clear hb1)
          obtain ⟨B, hB⟩ : ∃ B, w.heap.size = B := ⟨_, rfl⟩
          have HBB := Aside0.mk hB
          rw [hB] at k0 k1 k2 BK1 ⊢
          clear hB
          go_region_held3 (fun w' => w'.cell? ⟨B, 0, none⟩ = some (.int .i64 a0_0) ∧ w'.cell? ⟨B, 1, none⟩ = some (.int .i64 a0_1))
            (first | exact ⟨k0, k1⟩ | exact ⟨q0, q1⟩ | exact ⟨v0, v1⟩)
            (first
              | (go_at_call 19; refine (HN.out _ (gl_below HGL.out BK1.out.b.drew)).mono ?_; rintro e w2 ⟨rfl, hb2⟩; have BK2 := Aside0.mk (BK1.out.keep ((Below.refl _ _).drew.trans hb2)); have q0 := BK2.out.c0; have q1 := BK2.out.c1; clear hb2)
              | (go_at_call 44; refine (HI.out _ (gl_below HGL.out BK2.out.b)).mono ?_; rintro e w3 ⟨rfl, hb3⟩; have BK3 := Aside0.mk (BK2.out.keep hb3); have v0 := BK3.out.c0; have v1 := BK3.out.c1; clear hb3))
          go_wp2_with fail
          go_ret2
          refine ⟨?_, HBB.out ▸ BK3.out.b⟩
          rw [← HNM.out, ← HIT.out]
          rw [bs_append, bs_append]
          rfl
        · have t0 : (a0_0 == 0) = false := by simp [e0]
          have t1 : (a0_0 == 2) = true := by
            rcases h02 with h | h
            · exact absurd h e0
            · simp [h]
          clear h02 e0
          go_enter Tryz.func13, Tryz.ntmps13
          go_wp2_with (go_at_call 17; refine (HMM.out _).mono ?_; rintro e w1 ⟨rfl, hb1⟩; have BK1 := Aside0.mk (BK0.out.keep hb1); have k0 := BK1.out.c0; have k1 := BK1.out.c1; have k2 := BK1.out.c2; clear hb1)
          obtain ⟨B, hB⟩ : ∃ B, w.heap.size = B := ⟨_, rfl⟩
          have HBB := Aside0.mk hB
          rw [hB] at k0 k1 k2 BK1 ⊢
          clear hB
          go_region_held3 (fun w' => w'.cell? ⟨B, 0, none⟩ = some (.int .i64 a0_0) ∧ w'.cell? ⟨B, 1, none⟩ = some (.int .i64 a0_1))
            (first | exact ⟨k0, k1⟩ | exact ⟨q0, q1⟩ | exact ⟨v0, v1⟩)
            (first
              | (go_at_call 19; refine (HN.out _ (gl_below HGL.out BK1.out.b.drew)).mono ?_; rintro e w2 ⟨rfl, hb2⟩; have BK2 := Aside0.mk (BK1.out.keep ((Below.refl _ _).drew.trans hb2)); have q0 := BK2.out.c0; have q1 := BK2.out.c1; clear hb2)
              | (go_at_call 44; refine (HI.out _ (gl_below HGL.out BK2.out.b)).mono ?_; rintro e w3 ⟨rfl, hb3⟩; have BK3 := Aside0.mk (BK2.out.keep hb3); have v0 := BK3.out.c0; have v1 := BK3.out.c1; clear hb3))
          go_wp2_with fail
          go_ret2
          refine ⟨?_, HBB.out ▸ BK3.out.b⟩
          rw [← HNM.out, ← HIT.out]
          rw [bs_append, bs_append]
          rfl
      · have t0 : (a0_0 == 0) = false := by simp; omega
        have t1 : (a0_0 == 2) = false := by simp; omega
        by_cases e1 : a0_0 = 1
        · have hl : lineL a0_0 a0_1 a0_2.data.toList = nameL a0_0 ++ [32, 34] ++ esc a0_2.data.toList ++ [34] := by
            unfold lineL
            rw [if_neg h02, if_pos e1, e1]
          rw [hl]
          have t2 : (a0_0 == 1) = true := by simp [e1]
          have HES := Aside0.mk (CodePure.esc_length a0_2.data.toList)
          clear h02 e1
          go_enter Tryz.func13, Tryz.ntmps13
          go_wp2_with (go_at_call 17; refine (HMM.out _).mono ?_; rintro e w1 ⟨rfl, hb1⟩; have BK1 := Aside0.mk (BK0.out.keep hb1); have k0 := BK1.out.c0; have k1 := BK1.out.c1; have k2 := BK1.out.c2; clear hb1)
          obtain ⟨B, hB⟩ : ∃ B, w.heap.size = B := ⟨_, rfl⟩
          have HBB := Aside0.mk hB
          rw [hB] at k0 k1 k2 BK1 ⊢
          clear hB
          obtain ⟨es, hes⟩ : ∃ es, (⟨(esc a0_2.data.toList).toArray⟩ : ByteArray) = es := ⟨_, rfl⟩
          have HEE := Aside0.mk hes
          have s3 : es.size ≤ 140737488355328 := by
            rw [← hes]
            have h1 := HES.out
            have h2 := HW2.out
            show (esc a0_2.data.toList).length ≤ _
            have h3 : (a0_2.data.toList).length = a0_2.size := by simp
            omega
          have n3 : (9223372036854775807 < nm.size + 2) = False := eq_false (by omega)
          have n4 : (9223372036854775807 < nm.size + 2 + es.size) = False := eq_false (by omega)
          have n5 : (9223372036854775807 < nm.size + 2 + es.size + 1) = False := eq_false (by omega)
          clear hes
          go_region_held3 (fun w' => w'.cell? ⟨B, 2, none⟩ = some (.string a0_2))
            (first | exact k2 | exact q2 | exact v2 | (rw [World.cell?_drew, World.cell?_alloc_past _ _ _ BK1.out.lt]; exact k2))
            (first
              | (go_at_call 45; refine (newReplacer w1.heap.size _ ⟨by simp, by simp, by simp, by simp, by simp, by simp⟩).mono ?_; rintro e w2 ⟨p, ob, rfl, hrep, hpge, hb2⟩; have HRP := Aside0.mk hrep; have HPG : Aside0 (w1.heap.size ≤ p) := ⟨by simp at hpge; omega⟩; have BK2 := Aside0.mk (BK1.out.keep ((((Below.refl w1.heap.size w1).alloc (Nat.le_refl _) _).drew.trans (hb2.mono (by simp))))); have q2 := BK2.out.c2; clear hrep hpge hb2)
              | (go_at_call 46; refine (repl_Replace p ob a0_2 _ HRP.out HW2.out).mono ?_; rw [HEE.out]; rintro e w3 ⟨rfl, hb3⟩; have BK3 := Aside0.mk (BK2.out.keepP (Nat.lt_of_lt_of_le BK1.out.lt HPG.out) (Nat.le_trans BK1.out.b.size HPG.out) hb3); have v0 := BK3.out.c0; have v2 := BK3.out.c2; clear hb3))
          go_wp2_with (go_at_call 19; refine (HN.out _ (gl_below HGL.out BK3.out.b)).mono ?_; rintro e w4 ⟨rfl, hb4⟩; have BK4 := Aside0.mk (BK3.out.keep hb4); clear hb4)
          go_ret2
          refine ⟨?_, HBB.out ▸ BK4.out.b⟩
          rw [← HNM.out, ← HEE.out]
          rw [bs_append, bs_append, bs_append]
          rfl
        · have hl : lineL a0_0 a0_1 a0_2.data.toList = nameL a0_0 := by
            unfold lineL
            rw [if_neg h02, if_neg e1]
          rw [hl]
          have t2 : (a0_0 == 1) = false := by simp [e1]
          clear h02 e1
          go_enter Tryz.func13, Tryz.ntmps13
          go_wp2_with (first
            | (go_at_call 17; refine (HMM.out _).mono ?_; rintro e w1 ⟨rfl, hb1⟩; have BK1 := Aside0.mk (BK0.out.keep hb1); have k0 := BK1.out.c0; have k1 := BK1.out.c1; have k2 := BK1.out.c2; clear hb1)
            | (go_at_call 19; refine (HN.out _ (gl_below HGL.out BK1.out.b)).mono ?_; rintro e w2 ⟨rfl, hb2⟩; have BK2 := Aside0.mk (BK1.out.keep hb2); clear hb2))
          go_ret2
          refine ⟨?_, BK2.out.b⟩
          rw [← HNM.out]
          rfl
  · cases h
end Go.Proofs.YtmgcpjgpmjhemaaGreatDoor.Pc
