/-
code.Parse's printed function is 'parseR'.
-/
import Derived.Test.YtmgcpjgpmjhemaaGreatDoorParsePure
namespace Go.Proofs.YtmgcpjgpmjhemaaGreatDoor.Pc
open Go.RowKit Go.Proofs.YtmgcpjgpmjhemaaGreatDoorW.PrintWords Go.Proofs.YtmgcpjgpmjhemaaGreatDoorW.PrintLast Go.Proofs.YtmgcpjgpmjhemaaGreatDoorW.PrintMore
open CodePure (esc Bs unesc figs)
set_option linter.unusedVariables false

theorem figs_num {s : Bs} {n : Int} (h : figs s = some n) : atoiNum s = n := by
  unfold figs at h
  unfold atoiNum
  split at h
  · rename_i v hv
    rw [hv]
    split at h
    · injection h
    · cases h
  · cases h
  · cases h
theorem figs_wf {s : Bs} {n : Int} (h : figs s = some n) : wfI n := by
  unfold figs at h
  split at h
  · rename_i v hv
    have := Lib.atoiAll_bounds hv
    split at h
    · injection h with h
      rw [← h]
      exact ⟨this.1, this.2⟩
    · cases h
  · cases h
  · cases h

theorem bt_list (a : ByteArray) (i : Nat) (h : i < a.size) (c : UInt8) (hc : a.data.toList[i]? = some c) : bt a i = c.toNat := by
  have h' : i < a.data.toList.length := by simpa using h
  rw [List.getElem?_eq_getElem h'] at hc
  have e := bt_at a (i : Int) (by simpa using h)
  rw [← e]
  injection hc with hc
  rw [← hc]
  rfl
theorem byte34 (c : UInt8) : (c.toNat : Int) ≠ 34 ↔ c ≠ 34 := by
  constructor
  · rintro h rfl; exact h rfl
  · intro h e
    apply h
    apply UInt8.toNat_inj.1
    show c.toNat = 34
    omega
theorem quoted_eq (a : ByteArray) : quotedB a = quotedL a.data.toList := by
  have hl : a.data.toList.length = a.size := by simp
  unfold quotedB quotedL
  by_cases h2 : a.size < 2
  · rw [if_pos h2, if_pos (by omega)]
  · rw [if_neg h2, if_neg (show ¬ a.data.toList.length < 2 by omega)]
    have e0 : a.data.toList.head? = a.data.toList[0]? := List.head?_eq_getElem?
    have e1 : a.data.toList.getLast? = a.data.toList[a.size - 1]? := by rw [List.getLast?_eq_getElem?, hl]
    obtain ⟨c, hc⟩ : ∃ c, a.data.toList[0]? = some c := ⟨_, List.getElem?_eq_getElem (by omega)⟩
    obtain ⟨d, hd⟩ : ∃ d, a.data.toList[a.size - 1]? = some d := ⟨_, List.getElem?_eq_getElem (by omega)⟩
    have b0 := bt_list a 0 (by omega) c hc
    have b1 := bt_list a (a.size - 1) (by omega) d hd
    rw [e0, e1, hc, hd]
    have b0' : bt a 0 = (c.toNat : Int) := b0
    have b1' : bt a (a.size - 1) = (d.toNat : Int) := by
      rw [← b1]
      unfold bt
      simp only [show ((a.size : Int) - 1).toNat = (((a.size - 1 : Nat)) : Int).toNat by omega]
    rw [b0', b1']
    by_cases hc34 : c = 34
    · have x1 : ¬ ((c.toNat : Int) ≠ 34) := fun h => (byte34 c).1 h hc34
      have y1 : ¬ (some c ≠ some (34 : UInt8)) := by simp [hc34]
      rw [if_neg x1, if_neg y1]
      by_cases hd34 : d = 34
      · have x2 : ¬ ((d.toNat : Int) ≠ 34) := fun h => (byte34 d).1 h hd34
        have y2 : ¬ (some d ≠ some (34 : UInt8)) := by simp [hd34]
        rw [if_neg x2, if_neg y2]
        congr 1
        simp [List.dropLast_eq_take, hl]
      · have y2 : some d ≠ some (34 : UInt8) := by simp [hd34]
        rw [if_pos ((byte34 d).2 hd34), if_pos y2]
    · have y1 : some c ≠ some (34 : UInt8) := by simp [hc34]
      rw [if_pos ((byte34 c).2 hc34), if_pos y1]

theorem parse_eq (k : Nat) (hk : 40 ≤ k) (s : ByteArray) (hs : s.size ≤ 1000000) : code_Parse.f k s = some (parseR s.data.toList) := by
  have hl : s.data.toList.length = s.size := by simp
  obtain ⟨l, hL⟩ : ∃ l, s.data.toList = l := ⟨_, rfl⟩
  have hlen := cut1_len l
  rw [hL] at hl
  have hcut : strings_Cut.f s ⟨#[32]⟩ = some (bs (cut1 l).1, bs (cut1 l).2.1, (cut1 l).2.2) := by
    unfold strings_Cut.f
    rw [if_pos (by omega), hL]
    show some ((⟨(Lib.cut l [32]).1.toArray⟩ : ByteArray), (⟨(Lib.cut l [32]).2.1.toArray⟩ : ByteArray), (Lib.cut l [32]).2.2) = _
    rw [cut_cut1]
    rfl
  have hwd : code_words.f = some namesB := rfl
  have hidx : slices_Index_string_string.f k namesB (bs (cut1 l).1) = some (idxL (cut1 l).1) := index_eq k (by omega) _
  obtain ⟨k', rfl⟩ : ∃ k', k = k' + 1 := ⟨k - 1, by omega⟩
  have hwi := wf_idx (cut1 l).1
  have hb := idxL_lt (cut1 l).1
  unfold code_Parse.f parseR parseL
  rw [hcut, hwd]
  simp only [Option.bind_some]
  rw [hidx]
  simp only [Option.bind_some, hL]
  generalize cut1 l = p at *
  obtain ⟨a, r, m⟩ := p
  simp only at hlen hwi hb ⊢
  obtain ⟨i, hi⟩ : ∃ i, idxL a = i := ⟨_, rfl⟩
  rw [hi] at hwi hb ⊢
  have hrs : (bs r).size = r.length := rfl
  have hfig : code_figures.f (bs r) = some (atoiNum r, (figs r).isSome) := if_pos (by rw [hrs]; omega)
  have hquo : code_quoted.f (bs r) = some (match quotedL r with
    | some l => (⟨l.toArray⟩, true)
    | none => (⟨#[]⟩, false)) := by
    unfold code_quoted.f
    rw [if_pos (by rw [hrs]; omega), quoted_eq]
    rfl
  have hmay : ∀ n (t : ByteArray), code_May.f i n t = some (mayB i n t.data.toList) := fun n t => may_eq i n t hwi
  by_cases h0 : i = 0
  · subst h0
    simp only [if_pos, code_Parse.j0, hfig, Option.bind_some, beq_self_eq_true, hmay, true_or]
    cases hf : figs r with
    | none => simp
    | some n =>
      rw [figs_num hf]
      simp only [Option.isSome_some, if_true]
      cases mayB 0 n [] <;> rfl
  · by_cases h2 : i = 2
    · subst h2
      simp only [if_pos, code_Parse.j0, hfig, Option.bind_some, beq_self_eq_true, hmay, or_true, if_neg h0]
      cases hf : figs r with
      | none => simp
      | some n =>
        rw [figs_num hf]
        simp only [Option.isSome_some, if_true]
        cases mayB 2 n [] <;> rfl
    · have hb2 : (i == 2) = false := by simp [h2]
      rw [if_neg h0, hb2, if_neg (by omega)]
      by_cases h1 : i = 1
      · subst h1
        simp only [code_Parse.j0, hquo, Option.bind_some, hmay, if_true, if_neg (show ¬ (false = true) by decide)]
        cases hq : quotedL r with
        | none => simp
        | some t =>
          simp only [if_true]
          cases mayB 1 0 t <;> rfl
      · simp only [code_Parse.j0, Option.bind_some, hmay, if_neg (show ¬ (false = true) by decide), if_neg h1]
        by_cases hi0 : i ≥ 0
        · rw [decide_eq_true hi0]
          simp only [if_true]
          cases m with
          | true => simp
          | false =>
            simp only [if_neg (show ¬ (false = true) by decide)]
            cases hmm : mayB i 0 [] with
            | true => simp [hi0, bs]
            | false => simp
        · rw [decide_eq_false hi0]
          have : ¬ (0 ≤ i ∧ m = false ∧ mayB i 0 [] = true) := fun h => hi0 h.1
          simp [this]
end Go.Proofs.YtmgcpjgpmjhemaaGreatDoor.Pc
