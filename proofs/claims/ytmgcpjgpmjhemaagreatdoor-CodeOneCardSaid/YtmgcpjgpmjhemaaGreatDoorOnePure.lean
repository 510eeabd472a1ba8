/-
The law CodeOne answers true.
-/
import Derived.Test.YtmgcpjgpmjhemaaGreatDoorParseBack
import Derived.Test.YtmgcpjgpmjhemaaGreatDoorPc6
namespace Go.Proofs.YtmgcpjgpmjhemaaGreatDoor.Pc
open Go.RowKit Go.Proofs.YtmgcpjgpmjhemaaGreatDoorW.PrintWords Go.Proofs.YtmgcpjgpmjhemaaGreatDoorW.PrintLast Go.Proofs.YtmgcpjgpmjhemaaGreatDoorW.PrintMore
open CodePure (esc Bs unesc figs)
set_option linter.unusedVariables false

theorem alive_at : threshinglaw14_alive.f 40 = some true := by decide +kernel
theorem alive_true (k : Nat) (hk : 40 ≤ k) : threshinglaw14_alive.f k = some true := by
  have : ∀ d, threshinglaw14_alive.f (40 + d) = some true := by
    intro d
    induction d with
    | zero => exact alive_at
    | succ d ih => exact threshinglaw14_alive.mono (40 + d) _ ih
  rw [show k = 40 + (k - 40) by omega]
  exact this _

def oneTail (k : Nat) (x3 : ByteArray) (x4 op n : Int) (s : ByteArray) : Option Bool :=
  (code_Parse.f k x3).bind fun bt160 => ((threshinglaw14_alive.f k).bind fun t165 => (if t165 = true then (if x4 = 0 then (if bt160.2.2.2 = 0 then (some (bt160.1 == op && (bt160.2.1 == n && (bt160.2.2.1.toList == s.toList)))) else (some false)) else (some true)) else (some false)))

theorem one_run (x3 : ByteArray) (x4 op n : Int) (s : ByteArray) (hs : x3.size ≤ 1000000) (h10 : ∀ c ∈ x3.data.toList, c ≠ 10) (ht : ∀ k, 40 ≤ k → oneTail k x3 x4 op n s = some true) :
    ∀ (m i : Nat), m = x3.size - i → i ≤ x3.size → threshinglaw14_CodeOne.l0 (m + 41) x3 x4 i op n s = some true := by
  intro m
  induction m with
  | zero =>
    intro i hm hi
    have : ¬ ((i : Int) < (x3.size : Int)) := by omega
    simp only [Nat.zero_add, threshinglaw14_CodeOne.l0]
    rw [if_neg this]
    exact ht 40 (by omega)
  | succ m ih =>
    intro i hm hi
    have hlt : i < x3.size := by omega
    have hl : i < x3.data.toList.length := by simpa using hlt
    have hb := bt_list x3 i hlt x3.data.toList[i] (List.getElem?_eq_getElem hl)
    have hc : ¬ (bt x3 i = 10) := by
      rw [hb]
      intro e
      apply h10 _ (List.getElem_mem hl)
      apply UInt8.toNat_inj.1
      show _ = 10
      omega
    have hw : wrap64 ((i : Int) + 1) = ((i + 1 : Nat) : Int) := by unfold wrap64; omega
    rw [show m + 1 + 41 = (m + 41) + 1 by omega]
    simp only [threshinglaw14_CodeOne.l0]
    rw [if_pos (by omega), if_pos (by omega), if_neg hc, hw]
    exact ih (i + 1) (by omega) (by omega)

theorem codeOne_true (op n : Int) (s : ByteArray) (h0 : wfI op) (h1 : wfI n) : ∃ k, threshinglaw14_CodeOne.f k op n s = some true := by
  unfold threshinglaw14_CodeOne.f
  by_cases hs : (s.size : Int) > 1200
  · exact ⟨40, by rw [if_pos hs, alive_at]; rfl⟩
  · have hl : s.data.toList.length = s.size := by simp
    have hline : code_Line.f op n s = some (if mayB op n s.data.toList then (bs (lineL op n s.data.toList), 0) else (⟨#[]⟩, 1)) := if_pos ⟨h0, h1, by omega⟩
    have hmay := may_eq op n s h0
    cases hm : mayB op n s.data.toList with
    | false =>
      rw [hm] at hline hmay
      refine ⟨0 + 41, ?_⟩
      rw [if_neg hs, hline, hmay]
      refine one_run ⟨#[]⟩ 1 op n s (by decide) (by simp) (fun k hk => ?_) 0 0 rfl (Nat.zero_le _)
      unfold oneTail
      rw [parse_eq k hk _ (by decide), alive_true k hk]
      rfl
    | true =>
      rw [hm] at hline hmay
      have hop := mayB_op hm
      have hlen := lineL_len op n s.data.toList h1 (by omega) hop
      refine ⟨(bs (lineL op n s.data.toList)).size + 41, ?_⟩
      rw [if_neg hs, hline, hmay]
      refine one_run (bs (lineL op n s.data.toList)) 0 op n s (by show (lineL op n s.data.toList).length ≤ _; omega) (fun c hc => line_no10 op n _ hop c hc) (fun k hk => ?_) _ 0 rfl (Nat.zero_le _)
      unfold oneTail
      rw [parse_eq k hk _ (by show (lineL op n s.data.toList).length ≤ _; omega), alive_true k hk]
      have hp : parseR (bs (lineL op n s.data.toList)).data.toList = (op, n, bs s.data.toList, 0) := by
        unfold parseR
        rw [show (bs (lineL op n s.data.toList)).data.toList = lineL op n s.data.toList from rfl, parse_line op n _ h1 hm]
      rw [hp]
      simp [ByteArray.toList_eq, bs]
end Go.Proofs.YtmgcpjgpmjhemaaGreatDoor.Pc
