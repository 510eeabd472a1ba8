/-
Parts of the proof of CodePieces: ExtQuoted. No condition of ours.
-/
import Derived.Test.YtmgcpjgpmjhemaaGreatDoorMCodePieces2
import Derived.Outline
import Derived.WalkSpells
/-
The contract of code.quoted in the form that the printed walks take.
-/
namespace Go.Proofs.YtmgcpjgpmjhemaaGreatDoor.Pc
open Go.RowKit Go.Proofs.YtmgcpjgpmjhemaaGreatDoorW.PrintWords Go.Proofs.YtmgcpjgpmjhemaaGreatDoorW.PrintLast Go.Proofs.YtmgcpjgpmjhemaaGreatDoorW.PrintMore
open CodePure (unesc unescF Bs)
set_option linter.unusedVariables false

def quotedB (a : ByteArray) : Option Bs := if a.size < 2 then none else if bt a 0 ≠ 34 then none else if bt a (a.size - 1) ≠ 34 then none else unesc (a.extract 1 (a.size - 1)).data.toList
def code_quoted.f (a0 : ByteArray) : Option (ByteArray × Bool) :=
  if a0.size ≤ 140737488355328 then some (match quotedB a0 with
    | some l => (⟨l.toArray⟩, true)
    | none => (⟨#[]⟩, false)) else none

theorem drop_byte (s : ByteArray) (k : Nat) (c : UInt8) (h : k < s.size) (hc : s[k]'h = c) : s.data.toList.drop k = c :: s.data.toList.drop (k + 1) := by
  have hl : k < s.data.toList.length := by simpa using h
  rw [List.drop_eq_getElem_cons hl]
  congr 1
theorem fin_none {l : Bs} {res : Option Bs} {r1 : ByteArray} {r2 : Bool} (H : Aside0 ((match unesc l with
    | some l => ((⟨l.toArray⟩ : ByteArray), true)
    | none => (⟨#[]⟩, false)) = (r1, r2))) (HR : unescF false l = res) (hn : res = none) : r1 = ⟨#[]⟩ ∧ r2 = false := by
  have h := H.out
  unfold unesc at h
  rw [HR, hn] at h
  simp only [Prod.mk.injEq] at h
  exact ⟨h.1.symm, h.2.symm⟩
theorem fin_some {l : Bs} {res : Option Bs} {r1 : ByteArray} {r2 : Bool} {out : Bs} (H : Aside0 ((match unesc l with
    | some l => ((⟨l.toArray⟩ : ByteArray), true)
    | none => (⟨#[]⟩, false)) = (r1, r2))) (HR : unescF false l = res) (hn : res = some out) : r1 = ⟨out.toArray⟩ ∧ r2 = true := by
  have h := H.out
  unfold unesc at h
  rw [HR, hn] at h
  simp only [Prod.mk.injEq] at h
  exact ⟨h.1.symm, h.2.symm⟩

abbrev IsB (B b : Nat) (l : List UInt8) (w : World) : Prop := Lib.IsBuilder 84 5 B b (Lib.byteCells l) w

set_option maxRecDepth 100000 in
set_option maxHeartbeats 2000000 in
theorem code_quoted.calls (a0 : ByteArray) (r1 : ByteArray) (r2 : Bool) (w : World) (h : code_quoted.f a0 = some (r1, r2)) :
    Calls Tryz.prog 53 #[.string a0] w fun e w' => e = .returned (.tuple #[.string r1, .bool r2]) ∧ Below w.heap.size w w' := by
  unfold code_quoted.f quotedB at h
  split at h
  · rename_i hs
    simp only [Option.some.injEq] at h
    by_cases h2 : a0.size < 2
    · rw [if_pos h2] at h
      simp only [Prod.mk.injEq] at h
      obtain ⟨rfl, rfl⟩ := h
      go_enter Tryz.func53, Tryz.ntmps53
      go_wp2
      go_ret2
      exact ⟨rfl, Below.refl _ _⟩
    · rw [if_neg h2] at h
      have b0 : ((a0[0]'(by omega)).toNat : Int) = bt a0 0 := by simpa using bt_at a0 0 (by simp; omega)
      by_cases h3 : bt a0 0 ≠ 34
      · rw [if_pos h3] at h
        simp only [Prod.mk.injEq] at h
        obtain ⟨rfl, rfl⟩ := h
        have c3 : (bt a0 0 != 34) = true := bne_iff_ne.mpr h3
        clear h3
        go_enter Tryz.func53, Tryz.ntmps53
        go_wp2
        go_ret2
        exact ⟨rfl, Below.refl _ _⟩
      · rw [if_neg h3] at h
        have h3' : bt a0 0 = 34 := Decidable.not_not.mp h3
        have c3 : (bt a0 0 != 34) = false := bne_eq_false_iff_eq.mpr h3'
        have b1 : ((a0[a0.size - 1]'(by omega)).toNat : Int) = bt a0 (a0.size - 1) := by
          have := bt_at a0 (a0.size - 1) (by omega)
          rw [← this]
          congr 2
          simp only [show ((a0.size : Int) - 1).toNat = a0.size - 1 by omega]
        by_cases h4 : bt a0 (a0.size - 1) ≠ 34
        · rw [if_pos h4] at h
          simp only [Prod.mk.injEq] at h
          obtain ⟨rfl, rfl⟩ := h
          have c4 : (bt a0 (a0.size - 1) != 34) = true := bne_iff_ne.mpr h4
          clear h4 h3' h3
          go_enter Tryz.func53, Tryz.ntmps53
          go_wp2
          go_ret2
          exact ⟨rfl, Below.refl _ _⟩
        · rw [if_neg h4] at h
          have c4 : (bt a0 (a0.size - 1) != 34) = false := bne_eq_false_iff_eq.mpr (Decidable.not_not.mp h4)
          clear h4 h3' h3
          have hsz : (a0.extract 1 (a0.size - 1)).size = a0.size - 2 := by simp; omega
          obtain ⟨inb, hin⟩ : ∃ x, a0.extract 1 (a0.size - 1) = x := ⟨_, rfl⟩
          rw [hin] at h hsz
          have H := Aside0.mk h
          have h2i : 2 ≤ a0.size := by omega
          clear h
          go_enter Tryz.func53, Tryz.ntmps53
          go_wp2
          obtain ⟨res, HR⟩ : ∃ res, Aside0 (unescF false inb.data.toList = res) := ⟨_, ⟨rfl⟩⟩
          have hB0 : IsB w.heap.size w.heap.size [] (w.alloc (.cells #[.pointer none, .slice none 0 0] 84)) :=
            .inl ⟨Nat.le_refl _, .slice none 0 0, heap_alloc_new w _, own_nil _ _ _ _, by simp [Value.ownBlock]⟩
          have HB0 := Aside0.mk hB0
          clear hB0
          go_loopw [6] (fun i wr => ∃ k : Nat, i = .int .i64 k ∧ k ≤ inb.size ∧ ∃ out : List UInt8, Aside0 (IsB w.heap.size w.heap.size out wr) ∧ Aside0 (out.length ≤ k) ∧ Aside0 ((unescF false (inb.data.toList.drop k)).map (out ++ ·) = res) ∧ Aside0 (Below w.heap.size w wr)) (fun i _ => inb.size - (intOf i).toNat)
          case atStart => exact ⟨0, rfl, Nat.zero_le _, [], HB0, ⟨Nat.le_refl _⟩, ⟨by rw [← HR.out]; simp⟩, ⟨(Below.refl w.heap.size w).alloc (Nat.le_refl _) _⟩⟩
          case round =>
            obtain ⟨k, rfl, hk, out, HBl, HL, HU, HW⟩ := hrel
            by_cases hlt : k < inb.size
            · obtain ⟨c, hc⟩ : ∃ c, inb[k]'hlt = c := ⟨_, rfl⟩
              have hcons : inb.data.toList.drop k = c :: inb.data.toList.drop (k + 1) := drop_byte inb k c hlt hc
              have HU1 : Aside0 ((unescF false (c :: inb.data.toList.drop (k + 1))).map (out ++ ·) = res) := ⟨hcons ▸ HU.out⟩
              have hc255 : c.toNat < 256 := c.toNat_lt
              clear hcons HU
              by_cases h34 : c = 34 ∨ c = 10
              · have hn := CodePure.un_bad HU1.out h34
                have hf := fin_none H HR.out hn
                have t34 : ((c.toNat : Int) == 34 || (c.toNat : Int) == 10) = true := by
                  rcases h34 with rfl | rfl <;> decide
                obtain ⟨rfl, rfl⟩ := hf
                clear hn
                by_cases h34' : c = 34
                · have t1 : ((c.toNat : Int) == 34) = true := by rw [h34']; decide
                  clear h34 h34' t34
                  go_wp2
                  go_ret2
                  exact ⟨rfl, HW.out⟩
                · have t1 : ((c.toNat : Int) == 34) = false := by rw [beq_eq_false_iff_ne]; intro e; exact h34' (UInt8.toNat_inj.1 (by show c.toNat = 34; omega))
                  have t2 : ((c.toNat : Int) == 10) = true := by
                    rcases h34 with h | h
                    · exact absurd h h34'
                    · rw [h]; decide
                  clear h34 h34' t34
                  go_wp2
                  go_ret2
                  exact ⟨rfl, HW.out⟩
              · have n34 : c ≠ 34 := fun e => h34 (.inl e)
                have n10 : c ≠ 10 := fun e => h34 (.inr e)
                have t1 : ((c.toNat : Int) == 34) = false := by rw [beq_eq_false_iff_ne]; intro e; exact n34 (UInt8.toNat_inj.1 (by show c.toNat = 34; omega))
                have t2 : ((c.toNat : Int) == 10) = false := by rw [beq_eq_false_iff_ne]; intro e; exact n10 (UInt8.toNat_inj.1 (by show c.toNat = 10; omega))
                by_cases h92 : c = 92
                · have t3 : ((c.toNat : Int) == 92) = true := by rw [h92]; decide
                  by_cases hk1 : k + 1 < inb.size
                  · obtain ⟨d, hd⟩ : ∃ d, inb[k + 1]'hk1 = d := ⟨_, rfl⟩
                    have hcons1 : inb.data.toList.drop (k + 1) = d :: inb.data.toList.drop (k + 1 + 1) := drop_byte inb (k + 1) d hk1 hd
                    have HU2 : Aside0 ((unescF false (92 :: d :: inb.data.toList.drop (k + 1 + 1))).map (out ++ ·) = res) := ⟨by have := HU1.out; rw [hcons1, h92] at this; exact this⟩
                    have hd255 : d.toNat < 256 := d.toNat_lt
                    have tk : ((k : Int) + 1 == (inb.size : Int)) = false := by rw [beq_eq_false_iff_ne]; omega
                    clear hcons1 HU1 h92 n34 n10 h34
                    by_cases hq : d = 34 ∨ d = 92 ∨ d = 110
                    · have hcr : (d == 34 || d == 92 || d == 110) = true := by
                        rcases hq with h | h | h <;> rw [h] <;> decide
                      have HCR : Aside0 (∀ W, Calls Tryz.prog 96 #[.string ⟨#[34, 92, 110]⟩, .int .i32 d.toNat] W fun e w' => e = .returned (.bool true) ∧ Drawn0 W w') := ⟨fun W => hcr ▸ containsRune d W⟩
                      clear hcr
                      by_cases hn : d = 110
                      · have t4 : ((d.toNat : Int) == 110) = true := by rw [hn]; decide
                        have HU3 : Aside0 ((unescF false (inb.data.toList.drop (k + 1 + 1))).map ((out ++ [10]) ++ ·) = res) := ⟨CodePure.un_escn (hn ▸ HU2.out)⟩
                        clear hq hn HU2
                        go_wp2_with fail
                        refine (HCR.out _).mono ?_
                        rintro e w' ⟨rfl, ⟨nd, rfl⟩⟩
                        have HBd : Aside0 (IsB w.heap.size w.heap.size out (wr.drewN nd)) := ⟨HBl.out⟩
                        have HWd : Aside0 (Below w.heap.size w (wr.drewN nd)) := ⟨pw_below_drewN HW.out nd⟩
                        go_wp2_with fail
                        refine (Tryz.Builder_WriteByte w.heap.size w.heap.size (Lib.byteCells out) 10 _ HBd.out (by have := HL.out; simp [Lib.byteCells]; omega) HWd.out.size).mono ?_
                        rintro e w' ⟨rfl, hbd, hbw⟩
                        have HBl2 : Aside0 (IsB w.heap.size w.heap.size (out ++ [10]) w') := ⟨.inr (by rw [Lib.byteCells, List.map_append]; exact hbd)⟩
                        have HW2 : Aside0 (Below w.heap.size w w') := ⟨HWd.out.trans hbw⟩
                        have HL2 : Aside0 ((out ++ [10]).length ≤ k + 1 + 1) := ⟨by have := HL.out; simp; omega⟩
                        clear hbd hbw
                        go_wp2_with fail
                        go_roundw
                        case rel => exact ⟨k + 1 + 1, by go_num, by omega, out ++ [10], HBl2, HL2, HU3, HW2⟩
                        case measure => simp [intOf]; omega
                      · have t4 : ((d.toNat : Int) == 110) = false := by rw [beq_eq_false_iff_ne]; intro e; exact hn (UInt8.toNat_inj.1 (by show d.toNat = 110; omega))
                        have HU3 : Aside0 ((unescF false (inb.data.toList.drop (k + 1 + 1))).map ((out ++ [d]) ++ ·) = res) := ⟨CodePure.un_esc HU2.out (hq.imp id fun h => h.resolve_right hn)⟩
                        clear hq hn HU2
                        go_wp2_with fail
                        refine (HCR.out _).mono ?_
                        rintro e w' ⟨rfl, ⟨nd, rfl⟩⟩
                        have HBd : Aside0 (IsB w.heap.size w.heap.size out (wr.drewN nd)) := ⟨HBl.out⟩
                        have HWd : Aside0 (Below w.heap.size w (wr.drewN nd)) := ⟨pw_below_drewN HW.out nd⟩
                        go_wp2_with fail
                        refine (Tryz.Builder_WriteByte w.heap.size w.heap.size (Lib.byteCells out) d.toNat _ HBd.out (by have := HL.out; simp [Lib.byteCells]; omega) HWd.out.size).mono ?_
                        rintro e w' ⟨rfl, hbd, hbw⟩
                        have HBl2 : Aside0 (IsB w.heap.size w.heap.size (out ++ [d]) w') := ⟨.inr (by rw [Lib.byteCells, List.map_append]; exact hbd)⟩
                        have HW2 : Aside0 (Below w.heap.size w w') := ⟨HWd.out.trans hbw⟩
                        have HL2 : Aside0 ((out ++ [d]).length ≤ k + 1 + 1) := ⟨by have := HL.out; simp; omega⟩
                        clear hbd hbw
                        go_wp2_with fail
                        go_roundw
                        case rel => exact ⟨k + 1 + 1, by go_num, by omega, out ++ [d], HBl2, HL2, HU3, HW2⟩
                        case measure => simp [intOf]; omega
                    · have hcr : (d == 34 || d == 92 || d == 110) = false := by
                        rw [Bool.or_eq_false_iff, Bool.or_eq_false_iff]
                        exact ⟨⟨beq_eq_false_iff_ne.2 fun e => hq (.inl e), beq_eq_false_iff_ne.2 fun e => hq (.inr (.inl e))⟩, beq_eq_false_iff_ne.2 fun e => hq (.inr (.inr e))⟩
                      have HCR : Aside0 (∀ W, Calls Tryz.prog 96 #[.string ⟨#[34, 92, 110]⟩, .int .i32 d.toNat] W fun e w' => e = .returned (.bool false) ∧ Drawn0 W w') := ⟨fun W => hcr ▸ containsRune d W⟩
                      obtain ⟨rfl, rfl⟩ := fin_none H HR.out (CodePure.un_escbad HU2.out (fun e => hq (.inl e)) (fun e => hq (.inr (.inl e))) (fun e => hq (.inr (.inr e))))
                      clear hcr hq HU2
                      go_wp2_with fail
                      refine (HCR.out _).mono ?_
                      rintro e w' ⟨rfl, ⟨nd, rfl⟩⟩
                      go_wp2_with fail
                      go_ret2
                      exact ⟨rfl, pw_below_drewN HW.out nd⟩
                  · have tk : ((k : Int) + 1 == (inb.size : Int)) = true := by rw [beq_iff_eq]; omega
                    have he : inb.data.toList.drop (k + 1) = [] := List.drop_eq_nil_of_le (by have : inb.data.toList.length = inb.size := (by simp); omega)
                    obtain ⟨rfl, rfl⟩ := fin_none H HR.out (CodePure.un_end (f := (out ++ ·)) (by have := HU1.out; rw [he, h92] at this; exact this))
                    clear he HU1 h92 n34 n10 h34
                    go_wp2
                    go_ret2
                    exact ⟨rfl, HW.out⟩
                · have t3 : ((c.toNat : Int) == 92) = false := by rw [beq_eq_false_iff_ne]; intro e; exact h92 (UInt8.toNat_inj.1 (by show c.toNat = 92; omega))
                  have HU2 : Aside0 ((unescF false (inb.data.toList.drop (k + 1))).map ((out ++ [c]) ++ ·) = res) := ⟨CodePure.un_plain HU1.out n34 n10 h92⟩
                  clear HU1 h92 n34 n10 h34
                  go_wp2_with fail
                  refine (Tryz.Builder_WriteByte w.heap.size w.heap.size (Lib.byteCells out) c.toNat wr HBl.out (by have := HL.out; simp [Lib.byteCells]; omega) HW.out.size).mono ?_
                  rintro e w' ⟨rfl, hbd, hbw⟩
                  have HBl2 : Aside0 (IsB w.heap.size w.heap.size (out ++ [c]) w') := ⟨.inr (by rw [Lib.byteCells, List.map_append]; exact hbd)⟩
                  have HW2 : Aside0 (Below w.heap.size w w') := ⟨HW.out.trans hbw⟩
                  have HL2 : Aside0 ((out ++ [c]).length ≤ k + 1) := ⟨by have := HL.out; simp; omega⟩
                  clear hbd hbw
                  go_wp2_with fail
                  go_roundw
                  case rel => exact ⟨k + 1, by go_num, by omega, out ++ [c], HBl2, HL2, HU2, HW2⟩
                  case measure => simp [intOf]; omega
            · obtain rfl : k = inb.size := by omega
              have hres : res = some out := by
                have := HU.out
                rw [List.drop_eq_nil_of_le (by simp)] at this
                rw [← this]
                simp [unescF]
              obtain ⟨rfl, rfl⟩ := fin_some H HR.out hres
              clear hres
              go_wp2_with fail
              refine (Tryz.Builder_String_any w.heap.size w.heap.size out wr HBl.out HW.out.size).mono ?_
              rintro e w' ⟨rfl, hbw⟩
              have HW2 : Aside0 (Below w.heap.size w w') := ⟨HW.out.trans hbw⟩
              clear hbw
              go_wp2_with fail
              go_ret2
              exact ⟨rfl, HW2.out⟩
  · cases h
end Go.Proofs.YtmgcpjgpmjhemaaGreatDoor.Pc
