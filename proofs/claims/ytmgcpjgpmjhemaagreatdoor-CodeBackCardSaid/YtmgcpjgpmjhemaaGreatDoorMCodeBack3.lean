/-
Parts of the proof of CodeBack: ExtFigures, ExtRune, ExtQuoted. No condition of ours.
-/
import Derived.Test.YtmgcpjgpmjhemaaGreatDoorMCodeBack2
import Derived.Lib.ItoaLen
import Derived.Lib.AtoiAllCases
import Derived.Lib.AtoiErrMem
import Derived.Sort.Grow
import Derived.WalkSpells
import Derived.Lib.Hide
import Derived.Deep.QuietTactic
import Derived.BigQuiet
import Derived.Laws.Runes
import Derived.Outline
/-
The contracts of strconv.Itoa and code.figures in the form that the printed walks take.
-/
namespace Go.Proofs.YtmgcpjgpmjhemaaGreatDoor.Pc
open Go.RowKit Go.Proofs.YtmgcpjgpmjhemaaGreatDoorW.PrintWords Go.Proofs.YtmgcpjgpmjhemaaGreatDoorW.PrintLast Go.Proofs.YtmgcpjgpmjhemaaGreatDoorW.PrintMore
open CodePure (figs)
set_option linter.unusedVariables false

theorem below_grow (w : World) (k : Nat) (os : Array Obj) : Below w.heap.size w (Go.Sort.grow (w.drewN k) os) :=
  ⟨rfl, rfl, rfl, by simp [Go.Sort.grow], fun i hi => by
    show (w.heap ++ os)[i]? = _
    exact Array.getElem?_append_left hi⟩

theorem toList_data (s : ByteArray) : s.toList = s.data.toList := ByteArray.toList_eq s

theorem itoa_call (n : Int) (h0 : -9223372036854775808 ≤ n) (h1 : n ≤ 9223372036854775807) (w : World) (hG : Gl w) :
    Calls Tryz.prog 44 #[.int .i64 n] w fun e w' => e = .returned (.string ⟨(Lib.itoa n).toArray⟩) ∧ Below w.heap.size w w' := by
  refine (Tryz.strconv_Itoa n h0 h1 w hG.p10).mono fun e w' h => ⟨h.1, ?_⟩
  obtain ⟨k, os, rfl⟩ := h.2
  exact below_grow w k os

def atoiNum (l : List UInt8) : Int := match Lib.atoiAll l with
  | .ok v => v
  | Go.Lib.NumEnd.syntax => 0
  | .range => Lib.atoiSat l
def code_figures.f (a0 : ByteArray) : Option (Int × Bool) :=
  if a0.size ≤ 281474976710656 then some (atoiNum a0.data.toList, (figs a0.data.toList).isSome) else none

theorem code_figures.calls (a0 : ByteArray) (r1 : Int) (r2 : Bool) (w : World) (hG : Gl w) (h : code_figures.f a0 = some (r1, r2)) :
    Calls Tryz.prog 52 #[.string a0] w fun e w' => e = .returned (.tuple #[.int .i64 r1, .bool r2]) ∧ Below w.heap.size w w' := by
  have HG := Aside0.mk hG
  clear hG
  unfold code_figures.f at h
  split at h
  · rename_i hs
    simp only [Option.some.injEq, Prod.mk.injEq] at h
    have H1 := Aside0.mk h.1
    have H2 := Aside0.mk h.2
    clear h
    match ha : Lib.atoiAll a0.data.toList with
    | .ok v =>
      have hb := Lib.atoiAll_bounds ha
      have HA := Aside0.mk ha
      clear ha
      go_enter Tryz.func52, Tryz.ntmps52
      go_wp2_with fail
      refine (Tryz.strconv_Atoi_ok a0 (by omega) v HA.out w).mono ?_
      rintro e w' ⟨rfl, hw⟩
      have HB : Aside0 (Below w.heap.size w w') := ⟨by
        rcases hw with rfl | ⟨t, rfl⟩
        · exact Below.refl _ _
        · exact Lib.bytesWorld_below w _ t⟩
      clear hw
      go_wp2_with fail
      refine (itoa_call v hb.1 hb.2 w' (gl_below HG.out HB.out)).mono ?_
      rintro e w2 ⟨rfl, hb2⟩
      have HB2 : Aside0 (Below w.heap.size w w2) := ⟨below_then HB.out HB.out.size hb2⟩
      clear hb2
      go_wp2_with fail
      go_ret2
      have e1 : r1 = v := by rw [← H1.out, atoiNum, HA.out]
      have e2 : r2 = (Lib.itoa v == a0.toList) := by
        rw [← H2.out, figs, HA.out, toList_data]
        simp only
        by_cases e : Lib.itoa v = a0.data.toList
        · rw [if_pos e]; simp [e]
        · rw [if_neg e]; simp [e]
      subst e1 e2
      exact ⟨rfl, HB2.out⟩
    | Go.Lib.NumEnd.syntax =>
      obtain ⟨te, pe, hc⟩ := HG.out.syn
      have HA := Aside0.mk ha
      have HC := Aside0.mk hc
      clear ha hc
      go_enter Tryz.func52, Tryz.ntmps52
      go_wp2_with fail
      refine (Tryz.strconv_Atoi_syntax a0 (by omega) HA.out _ w HC.out (.inr ⟨te, pe, rfl⟩)).mono ?_
      rintro e w' ⟨N, rfl, _, _, hB⟩
      have HB := Aside0.mk hB
      clear hB
      go_wp2_with fail
      go_ret2
      have e1 : r1 = 0 := by rw [← H1.out, atoiNum, HA.out]
      have e2 : r2 = false := by rw [← H2.out, figs, HA.out]; rfl
      subst e1 e2
      exact ⟨rfl, HB.out⟩
    | .range =>
      obtain ⟨te, pe, hc⟩ := HG.out.rng
      have HA := Aside0.mk ha
      have HC := Aside0.mk hc
      clear ha hc
      go_enter Tryz.func52, Tryz.ntmps52
      go_wp2_with fail
      refine (Tryz.strconv_Atoi_range a0 (by omega) HA.out _ w HC.out (.inr ⟨te, pe, rfl⟩)).mono ?_
      rintro e w' ⟨N, rfl, _, _, hB⟩
      have HB := Aside0.mk hB
      clear hB
      go_wp2_with fail
      go_ret2
      have e1 : r1 = Lib.atoiSat a0.data.toList := by rw [← H1.out, atoiNum, HA.out]
      have e2 : r2 = false := by rw [← H2.out, figs, HA.out]; rfl
      subst e1 e2
      exact ⟨rfl, HB.out⟩
  · cases h
end Go.Proofs.YtmgcpjgpmjhemaaGreatDoor.Pc

/-
strings.ContainsRune over the three bytes of a quote's escapes, at every byte.
-/
namespace Go.Proofs.YtmgcpjgpmjhemaaGreatDoor.Pc
open Go.RowKit Go.Proofs.YtmgcpjgpmjhemaaGreatDoorW.PrintWords Go.Proofs.YtmgcpjgpmjhemaaGreatDoorW.PrintLast Go.Proofs.YtmgcpjgpmjhemaaGreatDoorW.PrintMore
set_option linter.unusedVariables false

theorem encode_two (r : Int) (h0 : 128 ≤ r) (h1 : r ≤ 255) : ∃ rs : ByteArray, Utf8.encode r = rs ∧ ∃ h : rs.size = 2, 128 ≤ (rs[1]'(by omega)).toNat := by
  refine ⟨_, rfl, ?_⟩
  have hv : Utf8.valid r = true := by unfold Utf8.valid; simp; omega
  have hc : ¬ r.toNat < 128 := by omega
  have hd : r.toNat < 2048 := by omega
  unfold Utf8.encode
  simp only [hv, if_true, hc, hd, if_false]
  refine ⟨rfl, ?_⟩
  show 128 ≤ (UInt8.ofNat (128 + r.toNat % 64)).toNat
  simp; omega

theorem quiet_add_same {P : Program} {f : FuncId} {args : Array Value} {w : World} {a n : Nat} {v : Value}
    (h : Calls P f args (w.drewN (a + n)) fun e w' => e = .returned v ∧ w' = w.drewN (a + n)) :
    Calls P f args (w.drewN (a + n)) fun e w'' => e = .returned v ∧ ∃ m, w'' = w.drewN (a + m) :=
  h.mono fun _ _ ⟨he, hm⟩ => ⟨he, n, hm⟩

theorem ib_call (c : UInt8) (hc : 128 ≤ c.toNat) (s : ByteArray) (hs : s.data.toList = [110]) (W : World) :
    Calls Tryz.prog 162 #[.string s, .int .u8 c.toNat] W fun e w' => e = .returned (.int .i64 (-1)) ∧ w' = W := by
  refine (Tryz.strings_IndexByte s c.toNat W).mono fun e w' hh => ⟨?_, hh.2⟩
  rw [hh.1, hs]
  have e : ((c.toNat : Int).toNat.toUInt8) = c := by simp
  have hn : ¬ ((110 : UInt8) = c) := by rintro rfl; exact absurd hc (by decide)
  rw [e]
  simp [Lib.indexByte, hn]

set_option maxRecDepth 100000 in
set_option maxHeartbeats 2000000 in
theorem indexRune_hi (r : Int) (h0 : 128 ≤ r) (h1 : r ≤ 255) (w : World) :
    Calls Tryz.prog 128 #[.string ⟨#[34, 92, 110]⟩, .int .i32 r] w fun e w' => e = .returned (.int .i64 (-1)) ∧ Drawn0 w w' := by
  obtain ⟨rs, he, hs, h1b⟩ := encode_two r h0 h1
  go_enter Tryz.func128, Tryz.ntmps128
  go_wp2_with fail
  refine (Tryz.utf8_ValidRune r w).mono ?_
  rintro e w' ⟨rfl, rfl⟩
  have hv : Lib.validRune r = true := by unfold Lib.validRune; simp; omega
  go_wp2_with fail
  go_step3
  have c1 : ((((⟨#[34, 92, 110]⟩ : ByteArray)[1]'(by decide)).toNat : Int) != ((rs[1]'(by omega)).toNat : Int)) = true := by
    rw [bne_iff_ne]
    show ((92 : Nat) : Int) ≠ _
    omega
  have w2 : IntKind.i64.wrap 2 = 2 := by decide
  go_wp2_with fail
  refine wp_loop_rounds 1 ?_
  rw [rounds_succ]
  go_wp2_with fail
  go_step3
  go_wp2_with fail
  go_quiet (fail)
  go_wp2_with fail
  go_quiet ((go_at_call 162; exact quiet_add_same (ib_call _ h1b _ rfl _)))
  go_wp2_with fail
  simp only [Exit.noGoto, Exit.inBlock, Exit.then]
  go_ret
  exact ⟨rfl, ⟨_, rfl⟩⟩

theorem containsRune (c : UInt8) (w : World) :
    Calls Tryz.prog 96 #[.string ⟨#[34, 92, 110]⟩, .int .i32 c.toNat] w fun e w' => e = .returned (.bool (c == 34 || c == 92 || c == 110)) ∧ Drawn0 w w' := by
  by_cases h : c.toNat < 128
  · refine (Tryz.strings_ContainsRune_ascii ⟨#[34, 92, 110]⟩ c.toNat w (by omega) (by omega)).mono fun e w' hh => ⟨?_, drawn_same hh.2⟩
    rw [hh.1]
    have e : ((c.toNat : Int).toNat.toUInt8) = c := by simp
    rw [e]
    congr 2
    show decide (0 ≤ Lib.indexByte [34, 92, 110] c) = _
    simp only [Lib.indexByte]
    by_cases h1 : c = 34
    · subst h1; rfl
    · by_cases h2 : c = 92
      · subst h2; rfl
      · by_cases h3 : c = 110
        · subst h3; rfl
        · simp [h1, h2, h3, Ne.symm h1, Ne.symm h2, Ne.symm h3]
  · have hi := indexRune_hi c.toNat (by omega) (by have := c.toNat_lt; omega) w
    have e0 : (c == 34 || c == 92 || c == 110) = false := by
      rw [Bool.or_eq_false_iff, Bool.or_eq_false_iff]
      refine ⟨⟨?_, ?_⟩, ?_⟩ <;> (rw [beq_eq_false_iff_ne]; rintro rfl; exact h (by decide))
    rw [e0]
    clear e0
    have HI := Lib.hid hi
    clear hi
    go_enter Tryz.func96, Tryz.ntmps96
    go_wp2_with fail
    refine HI.out.mono ?_
    rintro e w' ⟨rfl, ⟨n, rfl⟩⟩
    go_wp2_with fail
    go_ret
    exact ⟨rfl, ⟨_, rfl⟩⟩
end Go.Proofs.YtmgcpjgpmjhemaaGreatDoor.Pc

/-
The contract of code.quoted in the form that the printed walks take.
-/
namespace Go.Proofs.YtmgcpjgpmjhemaaGreatDoor.Pc
open Go.RowKit Go.Proofs.YtmgcpjgpmjhemaaGreatDoorW.PrintWords Go.Proofs.YtmgcpjgpmjhemaaGreatDoorW.PrintLast Go.Proofs.YtmgcpjgpmjhemaaGreatDoorW.PrintMore
open CodePure (unesc unescF Bs)
set_option linter.unusedVariables false

def quotedB (a : ByteArray) : Option Bs := if a.size < 2 then none else if bt a 0 ≠ 34 then none else if bt a (a.size - 1) ≠ 34 then none else unesc (a.extract 1 (a.size - 1)).data.toList
def code_quoted.f (a0 : ByteArray) : Option (ByteArray × Bool) :=
  if a0.size ≤ 140737488355328 then some (match quotedB a0 with
    | some l => (⟨l.toArray⟩, true)
    | none => (⟨#[]⟩, false)) else none

theorem drop_byte (s : ByteArray) (k : Nat) (c : UInt8) (h : k < s.size) (hc : s[k]'h = c) : s.data.toList.drop k = c :: s.data.toList.drop (k + 1) := by
  have hl : k < s.data.toList.length := by simpa using h
  rw [List.drop_eq_getElem_cons hl]
  congr 1
theorem fin_none {l : Bs} {res : Option Bs} {r1 : ByteArray} {r2 : Bool} (H : Aside0 ((match unesc l with
    | some l => ((⟨l.toArray⟩ : ByteArray), true)
    | none => (⟨#[]⟩, false)) = (r1, r2))) (HR : unescF false l = res) (hn : res = none) : r1 = ⟨#[]⟩ ∧ r2 = false := by
  have h := H.out
  unfold unesc at h
  rw [HR, hn] at h
  simp only [Prod.mk.injEq] at h
  exact ⟨h.1.symm, h.2.symm⟩
theorem fin_some {l : Bs} {res : Option Bs} {r1 : ByteArray} {r2 : Bool} {out : Bs} (H : Aside0 ((match unesc l with
    | some l => ((⟨l.toArray⟩ : ByteArray), true)
    | none => (⟨#[]⟩, false)) = (r1, r2))) (HR : unescF false l = res) (hn : res = some out) : r1 = ⟨out.toArray⟩ ∧ r2 = true := by
  have h := H.out
  unfold unesc at h
  rw [HR, hn] at h
  simp only [Prod.mk.injEq] at h
  exact ⟨h.1.symm, h.2.symm⟩

abbrev IsB (B b : Nat) (l : List UInt8) (w : World) : Prop := Lib.IsBuilder 84 5 B b (Lib.byteCells l) w

set_option maxRecDepth 100000 in
set_option maxHeartbeats 2000000 in
theorem code_quoted.calls (a0 : ByteArray) (r1 : ByteArray) (r2 : Bool) (w : World) (h : code_quoted.f a0 = some (r1, r2)) :
    Calls Tryz.prog 53 #[.string a0] w fun e w' => e = .returned (.tuple #[.string r1, .bool r2]) ∧ Below w.heap.size w w' := by
  unfold code_quoted.f quotedB at h
  split at h
  · rename_i hs
    simp only [Option.some.injEq] at h
    by_cases h2 : a0.size < 2
    · rw [if_pos h2] at h
      simp only [Prod.mk.injEq] at h
      obtain ⟨rfl, rfl⟩ := h
      go_enter Tryz.func53, Tryz.ntmps53
      go_wp2
      go_ret2
      exact ⟨rfl, Below.refl _ _⟩
    · rw [if_neg h2] at h
      have b0 : ((a0[0]'(by omega)).toNat : Int) = bt a0 0 := by simpa using bt_at a0 0 (by simp; omega)
      by_cases h3 : bt a0 0 ≠ 34
      · rw [if_pos h3] at h
        simp only [Prod.mk.injEq] at h
        obtain ⟨rfl, rfl⟩ := h
        have c3 : (bt a0 0 != 34) = true := bne_iff_ne.mpr h3
        clear h3
        go_enter Tryz.func53, Tryz.ntmps53
        go_wp2
        go_ret2
        exact ⟨rfl, Below.refl _ _⟩
      · rw [if_neg h3] at h
        have h3' : bt a0 0 = 34 := Decidable.not_not.mp h3
        have c3 : (bt a0 0 != 34) = false := bne_eq_false_iff_eq.mpr h3'
        have b1 : ((a0[a0.size - 1]'(by omega)).toNat : Int) = bt a0 (a0.size - 1) := by
          have := bt_at a0 (a0.size - 1) (by omega)
          rw [← this]
          congr 2
          simp only [show ((a0.size : Int) - 1).toNat = a0.size - 1 by omega]
        by_cases h4 : bt a0 (a0.size - 1) ≠ 34
        · rw [if_pos h4] at h
          simp only [Prod.mk.injEq] at h
          obtain ⟨rfl, rfl⟩ := h
          have c4 : (bt a0 (a0.size - 1) != 34) = true := bne_iff_ne.mpr h4
          clear h4 h3' h3
          go_enter Tryz.func53, Tryz.ntmps53
          go_wp2
          go_ret2
          exact ⟨rfl, Below.refl _ _⟩
        · rw [if_neg h4] at h
          have c4 : (bt a0 (a0.size - 1) != 34) = false := bne_eq_false_iff_eq.mpr (Decidable.not_not.mp h4)
          clear h4 h3' h3
          have hsz : (a0.extract 1 (a0.size - 1)).size = a0.size - 2 := by simp; omega
          obtain ⟨inb, hin⟩ : ∃ x, a0.extract 1 (a0.size - 1) = x := ⟨_, rfl⟩
          rw [hin] at h hsz
          have H := Aside0.mk h
          have h2i : 2 ≤ a0.size := by omega
          clear h
          go_enter Tryz.func53, Tryz.ntmps53
          go_wp2
          obtain ⟨res, HR⟩ : ∃ res, Aside0 (unescF false inb.data.toList = res) := ⟨_, ⟨rfl⟩⟩
          have hB0 : IsB w.heap.size w.heap.size [] (w.alloc (.cells #[.pointer none, .slice none 0 0] 84)) :=
            .inl ⟨Nat.le_refl _, .slice none 0 0, heap_alloc_new w _, own_nil _ _ _ _, by simp [Value.ownBlock]⟩
          have HB0 := Aside0.mk hB0
          clear hB0
          go_loopw [6] (fun i wr => ∃ k : Nat, i = .int .i64 k ∧ k ≤ inb.size ∧ ∃ out : List UInt8, Aside0 (IsB w.heap.size w.heap.size out wr) ∧ Aside0 (out.length ≤ k) ∧ Aside0 ((unescF false (inb.data.toList.drop k)).map (out ++ ·) = res) ∧ Aside0 (Below w.heap.size w wr)) (fun i _ => inb.size - (intOf i).toNat)
          case atStart => exact ⟨0, rfl, Nat.zero_le _, [], HB0, ⟨Nat.le_refl _⟩, ⟨by rw [← HR.out]; simp⟩, ⟨(Below.refl w.heap.size w).alloc (Nat.le_refl _) _⟩⟩
          case round =>
            obtain ⟨k, rfl, hk, out, HBl, HL, HU, HW⟩ := hrel
            by_cases hlt : k < inb.size
            · obtain ⟨c, hc⟩ : ∃ c, inb[k]'hlt = c := ⟨_, rfl⟩
              have hcons : inb.data.toList.drop k = c :: inb.data.toList.drop (k + 1) := drop_byte inb k c hlt hc
              have HU1 : Aside0 ((unescF false (c :: inb.data.toList.drop (k + 1))).map (out ++ ·) = res) := ⟨hcons ▸ HU.out⟩
              have hc255 : c.toNat < 256 := c.toNat_lt
              clear hcons HU
              by_cases h34 : c = 34 ∨ c = 10
              · have hn := CodePure.un_bad HU1.out h34
                have hf := fin_none H HR.out hn
                have t34 : ((c.toNat : Int) == 34 || (c.toNat : Int) == 10) = true := by
                  rcases h34 with rfl | rfl <;> decide
                obtain ⟨rfl, rfl⟩ := hf
                clear hn
                by_cases h34' : c = 34
                · have t1 : ((c.toNat : Int) == 34) = true := by rw [h34']; decide
                  clear h34 h34' t34
                  go_wp2
                  go_ret2
                  exact ⟨rfl, HW.out⟩
                · have t1 : ((c.toNat : Int) == 34) = false := by rw [beq_eq_false_iff_ne]; intro e; exact h34' (UInt8.toNat_inj.1 (by show c.toNat = 34; omega))
                  have t2 : ((c.toNat : Int) == 10) = true := by
                    rcases h34 with h | h
                    · exact absurd h h34'
                    · rw [h]; decide
                  clear h34 h34' t34
                  go_wp2
                  go_ret2
                  exact ⟨rfl, HW.out⟩
              · have n34 : c ≠ 34 := fun e => h34 (.inl e)
                have n10 : c ≠ 10 := fun e => h34 (.inr e)
                have t1 : ((c.toNat : Int) == 34) = false := by rw [beq_eq_false_iff_ne]; intro e; exact n34 (UInt8.toNat_inj.1 (by show c.toNat = 34; omega))
                have t2 : ((c.toNat : Int) == 10) = false := by rw [beq_eq_false_iff_ne]; intro e; exact n10 (UInt8.toNat_inj.1 (by show c.toNat = 10; omega))
                by_cases h92 : c = 92
                · have t3 : ((c.toNat : Int) == 92) = true := by rw [h92]; decide
                  by_cases hk1 : k + 1 < inb.size
                  · obtain ⟨d, hd⟩ : ∃ d, inb[k + 1]'hk1 = d := ⟨_, rfl⟩
                    have hcons1 : inb.data.toList.drop (k + 1) = d :: inb.data.toList.drop (k + 1 + 1) := drop_byte inb (k + 1) d hk1 hd
                    have HU2 : Aside0 ((unescF false (92 :: d :: inb.data.toList.drop (k + 1 + 1))).map (out ++ ·) = res) := ⟨by have := HU1.out; rw [hcons1, h92] at this; exact this⟩
                    have hd255 : d.toNat < 256 := d.toNat_lt
                    have tk : ((k : Int) + 1 == (inb.size : Int)) = false := by rw [beq_eq_false_iff_ne]; omega
                    clear hcons1 HU1 h92 n34 n10 h34
                    by_cases hq : d = 34 ∨ d = 92 ∨ d = 110
                    · have hcr : (d == 34 || d == 92 || d == 110) = true := by
                        rcases hq with h | h | h <;> rw [h] <;> decide
                      have HCR : Aside0 (∀ W, Calls Tryz.prog 96 #[.string ⟨#[34, 92, 110]⟩, .int .i32 d.toNat] W fun e w' => e = .returned (.bool true) ∧ Drawn0 W w') := ⟨fun W => hcr ▸ containsRune d W⟩
                      clear hcr
                      by_cases hn : d = 110
                      · have t4 : ((d.toNat : Int) == 110) = true := by rw [hn]; decide
                        have HU3 : Aside0 ((unescF false (inb.data.toList.drop (k + 1 + 1))).map ((out ++ [10]) ++ ·) = res) := ⟨CodePure.un_escn (hn ▸ HU2.out)⟩
                        clear hq hn HU2
                        go_wp2_with fail
                        refine (HCR.out _).mono ?_
                        rintro e w' ⟨rfl, ⟨nd, rfl⟩⟩
                        have HBd : Aside0 (IsB w.heap.size w.heap.size out (wr.drewN nd)) := ⟨HBl.out⟩
                        have HWd : Aside0 (Below w.heap.size w (wr.drewN nd)) := ⟨pw_below_drewN HW.out nd⟩
                        go_wp2_with fail
                        refine (Tryz.Builder_WriteByte w.heap.size w.heap.size (Lib.byteCells out) 10 _ HBd.out (by have := HL.out; simp [Lib.byteCells]; omega) HWd.out.size).mono ?_
                        rintro e w' ⟨rfl, hbd, hbw⟩
                        have HBl2 : Aside0 (IsB w.heap.size w.heap.size (out ++ [10]) w') := ⟨.inr (by rw [Lib.byteCells, List.map_append]; exact hbd)⟩
                        have HW2 : Aside0 (Below w.heap.size w w') := ⟨HWd.out.trans hbw⟩
                        have HL2 : Aside0 ((out ++ [10]).length ≤ k + 1 + 1) := ⟨by have := HL.out; simp; omega⟩
                        clear hbd hbw
                        go_wp2_with fail
                        go_roundw
                        case rel => exact ⟨k + 1 + 1, by go_num, by omega, out ++ [10], HBl2, HL2, HU3, HW2⟩
                        case measure => simp [intOf]; omega
                      · have t4 : ((d.toNat : Int) == 110) = false := by rw [beq_eq_false_iff_ne]; intro e; exact hn (UInt8.toNat_inj.1 (by show d.toNat = 110; omega))
                        have HU3 : Aside0 ((unescF false (inb.data.toList.drop (k + 1 + 1))).map ((out ++ [d]) ++ ·) = res) := ⟨CodePure.un_esc HU2.out (hq.imp id fun h => h.resolve_right hn)⟩
                        clear hq hn HU2
                        go_wp2_with fail
                        refine (HCR.out _).mono ?_
                        rintro e w' ⟨rfl, ⟨nd, rfl⟩⟩
                        have HBd : Aside0 (IsB w.heap.size w.heap.size out (wr.drewN nd)) := ⟨HBl.out⟩
                        have HWd : Aside0 (Below w.heap.size w (wr.drewN nd)) := ⟨pw_below_drewN HW.out nd⟩
                        go_wp2_with fail
                        refine (Tryz.Builder_WriteByte w.heap.size w.heap.size (Lib.byteCells out) d.toNat _ HBd.out (by have := HL.out; simp [Lib.byteCells]; omega) HWd.out.size).mono ?_
                        rintro e w' ⟨rfl, hbd, hbw⟩
                        have HBl2 : Aside0 (IsB w.heap.size w.heap.size (out ++ [d]) w') := ⟨.inr (by rw [Lib.byteCells, List.map_append]; exact hbd)⟩
                        have HW2 : Aside0 (Below w.heap.size w w') := ⟨HWd.out.trans hbw⟩
                        have HL2 : Aside0 ((out ++ [d]).length ≤ k + 1 + 1) := ⟨by have := HL.out; simp; omega⟩
                        clear hbd hbw
                        go_wp2_with fail
                        go_roundw
                        case rel => exact ⟨k + 1 + 1, by go_num, by omega, out ++ [d], HBl2, HL2, HU3, HW2⟩
                        case measure => simp [intOf]; omega
                    · have hcr : (d == 34 || d == 92 || d == 110) = false := by
                        rw [Bool.or_eq_false_iff, Bool.or_eq_false_iff]
                        exact ⟨⟨beq_eq_false_iff_ne.2 fun e => hq (.inl e), beq_eq_false_iff_ne.2 fun e => hq (.inr (.inl e))⟩, beq_eq_false_iff_ne.2 fun e => hq (.inr (.inr e))⟩
                      have HCR : Aside0 (∀ W, Calls Tryz.prog 96 #[.string ⟨#[34, 92, 110]⟩, .int .i32 d.toNat] W fun e w' => e = .returned (.bool false) ∧ Drawn0 W w') := ⟨fun W => hcr ▸ containsRune d W⟩
                      obtain ⟨rfl, rfl⟩ := fin_none H HR.out (CodePure.un_escbad HU2.out (fun e => hq (.inl e)) (fun e => hq (.inr (.inl e))) (fun e => hq (.inr (.inr e))))
                      clear hcr hq HU2
                      go_wp2_with fail
                      refine (HCR.out _).mono ?_
                      rintro e w' ⟨rfl, ⟨nd, rfl⟩⟩
                      go_wp2_with fail
                      go_ret2
                      exact ⟨rfl, pw_below_drewN HW.out nd⟩
                  · have tk : ((k : Int) + 1 == (inb.size : Int)) = true := by rw [beq_iff_eq]; omega
                    have he : inb.data.toList.drop (k + 1) = [] := List.drop_eq_nil_of_le (by have : inb.data.toList.length = inb.size := (by simp); omega)
                    obtain ⟨rfl, rfl⟩ := fin_none H HR.out (CodePure.un_end (f := (out ++ ·)) (by have := HU1.out; rw [he, h92] at this; exact this))
                    clear he HU1 h92 n34 n10 h34
                    go_wp2
                    go_ret2
                    exact ⟨rfl, HW.out⟩
                · have t3 : ((c.toNat : Int) == 92) = false := by rw [beq_eq_false_iff_ne]; intro e; exact h92 (UInt8.toNat_inj.1 (by show c.toNat = 92; omega))
                  have HU2 : Aside0 ((unescF false (inb.data.toList.drop (k + 1))).map ((out ++ [c]) ++ ·) = res) := ⟨CodePure.un_plain HU1.out n34 n10 h92⟩
                  clear HU1 h92 n34 n10 h34
                  go_wp2_with fail
                  refine (Tryz.Builder_WriteByte w.heap.size w.heap.size (Lib.byteCells out) c.toNat wr HBl.out (by have := HL.out; simp [Lib.byteCells]; omega) HW.out.size).mono ?_
                  rintro e w' ⟨rfl, hbd, hbw⟩
                  have HBl2 : Aside0 (IsB w.heap.size w.heap.size (out ++ [c]) w') := ⟨.inr (by rw [Lib.byteCells, List.map_append]; exact hbd)⟩
                  have HW2 : Aside0 (Below w.heap.size w w') := ⟨HW.out.trans hbw⟩
                  have HL2 : Aside0 ((out ++ [c]).length ≤ k + 1) := ⟨by have := HL.out; simp; omega⟩
                  clear hbd hbw
                  go_wp2_with fail
                  go_roundw
                  case rel => exact ⟨k + 1, by go_num, by omega, out ++ [c], HBl2, HL2, HU2, HW2⟩
                  case measure => simp [intOf]; omega
            · obtain rfl : k = inb.size := by omega
              have hres : res = some out := by
                have := HU.out
                rw [List.drop_eq_nil_of_le (by simp)] at this
                rw [← this]
                simp [unescF]
              obtain ⟨rfl, rfl⟩ := fin_some H HR.out hres
              clear hres
              go_wp2_with fail
              refine (Tryz.Builder_String_any w.heap.size w.heap.size out wr HBl.out HW.out.size).mono ?_
              rintro e w' ⟨rfl, hbw⟩
              have HW2 : Aside0 (Below w.heap.size w w') := ⟨HW.out.trans hbw⟩
              clear hbw
              go_wp2_with fail
              go_ret2
              exact ⟨rfl, HW2.out⟩
  · cases h
end Go.Proofs.YtmgcpjgpmjhemaaGreatDoor.Pc
