/-
strings.ContainsRune over the three bytes of a quote's escapes, at every byte.
-/
import Derived.Test.YtmgcpjgpmjhemaaGreatDoorExtFigures
import Derived.WalkSpells
import Derived.Lib.Hide
import Derived.Deep.QuietTactic
import Derived.BigQuiet
import Derived.Laws.Runes
namespace Go.Proofs.YtmgcpjgpmjhemaaGreatDoor.Pc
open Go.RowKit Go.Proofs.YtmgcpjgpmjhemaaGreatDoorW.PrintWords Go.Proofs.YtmgcpjgpmjhemaaGreatDoorW.PrintLast Go.Proofs.YtmgcpjgpmjhemaaGreatDoorW.PrintMore
set_option linter.unusedVariables false

theorem encode_two (r : Int) (h0 : 128 ≤ r) (h1 : r ≤ 255) : ∃ rs : ByteArray, Utf8.encode r = rs ∧ ∃ h : rs.size = 2, 128 ≤ (rs[1]'(by omega)).toNat := by
  refine ⟨_, rfl, ?_⟩
  have hv : Utf8.valid r = true := by unfold Utf8.valid; simp; omega
  have hc : ¬ r.toNat < 128 := by omega
  have hd : r.toNat < 2048 := by omega
  unfold Utf8.encode
  simp only [hv, if_true, hc, hd, if_false]
  refine ⟨rfl, ?_⟩
  show 128 ≤ (UInt8.ofNat (128 + r.toNat % 64)).toNat
  simp; omega

theorem quiet_add_same {P : Program} {f : FuncId} {args : Array Value} {w : World} {a n : Nat} {v : Value}
    (h : Calls P f args (w.drewN (a + n)) fun e w' => e = .returned v ∧ w' = w.drewN (a + n)) :
    Calls P f args (w.drewN (a + n)) fun e w'' => e = .returned v ∧ ∃ m, w'' = w.drewN (a + m) :=
  h.mono fun _ _ ⟨he, hm⟩ => ⟨he, n, hm⟩

theorem ib_call (c : UInt8) (hc : 128 ≤ c.toNat) (s : ByteArray) (hs : s.data.toList = [110]) (W : World) :
    Calls Tryz.prog 162 #[.string s, .int .u8 c.toNat] W fun e w' => e = .returned (.int .i64 (-1)) ∧ w' = W := by
  refine (Tryz.strings_IndexByte s c.toNat W).mono fun e w' hh => ⟨?_, hh.2⟩
  rw [hh.1, hs]
  have e : ((c.toNat : Int).toNat.toUInt8) = c := by simp
  have hn : ¬ ((110 : UInt8) = c) := by rintro rfl; exact absurd hc (by decide)
  rw [e]
  simp [Lib.indexByte, hn]

set_option maxRecDepth 100000 in
set_option maxHeartbeats 2000000 in
theorem indexRune_hi (r : Int) (h0 : 128 ≤ r) (h1 : r ≤ 255) (w : World) :
    Calls Tryz.prog 128 #[.string ⟨#[34, 92, 110]⟩, .int .i32 r] w fun e w' => e = .returned (.int .i64 (-1)) ∧ Drawn0 w w' := by
  obtain ⟨rs, he, hs, h1b⟩ := encode_two r h0 h1
  go_enter Tryz.func128, Tryz.ntmps128
  go_wp2_with fail
  refine (Tryz.utf8_ValidRune r w).mono ?_
  rintro e w' ⟨rfl, rfl⟩
  have hv : Lib.validRune r = true := by unfold Lib.validRune; simp; omega
  go_wp2_with fail
  go_step3
  have c1 : ((((⟨#[34, 92, 110]⟩ : ByteArray)[1]'(by decide)).toNat : Int) != ((rs[1]'(by omega)).toNat : Int)) = true := by
    rw [bne_iff_ne]
    show ((92 : Nat) : Int) ≠ _
    omega
  have w2 : IntKind.i64.wrap 2 = 2 := by decide
  go_wp2_with fail
  refine wp_loop_rounds 1 ?_
  rw [rounds_succ]
  go_wp2_with fail
  go_step3
  go_wp2_with fail
  go_quiet (fail)
  go_wp2_with fail
  go_quiet ((go_at_call 162; exact quiet_add_same (ib_call _ h1b _ rfl _)))
  go_wp2_with fail
  simp only [Exit.noGoto, Exit.inBlock, Exit.then]
  go_ret
  exact ⟨rfl, ⟨_, rfl⟩⟩

theorem containsRune (c : UInt8) (w : World) :
    Calls Tryz.prog 96 #[.string ⟨#[34, 92, 110]⟩, .int .i32 c.toNat] w fun e w' => e = .returned (.bool (c == 34 || c == 92 || c == 110)) ∧ Drawn0 w w' := by
  by_cases h : c.toNat < 128
  · refine (Tryz.strings_ContainsRune_ascii ⟨#[34, 92, 110]⟩ c.toNat w (by omega) (by omega)).mono fun e w' hh => ⟨?_, drawn_same hh.2⟩
    rw [hh.1]
    have e : ((c.toNat : Int).toNat.toUInt8) = c := by simp
    rw [e]
    congr 2
    show decide (0 ≤ Lib.indexByte [34, 92, 110] c) = _
    simp only [Lib.indexByte]
    by_cases h1 : c = 34
    · subst h1; rfl
    · by_cases h2 : c = 92
      · subst h2; rfl
      · by_cases h3 : c = 110
        · subst h3; rfl
        · simp [h1, h2, h3, Ne.symm h1, Ne.symm h2, Ne.symm h3]
  · have hi := indexRune_hi c.toNat (by omega) (by have := c.toNat_lt; omega) w
    have e0 : (c == 34 || c == 92 || c == 110) = false := by
      rw [Bool.or_eq_false_iff, Bool.or_eq_false_iff]
      refine ⟨⟨?_, ?_⟩, ?_⟩ <;> (rw [beq_eq_false_iff_ne]; rintro rfl; exact h (by decide))
    rw [e0]
    clear e0
    have HI := Lib.hid hi
    clear hi
    go_enter Tryz.func96, Tryz.ntmps96
    go_wp2_with fail
    refine HI.out.mono ?_
    rintro e w' ⟨rfl, ⟨n, rfl⟩⟩
    go_wp2_with fail
    go_ret
    exact ⟨rfl, ⟨_, rfl⟩⟩
end Go.Proofs.YtmgcpjgpmjhemaaGreatDoor.Pc
