/-
Parts of the proof of CodeBack: ExtLine, Pc6, OnePure, ExtPrint. No condition of ours.
-/
import Derived.Test.YtmgcpjgpmjhemaaGreatDoorMCodeBack2
import Derived.Test.YtmgcpjgpmjhemaaGreatDoorMCodeBack3
import Derived.Test.YtmgcpjgpmjhemaaGreatDoorMCodeBack5
import Derived.WalkSpells
import Derived.Deep.RegionHeld3
import Derived.Test.YtmgcpjgpmjhemaaGreatDoorMCodeBack1
import Derived.Test.YtmgcpjgpmjhemaaGreatDoorMCodeBack4
/-
The contract of code.Line in the form that the printed walks take.
-/
namespace Go.Proofs.YtmgcpjgpmjhemaaGreatDoor.Pc
open Go.RowKit Go.Proofs.YtmgcpjgpmjhemaaGreatDoorW.PrintWords Go.Proofs.YtmgcpjgpmjhemaaGreatDoorW.PrintLast Go.Proofs.YtmgcpjgpmjhemaaGreatDoorW.PrintMore
open CodePure (esc Bs)
set_option linter.unusedVariables false

def code_Line.f (op n : Int) (s : ByteArray) : Option (ByteArray × Int) :=
  if wfI op ∧ wfI n ∧ s.size ≤ 70368744177664 then some (if mayB op n s.data.toList then (bs (lineL op n s.data.toList), 0) else (⟨#[]⟩, 1)) else none

/-- What the box of the parameter holds. -/
structure Box (w0 : World) (op n : Int) (s : ByteArray) (B : Nat) (w : World) : Prop where
  c0 : w.cell? ⟨B, 0, none⟩ = some (.int .i64 op)
  c1 : w.cell? ⟨B, 1, none⟩ = some (.int .i64 n)
  c2 : w.cell? ⟨B, 2, none⟩ = some (.string s)
  b : Below w0.heap.size w0 w
  lt : B < w.heap.size
theorem Box.keep {w0 w w' : World} {op n : Int} {s : ByteArray} {B : Nat} (h : Box w0 op n s B w) (hb : Below w.heap.size w w') : Box w0 op n s B w' :=
  ⟨cell_keep hb h.c0, cell_keep hb h.c1, cell_keep hb h.c2, h.b.trans (hb.mono h.b.size), Nat.lt_of_lt_of_le h.lt hb.size⟩

theorem Box.keepP {w0 w w' : World} {op n : Int} {s : ByteArray} {B p : Nat} (h : Box w0 op n s B w) (hB : B < p) (h0 : w0.heap.size ≤ p) (hb : Below p w w') : Box w0 op n s B w' :=
  ⟨(hb.cell hB).trans h.c0, (hb.cell hB).trans h.c1, (hb.cell hB).trans h.c2, h.b.trans (hb.mono h0), Nat.lt_of_lt_of_le h.lt hb.size⟩

set_option maxRecDepth 100000 in
set_option maxHeartbeats 4000000 in
theorem code_Line.calls (a0_0 : Int) (a0_1 : Int) (a0_2 : ByteArray) (r1 : ByteArray) (r2 : Int) (w : World) (hG : Gl w) (h : code_Line.f a0_0 a0_1 a0_2 = some (r1, r2)) :
    Calls Tryz.prog 13 #[.agg #[.int .i64 a0_0, .int .i64 a0_1, .string a0_2]] w fun e w' => e = .returned (.tuple #[.string r1, .int .i64 r2]) ∧ Below w.heap.size w w' := by
  unfold code_Line.f at h
  split at h
  · rename_i hc
    obtain ⟨h0, h1, h2⟩ := hc
    have HM : ∀ W, Calls Tryz.prog 17 #[.agg #[.int .i64 a0_0, .int .i64 a0_1, .string a0_2]] W fun e w' => e = .returned (.bool (mayB a0_0 a0_1 a0_2.data.toList)) ∧ Below W.heap.size W w' := fun W => code_May.calls a0_0 a0_1 a0_2 _ W (may_eq a0_0 a0_1 a0_2 h0)
    have HGL := Aside0.mk hG
    have HW0 := Aside0.mk h0
    have HW1 := Aside0.mk h1
    have HW2 := Aside0.mk h2
    clear hG h0 h1 h2
    have H := Aside0.mk (Option.some.inj h)
    clear h
    have hnot : ∀ (x : Bool) (w : World), (Op.unary .not (.bool x)).run Tryz.prog w = .ok (.bool (!x)) w := fun _ _ => rfl
    have bk0 : Box w a0_0 a0_1 a0_2 w.heap.size (w.alloc (.cells #[.int .i64 a0_0, .int .i64 a0_1, .string a0_2] 23)) :=
      ⟨by simp, by simp, by simp, (Below.refl _ _).alloc (Nat.le_refl _) _, by simp⟩
    have BK0 := Aside0.mk bk0
    clear bk0
    cases hm : mayB a0_0 a0_1 a0_2.data.toList with
    | false =>
      rw [hm] at HM H
      obtain ⟨rfl, rfl⟩ := Prod.mk.inj H.out
      have HMM := Aside0.mk HM
      clear HM hm H
      go_enter Tryz.func13, Tryz.ntmps13
      go_wp2_with (go_at_call 17; refine (HMM.out _).mono ?_; rintro e w1 ⟨rfl, hb1⟩; have BK1 := Aside0.mk (BK0.out.keep hb1); clear hb1)
      go_ret2
      exact ⟨rfl, BK1.out.b⟩
    | true =>
      rw [hm] at HM H
      obtain ⟨rfl, rfl⟩ := Prod.mk.inj H.out
      have HMM := Aside0.mk HM
      have hop : 0 ≤ a0_0 ∧ a0_0 ≤ 23 := by
        unfold mayB at hm
        simp only [Bool.and_eq_true, decide_eq_true_eq] at hm
        exact hm.1.1
      have HN : Aside0 (∀ W, Gl W → Calls Tryz.prog 19 #[.int .i64 a0_0] W fun e w' => e = .returned (.string (bs (nameL a0_0))) ∧ Below W.heap.size W w') := ⟨fun W hg => code_Name.calls a0_0 _ W hg (name_eq a0_0 hop.1 hop.2)⟩
      have HI : Aside0 (∀ W, Gl W → Calls Tryz.prog 44 #[.int .i64 a0_1] W fun e w' => e = .returned (.string (bs (Lib.itoa a0_1))) ∧ Below W.heap.size W w') := ⟨fun W hg => itoa_call a0_1 HW1.out.1 HW1.out.2 W hg⟩
      obtain ⟨nm, hnm⟩ : ∃ nm, bs (nameL a0_0) = nm := ⟨_, rfl⟩
      obtain ⟨it, hit⟩ : ∃ it, bs (Lib.itoa a0_1) = it := ⟨_, rfl⟩
      have HNM := Aside0.mk hnm
      have HIT := Aside0.mk hit
      have s1 : nm.size ≤ 6 := by
        rw [← hnm]
        have hk : ∀ k : Nat, k < 24 → (nameL k).length ≤ 6 := by decide +kernel
        have := hk a0_0.toNat (by omega)
        rw [show ((a0_0.toNat : Nat) : Int) = a0_0 by omega] at this
        exact this
      have s2 : it.size ≤ 21 := by rw [← hit]; exact Lib.itoa_length_le a0_1 HW1.out.1 HW1.out.2
      have n1 : (9223372036854775807 < nm.size + 1) = False := eq_false (by omega)
      have n2 : (9223372036854775807 < nm.size + 1 + it.size) = False := eq_false (by omega)
      rw [hnm] at HN
      rw [hit] at HI
      clear HM hm H hop hnm hit
      by_cases h02 : a0_0 = 0 ∨ a0_0 = 2
      · have hl : lineL a0_0 a0_1 a0_2.data.toList = nameL a0_0 ++ [32] ++ Lib.itoa a0_1 := if_pos h02
        rw [hl]
        by_cases e0 : a0_0 = 0
        · have t0 : (a0_0 == 0) = true := by simp [e0]
          clear h02 e0
          go_enter Tryz.func13, Tryz.ntmps13
          go_wp2_with (go_at_call 17; refine (HMM.out _).mono ?_; rintro e w1 ⟨rfl, hb1⟩; have BK1 := Aside0.mk (BK0.out.keep hb1); have k0 := BK1.out.c0; have k1 := BK1.out.c1; have k2 := BK1.out.c2; clear hb1)
          obtain ⟨B, hB⟩ : ∃ B, w.heap.size = B := ⟨_, rfl⟩
          have HBB := Aside0.mk hB
          rw [hB] at k0 k1 k2 BK1 ⊢
          clear hB
          go_region_held3 (fun w' => w'.cell? ⟨B, 0, none⟩ = some (.int .i64 a0_0) ∧ w'.cell? ⟨B, 1, none⟩ = some (.int .i64 a0_1))
            (first | exact ⟨k0, k1⟩ | exact ⟨q0, q1⟩ | exact ⟨v0, v1⟩)
            (first
              | (go_at_call 19; refine (HN.out _ (gl_below HGL.out BK1.out.b.drew)).mono ?_; rintro e w2 ⟨rfl, hb2⟩; have BK2 := Aside0.mk (BK1.out.keep ((Below.refl _ _).drew.trans hb2)); have q0 := BK2.out.c0; have q1 := BK2.out.c1; clear hb2)
              | (go_at_call 44; refine (HI.out _ (gl_below HGL.out BK2.out.b)).mono ?_; rintro e w3 ⟨rfl, hb3⟩; have BK3 := Aside0.mk (BK2.out.keep hb3); have v0 := BK3.out.c0; have v1 := BK3.out.c1; clear hb3))
          go_wp2_with fail
          go_ret2
          refine ⟨?_, HBB.out ▸ BK3.out.b⟩
          rw [← HNM.out, ← HIT.out]
          rw [bs_append, bs_append]
          rfl
        · have t0 : (a0_0 == 0) = false := by simp [e0]
          have t1 : (a0_0 == 2) = true := by
            rcases h02 with h | h
            · exact absurd h e0
            · simp [h]
          clear h02 e0
          go_enter Tryz.func13, Tryz.ntmps13
          go_wp2_with (go_at_call 17; refine (HMM.out _).mono ?_; rintro e w1 ⟨rfl, hb1⟩; have BK1 := Aside0.mk (BK0.out.keep hb1); have k0 := BK1.out.c0; have k1 := BK1.out.c1; have k2 := BK1.out.c2; clear hb1)
          obtain ⟨B, hB⟩ : ∃ B, w.heap.size = B := ⟨_, rfl⟩
          have HBB := Aside0.mk hB
          rw [hB] at k0 k1 k2 BK1 ⊢
          clear hB
          go_region_held3 (fun w' => w'.cell? ⟨B, 0, none⟩ = some (.int .i64 a0_0) ∧ w'.cell? ⟨B, 1, none⟩ = some (.int .i64 a0_1))
            (first | exact ⟨k0, k1⟩ | exact ⟨q0, q1⟩ | exact ⟨v0, v1⟩)
            (first
              | (go_at_call 19; refine (HN.out _ (gl_below HGL.out BK1.out.b.drew)).mono ?_; rintro e w2 ⟨rfl, hb2⟩; have BK2 := Aside0.mk (BK1.out.keep ((Below.refl _ _).drew.trans hb2)); have q0 := BK2.out.c0; have q1 := BK2.out.c1; clear hb2)
              | (go_at_call 44; refine (HI.out _ (gl_below HGL.out BK2.out.b)).mono ?_; rintro e w3 ⟨rfl, hb3⟩; have BK3 := Aside0.mk (BK2.out.keep hb3); have v0 := BK3.out.c0; have v1 := BK3.out.c1; clear hb3))
          go_wp2_with fail
          go_ret2
          refine ⟨?_, HBB.out ▸ BK3.out.b⟩
          rw [← HNM.out, ← HIT.out]
          rw [bs_append, bs_append]
          rfl
      · have t0 : (a0_0 == 0) = false := by simp; omega
        have t1 : (a0_0 == 2) = false := by simp; omega
        by_cases e1 : a0_0 = 1
        · have hl : lineL a0_0 a0_1 a0_2.data.toList = nameL a0_0 ++ [32, 34] ++ esc a0_2.data.toList ++ [34] := by
            unfold lineL
            rw [if_neg h02, if_pos e1, e1]
          rw [hl]
          have t2 : (a0_0 == 1) = true := by simp [e1]
          have HES := Aside0.mk (CodePure.esc_length a0_2.data.toList)
          clear h02 e1
          go_enter Tryz.func13, Tryz.ntmps13
          go_wp2_with (go_at_call 17; refine (HMM.out _).mono ?_; rintro e w1 ⟨rfl, hb1⟩; have BK1 := Aside0.mk (BK0.out.keep hb1); have k0 := BK1.out.c0; have k1 := BK1.out.c1; have k2 := BK1.out.c2; clear hb1)
          obtain ⟨B, hB⟩ : ∃ B, w.heap.size = B := ⟨_, rfl⟩
          have HBB := Aside0.mk hB
          rw [hB] at k0 k1 k2 BK1 ⊢
          clear hB
          obtain ⟨es, hes⟩ : ∃ es, (⟨(esc a0_2.data.toList).toArray⟩ : ByteArray) = es := ⟨_, rfl⟩
          have HEE := Aside0.mk hes
          have s3 : es.size ≤ 140737488355328 := by
            rw [← hes]
            have h1 := HES.out
            have h2 := HW2.out
            show (esc a0_2.data.toList).length ≤ _
            have h3 : (a0_2.data.toList).length = a0_2.size := by simp
            omega
          have n3 : (9223372036854775807 < nm.size + 2) = False := eq_false (by omega)
          have n4 : (9223372036854775807 < nm.size + 2 + es.size) = False := eq_false (by omega)
          have n5 : (9223372036854775807 < nm.size + 2 + es.size + 1) = False := eq_false (by omega)
          clear hes
          go_region_held3 (fun w' => w'.cell? ⟨B, 2, none⟩ = some (.string a0_2))
            (first | exact k2 | exact q2 | exact v2 | (rw [World.cell?_drew, World.cell?_alloc_past _ _ _ BK1.out.lt]; exact k2))
            (first
              | (go_at_call 45; refine (newReplacer w1.heap.size _ ⟨by simp, by simp, by simp, by simp, by simp, by simp⟩).mono ?_; rintro e w2 ⟨p, ob, rfl, hrep, hpge, hb2⟩; have HRP := Aside0.mk hrep; have HPG : Aside0 (w1.heap.size ≤ p) := ⟨by simp at hpge; omega⟩; have BK2 := Aside0.mk (BK1.out.keep ((((Below.refl w1.heap.size w1).alloc (Nat.le_refl _) _).drew.trans (hb2.mono (by simp))))); have q2 := BK2.out.c2; clear hrep hpge hb2)
              | (go_at_call 46; refine (repl_Replace p ob a0_2 _ HRP.out HW2.out).mono ?_; rw [HEE.out]; rintro e w3 ⟨rfl, hb3⟩; have BK3 := Aside0.mk (BK2.out.keepP (Nat.lt_of_lt_of_le BK1.out.lt HPG.out) (Nat.le_trans BK1.out.b.size HPG.out) hb3); have v0 := BK3.out.c0; have v2 := BK3.out.c2; clear hb3))
          go_wp2_with (go_at_call 19; refine (HN.out _ (gl_below HGL.out BK3.out.b)).mono ?_; rintro e w4 ⟨rfl, hb4⟩; have BK4 := Aside0.mk (BK3.out.keep hb4); clear hb4)
          go_ret2
          refine ⟨?_, HBB.out ▸ BK4.out.b⟩
          rw [← HNM.out, ← HEE.out]
          rw [bs_append, bs_append, bs_append]
          rfl
        · have hl : lineL a0_0 a0_1 a0_2.data.toList = nameL a0_0 := by
            unfold lineL
            rw [if_neg h02, if_neg e1]
          rw [hl]
          have t2 : (a0_0 == 1) = false := by simp [e1]
          clear h02 e1
          go_enter Tryz.func13, Tryz.ntmps13
          go_wp2_with (first
            | (go_at_call 17; refine (HMM.out _).mono ?_; rintro e w1 ⟨rfl, hb1⟩; have BK1 := Aside0.mk (BK0.out.keep hb1); have k0 := BK1.out.c0; have k1 := BK1.out.c1; have k2 := BK1.out.c2; clear hb1)
            | (go_at_call 19; refine (HN.out _ (gl_below HGL.out BK1.out.b)).mono ?_; rintro e w2 ⟨rfl, hb2⟩; have BK2 := Aside0.mk (BK1.out.keep hb2); clear hb2))
          go_ret2
          refine ⟨?_, BK2.out.b⟩
          rw [← HNM.out]
          rfl
  · cases h
end Go.Proofs.YtmgcpjgpmjhemaaGreatDoor.Pc

namespace Go.Proofs.YtmgcpjgpmjhemaaGreatDoor.Pc
open Go.RowKit Go.Proofs.YtmgcpjgpmjhemaaGreatDoorW.PrintWords Go.Proofs.YtmgcpjgpmjhemaaGreatDoorW.PrintLast Go.Proofs.YtmgcpjgpmjhemaaGreatDoorW.PrintMore
attribute [local go_sem] max2_int min2_int max_two min_two max_three min_three max_four min_four   -- for this text's walks alone
set_option linter.unusedVariables false
set_option linter.unusedSimpArgs false

attribute [local go_sem high] eqA23
/-! ### threshinglaw14_CodeOne: function 4 -/
def threshinglaw14_CodeOne.l0 : Nat → ByteArray → Int → Int → Int → Int → ByteArray → Option (Bool)
  | 0, _, _, _, _, _, _ => none
  | k + 1, x3, x4, x5, x156000, x156001, x156002 => if x5 < (x3.size : Int) then (if 0 ≤ x5 then (if (bt x3 x5) = 10 then (some false) else (threshinglaw14_CodeOne.l0 k x3 x4 (wrap64 (x5 + 1)) x156000 x156001 x156002)) else (none)) else ((code_Parse.f k x3).bind fun bt160 => ((threshinglaw14_alive.f k).bind fun t165 => (if t165 = true then (if x4 = 0 then (if bt160.2.2.2 = 0 then (some (bt160.1 == x156000 && (bt160.2.1 == x156001 && (bt160.2.2.1.toList == x156002.toList)))) else (some false)) else (some true)) else (some false))))
def threshinglaw14_CodeOne.f (k : Nat) (a0_0 : Int) (a0_1 : Int) (a0_2 : ByteArray) : Option (Bool) := if (a0_2.size : Int) > 1200 then ((threshinglaw14_alive.f k).bind fun t156 => (some t156)) else ((code_Line.f a0_0 a0_1 a0_2).bind fun bt157 => ((code_May.f a0_0 a0_1 a0_2).bind fun t159 => (if ((bt157.2 == 0) != t159) = true then (some false) else (threshinglaw14_CodeOne.l0 k bt157.1 bt157.2 0 a0_0 a0_1 a0_2))))
theorem threshinglaw14_CodeOne.mono_l : ∀ k, (∀ y0 y1 y2 y3 y4 y5, LeO (threshinglaw14_CodeOne.l0 k y0 y1 y2 y3 y4 y5) (threshinglaw14_CodeOne.l0 (k + 1) y0 y1 y2 y3 y4 y5))
  | 0 => fun _ _ _ _ _ _ r h => by simp [threshinglaw14_CodeOne.l0] at h
  | k + 1 => by
    have ih0 := threshinglaw14_CodeOne.mono_l k
    · intro y0 y1 y2 y3 y4 y5
      unfold threshinglaw14_CodeOne.l0
      repeat' first
      | (with_reducible exact ih0 _ _ _ _ _ _)
      | (with_reducible exact code_Parse.mono _ _)
      | (with_reducible exact threshinglaw14_alive.mono _)
      | (with_reducible exact LeO.refl _)
      | (with_reducible exact LeO.none _)
      | (with_reducible refine LeO.ite ?_ ?_)
      | (with_reducible refine LeO.bind ?_ (fun _ => ?_))
      | exact ih0 _ _ _ _ _ _
      | exact code_Parse.mono _ _
      | exact threshinglaw14_alive.mono _
      | exact LeO.none _
      | refine LeO.ite ?_ ?_
      | refine LeO.bind ?_ (fun _ => ?_)
theorem threshinglaw14_CodeOne.mono : ∀ a0 a1 a2 k, LeO (threshinglaw14_CodeOne.f k a0 a1 a2) (threshinglaw14_CodeOne.f (k + 1) a0 a1 a2) := by
  intro a0 a1 a2 k
  have ih0 := threshinglaw14_CodeOne.mono_l k
  unfold threshinglaw14_CodeOne.f
  repeat' first
      | (with_reducible exact ih0 _ _ _ _ _ _)
      | (with_reducible exact code_Parse.mono _ _)
      | (with_reducible exact threshinglaw14_alive.mono _)
      | (with_reducible exact LeO.refl _)
      | (with_reducible exact LeO.none _)
      | (with_reducible refine LeO.ite ?_ ?_)
      | (with_reducible refine LeO.bind ?_ (fun _ => ?_))
      | exact ih0 _ _ _ _ _ _
      | exact code_Parse.mono _ _
      | exact threshinglaw14_alive.mono _
      | exact LeO.none _
      | refine LeO.ite ?_ ?_
      | refine LeO.bind ?_ (fun _ => ?_)
set_option maxHeartbeats 8000000 in
set_option maxRecDepth 100000 in
theorem threshinglaw14_CodeOne.calls (k : Nat) (a0_0 : Int) (a0_1 : Int) (a0_2 : ByteArray) (r : Bool) (w : World) (hG : Gl w) (h : threshinglaw14_CodeOne.f k a0_0 a0_1 a0_2 = some r) :
    Calls Tryz.prog 4 #[.agg #[.int .i64 a0_0, .int .i64 a0_1, .string a0_2]] w fun e w' => e = .returned (.bool r) ∧ Below w.heap.size w w' := by
  have hu23 := Tryz.underlying23
  have HB := Aside0.mk (Below.refl w.heap.size w)
  have HGL := Aside0.mk hG
  clear hG
  have H : (if (a0_2.size : Int) > 1200 then ((threshinglaw14_alive.f k).bind fun t156 => (some t156)) else ((code_Line.f a0_0 a0_1 a0_2).bind fun bt157 => ((code_May.f a0_0 a0_1 a0_2).bind fun t159 => (if ((bt157.2 == 0) != t159) = true then (some false) else (threshinglaw14_CodeOne.l0 k bt157.1 bt157.2 0 a0_0 a0_1 a0_2))))) = some r := h
  clear h
  by_cases c2 : (a0_2.size : Int) > 1200
  · rw [if_pos c2] at H
    have c2b0 : decide (1200 < (a0_2.size : Int)) = true := decide_eq_true c2
    have c2b1 : decide (1200 < a0_2.size) = true := decide_eq_true (by omega)
    clear c2
    replace H := Option.bind_eq_some_iff.mp H
    obtain ⟨t156, A30, H⟩ := H
    replace H : (some t156) = some r := H
    have A3 := Aside0.mk A30
    clear A30
    obtain rfl := Option.some.inj H
    go_enter Tryz.func4, Tryz.ntmps4
    go_wp2_with (first | ((with_reducible refine gate_dst (N := 1) rfl ?_); refine box_event ?hg (N := 1) ?hd (cs := #[.int .i64 a0_0, .int .i64 a0_1, .string a0_2]) (t := 23) ?hr ?_; (case hd => rfl); (case hg => rfl); (case hr => first | (go_simp; done) | (go_simp; rfl)); intro gb155 hg w4 hbox hb; have n0_ := Aside0.mk (below_step (by repeat (first | (with_reducible first | exact HB.out | apply below_alloc | apply pw_below_drewN | apply below_drew1) | exact HB.out)) hb); have n1_ := Aside0.mk (hbox); have n2_ := Aside0.mk ((by rw [hg]; exact (below_size (by repeat (first | (with_reducible first | exact HB.out | apply below_alloc | apply pw_below_drewN | apply below_drew1) | exact HB.out))) : w.heap.size ≤ gb155)); have n3_ := Aside0.mk ((by rw [hg]; exact (below_size (by repeat (first | (with_reducible first | exact HB.out | apply below_alloc | apply pw_below_drewN | apply below_drew1) | exact HB.out))) : w.heap.size ≤ gb155)); clear HB; have HB := n0_; have BK155 := n1_; have GW155 := n2_; have GE155 := n3_; clear n0_ n1_ n2_ n3_; clear hb hbox hg; have hcz5_0 : w4.cell? ⟨gb155, 0, none⟩ = some (.int .i64 a0_0) := (blk_cell BK155.out 0).trans rfl; have hcz5_1 : w4.cell? ⟨gb155, 1, none⟩ = some (.int .i64 a0_1) := (blk_cell BK155.out 1).trans rfl; have hcz5_2 : w4.cell? ⟨gb155, 2, none⟩ = some (.string a0_2) := (blk_cell BK155.out 2).trans rfl; have hfz5_0 := blk_frozen BK155.out 0; have hfz5_1 := blk_frozen BK155.out 1; have hfz5_2 := blk_frozen BK155.out 2) | ((with_reducible refine gate_callee (f := 12) rfl ?_); refine goesL_ (some 12) rfl rfl Tryz.func12 (by kernel_rfl) rfl #[] rfl (by (try simp only [List.map_toArray, List.map_cons, List.map_nil]); first | done | rfl | (simp only [List.length_drop, List.length_take]; rfl)) ?_; (with_reducible refine (threshinglaw14_alive.calls k  t156 _ ?side1 A3.out).mono ?_); (case side1 => refine gl_below HGL.out ?_; repeat (first | (with_reducible first | exact HB.out | apply below_alloc | apply pw_below_drewN | apply below_drew1 | refine below_set ?_ GE155.out) | exact HB.out)); rintro e w6 ⟨rfl, hb⟩; refine ⟨_, rfl, ?_⟩; have n0_ := Aside0.mk (blk_below (g := gb155) (o := .cells #[.int .i64 a0_0, .int .i64 a0_1, .string a0_2] 23 (0, 0)) (by (with_reducible repeat (first | refine blk_drewN ?_ _ | refine blk_drew ?_ | refine blk_alloc ?_ _)); exact BK155.out) hb); have n1_ := Aside0.mk (below_step (by repeat (first | (with_reducible first | exact HB.out | apply below_alloc | apply pw_below_drewN | apply below_drew1 | refine below_set ?_ GE155.out) | exact HB.out)) hb); clear BK155; clear HB; have BK155 := n0_; have HB := n1_; clear n0_ n1_; (try clear hb); (try clear hb2); (try clear hk); (try clear hi)))
    go_ret
    exact ⟨by first | rfl | (simp [errW_none, errW_some] <;> rfl) | (simp [*, errW_none, errW_some] <;> rfl), by repeat (first | (with_reducible first | exact HB.out | apply below_alloc | apply pw_below_drewN | apply below_drew1 | refine below_set ?_ GE155.out) | exact HB.out)⟩
  · rw [if_neg c2] at H
    have c2b0 : decide (1200 < (a0_2.size : Int)) = false := decide_eq_false c2
    have c2b1 : decide (1200 < a0_2.size) = false := decide_eq_false (by omega)
    clear c2
    replace H := Option.bind_eq_some_iff.mp H
    obtain ⟨⟨t157, t158⟩, A70, H⟩ := H
    replace H : ((code_May.f a0_0 a0_1 a0_2).bind fun t159 => (if ((t158 == 0) != t159) = true then (some false) else (threshinglaw14_CodeOne.l0 k t157 t158 0 a0_0 a0_1 a0_2))) = some r := H
    have A7 := Aside0.mk A70
    clear A70
    replace H := Option.bind_eq_some_iff.mp H
    obtain ⟨t159, A80, H⟩ := H
    replace H : (if ((t158 == 0) != t159) = true then (some false) else (threshinglaw14_CodeOne.l0 k t157 t158 0 a0_0 a0_1 a0_2)) = some r := H
    have A8 := Aside0.mk A80
    clear A80
    by_cases c9 : ((t158 == 0) != t159) = true
    · rw [if_pos c9] at H
      have c9b0 : ((t158 == 0) != t159) = true := c9
      (try (have c9b1 : decide ((t158 == 0) = t159) = false := by simpa using c9))
      (try (have c9b2 : ((t158 == 0) == t159) = false := by simpa using c9))
      (try (have c9b3 : ¬ ((t158 == 0) = t159) := by simpa using c9))
      clear c9
      obtain rfl := Option.some.inj H
      go_enter Tryz.func4, Tryz.ntmps4
      go_wp2_with (first | ((with_reducible refine gate_dst (N := 1) rfl ?_); refine box_event ?hg (N := 1) ?hd (cs := #[.int .i64 a0_0, .int .i64 a0_1, .string a0_2]) (t := 23) ?hr ?_; (case hd => rfl); (case hg => rfl); (case hr => first | (go_simp; done) | (go_simp; rfl)); intro gb155 hg w10 hbox hb; have n0_ := Aside0.mk (below_step (by repeat (first | (with_reducible first | exact HB.out | apply below_alloc | apply pw_below_drewN | apply below_drew1) | exact HB.out)) hb); have n1_ := Aside0.mk (hbox); have n2_ := Aside0.mk ((by rw [hg]; exact (below_size (by repeat (first | (with_reducible first | exact HB.out | apply below_alloc | apply pw_below_drewN | apply below_drew1) | exact HB.out))) : w.heap.size ≤ gb155)); have n3_ := Aside0.mk ((by rw [hg]; exact (below_size (by repeat (first | (with_reducible first | exact HB.out | apply below_alloc | apply pw_below_drewN | apply below_drew1) | exact HB.out))) : w.heap.size ≤ gb155)); clear HB; have HB := n0_; have BK155 := n1_; have GW155 := n2_; have GE155 := n3_; clear n0_ n1_ n2_ n3_; clear hb hbox hg; have hcz11_0 : w10.cell? ⟨gb155, 0, none⟩ = some (.int .i64 a0_0) := (blk_cell BK155.out 0).trans rfl; have hcz11_1 : w10.cell? ⟨gb155, 1, none⟩ = some (.int .i64 a0_1) := (blk_cell BK155.out 1).trans rfl; have hcz11_2 : w10.cell? ⟨gb155, 2, none⟩ = some (.string a0_2) := (blk_cell BK155.out 2).trans rfl; have hfz11_0 := blk_frozen BK155.out 0; have hfz11_1 := blk_frozen BK155.out 1; have hfz11_2 := blk_frozen BK155.out 2) | ((with_reducible refine gate_callee (f := 13) rfl ?_); refine goesL_ (some 15) rfl rfl Tryz.func13 (by kernel_rfl) rfl #[.agg #[.int .i64 a0_0, .int .i64 a0_1, .string a0_2]] rfl (by (try simp only [List.map_toArray, List.map_cons, List.map_nil]); first | done | rfl | (simp only [List.length_drop, List.length_take]; rfl)) ?_; (with_reducible refine (code_Line.calls a0_0 a0_1 a0_2 t157 t158 _ ?side1 A7.out).mono ?_); (case side1 => refine gl_below HGL.out ?_; repeat (first | (with_reducible first | exact HB.out | apply below_alloc | apply pw_below_drewN | apply below_drew1 | refine below_set ?_ GE155.out) | exact HB.out)); rintro e w12 ⟨rfl, hb⟩; refine ⟨_, rfl, ?_⟩; have n0_ := Aside0.mk (blk_below (g := gb155) (o := .cells #[.int .i64 a0_0, .int .i64 a0_1, .string a0_2] 23 (0, 0)) (by (with_reducible repeat (first | refine blk_drewN ?_ _ | refine blk_drew ?_ | refine blk_alloc ?_ _)); exact BK155.out) hb); have n1_ := Aside0.mk (below_step (by repeat (first | (with_reducible first | exact HB.out | apply below_alloc | apply pw_below_drewN | apply below_drew1 | refine below_set ?_ GE155.out) | exact HB.out)) hb); clear BK155; clear HB; have BK155 := n0_; have HB := n1_; clear n0_ n1_; (try clear hb); (try clear hb2); (try clear hk); (try clear hi); have hcz13_0 : w12.cell? ⟨gb155, 0, none⟩ = some (.int .i64 a0_0) := (blk_cell BK155.out 0).trans rfl; have hcz13_1 : w12.cell? ⟨gb155, 1, none⟩ = some (.int .i64 a0_1) := (blk_cell BK155.out 1).trans rfl; have hcz13_2 : w12.cell? ⟨gb155, 2, none⟩ = some (.string a0_2) := (blk_cell BK155.out 2).trans rfl; have hfz13_0 := blk_frozen BK155.out 0; have hfz13_1 := blk_frozen BK155.out 1; have hfz13_2 := blk_frozen BK155.out 2) | ((with_reducible refine gate_callee (f := 17) rfl ?_); refine goesL_ (some 21) rfl rfl Tryz.func17 (by kernel_rfl) rfl #[.agg #[.int .i64 a0_0, .int .i64 a0_1, .string a0_2]] rfl (by (try simp only [List.map_toArray, List.map_cons, List.map_nil]); first | done | rfl | (simp only [List.length_drop, List.length_take]; rfl)) ?_; (with_reducible refine (code_May.calls a0_0 a0_1 a0_2 t159 _ A8.out).mono ?_); rintro e w14 ⟨rfl, hb⟩; refine ⟨_, rfl, ?_⟩; have n0_ := Aside0.mk (blk_below (g := gb155) (o := .cells #[.int .i64 a0_0, .int .i64 a0_1, .string a0_2] 23 (0, 0)) (by (with_reducible repeat (first | refine blk_drewN ?_ _ | refine blk_drew ?_ | refine blk_alloc ?_ _)); exact BK155.out) hb); have n1_ := Aside0.mk (below_step (by repeat (first | (with_reducible first | exact HB.out | apply below_alloc | apply pw_below_drewN | apply below_drew1 | refine below_set ?_ GE155.out) | exact HB.out)) hb); clear BK155; clear HB; have BK155 := n0_; have HB := n1_; clear n0_ n1_; (try clear hb); (try clear hb2); (try clear hk); (try clear hi)))
      go_ret
      exact ⟨by first | rfl | (simp [errW_none, errW_some] <;> rfl) | (simp [*, errW_none, errW_some] <;> rfl), by repeat (first | (with_reducible first | exact HB.out | apply below_alloc | apply pw_below_drewN | apply below_drew1 | refine below_set ?_ GE155.out) | exact HB.out)⟩
    · rw [if_neg c9] at H
      have c9b0 : ((t158 == 0) != t159) = false := by simpa using c9
      (try (have c9b1 : decide ((t158 == 0) = t159) = true := by simpa using c9))
      (try (have c9b2 : ((t158 == 0) == t159) = true := by simpa using c9))
      clear c9
      have H' := Aside0.mk H
      clear H
      go_enter Tryz.func4, Tryz.ntmps4
      go_wp2_with (first | ((with_reducible refine gate_dst (N := 1) rfl ?_); refine box_event ?hg (N := 1) ?hd (cs := #[.int .i64 a0_0, .int .i64 a0_1, .string a0_2]) (t := 23) ?hr ?_; (case hd => rfl); (case hg => rfl); (case hr => first | (go_simp; done) | (go_simp; rfl)); intro gb155 hg w15 hbox hb; have n0_ := Aside0.mk (below_step (by repeat (first | (with_reducible first | exact HB.out | apply below_alloc | apply pw_below_drewN | apply below_drew1) | exact HB.out)) hb); have n1_ := Aside0.mk (hbox); have n2_ := Aside0.mk ((by rw [hg]; exact (below_size (by repeat (first | (with_reducible first | exact HB.out | apply below_alloc | apply pw_below_drewN | apply below_drew1) | exact HB.out))) : w.heap.size ≤ gb155)); have n3_ := Aside0.mk ((by rw [hg]; exact (below_size (by repeat (first | (with_reducible first | exact HB.out | apply below_alloc | apply pw_below_drewN | apply below_drew1) | exact HB.out))) : w.heap.size ≤ gb155)); clear HB; have HB := n0_; have BK155 := n1_; have GW155 := n2_; have GE155 := n3_; clear n0_ n1_ n2_ n3_; clear hb hbox hg; have hcz16_0 : w15.cell? ⟨gb155, 0, none⟩ = some (.int .i64 a0_0) := (blk_cell BK155.out 0).trans rfl; have hcz16_1 : w15.cell? ⟨gb155, 1, none⟩ = some (.int .i64 a0_1) := (blk_cell BK155.out 1).trans rfl; have hcz16_2 : w15.cell? ⟨gb155, 2, none⟩ = some (.string a0_2) := (blk_cell BK155.out 2).trans rfl; have hfz16_0 := blk_frozen BK155.out 0; have hfz16_1 := blk_frozen BK155.out 1; have hfz16_2 := blk_frozen BK155.out 2) | ((with_reducible refine gate_callee (f := 13) rfl ?_); refine goesL_ (some 15) rfl rfl Tryz.func13 (by kernel_rfl) rfl #[.agg #[.int .i64 a0_0, .int .i64 a0_1, .string a0_2]] rfl (by (try simp only [List.map_toArray, List.map_cons, List.map_nil]); first | done | rfl | (simp only [List.length_drop, List.length_take]; rfl)) ?_; (with_reducible refine (code_Line.calls a0_0 a0_1 a0_2 t157 t158 _ ?side1 A7.out).mono ?_); (case side1 => refine gl_below HGL.out ?_; repeat (first | (with_reducible first | exact HB.out | apply below_alloc | apply pw_below_drewN | apply below_drew1 | refine below_set ?_ GE155.out) | exact HB.out)); rintro e w17 ⟨rfl, hb⟩; refine ⟨_, rfl, ?_⟩; have n0_ := Aside0.mk (blk_below (g := gb155) (o := .cells #[.int .i64 a0_0, .int .i64 a0_1, .string a0_2] 23 (0, 0)) (by (with_reducible repeat (first | refine blk_drewN ?_ _ | refine blk_drew ?_ | refine blk_alloc ?_ _)); exact BK155.out) hb); have n1_ := Aside0.mk (below_step (by repeat (first | (with_reducible first | exact HB.out | apply below_alloc | apply pw_below_drewN | apply below_drew1 | refine below_set ?_ GE155.out) | exact HB.out)) hb); clear BK155; clear HB; have BK155 := n0_; have HB := n1_; clear n0_ n1_; (try clear hb); (try clear hb2); (try clear hk); (try clear hi); have hcz18_0 : w17.cell? ⟨gb155, 0, none⟩ = some (.int .i64 a0_0) := (blk_cell BK155.out 0).trans rfl; have hcz18_1 : w17.cell? ⟨gb155, 1, none⟩ = some (.int .i64 a0_1) := (blk_cell BK155.out 1).trans rfl; have hcz18_2 : w17.cell? ⟨gb155, 2, none⟩ = some (.string a0_2) := (blk_cell BK155.out 2).trans rfl; have hfz18_0 := blk_frozen BK155.out 0; have hfz18_1 := blk_frozen BK155.out 1; have hfz18_2 := blk_frozen BK155.out 2) | ((with_reducible refine gate_callee (f := 17) rfl ?_); refine goesL_ (some 21) rfl rfl Tryz.func17 (by kernel_rfl) rfl #[.agg #[.int .i64 a0_0, .int .i64 a0_1, .string a0_2]] rfl (by (try simp only [List.map_toArray, List.map_cons, List.map_nil]); first | done | rfl | (simp only [List.length_drop, List.length_take]; rfl)) ?_; (with_reducible refine (code_May.calls a0_0 a0_1 a0_2 t159 _ A8.out).mono ?_); rintro e w19 ⟨rfl, hb⟩; refine ⟨_, rfl, ?_⟩; have n0_ := Aside0.mk (blk_below (g := gb155) (o := .cells #[.int .i64 a0_0, .int .i64 a0_1, .string a0_2] 23 (0, 0)) (by (with_reducible repeat (first | refine blk_drewN ?_ _ | refine blk_drew ?_ | refine blk_alloc ?_ _)); exact BK155.out) hb); have n1_ := Aside0.mk (below_step (by repeat (first | (with_reducible first | exact HB.out | apply below_alloc | apply pw_below_drewN | apply below_drew1 | refine below_set ?_ GE155.out) | exact HB.out)) hb); clear BK155; clear HB; have BK155 := n0_; have HB := n1_; clear n0_ n1_; (try clear hb); (try clear hb2); (try clear hk); (try clear hi)))
      go_loopg [5] k (fun kq v5 w' => ∃ (x5_1 : Int), v5 = .int .i64 x5_1 ∧ Aside0 (threshinglaw14_CodeOne.l0 kq t157 t158 x5_1 a0_0 a0_1 a0_2 = some r) ∧ Aside0 (kq ≤ k) ∧ Aside0 (w'.heap[gb155]? = some (.cells #[.int .i64 a0_0, .int .i64 a0_1, .string a0_2] 23 (0, 0))) ∧ Aside0 (Below w.heap.size w w'))
      case atStart => exact ⟨(0), (by first | rfl | (simp; done) | (simp [*]; done)), H', ⟨Nat.le_refl _⟩, ⟨by (with_reducible repeat (first | refine blk_drewN ?_ _ | refine blk_drew ?_ | refine blk_alloc ?_ _)); exact BK155.out⟩, ⟨by repeat (first | (with_reducible first | exact HB.out | apply below_alloc | apply pw_below_drewN | apply below_drew1 | refine below_set ?_ GE155.out) | exact HB.out)⟩⟩
      case round =>
        clear H'
        try clear c1
        try clear c2
        try clear c2b0
        try clear c2b1
        try clear p2
        try clear c4
        try clear c9
        try clear c9b0
        try clear c9b1
        try clear c9b2
        try clear c12
        try clear c13
        try clear c17
        try clear hcz11_0
        try clear hcz11_1
        try clear hcz11_2
        try clear hcz13_0
        try clear hcz13_1
        try clear hcz13_2
        try clear hcz16_0
        try clear hcz16_1
        try clear hcz16_2
        try clear hcz18_0
        try clear hcz18_1
        try clear hcz18_2
        try clear hcz5_0
        try clear hcz5_1
        try clear hcz5_2
        try clear hfz11_0
        try clear hfz11_1
        try clear hfz11_2
        try clear hfz13_0
        try clear hfz13_1
        try clear hfz13_2
        try clear hfz16_0
        try clear hfz16_1
        try clear hfz16_2
        try clear hfz18_0
        try clear hfz18_1
        try clear hfz18_2
        try clear hfz5_0
        try clear hfz5_1
        try clear hfz5_2
        obtain ⟨x5_1, rfl, HA, HK1, BK155, HB⟩ := hrel
        cases gk with
        | zero => exact absurd HA.out (by simp [threshinglaw14_CodeOne.l0])
        | succ k1 =>
          have H := HA.out
          clear HA
          simp only [threshinglaw14_CodeOne.l0] at H
          by_cases c20 : x5_1 < (t157.size : Int)
          · rw [if_pos c20] at H
            have c20b0 : decide (x5_1 < (t157.size : Int)) = true := decide_eq_true c20
            clear c20
            by_cases c21 : 0 ≤ x5_1
            · rw [if_pos c21] at H
              have c21b0 : decide (0 ≤ x5_1) = true := decide_eq_true c21
              clear c21
              by_cases c23 : (bt t157 x5_1) = 10
              · rw [if_pos c23] at H
                have c23b0 : ((bt t157 x5_1) == 10) = true := beq_iff_eq.mpr c23
                have c23b1 : ((bt t157 x5_1) != 10) = false := bne_eq_false_iff_eq.mpr c23
                clear c23
                obtain rfl := Option.some.inj H
                have p22 : 0 ≤ (x5_1 : Int) := of_decide_eq_true (by first | (with_reducible assumption) | assumption)
                have q22 : x5_1 < (t157.size : Int) := of_decide_eq_true (by first | (with_reducible assumption) | assumption)
                have hx22 := bt_at t157 x5_1
                replace p22 := eq_true p22
                replace q22 := eq_true q22
                go_wp2
                go_ret
                exact ⟨by first | rfl | (simp [errW_none, errW_some] <;> rfl) | (simp [*, errW_none, errW_some] <;> rfl), by repeat (first | (with_reducible first | exact HB.out | apply below_alloc | apply pw_below_drewN | apply below_drew1 | refine below_set ?_ GE155.out) | exact HB.out)⟩
              · rw [if_neg c23] at H
                have c23b0 : ((bt t157 x5_1) == 10) = false := beq_eq_false_iff_ne.mpr c23
                have c23b1 : ((bt t157 x5_1) != 10) = true := bne_iff_ne.mpr c23
                have H' := Aside0.mk H
                clear H
                have p22 : 0 ≤ (x5_1 : Int) := of_decide_eq_true (by first | (with_reducible assumption) | assumption)
                have q22 : x5_1 < (t157.size : Int) := of_decide_eq_true (by first | (with_reducible assumption) | assumption)
                have hx22 := bt_at t157 x5_1
                replace p22 := eq_true p22
                replace q22 := eq_true q22
                go_wp2
                go_roundg k1
                case measure => have := HK1.out; omega
                case rel => exact ⟨(wrap64 (x5_1 + 1)), (by first | rfl | (simp; done) | (simp [*]; done)), H', ⟨by have := HK1.out; omega⟩, ⟨by (with_reducible repeat (first | refine blk_drewN ?_ _ | refine blk_drew ?_ | refine blk_alloc ?_ _)); exact BK155.out⟩, ⟨by repeat (first | (with_reducible first | exact HB.out | apply below_alloc | apply pw_below_drewN | apply below_drew1 | refine below_set ?_ GE155.out) | exact HB.out)⟩⟩
            · rw [if_neg c21] at H
              exact absurd H (by simp)
          · rw [if_neg c20] at H
            have c20b0 : decide (x5_1 < (t157.size : Int)) = false := decide_eq_false c20
            clear c20
            replace H := Option.bind_eq_some_iff.mp H
            obtain ⟨⟨t160, t161, t162, t163⟩, A240, H⟩ := H
            replace H : ((threshinglaw14_alive.f k1).bind fun t165 => (if t165 = true then (if t158 = 0 then (if t163 = 0 then (some (t160 == a0_0 && (t161 == a0_1 && (t162.toList == a0_2.toList)))) else (some false)) else (some true)) else (some false))) = some r := H
            have A24 := Aside0.mk A240
            clear A240
            replace H := Option.bind_eq_some_iff.mp H
            obtain ⟨t165, A250, H⟩ := H
            replace H : (if t165 = true then (if t158 = 0 then (if t163 = 0 then (some (t160 == a0_0 && (t161 == a0_1 && (t162.toList == a0_2.toList)))) else (some false)) else (some true)) else (some false)) = some r := H
            have A25 := Aside0.mk A250
            clear A250
            by_cases c26 : t165 = true
            · subst c26
              have H1 : (if t158 = 0 then (if t163 = 0 then (some (t160 == a0_0 && (t161 == a0_1 && (t162.toList == a0_2.toList)))) else (some false)) else (some true)) = some r := by rw [if_pos rfl] at H; exact H
              clear H
              have H := H1
              clear H1
              by_cases c27 : t158 = 0
              · rw [if_pos c27] at H
                have c27b0 : (t158 == 0) = true := beq_iff_eq.mpr c27
                have c27b1 : (t158 != 0) = false := bne_eq_false_iff_eq.mpr c27
                clear c27
                by_cases c28 : t163 = 0
                · rw [if_pos c28] at H
                  have c28b0 : (t163 == 0) = true := beq_iff_eq.mpr c28
                  have c28b1 : (t163 != 0) = false := bne_eq_false_iff_eq.mpr c28
                  clear c28
                  obtain rfl := Option.some.inj H
                  go_wp2_with (first | ((with_reducible refine gate_callee (f := 15) rfl ?_); refine goesL_ (some 35) rfl rfl Tryz.func15 (by kernel_rfl) rfl #[.string t157] rfl (by (try simp only [List.map_toArray, List.map_cons, List.map_nil]); first | done | rfl | (simp only [List.length_drop, List.length_take]; rfl)) ?_; (with_reducible refine (code_Parse.calls k1 t157 t160 t161 t162 t163 _ ?side1 A24.out).mono ?_); (case side1 => refine gl_below HGL.out ?_; repeat (first | (with_reducible first | exact HB.out | apply below_alloc | apply pw_below_drewN | apply below_drew1 | refine below_set ?_ GE155.out) | exact HB.out)); rintro e w29 ⟨rfl, hb⟩; refine ⟨_, rfl, ?_⟩; have n0_ := Aside0.mk (blk_below (g := gb155) (o := .cells #[.int .i64 a0_0, .int .i64 a0_1, .string a0_2] 23 (0, 0)) (by (with_reducible repeat (first | refine blk_drewN ?_ _ | refine blk_drew ?_ | refine blk_alloc ?_ _)); exact BK155.out) hb); have n1_ := Aside0.mk (below_step (by repeat (first | (with_reducible first | exact HB.out | apply below_alloc | apply pw_below_drewN | apply below_drew1 | refine below_set ?_ GE155.out) | exact HB.out)) hb); clear BK155; clear HB; have BK155 := n0_; have HB := n1_; clear n0_ n1_; (try clear hb); (try clear hb2); (try clear hk); (try clear hi)) | ((with_reducible refine gate_dst (N := 6) rfl ?_); refine box_event ?hg (N := 6) ?hd (cs := #[.int .i64 0, .int .i64 0, .string (⟨#[]⟩ : ByteArray)]) (t := 23) ?hr ?_; (case hd => rfl); (case hg => rfl); (case hr => first | (go_simp; done) | (go_simp; rfl)); intro gb164 hg w30 hbox hb; have n0_ := Aside0.mk (blk_below (g := gb155) (o := .cells #[.int .i64 a0_0, .int .i64 a0_1, .string a0_2] 23 (0, 0)) (by (with_reducible repeat (first | refine blk_drewN ?_ _ | refine blk_drew ?_ | refine blk_alloc ?_ _)); exact BK155.out) hb); have n1_ := Aside0.mk (below_step (by repeat (first | (with_reducible first | exact HB.out | apply below_alloc | apply pw_below_drewN | apply below_drew1 | refine below_set ?_ GE155.out) | exact HB.out)) hb); have n2_ := Aside0.mk (hbox); have n3_ := Aside0.mk ((by rw [hg]; exact (below_size (by repeat (first | (with_reducible first | exact HB.out | apply below_alloc | apply pw_below_drewN | apply below_drew1 | refine below_set ?_ GE155.out) | exact HB.out))) : w.heap.size ≤ gb164)); have n4_ := Aside0.mk ((by rw [hg]; exact (below_size (by repeat (first | (with_reducible first | exact HB.out | apply below_alloc | apply pw_below_drewN | apply below_drew1 | refine below_set ?_ GE155.out) | exact HB.out))) : w.heap.size ≤ gb164)); have n5_ := Aside0.mk ((by rw [hg]; exact Nat.ne_of_lt (blk_lt (g := gb155) (o := .cells #[.int .i64 a0_0, .int .i64 a0_1, .string a0_2] 23 (0, 0)) (by (with_reducible repeat (first | refine blk_drewN ?_ _ | refine blk_drew ?_ | refine blk_alloc ?_ _)); exact BK155.out)) : gb155 ≠ gb164)); have n6_ := Aside0.mk ((by rw [hg]; exact Nat.ne_of_gt (blk_lt (g := gb155) (o := .cells #[.int .i64 a0_0, .int .i64 a0_1, .string a0_2] 23 (0, 0)) (by (with_reducible repeat (first | refine blk_drewN ?_ _ | refine blk_drew ?_ | refine blk_alloc ?_ _)); exact BK155.out)) : gb164 ≠ gb155)); clear BK155; clear HB; have BK155 := n0_; have HB := n1_; have BK164 := n2_; have GW164 := n3_; have GE164 := n4_; have NB155_164 := n5_; have NB164_155 := n6_; clear n0_ n1_ n2_ n3_ n4_ n5_ n6_; clear hb hbox hg; have hnb31 := NB164_155.out; have hnc31 := NB155_164.out; have hcz32_0 : w30.cell? ⟨gb164, 0, none⟩ = some (.int .i64 0) := (blk_cell BK164.out 0).trans rfl; have hcz32_1 : w30.cell? ⟨gb164, 1, none⟩ = some (.int .i64 0) := (blk_cell BK164.out 1).trans rfl; have hcz32_2 : w30.cell? ⟨gb164, 2, none⟩ = some (.string (⟨#[]⟩ : ByteArray)) := (blk_cell BK164.out 2).trans rfl; have hfz32_0 := blk_frozen BK164.out 0; have hfz32_1 := blk_frozen BK164.out 1; have hfz32_2 := blk_frozen BK164.out 2) | ((with_reducible refine gate_callee (f := 12) rfl ?_); refine goesL_ (some 38) rfl rfl Tryz.func12 (by kernel_rfl) rfl #[] rfl (by (try simp only [List.map_toArray, List.map_cons, List.map_nil]); first | done | rfl | (simp only [List.length_drop, List.length_take]; rfl)) ?_; (with_reducible refine (threshinglaw14_alive.calls k1  true _ ?side1 A25.out).mono ?_); (case side1 => refine gl_below HGL.out ?_; repeat (first | (with_reducible first | exact HB.out | apply below_alloc | apply pw_below_drewN | apply below_drew1 | refine below_set ?_ GE155.out | refine below_set ?_ GE164.out) | exact HB.out)); rintro e w33 ⟨rfl, hb⟩; refine ⟨_, rfl, ?_⟩; have n0_ := Aside0.mk (blk_below (g := gb155) (o := .cells #[.int .i64 a0_0, .int .i64 a0_1, .string a0_2] 23 (0, 0)) (by (with_reducible repeat (first | refine blk_drewN ?_ _ | refine blk_drew ?_ | refine blk_alloc ?_ _)); refine blk_far ?_ NB155_164.out _; (with_reducible repeat (first | refine blk_drewN ?_ _ | refine blk_drew ?_ | refine blk_alloc ?_ _)); refine blk_far ?_ NB155_164.out _; (with_reducible repeat (first | refine blk_drewN ?_ _ | refine blk_drew ?_ | refine blk_alloc ?_ _)); refine blk_far ?_ NB155_164.out _; (with_reducible repeat (first | refine blk_drewN ?_ _ | refine blk_drew ?_ | refine blk_alloc ?_ _)); exact BK155.out) hb); have n1_ := Aside0.mk (blk_below (g := gb164) (o := .cells #[.int .i64 t160, .int .i64 t161, .string t162] 23 (0, 0)) (by (with_reducible repeat (first | refine blk_drewN ?_ _ | refine blk_drew ?_ | refine blk_alloc ?_ _)); refine blk_put (cs := #[.int .i64 t160, .int .i64 t161, .string (⟨#[]⟩ : ByteArray)]) ?_ 2 _ rfl; (with_reducible repeat (first | refine blk_drewN ?_ _ | refine blk_drew ?_ | refine blk_alloc ?_ _)); refine blk_put (cs := #[.int .i64 t160, .int .i64 0, .string (⟨#[]⟩ : ByteArray)]) ?_ 1 _ rfl; (with_reducible repeat (first | refine blk_drewN ?_ _ | refine blk_drew ?_ | refine blk_alloc ?_ _)); refine blk_put (cs := #[.int .i64 0, .int .i64 0, .string (⟨#[]⟩ : ByteArray)]) ?_ 0 _ rfl; (with_reducible repeat (first | refine blk_drewN ?_ _ | refine blk_drew ?_ | refine blk_alloc ?_ _)); exact BK164.out) hb); have n2_ := Aside0.mk (below_step (by repeat (first | (with_reducible first | exact HB.out | apply below_alloc | apply pw_below_drewN | apply below_drew1 | refine below_set ?_ GE155.out | refine below_set ?_ GE164.out) | exact HB.out)) hb); clear BK155; clear BK164; clear HB; have BK155 := n0_; have BK164 := n1_; have HB := n2_; clear n0_ n1_ n2_; (try clear hb); (try clear hb2); (try clear hk); (try clear hi); have hcz34_0 : w33.cell? ⟨gb164, 0, none⟩ = some (.int .i64 t160) := (blk_cell BK164.out 0).trans rfl; have hcz34_1 : w33.cell? ⟨gb164, 1, none⟩ = some (.int .i64 t161) := (blk_cell BK164.out 1).trans rfl; have hcz34_2 : w33.cell? ⟨gb164, 2, none⟩ = some (.string t162) := (blk_cell BK164.out 2).trans rfl; have hfz34_0 := blk_frozen BK164.out 0; have hfz34_1 := blk_frozen BK164.out 1; have hfz34_2 := blk_frozen BK164.out 2; have hcz35_0 : w33.cell? ⟨gb155, 0, none⟩ = some (.int .i64 a0_0) := (blk_cell BK155.out 0).trans rfl; have hcz35_1 : w33.cell? ⟨gb155, 1, none⟩ = some (.int .i64 a0_1) := (blk_cell BK155.out 1).trans rfl; have hcz35_2 : w33.cell? ⟨gb155, 2, none⟩ = some (.string a0_2) := (blk_cell BK155.out 2).trans rfl; have hfz35_0 := blk_frozen BK155.out 0; have hfz35_1 := blk_frozen BK155.out 1; have hfz35_2 := blk_frozen BK155.out 2))
                  go_ret
                  exact ⟨by first | rfl | (simp [errW_none, errW_some] <;> rfl) | (simp [*, errW_none, errW_some] <;> rfl), by repeat (first | (with_reducible first | exact HB.out | apply below_alloc | apply pw_below_drewN | apply below_drew1 | refine below_set ?_ GE155.out | refine below_set ?_ GE164.out) | exact HB.out)⟩
                · rw [if_neg c28] at H
                  have c28b0 : (t163 == 0) = false := beq_eq_false_iff_ne.mpr c28
                  have c28b1 : (t163 != 0) = true := bne_iff_ne.mpr c28
                  obtain rfl := Option.some.inj H
                  go_wp2_with (first | ((with_reducible refine gate_callee (f := 15) rfl ?_); refine goesL_ (some 35) rfl rfl Tryz.func15 (by kernel_rfl) rfl #[.string t157] rfl (by (try simp only [List.map_toArray, List.map_cons, List.map_nil]); first | done | rfl | (simp only [List.length_drop, List.length_take]; rfl)) ?_; (with_reducible refine (code_Parse.calls k1 t157 t160 t161 t162 t163 _ ?side1 A24.out).mono ?_); (case side1 => refine gl_below HGL.out ?_; repeat (first | (with_reducible first | exact HB.out | apply below_alloc | apply pw_below_drewN | apply below_drew1 | refine below_set ?_ GE155.out) | exact HB.out)); rintro e w36 ⟨rfl, hb⟩; refine ⟨_, rfl, ?_⟩; have n0_ := Aside0.mk (blk_below (g := gb155) (o := .cells #[.int .i64 a0_0, .int .i64 a0_1, .string a0_2] 23 (0, 0)) (by (with_reducible repeat (first | refine blk_drewN ?_ _ | refine blk_drew ?_ | refine blk_alloc ?_ _)); exact BK155.out) hb); have n1_ := Aside0.mk (below_step (by repeat (first | (with_reducible first | exact HB.out | apply below_alloc | apply pw_below_drewN | apply below_drew1 | refine below_set ?_ GE155.out) | exact HB.out)) hb); clear BK155; clear HB; have BK155 := n0_; have HB := n1_; clear n0_ n1_; (try clear hb); (try clear hb2); (try clear hk); (try clear hi)) | ((with_reducible refine gate_dst (N := 6) rfl ?_); refine box_event ?hg (N := 6) ?hd (cs := #[.int .i64 0, .int .i64 0, .string (⟨#[]⟩ : ByteArray)]) (t := 23) ?hr ?_; (case hd => rfl); (case hg => rfl); (case hr => first | (go_simp; done) | (go_simp; rfl)); intro gb164 hg w37 hbox hb; have n0_ := Aside0.mk (blk_below (g := gb155) (o := .cells #[.int .i64 a0_0, .int .i64 a0_1, .string a0_2] 23 (0, 0)) (by (with_reducible repeat (first | refine blk_drewN ?_ _ | refine blk_drew ?_ | refine blk_alloc ?_ _)); exact BK155.out) hb); have n1_ := Aside0.mk (below_step (by repeat (first | (with_reducible first | exact HB.out | apply below_alloc | apply pw_below_drewN | apply below_drew1 | refine below_set ?_ GE155.out) | exact HB.out)) hb); have n2_ := Aside0.mk (hbox); have n3_ := Aside0.mk ((by rw [hg]; exact (below_size (by repeat (first | (with_reducible first | exact HB.out | apply below_alloc | apply pw_below_drewN | apply below_drew1 | refine below_set ?_ GE155.out) | exact HB.out))) : w.heap.size ≤ gb164)); have n4_ := Aside0.mk ((by rw [hg]; exact (below_size (by repeat (first | (with_reducible first | exact HB.out | apply below_alloc | apply pw_below_drewN | apply below_drew1 | refine below_set ?_ GE155.out) | exact HB.out))) : w.heap.size ≤ gb164)); have n5_ := Aside0.mk ((by rw [hg]; exact Nat.ne_of_lt (blk_lt (g := gb155) (o := .cells #[.int .i64 a0_0, .int .i64 a0_1, .string a0_2] 23 (0, 0)) (by (with_reducible repeat (first | refine blk_drewN ?_ _ | refine blk_drew ?_ | refine blk_alloc ?_ _)); exact BK155.out)) : gb155 ≠ gb164)); have n6_ := Aside0.mk ((by rw [hg]; exact Nat.ne_of_gt (blk_lt (g := gb155) (o := .cells #[.int .i64 a0_0, .int .i64 a0_1, .string a0_2] 23 (0, 0)) (by (with_reducible repeat (first | refine blk_drewN ?_ _ | refine blk_drew ?_ | refine blk_alloc ?_ _)); exact BK155.out)) : gb164 ≠ gb155)); clear BK155; clear HB; have BK155 := n0_; have HB := n1_; have BK164 := n2_; have GW164 := n3_; have GE164 := n4_; have NB155_164 := n5_; have NB164_155 := n6_; clear n0_ n1_ n2_ n3_ n4_ n5_ n6_; clear hb hbox hg; have hnb38 := NB164_155.out; have hnc38 := NB155_164.out; have hcz39_0 : w37.cell? ⟨gb164, 0, none⟩ = some (.int .i64 0) := (blk_cell BK164.out 0).trans rfl; have hcz39_1 : w37.cell? ⟨gb164, 1, none⟩ = some (.int .i64 0) := (blk_cell BK164.out 1).trans rfl; have hcz39_2 : w37.cell? ⟨gb164, 2, none⟩ = some (.string (⟨#[]⟩ : ByteArray)) := (blk_cell BK164.out 2).trans rfl; have hfz39_0 := blk_frozen BK164.out 0; have hfz39_1 := blk_frozen BK164.out 1; have hfz39_2 := blk_frozen BK164.out 2) | ((with_reducible refine gate_callee (f := 12) rfl ?_); refine goesL_ (some 38) rfl rfl Tryz.func12 (by kernel_rfl) rfl #[] rfl (by (try simp only [List.map_toArray, List.map_cons, List.map_nil]); first | done | rfl | (simp only [List.length_drop, List.length_take]; rfl)) ?_; (with_reducible refine (threshinglaw14_alive.calls k1  true _ ?side1 A25.out).mono ?_); (case side1 => refine gl_below HGL.out ?_; repeat (first | (with_reducible first | exact HB.out | apply below_alloc | apply pw_below_drewN | apply below_drew1 | refine below_set ?_ GE155.out | refine below_set ?_ GE164.out) | exact HB.out)); rintro e w40 ⟨rfl, hb⟩; refine ⟨_, rfl, ?_⟩; have n0_ := Aside0.mk (blk_below (g := gb155) (o := .cells #[.int .i64 a0_0, .int .i64 a0_1, .string a0_2] 23 (0, 0)) (by (with_reducible repeat (first | refine blk_drewN ?_ _ | refine blk_drew ?_ | refine blk_alloc ?_ _)); refine blk_far ?_ NB155_164.out _; (with_reducible repeat (first | refine blk_drewN ?_ _ | refine blk_drew ?_ | refine blk_alloc ?_ _)); refine blk_far ?_ NB155_164.out _; (with_reducible repeat (first | refine blk_drewN ?_ _ | refine blk_drew ?_ | refine blk_alloc ?_ _)); refine blk_far ?_ NB155_164.out _; (with_reducible repeat (first | refine blk_drewN ?_ _ | refine blk_drew ?_ | refine blk_alloc ?_ _)); exact BK155.out) hb); have n1_ := Aside0.mk (blk_below (g := gb164) (o := .cells #[.int .i64 t160, .int .i64 t161, .string t162] 23 (0, 0)) (by (with_reducible repeat (first | refine blk_drewN ?_ _ | refine blk_drew ?_ | refine blk_alloc ?_ _)); refine blk_put (cs := #[.int .i64 t160, .int .i64 t161, .string (⟨#[]⟩ : ByteArray)]) ?_ 2 _ rfl; (with_reducible repeat (first | refine blk_drewN ?_ _ | refine blk_drew ?_ | refine blk_alloc ?_ _)); refine blk_put (cs := #[.int .i64 t160, .int .i64 0, .string (⟨#[]⟩ : ByteArray)]) ?_ 1 _ rfl; (with_reducible repeat (first | refine blk_drewN ?_ _ | refine blk_drew ?_ | refine blk_alloc ?_ _)); refine blk_put (cs := #[.int .i64 0, .int .i64 0, .string (⟨#[]⟩ : ByteArray)]) ?_ 0 _ rfl; (with_reducible repeat (first | refine blk_drewN ?_ _ | refine blk_drew ?_ | refine blk_alloc ?_ _)); exact BK164.out) hb); have n2_ := Aside0.mk (below_step (by repeat (first | (with_reducible first | exact HB.out | apply below_alloc | apply pw_below_drewN | apply below_drew1 | refine below_set ?_ GE155.out | refine below_set ?_ GE164.out) | exact HB.out)) hb); clear BK155; clear BK164; clear HB; have BK155 := n0_; have BK164 := n1_; have HB := n2_; clear n0_ n1_ n2_; (try clear hb); (try clear hb2); (try clear hk); (try clear hi)))
                  go_ret
                  exact ⟨by first | rfl | (simp [errW_none, errW_some] <;> rfl) | (simp [*, errW_none, errW_some] <;> rfl), by repeat (first | (with_reducible first | exact HB.out | apply below_alloc | apply pw_below_drewN | apply below_drew1 | refine below_set ?_ GE155.out | refine below_set ?_ GE164.out) | exact HB.out)⟩
              · rw [if_neg c27] at H
                have c27b0 : (t158 == 0) = false := beq_eq_false_iff_ne.mpr c27
                have c27b1 : (t158 != 0) = true := bne_iff_ne.mpr c27
                obtain rfl := Option.some.inj H
                go_wp2_with (first | ((with_reducible refine gate_callee (f := 15) rfl ?_); refine goesL_ (some 35) rfl rfl Tryz.func15 (by kernel_rfl) rfl #[.string t157] rfl (by (try simp only [List.map_toArray, List.map_cons, List.map_nil]); first | done | rfl | (simp only [List.length_drop, List.length_take]; rfl)) ?_; (with_reducible refine (code_Parse.calls k1 t157 t160 t161 t162 t163 _ ?side1 A24.out).mono ?_); (case side1 => refine gl_below HGL.out ?_; repeat (first | (with_reducible first | exact HB.out | apply below_alloc | apply pw_below_drewN | apply below_drew1 | refine below_set ?_ GE155.out) | exact HB.out)); rintro e w41 ⟨rfl, hb⟩; refine ⟨_, rfl, ?_⟩; have n0_ := Aside0.mk (blk_below (g := gb155) (o := .cells #[.int .i64 a0_0, .int .i64 a0_1, .string a0_2] 23 (0, 0)) (by (with_reducible repeat (first | refine blk_drewN ?_ _ | refine blk_drew ?_ | refine blk_alloc ?_ _)); exact BK155.out) hb); have n1_ := Aside0.mk (below_step (by repeat (first | (with_reducible first | exact HB.out | apply below_alloc | apply pw_below_drewN | apply below_drew1 | refine below_set ?_ GE155.out) | exact HB.out)) hb); clear BK155; clear HB; have BK155 := n0_; have HB := n1_; clear n0_ n1_; (try clear hb); (try clear hb2); (try clear hk); (try clear hi)) | ((with_reducible refine gate_dst (N := 6) rfl ?_); refine box_event ?hg (N := 6) ?hd (cs := #[.int .i64 0, .int .i64 0, .string (⟨#[]⟩ : ByteArray)]) (t := 23) ?hr ?_; (case hd => rfl); (case hg => rfl); (case hr => first | (go_simp; done) | (go_simp; rfl)); intro gb164 hg w42 hbox hb; have n0_ := Aside0.mk (blk_below (g := gb155) (o := .cells #[.int .i64 a0_0, .int .i64 a0_1, .string a0_2] 23 (0, 0)) (by (with_reducible repeat (first | refine blk_drewN ?_ _ | refine blk_drew ?_ | refine blk_alloc ?_ _)); exact BK155.out) hb); have n1_ := Aside0.mk (below_step (by repeat (first | (with_reducible first | exact HB.out | apply below_alloc | apply pw_below_drewN | apply below_drew1 | refine below_set ?_ GE155.out) | exact HB.out)) hb); have n2_ := Aside0.mk (hbox); have n3_ := Aside0.mk ((by rw [hg]; exact (below_size (by repeat (first | (with_reducible first | exact HB.out | apply below_alloc | apply pw_below_drewN | apply below_drew1 | refine below_set ?_ GE155.out) | exact HB.out))) : w.heap.size ≤ gb164)); have n4_ := Aside0.mk ((by rw [hg]; exact (below_size (by repeat (first | (with_reducible first | exact HB.out | apply below_alloc | apply pw_below_drewN | apply below_drew1 | refine below_set ?_ GE155.out) | exact HB.out))) : w.heap.size ≤ gb164)); have n5_ := Aside0.mk ((by rw [hg]; exact Nat.ne_of_lt (blk_lt (g := gb155) (o := .cells #[.int .i64 a0_0, .int .i64 a0_1, .string a0_2] 23 (0, 0)) (by (with_reducible repeat (first | refine blk_drewN ?_ _ | refine blk_drew ?_ | refine blk_alloc ?_ _)); exact BK155.out)) : gb155 ≠ gb164)); have n6_ := Aside0.mk ((by rw [hg]; exact Nat.ne_of_gt (blk_lt (g := gb155) (o := .cells #[.int .i64 a0_0, .int .i64 a0_1, .string a0_2] 23 (0, 0)) (by (with_reducible repeat (first | refine blk_drewN ?_ _ | refine blk_drew ?_ | refine blk_alloc ?_ _)); exact BK155.out)) : gb164 ≠ gb155)); clear BK155; clear HB; have BK155 := n0_; have HB := n1_; have BK164 := n2_; have GW164 := n3_; have GE164 := n4_; have NB155_164 := n5_; have NB164_155 := n6_; clear n0_ n1_ n2_ n3_ n4_ n5_ n6_; clear hb hbox hg; have hnb43 := NB164_155.out; have hnc43 := NB155_164.out; have hcz44_0 : w42.cell? ⟨gb164, 0, none⟩ = some (.int .i64 0) := (blk_cell BK164.out 0).trans rfl; have hcz44_1 : w42.cell? ⟨gb164, 1, none⟩ = some (.int .i64 0) := (blk_cell BK164.out 1).trans rfl; have hcz44_2 : w42.cell? ⟨gb164, 2, none⟩ = some (.string (⟨#[]⟩ : ByteArray)) := (blk_cell BK164.out 2).trans rfl; have hfz44_0 := blk_frozen BK164.out 0; have hfz44_1 := blk_frozen BK164.out 1; have hfz44_2 := blk_frozen BK164.out 2) | ((with_reducible refine gate_callee (f := 12) rfl ?_); refine goesL_ (some 38) rfl rfl Tryz.func12 (by kernel_rfl) rfl #[] rfl (by (try simp only [List.map_toArray, List.map_cons, List.map_nil]); first | done | rfl | (simp only [List.length_drop, List.length_take]; rfl)) ?_; (with_reducible refine (threshinglaw14_alive.calls k1  true _ ?side1 A25.out).mono ?_); (case side1 => refine gl_below HGL.out ?_; repeat (first | (with_reducible first | exact HB.out | apply below_alloc | apply pw_below_drewN | apply below_drew1 | refine below_set ?_ GE155.out | refine below_set ?_ GE164.out) | exact HB.out)); rintro e w45 ⟨rfl, hb⟩; refine ⟨_, rfl, ?_⟩; have n0_ := Aside0.mk (blk_below (g := gb155) (o := .cells #[.int .i64 a0_0, .int .i64 a0_1, .string a0_2] 23 (0, 0)) (by (with_reducible repeat (first | refine blk_drewN ?_ _ | refine blk_drew ?_ | refine blk_alloc ?_ _)); refine blk_far ?_ NB155_164.out _; (with_reducible repeat (first | refine blk_drewN ?_ _ | refine blk_drew ?_ | refine blk_alloc ?_ _)); refine blk_far ?_ NB155_164.out _; (with_reducible repeat (first | refine blk_drewN ?_ _ | refine blk_drew ?_ | refine blk_alloc ?_ _)); refine blk_far ?_ NB155_164.out _; (with_reducible repeat (first | refine blk_drewN ?_ _ | refine blk_drew ?_ | refine blk_alloc ?_ _)); exact BK155.out) hb); have n1_ := Aside0.mk (blk_below (g := gb164) (o := .cells #[.int .i64 t160, .int .i64 t161, .string t162] 23 (0, 0)) (by (with_reducible repeat (first | refine blk_drewN ?_ _ | refine blk_drew ?_ | refine blk_alloc ?_ _)); refine blk_put (cs := #[.int .i64 t160, .int .i64 t161, .string (⟨#[]⟩ : ByteArray)]) ?_ 2 _ rfl; (with_reducible repeat (first | refine blk_drewN ?_ _ | refine blk_drew ?_ | refine blk_alloc ?_ _)); refine blk_put (cs := #[.int .i64 t160, .int .i64 0, .string (⟨#[]⟩ : ByteArray)]) ?_ 1 _ rfl; (with_reducible repeat (first | refine blk_drewN ?_ _ | refine blk_drew ?_ | refine blk_alloc ?_ _)); refine blk_put (cs := #[.int .i64 0, .int .i64 0, .string (⟨#[]⟩ : ByteArray)]) ?_ 0 _ rfl; (with_reducible repeat (first | refine blk_drewN ?_ _ | refine blk_drew ?_ | refine blk_alloc ?_ _)); exact BK164.out) hb); have n2_ := Aside0.mk (below_step (by repeat (first | (with_reducible first | exact HB.out | apply below_alloc | apply pw_below_drewN | apply below_drew1 | refine below_set ?_ GE155.out | refine below_set ?_ GE164.out) | exact HB.out)) hb); clear BK155; clear BK164; clear HB; have BK155 := n0_; have BK164 := n1_; have HB := n2_; clear n0_ n1_ n2_; (try clear hb); (try clear hb2); (try clear hk); (try clear hi)))
                go_ret
                exact ⟨by first | rfl | (simp [errW_none, errW_some] <;> rfl) | (simp [*, errW_none, errW_some] <;> rfl), by repeat (first | (with_reducible first | exact HB.out | apply below_alloc | apply pw_below_drewN | apply below_drew1 | refine below_set ?_ GE155.out | refine below_set ?_ GE164.out) | exact HB.out)⟩
            · replace c26 := Bool.eq_false_iff.mpr c26
              subst c26
              have H1 : (some false) = some r := by rw [if_neg (show ¬ (false = true) by decide)] at H; exact H
              clear H
              have H := H1
              clear H1
              obtain rfl := Option.some.inj H
              go_wp2_with (first | ((with_reducible refine gate_callee (f := 15) rfl ?_); refine goesL_ (some 35) rfl rfl Tryz.func15 (by kernel_rfl) rfl #[.string t157] rfl (by (try simp only [List.map_toArray, List.map_cons, List.map_nil]); first | done | rfl | (simp only [List.length_drop, List.length_take]; rfl)) ?_; (with_reducible refine (code_Parse.calls k1 t157 t160 t161 t162 t163 _ ?side1 A24.out).mono ?_); (case side1 => refine gl_below HGL.out ?_; repeat (first | (with_reducible first | exact HB.out | apply below_alloc | apply pw_below_drewN | apply below_drew1 | refine below_set ?_ GE155.out) | exact HB.out)); rintro e w46 ⟨rfl, hb⟩; refine ⟨_, rfl, ?_⟩; have n0_ := Aside0.mk (blk_below (g := gb155) (o := .cells #[.int .i64 a0_0, .int .i64 a0_1, .string a0_2] 23 (0, 0)) (by (with_reducible repeat (first | refine blk_drewN ?_ _ | refine blk_drew ?_ | refine blk_alloc ?_ _)); exact BK155.out) hb); have n1_ := Aside0.mk (below_step (by repeat (first | (with_reducible first | exact HB.out | apply below_alloc | apply pw_below_drewN | apply below_drew1 | refine below_set ?_ GE155.out) | exact HB.out)) hb); clear BK155; clear HB; have BK155 := n0_; have HB := n1_; clear n0_ n1_; (try clear hb); (try clear hb2); (try clear hk); (try clear hi)) | ((with_reducible refine gate_dst (N := 6) rfl ?_); refine box_event ?hg (N := 6) ?hd (cs := #[.int .i64 0, .int .i64 0, .string (⟨#[]⟩ : ByteArray)]) (t := 23) ?hr ?_; (case hd => rfl); (case hg => rfl); (case hr => first | (go_simp; done) | (go_simp; rfl)); intro gb164 hg w47 hbox hb; have n0_ := Aside0.mk (blk_below (g := gb155) (o := .cells #[.int .i64 a0_0, .int .i64 a0_1, .string a0_2] 23 (0, 0)) (by (with_reducible repeat (first | refine blk_drewN ?_ _ | refine blk_drew ?_ | refine blk_alloc ?_ _)); exact BK155.out) hb); have n1_ := Aside0.mk (below_step (by repeat (first | (with_reducible first | exact HB.out | apply below_alloc | apply pw_below_drewN | apply below_drew1 | refine below_set ?_ GE155.out) | exact HB.out)) hb); have n2_ := Aside0.mk (hbox); have n3_ := Aside0.mk ((by rw [hg]; exact (below_size (by repeat (first | (with_reducible first | exact HB.out | apply below_alloc | apply pw_below_drewN | apply below_drew1 | refine below_set ?_ GE155.out) | exact HB.out))) : w.heap.size ≤ gb164)); have n4_ := Aside0.mk ((by rw [hg]; exact (below_size (by repeat (first | (with_reducible first | exact HB.out | apply below_alloc | apply pw_below_drewN | apply below_drew1 | refine below_set ?_ GE155.out) | exact HB.out))) : w.heap.size ≤ gb164)); have n5_ := Aside0.mk ((by rw [hg]; exact Nat.ne_of_lt (blk_lt (g := gb155) (o := .cells #[.int .i64 a0_0, .int .i64 a0_1, .string a0_2] 23 (0, 0)) (by (with_reducible repeat (first | refine blk_drewN ?_ _ | refine blk_drew ?_ | refine blk_alloc ?_ _)); exact BK155.out)) : gb155 ≠ gb164)); have n6_ := Aside0.mk ((by rw [hg]; exact Nat.ne_of_gt (blk_lt (g := gb155) (o := .cells #[.int .i64 a0_0, .int .i64 a0_1, .string a0_2] 23 (0, 0)) (by (with_reducible repeat (first | refine blk_drewN ?_ _ | refine blk_drew ?_ | refine blk_alloc ?_ _)); exact BK155.out)) : gb164 ≠ gb155)); clear BK155; clear HB; have BK155 := n0_; have HB := n1_; have BK164 := n2_; have GW164 := n3_; have GE164 := n4_; have NB155_164 := n5_; have NB164_155 := n6_; clear n0_ n1_ n2_ n3_ n4_ n5_ n6_; clear hb hbox hg; have hnb48 := NB164_155.out; have hnc48 := NB155_164.out; have hcz49_0 : w47.cell? ⟨gb164, 0, none⟩ = some (.int .i64 0) := (blk_cell BK164.out 0).trans rfl; have hcz49_1 : w47.cell? ⟨gb164, 1, none⟩ = some (.int .i64 0) := (blk_cell BK164.out 1).trans rfl; have hcz49_2 : w47.cell? ⟨gb164, 2, none⟩ = some (.string (⟨#[]⟩ : ByteArray)) := (blk_cell BK164.out 2).trans rfl; have hfz49_0 := blk_frozen BK164.out 0; have hfz49_1 := blk_frozen BK164.out 1; have hfz49_2 := blk_frozen BK164.out 2) | ((with_reducible refine gate_callee (f := 12) rfl ?_); refine goesL_ (some 38) rfl rfl Tryz.func12 (by kernel_rfl) rfl #[] rfl (by (try simp only [List.map_toArray, List.map_cons, List.map_nil]); first | done | rfl | (simp only [List.length_drop, List.length_take]; rfl)) ?_; (with_reducible refine (threshinglaw14_alive.calls k1  false _ ?side1 A25.out).mono ?_); (case side1 => refine gl_below HGL.out ?_; repeat (first | (with_reducible first | exact HB.out | apply below_alloc | apply pw_below_drewN | apply below_drew1 | refine below_set ?_ GE155.out | refine below_set ?_ GE164.out) | exact HB.out)); rintro e w50 ⟨rfl, hb⟩; refine ⟨_, rfl, ?_⟩; have n0_ := Aside0.mk (blk_below (g := gb155) (o := .cells #[.int .i64 a0_0, .int .i64 a0_1, .string a0_2] 23 (0, 0)) (by (with_reducible repeat (first | refine blk_drewN ?_ _ | refine blk_drew ?_ | refine blk_alloc ?_ _)); refine blk_far ?_ NB155_164.out _; (with_reducible repeat (first | refine blk_drewN ?_ _ | refine blk_drew ?_ | refine blk_alloc ?_ _)); refine blk_far ?_ NB155_164.out _; (with_reducible repeat (first | refine blk_drewN ?_ _ | refine blk_drew ?_ | refine blk_alloc ?_ _)); refine blk_far ?_ NB155_164.out _; (with_reducible repeat (first | refine blk_drewN ?_ _ | refine blk_drew ?_ | refine blk_alloc ?_ _)); exact BK155.out) hb); have n1_ := Aside0.mk (blk_below (g := gb164) (o := .cells #[.int .i64 t160, .int .i64 t161, .string t162] 23 (0, 0)) (by (with_reducible repeat (first | refine blk_drewN ?_ _ | refine blk_drew ?_ | refine blk_alloc ?_ _)); refine blk_put (cs := #[.int .i64 t160, .int .i64 t161, .string (⟨#[]⟩ : ByteArray)]) ?_ 2 _ rfl; (with_reducible repeat (first | refine blk_drewN ?_ _ | refine blk_drew ?_ | refine blk_alloc ?_ _)); refine blk_put (cs := #[.int .i64 t160, .int .i64 0, .string (⟨#[]⟩ : ByteArray)]) ?_ 1 _ rfl; (with_reducible repeat (first | refine blk_drewN ?_ _ | refine blk_drew ?_ | refine blk_alloc ?_ _)); refine blk_put (cs := #[.int .i64 0, .int .i64 0, .string (⟨#[]⟩ : ByteArray)]) ?_ 0 _ rfl; (with_reducible repeat (first | refine blk_drewN ?_ _ | refine blk_drew ?_ | refine blk_alloc ?_ _)); exact BK164.out) hb); have n2_ := Aside0.mk (below_step (by repeat (first | (with_reducible first | exact HB.out | apply below_alloc | apply pw_below_drewN | apply below_drew1 | refine below_set ?_ GE155.out | refine below_set ?_ GE164.out) | exact HB.out)) hb); clear BK155; clear BK164; clear HB; have BK155 := n0_; have BK164 := n1_; have HB := n2_; clear n0_ n1_ n2_; (try clear hb); (try clear hb2); (try clear hk); (try clear hi)))
              go_ret
              exact ⟨by first | rfl | (simp [errW_none, errW_some] <;> rfl) | (simp [*, errW_none, errW_some] <;> rfl), by repeat (first | (with_reducible first | exact HB.out | apply below_alloc | apply pw_below_drewN | apply below_drew1 | refine below_set ?_ GE155.out | refine below_set ?_ GE164.out) | exact HB.out)⟩

end Go.Proofs.YtmgcpjgpmjhemaaGreatDoor.Pc

/-
The law CodeOne answers true.
-/
namespace Go.Proofs.YtmgcpjgpmjhemaaGreatDoor.Pc
open Go.RowKit Go.Proofs.YtmgcpjgpmjhemaaGreatDoorW.PrintWords Go.Proofs.YtmgcpjgpmjhemaaGreatDoorW.PrintLast Go.Proofs.YtmgcpjgpmjhemaaGreatDoorW.PrintMore
open CodePure (esc Bs unesc figs)
set_option linter.unusedVariables false

theorem alive_at : threshinglaw14_alive.f 40 = some true := by decide +kernel
theorem alive_true (k : Nat) (hk : 40 ≤ k) : threshinglaw14_alive.f k = some true := by
  have : ∀ d, threshinglaw14_alive.f (40 + d) = some true := by
    intro d
    induction d with
    | zero => exact alive_at
    | succ d ih => exact threshinglaw14_alive.mono (40 + d) _ ih
  rw [show k = 40 + (k - 40) by omega]
  exact this _

def oneTail (k : Nat) (x3 : ByteArray) (x4 op n : Int) (s : ByteArray) : Option Bool :=
  (code_Parse.f k x3).bind fun bt160 => ((threshinglaw14_alive.f k).bind fun t165 => (if t165 = true then (if x4 = 0 then (if bt160.2.2.2 = 0 then (some (bt160.1 == op && (bt160.2.1 == n && (bt160.2.2.1.toList == s.toList)))) else (some false)) else (some true)) else (some false)))

theorem one_run (x3 : ByteArray) (x4 op n : Int) (s : ByteArray) (hs : x3.size ≤ 1000000) (h10 : ∀ c ∈ x3.data.toList, c ≠ 10) (ht : ∀ k, 40 ≤ k → oneTail k x3 x4 op n s = some true) :
    ∀ (m i : Nat), m = x3.size - i → i ≤ x3.size → threshinglaw14_CodeOne.l0 (m + 41) x3 x4 i op n s = some true := by
  intro m
  induction m with
  | zero =>
    intro i hm hi
    have : ¬ ((i : Int) < (x3.size : Int)) := by omega
    simp only [threshinglaw14_CodeOne.l0]
    rw [if_neg this]
    exact ht 40 (by omega)
  | succ m ih =>
    intro i hm hi
    have hlt : i < x3.size := by omega
    have hl : i < x3.data.toList.length := by simpa using hlt
    have hb := bt_list x3 i hlt x3.data.toList[i] (List.getElem?_eq_getElem hl)
    have hc : ¬ (bt x3 i = 10) := by
      rw [hb]
      intro e
      apply h10 _ (List.getElem_mem hl)
      apply UInt8.toNat_inj.1
      show _ = 10
      omega
    have hw : wrap64 ((i : Int) + 1) = ((i + 1 : Nat) : Int) := by unfold wrap64; omega
    rw [show m + 1 + 41 = (m + 41) + 1 by omega]
    simp only [threshinglaw14_CodeOne.l0]
    rw [if_pos (by omega), if_pos (by omega), if_neg hc, hw]
    exact ih (i + 1) (by omega) (by omega)

theorem codeOne_true (op n : Int) (s : ByteArray) (h0 : wfI op) (h1 : wfI n) : ∃ k, threshinglaw14_CodeOne.f k op n s = some true := by
  unfold threshinglaw14_CodeOne.f
  by_cases hs : (s.size : Int) > 1200
  · exact ⟨40, by rw [if_pos hs, alive_at]; rfl⟩
  · have hl : s.data.toList.length = s.size := by simp
    have hline : code_Line.f op n s = some (if mayB op n s.data.toList then (bs (lineL op n s.data.toList), 0) else (⟨#[]⟩, 1)) := if_pos ⟨h0, h1, by omega⟩
    have hmay := may_eq op n s h0
    cases hm : mayB op n s.data.toList with
    | false =>
      rw [hm] at hline hmay
      refine ⟨0 + 41, ?_⟩
      rw [if_neg hs, hline, hmay]
      refine one_run ⟨#[]⟩ 1 op n s (by decide) (by simp) (fun k hk => ?_) 0 0 rfl (Nat.zero_le _)
      unfold oneTail
      rw [parse_eq k hk _ (by decide), alive_true k hk]
      rfl
    | true =>
      rw [hm] at hline hmay
      have hop := mayB_op hm
      have hlen := lineL_len op n s.data.toList h1 (by omega) hop
      refine ⟨(bs (lineL op n s.data.toList)).size + 41, ?_⟩
      rw [if_neg hs, hline, hmay]
      refine one_run (bs (lineL op n s.data.toList)) 0 op n s (by show (lineL op n s.data.toList).length ≤ _; omega) (fun c hc => line_no10 op n _ hop c hc) (fun k hk => ?_) _ 0 rfl (Nat.zero_le _)
      unfold oneTail
      rw [parse_eq k hk _ (by show (lineL op n s.data.toList).length ≤ _; omega), alive_true k hk]
      have hp : parseR (bs (lineL op n s.data.toList)).data.toList = (op, n, bs s.data.toList, 0) := by
        unfold parseR
        rw [show (bs (lineL op n s.data.toList)).data.toList = lineL op n s.data.toList from rfl, parse_line op n _ h1 hm]
      rw [hp]
      simp [ByteArray.toList_eq, bs]
end Go.Proofs.YtmgcpjgpmjhemaaGreatDoor.Pc

/-
The contract of code.Print in the form that the printed walks take.
-/
namespace Go.Proofs.YtmgcpjgpmjhemaaGreatDoor.Pc
open Go.RowKit Go.Proofs.YtmgcpjgpmjhemaaGreatDoorW.PrintWords Go.Proofs.YtmgcpjgpmjhemaaGreatDoorW.PrintLast Go.Proofs.YtmgcpjgpmjhemaaGreatDoorW.PrintMore
open CodePure (esc Bs)
set_option linter.unusedVariables false

theorem ownsRow_keep {B : Nat} {e : TypeId} {k : Nat} {v : Value} {n : Nat} {xs : List Value} {w w' : World} (h : w.ownsRow B e k v n xs) (hb : Below w.heap.size w w') : w'.ownsRow B e k v n xs :=
  h.kept (row := none) ⟨hb.os, hb.tape, hb.output, hb.size, fun j hj _ => hb.block j hj⟩ (by cases hv : v.ownBlock <;> simp)
theorem isB_keep {B b : Nat} {l : List UInt8} {w w' : World} (h : IsB B b l w) (hb : Below w.heap.size w w') : IsB B b l w' := by
  rcases h with ⟨h0, v, h1, h2, h3⟩ | ⟨h0, v, h1, h2, h3⟩
  · exact .inl ⟨h0, v, (hb.block b (by rcases Nat.lt_or_ge b w.heap.size with h | h; exact h; rw [Array.getElem?_eq_none h] at h1; cases h1)).trans h1, ownsRow_keep h2 hb, h3⟩
  · exact .inr ⟨h0, v, (hb.block b (by rcases Nat.lt_or_ge b w.heap.size with h | h; exact h; rw [Array.getElem?_eq_none h] at h1; cases h1)).trans h1, ownsRow_keep h2 hb, h3⟩
theorem strCells_bs (l : List UInt8) : Lib.strCells (bs l) = Lib.byteCells l := by
  simp [Lib.strCells, Lib.byteCells, bs]

set_option maxRecDepth 100000 in
set_option maxHeartbeats 4000000 in
theorem code_Print.calls (A0 : Option Addr) (c0 : Nat) (l0 : List S23) (r1 : ByteArray) (r2 : Int) (w : World) (hr0 : Kd.C k23 w A0 l0.length l0) (hc0 : l0.length ≤ c0) (hG : Gl w) (h : code_Print.f l0 = some (r1, r2)) :
    Calls Tryz.prog 22 #[.slice A0 l0.length c0] w fun e w' => e = .returned (.tuple #[.string r1, .int .i64 r2]) ∧ Below w.heap.size w w' := by
  have HR0 := Aside0.mk hr0
  have HGL := Aside0.mk hG
  clear hr0 hG
  unfold code_Print.f at h
  split at h
  · rename_i hc
    have c2 : decide (200 < (l0.length : Int)) = true := decide_eq_true (by omega)
    obtain ⟨rfl, rfl⟩ := Prod.mk.inj (Option.some.inj h)
    clear h
    go_enter Tryz.func22, Tryz.ntmps22
    go_wp2
    go_ret2
    exact ⟨rfl, Below.refl _ _⟩
  · split at h
    · rename_i hc hok
      have HC : Aside0 (l0.length ≤ 200) := ⟨by omega⟩
      have HOK := Aside0.mk hok
      have H := Aside0.mk (Option.some.inj h)
      have c2 : decide (200 < (l0.length : Int)) = false := decide_eq_false (by omega)
      clear h hok hc
      go_enter Tryz.func22, Tryz.ntmps22
      go_wp2_with fail
      have hB0 : IsB w.heap.size w.heap.size (linesL (l0.take 0)) (w.alloc (.cells #[.pointer none, .slice none 0 0] 84)) :=
        .inl ⟨Nat.le_refl _, .slice none 0 0, heap_alloc_new w _, own_nil _ _ _ _, by simp [Value.ownBlock]⟩
      have HB0 := Aside0.mk hB0
      have HW0 : Aside0 (Below w.heap.size w (w.alloc (.cells #[.pointer none, .slice none 0 0] 84))) := ⟨(Below.refl w.heap.size w).alloc (Nat.le_refl _) _⟩
      clear hB0
      obtain ⟨B, hB⟩ : ∃ B, w.heap.size = B := ⟨_, rfl⟩
      have HBB := Aside0.mk hB
      rw [hB] at HB0 HW0 ⊢
      clear hB
      go_loopw [14] (fun i wr => ∃ k : Nat, k ≤ l0.length ∧ i = .int .i64 k ∧ Aside0 ((l0.take k).all mayS = true) ∧ Aside0 (IsB B B (linesL (l0.take k)) wr) ∧ Aside0 (Below B w wr) ∧ Aside0 ((linesL (l0.take k)).length ≤ 200101 * k)) (fun i _ => l0.length - (intOf i).toNat)
      case atStart => exact ⟨0, Nat.zero_le _, rfl, ⟨rfl⟩, HB0, HW0, ⟨Nat.le_refl _⟩⟩
      case round =>
        obtain ⟨k, hk, rfl, HM, HBl, HW, HL⟩ := hrel
        by_cases hlt : k < l0.length
        · obtain ⟨x, hx⟩ : ∃ x, rd_T23 l0 k = x := ⟨_, rfl⟩
          have hat := rd_at hlt
          rw [hx] at hat
          have hokx : okS x := HOK.out x (List.mem_of_getElem? hat)
          have HTK := Aside0.mk (linesL_take hat)
          have HAL : Aside0 ((l0.take (k + 1)).all mayS = mayS x) := ⟨by rw [List.take_add_one, hat]; simp only [Option.toList_some, List.all_append, HM.out, List.all_cons, List.all_nil, Bool.true_and, Bool.and_true]⟩
          obtain ⟨ad, hA, d0, d1, d2⟩ := at_T23 HR0.out k (by omega) (by omega)
          rw [hx] at d0 d1 d2
          simp only [Int.toNat_natCast] at d0 d1 d2
          subst hA
          have D0 := (HW.out.cell (HBB.out ▸ World.block_lt_of_cell? w _ d0)).trans d0
          have D1 := (HW.out.cell (HBB.out ▸ World.block_lt_of_cell? w _ d1)).trans d1
          have D2 := (HW.out.cell (HBB.out ▸ World.block_lt_of_cell? w _ d2)).trans d2
          have hBw := HW.out.size
          rw [HBB.out] at hBw
          have HLF : Aside0 (code_Line.f x.f0 x.f1 x.f2 = some (if mayS x then (bs (lineS x), 0) else (⟨#[]⟩, 1))) := ⟨if_pos ⟨hokx.1, hokx.2.1, by have := hokx.2.2; omega⟩⟩
          have HOX := Aside0.mk hokx
          have hmem : x ∈ l0 := List.mem_of_getElem? hat
          have HMEM := Aside0.mk hmem
          clear hx hat hokx d0 d1 d2 hmem
          cases hm : mayS x with
          | true =>
            have HMX := Aside0.mk hm
            have hlen := lineS_len x HOX.out hm
            rw [hm] at HLF
            have HLN : Aside0 (∀ W, Gl W → Calls Tryz.prog 13 #[.agg #[.int .i64 x.f0, .int .i64 x.f1, .string x.f2]] W fun e w' => e = .returned (.tuple #[.string (bs (lineS x)), .int .i64 0]) ∧ Below W.heap.size W w') := ⟨fun W hg => code_Line.calls x.f0 x.f1 x.f2 _ _ W hg HLF.out⟩
            obtain ⟨ln, hln⟩ : ∃ ln, bs (lineS x) = ln := ⟨_, rfl⟩
            have HLNE := Aside0.mk hln
            have hsz : ln.size ≤ 200100 := by rw [← hln]; exact hlen
            have n1 : (9223372036854775807 < ln.size + 1) = False := eq_false (by omega)
            rw [hln] at HLN
            have HSC : Aside0 (Lib.strCells (ln ++ ⟨#[10]⟩) = Lib.byteCells (lineS x ++ [10])) := ⟨by rw [← hln, ← strCells_bs, bs_append]; rfl⟩
            have HSZ : Aside0 ((ln ++ ⟨#[10]⟩ : ByteArray).size ≤ 200101) := ⟨by rw [ByteArray.size_append]; show ln.size + 1 ≤ _; omega⟩
            have hk1 : k + 1 ≤ l0.length := by omega
            have hk2 : k < 200 := by have := HC.out; omega
            have HK1 : Aside0 (k < l0.length ∧ k + 1 ≤ l0.length) := ⟨hlt, hk1⟩
            clear hm hlen hln hk1
            go_wp2_with (first
              | (go_at_call 13; refine (HLN.out _ (gl_below HGL.out (HBB.out ▸ HW.out.alloc hBw _))).mono ?_; rintro e w2 ⟨rfl, hb2⟩; have hb3 := ((Below.refl wr.heap.size wr).alloc (Nat.le_refl _) _).trans (hb2.mono (by simp)); have HBl2 := Aside0.mk (isB_keep HBl.out hb3); have HW2 := Aside0.mk (HW.out.trans (hb3.mono hBw)); clear hb2 hb3)
              | (go_at_call 58; refine (Tryz.Builder_WriteString B B _ _ _ HBl2.out (by have h1 := HL.out; have h2 := HSZ.out; have h3 := HC.out; simp only [Lib.byteCells, List.length_map]; omega) (by have h2 := HW2.out.size; rw [HBB.out] at h2; exact h2)).mono ?_; rw [HSC.out]; rintro e w3 ⟨rfl, hbd, hb3⟩; have HBl3 : Aside0 (IsB B B (linesL (l0.take (k + 1))) w3) := ⟨.inr (by rw [HTK.out, Lib.byteCells, List.map_append]; exact hbd)⟩; have HW3 := Aside0.mk (HW2.out.trans hb3); clear hbd hb3))
            go_roundw
            case rel => exact ⟨k + 1, HK1.out.2, by go_num, ⟨by rw [HAL.out]; exact HMX.out⟩, HBl3, HW3, ⟨by rw [HTK.out, List.length_append, List.length_append]; have h1 := HL.out; have h2 := lineS_len x HOX.out HMX.out; simp only [List.length_singleton]; omega⟩⟩
            case measure =>
              have := HK1.out.1
              simp [intOf]
              omega
          | false =>
            have hall : l0.all mayS = false := by
              rw [Bool.eq_false_iff]
              intro hall
              have := List.all_eq_true.1 hall x HMEM.out
              rw [hm] at this
              cases this
            have hr := H.out
            rw [hall] at hr
            obtain ⟨rfl, rfl⟩ := Prod.mk.inj hr
            rw [hm] at HLF
            have HLN : Aside0 (∀ W, Gl W → Calls Tryz.prog 13 #[.agg #[.int .i64 x.f0, .int .i64 x.f1, .string x.f2]] W fun e w' => e = .returned (.tuple #[.string ⟨#[]⟩, .int .i64 1]) ∧ Below W.heap.size W w') := ⟨fun W hg => code_Line.calls x.f0 x.f1 x.f2 _ _ W hg HLF.out⟩
            clear hm hall hr
            go_wp2_with (first
              | (go_at_call 13; refine (HLN.out _ (gl_below HGL.out (HBB.out ▸ HW.out.alloc hBw _))).mono ?_; rintro e w2 ⟨rfl, hb2⟩; have hb3 := ((Below.refl wr.heap.size wr).alloc (Nat.le_refl _) _).trans (hb2.mono (by simp)); have HW2 := Aside0.mk (HW.out.trans (hb3.mono hBw)); clear hb2 hb3))
            go_ret2
            exact ⟨rfl, HBB.out ▸ HW2.out⟩
        · obtain rfl : k = l0.length := by omega
          have htk : l0.take l0.length = l0 := List.take_of_length_le (Nat.le_refl _)
          rw [htk] at HM HBl
          have hr := H.out
          rw [HM.out] at hr
          obtain ⟨rfl, rfl⟩ := Prod.mk.inj hr
          have hBw := HW.out.size
          rw [HBB.out] at hBw
          clear hr htk hlt hk
          go_wp2_with (go_at_call 59; refine (Tryz.Builder_String_any B B (linesL l0) wr HBl.out hBw).mono ?_; rintro e w' ⟨rfl, hbw⟩; have HW2 := Aside0.mk (HW.out.trans hbw); clear hbw)
          go_ret2
          exact ⟨rfl, HBB.out ▸ HW2.out⟩
    · cases h
end Go.Proofs.YtmgcpjgpmjhemaaGreatDoor.Pc
