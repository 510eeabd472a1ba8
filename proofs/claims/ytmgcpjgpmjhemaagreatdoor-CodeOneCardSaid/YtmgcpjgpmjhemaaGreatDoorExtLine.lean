/-
The contract of code.Line in the form that the printed walks take.
-/
import Derived.Test.YtmgcpjgpmjhemaaGreatDoorLinePure
import Derived.Test.YtmgcpjgpmjhemaaGreatDoorExtFigures
import Derived.Test.YtmgcpjgpmjhemaaGreatDoorExtReplC
import Derived.WalkSpells
import Derived.Deep.RegionHeld3
namespace Go.Proofs.YtmgcpjgpmjhemaaGreatDoor.Pc
open Go.RowKit Go.Proofs.YtmgcpjgpmjhemaaGreatDoorW.PrintWords Go.Proofs.YtmgcpjgpmjhemaaGreatDoorW.PrintLast Go.Proofs.YtmgcpjgpmjhemaaGreatDoorW.PrintMore
open CodePure (esc Bs)
set_option linter.unusedVariables false

def code_Line.f (op n : Int) (s : ByteArray) : Option (ByteArray × Int) :=
  if wfI op ∧ wfI n ∧ s.size ≤ 70368744177664 then some (if mayB op n s.data.toList then (bs (lineL op n s.data.toList), 0) else (⟨#[]⟩, 1)) else none

/-- What the box of the parameter holds. -/
structure Box (w0 : World) (op n : Int) (s : ByteArray) (B : Nat) (w : World) : Prop where
  c0 : w.cell? ⟨B, 0, none⟩ = some (.int .i64 op)
  c1 : w.cell? ⟨B, 1, none⟩ = some (.int .i64 n)
  c2 : w.cell? ⟨B, 2, none⟩ = some (.string s)
  b : Below w0.heap.size w0 w
  lt : B < w.heap.size
theorem Box.keep {w0 w w' : World} {op n : Int} {s : ByteArray} {B : Nat} (h : Box w0 op n s B w) (hb : Below w.heap.size w w') : Box w0 op n s B w' :=
  ⟨cell_keep hb h.c0, cell_keep hb h.c1, cell_keep hb h.c2, h.b.trans (hb.mono h.b.size), Nat.lt_of_lt_of_le h.lt hb.size⟩

theorem Box.keepP {w0 w w' : World} {op n : Int} {s : ByteArray} {B p : Nat} (h : Box w0 op n s B w) (hB : B < p) (h0 : w0.heap.size ≤ p) (hb : Below p w w') : Box w0 op n s B w' :=
  ⟨(hb.cell hB).trans h.c0, (hb.cell hB).trans h.c1, (hb.cell hB).trans h.c2, h.b.trans (hb.mono h0), Nat.lt_of_lt_of_le h.lt hb.size⟩

set_option maxRecDepth 100000 in
set_option maxHeartbeats 4000000 in
theorem code_Line.calls (a0_0 : Int) (a0_1 : Int) (a0_2 : ByteArray) (r1 : ByteArray) (r2 : Int) (w : World) (hG : Gl w) (h : code_Line.f a0_0 a0_1 a0_2 = some (r1, r2)) :
    Calls Tryz.prog 13 #[.agg #[.int .i64 a0_0, .int .i64 a0_1, .string a0_2]] w fun e w' => e = .returned (.tuple #[.string r1, .int .i64 r2]) ∧ Below w.heap.size w w' := by
  unfold code_Line.f at h
  split at h
  · rename_i hc
    obtain ⟨h0, h1, h2⟩ := hc
    have HM : ∀ W, Calls Tryz.prog 17 #[.agg #[.int .i64 a0_0, .int .i64 a0_1, .string a0_2]] W fun e w' => e = .returned (.bool (mayB a0_0 a0_1 a0_2.data.toList)) ∧ Below W.heap.size W w' := fun W => code_May.calls a0_0 a0_1 a0_2 _ W (may_eq a0_0 a0_1 a0_2 h0)
    have HGL := Aside0.mk hG
    have HW0 := Aside0.mk h0
    have HW1 := Aside0.mk h1
    have HW2 := Aside0.mk h2
    clear hG h0 h1 h2
    have H := Aside0.mk (Option.some.inj h)
    clear h
    have hnot : ∀ (x : Bool) (w : World), (Op.unary .not (.bool x)).run Tryz.prog w = .ok (.bool (!x)) w := fun _ _ => rfl
    have bk0 : Box w a0_0 a0_1 a0_2 w.heap.size (w.alloc (.cells #[.int .i64 a0_0, .int .i64 a0_1, .string a0_2] 23)) :=
      ⟨by simp, by simp, by simp, (Below.refl _ _).alloc (Nat.le_refl _) _, by simp⟩
    have BK0 := Aside0.mk bk0
    clear bk0
    cases hm : mayB a0_0 a0_1 a0_2.data.toList with
    | false =>
      rw [hm] at HM H
      obtain ⟨rfl, rfl⟩ := Prod.mk.inj H.out
      have HMM := Aside0.mk HM
      clear HM hm H
      go_enter Tryz.func13, Tryz.ntmps13
      go_wp2_with (go_at_call 17; refine (HMM.out _).mono ?_; rintro e w1 ⟨rfl, hb1⟩; have BK1 := Aside0.mk (BK0.out.keep hb1); clear hb1)
      go_ret2
      exact ⟨rfl, BK1.out.b⟩
    | true =>
      rw [hm] at HM H
      obtain ⟨rfl, rfl⟩ := Prod.mk.inj H.out
      have HMM := Aside0.mk HM
      have hop : 0 ≤ a0_0 ∧ a0_0 ≤ 23 := by
        unfold mayB at hm
        simp only [Bool.and_eq_true, decide_eq_true_eq] at hm
        exact hm.1.1
      have HN : Aside0 (∀ W, Gl W → Calls Tryz.prog 19 #[.int .i64 a0_0] W fun e w' => e = .returned (.string (bs (nameL a0_0))) ∧ Below W.heap.size W w') := ⟨fun W hg => code_Name.calls a0_0 _ W hg (name_eq a0_0 hop.1 hop.2)⟩
      have HI : Aside0 (∀ W, Gl W → Calls Tryz.prog 44 #[.int .i64 a0_1] W fun e w' => e = .returned (.string (bs (Lib.itoa a0_1))) ∧ Below W.heap.size W w') := ⟨fun W hg => itoa_call a0_1 HW1.out.1 HW1.out.2 W hg⟩
      obtain ⟨nm, hnm⟩ : ∃ nm, bs (nameL a0_0) = nm := ⟨_, rfl⟩
      obtain ⟨it, hit⟩ : ∃ it, bs (Lib.itoa a0_1) = it := ⟨_, rfl⟩
      have HNM := Aside0.mk hnm
      have HIT := Aside0.mk hit
      have s1 : nm.size ≤ 6 := by
        rw [← hnm]
        have hk : ∀ k : Nat, k < 24 → (nameL k).length ≤ 6 := by decide +kernel
        have := hk a0_0.toNat (by omega)
        rw [show ((a0_0.toNat : Nat) : Int) = a0_0 by omega] at this
        exact this
      have s2 : it.size ≤ 21 := by rw [← hit]; exact Lib.itoa_length_le a0_1 HW1.out.1 HW1.out.2
      have n1 : (9223372036854775807 < nm.size + 1) = False := eq_false (by omega)
      have n2 : (9223372036854775807 < nm.size + 1 + it.size) = False := eq_false (by omega)
      rw [hnm] at HN
      rw [hit] at HI
      clear HM hm H hop hnm hit
      by_cases h02 : a0_0 = 0 ∨ a0_0 = 2
      · have hl : lineL a0_0 a0_1 a0_2.data.toList = nameL a0_0 ++ [32] ++ Lib.itoa a0_1 := if_pos h02
        rw [hl]
        by_cases e0 : a0_0 = 0
        · have t0 : (a0_0 == 0) = true := by simp [e0]
          clear h02 e0
          go_enter Tryz.func13, Tryz.ntmps13
          go_wp2_with (go_at_call 17; refine (HMM.out _).mono ?_; rintro e w1 ⟨rfl, hb1⟩; have BK1 := Aside0.mk (BK0.out.keep hb1); have k0 := BK1.out.c0; have k1 := BK1.out.c1; have k2 := BK1.out.c2; clear hb1)
          obtain ⟨B, hB⟩ : ∃ B, w.heap.size = B := ⟨_, rfl⟩
          have HBB := Aside0.mk hB
          rw [hB] at k0 k1 k2 BK1 ⊢
          clear hB
          go_region_held3 (fun w' => w'.cell? ⟨B, 0, none⟩ = some (.int .i64 a0_0) ∧ w'.cell? ⟨B, 1, none⟩ = some (.int .i64 a0_1))
            (first | exact ⟨k0, k1⟩ | exact ⟨q0, q1⟩ | exact ⟨v0, v1⟩)
            (first
              | (go_at_call 19; refine (HN.out _ (gl_below HGL.out BK1.out.b.drew)).mono ?_; rintro e w2 ⟨rfl, hb2⟩; have BK2 := Aside0.mk (BK1.out.keep ((Below.refl _ _).drew.trans hb2)); have q0 := BK2.out.c0; have q1 := BK2.out.c1; clear hb2)
              | (go_at_call 44; refine (HI.out _ (gl_below HGL.out BK2.out.b)).mono ?_; rintro e w3 ⟨rfl, hb3⟩; have BK3 := Aside0.mk (BK2.out.keep hb3); have v0 := BK3.out.c0; have v1 := BK3.out.c1; clear hb3))
          go_wp2_with fail
          go_ret2
          refine ⟨?_, HBB.out ▸ BK3.out.b⟩
          rw [← HNM.out, ← HIT.out]
          rw [bs_append, bs_append]
          rfl
        · have t0 : (a0_0 == 0) = false := by simp [e0]
          have t1 : (a0_0 == 2) = true := by
            rcases h02 with h | h
            · exact absurd h e0
            · simp [h]
          clear h02 e0
          go_enter Tryz.func13, Tryz.ntmps13
          go_wp2_with (go_at_call 17; refine (HMM.out _).mono ?_; rintro e w1 ⟨rfl, hb1⟩; have BK1 := Aside0.mk (BK0.out.keep hb1); have k0 := BK1.out.c0; have k1 := BK1.out.c1; have k2 := BK1.out.c2; clear hb1)
          obtain ⟨B, hB⟩ : ∃ B, w.heap.size = B := ⟨_, rfl⟩
          have HBB := Aside0.mk hB
          rw [hB] at k0 k1 k2 BK1 ⊢
          clear hB
          go_region_held3 (fun w' => w'.cell? ⟨B, 0, none⟩ = some (.int .i64 a0_0) ∧ w'.cell? ⟨B, 1, none⟩ = some (.int .i64 a0_1))
            (first | exact ⟨k0, k1⟩ | exact ⟨q0, q1⟩ | exact ⟨v0, v1⟩)
            (first
              | (go_at_call 19; refine (HN.out _ (gl_below HGL.out BK1.out.b.drew)).mono ?_; rintro e w2 ⟨rfl, hb2⟩; have BK2 := Aside0.mk (BK1.out.keep ((Below.refl _ _).drew.trans hb2)); have q0 := BK2.out.c0; have q1 := BK2.out.c1; clear hb2)
              | (go_at_call 44; refine (HI.out _ (gl_below HGL.out BK2.out.b)).mono ?_; rintro e w3 ⟨rfl, hb3⟩; have BK3 := Aside0.mk (BK2.out.keep hb3); have v0 := BK3.out.c0; have v1 := BK3.out.c1; clear hb3))
          go_wp2_with fail
          go_ret2
          refine ⟨?_, HBB.out ▸ BK3.out.b⟩
          rw [← HNM.out, ← HIT.out]
          rw [bs_append, bs_append]
          rfl
      · have t0 : (a0_0 == 0) = false := by simp; omega
        have t1 : (a0_0 == 2) = false := by simp; omega
        by_cases e1 : a0_0 = 1
        · have hl : lineL a0_0 a0_1 a0_2.data.toList = nameL a0_0 ++ [32, 34] ++ esc a0_2.data.toList ++ [34] := by
            unfold lineL
            rw [if_neg h02, if_pos e1, e1]
          rw [hl]
          have t2 : (a0_0 == 1) = true := by simp [e1]
          have HES := Aside0.mk (CodePure.esc_length a0_2.data.toList)
          clear h02 e1
          go_enter Tryz.func13, Tryz.ntmps13
          go_wp2_with (go_at_call 17; refine (HMM.out _).mono ?_; rintro e w1 ⟨rfl, hb1⟩; have BK1 := Aside0.mk (BK0.out.keep hb1); have k0 := BK1.out.c0; have k1 := BK1.out.c1; have k2 := BK1.out.c2; clear hb1)
          obtain ⟨B, hB⟩ : ∃ B, w.heap.size = B := ⟨_, rfl⟩
          have HBB := Aside0.mk hB
          rw [hB] at k0 k1 k2 BK1 ⊢
          clear hB
          obtain ⟨es, hes⟩ : ∃ es, (⟨(esc a0_2.data.toList).toArray⟩ : ByteArray) = es := ⟨_, rfl⟩
          have HEE := Aside0.mk hes
          have s3 : es.size ≤ 140737488355328 := by
            rw [← hes]
            have h1 := HES.out
            have h2 := HW2.out
            show (esc a0_2.data.toList).length ≤ _
            have h3 : (a0_2.data.toList).length = a0_2.size := by simp
            omega
          have n3 : (9223372036854775807 < nm.size + 2) = False := eq_false (by omega)
          have n4 : (9223372036854775807 < nm.size + 2 + es.size) = False := eq_false (by omega)
          have n5 : (9223372036854775807 < nm.size + 2 + es.size + 1) = False := eq_false (by omega)
          clear hes
          go_region_held3 (fun w' => w'.cell? ⟨B, 2, none⟩ = some (.string a0_2))
            (first | exact k2 | exact q2 | exact v2 | (rw [World.cell?_drew, World.cell?_alloc_past _ _ _ BK1.out.lt]; exact k2))
            (first
              | (go_at_call 45; refine (newReplacer w1.heap.size _ ⟨by simp, by simp, by simp, by simp, by simp, by simp⟩).mono ?_; rintro e w2 ⟨p, ob, rfl, hrep, hpge, hb2⟩; have HRP := Aside0.mk hrep; have HPG : Aside0 (w1.heap.size ≤ p) := ⟨by simp at hpge; omega⟩; have BK2 := Aside0.mk (BK1.out.keep ((((Below.refl w1.heap.size w1).alloc (Nat.le_refl _) _).drew.trans (hb2.mono (by simp))))); have q2 := BK2.out.c2; clear hrep hpge hb2)
              | (go_at_call 46; refine (repl_Replace p ob a0_2 _ HRP.out HW2.out).mono ?_; rw [HEE.out]; rintro e w3 ⟨rfl, hb3⟩; have BK3 := Aside0.mk (BK2.out.keepP (Nat.lt_of_lt_of_le BK1.out.lt HPG.out) (Nat.le_trans BK1.out.b.size HPG.out) hb3); have v0 := BK3.out.c0; have v2 := BK3.out.c2; clear hb3))
          go_wp2_with (go_at_call 19; refine (HN.out _ (gl_below HGL.out BK3.out.b)).mono ?_; rintro e w4 ⟨rfl, hb4⟩; have BK4 := Aside0.mk (BK3.out.keep hb4); clear hb4)
          go_ret2
          refine ⟨?_, HBB.out ▸ BK4.out.b⟩
          rw [← HNM.out, ← HEE.out]
          rw [bs_append, bs_append, bs_append]
          rfl
        · have hl : lineL a0_0 a0_1 a0_2.data.toList = nameL a0_0 := by
            unfold lineL
            rw [if_neg h02, if_neg e1]
          rw [hl]
          have t2 : (a0_0 == 1) = false := by simp [e1]
          clear h02 e1
          go_enter Tryz.func13, Tryz.ntmps13
          go_wp2_with (first
            | (go_at_call 17; refine (HMM.out _).mono ?_; rintro e w1 ⟨rfl, hb1⟩; have BK1 := Aside0.mk (BK0.out.keep hb1); have k0 := BK1.out.c0; have k1 := BK1.out.c1; have k2 := BK1.out.c2; clear hb1)
            | (go_at_call 19; refine (HN.out _ (gl_below HGL.out BK1.out.b)).mono ?_; rintro e w2 ⟨rfl, hb2⟩; have BK2 := Aside0.mk (BK1.out.keep hb2); clear hb2))
          go_ret2
          refine ⟨?_, BK2.out.b⟩
          rw [← HNM.out]
          rfl
  · cases h
end Go.Proofs.YtmgcpjgpmjhemaaGreatDoor.Pc
