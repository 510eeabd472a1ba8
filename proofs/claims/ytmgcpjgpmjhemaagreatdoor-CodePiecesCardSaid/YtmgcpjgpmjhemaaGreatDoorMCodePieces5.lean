/-
Parts of the proof of CodePieces: ExtLine, ExtPrint, Pc14, PiecesPure. No condition of ours.
-/
import Derived.Test.YtmgcpjgpmjhemaaGreatDoorMCodePieces2
import Derived.Test.YtmgcpjgpmjhemaaGreatDoorMCodePieces4
import Derived.WalkSpells
import Derived.Deep.RegionHeld3
import Derived.Test.YtmgcpjgpmjhemaaGreatDoorMCodePieces3
import Derived.Test.YtmgcpjgpmjhemaaGreatDoorMCodePieces1
/-
The contract of code.Line in the form that the printed walks take.
-/
namespace Go.Proofs.YtmgcpjgpmjhemaaGreatDoor.Pc
open Go.RowKit Go.Proofs.YtmgcpjgpmjhemaaGreatDoorW.PrintWords Go.Proofs.YtmgcpjgpmjhemaaGreatDoorW.PrintLast Go.Proofs.YtmgcpjgpmjhemaaGreatDoorW.PrintMore
open CodePure (esc Bs)
set_option linter.unusedVariables false

def code_Line.f (op n : Int) (s : ByteArray) : Option (ByteArray × Int) :=
  if wfI op ∧ wfI n ∧ s.size ≤ 70368744177664 then some (if mayB op n s.data.toList then (bs (lineL op n s.data.toList), 0) else (⟨#[]⟩, 1)) else none

/-- What the box of the parameter holds. -/
structure Box (w0 : World) (op n : Int) (s : ByteArray) (B : Nat) (w : World) : Prop where
  c0 : w.cell? ⟨B, 0, none⟩ = some (.int .i64 op)
  c1 : w.cell? ⟨B, 1, none⟩ = some (.int .i64 n)
  c2 : w.cell? ⟨B, 2, none⟩ = some (.string s)
  b : Below w0.heap.size w0 w
  lt : B < w.heap.size
theorem Box.keep {w0 w w' : World} {op n : Int} {s : ByteArray} {B : Nat} (h : Box w0 op n s B w) (hb : Below w.heap.size w w') : Box w0 op n s B w' :=
  ⟨cell_keep hb h.c0, cell_keep hb h.c1, cell_keep hb h.c2, h.b.trans (hb.mono h.b.size), Nat.lt_of_lt_of_le h.lt hb.size⟩

theorem Box.keepP {w0 w w' : World} {op n : Int} {s : ByteArray} {B p : Nat} (h : Box w0 op n s B w) (hB : B < p) (h0 : w0.heap.size ≤ p) (hb : Below p w w') : Box w0 op n s B w' :=
  ⟨(hb.cell hB).trans h.c0, (hb.cell hB).trans h.c1, (hb.cell hB).trans h.c2, h.b.trans (hb.mono h0), Nat.lt_of_lt_of_le h.lt hb.size⟩

set_option maxRecDepth 100000 in
set_option maxHeartbeats 4000000 in
theorem code_Line.calls (a0_0 : Int) (a0_1 : Int) (a0_2 : ByteArray) (r1 : ByteArray) (r2 : Int) (w : World) (hG : Gl w) (h : code_Line.f a0_0 a0_1 a0_2 = some (r1, r2)) :
    Calls Tryz.prog 13 #[.agg #[.int .i64 a0_0, .int .i64 a0_1, .string a0_2]] w fun e w' => e = .returned (.tuple #[.string r1, .int .i64 r2]) ∧ Below w.heap.size w w' := by
  unfold code_Line.f at h
  split at h
  · rename_i hc
    obtain ⟨h0, h1, h2⟩ := hc
    have HM : ∀ W, Calls Tryz.prog 17 #[.agg #[.int .i64 a0_0, .int .i64 a0_1, .string a0_2]] W fun e w' => e = .returned (.bool (mayB a0_0 a0_1 a0_2.data.toList)) ∧ Below W.heap.size W w' := fun W => code_May.calls a0_0 a0_1 a0_2 _ W (may_eq a0_0 a0_1 a0_2 h0)
    have HGL := Aside0.mk hG
    have HW0 := Aside0.mk h0
    have HW1 := Aside0.mk h1
    have HW2 := Aside0.mk h2
    clear hG h0 h1 h2
    have H := Aside0.mk (Option.some.inj h)
    clear h
    have hnot : ∀ (x : Bool) (w : World), (Op.unary .not (.bool x)).run Tryz.prog w = .ok (.bool (!x)) w := fun _ _ => rfl
    have bk0 : Box w a0_0 a0_1 a0_2 w.heap.size (w.alloc (.cells #[.int .i64 a0_0, .int .i64 a0_1, .string a0_2] 23)) :=
      ⟨by simp, by simp, by simp, (Below.refl _ _).alloc (Nat.le_refl _) _, by simp⟩
    have BK0 := Aside0.mk bk0
    clear bk0
    cases hm : mayB a0_0 a0_1 a0_2.data.toList with
    | false =>
      rw [hm] at HM H
      obtain ⟨rfl, rfl⟩ := Prod.mk.inj H.out
      have HMM := Aside0.mk HM
      clear HM hm H
      go_enter Tryz.func13, Tryz.ntmps13
      go_wp2_with (go_at_call 17; refine (HMM.out _).mono ?_; rintro e w1 ⟨rfl, hb1⟩; have BK1 := Aside0.mk (BK0.out.keep hb1); clear hb1)
      go_ret2
      exact ⟨rfl, BK1.out.b⟩
    | true =>
      rw [hm] at HM H
      obtain ⟨rfl, rfl⟩ := Prod.mk.inj H.out
      have HMM := Aside0.mk HM
      have hop : 0 ≤ a0_0 ∧ a0_0 ≤ 23 := by
        unfold mayB at hm
        simp only [Bool.and_eq_true, decide_eq_true_eq] at hm
        exact hm.1.1
      have HN : Aside0 (∀ W, Gl W → Calls Tryz.prog 19 #[.int .i64 a0_0] W fun e w' => e = .returned (.string (bs (nameL a0_0))) ∧ Below W.heap.size W w') := ⟨fun W hg => code_Name.calls a0_0 _ W hg (name_eq a0_0 hop.1 hop.2)⟩
      have HI : Aside0 (∀ W, Gl W → Calls Tryz.prog 44 #[.int .i64 a0_1] W fun e w' => e = .returned (.string (bs (Lib.itoa a0_1))) ∧ Below W.heap.size W w') := ⟨fun W hg => itoa_call a0_1 HW1.out.1 HW1.out.2 W hg⟩
      obtain ⟨nm, hnm⟩ : ∃ nm, bs (nameL a0_0) = nm := ⟨_, rfl⟩
      obtain ⟨it, hit⟩ : ∃ it, bs (Lib.itoa a0_1) = it := ⟨_, rfl⟩
      have HNM := Aside0.mk hnm
      have HIT := Aside0.mk hit
      have s1 : nm.size ≤ 6 := by
        rw [← hnm]
        have hk : ∀ k : Nat, k < 24 → (nameL k).length ≤ 6 := by decide +kernel
        have := hk a0_0.toNat (by omega)
        rw [show ((a0_0.toNat : Nat) : Int) = a0_0 by omega] at this
        exact this
      have s2 : it.size ≤ 21 := by rw [← hit]; exact Lib.itoa_length_le a0_1 HW1.out.1 HW1.out.2
      have n1 : (9223372036854775807 < nm.size + 1) = False := eq_false (by omega)
      have n2 : (9223372036854775807 < nm.size + 1 + it.size) = False := eq_false (by omega)
      rw [hnm] at HN
      rw [hit] at HI
      clear HM hm H hop hnm hit
      by_cases h02 : a0_0 = 0 ∨ a0_0 = 2
      · have hl : lineL a0_0 a0_1 a0_2.data.toList = nameL a0_0 ++ [32] ++ Lib.itoa a0_1 := if_pos h02
        rw [hl]
        by_cases e0 : a0_0 = 0
        · have t0 : (a0_0 == 0) = true := by simp [e0]
          clear h02 e0
          go_enter Tryz.func13, Tryz.ntmps13
          go_wp2_with (go_at_call 17; refine (HMM.out _).mono ?_; rintro e w1 ⟨rfl, hb1⟩; have BK1 := Aside0.mk (BK0.out.keep hb1); have k0 := BK1.out.c0; have k1 := BK1.out.c1; have k2 := BK1.out.c2; clear hb1)
          obtain ⟨B, hB⟩ : ∃ B, w.heap.size = B := ⟨_, rfl⟩
          have HBB := Aside0.mk hB
          rw [hB] at k0 k1 k2 BK1 ⊢
          clear hB
          go_region_held3 (fun w' => w'.cell? ⟨B, 0, none⟩ = some (.int .i64 a0_0) ∧ w'.cell? ⟨B, 1, none⟩ = some (.int .i64 a0_1))
            (first | exact ⟨k0, k1⟩ | exact ⟨q0, q1⟩ | exact ⟨v0, v1⟩)
            (first
              | (go_at_call 19; refine (HN.out _ (gl_below HGL.out BK1.out.b.drew)).mono ?_; rintro e w2 ⟨rfl, hb2⟩; have BK2 := Aside0.mk (BK1.out.keep ((Below.refl _ _).drew.trans hb2)); have q0 := BK2.out.c0; have q1 := BK2.out.c1; clear hb2)
              | (go_at_call 44; refine (HI.out _ (gl_below HGL.out BK2.out.b)).mono ?_; rintro e w3 ⟨rfl, hb3⟩; have BK3 := Aside0.mk (BK2.out.keep hb3); have v0 := BK3.out.c0; have v1 := BK3.out.c1; clear hb3))
          go_wp2_with fail
          go_ret2
          refine ⟨?_, HBB.out ▸ BK3.out.b⟩
          rw [← HNM.out, ← HIT.out]
          rw [bs_append, bs_append]
          rfl
        · have t0 : (a0_0 == 0) = false := by simp [e0]
          have t1 : (a0_0 == 2) = true := by
            rcases h02 with h | h
            · exact absurd h e0
            · simp [h]
          clear h02 e0
          go_enter Tryz.func13, Tryz.ntmps13
          go_wp2_with (go_at_call 17; refine (HMM.out _).mono ?_; rintro e w1 ⟨rfl, hb1⟩; have BK1 := Aside0.mk (BK0.out.keep hb1); have k0 := BK1.out.c0; have k1 := BK1.out.c1; have k2 := BK1.out.c2; clear hb1)
          obtain ⟨B, hB⟩ : ∃ B, w.heap.size = B := ⟨_, rfl⟩
          have HBB := Aside0.mk hB
          rw [hB] at k0 k1 k2 BK1 ⊢
          clear hB
          go_region_held3 (fun w' => w'.cell? ⟨B, 0, none⟩ = some (.int .i64 a0_0) ∧ w'.cell? ⟨B, 1, none⟩ = some (.int .i64 a0_1))
            (first | exact ⟨k0, k1⟩ | exact ⟨q0, q1⟩ | exact ⟨v0, v1⟩)
            (first
              | (go_at_call 19; refine (HN.out _ (gl_below HGL.out BK1.out.b.drew)).mono ?_; rintro e w2 ⟨rfl, hb2⟩; have BK2 := Aside0.mk (BK1.out.keep ((Below.refl _ _).drew.trans hb2)); have q0 := BK2.out.c0; have q1 := BK2.out.c1; clear hb2)
              | (go_at_call 44; refine (HI.out _ (gl_below HGL.out BK2.out.b)).mono ?_; rintro e w3 ⟨rfl, hb3⟩; have BK3 := Aside0.mk (BK2.out.keep hb3); have v0 := BK3.out.c0; have v1 := BK3.out.c1; clear hb3))
          go_wp2_with fail
          go_ret2
          refine ⟨?_, HBB.out ▸ BK3.out.b⟩
          rw [← HNM.out, ← HIT.out]
          rw [bs_append, bs_append]
          rfl
      · have t0 : (a0_0 == 0) = false := by simp; omega
        have t1 : (a0_0 == 2) = false := by simp; omega
        by_cases e1 : a0_0 = 1
        · have hl : lineL a0_0 a0_1 a0_2.data.toList = nameL a0_0 ++ [32, 34] ++ esc a0_2.data.toList ++ [34] := by
            unfold lineL
            rw [if_neg h02, if_pos e1, e1]
          rw [hl]
          have t2 : (a0_0 == 1) = true := by simp [e1]
          have HES := Aside0.mk (CodePure.esc_length a0_2.data.toList)
          clear h02 e1
          go_enter Tryz.func13, Tryz.ntmps13
          go_wp2_with (go_at_call 17; refine (HMM.out _).mono ?_; rintro e w1 ⟨rfl, hb1⟩; have BK1 := Aside0.mk (BK0.out.keep hb1); have k0 := BK1.out.c0; have k1 := BK1.out.c1; have k2 := BK1.out.c2; clear hb1)
          obtain ⟨B, hB⟩ : ∃ B, w.heap.size = B := ⟨_, rfl⟩
          have HBB := Aside0.mk hB
          rw [hB] at k0 k1 k2 BK1 ⊢
          clear hB
          obtain ⟨es, hes⟩ : ∃ es, (⟨(esc a0_2.data.toList).toArray⟩ : ByteArray) = es := ⟨_, rfl⟩
          have HEE := Aside0.mk hes
          have s3 : es.size ≤ 140737488355328 := by
            rw [← hes]
            have h1 := HES.out
            have h2 := HW2.out
            show (esc a0_2.data.toList).length ≤ _
            have h3 : (a0_2.data.toList).length = a0_2.size := by simp
            omega
          have n3 : (9223372036854775807 < nm.size + 2) = False := eq_false (by omega)
          have n4 : (9223372036854775807 < nm.size + 2 + es.size) = False := eq_false (by omega)
          have n5 : (9223372036854775807 < nm.size + 2 + es.size + 1) = False := eq_false (by omega)
          clear hes
          go_region_held3 (fun w' => w'.cell? ⟨B, 2, none⟩ = some (.string a0_2))
            (first | exact k2 | exact q2 | exact v2 | (rw [World.cell?_drew, World.cell?_alloc_past _ _ _ BK1.out.lt]; exact k2))
            (first
              | (go_at_call 45; refine (newReplacer w1.heap.size _ ⟨by simp, by simp, by simp, by simp, by simp, by simp⟩).mono ?_; rintro e w2 ⟨p, ob, rfl, hrep, hpge, hb2⟩; have HRP := Aside0.mk hrep; have HPG : Aside0 (w1.heap.size ≤ p) := ⟨by simp at hpge; omega⟩; have BK2 := Aside0.mk (BK1.out.keep ((((Below.refl w1.heap.size w1).alloc (Nat.le_refl _) _).drew.trans (hb2.mono (by simp))))); have q2 := BK2.out.c2; clear hrep hpge hb2)
              | (go_at_call 46; refine (repl_Replace p ob a0_2 _ HRP.out HW2.out).mono ?_; rw [HEE.out]; rintro e w3 ⟨rfl, hb3⟩; have BK3 := Aside0.mk (BK2.out.keepP (Nat.lt_of_lt_of_le BK1.out.lt HPG.out) (Nat.le_trans BK1.out.b.size HPG.out) hb3); have v0 := BK3.out.c0; have v2 := BK3.out.c2; clear hb3))
          go_wp2_with (go_at_call 19; refine (HN.out _ (gl_below HGL.out BK3.out.b)).mono ?_; rintro e w4 ⟨rfl, hb4⟩; have BK4 := Aside0.mk (BK3.out.keep hb4); clear hb4)
          go_ret2
          refine ⟨?_, HBB.out ▸ BK4.out.b⟩
          rw [← HNM.out, ← HEE.out]
          rw [bs_append, bs_append, bs_append]
          rfl
        · have hl : lineL a0_0 a0_1 a0_2.data.toList = nameL a0_0 := by
            unfold lineL
            rw [if_neg h02, if_neg e1]
          rw [hl]
          have t2 : (a0_0 == 1) = false := by simp [e1]
          clear h02 e1
          go_enter Tryz.func13, Tryz.ntmps13
          go_wp2_with (first
            | (go_at_call 17; refine (HMM.out _).mono ?_; rintro e w1 ⟨rfl, hb1⟩; have BK1 := Aside0.mk (BK0.out.keep hb1); have k0 := BK1.out.c0; have k1 := BK1.out.c1; have k2 := BK1.out.c2; clear hb1)
            | (go_at_call 19; refine (HN.out _ (gl_below HGL.out BK1.out.b)).mono ?_; rintro e w2 ⟨rfl, hb2⟩; have BK2 := Aside0.mk (BK1.out.keep hb2); clear hb2))
          go_ret2
          refine ⟨?_, BK2.out.b⟩
          rw [← HNM.out]
          rfl
  · cases h
end Go.Proofs.YtmgcpjgpmjhemaaGreatDoor.Pc

/-
The contract of code.Print in the form that the printed walks take.
-/
namespace Go.Proofs.YtmgcpjgpmjhemaaGreatDoor.Pc
open Go.RowKit Go.Proofs.YtmgcpjgpmjhemaaGreatDoorW.PrintWords Go.Proofs.YtmgcpjgpmjhemaaGreatDoorW.PrintLast Go.Proofs.YtmgcpjgpmjhemaaGreatDoorW.PrintMore
open CodePure (esc Bs)
set_option linter.unusedVariables false

theorem ownsRow_keep {B : Nat} {e : TypeId} {k : Nat} {v : Value} {n : Nat} {xs : List Value} {w w' : World} (h : w.ownsRow B e k v n xs) (hb : Below w.heap.size w w') : w'.ownsRow B e k v n xs :=
  h.kept (row := none) ⟨hb.os, hb.tape, hb.output, hb.size, fun j hj _ => hb.block j hj⟩ (by cases hv : v.ownBlock <;> simp)
theorem isB_keep {B b : Nat} {l : List UInt8} {w w' : World} (h : IsB B b l w) (hb : Below w.heap.size w w') : IsB B b l w' := by
  rcases h with ⟨h0, v, h1, h2, h3⟩ | ⟨h0, v, h1, h2, h3⟩
  · exact .inl ⟨h0, v, (hb.block b (by rcases Nat.lt_or_ge b w.heap.size with h | h; exact h; rw [Array.getElem?_eq_none h] at h1; cases h1)).trans h1, ownsRow_keep h2 hb, h3⟩
  · exact .inr ⟨h0, v, (hb.block b (by rcases Nat.lt_or_ge b w.heap.size with h | h; exact h; rw [Array.getElem?_eq_none h] at h1; cases h1)).trans h1, ownsRow_keep h2 hb, h3⟩
theorem strCells_bs (l : List UInt8) : Lib.strCells (bs l) = Lib.byteCells l := by
  simp [Lib.strCells, Lib.byteCells, bs]

set_option maxRecDepth 100000 in
set_option maxHeartbeats 4000000 in
theorem code_Print.calls (A0 : Option Addr) (c0 : Nat) (l0 : List S23) (r1 : ByteArray) (r2 : Int) (w : World) (hr0 : Kd.C k23 w A0 l0.length l0) (hc0 : l0.length ≤ c0) (hG : Gl w) (h : code_Print.f l0 = some (r1, r2)) :
    Calls Tryz.prog 22 #[.slice A0 l0.length c0] w fun e w' => e = .returned (.tuple #[.string r1, .int .i64 r2]) ∧ Below w.heap.size w w' := by
  have HR0 := Aside0.mk hr0
  have HGL := Aside0.mk hG
  clear hr0 hG
  unfold code_Print.f at h
  split at h
  · rename_i hc
    have c2 : decide (200 < (l0.length : Int)) = true := decide_eq_true (by omega)
    obtain ⟨rfl, rfl⟩ := Prod.mk.inj (Option.some.inj h)
    clear h
    go_enter Tryz.func22, Tryz.ntmps22
    go_wp2
    go_ret2
    exact ⟨rfl, Below.refl _ _⟩
  · split at h
    · rename_i hc hok
      have HC : Aside0 (l0.length ≤ 200) := ⟨by omega⟩
      have HOK := Aside0.mk hok
      have H := Aside0.mk (Option.some.inj h)
      have c2 : decide (200 < (l0.length : Int)) = false := decide_eq_false (by omega)
      clear h hok hc
      go_enter Tryz.func22, Tryz.ntmps22
      go_wp2_with fail
      have hB0 : IsB w.heap.size w.heap.size (linesL (l0.take 0)) (w.alloc (.cells #[.pointer none, .slice none 0 0] 84)) :=
        .inl ⟨Nat.le_refl _, .slice none 0 0, heap_alloc_new w _, own_nil _ _ _ _, by simp [Value.ownBlock]⟩
      have HB0 := Aside0.mk hB0
      have HW0 : Aside0 (Below w.heap.size w (w.alloc (.cells #[.pointer none, .slice none 0 0] 84))) := ⟨(Below.refl w.heap.size w).alloc (Nat.le_refl _) _⟩
      clear hB0
      obtain ⟨B, hB⟩ : ∃ B, w.heap.size = B := ⟨_, rfl⟩
      have HBB := Aside0.mk hB
      rw [hB] at HB0 HW0 ⊢
      clear hB
      go_loopw [14] (fun i wr => ∃ k : Nat, k ≤ l0.length ∧ i = .int .i64 k ∧ Aside0 ((l0.take k).all mayS = true) ∧ Aside0 (IsB B B (linesL (l0.take k)) wr) ∧ Aside0 (Below B w wr) ∧ Aside0 ((linesL (l0.take k)).length ≤ 200101 * k)) (fun i _ => l0.length - (intOf i).toNat)
      case atStart => exact ⟨0, Nat.zero_le _, rfl, ⟨rfl⟩, HB0, HW0, ⟨Nat.le_refl _⟩⟩
      case round =>
        obtain ⟨k, hk, rfl, HM, HBl, HW, HL⟩ := hrel
        by_cases hlt : k < l0.length
        · obtain ⟨x, hx⟩ : ∃ x, rd_T23 l0 k = x := ⟨_, rfl⟩
          have hat := rd_at hlt
          rw [hx] at hat
          have hokx : okS x := HOK.out x (List.mem_of_getElem? hat)
          have HTK := Aside0.mk (linesL_take hat)
          have HAL : Aside0 ((l0.take (k + 1)).all mayS = mayS x) := ⟨by rw [List.take_add_one, hat]; simp only [Option.toList_some, List.all_append, HM.out, List.all_cons, List.all_nil, Bool.true_and, Bool.and_true]⟩
          obtain ⟨ad, hA, d0, d1, d2⟩ := at_T23 HR0.out k (by omega) (by omega)
          rw [hx] at d0 d1 d2
          simp only [Int.toNat_natCast] at d0 d1 d2
          subst hA
          have D0 := (HW.out.cell (HBB.out ▸ World.block_lt_of_cell? w _ d0)).trans d0
          have D1 := (HW.out.cell (HBB.out ▸ World.block_lt_of_cell? w _ d1)).trans d1
          have D2 := (HW.out.cell (HBB.out ▸ World.block_lt_of_cell? w _ d2)).trans d2
          have hBw := HW.out.size
          rw [HBB.out] at hBw
          have HLF : Aside0 (code_Line.f x.f0 x.f1 x.f2 = some (if mayS x then (bs (lineS x), 0) else (⟨#[]⟩, 1))) := ⟨if_pos ⟨hokx.1, hokx.2.1, by have := hokx.2.2; omega⟩⟩
          have HOX := Aside0.mk hokx
          have hmem : x ∈ l0 := List.mem_of_getElem? hat
          have HMEM := Aside0.mk hmem
          clear hx hat hokx d0 d1 d2 hmem
          cases hm : mayS x with
          | true =>
            have HMX := Aside0.mk hm
            have hlen := lineS_len x HOX.out hm
            rw [hm] at HLF
            have HLN : Aside0 (∀ W, Gl W → Calls Tryz.prog 13 #[.agg #[.int .i64 x.f0, .int .i64 x.f1, .string x.f2]] W fun e w' => e = .returned (.tuple #[.string (bs (lineS x)), .int .i64 0]) ∧ Below W.heap.size W w') := ⟨fun W hg => code_Line.calls x.f0 x.f1 x.f2 _ _ W hg HLF.out⟩
            obtain ⟨ln, hln⟩ : ∃ ln, bs (lineS x) = ln := ⟨_, rfl⟩
            have HLNE := Aside0.mk hln
            have hsz : ln.size ≤ 200100 := by rw [← hln]; exact hlen
            have n1 : (9223372036854775807 < ln.size + 1) = False := eq_false (by omega)
            rw [hln] at HLN
            have HSC : Aside0 (Lib.strCells (ln ++ ⟨#[10]⟩) = Lib.byteCells (lineS x ++ [10])) := ⟨by rw [← hln, ← strCells_bs, bs_append]; rfl⟩
            have HSZ : Aside0 ((ln ++ ⟨#[10]⟩ : ByteArray).size ≤ 200101) := ⟨by rw [ByteArray.size_append]; show ln.size + 1 ≤ _; omega⟩
            have hk1 : k + 1 ≤ l0.length := by omega
            have hk2 : k < 200 := by have := HC.out; omega
            have HK1 : Aside0 (k < l0.length ∧ k + 1 ≤ l0.length) := ⟨hlt, hk1⟩
            clear hm hlen hln hk1
            go_wp2_with (first
              | (go_at_call 13; refine (HLN.out _ (gl_below HGL.out (HBB.out ▸ HW.out.alloc hBw _))).mono ?_; rintro e w2 ⟨rfl, hb2⟩; have hb3 := ((Below.refl wr.heap.size wr).alloc (Nat.le_refl _) _).trans (hb2.mono (by simp)); have HBl2 := Aside0.mk (isB_keep HBl.out hb3); have HW2 := Aside0.mk (HW.out.trans (hb3.mono hBw)); clear hb2 hb3)
              | (go_at_call 58; refine (Tryz.Builder_WriteString B B _ _ _ HBl2.out (by have h1 := HL.out; have h2 := HSZ.out; have h3 := HC.out; simp only [Lib.byteCells, List.length_map]; omega) (by have h2 := HW2.out.size; rw [HBB.out] at h2; exact h2)).mono ?_; rw [HSC.out]; rintro e w3 ⟨rfl, hbd, hb3⟩; have HBl3 : Aside0 (IsB B B (linesL (l0.take (k + 1))) w3) := ⟨.inr (by rw [HTK.out, Lib.byteCells, List.map_append]; exact hbd)⟩; have HW3 := Aside0.mk (HW2.out.trans hb3); clear hbd hb3))
            go_roundw
            case rel => exact ⟨k + 1, HK1.out.2, by go_num, ⟨by rw [HAL.out]; exact HMX.out⟩, HBl3, HW3, ⟨by rw [HTK.out, List.length_append, List.length_append]; have h1 := HL.out; have h2 := lineS_len x HOX.out HMX.out; simp only [List.length_singleton]; omega⟩⟩
            case measure =>
              have := HK1.out.1
              simp [intOf]
              omega
          | false =>
            have hall : l0.all mayS = false := by
              rw [Bool.eq_false_iff]
              intro hall
              have := List.all_eq_true.1 hall x HMEM.out
              rw [hm] at this
              cases this
            have hr := H.out
            rw [hall] at hr
            obtain ⟨rfl, rfl⟩ := Prod.mk.inj hr
            rw [hm] at HLF
            have HLN : Aside0 (∀ W, Gl W → Calls Tryz.prog 13 #[.agg #[.int .i64 x.f0, .int .i64 x.f1, .string x.f2]] W fun e w' => e = .returned (.tuple #[.string ⟨#[]⟩, .int .i64 1]) ∧ Below W.heap.size W w') := ⟨fun W hg => code_Line.calls x.f0 x.f1 x.f2 _ _ W hg HLF.out⟩
            clear hm hall hr
            go_wp2_with (first
              | (go_at_call 13; refine (HLN.out _ (gl_below HGL.out (HBB.out ▸ HW.out.alloc hBw _))).mono ?_; rintro e w2 ⟨rfl, hb2⟩; have hb3 := ((Below.refl wr.heap.size wr).alloc (Nat.le_refl _) _).trans (hb2.mono (by simp)); have HW2 := Aside0.mk (HW.out.trans (hb3.mono hBw)); clear hb2 hb3))
            go_ret2
            exact ⟨rfl, HBB.out ▸ HW2.out⟩
        · obtain rfl : k = l0.length := by omega
          have htk : l0.take l0.length = l0 := List.take_of_length_le (Nat.le_refl _)
          rw [htk] at HM HBl
          have hr := H.out
          rw [HM.out] at hr
          obtain ⟨rfl, rfl⟩ := Prod.mk.inj hr
          have hBw := HW.out.size
          rw [HBB.out] at hBw
          clear hr htk hlt hk
          go_wp2_with (go_at_call 59; refine (Tryz.Builder_String_any B B (linesL l0) wr HBl.out hBw).mono ?_; rintro e w' ⟨rfl, hbw⟩; have HW2 := Aside0.mk (HW.out.trans hbw); clear hbw)
          go_ret2
          exact ⟨rfl, HBB.out ▸ HW2.out⟩
    · cases h
end Go.Proofs.YtmgcpjgpmjhemaaGreatDoor.Pc

namespace Go.Proofs.YtmgcpjgpmjhemaaGreatDoor.Pc
open Go.RowKit Go.Proofs.YtmgcpjgpmjhemaaGreatDoorW.PrintWords Go.Proofs.YtmgcpjgpmjhemaaGreatDoorW.PrintLast Go.Proofs.YtmgcpjgpmjhemaaGreatDoorW.PrintMore
attribute [local go_sem] max2_int min2_int max_two min_two max_three min_three max_four min_four   -- for this text's walks alone
set_option linter.unusedVariables false
set_option linter.unusedSimpArgs false

/-! ### threshinglaw14_CodePieces: function 7 -/
mutual
def threshinglaw14_CodePieces.j0 : Nat → List (S23) → List (S23) → Int → Bool → Option (Bool)
  | 0, _, _, _, _ => none
  | k + 1, x0, x1, x2, x37 => if x37 = true then ((threshinglaw14_alive.f k).bind fun t301 => (some t301)) else ((code_Print.f x0).bind fun bt302 => ((code_Print.f x1).bind fun bt304 => ((some (([] : List (S23)) : List (S23))).bind fun y306 => (if y306.length + x0.length < 4398046511104 then ((some (y306 ++ x0 : List (S23))).bind fun y309 => (if y309.length + x1.length < 4398046511104 then ((some (y309 ++ x1 : List (S23))).bind fun y312 => ((code_Print.f y312).bind fun bt315 => (if bt302.2 = 0 then (threshinglaw14_CodePieces.j1 k x2 bt302.1 bt304.1 y312 bt315.1 bt315.2 ((bt315.2 == 0) != (bt304.2 == 0))) else (threshinglaw14_CodePieces.j1 k x2 bt302.1 bt304.1 y312 bt315.1 bt315.2 ((bt315.2 == 0) != false))))) else (none))) else (none)))))
def threshinglaw14_CodePieces.j1 : Nat → Int → ByteArray → ByteArray → List (S23) → ByteArray → Int → Bool → Option (Bool)
  | 0, _, _, _, _, _, _, _ => none
  | k + 1, x2, x7, x9, x11, x12, x13, x67 => if x67 = true then (some false) else (if x13 = 0 then (if x2 < 0 then (threshinglaw14_CodePieces.j2 k x2 x7 x9 x11 x12 x13 true) else (threshinglaw14_CodePieces.j2 k x2 x7 x9 x11 x12 x13 (decide (x2 ≥ (x11.length : Int))))) else (threshinglaw14_CodePieces.j2 k x2 x7 x9 x11 x12 x13 true))
def threshinglaw14_CodePieces.j2 : Nat → Int → ByteArray → ByteArray → List (S23) → ByteArray → Int → Bool → Option (Bool)
  | 0, _, _, _, _, _, _, _ => none
  | k + 1, x2, x7, x9, x11, x12, x13, x79 => if x79 = true then ((threshinglaw14_alive.f k).bind fun t317 => (if t317 = true then (if x13 = 0 then (if x7.size + x9.size ≤ 9223372036854775807 then (some (x12.toList == (x7 ++ x9).toList)) else (none)) else (some true)) else (some false))) else (if 0 ≤ x2 then (if x2 ≤ (x11.length : Int) then ((code_Print.f (x11.take (x2 : Int).toNat)).bind fun bt322 => (if 0 ≤ (wrap64 (x2 + 1)) then (if (wrap64 (x2 + 1)) ≤ (x11.length : Int) then ((code_Print.f (x11.drop ((wrap64 (x2 + 1)) : Int).toNat)).bind fun bt328 => (if bt322.1.size + bt328.1.size ≤ 9223372036854775807 then ((code_Read.f k (bt322.1 ++ bt328.1)).bind fun bt330 => ((threshinglaw14_alive.f k).bind fun t334 => (if t334 = true then (if x7.size + x9.size ≤ 9223372036854775807 then (if x12.toList = (x7 ++ x9).toList then (if bt330.2 = 0 then ((some (([] : List (S23)) : List (S23))).bind fun y335 => ((some (x11.take (x2 : Int).toNat : List (S23))).bind fun y338 => (if y335.length + y338.length < 4398046511104 then ((some (y335 ++ y338 : List (S23))).bind fun y342 => ((some (x11.drop ((wrap64 (x2 + 1)) : Int).toNat : List (S23))).bind fun y345 => (if y342.length + y345.length < 4398046511104 then ((code_Same.f k bt330.1 (y342 ++ y345)).bind fun t352 => (some t352)) else (none)))) else (none)))) else (some false)) else (some false)) else (none)) else (some false)))) else (none))) else (none)) else (none))) else (none)) else (none))
end
def threshinglaw14_CodePieces.f (k : Nat) (l0 : List (S23)) (l1 : List (S23)) (a2 : Int) : Option (Bool) := (threshinglaw14_small.f k l0).bind fun t299 => (if t299 = true then ((threshinglaw14_small.f k l1).bind fun t300 => (if t300 = true then (if (l0.length : Int) > 100 then (threshinglaw14_CodePieces.j0 k l0 l1 a2 true) else (threshinglaw14_CodePieces.j0 k l0 l1 a2 (decide ((l1.length : Int) > 100)))) else (threshinglaw14_CodePieces.j0 k l0 l1 a2 true))) else (threshinglaw14_CodePieces.j0 k l0 l1 a2 true))
def threshinglaw14_CodePieces.T14 : Bool × List (List Nat × List Nat) := (true, [([], []), ([0, 0], [0]), ([1], [1]), ([1], [1]), ([1], [1]), ([3, 4, 1], [1, 3, 4]), ([2, 5, 1], [1, 2, 5]), ([1, 6], [1, 6]), ([7, 1], [7]), ([8], [8]), ([9, 8], [8, 9]), ([8, 10], [8, 10]), ([11, 8], [11]), ([12], [12]), ([12], [12]), ([12], [12]), ([12], [12]), ([15, 16, 12], [12, 15, 16]), ([14, 17, 12, 12], [12, 14, 17]), ([12], [12]), ([12], [12]), ([20, 12], [12, 20]), ([19, 21, 12], [12, 19, 21]), ([18, 22, 18, 12], [12, 18, 22]), ([13, 23, 23, 12], [12, 13, 23]), ([12, 24], [12, 24]), ([25, 24, 0, 1, 2, 3, 4, 5, 6, 7, 8, 9, 10, 11, 12, 13, 14, 15, 16, 17, 18, 19, 20, 21, 22, 23, 24, 25], [25])])
def threshinglaw14_CodePieces.B14 : List Nat := [0, 1, 3, 3, 3, 27, 63, 127, 255, 511, 1023, 2047, 4095, 8191, 8191, 8191, 8191, 106495, 253951, 8191, 8191, 1056767, 3678207, 8380415, 16777215, 33554431, 67108863]
theorem threshinglaw14_CodePieces.tab14 : rtab .any (opsOf Tryz.f7 14) = threshinglaw14_CodePieces.T14 := by kernel_rfl
theorem threshinglaw14_CodePieces.bits14 : waitsOk threshinglaw14_CodePieces.T14.2 threshinglaw14_CodePieces.B14 = true := by kernel_rfl
set_option maxHeartbeats 8000000 in
set_option maxRecDepth 100000 in
theorem threshinglaw14_CodePieces.calls (k : Nat) (A0 : Option Addr) (c0 : Nat) (l0 : List (S23)) (A1 : Option Addr) (c1 : Nat) (l1 : List (S23)) (a2 : Int) (r : Bool) (w : World) (hr0 : Kd.C k23 w A0 l0.length l0) (hc0 : l0.length ≤ c0) (hr1 : Kd.C k23 w A1 l1.length l1) (hc1 : l1.length ≤ c1) (hG : Gl w) (h : threshinglaw14_CodePieces.f k l0 l1 a2 = some r) (hrt : r = true) :
    Calls Tryz.prog 7 #[.slice A0 l0.length c0, .slice A1 l1.length c1, .int .i64 a2] w fun e w' => e = .returned (.bool r) ∧ Below w.heap.size w w' := by
  have HRT := Aside0.mk hrt
  clear hrt
  have HR0 := Aside0.mk hr0
  have HC0 := Aside0.mk hc0
  clear hr0 hc0
  have HR1 := Aside0.mk hr1
  have HC1 := Aside0.mk hc1
  clear hr1 hc1
  have HB := Aside0.mk (Below.refl w.heap.size w)
  have HGL := Aside0.mk hG
  clear hG
  have H : ((threshinglaw14_small.f k l0).bind fun t299 => (if t299 = true then ((threshinglaw14_small.f k l1).bind fun t300 => (if t300 = true then (if (l0.length : Int) > 100 then (threshinglaw14_CodePieces.j0 k l0 l1 a2 true) else (threshinglaw14_CodePieces.j0 k l0 l1 a2 (decide ((l1.length : Int) > 100)))) else (threshinglaw14_CodePieces.j0 k l0 l1 a2 true))) else (threshinglaw14_CodePieces.j0 k l0 l1 a2 true))) = some r := h
  clear h
  have HC4 := Aside0.mk H
  clear H
  go_enter Tryz.func7, Tryz.ntmps7
  go_upto_region 1 with (fail)
  go_cut [37] (fun v37 wc => ∃ (kq : Nat) (x37_3 : Bool), v37 = .bool x37_3 ∧ Aside0 (threshinglaw14_CodePieces.j0 kq l0 l1 a2 x37_3 = some r) ∧ Aside0 (kq ≤ k) ∧ Aside0 (Below w.heap.size w wc))
  case first =>
    have H := HC4.out
    clear HC4
    replace H := Option.bind_eq_some_iff.mp H
    obtain ⟨t299, A50, H⟩ := H
    (try dsimp only at H)
    have A5 := Aside0.mk A50
    clear A50
    by_cases c6 : t299 = true
    · subst c6
      have H1 := H; rw [if_pos rfl] at H1
      clear H
      have H := H1
      clear H1
      replace H := Option.bind_eq_some_iff.mp H
      obtain ⟨t300, A70, H⟩ := H
      (try dsimp only at H)
      have A7 := Aside0.mk A70
      clear A70
      by_cases c8 : t300 = true
      · subst c8
        have H1 := H; rw [if_pos rfl] at H1
        clear H
        have H := H1
        clear H1
        by_cases c9 : (l0.length : Int) > 100
        · rw [if_pos c9] at H
          have c9b0 : decide (100 < (l0.length : Int)) = true := decide_eq_true c9
          have c9b1 : decide (100 < l0.length) = true := decide_eq_true (by omega)
          clear c9
          (first | rw [c9b0] | (simp only [i64_w, i32_w]; rw [c9b0]) | skip)
          have H' := Aside0.mk H
          clear H
          go_wp2_with (first | ((with_reducible refine gate_callee (f := 21) rfl ?_); refine goesL_ (some 21) rfl rfl Tryz.func21 (by kernel_rfl) rfl #[.slice A0 l0.length c0] rfl (by (try simp only [List.map_toArray, List.map_cons, List.map_nil]); first | done | rfl | (simp only [List.length_drop, List.length_take]; rfl)) ?_; (with_reducible refine (threshinglaw14_small.calls k _ _ l0 true _ ?side1 ?side2 A5.out).mono ?_); (case side1 => repeat (first | exact (Kd.C_below HR0.out HB.out) | (with_reducible refine Kd.C_alloc ?_ _) | (with_reducible refine Kd.C_drewN ?_ _) | (with_reducible refine Kd.C_drew ?_))); (case side2 => exact HC0.out); rintro e w' ⟨rfl, ⟨nd, rfl⟩⟩; refine ⟨_, rfl, ?_⟩) | (go_at_call 21; (with_reducible refine (threshinglaw14_small.calls k _ _ l1 true _ ?side1 ?side2 A7.out).mono ?_); (case side1 => repeat (first | exact (Kd.C_below HR1.out (by repeat (first | (with_reducible first | exact HB.out | apply below_alloc | apply pw_below_drewN | apply below_drew1) | exact HB.out))) | (with_reducible refine Kd.C_alloc ?_ _) | (with_reducible refine Kd.C_drewN ?_ _) | (with_reducible refine Kd.C_drew ?_))); (case side2 => exact HC1.out); rintro e w' ⟨rfl, ⟨nd, rfl⟩⟩))
          go_meet
          case rel => exact ⟨_, (true), (by first | rfl | (simp; done) | (simp [*]; done)), H', ⟨by first | omega | exact Nat.le_refl _⟩, ⟨by repeat (first | (with_reducible first | exact HB.out | apply below_alloc | apply pw_below_drewN | apply below_drew1) | exact HB.out)⟩⟩
        · rw [if_neg c9] at H
          have c9b0 : decide (100 < (l0.length : Int)) = false := decide_eq_false c9
          have c9b1 : decide (100 < l0.length) = false := decide_eq_false (by omega)
          clear c9
          (first | rw [c9b0] | (simp only [i64_w, i32_w]; rw [c9b0]) | skip)
          have H' := Aside0.mk H
          clear H
          go_wp2_with (first | ((with_reducible refine gate_callee (f := 21) rfl ?_); refine goesL_ (some 21) rfl rfl Tryz.func21 (by kernel_rfl) rfl #[.slice A0 l0.length c0] rfl (by (try simp only [List.map_toArray, List.map_cons, List.map_nil]); first | done | rfl | (simp only [List.length_drop, List.length_take]; rfl)) ?_; (with_reducible refine (threshinglaw14_small.calls k _ _ l0 true _ ?side1 ?side2 A5.out).mono ?_); (case side1 => repeat (first | exact (Kd.C_below HR0.out HB.out) | (with_reducible refine Kd.C_alloc ?_ _) | (with_reducible refine Kd.C_drewN ?_ _) | (with_reducible refine Kd.C_drew ?_))); (case side2 => exact HC0.out); rintro e w' ⟨rfl, ⟨nd, rfl⟩⟩; refine ⟨_, rfl, ?_⟩) | (go_at_call 21; (with_reducible refine (threshinglaw14_small.calls k _ _ l1 true _ ?side1 ?side2 A7.out).mono ?_); (case side1 => repeat (first | exact (Kd.C_below HR1.out (by repeat (first | (with_reducible first | exact HB.out | apply below_alloc | apply pw_below_drewN | apply below_drew1) | exact HB.out))) | (with_reducible refine Kd.C_alloc ?_ _) | (with_reducible refine Kd.C_drewN ?_ _) | (with_reducible refine Kd.C_drew ?_))); (case side2 => exact HC1.out); rintro e w' ⟨rfl, ⟨nd, rfl⟩⟩))
          go_meet
          case rel => exact ⟨_, (decide ((l1.length : Int) > 100)), (by first | rfl | (simp; done) | (simp [*]; done)), H', ⟨by first | omega | exact Nat.le_refl _⟩, ⟨by repeat (first | (with_reducible first | exact HB.out | apply below_alloc | apply pw_below_drewN | apply below_drew1) | exact HB.out)⟩⟩
      · replace c8 := Bool.eq_false_iff.mpr c8
        subst c8
        have H1 := H; rw [if_neg (show ¬ (false = true) by decide)] at H1
        clear H
        have H := H1
        clear H1
        have H' := Aside0.mk H
        clear H
        go_wp2_with (first | ((with_reducible refine gate_callee (f := 21) rfl ?_); refine goesL_ (some 21) rfl rfl Tryz.func21 (by kernel_rfl) rfl #[.slice A0 l0.length c0] rfl (by (try simp only [List.map_toArray, List.map_cons, List.map_nil]); first | done | rfl | (simp only [List.length_drop, List.length_take]; rfl)) ?_; (with_reducible refine (threshinglaw14_small.calls k _ _ l0 true _ ?side1 ?side2 A5.out).mono ?_); (case side1 => repeat (first | exact (Kd.C_below HR0.out HB.out) | (with_reducible refine Kd.C_alloc ?_ _) | (with_reducible refine Kd.C_drewN ?_ _) | (with_reducible refine Kd.C_drew ?_))); (case side2 => exact HC0.out); rintro e w' ⟨rfl, ⟨nd, rfl⟩⟩; refine ⟨_, rfl, ?_⟩) | (go_at_call 21; (with_reducible refine (threshinglaw14_small.calls k _ _ l1 false _ ?side1 ?side2 A7.out).mono ?_); (case side1 => repeat (first | exact (Kd.C_below HR1.out (by repeat (first | (with_reducible first | exact HB.out | apply below_alloc | apply pw_below_drewN | apply below_drew1) | exact HB.out))) | (with_reducible refine Kd.C_alloc ?_ _) | (with_reducible refine Kd.C_drewN ?_ _) | (with_reducible refine Kd.C_drew ?_))); (case side2 => exact HC1.out); rintro e w' ⟨rfl, ⟨nd, rfl⟩⟩))
        go_meet
        case rel => exact ⟨_, (true), (by first | rfl | (simp; done) | (simp [*]; done)), H', ⟨by first | omega | exact Nat.le_refl _⟩, ⟨by repeat (first | (with_reducible first | exact HB.out | apply below_alloc | apply pw_below_drewN | apply below_drew1) | exact HB.out)⟩⟩
    · replace c6 := Bool.eq_false_iff.mpr c6
      subst c6
      have H1 := H; rw [if_neg (show ¬ (false = true) by decide)] at H1
      clear H
      have H := H1
      clear H1
      have H' := Aside0.mk H
      clear H
      go_wp2_with (first | ((with_reducible refine gate_callee (f := 21) rfl ?_); refine goesL_ (some 21) rfl rfl Tryz.func21 (by kernel_rfl) rfl #[.slice A0 l0.length c0] rfl (by (try simp only [List.map_toArray, List.map_cons, List.map_nil]); first | done | rfl | (simp only [List.length_drop, List.length_take]; rfl)) ?_; (with_reducible refine (threshinglaw14_small.calls k _ _ l0 false _ ?side1 ?side2 A5.out).mono ?_); (case side1 => repeat (first | exact (Kd.C_below HR0.out HB.out) | (with_reducible refine Kd.C_alloc ?_ _) | (with_reducible refine Kd.C_drewN ?_ _) | (with_reducible refine Kd.C_drew ?_))); (case side2 => exact HC0.out); rintro e w' ⟨rfl, ⟨nd, rfl⟩⟩; refine ⟨_, rfl, ?_⟩))
      go_meet
      case rel => exact ⟨_, (true), (by first | rfl | (simp; done) | (simp [*]; done)), H', ⟨by first | omega | exact Nat.le_refl _⟩, ⟨by repeat (first | (with_reducible first | exact HB.out | apply below_alloc | apply pw_below_drewN | apply below_drew1) | exact HB.out)⟩⟩
  case rest =>
    clear HC4
    try clear c1
    try clear c2
    try clear p2
    try clear c6
    try clear c7
    try clear c8
    try clear c9
    try clear c9b0
    try clear c9b1
    obtain ⟨kq, x37_3, rfl, HA, HJ3, HB⟩ := hcut
    cases kq with
    | zero => exact absurd HA.out (by simp [threshinglaw14_CodePieces.j0])
    | succ kj3 =>
      have H := HA.out
      clear HA
      simp only [threshinglaw14_CodePieces.j0] at H
      by_cases c10 : x37_3 = true
      · subst c10
        have H1 := H; rw [if_pos rfl] at H1
        clear H
        have H := H1
        clear H1
        replace H := Option.bind_eq_some_iff.mp H
        obtain ⟨t301, A110, H⟩ := H
        (try dsimp only at H)
        have A11 := Aside0.mk A110
        clear A110
        obtain rfl := Option.some.inj H
        go_wp2_with (first | ((with_reducible refine gate_callee (f := 12) rfl ?_); refine goesL_ (some 38) rfl rfl Tryz.func12 (by kernel_rfl) rfl #[] rfl (by (try simp only [List.map_toArray, List.map_cons, List.map_nil]); first | done | rfl | (simp only [List.length_drop, List.length_take]; rfl)) ?_; (with_reducible refine (threshinglaw14_alive.calls kj3  t301 _ ?side1 A11.out).mono ?_); (case side1 => refine gl_below HGL.out ?_; repeat (first | (with_reducible first | exact HB.out | apply below_alloc | apply pw_below_drewN | apply below_drew1) | exact HB.out)); rintro e w12 ⟨rfl, hb⟩; refine ⟨_, rfl, ?_⟩; have n0_ := Aside0.mk (below_step (by repeat (first | (with_reducible first | exact HB.out | apply below_alloc | apply pw_below_drewN | apply below_drew1) | exact HB.out)) hb); clear HB; have HB := n0_; clear n0_; (try clear hb); (try clear hb2); (try clear hk); (try clear hi)))
        go_ret
        exact ⟨by first | rfl | (simp [errW_none, errW_some] <;> rfl) | (simp [*, errW_none, errW_some] <;> rfl), by repeat (first | (with_reducible first | exact HB.out | apply below_alloc | apply pw_below_drewN | apply below_drew1) | exact HB.out)⟩
      · replace c10 := Bool.eq_false_iff.mpr c10
        subst c10
        have H1 := H; rw [if_neg (show ¬ (false = true) by decide)] at H1
        clear H
        have H := H1
        clear H1
        replace H := Option.bind_eq_some_iff.mp H
        obtain ⟨⟨t302, t303⟩, A130, H⟩ := H
        (try dsimp only at H)
        have A13 := Aside0.mk A130
        clear A130
        replace H := Option.bind_eq_some_iff.mp H
        obtain ⟨⟨t304, t305⟩, A140, H⟩ := H
        (try dsimp only at H)
        have A14 := Aside0.mk A140
        clear A140
        obtain ⟨y306, hy306⟩ : ∃ y_ : List (S23), y_ = (([] : List (S23))) := ⟨_, rfl⟩
        replace H : (if y306.length + l0.length < 4398046511104 then ((some (y306 ++ l0 : List (S23))).bind fun y309 => (if y309.length + l1.length < 4398046511104 then ((some (y309 ++ l1 : List (S23))).bind fun y312 => ((code_Print.f y312).bind fun bt315 => (if t303 = 0 then (threshinglaw14_CodePieces.j1 kj3 a2 t302 t304 y312 bt315.1 bt315.2 ((bt315.2 == 0) != (t305 == 0))) else (threshinglaw14_CodePieces.j1 kj3 a2 t302 t304 y312 bt315.1 bt315.2 ((bt315.2 == 0) != false))))) else (none))) else (none)) = some r := by first | (rw [hy306]; with_reducible exact H) | (have H2_ := (Option.bind_some _ _).symm.trans H; rw [hy306]; with_reducible exact H2_) | (have H2_ := (Option.bind_some _ _).symm.trans H; with_reducible exact H2_) | with_reducible exact H | (rw [hy306]; exact H) | exact H
        have Ny306 := Aside0.mk hy306
        clear hy306
        by_cases c15 : y306.length + l0.length < 4398046511104
        · rw [if_pos c15] at H
          have LMc15 := Aside0.mk c15
          clear c15
          obtain ⟨y309, hy309⟩ : ∃ y_ : List (S23), y_ = (y306 ++ l0) := ⟨_, rfl⟩
          replace H : (if y309.length + l1.length < 4398046511104 then ((some (y309 ++ l1 : List (S23))).bind fun y312 => ((code_Print.f y312).bind fun bt315 => (if t303 = 0 then (threshinglaw14_CodePieces.j1 kj3 a2 t302 t304 y312 bt315.1 bt315.2 ((bt315.2 == 0) != (t305 == 0))) else (threshinglaw14_CodePieces.j1 kj3 a2 t302 t304 y312 bt315.1 bt315.2 ((bt315.2 == 0) != false))))) else (none)) = some r := by first | (rw [hy309]; with_reducible exact H) | (have H2_ := (Option.bind_some _ _).symm.trans H; rw [hy309]; with_reducible exact H2_) | (have H2_ := (Option.bind_some _ _).symm.trans H; with_reducible exact H2_) | with_reducible exact H | (rw [hy309]; exact H) | exact H
          have Ny309 := Aside0.mk hy309
          clear hy309
          by_cases c16 : y309.length + l1.length < 4398046511104
          · rw [if_pos c16] at H
            have LMc16 := Aside0.mk c16
            clear c16
            obtain ⟨y312, hy312⟩ : ∃ y_ : List (S23), y_ = (y309 ++ l1) := ⟨_, rfl⟩
            replace H : ((code_Print.f y312).bind fun bt315 => (if t303 = 0 then (threshinglaw14_CodePieces.j1 kj3 a2 t302 t304 y312 bt315.1 bt315.2 ((bt315.2 == 0) != (t305 == 0))) else (threshinglaw14_CodePieces.j1 kj3 a2 t302 t304 y312 bt315.1 bt315.2 ((bt315.2 == 0) != false)))) = some r := by first | (rw [hy312]; with_reducible exact H) | (have H2_ := (Option.bind_some _ _).symm.trans H; rw [hy312]; with_reducible exact H2_) | (have H2_ := (Option.bind_some _ _).symm.trans H; with_reducible exact H2_) | with_reducible exact H | (rw [hy312]; exact H) | exact H
            have Ny312 := Aside0.mk hy312
            clear hy312
            replace H := Option.bind_eq_some_iff.mp H
            obtain ⟨⟨t315, t316⟩, A170, H⟩ := H
            (try dsimp only at H)
            have A17 := Aside0.mk A170
            clear A170
            have HC18 := Aside0.mk H
            clear H
            go_upto_region 7 with (first | ((with_reducible refine gate_callee (f := 22) rfl ?_); refine goesL_ (some 41) rfl rfl Tryz.func22 (by kernel_rfl) rfl #[.slice A0 l0.length c0] rfl (by (try simp only [List.map_toArray, List.map_cons, List.map_nil]); first | done | rfl | (simp only [List.length_drop, List.length_take]; rfl)) ?_; (with_reducible refine (code_Print.calls _ _ l0 t302 t303 _ ?side1 ?side2 ?side3 A13.out).mono ?_); (case side1 => repeat (first | exact (Kd.C_below HR0.out HB.out) | (with_reducible refine Kd.C_alloc ?_ _) | (with_reducible refine Kd.C_drewN ?_ _) | (with_reducible refine Kd.C_drew ?_))); (case side2 => exact HC0.out); (case side3 => refine gl_below HGL.out ?_; repeat (first | (with_reducible first | exact HB.out | apply below_alloc | apply pw_below_drewN | apply below_drew1) | exact HB.out)); rintro e w19 ⟨rfl, hb⟩; refine ⟨_, rfl, ?_⟩; have n0_ := Aside0.mk (below_step (by repeat (first | (with_reducible first | exact HB.out | apply below_alloc | apply pw_below_drewN | apply below_drew1) | exact HB.out)) hb); clear HB; have HB := n0_; clear n0_; (try clear hb); (try clear hb2); (try clear hk); (try clear hi)) | ((with_reducible refine gate_callee (f := 22) rfl ?_); refine goesL_ (some 46) rfl rfl Tryz.func22 (by kernel_rfl) rfl #[.slice A1 l1.length c1] rfl (by (try simp only [List.map_toArray, List.map_cons, List.map_nil]); first | done | rfl | (simp only [List.length_drop, List.length_take]; rfl)) ?_; (with_reducible refine (code_Print.calls _ _ l1 t304 t305 _ ?side1 ?side2 ?side3 A14.out).mono ?_); (case side1 => repeat (first | exact (Kd.C_below HR1.out HB.out) | (with_reducible refine Kd.C_alloc ?_ _) | (with_reducible refine Kd.C_drewN ?_ _) | (with_reducible refine Kd.C_drew ?_))); (case side2 => exact HC1.out); (case side3 => refine gl_below HGL.out ?_; repeat (first | (with_reducible first | exact HB.out | apply below_alloc | apply pw_below_drewN | apply below_drew1) | exact HB.out)); rintro e w20 ⟨rfl, hb⟩; refine ⟨_, rfl, ?_⟩; have n0_ := Aside0.mk (below_step (by repeat (first | (with_reducible first | exact HB.out | apply below_alloc | apply pw_below_drewN | apply below_drew1) | exact HB.out)) hb); clear HB; have HB := n0_; clear n0_; (try clear hb); (try clear hb2); (try clear hk); (try clear hi)) | ((with_reducible refine gate_dst (N := 49) rfl ?_); (try (refine gate_guard (by rfl) ?_; dsimp only)); refine Kd.R_lit k23 _ 23 ?hg (N := 49) ?hd (xs := ([] : List (S23))) (inner := []) (ok := fun _ => True) (okp := fun _ => True) ?hr ?hp (fun _ hk => hk) trivial (Below.refl _ _) (Nat.le_refl _) (by simp) ?_; (case hd => rfl); (case hg => rfl); (case hr => first | (go_simp; done) | (go_simp; rfl)); (case hp => exact (Reps.none _ _)); intro v307 w21 ho22 hb hg_ hnew_; clear hg_ hnew_; (first | rw [← Ny306.out] at ho22 | (simp only [Int.reduceToNat] at ho22; rw [← Ny306.out] at ho22)); have n0_ := Aside0.mk (Kd.R_lower ho22 (below_size (by repeat (first | (with_reducible first | exact HB.out | apply below_alloc | apply pw_below_drewN | apply below_drew1) | exact HB.out)))); have n1_ := Aside0.mk (below_step (by repeat (first | (with_reducible first | exact HB.out | apply below_alloc | apply pw_below_drewN | apply below_drew1) | exact HB.out)) hb); clear HB; have HO308 := n0_; have HB := n1_; clear n0_ n1_; clear hb ho22) | ((with_reducible refine gate_builtin (b := .append) (xs := #[.tmp 49, .tmp 50]) rfl ?_); (try (refine gate_guard (by rfl) ?_; dsimp only)); at_builtin; refine Kd.R_append_rows k23 (w0 := w) w.heap.size rfl (.tmp 49) (.tmp 50) 33 23 (.agg #[(.int .i64 0), (.int .i64 0), (.string ⟨#[]⟩)]) 32 rfl Tryz.underlying33 info23 rfl (by decide) (by omega) v307 y306 l0 _ _ _ (fun _ => True) (fun _ => False) rfl rfl ?aO ?aR (fun _ _ h => h) (fun _ h => h.elim) ?aF ?aB ?aS ?aL ?_; (case aR => repeat (first | exact (Kd.C_below HR0.out HB.out) | (with_reducible refine Kd.C_alloc ?_ _) | (with_reducible refine Kd.C_drewN ?_ _) | (with_reducible refine Kd.C_drew ?_))); (case aB => exact (by repeat (first | (with_reducible first | exact HB.out | apply below_alloc | apply pw_below_drewN | apply below_drew1) | exact HB.out))); (case aF => exact (fun _ _ => trivial)); (case aO => exact (by (with_reducible repeat (first | apply Kd.R_alloc | apply Kd.R_drewN | apply Kd.R_drew)); exact HO308.out)); (case aS => exact (below_size (by repeat (first | (with_reducible first | exact HB.out | apply below_alloc | apply pw_below_drewN | apply below_drew1) | exact HB.out)))); (case aL => have := LMc15.out; omega); intro v310 w23 ho hb hg hat; rw [← Ny309.out] at ho; have n0_ := Aside0.mk (hb); have n1_ := Aside0.mk (ho); clear HB; clear HO308; have HB := n0_; have HO311 := n1_; clear n0_ n1_; clear ho hb hg hat) | ((with_reducible refine gate_builtin (b := .append) (xs := #[.tmp 51, .tmp 52]) rfl ?_); (try (refine gate_guard (by rfl) ?_; dsimp only)); at_builtin; refine Kd.R_append_rows k23 (w0 := w) w.heap.size rfl (.tmp 51) (.tmp 52) 33 23 (.agg #[(.int .i64 0), (.int .i64 0), (.string ⟨#[]⟩)]) 32 rfl Tryz.underlying33 info23 rfl (by decide) (by omega) v310 y309 l1 _ _ _ (fun _ => True) (fun _ => False) rfl rfl ?aO ?aR (fun _ _ h => h) (fun _ h => h.elim) ?aF ?aB ?aS ?aL ?_; (case aR => repeat (first | exact (Kd.C_below HR1.out HB.out) | (with_reducible refine Kd.C_alloc ?_ _) | (with_reducible refine Kd.C_drewN ?_ _) | (with_reducible refine Kd.C_drew ?_))); (case aB => exact (by repeat (first | (with_reducible first | exact HB.out | apply below_alloc | apply pw_below_drewN | apply below_drew1) | exact HB.out))); (case aF => exact (fun _ _ => trivial)); (case aO => exact (by (with_reducible repeat (first | apply Kd.R_alloc | apply Kd.R_drewN | apply Kd.R_drew)); exact HO311.out)); (case aS => exact (below_size (by repeat (first | (with_reducible first | exact HB.out | apply below_alloc | apply pw_below_drewN | apply below_drew1) | exact HB.out)))); (case aL => have := LMc16.out; omega); intro v313 w24 ho hb hg hat; rw [← Ny312.out] at ho; have n0_ := Aside0.mk (hb); have n1_ := Aside0.mk (ho); clear HB; clear HO311; have HB := n0_; have HO314 := n1_; clear n0_ n1_; clear ho hb hg hat; obtain ⟨Ao25, co25, eo25⟩ := Kd.R_slice HO314.out; subst eo25) | ((with_reducible refine gate_callee (f := 22) rfl ?_); refine goesL_ (some 56) rfl rfl Tryz.func22 (by kernel_rfl) rfl #[.slice Ao25 y312.length co25] rfl (by (try simp only [List.map_toArray, List.map_cons, List.map_nil]); first | done | rfl | (simp only [List.length_drop, List.length_take]; rfl)) ?_; (with_reducible refine (code_Print.calls _ _ y312 t315 t316 _ ?side1 ?side2 ?side3 A17.out).mono ?_); (case side1 => repeat (first | exact (Kd.R_reads' HO314.out).2.2 | (with_reducible refine Kd.C_alloc ?_ _) | (with_reducible refine Kd.C_drewN ?_ _) | (with_reducible refine Kd.C_drew ?_))); (case side2 => exact (Kd.R_reads' HO314.out).2.1); (case side3 => refine gl_below HGL.out ?_; repeat (first | (with_reducible first | exact HB.out | apply below_alloc | apply pw_below_drewN | apply below_drew1) | exact HB.out)); rintro e w26 ⟨rfl, hb⟩; refine ⟨_, rfl, ?_⟩; have n0_ := Aside0.mk (Kd.R_below (by (with_reducible repeat (first | apply Kd.R_alloc | apply Kd.R_drewN | apply Kd.R_drew)); exact HO314.out) hb); have n1_ := Aside0.mk (below_step (by repeat (first | (with_reducible first | exact HB.out | apply below_alloc | apply pw_below_drewN | apply below_drew1) | exact HB.out)) hb); clear HO314; clear HB; have HO314 := n0_; have HB := n1_; clear n0_ n1_; (try clear hb); (try clear hb2); (try clear hk); (try clear hi)))
            (try simp only [Act.put, List.setIfInBounds_toArray, List.set_cons_zero, List.set_cons_succ])
            go_cut [67] (fun v67 wc => ∃ (kq : Nat) (x67_17 : Bool), v67 = .bool x67_17 ∧ Aside0 (threshinglaw14_CodePieces.j1 kq a2 t302 t304 y312 t315 t316 x67_17 = some r) ∧ Aside0 (kq ≤ kj3) ∧ Aside0 (Kd.R k23 23 wc w.heap.size (fun _ => True) (.slice Ao25 y312.length co25) y312) ∧ Aside0 (Below w.heap.size w wc))
            case first =>
              have H := HC18.out
              clear HC18
              by_cases c27 : t303 = 0
              · rw [if_pos c27] at H
                have c27b0 : (t303 == 0) = true := beq_iff_eq.mpr c27
                have c27b1 : (t303 != 0) = false := bne_eq_false_iff_eq.mpr c27
                clear c27
                (first | rw [c27b0] | (simp only [i64_w, i32_w]; rw [c27b0]) | skip)
                have H' := Aside0.mk H
                clear H
                go_wp2
                go_meet
                case rel => exact ⟨_, (((t316 == 0) != (t305 == 0))), (by first | rfl | (simp; done) | (simp [*]; done)), H', ⟨by have := HJ3.out; first | omega | exact Nat.le_refl _⟩, ⟨by (with_reducible repeat (first | apply Kd.R_alloc | apply Kd.R_drewN | apply Kd.R_drew)); exact HO314.out⟩, ⟨by repeat (first | (with_reducible first | exact HB.out | apply below_alloc | apply pw_below_drewN | apply below_drew1) | exact HB.out)⟩⟩
              · rw [if_neg c27] at H
                have c27b0 : (t303 == 0) = false := beq_eq_false_iff_ne.mpr c27
                have c27b1 : (t303 != 0) = true := bne_iff_ne.mpr c27
                (first | rw [c27b0] | (simp only [i64_w, i32_w]; rw [c27b0]) | skip)
                have H' := Aside0.mk H
                clear H
                go_wp2
                go_meet
                case rel => exact ⟨_, (((t316 == 0) != false)), (by first | rfl | (simp; done) | (simp [*]; done)), H', ⟨by have := HJ3.out; first | omega | exact Nat.le_refl _⟩, ⟨by (with_reducible repeat (first | apply Kd.R_alloc | apply Kd.R_drewN | apply Kd.R_drew)); exact HO314.out⟩, ⟨by repeat (first | (with_reducible first | exact HB.out | apply below_alloc | apply pw_below_drewN | apply below_drew1) | exact HB.out)⟩⟩
            case rest =>
              clear HC18
              try clear c1
              try clear c2
              try clear p2
              try clear c6
              try clear c7
              try clear c8
              try clear c9
              try clear c9b0
              try clear c9b1
              try clear c10
              try clear c12
              try clear c15
              try clear c16
              try clear c21
              try clear c22
              try clear c27
              try clear c27b0
              try clear c27b1
              try clear p2
              obtain ⟨kq, x67_17, rfl, HA, HJ17, HO_11, HB⟩ := hcut
              cases kq with
              | zero => exact absurd HA.out (by simp [threshinglaw14_CodePieces.j1])
              | succ kj17 =>
                have H := HA.out
                clear HA
                simp only [threshinglaw14_CodePieces.j1] at H
                by_cases c28 : x67_17 = true
                · subst c28
                  have H1 := H; rw [if_pos rfl] at H1
                  clear H
                  have H := H1
                  clear H1
                  obtain rfl := Option.some.inj H
                  go_wp2
                  go_ret
                  exact ⟨by first | rfl | (simp [errW_none, errW_some] <;> rfl) | (simp [*, errW_none, errW_some] <;> rfl), by repeat (first | (with_reducible first | exact HB.out | apply below_alloc | apply pw_below_drewN | apply below_drew1) | exact HB.out)⟩
                · replace c28 := Bool.eq_false_iff.mpr c28
                  subst c28
                  have H1 := H; rw [if_neg (show ¬ (false = true) by decide)] at H1
                  clear H
                  have H := H1
                  clear H1
                  have HC29 := Aside0.mk H
                  clear H
                  go_upto_region 9 with (fail)
                  go_cut [79] (fun v79 wc => ∃ (kq : Nat) (x79_28 : Bool), v79 = .bool x79_28 ∧ Aside0 (threshinglaw14_CodePieces.j2 kq a2 t302 t304 y312 t315 t316 x79_28 = some r) ∧ Aside0 (kq ≤ kj17) ∧ Aside0 (Kd.R k23 23 wc w.heap.size (fun _ => True) (.slice Ao25 y312.length co25) y312) ∧ Aside0 (Below w.heap.size w wc))
                  case first =>
                    have H := HC29.out
                    clear HC29
                    by_cases c30 : t316 = 0
                    · rw [if_pos c30] at H
                      have c30b0 : (t316 == 0) = true := beq_iff_eq.mpr c30
                      have c30b1 : (t316 != 0) = false := bne_eq_false_iff_eq.mpr c30
                      clear c30
                      (first | rw [c30b0] | (simp only [i64_w, i32_w]; rw [c30b0]) | skip)
                      by_cases c31 : a2 < 0
                      · rw [if_pos c31] at H
                        have c31b0 : decide (a2 < 0) = true := decide_eq_true c31
                        clear c31
                        have H' := Aside0.mk H
                        clear H
                        go_wp2
                        go_meet
                        case rel => exact ⟨_, (true), (by first | rfl | (simp; done) | (simp [*]; done)), H', ⟨by have := HJ3.out; have := HJ17.out; first | omega | exact Nat.le_refl _⟩, ⟨by (with_reducible repeat (first | apply Kd.R_alloc | apply Kd.R_drewN | apply Kd.R_drew)); exact HO_11.out⟩, ⟨by repeat (first | (with_reducible first | exact HB.out | apply below_alloc | apply pw_below_drewN | apply below_drew1) | exact HB.out)⟩⟩
                      · rw [if_neg c31] at H
                        have c31b0 : decide (a2 < 0) = false := decide_eq_false c31
                        clear c31
                        have H' := Aside0.mk H
                        clear H
                        go_wp2
                        go_meet
                        case rel => exact ⟨_, (decide (a2 ≥ (y312.length : Int))), (by first | rfl | (simp; done) | (simp [*]; done)), H', ⟨by have := HJ3.out; have := HJ17.out; first | omega | exact Nat.le_refl _⟩, ⟨by (with_reducible repeat (first | apply Kd.R_alloc | apply Kd.R_drewN | apply Kd.R_drew)); exact HO_11.out⟩, ⟨by repeat (first | (with_reducible first | exact HB.out | apply below_alloc | apply pw_below_drewN | apply below_drew1) | exact HB.out)⟩⟩
                    · rw [if_neg c30] at H
                      have c30b0 : (t316 == 0) = false := beq_eq_false_iff_ne.mpr c30
                      have c30b1 : (t316 != 0) = true := bne_iff_ne.mpr c30
                      (first | rw [c30b0] | (simp only [i64_w, i32_w]; rw [c30b0]) | skip)
                      have H' := Aside0.mk H
                      clear H
                      go_wp2
                      go_meet
                      case rel => exact ⟨_, (true), (by first | rfl | (simp; done) | (simp [*]; done)), H', ⟨by have := HJ3.out; have := HJ17.out; first | omega | exact Nat.le_refl _⟩, ⟨by (with_reducible repeat (first | apply Kd.R_alloc | apply Kd.R_drewN | apply Kd.R_drew)); exact HO_11.out⟩, ⟨by repeat (first | (with_reducible first | exact HB.out | apply below_alloc | apply pw_below_drewN | apply below_drew1) | exact HB.out)⟩⟩
                  case rest =>
                    clear HC29
                    try clear c1
                    try clear c2
                    try clear p2
                    try clear c3
                    try clear c6
                    try clear c7
                    try clear c8
                    try clear c9
                    try clear c9b0
                    try clear c9b1
                    try clear c10
                    try clear c12
                    try clear c15
                    try clear c16
                    try clear c21
                    try clear c22
                    try clear c27
                    try clear c27b0
                    try clear c27b1
                    try clear c28
                    try clear c30
                    try clear c30b0
                    try clear c30b1
                    try clear c31
                    try clear c31b0
                    try clear p2
                    obtain ⟨kq, x79_28, rfl, HA, HJ28, HO_11, HB⟩ := hcut
                    cases kq with
                    | zero => exact absurd HA.out (by simp [threshinglaw14_CodePieces.j2])
                    | succ kj28 =>
                      have H := HA.out
                      clear HA
                      simp only [threshinglaw14_CodePieces.j2] at H
                      by_cases c32 : x79_28 = true
                      · subst c32
                        have H1 := H; rw [if_pos rfl] at H1
                        clear H
                        have H := H1
                        clear H1
                        replace H := Option.bind_eq_some_iff.mp H
                        obtain ⟨t317, A330, H⟩ := H
                        (try dsimp only at H)
                        have A33 := Aside0.mk A330
                        clear A330
                        by_cases c34 : t317 = true
                        · subst c34
                          have H1 := H; rw [if_pos rfl] at H1
                          clear H
                          have H := H1
                          clear H1
                          by_cases c35 : t316 = 0
                          · rw [if_pos c35] at H
                            have c35b0 : (t316 == 0) = true := beq_iff_eq.mpr c35
                            have c35b1 : (t316 != 0) = false := bne_eq_false_iff_eq.mpr c35
                            clear c35
                            by_cases c36 : t302.size + t304.size ≤ 9223372036854775807
                            · rw [if_pos c36] at H
                              have c36b0 := eq_true c36
                              have c36b1 : decide (t302.size + t304.size ≤ 9223372036854775807) = true := decide_eq_true c36
                              try have c36b2 : (9223372036854775807 < t302.size + t304.size) = False := eq_false (Nat.not_lt.2 c36)
                              try (obtain ⟨F_, hF_⟩ : ∃ F_ : Prop, F_ = False := ⟨_, rfl⟩; have c36b3 := c36b2.trans hF_.symm; simp [show ∀ a : UInt8, (ByteArray.mk #[a]).size = 1 from fun _ => rfl, show ∀ a b : UInt8, (ByteArray.mk #[a, b]).size = 2 from fun _ _ => rfl] at c36b3; subst hF_)
                              obtain rfl := Option.some.inj H
                              go_wp2_with (first | ((with_reducible refine gate_callee (f := 12) rfl ?_); refine goesL_ (some 80) rfl rfl Tryz.func12 (by kernel_rfl) rfl #[] rfl (by (try simp only [List.map_toArray, List.map_cons, List.map_nil]); first | done | rfl | (simp only [List.length_drop, List.length_take]; rfl)) ?_; (with_reducible refine (threshinglaw14_alive.calls kj28  true _ ?side1 A33.out).mono ?_); (case side1 => refine gl_below HGL.out ?_; repeat (first | (with_reducible first | exact HB.out | apply below_alloc | apply pw_below_drewN | apply below_drew1) | exact HB.out)); rintro e w37 ⟨rfl, hb⟩; refine ⟨_, rfl, ?_⟩; have n0_ := Aside0.mk (Kd.R_below (by (with_reducible repeat (first | apply Kd.R_alloc | apply Kd.R_drewN | apply Kd.R_drew)); exact HO_11.out) hb); have n1_ := Aside0.mk (below_step (by repeat (first | (with_reducible first | exact HB.out | apply below_alloc | apply pw_below_drewN | apply below_drew1) | exact HB.out)) hb); clear HO_11; clear HB; have HO_11 := n0_; have HB := n1_; clear n0_ n1_; (try clear hb); (try clear hb2); (try clear hk); (try clear hi)))
                              go_ret
                              exact ⟨by first | rfl | (simp [errW_none, errW_some] <;> rfl) | (simp [*, errW_none, errW_some] <;> rfl), by repeat (first | (with_reducible first | exact HB.out | apply below_alloc | apply pw_below_drewN | apply below_drew1) | exact HB.out)⟩
                            · rw [if_neg c36] at H
                              exact absurd H (by simp)
                          · rw [if_neg c35] at H
                            have c35b0 : (t316 == 0) = false := beq_eq_false_iff_ne.mpr c35
                            have c35b1 : (t316 != 0) = true := bne_iff_ne.mpr c35
                            obtain rfl := Option.some.inj H
                            go_wp2_with (first | ((with_reducible refine gate_callee (f := 12) rfl ?_); refine goesL_ (some 80) rfl rfl Tryz.func12 (by kernel_rfl) rfl #[] rfl (by (try simp only [List.map_toArray, List.map_cons, List.map_nil]); first | done | rfl | (simp only [List.length_drop, List.length_take]; rfl)) ?_; (with_reducible refine (threshinglaw14_alive.calls kj28  true _ ?side1 A33.out).mono ?_); (case side1 => refine gl_below HGL.out ?_; repeat (first | (with_reducible first | exact HB.out | apply below_alloc | apply pw_below_drewN | apply below_drew1) | exact HB.out)); rintro e w38 ⟨rfl, hb⟩; refine ⟨_, rfl, ?_⟩; have n0_ := Aside0.mk (Kd.R_below (by (with_reducible repeat (first | apply Kd.R_alloc | apply Kd.R_drewN | apply Kd.R_drew)); exact HO_11.out) hb); have n1_ := Aside0.mk (below_step (by repeat (first | (with_reducible first | exact HB.out | apply below_alloc | apply pw_below_drewN | apply below_drew1) | exact HB.out)) hb); clear HO_11; clear HB; have HO_11 := n0_; have HB := n1_; clear n0_ n1_; (try clear hb); (try clear hb2); (try clear hk); (try clear hi)))
                            go_ret
                            exact ⟨by first | rfl | (simp [errW_none, errW_some] <;> rfl) | (simp [*, errW_none, errW_some] <;> rfl), by repeat (first | (with_reducible first | exact HB.out | apply below_alloc | apply pw_below_drewN | apply below_drew1) | exact HB.out)⟩
                        · replace c34 := Bool.eq_false_iff.mpr c34
                          subst c34
                          have H1 := H; rw [if_neg (show ¬ (false = true) by decide)] at H1
                          exact absurd ((Option.some.inj H1).trans HRT.out) (by decide)
                      · replace c32 := Bool.eq_false_iff.mpr c32
                        subst c32
                        have H1 := H; rw [if_neg (show ¬ (false = true) by decide)] at H1
                        clear H
                        have H := H1
                        clear H1
                        by_cases c40 : 0 ≤ a2
                        · rw [if_pos c40] at H
                          have c40b0 := eq_true c40
                          have c40b1 : decide (0 ≤ a2) = true := decide_eq_true c40
                          clear c40
                          by_cases c41 : a2 ≤ (y312.length : Int)
                          · rw [if_pos c41] at H
                            have c41b0 := eq_true c41
                            have c41b1 : decide (a2 ≤ (y312.length : Int)) = true := decide_eq_true c41
                            clear c41
                            obtain ⟨y318, hy318⟩ : ∃ y_ : List (S23), y_ = (y312.take (a2 : Int).toNat) := ⟨_, rfl⟩
                            replace H : ((code_Print.f y318).bind fun bt322 => (if 0 ≤ (wrap64 (a2 + 1)) then (if (wrap64 (a2 + 1)) ≤ (y312.length : Int) then ((code_Print.f (y312.drop ((wrap64 (a2 + 1)) : Int).toNat)).bind fun bt328 => (if bt322.1.size + bt328.1.size ≤ 9223372036854775807 then ((code_Read.f kj28 (bt322.1 ++ bt328.1)).bind fun bt330 => ((threshinglaw14_alive.f kj28).bind fun t334 => (if t334 = true then (if t302.size + t304.size ≤ 9223372036854775807 then (if t315.toList = (t302 ++ t304).toList then (if bt330.2 = 0 then ((some (([] : List (S23)) : List (S23))).bind fun y335 => ((some (y312.take (a2 : Int).toNat : List (S23))).bind fun y338 => (if y335.length + y338.length < 4398046511104 then ((some (y335 ++ y338 : List (S23))).bind fun y342 => ((some (y312.drop ((wrap64 (a2 + 1)) : Int).toNat : List (S23))).bind fun y345 => (if y342.length + y345.length < 4398046511104 then ((code_Same.f kj28 bt330.1 (y342 ++ y345)).bind fun t352 => (some t352)) else (none)))) else (none)))) else (some false)) else (some false)) else (none)) else (some false)))) else (none))) else (none)) else (none))) = some r := by first | (rw [hy318]; with_reducible exact H) | (have H2_ := (Option.bind_some _ _).symm.trans H; rw [hy318]; with_reducible exact H2_) | (have H2_ := (Option.bind_some _ _).symm.trans H; with_reducible exact H2_) | with_reducible exact H | (rw [hy318]; exact H) | exact H
                            have Ny318 := Aside0.mk hy318
                            clear hy318
                            replace H := Option.bind_eq_some_iff.mp H
                            obtain ⟨⟨t322, t323⟩, A420, H⟩ := H
                            (try dsimp only at H)
                            have A42 := Aside0.mk A420
                            clear A420
                            obtain ⟨ji43, hji43⟩ : ∃ j_ : Int, (wrap64 (a2 + 1)) = j_ := ⟨_, rfl⟩
                            replace H : (if 0 ≤ (ji43) then (if (ji43) ≤ (y312.length : Int) then ((code_Print.f (y312.drop ((ji43) : Int).toNat)).bind fun bt328 => (if t322.size + bt328.1.size ≤ 9223372036854775807 then ((code_Read.f kj28 (t322 ++ bt328.1)).bind fun bt330 => ((threshinglaw14_alive.f kj28).bind fun t334 => (if t334 = true then (if t302.size + t304.size ≤ 9223372036854775807 then (if t315.toList = (t302 ++ t304).toList then (if bt330.2 = 0 then ((some (([] : List (S23)) : List (S23))).bind fun y335 => ((some (y312.take (a2 : Int).toNat : List (S23))).bind fun y338 => (if y335.length + y338.length < 4398046511104 then ((some (y335 ++ y338 : List (S23))).bind fun y342 => ((some (y312.drop ((ji43) : Int).toNat : List (S23))).bind fun y345 => (if y342.length + y345.length < 4398046511104 then ((code_Same.f kj28 bt330.1 (y342 ++ y345)).bind fun t352 => (some t352)) else (none)))) else (none)))) else (some false)) else (some false)) else (none)) else (some false)))) else (none))) else (none)) else (none)) = some r := by first | (rw [hji43] at H; exact H) | (simp only [hji43] at H ⊢; exact H)
                            (try rw [hji43] at A42)
                            have hji43w : (IntKind.i64.wrap (a2 + 1)) = ji43 := (i64_w _).trans hji43
                            by_cases c44 : 0 ≤ (ji43)
                            · rw [if_pos c44] at H
                              have c44b0 := eq_true c44
                              have c44b1 : decide (0 ≤ (ji43)) = true := decide_eq_true c44
                              clear c44
                              by_cases c45 : (ji43) ≤ (y312.length : Int)
                              · rw [if_pos c45] at H
                                have c45b0 := eq_true c45
                                have c45b1 : decide ((ji43) ≤ (y312.length : Int)) = true := decide_eq_true c45
                                clear c45
                                obtain ⟨y324, hy324⟩ : ∃ y_ : List (S23), y_ = (y312.drop ((ji43) : Int).toNat) := ⟨_, rfl⟩
                                replace H : ((code_Print.f y324).bind fun bt328 => (if t322.size + bt328.1.size ≤ 9223372036854775807 then ((code_Read.f kj28 (t322 ++ bt328.1)).bind fun bt330 => ((threshinglaw14_alive.f kj28).bind fun t334 => (if t334 = true then (if t302.size + t304.size ≤ 9223372036854775807 then (if t315.toList = (t302 ++ t304).toList then (if bt330.2 = 0 then ((some (([] : List (S23)) : List (S23))).bind fun y335 => ((some (y312.take (a2 : Int).toNat : List (S23))).bind fun y338 => (if y335.length + y338.length < 4398046511104 then ((some (y335 ++ y338 : List (S23))).bind fun y342 => ((some (y312.drop ((ji43) : Int).toNat : List (S23))).bind fun y345 => (if y342.length + y345.length < 4398046511104 then ((code_Same.f kj28 bt330.1 (y342 ++ y345)).bind fun t352 => (some t352)) else (none)))) else (none)))) else (some false)) else (some false)) else (none)) else (some false)))) else (none))) = some r := by first | (rw [hy324]; with_reducible exact H) | (have H2_ := (Option.bind_some _ _).symm.trans H; rw [hy324]; with_reducible exact H2_) | (have H2_ := (Option.bind_some _ _).symm.trans H; with_reducible exact H2_) | with_reducible exact H | (rw [hy324]; exact H) | exact H
                                have Ny324 := Aside0.mk hy324
                                clear hy324
                                replace H := Option.bind_eq_some_iff.mp H
                                obtain ⟨⟨t328, t329⟩, A460, H⟩ := H
                                (try dsimp only at H)
                                have A46 := Aside0.mk A460
                                clear A460
                                by_cases c47 : t322.size + t328.size ≤ 9223372036854775807
                                · rw [if_pos c47] at H
                                  have c47b0 := eq_true c47
                                  have c47b1 : decide (t322.size + t328.size ≤ 9223372036854775807) = true := decide_eq_true c47
                                  try have c47b2 : (9223372036854775807 < t322.size + t328.size) = False := eq_false (Nat.not_lt.2 c47)
                                  try (obtain ⟨F_, hF_⟩ : ∃ F_ : Prop, F_ = False := ⟨_, rfl⟩; have c47b3 := c47b2.trans hF_.symm; simp [show ∀ a : UInt8, (ByteArray.mk #[a]).size = 1 from fun _ => rfl, show ∀ a b : UInt8, (ByteArray.mk #[a, b]).size = 2 from fun _ _ => rfl] at c47b3; subst hF_)
                                  replace H := Option.bind_eq_some_iff.mp H
                                  obtain ⟨⟨t330, t331⟩, A480, H⟩ := H
                                  (try dsimp only at H)
                                  have A48 := Aside0.mk A480
                                  clear A480
                                  replace H := Option.bind_eq_some_iff.mp H
                                  obtain ⟨t334, A490, H⟩ := H
                                  (try dsimp only at H)
                                  have A49 := Aside0.mk A490
                                  clear A490
                                  by_cases c50 : t334 = true
                                  · subst c50
                                    have H1 := H; rw [if_pos rfl] at H1
                                    clear H
                                    have H := H1
                                    clear H1
                                    by_cases c51 : t302.size + t304.size ≤ 9223372036854775807
                                    · rw [if_pos c51] at H
                                      have c51b0 := eq_true c51
                                      have c51b1 : decide (t302.size + t304.size ≤ 9223372036854775807) = true := decide_eq_true c51
                                      try have c51b2 : (9223372036854775807 < t302.size + t304.size) = False := eq_false (Nat.not_lt.2 c51)
                                      try (obtain ⟨F_, hF_⟩ : ∃ F_ : Prop, F_ = False := ⟨_, rfl⟩; have c51b3 := c51b2.trans hF_.symm; simp [show ∀ a : UInt8, (ByteArray.mk #[a]).size = 1 from fun _ => rfl, show ∀ a b : UInt8, (ByteArray.mk #[a, b]).size = 2 from fun _ _ => rfl] at c51b3; subst hF_)
                                      by_cases c52 : t315.toList = (t302 ++ t304).toList
                                      · rw [if_pos c52] at H
                                        have c52b0 : (t315.toList == (t302 ++ t304).toList) = true := beq_iff_eq.mpr c52
                                        have c52b1 : (t315.toList != (t302 ++ t304).toList) = false := bne_eq_false_iff_eq.mpr c52
                                        clear c52
                                        by_cases c53 : t331 = 0
                                        · rw [if_pos c53] at H
                                          have c53b0 : (t331 == 0) = true := beq_iff_eq.mpr c53
                                          have c53b1 : (t331 != 0) = false := bne_eq_false_iff_eq.mpr c53
                                          clear c53
                                          obtain ⟨y335, hy335⟩ : ∃ y_ : List (S23), y_ = (([] : List (S23))) := ⟨_, rfl⟩
                                          replace H : ((some (y312.take (a2 : Int).toNat : List (S23))).bind fun y338 => (if y335.length + y338.length < 4398046511104 then ((some (y335 ++ y338 : List (S23))).bind fun y342 => ((some (y312.drop ((ji43) : Int).toNat : List (S23))).bind fun y345 => (if y342.length + y345.length < 4398046511104 then ((code_Same.f kj28 t330 (y342 ++ y345)).bind fun t352 => (some t352)) else (none)))) else (none))) = some r := by first | (rw [hy335]; with_reducible exact H) | (have H2_ := (Option.bind_some _ _).symm.trans H; rw [hy335]; with_reducible exact H2_) | (have H2_ := (Option.bind_some _ _).symm.trans H; with_reducible exact H2_) | with_reducible exact H | (rw [hy335]; exact H) | exact H
                                          have Ny335 := Aside0.mk hy335
                                          clear hy335
                                          have c54b0 := eq_true (of_decide_eq_true (by first | (with_reducible assumption) | assumption) : 0 ≤ a2)
                                          have c55b0 := eq_true (of_decide_eq_true (by first | (with_reducible assumption) | assumption) : a2 ≤ (y312.length : Int))
                                          have hy338 := Ny318.out
                                          replace H : (if y335.length + y318.length < 4398046511104 then ((some (y335 ++ y318 : List (S23))).bind fun y342 => ((some (y312.drop ((ji43) : Int).toNat : List (S23))).bind fun y345 => (if y342.length + y345.length < 4398046511104 then ((code_Same.f kj28 t330 (y342 ++ y345)).bind fun t352 => (some t352)) else (none)))) else (none)) = some r := by first | (rw [hy338]; with_reducible exact H) | (have H2_ := (Option.bind_some _ _).symm.trans H; rw [hy338]; with_reducible exact H2_) | (have H2_ := (Option.bind_some _ _).symm.trans H; with_reducible exact H2_) | with_reducible exact H | (rw [hy338]; exact H) | exact H
                                          have Ny338 := Aside0.mk hy338
                                          clear hy338
                                          by_cases c56 : y335.length + y318.length < 4398046511104
                                          · rw [if_pos c56] at H
                                            have LMc56 := Aside0.mk c56
                                            clear c56
                                            obtain ⟨y342, hy342⟩ : ∃ y_ : List (S23), y_ = (y335 ++ y318) := ⟨_, rfl⟩
                                            replace H : ((some (y312.drop ((ji43) : Int).toNat : List (S23))).bind fun y345 => (if y342.length + y345.length < 4398046511104 then ((code_Same.f kj28 t330 (y342 ++ y345)).bind fun t352 => (some t352)) else (none))) = some r := by first | (rw [hy342]; with_reducible exact H) | (have H2_ := (Option.bind_some _ _).symm.trans H; rw [hy342]; with_reducible exact H2_) | (have H2_ := (Option.bind_some _ _).symm.trans H; with_reducible exact H2_) | with_reducible exact H | (rw [hy342]; exact H) | exact H
                                            have Ny342 := Aside0.mk hy342
                                            clear hy342
                                            have c57b0 := eq_true (of_decide_eq_true (by first | (with_reducible assumption) | assumption) : 0 ≤ (ji43))
                                            have c58b0 := eq_true (of_decide_eq_true (by first | (with_reducible assumption) | assumption) : (ji43) ≤ (y312.length : Int))
                                            have hy345 := Ny324.out
                                            replace H : (if y342.length + y324.length < 4398046511104 then ((code_Same.f kj28 t330 (y342 ++ y324)).bind fun t352 => (some t352)) else (none)) = some r := by first | (rw [hy345]; with_reducible exact H) | (have H2_ := (Option.bind_some _ _).symm.trans H; rw [hy345]; with_reducible exact H2_) | (have H2_ := (Option.bind_some _ _).symm.trans H; with_reducible exact H2_) | with_reducible exact H | (rw [hy345]; exact H) | exact H
                                            have Ny345 := Aside0.mk hy345
                                            clear hy345
                                            by_cases c59 : y342.length + y324.length < 4398046511104
                                            · rw [if_pos c59] at H
                                              have LMc59 := Aside0.mk c59
                                              clear c59
                                              obtain ⟨y349, hy349⟩ : ∃ y_ : List (S23), y_ = (y342 ++ y324) := ⟨_, rfl⟩
                                              replace H : ((code_Same.f kj28 t330 y349).bind fun t352 => (some t352)) = some r := by first | (rw [hy349]; with_reducible exact H) | (have H2_ := (Option.bind_some _ _).symm.trans H; rw [hy349]; with_reducible exact H2_) | (have H2_ := (Option.bind_some _ _).symm.trans H; with_reducible exact H2_) | with_reducible exact H | (rw [hy349]; exact H) | exact H
                                              have Ny349 := Aside0.mk hy349
                                              clear hy349
                                              replace H := Option.bind_eq_some_iff.mp H
                                              obtain ⟨t352, A600, H⟩ := H
                                              (try dsimp only at H)
                                              have A60 := Aside0.mk A600
                                              clear A600
                                              obtain rfl := Option.some.inj H
                                              have q61 : (a2 : Int) ≤ ((y312.length : Int) : Int) := of_decide_eq_true (by first | (with_reducible assumption) | assumption)
                                              obtain ⟨i061, hi061, _, hsz61, _⟩ := info_parts info23
                                              have hroom61 : y312.length ≤ co25 := (Kd.R_reads' HO_11.out).2.1
                                              have hC61 : Kd.C k23 _ Ao25 y312.length y312 := (Kd.R_reads' HO_11.out).2.2
                                              have hcut61 := cut_to (P := Tryz.prog) 33 23 .i64 Tryz.underlying33 hi061 Ao25 y312.length co25 a2 (of_decide_eq_true (by first | (with_reducible assumption) | assumption)) q61 hroom61
                                              have hr61 := Kd.C_take (m := (a2 : Int).toNat) hC61 (by omega)
                                              have hy61 : y318.length = (a2 : Int).toNat := (by rw [Ny318.out, List.length_take]; omega)
                                              rw [← Ny318.out] at hr61
                                              rw [← hy61] at hcut61
                                              have HR321 := Aside0.mk hr61
                                              have HC321 := Aside0.mk (show y318.length ≤ co25 from by omega)
                                              clear hr61 hC61 hroom61 hi061 hsz61
                                              have KY61 := Aside0.mk hy61
                                              clear hy61
                                              have KL61 := Aside0.mk (show (a2 : Int).toNat ≤ y312.length from by omega)
                                              replace q61 := eq_true q61
                                              try go_wp2_with (first | ((with_reducible refine gate_callee (f := 22) rfl ?_); refine goesL_ (some 96) rfl rfl Tryz.func22 (by kernel_rfl) rfl #[.slice Ao25 y318.length co25] rfl (by (try simp only [List.map_toArray, List.map_cons, List.map_nil]); first | done | rfl | (simp only [List.length_drop, List.length_take]; rfl)) ?_; (with_reducible refine (code_Print.calls _ _ y318 t322 t323 _ ?side1 ?side2 ?side3 A42.out).mono ?_); (case side1 => repeat (first | exact (by repeat (first | (with_reducible exact HR321.out) | (with_reducible refine Kd.C_alloc ?_ _) | (with_reducible refine Kd.C_drewN ?_ _) | (with_reducible refine Kd.C_drew ?_) | exact HR321.out)) | (with_reducible refine Kd.C_alloc ?_ _) | (with_reducible refine Kd.C_drewN ?_ _) | (with_reducible refine Kd.C_drew ?_))); (case side2 => exact HC321.out); (case side3 => refine gl_below HGL.out ?_; repeat (first | (with_reducible first | exact HB.out | apply below_alloc | apply pw_below_drewN | apply below_drew1) | exact HB.out)); rintro e w62 ⟨rfl, hb⟩; refine ⟨_, rfl, ?_⟩; have n0_ := Aside0.mk (Kd.R_below (by (with_reducible repeat (first | apply Kd.R_alloc | apply Kd.R_drewN | apply Kd.R_drew)); exact HO_11.out) hb); have n1_ := Aside0.mk (Kd.C_below (by repeat (first | (with_reducible exact HR321.out) | (with_reducible refine Kd.C_alloc ?_ _) | (with_reducible refine Kd.C_drewN ?_ _) | (with_reducible refine Kd.C_drew ?_) | exact HR321.out)) hb); have n2_ := Aside0.mk (below_step (by repeat (first | (with_reducible first | exact HB.out | apply below_alloc | apply pw_below_drewN | apply below_drew1) | exact HB.out)) hb); clear HO_11; clear HR321; clear HB; have HO_11 := n0_; have HR321 := n1_; have HB := n2_; clear n0_ n1_ n2_; (try clear hb); (try clear hb2); (try clear hk); (try clear hi); have q63 : ((ji43) : Int) ≤ ((y312.length : Int) : Int) := of_decide_eq_true (by first | (with_reducible assumption) | assumption); obtain ⟨i063, hi063, _, hsz63, _⟩ := info_parts info23; have hroom63 : y312.length ≤ co25 := (Kd.R_reads' HO_11.out).2.1; have hC63 : Kd.C k23 _ Ao25 y312.length y312 := (Kd.R_reads' HO_11.out).2.2; have q063 : (0 : Int) ≤ ((ji43) : Int) := of_decide_eq_true (by first | (with_reducible assumption) | assumption); have hcut63 := cut_from (P := Tryz.prog) 33 23 .i64 Tryz.underlying33 hi063 3 hsz63 Ao25 y312.length co25 (ji43) q063 q63; have hr63 := Kd.C_drop (m := ((ji43) : Int).toNat) (c := co25) hC63 (by omega) hroom63; obtain ⟨A63, hA63⟩ : ∃ A1, A1 = (if co25 = ((ji43) : Int).toNat then Ao25 else (Ao25 : Option Addr).map (·.add (((ji43) : Int).toNat * 3))) := ⟨_, rfl⟩; obtain ⟨c63, hc63⟩ : ∃ c1, c1 = co25 - ((ji43) : Int).toNat := ⟨_, rfl⟩; have hy63 : y324.length = y312.length - ((ji43) : Int).toNat := (by rw [Ny324.out, List.length_drop] <;> omega); rw [show (y312).drop ((ji43) : Int).toNat = y324 from Ny324.out.symm] at hr63; replace hr63 : Kd.C k23 _ A63 y324.length y324 := (by rw [hA63]; exact hr63); rw [← hy63, ← hA63, ← hc63] at hcut63; have HR327 := Aside0.mk hr63; have HC327 := Aside0.mk (show y324.length ≤ c63 from by rw [hy63, hc63]; exact Nat.sub_le_sub_right hroom63 _); clear hr63 hC63 hroom63 hi063 hsz63 hc63; have KY63 := Aside0.mk hy63; have KA63 := Aside0.mk hA63; clear hy63 hA63; have KL63 := Aside0.mk (show ((ji43) : Int).toNat ≤ y312.length from by omega); replace q63 := eq_true q63) | ((with_reducible refine gate_callee (f := 22) rfl ?_); refine goesL_ (some 104) rfl rfl Tryz.func22 (by kernel_rfl) rfl #[.slice A63 y324.length c63] rfl (by (try simp only [List.map_toArray, List.map_cons, List.map_nil]); first | done | rfl | (simp only [List.length_drop, List.length_take]; rfl)) ?_; (with_reducible refine (code_Print.calls _ _ y324 t328 t329 _ ?side1 ?side2 ?side3 A46.out).mono ?_); (case side1 => repeat (first | exact (by repeat (first | (with_reducible exact HR327.out) | (with_reducible refine Kd.C_alloc ?_ _) | (with_reducible refine Kd.C_drewN ?_ _) | (with_reducible refine Kd.C_drew ?_) | exact HR327.out)) | (with_reducible refine Kd.C_alloc ?_ _) | (with_reducible refine Kd.C_drewN ?_ _) | (with_reducible refine Kd.C_drew ?_))); (case side2 => exact HC327.out); (case side3 => refine gl_below HGL.out ?_; repeat (first | (with_reducible first | exact HB.out | apply below_alloc | apply pw_below_drewN | apply below_drew1) | exact HB.out)); rintro e w64 ⟨rfl, hb⟩; refine ⟨_, rfl, ?_⟩; have n0_ := Aside0.mk (Kd.R_below (by (with_reducible repeat (first | apply Kd.R_alloc | apply Kd.R_drewN | apply Kd.R_drew)); exact HO_11.out) hb); have n1_ := Aside0.mk (Kd.C_below (by repeat (first | (with_reducible exact HR321.out) | (with_reducible refine Kd.C_alloc ?_ _) | (with_reducible refine Kd.C_drewN ?_ _) | (with_reducible refine Kd.C_drew ?_) | exact HR321.out)) hb); have n2_ := Aside0.mk (Kd.C_below (by repeat (first | (with_reducible exact HR327.out) | (with_reducible refine Kd.C_alloc ?_ _) | (with_reducible refine Kd.C_drewN ?_ _) | (with_reducible refine Kd.C_drew ?_) | exact HR327.out)) hb); have n3_ := Aside0.mk (below_step (by repeat (first | (with_reducible first | exact HB.out | apply below_alloc | apply pw_below_drewN | apply below_drew1) | exact HB.out)) hb); clear HO_11; clear HR321; clear HR327; clear HB; have HO_11 := n0_; have HR321 := n1_; have HR327 := n2_; have HB := n3_; clear n0_ n1_ n2_ n3_; (try clear hb); (try clear hb2); (try clear hk); (try clear hi)) | ((with_reducible refine gate_callee (f := 24) rfl ?_); refine goesL_ (some 111) rfl rfl Tryz.func24 (by kernel_rfl) rfl #[.string (t322 ++ t328)] rfl (by (try simp only [List.map_toArray, List.map_cons, List.map_nil]); first | done | rfl | (simp only [List.length_drop, List.length_take]; rfl)) ?_; (with_reducible refine (code_Read.calls kj28 (t322 ++ t328) t330 t331 _ ?side1 A48.out).mono ?_); (case side1 => refine gl_below HGL.out ?_; repeat (first | (with_reducible first | exact HB.out | apply below_alloc | apply pw_below_drewN | apply below_drew1) | exact HB.out)); rintro e w65 ⟨v332, rfl, ho0, hb⟩; refine ⟨_, rfl, ?_⟩; have n0_ := Aside0.mk (Kd.R_elder' (by (with_reducible repeat (first | apply Kd.R_alloc | apply Kd.R_drewN | apply Kd.R_drew)); exact HO_11.out) (Kd.R_base ho0) hb); have n1_ := Aside0.mk (Kd.R_lower (Kd.R_new' ho0 (Kd.R_lt (by (with_reducible repeat (first | apply Kd.R_alloc | apply Kd.R_drewN | apply Kd.R_drew)); exact HO_11.out))) (below_size (by repeat (first | (with_reducible first | exact HB.out | apply below_alloc | apply pw_below_drewN | apply below_drew1) | exact HB.out)))); have n2_ := Aside0.mk (Kd.C_below (by repeat (first | (with_reducible exact HR321.out) | (with_reducible refine Kd.C_alloc ?_ _) | (with_reducible refine Kd.C_drewN ?_ _) | (with_reducible refine Kd.C_drew ?_) | exact HR321.out)) hb); have n3_ := Aside0.mk (Kd.C_below (by repeat (first | (with_reducible exact HR327.out) | (with_reducible refine Kd.C_alloc ?_ _) | (with_reducible refine Kd.C_drewN ?_ _) | (with_reducible refine Kd.C_drew ?_) | exact HR327.out)) hb); have n4_ := Aside0.mk (below_step (by repeat (first | (with_reducible first | exact HB.out | apply below_alloc | apply pw_below_drewN | apply below_drew1) | exact HB.out)) hb); clear HO_11; clear HR321; clear HR327; clear HB; have HO_11 := n0_; have HO333 := n1_; have HR321 := n2_; have HR327 := n3_; have HB := n4_; clear n0_ n1_ n2_ n3_ n4_; (try clear hb); (try clear hb2); (try clear hk); (try clear hi); (try clear ho0)))
                                              have n0_ := Aside0.mk (Kd.R_drew HO_11.out)
                                              have n1_ := Aside0.mk (Kd.R_drew HO333.out)
                                              have n2_ := Aside0.mk (Kd.C_drew HR321.out)
                                              have n3_ := Aside0.mk (Kd.C_drew HR327.out)
                                              have n4_ := Aside0.mk (below_drew1 HB.out)
                                              clear HO_11
                                              clear HO333
                                              clear HR321
                                              clear HR327
                                              clear HB
                                              have HO_11 := n0_
                                              have HO333 := n1_
                                              have HR321 := n2_
                                              have HR327 := n3_
                                              have HB := n4_
                                              clear n0_ n1_ n2_ n3_ n4_
                                              refine start_ (n := 27) (S := fun w' => True) (ds := []) #[false, false, false, false, false, false, false, false, false, false, false, false, false, false, false, false, false, false, false, false, false, false, false, false, false, false, false] (by kernel_rfl) rfl rfl trivial (fun hHeld => ?_); refine with_tabW threshinglaw14_CodePieces.tab14 threshinglaw14_CodePieces.bits14 (fun HT_ HW_ => ?_)
                                              generalize w65.drew = w66 at HO_11 HO333 HR321 HR327 HB hHeld ⊢
                                              refine one_ (i := 0) (N := some 114) #[true, false, false, false, false, false, false, false, false, false, false, false, false, false, false, false, false, false, false, false, false, false, false, false, false, false, false] rfl rfl (one_of HT_.out (by kernel_rfl)) (by decide) (fun K hK => ?_)
                                              refine goes_ Tryz.func12 (by kernel_rfl) rfl #[] (by rfl) rfl rfl (by (try simp only [List.map_toArray, List.map_cons, List.map_nil]); first | done | rfl | (simp only [List.length_drop, List.length_take]; rfl)) ?_
                                              with_reducible refine (threshinglaw14_alive.calls kj28  true _ ?side1 A49.out).mono ?_
                                              (case side1 => refine gl_below HGL.out ?_; repeat (first | (with_reducible first | exact HB.out | apply below_alloc | apply pw_below_drewN | apply below_drew1) | exact HB.out))
                                              rintro e w67 ⟨rfl, hb⟩
                                              refine ⟨_, rfl, ?_⟩
                                              have n0_ := Aside0.mk (Kd.R_below (by (with_reducible repeat (first | apply Kd.R_alloc | apply Kd.R_drewN | apply Kd.R_drew)); exact HO_11.out) hb)
                                              have n1_ := Aside0.mk (Kd.R_below (by (with_reducible repeat (first | apply Kd.R_alloc | apply Kd.R_drewN | apply Kd.R_drew)); exact HO333.out) hb)
                                              have n2_ := Aside0.mk (Kd.C_below (by repeat (first | (with_reducible exact HR321.out) | (with_reducible refine Kd.C_alloc ?_ _) | (with_reducible refine Kd.C_drewN ?_ _) | (with_reducible refine Kd.C_drew ?_) | exact HR321.out)) hb)
                                              have n3_ := Aside0.mk (Kd.C_below (by repeat (first | (with_reducible exact HR327.out) | (with_reducible refine Kd.C_alloc ?_ _) | (with_reducible refine Kd.C_drewN ?_ _) | (with_reducible refine Kd.C_drew ?_) | exact HR327.out)) hb)
                                              have n4_ := Aside0.mk (below_step (by repeat (first | (with_reducible first | exact HB.out | apply below_alloc | apply pw_below_drewN | apply below_drew1) | exact HB.out)) hb)
                                              clear HO_11
                                              clear HO333
                                              clear HR321
                                              clear HR327
                                              clear HB
                                              have HO_11 := n0_
                                              have HO333 := n1_
                                              have HR321 := n2_
                                              have HR327 := n3_
                                              have HB := n4_
                                              clear n0_ n1_ n2_ n3_ n4_
                                              (try clear hb)
                                              (try clear hb2)
                                              (try clear hk)
                                              (try clear hi)
                                              refine hK.out _ _ trivial (fun hHeld => ?_)
                                              clear hK K
                                              refine norm_ (a' := ?_) ?_ ?_
                                              rotate_left
                                              · show Act.put _ (some 114) _ = _
                                                simp only [Act.put, List.setIfInBounds_toArray, List.set_cons_zero, List.set_cons_succ, i64_w, i32_w]
                                                rfl
                                              refine pure_ (i := 1) (N := some 115) (v := ?_) (a' := ?_) #[true, true, false, false, false, false, false, false, false, false, false, false, false, false, false, false, false, false, false, false, false, false, false, false, false, false, false] rfl rfl (any_of HT_.out (by kernel_rfl)) (fun _ _ _ h => h) (Or.inl ⟨by rfl, ?_⟩) ?_ ?_
                                              rotate_left
                                              · intro w'
                                                go_simp
                                                with_reducible rfl
                                              rotate_left
                                              · simp only [Act.put, List.setIfInBounds_toArray, List.set_cons_zero, List.set_cons_succ, i64_w, i32_w]
                                                rfl
                                              refine pure_ (i := 2) (N := some 116) (v := ?_) (a' := ?_) #[true, true, true, false, false, false, false, false, false, false, false, false, false, false, false, false, false, false, false, false, false, false, false, false, false, false, false] rfl rfl (any_of HT_.out (by kernel_rfl)) (fun _ _ _ h => h) (Or.inl ⟨by rfl, ?_⟩) ?_ ?_
                                              rotate_left
                                              · intro w'
                                                go_simp
                                                with_reducible rfl
                                              rotate_left
                                              · simp only [Act.put, List.setIfInBounds_toArray, List.set_cons_zero, List.set_cons_succ, i64_w, i32_w]
                                                rfl
                                              refine pure_ (i := 3) (N := some 117) (v := ?_) (a' := ?_) #[true, true, true, true, false, false, false, false, false, false, false, false, false, false, false, false, false, false, false, false, false, false, false, false, false, false, false] rfl rfl (any_of HT_.out (by kernel_rfl)) (fun _ _ _ h => h) (Or.inl ⟨by rfl, ?_⟩) ?_ ?_
                                              rotate_left
                                              · intro w'
                                                go_simp
                                                with_reducible rfl
                                              rotate_left
                                              · simp only [Act.put, List.setIfInBounds_toArray, List.set_cons_zero, List.set_cons_succ, i64_w, i32_w]
                                                rfl
                                              refine pure_ (i := 4) (N := some 118) (v := ?_) (a' := ?_) #[true, true, true, true, true, false, false, false, false, false, false, false, false, false, false, false, false, false, false, false, false, false, false, false, false, false, false] rfl rfl (any_of HT_.out (by kernel_rfl)) (fun _ _ _ h => h) (Or.inl ⟨by rfl, ?_⟩) ?_ ?_
                                              rotate_left
                                              · intro w'
                                                go_simp
                                                with_reducible rfl
                                              rotate_left
                                              · simp only [Act.put, List.setIfInBounds_toArray, List.set_cons_zero, List.set_cons_succ, i64_w, i32_w]
                                                rfl
                                              refine pure_ (i := 5) (N := some 119) (v := ?_) (a' := ?_) #[true, true, true, true, true, true, false, false, false, false, false, false, false, false, false, false, false, false, false, false, false, false, false, false, false, false, false] rfl rfl (any_of HT_.out (by kernel_rfl)) (fun _ _ _ h => h) (Or.inl ⟨by rfl, ?_⟩) ?_ ?_
                                              rotate_left
                                              · intro w'
                                                go_simp
                                                with_reducible rfl
                                              rotate_left
                                              · simp only [Act.put, List.setIfInBounds_toArray, List.set_cons_zero, List.set_cons_succ, i64_w, i32_w]
                                                rfl
                                              refine pure_ (i := 6) (N := some 120) (v := ?_) (a' := ?_) #[true, true, true, true, true, true, true, false, false, false, false, false, false, false, false, false, false, false, false, false, false, false, false, false, false, false, false] rfl rfl (any_of HT_.out (by kernel_rfl)) (fun _ _ _ h => h) (Or.inl ⟨by rfl, ?_⟩) ?_ ?_
                                              rotate_left
                                              · intro w'
                                                go_simp
                                                with_reducible rfl
                                              rotate_left
                                              · simp only [Act.put, List.setIfInBounds_toArray, List.set_cons_zero, List.set_cons_succ, i64_w, i32_w]
                                                rfl
                                              refine pure_ (i := 7) (N := some 121) (v := ?_) (a' := ?_) #[true, true, true, true, true, true, true, true, false, false, false, false, false, false, false, false, false, false, false, false, false, false, false, false, false, false, false] rfl rfl (any_of HT_.out (by kernel_rfl)) (fun _ _ _ h => h) (Or.inl ⟨by rfl, ?_⟩) ?_ ?_
                                              rotate_left
                                              · intro w'
                                                go_simp
                                                with_reducible rfl
                                              rotate_left
                                              · simp only [Act.put, List.setIfInBounds_toArray, List.set_cons_zero, List.set_cons_succ, i64_w, i32_w]
                                                rfl
                                              refine pure_ (i := 8) (N := some 122) (v := ?_) (a' := ?_) #[true, true, true, true, true, true, true, true, true, false, false, false, false, false, false, false, false, false, false, false, false, false, false, false, false, false, false] rfl rfl (any_of HT_.out (by kernel_rfl)) (fun _ _ _ h => h) (Or.inl ⟨by rfl, ?_⟩) ?_ ?_
                                              rotate_left
                                              · intro w'
                                                go_simp
                                                with_reducible rfl
                                              rotate_left
                                              · simp only [Act.put, List.setIfInBounds_toArray, List.set_cons_zero, List.set_cons_succ, i64_w, i32_w]
                                                rfl
                                              refine pure_ (i := 9) (N := some 123) (v := ?_) (a' := ?_) #[true, true, true, true, true, true, true, true, true, true, false, false, false, false, false, false, false, false, false, false, false, false, false, false, false, false, false] rfl rfl (any_of HT_.out (by kernel_rfl)) (fun _ _ _ h => h) (Or.inl ⟨by rfl, ?_⟩) ?_ ?_
                                              rotate_left
                                              · intro w'
                                                go_simp
                                                with_reducible rfl
                                              rotate_left
                                              · simp only [Act.put, List.setIfInBounds_toArray, List.set_cons_zero, List.set_cons_succ, i64_w, i32_w]
                                                rfl
                                              refine pure_ (i := 10) (N := some 124) (v := ?_) (a' := ?_) #[true, true, true, true, true, true, true, true, true, true, true, false, false, false, false, false, false, false, false, false, false, false, false, false, false, false, false] rfl rfl (any_of HT_.out (by kernel_rfl)) (fun _ _ _ h => h) (Or.inl ⟨by rfl, ?_⟩) ?_ ?_
                                              rotate_left
                                              · intro w'
                                                go_simp
                                                with_reducible rfl
                                              rotate_left
                                              · simp only [Act.put, List.setIfInBounds_toArray, List.set_cons_zero, List.set_cons_succ, i64_w, i32_w]
                                                rfl
                                              refine pure_ (i := 11) (N := some 125) (v := ?_) (a' := ?_) #[true, true, true, true, true, true, true, true, true, true, true, true, false, false, false, false, false, false, false, false, false, false, false, false, false, false, false] rfl rfl (any_of HT_.out (by kernel_rfl)) (fun _ _ _ h => h) (Or.inl ⟨by rfl, ?_⟩) ?_ ?_
                                              rotate_left
                                              · intro w'
                                                go_simp
                                                with_reducible rfl
                                              rotate_left
                                              · simp only [Act.put, List.setIfInBounds_toArray, List.set_cons_zero, List.set_cons_succ, i64_w, i32_w]
                                                rfl
                                              refine pure_ (i := 12) (N := some 126) (v := ?_) (a' := ?_) #[true, true, true, true, true, true, true, true, true, true, true, true, true, false, false, false, false, false, false, false, false, false, false, false, false, false, false] rfl rfl (any_of HT_.out (by kernel_rfl)) (fun _ _ _ h => h) (Or.inl ⟨by rfl, ?_⟩) ?_ ?_
                                              rotate_left
                                              · intro w'
                                                go_simp
                                                with_reducible rfl
                                              rotate_left
                                              · simp only [Act.put, List.setIfInBounds_toArray, List.set_cons_zero, List.set_cons_succ, i64_w, i32_w]
                                                rfl
                                              refine pure_ (i := 13) (N := some 127) (v := ?_) (a' := ?_) #[true, true, true, true, true, true, true, true, true, true, true, true, true, true, false, false, false, false, false, false, false, false, false, false, false, false, false] rfl rfl (any_of HT_.out (by kernel_rfl)) (fun _ _ _ h => h) (Or.inl ⟨by rfl, ?_⟩) ?_ ?_
                                              rotate_left
                                              · intro w'
                                                go_simp
                                                with_reducible rfl
                                              rotate_left
                                              · simp only [Act.put, List.setIfInBounds_toArray, List.set_cons_zero, List.set_cons_succ, i64_w, i32_w]
                                                rfl
                                              refine pure_ (i := 15) (N := some 129) (v := ?_) (a' := ?_) #[true, true, true, true, true, true, true, true, true, true, true, true, true, true, false, true, false, false, false, false, false, false, false, false, false, false, false] rfl rfl (any_of HT_.out (by kernel_rfl)) (fun _ _ _ h => h) (Or.inl ⟨by rfl, ?_⟩) ?_ ?_
                                              rotate_left
                                              · intro w'
                                                go_simp
                                                with_reducible rfl
                                              rotate_left
                                              · simp only [Act.put, List.setIfInBounds_toArray, List.set_cons_zero, List.set_cons_succ, i64_w, i32_w]
                                                rfl
                                              refine pure_ (i := 16) (N := some 130) (v := ?_) (a' := ?_) #[true, true, true, true, true, true, true, true, true, true, true, true, true, true, false, true, true, false, false, false, false, false, false, false, false, false, false] rfl rfl (any_of HT_.out (by kernel_rfl)) (fun _ _ _ h => h) (Or.inl ⟨by rfl, ?_⟩) ?_ ?_
                                              rotate_left
                                              · intro w'
                                                go_simp
                                                with_reducible rfl
                                              rotate_left
                                              · simp only [Act.put, List.setIfInBounds_toArray, List.set_cons_zero, List.set_cons_succ, i64_w, i32_w]
                                                rfl
                                              refine pure_ (i := 17) (N := some 131) (v := ?_) (a' := ?_) #[true, true, true, true, true, true, true, true, true, true, true, true, true, true, false, true, true, true, false, false, false, false, false, false, false, false, false] rfl rfl (any_of HT_.out (by kernel_rfl)) (fun _ _ _ h => h) (Or.inl ⟨by rfl, ?_⟩) ?_ ?_
                                              rotate_left
                                              · intro w'
                                                go_simp
                                                with_reducible rfl
                                              rotate_left
                                              · simp only [Act.put, List.setIfInBounds_toArray, List.set_cons_zero, List.set_cons_succ, i64_w, i32_w]
                                                rfl
                                              refine pure_ (i := 19) (N := some 133) (v := ?_) (a' := ?_) #[true, true, true, true, true, true, true, true, true, true, true, true, true, true, false, true, true, true, false, true, false, false, false, false, false, false, false] rfl rfl (any_of HT_.out (by kernel_rfl)) (fun _ _ _ h => h) (Or.inl ⟨by rfl, ?_⟩) ?_ ?_
                                              rotate_left
                                              · intro w'
                                                go_simp
                                                with_reducible rfl
                                              rotate_left
                                              · simp only [Act.put, List.setIfInBounds_toArray, List.set_cons_zero, List.set_cons_succ, i64_w, i32_w]
                                                rfl
                                              refine pure_ (i := 20) (N := some 134) (v := ?_) (a' := ?_) #[true, true, true, true, true, true, true, true, true, true, true, true, true, true, false, true, true, true, false, true, true, false, false, false, false, false, false] rfl rfl (any_of HT_.out (by kernel_rfl)) (fun _ _ _ h => h) (Or.inl ⟨by rfl, ?_⟩) ?_ ?_
                                              rotate_left
                                              · intro w'
                                                go_simp
                                                with_reducible rfl
                                              rotate_left
                                              · simp only [Act.put, List.setIfInBounds_toArray, List.set_cons_zero, List.set_cons_succ, i64_w, i32_w]
                                                rfl
                                              refine pure_ (i := 21) (N := some 135) (v := ?_) (a' := ?_) #[true, true, true, true, true, true, true, true, true, true, true, true, true, true, false, true, true, true, false, true, true, true, false, false, false, false, false] rfl rfl (any_of HT_.out (by kernel_rfl)) (fun _ _ _ h => h) (Or.inl ⟨by rfl, ?_⟩) ?_ ?_
                                              rotate_left
                                              · intro w'
                                                go_simp
                                                with_reducible rfl
                                              rotate_left
                                              · simp only [Act.put, List.setIfInBounds_toArray, List.set_cons_zero, List.set_cons_succ, i64_w, i32_w]
                                                rfl
                                              refine pure_ (i := 22) (N := some 136) (v := ?_) (a' := ?_) #[true, true, true, true, true, true, true, true, true, true, true, true, true, true, false, true, true, true, false, true, true, true, true, false, false, false, false] rfl rfl (any_of HT_.out (by kernel_rfl)) (fun _ _ _ h => h) (Or.inl ⟨by rfl, ?_⟩) ?_ ?_
                                              rotate_left
                                              · intro w'
                                                go_simp
                                                with_reducible rfl
                                              rotate_left
                                              · simp only [Act.put, List.setIfInBounds_toArray, List.set_cons_zero, List.set_cons_succ, i64_w, i32_w]
                                                rfl
                                              refine one_ (i := 14) (N := some 128) #[true, true, true, true, true, true, true, true, true, true, true, true, true, true, true, true, true, true, false, true, true, true, true, false, false, false, false] rfl rfl (one_of HT_.out (by kernel_rfl)) (by decide) (fun K hK => ?_)
                                              refine Kd.R_lit_step k23 _ 23 ?hg (N := 128) ?hd (xs := ([] : List (S23))) (inner := []) (ok := fun _ => True) (okp := fun _ => True) ?hr ?hp (fun _ hk => hk) trivial (Below.refl _ _) (Nat.le_refl _) (by simp) ?_; (case hd => rfl); (case hg => rfl); (case hr => first | (go_simp; done) | (go_simp; rfl)); (case hp => exact (Reps.none _ _))
                                              intro v336 w68 ho69 hb hg_ hnew_
                                              clear hg_ hnew_
                                              (first | rw [← Ny335.out] at ho69 | (simp only [Int.reduceToNat] at ho69; rw [← Ny335.out] at ho69))
                                              have n0_ := Aside0.mk (Kd.R_elder' (by (with_reducible repeat (first | apply Kd.R_alloc | apply Kd.R_drewN | apply Kd.R_drew)); exact HO_11.out) (Kd.R_base ho69) hb)
                                              have n1_ := Aside0.mk (Kd.R_elder' (by (with_reducible repeat (first | apply Kd.R_alloc | apply Kd.R_drewN | apply Kd.R_drew)); exact HO333.out) (Kd.R_base ho69) hb)
                                              have n2_ := Aside0.mk (Kd.R_lower (Kd.R_new' (Kd.R_new' ho69 (Kd.R_lt (by (with_reducible repeat (first | apply Kd.R_alloc | apply Kd.R_drewN | apply Kd.R_drew)); exact HO_11.out))) (Kd.R_lt (by (with_reducible repeat (first | apply Kd.R_alloc | apply Kd.R_drewN | apply Kd.R_drew)); exact HO333.out))) (below_size (by repeat (first | (with_reducible first | exact HB.out | apply below_alloc | apply pw_below_drewN | apply below_drew1) | exact HB.out))))
                                              have n3_ := Aside0.mk (Kd.C_below (by repeat (first | (with_reducible exact HR321.out) | (with_reducible refine Kd.C_alloc ?_ _) | (with_reducible refine Kd.C_drewN ?_ _) | (with_reducible refine Kd.C_drew ?_) | exact HR321.out)) hb)
                                              have n4_ := Aside0.mk (Kd.C_below (by repeat (first | (with_reducible exact HR327.out) | (with_reducible refine Kd.C_alloc ?_ _) | (with_reducible refine Kd.C_drewN ?_ _) | (with_reducible refine Kd.C_drew ?_) | exact HR327.out)) hb)
                                              have n5_ := Aside0.mk (below_step (by repeat (first | (with_reducible first | exact HB.out | apply below_alloc | apply pw_below_drewN | apply below_drew1) | exact HB.out)) hb)
                                              clear HO_11
                                              clear HO333
                                              clear HR321
                                              clear HR327
                                              clear HB
                                              have HO_11 := n0_
                                              have HO333 := n1_
                                              have HO337 := n2_
                                              have HR321 := n3_
                                              have HR327 := n4_
                                              have HB := n5_
                                              clear n0_ n1_ n2_ n3_ n4_ n5_
                                              clear hb ho69
                                              have q70 : (a2 : Int) ≤ ((y312.length : Int) : Int) := of_decide_eq_true (by first | (with_reducible assumption) | assumption)
                                              obtain ⟨i070, hi070, _, hsz70, _⟩ := info_parts info23
                                              have hroom70 : y312.length ≤ co25 := (Kd.R_reads' HO_11.out).2.1
                                              have hC70 : Kd.C k23 _ Ao25 y312.length y312 := (Kd.R_reads' HO_11.out).2.2
                                              have hcut70 := cut_to (P := Tryz.prog) 33 23 .i64 Tryz.underlying33 hi070 Ao25 y312.length co25 a2 (of_decide_eq_true (by first | (with_reducible assumption) | assumption)) q70 hroom70
                                              have hr70 := Kd.C_take (m := (a2 : Int).toNat) hC70 (by omega)
                                              have hy70 : y318.length = (a2 : Int).toNat := (by rw [Ny338.out, List.length_take]; omega)
                                              rw [← Ny338.out] at hr70
                                              rw [← hy70] at hcut70
                                              have HR341 := Aside0.mk hr70
                                              have HC341 := Aside0.mk (show y318.length ≤ co25 from by omega)
                                              clear hr70 hC70 hroom70 hi070 hsz70
                                              have KY70 := Aside0.mk hy70
                                              clear hy70
                                              have KL70 := Aside0.mk (show (a2 : Int).toNat ≤ y312.length from by omega)
                                              replace q70 := eq_true q70
                                              refine hK.out _ _ trivial (fun hHeld => ?_)
                                              clear hK K
                                              refine norm_ (a' := ?_) ?_ ?_
                                              rotate_left
                                              · show Act.put _ (some 128) _ = _
                                                simp only [Act.put, List.setIfInBounds_toArray, List.set_cons_zero, List.set_cons_succ, i64_w, i32_w]
                                                rfl
                                              refine one_ (i := 18) (N := some 132) #[true, true, true, true, true, true, true, true, true, true, true, true, true, true, true, true, true, true, true, true, true, true, true, false, false, false, false] rfl rfl (one_of HT_.out (by kernel_rfl)) (by decide) (fun K hK => ?_)
                                              refine Kd.R_append_rows_step k23 (w0 := w) w.heap.size (by rfl) (.tmp 128) (.tmp 131) 33 23 (.agg #[(.int .i64 0), (.int .i64 0), (.string ⟨#[]⟩)]) 32 rfl Tryz.underlying33 info23 rfl (by decide) (by omega) v336 y335 y318 _ _ _ (fun k_ => some k_ ≠ (.slice Ao25 y312.length co25 : Value).ownBlock ∧ some k_ ≠ (v332 : Value).ownBlock) (fun _ => False) rfl rfl ?aO ?aR (fun _ _ h => h) (fun _ h => h.elim) ?aF ?aB ?aS ?aL ?_
                                              (case aR => repeat (first | exact (by repeat (first | (with_reducible exact HR341.out) | (with_reducible refine Kd.C_alloc ?_ _) | (with_reducible refine Kd.C_drewN ?_ _) | (with_reducible refine Kd.C_drew ?_) | exact HR341.out)) | (with_reducible refine Kd.C_alloc ?_ _) | (with_reducible refine Kd.C_drewN ?_ _) | (with_reducible refine Kd.C_drew ?_)))
                                              (case aB => exact (by repeat (first | (with_reducible first | exact HB.out | apply below_alloc | apply pw_below_drewN | apply below_drew1) | exact HB.out)))
                                              (case aF => exact (fun k_ hk => ⟨Kd.fresh' (Kd.R_lt (by (with_reducible repeat (first | apply Kd.R_alloc | apply Kd.R_drewN | apply Kd.R_drew)); exact HO_11.out)) k_ hk, Kd.fresh' (Kd.R_lt (by (with_reducible repeat (first | apply Kd.R_alloc | apply Kd.R_drewN | apply Kd.R_drew)); exact HO333.out)) k_ hk⟩))
                                              (case aO => exact (by (with_reducible repeat (first | apply Kd.R_alloc | apply Kd.R_drewN | apply Kd.R_drew)); exact Kd.R_mono HO337.out (fun _ hk => ⟨hk.1.2, hk.2⟩)))
                                              (case aS => exact (below_size (by repeat (first | (with_reducible first | exact HB.out | apply below_alloc | apply pw_below_drewN | apply below_drew1) | exact HB.out))))
                                              (case aL => have := LMc56.out; omega)
                                              intro v343 w71 ho hb hg hat
                                              rw [← Ny342.out] at ho
                                              have n0_ := Aside0.mk (Kd.R_after (ok := (fun k_ => some k_ ≠ (v332 : Value).ownBlock)) (by (with_reducible repeat (first | apply Kd.R_alloc | apply Kd.R_drewN | apply Kd.R_drew)); exact Kd.R_mono HO_11.out (fun _ hk => ⟨hk.1.2, hk.2⟩)) hg hat)
                                              have n1_ := Aside0.mk (Kd.R_after (ok := (fun k_ => some k_ ≠ (.slice Ao25 y312.length co25 : Value).ownBlock)) (by (with_reducible repeat (first | apply Kd.R_alloc | apply Kd.R_drewN | apply Kd.R_drew)); exact Kd.R_mono HO333.out (fun _ hk => ⟨hk.1.2, hk.2⟩)) hg hat)
                                              have n2_ := Aside0.mk (hb)
                                              have n3_ := Aside0.mk ((show Kd.C k23 w71 Ao25 y318.length y318 from by rw [Ny318.out]; exact Kd.C_take (m := (a2 : Int).toNat) ((Kd.R_reads' (Kd.R_after (ok := (fun k_ => some k_ ≠ (v332 : Value).ownBlock)) (by (with_reducible repeat (first | apply Kd.R_alloc | apply Kd.R_drewN | apply Kd.R_drew)); exact Kd.R_mono HO_11.out (fun _ hk => ⟨hk.1.2, hk.2⟩)) hg hat)).2.2) KL61.out))
                                              have n4_ := Aside0.mk ((show Kd.C k23 w71 A63 y324.length y324 from by rw [Ny324.out, KA63.out]; exact Kd.C_drop (m := ((ji43) : Int).toNat) (c := co25) ((Kd.R_reads' (Kd.R_after (ok := (fun k_ => some k_ ≠ (v332 : Value).ownBlock)) (by (with_reducible repeat (first | apply Kd.R_alloc | apply Kd.R_drewN | apply Kd.R_drew)); exact Kd.R_mono HO_11.out (fun _ hk => ⟨hk.1.2, hk.2⟩)) hg hat)).2.2) KL63.out ((Kd.R_reads' (Kd.R_after (ok := (fun k_ => some k_ ≠ (v332 : Value).ownBlock)) (by (with_reducible repeat (first | apply Kd.R_alloc | apply Kd.R_drewN | apply Kd.R_drew)); exact Kd.R_mono HO_11.out (fun _ hk => ⟨hk.1.2, hk.2⟩)) hg hat)).2.1)))
                                              have n5_ := Aside0.mk ((show Kd.C k23 w71 Ao25 y318.length y318 from by rw [Ny338.out]; exact Kd.C_take (m := (a2 : Int).toNat) ((Kd.R_reads' (Kd.R_after (ok := (fun k_ => some k_ ≠ (v332 : Value).ownBlock)) (by (with_reducible repeat (first | apply Kd.R_alloc | apply Kd.R_drewN | apply Kd.R_drew)); exact Kd.R_mono HO_11.out (fun _ hk => ⟨hk.1.2, hk.2⟩)) hg hat)).2.2) KL70.out))
                                              have n6_ := Aside0.mk (ho)
                                              clear HO_11
                                              clear HO333
                                              clear HB
                                              clear HR321
                                              clear HR327
                                              clear HR341
                                              clear HO337
                                              have HO_11 := n0_
                                              have HO333 := n1_
                                              have HB := n2_
                                              have HR321 := n3_
                                              have HR327 := n4_
                                              have HR341 := n5_
                                              have HO344 := n6_
                                              clear n0_ n1_ n2_ n3_ n4_ n5_ n6_
                                              clear ho hb hg hat
                                              have q72 : ((ji43) : Int) ≤ ((y312.length : Int) : Int) := of_decide_eq_true (by first | (with_reducible assumption) | assumption)
                                              obtain ⟨i072, hi072, _, hsz72, _⟩ := info_parts info23
                                              have hroom72 : y312.length ≤ co25 := (Kd.R_reads' HO_11.out).2.1
                                              have hC72 : Kd.C k23 _ Ao25 y312.length y312 := (Kd.R_reads' HO_11.out).2.2
                                              have q072 : (0 : Int) ≤ ((ji43) : Int) := of_decide_eq_true (by first | (with_reducible assumption) | assumption)
                                              have hcut72 := cut_from (P := Tryz.prog) 33 23 .i64 Tryz.underlying33 hi072 3 hsz72 Ao25 y312.length co25 (ji43) q072 q72
                                              have hr72 := Kd.C_drop (m := ((ji43) : Int).toNat) (c := co25) hC72 (by omega) hroom72
                                              have hA72 := KA63.out
                                              obtain ⟨c72, hc72⟩ : ∃ c1, c1 = co25 - ((ji43) : Int).toNat := ⟨_, rfl⟩
                                              have hy72 : y324.length = y312.length - ((ji43) : Int).toNat := (by rw [Ny345.out, List.length_drop] <;> omega)
                                              rw [show (y312).drop ((ji43) : Int).toNat = y324 from Ny345.out.symm] at hr72
                                              replace hr72 : Kd.C k23 _ A63 y324.length y324 := (by rw [hA72]; exact hr72)
                                              rw [← hy72, ← hA72, ← hc72] at hcut72
                                              have HR348 := Aside0.mk hr72
                                              have HC348 := Aside0.mk (show y324.length ≤ c72 from by rw [hy72, hc72]; exact Nat.sub_le_sub_right hroom72 _)
                                              clear hr72 hC72 hroom72 hi072 hsz72 hc72
                                              have KY72 := Aside0.mk hy72
                                              have KA72 := Aside0.mk hA72
                                              clear hy72 hA72
                                              have KL72 := Aside0.mk (show ((ji43) : Int).toNat ≤ y312.length from by omega)
                                              replace q72 := eq_true q72
                                              refine hK.out _ _ trivial (fun hHeld => ?_)
                                              clear hK K
                                              refine norm_ (a' := ?_) ?_ ?_
                                              rotate_left
                                              · show Act.put _ (some 132) _ = _
                                                simp only [Act.put, List.setIfInBounds_toArray, List.set_cons_zero, List.set_cons_succ, i64_w, i32_w]
                                                rfl
                                              refine one_ (i := 23) (N := some 137) #[true, true, true, true, true, true, true, true, true, true, true, true, true, true, true, true, true, true, true, true, true, true, true, true, false, false, false] rfl rfl (one_of HT_.out (by kernel_rfl)) (by decide) (fun K hK => ?_)
                                              refine Kd.R_append_rows_step k23 (w0 := w) w.heap.size (by rfl) (.tmp 132) (.tmp 136) 33 23 (.agg #[(.int .i64 0), (.int .i64 0), (.string ⟨#[]⟩)]) 32 rfl Tryz.underlying33 info23 rfl (by decide) (by omega) v343 y342 y324 _ _ _ (fun k_ => some k_ ≠ (.slice Ao25 y312.length co25 : Value).ownBlock ∧ some k_ ≠ (v332 : Value).ownBlock) (fun _ => False) rfl rfl ?aO ?aR (fun _ _ h => h) (fun _ h => h.elim) ?aF ?aB ?aS ?aL ?_
                                              (case aR => repeat (first | exact (by repeat (first | (with_reducible exact HR348.out) | (with_reducible refine Kd.C_alloc ?_ _) | (with_reducible refine Kd.C_drewN ?_ _) | (with_reducible refine Kd.C_drew ?_) | exact HR348.out)) | (with_reducible refine Kd.C_alloc ?_ _) | (with_reducible refine Kd.C_drewN ?_ _) | (with_reducible refine Kd.C_drew ?_)))
                                              (case aB => exact (by repeat (first | (with_reducible first | exact HB.out | apply below_alloc | apply pw_below_drewN | apply below_drew1) | exact HB.out)))
                                              (case aF => exact (fun k_ hk => ⟨Kd.fresh' (Kd.R_lt (by (with_reducible repeat (first | apply Kd.R_alloc | apply Kd.R_drewN | apply Kd.R_drew)); exact HO_11.out)) k_ hk, Kd.fresh' (Kd.R_lt (by (with_reducible repeat (first | apply Kd.R_alloc | apply Kd.R_drewN | apply Kd.R_drew)); exact HO333.out)) k_ hk⟩))
                                              (case aO => exact (by (with_reducible repeat (first | apply Kd.R_alloc | apply Kd.R_drewN | apply Kd.R_drew)); exact HO344.out))
                                              (case aS => exact (below_size (by repeat (first | (with_reducible first | exact HB.out | apply below_alloc | apply pw_below_drewN | apply below_drew1) | exact HB.out))))
                                              (case aL => have := LMc59.out; omega)
                                              intro v350 w73 ho hb hg hat
                                              rw [← Ny349.out] at ho
                                              have n0_ := Aside0.mk (Kd.R_after (ok := (fun k_ => some k_ ≠ (v332 : Value).ownBlock)) (by (with_reducible repeat (first | apply Kd.R_alloc | apply Kd.R_drewN | apply Kd.R_drew)); exact HO_11.out) hg hat)
                                              have n1_ := Aside0.mk (Kd.R_after (ok := (fun k_ => some k_ ≠ (.slice Ao25 y312.length co25 : Value).ownBlock)) (by (with_reducible repeat (first | apply Kd.R_alloc | apply Kd.R_drewN | apply Kd.R_drew)); exact HO333.out) hg hat)
                                              have n2_ := Aside0.mk (hb)
                                              have n3_ := Aside0.mk ((show Kd.C k23 w73 Ao25 y318.length y318 from by rw [Ny318.out]; exact Kd.C_take (m := (a2 : Int).toNat) ((Kd.R_reads' (Kd.R_after (ok := (fun k_ => some k_ ≠ (v332 : Value).ownBlock)) (by (with_reducible repeat (first | apply Kd.R_alloc | apply Kd.R_drewN | apply Kd.R_drew)); exact HO_11.out) hg hat)).2.2) KL61.out))
                                              have n4_ := Aside0.mk ((show Kd.C k23 w73 A63 y324.length y324 from by rw [Ny324.out, KA63.out]; exact Kd.C_drop (m := ((ji43) : Int).toNat) (c := co25) ((Kd.R_reads' (Kd.R_after (ok := (fun k_ => some k_ ≠ (v332 : Value).ownBlock)) (by (with_reducible repeat (first | apply Kd.R_alloc | apply Kd.R_drewN | apply Kd.R_drew)); exact HO_11.out) hg hat)).2.2) KL63.out ((Kd.R_reads' (Kd.R_after (ok := (fun k_ => some k_ ≠ (v332 : Value).ownBlock)) (by (with_reducible repeat (first | apply Kd.R_alloc | apply Kd.R_drewN | apply Kd.R_drew)); exact HO_11.out) hg hat)).2.1)))
                                              have n5_ := Aside0.mk ((show Kd.C k23 w73 Ao25 y318.length y318 from by rw [Ny338.out]; exact Kd.C_take (m := (a2 : Int).toNat) ((Kd.R_reads' (Kd.R_after (ok := (fun k_ => some k_ ≠ (v332 : Value).ownBlock)) (by (with_reducible repeat (first | apply Kd.R_alloc | apply Kd.R_drewN | apply Kd.R_drew)); exact HO_11.out) hg hat)).2.2) KL70.out))
                                              have n6_ := Aside0.mk ((show Kd.C k23 w73 A63 y324.length y324 from by rw [Ny345.out, KA72.out]; exact Kd.C_drop (m := ((ji43) : Int).toNat) (c := co25) ((Kd.R_reads' (Kd.R_after (ok := (fun k_ => some k_ ≠ (v332 : Value).ownBlock)) (by (with_reducible repeat (first | apply Kd.R_alloc | apply Kd.R_drewN | apply Kd.R_drew)); exact HO_11.out) hg hat)).2.2) KL72.out ((Kd.R_reads' (Kd.R_after (ok := (fun k_ => some k_ ≠ (v332 : Value).ownBlock)) (by (with_reducible repeat (first | apply Kd.R_alloc | apply Kd.R_drewN | apply Kd.R_drew)); exact HO_11.out) hg hat)).2.1)))
                                              have n7_ := Aside0.mk (ho)
                                              clear HO_11
                                              clear HO333
                                              clear HB
                                              clear HR321
                                              clear HR327
                                              clear HR341
                                              clear HR348
                                              clear HO344
                                              have HO_11 := n0_
                                              have HO333 := n1_
                                              have HB := n2_
                                              have HR321 := n3_
                                              have HR327 := n4_
                                              have HR341 := n5_
                                              have HR348 := n6_
                                              have HO351 := n7_
                                              clear n0_ n1_ n2_ n3_ n4_ n5_ n6_ n7_
                                              clear ho hb hg hat
                                              obtain ⟨Ao74, co74, eo74⟩ := Kd.R_slice HO333.out
                                              (first | subst eo74 | (injection eo74 with f1_ f2_ f3_; have f4_ := f1_.symm; have f5_ := f3_.symm; clear f1_ f2_ f3_; subst f4_; subst f5_))
                                              obtain ⟨Ao75, co75, eo75⟩ := Kd.R_slice HO351.out
                                              (first | subst eo75 | (injection eo75 with f1_ f2_ f3_; have f4_ := f1_.symm; have f5_ := f3_.symm; clear f1_ f2_ f3_; subst f4_; subst f5_))
                                              refine hK.out _ _ trivial (fun hHeld => ?_)
                                              clear hK K
                                              refine norm_ (a' := ?_) ?_ ?_
                                              rotate_left
                                              · show Act.put _ (some 137) _ = _
                                                simp only [Act.put, List.setIfInBounds_toArray, List.set_cons_zero, List.set_cons_succ, i64_w, i32_w]
                                                rfl
                                              refine one_ (i := 24) (N := some 138) #[true, true, true, true, true, true, true, true, true, true, true, true, true, true, true, true, true, true, true, true, true, true, true, true, true, false, false] rfl rfl (one_of HT_.out (by kernel_rfl)) (by decide) (fun K hK => ?_)
                                              refine goes_ Tryz.func27 (by kernel_rfl) rfl #[.slice Ao74 t330.length co74, .slice Ao75 y349.length co75] (by rfl) rfl rfl (by (try simp only [List.map_toArray, List.map_cons, List.map_nil]); first | done | rfl | (simp only [List.length_drop, List.length_take]; rfl)) ?_
                                              with_reducible refine (code_Same.calls kj28 _ _ t330 _ _ y349 t352 _ ?side1 ?side2 ?side3 ?side4 A60.out).mono ?_
                                              (case side1 => repeat (first | exact (Kd.R_reads' HO333.out).2.2 | (with_reducible refine Kd.C_alloc ?_ _) | (with_reducible refine Kd.C_drewN ?_ _) | (with_reducible refine Kd.C_drew ?_)))
                                              (case side2 => exact (Kd.R_reads' HO333.out).2.1)
                                              (case side3 => repeat (first | exact (Kd.R_reads' HO351.out).2.2 | (with_reducible refine Kd.C_alloc ?_ _) | (with_reducible refine Kd.C_drewN ?_ _) | (with_reducible refine Kd.C_drew ?_)))
                                              (case side4 => exact (Kd.R_reads' HO351.out).2.1)
                                              rintro e w' ⟨rfl, ⟨nd, rfl⟩⟩
                                              refine ⟨_, rfl, ?_⟩
                                              refine hK.out _ _ trivial (fun hHeld => ?_)
                                              clear hK K
                                              refine norm_ (a' := ?_) ?_ ?_
                                              rotate_left
                                              · show Act.put _ (some 138) _ = _
                                                simp only [Act.put, List.setIfInBounds_toArray, List.set_cons_zero, List.set_cons_succ, i64_w, i32_w]
                                                rfl
                                              refine pure_ (i := 25) (N := some 139) (v := ?_) (a' := ?_) #[true, true, true, true, true, true, true, true, true, true, true, true, true, true, true, true, true, true, true, true, true, true, true, true, true, true, false] rfl rfl (any_of HT_.out (by kernel_rfl)) (fun _ _ _ h => h) (Or.inl ⟨by rfl, ?_⟩) ?_ ?_
                                              rotate_left
                                              · intro w'
                                                go_simp
                                                with_reducible rfl
                                              rotate_left
                                              · simp only [Act.put, List.setIfInBounds_toArray, List.set_cons_zero, List.set_cons_succ, i64_w, i32_w]
                                                rfl
                                              refine pure_ (i := 26) (N := some 6) (v := ?_) (a' := ?_) #[true, true, true, true, true, true, true, true, true, true, true, true, true, true, true, true, true, true, true, true, true, true, true, true, true, true, true] rfl rfl (any_of HT_.out (by kernel_rfl)) (fun _ _ _ h => h) (Or.inl ⟨by rfl, ?_⟩) ?_ ?_
                                              rotate_left
                                              · intro w'
                                                go_simp
                                                with_reducible rfl
                                              rotate_left
                                              · simp only [Act.put, List.setIfInBounds_toArray, List.set_cons_zero, List.set_cons_succ, i64_w, i32_w]
                                                rfl
                                              refine done_ (done_of HT_.out (by kernel_rfl)) ?_
                                              try go_wp2
                                              go_ret
                                              exact ⟨by first | rfl | (simp [errW_none, errW_some] <;> rfl) | (simp only [← hji43]; first | rfl | (simp [errW_none, errW_some] <;> rfl)) | (simp [*, errW_none, errW_some] <;> rfl), by repeat (first | (with_reducible first | exact HB.out | apply below_alloc | apply pw_below_drewN | apply below_drew1) | exact HB.out)⟩
                                            · rw [if_neg c59] at H
                                              exact absurd H (by simp)
                                          · rw [if_neg c56] at H
                                            exact absurd H (by simp)
                                        · rw [if_neg c53] at H
                                          exact absurd ((Option.some.inj H).trans HRT.out) (by decide)
                                      · rw [if_neg c52] at H
                                        exact absurd ((Option.some.inj H).trans HRT.out) (by decide)
                                    · rw [if_neg c51] at H
                                      exact absurd H (by simp)
                                  · replace c50 := Bool.eq_false_iff.mpr c50
                                    subst c50
                                    have H1 := H; rw [if_neg (show ¬ (false = true) by decide)] at H1
                                    exact absurd ((Option.some.inj H1).trans HRT.out) (by decide)
                                · rw [if_neg c47] at H
                                  exact absurd H (by simp)
                              · rw [if_neg c45] at H
                                exact absurd H (by simp)
                            · rw [if_neg c44] at H
                              exact absurd H (by simp)
                          · rw [if_neg c41] at H
                            exact absurd H (by simp)
                        · rw [if_neg c40] at H
                          exact absurd H (by simp)
          · rw [if_neg c16] at H
            exact absurd H (by simp)
        · rw [if_neg c15] at H
          exact absurd H (by simp)

end Go.Proofs.YtmgcpjgpmjhemaaGreatDoor.Pc

/-
The law CodePieces answers true.
-/
namespace Go.Proofs.YtmgcpjgpmjhemaaGreatDoor.Pc
open Go.RowKit Go.Proofs.YtmgcpjgpmjhemaaGreatDoorW.PrintWords Go.Proofs.YtmgcpjgpmjhemaaGreatDoorW.PrintLast Go.Proofs.YtmgcpjgpmjhemaaGreatDoorW.PrintMore
open CodePure (esc Bs unesc figs)
set_option linter.unusedVariables false

def printR (l : List S23) : ByteArray × Int := if l.all mayS then (bs (linesL l), 0) else (⟨#[]⟩, 1)
theorem print_few (l : List S23) (hl : l.length ≤ 200) (hw : ∀ x ∈ l, okS x) : code_Print.f l = some (printR l) := by
  unfold code_Print.f
  rw [if_neg (by omega), if_pos hw]
  rfl
theorem printR_code (l : List S23) : (printR l).2 = if l.all mayS then 0 else 1 := by
  unfold printR
  split <;> rfl
theorem linesL_app (a b : List S23) : linesL (a ++ b) = linesL a ++ linesL b := by simp [linesL]
theorem sumS_app (a b : List S23) : sumS (a ++ b) = sumS a + sumS b := by simp [sumS]

theorem pieces_j2 (p q : List S23) (hp : p.all mayS = true) (hq : q.all mayS = true) (hop : ∀ x ∈ p, okS x) (hoq : ∀ x ∈ q, okS x) (hlp : p.length ≤ 100) (hlq : q.length ≤ 100) (hsp : sumS p ≤ 1200) (hsq : sumS q ≤ 1200) (n : Int) (b : Bool)
    (hb : b = false → 0 ≤ n ∧ n < ((p ++ q).length : Int)) (k : Nat) (hk : 100000 ≤ k) :
    threshinglaw14_CodePieces.j2 (k + 1) n (bs (linesL p)) (bs (linesL q)) (p ++ q) (bs (linesL (p ++ q))) 0 b = some true := by
  have hz : ∀ l : Bs, (bs l).size = l.length := fun _ => rfl
  have hall : (p ++ q).all mayS = true := by rw [List.all_append, hp, hq]; rfl
  have hok : ∀ x ∈ p ++ q, okS x := fun x hx => (List.mem_append.1 hx).elim (hop x) (hoq x)
  have hl : (p ++ q).length ≤ 200 := by simp; omega
  have h1 := linesL_len p hp hop
  have h2 := linesL_len q hq hoq
  have e : (bs (linesL (p ++ q))).toList = (bs (linesL p) ++ bs (linesL q)).toList := by rw [← bs_append, linesL_app]
  have ha := alive_true k (by omega)
  cases b with
  | true =>
    simp only [threshinglaw14_CodePieces.j2, if_true]
    rw [ha]
    simp only [Option.bind_some, if_true]
    rw [if_pos (by rw [hz, hz]; omega), e]
    simp
  | false =>
    obtain ⟨hn0, hn1⟩ := hb rfl
    generalize hP : p ++ q = P at *
    have hsum : sumS P ≤ 2400 := by rw [← hP, sumS_app]; omega
    have hw : wrap64 (n + 1) = ((n.toNat + 1 : Nat) : Int) := by unfold wrap64; omega
    have okT : ∀ x ∈ P.take n.toNat, okS x := fun x hx => hok x (List.mem_of_mem_take hx)
    have okD : ∀ x ∈ P.drop (n.toNat + 1), okS x := fun x hx => hok x (List.mem_of_mem_drop hx)
    have mT : (P.take n.toNat).all mayS = true := List.all_eq_true.2 fun x hx => List.all_eq_true.1 hall x (List.mem_of_mem_take hx)
    have mD : (P.drop (n.toNat + 1)).all mayS = true := List.all_eq_true.2 fun x hx => List.all_eq_true.1 hall x (List.mem_of_mem_drop hx)
    have pT := print_few (P.take n.toNat) (by simp; omega) okT
    have pD := print_few (P.drop (n.toNat + 1)) (by simp; omega) okD
    have rT : printR (P.take n.toNat) = (bs (linesL (P.take n.toNat)), 0) := by unfold printR; rw [mT]; rfl
    have rD : printR (P.drop (n.toNat + 1)) = (bs (linesL (P.drop (n.toNat + 1))), 0) := by unfold printR; rw [mD]; rfl
    rw [rT] at pT
    rw [rD] at pD
    generalize hR : P.take n.toNat ++ P.drop (n.toNat + 1) = R
    have mR : R.all mayS = true := by rw [← hR, List.all_append, mT, mD]; rfl
    have okR : ∀ x ∈ R, okS x := by rw [← hR]; exact fun x hx => (List.mem_append.1 hx).elim (okT x) (okD x)
    have lR : R.length ≤ 200 := by rw [← hR]; simp; omega
    have sT : sumS P = sumS (P.take n.toNat) + sumS (P.drop n.toNat) := by rw [← sumS_app, List.take_append_drop]
    have sR : sumS R ≤ 2400 := by
      have hlt : n.toNat < P.length := by omega
      have hd : P.drop n.toNat = P[n.toNat] :: P.drop (n.toNat + 1) := List.drop_eq_getElem_cons hlt
      rw [hd] at sT
      rw [← hR, sumS_app]
      simp only [sumS, List.map_cons, List.sum_cons] at sT ⊢
      simp only [sumS] at hsum
      omega
    have h3 := linesL_len R mR okR
    have h4 := linesL_len _ mT okT
    have h5 := linesL_len _ mD okD
    have eR : bs (linesL (P.take n.toNat)) ++ bs (linesL (P.drop (n.toNat + 1))) = bs (linesL R) := by rw [← bs_append, ← linesL_app, hR]
    have hread := read_eq (bs (linesL R)) (by rw [hz]; omega) k (by rw [hz]; omega)
    rw [show (bs (linesL R)).data.toList = linesL R from rfl, read_print R mR okR lR] at hread
    have hsame := same_self R (by omega) k (by omega)
    simp only [threshinglaw14_CodePieces.j2, if_neg (show ¬ (false = true) by decide)]
    rw [if_pos hn0, if_pos (by omega), pT]
    simp only [Option.bind_some]
    rw [hw, if_pos (by omega), if_pos (by omega), show (((n.toNat + 1 : Nat) : Int)).toNat = n.toNat + 1 from rfl, pD]
    simp only [Option.bind_some]
    have hlR : (linesL R).length = (linesL (P.take n.toNat)).length + (linesL (P.drop (n.toNat + 1))).length := by rw [← hR, linesL_app, List.length_append]
    rw [if_pos (by rw [hz, hz]; omega), eR, hread]
    simp only [Option.bind_some]
    rw [ha]
    simp only [Option.bind_some, if_true]
    rw [if_pos (by rw [hz, hz]; omega), if_pos e]
    simp only [List.nil_append]
    rw [if_pos (by simp; omega), if_pos (by simp; omega), hR, hsame]
    rfl

theorem codePieces_true (p q : List S23) (hp : ∀ x ∈ p, inS x) (hq : ∀ x ∈ q, inS x) (hlp : p.length < 9000000000000000000) (hlq : q.length < 9000000000000000000) (n : Int) : ∃ k, threshinglaw14_CodePieces.f k p q n = some true := by
  refine ⟨p.length + q.length + 600000 + 3, ?_⟩
  generalize hK : p.length + q.length + 600000 = K
  have h1 := small_eq p (fun x hx => (hp x hx).2.2) hlp (K + 3) (by omega)
  have h2 := small_eq q (fun x hx => (hq x hx).2.2) hlq (K + 3) (by omega)
  have ha := fun k (hk : 40 ≤ k) => alive_true k hk
  have big : threshinglaw14_CodePieces.j0 (K + 3) p q n true = some true := by
    simp only [threshinglaw14_CodePieces.j0, if_true]
    rw [ha _ (by omega)]
    rfl
  unfold threshinglaw14_CodePieces.f
  rw [h1]
  simp only [Option.bind_some]
  cases hbp : smallB p with
  | false => rw [if_neg (by decide)]; exact big
  | true =>
    rw [if_pos rfl, h2]
    simp only [Option.bind_some]
    cases hbq : smallB q with
    | false => rw [if_neg (by decide)]; exact big
    | true =>
      rw [if_pos rfl]
      by_cases hl1 : (p.length : Int) > 100
      · rw [if_pos hl1]; exact big
      · rw [if_neg hl1]
        by_cases hl2 : (q.length : Int) > 100
        · rw [decide_eq_true hl2]; exact big
        · rw [decide_eq_false hl2]
          have hokp := small_ok hbp hp
          have hokq := small_ok hbq hq
          have hsp : p.length ≤ 250 ∧ sumS p ≤ 1200 := by unfold smallB at hbp; simpa using hbp
          have hsq : q.length ≤ 250 ∧ sumS q ≤ 1200 := by unfold smallB at hbq; simpa using hbq
          have pp := print_few p (by omega) hokp
          have pq := print_few q (by omega) hokq
          have hok : ∀ x ∈ p ++ q, okS x := fun x hx => (List.mem_append.1 hx).elim (hokp x) (hokq x)
          have pb := print_few (p ++ q) (by simp; omega) hok
          simp only [threshinglaw14_CodePieces.j0, if_neg (show ¬ (false = true) by decide)]
          rw [pp, pq]
          simp only [Option.bind_some, List.nil_append, List.length_nil]
          rw [if_pos (by omega), if_pos (by omega), pb]
          simp only [Option.bind_some]
          have cp := printR_code p
          have cq := printR_code q
          have cb := printR_code (p ++ q)
          rw [List.all_append] at cb
          have bad : (p.all mayS && q.all mayS) = false → threshinglaw14_CodePieces.j1 (K + 2) n (printR p).1 (printR q).1 (p ++ q) (printR (p ++ q)).1 (printR (p ++ q)).2 false = some true := by
            intro h
            rw [h] at cb
            have cb1 : (printR (p ++ q)).2 = 1 := cb
            simp only [threshinglaw14_CodePieces.j1, if_neg (show ¬ (false = true) by decide)]
            rw [cb1, if_neg (by decide)]
            simp only [threshinglaw14_CodePieces.j2, if_true]
            rw [ha _ (by omega)]
            simp
          cases hap : p.all mayS with
          | false =>
            rw [hap] at cp cb bad
            have cp1 : (printR p).2 = 1 := cp
            have cb1 : (printR (p ++ q)).2 = 1 := cb
            rw [cp1, if_neg (by decide), show (((printR (p ++ q)).2 == 0) != false) = false by rw [cb1]; rfl]
            exact bad rfl
          | true =>
            rw [hap] at cp cb bad
            have cp1 : (printR p).2 = 0 := cp
            rw [cp1, if_pos rfl]
            cases haq : q.all mayS with
            | false =>
              rw [haq] at cq cb bad
              have cq1 : (printR q).2 = 1 := cq
              have cb1 : (printR (p ++ q)).2 = 1 := cb
              rw [show (((printR (p ++ q)).2 == 0) != ((printR q).2 == 0)) = false by rw [cb1, cq1]; rfl]
              exact bad rfl
            | true =>
              rw [haq] at cq cb
              have cq1 : (printR q).2 = 0 := cq
              have cb1 : (printR (p ++ q)).2 = 0 := cb
              rw [show (((printR (p ++ q)).2 == 0) != ((printR q).2 == 0)) = false by rw [cb1, cq1]; rfl]
              have e1 : printR p = (bs (linesL p), 0) := by unfold printR; rw [hap]; rfl
              have e2 : printR q = (bs (linesL q), 0) := by unfold printR; rw [haq]; rfl
              have e3 : printR (p ++ q) = (bs (linesL (p ++ q)), 0) := by unfold printR; rw [List.all_append, hap, haq]; rfl
              rw [e1, e2, e3]
              simp only [threshinglaw14_CodePieces.j1, if_neg (show ¬ (false = true) by decide), if_true]
              have j2 := fun b hb => pieces_j2 p q hap haq hokp hokq (by omega) (by omega) hsp.2 hsq.2 n b hb K (by omega)
              by_cases hn : n < 0
              · rw [if_pos hn]
                exact j2 true (fun h => by cases h)
              · rw [if_neg hn]
                by_cases hn2 : n ≥ ((p ++ q).length : Int)
                · rw [decide_eq_true hn2]
                  exact j2 true (fun h => by cases h)
                · rw [decide_eq_false hn2]
                  exact j2 false (fun _ => ⟨by omega, by omega⟩)
end Go.Proofs.YtmgcpjgpmjhemaaGreatDoor.Pc
