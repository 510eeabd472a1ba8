/-
Parts of the proof of CodePieces: Pc13, BackPure, RowSlice. No condition of ours.
-/
import Derived.Test.YtmgcpjgpmjhemaaGreatDoorMCodePieces1
import Derived.Test.YtmgcpjgpmjhemaaGreatDoorMCodePieces4
import Derived.Test.YtmgcpjgpmjhemaaGreatDoorMCodePieces5
import Derived.Test.YtmgcpjgpmjhemaaGreatDoorMCodePieces2
import Derived.SizedLaws
import Derived.Deep.Slices
namespace Go.Proofs.YtmgcpjgpmjhemaaGreatDoor.Pc
open Go.RowKit Go.Proofs.YtmgcpjgpmjhemaaGreatDoorW.PrintWords Go.Proofs.YtmgcpjgpmjhemaaGreatDoorW.PrintLast Go.Proofs.YtmgcpjgpmjhemaaGreatDoorW.PrintMore
attribute [local go_sem] max2_int min2_int max_two min_two max_three min_three max_four min_four   -- for this text's walks alone
set_option linter.unusedVariables false
set_option linter.unusedSimpArgs false

/-! ### threshinglaw14_CodeBack: function 6 -/
mutual
def threshinglaw14_CodeBack.j0 : Nat → List (S23) → ByteArray → Bool → Option (Bool)
  | 0, _, _, _ => none
  | k + 1, x0, x1, x20 => if x20 = true then ((threshinglaw14_alive.f k).bind fun t282 => (some t282)) else ((code_Print.f x0).bind fun bt283 => (if bt283.2 = 0 then ((code_Read.f k bt283.1).bind fun bt285 => (if bt285.2 = 0 then ((code_Same.f k x0 bt285.1).bind fun t289 => (if t289 = true then ((threshingref14_Same.f k x0 bt285.1).bind fun t290 => (if t290 = true then (threshinglaw14_CodeBack.j1 k x1) else (some false))) else (some false))) else (some false))) else (threshinglaw14_CodeBack.j1 k x1)))
def threshinglaw14_CodeBack.j1 : Nat → ByteArray → Option (Bool)
  | 0, _ => none
  | k + 1, x1 => (code_Read.f k x1).bind fun bt291 => ((code_Print.f bt291.1).bind fun bt295 => ((threshinglaw14_alive.f k).bind fun t297 => (if t297 = true then (if bt291.2 = 0 then (if bt295.2 = 0 then (if bt295.1.toList = x1.toList then ((code_Same.f k bt291.1 bt291.1).bind fun t298 => (some t298)) else (some false)) else (some false)) else (some true)) else (some false))))
end
def threshinglaw14_CodeBack.f (k : Nat) (l0 : List (S23)) (a1 : ByteArray) : Option (Bool) := (threshinglaw14_small.f k l0).bind fun t281 => (if t281 = true then (threshinglaw14_CodeBack.j0 k l0 a1 (decide ((a1.size : Int) > 4000))) else (threshinglaw14_CodeBack.j0 k l0 a1 true))
theorem threshinglaw14_CodeBack.mono_l : ∀ k, (∀ y0 y1 y2, LeO (threshinglaw14_CodeBack.j0 k y0 y1 y2) (threshinglaw14_CodeBack.j0 (k + 1) y0 y1 y2)) ∧ (∀ y0, LeO (threshinglaw14_CodeBack.j1 k y0) (threshinglaw14_CodeBack.j1 (k + 1) y0))
  | 0 => ⟨fun _ _ _ r h => by simp [threshinglaw14_CodeBack.j0] at h, fun _ r h => by simp [threshinglaw14_CodeBack.j1] at h⟩
  | k + 1 => by
    obtain ⟨ih0, ih1⟩ := threshinglaw14_CodeBack.mono_l k
    refine ⟨?_, ?_⟩
    · intro y0 y1 y2
      unfold threshinglaw14_CodeBack.j0
      repeat' first
      | (with_reducible exact ih0 _ _ _)
      | (with_reducible exact ih1 _)
      | (with_reducible exact code_Read.mono _ _)
      | (with_reducible exact code_Same.mono _ _ _)
      | (with_reducible exact threshinglaw14_alive.mono _)
      | (with_reducible exact threshinglaw14_small.mono _ _)
      | (with_reducible exact threshingref14_Same.mono _ _ _)
      | (with_reducible exact LeO.refl _)
      | (with_reducible exact LeO.none _)
      | (with_reducible refine LeO.ite ?_ ?_)
      | (with_reducible refine LeO.bind ?_ (fun _ => ?_))
      | exact ih0 _ _ _
      | exact ih1 _
      | exact code_Read.mono _ _
      | exact code_Same.mono _ _ _
      | exact threshinglaw14_alive.mono _
      | exact threshinglaw14_small.mono _ _
      | exact threshingref14_Same.mono _ _ _
      | exact LeO.none _
      | refine LeO.ite ?_ ?_
      | refine LeO.bind ?_ (fun _ => ?_)
    · intro y0
      unfold threshinglaw14_CodeBack.j1
      repeat' first
      | (with_reducible exact ih0 _ _ _)
      | (with_reducible exact ih1 _)
      | (with_reducible exact code_Read.mono _ _)
      | (with_reducible exact code_Same.mono _ _ _)
      | (with_reducible exact threshinglaw14_alive.mono _)
      | (with_reducible exact threshinglaw14_small.mono _ _)
      | (with_reducible exact threshingref14_Same.mono _ _ _)
      | (with_reducible exact LeO.refl _)
      | (with_reducible exact LeO.none _)
      | (with_reducible refine LeO.ite ?_ ?_)
      | (with_reducible refine LeO.bind ?_ (fun _ => ?_))
      | exact ih0 _ _ _
      | exact ih1 _
      | exact code_Read.mono _ _
      | exact code_Same.mono _ _ _
      | exact threshinglaw14_alive.mono _
      | exact threshinglaw14_small.mono _ _
      | exact threshingref14_Same.mono _ _ _
      | exact LeO.none _
      | refine LeO.ite ?_ ?_
      | refine LeO.bind ?_ (fun _ => ?_)
theorem threshinglaw14_CodeBack.mono : ∀ a0 a1 k, LeO (threshinglaw14_CodeBack.f k a0 a1) (threshinglaw14_CodeBack.f (k + 1) a0 a1) := by
  intro a0 a1 k
  obtain ⟨ih0, ih1⟩ := threshinglaw14_CodeBack.mono_l k
  unfold threshinglaw14_CodeBack.f
  repeat' first
      | (with_reducible exact ih0 _ _ _)
      | (with_reducible exact ih1 _)
      | (with_reducible exact code_Read.mono _ _)
      | (with_reducible exact code_Same.mono _ _ _)
      | (with_reducible exact threshinglaw14_alive.mono _)
      | (with_reducible exact threshinglaw14_small.mono _ _)
      | (with_reducible exact threshingref14_Same.mono _ _ _)
      | (with_reducible exact LeO.refl _)
      | (with_reducible exact LeO.none _)
      | (with_reducible refine LeO.ite ?_ ?_)
      | (with_reducible refine LeO.bind ?_ (fun _ => ?_))
      | exact ih0 _ _ _
      | exact ih1 _
      | exact code_Read.mono _ _
      | exact code_Same.mono _ _ _
      | exact threshinglaw14_alive.mono _
      | exact threshinglaw14_small.mono _ _
      | exact threshingref14_Same.mono _ _ _
      | exact LeO.none _
      | refine LeO.ite ?_ ?_
      | refine LeO.bind ?_ (fun _ => ?_)
set_option maxHeartbeats 8000000 in
set_option maxRecDepth 100000 in
theorem threshinglaw14_CodeBack.calls (k : Nat) (A0 : Option Addr) (c0 : Nat) (l0 : List (S23)) (a1 : ByteArray) (r : Bool) (w : World) (hr0 : Kd.C k23 w A0 l0.length l0) (hc0 : l0.length ≤ c0) (hG : Gl w) (h : threshinglaw14_CodeBack.f k l0 a1 = some r) :
    Calls Tryz.prog 6 #[.slice A0 l0.length c0, .string a1] w fun e w' => e = .returned (.bool r) ∧ Below w.heap.size w w' := by
  have HR0 := Aside0.mk hr0
  have HC0 := Aside0.mk hc0
  clear hr0 hc0
  have HB := Aside0.mk (Below.refl w.heap.size w)
  have HGL := Aside0.mk hG
  clear hG
  have H : ((threshinglaw14_small.f k l0).bind fun t281 => (if t281 = true then (threshinglaw14_CodeBack.j0 k l0 a1 (decide ((a1.size : Int) > 4000))) else (threshinglaw14_CodeBack.j0 k l0 a1 true))) = some r := h
  clear h
  have HC3 := Aside0.mk H
  clear H
  go_enter Tryz.func6, Tryz.ntmps6
  go_upto_region 1 with (fail)
  go_cut [20] (fun v20 wc => ∃ (kq : Nat) (x20_2 : Bool), v20 = .bool x20_2 ∧ Aside0 (threshinglaw14_CodeBack.j0 kq l0 a1 x20_2 = some r) ∧ Aside0 (kq ≤ k) ∧ Aside0 (Below w.heap.size w wc))
  case first =>
    have H := HC3.out
    clear HC3
    replace H := Option.bind_eq_some_iff.mp H
    obtain ⟨t281, A40, H⟩ := H
    replace H : (if t281 = true then (threshinglaw14_CodeBack.j0 k l0 a1 (decide ((a1.size : Int) > 4000))) else (threshinglaw14_CodeBack.j0 k l0 a1 true)) = some r := H
    have A4 := Aside0.mk A40
    clear A40
    by_cases c5 : t281 = true
    · subst c5
      have H1 : (threshinglaw14_CodeBack.j0 k l0 a1 (decide ((a1.size : Int) > 4000))) = some r := by rw [if_pos rfl] at H; exact H
      clear H
      have H := H1
      clear H1
      have H' := Aside0.mk H
      clear H
      go_wp2_with (first | ((with_reducible refine gate_callee (f := 21) rfl ?_); refine goesL_ (some 14) rfl rfl Tryz.func21 (by kernel_rfl) rfl #[.slice A0 l0.length c0] rfl (by (try simp only [List.map_toArray, List.map_cons, List.map_nil]); first | done | rfl | (simp only [List.length_drop, List.length_take]; rfl)) ?_; (with_reducible refine (threshinglaw14_small.calls k _ _ l0 true _ ?side1 ?side2 A4.out).mono ?_); (case side1 => repeat (first | exact (Kd.C_below HR0.out HB.out) | (with_reducible refine Kd.C_alloc ?_ _) | (with_reducible refine Kd.C_drewN ?_ _) | (with_reducible refine Kd.C_drew ?_))); (case side2 => exact HC0.out); rintro e w' ⟨rfl, ⟨nd, rfl⟩⟩; refine ⟨_, rfl, ?_⟩))
      go_meet
      case rel => exact ⟨_, (decide ((a1.size : Int) > 4000)), (by first | rfl | (simp; done) | (simp [*]; done)), H', ⟨by first | omega | exact Nat.le_refl _⟩, ⟨by repeat (first | (with_reducible first | exact HB.out | apply below_alloc | apply pw_below_drewN | apply below_drew1) | exact HB.out)⟩⟩
    · replace c5 := Bool.eq_false_iff.mpr c5
      subst c5
      have H1 : (threshinglaw14_CodeBack.j0 k l0 a1 true) = some r := by rw [if_neg (show ¬ (false = true) by decide)] at H; exact H
      clear H
      have H := H1
      clear H1
      have H' := Aside0.mk H
      clear H
      go_wp2_with (first | ((with_reducible refine gate_callee (f := 21) rfl ?_); refine goesL_ (some 14) rfl rfl Tryz.func21 (by kernel_rfl) rfl #[.slice A0 l0.length c0] rfl (by (try simp only [List.map_toArray, List.map_cons, List.map_nil]); first | done | rfl | (simp only [List.length_drop, List.length_take]; rfl)) ?_; (with_reducible refine (threshinglaw14_small.calls k _ _ l0 false _ ?side1 ?side2 A4.out).mono ?_); (case side1 => repeat (first | exact (Kd.C_below HR0.out HB.out) | (with_reducible refine Kd.C_alloc ?_ _) | (with_reducible refine Kd.C_drewN ?_ _) | (with_reducible refine Kd.C_drew ?_))); (case side2 => exact HC0.out); rintro e w' ⟨rfl, ⟨nd, rfl⟩⟩; refine ⟨_, rfl, ?_⟩))
      go_meet
      case rel => exact ⟨_, (true), (by first | rfl | (simp; done) | (simp [*]; done)), H', ⟨by first | omega | exact Nat.le_refl _⟩, ⟨by repeat (first | (with_reducible first | exact HB.out | apply below_alloc | apply pw_below_drewN | apply below_drew1) | exact HB.out)⟩⟩
  case rest =>
    clear HC3
    try clear c2
    try clear p2
    try clear c5
    obtain ⟨kq, x20_2, rfl, HA, HJ2, HB⟩ := hcut
    cases kq with
    | zero => exact absurd HA.out (by simp [threshinglaw14_CodeBack.j0])
    | succ kj2 =>
      have H := HA.out
      clear HA
      simp only [threshinglaw14_CodeBack.j0] at H
      by_cases c6 : x20_2 = true
      · subst c6
        have H1 : ((threshinglaw14_alive.f kj2).bind fun t282 => (some t282)) = some r := by rw [if_pos rfl] at H; exact H
        clear H
        have H := H1
        clear H1
        replace H := Option.bind_eq_some_iff.mp H
        obtain ⟨t282, A70, H⟩ := H
        replace H : (some t282) = some r := H
        have A7 := Aside0.mk A70
        clear A70
        obtain rfl := Option.some.inj H
        go_wp2_with (first | ((with_reducible refine gate_callee (f := 12) rfl ?_); refine goesL_ (some 21) rfl rfl Tryz.func12 (by kernel_rfl) rfl #[] rfl (by (try simp only [List.map_toArray, List.map_cons, List.map_nil]); first | done | rfl | (simp only [List.length_drop, List.length_take]; rfl)) ?_; (with_reducible refine (threshinglaw14_alive.calls kj2  t282 _ ?side1 A7.out).mono ?_); (case side1 => refine gl_below HGL.out ?_; repeat (first | (with_reducible first | exact HB.out | apply below_alloc | apply pw_below_drewN | apply below_drew1) | exact HB.out)); rintro e w8 ⟨rfl, hb⟩; refine ⟨_, rfl, ?_⟩; have n0_ := Aside0.mk (below_step (by repeat (first | (with_reducible first | exact HB.out | apply below_alloc | apply pw_below_drewN | apply below_drew1) | exact HB.out)) hb); clear HB; have HB := n0_; clear n0_; (try clear hb); (try clear hb2); (try clear hk); (try clear hi)))
        go_ret
        exact ⟨by first | rfl | (simp [errW_none, errW_some] <;> rfl) | (simp [*, errW_none, errW_some] <;> rfl), by repeat (first | (with_reducible first | exact HB.out | apply below_alloc | apply pw_below_drewN | apply below_drew1) | exact HB.out)⟩
      · replace c6 := Bool.eq_false_iff.mpr c6
        subst c6
        have H1 : ((code_Print.f l0).bind fun bt283 => (if bt283.2 = 0 then ((code_Read.f kj2 bt283.1).bind fun bt285 => (if bt285.2 = 0 then ((code_Same.f kj2 l0 bt285.1).bind fun t289 => (if t289 = true then ((threshingref14_Same.f kj2 l0 bt285.1).bind fun t290 => (if t290 = true then (threshinglaw14_CodeBack.j1 kj2 a1) else (some false))) else (some false))) else (some false))) else (threshinglaw14_CodeBack.j1 kj2 a1))) = some r := by rw [if_neg (show ¬ (false = true) by decide)] at H; exact H
        clear H
        have H := H1
        clear H1
        replace H := Option.bind_eq_some_iff.mp H
        obtain ⟨⟨t283, t284⟩, A90, H⟩ := H
        replace H : (if t284 = 0 then ((code_Read.f kj2 t283).bind fun bt285 => (if bt285.2 = 0 then ((code_Same.f kj2 l0 bt285.1).bind fun t289 => (if t289 = true then ((threshingref14_Same.f kj2 l0 bt285.1).bind fun t290 => (if t290 = true then (threshinglaw14_CodeBack.j1 kj2 a1) else (some false))) else (some false))) else (some false))) else (threshinglaw14_CodeBack.j1 kj2 a1)) = some r := H
        have A9 := Aside0.mk A90
        clear A90
        have HC10 := Aside0.mk H
        clear H
        go_upto_if 28 with (first | ((with_reducible refine gate_callee (f := 22) rfl ?_); refine goesL_ (some 24) rfl rfl Tryz.func22 (by kernel_rfl) rfl #[.slice A0 l0.length c0] rfl (by (try simp only [List.map_toArray, List.map_cons, List.map_nil]); first | done | rfl | (simp only [List.length_drop, List.length_take]; rfl)) ?_; (with_reducible refine (code_Print.calls _ _ l0 t283 t284 _ ?side1 ?side2 ?side3 A9.out).mono ?_); (case side1 => repeat (first | exact (Kd.C_below HR0.out HB.out) | (with_reducible refine Kd.C_alloc ?_ _) | (with_reducible refine Kd.C_drewN ?_ _) | (with_reducible refine Kd.C_drew ?_))); (case side2 => exact HC0.out); (case side3 => refine gl_below HGL.out ?_; repeat (first | (with_reducible first | exact HB.out | apply below_alloc | apply pw_below_drewN | apply below_drew1) | exact HB.out)); rintro e w11 ⟨rfl, hb⟩; refine ⟨_, rfl, ?_⟩; have n0_ := Aside0.mk (below_step (by repeat (first | (with_reducible first | exact HB.out | apply below_alloc | apply pw_below_drewN | apply below_drew1) | exact HB.out)) hb); clear HB; have HB := n0_; clear n0_; (try clear hb); (try clear hb2); (try clear hk); (try clear hi)))
        (try simp only [Act.put, List.setIfInBounds_toArray, List.set_cons_zero, List.set_cons_succ])
        go_cut [] (fun wc => ∃ (kq : Nat), Aside0 (threshinglaw14_CodeBack.j1 kq a1 = some r) ∧ Aside0 (kq ≤ kj2) ∧ Aside0 (Below w.heap.size w wc))
        case first =>
          have H := HC10.out
          clear HC10
          by_cases c12 : t284 = 0
          · rw [if_pos c12] at H
            have c12b0 : (t284 == 0) = true := beq_iff_eq.mpr c12
            have c12b1 : (t284 != 0) = false := bne_eq_false_iff_eq.mpr c12
            clear c12
            (first | rw [c12b0] | (simp only [i64_w, i32_w]; rw [c12b0]) | skip)
            replace H := Option.bind_eq_some_iff.mp H
            obtain ⟨⟨t285, t286⟩, A130, H⟩ := H
            replace H : (if t286 = 0 then ((code_Same.f kj2 l0 t285).bind fun t289 => (if t289 = true then ((threshingref14_Same.f kj2 l0 t285).bind fun t290 => (if t290 = true then (threshinglaw14_CodeBack.j1 kj2 a1) else (some false))) else (some false))) else (some false)) = some r := H
            have A13 := Aside0.mk A130
            clear A130
            by_cases c14 : t286 = 0
            · rw [if_pos c14] at H
              have c14b0 : (t286 == 0) = true := beq_iff_eq.mpr c14
              have c14b1 : (t286 != 0) = false := bne_eq_false_iff_eq.mpr c14
              clear c14
              replace H := Option.bind_eq_some_iff.mp H
              obtain ⟨t289, A150, H⟩ := H
              replace H : (if t289 = true then ((threshingref14_Same.f kj2 l0 t285).bind fun t290 => (if t290 = true then (threshinglaw14_CodeBack.j1 kj2 a1) else (some false))) else (some false)) = some r := H
              have A15 := Aside0.mk A150
              clear A150
              by_cases c16 : t289 = true
              · subst c16
                have H1 : ((threshingref14_Same.f kj2 l0 t285).bind fun t290 => (if t290 = true then (threshinglaw14_CodeBack.j1 kj2 a1) else (some false))) = some r := by rw [if_pos rfl] at H; exact H
                clear H
                have H := H1
                clear H1
                replace H := Option.bind_eq_some_iff.mp H
                obtain ⟨t290, A170, H⟩ := H
                replace H : (if t290 = true then (threshinglaw14_CodeBack.j1 kj2 a1) else (some false)) = some r := H
                have A17 := Aside0.mk A170
                clear A170
                by_cases c18 : t290 = true
                · subst c18
                  have H1 : (threshinglaw14_CodeBack.j1 kj2 a1) = some r := by rw [if_pos rfl] at H; exact H
                  clear H
                  have H := H1
                  clear H1
                  have H' := Aside0.mk H
                  clear H
                  go_wp2_with (first | ((with_reducible refine gate_callee (f := 24) rfl ?_); refine goesL_ (some 31) rfl rfl Tryz.func24 (by kernel_rfl) rfl #[.string t283] rfl (by (try simp only [List.map_toArray, List.map_cons, List.map_nil]); first | done | rfl | (simp only [List.length_drop, List.length_take]; rfl)) ?_; (with_reducible refine (code_Read.calls kj2 t283 t285 t286 _ ?side1 A13.out).mono ?_); (case side1 => refine gl_below HGL.out ?_; repeat (first | (with_reducible first | exact HB.out | apply below_alloc | apply pw_below_drewN | apply below_drew1) | exact HB.out)); rintro e w19 ⟨v287, rfl, ho0, hb⟩; refine ⟨_, rfl, ?_⟩; have n0_ := Aside0.mk (Kd.R_lower ho0 (below_size (by repeat (first | (with_reducible first | exact HB.out | apply below_alloc | apply pw_below_drewN | apply below_drew1) | exact HB.out)))); have n1_ := Aside0.mk (below_step (by repeat (first | (with_reducible first | exact HB.out | apply below_alloc | apply pw_below_drewN | apply below_drew1) | exact HB.out)) hb); clear HB; have HO288 := n0_; have HB := n1_; clear n0_ n1_; (try clear hb); (try clear hb2); (try clear hk); (try clear hi); (try clear ho0); obtain ⟨Ao20, co20, eo20⟩ := Kd.R_slice HO288.out; subst eo20) | (go_at_call 27; (with_reducible refine (code_Same.calls kj2 _ _ l0 _ _ t285 true _ ?side1 ?side2 ?side3 ?side4 A15.out).mono ?_); (case side1 => repeat (first | exact (Kd.C_below HR0.out HB.out) | (with_reducible refine Kd.C_alloc ?_ _) | (with_reducible refine Kd.C_drewN ?_ _) | (with_reducible refine Kd.C_drew ?_))); (case side2 => exact HC0.out); (case side3 => repeat (first | exact (Kd.R_reads' HO288.out).2.2 | (with_reducible refine Kd.C_alloc ?_ _) | (with_reducible refine Kd.C_drewN ?_ _) | (with_reducible refine Kd.C_drew ?_))); (case side4 => exact (Kd.R_reads' HO288.out).2.1); rintro e w' ⟨rfl, ⟨nd, rfl⟩⟩) | (go_at_call 26; (with_reducible refine (threshingref14_Same.calls kj2 _ _ l0 _ _ t285 true _ ?side1 ?side2 ?side3 ?side4 A17.out).mono ?_); (case side1 => repeat (first | exact (Kd.C_below HR0.out (by repeat (first | (with_reducible first | exact HB.out | apply below_alloc | apply pw_below_drewN | apply below_drew1) | exact HB.out))) | (with_reducible refine Kd.C_alloc ?_ _) | (with_reducible refine Kd.C_drewN ?_ _) | (with_reducible refine Kd.C_drew ?_))); (case side2 => exact HC0.out); (case side3 => repeat (first | exact (Kd.R_reads' HO288.out).2.2 | (with_reducible refine Kd.C_alloc ?_ _) | (with_reducible refine Kd.C_drewN ?_ _) | (with_reducible refine Kd.C_drew ?_))); (case side4 => exact (Kd.R_reads' HO288.out).2.1); rintro e w' ⟨rfl, ⟨nd, rfl⟩⟩))
                  go_meet
                  case rel => exact ⟨_, H', ⟨by have := HJ2.out; first | omega | exact Nat.le_refl _⟩, ⟨by repeat (first | (with_reducible first | exact HB.out | apply below_alloc | apply pw_below_drewN | apply below_drew1) | exact HB.out)⟩⟩
                · replace c18 := Bool.eq_false_iff.mpr c18
                  subst c18
                  have H1 : (some false) = some r := by rw [if_neg (show ¬ (false = true) by decide)] at H; exact H
                  clear H
                  have H := H1
                  clear H1
                  obtain rfl := Option.some.inj H
                  go_wp2_with (first | ((with_reducible refine gate_callee (f := 24) rfl ?_); refine goesL_ (some 31) rfl rfl Tryz.func24 (by kernel_rfl) rfl #[.string t283] rfl (by (try simp only [List.map_toArray, List.map_cons, List.map_nil]); first | done | rfl | (simp only [List.length_drop, List.length_take]; rfl)) ?_; (with_reducible refine (code_Read.calls kj2 t283 t285 t286 _ ?side1 A13.out).mono ?_); (case side1 => refine gl_below HGL.out ?_; repeat (first | (with_reducible first | exact HB.out | apply below_alloc | apply pw_below_drewN | apply below_drew1) | exact HB.out)); rintro e w21 ⟨v287, rfl, ho0, hb⟩; refine ⟨_, rfl, ?_⟩; have n0_ := Aside0.mk (Kd.R_lower ho0 (below_size (by repeat (first | (with_reducible first | exact HB.out | apply below_alloc | apply pw_below_drewN | apply below_drew1) | exact HB.out)))); have n1_ := Aside0.mk (below_step (by repeat (first | (with_reducible first | exact HB.out | apply below_alloc | apply pw_below_drewN | apply below_drew1) | exact HB.out)) hb); clear HB; have HO288 := n0_; have HB := n1_; clear n0_ n1_; (try clear hb); (try clear hb2); (try clear hk); (try clear hi); (try clear ho0); obtain ⟨Ao22, co22, eo22⟩ := Kd.R_slice HO288.out; subst eo22) | (go_at_call 27; (with_reducible refine (code_Same.calls kj2 _ _ l0 _ _ t285 true _ ?side1 ?side2 ?side3 ?side4 A15.out).mono ?_); (case side1 => repeat (first | exact (Kd.C_below HR0.out HB.out) | (with_reducible refine Kd.C_alloc ?_ _) | (with_reducible refine Kd.C_drewN ?_ _) | (with_reducible refine Kd.C_drew ?_))); (case side2 => exact HC0.out); (case side3 => repeat (first | exact (Kd.R_reads' HO288.out).2.2 | (with_reducible refine Kd.C_alloc ?_ _) | (with_reducible refine Kd.C_drewN ?_ _) | (with_reducible refine Kd.C_drew ?_))); (case side4 => exact (Kd.R_reads' HO288.out).2.1); rintro e w' ⟨rfl, ⟨nd, rfl⟩⟩) | (go_at_call 26; (with_reducible refine (threshingref14_Same.calls kj2 _ _ l0 _ _ t285 false _ ?side1 ?side2 ?side3 ?side4 A17.out).mono ?_); (case side1 => repeat (first | exact (Kd.C_below HR0.out (by repeat (first | (with_reducible first | exact HB.out | apply below_alloc | apply pw_below_drewN | apply below_drew1) | exact HB.out))) | (with_reducible refine Kd.C_alloc ?_ _) | (with_reducible refine Kd.C_drewN ?_ _) | (with_reducible refine Kd.C_drew ?_))); (case side2 => exact HC0.out); (case side3 => repeat (first | exact (Kd.R_reads' HO288.out).2.2 | (with_reducible refine Kd.C_alloc ?_ _) | (with_reducible refine Kd.C_drewN ?_ _) | (with_reducible refine Kd.C_drew ?_))); (case side4 => exact (Kd.R_reads' HO288.out).2.1); rintro e w' ⟨rfl, ⟨nd, rfl⟩⟩))
                  go_ret
                  exact ⟨by first | rfl | (simp [errW_none, errW_some] <;> rfl) | (simp [*, errW_none, errW_some] <;> rfl), by repeat (first | (with_reducible first | exact HB.out | apply below_alloc | apply pw_below_drewN | apply below_drew1) | exact HB.out)⟩
              · replace c16 := Bool.eq_false_iff.mpr c16
                subst c16
                have H1 : (some false) = some r := by rw [if_neg (show ¬ (false = true) by decide)] at H; exact H
                clear H
                have H := H1
                clear H1
                obtain rfl := Option.some.inj H
                go_wp2_with (first | ((with_reducible refine gate_callee (f := 24) rfl ?_); refine goesL_ (some 31) rfl rfl Tryz.func24 (by kernel_rfl) rfl #[.string t283] rfl (by (try simp only [List.map_toArray, List.map_cons, List.map_nil]); first | done | rfl | (simp only [List.length_drop, List.length_take]; rfl)) ?_; (with_reducible refine (code_Read.calls kj2 t283 t285 t286 _ ?side1 A13.out).mono ?_); (case side1 => refine gl_below HGL.out ?_; repeat (first | (with_reducible first | exact HB.out | apply below_alloc | apply pw_below_drewN | apply below_drew1) | exact HB.out)); rintro e w23 ⟨v287, rfl, ho0, hb⟩; refine ⟨_, rfl, ?_⟩; have n0_ := Aside0.mk (Kd.R_lower ho0 (below_size (by repeat (first | (with_reducible first | exact HB.out | apply below_alloc | apply pw_below_drewN | apply below_drew1) | exact HB.out)))); have n1_ := Aside0.mk (below_step (by repeat (first | (with_reducible first | exact HB.out | apply below_alloc | apply pw_below_drewN | apply below_drew1) | exact HB.out)) hb); clear HB; have HO288 := n0_; have HB := n1_; clear n0_ n1_; (try clear hb); (try clear hb2); (try clear hk); (try clear hi); (try clear ho0); obtain ⟨Ao24, co24, eo24⟩ := Kd.R_slice HO288.out; subst eo24) | (go_at_call 27; (with_reducible refine (code_Same.calls kj2 _ _ l0 _ _ t285 false _ ?side1 ?side2 ?side3 ?side4 A15.out).mono ?_); (case side1 => repeat (first | exact (Kd.C_below HR0.out HB.out) | (with_reducible refine Kd.C_alloc ?_ _) | (with_reducible refine Kd.C_drewN ?_ _) | (with_reducible refine Kd.C_drew ?_))); (case side2 => exact HC0.out); (case side3 => repeat (first | exact (Kd.R_reads' HO288.out).2.2 | (with_reducible refine Kd.C_alloc ?_ _) | (with_reducible refine Kd.C_drewN ?_ _) | (with_reducible refine Kd.C_drew ?_))); (case side4 => exact (Kd.R_reads' HO288.out).2.1); rintro e w' ⟨rfl, ⟨nd, rfl⟩⟩))
                go_ret
                exact ⟨by first | rfl | (simp [errW_none, errW_some] <;> rfl) | (simp [*, errW_none, errW_some] <;> rfl), by repeat (first | (with_reducible first | exact HB.out | apply below_alloc | apply pw_below_drewN | apply below_drew1) | exact HB.out)⟩
            · rw [if_neg c14] at H
              have c14b0 : (t286 == 0) = false := beq_eq_false_iff_ne.mpr c14
              have c14b1 : (t286 != 0) = true := bne_iff_ne.mpr c14
              obtain rfl := Option.some.inj H
              go_wp2_with (first | ((with_reducible refine gate_callee (f := 24) rfl ?_); refine goesL_ (some 31) rfl rfl Tryz.func24 (by kernel_rfl) rfl #[.string t283] rfl (by (try simp only [List.map_toArray, List.map_cons, List.map_nil]); first | done | rfl | (simp only [List.length_drop, List.length_take]; rfl)) ?_; (with_reducible refine (code_Read.calls kj2 t283 t285 t286 _ ?side1 A13.out).mono ?_); (case side1 => refine gl_below HGL.out ?_; repeat (first | (with_reducible first | exact HB.out | apply below_alloc | apply pw_below_drewN | apply below_drew1) | exact HB.out)); rintro e w25 ⟨v287, rfl, ho0, hb⟩; refine ⟨_, rfl, ?_⟩; have n0_ := Aside0.mk (Kd.R_lower ho0 (below_size (by repeat (first | (with_reducible first | exact HB.out | apply below_alloc | apply pw_below_drewN | apply below_drew1) | exact HB.out)))); have n1_ := Aside0.mk (below_step (by repeat (first | (with_reducible first | exact HB.out | apply below_alloc | apply pw_below_drewN | apply below_drew1) | exact HB.out)) hb); clear HB; have HO288 := n0_; have HB := n1_; clear n0_ n1_; (try clear hb); (try clear hb2); (try clear hk); (try clear hi); (try clear ho0)))
              go_ret
              exact ⟨by first | rfl | (simp [errW_none, errW_some] <;> rfl) | (simp [*, errW_none, errW_some] <;> rfl), by repeat (first | (with_reducible first | exact HB.out | apply below_alloc | apply pw_below_drewN | apply below_drew1) | exact HB.out)⟩
          · rw [if_neg c12] at H
            have c12b0 : (t284 == 0) = false := beq_eq_false_iff_ne.mpr c12
            have c12b1 : (t284 != 0) = true := bne_iff_ne.mpr c12
            (first | rw [c12b0] | (simp only [i64_w, i32_w]; rw [c12b0]) | skip)
            have H' := Aside0.mk H
            clear H
            go_wp2
            go_meet
            case rel => exact ⟨_, H', ⟨by have := HJ2.out; first | omega | exact Nat.le_refl _⟩, ⟨by repeat (first | (with_reducible first | exact HB.out | apply below_alloc | apply pw_below_drewN | apply below_drew1) | exact HB.out)⟩⟩
        case rest =>
          clear HC10
          try clear c1
          try clear c2
          try clear p2
          try clear c5
          try clear c6
          try clear c12
          try clear c12b0
          try clear c12b1
          try clear c14
          try clear c14b0
          try clear c14b1
          try clear c16
          try clear c18
          try clear c21
          try clear c22
          try clear c24
          try clear p2
          obtain ⟨kq, HA, HJ9, HB⟩ := hcut
          cases kq with
          | zero => exact absurd HA.out (by simp [threshinglaw14_CodeBack.j1])
          | succ kj9 =>
            have H := HA.out
            clear HA
            simp only [threshinglaw14_CodeBack.j1] at H
            replace H := Option.bind_eq_some_iff.mp H
            obtain ⟨⟨t291, t292⟩, A260, H⟩ := H
            replace H : ((code_Print.f t291).bind fun bt295 => ((threshinglaw14_alive.f kj9).bind fun t297 => (if t297 = true then (if t292 = 0 then (if bt295.2 = 0 then (if bt295.1.toList = a1.toList then ((code_Same.f kj9 t291 t291).bind fun t298 => (some t298)) else (some false)) else (some false)) else (some true)) else (some false)))) = some r := H
            have A26 := Aside0.mk A260
            clear A260
            replace H := Option.bind_eq_some_iff.mp H
            obtain ⟨⟨t295, t296⟩, A270, H⟩ := H
            replace H : ((threshinglaw14_alive.f kj9).bind fun t297 => (if t297 = true then (if t292 = 0 then (if t296 = 0 then (if t295.toList = a1.toList then ((code_Same.f kj9 t291 t291).bind fun t298 => (some t298)) else (some false)) else (some false)) else (some true)) else (some false))) = some r := H
            have A27 := Aside0.mk A270
            clear A270
            replace H := Option.bind_eq_some_iff.mp H
            obtain ⟨t297, A280, H⟩ := H
            replace H : (if t297 = true then (if t292 = 0 then (if t296 = 0 then (if t295.toList = a1.toList then ((code_Same.f kj9 t291 t291).bind fun t298 => (some t298)) else (some false)) else (some false)) else (some true)) else (some false)) = some r := H
            have A28 := Aside0.mk A280
            clear A280
            by_cases c29 : t297 = true
            · subst c29
              have H1 : (if t292 = 0 then (if t296 = 0 then (if t295.toList = a1.toList then ((code_Same.f kj9 t291 t291).bind fun t298 => (some t298)) else (some false)) else (some false)) else (some true)) = some r := by rw [if_pos rfl] at H; exact H
              clear H
              have H := H1
              clear H1
              by_cases c30 : t292 = 0
              · rw [if_pos c30] at H
                have c30b0 : (t292 == 0) = true := beq_iff_eq.mpr c30
                have c30b1 : (t292 != 0) = false := bne_eq_false_iff_eq.mpr c30
                clear c30
                by_cases c31 : t296 = 0
                · rw [if_pos c31] at H
                  have c31b0 : (t296 == 0) = true := beq_iff_eq.mpr c31
                  have c31b1 : (t296 != 0) = false := bne_eq_false_iff_eq.mpr c31
                  clear c31
                  by_cases c32 : t295.toList = a1.toList
                  · rw [if_pos c32] at H
                    have c32b0 : (t295.toList == a1.toList) = true := beq_iff_eq.mpr c32
                    have c32b1 : (t295.toList != a1.toList) = false := bne_eq_false_iff_eq.mpr c32
                    clear c32
                    replace H := Option.bind_eq_some_iff.mp H
                    obtain ⟨t298, A330, H⟩ := H
                    replace H : (some t298) = some r := H
                    have A33 := Aside0.mk A330
                    clear A330
                    obtain rfl := Option.some.inj H
                    go_wp2_with (first | ((with_reducible refine gate_callee (f := 24) rfl ?_); refine goesL_ (some 50) rfl rfl Tryz.func24 (by kernel_rfl) rfl #[.string a1] rfl (by (try simp only [List.map_toArray, List.map_cons, List.map_nil]); first | done | rfl | (simp only [List.length_drop, List.length_take]; rfl)) ?_; (with_reducible refine (code_Read.calls kj9 a1 t291 t292 _ ?side1 A26.out).mono ?_); (case side1 => refine gl_below HGL.out ?_; repeat (first | (with_reducible first | exact HB.out | apply below_alloc | apply pw_below_drewN | apply below_drew1) | exact HB.out)); rintro e w34 ⟨v293, rfl, ho0, hb⟩; refine ⟨_, rfl, ?_⟩; have n0_ := Aside0.mk (Kd.R_lower ho0 (below_size (by repeat (first | (with_reducible first | exact HB.out | apply below_alloc | apply pw_below_drewN | apply below_drew1) | exact HB.out)))); have n1_ := Aside0.mk (below_step (by repeat (first | (with_reducible first | exact HB.out | apply below_alloc | apply pw_below_drewN | apply below_drew1) | exact HB.out)) hb); clear HB; have HO294 := n0_; have HB := n1_; clear n0_ n1_; (try clear hb); (try clear hb2); (try clear hk); (try clear hi); (try clear ho0); obtain ⟨Ao35, co35, eo35⟩ := Kd.R_slice HO294.out; subst eo35) | ((with_reducible refine gate_callee (f := 22) rfl ?_); refine goesL_ (some 55) rfl rfl Tryz.func22 (by kernel_rfl) rfl #[.slice Ao35 t291.length co35] rfl (by (try simp only [List.map_toArray, List.map_cons, List.map_nil]); first | done | rfl | (simp only [List.length_drop, List.length_take]; rfl)) ?_; (with_reducible refine (code_Print.calls _ _ t291 t295 t296 _ ?side1 ?side2 ?side3 A27.out).mono ?_); (case side1 => repeat (first | exact (Kd.R_reads' HO294.out).2.2 | (with_reducible refine Kd.C_alloc ?_ _) | (with_reducible refine Kd.C_drewN ?_ _) | (with_reducible refine Kd.C_drew ?_))); (case side2 => exact (Kd.R_reads' HO294.out).2.1); (case side3 => refine gl_below HGL.out ?_; repeat (first | (with_reducible first | exact HB.out | apply below_alloc | apply pw_below_drewN | apply below_drew1) | exact HB.out)); rintro e w36 ⟨rfl, hb⟩; refine ⟨_, rfl, ?_⟩; have n0_ := Aside0.mk (Kd.R_below (by (with_reducible repeat (first | apply Kd.R_alloc | apply Kd.R_drewN | apply Kd.R_drew)); exact HO294.out) hb); have n1_ := Aside0.mk (below_step (by repeat (first | (with_reducible first | exact HB.out | apply below_alloc | apply pw_below_drewN | apply below_drew1) | exact HB.out)) hb); clear HO294; clear HB; have HO294 := n0_; have HB := n1_; clear n0_ n1_; (try clear hb); (try clear hb2); (try clear hk); (try clear hi)) | ((with_reducible refine gate_callee (f := 12) rfl ?_); refine goesL_ (some 58) rfl rfl Tryz.func12 (by kernel_rfl) rfl #[] rfl (by (try simp only [List.map_toArray, List.map_cons, List.map_nil]); first | done | rfl | (simp only [List.length_drop, List.length_take]; rfl)) ?_; (with_reducible refine (threshinglaw14_alive.calls kj9  true _ ?side1 A28.out).mono ?_); (case side1 => refine gl_below HGL.out ?_; repeat (first | (with_reducible first | exact HB.out | apply below_alloc | apply pw_below_drewN | apply below_drew1) | exact HB.out)); rintro e w37 ⟨rfl, hb⟩; refine ⟨_, rfl, ?_⟩; have n0_ := Aside0.mk (Kd.R_below (by (with_reducible repeat (first | apply Kd.R_alloc | apply Kd.R_drewN | apply Kd.R_drew)); exact HO294.out) hb); have n1_ := Aside0.mk (below_step (by repeat (first | (with_reducible first | exact HB.out | apply below_alloc | apply pw_below_drewN | apply below_drew1) | exact HB.out)) hb); clear HO294; clear HB; have HO294 := n0_; have HB := n1_; clear n0_ n1_; (try clear hb); (try clear hb2); (try clear hk); (try clear hi)) | (go_at_call 27; (with_reducible refine (code_Same.calls kj9 _ _ t291 _ _ t291 t298 _ ?side1 ?side2 ?side3 ?side4 A33.out).mono ?_); (case side1 => repeat (first | exact (Kd.R_reads' HO294.out).2.2 | (with_reducible refine Kd.C_alloc ?_ _) | (with_reducible refine Kd.C_drewN ?_ _) | (with_reducible refine Kd.C_drew ?_))); (case side2 => exact (Kd.R_reads' HO294.out).2.1); (case side3 => repeat (first | exact (Kd.R_reads' HO294.out).2.2 | (with_reducible refine Kd.C_alloc ?_ _) | (with_reducible refine Kd.C_drewN ?_ _) | (with_reducible refine Kd.C_drew ?_))); (case side4 => exact (Kd.R_reads' HO294.out).2.1); rintro e w' ⟨rfl, ⟨nd, rfl⟩⟩))
                    go_ret
                    exact ⟨by first | rfl | (simp [errW_none, errW_some] <;> rfl) | (simp [*, errW_none, errW_some] <;> rfl), by repeat (first | (with_reducible first | exact HB.out | apply below_alloc | apply pw_below_drewN | apply below_drew1) | exact HB.out)⟩
                  · rw [if_neg c32] at H
                    have c32b0 : (t295.toList == a1.toList) = false := beq_eq_false_iff_ne.mpr c32
                    have c32b1 : (t295.toList != a1.toList) = true := bne_iff_ne.mpr c32
                    obtain rfl := Option.some.inj H
                    go_wp2_with (first | ((with_reducible refine gate_callee (f := 24) rfl ?_); refine goesL_ (some 50) rfl rfl Tryz.func24 (by kernel_rfl) rfl #[.string a1] rfl (by (try simp only [List.map_toArray, List.map_cons, List.map_nil]); first | done | rfl | (simp only [List.length_drop, List.length_take]; rfl)) ?_; (with_reducible refine (code_Read.calls kj9 a1 t291 t292 _ ?side1 A26.out).mono ?_); (case side1 => refine gl_below HGL.out ?_; repeat (first | (with_reducible first | exact HB.out | apply below_alloc | apply pw_below_drewN | apply below_drew1) | exact HB.out)); rintro e w38 ⟨v293, rfl, ho0, hb⟩; refine ⟨_, rfl, ?_⟩; have n0_ := Aside0.mk (Kd.R_lower ho0 (below_size (by repeat (first | (with_reducible first | exact HB.out | apply below_alloc | apply pw_below_drewN | apply below_drew1) | exact HB.out)))); have n1_ := Aside0.mk (below_step (by repeat (first | (with_reducible first | exact HB.out | apply below_alloc | apply pw_below_drewN | apply below_drew1) | exact HB.out)) hb); clear HB; have HO294 := n0_; have HB := n1_; clear n0_ n1_; (try clear hb); (try clear hb2); (try clear hk); (try clear hi); (try clear ho0); obtain ⟨Ao39, co39, eo39⟩ := Kd.R_slice HO294.out; subst eo39) | ((with_reducible refine gate_callee (f := 22) rfl ?_); refine goesL_ (some 55) rfl rfl Tryz.func22 (by kernel_rfl) rfl #[.slice Ao39 t291.length co39] rfl (by (try simp only [List.map_toArray, List.map_cons, List.map_nil]); first | done | rfl | (simp only [List.length_drop, List.length_take]; rfl)) ?_; (with_reducible refine (code_Print.calls _ _ t291 t295 t296 _ ?side1 ?side2 ?side3 A27.out).mono ?_); (case side1 => repeat (first | exact (Kd.R_reads' HO294.out).2.2 | (with_reducible refine Kd.C_alloc ?_ _) | (with_reducible refine Kd.C_drewN ?_ _) | (with_reducible refine Kd.C_drew ?_))); (case side2 => exact (Kd.R_reads' HO294.out).2.1); (case side3 => refine gl_below HGL.out ?_; repeat (first | (with_reducible first | exact HB.out | apply below_alloc | apply pw_below_drewN | apply below_drew1) | exact HB.out)); rintro e w40 ⟨rfl, hb⟩; refine ⟨_, rfl, ?_⟩; have n0_ := Aside0.mk (Kd.R_below (by (with_reducible repeat (first | apply Kd.R_alloc | apply Kd.R_drewN | apply Kd.R_drew)); exact HO294.out) hb); have n1_ := Aside0.mk (below_step (by repeat (first | (with_reducible first | exact HB.out | apply below_alloc | apply pw_below_drewN | apply below_drew1) | exact HB.out)) hb); clear HO294; clear HB; have HO294 := n0_; have HB := n1_; clear n0_ n1_; (try clear hb); (try clear hb2); (try clear hk); (try clear hi)) | ((with_reducible refine gate_callee (f := 12) rfl ?_); refine goesL_ (some 58) rfl rfl Tryz.func12 (by kernel_rfl) rfl #[] rfl (by (try simp only [List.map_toArray, List.map_cons, List.map_nil]); first | done | rfl | (simp only [List.length_drop, List.length_take]; rfl)) ?_; (with_reducible refine (threshinglaw14_alive.calls kj9  true _ ?side1 A28.out).mono ?_); (case side1 => refine gl_below HGL.out ?_; repeat (first | (with_reducible first | exact HB.out | apply below_alloc | apply pw_below_drewN | apply below_drew1) | exact HB.out)); rintro e w41 ⟨rfl, hb⟩; refine ⟨_, rfl, ?_⟩; have n0_ := Aside0.mk (Kd.R_below (by (with_reducible repeat (first | apply Kd.R_alloc | apply Kd.R_drewN | apply Kd.R_drew)); exact HO294.out) hb); have n1_ := Aside0.mk (below_step (by repeat (first | (with_reducible first | exact HB.out | apply below_alloc | apply pw_below_drewN | apply below_drew1) | exact HB.out)) hb); clear HO294; clear HB; have HO294 := n0_; have HB := n1_; clear n0_ n1_; (try clear hb); (try clear hb2); (try clear hk); (try clear hi)))
                    go_ret
                    exact ⟨by first | rfl | (simp [errW_none, errW_some] <;> rfl) | (simp [*, errW_none, errW_some] <;> rfl), by repeat (first | (with_reducible first | exact HB.out | apply below_alloc | apply pw_below_drewN | apply below_drew1) | exact HB.out)⟩
                · rw [if_neg c31] at H
                  have c31b0 : (t296 == 0) = false := beq_eq_false_iff_ne.mpr c31
                  have c31b1 : (t296 != 0) = true := bne_iff_ne.mpr c31
                  obtain rfl := Option.some.inj H
                  go_wp2_with (first | ((with_reducible refine gate_callee (f := 24) rfl ?_); refine goesL_ (some 50) rfl rfl Tryz.func24 (by kernel_rfl) rfl #[.string a1] rfl (by (try simp only [List.map_toArray, List.map_cons, List.map_nil]); first | done | rfl | (simp only [List.length_drop, List.length_take]; rfl)) ?_; (with_reducible refine (code_Read.calls kj9 a1 t291 t292 _ ?side1 A26.out).mono ?_); (case side1 => refine gl_below HGL.out ?_; repeat (first | (with_reducible first | exact HB.out | apply below_alloc | apply pw_below_drewN | apply below_drew1) | exact HB.out)); rintro e w42 ⟨v293, rfl, ho0, hb⟩; refine ⟨_, rfl, ?_⟩; have n0_ := Aside0.mk (Kd.R_lower ho0 (below_size (by repeat (first | (with_reducible first | exact HB.out | apply below_alloc | apply pw_below_drewN | apply below_drew1) | exact HB.out)))); have n1_ := Aside0.mk (below_step (by repeat (first | (with_reducible first | exact HB.out | apply below_alloc | apply pw_below_drewN | apply below_drew1) | exact HB.out)) hb); clear HB; have HO294 := n0_; have HB := n1_; clear n0_ n1_; (try clear hb); (try clear hb2); (try clear hk); (try clear hi); (try clear ho0); obtain ⟨Ao43, co43, eo43⟩ := Kd.R_slice HO294.out; subst eo43) | ((with_reducible refine gate_callee (f := 22) rfl ?_); refine goesL_ (some 55) rfl rfl Tryz.func22 (by kernel_rfl) rfl #[.slice Ao43 t291.length co43] rfl (by (try simp only [List.map_toArray, List.map_cons, List.map_nil]); first | done | rfl | (simp only [List.length_drop, List.length_take]; rfl)) ?_; (with_reducible refine (code_Print.calls _ _ t291 t295 t296 _ ?side1 ?side2 ?side3 A27.out).mono ?_); (case side1 => repeat (first | exact (Kd.R_reads' HO294.out).2.2 | (with_reducible refine Kd.C_alloc ?_ _) | (with_reducible refine Kd.C_drewN ?_ _) | (with_reducible refine Kd.C_drew ?_))); (case side2 => exact (Kd.R_reads' HO294.out).2.1); (case side3 => refine gl_below HGL.out ?_; repeat (first | (with_reducible first | exact HB.out | apply below_alloc | apply pw_below_drewN | apply below_drew1) | exact HB.out)); rintro e w44 ⟨rfl, hb⟩; refine ⟨_, rfl, ?_⟩; have n0_ := Aside0.mk (Kd.R_below (by (with_reducible repeat (first | apply Kd.R_alloc | apply Kd.R_drewN | apply Kd.R_drew)); exact HO294.out) hb); have n1_ := Aside0.mk (below_step (by repeat (first | (with_reducible first | exact HB.out | apply below_alloc | apply pw_below_drewN | apply below_drew1) | exact HB.out)) hb); clear HO294; clear HB; have HO294 := n0_; have HB := n1_; clear n0_ n1_; (try clear hb); (try clear hb2); (try clear hk); (try clear hi)) | ((with_reducible refine gate_callee (f := 12) rfl ?_); refine goesL_ (some 58) rfl rfl Tryz.func12 (by kernel_rfl) rfl #[] rfl (by (try simp only [List.map_toArray, List.map_cons, List.map_nil]); first | done | rfl | (simp only [List.length_drop, List.length_take]; rfl)) ?_; (with_reducible refine (threshinglaw14_alive.calls kj9  true _ ?side1 A28.out).mono ?_); (case side1 => refine gl_below HGL.out ?_; repeat (first | (with_reducible first | exact HB.out | apply below_alloc | apply pw_below_drewN | apply below_drew1) | exact HB.out)); rintro e w45 ⟨rfl, hb⟩; refine ⟨_, rfl, ?_⟩; have n0_ := Aside0.mk (Kd.R_below (by (with_reducible repeat (first | apply Kd.R_alloc | apply Kd.R_drewN | apply Kd.R_drew)); exact HO294.out) hb); have n1_ := Aside0.mk (below_step (by repeat (first | (with_reducible first | exact HB.out | apply below_alloc | apply pw_below_drewN | apply below_drew1) | exact HB.out)) hb); clear HO294; clear HB; have HO294 := n0_; have HB := n1_; clear n0_ n1_; (try clear hb); (try clear hb2); (try clear hk); (try clear hi)))
                  go_ret
                  exact ⟨by first | rfl | (simp [errW_none, errW_some] <;> rfl) | (simp [*, errW_none, errW_some] <;> rfl), by repeat (first | (with_reducible first | exact HB.out | apply below_alloc | apply pw_below_drewN | apply below_drew1) | exact HB.out)⟩
              · rw [if_neg c30] at H
                have c30b0 : (t292 == 0) = false := beq_eq_false_iff_ne.mpr c30
                have c30b1 : (t292 != 0) = true := bne_iff_ne.mpr c30
                obtain rfl := Option.some.inj H
                go_wp2_with (first | ((with_reducible refine gate_callee (f := 24) rfl ?_); refine goesL_ (some 50) rfl rfl Tryz.func24 (by kernel_rfl) rfl #[.string a1] rfl (by (try simp only [List.map_toArray, List.map_cons, List.map_nil]); first | done | rfl | (simp only [List.length_drop, List.length_take]; rfl)) ?_; (with_reducible refine (code_Read.calls kj9 a1 t291 t292 _ ?side1 A26.out).mono ?_); (case side1 => refine gl_below HGL.out ?_; repeat (first | (with_reducible first | exact HB.out | apply below_alloc | apply pw_below_drewN | apply below_drew1) | exact HB.out)); rintro e w46 ⟨v293, rfl, ho0, hb⟩; refine ⟨_, rfl, ?_⟩; have n0_ := Aside0.mk (Kd.R_lower ho0 (below_size (by repeat (first | (with_reducible first | exact HB.out | apply below_alloc | apply pw_below_drewN | apply below_drew1) | exact HB.out)))); have n1_ := Aside0.mk (below_step (by repeat (first | (with_reducible first | exact HB.out | apply below_alloc | apply pw_below_drewN | apply below_drew1) | exact HB.out)) hb); clear HB; have HO294 := n0_; have HB := n1_; clear n0_ n1_; (try clear hb); (try clear hb2); (try clear hk); (try clear hi); (try clear ho0); obtain ⟨Ao47, co47, eo47⟩ := Kd.R_slice HO294.out; subst eo47) | ((with_reducible refine gate_callee (f := 22) rfl ?_); refine goesL_ (some 55) rfl rfl Tryz.func22 (by kernel_rfl) rfl #[.slice Ao47 t291.length co47] rfl (by (try simp only [List.map_toArray, List.map_cons, List.map_nil]); first | done | rfl | (simp only [List.length_drop, List.length_take]; rfl)) ?_; (with_reducible refine (code_Print.calls _ _ t291 t295 t296 _ ?side1 ?side2 ?side3 A27.out).mono ?_); (case side1 => repeat (first | exact (Kd.R_reads' HO294.out).2.2 | (with_reducible refine Kd.C_alloc ?_ _) | (with_reducible refine Kd.C_drewN ?_ _) | (with_reducible refine Kd.C_drew ?_))); (case side2 => exact (Kd.R_reads' HO294.out).2.1); (case side3 => refine gl_below HGL.out ?_; repeat (first | (with_reducible first | exact HB.out | apply below_alloc | apply pw_below_drewN | apply below_drew1) | exact HB.out)); rintro e w48 ⟨rfl, hb⟩; refine ⟨_, rfl, ?_⟩; have n0_ := Aside0.mk (Kd.R_below (by (with_reducible repeat (first | apply Kd.R_alloc | apply Kd.R_drewN | apply Kd.R_drew)); exact HO294.out) hb); have n1_ := Aside0.mk (below_step (by repeat (first | (with_reducible first | exact HB.out | apply below_alloc | apply pw_below_drewN | apply below_drew1) | exact HB.out)) hb); clear HO294; clear HB; have HO294 := n0_; have HB := n1_; clear n0_ n1_; (try clear hb); (try clear hb2); (try clear hk); (try clear hi)) | ((with_reducible refine gate_callee (f := 12) rfl ?_); refine goesL_ (some 58) rfl rfl Tryz.func12 (by kernel_rfl) rfl #[] rfl (by (try simp only [List.map_toArray, List.map_cons, List.map_nil]); first | done | rfl | (simp only [List.length_drop, List.length_take]; rfl)) ?_; (with_reducible refine (threshinglaw14_alive.calls kj9  true _ ?side1 A28.out).mono ?_); (case side1 => refine gl_below HGL.out ?_; repeat (first | (with_reducible first | exact HB.out | apply below_alloc | apply pw_below_drewN | apply below_drew1) | exact HB.out)); rintro e w49 ⟨rfl, hb⟩; refine ⟨_, rfl, ?_⟩; have n0_ := Aside0.mk (Kd.R_below (by (with_reducible repeat (first | apply Kd.R_alloc | apply Kd.R_drewN | apply Kd.R_drew)); exact HO294.out) hb); have n1_ := Aside0.mk (below_step (by repeat (first | (with_reducible first | exact HB.out | apply below_alloc | apply pw_below_drewN | apply below_drew1) | exact HB.out)) hb); clear HO294; clear HB; have HO294 := n0_; have HB := n1_; clear n0_ n1_; (try clear hb); (try clear hb2); (try clear hk); (try clear hi)))
                go_ret
                exact ⟨by first | rfl | (simp [errW_none, errW_some] <;> rfl) | (simp [*, errW_none, errW_some] <;> rfl), by repeat (first | (with_reducible first | exact HB.out | apply below_alloc | apply pw_below_drewN | apply below_drew1) | exact HB.out)⟩
            · replace c29 := Bool.eq_false_iff.mpr c29
              subst c29
              have H1 : (some false) = some r := by rw [if_neg (show ¬ (false = true) by decide)] at H; exact H
              clear H
              have H := H1
              clear H1
              obtain rfl := Option.some.inj H
              go_wp2_with (first | ((with_reducible refine gate_callee (f := 24) rfl ?_); refine goesL_ (some 50) rfl rfl Tryz.func24 (by kernel_rfl) rfl #[.string a1] rfl (by (try simp only [List.map_toArray, List.map_cons, List.map_nil]); first | done | rfl | (simp only [List.length_drop, List.length_take]; rfl)) ?_; (with_reducible refine (code_Read.calls kj9 a1 t291 t292 _ ?side1 A26.out).mono ?_); (case side1 => refine gl_below HGL.out ?_; repeat (first | (with_reducible first | exact HB.out | apply below_alloc | apply pw_below_drewN | apply below_drew1) | exact HB.out)); rintro e w50 ⟨v293, rfl, ho0, hb⟩; refine ⟨_, rfl, ?_⟩; have n0_ := Aside0.mk (Kd.R_lower ho0 (below_size (by repeat (first | (with_reducible first | exact HB.out | apply below_alloc | apply pw_below_drewN | apply below_drew1) | exact HB.out)))); have n1_ := Aside0.mk (below_step (by repeat (first | (with_reducible first | exact HB.out | apply below_alloc | apply pw_below_drewN | apply below_drew1) | exact HB.out)) hb); clear HB; have HO294 := n0_; have HB := n1_; clear n0_ n1_; (try clear hb); (try clear hb2); (try clear hk); (try clear hi); (try clear ho0); obtain ⟨Ao51, co51, eo51⟩ := Kd.R_slice HO294.out; subst eo51) | ((with_reducible refine gate_callee (f := 22) rfl ?_); refine goesL_ (some 55) rfl rfl Tryz.func22 (by kernel_rfl) rfl #[.slice Ao51 t291.length co51] rfl (by (try simp only [List.map_toArray, List.map_cons, List.map_nil]); first | done | rfl | (simp only [List.length_drop, List.length_take]; rfl)) ?_; (with_reducible refine (code_Print.calls _ _ t291 t295 t296 _ ?side1 ?side2 ?side3 A27.out).mono ?_); (case side1 => repeat (first | exact (Kd.R_reads' HO294.out).2.2 | (with_reducible refine Kd.C_alloc ?_ _) | (with_reducible refine Kd.C_drewN ?_ _) | (with_reducible refine Kd.C_drew ?_))); (case side2 => exact (Kd.R_reads' HO294.out).2.1); (case side3 => refine gl_below HGL.out ?_; repeat (first | (with_reducible first | exact HB.out | apply below_alloc | apply pw_below_drewN | apply below_drew1) | exact HB.out)); rintro e w52 ⟨rfl, hb⟩; refine ⟨_, rfl, ?_⟩; have n0_ := Aside0.mk (Kd.R_below (by (with_reducible repeat (first | apply Kd.R_alloc | apply Kd.R_drewN | apply Kd.R_drew)); exact HO294.out) hb); have n1_ := Aside0.mk (below_step (by repeat (first | (with_reducible first | exact HB.out | apply below_alloc | apply pw_below_drewN | apply below_drew1) | exact HB.out)) hb); clear HO294; clear HB; have HO294 := n0_; have HB := n1_; clear n0_ n1_; (try clear hb); (try clear hb2); (try clear hk); (try clear hi)) | ((with_reducible refine gate_callee (f := 12) rfl ?_); refine goesL_ (some 58) rfl rfl Tryz.func12 (by kernel_rfl) rfl #[] rfl (by (try simp only [List.map_toArray, List.map_cons, List.map_nil]); first | done | rfl | (simp only [List.length_drop, List.length_take]; rfl)) ?_; (with_reducible refine (threshinglaw14_alive.calls kj9  false _ ?side1 A28.out).mono ?_); (case side1 => refine gl_below HGL.out ?_; repeat (first | (with_reducible first | exact HB.out | apply below_alloc | apply pw_below_drewN | apply below_drew1) | exact HB.out)); rintro e w53 ⟨rfl, hb⟩; refine ⟨_, rfl, ?_⟩; have n0_ := Aside0.mk (Kd.R_below (by (with_reducible repeat (first | apply Kd.R_alloc | apply Kd.R_drewN | apply Kd.R_drew)); exact HO294.out) hb); have n1_ := Aside0.mk (below_step (by repeat (first | (with_reducible first | exact HB.out | apply below_alloc | apply pw_below_drewN | apply below_drew1) | exact HB.out)) hb); clear HO294; clear HB; have HO294 := n0_; have HB := n1_; clear n0_ n1_; (try clear hb); (try clear hb2); (try clear hk); (try clear hi)))
              go_ret
              exact ⟨by first | rfl | (simp [errW_none, errW_some] <;> rfl) | (simp [*, errW_none, errW_some] <;> rfl), by repeat (first | (with_reducible first | exact HB.out | apply below_alloc | apply pw_below_drewN | apply below_drew1) | exact HB.out)⟩

end Go.Proofs.YtmgcpjgpmjhemaaGreatDoor.Pc

/-
The law CodeBack answers true.
-/
namespace Go.Proofs.YtmgcpjgpmjhemaaGreatDoor.Pc
open Go.RowKit Go.Proofs.YtmgcpjgpmjhemaaGreatDoorW.PrintWords Go.Proofs.YtmgcpjgpmjhemaaGreatDoorW.PrintLast Go.Proofs.YtmgcpjgpmjhemaaGreatDoorW.PrintMore
open CodePure (esc Bs unesc figs)
set_option linter.unusedVariables false

/-- An instruction as the form lets it come in. -/
def inS (x : S23) : Prop := wfI x.f0 ∧ wfI x.f1 ∧ x.f2.size ≤ 140737488351232
def sumS (l : List S23) : Nat := (l.map fun x => x.f2.size).sum
def smallB (l : List S23) : Bool := decide (l.length ≤ 250 ∧ sumS l ≤ 1200)

theorem small_big (l : List S23) (hl : 250 < l.length) (hm : l.length < 9000000000000000000) : ∀ (m i : Nat) (acc : Int), m = l.length - i → i ≤ l.length → ∀ f, 1 ≤ f → threshinglaw14_small.l0 (m + f) l acc i = some false := by
  intro m
  induction m with
  | zero =>
    intro i acc hm hi f hf
    obtain ⟨f', rfl⟩ : ∃ f', f = f' + 1 := ⟨f - 1, by omega⟩
    simp only [threshinglaw14_small.l0]
    rw [if_neg (by omega), if_neg (by omega)]
  | succ m ih =>
    intro i acc hm hi f hf
    have hw : wrap64 ((i : Int) + 1) = ((i + 1 : Nat) : Int) := by unfold wrap64; omega
    rw [show m + 1 + f = (m + f) + 1 by omega]
    simp only [threshinglaw14_small.l0]
    rw [if_pos (by omega), if_pos (by omega), hw]
    exact ih (i + 1) _ (by omega) (by omega) f hf
theorem small_few (l : List S23) (hl : l.length ≤ 250) (hw0 : ∀ x ∈ l, x.f2.size ≤ 140737488351232) : ∀ (m i : Nat) (acc : Nat), m = l.length - i → i ≤ l.length → acc ≤ i * 140737488351232 → ∀ f, 1 ≤ f →
    threshinglaw14_small.l0 (m + f) l acc i = some (decide (acc + sumS (l.drop i) ≤ 1200)) := by
  intro m
  induction m with
  | zero =>
    intro i acc hm hi ha f hf
    obtain ⟨f', rfl⟩ : ∃ f', f = f' + 1 := ⟨f - 1, by omega⟩
    have he : i = l.length := by omega
    subst he
    simp only [threshinglaw14_small.l0]
    rw [if_neg (by omega), if_pos (by omega), List.drop_length]
    congr 1
    rw [decide_eq_decide]
    simp [sumS]
    omega
  | succ m ih =>
    intro i acc hm hi ha f hf
    have hlt : i < l.length := by omega
    have hd : l.drop i = l[i] :: l.drop (i + 1) := List.drop_eq_getElem_cons hlt
    have hr : rd_T23 l (i : Int) = l[i] := by simp [rd_T23, hlt]
    have hz := hw0 l[i] (List.getElem_mem hlt)
    have hw : wrap64 ((i : Int) + 1) = ((i + 1 : Nat) : Int) := by unfold wrap64; omega
    have hw2 : wrap64 ((acc : Int) + (l[i].f2.size : Int)) = ((acc + l[i].f2.size : Nat) : Int) := by unfold wrap64; omega
    rw [show m + 1 + f = (m + f) + 1 by omega]
    simp only [threshinglaw14_small.l0]
    rw [if_pos (by omega), if_pos (by omega), hr, hw, hw2, ih (i + 1) _ (by omega) (by omega) (by omega) f hf, hd]
    congr 1
    rw [decide_eq_decide]
    simp only [sumS, List.map_cons, List.sum_cons]
    omega
theorem small_eq (l : List S23) (hw : ∀ x ∈ l, x.f2.size ≤ 140737488351232) (hm : l.length < 9000000000000000000) (k : Nat) (hk : l.length + 1 ≤ k) : threshinglaw14_small.f k l = some (smallB l) := by
  unfold threshinglaw14_small.f smallB
  by_cases hl : l.length ≤ 250
  · have := small_few l hl hw l.length 0 0 (by omega) (Nat.zero_le _) (Nat.zero_le _) (k - l.length) (by omega)
    rw [show l.length + (k - l.length) = k by omega] at this
    have hz : ((0 : Nat) : Int) = 0 := rfl
    rw [hz] at this
    rw [this]
    simp [hl]
  · have := small_big l (by omega) hm l.length 0 0 (by omega) (Nat.zero_le _) (k - l.length) (by omega)
    rw [show l.length + (k - l.length) = k by omega] at this
    have hz : ((0 : Nat) : Int) = 0 := rfl
    rw [hz] at this
    rw [this]
    simp [hl]
theorem sum_mem (l : List S23) (x : S23) (h : x ∈ l) : x.f2.size ≤ sumS l := by
  induction l with
  | nil => cases h
  | cons y l ih =>
    simp only [sumS, List.map_cons, List.sum_cons]
    rcases List.mem_cons.1 h with rfl | h
    · omega
    · have := ih h
      simp only [sumS] at this
      omega
theorem small_ok {l : List S23} (h : smallB l = true) (hw : ∀ x ∈ l, inS x) : ∀ x ∈ l, okS x := fun x hx => by
  have h1 := sum_mem l x hx
  have h2 : sumS l ≤ 1200 := by
    unfold smallB at h
    simp at h
    exact h.2
  exact ⟨(hw x hx).1, (hw x hx).2.1, by omega⟩
theorem lineS_len2 (x : S23) (h : okS x) (hm : mayS x = true) : (lineS x).length ≤ 2 * x.f2.size + 30 := by
  have hk : ∀ k : Nat, k < 24 → (nameL k).length ≤ 6 := by decide +kernel
  have hop := mayB_op hm
  have hn := hk x.f0.toNat (by omega)
  rw [show ((x.f0.toNat : Nat) : Int) = x.f0 by omega] at hn
  have h1 := hk 1 (by decide)
  rw [show ((1 : Nat) : Int) = 1 from rfl] at h1
  have hi := Lib.itoa_length_le x.f1 h.2.1.1 h.2.1.2
  have he := CodePure.esc_length x.f2.data.toList
  have hz : x.f2.data.toList.length = x.f2.size := by simp
  unfold lineS lineL
  split
  · simp; omega
  · split
    · simp; omega
    · omega
theorem linesL_len (l : List S23) (h : l.all mayS = true) (hw : ∀ x ∈ l, okS x) : (linesL l).length ≤ 2 * sumS l + 31 * l.length := by
  induction l with
  | nil => simp [linesL]
  | cons x l ih =>
    simp only [List.all_cons, Bool.and_eq_true] at h
    have h1 := lineS_len2 x (hw x List.mem_cons_self) h.1
    have h2 := ih h.2 (fun y hy => hw y (List.mem_cons_of_mem _ hy))
    rw [linesL_cons]
    simp only [sumS, List.map_cons, List.sum_cons, List.length_append, List.length_cons] at h2 ⊢
    omega

theorem readL_err {s : Bs} {q : List S23} {e : Int} (h : readL s = (q, e)) (he : e ≠ 0) : q = [] := by
  unfold readL at h
  split at h
  · exact (Prod.mk.inj h).1.symm
  · split at h
    · exact (Prod.mk.inj h).1.symm
    · split at h
      · exact (Prod.mk.inj h).1.symm
      · split at h
        · exact absurd (Prod.mk.inj h).2.symm he
        · exact (Prod.mk.inj h).1.symm

theorem back_j1 (s : ByteArray) (hs : s.size ≤ 4000) (k : Nat) (hk : 5000 ≤ k) : threshinglaw14_CodeBack.j1 (k + 1) s = some true := by
  have hr := read_eq s (by omega) k (by omega)
  simp only [threshinglaw14_CodeBack.j1]
  rw [hr]
  simp only [Option.bind_some]
  rw [alive_true k (by omega)]
  obtain ⟨⟨q, e⟩, hq⟩ : ∃ p, readL s.data.toList = p := ⟨_, rfl⟩
  rw [hq]
  by_cases he : e = 0
  · subst he
    obtain ⟨h1, h2, h3, h4⟩ := print_read hq
    have hp : code_Print.f q = some (bs (linesL q), 0) := by
      unfold code_Print.f
      rw [if_neg (by omega), if_pos h2, h1]
      rfl
    have hself := same_self q (by omega) k (by omega)
    simp only [hp, Option.bind_some, if_true]
    rw [if_pos (by rw [ByteArray.toList_eq, ByteArray.toList_eq, ← h4]; rfl), hself]
    rfl
  · obtain rfl := readL_err hq he
    have hp : code_Print.f [] = some (bs [], 0) := rfl
    simp only [hp, Option.bind_some, if_true]
    rw [if_neg he]
theorem codeBack_true (l : List S23) (hw : ∀ x ∈ l, inS x) (hm : l.length < 9000000000000000000) (s : ByteArray) : ∃ k, threshinglaw14_CodeBack.f k l s = some true := by
  have hsm := fun k hk => small_eq l (fun x hx => (hw x hx).2.2) hm k hk
  by_cases hb : smallB l = true
  · have hl : l.length ≤ 250 ∧ sumS l ≤ 1200 := by unfold smallB at hb; simpa using hb
    have hok := small_ok hb hw
    refine ⟨29999 + 1, ?_⟩
    unfold threshinglaw14_CodeBack.f
    rw [hsm _ (by omega), hb]
    simp only [Option.bind_some, if_true]
    by_cases hs : (s.size : Int) > 4000
    · rw [decide_eq_true hs]
      simp only [threshinglaw14_CodeBack.j0, if_true]
      rw [alive_true _ (by omega)]
      rfl
    · rw [decide_eq_false hs]
      simp only [threshinglaw14_CodeBack.j0]
      rw [if_neg (by decide)]
      have hj := back_j1 s (by omega) 29998 (by omega)
      by_cases h200 : 200 < l.length
      · have hp : code_Print.f l = some (⟨#[]⟩, 5) := if_pos h200
        rw [hp]
        simp only [Option.bind_some]
        rw [if_neg (by decide)]
        exact hj
      · have hp : code_Print.f l = some (if l.all mayS then (bs (linesL l), 0) else (⟨#[]⟩, 1)) := by
          unfold code_Print.f
          rw [if_neg h200, if_pos hok]
        cases hall : l.all mayS with
        | false =>
          rw [hp, hall]
          simp only [Option.bind_some, Bool.false_eq_true, if_false]
          rw [if_neg (by decide)]
          exact hj
        | true =>
          have hlen := linesL_len l hall hok
          have hsz : (bs (linesL l)).size = (linesL l).length := rfl
          have hrd := read_eq (bs (linesL l)) (by omega) 29999 (by omega)
          rw [show (bs (linesL l)).data.toList = linesL l from rfl, read_print l hall hok (by omega)] at hrd
          rw [hp, hall]
          simp only [Option.bind_some, if_true]
          rw [hrd]
          simp only [Option.bind_some, if_true]
          rw [same_self l (by omega) 29999 (by omega)]
          simp only [Option.bind_some, if_true]
          rw [refSame_self l (by omega) 29999 (by omega)]
          simp only [Option.bind_some, if_true]
          exact hj
  · have hb' : smallB l = false := by simpa using hb
    refine ⟨l.length + 41 + 1, ?_⟩
    unfold threshinglaw14_CodeBack.f
    rw [hsm _ (by omega), hb']
    simp only [Option.bind_some]
    rw [if_neg (by decide)]
    simp only [threshinglaw14_CodeBack.j0, if_true]
    rw [alive_true _ (by omega)]
    rfl
end Go.Proofs.YtmgcpjgpmjhemaaGreatDoor.Pc

/-
A slice of instructions laid open, with the bounds that the form gives.
-/
namespace Go.Proofs.YtmgcpjgpmjhemaaGreatDoor.Pc
open Go.ChangeShapes Go.WideShapes Go.ChangeAt Go.RowKit Go.Deep
open Go.Proofs.YtmgcpjgpmjhemaaGreatDoorW.PrintWords Go.Proofs.YtmgcpjgpmjhemaaGreatDoorW.PrintLast Go.Proofs.YtmgcpjgpmjhemaaGreatDoorW.PrintMore
set_option linter.unusedVariables false

theorem weightsAll_mem {H : Type} {P : Program} {e : TypeId} {d : DataW H} {n : Nat} (hn : n ∈ d.weights P e) : ∀ {l : List (DataW H)}, d ∈ l → n ∈ DataW.weightsAll P e l
  | [], h => by cases h
  | x :: l, h => by
    unfold DataW.weightsAll
    rcases List.mem_cons.1 h with rfl | h
    · exact List.mem_append_left _ hn
    · exact List.mem_append_right _ (weightsAll_mem hn h)

set_option maxRecDepth 100000 in
/-- An instruction, laid open: its three cells and its datum. -/
theorem open_insD {H : Type} {enc : TypeId × Value → H} {w : World} {base : Nat} {sp : Nat → Bool} {held : Bool} {fuel : Nat} {cs : List Value} {x : DataW H × List MemPlace}
    (h : DataW.trod enc Tryz.prog w base sp held fuel 23 cs = some x) : ∃ (y : S23), cs = [.int .i64 y.f0, .int .i64 y.f1, .string y.f2] ∧ wfI y.f0 ∧ wfI y.f1 ∧ x.1 = .agg [.lit (.int .i64 y.f0), .lit (.int .i64 y.f1), .lit (.string y.f2.data.toList)] := by
  obtain ⟨y0, y1, y2, m, hx, hl, hy0, hy1, hy2⟩ := trod_struct3 Tryz.underlying23 h
  rw [cells_ins] at hl
  match cs, hl with
  | [c0, c1, c2], _ =>
  simp only [cells_int, cells_str, List.drop_succ_cons, List.drop_zero, List.take_succ_cons, List.take_zero] at hy0 hy1 hy2
  obtain ⟨a, e0, z0, wa⟩ := DataW.trod_int Tryz.underlying3 hy0
  obtain ⟨b, e1, z1, wb⟩ := DataW.trod_int Tryz.underlying3 hy1
  obtain ⟨s, e2, z2, _⟩ := DataW.trod_string Tryz.underlying9 hy2
  simp only [List.cons.injEq, and_true] at e0 e1 e2
  subst e0 e1 e2
  exact ⟨⟨a, b, s⟩, rfl, wfI_of wa, wfI_of wb, by rw [hx, z0, z1, z2]⟩
theorem bytes_ins : Tryz.prog.bytesOf 23 = 32 := by kernel_rfl
instance : Inhabited S23 := ⟨z23⟩

/-- A string inside an instruction inside a slice is no longer than the form lets it be. -/
theorem size_in {H : Type} {y : S23} {D : DataW H} {es sp : List (DataW H)} (hD : D = .agg [.lit (.int .i64 y.f0), .lit (.int .i64 y.f1), .lit (.string y.f2.data.toList)]) (hm : D ∈ es)
    (hsz : ((DataW.slice es sp).weights Tryz.prog 33).all (· ≤ reachBytes) = true) : y.f2.size ≤ 140737488351232 := by
  have h1 : y.f2.data.toList.length ∈ D.weights Tryz.prog 23 := by
    subst hD
    unfold DataW.weights
    rw [Tryz.underlying23]
    simp [DataW.weightsEach, DataW.weights]
  have h2 := weightsAll_mem h1 hm
  have h3 : y.f2.data.toList.length ∈ (DataW.slice es sp).weights Tryz.prog 33 := by
    unfold DataW.weights
    rw [Tryz.underlying33]
    exact List.mem_cons_of_mem _ (List.mem_append_left _ h2)
  have h4 := List.all_eq_true.1 hsz _ h3
  have h5 : y.f2.data.toList.length = y.f2.size := by simp
  have h6 : reachBytes = 140737488351232 := by decide
  simp at h4
  omega

set_option maxRecDepth 100000 in
theorem open_inss {H : Type} {enc : TypeId × Value → H} {w : World} {sp : Nat → Bool} {held : Bool} {fuel : Nat} {cs : List Value} {x : DataW H × List MemPlace}
    (h : DataW.trod enc Tryz.prog w 0 sp held fuel 33 cs = some x) (hsz : (x.1.weights Tryz.prog 33).all (· ≤ reachBytes) = true) :
    ∃ (A : Option Addr) (cap : Nat) (l : List S23), cs = [.slice A l.length cap] ∧ l.length ≤ cap ∧ l.length < 9000000000000000000 ∧ Kd.C k23 w A l.length l ∧ ∀ y ∈ l, inS y := by
  rcases open_slice Tryz.underlying33 h with ⟨rfl, rfl⟩ | ⟨a, len, cap, m, n, D, Pl, rfl, _, hl, hm, hmm, rfl, hx⟩
  · exact ⟨none, 0, [], rfl, Nat.le_refl _, by decide, ⟨rfl, by decide, fun h => absurd h (by decide)⟩, by simp⟩
  · have hlm : len ≤ m := by rw [hmm]; split <;> omega
    rw [cells_ins] at hx
    have each : ∀ i, i < len → ∃ y : S23, (∀ j u, ([.int .i64 y.f0, .int .i64 y.f1, .string y.f2] : List Value)[j]? = some u → w.cell? (a.add (i * 3 + j)) = some u) ∧ wfI y.f0 ∧ wfI y.f1 ∧ D i = .agg [.lit (.int .i64 y.f0), .lit (.int .i64 y.f1), .lit (.string y.f2.data.toList)] := fun i hi => by
      obtain ⟨cs', hc, ht⟩ := hx i (by omega)
      obtain ⟨y, rfl, w0, w1, hD⟩ := open_insD ht
      obtain ⟨_, _, hcell⟩ := World.cells?_some hc
      refine ⟨y, fun j u hu => ?_, w0, w1, hD⟩
      have hj : j < 3 := by
        have := (List.getElem?_eq_some_iff.1 hu).1
        simpa using this
      have := hcell j hj
      rw [hu] at this
      rw [← this, Addr.add_add]
    obtain ⟨Y, hY⟩ := choose_lt each
    have hlen : ((List.range len).map Y).length = len := by simp
    refine ⟨some a, cap, (List.range len).map Y, by rw [hlen], by rw [hlen]; exact hl, ?_, ?_, ?_⟩
    · have h1 : ((((List.range len).map D).length + ((List.range (m - len)).map fun j => D (len + j)).length) * Tryz.prog.bytesOf 23) ∈ (DataW.slice ((List.range len).map D) ((List.range (m - len)).map fun j => D (len + j))).weights Tryz.prog 33 := by
        unfold DataW.weights
        rw [Tryz.underlying33]
        simp
      have h4 := List.all_eq_true.1 hsz _ h1
      have h6 : reachBytes = 140737488351232 := by decide
      rw [bytes_ins] at h4
      simp at h4
      rw [hlen]
      omega
    · rw [hlen]
      refine ⟨hlen, by have : maxLen = 9223372036854775807 := rfl; omega, fun hpos => ⟨a, rfl, fun j p hp => ?_⟩⟩
      rw [List.getElem?_map] at hp
      obtain ⟨i, hi, rfl⟩ := Option.map_eq_some_iff.1 hp
      obtain ⟨hj, rfl⟩ := List.getElem?_eq_some_iff.1 hi
      simp at hj
      rw [List.getElem_range] at *
      exact ⟨_, rfl, k23_mk w (Y j), fun i u hu => (hY j hj).1 i u hu⟩
    · intro y hy
      obtain ⟨i, hi, rfl⟩ := List.mem_map.1 hy
      have hi' := List.mem_range.1 hi
      obtain ⟨_, w0, w1, hD⟩ := hY i hi'
      exact ⟨w0, w1, size_in hD (List.mem_map_of_mem hi) hsz⟩
theorem all_left {a b : List Nat} {f : Nat → Bool} (h : (a ++ b).all f = true) : a.all f = true := by
  rw [List.all_append, Bool.and_eq_true] at h
  exact h.1
theorem all_right {a b : List Nat} {f : Nat → Bool} (h : (a ++ b).all f = true) : b.all f = true := by
  rw [List.all_append, Bool.and_eq_true] at h
  exact h.2
end Go.Proofs.YtmgcpjgpmjhemaaGreatDoor.Pc
