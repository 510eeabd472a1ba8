/-
Parts of the proof of CodeLines: Pc10, ReplPure, PrintPure, ExtStr, ExtFigures, ExtRune, ExtQuoted. No condition of ours.
-/
import Derived.Test.YtmgcpjgpmjhemaaGreatDoorMCodeLines1
import Derived.Test.YtmgcpjgpmjhemaaGreatDoorMCodeLines3
import Derived.Test.YtmgcpjgpmjhemaaGreatDoorMCodeLines4
import Derived.Test.YtmgcpjgpmjhemaaGreatDoorMCodeLines2
import Derived.Lib.Bytealg
import Derived.Lib.ItoaLen
import Derived.Lib.AtoiAllCases
import Derived.Lib.AtoiErrMem
import Derived.Sort.Grow
import Derived.WalkSpells
import Derived.Lib.Hide
import Derived.Deep.QuietTactic
import Derived.BigQuiet
import Derived.Laws.Runes
import Derived.Outline
namespace Go.Proofs.YtmgcpjgpmjhemaaGreatDoor.Pc
open Go.RowKit Go.Proofs.YtmgcpjgpmjhemaaGreatDoorW.PrintWords Go.Proofs.YtmgcpjgpmjhemaaGreatDoorW.PrintLast Go.Proofs.YtmgcpjgpmjhemaaGreatDoorW.PrintMore
attribute [local go_sem] max2_int min2_int max_two min_two max_three min_three max_four min_four   -- for this text's walks alone
set_option linter.unusedVariables false
set_option linter.unusedSimpArgs false

/-! ### threshingref14_Parse: function 16 -/
mutual
def threshingref14_Parse.l0 : Nat → ByteArray → Int → Option (Int × Int × ByteArray × Int)
  | 0, _, _ => none
  | k + 1, x0, x4 => if x4 ≤ 23 then ((threshingref14_Name.f x4).bind fun t231 => (if (x0.size : Int) < (t231.size : Int) then (threshingref14_Parse.j1 k x0 x4 (t231.size : Int) true x4 0 (⟨#[]⟩ : ByteArray)) else (if 0 ≤ (t231.size : Int) then (if (t231.size : Int) ≤ (x0.size : Int) then ((threshingref14_Name.f x4).bind fun t232 => (threshingref14_Parse.j1 k x0 x4 (t231.size : Int) ((x0.extract 0 ((t231.size : Int) : Int).toNat).toList != t232.toList) x4 0 (⟨#[]⟩ : ByteArray))) else (none)) else (none)))) else (some (0, 0, (⟨#[]⟩ : ByteArray), 3))
def threshingref14_Parse.j1 : Nat → ByteArray → Int → Int → Bool → Int → Int → ByteArray → Option (Int × Int × ByteArray × Int)
  | 0, _, _, _, _, _, _, _ => none
  | k + 1, x0, x4, x6, x29, x231000, x231001, x231002 => if x29 = true then (threshingref14_Parse.l0 k x0 (wrap64 (x4 + 1))) else (if (x0.size : Int) > (wrap64 (x6 + 1)) then (threshingref14_Parse.j2 k x0 x4 x6 (x4 == 1) x231000 x231001 x231002) else (threshingref14_Parse.j2 k x0 x4 x6 false x231000 x231001 x231002))
def threshingref14_Parse.j2 : Nat → ByteArray → Int → Int → Bool → Int → Int → ByteArray → Option (Int × Int × ByteArray × Int)
  | 0, _, _, _, _, _, _, _ => none
  | k + 1, x0, x4, x6, x38, x231000, x231001, x231002 => if x38 = true then (if 0 ≤ (wrap64 (x6 + 1)) then (if (wrap64 (x6 + 1)) ≤ (x0.size : Int) then ((threshingref14_unquoted.f k (x0.extract ((wrap64 (x6 + 1)) : Int).toNat x0.size)).bind fun t233 => (threshingref14_Parse.j3 k x0 x4 x6 x231000 x231001 t233)) else (none)) else (none)) else (threshingref14_Parse.j3 k x0 x4 x6 x231000 x231001 x231002)
def threshingref14_Parse.j3 : Nat → ByteArray → Int → Int → Int → Int → ByteArray → Option (Int × Int × ByteArray × Int)
  | 0, _, _, _, _, _, _ => none
  | k + 1, x0, x4, x6, x231000, x231001, x231002 => if (x0.size : Int) > (wrap64 (x6 + 1)) then (if x4 = 0 then (threshingref14_Parse.j4 k x0 x4 x6 true x231000 x231001 x231002) else (threshingref14_Parse.j4 k x0 x4 x6 (x4 == 2) x231000 x231001 x231002)) else (threshingref14_Parse.j4 k x0 x4 x6 false x231000 x231001 x231002)
def threshingref14_Parse.j4 : Nat → ByteArray → Int → Int → Bool → Int → Int → ByteArray → Option (Int × Int × ByteArray × Int)
  | 0, _, _, _, _, _, _, _ => none
  | k + 1, x0, x4, x6, x57, x231000, x231001, x231002 => if x57 = true then (if 0 ≤ (wrap64 (x6 + 1)) then (if (wrap64 (x6 + 1)) ≤ (x0.size : Int) then ((threshingref14_number.f k (x0.extract ((wrap64 (x6 + 1)) : Int).toNat x0.size)).bind fun t234 => ((threshingref14_Line.f k x231000 t234 x231002).bind fun bt235 => (if bt235.2 = 0 then (if bt235.1.toList = x0.toList then (some (x231000, t234, x231002, 0)) else (threshingref14_Parse.l0 k x0 (wrap64 (x4 + 1)))) else (threshingref14_Parse.l0 k x0 (wrap64 (x4 + 1)))))) else (none)) else (none)) else ((threshingref14_Line.f k x231000 x231001 x231002).bind fun bt237 => (if bt237.2 = 0 then (if bt237.1.toList = x0.toList then (some (x231000, x231001, x231002, 0)) else (threshingref14_Parse.l0 k x0 (wrap64 (x4 + 1)))) else (threshingref14_Parse.l0 k x0 (wrap64 (x4 + 1)))))
end
def threshingref14_Parse.f (k : Nat) (a0 : ByteArray) : Option (Int × Int × ByteArray × Int) := threshingref14_Parse.l0 k a0 0
theorem threshingref14_Parse.mono_l : ∀ k, (∀ y0 y1, LeO (threshingref14_Parse.l0 k y0 y1) (threshingref14_Parse.l0 (k + 1) y0 y1)) ∧ (∀ y0 y1 y2 y3 y4 y5 y6, LeO (threshingref14_Parse.j1 k y0 y1 y2 y3 y4 y5 y6) (threshingref14_Parse.j1 (k + 1) y0 y1 y2 y3 y4 y5 y6)) ∧ (∀ y0 y1 y2 y3 y4 y5 y6, LeO (threshingref14_Parse.j2 k y0 y1 y2 y3 y4 y5 y6) (threshingref14_Parse.j2 (k + 1) y0 y1 y2 y3 y4 y5 y6)) ∧ (∀ y0 y1 y2 y3 y4 y5, LeO (threshingref14_Parse.j3 k y0 y1 y2 y3 y4 y5) (threshingref14_Parse.j3 (k + 1) y0 y1 y2 y3 y4 y5)) ∧ (∀ y0 y1 y2 y3 y4 y5 y6, LeO (threshingref14_Parse.j4 k y0 y1 y2 y3 y4 y5 y6) (threshingref14_Parse.j4 (k + 1) y0 y1 y2 y3 y4 y5 y6))
  | 0 => ⟨fun _ _ r h => by simp [threshingref14_Parse.l0] at h, fun _ _ _ _ _ _ _ r h => by simp [threshingref14_Parse.j1] at h, fun _ _ _ _ _ _ _ r h => by simp [threshingref14_Parse.j2] at h, fun _ _ _ _ _ _ r h => by simp [threshingref14_Parse.j3] at h, fun _ _ _ _ _ _ _ r h => by simp [threshingref14_Parse.j4] at h⟩
  | k + 1 => by
    obtain ⟨ih0, ih1, ih2, ih3, ih4⟩ := threshingref14_Parse.mono_l k
    refine ⟨?_, ?_, ?_, ?_, ?_⟩
    · intro y0 y1
      unfold threshingref14_Parse.l0
      repeat' first
      | (with_reducible exact ih0 _ _)
      | (with_reducible exact ih1 _ _ _ _ _ _ _)
      | (with_reducible exact ih2 _ _ _ _ _ _ _)
      | (with_reducible exact ih3 _ _ _ _ _ _)
      | (with_reducible exact ih4 _ _ _ _ _ _ _)
      | (with_reducible exact threshingref14_Line.mono _ _ _ _)
      | (with_reducible exact threshingref14_number.mono _ _)
      | (with_reducible exact threshingref14_unquoted.mono _ _)
      | (with_reducible exact LeO.refl _)
      | (with_reducible exact LeO.none _)
      | (with_reducible refine LeO.ite ?_ ?_)
      | (with_reducible refine LeO.bind ?_ (fun _ => ?_))
      | exact ih0 _ _
      | exact ih1 _ _ _ _ _ _ _
      | exact ih2 _ _ _ _ _ _ _
      | exact ih3 _ _ _ _ _ _
      | exact ih4 _ _ _ _ _ _ _
      | exact threshingref14_Line.mono _ _ _ _
      | exact threshingref14_number.mono _ _
      | exact threshingref14_unquoted.mono _ _
      | exact LeO.none _
      | refine LeO.ite ?_ ?_
      | refine LeO.bind ?_ (fun _ => ?_)
    · intro y0 y1 y2 y3 y4 y5 y6
      unfold threshingref14_Parse.j1
      repeat' first
      | (with_reducible exact ih0 _ _)
      | (with_reducible exact ih1 _ _ _ _ _ _ _)
      | (with_reducible exact ih2 _ _ _ _ _ _ _)
      | (with_reducible exact ih3 _ _ _ _ _ _)
      | (with_reducible exact ih4 _ _ _ _ _ _ _)
      | (with_reducible exact threshingref14_Line.mono _ _ _ _)
      | (with_reducible exact threshingref14_number.mono _ _)
      | (with_reducible exact threshingref14_unquoted.mono _ _)
      | (with_reducible exact LeO.refl _)
      | (with_reducible exact LeO.none _)
      | (with_reducible refine LeO.ite ?_ ?_)
      | (with_reducible refine LeO.bind ?_ (fun _ => ?_))
      | exact ih0 _ _
      | exact ih1 _ _ _ _ _ _ _
      | exact ih2 _ _ _ _ _ _ _
      | exact ih3 _ _ _ _ _ _
      | exact ih4 _ _ _ _ _ _ _
      | exact threshingref14_Line.mono _ _ _ _
      | exact threshingref14_number.mono _ _
      | exact threshingref14_unquoted.mono _ _
      | exact LeO.none _
      | refine LeO.ite ?_ ?_
      | refine LeO.bind ?_ (fun _ => ?_)
    · intro y0 y1 y2 y3 y4 y5 y6
      unfold threshingref14_Parse.j2
      repeat' first
      | (with_reducible exact ih0 _ _)
      | (with_reducible exact ih1 _ _ _ _ _ _ _)
      | (with_reducible exact ih2 _ _ _ _ _ _ _)
      | (with_reducible exact ih3 _ _ _ _ _ _)
      | (with_reducible exact ih4 _ _ _ _ _ _ _)
      | (with_reducible exact threshingref14_Line.mono _ _ _ _)
      | (with_reducible exact threshingref14_number.mono _ _)
      | (with_reducible exact threshingref14_unquoted.mono _ _)
      | (with_reducible exact LeO.refl _)
      | (with_reducible exact LeO.none _)
      | (with_reducible refine LeO.ite ?_ ?_)
      | (with_reducible refine LeO.bind ?_ (fun _ => ?_))
      | exact ih0 _ _
      | exact ih1 _ _ _ _ _ _ _
      | exact ih2 _ _ _ _ _ _ _
      | exact ih3 _ _ _ _ _ _
      | exact ih4 _ _ _ _ _ _ _
      | exact threshingref14_Line.mono _ _ _ _
      | exact threshingref14_number.mono _ _
      | exact threshingref14_unquoted.mono _ _
      | exact LeO.none _
      | refine LeO.ite ?_ ?_
      | refine LeO.bind ?_ (fun _ => ?_)
    · intro y0 y1 y2 y3 y4 y5
      unfold threshingref14_Parse.j3
      repeat' first
      | (with_reducible exact ih0 _ _)
      | (with_reducible exact ih1 _ _ _ _ _ _ _)
      | (with_reducible exact ih2 _ _ _ _ _ _ _)
      | (with_reducible exact ih3 _ _ _ _ _ _)
      | (with_reducible exact ih4 _ _ _ _ _ _ _)
      | (with_reducible exact threshingref14_Line.mono _ _ _ _)
      | (with_reducible exact threshingref14_number.mono _ _)
      | (with_reducible exact threshingref14_unquoted.mono _ _)
      | (with_reducible exact LeO.refl _)
      | (with_reducible exact LeO.none _)
      | (with_reducible refine LeO.ite ?_ ?_)
      | (with_reducible refine LeO.bind ?_ (fun _ => ?_))
      | exact ih0 _ _
      | exact ih1 _ _ _ _ _ _ _
      | exact ih2 _ _ _ _ _ _ _
      | exact ih3 _ _ _ _ _ _
      | exact ih4 _ _ _ _ _ _ _
      | exact threshingref14_Line.mono _ _ _ _
      | exact threshingref14_number.mono _ _
      | exact threshingref14_unquoted.mono _ _
      | exact LeO.none _
      | refine LeO.ite ?_ ?_
      | refine LeO.bind ?_ (fun _ => ?_)
    · intro y0 y1 y2 y3 y4 y5 y6
      unfold threshingref14_Parse.j4
      repeat' first
      | (with_reducible exact ih0 _ _)
      | (with_reducible exact ih1 _ _ _ _ _ _ _)
      | (with_reducible exact ih2 _ _ _ _ _ _ _)
      | (with_reducible exact ih3 _ _ _ _ _ _)
      | (with_reducible exact ih4 _ _ _ _ _ _ _)
      | (with_reducible exact threshingref14_Line.mono _ _ _ _)
      | (with_reducible exact threshingref14_number.mono _ _)
      | (with_reducible exact threshingref14_unquoted.mono _ _)
      | (with_reducible exact LeO.refl _)
      | (with_reducible exact LeO.none _)
      | (with_reducible refine LeO.ite ?_ ?_)
      | (with_reducible refine LeO.bind ?_ (fun _ => ?_))
      | exact ih0 _ _
      | exact ih1 _ _ _ _ _ _ _
      | exact ih2 _ _ _ _ _ _ _
      | exact ih3 _ _ _ _ _ _
      | exact ih4 _ _ _ _ _ _ _
      | exact threshingref14_Line.mono _ _ _ _
      | exact threshingref14_number.mono _ _
      | exact threshingref14_unquoted.mono _ _
      | exact LeO.none _
      | refine LeO.ite ?_ ?_
      | refine LeO.bind ?_ (fun _ => ?_)
theorem threshingref14_Parse.mono : ∀ a0 k, LeO (threshingref14_Parse.f k a0) (threshingref14_Parse.f (k + 1) a0) := by
  intro a0 k
  obtain ⟨ih0, ih1, ih2, ih3, ih4⟩ := threshingref14_Parse.mono_l k
  unfold threshingref14_Parse.f
  repeat' first
      | (with_reducible exact ih0 _ _)
      | (with_reducible exact ih1 _ _ _ _ _ _ _)
      | (with_reducible exact ih2 _ _ _ _ _ _ _)
      | (with_reducible exact ih3 _ _ _ _ _ _)
      | (with_reducible exact ih4 _ _ _ _ _ _ _)
      | (with_reducible exact threshingref14_Line.mono _ _ _ _)
      | (with_reducible exact threshingref14_number.mono _ _)
      | (with_reducible exact threshingref14_unquoted.mono _ _)
      | (with_reducible exact LeO.refl _)
      | (with_reducible exact LeO.none _)
      | (with_reducible refine LeO.ite ?_ ?_)
      | (with_reducible refine LeO.bind ?_ (fun _ => ?_))
      | exact ih0 _ _
      | exact ih1 _ _ _ _ _ _ _
      | exact ih2 _ _ _ _ _ _ _
      | exact ih3 _ _ _ _ _ _
      | exact ih4 _ _ _ _ _ _ _
      | exact threshingref14_Line.mono _ _ _ _
      | exact threshingref14_number.mono _ _
      | exact threshingref14_unquoted.mono _ _
      | exact LeO.none _
      | refine LeO.ite ?_ ?_
      | refine LeO.bind ?_ (fun _ => ?_)
def threshingref14_Parse.T6 : Bool × List (List Nat × List Nat) := (true, [([], []), ([0], [0]), ([], []), ([1, 2], [1, 2]), ([3], [3]), ([4], [4]), ([4], [4]), ([5, 6, 4], [4, 5, 6]), ([4], [4]), ([8, 4, 4], [4, 8]), ([7, 9, 4], [4, 7, 9]), ([4, 10], [4, 10])])
def threshingref14_Parse.B6 : List Nat := [0, 1, 0, 7, 15, 31, 31, 127, 31, 287, 1023, 2047]
theorem threshingref14_Parse.tab6 : rtab .any (opsOf Tryz.f16 6) = threshingref14_Parse.T6 := by kernel_rfl
theorem threshingref14_Parse.bits6 : waitsOk threshingref14_Parse.T6.2 threshingref14_Parse.B6 = true := by kernel_rfl
set_option maxHeartbeats 8000000 in
set_option maxRecDepth 100000 in
theorem threshingref14_Parse.calls (k : Nat) (a0 : ByteArray) (r1 : Int) (r2 : Int) (r3 : ByteArray) (r4 : Int) (w : World) (h : threshingref14_Parse.f k a0 = some (r1, r2, r3, r4)) :
    Calls Tryz.prog 16 #[.string a0] w fun e w' => e = .returned (.tuple #[.agg #[.int .i64 r1, .int .i64 r2, .string r3], .int .i64 r4]) ∧ Below w.heap.size w w' := by
  have hu23 := Tryz.underlying23
  have HB := Aside0.mk (Below.refl w.heap.size w)
  have H : (threshingref14_Parse.l0 k a0 0) = some (r1, r2, r3, r4) := h
  clear h
  have H' := Aside0.mk H
  clear H
  go_enter Tryz.func16, Tryz.ntmps16
  go_wp2_with (first | ((with_reducible refine gate_dst (N := 2) rfl ?_); refine box_event ?hg (N := 2) ?hd (cs := #[.int .i64 0, .int .i64 0, .string (⟨#[]⟩ : ByteArray)]) (t := 23) ?hr ?_; (case hd => rfl); (case hg => rfl); (case hr => first | (go_simp; done) | (go_simp; rfl)); intro gb229 hg w2 hbox hb; have n0_ := Aside0.mk (below_step (by repeat (first | (with_reducible first | exact HB.out | apply below_alloc | apply pw_below_drewN | apply below_drew1) | exact HB.out)) hb); have n1_ := Aside0.mk (hbox); have n2_ := Aside0.mk ((by rw [hg]; exact (below_size (by repeat (first | (with_reducible first | exact HB.out | apply below_alloc | apply pw_below_drewN | apply below_drew1) | exact HB.out))) : w.heap.size ≤ gb229)); have n3_ := Aside0.mk ((by rw [hg]; exact (below_size (by repeat (first | (with_reducible first | exact HB.out | apply below_alloc | apply pw_below_drewN | apply below_drew1) | exact HB.out))) : w.heap.size ≤ gb229)); clear HB; have HB := n0_; have BK229 := n1_; have GW229 := n2_; have GE229 := n3_; clear n0_ n1_ n2_ n3_; clear hb hbox hg))
  go_loopg [4] k (fun kq v4 w' => ∃ (x4_1 : Int) (x230000_1 : Int) (x230001_1 : Int) (x230002_1 : ByteArray), v4 = .int .i64 x4_1 ∧ Aside0 (threshingref14_Parse.l0 kq a0 x4_1 = some (r1, r2, r3, r4)) ∧ Aside0 (kq ≤ k) ∧ Aside0 (w'.heap[gb229]? = some (.cells #[.int .i64 x230000_1, .int .i64 x230001_1, .string x230002_1] 23 (0, 0))) ∧ Aside0 (Below w.heap.size w w'))
  case atStart => exact ⟨(0), (0), (0), ((⟨#[]⟩ : ByteArray)), (by first | rfl | (simp; done) | (simp [*]; done)), H', ⟨Nat.le_refl _⟩, ⟨by (with_reducible repeat (first | refine blk_drewN ?_ _ | refine blk_drew ?_ | refine blk_alloc ?_ _)); exact BK229.out⟩, ⟨by repeat (first | (with_reducible first | exact HB.out | apply below_alloc | apply pw_below_drewN | apply below_drew1 | refine below_set ?_ GE229.out) | exact HB.out)⟩⟩
  case round =>
    clear H'
    try clear c1
    try clear p2
    obtain ⟨x4_1, x230000_1, x230001_1, x230002_1, rfl, HA, HK1, BK229, HB⟩ := hrel
    cases gk with
    | zero => exact absurd HA.out (by simp [threshingref14_Parse.l0])
    | succ k1 =>
      have H := HA.out
      clear HA
      simp only [threshingref14_Parse.l0] at H
      by_cases c3 : x4_1 ≤ 23
      · rw [if_pos c3] at H
        have c3b0 : decide (x4_1 ≤ 23) = true := decide_eq_true c3
        clear c3
        replace H := Option.bind_eq_some_iff.mp H
        obtain ⟨t231, A40, H⟩ := H
        replace H : (if (a0.size : Int) < (t231.size : Int) then (threshingref14_Parse.j1 k1 a0 x4_1 (t231.size : Int) true x4_1 0 (⟨#[]⟩ : ByteArray)) else (if 0 ≤ (t231.size : Int) then (if (t231.size : Int) ≤ (a0.size : Int) then ((threshingref14_Name.f x4_1).bind fun t232 => (threshingref14_Parse.j1 k1 a0 x4_1 (t231.size : Int) ((a0.extract 0 ((t231.size : Int) : Int).toNat).toList != t232.toList) x4_1 0 (⟨#[]⟩ : ByteArray))) else (none)) else (none))) = some (r1, r2, r3, r4) := H
        have A4 := Aside0.mk A40
        clear A40
        have HC5 := Aside0.mk H
        clear H
        go_upto_region 6 with (first | ((with_reducible refine gate_dst (N := 5) rfl ?_); refine box_event ?hg (N := 5) ?hd (cs := #[.int .i64 0, .int .i64 0, .string (⟨#[]⟩ : ByteArray)]) (t := 23) ?hr ?_; (case hd => rfl); (case hg => rfl); (case hr => first | (go_simp; done) | (go_simp; rfl)); intro gb230 hg w6 hbox hb; have n0_ := Aside0.mk (blk_below (g := gb229) (o := .cells #[.int .i64 x230000_1, .int .i64 x230001_1, .string x230002_1] 23 (0, 0)) (by (with_reducible repeat (first | refine blk_drewN ?_ _ | refine blk_drew ?_ | refine blk_alloc ?_ _)); exact BK229.out) hb); have n1_ := Aside0.mk (below_step (by repeat (first | (with_reducible first | exact HB.out | apply below_alloc | apply pw_below_drewN | apply below_drew1 | refine below_set ?_ GE229.out) | exact HB.out)) hb); have n2_ := Aside0.mk (hbox); have n3_ := Aside0.mk ((by rw [hg]; exact (below_size (by repeat (first | (with_reducible first | exact HB.out | apply below_alloc | apply pw_below_drewN | apply below_drew1 | refine below_set ?_ GE229.out) | exact HB.out))) : w.heap.size ≤ gb230)); have n4_ := Aside0.mk ((by rw [hg]; exact (below_size (by repeat (first | (with_reducible first | exact HB.out | apply below_alloc | apply pw_below_drewN | apply below_drew1 | refine below_set ?_ GE229.out) | exact HB.out))) : w.heap.size ≤ gb230)); have n5_ := Aside0.mk ((by rw [hg]; exact Nat.ne_of_lt (blk_lt (g := gb229) (o := .cells #[.int .i64 x230000_1, .int .i64 x230001_1, .string x230002_1] 23 (0, 0)) (by (with_reducible repeat (first | refine blk_drewN ?_ _ | refine blk_drew ?_ | refine blk_alloc ?_ _)); exact BK229.out)) : gb229 ≠ gb230)); have n6_ := Aside0.mk ((by rw [hg]; exact Nat.ne_of_gt (blk_lt (g := gb229) (o := .cells #[.int .i64 x230000_1, .int .i64 x230001_1, .string x230002_1] 23 (0, 0)) (by (with_reducible repeat (first | refine blk_drewN ?_ _ | refine blk_drew ?_ | refine blk_alloc ?_ _)); exact BK229.out)) : gb230 ≠ gb229)); clear BK229; clear HB; have BK229 := n0_; have HB := n1_; have BK230 := n2_; have GW230 := n3_; have GE230 := n4_; have NB229_230 := n5_; have NB230_229 := n6_; clear n0_ n1_ n2_ n3_ n4_ n5_ n6_; clear hb hbox hg; have hnb7 := NB230_229.out; have hnc7 := NB229_230.out; have hcz8_0 : w6.cell? ⟨gb230, 0, none⟩ = some (.int .i64 0) := (blk_cell BK230.out 0).trans rfl; have hcz8_1 : w6.cell? ⟨gb230, 1, none⟩ = some (.int .i64 0) := (blk_cell BK230.out 1).trans rfl; have hcz8_2 : w6.cell? ⟨gb230, 2, none⟩ = some (.string (⟨#[]⟩ : ByteArray)) := (blk_cell BK230.out 2).trans rfl; have hfz8_0 := blk_frozen BK230.out 0; have hfz8_1 := blk_frozen BK230.out 1; have hfz8_2 := blk_frozen BK230.out 2) | ((with_reducible refine gate_callee (f := 20) rfl ?_); refine goesL_ (some 16) rfl rfl Tryz.func20 (by kernel_rfl) rfl #[.int .i64 x4_1] rfl (by (try simp only [List.map_toArray, List.map_cons, List.map_nil]); first | done | rfl | (simp only [List.length_drop, List.length_take]; rfl)) ?_; (with_reducible refine (threshingref14_Name.calls x4_1 t231 _ A4.out).mono ?_); rintro e w9 ⟨rfl, hb⟩; refine ⟨_, rfl, ?_⟩; have n0_ := Aside0.mk (blk_below (g := gb229) (o := .cells #[.int .i64 x230000_1, .int .i64 x230001_1, .string x230002_1] 23 (0, 0)) (by (with_reducible repeat (first | refine blk_drewN ?_ _ | refine blk_drew ?_ | refine blk_alloc ?_ _)); refine blk_far ?_ NB229_230.out _; (with_reducible repeat (first | refine blk_drewN ?_ _ | refine blk_drew ?_ | refine blk_alloc ?_ _)); refine blk_far ?_ NB229_230.out _; (with_reducible repeat (first | refine blk_drewN ?_ _ | refine blk_drew ?_ | refine blk_alloc ?_ _)); refine blk_far ?_ NB229_230.out _; (with_reducible repeat (first | refine blk_drewN ?_ _ | refine blk_drew ?_ | refine blk_alloc ?_ _)); exact BK229.out) hb); have n1_ := Aside0.mk (blk_below (g := gb230) (o := .cells #[.int .i64 x4_1, .int .i64 0, .string (⟨#[]⟩ : ByteArray)] 23 (0, 0)) (by (with_reducible repeat (first | refine blk_drewN ?_ _ | refine blk_drew ?_ | refine blk_alloc ?_ _)); refine blk_put (cs := #[.int .i64 x4_1, .int .i64 0, .string (⟨#[]⟩ : ByteArray)]) ?_ 2 _ rfl; (with_reducible repeat (first | refine blk_drewN ?_ _ | refine blk_drew ?_ | refine blk_alloc ?_ _)); refine blk_put (cs := #[.int .i64 x4_1, .int .i64 0, .string (⟨#[]⟩ : ByteArray)]) ?_ 1 _ rfl; (with_reducible repeat (first | refine blk_drewN ?_ _ | refine blk_drew ?_ | refine blk_alloc ?_ _)); refine blk_put (cs := #[.int .i64 0, .int .i64 0, .string (⟨#[]⟩ : ByteArray)]) ?_ 0 _ rfl; (with_reducible repeat (first | refine blk_drewN ?_ _ | refine blk_drew ?_ | refine blk_alloc ?_ _)); exact BK230.out) hb); have n2_ := Aside0.mk (below_step (by repeat (first | (with_reducible first | exact HB.out | apply below_alloc | apply pw_below_drewN | apply below_drew1 | refine below_set ?_ GE229.out | refine below_set ?_ GE230.out) | exact HB.out)) hb); clear BK229; clear BK230; clear HB; have BK229 := n0_; have BK230 := n1_; have HB := n2_; clear n0_ n1_ n2_; (try clear hb); (try clear hb2); (try clear hk); (try clear hi)))
        (try simp only [Act.put, List.setIfInBounds_toArray, List.set_cons_zero, List.set_cons_succ])
        go_cut [29] (fun v29 wc => ∃ (kq : Nat) (x29_4 : Bool), v29 = .bool x29_4 ∧ Aside0 (threshingref14_Parse.j1 kq a0 x4_1 (t231.size : Int) x29_4 x4_1 0 (⟨#[]⟩ : ByteArray) = some (r1, r2, r3, r4)) ∧ Aside0 (kq ≤ k1) ∧ Aside0 (wc.heap[gb229]? = some (.cells #[.int .i64 x230000_1, .int .i64 x230001_1, .string x230002_1] 23 (0, 0))) ∧ Aside0 (wc.heap[gb230]? = some (.cells #[.int .i64 x4_1, .int .i64 0, .string (⟨#[]⟩ : ByteArray)] 23 (0, 0))) ∧ Aside0 (Below w.heap.size w wc))
        case first =>
          have H := HC5.out
          clear HC5
          by_cases c10 : (a0.size : Int) < (t231.size : Int)
          · rw [if_pos c10] at H
            have c10b0 : decide ((a0.size : Int) < (t231.size : Int)) = true := decide_eq_true c10
            have c10b1 : decide (a0.size < t231.size) = true := decide_eq_true (Int.ofNat_lt.mp c10)
            clear c10
            (first | rw [c10b0] | (simp only [i64_w, i32_w]; rw [c10b0]) | skip)
            have H' := Aside0.mk H
            clear H
            try go_wp2
            have n0_ := Aside0.mk (blk_drew BK229.out)
            have n1_ := Aside0.mk (blk_drew BK230.out)
            have n2_ := Aside0.mk (below_drew1 HB.out)
            clear BK229
            clear BK230
            clear HB
            have BK229 := n0_
            have BK230 := n1_
            have HB := n2_
            clear n0_ n1_ n2_
            refine start_ (n := 12) (S := fun w' => True) (ds := []) #[false, false, false, false, false, false, false, false, false, false, false, false] (by kernel_rfl) rfl rfl trivial (fun hHeld => ?_); refine with_tabW threshingref14_Parse.tab6 threshingref14_Parse.bits6 (fun HT_ HW_ => ?_)
            generalize w9.drew = w11 at BK229 BK230 HB hHeld ⊢
            refine pure_ (i := 0) (N := some 18) (v := ?_) (a' := ?_) #[true, false, false, false, false, false, false, false, false, false, false, false] rfl rfl (any_of HT_.out (by kernel_rfl)) (fun _ _ _ h => h) (Or.inl ⟨by rfl, ?_⟩) ?_ ?_
            rotate_left
            · intro w'
              go_simp
              with_reducible rfl
            rotate_left
            · simp only [Act.put, List.setIfInBounds_toArray, List.set_cons_zero, List.set_cons_succ, i64_w, i32_w]
              rfl
            refine pure_ (i := 1) (N := some 19) (v := ?_) (a' := ?_) #[true, true, false, false, false, false, false, false, false, false, false, false] rfl rfl (any_of HT_.out (by kernel_rfl)) (fun _ _ _ h => h) (Or.inl ⟨by rfl, ?_⟩) ?_ ?_
            rotate_left
            · intro w'
              go_simp
              with_reducible rfl
            rotate_left
            · simp only [Act.put, List.setIfInBounds_toArray, List.set_cons_zero, List.set_cons_succ, i64_w, i32_w]
              rfl
            refine pure_ (i := 2) (N := some 20) (v := ?_) (a' := ?_) #[true, true, true, false, false, false, false, false, false, false, false, false] rfl rfl (any_of HT_.out (by kernel_rfl)) (fun _ _ _ h => h) (Or.inl ⟨by rfl, ?_⟩) ?_ ?_
            rotate_left
            · intro w'
              go_simp
              with_reducible rfl
            rotate_left
            · simp only [Act.put, List.setIfInBounds_toArray, List.set_cons_zero, List.set_cons_succ, i64_w, i32_w]
              rfl
            refine pure_ (i := 3) (N := some 21) (v := ?_) (a' := ?_) #[true, true, true, true, false, false, false, false, false, false, false, false] rfl rfl (any_of HT_.out (by kernel_rfl)) (fun _ _ _ h => h) (Or.inl ⟨by rfl, ?_⟩) ?_ ?_
            rotate_left
            · intro w'
              go_simp
              with_reducible rfl
            rotate_left
            · simp only [Act.put, List.setIfInBounds_toArray, List.set_cons_zero, List.set_cons_succ, i64_w, i32_w]
              rfl
            refine pure_ (i := 4) (N := some 22) (v := ?_) (a' := ?_) #[true, true, true, true, true, false, false, false, false, false, false, false] rfl rfl (any_of HT_.out (by kernel_rfl)) (fun _ _ _ h => h) (Or.inl ⟨by rfl, ?_⟩) ?_ ?_
            rotate_left
            · intro w'
              go_simp
              with_reducible rfl
            rotate_left
            · simp only [Act.put, List.setIfInBounds_toArray, List.set_cons_zero, List.set_cons_succ, i64_w, i32_w]
              rfl
            refine pure_ (i := 5) (N := some 23) (v := undef) (a' := ?_) #[true, true, true, true, true, true, false, false, false, false, false, false] rfl rfl (any_of HT_.out (by kernel_rfl)) (fun _ _ _ h => h) (Or.inr ⟨by rfl, rfl⟩) ?_ ?_
            rotate_left
            · simp only [Act.put, List.setIfInBounds_toArray, List.set_cons_zero, List.set_cons_succ, i64_w, i32_w]
              rfl
            refine pure_ (i := 6) (N := some 24) (v := undef) (a' := ?_) #[true, true, true, true, true, true, true, false, false, false, false, false] rfl rfl (any_of HT_.out (by kernel_rfl)) (fun _ _ _ h => h) (Or.inr ⟨by rfl, rfl⟩) ?_ ?_
            rotate_left
            · simp only [Act.put, List.setIfInBounds_toArray, List.set_cons_zero, List.set_cons_succ, i64_w, i32_w]
              rfl
            refine pure_ (i := 7) (N := some 25) (v := undef) (a' := ?_) #[true, true, true, true, true, true, true, true, false, false, false, false] rfl rfl (any_of HT_.out (by kernel_rfl)) (fun _ _ _ h => h) (Or.inr ⟨by rfl, rfl⟩) ?_ ?_
            rotate_left
            · simp only [Act.put, List.setIfInBounds_toArray, List.set_cons_zero, List.set_cons_succ, i64_w, i32_w]
              rfl
            refine pure_ (i := 8) (N := some 26) (v := undef) (a' := ?_) #[true, true, true, true, true, true, true, true, true, false, false, false] rfl rfl (any_of HT_.out (by kernel_rfl)) (fun _ _ _ h => h) (Or.inr ⟨by rfl, rfl⟩) ?_ ?_
            rotate_left
            · simp only [Act.put, List.setIfInBounds_toArray, List.set_cons_zero, List.set_cons_succ, i64_w, i32_w]
              rfl
            refine pure_ (i := 9) (N := some 27) (v := undef) (a' := ?_) #[true, true, true, true, true, true, true, true, true, true, false, false] rfl rfl (any_of HT_.out (by kernel_rfl)) (fun _ _ _ h => h) (Or.inr ⟨by rfl, rfl⟩) ?_ ?_
            rotate_left
            · simp only [Act.put, List.setIfInBounds_toArray, List.set_cons_zero, List.set_cons_succ, i64_w, i32_w]
              rfl
            refine pure_ (i := 10) (N := some 28) (v := undef) (a' := ?_) #[true, true, true, true, true, true, true, true, true, true, true, false] rfl rfl (any_of HT_.out (by kernel_rfl)) (fun _ _ _ h => h) (Or.inr ⟨by rfl, rfl⟩) ?_ ?_
            rotate_left
            · simp only [Act.put, List.setIfInBounds_toArray, List.set_cons_zero, List.set_cons_succ, i64_w, i32_w]
              rfl
            refine pure_ (i := 11) (N := some 29) (v := ?_) (a' := ?_) #[true, true, true, true, true, true, true, true, true, true, true, true] rfl rfl (any_of HT_.out (by kernel_rfl)) (fun _ _ _ h => h) (Or.inl ⟨by rfl, ?_⟩) ?_ ?_
            rotate_left
            · intro w'
              go_simp
              with_reducible rfl
            rotate_left
            · simp only [Act.put, List.setIfInBounds_toArray, List.set_cons_zero, List.set_cons_succ, i64_w, i32_w]
              rfl
            refine done_ (done_of HT_.out (by kernel_rfl)) ?_
            try go_wp2
            go_meet
            case rel => exact ⟨_, (true), (by first | rfl | (simp; done) | (simp [*]; done)), H', ⟨by have := HK1.out; first | omega | exact Nat.le_refl _⟩, ⟨by (with_reducible repeat (first | refine blk_drewN ?_ _ | refine blk_drew ?_ | refine blk_alloc ?_ _)); exact BK229.out⟩, ⟨by (with_reducible repeat (first | refine blk_drewN ?_ _ | refine blk_drew ?_ | refine blk_alloc ?_ _)); exact BK230.out⟩, ⟨by repeat (first | (with_reducible first | exact HB.out | apply below_alloc | apply pw_below_drewN | apply below_drew1 | refine below_set ?_ GE229.out | refine below_set ?_ GE230.out) | exact HB.out)⟩⟩
          · rw [if_neg c10] at H
            have c10b0 : decide ((a0.size : Int) < (t231.size : Int)) = false := decide_eq_false c10
            have c10b1 : decide (a0.size < t231.size) = false := decide_eq_false (fun h => c10 (Int.ofNat_lt.mpr h))
            clear c10
            (first | rw [c10b0] | (simp only [i64_w, i32_w]; rw [c10b0]) | skip)
            by_cases c12 : 0 ≤ (t231.size : Int)
            · rw [if_pos c12] at H
              have c12b0 := eq_true c12
              have c12b1 : decide (0 ≤ (t231.size : Int)) = true := decide_eq_true c12
              clear c12
              by_cases c13 : (t231.size : Int) ≤ (a0.size : Int)
              · rw [if_pos c13] at H
                have c13b0 := eq_true c13
                have c13b1 : decide ((t231.size : Int) ≤ (a0.size : Int)) = true := decide_eq_true c13
                clear c13
                replace H := Option.bind_eq_some_iff.mp H
                obtain ⟨t232, A140, H⟩ := H
                replace H : (threshingref14_Parse.j1 k1 a0 x4_1 (t231.size : Int) ((a0.extract 0 ((t231.size : Int) : Int).toNat).toList != t232.toList) x4_1 0 (⟨#[]⟩ : ByteArray)) = some (r1, r2, r3, r4) := H
                have A14 := Aside0.mk A140
                clear A140
                have H' := Aside0.mk H
                clear H
                try go_wp2
                have n0_ := Aside0.mk (blk_drew BK229.out)
                have n1_ := Aside0.mk (blk_drew BK230.out)
                have n2_ := Aside0.mk (below_drew1 HB.out)
                clear BK229
                clear BK230
                clear HB
                have BK229 := n0_
                have BK230 := n1_
                have HB := n2_
                clear n0_ n1_ n2_
                refine start_ (n := 12) (S := fun w' => True) (ds := []) #[false, false, false, false, false, false, false, false, false, false, false, false] (by kernel_rfl) rfl rfl trivial (fun hHeld => ?_); refine with_tabW threshingref14_Parse.tab6 threshingref14_Parse.bits6 (fun HT_ HW_ => ?_)
                generalize w9.drew = w15 at BK229 BK230 HB hHeld ⊢
                refine pure_ (i := 0) (N := some 18) (v := ?_) (a' := ?_) #[true, false, false, false, false, false, false, false, false, false, false, false] rfl rfl (any_of HT_.out (by kernel_rfl)) (fun _ _ _ h => h) (Or.inl ⟨by rfl, ?_⟩) ?_ ?_
                rotate_left
                · intro w'
                  go_simp
                  with_reducible rfl
                rotate_left
                · simp only [Act.put, List.setIfInBounds_toArray, List.set_cons_zero, List.set_cons_succ, i64_w, i32_w]
                  rfl
                refine pure_ (i := 1) (N := some 19) (v := ?_) (a' := ?_) #[true, true, false, false, false, false, false, false, false, false, false, false] rfl rfl (any_of HT_.out (by kernel_rfl)) (fun _ _ _ h => h) (Or.inl ⟨by rfl, ?_⟩) ?_ ?_
                rotate_left
                · intro w'
                  go_simp
                  with_reducible rfl
                rotate_left
                · simp only [Act.put, List.setIfInBounds_toArray, List.set_cons_zero, List.set_cons_succ, i64_w, i32_w]
                  rfl
                refine pure_ (i := 2) (N := some 20) (v := ?_) (a' := ?_) #[true, true, true, false, false, false, false, false, false, false, false, false] rfl rfl (any_of HT_.out (by kernel_rfl)) (fun _ _ _ h => h) (Or.inl ⟨by rfl, ?_⟩) ?_ ?_
                rotate_left
                · intro w'
                  go_simp
                  with_reducible rfl
                rotate_left
                · simp only [Act.put, List.setIfInBounds_toArray, List.set_cons_zero, List.set_cons_succ, i64_w, i32_w]
                  rfl
                refine pure_ (i := 3) (N := some 21) (v := ?_) (a' := ?_) #[true, true, true, true, false, false, false, false, false, false, false, false] rfl rfl (any_of HT_.out (by kernel_rfl)) (fun _ _ _ h => h) (Or.inl ⟨by rfl, ?_⟩) ?_ ?_
                rotate_left
                · intro w'
                  go_simp
                  with_reducible rfl
                rotate_left
                · simp only [Act.put, List.setIfInBounds_toArray, List.set_cons_zero, List.set_cons_succ, i64_w, i32_w]
                  rfl
                refine pure_ (i := 4) (N := some 22) (v := ?_) (a' := ?_) #[true, true, true, true, true, false, false, false, false, false, false, false] rfl rfl (any_of HT_.out (by kernel_rfl)) (fun _ _ _ h => h) (Or.inl ⟨by rfl, ?_⟩) ?_ ?_
                rotate_left
                · intro w'
                  go_simp
                  with_reducible rfl
                rotate_left
                · simp only [Act.put, List.setIfInBounds_toArray, List.set_cons_zero, List.set_cons_succ, i64_w, i32_w]
                  rfl
                refine pure_ (i := 5) (N := some 23) (v := ?_) (a' := ?_) #[true, true, true, true, true, true, false, false, false, false, false, false] rfl rfl (any_of HT_.out (by kernel_rfl)) (fun _ _ _ h => h) (Or.inl ⟨by rfl, ?_⟩) ?_ ?_
                rotate_left
                · intro w'
                  go_simp
                  with_reducible rfl
                rotate_left
                · simp only [Act.put, List.setIfInBounds_toArray, List.set_cons_zero, List.set_cons_succ, i64_w, i32_w]
                  rfl
                refine pure_ (i := 6) (N := some 24) (v := ?_) (a' := ?_) #[true, true, true, true, true, true, true, false, false, false, false, false] rfl rfl (any_of HT_.out (by kernel_rfl)) (fun _ _ _ h => h) (Or.inl ⟨by rfl, ?_⟩) ?_ ?_
                rotate_left
                · intro w'
                  go_simp
                  with_reducible rfl
                rotate_left
                · simp only [Act.put, List.setIfInBounds_toArray, List.set_cons_zero, List.set_cons_succ, i64_w, i32_w]
                  rfl
                refine pure_ (i := 7) (N := some 25) (v := ?_) (a' := ?_) #[true, true, true, true, true, true, true, true, false, false, false, false] rfl rfl (any_of HT_.out (by kernel_rfl)) (fun _ _ _ h => h) (Or.inl ⟨by rfl, ?_⟩) ?_ ?_
                rotate_left
                · intro w'
                  go_simp
                  with_reducible rfl
                rotate_left
                · simp only [Act.put, List.setIfInBounds_toArray, List.set_cons_zero, List.set_cons_succ, i64_w, i32_w]
                  rfl
                refine pure_ (i := 8) (N := some 26) (v := ?_) (a' := ?_) #[true, true, true, true, true, true, true, true, true, false, false, false] rfl rfl (any_of HT_.out (by kernel_rfl)) (fun _ _ _ h => h) (Or.inl ⟨by rfl, ?_⟩) ?_ ?_
                rotate_left
                · intro w'
                  go_simp
                  with_reducible rfl
                rotate_left
                · simp only [Act.put, List.setIfInBounds_toArray, List.set_cons_zero, List.set_cons_succ, i64_w, i32_w]
                  rfl
                refine one_ (i := 9) (N := some 27) #[true, true, true, true, true, true, true, true, true, true, false, false] rfl rfl (one_of HT_.out (by kernel_rfl)) (by decide) (fun K hK => ?_)
                refine goes_ Tryz.func20 (by kernel_rfl) rfl #[.int .i64 x4_1] (by rfl) rfl rfl (by (try simp only [List.map_toArray, List.map_cons, List.map_nil]); first | done | rfl | (simp only [List.length_drop, List.length_take]; rfl)) ?_
                with_reducible refine (threshingref14_Name.calls x4_1 t232 _ A14.out).mono ?_
                rintro e w16 ⟨rfl, hb⟩
                refine ⟨_, rfl, ?_⟩
                have n0_ := Aside0.mk (blk_below (g := gb229) (o := .cells #[.int .i64 x230000_1, .int .i64 x230001_1, .string x230002_1] 23 (0, 0)) (by (with_reducible repeat (first | refine blk_drewN ?_ _ | refine blk_drew ?_ | refine blk_alloc ?_ _)); exact BK229.out) hb)
                have n1_ := Aside0.mk (blk_below (g := gb230) (o := .cells #[.int .i64 x4_1, .int .i64 0, .string (⟨#[]⟩ : ByteArray)] 23 (0, 0)) (by (with_reducible repeat (first | refine blk_drewN ?_ _ | refine blk_drew ?_ | refine blk_alloc ?_ _)); exact BK230.out) hb)
                have n2_ := Aside0.mk (below_step (by repeat (first | (with_reducible first | exact HB.out | apply below_alloc | apply pw_below_drewN | apply below_drew1 | refine below_set ?_ GE229.out | refine below_set ?_ GE230.out) | exact HB.out)) hb)
                clear BK229
                clear BK230
                clear HB
                have BK229 := n0_
                have BK230 := n1_
                have HB := n2_
                clear n0_ n1_ n2_
                (try clear hb)
                (try clear hb2)
                (try clear hk)
                (try clear hi)
                refine hK.out _ _ trivial (fun hHeld => ?_)
                clear hK K
                refine norm_ (a' := ?_) ?_ ?_
                rotate_left
                · show Act.put _ (some 27) _ = _
                  simp only [Act.put, List.setIfInBounds_toArray, List.set_cons_zero, List.set_cons_succ, i64_w, i32_w]
                  rfl
                refine pure_ (i := 10) (N := some 28) (v := ?_) (a' := ?_) #[true, true, true, true, true, true, true, true, true, true, true, false] rfl rfl (any_of HT_.out (by kernel_rfl)) (fun _ _ _ h => h) (Or.inl ⟨by rfl, ?_⟩) ?_ ?_
                rotate_left
                · intro w'
                  go_simp
                  with_reducible rfl
                rotate_left
                · simp only [Act.put, List.setIfInBounds_toArray, List.set_cons_zero, List.set_cons_succ, i64_w, i32_w]
                  rfl
                refine pure_ (i := 11) (N := some 29) (v := ?_) (a' := ?_) #[true, true, true, true, true, true, true, true, true, true, true, true] rfl rfl (any_of HT_.out (by kernel_rfl)) (fun _ _ _ h => h) (Or.inl ⟨by rfl, ?_⟩) ?_ ?_
                rotate_left
                · intro w'
                  go_simp
                  with_reducible rfl
                rotate_left
                · simp only [Act.put, List.setIfInBounds_toArray, List.set_cons_zero, List.set_cons_succ, i64_w, i32_w]
                  rfl
                refine done_ (done_of HT_.out (by kernel_rfl)) ?_
                try go_wp2
                go_meet
                case rel => exact ⟨_, (((a0.extract 0 ((t231.size : Int) : Int).toNat).toList != t232.toList)), (by first | rfl | (simp; done) | (simp [*]; done)), H', ⟨by have := HK1.out; first | omega | exact Nat.le_refl _⟩, ⟨by (with_reducible repeat (first | refine blk_drewN ?_ _ | refine blk_drew ?_ | refine blk_alloc ?_ _)); exact BK229.out⟩, ⟨by (with_reducible repeat (first | refine blk_drewN ?_ _ | refine blk_drew ?_ | refine blk_alloc ?_ _)); exact BK230.out⟩, ⟨by repeat (first | (with_reducible first | exact HB.out | apply below_alloc | apply pw_below_drewN | apply below_drew1 | refine below_set ?_ GE229.out | refine below_set ?_ GE230.out) | exact HB.out)⟩⟩
              · rw [if_neg c13] at H
                exact absurd H (by simp)
            · rw [if_neg c12] at H
              exact absurd H (by simp)
        case rest =>
          clear HC5
          try clear c1
          try clear c2
          try clear p2
          try clear c3
          try clear c3b0
          try clear c7
          try clear c10
          try clear c10b0
          try clear c10b1
          try clear c12
          try clear c12b0
          try clear c12b1
          try clear c13
          try clear c13b0
          try clear c13b1
          try clear c16
          try clear hcz8_0
          try clear hcz8_1
          try clear hcz8_2
          try clear hfz8_0
          try clear hfz8_1
          try clear hfz8_2
          try clear p2
          obtain ⟨kq, x29_4, rfl, HA, HJ4, BK229, BK230, HB⟩ := hcut
          cases kq with
          | zero => exact absurd HA.out (by simp [threshingref14_Parse.j1])
          | succ kj4 =>
            have H := HA.out
            clear HA
            simp only [threshingref14_Parse.j1] at H
            by_cases c17 : x29_4 = true
            · subst c17
              have H1 : (threshingref14_Parse.l0 kj4 a0 (wrap64 (x4_1 + 1))) = some (r1, r2, r3, r4) := by rw [if_pos rfl] at H; exact H
              clear H
              have H := H1
              clear H1
              have H' := Aside0.mk H
              clear H
              go_wp2
              go_roundg kj4
              case measure => have := HK1.out; have := HJ4.out; omega
              case rel => exact ⟨(wrap64 (x4_1 + 1)), (x230000_1), (x230001_1), (x230002_1), (by first | rfl | (simp; done) | (simp [*]; done)), H', ⟨by have := HK1.out; have := HJ4.out; omega⟩, ⟨by (with_reducible repeat (first | refine blk_drewN ?_ _ | refine blk_drew ?_ | refine blk_alloc ?_ _)); exact BK229.out⟩, ⟨by repeat (first | (with_reducible first | exact HB.out | apply below_alloc | apply pw_below_drewN | apply below_drew1 | refine below_set ?_ GE229.out | refine below_set ?_ GE230.out) | exact HB.out)⟩⟩
            · replace c17 := Bool.eq_false_iff.mpr c17
              subst c17
              have H1 : (if (a0.size : Int) > (wrap64 ((t231.size : Int) + 1)) then (threshingref14_Parse.j2 kj4 a0 x4_1 (t231.size : Int) (x4_1 == 1) x4_1 0 (⟨#[]⟩ : ByteArray)) else (threshingref14_Parse.j2 kj4 a0 x4_1 (t231.size : Int) false x4_1 0 (⟨#[]⟩ : ByteArray))) = some (r1, r2, r3, r4) := by rw [if_neg (show ¬ (false = true) by decide)] at H; exact H
              clear H
              have H := H1
              clear H1
              have HC18 := Aside0.mk H
              clear H
              go_upto_region 7 with (fail)
              go_cut [38] (fun v38 wc => ∃ (kq : Nat) (x38_17 : Bool), v38 = .bool x38_17 ∧ Aside0 (threshingref14_Parse.j2 kq a0 x4_1 (t231.size : Int) x38_17 x4_1 0 (⟨#[]⟩ : ByteArray) = some (r1, r2, r3, r4)) ∧ Aside0 (kq ≤ kj4) ∧ Aside0 (wc.heap[gb229]? = some (.cells #[.int .i64 x230000_1, .int .i64 x230001_1, .string x230002_1] 23 (0, 0))) ∧ Aside0 (wc.heap[gb230]? = some (.cells #[.int .i64 x4_1, .int .i64 0, .string (⟨#[]⟩ : ByteArray)] 23 (0, 0))) ∧ Aside0 (Below w.heap.size w wc))
              case first =>
                have H := HC18.out
                clear HC18
                by_cases c19 : (a0.size : Int) > (wrap64 ((t231.size : Int) + 1))
                · rw [if_pos c19] at H
                  have c19b0 : decide ((wrap64 ((t231.size : Int) + 1)) < (a0.size : Int)) = true := decide_eq_true c19
                  clear c19
                  (first | rw [c19b0] | (simp only [i64_w, i32_w]; rw [c19b0]) | skip)
                  have H' := Aside0.mk H
                  clear H
                  go_wp2
                  go_meet
                  case rel => exact ⟨_, ((x4_1 == 1)), (by first | rfl | (simp; done) | (simp [*]; done)), H', ⟨by have := HK1.out; have := HJ4.out; first | omega | exact Nat.le_refl _⟩, ⟨by (with_reducible repeat (first | refine blk_drewN ?_ _ | refine blk_drew ?_ | refine blk_alloc ?_ _)); exact BK229.out⟩, ⟨by (with_reducible repeat (first | refine blk_drewN ?_ _ | refine blk_drew ?_ | refine blk_alloc ?_ _)); exact BK230.out⟩, ⟨by repeat (first | (with_reducible first | exact HB.out | apply below_alloc | apply pw_below_drewN | apply below_drew1 | refine below_set ?_ GE229.out | refine below_set ?_ GE230.out) | exact HB.out)⟩⟩
                · rw [if_neg c19] at H
                  have c19b0 : decide ((wrap64 ((t231.size : Int) + 1)) < (a0.size : Int)) = false := decide_eq_false c19
                  clear c19
                  (first | rw [c19b0] | (simp only [i64_w, i32_w]; rw [c19b0]) | skip)
                  have H' := Aside0.mk H
                  clear H
                  go_wp2
                  go_meet
                  case rel => exact ⟨_, (false), (by first | rfl | (simp; done) | (simp [*]; done)), H', ⟨by have := HK1.out; have := HJ4.out; first | omega | exact Nat.le_refl _⟩, ⟨by (with_reducible repeat (first | refine blk_drewN ?_ _ | refine blk_drew ?_ | refine blk_alloc ?_ _)); exact BK229.out⟩, ⟨by (with_reducible repeat (first | refine blk_drewN ?_ _ | refine blk_drew ?_ | refine blk_alloc ?_ _)); exact BK230.out⟩, ⟨by repeat (first | (with_reducible first | exact HB.out | apply below_alloc | apply pw_below_drewN | apply below_drew1 | refine below_set ?_ GE229.out | refine below_set ?_ GE230.out) | exact HB.out)⟩⟩
              case rest =>
                clear HC18
                try clear c1
                try clear c2
                try clear p2
                try clear c3
                try clear c3b0
                try clear p6
                try clear c7
                try clear c10
                try clear c10b0
                try clear c10b1
                try clear c12
                try clear c12b0
                try clear c12b1
                try clear c13
                try clear c13b0
                try clear c13b1
                try clear c16
                try clear c17
                try clear c19
                try clear c19b0
                try clear hcz8_0
                try clear hcz8_1
                try clear hcz8_2
                try clear hfz8_0
                try clear hfz8_1
                try clear hfz8_2
                try clear p2
                obtain ⟨kq, x38_17, rfl, HA, HJ17, BK229, BK230, HB⟩ := hcut
                cases kq with
                | zero => exact absurd HA.out (by simp [threshingref14_Parse.j2])
                | succ kj17 =>
                  have H := HA.out
                  clear HA
                  simp only [threshingref14_Parse.j2] at H
                  have HC20 := Aside0.mk H
                  clear H
                  go_upto_if 38 with (fail)
                  go_cut [] (fun wc => ∃ (kq : Nat) (x231002_19 : ByteArray), Aside0 (threshingref14_Parse.j3 kq a0 x4_1 (t231.size : Int) x4_1 0 x231002_19 = some (r1, r2, r3, r4)) ∧ Aside0 (kq ≤ kj17) ∧ Aside0 (wc.heap[gb229]? = some (.cells #[.int .i64 x230000_1, .int .i64 x230001_1, .string x230002_1] 23 (0, 0))) ∧ Aside0 (wc.heap[gb230]? = some (.cells #[.int .i64 x4_1, .int .i64 0, .string x231002_19] 23 (0, 0))) ∧ Aside0 (Below w.heap.size w wc))
                  case first =>
                    have H := HC20.out
                    clear HC20
                    by_cases c21 : x38_17 = true
                    · subst c21
                      have H1 : (if 0 ≤ (wrap64 ((t231.size : Int) + 1)) then (if (wrap64 ((t231.size : Int) + 1)) ≤ (a0.size : Int) then ((threshingref14_unquoted.f kj17 (a0.extract ((wrap64 ((t231.size : Int) + 1)) : Int).toNat a0.size)).bind fun t233 => (threshingref14_Parse.j3 kj17 a0 x4_1 (t231.size : Int) x4_1 0 t233)) else (none)) else (none)) = some (r1, r2, r3, r4) := by rw [if_pos rfl] at H; exact H
                      clear H
                      have H := H1
                      clear H1
                      obtain ⟨ji22, hji22⟩ : ∃ j_ : Int, (wrap64 ((t231.size : Int) + 1)) = j_ := ⟨_, rfl⟩
                      replace H : (if 0 ≤ (ji22) then (if (ji22) ≤ (a0.size : Int) then ((threshingref14_unquoted.f kj17 (a0.extract ((ji22) : Int).toNat a0.size)).bind fun t233 => (threshingref14_Parse.j3 kj17 a0 x4_1 (t231.size : Int) x4_1 0 t233)) else (none)) else (none)) = some (r1, r2, r3, r4) := by first | (rw [hji22] at H; exact H) | (simp only [hji22] at H ⊢; exact H)
                      have hji22w : (IntKind.i64.wrap ((t231.size : Int) + 1)) = ji22 := (i64_w _).trans hji22
                      by_cases c23 : 0 ≤ (ji22)
                      · rw [if_pos c23] at H
                        have c23b0 := eq_true c23
                        have c23b1 : decide (0 ≤ (ji22)) = true := decide_eq_true c23
                        clear c23
                        by_cases c24 : (ji22) ≤ (a0.size : Int)
                        · rw [if_pos c24] at H
                          have c24b0 := eq_true c24
                          have c24b1 : decide ((ji22) ≤ (a0.size : Int)) = true := decide_eq_true c24
                          clear c24
                          replace H := Option.bind_eq_some_iff.mp H
                          obtain ⟨t233, A250, H⟩ := H
                          replace H : (threshingref14_Parse.j3 kj17 a0 x4_1 (t231.size : Int) x4_1 0 t233) = some (r1, r2, r3, r4) := H
                          have A25 := Aside0.mk A250
                          clear A250
                          have H' := Aside0.mk H
                          clear H
                          go_wp2_with (first | ((with_reducible refine gate_callee (f := 54) rfl ?_); refine goesL_ (some 43) rfl rfl Tryz.func54 (by kernel_rfl) rfl #[.string (a0.extract ((ji22) : Int).toNat a0.size)] rfl (by (try simp only [List.map_toArray, List.map_cons, List.map_nil]); first | done | (simp only [hji22]; rfl) | rfl | (simp only [List.length_drop, List.length_take]; rfl)) ?_; (with_reducible refine (threshingref14_unquoted.calls kj17 (a0.extract ((ji22) : Int).toNat a0.size) t233 _ A25.out).mono ?_); rintro e w26 ⟨rfl, hb⟩; refine ⟨_, rfl, ?_⟩; have n0_ := Aside0.mk (blk_below (g := gb229) (o := .cells #[.int .i64 x230000_1, .int .i64 x230001_1, .string x230002_1] 23 (0, 0)) (by (with_reducible repeat (first | refine blk_drewN ?_ _ | refine blk_drew ?_ | refine blk_alloc ?_ _)); exact BK229.out) hb); have n1_ := Aside0.mk (blk_below (g := gb230) (o := .cells #[.int .i64 x4_1, .int .i64 0, .string (⟨#[]⟩ : ByteArray)] 23 (0, 0)) (by (with_reducible repeat (first | refine blk_drewN ?_ _ | refine blk_drew ?_ | refine blk_alloc ?_ _)); exact BK230.out) hb); have n2_ := Aside0.mk (below_step (by repeat (first | (with_reducible first | exact HB.out | apply below_alloc | apply pw_below_drewN | apply below_drew1 | refine below_set ?_ GE229.out | refine below_set ?_ GE230.out) | exact HB.out)) hb); clear BK229; clear BK230; clear HB; have BK229 := n0_; have BK230 := n1_; have HB := n2_; clear n0_ n1_ n2_; (try clear hb); (try clear hb2); (try clear hk); (try clear hi); have hnb27 := NB230_229.out; have hnc27 := NB229_230.out; have hcz28_0 : w26.cell? ⟨gb230, 0, none⟩ = some (.int .i64 x4_1) := (blk_cell BK230.out 0).trans rfl; have hcz28_1 : w26.cell? ⟨gb230, 1, none⟩ = some (.int .i64 0) := (blk_cell BK230.out 1).trans rfl; have hcz28_2 : w26.cell? ⟨gb230, 2, none⟩ = some (.string (⟨#[]⟩ : ByteArray)) := (blk_cell BK230.out 2).trans rfl; have hfz28_0 := blk_frozen BK230.out 0; have hfz28_1 := blk_frozen BK230.out 1; have hfz28_2 := blk_frozen BK230.out 2))
                          go_meet
                          case rel => exact ⟨_, (t233), H', ⟨by have := HK1.out; have := HJ4.out; have := HJ17.out; first | omega | exact Nat.le_refl _⟩, ⟨by (with_reducible repeat (first | refine blk_drewN ?_ _ | refine blk_drew ?_ | refine blk_alloc ?_ _)); refine blk_far ?_ NB229_230.out _; (with_reducible repeat (first | refine blk_drewN ?_ _ | refine blk_drew ?_ | refine blk_alloc ?_ _)); exact BK229.out⟩, ⟨by (with_reducible repeat (first | refine blk_drewN ?_ _ | refine blk_drew ?_ | refine blk_alloc ?_ _)); refine blk_put (cs := #[.int .i64 x4_1, .int .i64 0, .string (⟨#[]⟩ : ByteArray)]) ?_ 2 _ rfl; (with_reducible repeat (first | refine blk_drewN ?_ _ | refine blk_drew ?_ | refine blk_alloc ?_ _)); exact BK230.out⟩, ⟨by repeat (first | (with_reducible first | exact HB.out | apply below_alloc | apply pw_below_drewN | apply below_drew1 | refine below_set ?_ GE229.out | refine below_set ?_ GE230.out) | exact HB.out)⟩⟩
                        · rw [if_neg c24] at H
                          exact absurd H (by simp)
                      · rw [if_neg c23] at H
                        exact absurd H (by simp)
                    · replace c21 := Bool.eq_false_iff.mpr c21
                      subst c21
                      have H1 : (threshingref14_Parse.j3 kj17 a0 x4_1 (t231.size : Int) x4_1 0 (⟨#[]⟩ : ByteArray)) = some (r1, r2, r3, r4) := by rw [if_neg (show ¬ (false = true) by decide)] at H; exact H
                      clear H
                      have H := H1
                      clear H1
                      have H' := Aside0.mk H
                      clear H
                      go_wp2
                      go_meet
                      case rel => exact ⟨_, ((⟨#[]⟩ : ByteArray)), H', ⟨by have := HK1.out; have := HJ4.out; have := HJ17.out; first | omega | exact Nat.le_refl _⟩, ⟨by (with_reducible repeat (first | refine blk_drewN ?_ _ | refine blk_drew ?_ | refine blk_alloc ?_ _)); exact BK229.out⟩, ⟨by (with_reducible repeat (first | refine blk_drewN ?_ _ | refine blk_drew ?_ | refine blk_alloc ?_ _)); exact BK230.out⟩, ⟨by repeat (first | (with_reducible first | exact HB.out | apply below_alloc | apply pw_below_drewN | apply below_drew1 | refine below_set ?_ GE229.out | refine below_set ?_ GE230.out) | exact HB.out)⟩⟩
                  case rest =>
                    clear HC20
                    try clear c1
                    try clear c2
                    try clear p2
                    try clear c3
                    try clear c3b0
                    try clear c5
                    try clear p6
                    try clear c7
                    try clear c10
                    try clear c10b0
                    try clear c10b1
                    try clear c12
                    try clear c12b0
                    try clear c12b1
                    try clear c13
                    try clear c13b0
                    try clear c13b1
                    try clear c16
                    try clear c17
                    try clear c19
                    try clear c19b0
                    try clear c20
                    try clear c21
                    try clear c23
                    try clear c23b0
                    try clear c23b1
                    try clear c24
                    try clear c24b0
                    try clear c24b1
                    try clear c27
                    try clear hcz28_0
                    try clear hcz28_1
                    try clear hcz28_2
                    try clear hcz8_0
                    try clear hcz8_1
                    try clear hcz8_2
                    try clear hfz28_0
                    try clear hfz28_1
                    try clear hfz28_2
                    try clear hfz8_0
                    try clear hfz8_1
                    try clear hfz8_2
                    try clear p2
                    try clear p6
                    obtain ⟨kq, x231002_19, HA, HJ19, BK229, BK230, HB⟩ := hcut
                    cases kq with
                    | zero => exact absurd HA.out (by simp [threshingref14_Parse.j3])
                    | succ kj19 =>
                      have H := HA.out
                      clear HA
                      simp only [threshingref14_Parse.j3] at H
                      have HC29 := Aside0.mk H
                      clear H
                      go_upto_region 9 with (fail)
                      go_cut [57] (fun v57 wc => ∃ (kq : Nat) (x57_28 : Bool), v57 = .bool x57_28 ∧ Aside0 (threshingref14_Parse.j4 kq a0 x4_1 (t231.size : Int) x57_28 x4_1 0 x231002_19 = some (r1, r2, r3, r4)) ∧ Aside0 (kq ≤ kj19) ∧ Aside0 (wc.heap[gb229]? = some (.cells #[.int .i64 x230000_1, .int .i64 x230001_1, .string x230002_1] 23 (0, 0))) ∧ Aside0 (wc.heap[gb230]? = some (.cells #[.int .i64 x4_1, .int .i64 0, .string x231002_19] 23 (0, 0))) ∧ Aside0 (Below w.heap.size w wc))
                      case first =>
                        have H := HC29.out
                        clear HC29
                        by_cases c30 : (a0.size : Int) > (wrap64 ((t231.size : Int) + 1))
                        · rw [if_pos c30] at H
                          have c30b0 : decide ((wrap64 ((t231.size : Int) + 1)) < (a0.size : Int)) = true := decide_eq_true c30
                          clear c30
                          (first | rw [c30b0] | (simp only [i64_w, i32_w]; rw [c30b0]) | skip)
                          by_cases c31 : x4_1 = 0
                          · rw [if_pos c31] at H
                            have c31b0 : (x4_1 == 0) = true := beq_iff_eq.mpr c31
                            have c31b1 : (x4_1 != 0) = false := bne_eq_false_iff_eq.mpr c31
                            clear c31
                            have H' := Aside0.mk H
                            clear H
                            go_wp2
                            go_meet
                            case rel => exact ⟨_, (true), (by first | rfl | (simp; done) | (simp [*]; done)), H', ⟨by have := HK1.out; have := HJ4.out; have := HJ17.out; have := HJ19.out; first | omega | exact Nat.le_refl _⟩, ⟨by (with_reducible repeat (first | refine blk_drewN ?_ _ | refine blk_drew ?_ | refine blk_alloc ?_ _)); exact BK229.out⟩, ⟨by (with_reducible repeat (first | refine blk_drewN ?_ _ | refine blk_drew ?_ | refine blk_alloc ?_ _)); exact BK230.out⟩, ⟨by repeat (first | (with_reducible first | exact HB.out | apply below_alloc | apply pw_below_drewN | apply below_drew1 | refine below_set ?_ GE229.out | refine below_set ?_ GE230.out) | exact HB.out)⟩⟩
                          · rw [if_neg c31] at H
                            have c31b0 : (x4_1 == 0) = false := beq_eq_false_iff_ne.mpr c31
                            have c31b1 : (x4_1 != 0) = true := bne_iff_ne.mpr c31
                            have H' := Aside0.mk H
                            clear H
                            go_wp2
                            go_meet
                            case rel => exact ⟨_, ((x4_1 == 2)), (by first | rfl | (simp; done) | (simp [*]; done)), H', ⟨by have := HK1.out; have := HJ4.out; have := HJ17.out; have := HJ19.out; first | omega | exact Nat.le_refl _⟩, ⟨by (with_reducible repeat (first | refine blk_drewN ?_ _ | refine blk_drew ?_ | refine blk_alloc ?_ _)); exact BK229.out⟩, ⟨by (with_reducible repeat (first | refine blk_drewN ?_ _ | refine blk_drew ?_ | refine blk_alloc ?_ _)); exact BK230.out⟩, ⟨by repeat (first | (with_reducible first | exact HB.out | apply below_alloc | apply pw_below_drewN | apply below_drew1 | refine below_set ?_ GE229.out | refine below_set ?_ GE230.out) | exact HB.out)⟩⟩
                        · rw [if_neg c30] at H
                          have c30b0 : decide ((wrap64 ((t231.size : Int) + 1)) < (a0.size : Int)) = false := decide_eq_false c30
                          clear c30
                          (first | rw [c30b0] | (simp only [i64_w, i32_w]; rw [c30b0]) | skip)
                          have H' := Aside0.mk H
                          clear H
                          go_wp2
                          go_meet
                          case rel => exact ⟨_, (false), (by first | rfl | (simp; done) | (simp [*]; done)), H', ⟨by have := HK1.out; have := HJ4.out; have := HJ17.out; have := HJ19.out; first | omega | exact Nat.le_refl _⟩, ⟨by (with_reducible repeat (first | refine blk_drewN ?_ _ | refine blk_drew ?_ | refine blk_alloc ?_ _)); exact BK229.out⟩, ⟨by (with_reducible repeat (first | refine blk_drewN ?_ _ | refine blk_drew ?_ | refine blk_alloc ?_ _)); exact BK230.out⟩, ⟨by repeat (first | (with_reducible first | exact HB.out | apply below_alloc | apply pw_below_drewN | apply below_drew1 | refine below_set ?_ GE229.out | refine below_set ?_ GE230.out) | exact HB.out)⟩⟩
                      case rest =>
                        clear HC29
                        try clear c1
                        try clear c2
                        try clear p2
                        try clear c3
                        try clear c3b0
                        try clear c5
                        try clear p6
                        try clear c7
                        try clear c10
                        try clear c10b0
                        try clear c10b1
                        try clear c12
                        try clear c12b0
                        try clear c12b1
                        try clear c13
                        try clear c13b0
                        try clear c13b1
                        try clear c16
                        try clear c17
                        try clear c19
                        try clear c19b0
                        try clear c20
                        try clear c21
                        try clear c23
                        try clear c23b0
                        try clear c23b1
                        try clear c24
                        try clear c24b0
                        try clear c24b1
                        try clear c27
                        try clear c30
                        try clear c30b0
                        try clear c31
                        try clear c31b0
                        try clear c31b1
                        try clear hcz28_0
                        try clear hcz28_1
                        try clear hcz28_2
                        try clear hcz8_0
                        try clear hcz8_1
                        try clear hcz8_2
                        try clear hfz28_0
                        try clear hfz28_1
                        try clear hfz28_2
                        try clear hfz8_0
                        try clear hfz8_1
                        try clear hfz8_2
                        try clear p2
                        try clear p6
                        obtain ⟨kq, x57_28, rfl, HA, HJ28, BK229, BK230, HB⟩ := hcut
                        cases kq with
                        | zero => exact absurd HA.out (by simp [threshingref14_Parse.j4])
                        | succ kj28 =>
                          have H := HA.out
                          clear HA
                          simp only [threshingref14_Parse.j4] at H
                          by_cases c32 : x57_28 = true
                          · subst c32
                            have H1 : (if 0 ≤ (wrap64 ((t231.size : Int) + 1)) then (if (wrap64 ((t231.size : Int) + 1)) ≤ (a0.size : Int) then ((threshingref14_number.f kj28 (a0.extract ((wrap64 ((t231.size : Int) + 1)) : Int).toNat a0.size)).bind fun t234 => ((threshingref14_Line.f kj28 x4_1 t234 x231002_19).bind fun bt235 => (if bt235.2 = 0 then (if bt235.1.toList = a0.toList then (some (x4_1, t234, x231002_19, 0)) else (threshingref14_Parse.l0 kj28 a0 (wrap64 (x4_1 + 1)))) else (threshingref14_Parse.l0 kj28 a0 (wrap64 (x4_1 + 1)))))) else (none)) else (none)) = some (r1, r2, r3, r4) := by rw [if_pos rfl] at H; exact H
                            clear H
                            have H := H1
                            clear H1
                            obtain ⟨ji33, hji33⟩ : ∃ j_ : Int, (wrap64 ((t231.size : Int) + 1)) = j_ := ⟨_, rfl⟩
                            replace H : (if 0 ≤ (ji33) then (if (ji33) ≤ (a0.size : Int) then ((threshingref14_number.f kj28 (a0.extract ((ji33) : Int).toNat a0.size)).bind fun t234 => ((threshingref14_Line.f kj28 x4_1 t234 x231002_19).bind fun bt235 => (if bt235.2 = 0 then (if bt235.1.toList = a0.toList then (some (x4_1, t234, x231002_19, 0)) else (threshingref14_Parse.l0 kj28 a0 (wrap64 (x4_1 + 1)))) else (threshingref14_Parse.l0 kj28 a0 (wrap64 (x4_1 + 1)))))) else (none)) else (none)) = some (r1, r2, r3, r4) := by first | (rw [hji33] at H; exact H) | (simp only [hji33] at H ⊢; exact H)
                            have hji33w : (IntKind.i64.wrap ((t231.size : Int) + 1)) = ji33 := (i64_w _).trans hji33
                            by_cases c34 : 0 ≤ (ji33)
                            · rw [if_pos c34] at H
                              have c34b0 := eq_true c34
                              have c34b1 : decide (0 ≤ (ji33)) = true := decide_eq_true c34
                              clear c34
                              by_cases c35 : (ji33) ≤ (a0.size : Int)
                              · rw [if_pos c35] at H
                                have c35b0 := eq_true c35
                                have c35b1 : decide ((ji33) ≤ (a0.size : Int)) = true := decide_eq_true c35
                                clear c35
                                replace H := Option.bind_eq_some_iff.mp H
                                obtain ⟨t234, A360, H⟩ := H
                                replace H : ((threshingref14_Line.f kj28 x4_1 t234 x231002_19).bind fun bt235 => (if bt235.2 = 0 then (if bt235.1.toList = a0.toList then (some (x4_1, t234, x231002_19, 0)) else (threshingref14_Parse.l0 kj28 a0 (wrap64 (x4_1 + 1)))) else (threshingref14_Parse.l0 kj28 a0 (wrap64 (x4_1 + 1))))) = some (r1, r2, r3, r4) := H
                                have A36 := Aside0.mk A360
                                clear A360
                                replace H := Option.bind_eq_some_iff.mp H
                                obtain ⟨⟨t235, t236⟩, A370, H⟩ := H
                                replace H : (if t236 = 0 then (if t235.toList = a0.toList then (some (x4_1, t234, x231002_19, 0)) else (threshingref14_Parse.l0 kj28 a0 (wrap64 (x4_1 + 1)))) else (threshingref14_Parse.l0 kj28 a0 (wrap64 (x4_1 + 1)))) = some (r1, r2, r3, r4) := H
                                have A37 := Aside0.mk A370
                                clear A370
                                by_cases c38 : t236 = 0
                                · rw [if_pos c38] at H
                                  have c38b0 : (t236 == 0) = true := beq_iff_eq.mpr c38
                                  have c38b1 : (t236 != 0) = false := bne_eq_false_iff_eq.mpr c38
                                  clear c38
                                  by_cases c39 : t235.toList = a0.toList
                                  · rw [if_pos c39] at H
                                    have c39b0 : (t235.toList == a0.toList) = true := beq_iff_eq.mpr c39
                                    have c39b1 : (t235.toList != a0.toList) = false := bne_eq_false_iff_eq.mpr c39
                                    clear c39
                                    simp only [Option.some.injEq, Prod.mk.injEq] at H
                                    obtain ⟨rfl, rfl, rfl, rfl⟩ := H
                                    go_wp2_with (first | ((with_reducible refine gate_callee (f := 55) rfl ?_); refine goesL_ (some 62) rfl rfl Tryz.func55 (by kernel_rfl) rfl #[.string (a0.extract ((ji33) : Int).toNat a0.size)] rfl (by (try simp only [List.map_toArray, List.map_cons, List.map_nil]); first | done | (simp only [hji33]; rfl) | rfl | (simp only [List.length_drop, List.length_take]; rfl)) ?_; (with_reducible refine (threshingref14_number.calls kj28 (a0.extract ((ji33) : Int).toNat a0.size) t234 _ A36.out).mono ?_); rintro e w' ⟨rfl, ⟨nd, rfl⟩⟩; refine ⟨_, rfl, ?_⟩; (try (rw [drewN_self wc]; generalize hq_ : World.drewN wc _ = wc; have n0_ : Aside0 (wc.heap[gb229]? = some (.cells #[.int .i64 x230000_1, .int .i64 x230001_1, .string x230002_1] 23 (0, 0))) := ⟨by rw [← hq_]; exact (by (with_reducible repeat (first | refine blk_drewN ?_ _ | refine blk_drew ?_ | refine blk_alloc ?_ _)); exact BK229.out)⟩; have n1_ : Aside0 (wc.heap[gb230]? = some (.cells #[.int .i64 x4_1, .int .i64 0, .string x231002_19] 23 (0, 0))) := ⟨by rw [← hq_]; exact (by (with_reducible repeat (first | refine blk_drewN ?_ _ | refine blk_drew ?_ | refine blk_alloc ?_ _)); exact BK230.out)⟩; have n2_ : Aside0 (Below w.heap.size w wc) := ⟨by rw [← hq_]; exact (by repeat (first | (with_reducible first | exact HB.out | apply below_alloc | apply pw_below_drewN | apply below_drew1 | refine below_set ?_ GE229.out | refine below_set ?_ GE230.out) | exact HB.out))⟩; clear BK229 BK230 HB hq_; have BK229 := n0_; have BK230 := n1_; have HB := n2_; clear n0_ n1_ n2_)); have hnb40 := NB230_229.out; have hnc40 := NB229_230.out; have hcz41_0 : wc.cell? ⟨gb230, 0, none⟩ = some (.int .i64 x4_1) := (blk_cell BK230.out 0).trans rfl; have hcz41_1 : wc.cell? ⟨gb230, 1, none⟩ = some (.int .i64 0) := (blk_cell BK230.out 1).trans rfl; have hcz41_2 : wc.cell? ⟨gb230, 2, none⟩ = some (.string x231002_19) := (blk_cell BK230.out 2).trans rfl; have hfz41_0 := blk_frozen BK230.out 0; have hfz41_1 := blk_frozen BK230.out 1; have hfz41_2 := blk_frozen BK230.out 2) | ((with_reducible refine gate_callee (f := 14) rfl ?_); refine goesL_ (some 66) rfl rfl Tryz.func14 (by kernel_rfl) rfl #[.agg #[.int .i64 x4_1, .int .i64 t234, .string x231002_19]] rfl (by (try simp only [List.map_toArray, List.map_cons, List.map_nil]); first | done | rfl | (simp only [List.length_drop, List.length_take]; rfl)) ?_; (with_reducible refine (threshingref14_Line.calls kj28 x4_1 t234 x231002_19 t235 t236 _ A37.out).mono ?_); rintro e w42 ⟨rfl, hb⟩; refine ⟨_, rfl, ?_⟩; have n0_ := Aside0.mk (blk_below (g := gb229) (o := .cells #[.int .i64 x230000_1, .int .i64 x230001_1, .string x230002_1] 23 (0, 0)) (by (with_reducible repeat (first | refine blk_drewN ?_ _ | refine blk_drew ?_ | refine blk_alloc ?_ _)); refine blk_far ?_ NB229_230.out _; (with_reducible repeat (first | refine blk_drewN ?_ _ | refine blk_drew ?_ | refine blk_alloc ?_ _)); exact BK229.out) hb); have n1_ := Aside0.mk (blk_below (g := gb230) (o := .cells #[.int .i64 x4_1, .int .i64 t234, .string x231002_19] 23 (0, 0)) (by (with_reducible repeat (first | refine blk_drewN ?_ _ | refine blk_drew ?_ | refine blk_alloc ?_ _)); refine blk_put (cs := #[.int .i64 x4_1, .int .i64 0, .string x231002_19]) ?_ 1 _ rfl; (with_reducible repeat (first | refine blk_drewN ?_ _ | refine blk_drew ?_ | refine blk_alloc ?_ _)); exact BK230.out) hb); have n2_ := Aside0.mk (below_step (by repeat (first | (with_reducible first | exact HB.out | apply below_alloc | apply pw_below_drewN | apply below_drew1 | refine below_set ?_ GE229.out | refine below_set ?_ GE230.out) | exact HB.out)) hb); clear BK229; clear BK230; clear HB; have BK229 := n0_; have BK230 := n1_; have HB := n2_; clear n0_ n1_ n2_; (try clear hb); (try clear hb2); (try clear hk); (try clear hi); have hcz43_0 : w42.cell? ⟨gb230, 0, none⟩ = some (.int .i64 x4_1) := (blk_cell BK230.out 0).trans rfl; have hcz43_1 : w42.cell? ⟨gb230, 1, none⟩ = some (.int .i64 t234) := (blk_cell BK230.out 1).trans rfl; have hcz43_2 : w42.cell? ⟨gb230, 2, none⟩ = some (.string x231002_19) := (blk_cell BK230.out 2).trans rfl; have hfz43_0 := blk_frozen BK230.out 0; have hfz43_1 := blk_frozen BK230.out 1; have hfz43_2 := blk_frozen BK230.out 2; have hcz44_0 : w42.cell? ⟨gb229, 0, none⟩ = some (.int .i64 x230000_1) := (blk_cell BK229.out 0).trans rfl; have hcz44_1 : w42.cell? ⟨gb229, 1, none⟩ = some (.int .i64 x230001_1) := (blk_cell BK229.out 1).trans rfl; have hcz44_2 : w42.cell? ⟨gb229, 2, none⟩ = some (.string x230002_1) := (blk_cell BK229.out 2).trans rfl; have hfz44_0 := blk_frozen BK229.out 0; have hfz44_1 := blk_frozen BK229.out 1; have hfz44_2 := blk_frozen BK229.out 2))
                                    refine bodyPost_ret (results_ct rfl _ _ gb229 23 #[.int .i64 x4_1, .int .i64 t234, .string x231002_19] (0, 0) _ rfl (by (with_reducible repeat (first | refine blk_drewN ?_ _ | refine blk_drew ?_ | refine blk_alloc ?_ _)); refine blk_put (cs := #[.int .i64 x4_1, .int .i64 t234, .string x230002_1]) ?_ 2 _ rfl; (with_reducible repeat (first | refine blk_drewN ?_ _ | refine blk_drew ?_ | refine blk_alloc ?_ _)); refine blk_put (cs := #[.int .i64 x4_1, .int .i64 x230001_1, .string x230002_1]) ?_ 1 _ rfl; (with_reducible repeat (first | refine blk_drewN ?_ _ | refine blk_drew ?_ | refine blk_alloc ?_ _)); refine blk_put (cs := #[.int .i64 x230000_1, .int .i64 x230001_1, .string x230002_1]) ?_ 0 _ rfl; (with_reducible repeat (first | refine blk_drewN ?_ _ | refine blk_drew ?_ | refine blk_alloc ?_ _)); exact BK229.out) Tryz.underlying23 rfl (by kernel_rfl)) rfl ?_
                                    exact ⟨by first | rfl | (simp [errW_none, errW_some] <;> rfl) | (simp only [← hji33]; first | rfl | (simp [errW_none, errW_some] <;> rfl)) | (simp [*, errW_none, errW_some] <;> rfl), by repeat (first | (with_reducible first | exact HB.out | apply below_alloc | apply pw_below_drewN | apply below_drew1 | refine below_set ?_ GE229.out | refine below_set ?_ GE230.out) | exact HB.out)⟩
                                  · rw [if_neg c39] at H
                                    have c39b0 : (t235.toList == a0.toList) = false := beq_eq_false_iff_ne.mpr c39
                                    have c39b1 : (t235.toList != a0.toList) = true := bne_iff_ne.mpr c39
                                    have H' := Aside0.mk H
                                    clear H
                                    go_wp2_with (first | ((with_reducible refine gate_callee (f := 55) rfl ?_); refine goesL_ (some 62) rfl rfl Tryz.func55 (by kernel_rfl) rfl #[.string (a0.extract ((ji33) : Int).toNat a0.size)] rfl (by (try simp only [List.map_toArray, List.map_cons, List.map_nil]); first | done | (simp only [hji33]; rfl) | rfl | (simp only [List.length_drop, List.length_take]; rfl)) ?_; (with_reducible refine (threshingref14_number.calls kj28 (a0.extract ((ji33) : Int).toNat a0.size) t234 _ A36.out).mono ?_); rintro e w' ⟨rfl, ⟨nd, rfl⟩⟩; refine ⟨_, rfl, ?_⟩; (try (rw [drewN_self wc]; generalize hq_ : World.drewN wc _ = wc; have n0_ : Aside0 (wc.heap[gb229]? = some (.cells #[.int .i64 x230000_1, .int .i64 x230001_1, .string x230002_1] 23 (0, 0))) := ⟨by rw [← hq_]; exact (by (with_reducible repeat (first | refine blk_drewN ?_ _ | refine blk_drew ?_ | refine blk_alloc ?_ _)); exact BK229.out)⟩; have n1_ : Aside0 (wc.heap[gb230]? = some (.cells #[.int .i64 x4_1, .int .i64 0, .string x231002_19] 23 (0, 0))) := ⟨by rw [← hq_]; exact (by (with_reducible repeat (first | refine blk_drewN ?_ _ | refine blk_drew ?_ | refine blk_alloc ?_ _)); exact BK230.out)⟩; have n2_ : Aside0 (Below w.heap.size w wc) := ⟨by rw [← hq_]; exact (by repeat (first | (with_reducible first | exact HB.out | apply below_alloc | apply pw_below_drewN | apply below_drew1 | refine below_set ?_ GE229.out | refine below_set ?_ GE230.out) | exact HB.out))⟩; clear BK229 BK230 HB hq_; have BK229 := n0_; have BK230 := n1_; have HB := n2_; clear n0_ n1_ n2_)); have hnb45 := NB230_229.out; have hnc45 := NB229_230.out; have hcz46_0 : wc.cell? ⟨gb230, 0, none⟩ = some (.int .i64 x4_1) := (blk_cell BK230.out 0).trans rfl; have hcz46_1 : wc.cell? ⟨gb230, 1, none⟩ = some (.int .i64 0) := (blk_cell BK230.out 1).trans rfl; have hcz46_2 : wc.cell? ⟨gb230, 2, none⟩ = some (.string x231002_19) := (blk_cell BK230.out 2).trans rfl; have hfz46_0 := blk_frozen BK230.out 0; have hfz46_1 := blk_frozen BK230.out 1; have hfz46_2 := blk_frozen BK230.out 2) | ((with_reducible refine gate_callee (f := 14) rfl ?_); refine goesL_ (some 66) rfl rfl Tryz.func14 (by kernel_rfl) rfl #[.agg #[.int .i64 x4_1, .int .i64 t234, .string x231002_19]] rfl (by (try simp only [List.map_toArray, List.map_cons, List.map_nil]); first | done | rfl | (simp only [List.length_drop, List.length_take]; rfl)) ?_; (with_reducible refine (threshingref14_Line.calls kj28 x4_1 t234 x231002_19 t235 t236 _ A37.out).mono ?_); rintro e w47 ⟨rfl, hb⟩; refine ⟨_, rfl, ?_⟩; have n0_ := Aside0.mk (blk_below (g := gb229) (o := .cells #[.int .i64 x230000_1, .int .i64 x230001_1, .string x230002_1] 23 (0, 0)) (by (with_reducible repeat (first | refine blk_drewN ?_ _ | refine blk_drew ?_ | refine blk_alloc ?_ _)); refine blk_far ?_ NB229_230.out _; (with_reducible repeat (first | refine blk_drewN ?_ _ | refine blk_drew ?_ | refine blk_alloc ?_ _)); exact BK229.out) hb); have n1_ := Aside0.mk (blk_below (g := gb230) (o := .cells #[.int .i64 x4_1, .int .i64 t234, .string x231002_19] 23 (0, 0)) (by (with_reducible repeat (first | refine blk_drewN ?_ _ | refine blk_drew ?_ | refine blk_alloc ?_ _)); refine blk_put (cs := #[.int .i64 x4_1, .int .i64 0, .string x231002_19]) ?_ 1 _ rfl; (with_reducible repeat (first | refine blk_drewN ?_ _ | refine blk_drew ?_ | refine blk_alloc ?_ _)); exact BK230.out) hb); have n2_ := Aside0.mk (below_step (by repeat (first | (with_reducible first | exact HB.out | apply below_alloc | apply pw_below_drewN | apply below_drew1 | refine below_set ?_ GE229.out | refine below_set ?_ GE230.out) | exact HB.out)) hb); clear BK229; clear BK230; clear HB; have BK229 := n0_; have BK230 := n1_; have HB := n2_; clear n0_ n1_ n2_; (try clear hb); (try clear hb2); (try clear hk); (try clear hi)))
                                    go_roundg kj28
                                    case measure => have := HK1.out; have := HJ4.out; have := HJ17.out; have := HJ19.out; have := HJ28.out; omega
                                    case rel => exact ⟨(wrap64 (x4_1 + 1)), (x230000_1), (x230001_1), (x230002_1), (by first | rfl | (simp; done) | (simp [*]; done)), H', ⟨by have := HK1.out; have := HJ4.out; have := HJ17.out; have := HJ19.out; have := HJ28.out; omega⟩, ⟨by (with_reducible repeat (first | refine blk_drewN ?_ _ | refine blk_drew ?_ | refine blk_alloc ?_ _)); exact BK229.out⟩, ⟨by repeat (first | (with_reducible first | exact HB.out | apply below_alloc | apply pw_below_drewN | apply below_drew1 | refine below_set ?_ GE229.out | refine below_set ?_ GE230.out) | exact HB.out)⟩⟩
                                · rw [if_neg c38] at H
                                  have c38b0 : (t236 == 0) = false := beq_eq_false_iff_ne.mpr c38
                                  have c38b1 : (t236 != 0) = true := bne_iff_ne.mpr c38
                                  have H' := Aside0.mk H
                                  clear H
                                  go_wp2_with (first | ((with_reducible refine gate_callee (f := 55) rfl ?_); refine goesL_ (some 62) rfl rfl Tryz.func55 (by kernel_rfl) rfl #[.string (a0.extract ((ji33) : Int).toNat a0.size)] rfl (by (try simp only [List.map_toArray, List.map_cons, List.map_nil]); first | done | (simp only [hji33]; rfl) | rfl | (simp only [List.length_drop, List.length_take]; rfl)) ?_; (with_reducible refine (threshingref14_number.calls kj28 (a0.extract ((ji33) : Int).toNat a0.size) t234 _ A36.out).mono ?_); rintro e w' ⟨rfl, ⟨nd, rfl⟩⟩; refine ⟨_, rfl, ?_⟩; (try (rw [drewN_self wc]; generalize hq_ : World.drewN wc _ = wc; have n0_ : Aside0 (wc.heap[gb229]? = some (.cells #[.int .i64 x230000_1, .int .i64 x230001_1, .string x230002_1] 23 (0, 0))) := ⟨by rw [← hq_]; exact (by (with_reducible repeat (first | refine blk_drewN ?_ _ | refine blk_drew ?_ | refine blk_alloc ?_ _)); exact BK229.out)⟩; have n1_ : Aside0 (wc.heap[gb230]? = some (.cells #[.int .i64 x4_1, .int .i64 0, .string x231002_19] 23 (0, 0))) := ⟨by rw [← hq_]; exact (by (with_reducible repeat (first | refine blk_drewN ?_ _ | refine blk_drew ?_ | refine blk_alloc ?_ _)); exact BK230.out)⟩; have n2_ : Aside0 (Below w.heap.size w wc) := ⟨by rw [← hq_]; exact (by repeat (first | (with_reducible first | exact HB.out | apply below_alloc | apply pw_below_drewN | apply below_drew1 | refine below_set ?_ GE229.out | refine below_set ?_ GE230.out) | exact HB.out))⟩; clear BK229 BK230 HB hq_; have BK229 := n0_; have BK230 := n1_; have HB := n2_; clear n0_ n1_ n2_)); have hnb48 := NB230_229.out; have hnc48 := NB229_230.out; have hcz49_0 : wc.cell? ⟨gb230, 0, none⟩ = some (.int .i64 x4_1) := (blk_cell BK230.out 0).trans rfl; have hcz49_1 : wc.cell? ⟨gb230, 1, none⟩ = some (.int .i64 0) := (blk_cell BK230.out 1).trans rfl; have hcz49_2 : wc.cell? ⟨gb230, 2, none⟩ = some (.string x231002_19) := (blk_cell BK230.out 2).trans rfl; have hfz49_0 := blk_frozen BK230.out 0; have hfz49_1 := blk_frozen BK230.out 1; have hfz49_2 := blk_frozen BK230.out 2) | ((with_reducible refine gate_callee (f := 14) rfl ?_); refine goesL_ (some 66) rfl rfl Tryz.func14 (by kernel_rfl) rfl #[.agg #[.int .i64 x4_1, .int .i64 t234, .string x231002_19]] rfl (by (try simp only [List.map_toArray, List.map_cons, List.map_nil]); first | done | rfl | (simp only [List.length_drop, List.length_take]; rfl)) ?_; (with_reducible refine (threshingref14_Line.calls kj28 x4_1 t234 x231002_19 t235 t236 _ A37.out).mono ?_); rintro e w50 ⟨rfl, hb⟩; refine ⟨_, rfl, ?_⟩; have n0_ := Aside0.mk (blk_below (g := gb229) (o := .cells #[.int .i64 x230000_1, .int .i64 x230001_1, .string x230002_1] 23 (0, 0)) (by (with_reducible repeat (first | refine blk_drewN ?_ _ | refine blk_drew ?_ | refine blk_alloc ?_ _)); refine blk_far ?_ NB229_230.out _; (with_reducible repeat (first | refine blk_drewN ?_ _ | refine blk_drew ?_ | refine blk_alloc ?_ _)); exact BK229.out) hb); have n1_ := Aside0.mk (blk_below (g := gb230) (o := .cells #[.int .i64 x4_1, .int .i64 t234, .string x231002_19] 23 (0, 0)) (by (with_reducible repeat (first | refine blk_drewN ?_ _ | refine blk_drew ?_ | refine blk_alloc ?_ _)); refine blk_put (cs := #[.int .i64 x4_1, .int .i64 0, .string x231002_19]) ?_ 1 _ rfl; (with_reducible repeat (first | refine blk_drewN ?_ _ | refine blk_drew ?_ | refine blk_alloc ?_ _)); exact BK230.out) hb); have n2_ := Aside0.mk (below_step (by repeat (first | (with_reducible first | exact HB.out | apply below_alloc | apply pw_below_drewN | apply below_drew1 | refine below_set ?_ GE229.out | refine below_set ?_ GE230.out) | exact HB.out)) hb); clear BK229; clear BK230; clear HB; have BK229 := n0_; have BK230 := n1_; have HB := n2_; clear n0_ n1_ n2_; (try clear hb); (try clear hb2); (try clear hk); (try clear hi)))
                                  go_roundg kj28
                                  case measure => have := HK1.out; have := HJ4.out; have := HJ17.out; have := HJ19.out; have := HJ28.out; omega
                                  case rel => exact ⟨(wrap64 (x4_1 + 1)), (x230000_1), (x230001_1), (x230002_1), (by first | rfl | (simp; done) | (simp [*]; done)), H', ⟨by have := HK1.out; have := HJ4.out; have := HJ17.out; have := HJ19.out; have := HJ28.out; omega⟩, ⟨by (with_reducible repeat (first | refine blk_drewN ?_ _ | refine blk_drew ?_ | refine blk_alloc ?_ _)); exact BK229.out⟩, ⟨by repeat (first | (with_reducible first | exact HB.out | apply below_alloc | apply pw_below_drewN | apply below_drew1 | refine below_set ?_ GE229.out | refine below_set ?_ GE230.out) | exact HB.out)⟩⟩
                              · rw [if_neg c35] at H
                                exact absurd H (by simp)
                            · rw [if_neg c34] at H
                              exact absurd H (by simp)
                          · replace c32 := Bool.eq_false_iff.mpr c32
                            subst c32
                            have H1 : ((threshingref14_Line.f kj28 x4_1 0 x231002_19).bind fun bt237 => (if bt237.2 = 0 then (if bt237.1.toList = a0.toList then (some (x4_1, 0, x231002_19, 0)) else (threshingref14_Parse.l0 kj28 a0 (wrap64 (x4_1 + 1)))) else (threshingref14_Parse.l0 kj28 a0 (wrap64 (x4_1 + 1))))) = some (r1, r2, r3, r4) := by rw [if_neg (show ¬ (false = true) by decide)] at H; exact H
                            clear H
                            have H := H1
                            clear H1
                            replace H := Option.bind_eq_some_iff.mp H
                            obtain ⟨⟨t237, t238⟩, A510, H⟩ := H
                            replace H : (if t238 = 0 then (if t237.toList = a0.toList then (some (x4_1, 0, x231002_19, 0)) else (threshingref14_Parse.l0 kj28 a0 (wrap64 (x4_1 + 1)))) else (threshingref14_Parse.l0 kj28 a0 (wrap64 (x4_1 + 1)))) = some (r1, r2, r3, r4) := H
                            have A51 := Aside0.mk A510
                            clear A510
                            by_cases c52 : t238 = 0
                            · rw [if_pos c52] at H
                              have c52b0 : (t238 == 0) = true := beq_iff_eq.mpr c52
                              have c52b1 : (t238 != 0) = false := bne_eq_false_iff_eq.mpr c52
                              clear c52
                              by_cases c53 : t237.toList = a0.toList
                              · rw [if_pos c53] at H
                                have c53b0 : (t237.toList == a0.toList) = true := beq_iff_eq.mpr c53
                                have c53b1 : (t237.toList != a0.toList) = false := bne_eq_false_iff_eq.mpr c53
                                clear c53
                                simp only [Option.some.injEq, Prod.mk.injEq] at H
                                obtain ⟨rfl, rfl, rfl, rfl⟩ := H
                                have hnb54 := NB230_229.out
                                have hnc54 := NB229_230.out
                                have hcz55_0 : wc.cell? ⟨gb230, 0, none⟩ = some (.int .i64 x4_1) := (blk_cell BK230.out 0).trans rfl
                                have hcz55_1 : wc.cell? ⟨gb230, 1, none⟩ = some (.int .i64 0) := (blk_cell BK230.out 1).trans rfl
                                have hcz55_2 : wc.cell? ⟨gb230, 2, none⟩ = some (.string x231002_19) := (blk_cell BK230.out 2).trans rfl
                                have hfz55_0 := blk_frozen BK230.out 0
                                have hfz55_1 := blk_frozen BK230.out 1
                                have hfz55_2 := blk_frozen BK230.out 2
                                go_wp2_with (first | ((with_reducible refine gate_callee (f := 14) rfl ?_); refine goesL_ (some 66) rfl rfl Tryz.func14 (by kernel_rfl) rfl #[.agg #[.int .i64 x4_1, .int .i64 0, .string x231002_19]] rfl (by (try simp only [List.map_toArray, List.map_cons, List.map_nil]); first | done | rfl | (simp only [List.length_drop, List.length_take]; rfl)) ?_; (with_reducible refine (threshingref14_Line.calls kj28 x4_1 0 x231002_19 t237 t238 _ A51.out).mono ?_); rintro e w56 ⟨rfl, hb⟩; refine ⟨_, rfl, ?_⟩; have n0_ := Aside0.mk (blk_below (g := gb229) (o := .cells #[.int .i64 x230000_1, .int .i64 x230001_1, .string x230002_1] 23 (0, 0)) (by (with_reducible repeat (first | refine blk_drewN ?_ _ | refine blk_drew ?_ | refine blk_alloc ?_ _)); exact BK229.out) hb); have n1_ := Aside0.mk (blk_below (g := gb230) (o := .cells #[.int .i64 x4_1, .int .i64 0, .string x231002_19] 23 (0, 0)) (by (with_reducible repeat (first | refine blk_drewN ?_ _ | refine blk_drew ?_ | refine blk_alloc ?_ _)); exact BK230.out) hb); have n2_ := Aside0.mk (below_step (by repeat (first | (with_reducible first | exact HB.out | apply below_alloc | apply pw_below_drewN | apply below_drew1 | refine below_set ?_ GE229.out | refine below_set ?_ GE230.out) | exact HB.out)) hb); clear BK229; clear BK230; clear HB; have BK229 := n0_; have BK230 := n1_; have HB := n2_; clear n0_ n1_ n2_; (try clear hb); (try clear hb2); (try clear hk); (try clear hi); have hcz57_0 : w56.cell? ⟨gb230, 0, none⟩ = some (.int .i64 x4_1) := (blk_cell BK230.out 0).trans rfl; have hcz57_1 : w56.cell? ⟨gb230, 1, none⟩ = some (.int .i64 0) := (blk_cell BK230.out 1).trans rfl; have hcz57_2 : w56.cell? ⟨gb230, 2, none⟩ = some (.string x231002_19) := (blk_cell BK230.out 2).trans rfl; have hfz57_0 := blk_frozen BK230.out 0; have hfz57_1 := blk_frozen BK230.out 1; have hfz57_2 := blk_frozen BK230.out 2; have hcz58_0 : w56.cell? ⟨gb229, 0, none⟩ = some (.int .i64 x230000_1) := (blk_cell BK229.out 0).trans rfl; have hcz58_1 : w56.cell? ⟨gb229, 1, none⟩ = some (.int .i64 x230001_1) := (blk_cell BK229.out 1).trans rfl; have hcz58_2 : w56.cell? ⟨gb229, 2, none⟩ = some (.string x230002_1) := (blk_cell BK229.out 2).trans rfl; have hfz58_0 := blk_frozen BK229.out 0; have hfz58_1 := blk_frozen BK229.out 1; have hfz58_2 := blk_frozen BK229.out 2))
                                refine bodyPost_ret (results_ct rfl _ _ gb229 23 #[.int .i64 x4_1, .int .i64 0, .string x231002_19] (0, 0) _ rfl (by (with_reducible repeat (first | refine blk_drewN ?_ _ | refine blk_drew ?_ | refine blk_alloc ?_ _)); refine blk_put (cs := #[.int .i64 x4_1, .int .i64 0, .string x230002_1]) ?_ 2 _ rfl; (with_reducible repeat (first | refine blk_drewN ?_ _ | refine blk_drew ?_ | refine blk_alloc ?_ _)); refine blk_put (cs := #[.int .i64 x4_1, .int .i64 x230001_1, .string x230002_1]) ?_ 1 _ rfl; (with_reducible repeat (first | refine blk_drewN ?_ _ | refine blk_drew ?_ | refine blk_alloc ?_ _)); refine blk_put (cs := #[.int .i64 x230000_1, .int .i64 x230001_1, .string x230002_1]) ?_ 0 _ rfl; (with_reducible repeat (first | refine blk_drewN ?_ _ | refine blk_drew ?_ | refine blk_alloc ?_ _)); exact BK229.out) Tryz.underlying23 rfl (by kernel_rfl)) rfl ?_
                                exact ⟨by first | rfl | (simp [errW_none, errW_some] <;> rfl) | (simp [*, errW_none, errW_some] <;> rfl), by repeat (first | (with_reducible first | exact HB.out | apply below_alloc | apply pw_below_drewN | apply below_drew1 | refine below_set ?_ GE229.out | refine below_set ?_ GE230.out) | exact HB.out)⟩
                              · rw [if_neg c53] at H
                                have c53b0 : (t237.toList == a0.toList) = false := beq_eq_false_iff_ne.mpr c53
                                have c53b1 : (t237.toList != a0.toList) = true := bne_iff_ne.mpr c53
                                have H' := Aside0.mk H
                                clear H
                                have hnb59 := NB230_229.out
                                have hnc59 := NB229_230.out
                                have hcz60_0 : wc.cell? ⟨gb230, 0, none⟩ = some (.int .i64 x4_1) := (blk_cell BK230.out 0).trans rfl
                                have hcz60_1 : wc.cell? ⟨gb230, 1, none⟩ = some (.int .i64 0) := (blk_cell BK230.out 1).trans rfl
                                have hcz60_2 : wc.cell? ⟨gb230, 2, none⟩ = some (.string x231002_19) := (blk_cell BK230.out 2).trans rfl
                                have hfz60_0 := blk_frozen BK230.out 0
                                have hfz60_1 := blk_frozen BK230.out 1
                                have hfz60_2 := blk_frozen BK230.out 2
                                go_wp2_with (first | ((with_reducible refine gate_callee (f := 14) rfl ?_); refine goesL_ (some 66) rfl rfl Tryz.func14 (by kernel_rfl) rfl #[.agg #[.int .i64 x4_1, .int .i64 0, .string x231002_19]] rfl (by (try simp only [List.map_toArray, List.map_cons, List.map_nil]); first | done | rfl | (simp only [List.length_drop, List.length_take]; rfl)) ?_; (with_reducible refine (threshingref14_Line.calls kj28 x4_1 0 x231002_19 t237 t238 _ A51.out).mono ?_); rintro e w61 ⟨rfl, hb⟩; refine ⟨_, rfl, ?_⟩; have n0_ := Aside0.mk (blk_below (g := gb229) (o := .cells #[.int .i64 x230000_1, .int .i64 x230001_1, .string x230002_1] 23 (0, 0)) (by (with_reducible repeat (first | refine blk_drewN ?_ _ | refine blk_drew ?_ | refine blk_alloc ?_ _)); exact BK229.out) hb); have n1_ := Aside0.mk (blk_below (g := gb230) (o := .cells #[.int .i64 x4_1, .int .i64 0, .string x231002_19] 23 (0, 0)) (by (with_reducible repeat (first | refine blk_drewN ?_ _ | refine blk_drew ?_ | refine blk_alloc ?_ _)); exact BK230.out) hb); have n2_ := Aside0.mk (below_step (by repeat (first | (with_reducible first | exact HB.out | apply below_alloc | apply pw_below_drewN | apply below_drew1 | refine below_set ?_ GE229.out | refine below_set ?_ GE230.out) | exact HB.out)) hb); clear BK229; clear BK230; clear HB; have BK229 := n0_; have BK230 := n1_; have HB := n2_; clear n0_ n1_ n2_; (try clear hb); (try clear hb2); (try clear hk); (try clear hi)))
                                go_roundg kj28
                                case measure => have := HK1.out; have := HJ4.out; have := HJ17.out; have := HJ19.out; have := HJ28.out; omega
                                case rel => exact ⟨(wrap64 (x4_1 + 1)), (x230000_1), (x230001_1), (x230002_1), (by first | rfl | (simp; done) | (simp [*]; done)), H', ⟨by have := HK1.out; have := HJ4.out; have := HJ17.out; have := HJ19.out; have := HJ28.out; omega⟩, ⟨by (with_reducible repeat (first | refine blk_drewN ?_ _ | refine blk_drew ?_ | refine blk_alloc ?_ _)); exact BK229.out⟩, ⟨by repeat (first | (with_reducible first | exact HB.out | apply below_alloc | apply pw_below_drewN | apply below_drew1 | refine below_set ?_ GE229.out | refine below_set ?_ GE230.out) | exact HB.out)⟩⟩
                            · rw [if_neg c52] at H
                              have c52b0 : (t238 == 0) = false := beq_eq_false_iff_ne.mpr c52
                              have c52b1 : (t238 != 0) = true := bne_iff_ne.mpr c52
                              have H' := Aside0.mk H
                              clear H
                              have hnb62 := NB230_229.out
                              have hnc62 := NB229_230.out
                              have hcz63_0 : wc.cell? ⟨gb230, 0, none⟩ = some (.int .i64 x4_1) := (blk_cell BK230.out 0).trans rfl
                              have hcz63_1 : wc.cell? ⟨gb230, 1, none⟩ = some (.int .i64 0) := (blk_cell BK230.out 1).trans rfl
                              have hcz63_2 : wc.cell? ⟨gb230, 2, none⟩ = some (.string x231002_19) := (blk_cell BK230.out 2).trans rfl
                              have hfz63_0 := blk_frozen BK230.out 0
                              have hfz63_1 := blk_frozen BK230.out 1
                              have hfz63_2 := blk_frozen BK230.out 2
                              go_wp2_with (first | ((with_reducible refine gate_callee (f := 14) rfl ?_); refine goesL_ (some 66) rfl rfl Tryz.func14 (by kernel_rfl) rfl #[.agg #[.int .i64 x4_1, .int .i64 0, .string x231002_19]] rfl (by (try simp only [List.map_toArray, List.map_cons, List.map_nil]); first | done | rfl | (simp only [List.length_drop, List.length_take]; rfl)) ?_; (with_reducible refine (threshingref14_Line.calls kj28 x4_1 0 x231002_19 t237 t238 _ A51.out).mono ?_); rintro e w64 ⟨rfl, hb⟩; refine ⟨_, rfl, ?_⟩; have n0_ := Aside0.mk (blk_below (g := gb229) (o := .cells #[.int .i64 x230000_1, .int .i64 x230001_1, .string x230002_1] 23 (0, 0)) (by (with_reducible repeat (first | refine blk_drewN ?_ _ | refine blk_drew ?_ | refine blk_alloc ?_ _)); exact BK229.out) hb); have n1_ := Aside0.mk (blk_below (g := gb230) (o := .cells #[.int .i64 x4_1, .int .i64 0, .string x231002_19] 23 (0, 0)) (by (with_reducible repeat (first | refine blk_drewN ?_ _ | refine blk_drew ?_ | refine blk_alloc ?_ _)); exact BK230.out) hb); have n2_ := Aside0.mk (below_step (by repeat (first | (with_reducible first | exact HB.out | apply below_alloc | apply pw_below_drewN | apply below_drew1 | refine below_set ?_ GE229.out | refine below_set ?_ GE230.out) | exact HB.out)) hb); clear BK229; clear BK230; clear HB; have BK229 := n0_; have BK230 := n1_; have HB := n2_; clear n0_ n1_ n2_; (try clear hb); (try clear hb2); (try clear hk); (try clear hi)))
                              go_roundg kj28
                              case measure => have := HK1.out; have := HJ4.out; have := HJ17.out; have := HJ19.out; have := HJ28.out; omega
                              case rel => exact ⟨(wrap64 (x4_1 + 1)), (x230000_1), (x230001_1), (x230002_1), (by first | rfl | (simp; done) | (simp [*]; done)), H', ⟨by have := HK1.out; have := HJ4.out; have := HJ17.out; have := HJ19.out; have := HJ28.out; omega⟩, ⟨by (with_reducible repeat (first | refine blk_drewN ?_ _ | refine blk_drew ?_ | refine blk_alloc ?_ _)); exact BK229.out⟩, ⟨by repeat (first | (with_reducible first | exact HB.out | apply below_alloc | apply pw_below_drewN | apply below_drew1 | refine below_set ?_ GE229.out | refine below_set ?_ GE230.out) | exact HB.out)⟩⟩
      · rw [if_neg c3] at H
        have c3b0 : decide (x4_1 ≤ 23) = false := decide_eq_false c3
        clear c3
        simp only [Option.some.injEq, Prod.mk.injEq] at H
        obtain ⟨rfl, rfl, rfl, rfl⟩ := H
        have hcz65_0 : wr.cell? ⟨gb229, 0, none⟩ = some (.int .i64 x230000_1) := (blk_cell BK229.out 0).trans rfl
        have hcz65_1 : wr.cell? ⟨gb229, 1, none⟩ = some (.int .i64 x230001_1) := (blk_cell BK229.out 1).trans rfl
        have hcz65_2 : wr.cell? ⟨gb229, 2, none⟩ = some (.string x230002_1) := (blk_cell BK229.out 2).trans rfl
        have hfz65_0 := blk_frozen BK229.out 0
        have hfz65_1 := blk_frozen BK229.out 1
        have hfz65_2 := blk_frozen BK229.out 2
        go_wp2
        refine bodyPost_ret (results_ct rfl _ _ gb229 23 #[.int .i64 0, .int .i64 0, .string (⟨#[]⟩ : ByteArray)] (0, 0) _ rfl (by (with_reducible repeat (first | refine blk_drewN ?_ _ | refine blk_drew ?_ | refine blk_alloc ?_ _)); refine blk_put (cs := #[.int .i64 0, .int .i64 0, .string x230002_1]) ?_ 2 _ rfl; (with_reducible repeat (first | refine blk_drewN ?_ _ | refine blk_drew ?_ | refine blk_alloc ?_ _)); refine blk_put (cs := #[.int .i64 0, .int .i64 x230001_1, .string x230002_1]) ?_ 1 _ rfl; (with_reducible repeat (first | refine blk_drewN ?_ _ | refine blk_drew ?_ | refine blk_alloc ?_ _)); refine blk_put (cs := #[.int .i64 x230000_1, .int .i64 x230001_1, .string x230002_1]) ?_ 0 _ rfl; (with_reducible repeat (first | refine blk_drewN ?_ _ | refine blk_drew ?_ | refine blk_alloc ?_ _)); exact BK229.out) Tryz.underlying23 rfl (by kernel_rfl)) rfl ?_
        exact ⟨by first | rfl | (simp [errW_none, errW_some] <;> rfl) | (simp [*, errW_none, errW_some] <;> rfl), by repeat (first | (with_reducible first | exact HB.out | apply below_alloc | apply pw_below_drewN | apply below_drew1 | refine below_set ?_ GE229.out) | exact HB.out)⟩

end Go.Proofs.YtmgcpjgpmjhemaaGreatDoor.Pc

/-
How long 'esc' makes a text; when it leaves it as it is.
-/
namespace Go.Proofs.YtmgcpjgpmjhemaaGreatDoor.CodePure
open Go

def hitb (c : UInt8) : Bool := c == 10 || c == 92 || c == 34
def hits (l : Bs) : Nat := l.countP hitb

theorem esc1_len (c : UInt8) : (esc1 c).length = 1 + (if hitb c then 1 else 0) := by
  unfold esc1 hitb
  by_cases h1 : c = 34
  · subst h1; rfl
  · by_cases h2 : c = 92
    · subst h2; rfl
    · by_cases h3 : c = 10
      · subst h3; rfl
      · simp [h1, h2, h3]
theorem esc1_same {c : UInt8} (h : hitb c = false) : esc1 c = [c] := by
  have hl := esc1_len c
  unfold hitb at h
  simp at h
  simp [esc1, h]

theorem esc_len (l : Bs) : (esc l).length = l.length + hits l := by
  induction l with
  | nil => rfl
  | cons c l ih =>
    simp only [esc, List.flatMap_cons, List.length_append] at ih ⊢
    rw [show (l.flatMap esc1).length = (esc l).length from rfl] at ih ⊢
    simp only [hits, List.countP_cons, List.length_cons, esc1_len]
    rw [ih]
    simp only [hits]
    omega
theorem esc_same {l : Bs} (h : hits l = 0) : esc l = l := by
  induction l with
  | nil => rfl
  | cons c l ih =>
    have h1 : hitb c = false := by
      simp only [hits, List.countP_cons] at h
      by_cases hc : hitb c = true
      · simp [hc] at h
      · simpa using hc
    have h2 : hits l = 0 := by
      simp only [hits, List.countP_cons] at h ⊢
      omega
    simp only [esc, List.flatMap_cons, esc1_same h1]
    exact congrArg (c :: ·) (ih h2)
theorem hits_counts (l : Bs) : Lib.countByte l 10 + Lib.countByte l 92 + Lib.countByte l 34 = hits l := by
  induction l with
  | nil => rfl
  | cons c l ih =>
    simp only [Lib.countByte, hits, List.countP_cons, List.count_cons] at ih ⊢
    rw [← ih]
    unfold hitb
    by_cases h1 : c = 34
    · subst h1; simp; omega
    · by_cases h2 : c = 92
      · subst h2; simp; omega
      · by_cases h3 : c = 10
        · subst h3; simp; omega
        · simp [h1, h2, h3]
theorem hits_take {l : Bs} {k : Nat} {c : UInt8} (h : l[k]? = some c) : hits (l.take (k + 1)) = hits (l.take k) + (if hitb c then 1 else 0) := by
  rw [List.take_add_one, h]
  simp [hits, List.countP_append, List.countP_cons]
theorem esc_take {l : Bs} {k : Nat} {c : UInt8} (h : l[k]? = some c) : esc (l.take (k + 1)) = esc (l.take k) ++ esc1 c := by
  rw [List.take_add_one, h]
  simp [esc]
theorem hits_take_le (l : Bs) (k : Nat) : hits (l.take k) ≤ hits l := by
  have := List.take_append_drop k l
  have h : hits l = hits (l.take k) + hits (l.drop k) := by
    conv => lhs; rw [← this]
    exact List.countP_append
  omega
theorem hits_le (l : Bs) : hits l ≤ l.length := List.countP_le_length
theorem esc_take_len_le (l : Bs) (k : Nat) : (esc (l.take k)).length ≤ (esc l).length := by
  rw [esc_len, esc_len]
  have := hits_take_le l k
  simp
  omega
end Go.Proofs.YtmgcpjgpmjhemaaGreatDoor.CodePure

/-
What code.Print computes, said plainly.
-/
namespace Go.Proofs.YtmgcpjgpmjhemaaGreatDoor.Pc
open Go.RowKit Go.Proofs.YtmgcpjgpmjhemaaGreatDoorW.PrintWords Go.Proofs.YtmgcpjgpmjhemaaGreatDoorW.PrintLast Go.Proofs.YtmgcpjgpmjhemaaGreatDoorW.PrintMore
open CodePure (esc Bs)
set_option linter.unusedVariables false

def lineS (x : S23) : List UInt8 := lineL x.f0 x.f1 x.f2.data.toList
def mayS (x : S23) : Bool := mayB x.f0 x.f1 x.f2.data.toList
def okS (x : S23) : Prop := wfI x.f0 ∧ wfI x.f1 ∧ x.f2.size ≤ 100000
instance (x : S23) : Decidable (okS x) := inferInstanceAs (Decidable (_ ∧ _))
def linesL (l : List S23) : List UInt8 := l.flatMap fun x => lineS x ++ [10]

theorem lineL_len (op n : Int) (s : List UInt8) (h1 : wfI n) (hs : s.length ≤ 100000) (hop : 0 ≤ op ∧ op ≤ 23) : (lineL op n s).length ≤ 200100 := by
  have hk : ∀ k : Nat, k < 24 → (nameL k).length ≤ 6 := by decide +kernel
  have hn := hk op.toNat (by omega)
  rw [show ((op.toNat : Nat) : Int) = op by omega] at hn
  have hi := Lib.itoa_length_le n h1.1 h1.2
  have he := CodePure.esc_length s
  unfold lineL
  split
  · simp; omega
  · split
    · have h1 := hk 1 (by decide)
      rw [show ((1 : Nat) : Int) = 1 from rfl] at h1
      simp; omega
    · omega

theorem mayB_op {op n : Int} {s : List UInt8} (h : mayB op n s = true) : 0 ≤ op ∧ op ≤ 23 := by
  unfold mayB at h
  simp only [Bool.and_eq_true, decide_eq_true_eq] at h
  exact h.1.1
theorem lineS_len (x : S23) (h : okS x) (hm : mayS x = true) : (lineS x).length ≤ 200100 :=
  lineL_len _ _ _ h.2.1 (by have := h.2.2; simpa using this) (mayB_op hm)

theorem linesL_take {l : List S23} {k : Nat} {x : S23} (h : l[k]? = some x) : linesL (l.take (k + 1)) = linesL (l.take k) ++ (lineS x ++ [10]) := by
  rw [List.take_add_one, h]
  simp [linesL]
theorem rd_at {l : List S23} {k : Nat} (hk : k < l.length) : l[k]? = some (rd_T23 l k) := by
  simp [rd_T23, hk]

def code_Print.f (l : List S23) : Option (ByteArray × Int) :=
  if 200 < l.length then some (⟨#[]⟩, 5)
  else if ∀ x ∈ l, okS x then some (if l.all mayS then (bs (linesL l), 0) else (⟨#[]⟩, 1)) else none
end Go.Proofs.YtmgcpjgpmjhemaaGreatDoor.Pc

/-
The contracts of strings.Cut, Count, Split, HasSuffix, TrimSuffix and strconv.Itoa in the form that the printed walks take.
-/
namespace Go.Proofs.YtmgcpjgpmjhemaaGreatDoor.Pc
open Go.RowKit Go.Proofs.YtmgcpjgpmjhemaaGreatDoorW.PrintWords Go.Proofs.YtmgcpjgpmjhemaaGreatDoorW.PrintLast Go.Proofs.YtmgcpjgpmjhemaaGreatDoorW.PrintMore
set_option linter.unusedVariables false

theorem drawn_of {w w' : World} (h : ∃ n, w' = w.drewN n) : Drawn0 w w' := ⟨h⟩
theorem drawn_same {w w' : World} (h : w' = w) : Drawn0 w w' := by subst h; exact Drawn0.refl _

def strings_Cut.f (a0 a1 : ByteArray) : Option (ByteArray × ByteArray × Bool) :=
  if a0.size < 4294967281 then some (⟨(Lib.cut a0.data.toList a1.data.toList).1.toArray⟩, ⟨(Lib.cut a0.data.toList a1.data.toList).2.1.toArray⟩, (Lib.cut a0.data.toList a1.data.toList).2.2) else none
theorem strings_Cut.calls (a0 a1 : ByteArray) (r1 : ByteArray) (r2 : ByteArray) (r3 : Bool) (w : World) (hG : Gl w) (h : strings_Cut.f a0 a1 = some (r1, r2, r3)) :
    Calls Tryz.prog 49 #[.string a0, .string a1] w fun e w' => e = .returned (.tuple #[.string r1, .string r2, .bool r3]) ∧ Drawn0 w w' := by
  unfold strings_Cut.f at h
  split at h
  · rename_i hs
    simp only [Option.some.injEq, Prod.mk.injEq] at h
    obtain ⟨rfl, rfl, rfl⟩ := h
    obtain ⟨m, hm⟩ := hG.ml
    exact (Tryz.strings_Cut a0 a1 m w hs hm).mono fun e w' h => ⟨h.1, drawn_of h.2⟩
  · cases h

def strings_Count.f (a0 a1 : ByteArray) : Option Int := match a1.data.toList with
  | [c] => some (Lib.countByte a0.data.toList c)
  | _ => none
theorem strings_Count.calls (a0 a1 : ByteArray) (r : Int) (w : World) (h : strings_Count.f a0 a1 = some r) :
    Calls Tryz.prog 60 #[.string a0, .string a1] w fun e w' => e = .returned (.int .i64 r) ∧ Drawn0 w w' := by
  unfold strings_Count.f at h
  split at h
  · rename_i c hc
    obtain rfl := Option.some.inj h
    have e : a1 = ⟨#[c]⟩ := by
      cases a1 with
      | mk d => congr 1; exact Array.toList_inj.1 hc
    subst e
    exact (Tryz.strings_Count_one a0 c w).mono fun e w' h => ⟨h.1, drawn_same h.2⟩
  · cases h

def strings_Split.f (a0 a1 : ByteArray) : Option (List ByteArray) :=
  if a0.size < 4294967281 ∧ 1 ≤ a1.size then some (Lib.splitB a1 0 (Lib.countB a0 a1) a0) else none
theorem strings_Split.calls (a0 a1 : ByteArray) (r : List ByteArray) (w : World) (hG : Gl w) (h : strings_Split.f a0 a1 = some r) :
    Calls Tryz.prog 62 #[.string a0, .string a1] w fun e w' => ∃ v0_ : Value, e = .returned (v0_) ∧ Kd.R Kd.string 9 w' w.heap.size (fun _ => True) v0_ r ∧ Below w.heap.size w w' := by
  unfold strings_Split.f at h
  split at h
  · rename_i hs
    obtain rfl := Option.some.inj h
    obtain ⟨m, hm⟩ := hG.ml
    refine (Tryz.strings_Split a0 a1 m w hs.1 hm hs.2).mono fun e w' h => ?_
    obtain ⟨rfl, rfl⟩ := h
    have hl := Lib.splitB_all a1 hs.2 0 _ a0 rfl
    have hc := Lib.countB_le a1 hs.2 a0.size a0 (Nat.le_refl _)
    refine ⟨_, rfl, ?_, (Below.refl w.heap.size w).alloc (Nat.le_refl _) _⟩
    rw [← hl]
    exact R_strs w _ (by omega) _ (fun _ => trivial)
  · cases h

def strings_HasSuffix.f (a0 a1 : ByteArray) : Option Bool := if a0.size ≤ 9223372036854775807 then some (Lib.hasSuffix a0.data.toList a1.data.toList) else none
theorem strings_HasSuffix.calls (a0 a1 : ByteArray) (r : Bool) (w : World) (h : strings_HasSuffix.f a0 a1 = some r) :
    Calls Tryz.prog 61 #[.string a0, .string a1] w fun e w' => e = .returned (.bool r) ∧ Drawn0 w w' := by
  unfold strings_HasSuffix.f at h
  split at h
  · rename_i hs
    obtain rfl := Option.some.inj h
    exact (Tryz.strings_HasSuffix a0 a1 w hs).mono fun e w' h => ⟨h.1, drawn_same h.2⟩
  · cases h

def strings_TrimSuffix.f (a0 a1 : ByteArray) : Option ByteArray := if a0.size ≤ 9223372036854775807 then some ⟨(Lib.trimSuffix a0.data.toList a1.data.toList).toArray⟩ else none
theorem strings_TrimSuffix.calls (a0 a1 : ByteArray) (r : ByteArray) (w : World) (h : strings_TrimSuffix.f a0 a1 = some r) :
    Calls Tryz.prog 63 #[.string a0, .string a1] w fun e w' => e = .returned (.string r) ∧ Drawn0 w w' := by
  unfold strings_TrimSuffix.f at h
  split at h
  · rename_i hs
    obtain rfl := Option.some.inj h
    exact (Tryz.strings_TrimSuffix a0 a1 w hs).mono fun e w' h => ⟨h.1, drawn_same h.2⟩
  · cases h
end Go.Proofs.YtmgcpjgpmjhemaaGreatDoor.Pc

/-
The contracts of strconv.Itoa and code.figures in the form that the printed walks take.
-/
namespace Go.Proofs.YtmgcpjgpmjhemaaGreatDoor.Pc
open Go.RowKit Go.Proofs.YtmgcpjgpmjhemaaGreatDoorW.PrintWords Go.Proofs.YtmgcpjgpmjhemaaGreatDoorW.PrintLast Go.Proofs.YtmgcpjgpmjhemaaGreatDoorW.PrintMore
open CodePure (figs)
set_option linter.unusedVariables false

theorem below_grow (w : World) (k : Nat) (os : Array Obj) : Below w.heap.size w (Go.Sort.grow (w.drewN k) os) :=
  ⟨rfl, rfl, rfl, by simp [Go.Sort.grow], fun i hi => by
    show (w.heap ++ os)[i]? = _
    exact Array.getElem?_append_left hi⟩

theorem toList_data (s : ByteArray) : s.toList = s.data.toList := ByteArray.toList_eq s

theorem itoa_call (n : Int) (h0 : -9223372036854775808 ≤ n) (h1 : n ≤ 9223372036854775807) (w : World) (hG : Gl w) :
    Calls Tryz.prog 44 #[.int .i64 n] w fun e w' => e = .returned (.string ⟨(Lib.itoa n).toArray⟩) ∧ Below w.heap.size w w' := by
  refine (Tryz.strconv_Itoa n h0 h1 w hG.p10).mono fun e w' h => ⟨h.1, ?_⟩
  obtain ⟨k, os, rfl⟩ := h.2
  exact below_grow w k os

def atoiNum (l : List UInt8) : Int := match Lib.atoiAll l with
  | .ok v => v
  | Go.Lib.NumEnd.syntax => 0
  | .range => Lib.atoiSat l
def code_figures.f (a0 : ByteArray) : Option (Int × Bool) :=
  if a0.size ≤ 281474976710656 then some (atoiNum a0.data.toList, (figs a0.data.toList).isSome) else none

theorem code_figures.calls (a0 : ByteArray) (r1 : Int) (r2 : Bool) (w : World) (hG : Gl w) (h : code_figures.f a0 = some (r1, r2)) :
    Calls Tryz.prog 52 #[.string a0] w fun e w' => e = .returned (.tuple #[.int .i64 r1, .bool r2]) ∧ Below w.heap.size w w' := by
  have HG := Aside0.mk hG
  clear hG
  unfold code_figures.f at h
  split at h
  · rename_i hs
    simp only [Option.some.injEq, Prod.mk.injEq] at h
    have H1 := Aside0.mk h.1
    have H2 := Aside0.mk h.2
    clear h
    match ha : Lib.atoiAll a0.data.toList with
    | .ok v =>
      have hb := Lib.atoiAll_bounds ha
      have HA := Aside0.mk ha
      clear ha
      go_enter Tryz.func52, Tryz.ntmps52
      go_wp2_with fail
      refine (Tryz.strconv_Atoi_ok a0 (by omega) v HA.out w).mono ?_
      rintro e w' ⟨rfl, hw⟩
      have HB : Aside0 (Below w.heap.size w w') := ⟨by
        rcases hw with rfl | ⟨t, rfl⟩
        · exact Below.refl _ _
        · exact Lib.bytesWorld_below w _ t⟩
      clear hw
      go_wp2_with fail
      refine (itoa_call v hb.1 hb.2 w' (gl_below HG.out HB.out)).mono ?_
      rintro e w2 ⟨rfl, hb2⟩
      have HB2 : Aside0 (Below w.heap.size w w2) := ⟨below_then HB.out HB.out.size hb2⟩
      clear hb2
      go_wp2_with fail
      go_ret2
      have e1 : r1 = v := by rw [← H1.out, atoiNum, HA.out]
      have e2 : r2 = (Lib.itoa v == a0.toList) := by
        rw [← H2.out, figs, HA.out, toList_data]
        simp only
        by_cases e : Lib.itoa v = a0.data.toList
        · rw [if_pos e]; simp [e]
        · rw [if_neg e]; simp [e]
      subst e1 e2
      exact ⟨rfl, HB2.out⟩
    | Go.Lib.NumEnd.syntax =>
      obtain ⟨te, pe, hc⟩ := HG.out.syn
      have HA := Aside0.mk ha
      have HC := Aside0.mk hc
      clear ha hc
      go_enter Tryz.func52, Tryz.ntmps52
      go_wp2_with fail
      refine (Tryz.strconv_Atoi_syntax a0 (by omega) HA.out _ w HC.out (.inr ⟨te, pe, rfl⟩)).mono ?_
      rintro e w' ⟨N, rfl, _, _, hB⟩
      have HB := Aside0.mk hB
      clear hB
      go_wp2_with fail
      go_ret2
      have e1 : r1 = 0 := by rw [← H1.out, atoiNum, HA.out]
      have e2 : r2 = false := by rw [← H2.out, figs, HA.out]; rfl
      subst e1 e2
      exact ⟨rfl, HB.out⟩
    | .range =>
      obtain ⟨te, pe, hc⟩ := HG.out.rng
      have HA := Aside0.mk ha
      have HC := Aside0.mk hc
      clear ha hc
      go_enter Tryz.func52, Tryz.ntmps52
      go_wp2_with fail
      refine (Tryz.strconv_Atoi_range a0 (by omega) HA.out _ w HC.out (.inr ⟨te, pe, rfl⟩)).mono ?_
      rintro e w' ⟨N, rfl, _, _, hB⟩
      have HB := Aside0.mk hB
      clear hB
      go_wp2_with fail
      go_ret2
      have e1 : r1 = Lib.atoiSat a0.data.toList := by rw [← H1.out, atoiNum, HA.out]
      have e2 : r2 = false := by rw [← H2.out, figs, HA.out]; rfl
      subst e1 e2
      exact ⟨rfl, HB.out⟩
  · cases h
end Go.Proofs.YtmgcpjgpmjhemaaGreatDoor.Pc

/-
strings.ContainsRune over the three bytes of a quote's escapes, at every byte.
-/
namespace Go.Proofs.YtmgcpjgpmjhemaaGreatDoor.Pc
open Go.RowKit Go.Proofs.YtmgcpjgpmjhemaaGreatDoorW.PrintWords Go.Proofs.YtmgcpjgpmjhemaaGreatDoorW.PrintLast Go.Proofs.YtmgcpjgpmjhemaaGreatDoorW.PrintMore
set_option linter.unusedVariables false

theorem encode_two (r : Int) (h0 : 128 ≤ r) (h1 : r ≤ 255) : ∃ rs : ByteArray, Utf8.encode r = rs ∧ ∃ h : rs.size = 2, 128 ≤ (rs[1]'(by omega)).toNat := by
  refine ⟨_, rfl, ?_⟩
  have hv : Utf8.valid r = true := by unfold Utf8.valid; simp; omega
  have hc : ¬ r.toNat < 128 := by omega
  have hd : r.toNat < 2048 := by omega
  unfold Utf8.encode
  simp only [hv, if_true, hc, hd, if_false]
  refine ⟨rfl, ?_⟩
  show 128 ≤ (UInt8.ofNat (128 + r.toNat % 64)).toNat
  simp; omega

theorem quiet_add_same {P : Program} {f : FuncId} {args : Array Value} {w : World} {a n : Nat} {v : Value}
    (h : Calls P f args (w.drewN (a + n)) fun e w' => e = .returned v ∧ w' = w.drewN (a + n)) :
    Calls P f args (w.drewN (a + n)) fun e w'' => e = .returned v ∧ ∃ m, w'' = w.drewN (a + m) :=
  h.mono fun _ _ ⟨he, hm⟩ => ⟨he, n, hm⟩

theorem ib_call (c : UInt8) (hc : 128 ≤ c.toNat) (s : ByteArray) (hs : s.data.toList = [110]) (W : World) :
    Calls Tryz.prog 162 #[.string s, .int .u8 c.toNat] W fun e w' => e = .returned (.int .i64 (-1)) ∧ w' = W := by
  refine (Tryz.strings_IndexByte s c.toNat W).mono fun e w' hh => ⟨?_, hh.2⟩
  rw [hh.1, hs]
  have e : ((c.toNat : Int).toNat.toUInt8) = c := by simp
  have hn : ¬ ((110 : UInt8) = c) := by rintro rfl; exact absurd hc (by decide)
  rw [e]
  simp [Lib.indexByte, hn]

set_option maxRecDepth 100000 in
set_option maxHeartbeats 2000000 in
theorem indexRune_hi (r : Int) (h0 : 128 ≤ r) (h1 : r ≤ 255) (w : World) :
    Calls Tryz.prog 128 #[.string ⟨#[34, 92, 110]⟩, .int .i32 r] w fun e w' => e = .returned (.int .i64 (-1)) ∧ Drawn0 w w' := by
  obtain ⟨rs, he, hs, h1b⟩ := encode_two r h0 h1
  go_enter Tryz.func128, Tryz.ntmps128
  go_wp2_with fail
  refine (Tryz.utf8_ValidRune r w).mono ?_
  rintro e w' ⟨rfl, rfl⟩
  have hv : Lib.validRune r = true := by unfold Lib.validRune; simp; omega
  go_wp2_with fail
  go_step3
  have c1 : ((((⟨#[34, 92, 110]⟩ : ByteArray)[1]'(by decide)).toNat : Int) != ((rs[1]'(by omega)).toNat : Int)) = true := by
    rw [bne_iff_ne]
    show ((92 : Nat) : Int) ≠ _
    omega
  have w2 : IntKind.i64.wrap 2 = 2 := by decide
  go_wp2_with fail
  refine wp_loop_rounds 1 ?_
  rw [rounds_succ]
  go_wp2_with fail
  go_step3
  go_wp2_with fail
  go_quiet (fail)
  go_wp2_with fail
  go_quiet ((go_at_call 162; exact quiet_add_same (ib_call _ h1b _ rfl _)))
  go_wp2_with fail
  simp only [Exit.noGoto, Exit.inBlock, Exit.then]
  go_ret
  exact ⟨rfl, ⟨_, rfl⟩⟩

theorem containsRune (c : UInt8) (w : World) :
    Calls Tryz.prog 96 #[.string ⟨#[34, 92, 110]⟩, .int .i32 c.toNat] w fun e w' => e = .returned (.bool (c == 34 || c == 92 || c == 110)) ∧ Drawn0 w w' := by
  by_cases h : c.toNat < 128
  · refine (Tryz.strings_ContainsRune_ascii ⟨#[34, 92, 110]⟩ c.toNat w (by omega) (by omega)).mono fun e w' hh => ⟨?_, drawn_same hh.2⟩
    rw [hh.1]
    have e : ((c.toNat : Int).toNat.toUInt8) = c := by simp
    rw [e]
    congr 2
    show decide (0 ≤ Lib.indexByte [34, 92, 110] c) = _
    simp only [Lib.indexByte]
    by_cases h1 : c = 34
    · subst h1; rfl
    · by_cases h2 : c = 92
      · subst h2; rfl
      · by_cases h3 : c = 110
        · subst h3; rfl
        · simp [h1, h2, h3, Ne.symm h1, Ne.symm h2, Ne.symm h3]
  · have hi := indexRune_hi c.toNat (by omega) (by have := c.toNat_lt; omega) w
    have e0 : (c == 34 || c == 92 || c == 110) = false := by
      rw [Bool.or_eq_false_iff, Bool.or_eq_false_iff]
      refine ⟨⟨?_, ?_⟩, ?_⟩ <;> (rw [beq_eq_false_iff_ne]; rintro rfl; exact h (by decide))
    rw [e0]
    clear e0
    have HI := Lib.hid hi
    clear hi
    go_enter Tryz.func96, Tryz.ntmps96
    go_wp2_with fail
    refine HI.out.mono ?_
    rintro e w' ⟨rfl, ⟨n, rfl⟩⟩
    go_wp2_with fail
    go_ret
    exact ⟨rfl, ⟨_, rfl⟩⟩
end Go.Proofs.YtmgcpjgpmjhemaaGreatDoor.Pc

/-
The contract of code.quoted in the form that the printed walks take.
-/
namespace Go.Proofs.YtmgcpjgpmjhemaaGreatDoor.Pc
open Go.RowKit Go.Proofs.YtmgcpjgpmjhemaaGreatDoorW.PrintWords Go.Proofs.YtmgcpjgpmjhemaaGreatDoorW.PrintLast Go.Proofs.YtmgcpjgpmjhemaaGreatDoorW.PrintMore
open CodePure (unesc unescF Bs)
set_option linter.unusedVariables false

def quotedB (a : ByteArray) : Option Bs := if a.size < 2 then none else if bt a 0 ≠ 34 then none else if bt a (a.size - 1) ≠ 34 then none else unesc (a.extract 1 (a.size - 1)).data.toList
def code_quoted.f (a0 : ByteArray) : Option (ByteArray × Bool) :=
  if a0.size ≤ 140737488355328 then some (match quotedB a0 with
    | some l => (⟨l.toArray⟩, true)
    | none => (⟨#[]⟩, false)) else none

theorem drop_byte (s : ByteArray) (k : Nat) (c : UInt8) (h : k < s.size) (hc : s[k]'h = c) : s.data.toList.drop k = c :: s.data.toList.drop (k + 1) := by
  have hl : k < s.data.toList.length := by simpa using h
  rw [List.drop_eq_getElem_cons hl]
  congr 1
theorem fin_none {l : Bs} {res : Option Bs} {r1 : ByteArray} {r2 : Bool} (H : Aside0 ((match unesc l with
    | some l => ((⟨l.toArray⟩ : ByteArray), true)
    | none => (⟨#[]⟩, false)) = (r1, r2))) (HR : unescF false l = res) (hn : res = none) : r1 = ⟨#[]⟩ ∧ r2 = false := by
  have h := H.out
  unfold unesc at h
  rw [HR, hn] at h
  simp only [Prod.mk.injEq] at h
  exact ⟨h.1.symm, h.2.symm⟩
theorem fin_some {l : Bs} {res : Option Bs} {r1 : ByteArray} {r2 : Bool} {out : Bs} (H : Aside0 ((match unesc l with
    | some l => ((⟨l.toArray⟩ : ByteArray), true)
    | none => (⟨#[]⟩, false)) = (r1, r2))) (HR : unescF false l = res) (hn : res = some out) : r1 = ⟨out.toArray⟩ ∧ r2 = true := by
  have h := H.out
  unfold unesc at h
  rw [HR, hn] at h
  simp only [Prod.mk.injEq] at h
  exact ⟨h.1.symm, h.2.symm⟩

abbrev IsB (B b : Nat) (l : List UInt8) (w : World) : Prop := Lib.IsBuilder 84 5 B b (Lib.byteCells l) w

set_option maxRecDepth 100000 in
set_option maxHeartbeats 2000000 in
theorem code_quoted.calls (a0 : ByteArray) (r1 : ByteArray) (r2 : Bool) (w : World) (h : code_quoted.f a0 = some (r1, r2)) :
    Calls Tryz.prog 53 #[.string a0] w fun e w' => e = .returned (.tuple #[.string r1, .bool r2]) ∧ Below w.heap.size w w' := by
  unfold code_quoted.f quotedB at h
  split at h
  · rename_i hs
    simp only [Option.some.injEq] at h
    by_cases h2 : a0.size < 2
    · rw [if_pos h2] at h
      simp only [Prod.mk.injEq] at h
      obtain ⟨rfl, rfl⟩ := h
      go_enter Tryz.func53, Tryz.ntmps53
      go_wp2
      go_ret2
      exact ⟨rfl, Below.refl _ _⟩
    · rw [if_neg h2] at h
      have b0 : ((a0[0]'(by omega)).toNat : Int) = bt a0 0 := by simpa using bt_at a0 0 (by simp; omega)
      by_cases h3 : bt a0 0 ≠ 34
      · rw [if_pos h3] at h
        simp only [Prod.mk.injEq] at h
        obtain ⟨rfl, rfl⟩ := h
        have c3 : (bt a0 0 != 34) = true := bne_iff_ne.mpr h3
        clear h3
        go_enter Tryz.func53, Tryz.ntmps53
        go_wp2
        go_ret2
        exact ⟨rfl, Below.refl _ _⟩
      · rw [if_neg h3] at h
        have h3' : bt a0 0 = 34 := Decidable.not_not.mp h3
        have c3 : (bt a0 0 != 34) = false := bne_eq_false_iff_eq.mpr h3'
        have b1 : ((a0[a0.size - 1]'(by omega)).toNat : Int) = bt a0 (a0.size - 1) := by
          have := bt_at a0 (a0.size - 1) (by omega)
          rw [← this]
          congr 2
          simp only [show ((a0.size : Int) - 1).toNat = a0.size - 1 by omega]
        by_cases h4 : bt a0 (a0.size - 1) ≠ 34
        · rw [if_pos h4] at h
          simp only [Prod.mk.injEq] at h
          obtain ⟨rfl, rfl⟩ := h
          have c4 : (bt a0 (a0.size - 1) != 34) = true := bne_iff_ne.mpr h4
          clear h4 h3' h3
          go_enter Tryz.func53, Tryz.ntmps53
          go_wp2
          go_ret2
          exact ⟨rfl, Below.refl _ _⟩
        · rw [if_neg h4] at h
          have c4 : (bt a0 (a0.size - 1) != 34) = false := bne_eq_false_iff_eq.mpr (Decidable.not_not.mp h4)
          clear h4 h3' h3
          have hsz : (a0.extract 1 (a0.size - 1)).size = a0.size - 2 := by simp; omega
          obtain ⟨inb, hin⟩ : ∃ x, a0.extract 1 (a0.size - 1) = x := ⟨_, rfl⟩
          rw [hin] at h hsz
          have H := Aside0.mk h
          have h2i : 2 ≤ a0.size := by omega
          clear h
          go_enter Tryz.func53, Tryz.ntmps53
          go_wp2
          obtain ⟨res, HR⟩ : ∃ res, Aside0 (unescF false inb.data.toList = res) := ⟨_, ⟨rfl⟩⟩
          have hB0 : IsB w.heap.size w.heap.size [] (w.alloc (.cells #[.pointer none, .slice none 0 0] 84)) :=
            .inl ⟨Nat.le_refl _, .slice none 0 0, heap_alloc_new w _, own_nil _ _ _ _, by simp [Value.ownBlock]⟩
          have HB0 := Aside0.mk hB0
          clear hB0
          go_loopw [6] (fun i wr => ∃ k : Nat, i = .int .i64 k ∧ k ≤ inb.size ∧ ∃ out : List UInt8, Aside0 (IsB w.heap.size w.heap.size out wr) ∧ Aside0 (out.length ≤ k) ∧ Aside0 ((unescF false (inb.data.toList.drop k)).map (out ++ ·) = res) ∧ Aside0 (Below w.heap.size w wr)) (fun i _ => inb.size - (intOf i).toNat)
          case atStart => exact ⟨0, rfl, Nat.zero_le _, [], HB0, ⟨Nat.le_refl _⟩, ⟨by rw [← HR.out]; simp⟩, ⟨(Below.refl w.heap.size w).alloc (Nat.le_refl _) _⟩⟩
          case round =>
            obtain ⟨k, rfl, hk, out, HBl, HL, HU, HW⟩ := hrel
            by_cases hlt : k < inb.size
            · obtain ⟨c, hc⟩ : ∃ c, inb[k]'hlt = c := ⟨_, rfl⟩
              have hcons : inb.data.toList.drop k = c :: inb.data.toList.drop (k + 1) := drop_byte inb k c hlt hc
              have HU1 : Aside0 ((unescF false (c :: inb.data.toList.drop (k + 1))).map (out ++ ·) = res) := ⟨hcons ▸ HU.out⟩
              have hc255 : c.toNat < 256 := c.toNat_lt
              clear hcons HU
              by_cases h34 : c = 34 ∨ c = 10
              · have hn := CodePure.un_bad HU1.out h34
                have hf := fin_none H HR.out hn
                have t34 : ((c.toNat : Int) == 34 || (c.toNat : Int) == 10) = true := by
                  rcases h34 with rfl | rfl <;> decide
                obtain ⟨rfl, rfl⟩ := hf
                clear hn
                by_cases h34' : c = 34
                · have t1 : ((c.toNat : Int) == 34) = true := by rw [h34']; decide
                  clear h34 h34' t34
                  go_wp2
                  go_ret2
                  exact ⟨rfl, HW.out⟩
                · have t1 : ((c.toNat : Int) == 34) = false := by rw [beq_eq_false_iff_ne]; intro e; exact h34' (UInt8.toNat_inj.1 (by show c.toNat = 34; omega))
                  have t2 : ((c.toNat : Int) == 10) = true := by
                    rcases h34 with h | h
                    · exact absurd h h34'
                    · rw [h]; decide
                  clear h34 h34' t34
                  go_wp2
                  go_ret2
                  exact ⟨rfl, HW.out⟩
              · have n34 : c ≠ 34 := fun e => h34 (.inl e)
                have n10 : c ≠ 10 := fun e => h34 (.inr e)
                have t1 : ((c.toNat : Int) == 34) = false := by rw [beq_eq_false_iff_ne]; intro e; exact n34 (UInt8.toNat_inj.1 (by show c.toNat = 34; omega))
                have t2 : ((c.toNat : Int) == 10) = false := by rw [beq_eq_false_iff_ne]; intro e; exact n10 (UInt8.toNat_inj.1 (by show c.toNat = 10; omega))
                by_cases h92 : c = 92
                · have t3 : ((c.toNat : Int) == 92) = true := by rw [h92]; decide
                  by_cases hk1 : k + 1 < inb.size
                  · obtain ⟨d, hd⟩ : ∃ d, inb[k + 1]'hk1 = d := ⟨_, rfl⟩
                    have hcons1 : inb.data.toList.drop (k + 1) = d :: inb.data.toList.drop (k + 1 + 1) := drop_byte inb (k + 1) d hk1 hd
                    have HU2 : Aside0 ((unescF false (92 :: d :: inb.data.toList.drop (k + 1 + 1))).map (out ++ ·) = res) := ⟨by have := HU1.out; rw [hcons1, h92] at this; exact this⟩
                    have hd255 : d.toNat < 256 := d.toNat_lt
                    have tk : ((k : Int) + 1 == (inb.size : Int)) = false := by rw [beq_eq_false_iff_ne]; omega
                    clear hcons1 HU1 h92 n34 n10 h34
                    by_cases hq : d = 34 ∨ d = 92 ∨ d = 110
                    · have hcr : (d == 34 || d == 92 || d == 110) = true := by
                        rcases hq with h | h | h <;> rw [h] <;> decide
                      have HCR : Aside0 (∀ W, Calls Tryz.prog 96 #[.string ⟨#[34, 92, 110]⟩, .int .i32 d.toNat] W fun e w' => e = .returned (.bool true) ∧ Drawn0 W w') := ⟨fun W => hcr ▸ containsRune d W⟩
                      clear hcr
                      by_cases hn : d = 110
                      · have t4 : ((d.toNat : Int) == 110) = true := by rw [hn]; decide
                        have HU3 : Aside0 ((unescF false (inb.data.toList.drop (k + 1 + 1))).map ((out ++ [10]) ++ ·) = res) := ⟨CodePure.un_escn (hn ▸ HU2.out)⟩
                        clear hq hn HU2
                        go_wp2_with fail
                        refine (HCR.out _).mono ?_
                        rintro e w' ⟨rfl, ⟨nd, rfl⟩⟩
                        have HBd : Aside0 (IsB w.heap.size w.heap.size out (wr.drewN nd)) := ⟨HBl.out⟩
                        have HWd : Aside0 (Below w.heap.size w (wr.drewN nd)) := ⟨pw_below_drewN HW.out nd⟩
                        go_wp2_with fail
                        refine (Tryz.Builder_WriteByte w.heap.size w.heap.size (Lib.byteCells out) 10 _ HBd.out (by have := HL.out; simp [Lib.byteCells]; omega) HWd.out.size).mono ?_
                        rintro e w' ⟨rfl, hbd, hbw⟩
                        have HBl2 : Aside0 (IsB w.heap.size w.heap.size (out ++ [10]) w') := ⟨.inr (by rw [Lib.byteCells, List.map_append]; exact hbd)⟩
                        have HW2 : Aside0 (Below w.heap.size w w') := ⟨HWd.out.trans hbw⟩
                        have HL2 : Aside0 ((out ++ [10]).length ≤ k + 1 + 1) := ⟨by have := HL.out; simp; omega⟩
                        clear hbd hbw
                        go_wp2_with fail
                        go_roundw
                        case rel => exact ⟨k + 1 + 1, by go_num, by omega, out ++ [10], HBl2, HL2, HU3, HW2⟩
                        case measure => simp [intOf]; omega
                      · have t4 : ((d.toNat : Int) == 110) = false := by rw [beq_eq_false_iff_ne]; intro e; exact hn (UInt8.toNat_inj.1 (by show d.toNat = 110; omega))
                        have HU3 : Aside0 ((unescF false (inb.data.toList.drop (k + 1 + 1))).map ((out ++ [d]) ++ ·) = res) := ⟨CodePure.un_esc HU2.out (hq.imp id fun h => h.resolve_right hn)⟩
                        clear hq hn HU2
                        go_wp2_with fail
                        refine (HCR.out _).mono ?_
                        rintro e w' ⟨rfl, ⟨nd, rfl⟩⟩
                        have HBd : Aside0 (IsB w.heap.size w.heap.size out (wr.drewN nd)) := ⟨HBl.out⟩
                        have HWd : Aside0 (Below w.heap.size w (wr.drewN nd)) := ⟨pw_below_drewN HW.out nd⟩
                        go_wp2_with fail
                        refine (Tryz.Builder_WriteByte w.heap.size w.heap.size (Lib.byteCells out) d.toNat _ HBd.out (by have := HL.out; simp [Lib.byteCells]; omega) HWd.out.size).mono ?_
                        rintro e w' ⟨rfl, hbd, hbw⟩
                        have HBl2 : Aside0 (IsB w.heap.size w.heap.size (out ++ [d]) w') := ⟨.inr (by rw [Lib.byteCells, List.map_append]; exact hbd)⟩
                        have HW2 : Aside0 (Below w.heap.size w w') := ⟨HWd.out.trans hbw⟩
                        have HL2 : Aside0 ((out ++ [d]).length ≤ k + 1 + 1) := ⟨by have := HL.out; simp; omega⟩
                        clear hbd hbw
                        go_wp2_with fail
                        go_roundw
                        case rel => exact ⟨k + 1 + 1, by go_num, by omega, out ++ [d], HBl2, HL2, HU3, HW2⟩
                        case measure => simp [intOf]; omega
                    · have hcr : (d == 34 || d == 92 || d == 110) = false := by
                        rw [Bool.or_eq_false_iff, Bool.or_eq_false_iff]
                        exact ⟨⟨beq_eq_false_iff_ne.2 fun e => hq (.inl e), beq_eq_false_iff_ne.2 fun e => hq (.inr (.inl e))⟩, beq_eq_false_iff_ne.2 fun e => hq (.inr (.inr e))⟩
                      have HCR : Aside0 (∀ W, Calls Tryz.prog 96 #[.string ⟨#[34, 92, 110]⟩, .int .i32 d.toNat] W fun e w' => e = .returned (.bool false) ∧ Drawn0 W w') := ⟨fun W => hcr ▸ containsRune d W⟩
                      obtain ⟨rfl, rfl⟩ := fin_none H HR.out (CodePure.un_escbad HU2.out (fun e => hq (.inl e)) (fun e => hq (.inr (.inl e))) (fun e => hq (.inr (.inr e))))
                      clear hcr hq HU2
                      go_wp2_with fail
                      refine (HCR.out _).mono ?_
                      rintro e w' ⟨rfl, ⟨nd, rfl⟩⟩
                      go_wp2_with fail
                      go_ret2
                      exact ⟨rfl, pw_below_drewN HW.out nd⟩
                  · have tk : ((k : Int) + 1 == (inb.size : Int)) = true := by rw [beq_iff_eq]; omega
                    have he : inb.data.toList.drop (k + 1) = [] := List.drop_eq_nil_of_le (by have : inb.data.toList.length = inb.size := (by simp); omega)
                    obtain ⟨rfl, rfl⟩ := fin_none H HR.out (CodePure.un_end (f := (out ++ ·)) (by have := HU1.out; rw [he, h92] at this; exact this))
                    clear he HU1 h92 n34 n10 h34
                    go_wp2
                    go_ret2
                    exact ⟨rfl, HW.out⟩
                · have t3 : ((c.toNat : Int) == 92) = false := by rw [beq_eq_false_iff_ne]; intro e; exact h92 (UInt8.toNat_inj.1 (by show c.toNat = 92; omega))
                  have HU2 : Aside0 ((unescF false (inb.data.toList.drop (k + 1))).map ((out ++ [c]) ++ ·) = res) := ⟨CodePure.un_plain HU1.out n34 n10 h92⟩
                  clear HU1 h92 n34 n10 h34
                  go_wp2_with fail
                  refine (Tryz.Builder_WriteByte w.heap.size w.heap.size (Lib.byteCells out) c.toNat wr HBl.out (by have := HL.out; simp [Lib.byteCells]; omega) HW.out.size).mono ?_
                  rintro e w' ⟨rfl, hbd, hbw⟩
                  have HBl2 : Aside0 (IsB w.heap.size w.heap.size (out ++ [c]) w') := ⟨.inr (by rw [Lib.byteCells, List.map_append]; exact hbd)⟩
                  have HW2 : Aside0 (Below w.heap.size w w') := ⟨HW.out.trans hbw⟩
                  have HL2 : Aside0 ((out ++ [c]).length ≤ k + 1) := ⟨by have := HL.out; simp; omega⟩
                  clear hbd hbw
                  go_wp2_with fail
                  go_roundw
                  case rel => exact ⟨k + 1, by go_num, by omega, out ++ [c], HBl2, HL2, HU2, HW2⟩
                  case measure => simp [intOf]; omega
            · obtain rfl : k = inb.size := by omega
              have hres : res = some out := by
                have := HU.out
                rw [List.drop_eq_nil_of_le (by simp)] at this
                rw [← this]
                simp [unescF]
              obtain ⟨rfl, rfl⟩ := fin_some H HR.out hres
              clear hres
              go_wp2_with fail
              refine (Tryz.Builder_String_any w.heap.size w.heap.size out wr HBl.out HW.out.size).mono ?_
              rintro e w' ⟨rfl, hbw⟩
              have HW2 : Aside0 (Below w.heap.size w w') := ⟨HW.out.trans hbw⟩
              clear hbw
              go_wp2_with fail
              go_ret2
              exact ⟨rfl, HW2.out⟩
  · cases h
end Go.Proofs.YtmgcpjgpmjhemaaGreatDoor.Pc
