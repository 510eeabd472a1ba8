/-
strings.NewReplacer and (*strings.Replacer).Replace at the three pairs that code.Line hands over.
-/
import Derived.Test.YtmgcpjgpmjhemaaGreatDoorExtOnce
import Derived.WalkSpells
import Derived.Test.YtmgcpjgpmjhemaaGreatDoorExtRune
import Derived.Deep.AppendLies
import Derived.Laws.MakeOwn
import Derived.Laws.IdiomStrings
import Derived.Laws.NewBlocks
import Derived.Lib.SliceRun
import Derived.Deep.WholeRow
namespace Go.Proofs.YtmgcpjgpmjhemaaGreatDoor.Pc
open Go.RowKit Go.Proofs.YtmgcpjgpmjhemaaGreatDoorW.PrintWords Go.Proofs.YtmgcpjgpmjhemaaGreatDoorW.PrintLast Go.Proofs.YtmgcpjgpmjhemaaGreatDoorW.PrintMore
set_option linter.unusedVariables false

structure ReplCells (w : World) (b : Nat) : Prop where
  c0 : w.cell? ⟨b, 0, none⟩ = some (.string ⟨#[34]⟩)
  c1 : w.cell? ⟨b, 1, none⟩ = some (.string ⟨#[92, 34]⟩)
  c2 : w.cell? ⟨b, 2, none⟩ = some (.string ⟨#[92]⟩)
  c3 : w.cell? ⟨b, 3, none⟩ = some (.string ⟨#[92, 92]⟩)
  c4 : w.cell? ⟨b, 4, none⟩ = some (.string ⟨#[10]⟩)
  c5 : w.cell? ⟨b, 5, none⟩ = some (.string ⟨#[92, 110]⟩)

/-- A Replacer that has not been built yet; 'k': what its lock says. -/
structure IsRepl (k : Int) (w : World) (p ob : Nat) : Prop where
  d : w.cell? ⟨p, 0, none⟩ = some (.int .u32 0)
  l : w.cell? ⟨p, 1, none⟩ = some (.int .i32 k)
  r : w.cell? ⟨p, 3, none⟩ = some .nilIface
  o : ∃ oc, w.cell? ⟨p, 4, none⟩ = some (.slice (some ⟨ob, 0, none⟩) 6 oc)
  z : ∀ i, w.frozen? ⟨p, i, none⟩ = false
  lt : ob < p
  cs : ReplCells w ob

set_option maxRecDepth 100000 in
set_option maxHeartbeats 1600000 in
theorem newReplacer (b : Nat) (w : World) (hc : ReplCells w b) :
    Calls Tryz.prog 45 #[.slice (some ⟨b, 0, none⟩) 6 6] w fun e w' => ∃ p ob, e = .returned (.pointer (some ⟨p, 0, none⟩)) ∧ IsRepl 0 w' p ob ∧ w.heap.size ≤ p ∧ Below w.heap.size w w' := by
  obtain ⟨c0, c1, c2, c3, c4, c5⟩ := hc
  go_enter Tryz.func45, Tryz.ntmps45
  go_wp2_with fail
  go_ret
  refine ⟨w.heap.size + 1, w.heap.size, rfl, ⟨?_, ?_, ?_, ⟨(Question.appendCap 6 0 9).cut (w.tape w.drawn (Question.appendCap 6 0 9)), ?_⟩, ?_, Nat.lt_succ_self _, ?_⟩, Nat.le_succ _, ?_⟩
  · go_simp
  · go_simp
  · go_simp
  · go_simp; try rfl
  · intro i; go_simp
  · constructor <;> (go_simp; rw [Array.getElem?_append_left (by simp)]; rfl)
  · exact (((Below.refl _ _).alloc (Nat.le_refl _) _).alloc (by simp) _).drew

theorem zero_bsr : Tryz.zeroCells203 = Array.replicate 257 (.slice none 0 0) := by kernel_rfl

theorem store_bsr (v : Value) (hv : v.oneCell' = true) : ∃ cs : Array Value, cs.size = 257 ∧ (∀ i, i < 256 → cs[i]? = some (.slice none 0 0)) ∧ cs[256]? = some v ∧
    ∀ (w w' : World) (n : Nat), n = w.heap.size → (storeCells ⟨n, 0, none⟩ (Tryz.zeroCells203.toList.set 256 v)).run Tryz.prog (w.alloc (.cells Tryz.zeroCells203 203)) = .ok () (w.alloc (.cells cs 203)) := by
  refine ⟨((Array.replicate 257 (.slice none 0 0)).setIfInBounds 256 v), by simp, fun i hi => ?_, by simp, ?_⟩
  · rw [Array.getElem?_setIfInBounds_ne (by omega), Array.getElem?_replicate, if_pos (by omega)]
  · rintro w w' n rfl
    rw [zero_bsr]
    have h := run_storeCells_new (P := Tryz.prog) w 203 (Array.replicate 257 (.slice none 0 0)) ((Array.replicate 257 (.slice none 0 0)).setIfInBounds 256 v) (by simp only [Array.size_setIfInBounds, Array.size_replicate]; kernel_rfl) (by simp) (by
      rw [Array.all_eq_true]
      intro i hi
      rw [Array.getElem_setIfInBounds (by simpa using hi)]
      split
      · exact hv
      · rw [Array.getElem_replicate]; rfl)
    simpa only [Array.toList_setIfInBounds] using h

theorem conv_one (W : World) (n : Nat) (z : Int) (hn : n = W.heap.size) (h0 : 0 ≤ z) (h1 : z < 256) :
    (convert 82 9 (.slice (some ⟨n, 0, none⟩) 1 1)).run Tryz.prog (W.alloc (.cells #[.int .u8 z] 5)) = .ok (.string ⟨#[UInt8.ofNat z.toNat]⟩) (W.alloc (.cells #[.int .u8 z] 5)) := by
  subst hn
  refine run_convert_bytes_back (W.alloc (.cells #[.int .u8 z] 5)) 82 9 5 ⟨W.heap.size, 0, none⟩ 1 [UInt8.ofNat z.toNat] Tryz.underlying82 Tryz.underlying5 Tryz.underlying9 (fun j hj => ?_)
  have hj0 : j = 0 := by simpa using hj
  subst hj0
  have e : ((⟨W.heap.size, 0, none⟩ : Addr).add 0) = ⟨W.heap.size, 0, none⟩ := rfl
  rw [e, World.cell?_alloc_new]
  simp
  omega

theorem conv_one1 (W : World) (n : Nat) (z : Int) (hn : n = W.heap.size) (h0 : 0 ≤ z) (h1 : z < 256) :
    (convert 82 9 (.slice (some ⟨n, 0, none⟩) 1 1)).run Tryz.prog (W.alloc (.cells #[.int .u8 z] 5)).drew = .ok (.string ⟨#[UInt8.ofNat z.toNat]⟩) (W.alloc (.cells #[.int .u8 z] 5)).drew := by
  have h := conv_one W.drew n z hn h0 h1
  exact h
theorem conv_one2 (W : World) (n : Nat) (z : Int) (hn : n = W.heap.size) (h0 : 0 ≤ z) (h1 : z < 256) :
    (convert 82 9 (.slice (some ⟨n, 0, none⟩) 1 1)).run Tryz.prog (W.alloc (.cells #[.int .u8 z] 5)).drew.drew = .ok (.string ⟨#[UInt8.ofNat z.toNat]⟩) (W.alloc (.cells #[.int .u8 z] 5)).drew.drew := by
  have h := conv_one W.drew.drew n z hn h0 h1
  exact h

theorem conv_bytes (W : World) (s : ByteArray) :
    (convert 9 82 (.string s)).run Tryz.prog W = .ok (.slice (some ⟨W.heap.size, 0, none⟩) s.size (grownCap W s.size 0 5))
      (W.drew.alloc (.cells (bytesRow s (grownCap W s.size 0 5)) 5 ((bytesRow s (grownCap W s.size 0 5)).size, (bytesRow s (grownCap W s.size 0 5)).size + 1))) :=
  run_bytes_of_string W 9 82 5 s Tryz.underlying9 Tryz.underlying82 Tryz.underlying5

/-- A byteStringReplacer for the three bytes: what its cells hold. -/
structure IsBsr (w : World) (q : Nat) : Prop where
  no : ∀ i, i < 256 → i ≠ 10 → i ≠ 34 → i ≠ 92 → w.cell? ⟨q, i, none⟩ = some (.slice none 0 0)
  r10 : ∃ a c, w.cell? ⟨q, 10, none⟩ = some (.slice (some ⟨a, 0, none⟩) 2 c) ∧ w.cell? ⟨a, 0, none⟩ = some (.int .u8 92) ∧ w.cell? ⟨a, 1, none⟩ = some (.int .u8 110)
  r34 : ∃ a c, w.cell? ⟨q, 34, none⟩ = some (.slice (some ⟨a, 0, none⟩) 2 c) ∧ w.cell? ⟨a, 0, none⟩ = some (.int .u8 92) ∧ w.cell? ⟨a, 1, none⟩ = some (.int .u8 34)
  r92 : ∃ a c, w.cell? ⟨q, 92, none⟩ = some (.slice (some ⟨a, 0, none⟩) 2 c) ∧ w.cell? ⟨a, 0, none⟩ = some (.int .u8 92) ∧ w.cell? ⟨a, 1, none⟩ = some (.int .u8 92)
  tr : ∃ b c, w.cell? ⟨q, 256, none⟩ = some (.slice (some ⟨b, 0, none⟩) 3 c) ∧ w.cell? ⟨b, 0, none⟩ = some (.string ⟨#[10]⟩) ∧ w.cell? ⟨b, 1, none⟩ = some (.string ⟨#[92]⟩) ∧ w.cell? ⟨b, 2, none⟩ = some (.string ⟨#[34]⟩)

theorem cell_keep {w w' : World} (hb : Below w.heap.size w w') {a : Addr} {v : Value} (hc : w.cell? a = some v) : w'.cell? a = some v := (hb.cell (World.block_lt_of_cell? w _ hc)).trans hc
theorem IsBsr.below {w w' : World} {q : Nat} (h : IsBsr w q) (hb : Below w.heap.size w w') : IsBsr w' q := by
  obtain ⟨no, ⟨a1, c1, p1, p2, p3⟩, ⟨a2, c2, q1, q2, q3⟩, ⟨a3, c3, r1, r2, r3⟩, ⟨b, c, s1, s2, s3, s4⟩⟩ := h
  exact ⟨fun i hi h1 h2 h3 => cell_keep hb (no i hi h1 h2 h3), ⟨a1, c1, cell_keep hb p1, cell_keep hb p2, cell_keep hb p3⟩, ⟨a2, c2, cell_keep hb q1, cell_keep hb q2, cell_keep hb q3⟩, ⟨a3, c3, cell_keep hb r1, cell_keep hb r2, cell_keep hb r3⟩, ⟨b, c, cell_keep hb s1, cell_keep hb s2, cell_keep hb s3, cell_keep hb s4⟩⟩

theorem cell_marked (W : World) (c : Array Value) (t : TypeId) (fr : Nat × Nat) (n i : Nat) (hn : n = W.heap.size) : (W.alloc (.cells c t fr)).cell? ⟨n, i, none⟩ = c[i]? := by
  subst hn
  exact World.cell?_alloc_mark W c t fr i

theorem set_two {cs cs1 : Array Value} {i : Nat} {u v : Value} (h : (cs.setIfInBounds 256 u).setIfInBounds i v = cs1) (hs : Aside0 (cs.size = 257)) (hi : i < 256) :
    Aside0 (cs1.size = 257) ∧ cs1[256]? = some u ∧ cs1[i]? = some v ∧ Aside0 (∀ j, j < 256 → j ≠ i → cs1[j]? = cs[j]?) := by
  have hs := hs.out
  subst h
  refine ⟨⟨by simpa using hs⟩, ?_, ?_, ⟨fun j hj hne => ?_⟩⟩
  · rw [Array.getElem?_setIfInBounds_ne (by omega), Array.getElem?_setIfInBounds_self_of_lt (by omega)]
  · rw [Array.getElem?_setIfInBounds_self_of_lt (by simp; omega)]
  · rw [Array.getElem?_setIfInBounds_ne (by omega), Array.getElem?_setIfInBounds_ne (by omega)]

set_option maxRecDepth 100000 in
set_option maxHeartbeats 1600000 in
theorem repl_build (p ob : Nat) (w : World) (h : IsRepl 1 w p ob) :
    Calls Tryz.prog 122 #[.pointer (some ⟨p, 0, none⟩)] w fun e w' => ∃ q, e = .returned (.iface 204 (.pointer (some ⟨q, 0, none⟩))) ∧ IsBsr w' q ∧ Below w.heap.size w w' := by
  obtain ⟨hd, hl, hr, ⟨oc, ho⟩, hz, hlt, ⟨c0, c1, c2, c3, c4, c5⟩⟩ := h
  obtain ⟨cs, hcsz, hcs0, hcs256, hst0⟩ := store_bsr (.slice (some ⟨w.heap.size, 0, none⟩) 0 3) rfl
  have hst := fun W : World => hst0 W W _ rfl
  have hst1 := hst (w.alloc (.cells #[.string ⟨#[]⟩, .string ⟨#[]⟩, .string ⟨#[]⟩] 9))
  rw [show (w.alloc (.cells #[.string ⟨#[]⟩, .string ⟨#[]⟩, .string ⟨#[]⟩] 9)).heap.size = w.heap.size + 1 by simp] at hst1
  clear hst hst0
  have b0 : ob < w.heap.size := World.block_lt_of_cell? w _ c0
  have b1 : ob ≤ w.heap.size := by omega
  have b2 : ob < w.heap.size + 2 := by omega
  have b3 : ob < w.heap.size + 3 := by omega
  have b4 : ob < w.heap.size + 4 := by omega
  have b5 : ob < w.heap.size + 5 := by omega
  have b6 : ob < w.heap.size + 6 := by omega
  have b7 : ob < w.heap.size + 7 := by omega
  have b8 : ob < w.heap.size + 8 := by omega
  have b9 : ob < w.heap.size + 9 := by omega
  have b10 : ob < w.heap.size + 10 := by omega
  have b11 : ob < w.heap.size + 11 := by omega
  have b12 : ob < w.heap.size + 12 := by omega
  have b13 : ob < w.heap.size + 13 := by omega
  have b14 : ob < w.heap.size + 14 := by omega
  have e10 : ∀ h, ((⟨#[10]⟩ : ByteArray)[0]'h).toNat = 10 := fun _ => rfl
  have e34 : ∀ h, ((⟨#[34]⟩ : ByteArray)[0]'h).toNat = 34 := fun _ => rfl
  have e92 : ∀ h, ((⟨#[92]⟩ : ByteArray)[0]'h).toNat = 92 := fun _ => rfl
  have z10 := hcs0 10 (by decide)
  have z34 := hcs0 34 (by decide)
  have z92 := hcs0 92 (by decide)
  have HS0 := Aside0.mk hcsz
  have HS00 := Aside0.mk hcs0
  clear hcs0 hcsz
  have hc1 := conv_one
  have hc11 := conv_one1
  have hc12 := conv_one2
  have hc2 := conv_bytes
  have emk : madeCells (Value.string ⟨#[]⟩).cells ((3 : Int).toNat * Tryz.t9.size) = #[.string ⟨#[]⟩, .string ⟨#[]⟩, .string ⟨#[]⟩] := by kernel_rfl
  have hmk : ∀ w, (Instr.makeSlice 73 (.int .i64 0) (.int .i64 3)).run Tryz.prog w = .ok (.slice (some ⟨w.heap.size, 0, none⟩) 0 3) (w.alloc (.cells #[.string ⟨#[]⟩, .string ⟨#[]⟩, .string ⟨#[]⟩] 9)) := fun w => by
    have h := run_make w 73 9 Tryz.t9 (.string ⟨#[]⟩) Tryz.underlying73 (by kernel_rfl) (by kernel_rfl) .i64 .i64 0 3 (by decide) (by decide) (by decide) (by decide)
    rw [emk] at h
    exact h
  clear emk
  go_enter Tryz.func122, Tryz.ntmps122
  go_wp2_with fail
  refine wp_loop_rounds 4 ?_
  rw [rounds_succ]
  go_wp2_with fail
  rw [rounds_succ]
  go_wp2_with fail
  rw [rounds_succ]
  go_wp2_with fail
  rw [rounds_succ]
  go_wp2_with fail
  have hq : ∀ (w : World) (a : Option Addr) (n c n' c' : Nat), (binOp .eql 82 (.slice a n c) (.slice none n' c')).run Tryz.prog w = .ok (.bool a.isNone) w := fun w a n c n' c' => Lib.run_eql_slice_nil w _ _ a n c n' c' Tryz.underlying82
  refine wp_loop_rounds 4 ?_
  rw [rounds_succ]
  go_wp2_with fail
  generalize grownCap _ 2 0 5 = g1
  generalize hE1 : (cs.setIfInBounds 256 _).setIfInBounds 10 _ = cs1
  obtain ⟨HS1, y1, x10, HJ1⟩ := set_two hE1 HS0 (by decide)
  have x92 := (HJ1.out 92 (by decide) (by decide)).trans z92
  have x34 := (HJ1.out 34 (by decide) (by decide)).trans z34
  clear hE1 hcs256
  rw [rounds_succ]
  go_wp2_with fail
  generalize grownCap _ 2 0 5 = g2
  generalize hE2 : (cs1.setIfInBounds 256 _).setIfInBounds 92 _ = cs2
  obtain ⟨HS2, y2, v92, HJ2⟩ := set_two hE2 HS1 (by decide)
  have v10 := (HJ2.out 10 (by decide) (by decide)).trans x10
  have v34 := (HJ2.out 34 (by decide) (by decide)).trans x34
  clear hE2 y1
  rw [rounds_succ]
  go_wp2_with fail
  generalize grownCap _ 2 0 5 = g3
  generalize hE3 : (cs2.setIfInBounds 256 _).setIfInBounds 34 _ = cs3
  obtain ⟨HS3, y3, u34, HJ3⟩ := set_two hE3 HS2 (by decide)
  have u10 := (HJ3.out 10 (by decide) (by decide)).trans v10
  have u92 := (HJ3.out 92 (by decide) (by decide)).trans v92
  clear hE3 y2
  rw [rounds_succ]
  go_wp2_with fail
  go_ret
  have br : ∀ (x y : UInt8) (g : Nat), (bytesRow ⟨#[x, y]⟩ g)[0]? = some (.int .u8 x.toNat) ∧ (bytesRow ⟨#[x, y]⟩ g)[1]? = some (.int .u8 y.toNat) := by
    intro x y g
    constructor <;> simp [bytesRow, Array.getElem?_append]
  have hcm := cell_marked
  refine ⟨w.heap.size + 1, rfl, ⟨fun i hi h1 h2 h3 => ?_, ?_, ?_, ?_, ?_⟩, ?_⟩
  · have := ((HJ3.out i hi h2).trans ((HJ2.out i hi h3).trans (HJ1.out i hi h1))).trans (HS00.out i hi)
    go_simp
  · refine ⟨w.heap.size + 1 + 1 + 1 + 1, g1, ?_, ?_, ?_⟩
    · go_simp
    · have := (br 92 110 g1).1
      go_simp
    · have := (br 92 110 g1).2
      go_simp
  · refine ⟨w.heap.size + 1 + 1 + 1 + 1 + 1 + 1 + 1 + 1 + 1 + 1, g3, ?_, ?_, ?_⟩
    · go_simp
    · have := (br 92 34 g3).1
      go_simp
    · have := (br 92 34 g3).2
      go_simp
  · refine ⟨w.heap.size + 1 + 1 + 1 + 1 + 1 + 1 + 1, g2, ?_, ?_, ?_⟩
    · go_simp
    · have := (br 92 92 g2).1
      go_simp
    · have := (br 92 92 g2).2
      go_simp
  · refine ⟨w.heap.size, 3, ?_, ?_, ?_, ?_⟩
    · go_simp
    · go_simp
    · go_simp
    · go_simp
  · repeat first | exact Below.refl _ _ | refine Below.drew ?_ | refine Below.alloc ?_ (by simp <;> omega) _
end Go.Proofs.YtmgcpjgpmjhemaaGreatDoor.Pc
