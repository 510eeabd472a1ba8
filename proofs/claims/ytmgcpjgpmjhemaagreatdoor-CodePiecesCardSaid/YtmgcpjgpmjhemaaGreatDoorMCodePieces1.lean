/-
Parts of the proof of CodePieces: ExtBase, RowBase, Pc0, Shelf, ExtWords, Pc2, ExtOps, ExtArity, Pc3. No condition of ours.
-/
import Derived.Test.YtmgcpjgpmjhemaaGreatDoorProg
import Derived.WalkSmall
import Derived.Lib.LaidTab
import Derived.Lib.Tables
import Derived.Lib.FieldsLaws
import Derived.Lib.ItoaMem
import Derived.KernelRfl
import Derived.Test.YtmgcpjgpmjhemaaGreatDoorRows
import Derived.WalkKit
import Derived.ProofKit
import Derived.HandedShaped
import Derived.Shelf.Vars
import Derived.Lib.LaidU8
import Derived.Lay
import Derived.SevenTiedAt
import Derived.Test.YtmgcpjgpmjhemaaGreatDoorCards
import Derived.Below
import Derived.Deep.Draws
import Derived.Deep.AppendLies
import Derived.Maps.AppendAt
import Derived.OwnWalk
import Derived.Laws.BytesArg
import Derived.Laws.MakeOwn
import Derived.Laws.OwnMore
import Derived.Deep.OwnRows
import Derived.Tactics
import Derived.Lib.ConvBytes
import Derived.Laws.Slices
import Derived.RowKit3
import Derived.Deep.LoopGhost
import Derived.Deep.QuietTactic
import Derived.BigQuiet
import Derived.WideLaws
import Derived.Deep.DeepCutAuto
import Derived.Deep.CutBlock
import Derived.Deep.RegionHeld3
import Derived.Laws.Rows
import Derived.Lib.AppendStr
import Derived.ArgAppend
import Derived.Laws.IdiomCopy
import Derived.OrdersHeld
import Derived.Laws.BitsLemmas
import Derived.RowKit
import Derived.Test.YtmgcpjgpmjhemaaGreatDoorWWords
import Derived.Test.YtmgcpjgpmjhemaaGreatDoorWLast
import Derived.Test.YtmgcpjgpmjhemaaGreatDoorWTab
import Derived.Test.YtmgcpjgpmjhemaaGreatDoorWQPut
import Derived.Test.YtmgcpjgpmjhemaaGreatDoorWApart
import Derived.Test.YtmgcpjgpmjhemaaGreatDoorWArr
import Derived.Test.YtmgcpjgpmjhemaaGreatDoorWZeros
import Derived.Test.YtmgcpjgpmjhemaaGreatDoorWFoot
import Derived.Test.YtmgcpjgpmjhemaaGreatDoorWKept
import Derived.Test.YtmgcpjgpmjhemaaGreatDoorWShare
import Derived.Test.YtmgcpjgpmjhemaaGreatDoorWN
import Derived.Test.YtmgcpjgpmjhemaaGreatDoorWEqStruct
import Derived.Test.YtmgcpjgpmjhemaaGreatDoorWRepsOne
import Derived.Test.YtmgcpjgpmjhemaaGreatDoorWGuard
import Derived.Test.YtmgcpjgpmjhemaaGreatDoorWNEv
import Derived.Test.YtmgcpjgpmjhemaaGreatDoorWMore
import Derived.Shelf.Strings.Builder1
import Derived.Shelf.Small.Utf8
import Derived.Shelf.Small.Strs
import Derived.Shelf.LaysM
import Derived.Shelf.Strconv.Itoa3
import Derived.Shelf.LaysC
import Derived.Shelf.Strconv.AtoiAll
import Derived.Shelf.Strings.Cut
import Derived.Shelf.Strings.Count
import Derived.Shelf.Strings.Prefix
import Derived.Shelf.Strings.Split
import Derived.Shelf.Strings.SplitShaped
import Derived.Shelf.Strings.Runes
import Derived.Shelf.Strings.Builder2
import Derived.Shelf.Strings.BuilderX
import Derived.Shelf.Lays
import Derived.Maps.Own
import Derived.Maps.Ext
/-
What the package-level variables hold that the walks read: 'Gl', kept by every later world that keeps what was there.
-/
namespace Go.Proofs.YtmgcpjgpmjhemaaGreatDoor.Pc
open Go.RowKit

structure Gl (w : World) : Prop where
  sp : Lib.TabIs Tryz.prog w "strings.asciiSpace" .u8 Lib.asciiSpaceTab
  p10 : Lib.TabIs Tryz.prog w "internal/strconv.uint64pow10" .u64 Lib.pow10Tab
  syn : ∃ te pe, w.cell? ⟨4, 0, none⟩ = some (.iface te pe)
  rng : ∃ te pe, w.cell? ⟨5, 0, none⟩ = some (.iface te pe)
  ml : ∃ m, w.cell? ⟨1, 0, none⟩ = some (.int .i64 m)

theorem var_lt {w : World} {n : String} {cs : Array Value} {g : Nat} (hg : Tryz.prog.globalNamed n = some g) (hv : w.var? Tryz.prog n = some cs) : g < w.heap.size := by
  unfold World.var? at hv
  simp only [hg, Option.bind_some] at hv
  rcases Nat.lt_or_ge g w.heap.size with h | h
  · exact h
  · rw [Array.getElem?_eq_none h] at hv
    simp at hv

theorem gl_below {w w' : World} (h : Gl w) (hb : Below w.heap.size w w') : Gl w' := by
  have key : ∀ {a : Addr} {v : Value}, w.cell? a = some v → w'.cell? a = some v := fun hc => (hb.cell (World.block_lt_of_cell? w _ hc)).trans hc
  refine ⟨?_, ?_, ?_, ?_, ?_⟩
  · exact var?_below (g := 0) hb (by kernel_rfl) (var_lt (by kernel_rfl) h.sp) h.sp
  · exact var?_below (g := 3) hb (by kernel_rfl) (var_lt (by kernel_rfl) h.p10) h.p10
  · obtain ⟨te, pe, hc⟩ := h.syn; exact ⟨te, pe, key hc⟩
  · obtain ⟨te, pe, hc⟩ := h.rng; exact ⟨te, pe, key hc⟩
  · obtain ⟨m, hc⟩ := h.ml; exact ⟨m, key hc⟩
end Go.Proofs.YtmgcpjgpmjhemaaGreatDoor.Pc

/-
From the rows' listed variables and the world's shape to 'Gl'; the wrap that keeps both; the witness.
-/
namespace Go.Proofs.YtmgcpjgpmjhemaaGreatDoor.Pc
open Go.ChangeShapes Go.WideShapes Go.ChangeAt Go.RowKit
set_option linter.unusedVariables false

theorem own : ownKnob Tryz.prog.godebug = none := by kernel_rfl

theorem tab_of_reads {P : Program} {W : World} {name : String} {k : IntKind} {zs : List Int} {g : Nat} {t e : TypeId} {n : Nat} (hg : P.globalNamed name = some g) (hty : (P.globals[g]?).map (·.type) = some t)
    (ht : P.underlying t = some (.array n e)) (he : P.underlying e = some (.int k)) (hce : P.cellsOf e = 1) (hct : P.cellsOf t = n) (h : Lib.VarReads P W name (Lib.tabData k zs)) : Lib.TabIs P W name k zs := by
  obtain ⟨g', t', cs, fuel, p, hg', ht', hvar, hd⟩ := h
  obtain rfl := Option.some.inj (hg.symm.trans hg')
  obtain rfl := Option.some.inj (hty.symm.trans ht')
  unfold Lib.TabIs
  rw [hvar, ← Lib.cells_of_tab ht he hce hct hd]
theorem iface_of_reads {P : Program} {W : World} {name nm : String} {d : DataW Unit} {g : Nat} {t : TypeId} {ms : Array (String × TypeId)} (hg : P.globalNamed name = some g) (hty : (P.globals[g]?).map (·.type) = some t)
    (ht : P.underlying t = some (.interface ms)) (h : Lib.VarReads P W name (.iface nm d)) : ∃ te pe, W.cell? ⟨g, 0, none⟩ = some (.iface te pe) := by
  obtain ⟨g', t', cs, fuel, p, hg', ht', hvar, hd⟩ := h
  obtain rfl := Option.some.inj (hg.symm.trans hg')
  obtain rfl := Option.some.inj (hty.symm.trans ht')
  obtain ⟨_, u, v, hcs, _, _⟩ := iface_of_trod ht hd
  refine ⟨u, v, ?_⟩
  rw [World.var?_cell hg hvar 0]
  rw [← Array.getElem?_toList, hcs]
  rfl

abbrev laid : List (String × DataW Unit) := Rows.codeOneRow.laid
theorem asc_eq : (Rows.laid_strings_asciiSpace : DataW Unit) = Lib.tabData .u8 Lib.asciiSpaceTab := by kernel_rfl
theorem pow_eq : (Rows.laid_internal_strconv_uint64pow10 : DataW Unit) = Lib.tabData .u64 Lib.pow10Tab := by kernel_rfl

theorem gl_of {W : World} (hL : laidMetH Tryz.prog laid W) (hsh : W.ShapedOpen Tryz.prog) : Gl W := by
  rw [MakeChecks.laidMetH_plain _ _ _ (by kernel_rfl)] at hL
  refine ⟨?_, ?_, ?_, ?_, ?_⟩
  · exact tab_of_reads (g := 0) (t := 158) (e := 5) (n := 256) (by kernel_rfl) (by kernel_rfl) (by kernel_rfl) (by kernel_rfl) (by kernel_rfl) (by kernel_rfl) (asc_eq ▸ Lib.laidMet.reads hL (by simp [laid, Rows.codeOneRow]))
  · exact tab_of_reads (g := 3) (t := 232) (e := 136) (n := 20) (by kernel_rfl) (by kernel_rfl) (by kernel_rfl) (by kernel_rfl) (by kernel_rfl) (by kernel_rfl) (pow_eq ▸ Lib.laidMet.reads hL (by simp [laid, Rows.codeOneRow]))
  · exact iface_of_reads (d := .ptr (.agg [.lit (.string [105, 110, 118, 97, 108, 105, 100, 32, 115, 121, 110, 116, 97, 120])])) (name := "strconv.ErrSyntax") (nm := "*errors.errorString") (t := 86) (by kernel_rfl) (by kernel_rfl) Tryz.underlying86 (Lib.laidMet.reads hL (by simp [laid, Rows.codeOneRow, Rows.laid_strconv_ErrSyntax]))
  · exact iface_of_reads (d := .ptr (.agg [.lit (.string [118, 97, 108, 117, 101, 32, 111, 117, 116, 32, 111, 102, 32, 114, 97, 110, 103, 101])])) (name := "strconv.ErrRange") (nm := "*errors.errorString") (t := 86) (by kernel_rfl) (by kernel_rfl) Tryz.underlying86 (Lib.laidMet.reads hL (by simp [laid, Rows.codeOneRow, Rows.laid_strconv_ErrRange]))
  · exact cell_of_shapedOpen_int (zero := #[.int .i64 0]) (t := 3) hsh (of_decide_eq_true (by kernel_rfl)) (by kernel_rfl) rfl (by kernel_rfl) (by kernel_rfl) Tryz.underlying3

/-- The plain wrap that keeps the listed variables and the world's shape. -/
theorem returns_laid {H : Type} {enc : TypeId × Value → H} {a : Assume} {C : Checked} {os : Os} {f : FuncId} {fn : Func} {s : ChangeSpec} {conds : List PathCond} {apart fresh handsOn again : Bool} {X : World → Array Value → Prop}
    (hX : ∀ (w w' : World) (args : Array Value), w.heap = w'.heap → X w args → X w' args)
    (own : ownKnob C.prog.godebug = none) (started : os.Started) (noInit : C.prog.inits.idxOf? f = none) (hfn : C.prog.funcs[f]? = some fn)
    (witness : ∃ (w : World) (tape : Tape) (i : Input), w.os = os ∧ (w.forCall tape i).Shaped C.prog ∧ i.vars = [] ∧ Input.okWide C.prog (w.forCall tape i) .any w.heap.size f i ∧
      ((s.pre enc C.prog fn conds apart (w.forCall tape i).memory i.args ∧ X (w.forCall tape i).memory i.args) ∧ sizedMet enc C.prog fn (OpenSpec.ofChange s) apart (w.forCall tape i).memory i.args) ∧ a.holds C.prog (lone (Frame.enter C.prog f i.args .normal) [] (w.forCall tape i)))
    (contract : ∀ (W : World) (base : Nat) (args : Array Value) (ds gs : List (DataW H)) (before : List MemPlace),
      (∀ (j : Nat) t v, fn.params[j]? = some t → args[j]? = some v → Value.okWide C.prog W .any base t v) →
      DataW.Whole enc C.prog fn.params.toList s.vars apart W args.toList ds gs before →
      (DataW.weightsEach C.prog (fn.params.toList ++ s.plain.varTypes C.prog) (ds ++ gs)).all (· ≤ reachBytes) = true → X W args → W.ShapedOpen C.prog →
      Calls C.prog f args W fun e W' => ∃ v, e = .returned v ∧ s.post enc C.prog fn apart fresh handsOn again W args v W') :
    ReturnsInHanded a C os f .any (fun w args => (s.pre enc C.prog fn conds apart w args ∧ X w args) ∧ sizedMet enc C.prog fn (OpenSpec.ofChange s) apart w args) (s.post enc C.prog fn apart fresh handsOn again) := by
  refine returnsInHanded_of_calls own started noInit witness ?_
  intro w tape i _ hsh _ hok hpre hholds
  obtain ⟨_, _, _, fn', hfn', _, _, _, _, hval⟩ := hok
  have e : fn' = fn := Option.some.inj (hfn'.symm.trans hfn)
  subst e
  obtain ⟨⟨⟨ds, gs, before, hw, hc⟩, hx⟩, hz⟩ := hpre
  have hw' := DataW.Whole.of_heap (w' := w.forCall tape i) (by rfl) hw
  refine (contract (w.forCall tape i) w.heap.size i.args ds gs before hval hw' (hz.weights hw) (hX _ _ _ (by rfl) hx) hsh).mono fun e W' ⟨v, he, hp⟩ => ?_
  subst he
  exact ChangeSpec.post_blind hp

set_option maxRecDepth 100000 in
theorem start_shaped (os : Os) : (World.laidAll Tryz.prog os laid).Shaped Tryz.prog := World.shaped_of_ZipB (by kernel_rfl) (by kernel_rfl)
set_option maxRecDepth 100000 in
theorem start_met (os : Os) (args : Array Value) : laidMetH Tryz.prog laid ((World.laidAll Tryz.prog os laid).forCall (fun _ _ => 0) ⟨#[], args, []⟩).memory := by
  rw [Go.MakeChecks.laidMetH_plain _ _ _ (by kernel_rfl)]
  exact laidMet_laidAll _ (by kernel_rfl) (by kernel_rfl)
end Go.Proofs.YtmgcpjgpmjhemaaGreatDoor.Pc

namespace Go.Proofs.YtmgcpjgpmjhemaaGreatDoor.Pc
open Go.RowKit Go.Proofs.YtmgcpjgpmjhemaaGreatDoorW.PrintWords Go.Proofs.YtmgcpjgpmjhemaaGreatDoorW.PrintLast Go.Proofs.YtmgcpjgpmjhemaaGreatDoorW.PrintMore
attribute [local go_sem] max2_int min2_int max_two min_two max_three min_three max_four min_four   -- for this text's walks alone
set_option linter.unusedVariables false
set_option linter.unusedSimpArgs false



def errW : Option Int → Value
  | none => .nilIface
  | some c => .iface 0 (.int .i64 c)
theorem errW_none : errW none = .nilIface := rfl
theorem errW_some (c : Int) : errW (some c) = .iface 0 (.int .i64 c) := rfl

theorem info5 : (Tryz.prog.info? 5).map (fun i => (i.zero, i.size, i.bytes)) = some (some (.int .u8 0), 1, 1) := by kernel_rfl
theorem info9 : (Tryz.prog.info? 9).map (fun i => (i.zero, i.size, i.bytes)) = some (some (.string ⟨#[]⟩), 1, 16) := by kernel_rfl
theorem info23 : (Tryz.prog.info? 23).map (fun i => (i.zero, i.size, i.bytes)) = some (some (.agg #[(.int .i64 0), (.int .i64 0), (.string ⟨#[]⟩)]), 3, 32) := by kernel_rfl
-- the values' own types
def rd_L1 (xs : List (List ByteArray)) (i : Int) : (List ByteArray) := xs.getD i.toNat ([] : List ByteArray)
theorem at_L1 {w : World} {A : Option Addr} {n : Nat} {xs : List (List ByteArray)} (h : Kd.C (Kd.slice 9 Kd.string) w A n xs) (i : Int) (h0 : 0 ≤ i) (h1 : i < n) : ∃ ad A0 c0, A = some ad ∧ w.cell? (ad.add i.toNat) = some (.slice A0 (rd_L1 xs i).length c0) ∧ (rd_L1 xs i).length ≤ c0 ∧ Kd.string.C w A0 (rd_L1 xs i).length (rd_L1 xs i) := by
  obtain ⟨ad, c, e, _, hK, hc0⟩ := Kd.C_get h ([] : List ByteArray) i h0 h1
  have hc : ∀ j u, c[j]? = some u → w.cell? (ad.add (i.toNat * 1 + j)) = some u := hc0
  obtain ⟨A0, c0, rfl, l0, g0⟩ := hK
  exact ⟨ad, A0, c0, e, by have hq := hc 0 _ rfl; rwa [Nat.mul_one, Nat.add_zero] at hq, l0, g0⟩

/-! #### struct type 23 -/
structure S23 where
  f0 : Int
  f1 : Int
  f2 : ByteArray
def z23 : S23 := ⟨(0 : Int), (0 : Int), (⟨#[]⟩ : ByteArray)⟩
def k23 : Kd S23 := Kd.iso (Kd.pair (Kd.int .i64) (Kd.pair (Kd.int .i64) Kd.string)) (fun x : S23 => (x.f0, x.f1, x.f2))
theorem k23_open {w : World} {x : S23} {cs : List Value} (h : k23.K w x cs) : cs = [.int .i64 x.f0, .int .i64 x.f1, .string x.f2] := by
  obtain ⟨_, _, rfl, rfl, ⟨_, _, rfl, rfl, rfl⟩⟩ := h
  exact rfl
theorem k23_openM {w : World} {base : Nat} {ok : Nat → Prop} {x : S23} {cs : List Value} (h : k23.M w base ok x cs) : cs = [.int .i64 x.f0, .int .i64 x.f1, .string x.f2] := by
  obtain ⟨_, _, rfl, rfl, ⟨_, _, rfl, rfl, rfl⟩⟩ := h
  exact rfl
theorem k23_mk (w : World) (x : S23)  : k23.K w x [.int .i64 x.f0, .int .i64 x.f1, .string x.f2] := ⟨[.int .i64 x.f0], [.int .i64 x.f1, .string x.f2], rfl, rfl, ⟨[.int .i64 x.f1], [.string x.f2], rfl, rfl, rfl⟩⟩
theorem k23_mkM (w : World) (base : Nat) (ok : Nat → Prop) (x : S23)  : k23.M w base ok x [.int .i64 x.f0, .int .i64 x.f1, .string x.f2] := ⟨[.int .i64 x.f0], [.int .i64 x.f1, .string x.f2], rfl, rfl, ⟨[.int .i64 x.f1], [.string x.f2], rfl, rfl, rfl⟩⟩
def rd_T23 (xs : List S23) (i : Int) : S23 := xs.getD i.toNat z23
theorem at_T23 {w : World} {A : Option Addr} {n : Nat} {xs : List S23} (h : Kd.C k23 w A n xs) (i : Int) (h0 : 0 ≤ i) (h1 : i < n) : ∃ ad , A = some ad ∧ w.cell? (ad.add (i.toNat * 3)) = some (.int .i64 (rd_T23 xs i).f0) ∧ w.cell? ⟨(ad.add (i.toNat * 3)).block, (ad.add (i.toNat * 3)).off + 1, none⟩ = some (.int .i64 (rd_T23 xs i).f1) ∧ w.cell? ⟨(ad.add (i.toNat * 3)).block, (ad.add (i.toNat * 3)).off + 2, none⟩ = some (.string (rd_T23 xs i).f2) := by
  obtain ⟨ad, c, e, _, hK, hc0⟩ := Kd.C_get h z23 i h0 h1
  have hc : ∀ j u, c[j]? = some u → w.cell? (ad.add (i.toNat * 3 + j)) = some u := hc0
  obtain rfl := k23_open hK
  exact ⟨ad, e, hc 0 _ rfl, by rw [← add_field _ _ 1 (by omega)]; exact hc 1 _ rfl, by rw [← add_field _ _ 2 (by omega)]; exact hc 2 _ rfl⟩

def rd_L5 (xs : List (List S23)) (i : Int) : (List S23) := xs.getD i.toNat ([] : List S23)
theorem at_L5 {w : World} {A : Option Addr} {n : Nat} {xs : List (List S23)} (h : Kd.C (Kd.slice 23 k23) w A n xs) (i : Int) (h0 : 0 ≤ i) (h1 : i < n) : ∃ ad A0 c0, A = some ad ∧ w.cell? (ad.add i.toNat) = some (.slice A0 (rd_L5 xs i).length c0) ∧ (rd_L5 xs i).length ≤ c0 ∧ k23.C w A0 (rd_L5 xs i).length (rd_L5 xs i) := by
  obtain ⟨ad, c, e, _, hK, hc0⟩ := Kd.C_get h ([] : List S23) i h0 h1
  have hc : ∀ j u, c[j]? = some u → w.cell? (ad.add (i.toNat * 1 + j)) = some u := hc0
  obtain ⟨A0, c0, rfl, l0, g0⟩ := hK
  exact ⟨ad, A0, c0, e, by have hq := hc 0 _ rfl; rwa [Nat.mul_one, Nat.add_zero] at hq, l0, g0⟩

end Go.Proofs.YtmgcpjgpmjhemaaGreatDoor.Pc

/-
The shelf's contracts at this translation, as the kit's command writes them in plain words, those that are used; and the Builder's writers.
-/
namespace Go.Proofs
open Go.Shelf
def Tryz.lays169_ren : Go.Shelf.Ren := ⟨fun | 169 => 59 | n => n, fun | 70 => 81 | 9 => 9 | 0 => 0 | 72 => 84 | 37 => 82 | 127 => 141 | 3 => 3 | 5 => 5 | n => n, fun | n => n⟩
theorem Tryz.lays169 : Go.Proofs.Lays.n169 Tryz.prog Tryz.lays169_ren := {
  mixed := by kernel_rfl
  f169 := Tryz.func59.trans (congrArg some (by kernel_rfl))
  t0 := Tryz.underlying0
  a0 := Tryz.isAgg0
  z0 := Tryz.sizeOf0
  v0 := Tryz.zeroValue0
  t3 := Tryz.underlying3
  a3 := Tryz.isAgg3
  z3 := Tryz.sizeOf3
  v3 := Tryz.zeroValue3
  t9 := Tryz.underlying9
  a9 := Tryz.isAgg9
  z9 := Tryz.sizeOf9
  v9 := Tryz.zeroValue9
  t37 := Tryz.underlying82
  a37 := Tryz.isAgg82
  z37 := Tryz.sizeOf82
  v37 := Tryz.zeroValue82
  t70 := Tryz.underlying81
  a70 := Tryz.isAgg81
  z70 := Tryz.sizeOf81
  v70 := Tryz.zeroValue81
  t72 := Tryz.underlying84
  a72 := Tryz.isAgg84
  z72 := Tryz.sizeOf84
  v72 := Tryz.zeroValue84
  t127 := Tryz.underlying141
  a127 := Tryz.isAgg141
  z127 := Tryz.sizeOf141
  v127 := Tryz.zeroValue141 }
theorem Tryz.Builder_Extra_169 : Builder.Extra Tryz.prog Tryz.lays169_ren := {
  sizeBuilder := by kernel_rfl
  liesBuilder := by kernel_rfl
  t5 := Tryz.underlying5
  a5 := Tryz.isAgg5
  z5 := Tryz.sizeOf5
  v5 := Tryz.zeroValue5
  infoByte := by kernel_rfl
  cellsByte := by kernel_rfl
  sizeByte := by kernel_rfl
  neB5 := by decide }
open Go.RowKit in
theorem Tryz.Builder_String (B b : Nat) (l : List UInt8) (w : World) (h : Lib.IsBuilder 84 5 B b (Lib.byteCells l) w) (h0 : l ≠ []) :
    Calls Tryz.prog 59 #[.pointer (some ⟨b, 0, none⟩)] w fun e w' => e = .returned (.string ⟨l.toArray⟩) ∧ Below B w w' := Any.Builder_String Tryz.lays169 Tryz.Builder_Extra_169 B b l w h h0
open Go.RowKit in
theorem Tryz.Builder_String_empty (B b : Nat) (w : World) (h : Lib.IsBuilder 84 5 B b [] w) (hBw : B ≤ w.heap.size) :
    Calls Tryz.prog 59 #[.pointer (some ⟨b, 0, none⟩)] w fun e w' => e = .returned (.string ⟨#[]⟩) ∧ Below B w w' := Any.Builder_String_empty Tryz.lays169 Tryz.Builder_Extra_169 B b w h hBw
open Go.RowKit in
theorem Tryz.Builder_String_any (B b : Nat) (l : List UInt8) (w : World) (h : Lib.IsBuilder 84 5 B b (Lib.byteCells l) w) (hBw : B ≤ w.heap.size) :
    Calls Tryz.prog 59 #[.pointer (some ⟨b, 0, none⟩)] w fun e w' => e = .returned (.string ⟨l.toArray⟩) ∧ Below B w w' := Any.Builder_String_any Tryz.lays169 Tryz.Builder_Extra_169 B b l w h hBw
def Tryz.lays119_ren : Go.Shelf.Ren := ⟨fun | 119 => 163 | n => n, fun | 21 => 21 | 4 => 4 | n => n, fun | n => n⟩
theorem Tryz.lays119 : Go.Proofs.Lays.n119 Tryz.prog Tryz.lays119_ren := {
  mixed := by kernel_rfl
  f119 := Tryz.func163.trans (congrArg some (by kernel_rfl))
  t4 := Tryz.underlying4
  a4 := Tryz.isAgg4
  z4 := Tryz.sizeOf4
  v4 := Tryz.zeroValue4
  t21 := Tryz.underlying21
  a21 := Tryz.isAgg21
  z21 := Tryz.sizeOf21
  v21 := Tryz.zeroValue21 }
theorem Tryz.utf8_ValidRune (r : Int) (w : World) :
    Calls Tryz.prog 163 #[.int .i32 r] w fun e w' => e = .returned (.bool (Lib.validRune r)) ∧ w' = w := Any.utf8_ValidRune Tryz.lays119 r w
def Tryz.lays137_ren : Go.Shelf.Ren := ⟨fun | 137 => 162 | 217 => 152 | 266 => 205 | n => n, fun | 9 => 9 | 5 => 5 | 3 => 3 | n => n, fun | n => n⟩
theorem Tryz.lays137 : Go.Proofs.Lays.n137 Tryz.prog Tryz.lays137_ren := {
  mixed := by kernel_rfl
  f137 := Tryz.func162.trans (congrArg some (by kernel_rfl))
  f217 := Tryz.func152.trans (congrArg some (by kernel_rfl))
  f266 := Tryz.func205.trans (congrArg some (by kernel_rfl))
  t3 := Tryz.underlying3
  a3 := Tryz.isAgg3
  z3 := Tryz.sizeOf3
  v3 := Tryz.zeroValue3
  t5 := Tryz.underlying5
  a5 := Tryz.isAgg5
  z5 := Tryz.sizeOf5
  v5 := Tryz.zeroValue5
  t9 := Tryz.underlying9
  a9 := Tryz.isAgg9
  z9 := Tryz.sizeOf9
  v9 := Tryz.zeroValue9 }
open Go.RowKit in
theorem Tryz.strings_IndexByte (s : ByteArray) (c : Int) (w : World) :
    Calls Tryz.prog 162 #[.string s, .int .u8 c] w fun e w' => e = .returned (.int .i64 (Lib.indexByte s.data.toList c.toNat.toUInt8)) ∧ w' = w := Any.strings_IndexByte Tryz.lays137 s c w
def Tryz.laysM171_ren : Go.Shelf.Ren := ⟨fun | 171 => 44 | 243 => 89 | 246 => 119 | 283 => 142 | 284 => 143 | 285 => 144 | 286 => 145 | 129 => 195 | 317 => 194 | 318 => 196 | 319 => 197 | 320 => 198 | 337 => 221 | 338 => 222 | n => n, fun | 3 => 3 | 9 => 9 | 2 => 2 | 4 => 4 | 171 => 186 | 0 => 0 | 53 => 136 | 37 => 82 | 5 => 5 | 173 => 189 | 212 => 232 | 51 => 121 | 20 => 20 | 213 => 233 | 46 => 205 | 232 => 294 | 233 => 295 | n => n, fun | 17 => 3 | 18 => 8 | 19 => 9 | n => n⟩
theorem Tryz.laysM171 : Go.Proofs.LaysM.n171 Tryz.prog Tryz.laysM171_ren := {
  mixed := by kernel_rfl
  f129 := Tryz.func195.trans (congrArg some (by kernel_rfl))
  f171 := Tryz.func44.trans (congrArg some (by kernel_rfl))
  f243 := Tryz.func89.trans (congrArg some (by kernel_rfl))
  f246 := Tryz.func119.trans (congrArg some (by kernel_rfl))
  f283 := Tryz.func142.trans (congrArg some (by kernel_rfl))
  f284 := Tryz.func143.trans (congrArg some (by kernel_rfl))
  f285 := Tryz.func144.trans (congrArg some (by kernel_rfl))
  f286 := Tryz.func145.trans (congrArg some (by kernel_rfl))
  f317 := Tryz.func194.trans (congrArg some (by kernel_rfl))
  f318 := Tryz.func196.trans (congrArg some (by kernel_rfl))
  f319 := Tryz.func197.trans (congrArg some (by kernel_rfl))
  f320 := Tryz.func198.trans (congrArg some (by kernel_rfl))
  f337 := Tryz.func221.trans (congrArg some (by kernel_rfl))
  f338 := Tryz.func222.trans (congrArg some (by kernel_rfl))
  t0 := Tryz.underlying0
  a0 := Tryz.isAgg0
  z0 := Tryz.sizeOf0
  v0 := Tryz.zeroValue0
  t2 := Tryz.underlying2
  a2 := Tryz.isAgg2
  z2 := Tryz.sizeOf2
  v2 := Tryz.zeroValue2
  t3 := Tryz.underlying3
  a3 := Tryz.isAgg3
  z3 := Tryz.sizeOf3
  v3 := Tryz.zeroValue3
  t4 := Tryz.underlying4
  a4 := Tryz.isAgg4
  z4 := Tryz.sizeOf4
  v4 := Tryz.zeroValue4
  t5 := Tryz.underlying5
  a5 := Tryz.isAgg5
  z5 := Tryz.sizeOf5
  v5 := Tryz.zeroValue5
  t9 := Tryz.underlying9
  a9 := Tryz.isAgg9
  z9 := Tryz.sizeOf9
  v9 := Tryz.zeroValue9
  t20 := Tryz.underlying20
  a20 := Tryz.isAgg20
  z20 := Tryz.sizeOf20
  v20 := Tryz.zeroValue20
  t37 := Tryz.underlying82
  a37 := Tryz.isAgg82
  z37 := Tryz.sizeOf82
  v37 := Tryz.zeroValue82
  t46 := Tryz.underlying205
  a46 := Tryz.isAgg205
  z46 := Tryz.sizeOf205
  v46 := Tryz.zeroValue205
  t51 := Tryz.underlying121
  a51 := Tryz.isAgg121
  z51 := Tryz.sizeOf121
  v51 := Tryz.zeroValue121
  t53 := Tryz.underlying136
  a53 := Tryz.isAgg136
  z53 := Tryz.sizeOf136
  v53 := Tryz.zeroValue136
  t171 := Tryz.underlying186
  a171 := Tryz.isAgg186
  z171 := Tryz.sizeOf186
  v171 := Tryz.zeroValue186
  t173 := Tryz.underlying189
  a173 := Tryz.isAgg189
  z173 := Tryz.sizeOf189
  v173 := Tryz.zeroValue189
  t212 := Tryz.underlying232
  a212 := Tryz.isAgg232
  z212 := Tryz.sizeOf232
  v212 := Tryz.zeroValue232
  t213 := Tryz.underlying233
  a213 := Tryz.isAgg233
  z213 := Tryz.sizeOf233
  t232 := Tryz.underlying294
  a232 := Tryz.isAgg294
  z232 := Tryz.sizeOf294
  v232 := Tryz.zeroValue294
  t233 := Tryz.underlying295
  a233 := Tryz.isAgg295
  z233 := Tryz.sizeOf295
  v233 := Tryz.zeroValue295
  g17 := by kernel_rfl
  g18 := by kernel_rfl
  g19 := by kernel_rfl
  i0 := by kernel_rfl
  i2 := by kernel_rfl
  i3 := by kernel_rfl
  i4 := by kernel_rfl
  i5 := by kernel_rfl
  i9 := by kernel_rfl
  i20 := by kernel_rfl
  i37 := by kernel_rfl
  i46 := by kernel_rfl
  i51 := by kernel_rfl
  i53 := by kernel_rfl
  i171 := by kernel_rfl
  i173 := by kernel_rfl
  i212 := by kernel_rfl
  i232 := by kernel_rfl
  i233 := by kernel_rfl
  m17 := by kernel_rfl
  m18 := by kernel_rfl
  m19 := by kernel_rfl }
open Go.RowKit Go.Sort Go.Lib in
theorem Tryz.strconv_Itoa (n : Int) (h0 : -9223372036854775808 ≤ n) (h1 : n ≤ 9223372036854775807) (w : World) (htab : Lib.TabIs Tryz.prog w "internal/strconv.uint64pow10" .u64 Lib.pow10Tab) :
    Calls Tryz.prog 44 #[.int .i64 n] w fun e w' => e = .returned (.string ⟨(Lib.itoa n).toArray⟩) ∧ ∃ k os, w' = grow (w.drewN k) os := Any.strconv_Itoa Tryz.laysM171 n h0 h1 w htab
def Tryz.laysC172_ren : Go.Shelf.Ren := ⟨fun | 172 => 95 | 244 => 126 | 245 => 127 | 247 => 157 | 279 => 158 | 280 => 159 | 281 => 160 | 282 => 161 | 287 => 209 | 316 => 210 | 171 => 44 | 205 => 211 | 321 => 233 | 322 => 234 | 243 => 89 | 246 => 119 | 283 => 142 | 284 => 143 | 285 => 144 | 286 => 145 | 129 => 195 | 317 => 194 | 318 => 196 | 319 => 197 | 320 => 198 | 337 => 221 | 338 => 222 | n => n, fun | 9 => 9 | 3 => 3 | 75 => 86 | 76 => 87 | 4 => 4 | 5 => 5 | 167 => 211 | 37 => 82 | 0 => 0 | 85 => 212 | 2 => 2 | 168 => 214 | 53 => 136 | 175 => 262 | 46 => 205 | 210 => 265 | 127 => 141 | 145 => 283 | 143 => 281 | 21 => 21 | 171 => 186 | 173 => 189 | 212 => 232 | 51 => 121 | 20 => 20 | 213 => 233 | 232 => 294 | 233 => 295 | 80 => 89 | n => n, fun | 15 => 4 | 16 => 5 | 17 => 3 | 18 => 8 | 19 => 9 | n => n⟩
theorem Tryz.laysC172 : Go.Proofs.LaysC.n172 Tryz.prog Tryz.laysC172_ren := {
  mixed := by kernel_rfl
  f129 := Tryz.func195.trans (congrArg some (by kernel_rfl))
  f171 := Tryz.func44.trans (congrArg some (by kernel_rfl))
  f172 := Tryz.func95.trans (congrArg some (by kernel_rfl))
  f205 := Tryz.func211.trans (congrArg some (by kernel_rfl))
  f243 := Tryz.func89.trans (congrArg some (by kernel_rfl))
  f244 := Tryz.func126.trans (congrArg some (by kernel_rfl))
  f245 := Tryz.func127.trans (congrArg some (by kernel_rfl))
  f246 := Tryz.func119.trans (congrArg some (by kernel_rfl))
  f247 := Tryz.func157.trans (congrArg some (by kernel_rfl))
  f279 := Tryz.func158.trans (congrArg some (by kernel_rfl))
  f280 := Tryz.func159.trans (congrArg some (by kernel_rfl))
  f281 := Tryz.func160.trans (congrArg some (by kernel_rfl))
  f282 := Tryz.func161.trans (congrArg some (by kernel_rfl))
  f283 := Tryz.func142.trans (congrArg some (by kernel_rfl))
  f284 := Tryz.func143.trans (congrArg some (by kernel_rfl))
  f285 := Tryz.func144.trans (congrArg some (by kernel_rfl))
  f286 := Tryz.func145.trans (congrArg some (by kernel_rfl))
  f287 := Tryz.func209.trans (congrArg some (by kernel_rfl))
  f316 := Tryz.func210.trans (congrArg some (by kernel_rfl))
  f317 := Tryz.func194.trans (congrArg some (by kernel_rfl))
  f318 := Tryz.func196.trans (congrArg some (by kernel_rfl))
  f319 := Tryz.func197.trans (congrArg some (by kernel_rfl))
  f320 := Tryz.func198.trans (congrArg some (by kernel_rfl))
  f321 := Tryz.func233.trans (congrArg some (by kernel_rfl))
  f322 := Tryz.func234.trans (congrArg some (by kernel_rfl))
  f337 := Tryz.func221.trans (congrArg some (by kernel_rfl))
  f338 := Tryz.func222.trans (congrArg some (by kernel_rfl))
  t0 := Tryz.underlying0
  a0 := Tryz.isAgg0
  z0 := Tryz.sizeOf0
  v0 := Tryz.zeroValue0
  t2 := Tryz.underlying2
  a2 := Tryz.isAgg2
  z2 := Tryz.sizeOf2
  v2 := Tryz.zeroValue2
  t3 := Tryz.underlying3
  a3 := Tryz.isAgg3
  z3 := Tryz.sizeOf3
  v3 := Tryz.zeroValue3
  t4 := Tryz.underlying4
  a4 := Tryz.isAgg4
  z4 := Tryz.sizeOf4
  v4 := Tryz.zeroValue4
  t5 := Tryz.underlying5
  a5 := Tryz.isAgg5
  z5 := Tryz.sizeOf5
  v5 := Tryz.zeroValue5
  t9 := Tryz.underlying9
  a9 := Tryz.isAgg9
  z9 := Tryz.sizeOf9
  v9 := Tryz.zeroValue9
  t20 := Tryz.underlying20
  a20 := Tryz.isAgg20
  z20 := Tryz.sizeOf20
  v20 := Tryz.zeroValue20
  t21 := Tryz.underlying21
  a21 := Tryz.isAgg21
  z21 := Tryz.sizeOf21
  v21 := Tryz.zeroValue21
  t37 := Tryz.underlying82
  a37 := Tryz.isAgg82
  z37 := Tryz.sizeOf82
  v37 := Tryz.zeroValue82
  t46 := Tryz.underlying205
  a46 := Tryz.isAgg205
  z46 := Tryz.sizeOf205
  v46 := Tryz.zeroValue205
  t51 := Tryz.underlying121
  a51 := Tryz.isAgg121
  z51 := Tryz.sizeOf121
  v51 := Tryz.zeroValue121
  t53 := Tryz.underlying136
  a53 := Tryz.isAgg136
  z53 := Tryz.sizeOf136
  v53 := Tryz.zeroValue136
  t75 := Tryz.underlying86
  a75 := Tryz.isAgg86
  z75 := Tryz.sizeOf86
  v75 := Tryz.zeroValue86
  t76 := Tryz.underlying87
  a76 := Tryz.isAgg87
  z76 := Tryz.sizeOf87
  v76 := Tryz.zeroValue87
  t85 := Tryz.underlying212
  a85 := Tryz.isAgg212
  z85 := Tryz.sizeOf212
  v85 := Tryz.zeroValue212
  t127 := Tryz.underlying141
  a127 := Tryz.isAgg141
  z127 := Tryz.sizeOf141
  v127 := Tryz.zeroValue141
  t143 := Tryz.underlying281
  a143 := Tryz.isAgg281
  z143 := Tryz.sizeOf281
  v143 := Tryz.zeroValue281
  t145 := Tryz.underlying283
  a145 := Tryz.isAgg283
  z145 := Tryz.sizeOf283
  v145 := Tryz.zeroValue283
  t167 := Tryz.underlying211
  a167 := Tryz.isAgg211
  z167 := Tryz.sizeOf211
  v167 := Tryz.zeroValue211
  t168 := Tryz.underlying214
  a168 := Tryz.isAgg214
  z168 := Tryz.sizeOf214
  v168 := Tryz.zeroValue214
  t171 := Tryz.underlying186
  a171 := Tryz.isAgg186
  z171 := Tryz.sizeOf186
  v171 := Tryz.zeroValue186
  t173 := Tryz.underlying189
  a173 := Tryz.isAgg189
  z173 := Tryz.sizeOf189
  v173 := Tryz.zeroValue189
  t175 := Tryz.underlying262
  a175 := Tryz.isAgg262
  z175 := Tryz.sizeOf262
  v175 := Tryz.zeroValue262
  t210 := Tryz.underlying265
  a210 := Tryz.isAgg265
  z210 := Tryz.sizeOf265
  v210 := Tryz.zeroValue265
  t212 := Tryz.underlying232
  a212 := Tryz.isAgg232
  z212 := Tryz.sizeOf232
  v212 := Tryz.zeroValue232
  t213 := Tryz.underlying233
  a213 := Tryz.isAgg233
  z213 := Tryz.sizeOf233
  t232 := Tryz.underlying294
  a232 := Tryz.isAgg294
  z232 := Tryz.sizeOf294
  v232 := Tryz.zeroValue294
  t233 := Tryz.underlying295
  a233 := Tryz.isAgg295
  z233 := Tryz.sizeOf295
  v233 := Tryz.zeroValue295
  g15 := by kernel_rfl
  g16 := by kernel_rfl
  g17 := by kernel_rfl
  g18 := by kernel_rfl
  g19 := by kernel_rfl
  t80 := Tryz.underlying89
  a80 := Tryz.isAgg89
  z80 := Tryz.sizeOf89
  v80 := Tryz.zeroValue89
  i0 := by kernel_rfl
  i2 := by kernel_rfl
  i3 := by kernel_rfl
  i4 := by kernel_rfl
  i5 := by kernel_rfl
  i9 := by kernel_rfl
  i20 := by kernel_rfl
  i21 := by kernel_rfl
  i37 := by kernel_rfl
  i46 := by kernel_rfl
  i51 := by kernel_rfl
  i53 := by kernel_rfl
  i75 := by kernel_rfl
  i76 := by kernel_rfl
  i80 := by kernel_rfl
  i85 := by kernel_rfl
  i127 := by kernel_rfl
  i143 := by kernel_rfl
  i145 := by kernel_rfl
  i167 := by kernel_rfl
  i168 := by kernel_rfl
  i171 := by kernel_rfl
  i173 := by kernel_rfl
  i175 := by kernel_rfl
  i210 := by kernel_rfl
  i212 := by kernel_rfl
  i232 := by kernel_rfl
  i233 := by kernel_rfl
  m15 := by kernel_rfl
  m16 := by kernel_rfl
  m17 := by kernel_rfl
  m18 := by kernel_rfl
  m19 := by kernel_rfl
  c0 := by kernel_rfl
  c2 := by kernel_rfl
  c3 := by kernel_rfl
  c4 := by kernel_rfl
  c5 := by kernel_rfl
  c9 := by kernel_rfl
  c20 := by kernel_rfl
  c21 := by kernel_rfl
  c37 := by kernel_rfl
  c46 := by kernel_rfl
  c51 := by kernel_rfl
  c53 := by kernel_rfl
  c75 := by kernel_rfl
  c76 := by kernel_rfl
  c80 := by kernel_rfl
  c85 := by kernel_rfl
  c127 := by kernel_rfl
  c143 := by kernel_rfl
  c145 := by kernel_rfl
  c167 := by kernel_rfl
  c168 := by kernel_rfl
  c171 := by kernel_rfl
  c173 := by kernel_rfl
  c175 := by kernel_rfl
  c210 := by kernel_rfl
  c212 := by kernel_rfl
  c213 := by kernel_rfl
  c232 := by kernel_rfl
  c233 := by kernel_rfl }
open Go.RowKit in
theorem Tryz.strconv_Atoi_ok (s : ByteArray) (hmax : s.size ≤ 9223372036854775806) (v : Int) (h : Lib.atoiAll s.data.toList = .ok v) (w : World) :
    Calls Tryz.prog 95 #[.string s] w fun e w' => e = .returned (.tuple #[.int .i64 v, .nilIface]) ∧ (w' = w ∨ ∃ t, w' = Lib.bytesWorld w 5 t) := Any.strconv_Atoi_ok Tryz.laysC172 s hmax v h w
open Go.RowKit in
theorem Tryz.strconv_Atoi_syntax (s : ByteArray) (hlim : s.size ≤ 281474976710656) (h : Lib.atoiAll s.data.toList = Go.Lib.NumEnd.syntax) (ev : Value) (w : World) (hv : w.cell? ⟨4, 0, none⟩ = some ev) (hev : ev = .nilIface ∨ ∃ te pe, ev = .iface te pe) :
    Calls Tryz.prog 95 #[.string s] w fun e w' => ∃ N, e = .returned (.tuple #[.int .i64 (0), .iface 214 (.pointer (some ⟨N, 0, none⟩))]) ∧ w.heap.size ≤ N ∧ w'.heap[N]? = some (.cells #[.string ⟨#[65, 116, 111, 105]⟩, .string s, ev] 265 (0, 0)) ∧ Below w.heap.size w w' := Any.strconv_Atoi_syntax Tryz.laysC172 s hlim h ev w hv hev
open Go.RowKit in
theorem Tryz.strconv_Atoi_range (s : ByteArray) (hlim : s.size ≤ 281474976710656) (h : Lib.atoiAll s.data.toList = .range) (ev : Value) (w : World) (hv : w.cell? ⟨5, 0, none⟩ = some ev) (hev : ev = .nilIface ∨ ∃ te pe, ev = .iface te pe) :
    Calls Tryz.prog 95 #[.string s] w fun e w' => ∃ N, e = .returned (.tuple #[.int .i64 (Lib.atoiSat s.data.toList), .iface 214 (.pointer (some ⟨N, 0, none⟩))]) ∧ w.heap.size ≤ N ∧ w'.heap[N]? = some (.cells #[.string ⟨#[65, 116, 111, 105]⟩, .string s, ev] 265 (0, 0)) ∧ Below w.heap.size w w' := Any.strconv_Atoi_range Tryz.laysC172 s hlim h ev w hv hev
def Tryz.lays145_ren : Go.Shelf.Ren := ⟨fun | 145 => 49 | 220 => 93 | 219 => 123 | 217 => 152 | 225 => 153 | 224 => 154 | 267 => 155 | 266 => 205 | 314 => 206 | n => n, fun | 9 => 9 | 4 => 4 | 59 => 70 | 3 => 3 | 5 => 5 | 46 => 205 | 146 => 249 | 51 => 121 | n => n, fun | 1 => 1 | n => n⟩
theorem Tryz.lays145 : Go.Proofs.Lays.n145 Tryz.prog Tryz.lays145_ren := {
  mixed := by kernel_rfl
  f145 := Tryz.func49.trans (congrArg some (by kernel_rfl))
  f217 := Tryz.func152.trans (congrArg some (by kernel_rfl))
  f219 := Tryz.func123.trans (congrArg some (by kernel_rfl))
  f220 := Tryz.func93.trans (congrArg some (by kernel_rfl))
  f224 := Tryz.func154.trans (congrArg some (by kernel_rfl))
  f225 := Tryz.func153.trans (congrArg some (by kernel_rfl))
  f266 := Tryz.func205.trans (congrArg some (by kernel_rfl))
  f267 := Tryz.func155.trans (congrArg some (by kernel_rfl))
  f314 := Tryz.func206.trans (congrArg some (by kernel_rfl))
  t3 := Tryz.underlying3
  a3 := Tryz.isAgg3
  z3 := Tryz.sizeOf3
  v3 := Tryz.zeroValue3
  t4 := Tryz.underlying4
  a4 := Tryz.isAgg4
  z4 := Tryz.sizeOf4
  v4 := Tryz.zeroValue4
  t5 := Tryz.underlying5
  a5 := Tryz.isAgg5
  z5 := Tryz.sizeOf5
  v5 := Tryz.zeroValue5
  t9 := Tryz.underlying9
  a9 := Tryz.isAgg9
  z9 := Tryz.sizeOf9
  v9 := Tryz.zeroValue9
  t46 := Tryz.underlying205
  a46 := Tryz.isAgg205
  z46 := Tryz.sizeOf205
  v46 := Tryz.zeroValue205
  t51 := Tryz.underlying121
  a51 := Tryz.isAgg121
  z51 := Tryz.sizeOf121
  v51 := Tryz.zeroValue121
  t59 := Tryz.underlying70
  a59 := Tryz.isAgg70
  z59 := Tryz.sizeOf70
  v59 := Tryz.zeroValue70
  t146 := Tryz.underlying249
  a146 := Tryz.isAgg249
  z146 := Tryz.sizeOf249
  v146 := Tryz.zeroValue249
  g1 := by kernel_rfl }
open Go.RowKit Go.Lib in
theorem Tryz.strings_Cut (s sep : ByteArray) (m : Int) (w : World) (hs : s.size < 4294967281) (hm : w.cell? ⟨1, 0, none⟩ = some (.int .i64 m)) :
    Calls Tryz.prog 49 #[.string s, .string sep] w fun e w' => e = .returned (.tuple #[.string ⟨(Lib.cut s.data.toList sep.data.toList).1.toArray⟩, .string ⟨(Lib.cut s.data.toList sep.data.toList).2.1.toArray⟩, .bool (Lib.cut s.data.toList sep.data.toList).2.2]) ∧ ∃ n, w' = w.drewN n := Any.strings_Cut Tryz.lays145 s sep m w hs hm
def Tryz.lays138_ren : Go.Shelf.Ren := ⟨fun | 138 => 60 | 195 => 100 | 218 => 101 | 143 => 102 | 219 => 123 | 217 => 152 | 225 => 153 | 224 => 154 | 267 => 155 | 266 => 205 | 314 => 206 | n => n, fun | 9 => 9 | 3 => 3 | 4 => 4 | 5 => 5 | 0 => 0 | 46 => 205 | 146 => 249 | 51 => 121 | n => n, fun | 1 => 1 | n => n⟩
theorem Tryz.lays138 : Go.Proofs.Lays.n138 Tryz.prog Tryz.lays138_ren := {
  mixed := by kernel_rfl
  f138 := Tryz.func60.trans (congrArg some (by kernel_rfl))
  f143 := Tryz.func102.trans (congrArg some (by kernel_rfl))
  f195 := Tryz.func100.trans (congrArg some (by kernel_rfl))
  f217 := Tryz.func152.trans (congrArg some (by kernel_rfl))
  f218 := Tryz.func101.trans (congrArg some (by kernel_rfl))
  f219 := Tryz.func123.trans (congrArg some (by kernel_rfl))
  f224 := Tryz.func154.trans (congrArg some (by kernel_rfl))
  f225 := Tryz.func153.trans (congrArg some (by kernel_rfl))
  f266 := Tryz.func205.trans (congrArg some (by kernel_rfl))
  f267 := Tryz.func155.trans (congrArg some (by kernel_rfl))
  f314 := Tryz.func206.trans (congrArg some (by kernel_rfl))
  t0 := Tryz.underlying0
  a0 := Tryz.isAgg0
  z0 := Tryz.sizeOf0
  v0 := Tryz.zeroValue0
  t3 := Tryz.underlying3
  a3 := Tryz.isAgg3
  z3 := Tryz.sizeOf3
  v3 := Tryz.zeroValue3
  t4 := Tryz.underlying4
  a4 := Tryz.isAgg4
  z4 := Tryz.sizeOf4
  v4 := Tryz.zeroValue4
  t5 := Tryz.underlying5
  a5 := Tryz.isAgg5
  z5 := Tryz.sizeOf5
  v5 := Tryz.zeroValue5
  t9 := Tryz.underlying9
  a9 := Tryz.isAgg9
  z9 := Tryz.sizeOf9
  v9 := Tryz.zeroValue9
  t46 := Tryz.underlying205
  a46 := Tryz.isAgg205
  z46 := Tryz.sizeOf205
  v46 := Tryz.zeroValue205
  t51 := Tryz.underlying121
  a51 := Tryz.isAgg121
  z51 := Tryz.sizeOf121
  v51 := Tryz.zeroValue121
  t146 := Tryz.underlying249
  a146 := Tryz.isAgg249
  z146 := Tryz.sizeOf249
  v146 := Tryz.zeroValue249
  g1 := by kernel_rfl }
open Go.RowKit Go.Lib in
theorem Tryz.strings_Count_one (s : ByteArray) (c : UInt8) (w : World) :
    Calls Tryz.prog 60 #[.string s, .string ⟨#[c]⟩] w fun e w' => e = .returned (.int .i64 (Lib.countByte s.data.toList c)) ∧ w' = w := Any.strings_Count_one Tryz.lays138 s c w
def Tryz.lays100_ren : Go.Shelf.Ren := ⟨fun | 100 => 61 | 207 => 103 | n => n, fun | 9 => 9 | 4 => 4 | 3 => 3 | n => n, fun | n => n⟩
theorem Tryz.lays100 : Go.Proofs.Lays.n100 Tryz.prog Tryz.lays100_ren := {
  mixed := by kernel_rfl
  f100 := Tryz.func61.trans (congrArg some (by kernel_rfl))
  f207 := Tryz.func103.trans (congrArg some (by kernel_rfl))
  t3 := Tryz.underlying3
  a3 := Tryz.isAgg3
  z3 := Tryz.sizeOf3
  v3 := Tryz.zeroValue3
  t4 := Tryz.underlying4
  a4 := Tryz.isAgg4
  z4 := Tryz.sizeOf4
  v4 := Tryz.zeroValue4
  t9 := Tryz.underlying9
  a9 := Tryz.isAgg9
  z9 := Tryz.sizeOf9
  v9 := Tryz.zeroValue9 }
open Go.RowKit Go.Lib in
theorem Tryz.strings_HasSuffix (s p : ByteArray) (w : World) (hs : s.size ≤ 9223372036854775807) :
    Calls Tryz.prog 61 #[.string s, .string p] w fun e w' => e = .returned (.bool (Lib.hasSuffix s.data.toList p.data.toList)) ∧ w' = w := Any.strings_HasSuffix Tryz.lays100 s p w hs
def Tryz.lays102_ren : Go.Shelf.Ren := ⟨fun | 102 => 63 | 209 => 105 | 207 => 103 | n => n, fun | 9 => 9 | 4 => 4 | 3 => 3 | n => n, fun | n => n⟩
theorem Tryz.lays102 : Go.Proofs.Lays.n102 Tryz.prog Tryz.lays102_ren := {
  mixed := by kernel_rfl
  f102 := Tryz.func63.trans (congrArg some (by kernel_rfl))
  f207 := Tryz.func103.trans (congrArg some (by kernel_rfl))
  f209 := Tryz.func105.trans (congrArg some (by kernel_rfl))
  t3 := Tryz.underlying3
  a3 := Tryz.isAgg3
  z3 := Tryz.sizeOf3
  v3 := Tryz.zeroValue3
  t4 := Tryz.underlying4
  a4 := Tryz.isAgg4
  z4 := Tryz.sizeOf4
  v4 := Tryz.zeroValue4
  t9 := Tryz.underlying9
  a9 := Tryz.isAgg9
  z9 := Tryz.sizeOf9
  v9 := Tryz.zeroValue9 }
open Go.RowKit Go.Lib in
theorem Tryz.strings_TrimSuffix (s p : ByteArray) (w : World) (hs : s.size ≤ 9223372036854775807) :
    Calls Tryz.prog 63 #[.string s, .string p] w fun e w' => e = .returned (.string ⟨(Lib.trimSuffix s.data.toList p.data.toList).toArray⟩) ∧ w' = w := Any.strings_TrimSuffix Tryz.lays102 s p w hs
def Tryz.lays146_ren : Go.Shelf.Ren := ⟨fun | 146 => 62 | 221 => 104 | 268 => 131 | 138 => 60 | 143 => 102 | 195 => 100 | 197 => 182 | 218 => 101 | 219 => 123 | 260 => 217 | 217 => 152 | 225 => 153 | 224 => 154 | 267 => 155 | 266 => 205 | 314 => 206 | n => n, fun | 9 => 9 | 31 => 73 | 3 => 3 | 4 => 4 | 0 => 0 | 105 => 218 | 21 => 21 | 5 => 5 | 46 => 205 | 119 => 158 | 139 => 292 | 138 => 291 | 146 => 249 | 51 => 121 | n => n, fun | 1 => 1 | 3 => 6 | 4 => 7 | n => n⟩
theorem Tryz.lays146 : Go.Proofs.Lays.n146 Tryz.prog Tryz.lays146_ren := {
  mixed := by kernel_rfl
  f138 := Tryz.func60.trans (congrArg some (by kernel_rfl))
  f143 := Tryz.func102.trans (congrArg some (by kernel_rfl))
  f146 := Tryz.func62.trans (congrArg some (by kernel_rfl))
  f195 := Tryz.func100.trans (congrArg some (by kernel_rfl))
  f197 := Tryz.func182.trans (congrArg some (by kernel_rfl))
  f217 := Tryz.func152.trans (congrArg some (by kernel_rfl))
  f218 := Tryz.func101.trans (congrArg some (by kernel_rfl))
  f219 := Tryz.func123.trans (congrArg some (by kernel_rfl))
  f221 := Tryz.func104.trans (congrArg some (by kernel_rfl))
  f224 := Tryz.func154.trans (congrArg some (by kernel_rfl))
  f225 := Tryz.func153.trans (congrArg some (by kernel_rfl))
  f260 := Tryz.func217.trans (congrArg some (by kernel_rfl))
  f266 := Tryz.func205.trans (congrArg some (by kernel_rfl))
  f267 := Tryz.func155.trans (congrArg some (by kernel_rfl))
  f268 := Tryz.func131.trans (congrArg some (by kernel_rfl))
  f314 := Tryz.func206.trans (congrArg some (by kernel_rfl))
  t0 := Tryz.underlying0
  a0 := Tryz.isAgg0
  z0 := Tryz.sizeOf0
  v0 := Tryz.zeroValue0
  t3 := Tryz.underlying3
  a3 := Tryz.isAgg3
  z3 := Tryz.sizeOf3
  v3 := Tryz.zeroValue3
  t4 := Tryz.underlying4
  a4 := Tryz.isAgg4
  z4 := Tryz.sizeOf4
  v4 := Tryz.zeroValue4
  t5 := Tryz.underlying5
  a5 := Tryz.isAgg5
  z5 := Tryz.sizeOf5
  v5 := Tryz.zeroValue5
  t9 := Tryz.underlying9
  a9 := Tryz.isAgg9
  z9 := Tryz.sizeOf9
  v9 := Tryz.zeroValue9
  t21 := Tryz.underlying21
  a21 := Tryz.isAgg21
  z21 := Tryz.sizeOf21
  v21 := Tryz.zeroValue21
  t31 := Tryz.underlying73
  a31 := Tryz.isAgg73
  z31 := Tryz.sizeOf73
  v31 := Tryz.zeroValue73
  t46 := Tryz.underlying205
  a46 := Tryz.isAgg205
  z46 := Tryz.sizeOf205
  v46 := Tryz.zeroValue205
  t51 := Tryz.underlying121
  a51 := Tryz.isAgg121
  z51 := Tryz.sizeOf121
  v51 := Tryz.zeroValue121
  t105 := Tryz.underlying218
  a105 := Tryz.isAgg218
  z105 := Tryz.sizeOf218
  v105 := Tryz.zeroValue218
  t119 := Tryz.underlying158
  a119 := Tryz.isAgg158
  z119 := Tryz.sizeOf158
  t138 := Tryz.underlying291
  a138 := Tryz.isAgg291
  z138 := Tryz.sizeOf291
  v138 := Tryz.zeroValue291
  t139 := Tryz.underlying292
  a139 := Tryz.isAgg292
  z139 := Tryz.sizeOf292
  v139 := Tryz.zeroValue292
  t146 := Tryz.underlying249
  a146 := Tryz.isAgg249
  z146 := Tryz.sizeOf249
  v146 := Tryz.zeroValue249
  g1 := by kernel_rfl
  g3 := by kernel_rfl
  g4 := by kernel_rfl }
open Go.RowKit Go.Lib in
theorem Tryz.strings_Split (s sep : ByteArray) (m : Int) (w : World) (hs : s.size < 4294967281) (hm : w.cell? ⟨1, 0, none⟩ = some (.int .i64 m)) (h1 : 1 ≤ sep.size) :
    Calls Tryz.prog 62 #[.string s, .string sep] w fun e w' =>
      e = .returned (.slice (some ⟨w.heap.size, 0, none⟩) (Lib.countB s sep + 1) (Lib.countB s sep + 1)) ∧ w' = w.alloc (.cells ((Lib.splitB sep 0 (Lib.countB s sep) s).map Value.string).toArray 9) := Any.strings_Split Tryz.lays146 (by kernel_rfl) s sep m w hs hm h1
def Tryz.laysM157_ren : Go.Shelf.Ren := ⟨fun | 157 => 94 | 229 => 124 | 199 => 125 | 261 => 156 | 311 => 207 | 312 => 208 | n => n, fun | 9 => 9 | 31 => 73 | 3 => 3 | 5 => 5 | 4 => 4 | 119 => 158 | 0 => 0 | 40 => 160 | 152 => 206 | 21 => 21 | 154 => 208 | 51 => 121 | 141 => 210 | 196 => 254 | 193 => 251 | 198 => 257 | 49 => 255 | 194 => 252 | 201 => 260 | 226 => 278 | 46 => 205 | 227 => 279 | n => n, fun | 0 => 0 | 6 => 2 | n => n⟩
theorem Tryz.laysM157 : Go.Proofs.LaysM.n157 Tryz.prog Tryz.laysM157_ren := {
  mixed := by kernel_rfl
  f157 := Tryz.func94.trans (congrArg some (by kernel_rfl))
  f199 := Tryz.func125.trans (congrArg some (by kernel_rfl))
  f229 := Tryz.func124.trans (congrArg some (by kernel_rfl))
  f261 := Tryz.func156.trans (congrArg some (by kernel_rfl))
  f311 := Tryz.func207.trans (congrArg some (by kernel_rfl))
  f312 := Tryz.func208.trans (congrArg some (by kernel_rfl))
  t0 := Tryz.underlying0
  a0 := Tryz.isAgg0
  z0 := Tryz.sizeOf0
  v0 := Tryz.zeroValue0
  t3 := Tryz.underlying3
  a3 := Tryz.isAgg3
  z3 := Tryz.sizeOf3
  v3 := Tryz.zeroValue3
  t4 := Tryz.underlying4
  a4 := Tryz.isAgg4
  z4 := Tryz.sizeOf4
  v4 := Tryz.zeroValue4
  t5 := Tryz.underlying5
  a5 := Tryz.isAgg5
  z5 := Tryz.sizeOf5
  v5 := Tryz.zeroValue5
  t9 := Tryz.underlying9
  a9 := Tryz.isAgg9
  z9 := Tryz.sizeOf9
  v9 := Tryz.zeroValue9
  t21 := Tryz.underlying21
  a21 := Tryz.isAgg21
  z21 := Tryz.sizeOf21
  v21 := Tryz.zeroValue21
  t31 := Tryz.underlying73
  a31 := Tryz.isAgg73
  z31 := Tryz.sizeOf73
  v31 := Tryz.zeroValue73
  t40 := Tryz.underlying160
  a40 := Tryz.isAgg160
  z40 := Tryz.sizeOf160
  v40 := Tryz.zeroValue160
  t46 := Tryz.underlying205
  a46 := Tryz.isAgg205
  z46 := Tryz.sizeOf205
  v46 := Tryz.zeroValue205
  t49 := Tryz.underlying255
  a49 := Tryz.isAgg255
  z49 := Tryz.sizeOf255
  v49 := Tryz.zeroValue255
  t51 := Tryz.underlying121
  a51 := Tryz.isAgg121
  z51 := Tryz.sizeOf121
  v51 := Tryz.zeroValue121
  t119 := Tryz.underlying158
  a119 := Tryz.isAgg158
  z119 := Tryz.sizeOf158
  t141 := Tryz.underlying210
  a141 := Tryz.isAgg210
  z141 := Tryz.sizeOf210
  v141 := Tryz.zeroValue210
  t152 := Tryz.underlying206
  a152 := Tryz.isAgg206
  z152 := Tryz.sizeOf206
  v152 := Tryz.zeroValue206
  t154 := Tryz.underlying208
  a154 := Tryz.isAgg208
  z154 := Tryz.sizeOf208
  v154 := Tryz.zeroValue208
  t193 := Tryz.underlying251
  a193 := Tryz.isAgg251
  z193 := Tryz.sizeOf251
  v193 := Tryz.zeroValue251
  t194 := Tryz.underlying252
  a194 := Tryz.isAgg252
  z194 := Tryz.sizeOf252
  v194 := Tryz.zeroValue252
  t196 := Tryz.underlying254
  a196 := Tryz.isAgg254
  z196 := Tryz.sizeOf254
  v196 := Tryz.zeroValue254
  t198 := Tryz.underlying257
  a198 := Tryz.isAgg257
  z198 := Tryz.sizeOf257
  v198 := Tryz.zeroValue257
  t201 := Tryz.underlying260
  a201 := Tryz.isAgg260
  z201 := Tryz.sizeOf260
  v201 := Tryz.zeroValue260
  t226 := Tryz.underlying278
  a226 := Tryz.isAgg278
  z226 := Tryz.sizeOf278
  v226 := Tryz.zeroValue278
  t227 := Tryz.underlying279
  a227 := Tryz.isAgg279
  z227 := Tryz.sizeOf279
  v227 := Tryz.zeroValue279
  g0 := by kernel_rfl
  g6 := by kernel_rfl
  i0 := by kernel_rfl
  i3 := by kernel_rfl
  i4 := by kernel_rfl
  i5 := by kernel_rfl
  i9 := by kernel_rfl
  i21 := by kernel_rfl
  i31 := by kernel_rfl
  i40 := by kernel_rfl
  i46 := by kernel_rfl
  i49 := by kernel_rfl
  i51 := by kernel_rfl
  i141 := by kernel_rfl
  i152 := by kernel_rfl
  i154 := by kernel_rfl
  i193 := by kernel_rfl
  i194 := by kernel_rfl
  i196 := by kernel_rfl
  i198 := by kernel_rfl
  i201 := by kernel_rfl
  i226 := by kernel_rfl
  i227 := by kernel_rfl
  m0 := by kernel_rfl
  m6 := by kernel_rfl }
open Go.RowKit Go.Lib in
theorem Tryz.strings_Fields_laid (s : ByteArray) (w : World) (hs : s.size < 4294967281) (hascii : ∀ (j : Nat) b, s.data.toList[j]? = some b → b.toNat < 128) (htab : Lib.TabIs Tryz.prog w "strings.asciiSpace" .u8 Lib.asciiSpaceTab) :
    Calls Tryz.prog 94 #[.string s] w fun e w' =>
      e = .returned (.slice (some ⟨w.heap.size, 0, none⟩) (Lib.fields s.data.toList).length (Lib.fields s.data.toList).length) ∧ w' = w.alloc (.cells ((Lib.fields s.data.toList).map fun l => Value.string ⟨l.toArray⟩).toArray 9) := Any.strings_Fields_laid Tryz.laysM157 s w hs hascii htab
def Tryz.lays151_ren : Go.Shelf.Ren := ⟨fun | 151 => 96 | 152 => 128 | 137 => 162 | 119 => 163 | 224 => 154 | 225 => 153 | 217 => 152 | 266 => 205 | n => n, fun | 9 => 9 | 21 => 21 | 4 => 4 | 3 => 3 | 5 => 5 | 0 => 0 | 46 => 205 | n => n, fun | n => n⟩
theorem Tryz.lays151 : Go.Proofs.Lays.n151 Tryz.prog Tryz.lays151_ren := {
  mixed := by kernel_rfl
  f119 := Tryz.func163.trans (congrArg some (by kernel_rfl))
  f137 := Tryz.func162.trans (congrArg some (by kernel_rfl))
  f151 := Tryz.func96.trans (congrArg some (by kernel_rfl))
  f152 := Tryz.func128.trans (congrArg some (by kernel_rfl))
  f217 := Tryz.func152.trans (congrArg some (by kernel_rfl))
  f224 := Tryz.func154.trans (congrArg some (by kernel_rfl))
  f225 := Tryz.func153.trans (congrArg some (by kernel_rfl))
  f266 := Tryz.func205.trans (congrArg some (by kernel_rfl))
  t0 := Tryz.underlying0
  a0 := Tryz.isAgg0
  z0 := Tryz.sizeOf0
  v0 := Tryz.zeroValue0
  t3 := Tryz.underlying3
  a3 := Tryz.isAgg3
  z3 := Tryz.sizeOf3
  v3 := Tryz.zeroValue3
  t4 := Tryz.underlying4
  a4 := Tryz.isAgg4
  z4 := Tryz.sizeOf4
  v4 := Tryz.zeroValue4
  t5 := Tryz.underlying5
  a5 := Tryz.isAgg5
  z5 := Tryz.sizeOf5
  v5 := Tryz.zeroValue5
  t9 := Tryz.underlying9
  a9 := Tryz.isAgg9
  z9 := Tryz.sizeOf9
  v9 := Tryz.zeroValue9
  t21 := Tryz.underlying21
  a21 := Tryz.isAgg21
  z21 := Tryz.sizeOf21
  v21 := Tryz.zeroValue21
  t46 := Tryz.underlying205
  a46 := Tryz.isAgg205
  z46 := Tryz.sizeOf205
  v46 := Tryz.zeroValue205 }
open Go.RowKit Go.Lib in
theorem Tryz.strings_ContainsRune_ascii (s : ByteArray) (r : Int) (w : World) (h0 : 0 ≤ r) (h1 : r < 128) :
    Calls Tryz.prog 96 #[.string s, .int .i32 r] w fun e w' => e = .returned (.bool (decide (0 ≤ Lib.indexByte s.data.toList r.toNat.toUInt8))) ∧ w' = w := Any.strings_ContainsRune_ascii Tryz.lays151 s r w h0 h1
def Tryz.builder_ren : Go.Shelf.Ren := ⟨fun | 166 => 58 | 167 => 97 | 240 => 99 | 276 => 130 | n => n, fun | 0 => 0 | 3 => 3 | 4 => 4 | 5 => 5 | 9 => 9 | 20 => 20 | 37 => 82 | 70 => 81 | 72 => 84 | 75 => 86 | 164 => 170 | 80 => 89 | n => n, fun | n => n⟩
theorem Tryz.blays240 : Go.Proofs.Lays.n240 Tryz.prog Tryz.builder_ren := {
  mixed := by kernel_rfl
  f240 := Tryz.func99.trans (congrArg some (by kernel_rfl))
  f276 := Tryz.func130.trans (congrArg some (by kernel_rfl))
  t0 := Tryz.underlying0
  a0 := Tryz.isAgg0
  z0 := Tryz.sizeOf0
  v0 := Tryz.zeroValue0
  t4 := Tryz.underlying4
  a4 := Tryz.isAgg4
  z4 := Tryz.sizeOf4
  v4 := Tryz.zeroValue4
  t9 := Tryz.underlying9
  a9 := Tryz.isAgg9
  z9 := Tryz.sizeOf9
  v9 := Tryz.zeroValue9
  t20 := Tryz.underlying20
  a20 := Tryz.isAgg20
  z20 := Tryz.sizeOf20
  v20 := Tryz.zeroValue20
  t70 := Tryz.underlying81
  a70 := Tryz.isAgg81
  z70 := Tryz.sizeOf81
  v70 := Tryz.zeroValue81
  t72 := Tryz.underlying84
  a72 := Tryz.isAgg84
  z72 := Tryz.sizeOf84
  v72 := Tryz.zeroValue84
  t164 := Tryz.underlying170
  a164 := Tryz.isAgg170
  z164 := Tryz.sizeOf170
  v164 := Tryz.zeroValue170 }
theorem Tryz.blays167 : Go.Proofs.Lays.n167 Tryz.prog Tryz.builder_ren := {
  mixed := by kernel_rfl
  f167 := Tryz.func97.trans (congrArg some (by kernel_rfl))
  f240 := Tryz.func99.trans (congrArg some (by kernel_rfl))
  f276 := Tryz.func130.trans (congrArg some (by kernel_rfl))
  t0 := Tryz.underlying0
  a0 := Tryz.isAgg0
  z0 := Tryz.sizeOf0
  v0 := Tryz.zeroValue0
  t4 := Tryz.underlying4
  a4 := Tryz.isAgg4
  z4 := Tryz.sizeOf4
  v4 := Tryz.zeroValue4
  t5 := Tryz.underlying5
  a5 := Tryz.isAgg5
  z5 := Tryz.sizeOf5
  v5 := Tryz.zeroValue5
  t9 := Tryz.underlying9
  a9 := Tryz.isAgg9
  z9 := Tryz.sizeOf9
  v9 := Tryz.zeroValue9
  t20 := Tryz.underlying20
  a20 := Tryz.isAgg20
  z20 := Tryz.sizeOf20
  v20 := Tryz.zeroValue20
  t37 := Tryz.underlying82
  a37 := Tryz.isAgg82
  z37 := Tryz.sizeOf82
  v37 := Tryz.zeroValue82
  t70 := Tryz.underlying81
  a70 := Tryz.isAgg81
  z70 := Tryz.sizeOf81
  v70 := Tryz.zeroValue81
  t72 := Tryz.underlying84
  a72 := Tryz.isAgg84
  z72 := Tryz.sizeOf84
  v72 := Tryz.zeroValue84
  t75 := Tryz.underlying86
  a75 := Tryz.isAgg86
  z75 := Tryz.sizeOf86
  v75 := Tryz.zeroValue86
  t164 := Tryz.underlying170
  a164 := Tryz.isAgg170
  z164 := Tryz.sizeOf170
  v164 := Tryz.zeroValue170 }
theorem Tryz.blays166 : Go.Proofs.Lays.n166 Tryz.prog Tryz.builder_ren := {
  mixed := by kernel_rfl
  f166 := Tryz.func58.trans (congrArg some (by kernel_rfl))
  f240 := Tryz.func99.trans (congrArg some (by kernel_rfl))
  f276 := Tryz.func130.trans (congrArg some (by kernel_rfl))
  t0 := Tryz.underlying0
  a0 := Tryz.isAgg0
  z0 := Tryz.sizeOf0
  v0 := Tryz.zeroValue0
  t3 := Tryz.underlying3
  a3 := Tryz.isAgg3
  z3 := Tryz.sizeOf3
  v3 := Tryz.zeroValue3
  t4 := Tryz.underlying4
  a4 := Tryz.isAgg4
  z4 := Tryz.sizeOf4
  v4 := Tryz.zeroValue4
  t9 := Tryz.underlying9
  a9 := Tryz.isAgg9
  z9 := Tryz.sizeOf9
  v9 := Tryz.zeroValue9
  t20 := Tryz.underlying20
  a20 := Tryz.isAgg20
  z20 := Tryz.sizeOf20
  v20 := Tryz.zeroValue20
  t37 := Tryz.underlying82
  a37 := Tryz.isAgg82
  z37 := Tryz.sizeOf82
  v37 := Tryz.zeroValue82
  t70 := Tryz.underlying81
  a70 := Tryz.isAgg81
  z70 := Tryz.sizeOf81
  v70 := Tryz.zeroValue81
  t72 := Tryz.underlying84
  a72 := Tryz.isAgg84
  z72 := Tryz.sizeOf84
  v72 := Tryz.zeroValue84
  t75 := Tryz.underlying86
  a75 := Tryz.isAgg86
  z75 := Tryz.sizeOf86
  v75 := Tryz.zeroValue86
  t164 := Tryz.underlying170
  a164 := Tryz.isAgg170
  z164 := Tryz.sizeOf170
  v164 := Tryz.zeroValue170 }
theorem Tryz.BX : Builder.Extra Tryz.prog Tryz.builder_ren := {
  sizeBuilder := by kernel_rfl
  liesBuilder := by kernel_rfl
  t5 := Tryz.underlying5
  a5 := Tryz.isAgg5
  z5 := Tryz.sizeOf5
  v5 := Tryz.zeroValue5
  infoByte := by kernel_rfl
  cellsByte := by kernel_rfl
  sizeByte := by kernel_rfl
  neB5 := by decide }
open Go.RowKit Go.Lib in
theorem Tryz.Builder_WriteByte (B b : Nat) (bs : List Value) (c : Int) (w : World) (h : Lib.IsBuilder 84 5 B b bs w) (hlen : bs.length + 1 ≤ 140737488355328) (hBw : B ≤ w.heap.size) :
    Calls Tryz.prog 97 #[.pointer (some ⟨b, 0, none⟩), .int .u8 c] w fun e w' => e = .returned .nilIface ∧ Lib.BuilderAt 84 5 B b (.pointer (some ⟨b, 0, none⟩)) (bs ++ [.int .u8 c]) w' ∧ Below B w w' := Any.Builder_WriteByte Tryz.blays167 Tryz.BX B b bs c w h hlen hBw
open Go.RowKit Go.Lib in
theorem Tryz.Builder_WriteString (B b : Nat) (bs : List Value) (s : ByteArray) (w : World) (h : Lib.IsBuilder 84 5 B b bs w) (hlen : bs.length + s.size ≤ 140737488355328) (hBw : B ≤ w.heap.size) :
    Calls Tryz.prog 58 #[.pointer (some ⟨b, 0, none⟩), .string s] w fun e w' => e = .returned (.tuple #[.int .i64 s.size, .nilIface]) ∧ Lib.BuilderAt 84 5 B b (.pointer (some ⟨b, 0, none⟩)) (bs ++ Lib.strCells s) w' ∧ Below B w w' := Any.Builder_WriteString Tryz.blays166 Tryz.BX B b bs s w h hlen hBw
end Go.Proofs

/-
The contract of code.words, strings.Cut, Count, Split, HasSuffix, TrimSuffix and slices.Index in the form that the printed walks take.
-/
namespace Go.Proofs.YtmgcpjgpmjhemaaGreatDoor.Pc
open Go.RowKit Go.Proofs.YtmgcpjgpmjhemaaGreatDoorW.PrintWords Go.Proofs.YtmgcpjgpmjhemaaGreatDoorW.PrintLast Go.Proofs.YtmgcpjgpmjhemaaGreatDoorW.PrintMore
set_option linter.unusedVariables false

/-- A new row of strings. -/
theorem R_strs (w : World) (ss : List ByteArray) (hm : ss.length ≤ 9223372036854775807) (ok : Nat → Prop) (hok : ∀ k, ok k) :
    Kd.R Kd.string 9 (w.alloc (.cells (ss.map Value.string).toArray 9)) w.heap.size ok (.slice (some ⟨w.heap.size, 0, none⟩) ss.length ss.length) ss := by
  refine ⟨fun k _ => hok k, ss.map Value.string, ?_, ?_⟩
  · refine ⟨by simp [Kd.string, Kd.scalar], .inr ⟨w.heap.size, ss.length, (ss.map Value.string).toArray, rfl, Nat.le_refl _, heap_alloc_new w _, Nat.le_refl _, by simpa [maxLen] using hm, by simp [Kd.string, Kd.scalar], ?_⟩⟩
    simp only [Kd.string, Kd.scalar, Nat.mul_one]
    exact List.take_of_length_le (by simp)
  · refine ⟨by simp [Kd.string, Kd.scalar], fun j p hj => ?_⟩
    show _ = [Value.string p]
    have hj' : j < ss.length := (List.getElem?_eq_some_iff.1 hj).1
    have e : ss[j] = p := by rw [List.getElem?_eq_getElem hj'] at hj; exact Option.some.inj hj
    simp only [Kd.string, Kd.scalar, Nat.mul_one]
    rw [List.drop_eq_getElem_cons (by simpa using hj')]
    simp [e]

def namesL : List (List UInt8) := [[110, 117, 109], [116, 101, 120, 116], [102, 105, 101, 108, 100], [99, 111, 117, 110, 116], [97, 100, 100], [115, 117, 98], [109, 117, 108], [100, 105, 118], [109, 111, 100], [106, 111, 105, 110], [108, 101, 110], [115, 108, 105, 99, 101], [117, 112, 112, 101, 114], [108, 111, 119, 101, 114], [101, 113], [108, 101, 115, 115], [110, 111, 116], [105, 102], [116, 111, 110, 117, 109], [116, 111, 116, 101, 120, 116], [104, 97, 115, 104], [102, 105, 110, 100], [97, 99, 99], [105, 116, 101, 109]]
def namesB : List ByteArray := namesL.map fun l => ⟨l.toArray⟩
def code_words.f : Option (List ByteArray) := some namesB

def wordsS : ByteArray := ⟨#[110, 117, 109, 32, 116, 101, 120, 116, 32, 102, 105, 101, 108, 100, 32, 99, 111, 117, 110, 116, 32, 97, 100, 100, 32, 115, 117, 98, 32, 109, 117, 108, 32, 100, 105, 118, 32, 109, 111, 100, 32, 106, 111, 105, 110, 32, 108, 101, 110, 32, 115, 108, 105, 99, 101, 32, 117, 112, 112, 101, 114, 32, 108, 111, 119, 101, 114, 32, 101, 113, 32, 108, 101, 115, 115, 32, 110, 111, 116, 32, 105, 102, 32, 116, 111, 110, 117, 109, 32, 116, 111, 116, 101, 120, 116, 32, 104, 97, 115, 104, 32, 102, 105, 110, 100, 32, 97, 99, 99, 32, 105, 116, 101, 109]⟩
theorem words_fields : Lib.fields wordsS.data.toList = namesL := by decide +kernel
theorem words_ascii : ∀ b ∈ wordsS.data.toList, b.toNat < 128 := by decide +kernel
theorem words_call (w : World) (hG : Gl w) : Calls Tryz.prog 94 #[.string wordsS] w fun e w' =>
    e = .returned (.slice (some ⟨w.heap.size, 0, none⟩) namesB.length namesB.length) ∧ w' = w.alloc (.cells (namesB.map Value.string).toArray 9) := by
  have h := Tryz.strings_Fields_laid wordsS w (by decide +kernel) (fun j b hb => words_ascii b (List.mem_of_getElem? hb)) hG.sp
  rw [words_fields] at h
  have e1 : namesL.length = namesB.length := rfl
  have e2 : (namesL.map fun l => Value.string ⟨l.toArray⟩) = namesB.map Value.string := by unfold namesB; rw [List.map_map]; rfl
  rw [e1, e2] at h
  exact h

theorem code_words.calls (r : List ByteArray) (w : World) (hG : Gl w) (h : code_words.f = some r) :
    Calls Tryz.prog 51 #[] w fun e w' => ∃ v0_ : Value, e = .returned (v0_) ∧ Kd.R Kd.string 9 w' w.heap.size (fun _ => True) v0_ r ∧ Below w.heap.size w w' := by
  obtain rfl := Option.some.inj h
  have HG := Aside0.mk hG
  have HR := Aside0.mk (R_strs w namesB (by decide +kernel) (fun _ => True) (fun _ => trivial))
  have HB := Aside0.mk ((Below.refl w.heap.size w).alloc (Nat.le_refl _) (.cells (namesB.map Value.string).toArray 9))
  clear hG h
  go_enter Tryz.func51, Tryz.ntmps51
  go_wp2_with fail
  refine (words_call _ HG.out).mono ?_
  rintro e w' ⟨rfl, rfl⟩
  go_wp2_with fail
  go_ret
  exact ⟨_, rfl, HR.out, HB.out⟩
end Go.Proofs.YtmgcpjgpmjhemaaGreatDoor.Pc

namespace Go.Proofs.YtmgcpjgpmjhemaaGreatDoor.Pc
open Go.RowKit Go.Proofs.YtmgcpjgpmjhemaaGreatDoorW.PrintWords Go.Proofs.YtmgcpjgpmjhemaaGreatDoorW.PrintLast Go.Proofs.YtmgcpjgpmjhemaaGreatDoorW.PrintMore
attribute [local go_sem] max2_int min2_int max_two min_two max_three min_three max_four min_four   -- for this text's walks alone
set_option linter.unusedVariables false
set_option linter.unusedSimpArgs false

/-! ### code_Name: function 19 -/
def code_Name.f (a0 : Int) : Option (ByteArray) := if a0 < 0 then (some (⟨#[]⟩ : ByteArray)) else (if a0 > 23 then (some (⟨#[]⟩ : ByteArray)) else ((code_words.f).bind fun t101 => (if 0 ≤ a0 then (if a0 < (t101.length : Int) then (some (rdOf ByteArray.empty t101 a0)) else (none)) else (none))))
set_option maxHeartbeats 8000000 in
set_option maxRecDepth 100000 in
theorem code_Name.calls (a0 : Int) (r : ByteArray) (w : World) (hG : Gl w) (h : code_Name.f a0 = some r) :
    Calls Tryz.prog 19 #[.int .i64 a0] w fun e w' => e = .returned (.string r) ∧ Below w.heap.size w w' := by
  have HB := Aside0.mk (Below.refl w.heap.size w)
  have HGL := Aside0.mk hG
  clear hG
  have H : (if a0 < 0 then (some (⟨#[]⟩ : ByteArray)) else (if a0 > 23 then (some (⟨#[]⟩ : ByteArray)) else ((code_words.f).bind fun t101 => (if 0 ≤ a0 then (if a0 < (t101.length : Int) then (some (rdOf ByteArray.empty t101 a0)) else (none)) else (none))))) = some r := h
  clear h
  by_cases c2 : a0 < 0
  · rw [if_pos c2] at H
    have c2b0 : decide (a0 < 0) = true := decide_eq_true c2
    clear c2
    obtain rfl := Option.some.inj H
    go_enter Tryz.func19, Tryz.ntmps19
    go_wp2
    go_ret
    exact ⟨by first | rfl | (simp [errW_none, errW_some] <;> rfl) | (simp [*, errW_none, errW_some] <;> rfl), by repeat (first | (with_reducible first | exact HB.out | apply below_alloc | apply pw_below_drewN | apply below_drew1) | exact HB.out)⟩
  · rw [if_neg c2] at H
    have c2b0 : decide (a0 < 0) = false := decide_eq_false c2
    clear c2
    by_cases c3 : a0 > 23
    · rw [if_pos c3] at H
      have c3b0 : decide (23 < a0) = true := decide_eq_true c3
      clear c3
      obtain rfl := Option.some.inj H
      go_enter Tryz.func19, Tryz.ntmps19
      go_wp2
      go_ret
      exact ⟨by first | rfl | (simp [errW_none, errW_some] <;> rfl) | (simp [*, errW_none, errW_some] <;> rfl), by repeat (first | (with_reducible first | exact HB.out | apply below_alloc | apply pw_below_drewN | apply below_drew1) | exact HB.out)⟩
    · rw [if_neg c3] at H
      have c3b0 : decide (23 < a0) = false := decide_eq_false c3
      clear c3
      replace H := Option.bind_eq_some_iff.mp H
      obtain ⟨t101, A40, H⟩ := H
      (try dsimp only at H)
      have A4 := Aside0.mk A40
      clear A40
      by_cases c5 : 0 ≤ a0
      · rw [if_pos c5] at H
        have c5b0 : decide (0 ≤ a0) = true := decide_eq_true c5
        clear c5
        by_cases c6 : a0 < (t101.length : Int)
        · rw [if_pos c6] at H
          have c6b0 : decide (a0 < (t101.length : Int)) = true := decide_eq_true c6
          clear c6
          obtain rfl := Option.some.inj H
          go_enter Tryz.func19, Tryz.ntmps19
          go_wp2_with (first | ((with_reducible refine gate_callee (f := 51) rfl ?_); refine goesL_ (some 9) rfl rfl Tryz.func51 (by kernel_rfl) rfl #[] rfl (by (try simp only [List.map_toArray, List.map_cons, List.map_nil]); first | done | rfl | (simp only [List.length_drop, List.length_take]; rfl)) ?_; (with_reducible refine (code_words.calls  t101 _ ?side1 A4.out).mono ?_); (case side1 => refine gl_below HGL.out ?_; repeat (first | (with_reducible first | exact HB.out | apply below_alloc | apply pw_below_drewN | apply below_drew1) | exact HB.out)); rintro e w7 ⟨v102, rfl, ho0, hb⟩; refine ⟨_, rfl, ?_⟩; have n0_ := Aside0.mk (Kd.R_lower ho0 (below_size (by repeat (first | (with_reducible first | exact HB.out | apply below_alloc | apply pw_below_drewN | apply below_drew1) | exact HB.out)))); have n1_ := Aside0.mk (below_step (by repeat (first | (with_reducible first | exact HB.out | apply below_alloc | apply pw_below_drewN | apply below_drew1) | exact HB.out)) hb); clear HB; have HO103 := n0_; have HB := n1_; clear n0_ n1_; (try clear hb); (try clear hb2); (try clear hk); (try clear hi); (try clear ho0); obtain ⟨Ao8, co8, eo8⟩ := Kd.R_slice HO103.out; subst eo8; have p104 : 0 ≤ (a0 : Int) := of_decide_eq_true (by first | (with_reducible assumption) | assumption); have q104 : a0 < (t101.length : Int) := of_decide_eq_true (by first | (with_reducible assumption) | assumption); obtain ⟨ad104, e104, hx104_0⟩ := Kd.at_string (Kd.R_reads' HO103.out).2.2 a0 p104 q104; cases e104; replace p104 := eq_true p104; replace q104 := eq_true q104))
          go_ret
          exact ⟨by first | rfl | (simp [errW_none, errW_some] <;> rfl) | (simp [*, errW_none, errW_some] <;> rfl), by repeat (first | (with_reducible first | exact HB.out | apply below_alloc | apply pw_below_drewN | apply below_drew1) | exact HB.out)⟩
        · rw [if_neg c6] at H
          exact absurd H (by simp)
      · rw [if_neg c5] at H
        exact absurd H (by simp)

end Go.Proofs.YtmgcpjgpmjhemaaGreatDoor.Pc

/-
value.ops: what the map of operations holds.
-/
namespace Go.Proofs.YtmgcpjgpmjhemaaGreatDoor.Pc
open Go.RowKit Go.Proofs.YtmgcpjgpmjhemaaGreatDoorW.PrintWords Go.Proofs.YtmgcpjgpmjhemaaGreatDoorW.PrintLast Go.Proofs.YtmgcpjgpmjhemaaGreatDoorW.PrintMore
set_option linter.unusedVariables false

structure OpRow where
  key : Int
  takes : List Int
  tells : Int
  f : Nat

inductive All2 {α β : Type} (R : α → β → Prop) : List α → List β → Prop
  | nil : All2 R [] []
  | cons {a : α} {b : β} {l : List α} {m : List β} : R a b → All2 R l m → All2 R (a :: l) (b :: m)
theorem All2.length_eq {α β : Type} {R : α → β → Prop} {l : List α} {m : List β} (h : All2 R l m) : l.length = m.length := by
  induction h with
  | nil => rfl
  | cons _ _ ih => simp [ih]
theorem All2.imp {α β : Type} {R S : α → β → Prop} (hh : ∀ a b, R a b → S a b) {l : List α} {m : List β} (h : All2 R l m) : All2 S l m := by
  induction h with
  | nil => exact .nil
  | cons h _ ih => exact .cons (hh _ _ h) ih
theorem All2.snoc {α β : Type} {R : α → β → Prop} {l : List α} {m : List β} (h : All2 R l m) {a : α} {b : β} (hr : R a b) : All2 R (l ++ [a]) (m ++ [b]) := by
  induction h with
  | nil => exact .cons hr .nil
  | cons h _ ih => exact .cons h ih

def RV (v : Value) : Option (DataW Value × List MemPlace) := some (.held v, [])
def putAll (l : List (Int × Value)) : DataW Value := l.foldl (fun D p => D.put (.int .i64 p.1) (.held p.2)) (.map [])
def OpsMap (w : World) (b : Nat) (l : List (Int × Value)) : Prop := w.ownsMap Tryz.prog 3 RV b l.length (putAll l)
def opVal (g : Nat) (r : OpRow) : Value := .agg #[.slice (some ⟨g, 0, none⟩) r.takes.length r.takes.length, .int .i64 r.tells, .func (.func r.f) #[] #[]]
def OpIs (w : World) (base : Nat) (p : Int × Value) (r : OpRow) : Prop := p.1 = r.key ∧ ∃ g, base ≤ g ∧ p.2 = opVal g r ∧ w.heap[g]? = some (.cells (nums .i64 r.takes).toArray 164 (0, 0))
def OpsSt (w : World) (base b : Nat) (rows : List OpRow) : Prop := base ≤ b ∧ ∃ l, OpsMap w b l ∧ All2 (OpIs w base) l rows

theorem OpsSt.step {w w1 : World} {base b : Nat} {rows : List OpRow} (h : OpsSt w base b rows) (hg : w.grownBy w1 none) : OpsSt w1 base b rows := by
  obtain ⟨hb, l, hm, hf⟩ := h
  refine ⟨hb, l, hm.kept hg (by simp), ?_⟩
  refine hf.imp ?_
  rintro p q ⟨h1, g, h2, h3, h4⟩
  exact ⟨h1, g, h2, h3, (hg.block g (Array.getElem?_eq_some_iff.1 h4).1 (by simp)).trans h4⟩
theorem OpsSt.alloc {w : World} {base b : Nat} {rows : List OpRow} (h : OpsSt w base b rows) (o : Obj) : OpsSt (w.alloc o) base b rows := h.step (World.grownBy_alloc w o none)
theorem OpsSt.map {w : World} {base b : Nat} {rows : List OpRow} (h : OpsSt w base b rows) : ∃ es c, w.heap[b]? = some (.map es c) := by
  obtain ⟨_, l, ⟨es, c, hb, _⟩, _⟩ := h
  exact ⟨es, c, hb⟩
theorem blk_ne {w : World} {base b g : Nat} {rows : List OpRow} {cs : Array Value} {t : TypeId} (h : OpsSt w base b rows) (hg : w.heap[g]? = some (.cells cs t (0, 0))) : some g ≠ some b := by
  obtain ⟨es, c, hb⟩ := h.map
  rintro e
  injection e with e
  subst e
  rw [hg] at hb
  cases hb

theorem ins {ops : Array Oper} {rest : List Oper} {o : Oper} {a : Act} {Q : Exit → Act → World → Prop} {W : World} (m x v : Operand) (hgd : o.guard = none) (hop : o.op = Op.insert 168 m x v)
    (base b : Nat) (rows : List OpRow) (r : OpRow) (g : Nat) (hm : a.eval m = .map (some b)) (hx : a.eval x = .int .i64 r.key) (hv : a.eval v = opVal g r) (H : OpsSt W base b rows) (hwf : (Lit.int .i64 r.key).wf = true) (hlen : rows.length < 100)
    (hgb : base ≤ g) (hblk : W.heap[g]? = some (.cells (nums .i64 r.takes).toArray 164 (0, 0)))
    (hK : ∀ W1, OpsSt W1 base b (rows ++ [r]) → W.grownBy W1 (some b) → wpList Tryz.prog ops Q rest (a.put o.dst undef) W1) : wpList Tryz.prog ops Q (o :: rest) a W := by
  refine wpList_plain hgd fun K' hK' => ?_
  have hne := blk_ne H hblk
  obtain ⟨hb, l, hmap, hf⟩ := H
  have hl : l.length = rows.length := hf.length_eq
  obtain ⟨w', hrun, r1, r2⟩ := World.ownsMap.update hmap (Go.Maps.int_keyed Tryz.underlying3) Tryz.underlying168 (by simp [maxLen]; omega) (Go.Maps.keyOf_int_mk Tryz.underlying3 hwf) (show RV (opVal g r) = _ from rfl)
  unfold Oper.wp
  simp [execOp, hop, hm, hx, hv, hrun, Result.andThen]
  refine hK' _ _ (hK w' ⟨hb, l ++ [(r.key, opVal g r)], ?_, ?_⟩ r2)
  · unfold OpsMap putAll
    rw [List.foldl_append, List.length_append]
    exact r1
  · have hall : ∀ p q, OpIs W base p q → OpIs w' base p q := by
      rintro p q ⟨h1, g', h2, h3, h4⟩
      refine ⟨h1, g', h2, h3, (r2.block g' (Array.getElem?_eq_some_iff.1 h4).1 ?_).trans h4⟩
      exact blk_ne ⟨hb, l, hmap, hf⟩ h4
    exact (hf.imp hall).snoc ⟨rfl, g, hgb, rfl, (r2.block g (Array.getElem?_eq_some_iff.1 hblk).1 hne).trans hblk⟩

def opRows : List OpRow := [⟨4, [0, 0], 0, 164⟩,
  ⟨5, [0, 0], 0, 165⟩,
  ⟨6, [0, 0], 0, 166⟩,
  ⟨7, [0, 0], 0, 167⟩,
  ⟨8, [0, 0], 0, 168⟩,
  ⟨9, [1, 1], 1, 169⟩,
  ⟨10, [1], 0, 170⟩,
  ⟨11, [1, 0, 0], 1, 171⟩,
  ⟨12, [1], 1, 172⟩,
  ⟨13, [1], 1, 173⟩,
  ⟨14, [2, 2], 0, 174⟩,
  ⟨15, [2, 2], 0, 175⟩,
  ⟨16, [0], 0, 176⟩,
  ⟨17, [0, 2, 2], 2, 177⟩,
  ⟨18, [1], 0, 178⟩,
  ⟨19, [0], 1, 179⟩,
  ⟨20, [1], 0, 180⟩,
  ⟨21, [1, 1], 0, 181⟩]

theorem heap_old {w : World} {g : Nat} {c : Obj} (h : w.heap[g]? = some c) (o : Obj) : (w.alloc o).heap[g]? = some c := (Below.heap_alloc w o g (Array.getElem?_eq_some_iff.1 h).1).trans h

set_option maxRecDepth 100000 in
set_option maxHeartbeats 4000000 in
theorem ops_call (w : World) : Calls Tryz.prog 129 #[] w fun e w' => ∃ b, e = .returned (.map (some b)) ∧ OpsSt w' w.heap.size b opRows ∧ Below w.heap.size w w' := by
  have hmm := @run_makeMap Tryz.prog
  have HS := Aside0.mk (show OpsSt (((w.alloc (.cells #[.int .i64 0, .int .i64 0] 164)).alloc (.cells #[.int .i64 1] 164)).alloc (.map #[] 0)) w.heap.size (w.heap.size + 1 + 1) [] from ⟨by omega, [], by
    have h := World.ownsMap_made ((w.alloc (.cells #[.int .i64 0, .int .i64 0] 164)).alloc (.cells #[.int .i64 1] 164)) Tryz.prog 3 RV
    simp only [World.alloc, Array.size_push] at h ⊢
    exact h, .nil⟩)
  have B2 := Aside0.mk (show (((w.alloc (.cells #[.int .i64 0, .int .i64 0] 164)).alloc (.cells #[.int .i64 1] 164)).alloc (.map #[] 0)).heap[w.heap.size]? = some (.cells (nums .i64 [0, 0]).toArray 164 (0, 0)) from heap_old (heap_old (heap_alloc_new w _) _) _)
  have B1 := Aside0.mk (show (((w.alloc (.cells #[.int .i64 0, .int .i64 0] 164)).alloc (.cells #[.int .i64 1] 164)).alloc (.map #[] 0)).heap[w.heap.size + 1]? = some (.cells (nums .i64 [1]).toArray 164 (0, 0)) from heap_old (by
    have h := heap_alloc_new (w.alloc (.cells #[.int .i64 0, .int .i64 0] 164)) (.cells #[.int .i64 1] 164)
    simp only [World.alloc, Array.size_push] at h ⊢
    exact h) _)
  have HB := Aside0.mk ((((Below.refl w.heap.size w).alloc (Nat.le_refl _) (.cells #[.int .i64 0, .int .i64 0] 164)).alloc (by simp) (.cells #[.int .i64 1] 164)).alloc (by simp; omega) (.map #[] 0))
  go_enter Tryz.func129, Tryz.ntmps129
  go_wp2_with (first
    | (refine ins (.tmp 5) (.const (.int .i64 4)) (.tmp 7) rfl rfl w.heap.size (w.heap.size + 1 + 1) [] ⟨4, [0, 0], 0, 164⟩ w.heap.size rfl rfl rfl HS.out (by decide) (by decide) (Nat.le_refl _) B2.out ?_; intro W1 hs hgr; have n1_ := Aside0.mk hs; have n2_ := Aside0.mk ((hgr.block _ (Array.getElem?_eq_some_iff.1 B2.out).1 (blk_ne HS.out B2.out)).trans B2.out); have n3_ := Aside0.mk ((hgr.block _ (Array.getElem?_eq_some_iff.1 B1.out).1 (blk_ne HS.out B1.out)).trans B1.out); have n4_ := Aside0.mk (HB.out.grown hgr ((by simp; omega)) (by simp; omega)); clear HS B1 B2 HB; have HS := n1_; have B2 := n2_; have B1 := n3_; have HB := n4_; clear n1_ n2_ n3_ n4_ hs hgr)
    | (refine ins (.tmp 5) (.const (.int .i64 5)) (.tmp 9) rfl rfl w.heap.size (w.heap.size + 1 + 1) [⟨4, [0, 0], 0, 164⟩] ⟨5, [0, 0], 0, 165⟩ w.heap.size rfl rfl rfl HS.out (by decide) (by decide) (Nat.le_refl _) B2.out ?_; intro W2 hs hgr; have n1_ := Aside0.mk hs; have n2_ := Aside0.mk ((hgr.block _ (Array.getElem?_eq_some_iff.1 B2.out).1 (blk_ne HS.out B2.out)).trans B2.out); have n3_ := Aside0.mk ((hgr.block _ (Array.getElem?_eq_some_iff.1 B1.out).1 (blk_ne HS.out B1.out)).trans B1.out); have n4_ := Aside0.mk (HB.out.grown hgr (HB.out.size) (by simp; omega)); clear HS B1 B2 HB; have HS := n1_; have B2 := n2_; have B1 := n3_; have HB := n4_; clear n1_ n2_ n3_ n4_ hs hgr)
    | (refine ins (.tmp 5) (.const (.int .i64 6)) (.tmp 11) rfl rfl w.heap.size (w.heap.size + 1 + 1) [⟨4, [0, 0], 0, 164⟩, ⟨5, [0, 0], 0, 165⟩] ⟨6, [0, 0], 0, 166⟩ w.heap.size rfl rfl rfl HS.out (by decide) (by decide) (Nat.le_refl _) B2.out ?_; intro W3 hs hgr; have n1_ := Aside0.mk hs; have n2_ := Aside0.mk ((hgr.block _ (Array.getElem?_eq_some_iff.1 B2.out).1 (blk_ne HS.out B2.out)).trans B2.out); have n3_ := Aside0.mk ((hgr.block _ (Array.getElem?_eq_some_iff.1 B1.out).1 (blk_ne HS.out B1.out)).trans B1.out); have n4_ := Aside0.mk (HB.out.grown hgr (HB.out.size) (by simp; omega)); clear HS B1 B2 HB; have HS := n1_; have B2 := n2_; have B1 := n3_; have HB := n4_; clear n1_ n2_ n3_ n4_ hs hgr)
    | (refine ins (.tmp 5) (.const (.int .i64 7)) (.tmp 13) rfl rfl w.heap.size (w.heap.size + 1 + 1) [⟨4, [0, 0], 0, 164⟩, ⟨5, [0, 0], 0, 165⟩, ⟨6, [0, 0], 0, 166⟩] ⟨7, [0, 0], 0, 167⟩ w.heap.size rfl rfl rfl HS.out (by decide) (by decide) (Nat.le_refl _) B2.out ?_; intro W4 hs hgr; have n1_ := Aside0.mk hs; have n2_ := Aside0.mk ((hgr.block _ (Array.getElem?_eq_some_iff.1 B2.out).1 (blk_ne HS.out B2.out)).trans B2.out); have n3_ := Aside0.mk ((hgr.block _ (Array.getElem?_eq_some_iff.1 B1.out).1 (blk_ne HS.out B1.out)).trans B1.out); have n4_ := Aside0.mk (HB.out.grown hgr (HB.out.size) (by simp; omega)); clear HS B1 B2 HB; have HS := n1_; have B2 := n2_; have B1 := n3_; have HB := n4_; clear n1_ n2_ n3_ n4_ hs hgr)
    | (refine ins (.tmp 5) (.const (.int .i64 8)) (.tmp 15) rfl rfl w.heap.size (w.heap.size + 1 + 1) [⟨4, [0, 0], 0, 164⟩, ⟨5, [0, 0], 0, 165⟩, ⟨6, [0, 0], 0, 166⟩, ⟨7, [0, 0], 0, 167⟩] ⟨8, [0, 0], 0, 168⟩ w.heap.size rfl rfl rfl HS.out (by decide) (by decide) (Nat.le_refl _) B2.out ?_; intro W5 hs hgr; have n1_ := Aside0.mk hs; have n2_ := Aside0.mk ((hgr.block _ (Array.getElem?_eq_some_iff.1 B2.out).1 (blk_ne HS.out B2.out)).trans B2.out); have n3_ := Aside0.mk ((hgr.block _ (Array.getElem?_eq_some_iff.1 B1.out).1 (blk_ne HS.out B1.out)).trans B1.out); have n4_ := Aside0.mk (HB.out.grown hgr (HB.out.size) (by simp; omega)); clear HS B1 B2 HB; have HS := n1_; have B2 := n2_; have B1 := n3_; have HB := n4_; clear n1_ n2_ n3_ n4_ hs hgr)
    | (refine ins (.tmp 5) (.const (.int .i64 9)) (.tmp 17) rfl rfl w.heap.size (w.heap.size + 1 + 1) [⟨4, [0, 0], 0, 164⟩, ⟨5, [0, 0], 0, 165⟩, ⟨6, [0, 0], 0, 166⟩, ⟨7, [0, 0], 0, 167⟩, ⟨8, [0, 0], 0, 168⟩] ⟨9, [1, 1], 1, 169⟩ W5.heap.size rfl rfl rfl (HS.out.alloc (.cells #[.int .i64 1, .int .i64 1] 164)) (by decide) (by decide) HB.out.size (heap_alloc_new W5 (.cells #[.int .i64 1, .int .i64 1] 164)) ?_; intro W6 hs hgr; have n1_ := Aside0.mk hs; have n2_ := Aside0.mk ((hgr.block _ (Array.getElem?_eq_some_iff.1 (heap_old B2.out (.cells #[.int .i64 1, .int .i64 1] 164))).1 (blk_ne (HS.out.alloc (.cells #[.int .i64 1, .int .i64 1] 164)) (heap_old B2.out (.cells #[.int .i64 1, .int .i64 1] 164)))).trans (heap_old B2.out (.cells #[.int .i64 1, .int .i64 1] 164))); have n3_ := Aside0.mk ((hgr.block _ (Array.getElem?_eq_some_iff.1 (heap_old B1.out (.cells #[.int .i64 1, .int .i64 1] 164))).1 (blk_ne (HS.out.alloc (.cells #[.int .i64 1, .int .i64 1] 164)) (heap_old B1.out (.cells #[.int .i64 1, .int .i64 1] 164)))).trans (heap_old B1.out (.cells #[.int .i64 1, .int .i64 1] 164))); have n4_ := Aside0.mk ((HB.out.alloc HB.out.size (.cells #[.int .i64 1, .int .i64 1] 164)).grown hgr ((by have := HB.out.size; simp; omega)) (by simp; omega)); clear HS B1 B2 HB; have HS := n1_; have B2 := n2_; have B1 := n3_; have HB := n4_; clear n1_ n2_ n3_ n4_ hs hgr)
    | (refine ins (.tmp 5) (.const (.int .i64 10)) (.tmp 19) rfl rfl w.heap.size (w.heap.size + 1 + 1) [⟨4, [0, 0], 0, 164⟩, ⟨5, [0, 0], 0, 165⟩, ⟨6, [0, 0], 0, 166⟩, ⟨7, [0, 0], 0, 167⟩, ⟨8, [0, 0], 0, 168⟩, ⟨9, [1, 1], 1, 169⟩] ⟨10, [1], 0, 170⟩ (w.heap.size + 1) rfl rfl rfl HS.out (by decide) (by decide) (by omega) B1.out ?_; intro W7 hs hgr; have n1_ := Aside0.mk hs; have n2_ := Aside0.mk ((hgr.block _ (Array.getElem?_eq_some_iff.1 B2.out).1 (blk_ne HS.out B2.out)).trans B2.out); have n3_ := Aside0.mk ((hgr.block _ (Array.getElem?_eq_some_iff.1 B1.out).1 (blk_ne HS.out B1.out)).trans B1.out); have n4_ := Aside0.mk (HB.out.grown hgr (HB.out.size) (by simp; omega)); clear HS B1 B2 HB; have HS := n1_; have B2 := n2_; have B1 := n3_; have HB := n4_; clear n1_ n2_ n3_ n4_ hs hgr)
    | (refine ins (.tmp 5) (.const (.int .i64 11)) (.tmp 21) rfl rfl w.heap.size (w.heap.size + 1 + 1) [⟨4, [0, 0], 0, 164⟩, ⟨5, [0, 0], 0, 165⟩, ⟨6, [0, 0], 0, 166⟩, ⟨7, [0, 0], 0, 167⟩, ⟨8, [0, 0], 0, 168⟩, ⟨9, [1, 1], 1, 169⟩, ⟨10, [1], 0, 170⟩] ⟨11, [1, 0, 0], 1, 171⟩ W7.heap.size rfl rfl rfl (HS.out.alloc (.cells #[.int .i64 1, .int .i64 0, .int .i64 0] 164)) (by decide) (by decide) HB.out.size (heap_alloc_new W7 (.cells #[.int .i64 1, .int .i64 0, .int .i64 0] 164)) ?_; intro W8 hs hgr; have n1_ := Aside0.mk hs; have n2_ := Aside0.mk ((hgr.block _ (Array.getElem?_eq_some_iff.1 (heap_old B2.out (.cells #[.int .i64 1, .int .i64 0, .int .i64 0] 164))).1 (blk_ne (HS.out.alloc (.cells #[.int .i64 1, .int .i64 0, .int .i64 0] 164)) (heap_old B2.out (.cells #[.int .i64 1, .int .i64 0, .int .i64 0] 164)))).trans (heap_old B2.out (.cells #[.int .i64 1, .int .i64 0, .int .i64 0] 164))); have n3_ := Aside0.mk ((hgr.block _ (Array.getElem?_eq_some_iff.1 (heap_old B1.out (.cells #[.int .i64 1, .int .i64 0, .int .i64 0] 164))).1 (blk_ne (HS.out.alloc (.cells #[.int .i64 1, .int .i64 0, .int .i64 0] 164)) (heap_old B1.out (.cells #[.int .i64 1, .int .i64 0, .int .i64 0] 164)))).trans (heap_old B1.out (.cells #[.int .i64 1, .int .i64 0, .int .i64 0] 164))); have n4_ := Aside0.mk ((HB.out.alloc HB.out.size (.cells #[.int .i64 1, .int .i64 0, .int .i64 0] 164)).grown hgr ((by have := HB.out.size; simp; omega)) (by simp; omega)); clear HS B1 B2 HB; have HS := n1_; have B2 := n2_; have B1 := n3_; have HB := n4_; clear n1_ n2_ n3_ n4_ hs hgr)
    | (refine ins (.tmp 5) (.const (.int .i64 12)) (.tmp 23) rfl rfl w.heap.size (w.heap.size + 1 + 1) [⟨4, [0, 0], 0, 164⟩, ⟨5, [0, 0], 0, 165⟩, ⟨6, [0, 0], 0, 166⟩, ⟨7, [0, 0], 0, 167⟩, ⟨8, [0, 0], 0, 168⟩, ⟨9, [1, 1], 1, 169⟩, ⟨10, [1], 0, 170⟩, ⟨11, [1, 0, 0], 1, 171⟩] ⟨12, [1], 1, 172⟩ (w.heap.size + 1) rfl rfl rfl HS.out (by decide) (by decide) (by omega) B1.out ?_; intro W9 hs hgr; have n1_ := Aside0.mk hs; have n2_ := Aside0.mk ((hgr.block _ (Array.getElem?_eq_some_iff.1 B2.out).1 (blk_ne HS.out B2.out)).trans B2.out); have n3_ := Aside0.mk ((hgr.block _ (Array.getElem?_eq_some_iff.1 B1.out).1 (blk_ne HS.out B1.out)).trans B1.out); have n4_ := Aside0.mk (HB.out.grown hgr (HB.out.size) (by simp; omega)); clear HS B1 B2 HB; have HS := n1_; have B2 := n2_; have B1 := n3_; have HB := n4_; clear n1_ n2_ n3_ n4_ hs hgr)
    | (refine ins (.tmp 5) (.const (.int .i64 13)) (.tmp 25) rfl rfl w.heap.size (w.heap.size + 1 + 1) [⟨4, [0, 0], 0, 164⟩, ⟨5, [0, 0], 0, 165⟩, ⟨6, [0, 0], 0, 166⟩, ⟨7, [0, 0], 0, 167⟩, ⟨8, [0, 0], 0, 168⟩, ⟨9, [1, 1], 1, 169⟩, ⟨10, [1], 0, 170⟩, ⟨11, [1, 0, 0], 1, 171⟩, ⟨12, [1], 1, 172⟩] ⟨13, [1], 1, 173⟩ (w.heap.size + 1) rfl rfl rfl HS.out (by decide) (by decide) (by omega) B1.out ?_; intro W10 hs hgr; have n1_ := Aside0.mk hs; have n2_ := Aside0.mk ((hgr.block _ (Array.getElem?_eq_some_iff.1 B2.out).1 (blk_ne HS.out B2.out)).trans B2.out); have n3_ := Aside0.mk ((hgr.block _ (Array.getElem?_eq_some_iff.1 B1.out).1 (blk_ne HS.out B1.out)).trans B1.out); have n4_ := Aside0.mk (HB.out.grown hgr (HB.out.size) (by simp; omega)); clear HS B1 B2 HB; have HS := n1_; have B2 := n2_; have B1 := n3_; have HB := n4_; clear n1_ n2_ n3_ n4_ hs hgr)
    | (refine ins (.tmp 5) (.const (.int .i64 14)) (.tmp 27) rfl rfl w.heap.size (w.heap.size + 1 + 1) [⟨4, [0, 0], 0, 164⟩, ⟨5, [0, 0], 0, 165⟩, ⟨6, [0, 0], 0, 166⟩, ⟨7, [0, 0], 0, 167⟩, ⟨8, [0, 0], 0, 168⟩, ⟨9, [1, 1], 1, 169⟩, ⟨10, [1], 0, 170⟩, ⟨11, [1, 0, 0], 1, 171⟩, ⟨12, [1], 1, 172⟩, ⟨13, [1], 1, 173⟩] ⟨14, [2, 2], 0, 174⟩ W10.heap.size rfl rfl rfl (HS.out.alloc (.cells #[.int .i64 2, .int .i64 2] 164)) (by decide) (by decide) HB.out.size (heap_alloc_new W10 (.cells #[.int .i64 2, .int .i64 2] 164)) ?_; intro W11 hs hgr; have n1_ := Aside0.mk hs; have n2_ := Aside0.mk ((hgr.block _ (Array.getElem?_eq_some_iff.1 (heap_old B2.out (.cells #[.int .i64 2, .int .i64 2] 164))).1 (blk_ne (HS.out.alloc (.cells #[.int .i64 2, .int .i64 2] 164)) (heap_old B2.out (.cells #[.int .i64 2, .int .i64 2] 164)))).trans (heap_old B2.out (.cells #[.int .i64 2, .int .i64 2] 164))); have n3_ := Aside0.mk ((hgr.block _ (Array.getElem?_eq_some_iff.1 (heap_old B1.out (.cells #[.int .i64 2, .int .i64 2] 164))).1 (blk_ne (HS.out.alloc (.cells #[.int .i64 2, .int .i64 2] 164)) (heap_old B1.out (.cells #[.int .i64 2, .int .i64 2] 164)))).trans (heap_old B1.out (.cells #[.int .i64 2, .int .i64 2] 164))); have n4_ := Aside0.mk ((HB.out.alloc HB.out.size (.cells #[.int .i64 2, .int .i64 2] 164)).grown hgr ((by have := HB.out.size; simp; omega)) (by simp; omega)); clear HS B1 B2 HB; have HS := n1_; have B2 := n2_; have B1 := n3_; have HB := n4_; clear n1_ n2_ n3_ n4_ hs hgr)
    | (refine ins (.tmp 5) (.const (.int .i64 15)) (.tmp 29) rfl rfl w.heap.size (w.heap.size + 1 + 1) [⟨4, [0, 0], 0, 164⟩, ⟨5, [0, 0], 0, 165⟩, ⟨6, [0, 0], 0, 166⟩, ⟨7, [0, 0], 0, 167⟩, ⟨8, [0, 0], 0, 168⟩, ⟨9, [1, 1], 1, 169⟩, ⟨10, [1], 0, 170⟩, ⟨11, [1, 0, 0], 1, 171⟩, ⟨12, [1], 1, 172⟩, ⟨13, [1], 1, 173⟩, ⟨14, [2, 2], 0, 174⟩] ⟨15, [2, 2], 0, 175⟩ W11.heap.size rfl rfl rfl (HS.out.alloc (.cells #[.int .i64 2, .int .i64 2] 164)) (by decide) (by decide) HB.out.size (heap_alloc_new W11 (.cells #[.int .i64 2, .int .i64 2] 164)) ?_; intro W12 hs hgr; have n1_ := Aside0.mk hs; have n2_ := Aside0.mk ((hgr.block _ (Array.getElem?_eq_some_iff.1 (heap_old B2.out (.cells #[.int .i64 2, .int .i64 2] 164))).1 (blk_ne (HS.out.alloc (.cells #[.int .i64 2, .int .i64 2] 164)) (heap_old B2.out (.cells #[.int .i64 2, .int .i64 2] 164)))).trans (heap_old B2.out (.cells #[.int .i64 2, .int .i64 2] 164))); have n3_ := Aside0.mk ((hgr.block _ (Array.getElem?_eq_some_iff.1 (heap_old B1.out (.cells #[.int .i64 2, .int .i64 2] 164))).1 (blk_ne (HS.out.alloc (.cells #[.int .i64 2, .int .i64 2] 164)) (heap_old B1.out (.cells #[.int .i64 2, .int .i64 2] 164)))).trans (heap_old B1.out (.cells #[.int .i64 2, .int .i64 2] 164))); have n4_ := Aside0.mk ((HB.out.alloc HB.out.size (.cells #[.int .i64 2, .int .i64 2] 164)).grown hgr ((by have := HB.out.size; simp; omega)) (by simp; omega)); clear HS B1 B2 HB; have HS := n1_; have B2 := n2_; have B1 := n3_; have HB := n4_; clear n1_ n2_ n3_ n4_ hs hgr)
    | (refine ins (.tmp 5) (.const (.int .i64 16)) (.tmp 31) rfl rfl w.heap.size (w.heap.size + 1 + 1) [⟨4, [0, 0], 0, 164⟩, ⟨5, [0, 0], 0, 165⟩, ⟨6, [0, 0], 0, 166⟩, ⟨7, [0, 0], 0, 167⟩, ⟨8, [0, 0], 0, 168⟩, ⟨9, [1, 1], 1, 169⟩, ⟨10, [1], 0, 170⟩, ⟨11, [1, 0, 0], 1, 171⟩, ⟨12, [1], 1, 172⟩, ⟨13, [1], 1, 173⟩, ⟨14, [2, 2], 0, 174⟩, ⟨15, [2, 2], 0, 175⟩] ⟨16, [0], 0, 176⟩ W12.heap.size rfl rfl rfl (HS.out.alloc (.cells #[.int .i64 0] 164)) (by decide) (by decide) HB.out.size (heap_alloc_new W12 (.cells #[.int .i64 0] 164)) ?_; intro W13 hs hgr; have n1_ := Aside0.mk hs; have n2_ := Aside0.mk ((hgr.block _ (Array.getElem?_eq_some_iff.1 (heap_old B2.out (.cells #[.int .i64 0] 164))).1 (blk_ne (HS.out.alloc (.cells #[.int .i64 0] 164)) (heap_old B2.out (.cells #[.int .i64 0] 164)))).trans (heap_old B2.out (.cells #[.int .i64 0] 164))); have n3_ := Aside0.mk ((hgr.block _ (Array.getElem?_eq_some_iff.1 (heap_old B1.out (.cells #[.int .i64 0] 164))).1 (blk_ne (HS.out.alloc (.cells #[.int .i64 0] 164)) (heap_old B1.out (.cells #[.int .i64 0] 164)))).trans (heap_old B1.out (.cells #[.int .i64 0] 164))); have n4_ := Aside0.mk ((HB.out.alloc HB.out.size (.cells #[.int .i64 0] 164)).grown hgr ((by have := HB.out.size; simp; omega)) (by simp; omega)); clear HS B1 B2 HB; have HS := n1_; have B2 := n2_; have B1 := n3_; have HB := n4_; clear n1_ n2_ n3_ n4_ hs hgr)
    | (refine ins (.tmp 5) (.const (.int .i64 17)) (.tmp 33) rfl rfl w.heap.size (w.heap.size + 1 + 1) [⟨4, [0, 0], 0, 164⟩, ⟨5, [0, 0], 0, 165⟩, ⟨6, [0, 0], 0, 166⟩, ⟨7, [0, 0], 0, 167⟩, ⟨8, [0, 0], 0, 168⟩, ⟨9, [1, 1], 1, 169⟩, ⟨10, [1], 0, 170⟩, ⟨11, [1, 0, 0], 1, 171⟩, ⟨12, [1], 1, 172⟩, ⟨13, [1], 1, 173⟩, ⟨14, [2, 2], 0, 174⟩, ⟨15, [2, 2], 0, 175⟩, ⟨16, [0], 0, 176⟩] ⟨17, [0, 2, 2], 2, 177⟩ W13.heap.size rfl rfl rfl (HS.out.alloc (.cells #[.int .i64 0, .int .i64 2, .int .i64 2] 164)) (by decide) (by decide) HB.out.size (heap_alloc_new W13 (.cells #[.int .i64 0, .int .i64 2, .int .i64 2] 164)) ?_; intro W14 hs hgr; have n1_ := Aside0.mk hs; have n2_ := Aside0.mk ((hgr.block _ (Array.getElem?_eq_some_iff.1 (heap_old B2.out (.cells #[.int .i64 0, .int .i64 2, .int .i64 2] 164))).1 (blk_ne (HS.out.alloc (.cells #[.int .i64 0, .int .i64 2, .int .i64 2] 164)) (heap_old B2.out (.cells #[.int .i64 0, .int .i64 2, .int .i64 2] 164)))).trans (heap_old B2.out (.cells #[.int .i64 0, .int .i64 2, .int .i64 2] 164))); have n3_ := Aside0.mk ((hgr.block _ (Array.getElem?_eq_some_iff.1 (heap_old B1.out (.cells #[.int .i64 0, .int .i64 2, .int .i64 2] 164))).1 (blk_ne (HS.out.alloc (.cells #[.int .i64 0, .int .i64 2, .int .i64 2] 164)) (heap_old B1.out (.cells #[.int .i64 0, .int .i64 2, .int .i64 2] 164)))).trans (heap_old B1.out (.cells #[.int .i64 0, .int .i64 2, .int .i64 2] 164))); have n4_ := Aside0.mk ((HB.out.alloc HB.out.size (.cells #[.int .i64 0, .int .i64 2, .int .i64 2] 164)).grown hgr ((by have := HB.out.size; simp; omega)) (by simp; omega)); clear HS B1 B2 HB; have HS := n1_; have B2 := n2_; have B1 := n3_; have HB := n4_; clear n1_ n2_ n3_ n4_ hs hgr)
    | (refine ins (.tmp 5) (.const (.int .i64 18)) (.tmp 35) rfl rfl w.heap.size (w.heap.size + 1 + 1) [⟨4, [0, 0], 0, 164⟩, ⟨5, [0, 0], 0, 165⟩, ⟨6, [0, 0], 0, 166⟩, ⟨7, [0, 0], 0, 167⟩, ⟨8, [0, 0], 0, 168⟩, ⟨9, [1, 1], 1, 169⟩, ⟨10, [1], 0, 170⟩, ⟨11, [1, 0, 0], 1, 171⟩, ⟨12, [1], 1, 172⟩, ⟨13, [1], 1, 173⟩, ⟨14, [2, 2], 0, 174⟩, ⟨15, [2, 2], 0, 175⟩, ⟨16, [0], 0, 176⟩, ⟨17, [0, 2, 2], 2, 177⟩] ⟨18, [1], 0, 178⟩ (w.heap.size + 1) rfl rfl rfl HS.out (by decide) (by decide) (by omega) B1.out ?_; intro W15 hs hgr; have n1_ := Aside0.mk hs; have n2_ := Aside0.mk ((hgr.block _ (Array.getElem?_eq_some_iff.1 B2.out).1 (blk_ne HS.out B2.out)).trans B2.out); have n3_ := Aside0.mk ((hgr.block _ (Array.getElem?_eq_some_iff.1 B1.out).1 (blk_ne HS.out B1.out)).trans B1.out); have n4_ := Aside0.mk (HB.out.grown hgr (HB.out.size) (by simp; omega)); clear HS B1 B2 HB; have HS := n1_; have B2 := n2_; have B1 := n3_; have HB := n4_; clear n1_ n2_ n3_ n4_ hs hgr)
    | (refine ins (.tmp 5) (.const (.int .i64 19)) (.tmp 37) rfl rfl w.heap.size (w.heap.size + 1 + 1) [⟨4, [0, 0], 0, 164⟩, ⟨5, [0, 0], 0, 165⟩, ⟨6, [0, 0], 0, 166⟩, ⟨7, [0, 0], 0, 167⟩, ⟨8, [0, 0], 0, 168⟩, ⟨9, [1, 1], 1, 169⟩, ⟨10, [1], 0, 170⟩, ⟨11, [1, 0, 0], 1, 171⟩, ⟨12, [1], 1, 172⟩, ⟨13, [1], 1, 173⟩, ⟨14, [2, 2], 0, 174⟩, ⟨15, [2, 2], 0, 175⟩, ⟨16, [0], 0, 176⟩, ⟨17, [0, 2, 2], 2, 177⟩, ⟨18, [1], 0, 178⟩] ⟨19, [0], 1, 179⟩ W15.heap.size rfl rfl rfl (HS.out.alloc (.cells #[.int .i64 0] 164)) (by decide) (by decide) HB.out.size (heap_alloc_new W15 (.cells #[.int .i64 0] 164)) ?_; intro W16 hs hgr; have n1_ := Aside0.mk hs; have n2_ := Aside0.mk ((hgr.block _ (Array.getElem?_eq_some_iff.1 (heap_old B2.out (.cells #[.int .i64 0] 164))).1 (blk_ne (HS.out.alloc (.cells #[.int .i64 0] 164)) (heap_old B2.out (.cells #[.int .i64 0] 164)))).trans (heap_old B2.out (.cells #[.int .i64 0] 164))); have n3_ := Aside0.mk ((hgr.block _ (Array.getElem?_eq_some_iff.1 (heap_old B1.out (.cells #[.int .i64 0] 164))).1 (blk_ne (HS.out.alloc (.cells #[.int .i64 0] 164)) (heap_old B1.out (.cells #[.int .i64 0] 164)))).trans (heap_old B1.out (.cells #[.int .i64 0] 164))); have n4_ := Aside0.mk ((HB.out.alloc HB.out.size (.cells #[.int .i64 0] 164)).grown hgr ((by have := HB.out.size; simp; omega)) (by simp; omega)); clear HS B1 B2 HB; have HS := n1_; have B2 := n2_; have B1 := n3_; have HB := n4_; clear n1_ n2_ n3_ n4_ hs hgr)
    | (refine ins (.tmp 5) (.const (.int .i64 20)) (.tmp 39) rfl rfl w.heap.size (w.heap.size + 1 + 1) [⟨4, [0, 0], 0, 164⟩, ⟨5, [0, 0], 0, 165⟩, ⟨6, [0, 0], 0, 166⟩, ⟨7, [0, 0], 0, 167⟩, ⟨8, [0, 0], 0, 168⟩, ⟨9, [1, 1], 1, 169⟩, ⟨10, [1], 0, 170⟩, ⟨11, [1, 0, 0], 1, 171⟩, ⟨12, [1], 1, 172⟩, ⟨13, [1], 1, 173⟩, ⟨14, [2, 2], 0, 174⟩, ⟨15, [2, 2], 0, 175⟩, ⟨16, [0], 0, 176⟩, ⟨17, [0, 2, 2], 2, 177⟩, ⟨18, [1], 0, 178⟩, ⟨19, [0], 1, 179⟩] ⟨20, [1], 0, 180⟩ (w.heap.size + 1) rfl rfl rfl HS.out (by decide) (by decide) (by omega) B1.out ?_; intro W17 hs hgr; have n1_ := Aside0.mk hs; have n2_ := Aside0.mk ((hgr.block _ (Array.getElem?_eq_some_iff.1 B2.out).1 (blk_ne HS.out B2.out)).trans B2.out); have n3_ := Aside0.mk ((hgr.block _ (Array.getElem?_eq_some_iff.1 B1.out).1 (blk_ne HS.out B1.out)).trans B1.out); have n4_ := Aside0.mk (HB.out.grown hgr (HB.out.size) (by simp; omega)); clear HS B1 B2 HB; have HS := n1_; have B2 := n2_; have B1 := n3_; have HB := n4_; clear n1_ n2_ n3_ n4_ hs hgr)
    | (refine ins (.tmp 5) (.const (.int .i64 21)) (.tmp 41) rfl rfl w.heap.size (w.heap.size + 1 + 1) [⟨4, [0, 0], 0, 164⟩, ⟨5, [0, 0], 0, 165⟩, ⟨6, [0, 0], 0, 166⟩, ⟨7, [0, 0], 0, 167⟩, ⟨8, [0, 0], 0, 168⟩, ⟨9, [1, 1], 1, 169⟩, ⟨10, [1], 0, 170⟩, ⟨11, [1, 0, 0], 1, 171⟩, ⟨12, [1], 1, 172⟩, ⟨13, [1], 1, 173⟩, ⟨14, [2, 2], 0, 174⟩, ⟨15, [2, 2], 0, 175⟩, ⟨16, [0], 0, 176⟩, ⟨17, [0, 2, 2], 2, 177⟩, ⟨18, [1], 0, 178⟩, ⟨19, [0], 1, 179⟩, ⟨20, [1], 0, 180⟩] ⟨21, [1, 1], 0, 181⟩ W17.heap.size rfl rfl rfl (HS.out.alloc (.cells #[.int .i64 1, .int .i64 1] 164)) (by decide) (by decide) HB.out.size (heap_alloc_new W17 (.cells #[.int .i64 1, .int .i64 1] 164)) ?_; intro W18 hs hgr; have n1_ := Aside0.mk hs; have n2_ := Aside0.mk ((hgr.block _ (Array.getElem?_eq_some_iff.1 (heap_old B2.out (.cells #[.int .i64 1, .int .i64 1] 164))).1 (blk_ne (HS.out.alloc (.cells #[.int .i64 1, .int .i64 1] 164)) (heap_old B2.out (.cells #[.int .i64 1, .int .i64 1] 164)))).trans (heap_old B2.out (.cells #[.int .i64 1, .int .i64 1] 164))); have n3_ := Aside0.mk ((hgr.block _ (Array.getElem?_eq_some_iff.1 (heap_old B1.out (.cells #[.int .i64 1, .int .i64 1] 164))).1 (blk_ne (HS.out.alloc (.cells #[.int .i64 1, .int .i64 1] 164)) (heap_old B1.out (.cells #[.int .i64 1, .int .i64 1] 164)))).trans (heap_old B1.out (.cells #[.int .i64 1, .int .i64 1] 164))); have n4_ := Aside0.mk ((HB.out.alloc HB.out.size (.cells #[.int .i64 1, .int .i64 1] 164)).grown hgr ((by have := HB.out.size; simp; omega)) (by simp; omega)); clear HS B1 B2 HB; have HS := n1_; have B2 := n2_; have B1 := n3_; have HB := n4_; clear n1_ n2_ n3_ n4_ hs hgr))
  go_ret
  exact ⟨_, rfl, HS.out, HB.out⟩
end Go.Proofs.YtmgcpjgpmjhemaaGreatDoor.Pc

/-
The contract of value.Arity in the form that the printed walks take.
-/
namespace Go.Proofs.YtmgcpjgpmjhemaaGreatDoor.Pc
open Go.RowKit Go.Proofs.YtmgcpjgpmjhemaaGreatDoorW.PrintWords Go.Proofs.YtmgcpjgpmjhemaaGreatDoorW.PrintLast Go.Proofs.YtmgcpjgpmjhemaaGreatDoorW.PrintMore
set_option linter.unusedVariables false

def rowAt (n : Int) : List OpRow → Option OpRow
  | [] => none
  | r :: l => match rowAt n l with
    | some x => some x
    | none => if r.key = n then some r else none

theorem putAll_at (l : List (Int × Value)) (rows : List OpRow) (w : World) (base : Nat) (n : Int) (z : Value) (h : All2 (OpIs w base) l rows) :
    ∀ D : DataW Value, Maps.IsMap D → ∃ v, (l.foldl (fun D p => D.put (.int .i64 p.1) (.held p.2)) D).atKey (.int .i64 n) (.held z) = v ∧
      match rowAt n rows with
      | some r => ∃ p, v = .held p ∧ OpIs w base (n, p) r
      | none => v = D.atKey (.int .i64 n) (.held z) := by
  induction h with
  | nil => intro D hD; exact ⟨_, rfl, rfl⟩
  | @cons p r l rows hp _ ih =>
    intro D hD
    obtain ⟨v, hv, hm⟩ := ih (D.put (.int .i64 p.1) (.held p.2)) (hD.put _ _)
    refine ⟨v, hv, ?_⟩
    simp only [rowAt]
    cases hr : rowAt n rows with
    | some x => rw [hr] at hm; exact hm
    | none =>
      rw [hr] at hm
      simp only at hm ⊢
      by_cases hk : r.key = n
      · rw [if_pos hk]
        have e : p.1 = n := hp.1.trans hk
        rw [e, Maps.atKey_put_same hD (show WideAt.IsKeyLit (.int .i64 n) from trivial)] at hm
        exact ⟨p.2, hm, ⟨hk.symm, hp.2⟩⟩
      · rw [if_neg hk]
        simp only
        rw [Maps.atKey_put_other (by intro e; injection e with _ e; exact hk (hp.1.symm.trans e.symm))] at hm
        exact hm

def opZero : Value := .agg #[.slice none 0 0, .int .i64 0, .nilFunc]
theorem opZero_is (w : World) : (zeroValue 167).run Tryz.prog w = .ok opZero w := by kernel_rfl

theorem ops_lookup {w : World} {base b : Nat} {rows : List OpRow} (H : OpsSt w base b rows) (n : Int) (hwf : (Lit.int .i64 n).wf = true) :
    ∃ v, (Instr.lookup 168 (.map (some b)) (.int .i64 n) false).run Tryz.prog w = .ok v w ∧
      match rowAt n rows with
      | some r => OpIs w base (n, v) r
      | none => v = opZero := by
  obtain ⟨_, l, hm, hf⟩ := H
  obtain ⟨v, ps, hrun, hv⟩ := World.ownsMap.lookup hm (Go.Maps.int_keyed Tryz.underlying3) Tryz.underlying168 (opZero_is w) (show RV opZero = _ from rfl) (Go.Maps.keyOf_int_mk Tryz.underlying3 hwf)
  refine ⟨v, hrun, ?_⟩
  have hv' : DataW.held v = (putAll l).atKey (.int .i64 n) (.held opZero) := by
    simp only [RV, Option.some.injEq, Prod.mk.injEq] at hv
    exact hv.1
  obtain ⟨d, hd, hmatch⟩ := putAll_at l rows w base n opZero hf (.map []) ⟨_, rfl⟩
  unfold putAll at hv'
  rw [hd] at hv'
  cases hr : rowAt n rows with
  | some r =>
    rw [hr] at hmatch
    obtain ⟨p, rfl, hp⟩ := hmatch
    injection hv' with e
    subst e
    exact hp
  | none =>
    rw [hr] at hmatch
    simp only at hmatch
    rw [hmatch] at hv'
    have e2 : (DataW.map ([] : List (Lit × DataW Value))).atKey (.int .i64 n) (.held opZero) = .held opZero := rfl
    rw [e2] at hv'
    injection hv' with e

def arity (n : Int) : Int := match rowAt n opRows with
  | some r => r.takes.length
  | none => 0
def value_Arity.f (a0 : Int) : Option Int := if (Lit.int .i64 a0).wf = true then some (arity a0) else none

theorem field_takes (A : Option Addr) (n c : Nat) (t f : Value) (W : World) : (Instr.field 167 (.agg #[.slice A n c, t, f]) 0).run Tryz.prog W = .ok (.slice A n c) W := by
  kernel_rfl

set_option maxRecDepth 100000 in
theorem value_Arity.calls (a0 : Int) (r : Int) (w : World) (h : value_Arity.f a0 = some r) :
    Calls Tryz.prog 98 #[.int .i64 a0] w fun e w' => e = .returned (.int .i64 r) ∧ Below w.heap.size w w' := by
  unfold value_Arity.f at h
  split at h
  · rename_i hwf
    have HR := Aside0.mk (Option.some.inj h)
    have HWF := Aside0.mk hwf
    clear h hwf
    have hfd := field_takes
    go_enter Tryz.func98, Tryz.ntmps98
    go_wp2_with fail
    refine (ops_call w).mono ?_
    rintro e w' ⟨b, rfl, hs, hb⟩
    obtain ⟨v, hrun, hm⟩ := ops_lookup hs a0 HWF.out
    have HB := Aside0.mk hb
    have HS := Aside0.mk hs
    clear hb hs
    have hv : ∃ A n c t f, v = .agg #[.slice A n c, t, f] ∧ (n : Int) = r := by
      have hr := HR.out
      unfold arity at hr
      cases hq : rowAt a0 opRows with
      | some x =>
        rw [hq] at hm hr
        obtain ⟨_, g, _, hg, _⟩ := hm
        exact ⟨_, _, _, _, _, hg, hr⟩
      | none =>
        rw [hq] at hm hr
        exact ⟨_, _, _, _, _, hm, hr⟩
    clear hm
    obtain ⟨A, n, c, t, f, rfl, rfl⟩ := hv
    go_wp2
    go_ret
    exact ⟨rfl, HB.out⟩
  · cases h
end Go.Proofs.YtmgcpjgpmjhemaaGreatDoor.Pc

namespace Go.Proofs.YtmgcpjgpmjhemaaGreatDoor.Pc
open Go.RowKit Go.Proofs.YtmgcpjgpmjhemaaGreatDoorW.PrintWords Go.Proofs.YtmgcpjgpmjhemaaGreatDoorW.PrintLast Go.Proofs.YtmgcpjgpmjhemaaGreatDoorW.PrintMore
attribute [local go_sem] max2_int min2_int max_two min_two max_three min_three max_four min_four   -- for this text's walks alone
set_option linter.unusedVariables false
set_option linter.unusedSimpArgs false

/-! ### code_isOp: function 56 -/
def code_isOp.f (a0 : Int) : Option (Bool) := if a0 ≥ 0 then (if a0 ≤ 3 then (some true) else (if a0 = 22 then (some true) else (if a0 = 23 then (some true) else ((value_Arity.f a0).bind fun t105 => (some (decide (t105 > 0))))))) else (if a0 = 22 then (some true) else (if a0 = 23 then (some true) else ((value_Arity.f a0).bind fun t106 => (some (decide (t106 > 0))))))
set_option maxHeartbeats 8000000 in
set_option maxRecDepth 100000 in
theorem code_isOp.calls (a0 : Int) (r : Bool) (w : World) (h : code_isOp.f a0 = some r) :
    Calls Tryz.prog 56 #[.int .i64 a0] w fun e w' => e = .returned (.bool r) ∧ Below w.heap.size w w' := by
  have HB := Aside0.mk (Below.refl w.heap.size w)
  have H : (if a0 ≥ 0 then (if a0 ≤ 3 then (some true) else (if a0 = 22 then (some true) else (if a0 = 23 then (some true) else ((value_Arity.f a0).bind fun t105 => (some (decide (t105 > 0))))))) else (if a0 = 22 then (some true) else (if a0 = 23 then (some true) else ((value_Arity.f a0).bind fun t106 => (some (decide (t106 > 0))))))) = some r := h
  clear h
  by_cases c2 : a0 ≥ 0
  · rw [if_pos c2] at H
    have c2b0 : decide (0 ≤ a0) = true := decide_eq_true c2
    clear c2
    by_cases c3 : a0 ≤ 3
    · rw [if_pos c3] at H
      have c3b0 : decide (a0 ≤ 3) = true := decide_eq_true c3
      clear c3
      obtain rfl := Option.some.inj H
      go_enter Tryz.func56, Tryz.ntmps56
      go_wp2
      go_ret
      exact ⟨by first | rfl | (simp [errW_none, errW_some] <;> rfl) | (simp [*, errW_none, errW_some] <;> rfl), by repeat (first | (with_reducible first | exact HB.out | apply below_alloc | apply pw_below_drewN | apply below_drew1) | exact HB.out)⟩
    · rw [if_neg c3] at H
      have c3b0 : decide (a0 ≤ 3) = false := decide_eq_false c3
      clear c3
      by_cases c4 : a0 = 22
      · rw [if_pos c4] at H
        have c4b0 : (a0 == 22) = true := beq_iff_eq.mpr c4
        have c4b1 : (a0 != 22) = false := bne_eq_false_iff_eq.mpr c4
        clear c4
        obtain rfl := Option.some.inj H
        go_enter Tryz.func56, Tryz.ntmps56
        go_wp2
        go_ret
        exact ⟨by first | rfl | (simp [errW_none, errW_some] <;> rfl) | (simp [*, errW_none, errW_some] <;> rfl), by repeat (first | (with_reducible first | exact HB.out | apply below_alloc | apply pw_below_drewN | apply below_drew1) | exact HB.out)⟩
      · rw [if_neg c4] at H
        have c4b0 : (a0 == 22) = false := beq_eq_false_iff_ne.mpr c4
        have c4b1 : (a0 != 22) = true := bne_iff_ne.mpr c4
        by_cases c5 : a0 = 23
        · rw [if_pos c5] at H
          have c5b0 : (a0 == 23) = true := beq_iff_eq.mpr c5
          have c5b1 : (a0 != 23) = false := bne_eq_false_iff_eq.mpr c5
          clear c5
          obtain rfl := Option.some.inj H
          go_enter Tryz.func56, Tryz.ntmps56
          go_wp2
          go_ret
          exact ⟨by first | rfl | (simp [errW_none, errW_some] <;> rfl) | (simp [*, errW_none, errW_some] <;> rfl), by repeat (first | (with_reducible first | exact HB.out | apply below_alloc | apply pw_below_drewN | apply below_drew1) | exact HB.out)⟩
        · rw [if_neg c5] at H
          have c5b0 : (a0 == 23) = false := beq_eq_false_iff_ne.mpr c5
          have c5b1 : (a0 != 23) = true := bne_iff_ne.mpr c5
          replace H := Option.bind_eq_some_iff.mp H
          obtain ⟨t105, A60, H⟩ := H
          (try dsimp only at H)
          have A6 := Aside0.mk A60
          clear A60
          obtain rfl := Option.some.inj H
          go_enter Tryz.func56, Tryz.ntmps56
          go_wp2_with (first | (go_at_call 98; (with_reducible refine (value_Arity.calls a0 t105 _ A6.out).mono ?_); rintro e w7 ⟨rfl, hb⟩; have n0_ := Aside0.mk (below_step (by repeat (first | (with_reducible first | exact HB.out | apply below_alloc | apply pw_below_drewN | apply below_drew1) | exact HB.out)) hb); clear HB; have HB := n0_; clear n0_; (try clear hb); (try clear hb2); (try clear hk); (try clear hi)))
          go_ret
          exact ⟨by first | rfl | (simp [errW_none, errW_some] <;> rfl) | (simp [*, errW_none, errW_some] <;> rfl), by repeat (first | (with_reducible first | exact HB.out | apply below_alloc | apply pw_below_drewN | apply below_drew1) | exact HB.out)⟩
  · rw [if_neg c2] at H
    have c2b0 : decide (0 ≤ a0) = false := decide_eq_false c2
    clear c2
    by_cases c8 : a0 = 22
    · rw [if_pos c8] at H
      have c8b0 : (a0 == 22) = true := beq_iff_eq.mpr c8
      have c8b1 : (a0 != 22) = false := bne_eq_false_iff_eq.mpr c8
      clear c8
      obtain rfl := Option.some.inj H
      go_enter Tryz.func56, Tryz.ntmps56
      go_wp2
      go_ret
      exact ⟨by first | rfl | (simp [errW_none, errW_some] <;> rfl) | (simp [*, errW_none, errW_some] <;> rfl), by repeat (first | (with_reducible first | exact HB.out | apply below_alloc | apply pw_below_drewN | apply below_drew1) | exact HB.out)⟩
    · rw [if_neg c8] at H
      have c8b0 : (a0 == 22) = false := beq_eq_false_iff_ne.mpr c8
      have c8b1 : (a0 != 22) = true := bne_iff_ne.mpr c8
      by_cases c9 : a0 = 23
      · rw [if_pos c9] at H
        have c9b0 : (a0 == 23) = true := beq_iff_eq.mpr c9
        have c9b1 : (a0 != 23) = false := bne_eq_false_iff_eq.mpr c9
        clear c9
        obtain rfl := Option.some.inj H
        go_enter Tryz.func56, Tryz.ntmps56
        go_wp2
        go_ret
        exact ⟨by first | rfl | (simp [errW_none, errW_some] <;> rfl) | (simp [*, errW_none, errW_some] <;> rfl), by repeat (first | (with_reducible first | exact HB.out | apply below_alloc | apply pw_below_drewN | apply below_drew1) | exact HB.out)⟩
      · rw [if_neg c9] at H
        have c9b0 : (a0 == 23) = false := beq_eq_false_iff_ne.mpr c9
        have c9b1 : (a0 != 23) = true := bne_iff_ne.mpr c9
        replace H := Option.bind_eq_some_iff.mp H
        obtain ⟨t106, A100, H⟩ := H
        (try dsimp only at H)
        have A10 := Aside0.mk A100
        clear A100
        obtain rfl := Option.some.inj H
        go_enter Tryz.func56, Tryz.ntmps56
        go_wp2_with (first | (go_at_call 98; (with_reducible refine (value_Arity.calls a0 t106 _ A10.out).mono ?_); rintro e w11 ⟨rfl, hb⟩; have n0_ := Aside0.mk (below_step (by repeat (first | (with_reducible first | exact HB.out | apply below_alloc | apply pw_below_drewN | apply below_drew1) | exact HB.out)) hb); clear HB; have HB := n0_; clear n0_; (try clear hb); (try clear hb2); (try clear hk); (try clear hi)))
        go_ret
        exact ⟨by first | rfl | (simp [errW_none, errW_some] <;> rfl) | (simp [*, errW_none, errW_some] <;> rfl), by repeat (first | (with_reducible first | exact HB.out | apply below_alloc | apply pw_below_drewN | apply below_drew1) | exact HB.out)⟩

end Go.Proofs.YtmgcpjgpmjhemaaGreatDoor.Pc
