/-
What the package-level variables hold that the walks read: 'Gl', kept by every later world that keeps what was there.
-/
import Derived.Test.YtmgcpjgpmjhemaaGreatDoorProg
import Derived.WalkSmall
import Derived.Lib.LaidTab
import Derived.Lib.Tables
import Derived.Lib.FieldsLaws
import Derived.Lib.ItoaMem
import Derived.KernelRfl
namespace Go.Proofs.YtmgcpjgpmjhemaaGreatDoor.Pc
open Go.RowKit

structure Gl (w : World) : Prop where
  sp : Lib.TabIs Tryz.prog w "strings.asciiSpace" .u8 Lib.asciiSpaceTab
  p10 : Lib.TabIs Tryz.prog w "internal/strconv.uint64pow10" .u64 Lib.pow10Tab
  syn : ∃ te pe, w.cell? ⟨4, 0, none⟩ = some (.iface te pe)
  rng : ∃ te pe, w.cell? ⟨5, 0, none⟩ = some (.iface te pe)
  ml : ∃ m, w.cell? ⟨1, 0, none⟩ = some (.int .i64 m)

theorem var_lt {w : World} {n : String} {cs : Array Value} {g : Nat} (hg : Tryz.prog.globalNamed n = some g) (hv : w.var? Tryz.prog n = some cs) : g < w.heap.size := by
  unfold World.var? at hv
  simp only [hg, Option.bind_some] at hv
  rcases Nat.lt_or_ge g w.heap.size with h | h
  · exact h
  · rw [Array.getElem?_eq_none h] at hv
    simp at hv

theorem gl_below {w w' : World} (h : Gl w) (hb : Below w.heap.size w w') : Gl w' := by
  have key : ∀ {a : Addr} {v : Value}, w.cell? a = some v → w'.cell? a = some v := fun hc => (hb.cell (World.block_lt_of_cell? w _ hc)).trans hc
  refine ⟨?_, ?_, ?_, ?_, ?_⟩
  · exact var?_below (g := 0) hb (by kernel_rfl) (var_lt (by kernel_rfl) h.sp) h.sp
  · exact var?_below (g := 3) hb (by kernel_rfl) (var_lt (by kernel_rfl) h.p10) h.p10
  · obtain ⟨te, pe, hc⟩ := h.syn; exact ⟨te, pe, key hc⟩
  · obtain ⟨te, pe, hc⟩ := h.rng; exact ⟨te, pe, key hc⟩
  · obtain ⟨m, hc⟩ := h.ml; exact ⟨m, key hc⟩
end Go.Proofs.YtmgcpjgpmjhemaaGreatDoor.Pc
