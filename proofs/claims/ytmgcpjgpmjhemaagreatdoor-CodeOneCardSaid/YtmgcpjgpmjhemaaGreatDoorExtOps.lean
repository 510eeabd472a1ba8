/-
value.ops: what the map of operations holds.
-/
import Derived.Test.YtmgcpjgpmjhemaaGreatDoorExtBase
import Derived.Test.YtmgcpjgpmjhemaaGreatDoorPc0
import Derived.Maps.Own
import Derived.Maps.Ext
namespace Go.Proofs.YtmgcpjgpmjhemaaGreatDoor.Pc
open Go.RowKit Go.Proofs.YtmgcpjgpmjhemaaGreatDoorW.PrintWords Go.Proofs.YtmgcpjgpmjhemaaGreatDoorW.PrintLast Go.Proofs.YtmgcpjgpmjhemaaGreatDoorW.PrintMore
set_option linter.unusedVariables false

structure OpRow where
  key : Int
  takes : List Int
  tells : Int
  f : Nat

inductive All2 {α β : Type} (R : α → β → Prop) : List α → List β → Prop
  | nil : All2 R [] []
  | cons {a : α} {b : β} {l : List α} {m : List β} : R a b → All2 R l m → All2 R (a :: l) (b :: m)
theorem All2.length_eq {α β : Type} {R : α → β → Prop} {l : List α} {m : List β} (h : All2 R l m) : l.length = m.length := by
  induction h with
  | nil => rfl
  | cons _ _ ih => simp [ih]
theorem All2.imp {α β : Type} {R S : α → β → Prop} (hh : ∀ a b, R a b → S a b) {l : List α} {m : List β} (h : All2 R l m) : All2 S l m := by
  induction h with
  | nil => exact .nil
  | cons h _ ih => exact .cons (hh _ _ h) ih
theorem All2.snoc {α β : Type} {R : α → β → Prop} {l : List α} {m : List β} (h : All2 R l m) {a : α} {b : β} (hr : R a b) : All2 R (l ++ [a]) (m ++ [b]) := by
  induction h with
  | nil => exact .cons hr .nil
  | cons h _ ih => exact .cons h ih

def RV (v : Value) : Option (DataW Value × List MemPlace) := some (.held v, [])
def putAll (l : List (Int × Value)) : DataW Value := l.foldl (fun D p => D.put (.int .i64 p.1) (.held p.2)) (.map [])
def OpsMap (w : World) (b : Nat) (l : List (Int × Value)) : Prop := w.ownsMap Tryz.prog 3 RV b l.length (putAll l)
def opVal (g : Nat) (r : OpRow) : Value := .agg #[.slice (some ⟨g, 0, none⟩) r.takes.length r.takes.length, .int .i64 r.tells, .func (.func r.f) #[] #[]]
def OpIs (w : World) (base : Nat) (p : Int × Value) (r : OpRow) : Prop := p.1 = r.key ∧ ∃ g, base ≤ g ∧ p.2 = opVal g r ∧ w.heap[g]? = some (.cells (nums .i64 r.takes).toArray 164 (0, 0))
def OpsSt (w : World) (base b : Nat) (rows : List OpRow) : Prop := base ≤ b ∧ ∃ l, OpsMap w b l ∧ All2 (OpIs w base) l rows

theorem OpsSt.step {w w1 : World} {base b : Nat} {rows : List OpRow} (h : OpsSt w base b rows) (hg : w.grownBy w1 none) : OpsSt w1 base b rows := by
  obtain ⟨hb, l, hm, hf⟩ := h
  refine ⟨hb, l, hm.kept hg (by simp), ?_⟩
  refine hf.imp ?_
  rintro p q ⟨h1, g, h2, h3, h4⟩
  exact ⟨h1, g, h2, h3, (hg.block g (Array.getElem?_eq_some_iff.1 h4).1 (by simp)).trans h4⟩
theorem OpsSt.alloc {w : World} {base b : Nat} {rows : List OpRow} (h : OpsSt w base b rows) (o : Obj) : OpsSt (w.alloc o) base b rows := h.step (World.grownBy_alloc w o none)
theorem OpsSt.map {w : World} {base b : Nat} {rows : List OpRow} (h : OpsSt w base b rows) : ∃ es c, w.heap[b]? = some (.map es c) := by
  obtain ⟨_, l, ⟨es, c, hb, _⟩, _⟩ := h
  exact ⟨es, c, hb⟩
theorem blk_ne {w : World} {base b g : Nat} {rows : List OpRow} {cs : Array Value} {t : TypeId} (h : OpsSt w base b rows) (hg : w.heap[g]? = some (.cells cs t (0, 0))) : some g ≠ some b := by
  obtain ⟨es, c, hb⟩ := h.map
  rintro e
  injection e with e
  subst e
  rw [hg] at hb
  cases hb

theorem ins {ops : Array Oper} {rest : List Oper} {o : Oper} {a : Act} {Q : Exit → Act → World → Prop} {W : World} (m x v : Operand) (hgd : o.guard = none) (hop : o.op = Op.insert 168 m x v)
    (base b : Nat) (rows : List OpRow) (r : OpRow) (g : Nat) (hm : a.eval m = .map (some b)) (hx : a.eval x = .int .i64 r.key) (hv : a.eval v = opVal g r) (H : OpsSt W base b rows) (hwf : (Lit.int .i64 r.key).wf = true) (hlen : rows.length < 100)
    (hgb : base ≤ g) (hblk : W.heap[g]? = some (.cells (nums .i64 r.takes).toArray 164 (0, 0)))
    (hK : ∀ W1, OpsSt W1 base b (rows ++ [r]) → W.grownBy W1 (some b) → wpList Tryz.prog ops Q rest (a.put o.dst undef) W1) : wpList Tryz.prog ops Q (o :: rest) a W := by
  refine wpList_plain hgd fun K' hK' => ?_
  have hne := blk_ne H hblk
  obtain ⟨hb, l, hmap, hf⟩ := H
  have hl : l.length = rows.length := hf.length_eq
  obtain ⟨w', hrun, r1, r2⟩ := World.ownsMap.update hmap (Go.Maps.int_keyed Tryz.underlying3) Tryz.underlying168 (by simp [maxLen]; omega) (Go.Maps.keyOf_int_mk Tryz.underlying3 hwf) (show RV (opVal g r) = _ from rfl)
  unfold Oper.wp
  simp [execOp, hop, hm, hx, hv, hrun, Result.andThen]
  refine hK' _ _ (hK w' ⟨hb, l ++ [(r.key, opVal g r)], ?_, ?_⟩ r2)
  · unfold OpsMap putAll
    rw [List.foldl_append, List.length_append]
    exact r1
  · have hall : ∀ p q, OpIs W base p q → OpIs w' base p q := by
      rintro p q ⟨h1, g', h2, h3, h4⟩
      refine ⟨h1, g', h2, h3, (r2.block g' (Array.getElem?_eq_some_iff.1 h4).1 ?_).trans h4⟩
      exact blk_ne ⟨hb, l, hmap, hf⟩ h4
    exact (hf.imp hall).snoc ⟨rfl, g, hgb, rfl, (r2.block g (Array.getElem?_eq_some_iff.1 hblk).1 hne).trans hblk⟩

def opRows : List OpRow := [⟨4, [0, 0], 0, 164⟩,
  ⟨5, [0, 0], 0, 165⟩,
  ⟨6, [0, 0], 0, 166⟩,
  ⟨7, [0, 0], 0, 167⟩,
  ⟨8, [0, 0], 0, 168⟩,
  ⟨9, [1, 1], 1, 169⟩,
  ⟨10, [1], 0, 170⟩,
  ⟨11, [1, 0, 0], 1, 171⟩,
  ⟨12, [1], 1, 172⟩,
  ⟨13, [1], 1, 173⟩,
  ⟨14, [2, 2], 0, 174⟩,
  ⟨15, [2, 2], 0, 175⟩,
  ⟨16, [0], 0, 176⟩,
  ⟨17, [0, 2, 2], 2, 177⟩,
  ⟨18, [1], 0, 178⟩,
  ⟨19, [0], 1, 179⟩,
  ⟨20, [1], 0, 180⟩,
  ⟨21, [1, 1], 0, 181⟩]

theorem heap_old {w : World} {g : Nat} {c : Obj} (h : w.heap[g]? = some c) (o : Obj) : (w.alloc o).heap[g]? = some c := (Below.heap_alloc w o g (Array.getElem?_eq_some_iff.1 h).1).trans h

set_option maxRecDepth 100000 in
set_option maxHeartbeats 4000000 in
theorem ops_call (w : World) : Calls Tryz.prog 129 #[] w fun e w' => ∃ b, e = .returned (.map (some b)) ∧ OpsSt w' w.heap.size b opRows ∧ Below w.heap.size w w' := by
  have hmm := @run_makeMap Tryz.prog
  have HS := Aside0.mk (show OpsSt (((w.alloc (.cells #[.int .i64 0, .int .i64 0] 164)).alloc (.cells #[.int .i64 1] 164)).alloc (.map #[] 0)) w.heap.size (w.heap.size + 1 + 1) [] from ⟨by omega, [], by
    have h := World.ownsMap_made ((w.alloc (.cells #[.int .i64 0, .int .i64 0] 164)).alloc (.cells #[.int .i64 1] 164)) Tryz.prog 3 RV
    simp only [World.alloc, Array.size_push] at h ⊢
    exact h, .nil⟩)
  have B2 := Aside0.mk (show (((w.alloc (.cells #[.int .i64 0, .int .i64 0] 164)).alloc (.cells #[.int .i64 1] 164)).alloc (.map #[] 0)).heap[w.heap.size]? = some (.cells (nums .i64 [0, 0]).toArray 164 (0, 0)) from heap_old (heap_old (heap_alloc_new w _) _) _)
  have B1 := Aside0.mk (show (((w.alloc (.cells #[.int .i64 0, .int .i64 0] 164)).alloc (.cells #[.int .i64 1] 164)).alloc (.map #[] 0)).heap[w.heap.size + 1]? = some (.cells (nums .i64 [1]).toArray 164 (0, 0)) from heap_old (by
    have h := heap_alloc_new (w.alloc (.cells #[.int .i64 0, .int .i64 0] 164)) (.cells #[.int .i64 1] 164)
    simp only [World.alloc, Array.size_push] at h ⊢
    exact h) _)
  have HB := Aside0.mk ((((Below.refl w.heap.size w).alloc (Nat.le_refl _) (.cells #[.int .i64 0, .int .i64 0] 164)).alloc (by simp) (.cells #[.int .i64 1] 164)).alloc (by simp; omega) (.map #[] 0))
  go_enter Tryz.func129, Tryz.ntmps129
  go_wp2_with (first
    | (refine ins (.tmp 5) (.const (.int .i64 4)) (.tmp 7) rfl rfl w.heap.size (w.heap.size + 1 + 1) [] ⟨4, [0, 0], 0, 164⟩ w.heap.size rfl rfl rfl HS.out (by decide) (by decide) (Nat.le_refl _) B2.out ?_; intro W1 hs hgr; have n1_ := Aside0.mk hs; have n2_ := Aside0.mk ((hgr.block _ (Array.getElem?_eq_some_iff.1 B2.out).1 (blk_ne HS.out B2.out)).trans B2.out); have n3_ := Aside0.mk ((hgr.block _ (Array.getElem?_eq_some_iff.1 B1.out).1 (blk_ne HS.out B1.out)).trans B1.out); have n4_ := Aside0.mk (HB.out.grown hgr ((by simp; omega)) (by simp; omega)); clear HS B1 B2 HB; have HS := n1_; have B2 := n2_; have B1 := n3_; have HB := n4_; clear n1_ n2_ n3_ n4_ hs hgr)
    | (refine ins (.tmp 5) (.const (.int .i64 5)) (.tmp 9) rfl rfl w.heap.size (w.heap.size + 1 + 1) [⟨4, [0, 0], 0, 164⟩] ⟨5, [0, 0], 0, 165⟩ w.heap.size rfl rfl rfl HS.out (by decide) (by decide) (Nat.le_refl _) B2.out ?_; intro W2 hs hgr; have n1_ := Aside0.mk hs; have n2_ := Aside0.mk ((hgr.block _ (Array.getElem?_eq_some_iff.1 B2.out).1 (blk_ne HS.out B2.out)).trans B2.out); have n3_ := Aside0.mk ((hgr.block _ (Array.getElem?_eq_some_iff.1 B1.out).1 (blk_ne HS.out B1.out)).trans B1.out); have n4_ := Aside0.mk (HB.out.grown hgr (HB.out.size) (by simp; omega)); clear HS B1 B2 HB; have HS := n1_; have B2 := n2_; have B1 := n3_; have HB := n4_; clear n1_ n2_ n3_ n4_ hs hgr)
    | (refine ins (.tmp 5) (.const (.int .i64 6)) (.tmp 11) rfl rfl w.heap.size (w.heap.size + 1 + 1) [⟨4, [0, 0], 0, 164⟩, ⟨5, [0, 0], 0, 165⟩] ⟨6, [0, 0], 0, 166⟩ w.heap.size rfl rfl rfl HS.out (by decide) (by decide) (Nat.le_refl _) B2.out ?_; intro W3 hs hgr; have n1_ := Aside0.mk hs; have n2_ := Aside0.mk ((hgr.block _ (Array.getElem?_eq_some_iff.1 B2.out).1 (blk_ne HS.out B2.out)).trans B2.out); have n3_ := Aside0.mk ((hgr.block _ (Array.getElem?_eq_some_iff.1 B1.out).1 (blk_ne HS.out B1.out)).trans B1.out); have n4_ := Aside0.mk (HB.out.grown hgr (HB.out.size) (by simp; omega)); clear HS B1 B2 HB; have HS := n1_; have B2 := n2_; have B1 := n3_; have HB := n4_; clear n1_ n2_ n3_ n4_ hs hgr)
    | (refine ins (.tmp 5) (.const (.int .i64 7)) (.tmp 13) rfl rfl w.heap.size (w.heap.size + 1 + 1) [⟨4, [0, 0], 0, 164⟩, ⟨5, [0, 0], 0, 165⟩, ⟨6, [0, 0], 0, 166⟩] ⟨7, [0, 0], 0, 167⟩ w.heap.size rfl rfl rfl HS.out (by decide) (by decide) (Nat.le_refl _) B2.out ?_; intro W4 hs hgr; have n1_ := Aside0.mk hs; have n2_ := Aside0.mk ((hgr.block _ (Array.getElem?_eq_some_iff.1 B2.out).1 (blk_ne HS.out B2.out)).trans B2.out); have n3_ := Aside0.mk ((hgr.block _ (Array.getElem?_eq_some_iff.1 B1.out).1 (blk_ne HS.out B1.out)).trans B1.out); have n4_ := Aside0.mk (HB.out.grown hgr (HB.out.size) (by simp; omega)); clear HS B1 B2 HB; have HS := n1_; have B2 := n2_; have B1 := n3_; have HB := n4_; clear n1_ n2_ n3_ n4_ hs hgr)
    | (refine ins (.tmp 5) (.const (.int .i64 8)) (.tmp 15) rfl rfl w.heap.size (w.heap.size + 1 + 1) [⟨4, [0, 0], 0, 164⟩, ⟨5, [0, 0], 0, 165⟩, ⟨6, [0, 0], 0, 166⟩, ⟨7, [0, 0], 0, 167⟩] ⟨8, [0, 0], 0, 168⟩ w.heap.size rfl rfl rfl HS.out (by decide) (by decide) (Nat.le_refl _) B2.out ?_; intro W5 hs hgr; have n1_ := Aside0.mk hs; have n2_ := Aside0.mk ((hgr.block _ (Array.getElem?_eq_some_iff.1 B2.out).1 (blk_ne HS.out B2.out)).trans B2.out); have n3_ := Aside0.mk ((hgr.block _ (Array.getElem?_eq_some_iff.1 B1.out).1 (blk_ne HS.out B1.out)).trans B1.out); have n4_ := Aside0.mk (HB.out.grown hgr (HB.out.size) (by simp; omega)); clear HS B1 B2 HB; have HS := n1_; have B2 := n2_; have B1 := n3_; have HB := n4_; clear n1_ n2_ n3_ n4_ hs hgr)
    | (refine ins (.tmp 5) (.const (.int .i64 9)) (.tmp 17) rfl rfl w.heap.size (w.heap.size + 1 + 1) [⟨4, [0, 0], 0, 164⟩, ⟨5, [0, 0], 0, 165⟩, ⟨6, [0, 0], 0, 166⟩, ⟨7, [0, 0], 0, 167⟩, ⟨8, [0, 0], 0, 168⟩] ⟨9, [1, 1], 1, 169⟩ W5.heap.size rfl rfl rfl (HS.out.alloc (.cells #[.int .i64 1, .int .i64 1] 164)) (by decide) (by decide) HB.out.size (heap_alloc_new W5 (.cells #[.int .i64 1, .int .i64 1] 164)) ?_; intro W6 hs hgr; have n1_ := Aside0.mk hs; have n2_ := Aside0.mk ((hgr.block _ (Array.getElem?_eq_some_iff.1 (heap_old B2.out (.cells #[.int .i64 1, .int .i64 1] 164))).1 (blk_ne (HS.out.alloc (.cells #[.int .i64 1, .int .i64 1] 164)) (heap_old B2.out (.cells #[.int .i64 1, .int .i64 1] 164)))).trans (heap_old B2.out (.cells #[.int .i64 1, .int .i64 1] 164))); have n3_ := Aside0.mk ((hgr.block _ (Array.getElem?_eq_some_iff.1 (heap_old B1.out (.cells #[.int .i64 1, .int .i64 1] 164))).1 (blk_ne (HS.out.alloc (.cells #[.int .i64 1, .int .i64 1] 164)) (heap_old B1.out (.cells #[.int .i64 1, .int .i64 1] 164)))).trans (heap_old B1.out (.cells #[.int .i64 1, .int .i64 1] 164))); have n4_ := Aside0.mk ((HB.out.alloc HB.out.size (.cells #[.int .i64 1, .int .i64 1] 164)).grown hgr ((by have := HB.out.size; simp; omega)) (by simp; omega)); clear HS B1 B2 HB; have HS := n1_; have B2 := n2_; have B1 := n3_; have HB := n4_; clear n1_ n2_ n3_ n4_ hs hgr)
    | (refine ins (.tmp 5) (.const (.int .i64 10)) (.tmp 19) rfl rfl w.heap.size (w.heap.size + 1 + 1) [⟨4, [0, 0], 0, 164⟩, ⟨5, [0, 0], 0, 165⟩, ⟨6, [0, 0], 0, 166⟩, ⟨7, [0, 0], 0, 167⟩, ⟨8, [0, 0], 0, 168⟩, ⟨9, [1, 1], 1, 169⟩] ⟨10, [1], 0, 170⟩ (w.heap.size + 1) rfl rfl rfl HS.out (by decide) (by decide) (by omega) B1.out ?_; intro W7 hs hgr; have n1_ := Aside0.mk hs; have n2_ := Aside0.mk ((hgr.block _ (Array.getElem?_eq_some_iff.1 B2.out).1 (blk_ne HS.out B2.out)).trans B2.out); have n3_ := Aside0.mk ((hgr.block _ (Array.getElem?_eq_some_iff.1 B1.out).1 (blk_ne HS.out B1.out)).trans B1.out); have n4_ := Aside0.mk (HB.out.grown hgr (HB.out.size) (by simp; omega)); clear HS B1 B2 HB; have HS := n1_; have B2 := n2_; have B1 := n3_; have HB := n4_; clear n1_ n2_ n3_ n4_ hs hgr)
    | (refine ins (.tmp 5) (.const (.int .i64 11)) (.tmp 21) rfl rfl w.heap.size (w.heap.size + 1 + 1) [⟨4, [0, 0], 0, 164⟩, ⟨5, [0, 0], 0, 165⟩, ⟨6, [0, 0], 0, 166⟩, ⟨7, [0, 0], 0, 167⟩, ⟨8, [0, 0], 0, 168⟩, ⟨9, [1, 1], 1, 169⟩, ⟨10, [1], 0, 170⟩] ⟨11, [1, 0, 0], 1, 171⟩ W7.heap.size rfl rfl rfl (HS.out.alloc (.cells #[.int .i64 1, .int .i64 0, .int .i64 0] 164)) (by decide) (by decide) HB.out.size (heap_alloc_new W7 (.cells #[.int .i64 1, .int .i64 0, .int .i64 0] 164)) ?_; intro W8 hs hgr; have n1_ := Aside0.mk hs; have n2_ := Aside0.mk ((hgr.block _ (Array.getElem?_eq_some_iff.1 (heap_old B2.out (.cells #[.int .i64 1, .int .i64 0, .int .i64 0] 164))).1 (blk_ne (HS.out.alloc (.cells #[.int .i64 1, .int .i64 0, .int .i64 0] 164)) (heap_old B2.out (.cells #[.int .i64 1, .int .i64 0, .int .i64 0] 164)))).trans (heap_old B2.out (.cells #[.int .i64 1, .int .i64 0, .int .i64 0] 164))); have n3_ := Aside0.mk ((hgr.block _ (Array.getElem?_eq_some_iff.1 (heap_old B1.out (.cells #[.int .i64 1, .int .i64 0, .int .i64 0] 164))).1 (blk_ne (HS.out.alloc (.cells #[.int .i64 1, .int .i64 0, .int .i64 0] 164)) (heap_old B1.out (.cells #[.int .i64 1, .int .i64 0, .int .i64 0] 164)))).trans (heap_old B1.out (.cells #[.int .i64 1, .int .i64 0, .int .i64 0] 164))); have n4_ := Aside0.mk ((HB.out.alloc HB.out.size (.cells #[.int .i64 1, .int .i64 0, .int .i64 0] 164)).grown hgr ((by have := HB.out.size; simp; omega)) (by simp; omega)); clear HS B1 B2 HB; have HS := n1_; have B2 := n2_; have B1 := n3_; have HB := n4_; clear n1_ n2_ n3_ n4_ hs hgr)
    | (refine ins (.tmp 5) (.const (.int .i64 12)) (.tmp 23) rfl rfl w.heap.size (w.heap.size + 1 + 1) [⟨4, [0, 0], 0, 164⟩, ⟨5, [0, 0], 0, 165⟩, ⟨6, [0, 0], 0, 166⟩, ⟨7, [0, 0], 0, 167⟩, ⟨8, [0, 0], 0, 168⟩, ⟨9, [1, 1], 1, 169⟩, ⟨10, [1], 0, 170⟩, ⟨11, [1, 0, 0], 1, 171⟩] ⟨12, [1], 1, 172⟩ (w.heap.size + 1) rfl rfl rfl HS.out (by decide) (by decide) (by omega) B1.out ?_; intro W9 hs hgr; have n1_ := Aside0.mk hs; have n2_ := Aside0.mk ((hgr.block _ (Array.getElem?_eq_some_iff.1 B2.out).1 (blk_ne HS.out B2.out)).trans B2.out); have n3_ := Aside0.mk ((hgr.block _ (Array.getElem?_eq_some_iff.1 B1.out).1 (blk_ne HS.out B1.out)).trans B1.out); have n4_ := Aside0.mk (HB.out.grown hgr (HB.out.size) (by simp; omega)); clear HS B1 B2 HB; have HS := n1_; have B2 := n2_; have B1 := n3_; have HB := n4_; clear n1_ n2_ n3_ n4_ hs hgr)
    | (refine ins (.tmp 5) (.const (.int .i64 13)) (.tmp 25) rfl rfl w.heap.size (w.heap.size + 1 + 1) [⟨4, [0, 0], 0, 164⟩, ⟨5, [0, 0], 0, 165⟩, ⟨6, [0, 0], 0, 166⟩, ⟨7, [0, 0], 0, 167⟩, ⟨8, [0, 0], 0, 168⟩, ⟨9, [1, 1], 1, 169⟩, ⟨10, [1], 0, 170⟩, ⟨11, [1, 0, 0], 1, 171⟩, ⟨12, [1], 1, 172⟩] ⟨13, [1], 1, 173⟩ (w.heap.size + 1) rfl rfl rfl HS.out (by decide) (by decide) (by omega) B1.out ?_; intro W10 hs hgr; have n1_ := Aside0.mk hs; have n2_ := Aside0.mk ((hgr.block _ (Array.getElem?_eq_some_iff.1 B2.out).1 (blk_ne HS.out B2.out)).trans B2.out); have n3_ := Aside0.mk ((hgr.block _ (Array.getElem?_eq_some_iff.1 B1.out).1 (blk_ne HS.out B1.out)).trans B1.out); have n4_ := Aside0.mk (HB.out.grown hgr (HB.out.size) (by simp; omega)); clear HS B1 B2 HB; have HS := n1_; have B2 := n2_; have B1 := n3_; have HB := n4_; clear n1_ n2_ n3_ n4_ hs hgr)
    | (refine ins (.tmp 5) (.const (.int .i64 14)) (.tmp 27) rfl rfl w.heap.size (w.heap.size + 1 + 1) [⟨4, [0, 0], 0, 164⟩, ⟨5, [0, 0], 0, 165⟩, ⟨6, [0, 0], 0, 166⟩, ⟨7, [0, 0], 0, 167⟩, ⟨8, [0, 0], 0, 168⟩, ⟨9, [1, 1], 1, 169⟩, ⟨10, [1], 0, 170⟩, ⟨11, [1, 0, 0], 1, 171⟩, ⟨12, [1], 1, 172⟩, ⟨13, [1], 1, 173⟩] ⟨14, [2, 2], 0, 174⟩ W10.heap.size rfl rfl rfl (HS.out.alloc (.cells #[.int .i64 2, .int .i64 2] 164)) (by decide) (by decide) HB.out.size (heap_alloc_new W10 (.cells #[.int .i64 2, .int .i64 2] 164)) ?_; intro W11 hs hgr; have n1_ := Aside0.mk hs; have n2_ := Aside0.mk ((hgr.block _ (Array.getElem?_eq_some_iff.1 (heap_old B2.out (.cells #[.int .i64 2, .int .i64 2] 164))).1 (blk_ne (HS.out.alloc (.cells #[.int .i64 2, .int .i64 2] 164)) (heap_old B2.out (.cells #[.int .i64 2, .int .i64 2] 164)))).trans (heap_old B2.out (.cells #[.int .i64 2, .int .i64 2] 164))); have n3_ := Aside0.mk ((hgr.block _ (Array.getElem?_eq_some_iff.1 (heap_old B1.out (.cells #[.int .i64 2, .int .i64 2] 164))).1 (blk_ne (HS.out.alloc (.cells #[.int .i64 2, .int .i64 2] 164)) (heap_old B1.out (.cells #[.int .i64 2, .int .i64 2] 164)))).trans (heap_old B1.out (.cells #[.int .i64 2, .int .i64 2] 164))); have n4_ := Aside0.mk ((HB.out.alloc HB.out.size (.cells #[.int .i64 2, .int .i64 2] 164)).grown hgr ((by have := HB.out.size; simp; omega)) (by simp; omega)); clear HS B1 B2 HB; have HS := n1_; have B2 := n2_; have B1 := n3_; have HB := n4_; clear n1_ n2_ n3_ n4_ hs hgr)
    | (refine ins (.tmp 5) (.const (.int .i64 15)) (.tmp 29) rfl rfl w.heap.size (w.heap.size + 1 + 1) [⟨4, [0, 0], 0, 164⟩, ⟨5, [0, 0], 0, 165⟩, ⟨6, [0, 0], 0, 166⟩, ⟨7, [0, 0], 0, 167⟩, ⟨8, [0, 0], 0, 168⟩, ⟨9, [1, 1], 1, 169⟩, ⟨10, [1], 0, 170⟩, ⟨11, [1, 0, 0], 1, 171⟩, ⟨12, [1], 1, 172⟩, ⟨13, [1], 1, 173⟩, ⟨14, [2, 2], 0, 174⟩] ⟨15, [2, 2], 0, 175⟩ W11.heap.size rfl rfl rfl (HS.out.alloc (.cells #[.int .i64 2, .int .i64 2] 164)) (by decide) (by decide) HB.out.size (heap_alloc_new W11 (.cells #[.int .i64 2, .int .i64 2] 164)) ?_; intro W12 hs hgr; have n1_ := Aside0.mk hs; have n2_ := Aside0.mk ((hgr.block _ (Array.getElem?_eq_some_iff.1 (heap_old B2.out (.cells #[.int .i64 2, .int .i64 2] 164))).1 (blk_ne (HS.out.alloc (.cells #[.int .i64 2, .int .i64 2] 164)) (heap_old B2.out (.cells #[.int .i64 2, .int .i64 2] 164)))).trans (heap_old B2.out (.cells #[.int .i64 2, .int .i64 2] 164))); have n3_ := Aside0.mk ((hgr.block _ (Array.getElem?_eq_some_iff.1 (heap_old B1.out (.cells #[.int .i64 2, .int .i64 2] 164))).1 (blk_ne (HS.out.alloc (.cells #[.int .i64 2, .int .i64 2] 164)) (heap_old B1.out (.cells #[.int .i64 2, .int .i64 2] 164)))).trans (heap_old B1.out (.cells #[.int .i64 2, .int .i64 2] 164))); have n4_ := Aside0.mk ((HB.out.alloc HB.out.size (.cells #[.int .i64 2, .int .i64 2] 164)).grown hgr ((by have := HB.out.size; simp; omega)) (by simp; omega)); clear HS B1 B2 HB; have HS := n1_; have B2 := n2_; have B1 := n3_; have HB := n4_; clear n1_ n2_ n3_ n4_ hs hgr)
    | (refine ins (.tmp 5) (.const (.int .i64 16)) (.tmp 31) rfl rfl w.heap.size (w.heap.size + 1 + 1) [⟨4, [0, 0], 0, 164⟩, ⟨5, [0, 0], 0, 165⟩, ⟨6, [0, 0], 0, 166⟩, ⟨7, [0, 0], 0, 167⟩, ⟨8, [0, 0], 0, 168⟩, ⟨9, [1, 1], 1, 169⟩, ⟨10, [1], 0, 170⟩, ⟨11, [1, 0, 0], 1, 171⟩, ⟨12, [1], 1, 172⟩, ⟨13, [1], 1, 173⟩, ⟨14, [2, 2], 0, 174⟩, ⟨15, [2, 2], 0, 175⟩] ⟨16, [0], 0, 176⟩ W12.heap.size rfl rfl rfl (HS.out.alloc (.cells #[.int .i64 0] 164)) (by decide) (by decide) HB.out.size (heap_alloc_new W12 (.cells #[.int .i64 0] 164)) ?_; intro W13 hs hgr; have n1_ := Aside0.mk hs; have n2_ := Aside0.mk ((hgr.block _ (Array.getElem?_eq_some_iff.1 (heap_old B2.out (.cells #[.int .i64 0] 164))).1 (blk_ne (HS.out.alloc (.cells #[.int .i64 0] 164)) (heap_old B2.out (.cells #[.int .i64 0] 164)))).trans (heap_old B2.out (.cells #[.int .i64 0] 164))); have n3_ := Aside0.mk ((hgr.block _ (Array.getElem?_eq_some_iff.1 (heap_old B1.out (.cells #[.int .i64 0] 164))).1 (blk_ne (HS.out.alloc (.cells #[.int .i64 0] 164)) (heap_old B1.out (.cells #[.int .i64 0] 164)))).trans (heap_old B1.out (.cells #[.int .i64 0] 164))); have n4_ := Aside0.mk ((HB.out.alloc HB.out.size (.cells #[.int .i64 0] 164)).grown hgr ((by have := HB.out.size; simp; omega)) (by simp; omega)); clear HS B1 B2 HB; have HS := n1_; have B2 := n2_; have B1 := n3_; have HB := n4_; clear n1_ n2_ n3_ n4_ hs hgr)
    | (refine ins (.tmp 5) (.const (.int .i64 17)) (.tmp 33) rfl rfl w.heap.size (w.heap.size + 1 + 1) [⟨4, [0, 0], 0, 164⟩, ⟨5, [0, 0], 0, 165⟩, ⟨6, [0, 0], 0, 166⟩, ⟨7, [0, 0], 0, 167⟩, ⟨8, [0, 0], 0, 168⟩, ⟨9, [1, 1], 1, 169⟩, ⟨10, [1], 0, 170⟩, ⟨11, [1, 0, 0], 1, 171⟩, ⟨12, [1], 1, 172⟩, ⟨13, [1], 1, 173⟩, ⟨14, [2, 2], 0, 174⟩, ⟨15, [2, 2], 0, 175⟩, ⟨16, [0], 0, 176⟩] ⟨17, [0, 2, 2], 2, 177⟩ W13.heap.size rfl rfl rfl (HS.out.alloc (.cells #[.int .i64 0, .int .i64 2, .int .i64 2] 164)) (by decide) (by decide) HB.out.size (heap_alloc_new W13 (.cells #[.int .i64 0, .int .i64 2, .int .i64 2] 164)) ?_; intro W14 hs hgr; have n1_ := Aside0.mk hs; have n2_ := Aside0.mk ((hgr.block _ (Array.getElem?_eq_some_iff.1 (heap_old B2.out (.cells #[.int .i64 0, .int .i64 2, .int .i64 2] 164))).1 (blk_ne (HS.out.alloc (.cells #[.int .i64 0, .int .i64 2, .int .i64 2] 164)) (heap_old B2.out (.cells #[.int .i64 0, .int .i64 2, .int .i64 2] 164)))).trans (heap_old B2.out (.cells #[.int .i64 0, .int .i64 2, .int .i64 2] 164))); have n3_ := Aside0.mk ((hgr.block _ (Array.getElem?_eq_some_iff.1 (heap_old B1.out (.cells #[.int .i64 0, .int .i64 2, .int .i64 2] 164))).1 (blk_ne (HS.out.alloc (.cells #[.int .i64 0, .int .i64 2, .int .i64 2] 164)) (heap_old B1.out (.cells #[.int .i64 0, .int .i64 2, .int .i64 2] 164)))).trans (heap_old B1.out (.cells #[.int .i64 0, .int .i64 2, .int .i64 2] 164))); have n4_ := Aside0.mk ((HB.out.alloc HB.out.size (.cells #[.int .i64 0, .int .i64 2, .int .i64 2] 164)).grown hgr ((by have := HB.out.size; simp; omega)) (by simp; omega)); clear HS B1 B2 HB; have HS := n1_; have B2 := n2_; have B1 := n3_; have HB := n4_; clear n1_ n2_ n3_ n4_ hs hgr)
    | (refine ins (.tmp 5) (.const (.int .i64 18)) (.tmp 35) rfl rfl w.heap.size (w.heap.size + 1 + 1) [⟨4, [0, 0], 0, 164⟩, ⟨5, [0, 0], 0, 165⟩, ⟨6, [0, 0], 0, 166⟩, ⟨7, [0, 0], 0, 167⟩, ⟨8, [0, 0], 0, 168⟩, ⟨9, [1, 1], 1, 169⟩, ⟨10, [1], 0, 170⟩, ⟨11, [1, 0, 0], 1, 171⟩, ⟨12, [1], 1, 172⟩, ⟨13, [1], 1, 173⟩, ⟨14, [2, 2], 0, 174⟩, ⟨15, [2, 2], 0, 175⟩, ⟨16, [0], 0, 176⟩, ⟨17, [0, 2, 2], 2, 177⟩] ⟨18, [1], 0, 178⟩ (w.heap.size + 1) rfl rfl rfl HS.out (by decide) (by decide) (by omega) B1.out ?_; intro W15 hs hgr; have n1_ := Aside0.mk hs; have n2_ := Aside0.mk ((hgr.block _ (Array.getElem?_eq_some_iff.1 B2.out).1 (blk_ne HS.out B2.out)).trans B2.out); have n3_ := Aside0.mk ((hgr.block _ (Array.getElem?_eq_some_iff.1 B1.out).1 (blk_ne HS.out B1.out)).trans B1.out); have n4_ := Aside0.mk (HB.out.grown hgr (HB.out.size) (by simp; omega)); clear HS B1 B2 HB; have HS := n1_; have B2 := n2_; have B1 := n3_; have HB := n4_; clear n1_ n2_ n3_ n4_ hs hgr)
    | (refine ins (.tmp 5) (.const (.int .i64 19)) (.tmp 37) rfl rfl w.heap.size (w.heap.size + 1 + 1) [⟨4, [0, 0], 0, 164⟩, ⟨5, [0, 0], 0, 165⟩, ⟨6, [0, 0], 0, 166⟩, ⟨7, [0, 0], 0, 167⟩, ⟨8, [0, 0], 0, 168⟩, ⟨9, [1, 1], 1, 169⟩, ⟨10, [1], 0, 170⟩, ⟨11, [1, 0, 0], 1, 171⟩, ⟨12, [1], 1, 172⟩, ⟨13, [1], 1, 173⟩, ⟨14, [2, 2], 0, 174⟩, ⟨15, [2, 2], 0, 175⟩, ⟨16, [0], 0, 176⟩, ⟨17, [0, 2, 2], 2, 177⟩, ⟨18, [1], 0, 178⟩] ⟨19, [0], 1, 179⟩ W15.heap.size rfl rfl rfl (HS.out.alloc (.cells #[.int .i64 0] 164)) (by decide) (by decide) HB.out.size (heap_alloc_new W15 (.cells #[.int .i64 0] 164)) ?_; intro W16 hs hgr; have n1_ := Aside0.mk hs; have n2_ := Aside0.mk ((hgr.block _ (Array.getElem?_eq_some_iff.1 (heap_old B2.out (.cells #[.int .i64 0] 164))).1 (blk_ne (HS.out.alloc (.cells #[.int .i64 0] 164)) (heap_old B2.out (.cells #[.int .i64 0] 164)))).trans (heap_old B2.out (.cells #[.int .i64 0] 164))); have n3_ := Aside0.mk ((hgr.block _ (Array.getElem?_eq_some_iff.1 (heap_old B1.out (.cells #[.int .i64 0] 164))).1 (blk_ne (HS.out.alloc (.cells #[.int .i64 0] 164)) (heap_old B1.out (.cells #[.int .i64 0] 164)))).trans (heap_old B1.out (.cells #[.int .i64 0] 164))); have n4_ := Aside0.mk ((HB.out.alloc HB.out.size (.cells #[.int .i64 0] 164)).grown hgr ((by have := HB.out.size; simp; omega)) (by simp; omega)); clear HS B1 B2 HB; have HS := n1_; have B2 := n2_; have B1 := n3_; have HB := n4_; clear n1_ n2_ n3_ n4_ hs hgr)
    | (refine ins (.tmp 5) (.const (.int .i64 20)) (.tmp 39) rfl rfl w.heap.size (w.heap.size + 1 + 1) [⟨4, [0, 0], 0, 164⟩, ⟨5, [0, 0], 0, 165⟩, ⟨6, [0, 0], 0, 166⟩, ⟨7, [0, 0], 0, 167⟩, ⟨8, [0, 0], 0, 168⟩, ⟨9, [1, 1], 1, 169⟩, ⟨10, [1], 0, 170⟩, ⟨11, [1, 0, 0], 1, 171⟩, ⟨12, [1], 1, 172⟩, ⟨13, [1], 1, 173⟩, ⟨14, [2, 2], 0, 174⟩, ⟨15, [2, 2], 0, 175⟩, ⟨16, [0], 0, 176⟩, ⟨17, [0, 2, 2], 2, 177⟩, ⟨18, [1], 0, 178⟩, ⟨19, [0], 1, 179⟩] ⟨20, [1], 0, 180⟩ (w.heap.size + 1) rfl rfl rfl HS.out (by decide) (by decide) (by omega) B1.out ?_; intro W17 hs hgr; have n1_ := Aside0.mk hs; have n2_ := Aside0.mk ((hgr.block _ (Array.getElem?_eq_some_iff.1 B2.out).1 (blk_ne HS.out B2.out)).trans B2.out); have n3_ := Aside0.mk ((hgr.block _ (Array.getElem?_eq_some_iff.1 B1.out).1 (blk_ne HS.out B1.out)).trans B1.out); have n4_ := Aside0.mk (HB.out.grown hgr (HB.out.size) (by simp; omega)); clear HS B1 B2 HB; have HS := n1_; have B2 := n2_; have B1 := n3_; have HB := n4_; clear n1_ n2_ n3_ n4_ hs hgr)
    | (refine ins (.tmp 5) (.const (.int .i64 21)) (.tmp 41) rfl rfl w.heap.size (w.heap.size + 1 + 1) [⟨4, [0, 0], 0, 164⟩, ⟨5, [0, 0], 0, 165⟩, ⟨6, [0, 0], 0, 166⟩, ⟨7, [0, 0], 0, 167⟩, ⟨8, [0, 0], 0, 168⟩, ⟨9, [1, 1], 1, 169⟩, ⟨10, [1], 0, 170⟩, ⟨11, [1, 0, 0], 1, 171⟩, ⟨12, [1], 1, 172⟩, ⟨13, [1], 1, 173⟩, ⟨14, [2, 2], 0, 174⟩, ⟨15, [2, 2], 0, 175⟩, ⟨16, [0], 0, 176⟩, ⟨17, [0, 2, 2], 2, 177⟩, ⟨18, [1], 0, 178⟩, ⟨19, [0], 1, 179⟩, ⟨20, [1], 0, 180⟩] ⟨21, [1, 1], 0, 181⟩ W17.heap.size rfl rfl rfl (HS.out.alloc (.cells #[.int .i64 1, .int .i64 1] 164)) (by decide) (by decide) HB.out.size (heap_alloc_new W17 (.cells #[.int .i64 1, .int .i64 1] 164)) ?_; intro W18 hs hgr; have n1_ := Aside0.mk hs; have n2_ := Aside0.mk ((hgr.block _ (Array.getElem?_eq_some_iff.1 (heap_old B2.out (.cells #[.int .i64 1, .int .i64 1] 164))).1 (blk_ne (HS.out.alloc (.cells #[.int .i64 1, .int .i64 1] 164)) (heap_old B2.out (.cells #[.int .i64 1, .int .i64 1] 164)))).trans (heap_old B2.out (.cells #[.int .i64 1, .int .i64 1] 164))); have n3_ := Aside0.mk ((hgr.block _ (Array.getElem?_eq_some_iff.1 (heap_old B1.out (.cells #[.int .i64 1, .int .i64 1] 164))).1 (blk_ne (HS.out.alloc (.cells #[.int .i64 1, .int .i64 1] 164)) (heap_old B1.out (.cells #[.int .i64 1, .int .i64 1] 164)))).trans (heap_old B1.out (.cells #[.int .i64 1, .int .i64 1] 164))); have n4_ := Aside0.mk ((HB.out.alloc HB.out.size (.cells #[.int .i64 1, .int .i64 1] 164)).grown hgr ((by have := HB.out.size; simp; omega)) (by simp; omega)); clear HS B1 B2 HB; have HS := n1_; have B2 := n2_; have B1 := n3_; have HB := n4_; clear n1_ n2_ n3_ n4_ hs hgr))
  go_ret
  exact ⟨_, rfl, HS.out, HB.out⟩
end Go.Proofs.YtmgcpjgpmjhemaaGreatDoor.Pc
