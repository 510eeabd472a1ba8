/-
(*strings.Replacer).buildOnce and (*strings.Replacer).Replace.
-/
import Derived.Test.YtmgcpjgpmjhemaaGreatDoorExtReplB
namespace Go.Proofs.YtmgcpjgpmjhemaaGreatDoor.Pc
open Go.RowKit Go.Proofs.YtmgcpjgpmjhemaaGreatDoorW.PrintWords Go.Proofs.YtmgcpjgpmjhemaaGreatDoorW.PrintLast Go.Proofs.YtmgcpjgpmjhemaaGreatDoorW.PrintMore
open CodePure (esc)
set_option linter.unusedVariables false

theorem IsBsr.apart {w w' : World} {q p : Nat} {z : Int} (h : IsBsr w q) (h0 : w.cell? ⟨p, 0, none⟩ = some (.int .u32 z)) (hk : ∀ a : Addr, a.block ≠ p → w'.cell? a = w.cell? a) : IsBsr w' q := by
  have ne : ∀ (b : Nat) (v : Value), w.cell? ⟨b, 0, none⟩ = some v → v ≠ .int .u32 z → b ≠ p := by
    rintro b v hb hv rfl
    rw [h0] at hb
    exact hv (Option.some.inj hb).symm
  obtain ⟨no, ⟨a1, c1, p1, p2, p3⟩, ⟨a2, c2, q1, q2, q3⟩, ⟨a3, c3, r1, r2, r3⟩, ⟨b, c, s1, s2, s3, s4⟩⟩ := h
  have hq := ne q _ (no 0 (by decide) (by decide) (by decide) (by decide)) (by simp)
  have h1 := ne a1 _ p2 (by simp)
  have h2 := ne a2 _ q2 (by simp)
  have h3 := ne a3 _ r2 (by simp)
  have h4 := ne b _ s2 (by simp)
  exact ⟨fun i hi x1 x2 x3 => (hk _ hq).trans (no i hi x1 x2 x3), ⟨a1, c1, (hk _ hq).trans p1, (hk _ h1).trans p2, (hk _ h1).trans p3⟩, ⟨a2, c2, (hk _ hq).trans q1, (hk _ h2).trans q2, (hk _ h2).trans q3⟩,
    ⟨a3, c3, (hk _ hq).trans r1, (hk _ h3).trans r2, (hk _ h3).trans r3⟩, ⟨b, c, (hk _ hq).trans s1, (hk _ h4).trans s2, (hk _ h4).trans s3, (hk _ h4).trans s4⟩⟩
theorem set_far (w : World) (p i : Nat) (v : Value) (a : Addr) (ha : a.block ≠ p) : (w.setCell ⟨p, i, none⟩ v).cell? a = w.cell? a :=
  World.cell?_setCell_other _ _ _ _ (fun e => ha (by rw [← e]))

/-- What lies behind 'buildOnce': the Replacer 'p' holds a byteStringReplacer; 'd', 'l': its Once. -/
structure Built (d l : Int) (p : Nat) (w w' : World) : Prop where
  d : w'.cell? ⟨p, 0, none⟩ = some (.int .u32 d)
  l : w'.cell? ⟨p, 1, none⟩ = some (.int .i32 l)
  z : ∀ i, w'.frozen? ⟨p, i, none⟩ = false
  b : Below p w w'
  r : ∃ q, w'.cell? ⟨p, 3, none⟩ = some (.iface 204 (.pointer (some ⟨q, 0, none⟩))) ∧ IsBsr w' q

set_option maxRecDepth 100000 in
set_option maxHeartbeats 1600000 in
theorem repl_buildOnce (p ob : Nat) (w : World) (h : IsRepl 1 w p ob) :
    Calls Tryz.prog 91 #[.pointer (some ⟨p, 0, none⟩)] w fun e w' => e = .returned (.tuple #[]) ∧ Built 0 1 p w w' := by
  have HI := Aside0.mk h
  obtain ⟨hd, hl, hr, ⟨oc, ho⟩, hz, hlt, _⟩ := h
  have hp := World.block_lt_of_cell? w _ hd
  go_enter Tryz.func91, Tryz.ntmps91
  go_wp2_with (go_at_call 122; refine (repl_build p ob _ HI.out).mono ?_; rintro e w1 ⟨q, rfl, hb, hbl⟩; have d0 := cell_keep hbl hd; have d1 := cell_keep hbl hl; have d3 := cell_keep hbl hr; have d4 := cell_keep hbl ho; have z3 : ∀ i, w1.frozen? ⟨p, i, none⟩ = false := fun i => (hbl.frozen hp).trans (hz i); have e4 : ∀ v, (w1.setCell ⟨p, 3, none⟩ v).cell? ⟨p, 4, none⟩ = some (.slice (some ⟨ob, 0, none⟩) 6 oc) := fun v => (World.cell?_setCell_other _ _ _ _ (by simp)).trans d4; have ez : ∀ v, (w1.setCell ⟨p, 3, none⟩ v).frozen? ⟨p, 4, none⟩ = false := fun v => by simp [z3])
  first | go_end0 | (simp only [Exit.inBlock, Exit.then]; refine bodyPost_ret (results_none rfl _ _ _) rfl ?_) | refine bodyPost_ret (results_none rfl _ _ _) rfl ?_
  refine ⟨rfl, ?_, ?_, ?_, ?_, q, ?_, ?_⟩
  · exact (World.cell?_setCell_other _ _ _ _ (by simp)).trans ((World.cell?_setCell_other _ _ _ _ (by simp)).trans d0)
  · exact (World.cell?_setCell_other _ _ _ _ (by simp)).trans ((World.cell?_setCell_other _ _ _ _ (by simp)).trans d1)
  · intro i; simp [z3]
  · exact ((hbl.mono (Nat.le_of_lt hp)).setCell (Nat.le_refl p) _).setCell (Nat.le_refl p) _
  · exact (World.cell?_setCell_other _ _ _ _ (by simp)).trans (World.cell?_setCell_same _ _ _ d3)
  · exact hb.apart d0 (fun a ha => (set_far _ _ _ _ a ha).trans (set_far _ _ _ _ a ha))

theorem repl_once (p ob : Nat) (w : World) (h : IsRepl 0 w p ob) :
    Calls Tryz.prog 90 #[.pointer (some ⟨p, 0, none⟩), .func (.func 91) #[.pointer (some ⟨p, 0, none⟩)] #[]] w fun e w' => e = .returned (.tuple #[]) ∧ Built 1 0 p w w' := by
  have hd := h.d
  have hl := h.l
  have hz := h.z
  obtain ⟨oc, ho⟩ := h.o
  have hI : IsRepl 1 (w.setCell ⟨p, 1, none⟩ (.int .i32 1)) p ob := by
    refine ⟨(World.cell?_setCell_other _ _ _ _ (by simp)).trans hd, World.cell?_setCell_same _ _ _ hl, (World.cell?_setCell_other _ _ _ _ (by simp)).trans h.r, ⟨oc, (World.cell?_setCell_other _ _ _ _ (by simp)).trans ho⟩, fun i => by simp [hz], h.lt, ?_⟩
    have hne : ∀ i, (w.setCell ⟨p, 1, none⟩ (.int .i32 1)).cell? ⟨ob, i, none⟩ = w.cell? ⟨ob, i, none⟩ := fun i => set_far w p 1 _ ⟨ob, i, none⟩ (Nat.ne_of_lt h.lt)
    exact ⟨(hne 0).trans h.cs.c0, (hne 1).trans h.cs.c1, (hne 2).trans h.cs.c2, (hne 3).trans h.cs.c3, (hne 4).trans h.cs.c4, (hne 5).trans h.cs.c5⟩
  refine (do_once p #[.pointer (some ⟨p, 0, none⟩)] w (Built 0 1 p (w.setCell ⟨p, 1, none⟩ (.int .i32 1))) hd hl (hz 0) (hz 1) (fun w1 h1 => ⟨h1.d, h1.l, h1.z 0, h1.z 1⟩) (repl_buildOnce p ob _ hI)).mono ?_
  rintro e w' ⟨rfl, w1, h1, rfl⟩
  obtain ⟨q, hr, hb⟩ := h1.r
  have c0 : w1.drew.cell? ⟨p, 0, none⟩ = some (.int .u32 0) := h1.d
  have c1 : w1.drew.cell? ⟨p, 1, none⟩ = some (.int .i32 1) := h1.l
  refine ⟨rfl, ?_, ?_, ?_, ?_, q, ?_, ?_⟩
  · exact (World.cell?_setCell_other _ _ _ _ (by simp)).trans (World.cell?_setCell_same _ _ _ c0)
  · exact World.cell?_setCell_same _ _ _ ((World.cell?_setCell_other _ _ _ _ (by simp)).trans c1)
  · intro i; simp [h1.z]
  · exact ((((Below.refl p w).setCell (Nat.le_refl p) _).trans h1.b).drew.setCell (Nat.le_refl p) _).setCell (Nat.le_refl p) _
  · exact (World.cell?_setCell_other _ _ _ _ (by simp)).trans ((World.cell?_setCell_other _ _ _ _ (by simp)).trans hr)
  · exact hb.apart h1.d (fun a ha => (set_far _ _ _ _ a ha).trans (set_far _ _ _ _ a ha))

set_option maxRecDepth 100000 in
set_option maxHeartbeats 1600000 in
theorem repl_Replace (p ob : Nat) (s : ByteArray) (w : World) (h : IsRepl 0 w p ob) (hsz : s.size ≤ 70368744177664) :
    Calls Tryz.prog 46 #[.pointer (some ⟨p, 0, none⟩), .string s] w fun e w' => e = .returned (.string ⟨(esc s.data.toList).toArray⟩) ∧ Below p w w' := by
  have HI := Aside0.mk h
  clear h
  have hm : ∀ (q : Nat) (w : World), (method 429 204 (.pointer (some ⟨q, 0, none⟩)) "Replace").run Tryz.prog w = .ok (283, .pointer (some ⟨q, 0, none⟩)) w := fun _ _ => by kernel_rfl
  have hmf : ∀ (fn : Fn) (first cap : Array Value) (w : World), (Instr.makeFunc fn first cap).run Tryz.prog w = .ok (.func fn first cap) w := fun _ _ _ _ => rfl
  go_enter Tryz.func46, Tryz.ntmps46
  go_wp2_with (first
    | (go_at_call 90; refine (repl_once p ob _ HI.out).mono ?_; rintro e w1 ⟨rfl, hB⟩; have hBd := hB.d; obtain ⟨q, hr, hb⟩ := hB.r; have HBQ := Aside0.mk hb; have HBB := Aside0.mk hB.b; clear hb hB)
    | (go_at_call 283; refine (bsr_Replace q s _ HBQ.out hsz).mono ?_; rintro e w2 ⟨rfl, hb2⟩; have HB2 := Aside0.mk hb2; clear hb2))
  go_ret
  exact ⟨rfl, HBB.out.trans (HB2.out.mono (Nat.le_of_lt (World.block_lt_of_cell? _ _ hBd)))⟩
end Go.Proofs.YtmgcpjgpmjhemaaGreatDoor.Pc
