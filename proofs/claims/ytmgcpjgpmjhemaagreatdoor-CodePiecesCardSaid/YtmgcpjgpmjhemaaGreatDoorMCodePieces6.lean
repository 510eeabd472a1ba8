/-
Parts of the proof of CodePieces: LawCodePieces, ClaimCodePieces. No condition of ours.
-/
import Derived.Test.YtmgcpjgpmjhemaaGreatDoorMCodePieces4
import Derived.Test.YtmgcpjgpmjhemaaGreatDoorMCodePieces5
import Derived.Test.YtmgcpjgpmjhemaaGreatDoorTie
import Derived.OpenShut
/-
The row of the law CodePieces: it answers true whatever its input, and leaves its arguments as they were.
-/
namespace Go.Proofs.YtmgcpjgpmjhemaaGreatDoor.Pc
open Go.ChangeShapes Go.WideShapes Go.ChangeAt Go.RowKit
open Go.ChangeMaps (open_string shut_string)
set_option linter.unusedVariables false

set_option maxRecDepth 100000 in
theorem codePieces_lifted (os : Os) (started : os.Started) (H : Type) (enc : TypeId × Value → H) :
    ReturnsInHanded {} Tryz.checked os 7 .any (fun w args => (Rows.codePiecesSpec.pre enc Tryz.prog Tryz.f7 [] false w args ∧ laidMetH Tryz.prog laid w) ∧ sizedMet enc Tryz.prog Tryz.f7 (OpenSpec.ofChange Rows.codePiecesSpec) false w args)
      (Rows.codePiecesSpec.post enc Tryz.prog Tryz.f7 false true false false) := by
  refine returns_laid (C := Tryz.checked) (X := fun w _ => laidMetH Tryz.prog laid w) (fun _ _ _ hh h => h.of_heap hh) own started (by kernel_rfl) Tryz.func7
    (ChangeSpec.witness_shaped (enc := enc) (C := Tryz.checked) (os := os) (X := fun w _ => laidMetH Tryz.prog laid w) false (World.laidAll Tryz.prog os laid) #[.slice none 0 0, .slice none 0 0, .int .i64 0] 8 (World.laidAll_os _ _ _)
      (start_shaped os) (by kernel_rfl) (by kernel_rfl) (by kernel_rfl) (start_met os _)) ?_
  intro W base args ds gs before hval0 hW hbig hL hsh
  have hval : ∀ (j : Nat) t v, Tryz.f7.params[j]? = some t → args[j]? = some v → Value.okWide Tryz.prog W .any base t v := hval0
  have hW' := hW
  obtain ⟨p, q, hA0, hV, rfl, _, _⟩ := hW
  have hA : DataW.TrodAll enc Tryz.prog W 0 (fun _ => true) true Tryz.f7.params.toList args.toList ds p := hA0
  have hbig' : (DataW.weightsEach Tryz.prog (Tryz.f7.params.toList ++ Rows.codePiecesSpec.plain.varTypes Tryz.prog) (ds ++ gs)).all (· ≤ reachBytes) = true := hbig
  rw [Tryz.params7] at hA hval hbig'
  obtain ⟨v0, vs0, d0, ds0, p0, q0, hargs, rfl, rfl, h0, r0⟩ := trodAll_cons hA
  obtain ⟨v1, vs1, d1, ds1, p1, q1, rfl, rfl, rfl, h1, r1⟩ := trodAll_cons r0
  obtain ⟨v2, vs2, d2, ds2, p2, q2, rfl, rfl, rfl, h2, r2⟩ := trodAll_cons r1
  obtain ⟨rfl, rfl, rfl⟩ := trodAll_nil r2
  obtain rfl : args = #[v0, v1, v2] := by cases args; simp_all
  obtain ⟨rfl, rfl⟩ := trodVars_none hV
  have k0 := h0
  have k1 := h1
  have k2 := h2
  have lt0 : ∀ x ∈ p0, x.block < W.heap.size := by obtain ⟨m, hm⟩ := k0; exact DataW.trod_lt m _ _ _ hm
  have lt1 : ∀ x ∈ p1, x.block < W.heap.size := by obtain ⟨m, hm⟩ := k1; exact DataW.trod_lt m _ _ _ hm
  have lt2 : ∀ x ∈ p2, x.block < W.heap.size := by obtain ⟨m, hm⟩ := k2; exact DataW.trod_lt m _ _ _ hm
  obtain ⟨A, len, cap, rfl⟩ := okWide_slice Tryz.underlying33 (hval 0 33 v0 rfl rfl)
  obtain ⟨B, lenB, capB, rfl⟩ := okWide_slice Tryz.underlying33 (hval 1 33 v1 rfl rfl)
  obtain ⟨n, rfl⟩ := okWide_int Tryz.underlying3 (hval 2 3 v2 rfl rfl)
  have e : DataW.weightsEach Tryz.prog ([33, 33, 3] ++ Rows.codePiecesSpec.plain.varTypes Tryz.prog) ([d0, d1, d2] ++ []) = d0.weights Tryz.prog 33 ++ (d1.weights Tryz.prog 33 ++ DataW.weightsEach Tryz.prog [3] [d2]) := rfl
  have hz0 : (d0.weights Tryz.prog 33).all (· ≤ reachBytes) = true := all_left (e ▸ hbig')
  have hz1 : (d1.weights Tryz.prog 33).all (· ≤ reachBytes) = true := all_left (all_right (e ▸ hbig'))
  obtain ⟨fuel, hf⟩ := h0
  have hf' : DataW.trod enc Tryz.prog W 0 (fun _ => true) true fuel 33 [.slice A len cap] = some (d0, p0) := hf
  obtain ⟨A', cap', l, hcs, hcap, hlen, hC, hin⟩ := open_inss hf' hz0
  injection hcs with hcs _
  injection hcs with e1 e2 e3
  subst e1 e2 e3
  obtain ⟨fuelB, hfB⟩ := h1
  have hfB' : DataW.trod enc Tryz.prog W 0 (fun _ => true) true fuelB 33 [.slice B lenB capB] = some (d1, p1) := hfB
  obtain ⟨B', capB', lB, hcsB, hcapB, hlenB, hCB, hinB⟩ := open_inss hfB' hz1
  injection hcsB with hcsB _
  injection hcsB with e1 e2 e3
  subst e1 e2 e3
  clear hA0 hval0
  obtain ⟨k, hk⟩ := codePieces_true l lB hin hinB hlen hlenB n
  refine (threshinglaw14_CodePieces.calls k A cap l B capB lB n true W hC hcap hCB hcapB (gl_of hL hsh) hk rfl).mono fun e W' ⟨he, bel⟩ => ?_
  subst he
  exact ⟨_, rfl, _, _, _, [], _, [], hW', trodAll_mk1 (shut_bool Tryz.underlying4 _), (trodAll_cons_mk (Below.trod laidOut (by kernel_rfl) (of_decide_eq_true (by kernel_rfl)) k0 bel lt0) (trodAll_cons_mk (Below.trod laidOut (by kernel_rfl) (of_decide_eq_true (by kernel_rfl)) k1 bel lt1) (trodAll_cons_mk (Below.trod laidOut (by kernel_rfl) (of_decide_eq_true (by kernel_rfl)) k2 bel lt2) trodAll_mk0))), rfl, bel.frame _, fun h => by cases h⟩

end Go.Proofs.YtmgcpjgpmjhemaaGreatDoor.Pc

/-
The law CodePieces answers true whatever its input, and leaves its arguments as they were: the tied card. No condition of ours: the listed package-level variables are tied by the card to the program's text.
-/
namespace Go.Proofs.YtmgcpjgpmjhemaaGreatDoor.Pc
open Go.ChangeShapes Go.WideShapes Go.ChangeAt Go.RowKit
set_option linter.unusedVariables false

theorem band {a b : Bool} (ha : a = true) (hb : b = true) : (a && b) = true := by rw [ha, hb]; rfl
set_option maxRecDepth 100000 in
set_option maxHeartbeats 4000000 in
theorem codePieces_closed : joinedFacts Tryz.checked.prog 7 Tryz.f7 Rows.codePiecesSpec Rows.codePiecesRow = true := by
  unfold joinedFacts
  repeat refine band ?_ (by as_aux_lemma => kernel_rfl)
  kernel_rfl

set_option maxRecDepth 100000 in
set_option maxHeartbeats 4000000 in
theorem codePieces_said : Rows.CodePiecesSaid :=
  OpenClaim.holds_of_wide 7 Tryz.f7 rfl rfl rfl rfl rfl rfl rfl ⟨rfl, rfl, rfl, rfl, rfl⟩ rfl rfl rfl rfl rfl (by kernel_rfl) Tryz.func7 codePieces_closed
    (of_decide_eq_true (by as_aux_lemma => kernel_rfl)) (by unfold Func.isWrapper; first | (rw [if_pos (by decide +kernel)]; kernel_rfl) | (rw [if_neg (by decide +kernel)]; exact ⟨rfl, rfl⟩))
    (fun os started H enc _ => codePieces_lifted os started H enc)

set_option maxRecDepth 100000 in
set_option maxHeartbeats 4000000 in
theorem codePieces_card : Rows.CodePiecesCardSaid :=
  Claim7.holds_tied_plain_at .later [] [.data, .data, .data, .data, .sentinel, .sentinel, .listed, .data, .pinned] true (true, "388a9e5185901cb0e2d9b3db5959c68e57684543afd33d9aca12e59b9e78dae1") true
    codePieces_said (fun _ h => by cases h) (by kernel_rfl) (fun _ h => by cases h) codePieces_row_tie rfl ⟨rfl, rfl⟩ (by kernel_rfl) rfl
    (fun f fn hf hfn => by
      obtain rfl : f = 7 := Option.some.inj ((show Tryz.prog.funcNamed "threshing/threshinglaw14.CodePieces" = some 7 by kernel_rfl).symm.trans hf) |>.symm
      obtain rfl : fn = Tryz.f7 := (Option.some.inj (Tryz.func7.symm.trans hfn)).symm
      exact ⟨by kernel_rfl, fun j t ht => by
        rw [Tryz.params7] at ht
        have hm : t ∈ [33, 33, 3] := by simpa using Array.mem_of_getElem? ht
        have hall : ([33, 33, 3].all fun u => !Tryz.prog.wantsStandIn u) = true := by kernel_rfl
        exact (show Tryz.prog.wantsStandIn t = false by simpa using List.all_eq_true.1 hall t hm)⟩)
    (by kernel_rfl)
end Go.Proofs.YtmgcpjgpmjhemaaGreatDoor.Pc
namespace Go.Proofs.YtmgcpjgpmjhemaaGreatDoor
theorem codePieces_card_holds : Rows.CodePiecesCardSaid := Pc.codePieces_card
#print axioms codePieces_card_holds
end Go.Proofs.YtmgcpjgpmjhemaaGreatDoor
