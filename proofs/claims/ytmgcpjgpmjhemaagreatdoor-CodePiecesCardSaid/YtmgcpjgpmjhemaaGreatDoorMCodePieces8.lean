/-
Parts of the proof of CodePieces: ClaimCodePieces. No condition of ours.
-/
import Derived.Test.YtmgcpjgpmjhemaaGreatDoorMCodePieces7
/-
The law CodePieces answers true whatever its input, and leaves its arguments as they were: the tied card. No condition of ours: the listed package-level variables are tied by the card to the program's text.
-/
namespace Go.Proofs.YtmgcpjgpmjhemaaGreatDoor.Pc
open Go.ChangeShapes Go.WideShapes Go.ChangeAt Go.RowKit
set_option linter.unusedVariables false

theorem band {a b : Bool} (ha : a = true) (hb : b = true) : (a && b) = true := by rw [ha, hb]; rfl
set_option maxRecDepth 100000 in
set_option maxHeartbeats 4000000 in
theorem codePieces_closed : joinedFacts Tryz.checked.prog 7 Tryz.f7 Rows.codePiecesSpec Rows.codePiecesRow = true := by
  unfold joinedFacts
  repeat refine band ?_ (by as_aux_lemma => kernel_rfl)
  kernel_rfl

set_option maxRecDepth 100000 in
set_option maxHeartbeats 4000000 in
theorem codePieces_said : Rows.CodePiecesSaid :=
  OpenClaim.holds_of_wide 7 Tryz.f7 rfl rfl rfl rfl rfl rfl rfl ⟨rfl, rfl, rfl, rfl, rfl⟩ rfl rfl rfl rfl rfl (by kernel_rfl) Tryz.func7 codePieces_closed
    (of_decide_eq_true (by as_aux_lemma => kernel_rfl)) (by unfold Func.isWrapper; first | (rw [if_pos (by decide +kernel)]; kernel_rfl) | (rw [if_neg (by decide +kernel)]; exact ⟨rfl, rfl⟩))
    (fun os started H enc _ => codePieces_lifted os started H enc)

set_option maxRecDepth 100000 in
set_option maxHeartbeats 4000000 in
theorem codePieces_card : Rows.CodePiecesCardSaid :=
  Claim7.holds_tied_plain_at .later [] [.data, .data, .data, .data, .sentinel, .sentinel, .listed, .data, .pinned] true (true, "388a9e5185901cb0e2d9b3db5959c68e57684543afd33d9aca12e59b9e78dae1") true
    codePieces_said (fun _ h => by cases h) (by kernel_rfl) (fun _ h => by cases h) codePieces_row_tie rfl ⟨rfl, rfl⟩ (by kernel_rfl) rfl
    (fun f fn hf hfn => by
      obtain rfl : f = 7 := Option.some.inj ((show Tryz.prog.funcNamed "threshing/threshinglaw14.CodePieces" = some 7 by kernel_rfl).symm.trans hf) |>.symm
      obtain rfl : fn = Tryz.f7 := (Option.some.inj (Tryz.func7.symm.trans hfn)).symm
      exact ⟨by kernel_rfl, fun j t ht => by
        rw [Tryz.params7] at ht
        have hm : t ∈ [33, 33, 3] := by simpa using Array.mem_of_getElem? ht
        have hall : ([33, 33, 3].all fun u => !Tryz.prog.wantsStandIn u) = true := by kernel_rfl
        exact (show Tryz.prog.wantsStandIn t = false by simpa using List.all_eq_true.1 hall t hm)⟩)
    (by kernel_rfl)
end Go.Proofs.YtmgcpjgpmjhemaaGreatDoor.Pc
namespace Go.Proofs.YtmgcpjgpmjhemaaGreatDoor
theorem codePieces_card_holds : Rows.CodePiecesCardSaid := Pc.codePieces_card
#print axioms codePieces_card_holds
end Go.Proofs.YtmgcpjgpmjhemaaGreatDoor
