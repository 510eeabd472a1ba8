/-
The contracts of strconv.Itoa and code.figures in the form that the printed walks take.
-/
import Derived.Test.YtmgcpjgpmjhemaaGreatDoorExtStr
import Derived.Test.YtmgcpjgpmjhemaaGreatDoorCodePure
import Derived.Lib.ItoaLen
import Derived.Lib.AtoiAllCases
import Derived.Lib.AtoiErrMem
import Derived.Sort.Grow
namespace Go.Proofs.YtmgcpjgpmjhemaaGreatDoor.Pc
open Go.RowKit Go.Proofs.YtmgcpjgpmjhemaaGreatDoorW.PrintWords Go.Proofs.YtmgcpjgpmjhemaaGreatDoorW.PrintLast Go.Proofs.YtmgcpjgpmjhemaaGreatDoorW.PrintMore
open CodePure (figs)
set_option linter.unusedVariables false

theorem below_grow (w : World) (k : Nat) (os : Array Obj) : Below w.heap.size w (Go.Sort.grow (w.drewN k) os) :=
  ⟨rfl, rfl, rfl, by simp [Go.Sort.grow], fun i hi => by
    show (w.heap ++ os)[i]? = _
    exact Array.getElem?_append_left hi⟩

theorem toList_data (s : ByteArray) : s.toList = s.data.toList := ByteArray.toList_eq s

theorem itoa_call (n : Int) (h0 : -9223372036854775808 ≤ n) (h1 : n ≤ 9223372036854775807) (w : World) (hG : Gl w) :
    Calls Tryz.prog 44 #[.int .i64 n] w fun e w' => e = .returned (.string ⟨(Lib.itoa n).toArray⟩) ∧ Below w.heap.size w w' := by
  refine (Tryz.strconv_Itoa n h0 h1 w hG.p10).mono fun e w' h => ⟨h.1, ?_⟩
  obtain ⟨k, os, rfl⟩ := h.2
  exact below_grow w k os

def atoiNum (l : List UInt8) : Int := match Lib.atoiAll l with
  | .ok v => v
  | Go.Lib.NumEnd.syntax => 0
  | .range => Lib.atoiSat l
def code_figures.f (a0 : ByteArray) : Option (Int × Bool) :=
  if a0.size ≤ 281474976710656 then some (atoiNum a0.data.toList, (figs a0.data.toList).isSome) else none

theorem code_figures.calls (a0 : ByteArray) (r1 : Int) (r2 : Bool) (w : World) (hG : Gl w) (h : code_figures.f a0 = some (r1, r2)) :
    Calls Tryz.prog 52 #[.string a0] w fun e w' => e = .returned (.tuple #[.int .i64 r1, .bool r2]) ∧ Below w.heap.size w w' := by
  have HG := Aside0.mk hG
  clear hG
  unfold code_figures.f at h
  split at h
  · rename_i hs
    simp only [Option.some.injEq, Prod.mk.injEq] at h
    have H1 := Aside0.mk h.1
    have H2 := Aside0.mk h.2
    clear h
    match ha : Lib.atoiAll a0.data.toList with
    | .ok v =>
      have hb := Lib.atoiAll_bounds ha
      have HA := Aside0.mk ha
      clear ha
      go_enter Tryz.func52, Tryz.ntmps52
      go_wp2_with fail
      refine (Tryz.strconv_Atoi_ok a0 (by omega) v HA.out w).mono ?_
      rintro e w' ⟨rfl, hw⟩
      have HB : Aside0 (Below w.heap.size w w') := ⟨by
        rcases hw with rfl | ⟨t, rfl⟩
        · exact Below.refl _ _
        · exact Lib.bytesWorld_below w _ t⟩
      clear hw
      go_wp2_with fail
      refine (itoa_call v hb.1 hb.2 w' (gl_below HG.out HB.out)).mono ?_
      rintro e w2 ⟨rfl, hb2⟩
      have HB2 : Aside0 (Below w.heap.size w w2) := ⟨below_then HB.out HB.out.size hb2⟩
      clear hb2
      go_wp2_with fail
      go_ret2
      have e1 : r1 = v := by rw [← H1.out, atoiNum, HA.out]
      have e2 : r2 = (Lib.itoa v == a0.toList) := by
        rw [← H2.out, figs, HA.out, toList_data]
        simp only
        by_cases e : Lib.itoa v = a0.data.toList
        · rw [if_pos e]; simp [e]
        · rw [if_neg e]; simp [e]
      subst e1 e2
      exact ⟨rfl, HB2.out⟩
    | Go.Lib.NumEnd.syntax =>
      obtain ⟨te, pe, hc⟩ := HG.out.syn
      have HA := Aside0.mk ha
      have HC := Aside0.mk hc
      clear ha hc
      go_enter Tryz.func52, Tryz.ntmps52
      go_wp2_with fail
      refine (Tryz.strconv_Atoi_syntax a0 (by omega) HA.out _ w HC.out (.inr ⟨te, pe, rfl⟩)).mono ?_
      rintro e w' ⟨N, rfl, _, _, hB⟩
      have HB := Aside0.mk hB
      clear hB
      go_wp2_with fail
      go_ret2
      have e1 : r1 = 0 := by rw [← H1.out, atoiNum, HA.out]
      have e2 : r2 = false := by rw [← H2.out, figs, HA.out]; rfl
      subst e1 e2
      exact ⟨rfl, HB.out⟩
    | .range =>
      obtain ⟨te, pe, hc⟩ := HG.out.rng
      have HA := Aside0.mk ha
      have HC := Aside0.mk hc
      clear ha hc
      go_enter Tryz.func52, Tryz.ntmps52
      go_wp2_with fail
      refine (Tryz.strconv_Atoi_range a0 (by omega) HA.out _ w HC.out (.inr ⟨te, pe, rfl⟩)).mono ?_
      rintro e w' ⟨N, rfl, _, _, hB⟩
      have HB := Aside0.mk hB
      clear hB
      go_wp2_with fail
      go_ret2
      have e1 : r1 = Lib.atoiSat a0.data.toList := by rw [← H1.out, atoiNum, HA.out]
      have e2 : r2 = false := by rw [← H2.out, figs, HA.out]; rfl
      subst e1 e2
      exact ⟨rfl, HB.out⟩
  · cases h
end Go.Proofs.YtmgcpjgpmjhemaaGreatDoor.Pc
