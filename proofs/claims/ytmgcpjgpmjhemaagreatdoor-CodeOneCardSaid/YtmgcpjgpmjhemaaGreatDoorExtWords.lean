/-
The contract of code.words, strings.Cut, Count, Split, HasSuffix, TrimSuffix and slices.Index in the form that the printed walks take.
-/
import Derived.Test.YtmgcpjgpmjhemaaGreatDoorPc0
import Derived.Test.YtmgcpjgpmjhemaaGreatDoorExtBase
import Derived.Test.YtmgcpjgpmjhemaaGreatDoorShelf
namespace Go.Proofs.YtmgcpjgpmjhemaaGreatDoor.Pc
open Go.RowKit Go.Proofs.YtmgcpjgpmjhemaaGreatDoorW.PrintWords Go.Proofs.YtmgcpjgpmjhemaaGreatDoorW.PrintLast Go.Proofs.YtmgcpjgpmjhemaaGreatDoorW.PrintMore
set_option linter.unusedVariables false

/-- A new row of strings. -/
theorem R_strs (w : World) (ss : List ByteArray) (hm : ss.length ≤ 9223372036854775807) (ok : Nat → Prop) (hok : ∀ k, ok k) :
    Kd.R Kd.string 9 (w.alloc (.cells (ss.map Value.string).toArray 9)) w.heap.size ok (.slice (some ⟨w.heap.size, 0, none⟩) ss.length ss.length) ss := by
  refine ⟨fun k _ => hok k, ss.map Value.string, ?_, ?_⟩
  · refine ⟨by simp [Kd.string, Kd.scalar], .inr ⟨w.heap.size, ss.length, (ss.map Value.string).toArray, rfl, Nat.le_refl _, heap_alloc_new w _, Nat.le_refl _, by simpa [maxLen] using hm, by simp [Kd.string, Kd.scalar], ?_⟩⟩
    simp only [Kd.string, Kd.scalar, Nat.mul_one]
    exact List.take_of_length_le (by simp)
  · refine ⟨by simp [Kd.string, Kd.scalar], fun j p hj => ?_⟩
    show _ = [Value.string p]
    have hj' : j < ss.length := (List.getElem?_eq_some_iff.1 hj).1
    have e : ss[j] = p := by rw [List.getElem?_eq_getElem hj'] at hj; exact Option.some.inj hj
    simp only [Kd.string, Kd.scalar, Nat.mul_one]
    rw [List.drop_eq_getElem_cons (by simpa using hj')]
    simp [e]

def namesL : List (List UInt8) := [[110, 117, 109], [116, 101, 120, 116], [102, 105, 101, 108, 100], [99, 111, 117, 110, 116], [97, 100, 100], [115, 117, 98], [109, 117, 108], [100, 105, 118], [109, 111, 100], [106, 111, 105, 110], [108, 101, 110], [115, 108, 105, 99, 101], [117, 112, 112, 101, 114], [108, 111, 119, 101, 114], [101, 113], [108, 101, 115, 115], [110, 111, 116], [105, 102], [116, 111, 110, 117, 109], [116, 111, 116, 101, 120, 116], [104, 97, 115, 104], [102, 105, 110, 100], [97, 99, 99], [105, 116, 101, 109]]
def namesB : List ByteArray := namesL.map fun l => ⟨l.toArray⟩
def code_words.f : Option (List ByteArray) := some namesB

def wordsS : ByteArray := ⟨#[110, 117, 109, 32, 116, 101, 120, 116, 32, 102, 105, 101, 108, 100, 32, 99, 111, 117, 110, 116, 32, 97, 100, 100, 32, 115, 117, 98, 32, 109, 117, 108, 32, 100, 105, 118, 32, 109, 111, 100, 32, 106, 111, 105, 110, 32, 108, 101, 110, 32, 115, 108, 105, 99, 101, 32, 117, 112, 112, 101, 114, 32, 108, 111, 119, 101, 114, 32, 101, 113, 32, 108, 101, 115, 115, 32, 110, 111, 116, 32, 105, 102, 32, 116, 111, 110, 117, 109, 32, 116, 111, 116, 101, 120, 116, 32, 104, 97, 115, 104, 32, 102, 105, 110, 100, 32, 97, 99, 99, 32, 105, 116, 101, 109]⟩
theorem words_fields : Lib.fields wordsS.data.toList = namesL := by decide +kernel
theorem words_ascii : ∀ b ∈ wordsS.data.toList, b.toNat < 128 := by decide +kernel
theorem words_call (w : World) (hG : Gl w) : Calls Tryz.prog 94 #[.string wordsS] w fun e w' =>
    e = .returned (.slice (some ⟨w.heap.size, 0, none⟩) namesB.length namesB.length) ∧ w' = w.alloc (.cells (namesB.map Value.string).toArray 9) := by
  have h := Tryz.strings_Fields_laid wordsS w (by decide +kernel) (fun j b hb => words_ascii b (List.mem_of_getElem? hb)) hG.sp
  rw [words_fields] at h
  have e1 : namesL.length = namesB.length := rfl
  have e2 : (namesL.map fun l => Value.string ⟨l.toArray⟩) = namesB.map Value.string := by unfold namesB; rw [List.map_map]; rfl
  rw [e1, e2] at h
  exact h

theorem code_words.calls (r : List ByteArray) (w : World) (hG : Gl w) (h : code_words.f = some r) :
    Calls Tryz.prog 51 #[] w fun e w' => ∃ v0_ : Value, e = .returned (v0_) ∧ Kd.R Kd.string 9 w' w.heap.size (fun _ => True) v0_ r ∧ Below w.heap.size w w' := by
  obtain rfl := Option.some.inj h
  have HG := Aside0.mk hG
  have HR := Aside0.mk (R_strs w namesB (by decide +kernel) (fun _ => True) (fun _ => trivial))
  have HB := Aside0.mk ((Below.refl w.heap.size w).alloc (Nat.le_refl _) (.cells (namesB.map Value.string).toArray 9))
  clear hG h
  go_enter Tryz.func51, Tryz.ntmps51
  go_wp2_with fail
  refine (words_call _ HG.out).mono ?_
  rintro e w' ⟨rfl, rfl⟩
  go_wp2_with fail
  go_ret
  exact ⟨_, rfl, HR.out, HB.out⟩
end Go.Proofs.YtmgcpjgpmjhemaaGreatDoor.Pc
