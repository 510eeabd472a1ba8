/-
(*strings.Replacer).buildOnce, (*strings.byteStringReplacer).Replace, (*strings.Replacer).Replace.
-/
import Derived.Test.YtmgcpjgpmjhemaaGreatDoorExtRepl
import Derived.Test.YtmgcpjgpmjhemaaGreatDoorReplPure
import Derived.Outline
import Derived.WalkSpells
import Derived.BigQuiet
import Derived.Laws.CopyOwn
namespace Go.Proofs.YtmgcpjgpmjhemaaGreatDoor.Pc
open Go.RowKit Go.Proofs.YtmgcpjgpmjhemaaGreatDoorW.PrintWords Go.Proofs.YtmgcpjgpmjhemaaGreatDoorW.PrintLast Go.Proofs.YtmgcpjgpmjhemaaGreatDoorW.PrintMore
open CodePure (esc esc1 Bs hits hitb)
set_option linter.unusedVariables false

theorem bsr_at {w : World} {q : Nat} (h : IsBsr w q) (c : UInt8) : (hitb c = false ∧ w.cell? ⟨q, c.toNat, none⟩ = some (.slice none 0 0)) ∨
    (hitb c = true ∧ ∃ a cp x, esc1 c = [92, x] ∧ w.cell? ⟨q, c.toNat, none⟩ = some (.slice (some ⟨a, 0, none⟩) 2 cp) ∧ w.cell? ⟨a, 0, none⟩ = some (.int .u8 92) ∧ w.cell? ⟨a, 1, none⟩ = some (.int .u8 (UInt8.toNat x))) := by
  by_cases h1 : c = 10
  · subst h1
    obtain ⟨a, cp, p1, p2, p3⟩ := h.r10
    exact .inr ⟨rfl, a, cp, 110, rfl, p1, p2, p3⟩
  · by_cases h2 : c = 92
    · subst h2
      obtain ⟨a, cp, p1, p2, p3⟩ := h.r92
      exact .inr ⟨rfl, a, cp, 92, rfl, p1, p2, p3⟩
    · by_cases h3 : c = 34
      · subst h3
        obtain ⟨a, cp, p1, p2, p3⟩ := h.r34
        exact .inr ⟨rfl, a, cp, 34, rfl, p1, p2, p3⟩
      · have n : ∀ k : Nat, k < 256 → c ≠ UInt8.ofNat k → c.toNat ≠ k := fun k hk hc e => hc (by rw [← e]; simp)
        refine .inl ⟨by simp [hitb, h1, h2, h3], h.no c.toNat c.toNat_lt (n 10 (by decide) h1) (n 34 (by decide) h3) (n 92 (by decide) h2)⟩

theorem byte_at (s : ByteArray) (k : Nat) (c : UInt8) (h : k < s.size) (hc : s[k]'h = c) : s.data.toList[k]? = some c := by
  rw [← hc]
  rw [List.getElem?_eq_getElem (by simpa using h)]
  rfl

def sumc (l : Bs) : Nat → Nat
  | 0 => 0
  | 1 => Lib.countByte l 10
  | 2 => Lib.countByte l 10 + Lib.countByte l 92
  | _ => hits l
theorem sumc_le (l : Bs) (k : Nat) : sumc l k ≤ l.length := by
  have h := CodePure.hits_counts l
  have h2 := CodePure.hits_le l
  match k with
  | 0 => exact Nat.zero_le _
  | 1 => show Lib.countByte l 10 ≤ _; omega
  | 2 => show Lib.countByte l 10 + Lib.countByte l 92 ≤ _; omega
  | k + 3 => exact h2
theorem sumc_0 (l : Bs) (n : Nat) (h : Lib.countByte l 10 = n) : sumc l 1 = sumc l 0 + n := by simp [sumc, h]
theorem sumc_1 (l : Bs) (n : Nat) (h : Lib.countByte l 92 = n) : sumc l 2 = sumc l 1 + n := by simp [sumc, h]
theorem sumc_2 (l : Bs) (n : Nat) (h : Lib.countByte l 34 = n) : sumc l 3 = sumc l 2 + n := by simp [sumc, ← h, ← CodePure.hits_counts l]
theorem lit_of (x : UInt8) (n : Nat) (h : x.toNat = n) : x = UInt8.ofNat n := by rw [← h]; simp

/-- The row of the buffer: the first 'j' cells are the bytes of 'out', of 'n' cells in all. -/
def Row (wr : World) (B n : Nat) (out : Bs) : Prop := ∃ L : List Value, wr.heap[B]? = some (.cells L.toArray 5 (0, 0)) ∧ L.length = n ∧ L.take out.length = out.map (fun c => Value.int .u8 (c.toNat : Int))
theorem row_cell {wr : World} {B n : Nat} {out : Bs} (h : Row wr B n out) (j : Nat) (hj : j < n) : (∃ x, wr.cell? ⟨B, j, none⟩ = some x) ∧ wr.frozen? ⟨B, j, none⟩ = false := by
  obtain ⟨L, h1, h2, _⟩ := h
  refine ⟨⟨L[j]'(by omega), ?_⟩, by simp [World.frozen?, h1]⟩
  simp [World.cell?, h1, show j < L.length by omega]
theorem row_set {wr : World} {B n : Nat} {out : Bs} (h : Row wr B n out) (hj : out.length < n) (c : UInt8) : Row (wr.setCell ⟨B, out.length, none⟩ (.int .u8 (c.toNat : Int))) B n (out ++ [c]) := by
  obtain ⟨L, h1, h2, h3⟩ := h
  refine ⟨L.set out.length (.int .u8 (c.toNat : Int)), ?_, by simpa using h2, ?_⟩
  · rw [setCell_eq_setRow wr B out.length L.toArray _ _ _ h1]
    rw [setRow_heap wr B L.toArray _ _ _ h1]
    simp
  · simp only [List.length_append, List.length_singleton, List.map_append, List.map_cons, List.map_nil]
    rw [List.take_add_one, List.take_set_of_le (Nat.le_refl _), h3]
    simp [show out.length < L.length by omega]
theorem row_splice {w' : World} {B n : Nat} {out cs : Bs} {L : List Value} (h2 : L.length = n) (h3 : L.take out.length = out.map (fun c => Value.int .u8 (c.toNat : Int))) (hj : out.length + cs.length ≤ n)
    (h : w'.heap[B]? = some (.cells (splice L out.length (cs.map (fun c => Value.int .u8 (c.toNat : Int)))).toArray 5 (0, 0))) : Row w' B n (out ++ cs) := by
  refine ⟨_, h, ?_, ?_⟩
  · rw [length_splice _ _ _ (by simp; omega)]; exact h2
  · have e : out.length = (out.map (fun c => Value.int .u8 (c.toNat : Int))).length := by simp
    unfold splice
    rw [h3, ← List.append_assoc, List.map_append]
    exact List.take_left' (by simp)

set_option maxRecDepth 100000 in
set_option maxHeartbeats 4000000 in
theorem bsr_Replace (q : Nat) (s : ByteArray) (w : World) (h : IsBsr w q) (hsz : s.size ≤ 70368744177664) :
    Calls Tryz.prog 283 #[.pointer (some ⟨q, 0, none⟩), .string s] w fun e w' => e = .returned (.string ⟨(esc s.data.toList).toArray⟩) ∧ Below w.heap.size w w' := by
  have e10 : ∀ h, ((⟨#[10]⟩ : ByteArray)[0]'h).toNat = 10 := fun _ => rfl
  have e34 : ∀ h, ((⟨#[34]⟩ : ByteArray)[0]'h).toNat = 34 := fun _ => rfl
  have e92 : ∀ h, ((⟨#[92]⟩ : ByteArray)[0]'h).toNat = 92 := fun _ => rfl
  have nq0 : ∀ (w : World), (binOp .neq 82 (.slice none 0 0) (.slice none 0 0)).run Tryz.prog w = .ok (.bool false) w := fun w => run_neq_slice_nil_any w _ _ none 0 0 0 0 Tryz.underlying82
  have nq1 : ∀ (w : World) (a : Addr) (n c : Nat), (binOp .neq 82 (.slice (some a) n c) (.slice none 0 0)).run Tryz.prog w = .ok (.bool true) w := fun w a n c => run_neq_slice_nil_any w _ _ (some a) n c 0 0 Tryz.underlying82
  have HB0 := Aside0.mk h
  obtain ⟨l, hl⟩ : ∃ l, s.data.toList = l := ⟨_, rfl⟩
  have HLE : Aside0 (s.data.toList = l) := ⟨hl⟩
  have hlen : l.length = s.size := by rw [← hl]; simp
  obtain ⟨_, ⟨a1, c1, p1, p2, p3⟩, ⟨a2, c2, q1, q2, q3⟩, ⟨a3, c3, r1, r2, r3⟩, ⟨tb, tc, s1, s2, s3, s4⟩⟩ := h
  rw [hl]
  clear hl
  go_enter Tryz.func283, Tryz.ntmps283
  by_cases hbig : (24 : Int) ≤ (s.size : Int)
  · go_wp2_with fail
    go_loopw [5, 6, 32] (fun i5 i6 i32 wr => ∃ k : Nat, k ≤ 3 ∧ i5 = .int .i64 ((s.size : Int) + (sumc l k : Nat)) ∧ i6 = .bool (decide (0 < sumc l k)) ∧ i32 = .int .i64 k ∧ Aside0 (Below w.heap.size w wr)) (fun _ _ i _ => 3 - (intOf i).toNat)
    case atStart => exact ⟨0, by decide, by simp [sumc], by simp [sumc], rfl, ⟨Below.refl _ _⟩⟩
    case round =>
      obtain ⟨k, hk, rfl, rfl, rfl, HW⟩ := hrel
      have P1 := cell_keep HW.out p1
      have Q1 := cell_keep HW.out q1
      have R1 := cell_keep HW.out r1
      have S2 := cell_keep HW.out s2
      have S3 := cell_keep HW.out s3
      have S4 := cell_keep HW.out s4
      by_cases hk3 : k < 3
      · have hkk : k = 0 ∨ k = 1 ∨ k = 2 := by omega
        rcases hkk with rfl | rfl | rfl
        · obtain ⟨n, hn⟩ : ∃ n, Lib.countByte l 10 = n := ⟨_, rfl⟩
          have HS := Aside0.mk (sumc_0 l n hn)
          have hb1 := sumc_le l 1
          have hcount : ∀ W, Calls Tryz.prog 60 #[.string s, .string ⟨#[10]⟩] W fun e w' => e = .returned (.int .i64 n) ∧ w' = W := fun W => by
            have := Tryz.strings_Count_one s 10 W
            rw [HLE.out, hn] at this
            exact this
          have HC := Aside0.mk hcount
          rw [HS.out] at hb1
          clear hcount hn
          obtain ⟨m, hm⟩ : ∃ m, sumc l 0 = m := ⟨_, rfl⟩
          have HM := Aside0.mk hm
          rw [hm] at hb1 ⊢
          clear hm
          by_cases hn0 : n = 0
          · have t0 : ((n : Int) != 0) = false := by simp [hn0]
            have n0 := Aside0.mk hn0
            clear hn0
            go_wp2_with (go_at_call 60; refine (HC.out _).mono ?_; rintro e w' ⟨rfl, rfl⟩)
            go_roundw
            case rel => exact ⟨1, by decide, by rw [HS.out, HM.out, n0.out, Nat.add_zero], by rw [HS.out, HM.out, n0.out, Nat.add_zero], by go_num, HW⟩
            case measure => simp [intOf]
          · have t0 : ((n : Int) != 0) = true := by simp [hn0]
            have n0 := Aside0.mk (Nat.pos_of_ne_zero hn0)
            clear hn0
            go_wp2_with (go_at_call 60; refine (HC.out _).mono ?_; rintro e w' ⟨rfl, rfl⟩)
            go_quiet (fail)
            go_wp2_with fail
            go_roundw
            case rel => exact ⟨1, by decide, by rw [HS.out, HM.out]; go_num, by rw [HS.out, decide_eq_true (Nat.lt_of_lt_of_le n0.out (Nat.le_add_left _ _))], by go_num, ⟨pw_below_drewN HW.out _⟩⟩
            case measure => simp [intOf]
        · obtain ⟨n, hn⟩ : ∃ n, Lib.countByte l 92 = n := ⟨_, rfl⟩
          have HS := Aside0.mk (sumc_1 l n hn)
          have hb1 := sumc_le l 2
          have hcount : ∀ W, Calls Tryz.prog 60 #[.string s, .string ⟨#[92]⟩] W fun e w' => e = .returned (.int .i64 n) ∧ w' = W := fun W => by
            have := Tryz.strings_Count_one s 92 W
            rw [HLE.out, hn] at this
            exact this
          have HC := Aside0.mk hcount
          rw [HS.out] at hb1
          clear hcount hn
          obtain ⟨m, hm⟩ : ∃ m, sumc l 1 = m := ⟨_, rfl⟩
          have HM := Aside0.mk hm
          rw [hm] at hb1 ⊢
          clear hm
          by_cases hn0 : n = 0
          · have t0 : ((n : Int) != 0) = false := by simp [hn0]
            have n0 := Aside0.mk hn0
            clear hn0
            go_wp2_with (go_at_call 60; refine (HC.out _).mono ?_; rintro e w' ⟨rfl, rfl⟩)
            go_roundw
            case rel => exact ⟨2, by decide, by rw [HS.out, HM.out, n0.out, Nat.add_zero], by rw [HS.out, HM.out, n0.out, Nat.add_zero], by go_num, HW⟩
            case measure => simp [intOf]
          · have t0 : ((n : Int) != 0) = true := by simp [hn0]
            have n0 := Aside0.mk (Nat.pos_of_ne_zero hn0)
            clear hn0
            go_wp2_with (go_at_call 60; refine (HC.out _).mono ?_; rintro e w' ⟨rfl, rfl⟩)
            go_quiet (fail)
            go_wp2_with fail
            go_roundw
            case rel => exact ⟨2, by decide, by rw [HS.out, HM.out]; go_num, by rw [HS.out, decide_eq_true (Nat.lt_of_lt_of_le n0.out (Nat.le_add_left _ _))], by go_num, ⟨pw_below_drewN HW.out _⟩⟩
            case measure => simp [intOf]
        · obtain ⟨n, hn⟩ : ∃ n, Lib.countByte l 34 = n := ⟨_, rfl⟩
          have HS := Aside0.mk (sumc_2 l n hn)
          have hb1 := sumc_le l 3
          have hcount : ∀ W, Calls Tryz.prog 60 #[.string s, .string ⟨#[34]⟩] W fun e w' => e = .returned (.int .i64 n) ∧ w' = W := fun W => by
            have := Tryz.strings_Count_one s 34 W
            rw [HLE.out, hn] at this
            exact this
          have HC := Aside0.mk hcount
          rw [HS.out] at hb1
          clear hcount hn
          obtain ⟨m, hm⟩ : ∃ m, sumc l 2 = m := ⟨_, rfl⟩
          have HM := Aside0.mk hm
          rw [hm] at hb1 ⊢
          clear hm
          by_cases hn0 : n = 0
          · have t0 : ((n : Int) != 0) = false := by simp [hn0]
            have n0 := Aside0.mk hn0
            clear hn0
            go_wp2_with (go_at_call 60; refine (HC.out _).mono ?_; rintro e w' ⟨rfl, rfl⟩)
            go_roundw
            case rel => exact ⟨3, by decide, by rw [HS.out, HM.out, n0.out, Nat.add_zero], by rw [HS.out, HM.out, n0.out, Nat.add_zero], by go_num, HW⟩
            case measure => simp [intOf]
          · have t0 : ((n : Int) != 0) = true := by simp [hn0]
            have n0 := Aside0.mk (Nat.pos_of_ne_zero hn0)
            clear hn0
            go_wp2_with (go_at_call 60; refine (HC.out _).mono ?_; rintro e w' ⟨rfl, rfl⟩)
            go_quiet (fail)
            go_wp2_with fail
            go_roundw
            case rel => exact ⟨3, by decide, by rw [HS.out, HM.out]; go_num, by rw [HS.out, decide_eq_true (Nat.lt_of_lt_of_le n0.out (Nat.le_add_left _ _))], by go_num, ⟨pw_below_drewN HW.out _⟩⟩
            case measure => simp [intOf]
      · obtain rfl : k = 3 := by omega
        clear hk3 hk
        rw [show ((3 : Nat) : Int) = (3 : Int) from rfl]
        have hN : (s.size : Int) + (sumc l 3 : Nat) = ((esc l).length : Int) := by rw [CodePure.esc_len, hlen]; show _ + ((hits l : Nat) : Int) = _; omega
        have hNle : (esc l).length ≤ 140737488355328 := by have := CodePure.esc_len l; have := CodePure.hits_le l; omega
        rw [hN]
        clear hN
        by_cases hh : hits l = 0
        · have hany : decide (0 < sumc l 3) = false := by show decide (0 < hits l) = false; simp [hh]
          have HES : Aside0 (esc l = l) := ⟨CodePure.esc_same hh⟩
          have HSS : Aside0 (s = ⟨l.toArray⟩) := ⟨by rw [← HLE.out]⟩
          rw [hany, HES.out]
          clear hany hh
          go_wp2_with fail
          go_ret
          exact ⟨by rw [HES.out, ← HSS.out]; rfl, HW.out⟩
        · have hany : decide (0 < sumc l 3) = true := decide_eq_true (Nat.pos_of_ne_zero hh)
          rw [hany]
          obtain ⟨N, hN⟩ : ∃ N, (esc l).length = N := ⟨_, rfl⟩
          have HN := Aside0.mk hN
          rw [hN] at hNle ⊢
          have hmk : ∀ W, (Instr.makeSlice 82 (.int .i64 (N : Int)) (.int .i64 (N : Int))).run Tryz.prog W = .ok (.slice (some ⟨W.heap.size, 0, none⟩) N N) (W.alloc (.cells (madeCells #[.int .u8 0] N) 5)) :=
            run_make_row' 82 5 (.int .u8 0) 1 Tryz.underlying82 (by kernel_rfl) rfl .i64 .i64 N (by omega) (by omega)
          clear hany hh hN
          go_wp2_with fail
          have hBsz := HW.out.size
          have HR0 : Aside0 (Row (wr.alloc (.cells (madeCells #[.int .u8 0] N) 5)) wr.heap.size N (esc (l.take 0))) := ⟨(madeCells #[.int .u8 0] N).toList, by rw [Array.toArray_toList]; exact heap_alloc_new wr _, by simp [size_madeCells], by simp [esc]⟩
          have HW0 : Aside0 (Below w.heap.size w (wr.alloc (.cells (madeCells #[.int .u8 0] N) 5))) := ⟨HW.out.alloc hBsz _⟩
          obtain ⟨B, hB⟩ : ∃ B, wr.heap.size = B := ⟨_, rfl⟩
          rw [hB] at HR0 hBsz ⊢
          clear HW hB
          go_loopw [13, 14] (fun i13 i14 wx => ∃ k : Nat, k ≤ s.size ∧ i13 = .int .i64 ((esc (l.take k)).length : Nat) ∧ i14 = .int .i64 k ∧ Aside0 (Row wx B N (esc (l.take k))) ∧ Aside0 (Below w.heap.size w wx)) (fun _ i _ => s.size - (intOf i).toNat)
          case atStart => exact ⟨0, Nat.zero_le _, rfl, rfl, HR0, HW0⟩
          case round =>
            obtain ⟨k, hk, rfl, rfl, HR, HW⟩ := hrel
            by_cases hlt : k < s.size
            · obtain ⟨c, hc⟩ : ∃ c, s[k]'hlt = c := ⟨_, rfl⟩
              have HL := HLE.out ▸ byte_at s k c hlt hc
              have HT := CodePure.esc_take HL
              have hbnd := CodePure.esc_take_len_le l (k + 1)
              rw [HT, List.length_append, HN.out] at hbnd
              have HX := Aside0.mk HT
              clear HT HL
              have hc0 : (0 : Int) ≤ (c.toNat : Int) := by omega
              have hc1 : (c.toNat : Int) < 256 := by have := c.toNat_lt; omega
              obtain ⟨out, hout⟩ : ∃ out, esc (l.take k) = out := ⟨_, rfl⟩
              rw [hout] at HR HX hbnd ⊢
              clear hout
              obtain ⟨j, hj⟩ : ∃ j, out.length = j := ⟨_, rfl⟩
              have HJ := Aside0.mk hj
              rw [hj] at hbnd ⊢
              clear hj
              rcases bsr_at HB0.out c with ⟨hh, d0⟩ | ⟨hh, a, cp, x, hx, d0, d1, d2⟩
              · have D0 := cell_keep HW.out d0
                rw [CodePure.esc1_same hh] at HX hbnd
                have hjN : j < N := by simp at hbnd; omega
                obtain ⟨⟨y, HC⟩, HZ⟩ := row_cell HR.out j hjN
                have HR2 := Aside0.mk (row_set HR.out (by rw [HJ.out]; exact hjN) c)
                have HW2 : Aside0 (Below w.heap.size w (wr.setCell ⟨B, j, none⟩ (.int .u8 (c.toNat : Int)))) := ⟨HW.out.setCell hBsz _⟩
                rw [HJ.out] at HR2
                have hjj : (j : Int) < (N : Int) := by omega
                clear hh d0
                go_wp2_with fail
                go_roundw
                case rel => exact ⟨k + 1, by omega, by rw [HX.out, List.length_append, HJ.out]; rfl, by go_num, ⟨HX.out ▸ HR2.out⟩, HW2⟩
                case measure => simp [intOf]; omega
              · have D0 := cell_keep HW.out d0
                have D1 := cell_keep HW.out d1
                have D2 := cell_keep HW.out d2
                rw [hx] at HX hbnd
                have hjN : (j : Int) + 2 ≤ (N : Int) := by simp at hbnd; omega
                obtain ⟨L, g1, g2, g3⟩ := HR.out
                have HG := Aside0.mk g1
                have HG2 := Aside0.mk g2
                have HG3 := Aside0.mk g3
                clear hh d0 d1 d2 g1 g2 g3 hx
                have hBh : B < wr.heap.size := by
                  rcases Nat.lt_or_ge B wr.heap.size with h | h
                  · exact h
                  · have := HG.out
                    rw [Array.getElem?_eq_none h] at this
                    cases this
                have hj1 : (j : Int) < (N : Int) := by omega
                have hj2 : j < N := by omega
                have hj3 : j ≤ N := by omega
                have HCS := Aside0.mk (show (([92, x] : Bs).map (fun c => Value.int .u8 (c.toNat : Int))).length = Nat.min 2 (N - j) from (Nat.min_eq_left (show 2 ≤ N - j by omega)).symm)
                have hNj : ¬ N = j := by omega
                have HP : Aside0 (∀ (jj : Nat) (v : Value), (([92, x] : Bs).map (fun c => Value.int .u8 (c.toNat : Int)))[jj]? = some v → wr.cell? ((⟨a, 0, none⟩ : Addr).add jj) = some v) := ⟨fun jj v hv => by
                  match jj, hv with
                  | 0, hv => exact (Option.some.inj hv) ▸ D1
                  | 1, hv => exact (Option.some.inj hv) ▸ D2⟩
                have HF : Aside0 (j + (([92, x] : Bs).map (fun c => Value.int .u8 (c.toNat : Int))).length ≤ L.length) := ⟨by rw [HG2.out]; show j + 2 ≤ N; omega⟩
                have H1 : Aside0 (∀ v ∈ ([92, x] : Bs).map (fun c => Value.int .u8 (c.toNat : Int)), v.oneCell' = true) := ⟨by intro v hv; simp at hv; rcases hv with rfl | rfl <;> rfl⟩
                go_wp2_with fail
                go_region_law (refine step_copy_splice rfl (.tmp 105) (.tmp 111) 82 82 rfl 5 Tryz.underlying82 (by kernel_rfl) _ _ _ _ _ _ rfl rfl B j L 5 HG.out (([92, x] : Bs).map (fun c => Value.int .u8 (c.toNat : Int))) (by first | exact HCS.out | (have := HCS.out; simp at this ⊢; omega)) (fun _ => ⟨rfl, _, rfl, HP.out⟩) HF.out H1.out w.heap.size w (by first | exact HW.out | exact HW.out.drew | exact HW.out.drew.drew) hBsz ?_; intro w4 hg4 hb4)
                have HG4 : Aside0 (w4.heap[B]? = some (.cells (splice L j (([92, x] : Bs).map (fun c => Value.int .u8 (c.toNat : Int)))).toArray 5 (0, 0))) := ⟨hg4⟩
                have HW4 := Aside0.mk hb4
                have HR4 : Aside0 (Row w4 B N (out ++ [92, x])) := ⟨row_splice HG2.out HG3.out (by rw [HJ.out]; show j + 2 ≤ N; omega) (by rw [HJ.out]; exact HG4.out)⟩
                have hwr : IntKind.i64.wrap ((j : Int) + 2) = (j : Int) + 2 := by rw [IntKind.wrap_i64]; omega
                clear hg4 hb4
                go_wp2_with fail
                go_roundw
                case rel => exact ⟨k + 1, by omega, by rw [HX.out, List.length_append, HJ.out]; rfl, by go_num, ⟨HX.out ▸ HR4.out⟩, HW4⟩
                case measure => simp [intOf]; omega
            · obtain rfl : k = s.size := by omega
              clear hlt hk
              have htk : l.take s.size = l := List.take_of_length_le (by omega)
              rw [htk] at HR ⊢
              obtain ⟨L, g1, g2, g3⟩ := HR.out
              rw [HN.out, List.take_of_length_le (by omega)] at g3
              have hcv := run_convert_bytes_back (P := Tryz.prog) wr 82 9 5 ⟨B, 0, none⟩ N (esc l) Tryz.underlying82 Tryz.underlying5 Tryz.underlying9 (fun i hi => by
                have e : ((⟨B, 0, none⟩ : Addr).add i) = ⟨B, i, none⟩ := by unfold Addr.add; split <;> simp_all
                rw [e]
                simp [World.cell?, g1, g3, hi])
              rw [HN.out] at hcv
              clear htk g1 g2 g3
              go_wp2_with fail
              go_ret
              exact ⟨rfl, HW.out⟩
  · go_wp2_with fail
    go_loopw [5, 6, 10] (fun i5 i6 i10 wr => ∃ k : Nat, k ≤ s.size ∧ i5 = .int .i64 ((s.size : Int) + (hits (l.take k) : Nat)) ∧ i6 = .bool (decide (0 < hits (l.take k))) ∧ i10 = .int .i64 k ∧ Aside0 (Below w.heap.size w wr)) (fun _ _ i _ => s.size - (intOf i).toNat)
    case atStart => exact ⟨0, Nat.zero_le _, by simp [hits], by simp [hits], rfl, ⟨Below.refl _ _⟩⟩
    case round =>
      obtain ⟨k, hk, rfl, rfl, rfl, HW⟩ := hrel
      by_cases hlt : k < s.size
      · obtain ⟨c, hc⟩ : ∃ c, s[k]'hlt = c := ⟨_, rfl⟩
        have HL := HLE.out ▸ byte_at s k c hlt hc
        have HT := Aside0.mk (CodePure.hits_take HL)
        have hb1 := CodePure.hits_take_le l k
        have hb2 := CodePure.hits_le l
        have hc0 : (0 : Int) ≤ (c.toNat : Int) := by omega
        have hc1 : (c.toNat : Int) < 256 := by have := c.toNat_lt; omega
        clear HL
        obtain ⟨m, hm⟩ : ∃ m, hits (l.take k) = m := ⟨_, rfl⟩
        have HM := Aside0.mk hm
        rw [hm] at hb1 ⊢
        clear hm
        rcases bsr_at HB0.out c with ⟨hh, d0⟩ | ⟨hh, a, cp, x, hx, d0, d1, d2⟩
        · have D0 := cell_keep HW.out d0
          have HH := Aside0.mk hh
          clear hh d0
          go_wp2_with fail
          go_roundw
          case rel => exact ⟨k + 1, by omega, by rw [HT.out, HM.out, HH.out]; rfl, by rw [HT.out, HM.out, HH.out]; rfl, by go_num, HW⟩
          case measure => simp [intOf]; omega
        · have D0 := cell_keep HW.out d0
          have HH := Aside0.mk hh
          clear hh d0 d1 d2 hx
          go_wp2_with fail
          go_roundw
          case rel => exact ⟨k + 1, by omega, by rw [HT.out, HM.out, HH.out]; go_num, by rw [HT.out, HM.out, HH.out]; simp, by go_num, HW⟩
          case measure => simp [intOf]; omega
      · obtain rfl : k = s.size := by omega
        clear hlt hk
        have htk : l.take s.size = l := List.take_of_length_le (by omega)
        rw [htk]
        clear htk
        have hN : (s.size : Int) + (hits l : Nat) = ((esc l).length : Int) := by rw [CodePure.esc_len, hlen]; omega
        have hNle : (esc l).length ≤ 140737488355328 := by have := CodePure.esc_len l; have := CodePure.hits_le l; omega
        rw [hN]
        clear hN
        by_cases hh : hits l = 0
        · have hany : decide (0 < hits l) = false := by simp [hh]
          have HES : Aside0 (esc l = l) := ⟨CodePure.esc_same hh⟩
          have HSS : Aside0 (s = ⟨l.toArray⟩) := ⟨by rw [← HLE.out]⟩
          rw [hany, HES.out]
          clear hany hh
          go_wp2_with fail
          go_ret
          exact ⟨by rw [HES.out, ← HSS.out]; rfl, HW.out⟩
        · have hany : decide (0 < hits l) = true := decide_eq_true (Nat.pos_of_ne_zero hh)
          rw [hany]
          obtain ⟨N, hN⟩ : ∃ N, (esc l).length = N := ⟨_, rfl⟩
          have HN := Aside0.mk hN
          rw [hN] at hNle ⊢
          have hmk : ∀ W, (Instr.makeSlice 82 (.int .i64 (N : Int)) (.int .i64 (N : Int))).run Tryz.prog W = .ok (.slice (some ⟨W.heap.size, 0, none⟩) N N) (W.alloc (.cells (madeCells #[.int .u8 0] N) 5)) :=
            run_make_row' 82 5 (.int .u8 0) 1 Tryz.underlying82 (by kernel_rfl) rfl .i64 .i64 N (by omega) (by omega)
          clear hany hh hN
          go_wp2_with fail
          have hBsz := HW.out.size
          have HR0 : Aside0 (Row (wr.alloc (.cells (madeCells #[.int .u8 0] N) 5)) wr.heap.size N (esc (l.take 0))) := ⟨(madeCells #[.int .u8 0] N).toList, by rw [Array.toArray_toList]; exact heap_alloc_new wr _, by simp [size_madeCells], by simp [esc]⟩
          have HW0 : Aside0 (Below w.heap.size w (wr.alloc (.cells (madeCells #[.int .u8 0] N) 5))) := ⟨HW.out.alloc hBsz _⟩
          obtain ⟨B, hB⟩ : ∃ B, wr.heap.size = B := ⟨_, rfl⟩
          rw [hB] at HR0 hBsz ⊢
          clear HW hB
          go_loopw [13, 14] (fun i13 i14 wx => ∃ k : Nat, k ≤ s.size ∧ i13 = .int .i64 ((esc (l.take k)).length : Nat) ∧ i14 = .int .i64 k ∧ Aside0 (Row wx B N (esc (l.take k))) ∧ Aside0 (Below w.heap.size w wx)) (fun _ i _ => s.size - (intOf i).toNat)
          case atStart => exact ⟨0, Nat.zero_le _, rfl, rfl, HR0, HW0⟩
          case round =>
            obtain ⟨k, hk, rfl, rfl, HR, HW⟩ := hrel
            by_cases hlt : k < s.size
            · obtain ⟨c, hc⟩ : ∃ c, s[k]'hlt = c := ⟨_, rfl⟩
              have HL := HLE.out ▸ byte_at s k c hlt hc
              have HT := CodePure.esc_take HL
              have hbnd := CodePure.esc_take_len_le l (k + 1)
              rw [HT, List.length_append, HN.out] at hbnd
              have HX := Aside0.mk HT
              clear HT HL
              have hc0 : (0 : Int) ≤ (c.toNat : Int) := by omega
              have hc1 : (c.toNat : Int) < 256 := by have := c.toNat_lt; omega
              obtain ⟨out, hout⟩ : ∃ out, esc (l.take k) = out := ⟨_, rfl⟩
              rw [hout] at HR HX hbnd ⊢
              clear hout
              obtain ⟨j, hj⟩ : ∃ j, out.length = j := ⟨_, rfl⟩
              have HJ := Aside0.mk hj
              rw [hj] at hbnd ⊢
              clear hj
              rcases bsr_at HB0.out c with ⟨hh, d0⟩ | ⟨hh, a, cp, x, hx, d0, d1, d2⟩
              · have D0 := cell_keep HW.out d0
                rw [CodePure.esc1_same hh] at HX hbnd
                have hjN : j < N := by simp at hbnd; omega
                obtain ⟨⟨y, HC⟩, HZ⟩ := row_cell HR.out j hjN
                have HR2 := Aside0.mk (row_set HR.out (by rw [HJ.out]; exact hjN) c)
                have HW2 : Aside0 (Below w.heap.size w (wr.setCell ⟨B, j, none⟩ (.int .u8 (c.toNat : Int)))) := ⟨HW.out.setCell hBsz _⟩
                rw [HJ.out] at HR2
                have hjj : (j : Int) < (N : Int) := by omega
                clear hh d0
                go_wp2_with fail
                go_roundw
                case rel => exact ⟨k + 1, by omega, by rw [HX.out, List.length_append, HJ.out]; rfl, by go_num, ⟨HX.out ▸ HR2.out⟩, HW2⟩
                case measure => simp [intOf]; omega
              · have D0 := cell_keep HW.out d0
                have D1 := cell_keep HW.out d1
                have D2 := cell_keep HW.out d2
                rw [hx] at HX hbnd
                have hjN : (j : Int) + 2 ≤ (N : Int) := by simp at hbnd; omega
                obtain ⟨L, g1, g2, g3⟩ := HR.out
                have HG := Aside0.mk g1
                have HG2 := Aside0.mk g2
                have HG3 := Aside0.mk g3
                clear hh d0 d1 d2 g1 g2 g3 hx
                have hBh : B < wr.heap.size := by
                  rcases Nat.lt_or_ge B wr.heap.size with h | h
                  · exact h
                  · have := HG.out
                    rw [Array.getElem?_eq_none h] at this
                    cases this
                have hj1 : (j : Int) < (N : Int) := by omega
                have hj2 : j < N := by omega
                have hj3 : j ≤ N := by omega
                have HCS := Aside0.mk (show (([92, x] : Bs).map (fun c => Value.int .u8 (c.toNat : Int))).length = Nat.min 2 (N - j) from (Nat.min_eq_left (show 2 ≤ N - j by omega)).symm)
                have hNj : ¬ N = j := by omega
                have HP : Aside0 (∀ (jj : Nat) (v : Value), (([92, x] : Bs).map (fun c => Value.int .u8 (c.toNat : Int)))[jj]? = some v → wr.cell? ((⟨a, 0, none⟩ : Addr).add jj) = some v) := ⟨fun jj v hv => by
                  match jj, hv with
                  | 0, hv => exact (Option.some.inj hv) ▸ D1
                  | 1, hv => exact (Option.some.inj hv) ▸ D2⟩
                have HF : Aside0 (j + (([92, x] : Bs).map (fun c => Value.int .u8 (c.toNat : Int))).length ≤ L.length) := ⟨by rw [HG2.out]; show j + 2 ≤ N; omega⟩
                have H1 : Aside0 (∀ v ∈ ([92, x] : Bs).map (fun c => Value.int .u8 (c.toNat : Int)), v.oneCell' = true) := ⟨by intro v hv; simp at hv; rcases hv with rfl | rfl <;> rfl⟩
                go_wp2_with fail
                go_region_law (refine step_copy_splice rfl (.tmp 105) (.tmp 111) 82 82 rfl 5 Tryz.underlying82 (by kernel_rfl) _ _ _ _ _ _ rfl rfl B j L 5 HG.out (([92, x] : Bs).map (fun c => Value.int .u8 (c.toNat : Int))) (by first | exact HCS.out | (have := HCS.out; simp at this ⊢; omega)) (fun _ => ⟨rfl, _, rfl, HP.out⟩) HF.out H1.out w.heap.size w (by first | exact HW.out | exact HW.out.drew | exact HW.out.drew.drew) hBsz ?_; intro w4 hg4 hb4)
                have HG4 : Aside0 (w4.heap[B]? = some (.cells (splice L j (([92, x] : Bs).map (fun c => Value.int .u8 (c.toNat : Int)))).toArray 5 (0, 0))) := ⟨hg4⟩
                have HW4 := Aside0.mk hb4
                have HR4 : Aside0 (Row w4 B N (out ++ [92, x])) := ⟨row_splice HG2.out HG3.out (by rw [HJ.out]; show j + 2 ≤ N; omega) (by rw [HJ.out]; exact HG4.out)⟩
                have hwr : IntKind.i64.wrap ((j : Int) + 2) = (j : Int) + 2 := by rw [IntKind.wrap_i64]; omega
                clear hg4 hb4
                go_wp2_with fail
                go_roundw
                case rel => exact ⟨k + 1, by omega, by rw [HX.out, List.length_append, HJ.out]; rfl, by go_num, ⟨HX.out ▸ HR4.out⟩, HW4⟩
                case measure => simp [intOf]; omega
            · obtain rfl : k = s.size := by omega
              clear hlt hk
              have htk : l.take s.size = l := List.take_of_length_le (by omega)
              rw [htk] at HR ⊢
              obtain ⟨L, g1, g2, g3⟩ := HR.out
              rw [HN.out, List.take_of_length_le (by omega)] at g3
              have hcv := run_convert_bytes_back (P := Tryz.prog) wr 82 9 5 ⟨B, 0, none⟩ N (esc l) Tryz.underlying82 Tryz.underlying5 Tryz.underlying9 (fun i hi => by
                have e : ((⟨B, 0, none⟩ : Addr).add i) = ⟨B, i, none⟩ := by unfold Addr.add; split <;> simp_all
                rw [e]
                simp [World.cell?, g1, g3, hi])
              rw [HN.out] at hcv
              clear htk g1 g2 g3
              go_wp2_with fail
              go_ret
              exact ⟨rfl, HW.out⟩
end Go.Proofs.YtmgcpjgpmjhemaaGreatDoor.Pc
