/-
Plain facts on the lines of instructions: numerals, escaped texts, names. No program in sight.
-/
import Derived.Lib.ItoaNum
import Derived.Lib.AtoiAll
import Derived.Lib.IndexMore
import Derived.Lib.Strings
namespace Go.Proofs.YtmgcpjgpmjhemaaGreatDoor.CodePure
open Go.Lib (NumEnd parseUint10 parseMag atoiAll decDigits itoa)

abbrev Bs := List UInt8

/-! ### numerals -/
theorem parse_append (l r : Bs) : ∀ acc, parseUint10 acc (l ++ r) = match parseUint10 acc l with
    | .ok v => parseUint10 v r
    | Go.Lib.NumEnd.syntax => Go.Lib.NumEnd.syntax
    | .range => .range := by
  induction l with
  | nil => intro acc; rfl
  | cons c l ih =>
    intro acc
    simp only [List.cons_append, parseUint10]
    split
    · split
      · rfl
      · split
        · rfl
        · exact ih _
    · rfl

theorem digit_nat (d : Nat) (h : d < 10) : (UInt8.ofNat (48 + d)).toNat = 48 + d := by
  rw [UInt8.toNat_ofNat']
  omega

theorem parse_digit (acc d : Nat) (h : d < 10) (hb : acc * 10 + d < 18446744073709551616) : parseUint10 acc [UInt8.ofNat (48 + d)] = .ok (acc * 10 + d) := by
  simp only [parseUint10]
  rw [digit_nat d h]
  rw [if_pos (by omega), if_neg (by omega), if_neg (by omega)]
  congr 1
  omega

theorem parse_dec (u : Nat) : u < 18446744073709551616 → parseUint10 0 (decDigits u) = .ok u := by
  induction u using Nat.strongRecOn with
  | _ u ih =>
    intro hu
    rw [decDigits]
    split
    · rename_i h
      have := parse_digit 0 u h (by omega)
      simpa using this
    · rename_i h
      rw [parse_append, ih (u / 10) (by omega) (by omega)]
      simp only
      rw [parse_digit _ _ (by omega) (by omega)]
      congr 1
      omega

theorem dec_head (u : Nat) : ∃ c r, decDigits u = c :: r ∧ 48 ≤ c.toNat ∧ c.toNat ≤ 57 := by
  induction u using Nat.strongRecOn with
  | _ u ih =>
    rw [decDigits]
    split
    · rename_i h
      exact ⟨_, [], rfl, by rw [digit_nat u h]; omega, by rw [digit_nat u h]; omega⟩
    · rename_i h
      obtain ⟨c, r, e, h1, h2⟩ := ih (u / 10) (by omega)
      exact ⟨c, r ++ [UInt8.ofNat (48 + u % 10)], by rw [e]; rfl, h1, h2⟩

theorem atoi_itoa (n : Int) (h0 : -9223372036854775808 ≤ n) (h1 : n ≤ 9223372036854775807) : atoiAll (itoa n) = .ok n := by
  unfold itoa
  by_cases hn : n < 0
  · rw [if_pos hn]
    obtain ⟨c, r, e, _, _⟩ := dec_head n.natAbs
    have hp : parseMag (decDigits n.natAbs) = .ok n.natAbs := by
      unfold parseMag
      rw [if_neg (by rw [e]; simp), parse_dec _ (by omega)]
    have e45 : (45 : UInt8).toNat = 45 := rfl
    simp only [atoiAll, e45]
    rw [if_pos (Or.inr trivial), hp]
    simp only
    rw [if_neg (by intro h; exact h.1 trivial), if_neg (by intro h; omega), if_pos trivial]
    congr 1
    omega
  · rw [if_neg hn]
    obtain ⟨c, r, e, k1, k2⟩ := dec_head n.toNat
    have hp : parseMag (decDigits n.toNat) = .ok n.toNat := by
      unfold parseMag
      rw [if_neg (by rw [e]; simp), parse_dec _ (by omega)]
    rw [e] at hp ⊢
    simp only [atoiAll]
    rw [if_neg (by omega), hp]
    simp only
    rw [if_neg (by intro h; omega), if_neg (by intro h; omega), if_neg (by omega)]
    congr 1
    omega

/-- The number that is written just so. -/
def figs (s : Bs) : Option Int := match atoiAll s with
  | .ok v => if itoa v = s then some v else none
  | Go.Lib.NumEnd.syntax => none
  | .range => none

theorem figs_itoa (n : Int) (h0 : -9223372036854775808 ≤ n) (h1 : n ≤ 9223372036854775807) : figs (itoa n) = some n := by
  unfold figs
  rw [atoi_itoa n h0 h1]
  simp

theorem figs_some {s : Bs} {n : Int} (h : figs s = some n) : itoa n = s := by
  unfold figs at h
  split at h
  · split at h
    · rename_i e
      injection h with h
      subst h
      exact e
    · cases h
  · cases h
  · cases h

theorem itoa_ne (n : Int) : itoa n ≠ [] := by
  unfold itoa
  split
  · simp
  · obtain ⟨c, r, e, _⟩ := dec_head n.toNat
    rw [e]
    simp

theorem figs_nil : figs [] = none := rfl

/-! ### escaped texts -/
def esc1 (c : UInt8) : Bs := if c = 34 then [92, 34] else if c = 92 then [92, 92] else if c = 10 then [92, 110] else [c]
def esc (s : Bs) : Bs := s.flatMap esc1
def unescF : Bool → Bs → Option Bs
  | false, [] => some []
  | true, [] => none
  | false, c :: r => if c = 34 then none else if c = 10 then none else if c = 92 then unescF true r else (unescF false r).map (c :: ·)
  | true, d :: r => if d = 34 then (unescF false r).map (34 :: ·) else if d = 92 then (unescF false r).map (92 :: ·) else if d = 110 then (unescF false r).map (10 :: ·) else none
def unesc (t : Bs) : Option Bs := unescF false t

theorem unesc_esc (s : Bs) : unesc (esc s) = some s := by
  unfold unesc
  induction s with
  | nil => rfl
  | cons c s ih =>
    have e : esc (c :: s) = esc1 c ++ esc s := rfl
    rw [e]
    unfold esc1
    by_cases h1 : c = 34
    · subst h1; simp [unescF, ih]
    · by_cases h2 : c = 92
      · subst h2; simp [unescF, ih]
      · by_cases h3 : c = 10
        · subst h3; simp [unescF, ih]
        · rw [if_neg h1, if_neg h2, if_neg h3, List.singleton_append, unescF, if_neg h1, if_neg h3, if_neg h2, ih]
          rfl

theorem esc_unescF (t : Bs) : ∀ s : Bs, (unescF false t = some s → esc s = t) ∧ (unescF true t = some s → esc s = 92 :: t) := by
  induction t with
  | nil =>
    intro s
    refine ⟨fun h => ?_, fun h => ?_⟩
    · simp only [unescF, Option.some.injEq] at h; subst h; rfl
    · simp [unescF] at h
  | cons c r ih =>
    intro s
    refine ⟨fun h => ?_, fun h => ?_⟩
    · rw [unescF] at h
      split at h
      · cases h
      · split at h
        · cases h
        · split at h
          · rename_i e
            subst e
            exact (ih s).2 h
          · rename_i h34 h10 h92
            obtain ⟨s', hs, rfl⟩ := Option.map_eq_some_iff.1 h
            have := (ih s').1 hs
            show esc1 c ++ esc s' = _
            rw [this, esc1, if_neg h34, if_neg h92, if_neg h10]
            rfl
    · rw [unescF] at h
      split at h
      · rename_i e
        subst e
        obtain ⟨s', hs, rfl⟩ := Option.map_eq_some_iff.1 h
        show esc1 34 ++ esc s' = _
        rw [(ih s').1 hs]; rfl
      · split at h
        · rename_i e
          subst e
          obtain ⟨s', hs, rfl⟩ := Option.map_eq_some_iff.1 h
          show esc1 92 ++ esc s' = _
          rw [(ih s').1 hs]; rfl
        · split at h
          · rename_i e
            subst e
            obtain ⟨s', hs, rfl⟩ := Option.map_eq_some_iff.1 h
            show esc1 10 ++ esc s' = _
            rw [(ih s').1 hs]; rfl
          · cases h

theorem esc_unesc {t s : Bs} (h : unesc t = some s) : esc s = t := (esc_unescF t s).1 h

theorem esc_no10 (s : Bs) : ∀ c ∈ esc s, c ≠ 10 := by
  intro c hc
  simp only [esc, List.mem_flatMap] at hc
  obtain ⟨d, _, hd⟩ := hc
  unfold esc1 at hd
  split at hd
  · simp at hd; rcases hd with rfl | rfl <;> decide
  · split at hd
    · simp at hd; rcases hd with rfl | rfl <;> decide
    · split at hd
      · simp at hd; rcases hd with rfl | rfl <;> decide
      · simp at hd; subst hd; assumption

theorem esc_length (s : Bs) : (esc s).length ≤ 2 * s.length := by
  induction s with
  | nil => simp [esc]
  | cons c s ih =>
    have e : esc (c :: s) = esc1 c ++ esc s := rfl
    rw [e, List.length_append, List.length_cons]
    have : (esc1 c).length ≤ 2 := by unfold esc1; split <;> (try split) <;> (try split) <;> simp
    omega

theorem dec_no10 (u : Nat) : ∀ c ∈ decDigits u, 48 ≤ c.toNat ∧ c.toNat ≤ 57 := by
  induction u using Nat.strongRecOn with
  | _ u ih =>
    intro c hc
    rw [decDigits] at hc
    split at hc
    · rename_i h
      rw [List.mem_singleton] at hc; subst hc; rw [digit_nat u h]; omega
    · rename_i h
      rw [List.mem_append] at hc
      rcases hc with hc | hc
      · exact ih (u / 10) (by omega) c hc
      · rw [List.mem_singleton] at hc; subst hc; rw [digit_nat (u % 10) (by omega)]; omega

theorem itoa_bytes (n : Int) : ∀ c ∈ itoa n, c = 45 ∨ (48 ≤ c.toNat ∧ c.toNat ≤ 57) := by
  intro c hc
  unfold itoa at hc
  split at hc
  · rw [List.mem_cons] at hc
    rcases hc with rfl | hc
    · exact .inl rfl
    · exact .inr (dec_no10 _ c hc)
  · exact .inr (dec_no10 _ c hc)

theorem itoa_no (n : Int) (b : UInt8) (hb : b = 10 ∨ b = 32) : ∀ c ∈ itoa n, c ≠ b := by
  intro c hc e
  subst e
  rcases itoa_bytes n c hc with h | h
  · subst h; rcases hb with h | h <;> exact absurd h (by decide)
  · rcases hb with rfl | rfl <;> exact absurd h.1 (by decide)
theorem un_bad {c : UInt8} {r : Bs} {f : Bs → Bs} {res : Option Bs} (h : (unescF false (c :: r)).map f = res) (hc : c = 34 ∨ c = 10) : res = none := by
  rcases hc with rfl | rfl <;> (subst h; rfl)
theorem un_plain {c : UInt8} {r out : Bs} {res : Option Bs} (h : (unescF false (c :: r)).map (out ++ ·) = res) (h1 : c ≠ 34) (h2 : c ≠ 10) (h3 : c ≠ 92) : (unescF false r).map ((out ++ [c]) ++ ·) = res := by
  subst h
  rw [unescF, if_neg h1, if_neg h2, if_neg h3, Option.map_map]
  congr 1
  funext x
  simp
theorem un_end {f : Bs → Bs} {res : Option Bs} (h : (unescF false [92]).map f = res) : res = none := by subst h; rfl
theorem un_escbad {d : UInt8} {r : Bs} {f : Bs → Bs} {res : Option Bs} (h : (unescF false (92 :: d :: r)).map f = res) (h1 : d ≠ 34) (h2 : d ≠ 92) (h3 : d ≠ 110) : res = none := by
  subst h
  rw [unescF, if_neg (by decide), if_neg (by decide), if_pos rfl, unescF, if_neg h1, if_neg h2, if_neg h3]
  rfl
theorem un_esc {d : UInt8} {r out : Bs} {res : Option Bs} (h : (unescF false (92 :: d :: r)).map (out ++ ·) = res) (hd : d = 34 ∨ d = 92) : (unescF false r).map ((out ++ [d]) ++ ·) = res := by
  subst h
  rw [unescF, if_neg (by decide), if_neg (by decide), if_pos rfl, unescF]
  rcases hd with rfl | rfl
  · rw [if_pos rfl, Option.map_map]; congr 1; funext x; simp
  · rw [if_neg (by decide), if_pos rfl, Option.map_map]; congr 1; funext x; simp
theorem un_escn {r out : Bs} {res : Option Bs} (h : (unescF false (92 :: 110 :: r)).map (out ++ ·) = res) : (unescF false r).map ((out ++ [10]) ++ ·) = res := by
  subst h
  rw [unescF, if_neg (by decide), if_neg (by decide), if_pos rfl, unescF, if_neg (by decide), if_neg (by decide), if_pos rfl, Option.map_map]
  congr 1; funext x; simp
end Go.Proofs.YtmgcpjgpmjhemaaGreatDoor.CodePure
