/- A number's digits, a whole number's text, the letters of permissions: what the printed functions tell. -/
import Derived.Test.YthlgkicidbagbaaPScriptTextsx1
import Derived.Test.YthlgkicidbagbaaField
namespace Go.Proofs.Ythlgkicidbagbaa
set_option maxRecDepth 100000
open Go Go.RowKit Go.ChangeMaps Go.Lib Go.Proofs.YthlgkicidbagbaaW.PrintWords Go.Proofs.YthlgkicidbagbaaW.PrintMore
set_option linter.unusedVariables false

/-- A digit's sign. -/
def dg (d : Nat) : Int := if d < 10 then 48 + d else 87 + d
/-- A number's digits ahead of others. -/
def digL (b : Nat) : Nat → Nat → List Int → List Int
  | 0, n, acc => dg (n % b) :: acc
  | k + 1, n, acc => if n / b = 0 then dg (n % b) :: acc else digL b k (n / b) (dg (n % b) :: acc)
def digS (b n : Nat) : ByteArray := strOfNums (digL b 64 n [])

theorem bt_dg (d : Nat) (h : d < 16) : bt (⟨#[48, 49, 50, 51, 52, 53, 54, 55, 56, 57, 97, 98, 99, 100, 101, 102]⟩ : ByteArray) (d : Int) = dg d := by
  rcases (show d = 0 ∨ d = 1 ∨ d = 2 ∨ d = 3 ∨ d = 4 ∨ d = 5 ∨ d = 6 ∨ d = 7 ∨ d = 8 ∨ d = 9 ∨ d = 10 ∨ d = 11 ∨ d = 12 ∨ d = 13 ∨ d = 14 ∨ d = 15 by omega) with rfl | rfl | rfl | rfl | rfl | rfl | rfl | rfl | rfl | rfl | rfl | rfl | rfl | rfl | rfl | rfl <;> rfl

theorem digits_law (b : Nat) (hb : 2 ≤ b) (hb2 : b ≤ 16) : ∀ (k n : Nat) (acc : List Int), n < 2 ^ k → k ≤ 64 → acc.length + k < 1000 → PScriptTexts.script_digits.l0 (k + 1) (n : Int) (b : Int) acc = some (strOfNums (digL b k n acc))
  | k, n, acc, hn, hk, ha => by
    have h1 : Int.tmod (n : Int) (b : Int) = ((n % b : Nat) : Int) := rfl
    have h2 : Int.tdiv (n : Int) (b : Int) = ((n / b : Nat) : Int) := rfl
    have hlt : n % b < b := Nat.mod_lt _ (by omega)
    have hp : 2 ^ k ≤ 18446744073709551616 := pow_le_64 hk
    have hle : n / b ≤ n := Nat.div_le_self _ _
    have h3 : IntKind.u64.wrap ((n / b : Nat) : Int) = ((n / b : Nat) : Int) := by
      have h5 : n / b < 18446744073709551616 := by omega
      generalize n / b = q at h5
      rw [IntKind.wrap_u64]; omega
    unfold PScriptTexts.script_digits.l0
    rw [if_neg (by omega), h1, h2, h3, if_pos (by omega), if_pos (by omega), bt_dg _ (by omega)]
    simp only [Option.bind_some, List.length_cons, List.length_nil, List.cons_append, List.nil_append]
    rw [if_pos (by omega)]
    by_cases h0 : n / b = 0
    · rw [if_pos (by rw [h0]; rfl)]
      cases k with
      | zero => rfl
      | succ k => simp only [digL]; rw [if_pos h0]
    · rw [if_neg (by omega)]
      cases k with
      | zero => simp at hn; subst hn; simp at h0
      | succ k =>
        have hd : n / b < 2 ^ k := by
          have : n / b ≤ n / 2 := Nat.div_le_div_left hb (by omega)
          rw [Nat.pow_succ] at hn; omega
        simp only [digL]; rw [if_neg h0]
        exact digits_law b hb hb2 k (n / b) (dg (n % b) :: acc) hd (by omega) (by simp; omega)

theorem digits_any (b n : Nat) (hb : 2 ≤ b) (hb2 : b ≤ 16) (hn : n < 18446744073709551616) (w : World) :
    Calls Try.prog 15 #[.int .u64 n, .int .u64 b] w (fun e w' => e = .returned (.string (digS b n)) ∧ Below w.heap.size w w') :=
  PScriptTexts.script_digits.calls 65 n b _ w (digits_law b hb hb2 64 n [] hn (by omega) (by simp))

theorem digL_length (b : Nat) : ∀ k n acc, (digL b k n acc).length ≤ acc.length + k + 1
  | 0, n, acc => by simp [digL]
  | k + 1, n, acc => by
    simp only [digL]
    split
    · simp
    · have := digL_length b k (n / b) (dg (n % b) :: acc); simp at this; omega

/-- A whole number's text. -/
def wholeS (z : Int) : ByteArray := if z < 0 then (⟨#[45]⟩ : ByteArray) ++ digS 10 z.natAbs else digS 10 z.natAbs
theorem whole_any (z : Int) (hz : -9223372036854775808 ≤ z) (hz2 : z ≤ 9223372036854775807) (w : World) :
    Calls Try.prog 14 #[.int .i64 z] w (fun e w' => e = .returned (.string (wholeS z)) ∧ Below w.heap.size w w') := by
  refine PScriptTexts.script_whole.calls 65 z _ w ?_
  unfold PScriptTexts.script_whole.f PScriptTexts.script_digits.f wholeS
  by_cases h : z < 0
  · have e : IntKind.u64.wrap (-(IntKind.u64.wrap z)) = ((z.natAbs : Nat) : Int) := by rw [IntKind.wrap_u64, IntKind.wrap_u64]; omega
    rw [if_pos h, if_pos h, e, show (10 : Int) = ((10 : Nat) : Int) from rfl, digits_law 10 (by omega) (by omega) 64 z.natAbs [] (by omega) (by omega) (by simp)]
    simp only [Option.bind_some]
    have hs : (strOfNums (digL 10 64 z.natAbs [])).size ≤ 65 := by rw [strOfNums_size]; have := digL_length 10 64 z.natAbs []; simp at this; omega
    rw [if_pos (by omega)]; rfl
  · have e : IntKind.u64.wrap z = ((z.natAbs : Nat) : Int) := by rw [IntKind.wrap_u64]; omega
    rw [if_neg h, if_neg h, e, show (10 : Int) = ((10 : Nat) : Int) from rfl, digits_law 10 (by omega) (by omega) 64 z.natAbs [] (by omega) (by omega) (by simp)]
    rfl

/-- The letters of permissions. -/
def letterOf : Nat → Int
  | 0 => 114 | 1 => 119 | 2 => 120 | 3 => 82 | 4 => 87 | 5 => 115 | 6 => 117 | 7 => 83 | _ => 103
def permL (p : Nat) : Nat → Nat → List Int → List Int
  | 0, _, acc => if 511 < p then acc ++ [43] else acc
  | k + 1, i, acc => if p / 2 ^ i % 2 = 0 then permL p k (i + 1) acc else permL p k (i + 1) (acc ++ [letterOf i])
def permS (p : Nat) : ByteArray := strOfNums (permL p 9 0 [])
theorem bt_letter (d : Nat) (h : d < 9) : bt (⟨#[114, 119, 120, 82, 87, 115, 117, 83, 103]⟩ : ByteArray) (d : Int) = letterOf d := by
  rcases (show d = 0 ∨ d = 1 ∨ d = 2 ∨ d = 3 ∨ d = 4 ∨ d = 5 ∨ d = 6 ∨ d = 7 ∨ d = 8 by omega) with rfl | rfl | rfl | rfl | rfl | rfl | rfl | rfl | rfl <;> rfl
theorem perm_law (p : Nat) (hp : p < 18446744073709551616) : ∀ (k i : Nat) (acc : List Int), i + k = 9 → acc.length ≤ i → PScriptTexts.perm_Text.l0 (k + 1) (p : Int) acc (i : Int) = some (strOfNums (permL p k i acc))
  | 0, i, acc, hi, ha => by
    unfold PScriptTexts.perm_Text.l0
    rw [if_neg (by omega)]
    simp only [permL]
    by_cases h : 511 < p
    · rw [if_pos (by omega), if_pos (by omega), if_pos h]
    · rw [if_neg (by omega), if_neg h]
  | k + 1, i, acc, hi, ha => by
    have e1 : Go.bits .and .u64 (shr .u64 (p : Int) (i : Int)) 1 = ((p / 2 ^ i % 2 : Nat) : Int) := by
      have e2 : shr .u64 (p : Int) (i : Int) = ((p / 2 ^ i : Nat) : Int) := by
        unfold shr; rw [Nat.min_eq_left (by show i ≤ 64; omega)]; simp
      rw [e2, show (1 : Int) = ((2 ^ 1 - 1 : Nat) : Int) from rfl, u64_mask _ _ (Nat.lt_of_le_of_lt (Nat.div_le_self _ _) hp) (by omega)]
    have e3 : wrap64 ((i : Int) + 1) = ((i + 1 : Nat) : Int) := by unfold wrap64; omega
    rw [PScriptTexts.perm_Text.l0]
    rw [if_pos (by omega), if_pos (by omega), e1, e3]
    simp only [permL]
    by_cases h : p / 2 ^ i % 2 = 0
    · rw [if_pos (by rw [h]; rfl), if_pos h]
      exact perm_law p hp k (i + 1) acc (by omega) (by omega)
    · rw [if_neg (by omega), if_neg h, if_pos (by omega), bt_letter i (by omega)]
      exact perm_law p hp k (i + 1) (acc ++ [letterOf i]) (by omega) (by simp; omega)
theorem perm_any (p : Nat) (hp : p < 18446744073709551616) (w : World) :
    Calls Try.prog 30 #[.int .u64 p] w (fun e w' => e = .returned (.string (permS p)) ∧ Below w.heap.size w w') :=
  PScriptTexts.perm_Text.calls 10 p _ w (perm_law p hp 9 0 [] (by omega) (by simp))
end Go.Proofs.Ythlgkicidbagbaa
