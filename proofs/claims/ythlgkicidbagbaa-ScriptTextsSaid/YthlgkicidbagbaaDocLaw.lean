/- The document's digits, letters and spans: plain laws over the printed functions. -/
import Derived.Test.YthlgkicidbagbaaPwholex1
import Derived.Test.YthlgkicidbagbaaPTextx1
import Derived.Test.YthlgkicidbagbaaPSpanx2
import Derived.Test.YthlgkicidbagbaaTell
namespace Go.Proofs.Ythlgkicidbagbaa
set_option maxRecDepth 100000
open Go Go.RowKit Go.ChangeMaps Go.Lib Go.Proofs.YthlgkicidbagbaaW.PrintWords Go.Proofs.YthlgkicidbagbaaW.PrintMore
set_option linter.unusedVariables false

theorem u64_id {z : Int} (h : 0 ≤ z) (h2 : z < 18446744073709551616) : IntKind.u64.wrap z = z := by rw [IntKind.wrap_u64]; omega
theorem strOfNums_append (l m : List Int) : strOfNums (l ++ m) = strOfNums l ++ strOfNums m := by
  apply ByteArray.ext
  simp [strOfNums, ByteArray.data_append]

/-! ### Digits -/
theorem digL_acc (b : Nat) : ∀ k n acc, digL b k n acc = digL b k n [] ++ acc
  | 0, n, acc => rfl
  | k + 1, n, acc => by
    simp only [digL]
    split
    · rfl
    · rw [digL_acc b k (n / b) (dg (n % b) :: acc), digL_acc b k (n / b) [dg (n % b)]]; simp
theorem dg_extract (d : Nat) (h : d < 16) : (⟨#[48, 49, 50, 51, 52, 53, 54, 55, 56, 57, 97, 98, 99, 100, 101, 102]⟩ : ByteArray).extract d (d + 1) = strOfNums [dg d] := by
  rcases (show d = 0 ∨ d = 1 ∨ d = 2 ∨ d = 3 ∨ d = 4 ∨ d = 5 ∨ d = 6 ∨ d = 7 ∨ d = 8 ∨ d = 9 ∨ d = 10 ∨ d = 11 ∨ d = 12 ∨ d = 13 ∨ d = 14 ∨ d = 15 by omega) with rfl | rfl | rfl | rfl | rfl | rfl | rfl | rfl | rfl | rfl | rfl | rfl | rfl | rfl | rfl | rfl <;> rfl
theorem doc_digits_law (b : Nat) (hb : 2 ≤ b) (hb2 : b ≤ 16) : ∀ (k n : Nat), n < 2 ^ k → k ≤ 64 → Pwhole.mintmarkref29_digits.f (k + 1) (n : Int) (b : Int) = some (strOfNums (digL b k n []))
  | k, n, hn, hk => by
    have h1 : Int.tmod (n : Int) (b : Int) = ((n % b : Nat) : Int) := rfl
    have h2 : Int.tdiv (n : Int) (b : Int) = ((n / b : Nat) : Int) := rfl
    have hlt : n % b < b := Nat.mod_lt _ (by omega)
    have hp : 2 ^ k ≤ 18446744073709551616 := pow_le_64 hk
    have hle : n / b ≤ n := Nat.div_le_self _ _
    have h3 : IntKind.u64.wrap ((n / b : Nat) : Int) = ((n / b : Nat) : Int) := by
      have h5 : n / b < 18446744073709551616 := by omega
      generalize n / b = q at h5
      exact u64_id (by omega) (by omega)
    have h4 : IntKind.u64.wrap (((n % b : Nat) : Int) + 1) = ((n % b + 1 : Nat) : Int) := by rw [u64_id (by omega) (by omega)]; rfl
    unfold Pwhole.mintmarkref29_digits.f
    rw [h1, h2, h3, h4, if_neg (by omega), if_pos (by omega), if_pos (by omega), if_pos (by omega), Int.toNat_natCast, Int.toNat_natCast, dg_extract _ (by omega)]
    by_cases h0 : n < b
    · rw [if_pos (by omega), Nat.mod_eq_of_lt h0]
      have hz : n / b = 0 := Nat.div_eq_of_lt h0
      cases k with
      | zero => simp only [digL]; rw [Nat.mod_eq_of_lt h0]
      | succ k => simp only [digL]; rw [if_pos hz, Nat.mod_eq_of_lt h0]
    · rw [if_neg (by omega)]
      have hz : n / b ≠ 0 := by
        have := Nat.div_pos (show b ≤ n by omega) (by omega)
        omega
      cases k with
      | zero => simp at hn; omega
      | succ k =>
        have hd : n / b < 2 ^ k := by
          have : n / b ≤ n / 2 := Nat.div_le_div_left hb (by omega)
          rw [Nat.pow_succ] at hn; omega
        rw [doc_digits_law b hb hb2 k (n / b) hd (by omega)]
        simp only [Option.bind_some]
        have hl := digL_length b k (n / b) []
        rw [if_pos (by rw [strOfNums_size, strOfNums_size]; simp at hl ⊢; omega), ← strOfNums_append]
        simp only [digL]
        rw [if_neg hz, digL_acc b k (n / b) [dg (n % b)]]
theorem doc_digits (b n : Nat) (hb : 2 ≤ b) (hb2 : b ≤ 16) (hn : n < 18446744073709551616) (w : World) :
    Calls Try.prog 11 #[.int .u64 n, .int .u64 b] w (fun e w' => e = .returned (.string (digS b n)) ∧ Below w.heap.size w w') :=
  (Pwhole.mintmarkref29_digits.calls 65 n b _ w (doc_digits_law b hb hb2 64 n hn (by omega))).mono fun e w' ⟨h1, h2⟩ => ⟨h1, h2.below⟩
theorem doc_digits_16 (n : Nat) (hn : n < 18446744073709551616) (w : World) : Calls Try.prog 11 #[.int .u64 n, .int .u64 16] w (fun e w' => e = .returned (.string (digS 16 n)) ∧ Below w.heap.size w w') := doc_digits 16 n (by omega) (by omega) hn w
theorem doc_digits_10 (n : Nat) (hn : n < 18446744073709551616) (w : World) : Calls Try.prog 11 #[.int .u64 n, .int .u64 10] w (fun e w' => e = .returned (.string (digS 10 n)) ∧ Below w.heap.size w w') := doc_digits 10 n (by omega) (by omega) hn w
theorem doc_whole (z : Int) (hz : -9223372036854775808 ≤ z) (hz2 : z ≤ 9223372036854775807) (w : World) :
    Calls Try.prog 10 #[.int .i64 z] w (fun e w' => e = .returned (.string (wholeS z)) ∧ Below w.heap.size w w') := by
  refine (Pwhole.mintmarkref29_whole.calls 65 z (wholeS z) w ?_).mono fun e w' ⟨h1, h2⟩ => ⟨h1, h2.below⟩
  unfold Pwhole.mintmarkref29_whole.f wholeS
  by_cases h : z < 0
  · have e : IntKind.u64.wrap (wrap64 (-z)) = ((z.natAbs : Nat) : Int) := by rw [IntKind.wrap_u64]; unfold wrap64; omega
    rw [if_pos h, if_pos h, e, show (10 : Int) = ((10 : Nat) : Int) from rfl, doc_digits_law 10 (by omega) (by omega) 64 z.natAbs (by omega) (by omega)]
    simp only [Option.bind_some]
    have hs : (strOfNums (digL 10 64 z.natAbs [])).size ≤ 65 := by rw [strOfNums_size]; have := digL_length 10 64 z.natAbs []; simp at this; omega
    rw [if_pos (by omega)]; rfl
  · have e : IntKind.u64.wrap z = ((z.natAbs : Nat) : Int) := by rw [IntKind.wrap_u64]; omega
    rw [if_neg h, if_neg h, e, show (10 : Int) = ((10 : Nat) : Int) from rfl, doc_digits_law 10 (by omega) (by omega) 64 z.natAbs (by omega) (by omega)]
    rfl

/-! ### Letters -/
theorem letter_extract (d : Nat) (h : d < 9) : (⟨#[114, 119, 120, 82, 87, 115, 117, 83, 103]⟩ : ByteArray).extract d (d + 1) = strOfNums [letterOf d] := by
  rcases (show d = 0 ∨ d = 1 ∨ d = 2 ∨ d = 3 ∨ d = 4 ∨ d = 5 ∨ d = 6 ∨ d = 7 ∨ d = 8 by omega) with rfl | rfl | rfl | rfl | rfl | rfl | rfl | rfl | rfl <;> rfl
theorem doc_perm_law (p : Nat) (hp : p < 18446744073709551616) : ∀ (k i : Nat) (acc : List Int), i + k = 9 → acc.length ≤ i → PText.mintmarkref04_Text.l0 (k + 1) (p : Int) (strOfNums acc) (i : Int) = some (strOfNums (permL p k i acc))
  | 0, i, acc, hi, ha => by
    unfold PText.mintmarkref04_Text.l0
    rw [if_neg (by omega)]
    simp only [permL]
    by_cases h : 511 < p
    · rw [if_pos (by omega), if_pos (by rw [strOfNums_size]; omega), if_pos h, strOfNums_append]; rfl
    · rw [if_neg (by omega), if_neg h]
  | k + 1, i, acc, hi, ha => by
    have e0 : IntKind.u64.wrap (i : Int) = (i : Int) := u64_id (by omega) (by omega)
    have e1 : Go.bits .and .u64 (shr .u64 (p : Int) (i : Int)) 1 = ((p / 2 ^ i % 2 : Nat) : Int) := by
      have e2 : shr .u64 (p : Int) (i : Int) = ((p / 2 ^ i : Nat) : Int) := by
        unfold shr; rw [Nat.min_eq_left (by show i ≤ 64; omega)]; simp
      rw [e2, show (1 : Int) = ((2 ^ 1 - 1 : Nat) : Int) from rfl, u64_mask _ _ (Nat.lt_of_le_of_lt (Nat.div_le_self _ _) hp) (by omega)]
    have e3 : wrap64 ((i : Int) + 1) = ((i + 1 : Nat) : Int) := by unfold wrap64; omega
    rw [PText.mintmarkref04_Text.l0]
    rw [if_pos (by omega), e0, if_pos (by omega), e1, e3]
    simp only [permL]
    by_cases h : p / 2 ^ i % 2 = 0
    · rw [if_neg (by rw [h]; decide), if_pos h]
      exact doc_perm_law p hp k (i + 1) acc (by omega) (by omega)
    · have h' : p / 2 ^ i % 2 = 1 := by omega
      rw [if_pos (by rw [h']; rfl), if_neg h, if_pos (by omega), if_pos (by omega), if_pos (by omega), Int.toNat_natCast, Int.toNat_natCast, letter_extract i (by omega), if_pos (by rw [strOfNums_size, strOfNums_size]; simp; omega), ← strOfNums_append]
      exact doc_perm_law p hp k (i + 1) (acc ++ [letterOf i]) (by omega) (by simp; omega)
theorem doc_perm (p : Nat) (hp : p < 18446744073709551616) (w : World) :
    Calls Try.prog 25 #[.int .u64 p] w (fun e w' => e = .returned (.string (permS p)) ∧ Below w.heap.size w w') :=
  (PText.mintmarkref04_Text.calls 10 p _ w (doc_perm_law p hp 9 0 [] (by omega) (by simp))).mono fun e w' ⟨h1, h2⟩ => ⟨h1, h2.below⟩

/-! ### Spans -/
theorem shr_nat (n k : Nat) (hk : k ≤ 64) : shr .u64 (n : Int) (k : Int) = ((n / 2 ^ k : Nat) : Int) := by
  unfold shr; rw [Nat.min_eq_left (by show k ≤ 64; exact hk)]; simp
theorem doc_decode_law (B T E a : Nat) (hB : B < 16384) (hT : T < 4096) (hE : E < 64) (ha : a < 18446744073709551616) :
    PSpan.mintmarkref03_Decode.f 3 (B : Int) (T : Int) (E : Int) (a : Int) = some ((((decodeOf B T E a).getD (0, 0)).1 : Int), (((decodeOf B T E a).getD (0, 0)).2 : Int), (decodeOf B T E a).isSome) := by
  unfold PSpan.mintmarkref03_Decode.f
  rw [if_neg (by omega), if_neg (by omega)]
  by_cases h1 : 37 < E
  · rw [if_pos (by omega), PSpan.mintmarkref03_Decode.j0, if_pos rfl]
    unfold decodeOf; rw [if_pos (.inl h1)]; rfl
  rw [if_neg (by omega)]
  by_cases h2 : 281474976710656 ≤ a
  · rw [show decide ((a : Int) ≥ 281474976710656) = true by simp; omega, PSpan.mintmarkref03_Decode.j0, if_pos rfl]
    unfold decodeOf; rw [if_pos (.inr h2)]; rfl
  rw [show decide ((a : Int) ≥ 281474976710656) = false by simp; omega, PSpan.mintmarkref03_Decode.j0, if_neg (by decide)]
  have ex : PSpan.mintmarkref03_exponent.f (E : Int) = some ((E - 1 : Nat) : Int) := by
    unfold PSpan.mintmarkref03_exponent.f
    by_cases h0 : E = 0
    · subst h0; rfl
    · rw [if_neg (by omega), u64_id (by omega) (by omega)]; congr 1; omega
  rw [ex]
  simp only [Option.bind_some]
  have p1 : IntKind.u64.wrap ((T : Int) + 16384) = ((T + 16384 : Nat) : Int) := by rw [u64_id (by omega) (by omega)]; rfl
  have p2 : IntKind.u64.wrap (((T + 16384 : Nat) : Int) - B) = ((T + 16384 - B : Nat) : Int) := by rw [u64_id (by omega) (by omega)]; omega
  have p3 : Int.tmod ((T + 16384 - B : Nat) : Int) 4096 = (((T + 16384 - B) % 4096 : Nat) : Int) := rfl
  have p4 : IntKind.u64.wrap ((((T + 16384 - B) % 4096 : Nat) : Int) + 4096) = (((T + 16384 - B) % 4096 + 4096 : Nat) : Int) := by rw [u64_id (by omega) (by omega)]; rfl
  rw [p1, p2, p3, p4]
  have key : ∀ n : Nat, n < 8192 → n = (T + 16384 - B) % 4096 + (if 0 < E then 4096 else 0) → PSpan.mintmarkref03_Decode.j1 2 (a : Int) ((E - 1 : Nat) : Int) (n : Int) B T E = some ((((decodeOf B T E a).getD (0, 0)).1 : Int), (((decodeOf B T E a).getD (0, 0)).2 : Int), (decodeOf B T E a).isSome) := by
    intro n hn8 hn
    unfold decodeOf
    rw [if_neg (by omega), ← hn]
    clear hn p1 p2 p3 p4 ex
    have hx : E - 1 ≤ 64 := by omega
    have hx36 : E - 1 ≤ 36 := by omega
    generalize E - 1 = x at *
    rw [PSpan.mintmarkref03_Decode.j1, if_pos (by omega), shr_nat a x hx, show (281474976710656 : Int) = ((281474976710656 : Nat) : Int) from rfl, shr_nat _ x hx]
    have hs : a / 2 ^ x ≤ a := Nat.div_le_self _ _
    have hq : 281474976710656 / 2 ^ x * 2 ^ x ≤ 281474976710656 := Nat.div_mul_le_self _ _
    have hq2 : 281474976710656 / 2 ^ x ≤ 281474976710656 := Nat.div_le_self _ _
    generalize a / 2 ^ x = s at *
    generalize hQ : 281474976710656 / 2 ^ x = q at *
    have q1 : IntKind.u64.wrap ((s : Int) + 16384) = ((s + 16384 : Nat) : Int) := by rw [u64_id (by omega) (by omega)]; rfl
    have q2 : IntKind.u64.wrap (((s + 16384 : Nat) : Int) - B) = ((s + 16384 - B : Nat) : Int) := by rw [u64_id (by omega) (by omega)]; omega
    have q3 : IntKind.u64.wrap (((s + 16384 - B : Nat) : Int) + 4096) = ((s + 16384 - B + 4096 : Nat) : Int) := by rw [u64_id (by omega) (by omega)]; rfl
    have q4 : Int.tmod ((s + 16384 - B + 4096 : Nat) : Int) 16384 = (((s + 16384 - B + 4096) % 16384 : Nat) : Int) := rfl
    have q5 : IntKind.u64.wrap ((s : Int) + 4096) = ((s + 4096 : Nat) : Int) := by rw [u64_id (by omega) (by omega)]; rfl
    rw [q1, q2, q3, q4, q5]
    clear q1 q2 q3 q4 q5
    have hd : (s + 16384 - B + 4096) % 16384 < 16384 := Nat.mod_lt _ (by omega)
    generalize (s + 16384 - B + 4096) % 16384 = d at *
    by_cases c1 : s + 4096 < d
    · rw [if_pos (by omega), if_pos c1]; rfl
    rw [if_neg (by omega), if_neg c1]
    have r1 : IntKind.u64.wrap (((s + 4096 : Nat) : Int) - d) = ((s + 4096 - d : Nat) : Int) := by rw [u64_id (by omega) (by omega)]; omega
    have r2 : IntKind.u64.wrap (((s + 4096 - d : Nat) : Int) + n) = ((s + 4096 - d + n : Nat) : Int) := by rw [u64_id (by omega) (by omega)]; rfl
    rw [r1, r2]
    by_cases c2 : q < s + 4096 - d + n
    · rw [if_pos (by omega), if_pos c2]; rfl
    rw [if_neg (by omega), if_neg c2]
    have sh : ∀ v : Nat, v ≤ q → shl .u64 (v : Int) (x : Int) = ((v * 2 ^ x : Nat) : Int) := fun v hv => by
      have : v * 2 ^ x ≤ q * 2 ^ x := Nat.mul_le_mul_right _ hv
      unfold shl; rw [Nat.min_eq_left (by rw [Int.toNat_natCast]; exact hx), Int.toNat_natCast]
      have e : (v : Int) * 2 ^ x = ((v * 2 ^ x : Nat) : Int) := by push_cast; rfl
      rw [e]
      generalize v * 2 ^ x = r at *
      exact u64_id (by omega) (by omega)
    rw [sh _ (by omega), sh _ (by omega)]
    rfl
  by_cases h0 : 0 < E
  · rw [if_pos (by omega)]; exact key _ (by omega) (by rw [if_pos h0])
  · rw [if_neg (by omega)]; exact key _ (by omega) (by rw [if_neg h0]; rfl)
end Go.Proofs.Ythlgkicidbagbaa
