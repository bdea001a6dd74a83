/- An event's line: a contract. -/
import Derived.Test.YthlgkicidbagbaaTell
import Derived.Test.YthlgkicidbagbaaName
import Derived.Test.YthlgkicidbagbaaShelf
import Derived.Deep.AppendLies
import Derived.Deep.RegionHeld3
namespace Go.Proofs.Ythlgkicidbagbaa
set_option maxRecDepth 100000
open Go Go.RowKit Go.ChangeMaps Go.Lib
set_option linter.unusedVariables false

/-- An event's line's parts. -/
def partsS (pr ki pc op co : Int) (t : Bool) (m a : Nat) : List ByteArray :=
  [(⟨#[112]⟩ : ByteArray) ++ wholeS pr, digS 16 pc.toNat] ++
    (if ki = 0 then [nameS op, tellS t m a] else if ki = 1 then [⟨#[99, 97, 108, 108]⟩, wholeS op, wholeS co, tellS t m a] else if ki = 2 then [⟨#[101, 110, 100]⟩, wholeS co] else if ki = 3 then [⟨#[107, 105, 108, 108]⟩, wholeS co] else [⟨#[63]⟩])
def textS (pr ki pc op co : Int) (t : Bool) (m a : Nat) : ByteArray := (⟨(Lib.join ((partsS pr ki pc op co t m a).map (·.data.toList)) [32]).toArray⟩ : ByteArray) ++ ⟨#[10]⟩

/-- A line's parts are not long. -/
def Fits (xs : List ByteArray) : Prop := xs.length ≤ 6 ∧ ∀ x ∈ xs, x.size ≤ 250
theorem join_len : ∀ (xs : List (List UInt8)), (∀ x ∈ xs, x.length ≤ 250) → (Lib.join xs [32]).length ≤ 251 * xs.length
  | [], _ => by simp [Lib.join]
  | [x], h => by have := h x (by simp); simp [Lib.join]; omega
  | x :: y :: r, h => by
    have h1 := h x (by simp)
    have h2 := join_len (y :: r) (fun z hz => h z (by simp at hz ⊢; right; exact hz))
    have e : Lib.join (x :: y :: r) [32] = x ++ [32] ++ Lib.join (y :: r) [32] := by simp [Lib.join, List.intercalate, List.intersperse]
    rw [e]; simp at h2 ⊢; omega

theorem whole_size (z : Int) : (wholeS z).size ≤ 66 := by
  have := dig_size 10 z.natAbs
  unfold wholeS; split
  · rw [ByteArray.size_append]; show 1 + _ ≤ 66; omega
  · omega
theorem tell_size (t : Bool) (m a : Nat) : (tellS t m a).size ≤ 210 := by
  have h1 := dig_size 16 (loOf m a)
  have h2 := dig_size 16 (hiOf m a)
  have h3 := perm_size (permsOf m)
  have h4 := dig_size 10 (kindOf' m)
  have h5 := dig_size 16 a
  have k1 : (⟨#[91]⟩ : ByteArray).size = 1 := rfl
  have k2 : (⟨#[45]⟩ : ByteArray).size = 1 := rfl
  have k3 : (⟨#[32]⟩ : ByteArray).size = 1 := rfl
  have k4 : (⟨#[93]⟩ : ByteArray).size = 1 := rfl
  unfold tellS; split
  · simp only [ByteArray.size_append]; omega
  · omega

theorem tell_any (t : Bool) (m a : Nat) (w : World) (hm : m < 18446744073709551616) (ha : a < 18446744073709551616) :
    Calls Try.prog 17 #[.agg #[.bool t, .int .u64 m, .int .u64 a]] w (fun e w' => e = .returned (.string (tellS t m a)) ∧ Below w.heap.size w w') := by
  cases t
  · exact tell_plain m a w hm ha
  · exact tell_tag m a w hm ha

theorem strInfo : (Try.prog.info? 9).map (fun i => (i.zero, i.size, i.bytes)) = some (some (.string ByteArray.empty), 1, 16) := by kernel_rfl

theorem cell_lt {w : World} {p : Addr} {v : Value} (h : w.cell? p = some v) : p.block < w.heap.size := by
  rcases Nat.lt_or_ge p.block w.heap.size with k | k
  · exact k
  · unfold World.cell? at h; rw [Array.getElem?_eq_none k] at h; cases h

/-- Behind the first statement: the event's cells, the slice, and what was there. -/
structure TextMid (w : World) (pr ki pc op co : Int) (t : Bool) (m a : Nat) (g : Nat) (W : World) : Prop where
  ev : W.heap[w.heap.size]? = some (.cells #[.int .i64 pr, .int .i64 ki, .int .u64 pc, .int .i64 op, .int .i64 co, .bool t, .int .u64 m, .int .u64 a] 26 (0, 0))
  own : W.ownsRow (w.heap.size + 1) 9 1 (.slice (some ⟨g, 0, none⟩) 2 2) 2 [.string ((⟨#[112]⟩ : ByteArray) ++ wholeS pr), .string (digS 16 pc.toNat)]
  bel : Below w.heap.size w W

theorem keepC2 {W W' : World} {p q : Addr} {x y : Value} (hb : Below W.heap.size W W') (h : W.cell? p = some x ∧ W.cell? q = some y) : W'.cell? p = some x ∧ W'.cell? q = some y :=
  ⟨(hb.cell (cell_lt h.1)).trans h.1, (hb.cell (cell_lt h.2)).trans h.2⟩
theorem text_mid {w wa wc : World} {pr ki op co : Int} {n m a : Nat} {t : Bool} {t1 : ByteArray} (e1 : t1 = (⟨#[112]⟩ : ByteArray) ++ wholeS pr)
    (hba : Below (w.alloc (.cells #[.int .i64 pr, .int .i64 ki, .int .u64 n, .int .i64 op, .int .i64 co, .bool t, .int .u64 m, .int .u64 a] 26)).drew.heap.size (w.alloc (.cells #[.int .i64 pr, .int .i64 ki, .int .u64 n, .int .i64 op, .int .i64 co, .bool t, .int .u64 m, .int .u64 a] 26)).drew wa) (hbc : Below wa.heap.size wa wc) :
    TextMid w pr ki n op co t m a wc.heap.size (wc.alloc (.cells #[.string t1, .string (digS 16 n)] 9)) := by
  have b1 : Below w.heap.size w wa := ((alloc_below' w _).drew).trans (hba.mono (by simp))
  have b2 : Below w.heap.size w wc := b1.trans (hbc.mono b1.size)
  have k1 : (w.alloc (.cells #[.int .i64 pr, .int .i64 ki, .int .u64 n, .int .i64 op, .int .i64 co, .bool t, .int .u64 m, .int .u64 a] 26)).drew.heap[w.heap.size]? = some (.cells #[.int .i64 pr, .int .i64 ki, .int .u64 n, .int .i64 op, .int .i64 co, .bool t, .int .u64 m, .int .u64 a] 26 (0, 0)) := blk_alloc_new w _
  have k2 := (hba.block _ (blk_lt k1)).trans k1
  have k3 := (hbc.block _ (blk_lt k2)).trans k2
  refine ⟨blk_alloc_old k3 _, ?_, b2.alloc b2.size _⟩
  subst e1
  rw [Int.toNat_natCast]
  refine ⟨by simp, .inr ⟨wc.heap.size, 2, _, rfl, ?_, blk_alloc_new wc _, by omega, by unfold maxLen; omega, rfl, rfl⟩⟩
  have := blk_lt k3
  omega

theorem own_below {W W' : World} {base e size n : Nat} {v : Value} {xs : List Value} (h : W.ownsRow base e size v n xs) (hb : Below W.heap.size W W') : W'.ownsRow base e size v n xs := by
  obtain ⟨h1, h2⟩ := h
  refine ⟨h1, ?_⟩
  rcases h2 with h2 | ⟨g, cap, cur, a, b, c, d⟩
  · exact .inl h2
  · exact .inr ⟨g, cap, cur, a, b, (hb.block _ (blk_lt c)).trans c, d⟩

theorem join_own {W : World} {base g cap n : Nat} {xs : List ByteArray} (h : W.ownsRow base 9 1 (.slice (some ⟨g, 0, none⟩) n cap) n (xs.map .string)) (hn : n ≤ 6) (hf : ∀ x ∈ xs, x.size ≤ 250) :
    Calls Try.prog 18 #[.slice (some ⟨g, 0, none⟩) n cap, .string ⟨#[32]⟩] W (fun e w' => e = .returned (.string ⟨(Lib.join (xs.map (·.data.toList)) [32]).toArray⟩) ∧ Below W.heap.size W w') := by
  have hl : xs.length = n := by have := h.1; simpa using this
  subst hl
  have hcell : ∀ (j : Nat) x, xs[j]? = some x → W.cell? ⟨g, 0 + j, none⟩ = some (.string x) := fun j x hx => by
    have hj : j < xs.length := (List.getElem?_eq_some_iff.1 hx).1
    rw [Nat.zero_add, h.cellAt j (by omega), List.getElem?_map, hx]; rfl
  obtain ⟨_, h2⟩ := h
  rcases h2 with ⟨h3, _⟩ | ⟨g', cap', cur, h3, h4, h5, h6, h7, h8⟩
  · cases h3
  · simp only [Value.slice.injEq, Option.some.injEq, Addr.mk.injEq, and_true] at h3
    obtain ⟨rfl, _, rfl⟩ := h3
    have hlen := join_len (xs.map (·.data.toList)) (fun x hx => by obtain ⟨y, hy, rfl⟩ := List.mem_map.1 hx; exact hf y hy)
    rw [List.length_map] at hlen
    exact Try.strings_Join g 0 cap xs ⟨#[32]⟩ W hcell (blk_lt h5) (by omega) h6 (Nat.le_trans hlen (by omega))

/-- Behind the append: what is to be known for what is told last. -/
theorem join_fits {pr ki pc op co : Int} {t : Bool} {m a : Nat} : ∀ x ∈ partsS pr ki pc op co t m a, x.size ≤ 250 := by
  have h1 := whole_size pr
  have h2 := dig_size 16 pc.toNat
  have h3 := name_size op
  have h4 := tell_size t m a
  have h5 := whole_size op
  have h6 := whole_size co
  have k1 : (⟨#[112]⟩ : ByteArray).size = 1 := rfl
  intro x hx
  unfold partsS at hx
  rcases List.mem_append.1 hx with hx | hx
  · simp only [List.mem_cons, List.not_mem_nil, or_false] at hx
    rcases hx with rfl | rfl
    · rw [ByteArray.size_append]; omega
    · omega
  · by_cases q0 : ki = 0
    · simp only [if_pos q0, List.mem_cons, List.not_mem_nil, or_false] at hx
      rcases hx with rfl | rfl <;> omega
    rw [if_neg q0] at hx
    by_cases q1 : ki = 1
    · simp only [if_pos q1, List.mem_cons, List.not_mem_nil, or_false] at hx
      rcases hx with rfl | rfl | rfl | rfl
      · show 4 ≤ 250; omega
      all_goals omega
    rw [if_neg q1] at hx
    by_cases q2 : ki = 2
    · simp only [if_pos q2, List.mem_cons, List.not_mem_nil, or_false] at hx
      rcases hx with rfl | rfl
      · show 3 ≤ 250; omega
      · omega
    rw [if_neg q2] at hx
    by_cases q3 : ki = 3
    · simp only [if_pos q3, List.mem_cons, List.not_mem_nil, or_false] at hx
      rcases hx with rfl | rfl
      · show 4 ≤ 250; omega
      · omega
    · simp only [if_neg q3, List.mem_cons, List.not_mem_nil, or_false] at hx
      rcases hx with rfl
      show 1 ≤ 250; omega
theorem text_size (pr ki pc op co : Int) (t : Bool) (m a : Nat) : (Lib.join ((partsS pr ki pc op co t m a).map (·.data.toList)) [32]).length ≤ 1506 := by
  have h1 := join_len ((partsS pr ki pc op co t m a).map (·.data.toList)) (fun x hx => by obtain ⟨y, hy, rfl⟩ := List.mem_map.1 hx; exact join_fits y hy)
  have h2 : (partsS pr ki pc op co t m a).length ≤ 6 := by
    unfold partsS
    by_cases q0 : ki = 0
    · simp [q0]
    by_cases q1 : ki = 1
    · simp [q1]
    by_cases q2 : ki = 2
    · simp [q2]
    by_cases q3 : ki = 3
    · simp [q3]
    · simp [q0, q1, q2, q3]
  rw [List.length_map] at h1
  omega

theorem text_fin (pr ki pc op co : Int) (t : Bool) (m a : Nat) : ∀ w, (Op.stringOp .add ⟨(Lib.join ((partsS pr ki pc op co t m a).map (·.data.toList)) [32]).toArray⟩ ⟨#[10]⟩).run Try.prog w = .ok (.string (textS pr ki pc op co t m a)) w := fun w => by
  have h := text_size pr ki pc op co t m a
  exact run_string_add_sum w _ _ (by show (Lib.join _ _).toArray.size + 1 ≤ _; rw [List.size_toArray]; omega)
theorem grow_below {w W W3 : World} {base e size n : Nat} {v : Value} {xs : List Value} (h : Below w.heap.size w W) (hg : W.grownBy W3 v.ownBlock) (ho : W.ownsRow base e size v n xs) (hb : w.heap.size ≤ base := by omega) : Below w.heap.size w W3 :=
  h.trans ((Touch.of_grown hg).block |> fun k => ⟨hg.os, hg.tape, hg.output, hg.size, fun i hi => hg.block i (by have := h.size; omega) (fun e => by have := (ho.lt i e.symm).1; omega)⟩)
theorem text_end (pr pc op co : Int) (t : Bool) (m a : Nat) (w : World) (h1 : -9223372036854775808 ≤ pr) (h2 : pr ≤ 9223372036854775807) (h3 : 0 ≤ pc) (h4 : pc < 18446744073709551616)
    (h5 : -9223372036854775808 ≤ co) (h6 : co ≤ 9223372036854775807) :
    Calls Try.prog 7 #[.agg #[.int .i64 pr, .int .i64 2, .int .u64 pc, .int .i64 op, .int .i64 co, .bool t, .int .u64 m, .int .u64 a]] w (fun e w' => e = .returned (.string (textS pr 2 pc op co t m a)) ∧ Below w.heap.size w w') := by
  obtain ⟨n, rfl⟩ := Int.eq_ofNat_of_zero_le h3
  have hn : n < 18446744073709551616 := by omega
  clear h3 h4
  obtain ⟨t1, e1, k1, p1⟩ := add_fit (P := Try.prog) ⟨#[112]⟩ (wholeS pr) 1 66 (Nat.le_refl _) (whole_size pr) (by omega)
  have E1 := Lib.hid e1
  clear e1 k1
  go_enter Try.func7, Try.ntmps7
  go_wp2_with fail
  first | go_region_held3 (fun w' => w'.cell? ⟨w.heap.size, 0, none⟩ = some (.int .i64 pr) ∧ w'.cell? ⟨w.heap.size, 2, none⟩ = some (.int .u64 n)) (first | (with_reducible exact keepC2 ‹Below _ _ _› (by assumption)) | go_keep) (first | ((go_at_call 14; (with_reducible refine (whole_any pr h1 h2 _).mono ?_); rintro e wa ⟨rfl, hba⟩; have HA := Lib.hid hba)) | ((go_at_call 15; (with_reducible refine (digits_16 n hn _).mono ?_); rintro e wc ⟨rfl, hbc⟩; have HC := Lib.hid hbc))) | fail
  have MID := Lib.hid (text_mid (ki := 2) (op := op) (co := co) (t := t) (m := m) (a := a) E1.out HA.out HC.out)
  generalize wc.alloc (.cells #[.string t1, .string (digS 16 n)] 9) = W at *
  generalize wc.heap.size = g at *
  clear HA HC hba hbc E1 p1
  have c1 : W.cell? ⟨w.heap.size, 1, none⟩ = some (.int .i64 2) := cell_of_blk MID.out.ev 1
  have c4 : W.cell? ⟨w.heap.size, 4, none⟩ = some (.int .i64 co) := cell_of_blk MID.out.ev 4
  go_wp2_with fail
  (with_reducible refine (whole_any co h5 h6 _).mono ?_)
  rintro e w1 ⟨rfl, hb1⟩
  have OWN := Lib.hid (own_below MID.out.own hb1)
  have BEL := Lib.hid (MID.out.bel.trans (hb1.mono MID.out.bel.size))
  have hz : w.heap.size + 1 ≤ w1.heap.size := by have q := blk_lt MID.out.ev; have := hb1.size; omega
  clear hb1 MID c1 c4
  obtain ⟨i0, hi, hz0, hz1, hz2⟩ := info_parts strInfo
  have I0 := Lib.hid hi; have I1 := Lib.hid hz0; have I2 := Lib.hid hz1; have I3 := Lib.hid hz2
  clear hi hz0 hz1 hz2
  go_wp2_with (first | (at_builtin; refine wpList_append_lies _ (by rfl) _ _ _ (by rfl) (w.heap.size + 1) 9 i0 _ 1 16 Try.underlying45 I0.out I1.out I2.out I3.out rfl (by omega) (.slice (some ⟨g, 0, none⟩) 2 2) 2 _ (by rfl) (OWN.out.alloc _) ⟨w1.heap.size, 0, none⟩ 2 2 [.string ⟨#[101, 110, 100]⟩, .string (wholeS co)] (by rfl) (by rfl) (World.news_of_block (cs := #[.string ⟨#[101, 110, 100]⟩, .string (wholeS co)]) (t := 9) (fr := (0, 0)) (blk_alloc_new w1 _)) (by simp [Value.oneCell']) (by omega) (by unfold maxLen; omega) (by omega) (by simp; omega) (w1.heap.size + 1) (by simp) ?_; intro g2 gc w3 hown2 hgrow hat hg; have HO3 := Lib.hid hown2; have HGR := Lib.hid hgrow; clear hown2 hgrow hat) | fail)
  have HX : Hid (w3.ownsRow (w.heap.size + 1) 9 1 (.slice (some ⟨g2, 0, none⟩) 4 gc) 4 ((partsS pr 2 n op co t m a).map .string)) := Lib.hid (by have := HO3.out; simpa [partsS] using this)
  have BEL3 : Hid (Below w.heap.size w w3) := Lib.hid (grow_below (BEL.out.alloc BEL.out.size _) HGR.out (OWN.out.alloc _))
  clear HO3 HGR OWN BEL
  have hz3 := BEL3.out.size
  have FIN := Lib.hid (text_fin pr 2 n op co t m a)
  have FITS : Hid (∀ x ∈ partsS pr 2 n op co t m a, x.size ≤ 250) := Lib.hid join_fits
  generalize partsS pr 2 n op co t m a = ps at HX FIN FITS
  generalize hts : textS pr 2 n op co t m a = ts at FIN
  have HTS := Lib.hid hts
  clear hts
  (with_reducible refine (join_own HX.out (by omega) FITS.out).mono ?_)
  rintro e w4 ⟨rfl, hb4⟩
  have HB4 := Lib.hid hb4
  clear hb4
  have pt := FIN.out
  go_wp2
  go_ret
  exact ⟨by rw [HTS.out]; rfl, BEL3.out.trans (HB4.out.mono hz3)⟩
set_option maxHeartbeats 1000000 in
theorem text_kill (pr pc op co : Int) (t : Bool) (m a : Nat) (w : World) (h1 : -9223372036854775808 ≤ pr) (h2 : pr ≤ 9223372036854775807) (h3 : 0 ≤ pc) (h4 : pc < 18446744073709551616)
    (h5 : -9223372036854775808 ≤ co) (h6 : co ≤ 9223372036854775807) :
    Calls Try.prog 7 #[.agg #[.int .i64 pr, .int .i64 3, .int .u64 pc, .int .i64 op, .int .i64 co, .bool t, .int .u64 m, .int .u64 a]] w (fun e w' => e = .returned (.string (textS pr 3 pc op co t m a)) ∧ Below w.heap.size w w') := by
  obtain ⟨n, rfl⟩ := Int.eq_ofNat_of_zero_le h3
  have hn : n < 18446744073709551616 := by omega
  clear h3 h4
  obtain ⟨t1, e1, k1, p1⟩ := add_fit (P := Try.prog) ⟨#[112]⟩ (wholeS pr) 1 66 (Nat.le_refl _) (whole_size pr) (by omega)
  have E1 := Lib.hid e1
  clear e1 k1
  go_enter Try.func7, Try.ntmps7
  go_wp2_with fail
  first | go_region_held3 (fun w' => w'.cell? ⟨w.heap.size, 0, none⟩ = some (.int .i64 pr) ∧ w'.cell? ⟨w.heap.size, 2, none⟩ = some (.int .u64 n)) (first | (with_reducible exact keepC2 ‹Below _ _ _› (by assumption)) | go_keep) (first | ((go_at_call 14; (with_reducible refine (whole_any pr h1 h2 _).mono ?_); rintro e wa ⟨rfl, hba⟩; have HA := Lib.hid hba)) | ((go_at_call 15; (with_reducible refine (digits_16 n hn _).mono ?_); rintro e wc ⟨rfl, hbc⟩; have HC := Lib.hid hbc))) | fail
  have MID := Lib.hid (text_mid (ki := 3) (op := op) (co := co) (t := t) (m := m) (a := a) E1.out HA.out HC.out)
  generalize wc.alloc (.cells #[.string t1, .string (digS 16 n)] 9) = W at *
  generalize wc.heap.size = g at *
  clear HA HC hba hbc E1 p1
  have c1 : W.cell? ⟨w.heap.size, 1, none⟩ = some (.int .i64 3) := cell_of_blk MID.out.ev 1
  have c4 : W.cell? ⟨w.heap.size, 4, none⟩ = some (.int .i64 co) := cell_of_blk MID.out.ev 4
  go_wp2_with fail
  (with_reducible refine (whole_any co h5 h6 _).mono ?_)
  rintro e w1 ⟨rfl, hb1⟩
  have OWN := Lib.hid (own_below MID.out.own hb1)
  have BEL := Lib.hid (MID.out.bel.trans (hb1.mono MID.out.bel.size))
  have hz : w.heap.size + 1 ≤ w1.heap.size := by have q := blk_lt MID.out.ev; have := hb1.size; omega
  clear hb1 MID c1 c4
  obtain ⟨i0, hi, hz0, hz1, hz2⟩ := info_parts strInfo
  have I0 := Lib.hid hi; have I1 := Lib.hid hz0; have I2 := Lib.hid hz1; have I3 := Lib.hid hz2
  clear hi hz0 hz1 hz2
  go_wp2_with (first | (at_builtin; refine wpList_append_lies _ (by rfl) _ _ _ (by rfl) (w.heap.size + 1) 9 i0 _ 1 16 Try.underlying45 I0.out I1.out I2.out I3.out rfl (by omega) (.slice (some ⟨g, 0, none⟩) 2 2) 2 _ (by rfl) (OWN.out.alloc _) ⟨w1.heap.size, 0, none⟩ 2 2 [.string ⟨#[107, 105, 108, 108]⟩, .string (wholeS co)] (by rfl) (by rfl) (World.news_of_block (cs := #[.string ⟨#[107, 105, 108, 108]⟩, .string (wholeS co)]) (t := 9) (fr := (0, 0)) (blk_alloc_new w1 _)) (by simp [Value.oneCell']) (by omega) (by unfold maxLen; omega) (by omega) (by simp; omega) (w1.heap.size + 1) (by simp) ?_; intro g2 gc w3 hown2 hgrow hat hg; have HO3 := Lib.hid hown2; have HGR := Lib.hid hgrow; clear hown2 hgrow hat) | fail)
  have HX : Hid (w3.ownsRow (w.heap.size + 1) 9 1 (.slice (some ⟨g2, 0, none⟩) 4 gc) 4 ((partsS pr 3 n op co t m a).map .string)) := Lib.hid (by have := HO3.out; simpa [partsS] using this)
  have BEL3 : Hid (Below w.heap.size w w3) := Lib.hid (grow_below (BEL.out.alloc BEL.out.size _) HGR.out (OWN.out.alloc _))
  clear HO3 HGR OWN BEL
  have hz3 := BEL3.out.size
  have FIN := Lib.hid (text_fin pr 3 n op co t m a)
  have FITS : Hid (∀ x ∈ partsS pr 3 n op co t m a, x.size ≤ 250) := Lib.hid join_fits
  generalize partsS pr 3 n op co t m a = ps at HX FIN FITS
  generalize hts : textS pr 3 n op co t m a = ts at FIN
  have HTS := Lib.hid hts
  clear hts
  (with_reducible refine (join_own HX.out (by omega) FITS.out).mono ?_)
  rintro e w4 ⟨rfl, hb4⟩
  have HB4 := Lib.hid hb4
  clear hb4
  have pt := FIN.out
  go_wp2
  go_ret
  exact ⟨by rw [HTS.out]; rfl, BEL3.out.trans (HB4.out.mono hz3)⟩
theorem text_other (pr ki pc op co : Int) (t : Bool) (m a : Nat) (w : World) (h1 : -9223372036854775808 ≤ pr) (h2 : pr ≤ 9223372036854775807) (h3 : 0 ≤ pc) (h4 : pc < 18446744073709551616)
    (q0 : ki ≠ 0) (q1 : ki ≠ 1) (q2 : ki ≠ 2) (q3 : ki ≠ 3) :
    Calls Try.prog 7 #[.agg #[.int .i64 pr, .int .i64 ki, .int .u64 pc, .int .i64 op, .int .i64 co, .bool t, .int .u64 m, .int .u64 a]] w (fun e w' => e = .returned (.string (textS pr ki pc op co t m a)) ∧ Below w.heap.size w w') := by
  obtain ⟨n, rfl⟩ := Int.eq_ofNat_of_zero_le h3
  have hn : n < 18446744073709551616 := by omega
  clear h3 h4
  have Q0 := Lib.hid q0; have Q1 := Lib.hid q1; have Q2 := Lib.hid q2; have Q3 := Lib.hid q3
  clear q0 q1 q2 q3
  obtain ⟨t1, e1, k1, p1⟩ := add_fit (P := Try.prog) ⟨#[112]⟩ (wholeS pr) 1 66 (Nat.le_refl _) (whole_size pr) (by omega)
  have E1 := Lib.hid e1
  clear e1 k1
  go_enter Try.func7, Try.ntmps7
  go_wp2_with fail
  first | go_region_held3 (fun w' => w'.cell? ⟨w.heap.size, 0, none⟩ = some (.int .i64 pr) ∧ w'.cell? ⟨w.heap.size, 2, none⟩ = some (.int .u64 n)) (first | (with_reducible exact keepC2 ‹Below _ _ _› (by assumption)) | go_keep) (first | ((go_at_call 14; (with_reducible refine (whole_any pr h1 h2 _).mono ?_); rintro e wa ⟨rfl, hba⟩; have HA := Lib.hid hba)) | ((go_at_call 15; (with_reducible refine (digits_16 n hn _).mono ?_); rintro e wc ⟨rfl, hbc⟩; have HC := Lib.hid hbc))) | fail
  have MID := Lib.hid (text_mid (ki := ki) (op := op) (co := co) (t := t) (m := m) (a := a) E1.out HA.out HC.out)
  generalize wc.alloc (.cells #[.string t1, .string (digS 16 n)] 9) = W at *
  generalize wc.heap.size = g at *
  clear HA HC hba hbc E1 p1
  have c1 : W.cell? ⟨w.heap.size, 1, none⟩ = some (.int .i64 ki) := cell_of_blk MID.out.ev 1
  have b0 : (ki == 0) = false := beq_eq_false_iff_ne.2 Q0.out
  have b1 : (ki == 1) = false := beq_eq_false_iff_ne.2 Q1.out
  have b2 : (ki == 2) = false := beq_eq_false_iff_ne.2 Q2.out
  have b3 : (ki == 3) = false := beq_eq_false_iff_ne.2 Q3.out
  have OWN := Lib.hid MID.out.own
  have BEL := Lib.hid MID.out.bel
  have hz : w.heap.size + 1 ≤ W.heap.size := by have q := blk_lt MID.out.ev; omega
  obtain ⟨i0, hi, hz0, hz1, hz2⟩ := info_parts strInfo
  have I0 := Lib.hid hi; have I1 := Lib.hid hz0; have I2 := Lib.hid hz1; have I3 := Lib.hid hz2
  clear hi hz0 hz1 hz2
  go_wp2_with (first | (at_builtin; refine wpList_append_lies _ (by rfl) _ _ _ (by rfl) (w.heap.size + 1) 9 i0 _ 1 16 Try.underlying45 I0.out I1.out I2.out I3.out rfl (by omega) (.slice (some ⟨g, 0, none⟩) 2 2) 2 _ (by rfl) (OWN.out.alloc _) ⟨W.heap.size, 0, none⟩ 1 1 [.string ⟨#[63]⟩] (by rfl) (by rfl) (World.news_of_block (cs := #[.string ⟨#[63]⟩]) (t := 9) (fr := (0, 0)) (blk_alloc_new W _)) (by simp [Value.oneCell']) (by omega) (by unfold maxLen; omega) (by omega) (by simp; omega) (W.heap.size + 1) (by simp) ?_; intro g2 gc w3 hown2 hgrow hat hg; have HO3 := Lib.hid hown2; have HGR := Lib.hid hgrow; clear hown2 hgrow hat) | fail)
  have HX : Hid (w3.ownsRow (w.heap.size + 1) 9 1 (.slice (some ⟨g2, 0, none⟩) 3 gc) 3 ((partsS pr ki n op co t m a).map .string)) := Lib.hid (by have := HO3.out; simpa [partsS, Q0.out, Q1.out, Q2.out, Q3.out] using this)
  have BEL3 : Hid (Below w.heap.size w w3) := Lib.hid (grow_below (BEL.out.alloc BEL.out.size _) HGR.out (OWN.out.alloc _))
  clear HO3 HGR OWN BEL
  have hz3 := BEL3.out.size
  have FIN := Lib.hid (text_fin pr ki n op co t m a)
  have FITS : Hid (∀ x ∈ partsS pr ki n op co t m a, x.size ≤ 250) := Lib.hid join_fits
  generalize partsS pr ki n op co t m a = ps at HX FIN FITS
  generalize hts : textS pr ki n op co t m a = ts at FIN
  have HTS := Lib.hid hts
  clear hts
  (with_reducible refine (join_own HX.out (by omega) FITS.out).mono ?_)
  rintro e w4 ⟨rfl, hb4⟩
  have HB4 := Lib.hid hb4
  clear hb4
  have pt := FIN.out
  go_wp2
  go_ret
  exact ⟨by rw [HTS.out]; rfl, BEL3.out.trans (HB4.out.mono hz3)⟩
end Go.Proofs.Ythlgkicidbagbaa
