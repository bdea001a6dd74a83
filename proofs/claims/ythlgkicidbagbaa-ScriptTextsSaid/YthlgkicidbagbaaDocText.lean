/- The document's line of an event: a contract. -/
import Derived.Test.YthlgkicidbagbaaDocTell
import Derived.Test.YthlgkicidbagbaaDocRows
import Derived.Test.YthlgkicidbagbaaText2
namespace Go.Proofs.Ythlgkicidbagbaa
set_option maxRecDepth 100000
open Go Go.RowKit Go.ChangeMaps Go.Lib
set_option linter.unusedVariables false

def evObj (pr ki : Int) (n : Nat) (op co : Int) (t : Bool) (m a : Nat) : Array Value := #[.int .i64 pr, .int .i64 ki, .int .u64 n, .int .i64 op, .int .i64 co, .bool t, .int .u64 m, .int .u64 a]
/-- Behind the first statement. -/
structure DocMid (w : World) (pr ki : Int) (n : Nat) (op co : Int) (t : Bool) (m a : Nat) (W : World) : Prop where
  ev : W.heap[w.heap.size]? = some (.cells (evObj pr ki n op co t m a) 31 (0, 0))
  bel : Below w.heap.size w W
theorem doc_mid {w wa wc : World} {pr ki op co : Int} {n m a : Nat} {t : Bool}
    (hba : Below (w.alloc (.cells (evObj pr ki n op co t m a) 31)).drew.heap.size (w.alloc (.cells (evObj pr ki n op co t m a) 31)).drew wa) (hbc : Below wa.heap.size wa wc) : DocMid w pr ki n op co t m a wc := by
  have b1 : Below w.heap.size w wa := ((alloc_below' w _).drew).trans (hba.mono (by simp))
  have k1 : (w.alloc (.cells (evObj pr ki n op co t m a) 31)).drew.heap[w.heap.size]? = some (.cells (evObj pr ki n op co t m a) 31 (0, 0)) := blk_alloc_new w _
  have k2 := (hba.block _ (blk_lt k1)).trans k1
  exact ⟨(hbc.block _ (blk_lt k2)).trans k2, b1.trans (hbc.mono b1.size)⟩
theorem DocMid.next {w W W' : World} {pr ki op co : Int} {n m a : Nat} {t : Bool} (h : DocMid w pr ki n op co t m a W) (hb : Below W.heap.size W W') : DocMid w pr ki n op co t m a W' :=
  ⟨(hb.block _ (blk_lt h.ev)).trans h.ev, h.bel.trans (hb.mono h.bel.size)⟩

theorem join4 (a b c d : List UInt8) : Lib.join [a, b, c, d] [32] = a ++ [32] ++ b ++ [32] ++ c ++ [32] ++ d := by simp [Lib.join, List.intercalate, List.intersperse]
theorem join3 (a b c : List UInt8) : Lib.join [a, b, c] [32] = a ++ [32] ++ b ++ [32] ++ c := by simp [Lib.join, List.intercalate, List.intersperse]
theorem join6 (a b c d e f : List UInt8) : Lib.join [a, b, c, d, e, f] [32] = a ++ [32] ++ b ++ [32] ++ c ++ [32] ++ d ++ [32] ++ e ++ [32] ++ f := by simp [Lib.join, List.intercalate, List.intersperse]
theorem bytes_list (l : List UInt8) (s : ByteArray) (h : s.data.toList = l) : (⟨l.toArray⟩ : ByteArray) = s := by
  subst h; cases s; rfl
theorem add_list (a b : ByteArray) : (a ++ b).data.toList = a.data.toList ++ b.data.toList := by simp [ByteArray.data_append]

set_option maxHeartbeats 2000000 in
theorem doc_text_end (pr pc op co : Int) (t : Bool) (m a : Nat) (w : World) (h1 : -9223372036854775808 ≤ pr) (h2 : pr ≤ 9223372036854775807) (h3 : 0 ≤ pc) (h4 : pc < 18446744073709551616)
    (h5 : -9223372036854775808 ≤ co) (h6 : co ≤ 9223372036854775807) (h7 : -9223372036854775808 ≤ op) (h8 : op ≤ 9223372036854775807) (hm : m < 18446744073709551616) (ha : a < 18446744073709551616) :
    Calls Try.prog 6 #[.agg #[.int .i64 pr, .int .i64 2, .int .u64 pc, .int .i64 op, .int .i64 co, .bool t, .int .u64 m, .int .u64 a]] w (fun e w' => e = .returned (.string (textS pr 2 pc op co t m a)) ∧ Below w.heap.size w w') := by
  obtain ⟨n, rfl⟩ := Int.eq_ofNat_of_zero_le h3
  have hn : n < 18446744073709551616 := by omega
  clear h3 h4
  obtain ⟨t1, e1, k1, p1⟩ := add_fit (P := Try.prog) ⟨#[112]⟩ (wholeS pr) 1 66 (Nat.le_refl _) (whole_size pr) (by omega)
  obtain ⟨t2, e2, k2, p2⟩ := add_fit (P := Try.prog) t1 ⟨#[32]⟩ 67 1 k1 (Nat.le_refl _) (by omega)
  obtain ⟨t3, e3, k3, p3⟩ := add_fit (P := Try.prog) t2 (digS 16 n) 68 65 k2 (dig_size 16 n) (by omega)
  obtain ⟨t4, e4, k4, p4⟩ := add_fit (P := Try.prog) t3 ⟨#[32]⟩ 133 1 k3 (Nat.le_refl _) (by omega)
  obtain ⟨t5, e5, k5, p5⟩ := add_fit (P := Try.prog) t4 ⟨#[101, 110, 100, 32]⟩ 134 4 k4 (Nat.le_refl _) (by omega)
  obtain ⟨t6, e6, k6, p6⟩ := add_fit (P := Try.prog) t5 (wholeS co) 138 66 k5 (whole_size co) (by omega)
  obtain ⟨t7, e7, k7, p7⟩ := add_fit (P := Try.prog) t6 ⟨#[10]⟩ 204 1 k6 (Nat.le_refl _) (by omega)
  have ET : Hid (textS pr 2 n op co t m a = t7) := Lib.hid (by
    rw [e7, e6, e5, e4, e3, e2, e1]
    apply ByteArray.ext
    simp [textS, partsS, join4, ByteArray.data_append])
  clear e1 k1 e2 k2 e3 k3 e4 k4 e5 k5 e6 k6 e7 k7
  go_enter Try.func6, Try.ntmps6
  go_wp2_with fail
  first | go_region_held3 (fun w' => w'.cell? ⟨w.heap.size, 0, none⟩ = some (.int .i64 pr) ∧ w'.cell? ⟨w.heap.size, 2, none⟩ = some (.int .u64 n)) (first | (with_reducible exact keepC2 ‹Below _ _ _› (by assumption)) | go_keep) (first | ((go_at_call 10; (with_reducible refine (doc_whole pr h1 h2 _).mono ?_); rintro e wa ⟨rfl, hba⟩; have HA := Lib.hid hba)) | ((go_at_call 11; (with_reducible refine (doc_digits_16 n hn _).mono ?_); rintro e wc ⟨rfl, hbc⟩; have HC := Lib.hid hbc))) | fail
  have MID := Lib.hid (doc_mid (ki := 2) (op := op) (co := co) (t := t) (m := m) (a := a) HA.out HC.out)
  clear HA HC hba hbc
  generalize wc = W at *
  have c1 : W.cell? ⟨w.heap.size, 1, none⟩ = some (.int .i64 2) := cell_of_blk MID.out.ev 1
  have c4 : W.cell? ⟨w.heap.size, 4, none⟩ = some (.int .i64 co) := cell_of_blk MID.out.ev 4
  go_wp2_with fail
  (with_reducible refine (doc_whole co h5 h6 _).mono ?_)
  rintro e w1 ⟨rfl, hb1⟩
  have M1 := Lib.hid (MID.out.next hb1)
  clear hb1 c1 c4
  go_wp2
  go_ret
  exact ⟨by rw [ET.out]; rfl, M1.out.bel⟩
set_option maxHeartbeats 2000000 in
theorem doc_text_kill (pr pc op co : Int) (t : Bool) (m a : Nat) (w : World) (h1 : -9223372036854775808 ≤ pr) (h2 : pr ≤ 9223372036854775807) (h3 : 0 ≤ pc) (h4 : pc < 18446744073709551616)
    (h5 : -9223372036854775808 ≤ co) (h6 : co ≤ 9223372036854775807) (h7 : -9223372036854775808 ≤ op) (h8 : op ≤ 9223372036854775807) (hm : m < 18446744073709551616) (ha : a < 18446744073709551616) :
    Calls Try.prog 6 #[.agg #[.int .i64 pr, .int .i64 3, .int .u64 pc, .int .i64 op, .int .i64 co, .bool t, .int .u64 m, .int .u64 a]] w (fun e w' => e = .returned (.string (textS pr 3 pc op co t m a)) ∧ Below w.heap.size w w') := by
  obtain ⟨n, rfl⟩ := Int.eq_ofNat_of_zero_le h3
  have hn : n < 18446744073709551616 := by omega
  clear h3 h4
  obtain ⟨t1, e1, k1, p1⟩ := add_fit (P := Try.prog) ⟨#[112]⟩ (wholeS pr) 1 66 (Nat.le_refl _) (whole_size pr) (by omega)
  obtain ⟨t2, e2, k2, p2⟩ := add_fit (P := Try.prog) t1 ⟨#[32]⟩ 67 1 k1 (Nat.le_refl _) (by omega)
  obtain ⟨t3, e3, k3, p3⟩ := add_fit (P := Try.prog) t2 (digS 16 n) 68 65 k2 (dig_size 16 n) (by omega)
  obtain ⟨t4, e4, k4, p4⟩ := add_fit (P := Try.prog) t3 ⟨#[32]⟩ 133 1 k3 (Nat.le_refl _) (by omega)
  obtain ⟨t5, e5, k5, p5⟩ := add_fit (P := Try.prog) t4 ⟨#[107, 105, 108, 108, 32]⟩ 134 5 k4 (Nat.le_refl _) (by omega)
  obtain ⟨t6, e6, k6, p6⟩ := add_fit (P := Try.prog) t5 (wholeS co) 139 66 k5 (whole_size co) (by omega)
  obtain ⟨t7, e7, k7, p7⟩ := add_fit (P := Try.prog) t6 ⟨#[10]⟩ 205 1 k6 (Nat.le_refl _) (by omega)
  have ET : Hid (textS pr 3 n op co t m a = t7) := Lib.hid (by
    rw [e7, e6, e5, e4, e3, e2, e1]
    apply ByteArray.ext
    simp [textS, partsS, join4, ByteArray.data_append])
  clear e1 k1 e2 k2 e3 k3 e4 k4 e5 k5 e6 k6 e7 k7
  go_enter Try.func6, Try.ntmps6
  go_wp2_with fail
  first | go_region_held3 (fun w' => w'.cell? ⟨w.heap.size, 0, none⟩ = some (.int .i64 pr) ∧ w'.cell? ⟨w.heap.size, 2, none⟩ = some (.int .u64 n)) (first | (with_reducible exact keepC2 ‹Below _ _ _› (by assumption)) | go_keep) (first | ((go_at_call 10; (with_reducible refine (doc_whole pr h1 h2 _).mono ?_); rintro e wa ⟨rfl, hba⟩; have HA := Lib.hid hba)) | ((go_at_call 11; (with_reducible refine (doc_digits_16 n hn _).mono ?_); rintro e wc ⟨rfl, hbc⟩; have HC := Lib.hid hbc))) | fail
  have MID := Lib.hid (doc_mid (ki := 3) (op := op) (co := co) (t := t) (m := m) (a := a) HA.out HC.out)
  clear HA HC hba hbc
  generalize wc = W at *
  have c1 : W.cell? ⟨w.heap.size, 1, none⟩ = some (.int .i64 3) := cell_of_blk MID.out.ev 1
  have c4 : W.cell? ⟨w.heap.size, 4, none⟩ = some (.int .i64 co) := cell_of_blk MID.out.ev 4
  go_wp2_with fail
  (with_reducible refine (doc_whole co h5 h6 _).mono ?_)
  rintro e w1 ⟨rfl, hb1⟩
  have M1 := Lib.hid (MID.out.next hb1)
  clear hb1 c1 c4
  go_wp2
  go_ret
  exact ⟨by rw [ET.out]; rfl, M1.out.bel⟩
set_option maxHeartbeats 2000000 in
theorem doc_text_other (pr ki pc op co : Int) (t : Bool) (m a : Nat) (w : World) (h1 : -9223372036854775808 ≤ pr) (h2 : pr ≤ 9223372036854775807) (h3 : 0 ≤ pc) (h4 : pc < 18446744073709551616)
    (h5 : -9223372036854775808 ≤ co) (h6 : co ≤ 9223372036854775807) (h7 : -9223372036854775808 ≤ op) (h8 : op ≤ 9223372036854775807) (hm : m < 18446744073709551616) (ha : a < 18446744073709551616) (q0 : ki ≠ 0) (q1 : ki ≠ 1) (q2 : ki ≠ 2) (q3 : ki ≠ 3) :
    Calls Try.prog 6 #[.agg #[.int .i64 pr, .int .i64 ki, .int .u64 pc, .int .i64 op, .int .i64 co, .bool t, .int .u64 m, .int .u64 a]] w (fun e w' => e = .returned (.string (textS pr ki pc op co t m a)) ∧ Below w.heap.size w w') := by
  obtain ⟨n, rfl⟩ := Int.eq_ofNat_of_zero_le h3
  have hn : n < 18446744073709551616 := by omega
  clear h3 h4
  obtain ⟨t1, e1, k1, p1⟩ := add_fit (P := Try.prog) ⟨#[112]⟩ (wholeS pr) 1 66 (Nat.le_refl _) (whole_size pr) (by omega)
  obtain ⟨t2, e2, k2, p2⟩ := add_fit (P := Try.prog) t1 ⟨#[32]⟩ 67 1 k1 (Nat.le_refl _) (by omega)
  obtain ⟨t3, e3, k3, p3⟩ := add_fit (P := Try.prog) t2 (digS 16 n) 68 65 k2 (dig_size 16 n) (by omega)
  obtain ⟨t4, e4, k4, p4⟩ := add_fit (P := Try.prog) t3 ⟨#[32]⟩ 133 1 k3 (Nat.le_refl _) (by omega)
  obtain ⟨t5, e5, k5, p5⟩ := add_fit (P := Try.prog) t4 ⟨#[63, 10]⟩ 134 2 k4 (Nat.le_refl _) (by omega)
  have ET : Hid (textS pr ki n op co t m a = t5) := Lib.hid (by
    rw [e5, e4, e3, e2, e1]
    apply ByteArray.ext
    simp [textS, partsS, join3, q0, q1, q2, q3, ByteArray.data_append])
  clear e1 k1 e2 k2 e3 k3 e4 k4 e5 k5
  have b0 : (ki == 0) = false := beq_eq_false_iff_ne.2 q0
  have b1 : (ki == 1) = false := beq_eq_false_iff_ne.2 q1
  have b2 : (ki == 2) = false := beq_eq_false_iff_ne.2 q2
  have b3 : (ki == 3) = false := beq_eq_false_iff_ne.2 q3
  clear q0 q1 q2 q3
  go_enter Try.func6, Try.ntmps6
  go_wp2_with fail
  first | go_region_held3 (fun w' => w'.cell? ⟨w.heap.size, 0, none⟩ = some (.int .i64 pr) ∧ w'.cell? ⟨w.heap.size, 2, none⟩ = some (.int .u64 n)) (first | (with_reducible exact keepC2 ‹Below _ _ _› (by assumption)) | go_keep) (first | ((go_at_call 10; (with_reducible refine (doc_whole pr h1 h2 _).mono ?_); rintro e wa ⟨rfl, hba⟩; have HA := Lib.hid hba)) | ((go_at_call 11; (with_reducible refine (doc_digits_16 n hn _).mono ?_); rintro e wc ⟨rfl, hbc⟩; have HC := Lib.hid hbc))) | fail
  have MID := Lib.hid (doc_mid (ki := ki) (op := op) (co := co) (t := t) (m := m) (a := a) HA.out HC.out)
  clear HA HC hba hbc
  generalize wc = W at *
  have c1 : W.cell? ⟨w.heap.size, 1, none⟩ = some (.int .i64 ki) := cell_of_blk MID.out.ev 1
  go_wp2
  go_ret
  exact ⟨by rw [ET.out]; rfl, MID.out.bel⟩
set_option maxHeartbeats 2000000 in
theorem doc_text_call (pr pc op co : Int) (t : Bool) (m a : Nat) (w : World) (h1 : -9223372036854775808 ≤ pr) (h2 : pr ≤ 9223372036854775807) (h3 : 0 ≤ pc) (h4 : pc < 18446744073709551616)
    (h5 : -9223372036854775808 ≤ co) (h6 : co ≤ 9223372036854775807) (h7 : -9223372036854775808 ≤ op) (h8 : op ≤ 9223372036854775807) (hm : m < 18446744073709551616) (ha : a < 18446744073709551616) :
    Calls Try.prog 6 #[.agg #[.int .i64 pr, .int .i64 1, .int .u64 pc, .int .i64 op, .int .i64 co, .bool t, .int .u64 m, .int .u64 a]] w (fun e w' => e = .returned (.string (textS pr 1 pc op co t m a)) ∧ Below w.heap.size w w') := by
  obtain ⟨n, rfl⟩ := Int.eq_ofNat_of_zero_le h3
  have hn : n < 18446744073709551616 := by omega
  clear h3 h4
  obtain ⟨t1, e1, k1, p1⟩ := add_fit (P := Try.prog) ⟨#[112]⟩ (wholeS pr) 1 66 (Nat.le_refl _) (whole_size pr) (by omega)
  obtain ⟨t2, e2, k2, p2⟩ := add_fit (P := Try.prog) t1 ⟨#[32]⟩ 67 1 k1 (Nat.le_refl _) (by omega)
  obtain ⟨t3, e3, k3, p3⟩ := add_fit (P := Try.prog) t2 (digS 16 n) 68 65 k2 (dig_size 16 n) (by omega)
  obtain ⟨t4, e4, k4, p4⟩ := add_fit (P := Try.prog) t3 ⟨#[32]⟩ 133 1 k3 (Nat.le_refl _) (by omega)
  obtain ⟨t5, e5, k5, p5⟩ := add_fit (P := Try.prog) t4 ⟨#[99, 97, 108, 108, 32]⟩ 134 5 k4 (Nat.le_refl _) (by omega)
  obtain ⟨t6, e6, k6, p6⟩ := add_fit (P := Try.prog) t5 (wholeS op) 139 66 k5 (whole_size op) (by omega)
  obtain ⟨t7, e7, k7, p7⟩ := add_fit (P := Try.prog) t6 ⟨#[32]⟩ 205 1 k6 (Nat.le_refl _) (by omega)
  obtain ⟨t8, e8, k8, p8⟩ := add_fit (P := Try.prog) t7 (wholeS co) 206 66 k7 (whole_size co) (by omega)
  obtain ⟨t9, e9, k9, p9⟩ := add_fit (P := Try.prog) t8 ⟨#[32]⟩ 272 1 k8 (Nat.le_refl _) (by omega)
  obtain ⟨t10, e10, k10, p10⟩ := add_fit (P := Try.prog) t9 (tellS t m a) 273 210 k9 (tell_size t m a) (by omega)
  obtain ⟨t11, e11, k11, p11⟩ := add_fit (P := Try.prog) t10 ⟨#[10]⟩ 483 1 k10 (Nat.le_refl _) (by omega)
  have ET : Hid (textS pr 1 n op co t m a = t11) := Lib.hid (by
    rw [e11, e10, e9, e8, e7, e6, e5, e4, e3, e2, e1]
    apply ByteArray.ext
    simp [textS, partsS, join6, ByteArray.data_append])
  clear e1 k1 e2 k2 e3 k3 e4 k4 e5 k5 e6 k6 e7 k7 e8 k8 e9 k9 e10 k10 e11 k11
  go_enter Try.func6, Try.ntmps6
  go_wp2_with fail
  first | go_region_held3 (fun w' => w'.cell? ⟨w.heap.size, 0, none⟩ = some (.int .i64 pr) ∧ w'.cell? ⟨w.heap.size, 2, none⟩ = some (.int .u64 n)) (first | (with_reducible exact keepC2 ‹Below _ _ _› (by assumption)) | go_keep) (first | ((go_at_call 10; (with_reducible refine (doc_whole pr h1 h2 _).mono ?_); rintro e wa ⟨rfl, hba⟩; have HA := Lib.hid hba)) | ((go_at_call 11; (with_reducible refine (doc_digits_16 n hn _).mono ?_); rintro e wc ⟨rfl, hbc⟩; have HC := Lib.hid hbc))) | fail
  have MID := Lib.hid (doc_mid (ki := 1) (op := op) (co := co) (t := t) (m := m) (a := a) HA.out HC.out)
  clear HA HC hba hbc
  generalize wc = W at *
  have c1 : W.cell? ⟨w.heap.size, 1, none⟩ = some (.int .i64 1) := cell_of_blk MID.out.ev 1
  have d3 : W.cell? ⟨w.heap.size, 3, none⟩ = some (.int .i64 op) := cell_of_blk MID.out.ev 3
  have d4 : W.cell? ⟨w.heap.size, 4, none⟩ = some (.int .i64 co) := cell_of_blk MID.out.ev 4
  have d5 : W.cell? ⟨w.heap.size, 5, none⟩ = some (.bool t) := cell_of_blk MID.out.ev 5
  have d6 : W.cell? ⟨w.heap.size, 6, none⟩ = some (.int .u64 m) := cell_of_blk MID.out.ev 6
  have d7 : W.cell? ⟨w.heap.size, 7, none⟩ = some (.int .u64 a) := cell_of_blk MID.out.ev 7
  go_wp2_with fail
  first | go_region_held3 (fun w' => w'.cell? ⟨w.heap.size, 3, none⟩ = some (.int .i64 op) ∧ w'.cell? ⟨w.heap.size, 4, none⟩ = some (.int .i64 co) ∧ w'.cell? ⟨w.heap.size, 5, none⟩ = some (.bool t) ∧ w'.cell? ⟨w.heap.size, 6, none⟩ = some (.int .u64 m) ∧ w'.cell? ⟨w.heap.size, 7, none⟩ = some (.int .u64 a)) (first | (with_reducible exact keepC5 ‹Below _ _ _› (by assumption)) | go_keep) (first | ((go_at_call 10; (with_reducible refine (doc_whole op h7 h8 _).mono ?_); rintro e wa ⟨rfl, hba⟩; have HA := Lib.hid hba)) | ((go_at_call 10; (with_reducible refine (doc_whole co h5 h6 _).mono ?_); rintro e wb ⟨rfl, hbb⟩; have HB := Lib.hid hbb)) | ((go_at_call 13; (with_reducible refine (told_any t m a _ hm ha).mono ?_); rintro e wd ⟨rfl, hbd⟩; have HD := Lib.hid hbd))) | fail
  have MW : DocMid w pr 1 n op co t m a W.drew := ⟨MID.out.ev, MID.out.bel.drew⟩
  have M1 := Lib.hid (((MW.next HA.out).next HB.out).next HD.out)
  clear MW MID HA HB HD hba hbb hbd c1 d3 d4 d5 d6 d7
  go_wp2
  go_ret
  exact ⟨by rw [ET.out]; rfl, M1.out.bel⟩
theorem doc_cell (z : Nat) (hz : z < 69) : docCells.toArray[z * 5]? = some (.string ⟨(instLine z).1.toArray⟩) := by
  have E : (List.range 69).map (fun n => docCells.toArray[n * 5]?) = (List.range 69).map (fun n => some (.string ⟨(instLine n).1.toArray⟩)) := by kernel_rfl
  have := congrArg (fun l => l[z]?) E
  simpa [hz] using this
set_option maxHeartbeats 2000000 in
theorem doc_text_ran_in (pr pc op co : Int) (t : Bool) (m a : Nat) (w : World) (h1 : -9223372036854775808 ≤ pr) (h2 : pr ≤ 9223372036854775807) (h3 : 0 ≤ pc) (h4 : pc < 18446744073709551616)
    (h5 : -9223372036854775808 ≤ co) (h6 : co ≤ 9223372036854775807) (h7 : -9223372036854775808 ≤ op) (h8 : op ≤ 9223372036854775807) (hm : m < 18446744073709551616) (ha : a < 18446744073709551616) (z : Nat) (hz : op = z + 1) (hz69 : z < 69) :
    Calls Try.prog 6 #[.agg #[.int .i64 pr, .int .i64 0, .int .u64 pc, .int .i64 op, .int .i64 co, .bool t, .int .u64 m, .int .u64 a]] w (fun e w' => e = .returned (.string (textS pr 0 pc op co t m a)) ∧ Below w.heap.size w w') := by
  obtain ⟨n, rfl⟩ := Int.eq_ofNat_of_zero_le h3
  have hn : n < 18446744073709551616 := by omega
  clear h3 h4
  have hop : op = (z : Int) + 1 := hz
  clear hz
  have hns : ((⟨(instLine z).1.toArray⟩ : ByteArray)).size ≤ 20 := by have := name_size op; unfold nameS at this; rw [if_pos (by omega), show (op - 1).toNat = z by omega] at this; exact this
  have hnm : nameS op = ⟨(instLine z).1.toArray⟩ := by unfold nameS; rw [if_pos (by omega), show (op - 1).toNat = z by omega]
  obtain ⟨t1, e1, k1, p1⟩ := add_fit (P := Try.prog) ⟨#[112]⟩ (wholeS pr) 1 66 (Nat.le_refl _) (whole_size pr) (by omega)
  obtain ⟨t2, e2, k2, p2⟩ := add_fit (P := Try.prog) t1 ⟨#[32]⟩ 67 1 k1 (Nat.le_refl _) (by omega)
  obtain ⟨t3, e3, k3, p3⟩ := add_fit (P := Try.prog) t2 (digS 16 n) 68 65 k2 (dig_size 16 n) (by omega)
  obtain ⟨t4, e4, k4, p4⟩ := add_fit (P := Try.prog) t3 ⟨#[32]⟩ 133 1 k3 (Nat.le_refl _) (by omega)
  obtain ⟨t5, e5, k5, p5⟩ := add_fit (P := Try.prog) t4 ⟨(instLine z).1.toArray⟩ 134 20 k4 hns (by omega)
  obtain ⟨t6, e6, k6, p6⟩ := add_fit (P := Try.prog) t5 ⟨#[32]⟩ 154 1 k5 (Nat.le_refl _) (by omega)
  obtain ⟨t7, e7, k7, p7⟩ := add_fit (P := Try.prog) t6 (tellS t m a) 155 210 k6 (tell_size t m a) (by omega)
  obtain ⟨t8, e8, k8, p8⟩ := add_fit (P := Try.prog) t7 ⟨#[10]⟩ 365 1 k7 (Nat.le_refl _) (by omega)
  have ET : Hid (textS pr 0 n op co t m a = t8) := Lib.hid (by
    rw [e8, e7, e6, e5, e4, e3, e2, e1]
    apply ByteArray.ext
    simp [textS, partsS, join4, hnm, ByteArray.data_append])
  clear e1 k1 e2 k2 e3 k3 e4 k4 e5 k5 e6 k6 e7 k7 e8 k8
  clear hns hnm
  subst hop
  go_enter Try.func6, Try.ntmps6
  go_wp2_with fail
  first | go_region_held3 (fun w' => w'.cell? ⟨w.heap.size, 0, none⟩ = some (.int .i64 pr) ∧ w'.cell? ⟨w.heap.size, 2, none⟩ = some (.int .u64 n)) (first | (with_reducible exact keepC2 ‹Below _ _ _› (by assumption)) | go_keep) (first | ((go_at_call 10; (with_reducible refine (doc_whole pr h1 h2 _).mono ?_); rintro e wa ⟨rfl, hba⟩; have HA := Lib.hid hba)) | ((go_at_call 11; (with_reducible refine (doc_digits_16 n hn _).mono ?_); rintro e wc ⟨rfl, hbc⟩; have HC := Lib.hid hbc))) | fail
  have MID := Lib.hid (doc_mid (ki := 0) (op := (z : Int) + 1) (co := co) (t := t) (m := m) (a := a) HA.out HC.out)
  clear HA HC hba hbc
  generalize wc = W at *
  have c1 : W.cell? ⟨w.heap.size, 1, none⟩ = some (.int .i64 0) := cell_of_blk MID.out.ev 1
  go_wp2_with fail
  refine (doc_rows _).mono ?_
  rintro e w1 ⟨rfl, rfl⟩
  have M1 := Lib.hid (MID.out.next (alloc_below' W (.cells docCells.toArray 43)))
  have tb : (W.alloc (.cells docCells.toArray 43)).cell? ⟨W.heap.size, z * 5, none⟩ = some (.string ⟨(instLine z).1.toArray⟩) := (cell_of_blk (blk_alloc_new W _) _).trans (doc_cell z hz69)
  generalize W.alloc (.cells docCells.toArray 43) = W2 at *
  generalize W.heap.size = g at *
  clear MID c1
  have d3 : W2.cell? ⟨w.heap.size, 3, none⟩ = some (.int .i64 ((z : Int) + 1)) := cell_of_blk M1.out.ev 3
  have d5 : W2.cell? ⟨w.heap.size, 5, none⟩ = some (.bool t) := cell_of_blk M1.out.ev 5
  have d6 : W2.cell? ⟨w.heap.size, 6, none⟩ = some (.int .u64 m) := cell_of_blk M1.out.ev 6
  have d7 : W2.cell? ⟨w.heap.size, 7, none⟩ = some (.int .u64 a) := cell_of_blk M1.out.ev 7
  have g1 : decide ((1 : Int) ≤ (z : Int) + 1) = true := by simp; omega
  have g2 : decide ((z : Int) + 1 ≤ (69 : Int)) = true := by simp; omega
  have g3 : (0 : Int) ≤ z := by omega
  have g4 : (z : Int) < 69 := by omega
  go_wp2_with fail
  (with_reducible refine (told_any t m a _ hm ha).mono ?_)
  rintro e w3 ⟨rfl, hb3⟩
  have M3 := Lib.hid (M1.out.next hb3)
  clear hb3 M1
  go_wp2
  go_ret
  exact ⟨by rw [ET.out]; rfl, M3.out.bel⟩
set_option maxHeartbeats 2000000 in
theorem doc_text_ran_out (pr pc op co : Int) (t : Bool) (m a : Nat) (w : World) (h1 : -9223372036854775808 ≤ pr) (h2 : pr ≤ 9223372036854775807) (h3 : 0 ≤ pc) (h4 : pc < 18446744073709551616)
    (h5 : -9223372036854775808 ≤ co) (h6 : co ≤ 9223372036854775807) (h7 : -9223372036854775808 ≤ op) (h8 : op ≤ 9223372036854775807) (hm : m < 18446744073709551616) (ha : a < 18446744073709551616) (hop : op < 1 ∨ 69 < op) :
    Calls Try.prog 6 #[.agg #[.int .i64 pr, .int .i64 0, .int .u64 pc, .int .i64 op, .int .i64 co, .bool t, .int .u64 m, .int .u64 a]] w (fun e w' => e = .returned (.string (textS pr 0 pc op co t m a)) ∧ Below w.heap.size w w') := by
  obtain ⟨n, rfl⟩ := Int.eq_ofNat_of_zero_le h3
  have hn : n < 18446744073709551616 := by omega
  clear h3 h4
  have hns : (⟨#[]⟩ : ByteArray).size ≤ 20 := by decide
  have hnm : nameS op = ⟨#[]⟩ := by unfold nameS; rw [if_neg (by omega)]; rfl
  obtain ⟨t1, e1, k1, p1⟩ := add_fit (P := Try.prog) ⟨#[112]⟩ (wholeS pr) 1 66 (Nat.le_refl _) (whole_size pr) (by omega)
  obtain ⟨t2, e2, k2, p2⟩ := add_fit (P := Try.prog) t1 ⟨#[32]⟩ 67 1 k1 (Nat.le_refl _) (by omega)
  obtain ⟨t3, e3, k3, p3⟩ := add_fit (P := Try.prog) t2 (digS 16 n) 68 65 k2 (dig_size 16 n) (by omega)
  obtain ⟨t4, e4, k4, p4⟩ := add_fit (P := Try.prog) t3 ⟨#[32]⟩ 133 1 k3 (Nat.le_refl _) (by omega)
  obtain ⟨t5, e5, k5, p5⟩ := add_fit (P := Try.prog) t4 ⟨#[]⟩ 134 20 k4 hns (by omega)
  obtain ⟨t6, e6, k6, p6⟩ := add_fit (P := Try.prog) t5 ⟨#[32]⟩ 154 1 k5 (Nat.le_refl _) (by omega)
  obtain ⟨t7, e7, k7, p7⟩ := add_fit (P := Try.prog) t6 (tellS t m a) 155 210 k6 (tell_size t m a) (by omega)
  obtain ⟨t8, e8, k8, p8⟩ := add_fit (P := Try.prog) t7 ⟨#[10]⟩ 365 1 k7 (Nat.le_refl _) (by omega)
  have ET : Hid (textS pr 0 n op co t m a = t8) := Lib.hid (by
    rw [e8, e7, e6, e5, e4, e3, e2, e1]
    apply ByteArray.ext
    simp [textS, partsS, join4, hnm, ByteArray.data_append])
  clear e1 k1 e2 k2 e3 k3 e4 k4 e5 k5 e6 k6 e7 k7 e8 k8
  clear hns hnm
  have HOP := Lib.hid hop
  clear hop
  go_enter Try.func6, Try.ntmps6
  go_wp2_with fail
  first | go_region_held3 (fun w' => w'.cell? ⟨w.heap.size, 0, none⟩ = some (.int .i64 pr) ∧ w'.cell? ⟨w.heap.size, 2, none⟩ = some (.int .u64 n)) (first | (with_reducible exact keepC2 ‹Below _ _ _› (by assumption)) | go_keep) (first | ((go_at_call 10; (with_reducible refine (doc_whole pr h1 h2 _).mono ?_); rintro e wa ⟨rfl, hba⟩; have HA := Lib.hid hba)) | ((go_at_call 11; (with_reducible refine (doc_digits_16 n hn _).mono ?_); rintro e wc ⟨rfl, hbc⟩; have HC := Lib.hid hbc))) | fail
  have MID := Lib.hid (doc_mid (ki := 0) (op := op) (co := co) (t := t) (m := m) (a := a) HA.out HC.out)
  clear HA HC hba hbc
  generalize wc = W at *
  have c1 : W.cell? ⟨w.heap.size, 1, none⟩ = some (.int .i64 0) := cell_of_blk MID.out.ev 1
  go_wp2_with fail
  refine (doc_rows _).mono ?_
  rintro e w1 ⟨rfl, rfl⟩
  have M1 := Lib.hid (MID.out.next (alloc_below' W (.cells docCells.toArray 43)))
  generalize W.alloc (.cells docCells.toArray 43) = W2 at *
  generalize W.heap.size = g at *
  clear MID c1
  have d3 : W2.cell? ⟨w.heap.size, 3, none⟩ = some (.int .i64 op) := cell_of_blk M1.out.ev 3
  have d5 : W2.cell? ⟨w.heap.size, 5, none⟩ = some (.bool t) := cell_of_blk M1.out.ev 5
  have d6 : W2.cell? ⟨w.heap.size, 6, none⟩ = some (.int .u64 m) := cell_of_blk M1.out.ev 6
  have d7 : W2.cell? ⟨w.heap.size, 7, none⟩ = some (.int .u64 a) := cell_of_blk M1.out.ev 7
  rcases HOP.out with h0 | h0
  · have g1 : decide ((1 : Int) ≤ op) = false := by simp; omega
    go_wp2_with fail
    (with_reducible refine (told_any t m a _ hm ha).mono ?_)
    rintro e w3 ⟨rfl, hb3⟩
    have M3 := Lib.hid (M1.out.next hb3)
    clear hb3 M1
    go_wp2
    go_ret
    exact ⟨by rw [ET.out]; rfl, M3.out.bel⟩
  · have g1 : decide ((1 : Int) ≤ op) = true := by simp; omega
    have g2 : decide (op ≤ (69 : Int)) = false := by simp; omega
    go_wp2_with fail
    (with_reducible refine (told_any t m a _ hm ha).mono ?_)
    rintro e w3 ⟨rfl, hb3⟩
    have M3 := Lib.hid (M1.out.next hb3)
    clear hb3 M1
    go_wp2
    go_ret
    exact ⟨by rw [ET.out]; rfl, M3.out.bel⟩

theorem doc_text (pr ki pc op co : Int) (t : Bool) (m a : Nat) (w : World) (h1 : -9223372036854775808 ≤ pr) (h2 : pr ≤ 9223372036854775807) (h3 : 0 ≤ pc) (h4 : pc < 18446744073709551616)
    (h5 : -9223372036854775808 ≤ co) (h6 : co ≤ 9223372036854775807) (h7 : -9223372036854775808 ≤ op) (h8 : op ≤ 9223372036854775807) (hm : m < 18446744073709551616) (ha : a < 18446744073709551616) :
    Calls Try.prog 6 #[.agg #[.int .i64 pr, .int .i64 ki, .int .u64 pc, .int .i64 op, .int .i64 co, .bool t, .int .u64 m, .int .u64 a]] w (fun e w' => e = .returned (.string (textS pr ki pc op co t m a)) ∧ Below w.heap.size w w') := by
  by_cases q0 : ki = 0
  · subst q0
    by_cases q : 1 ≤ op ∧ op ≤ 69
    · exact doc_text_ran_in pr pc op co t m a w h1 h2 h3 h4 h5 h6 h7 h8 hm ha (op - 1).toNat (by omega) (by omega)
    · exact doc_text_ran_out pr pc op co t m a w h1 h2 h3 h4 h5 h6 h7 h8 hm ha (by omega)
  by_cases q1 : ki = 1
  · subst q1; exact doc_text_call pr pc op co t m a w h1 h2 h3 h4 h5 h6 h7 h8 hm ha
  by_cases q2 : ki = 2
  · subst q2; exact doc_text_end pr pc op co t m a w h1 h2 h3 h4 h5 h6 h7 h8 hm ha
  by_cases q3 : ki = 3
  · subst q3; exact doc_text_kill pr pc op co t m a w h1 h2 h3 h4 h5 h6 h7 h8 hm ha
  · exact doc_text_other pr ki pc op co t m a w h1 h2 h3 h4 h5 h6 h7 h8 hm ha q0 q1 q2 q3
end Go.Proofs.Ythlgkicidbagbaa
