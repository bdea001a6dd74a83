/- An event's line: the lines of what an instruction, or a call, did. -/
import Derived.Test.YthlgkicidbagbaaText
namespace Go.Proofs.Ythlgkicidbagbaa
set_option maxRecDepth 100000
open Go Go.RowKit Go.ChangeMaps Go.Lib
set_option linter.unusedVariables false

theorem keepC4 {W W' : World} {p q r s : Addr} {x y z u : Value} (hb : Below W.heap.size W W') (h : W.cell? p = some x ∧ W.cell? q = some y ∧ W.cell? r = some z ∧ W.cell? s = some u) : W'.cell? p = some x ∧ W'.cell? q = some y ∧ W'.cell? r = some z ∧ W'.cell? s = some u :=
  ⟨(hb.cell (cell_lt h.1)).trans h.1, (hb.cell (cell_lt h.2.1)).trans h.2.1, (hb.cell (cell_lt h.2.2.1)).trans h.2.2.1, (hb.cell (cell_lt h.2.2.2)).trans h.2.2.2⟩
theorem keepC5 {W W' : World} {p q r s v : Addr} {x y z u k : Value} (hb : Below W.heap.size W W') (h : W.cell? p = some x ∧ W.cell? q = some y ∧ W.cell? r = some z ∧ W.cell? s = some u ∧ W.cell? v = some k) : W'.cell? p = some x ∧ W'.cell? q = some y ∧ W'.cell? r = some z ∧ W'.cell? s = some u ∧ W'.cell? v = some k :=
  ⟨(hb.cell (cell_lt h.1)).trans h.1, (hb.cell (cell_lt h.2.1)).trans h.2.1, (hb.cell (cell_lt h.2.2.1)).trans h.2.2.1, (hb.cell (cell_lt h.2.2.2.1)).trans h.2.2.2.1, (hb.cell (cell_lt h.2.2.2.2)).trans h.2.2.2.2⟩
theorem grown_cell {W W' : World} {g b o : Nat} {x : Value} (hg : W.grownBy W' (Value.slice (some ⟨g, 0, none⟩) 2 2).ownBlock) (hne : b ≠ g) (h : W.cell? ⟨b, o, none⟩ = some x) : W'.cell? ⟨b, o, none⟩ = some x :=
  (World.cell?_of_block (hg.block b (cell_lt h) (fun e => hne (Option.some.inj e)))).trans h
theorem keepG4 {W W' : World} {g b o1 o2 o3 o4 : Nat} {x y z u : Value} (hne : b ≠ g) (hg : W.grownBy W' (Value.slice (some ⟨g, 0, none⟩) 2 2).ownBlock) (h : W.cell? ⟨b, o1, none⟩ = some x ∧ W.cell? ⟨b, o2, none⟩ = some y ∧ W.cell? ⟨b, o3, none⟩ = some z ∧ W.cell? ⟨b, o4, none⟩ = some u) : W'.cell? ⟨b, o1, none⟩ = some x ∧ W'.cell? ⟨b, o2, none⟩ = some y ∧ W'.cell? ⟨b, o3, none⟩ = some z ∧ W'.cell? ⟨b, o4, none⟩ = some u :=
  ⟨grown_cell hg hne h.1, grown_cell hg hne h.2.1, grown_cell hg hne h.2.2.1, grown_cell hg hne h.2.2.2⟩
theorem keepG5 {W W' : World} {g b o1 o2 o3 o4 o5 : Nat} {x y z u k : Value} (hne : b ≠ g) (hg : W.grownBy W' (Value.slice (some ⟨g, 0, none⟩) 2 2).ownBlock) (h : W.cell? ⟨b, o1, none⟩ = some x ∧ W.cell? ⟨b, o2, none⟩ = some y ∧ W.cell? ⟨b, o3, none⟩ = some z ∧ W.cell? ⟨b, o4, none⟩ = some u ∧ W.cell? ⟨b, o5, none⟩ = some k) : W'.cell? ⟨b, o1, none⟩ = some x ∧ W'.cell? ⟨b, o2, none⟩ = some y ∧ W'.cell? ⟨b, o3, none⟩ = some z ∧ W'.cell? ⟨b, o4, none⟩ = some u ∧ W'.cell? ⟨b, o5, none⟩ = some k :=
  ⟨grown_cell hg hne h.1, grown_cell hg hne h.2.1, grown_cell hg hne h.2.2.1, grown_cell hg hne h.2.2.2.1, grown_cell hg hne h.2.2.2.2⟩

set_option maxHeartbeats 1000000 in
theorem text_ran (pr pc op co : Int) (t : Bool) (m a : Nat) (w : World) (h1 : -9223372036854775808 ≤ pr) (h2 : pr ≤ 9223372036854775807) (h3 : 0 ≤ pc) (h4 : pc < 18446744073709551616)
    (h5 : -9223372036854775808 ≤ co) (h6 : co ≤ 9223372036854775807) (h7 : -9223372036854775808 ≤ op) (h8 : op ≤ 9223372036854775807) (hm : m < 18446744073709551616) (ha : a < 18446744073709551616) :
    Calls Try.prog 7 #[.agg #[.int .i64 pr, .int .i64 0, .int .u64 pc, .int .i64 op, .int .i64 co, .bool t, .int .u64 m, .int .u64 a]] w (fun e w' => e = .returned (.string (textS pr 0 pc op co t m a)) ∧ Below w.heap.size w w') := by
  obtain ⟨n, rfl⟩ := Int.eq_ofNat_of_zero_le h3
  have hn : n < 18446744073709551616 := by omega
  clear h3 h4
  obtain ⟨t1, e1, k1, p1⟩ := add_fit (P := Try.prog) ⟨#[112]⟩ (wholeS pr) 1 66 (Nat.le_refl _) (whole_size pr) (by omega)
  have E1 := Lib.hid e1
  clear e1 k1
  go_enter Try.func7, Try.ntmps7
  go_wp2_with fail
  first | go_region_held3 (fun w' => w'.cell? ⟨w.heap.size, 0, none⟩ = some (.int .i64 pr) ∧ w'.cell? ⟨w.heap.size, 2, none⟩ = some (.int .u64 n)) (first | (with_reducible exact keepC2 ‹Below _ _ _› (by assumption)) | go_keep) (first | ((go_at_call 14; (with_reducible refine (whole_any pr h1 h2 _).mono ?_); rintro e wa ⟨rfl, hba⟩; have HA := Lib.hid hba)) | ((go_at_call 15; (with_reducible refine (digits_16 n hn _).mono ?_); rintro e wc ⟨rfl, hbc⟩; have HC := Lib.hid hbc))) | fail
  have MID := Lib.hid (text_mid (ki := 0) (op := op) (co := co) (t := t) (m := m) (a := a) E1.out HA.out HC.out)
  generalize wc.alloc (.cells #[.string t1, .string (digS 16 n)] 9) = W at *
  generalize wc.heap.size = g at *
  clear HA HC hba hbc E1 p1
  have c1 : W.cell? ⟨w.heap.size, 1, none⟩ = some (.int .i64 0) := cell_of_blk MID.out.ev 1
  have hz : w.heap.size + 1 ≤ W.heap.size := by have q := blk_lt MID.out.ev; omega
  have hne : w.heap.size ≠ g := by have := (MID.out.own.lt g rfl).1; omega
  have d3 : W.cell? ⟨w.heap.size, 3, none⟩ = some (.int .i64 op) := cell_of_blk MID.out.ev 3
  have d5 : W.cell? ⟨w.heap.size, 5, none⟩ = some (.bool t) := cell_of_blk MID.out.ev 5
  have d6 : W.cell? ⟨w.heap.size, 6, none⟩ = some (.int .u64 m) := cell_of_blk MID.out.ev 6
  have d7 : W.cell? ⟨w.heap.size, 7, none⟩ = some (.int .u64 a) := cell_of_blk MID.out.ev 7
  obtain ⟨i0, hi, hz0, hz1, hz2⟩ := info_parts strInfo
  have I0 := Lib.hid hi; have I1 := Lib.hid hz0; have I2 := Lib.hid hz1; have I3 := Lib.hid hz2
  clear hi hz0 hz1 hz2
  go_wp2_with fail
  first | go_region_held3 (fun w' => w'.cell? ⟨w.heap.size, 3, none⟩ = some (.int .i64 op) ∧ w'.cell? ⟨w.heap.size, 5, none⟩ = some (.bool t) ∧ w'.cell? ⟨w.heap.size, 6, none⟩ = some (.int .u64 m) ∧ w'.cell? ⟨w.heap.size, 7, none⟩ = some (.int .u64 a)) (first | (with_reducible exact keepC4 ‹Below _ _ _› (by assumption)) | (with_reducible exact keepG4 hne ‹World.grownBy _ _ _› (by assumption)) | go_keep) (first | ((go_at_call 16; (with_reducible refine (name_any op _).mono ?_); rintro e wa ⟨rfl, hba⟩; have HA := Lib.hid hba)) | ((go_at_call 17; (with_reducible refine (tell_any t m a _ hm ha).mono ?_); rintro e wc ⟨rfl, hbc⟩; have HC := Lib.hid hbc)) | ((refine step_append_lies _ (by rfl) _ _ _ (by rfl) (w.heap.size + 1) 9 i0 _ 1 16 Try.underlying45 I0.out I1.out I2.out I3.out rfl (by omega) (.slice (some ⟨g, 0, none⟩) 2 2) 2 _ (by rfl) ((own_below (own_below MID.out.own.drew HA.out) HC.out).alloc _) ⟨wc.heap.size, 0, none⟩ 2 2 [.string (nameS op), .string (tellS t m a)] (by rfl) (by rfl) (World.news_of_block (cs := #[.string (nameS op), .string (tellS t m a)]) (t := 9) (fr := (0, 0)) (blk_alloc_new wc _)) (by simp [Value.oneCell']) (by omega) (by unfold maxLen; omega) (by omega) (by have q1 := HA.out.size; have q2 := HC.out.size; simp at q1 q2 ⊢; omega) (wc.heap.size + 1) (by simp) ?_; intro g2 gc w3 hown2 hgrow hat hg; have HO3 := Lib.hid hown2; have HGR := Lib.hid hgrow))) | fail
  have HX : Hid (w3.ownsRow (w.heap.size + 1) 9 1 (.slice (some ⟨g2, 0, none⟩) 4 gc) 4 ((partsS pr 0 n op co t m a).map .string)) := Lib.hid (by have := HO3.out; simpa [partsS] using this)
  have b0 : Below w.heap.size w W.drew := MID.out.bel.drew
  have b1 := b0.trans (HA.out.mono b0.size)
  have b3 := b1.trans (HC.out.mono b1.size)
  have BEL3 : Hid (Below w.heap.size w w3) := Lib.hid (grow_below (b3.alloc b3.size _) HGR.out ((own_below (own_below MID.out.own.drew HA.out) HC.out).alloc _))
  clear HO3 HGR HA HC hba hbc hown2 hgrow hat MID b0 b1 b3 d3 d5 d6 d7 hg
  have hz3 := BEL3.out.size
  have FIN := Lib.hid (text_fin pr 0 n op co t m a)
  have FITS : Hid (∀ x ∈ partsS pr 0 n op co t m a, x.size ≤ 250) := Lib.hid join_fits
  generalize partsS pr 0 n op co t m a = ps at HX FIN FITS
  generalize hts : textS pr 0 n op co t m a = ts at FIN
  have HTS := Lib.hid hts
  clear hts
  go_wp2_with fail
  (with_reducible refine (join_own HX.out (by omega) FITS.out).mono ?_)
  rintro e w4 ⟨rfl, hb4⟩
  have HB4 := Lib.hid hb4
  clear hb4
  have pt := FIN.out
  go_wp2
  go_ret
  exact ⟨by rw [HTS.out]; rfl, BEL3.out.trans (HB4.out.mono hz3)⟩

set_option maxHeartbeats 1000000 in
theorem text_call (pr pc op co : Int) (t : Bool) (m a : Nat) (w : World) (h1 : -9223372036854775808 ≤ pr) (h2 : pr ≤ 9223372036854775807) (h3 : 0 ≤ pc) (h4 : pc < 18446744073709551616)
    (h5 : -9223372036854775808 ≤ co) (h6 : co ≤ 9223372036854775807) (h7 : -9223372036854775808 ≤ op) (h8 : op ≤ 9223372036854775807) (hm : m < 18446744073709551616) (ha : a < 18446744073709551616) :
    Calls Try.prog 7 #[.agg #[.int .i64 pr, .int .i64 1, .int .u64 pc, .int .i64 op, .int .i64 co, .bool t, .int .u64 m, .int .u64 a]] w (fun e w' => e = .returned (.string (textS pr 1 pc op co t m a)) ∧ Below w.heap.size w w') := by
  obtain ⟨n, rfl⟩ := Int.eq_ofNat_of_zero_le h3
  have hn : n < 18446744073709551616 := by omega
  clear h3 h4
  obtain ⟨t1, e1, k1, p1⟩ := add_fit (P := Try.prog) ⟨#[112]⟩ (wholeS pr) 1 66 (Nat.le_refl _) (whole_size pr) (by omega)
  have E1 := Lib.hid e1
  clear e1 k1
  go_enter Try.func7, Try.ntmps7
  go_wp2_with fail
  first | go_region_held3 (fun w' => w'.cell? ⟨w.heap.size, 0, none⟩ = some (.int .i64 pr) ∧ w'.cell? ⟨w.heap.size, 2, none⟩ = some (.int .u64 n)) (first | (with_reducible exact keepC2 ‹Below _ _ _› (by assumption)) | go_keep) (first | ((go_at_call 14; (with_reducible refine (whole_any pr h1 h2 _).mono ?_); rintro e wa ⟨rfl, hba⟩; have HA := Lib.hid hba)) | ((go_at_call 15; (with_reducible refine (digits_16 n hn _).mono ?_); rintro e wc ⟨rfl, hbc⟩; have HC := Lib.hid hbc))) | fail
  have MID := Lib.hid (text_mid (ki := 1) (op := op) (co := co) (t := t) (m := m) (a := a) E1.out HA.out HC.out)
  generalize wc.alloc (.cells #[.string t1, .string (digS 16 n)] 9) = W at *
  generalize wc.heap.size = g at *
  clear HA HC hba hbc E1 p1
  have c1 : W.cell? ⟨w.heap.size, 1, none⟩ = some (.int .i64 1) := cell_of_blk MID.out.ev 1
  have hz : w.heap.size + 1 ≤ W.heap.size := by have q := blk_lt MID.out.ev; omega
  have hne : w.heap.size ≠ g := by have := (MID.out.own.lt g rfl).1; omega
  have d3 : W.cell? ⟨w.heap.size, 3, none⟩ = some (.int .i64 op) := cell_of_blk MID.out.ev 3
  have d4 : W.cell? ⟨w.heap.size, 4, none⟩ = some (.int .i64 co) := cell_of_blk MID.out.ev 4
  have d5 : W.cell? ⟨w.heap.size, 5, none⟩ = some (.bool t) := cell_of_blk MID.out.ev 5
  have d6 : W.cell? ⟨w.heap.size, 6, none⟩ = some (.int .u64 m) := cell_of_blk MID.out.ev 6
  have d7 : W.cell? ⟨w.heap.size, 7, none⟩ = some (.int .u64 a) := cell_of_blk MID.out.ev 7
  obtain ⟨i0, hi, hz0, hz1, hz2⟩ := info_parts strInfo
  have I0 := Lib.hid hi; have I1 := Lib.hid hz0; have I2 := Lib.hid hz1; have I3 := Lib.hid hz2
  clear hi hz0 hz1 hz2
  go_wp2_with fail
  first | go_region_held3 (fun w' => w'.cell? ⟨w.heap.size, 3, none⟩ = some (.int .i64 op) ∧ w'.cell? ⟨w.heap.size, 4, none⟩ = some (.int .i64 co) ∧ w'.cell? ⟨w.heap.size, 5, none⟩ = some (.bool t) ∧ w'.cell? ⟨w.heap.size, 6, none⟩ = some (.int .u64 m) ∧ w'.cell? ⟨w.heap.size, 7, none⟩ = some (.int .u64 a)) (first | (with_reducible exact keepC5 ‹Below _ _ _› (by assumption)) | (with_reducible exact keepG5 hne ‹World.grownBy _ _ _› (by assumption)) | go_keep) (first | ((go_at_call 14; (with_reducible refine (whole_any op h7 h8 _).mono ?_); rintro e wa ⟨rfl, hba⟩; have HA := Lib.hid hba)) | ((go_at_call 14; (with_reducible refine (whole_any co h5 h6 _).mono ?_); rintro e wb ⟨rfl, hbb⟩; have HB := Lib.hid hbb)) | ((go_at_call 17; (with_reducible refine (tell_any t m a _ hm ha).mono ?_); rintro e wc ⟨rfl, hbc⟩; have HC := Lib.hid hbc)) | ((refine step_append_lies _ (by rfl) _ _ _ (by rfl) (w.heap.size + 1) 9 i0 _ 1 16 Try.underlying45 I0.out I1.out I2.out I3.out rfl (by omega) (.slice (some ⟨g, 0, none⟩) 2 2) 2 _ (by rfl) ((own_below (own_below (own_below MID.out.own.drew HA.out) HB.out) HC.out).alloc _) ⟨wc.heap.size, 0, none⟩ 4 4 [.string ⟨#[99, 97, 108, 108]⟩, .string (wholeS op), .string (wholeS co), .string (tellS t m a)] (by rfl) (by rfl) (World.news_of_block (cs := #[.string ⟨#[99, 97, 108, 108]⟩, .string (wholeS op), .string (wholeS co), .string (tellS t m a)]) (t := 9) (fr := (0, 0)) (blk_alloc_new wc _)) (by simp [Value.oneCell']) (by omega) (by unfold maxLen; omega) (by omega) (by have q1 := HA.out.size; have q3 := HB.out.size; have q2 := HC.out.size; simp at q1 q2 ⊢; omega) (wc.heap.size + 1) (by simp) ?_; intro g2 gc w3 hown2 hgrow hat hg; have HO3 := Lib.hid hown2; have HGR := Lib.hid hgrow))) | fail
  have HX : Hid (w3.ownsRow (w.heap.size + 1) 9 1 (.slice (some ⟨g2, 0, none⟩) 6 gc) 6 ((partsS pr 1 n op co t m a).map .string)) := Lib.hid (by have := HO3.out; simpa [partsS] using this)
  have b0 : Below w.heap.size w W.drew := MID.out.bel.drew
  have b1 := b0.trans (HA.out.mono b0.size)
  have b2 := b1.trans (HB.out.mono b1.size)
  have b3 := b2.trans (HC.out.mono b2.size)
  have BEL3 : Hid (Below w.heap.size w w3) := Lib.hid (grow_below (b3.alloc b3.size _) HGR.out ((own_below (own_below (own_below MID.out.own.drew HA.out) HB.out) HC.out).alloc _))
  clear HO3 HGR HA HC hba hbc hown2 hgrow hat MID b0 b1 b3 b2 HB hbb d3 d4 d5 d6 d7 hg
  have hz3 := BEL3.out.size
  have FIN := Lib.hid (text_fin pr 1 n op co t m a)
  have FITS : Hid (∀ x ∈ partsS pr 1 n op co t m a, x.size ≤ 250) := Lib.hid join_fits
  generalize partsS pr 1 n op co t m a = ps at HX FIN FITS
  generalize hts : textS pr 1 n op co t m a = ts at FIN
  have HTS := Lib.hid hts
  clear hts
  go_wp2_with fail
  (with_reducible refine (join_own HX.out (by omega) FITS.out).mono ?_)
  rintro e w4 ⟨rfl, hb4⟩
  have HB4 := Lib.hid hb4
  clear hb4
  have pt := FIN.out
  go_wp2
  go_ret
  exact ⟨by rw [HTS.out]; rfl, BEL3.out.trans (HB4.out.mono hz3)⟩


theorem text_any (pr ki pc op co : Int) (t : Bool) (m a : Nat) (w : World) (h1 : -9223372036854775808 ≤ pr) (h2 : pr ≤ 9223372036854775807) (h3 : 0 ≤ pc) (h4 : pc < 18446744073709551616)
    (h5 : -9223372036854775808 ≤ co) (h6 : co ≤ 9223372036854775807) (h7 : -9223372036854775808 ≤ op) (h8 : op ≤ 9223372036854775807) (hm : m < 18446744073709551616) (ha : a < 18446744073709551616) :
    Calls Try.prog 7 #[.agg #[.int .i64 pr, .int .i64 ki, .int .u64 pc, .int .i64 op, .int .i64 co, .bool t, .int .u64 m, .int .u64 a]] w (fun e w' => e = .returned (.string (textS pr ki pc op co t m a)) ∧ Below w.heap.size w w') := by
  by_cases q0 : ki = 0
  · subst q0; exact text_ran pr pc op co t m a w h1 h2 h3 h4 h5 h6 h7 h8 hm ha
  by_cases q1 : ki = 1
  · subst q1; exact text_call pr pc op co t m a w h1 h2 h3 h4 h5 h6 h7 h8 hm ha
  by_cases q2 : ki = 2
  · subst q2; exact text_end pr pc op co t m a w h1 h2 h3 h4 h5 h6
  by_cases q3 : ki = 3
  · subst q3; exact text_kill pr pc op co t m a w h1 h2 h3 h4 h5 h6
  · exact text_other pr ki pc op co t m a w h1 h2 h3 h4 q0 q1 q2 q3
end Go.Proofs.Ythlgkicidbagbaa
