/- What a capability tells: contracts. -/
import Derived.Test.YthlgkicidbagbaaDec
namespace Go.Proofs.Ythlgkicidbagbaa
set_option maxRecDepth 100000
open Go Go.RowKit Go.ChangeMaps Go.Lib
set_option linter.unusedVariables false

theorem alloc_below (w : World) (o : Obj) : Below w.heap.size w (w.alloc o) := (Below.refl _ _).alloc (Nat.le_refl _) _
theorem bcell2 {W w1 w2 : World} (hb : Below W.heap.size W w1) (hb2 : Below w1.heap.size w1 w2) : (∀ b o, b < W.heap.size → w2.cell? ⟨b, o, none⟩ = W.cell? ⟨b, o, none⟩) ∧ (∀ b o, b < W.heap.size → w2.frozen? ⟨b, o, none⟩ = W.frozen? ⟨b, o, none⟩) :=
  bcell (hb.trans (hb2.mono hb.size))
theorem bcell3 {W w1 w2 : World} {o : Obj} (hb : Below W.heap.size W w1) (hb2 : Below (w1.alloc o).heap.size (w1.alloc o) w2) : (∀ b o, b < W.heap.size → w2.cell? ⟨b, o, none⟩ = W.cell? ⟨b, o, none⟩) ∧ (∀ b o, b < W.heap.size → w2.frozen? ⟨b, o, none⟩ = W.frozen? ⟨b, o, none⟩) :=
  bcell ((hb.alloc hb.size _).trans (hb2.mono (by have := hb.size; simp; omega)))
theorem keep2 {w w1 : World} {F : Nat} {y z : Value} (hb : Below w.heap.size w w1) (hF : F < w.heap.size) (h : w.cell? ⟨F, 1, none⟩ = some y ∧ w.cell? ⟨F, 2, none⟩ = some z) :
    w1.cell? ⟨F, 1, none⟩ = some y ∧ w1.cell? ⟨F, 2, none⟩ = some z := by
  obtain ⟨c, _⟩ := bcell hb
  exact ⟨(c _ _ hF).trans h.1, (c _ _ hF).trans h.2⟩

theorem keepA {w : World} {F : Nat} {y z : Value} {o1 o2 : Obj} (hF : F < w.heap.size) (h : (w.alloc o1).cell? ⟨F, 1, none⟩ = some y ∧ (w.alloc o1).cell? ⟨F, 2, none⟩ = some z) :
    (w.alloc o2).cell? ⟨F, 1, none⟩ = some y ∧ (w.alloc o2).cell? ⟨F, 2, none⟩ = some z := by
  obtain ⟨h1, h2⟩ := h
  rw [World.cell?_alloc_lt _ _ _ hF] at h1 h2
  rw [World.cell?_alloc_lt _ _ _ hF, World.cell?_alloc_lt _ _ _ hF]
  exact ⟨h1, h2⟩

theorem keepS {w : World} {F b o1 o2 : Nat} {y z u v : Value} (hF : F < b) (h : w.cell? ⟨F, 1, none⟩ = some y ∧ w.cell? ⟨F, 2, none⟩ = some z) :
    ((w.setCell ⟨b, o1, none⟩ u).setCell ⟨b, o2, none⟩ v).cell? ⟨F, 1, none⟩ = some y ∧ ((w.setCell ⟨b, o1, none⟩ u).setCell ⟨b, o2, none⟩ v).cell? ⟨F, 2, none⟩ = some z := by
  have e : ((w.setCell ⟨b, o1, none⟩ u).setCell ⟨b, o2, none⟩ v).heap[F]? = w.heap[F]? := (blk_setCell_ne (by simp; omega) _).trans (blk_setCell_ne (by simp; omega) _)
  exact ⟨(World.cell?_of_block (w := w) e).trans h.1, (World.cell?_of_block (w := w) e).trans h.2⟩

/-! ### What a capability tells -/
/-- The span of a capability: its ends, and whether there is one. -/
def spanOf (m a : Nat) : Option (Nat × Nat) := decodeOf (m % 16384) (m / 16384 % 4096) (m / 67108864 % 64) a
def loOf (m a : Nat) : Nat := ((spanOf m a).getD (0, 0)).1
def hiOf (m a : Nat) : Nat := ((spanOf m a).getD (0, 0)).2
def okOf (m a : Nat) : Bool := (spanOf m a).isSome
def permsOf (m : Nat) : Nat := m / 4294967296 % 512
def kindOf' (m : Nat) : Nat := m / 281474976710656 % 4096
theorem decode_of (m a : Nat) (w : World) (ha : a < 18446744073709551616) :
    Calls Try.prog 37 #[.agg (ofCells m 3), .int .u64 a] w (fun e w' => e = .returned (.tuple #[.agg #[.int .u64 (loOf m a), .int .u64 (hiOf m a)], .bool (okOf m a)]) ∧ Below w.heap.size w w') := by
  refine (bounds_decode (m % 16384) (m / 16384 % 4096) (m / 67108864 % 64) a w (by omega) (by omega) (by omega) ha).mono ?_
  rintro e w' ⟨rfl, hb⟩
  refine ⟨?_, hb⟩
  unfold loOf hiOf okOf
  rw [show decodeOf (m % 16384) (m / 16384 % 4096) (m / 67108864 % 64) a = spanOf m a from rfl]
  cases spanOf m a <;> rfl

/-- In the midst of Look: the span lies in block b. -/
def LookMid (w : World) (t : Bool) (m a b : Nat) (W : World) : Prop :=
  W.heap[w.heap.size]? = some (.cells #[.bool t, .int .u64 m, .int .u64 a] 24 (0, 0)) ∧ W.heap[w.heap.size + 1]? = some (.cells #[.int .u64 0, .int .u64 0, .int .u64 0, .int .u64 0] 77 (0, 0)) ∧
  W.heap[b]? = some (.cells #[.int .u64 (loOf m a), .int .u64 (hiOf m a)] 75 (0, 0)) ∧ Below w.heap.size w W
theorem look_mid {w W : World} {t : Bool} {m a b : Nat} (h : Touch (fun _ => False) ((w.alloc (.cells #[.bool t, .int .u64 m, .int .u64 a] 24)).alloc (.cells #[.int .u64 0, .int .u64 0, .int .u64 0, .int .u64 0] 77)).drew W) (hb : W.heap[b]? = some (.cells #[.int .u64 (loOf m a), .int .u64 (hiOf m a)] 75 (0, 0))) : LookMid w t m a b W := by
  have k1 : ((w.alloc (.cells #[.bool t, .int .u64 m, .int .u64 a] 24)).alloc (.cells #[.int .u64 0, .int .u64 0, .int .u64 0, .int .u64 0] 77)).drew.heap[w.heap.size]? = some (.cells #[.bool t, .int .u64 m, .int .u64 a] 24 (0, 0)) := blk_alloc_old (blk_alloc_new w _) _
  have k2 : ((w.alloc (.cells #[.bool t, .int .u64 m, .int .u64 a] 24)).alloc (.cells #[.int .u64 0, .int .u64 0, .int .u64 0, .int .u64 0] 77)).drew.heap[w.heap.size + 1]? = some (.cells #[.int .u64 0, .int .u64 0, .int .u64 0, .int .u64 0] 77 (0, 0)) := blk_alloc_new' _ _ _ (by simp)
  exact ⟨h.keep k1 (fun h => h), h.keep k2 (fun h => h), hb, (((((Touch.refl (fun _ => False) w).alloc _).alloc _).drew).trans h (fun _ _ h => h)).below (fun _ _ h => h)⟩

theorem cellS4 {W : World} {k R o : Nat} {y v1 v2 v3 v4 : Value} (hk : k ≠ R) (h : W.cell? ⟨k, o, none⟩ = some y) :
    ((((W.setCell ⟨R, 0, none⟩ v1).setCell ⟨R, 1, none⟩ v2).setCell ⟨R, 2, none⟩ v3).setCell ⟨R, 3, none⟩ v4).cell? ⟨k, o, none⟩ = some y := by
  rw [World.cell?_of_block (blk_setCell_ne (b := k) (a := ⟨R, 3, none⟩) hk v4), World.cell?_of_block (blk_setCell_ne (b := k) (a := ⟨R, 2, none⟩) hk v3), World.cell?_of_block (blk_setCell_ne (b := k) (a := ⟨R, 1, none⟩) hk v2), World.cell?_of_block (blk_setCell_ne (b := k) (a := ⟨R, 0, none⟩) hk v1)]
  exact h

theorem look_below {w W : World} (h : Below w.heap.size w W) (n : Nat) (a b c d : Value) : Below w.heap.size w ((((((W.drewN n).setCell ⟨w.heap.size + 1, 0, none⟩ a).setCell ⟨w.heap.size + 1, 1, none⟩ b).setCell ⟨w.heap.size + 1, 2, none⟩ c).setCell ⟨w.heap.size + 1, 3, none⟩ d)) :=
  (((((Below_drewN h n).setCell (by simp) _).setCell (by simp) _).setCell (by simp) _).setCell (by simp) _)

set_option maxHeartbeats 4000000 in
theorem capab_look (t : Bool) (m a : Nat) (w : World) (hm : m < 18446744073709551616) (ha : a < 18446744073709551616) :
    Calls Try.prog 27 #[.agg #[.bool t, .int .u64 m, .int .u64 a]] w (fun e w' => e = .returned (.tuple #[.agg #[.int .u64 (loOf m a), .int .u64 (hiOf m a), .int .u64 (permsOf m), .int .u64 (kindOf' m)], .bool (okOf m a)]) ∧ Below w.heap.size w w') := by
  go_enter Try.func27, Try.ntmps27
  go_wp2_with fail
  first | go_region_held3 (fun w' => w'.cell? ⟨w.heap.size, 1, none⟩ = some (.int .u64 m) ∧ w'.cell? ⟨w.heap.size, 2, none⟩ = some (.int .u64 a)) (first | go_keep | exact keep2 ‹_› (by first | assumption | (simp; done) | (simp; omega)) (by assumption) | exact keep2 ‹_› (blk_cell_lt (And.left (by assumption))) (by assumption) | exact keep2 HB1.out (by first | assumption | (simp; done) | (simp; omega)) (by assumption) | exact keep2 HB2.out (blk_cell_lt (And.left (by assumption))) (by assumption) | exact keepS (by first | (have q1 := HB1.out.size; simp at q1 ⊢; omega) | (simp; done) | (simp; omega)) (by assumption) | exact keepA (by first | (have q1 := HB1.out.size; have q2 := HB2.out.size; simp at q1 q2 ⊢; omega) | (have q1 := HB1.out.size; simp at q1 ⊢; omega) | (simp; omega)) (by assumption)) (first | ((go_at_call 38; (with_reducible refine (bounds_of _ _ hm).mono ?_); rintro e w1 ⟨rfl, hb1⟩; have HB1 := Lib.hid hb1; have y0 := (bcell hb1).1 (w.heap.size + 2) 0; have y1 := (bcell hb1).1 (w.heap.size + 2) 1; have y2 := (bcell hb1).2 (w.heap.size + 2) 0; have y3 := (bcell hb1).2 (w.heap.size + 2) 1; clear hb1)) | ((go_at_call 37; (with_reducible refine (decode_of _ _ _ ha).mono ?_); rintro e w2 ⟨rfl, hb2⟩; have HB2 := Lib.hid hb2; have z0 := (bcell hb2).1 w1.heap.size 0; have z1 := (bcell hb2).1 w1.heap.size 1; have z2 := (bcell hb2).2 w1.heap.size 0; have z3 := (bcell hb2).2 w1.heap.size 1; (first | have u0 := (bcell2 HB1.out hb2).1 (w.heap.size + 2) 0 | have u0 := (bcell3 HB1.out hb2).1 (w.heap.size + 2) 0); (first | have u1 := (bcell2 HB1.out hb2).1 (w.heap.size + 2) 1 | have u1 := (bcell3 HB1.out hb2).1 (w.heap.size + 2) 1); (first | have u2 := (bcell2 HB1.out hb2).2 (w.heap.size + 2) 0 | have u2 := (bcell3 HB1.out hb2).2 (w.heap.size + 2) 0); (first | have u3 := (bcell2 HB1.out hb2).2 (w.heap.size + 2) 1 | have u3 := (bcell3 HB1.out hb2).2 (w.heap.size + 2) 1); clear hb2))) | fail
  all_goals clear y0 y1 y2 y3 z0 z1 z2 z3 u0 u1 u2 u3
  · go_wp2_with fail
    refine codeWp_world (fun W => LookMid w t m a (w2.heap.size) W) (look_mid ((Touch.of_below HB1.out _).trans (Touch.of_below HB2.out _) (fun _ _ h => h) |>.alloc _) (blk_alloc_new w2 _)) (fun W hW => ?_)
    obtain ⟨hF, hR, hb, hbel⟩ := hW
    have cF : W.cell? ⟨w.heap.size, 1, none⟩ = some (.int .u64 m) := cell_of_blk hF 1
    have nb : w2.heap.size ≠ w.heap.size + 1 := by have q1 := HB1.out.size; have q2 := HB2.out.size; simp at q1 q2; omega
    have cB0 : W.cell? ⟨w2.heap.size, 0, none⟩ = some (.int .u64 (loOf m a)) := cell_of_blk hb 0
    have cB1 : W.cell? ⟨w2.heap.size, 1, none⟩ = some (.int .u64 (hiOf m a)) := cell_of_blk hb 1
    have hFR : w.heap.size ≠ w.heap.size + 1 := by omega
    have HSS : Hid (∀ n, (W.drewN n).cell? ⟨w.heap.size, 1, none⟩ = some (.int .u64 m) ∧ (W.drewN n).cell? ⟨w2.heap.size, 0, none⟩ = some (.int .u64 (loOf m a)) ∧ (W.drewN n).cell? ⟨w2.heap.size, 1, none⟩ = some (.int .u64 (hiOf m a))) := Lib.hid fun _ => ⟨cF, cB0, cB1⟩
    have d0 : W.cell? ⟨w.heap.size + 1, 0, none⟩ = some (.int .u64 0) := cell_of_blk hR 0
    have d1 : W.cell? ⟨w.heap.size + 1, 1, none⟩ = some (.int .u64 0) := cell_of_blk hR 1
    have d2 : W.cell? ⟨w.heap.size + 1, 2, none⟩ = some (.int .u64 0) := cell_of_blk hR 2
    have d3 : W.cell? ⟨w.heap.size + 1, 3, none⟩ = some (.int .u64 0) := cell_of_blk hR 3
    have e0 : W.frozen? ⟨w.heap.size + 1, 0, none⟩ = false := free_of_blk hR 0
    have e1 : W.frozen? ⟨w.heap.size + 1, 1, none⟩ = false := free_of_blk hR 1
    have e2 : W.frozen? ⟨w.heap.size + 1, 2, none⟩ = false := free_of_blk hR 2
    have e3 : W.frozen? ⟨w.heap.size + 1, 3, none⟩ = false := free_of_blk hR 3
    have HR := Lib.hid hR; have HBE := Lib.hid hbel
    clear hF hR hb hbel
    first | go_region_held3 (fun w' => w'.cell? ⟨w.heap.size, 1, none⟩ = some (.int .u64 m) ∧ w'.cell? ⟨w2.heap.size, 0, none⟩ = some (.int .u64 (loOf m a)) ∧ w'.cell? ⟨w2.heap.size, 1, none⟩ = some (.int .u64 (hiOf m a))) (first | (with_reducible exact ⟨cellS4 hFR (HSS.out _).1, cellS4 nb (HSS.out _).2.1, cellS4 nb (HSS.out _).2.2⟩) | go_keep) (first | ((go_at_call 39; (with_reducible refine (field_get' m 32 9 32 9 _ rfl rfl hm (by omega)).mono ?_); rintro e wg ⟨rfl, n1, rfl⟩)) | ((go_at_call 39; (with_reducible refine (field_get' m 48 12 48 12 _ rfl rfl hm (by omega)).mono ?_); rintro e wg ⟨rfl, n2, rfl⟩))) | fail
    go_wp2
    exact bodyPost_ret (v := .tuple #[.agg #[.int .u64 (loOf m a), .int .u64 (hiOf m a), .int .u64 (permsOf m), .int .u64 (kindOf' m)], .bool (okOf m a)]) (by simp [results, Try.results27, go_sem, permsOf, kindOf', d0, d1, d2, d3]) rfl ⟨rfl, look_below HBE.out _ _ _ _ _⟩
  · go_wp2_with fail
    refine codeWp_world (fun W => LookMid w t m a (w1.heap.size) W) (look_mid (((((Touch.of_below HB1.out (fun _ => False)).alloc _).trans (Touch.of_below HB2.out _) (fun _ _ h => h)).setCell (.inr HB1.out.size) _).setCell (.inr HB1.out.size) _) (blk_setCell (blk_setCell ((Touch.of_below HB2.out (fun _ => False)).keep (blk_alloc_new w1 _) (fun h => h)) _ _) _ _)) (fun W hW => ?_)
    obtain ⟨hF, hR, hb, hbel⟩ := hW
    have cF : W.cell? ⟨w.heap.size, 1, none⟩ = some (.int .u64 m) := cell_of_blk hF 1
    have nb : w1.heap.size ≠ w.heap.size + 1 := by have q1 := HB1.out.size; have q2 := HB2.out.size; simp at q1 q2; omega
    have cB0 : W.cell? ⟨w1.heap.size, 0, none⟩ = some (.int .u64 (loOf m a)) := cell_of_blk hb 0
    have cB1 : W.cell? ⟨w1.heap.size, 1, none⟩ = some (.int .u64 (hiOf m a)) := cell_of_blk hb 1
    have hFR : w.heap.size ≠ w.heap.size + 1 := by omega
    have HSS : Hid (∀ n, (W.drewN n).cell? ⟨w.heap.size, 1, none⟩ = some (.int .u64 m) ∧ (W.drewN n).cell? ⟨w1.heap.size, 0, none⟩ = some (.int .u64 (loOf m a)) ∧ (W.drewN n).cell? ⟨w1.heap.size, 1, none⟩ = some (.int .u64 (hiOf m a))) := Lib.hid fun _ => ⟨cF, cB0, cB1⟩
    have d0 : W.cell? ⟨w.heap.size + 1, 0, none⟩ = some (.int .u64 0) := cell_of_blk hR 0
    have d1 : W.cell? ⟨w.heap.size + 1, 1, none⟩ = some (.int .u64 0) := cell_of_blk hR 1
    have d2 : W.cell? ⟨w.heap.size + 1, 2, none⟩ = some (.int .u64 0) := cell_of_blk hR 2
    have d3 : W.cell? ⟨w.heap.size + 1, 3, none⟩ = some (.int .u64 0) := cell_of_blk hR 3
    have e0 : W.frozen? ⟨w.heap.size + 1, 0, none⟩ = false := free_of_blk hR 0
    have e1 : W.frozen? ⟨w.heap.size + 1, 1, none⟩ = false := free_of_blk hR 1
    have e2 : W.frozen? ⟨w.heap.size + 1, 2, none⟩ = false := free_of_blk hR 2
    have e3 : W.frozen? ⟨w.heap.size + 1, 3, none⟩ = false := free_of_blk hR 3
    have HR := Lib.hid hR; have HBE := Lib.hid hbel
    clear hF hR hb hbel
    first | go_region_held3 (fun w' => w'.cell? ⟨w.heap.size, 1, none⟩ = some (.int .u64 m) ∧ w'.cell? ⟨w1.heap.size, 0, none⟩ = some (.int .u64 (loOf m a)) ∧ w'.cell? ⟨w1.heap.size, 1, none⟩ = some (.int .u64 (hiOf m a))) (first | (with_reducible exact ⟨cellS4 hFR (HSS.out _).1, cellS4 nb (HSS.out _).2.1, cellS4 nb (HSS.out _).2.2⟩) | go_keep) (first | ((go_at_call 39; (with_reducible refine (field_get' m 32 9 32 9 _ rfl rfl hm (by omega)).mono ?_); rintro e wg ⟨rfl, n1, rfl⟩)) | ((go_at_call 39; (with_reducible refine (field_get' m 48 12 48 12 _ rfl rfl hm (by omega)).mono ?_); rintro e wg ⟨rfl, n2, rfl⟩))) | fail
    go_wp2
    exact bodyPost_ret (v := .tuple #[.agg #[.int .u64 (loOf m a), .int .u64 (hiOf m a), .int .u64 (permsOf m), .int .u64 (kindOf' m)], .bool (okOf m a)]) (by simp [results, Try.results27, go_sem, permsOf, kindOf', d0, d1, d2, d3]) rfl ⟨rfl, look_below HBE.out _ _ _ _ _⟩
  · go_wp2_with fail
    refine codeWp_world (fun W => LookMid w t m a (w.heap.size + 1 + 1) W) (look_mid ((((((Touch.refl (fun _ => False) _).alloc _).trans (Touch.of_below HB1.out _) (fun _ _ h => h)).trans (Touch.of_below HB2.out _) (fun _ _ h => h)).setCell (.inr (by simp)) _).setCell (.inr (by simp)) _) (blk_setCell (blk_setCell ((Touch.of_below HB2.out (fun _ => False)).keep ((Touch.of_below HB1.out (fun _ => False)).keep (blk_alloc_new' _ _ _ (by simp)) (fun h => h)) (fun h => h)) _ _) _ _)) (fun W hW => ?_)
    obtain ⟨hF, hR, hb, hbel⟩ := hW
    have cF : W.cell? ⟨w.heap.size, 1, none⟩ = some (.int .u64 m) := cell_of_blk hF 1
    have nb : w.heap.size + 1 + 1 ≠ w.heap.size + 1 := by omega
    have cB0 : W.cell? ⟨w.heap.size + 1 + 1, 0, none⟩ = some (.int .u64 (loOf m a)) := cell_of_blk hb 0
    have cB1 : W.cell? ⟨w.heap.size + 1 + 1, 1, none⟩ = some (.int .u64 (hiOf m a)) := cell_of_blk hb 1
    have hFR : w.heap.size ≠ w.heap.size + 1 := by omega
    have HSS : Hid (∀ n, (W.drewN n).cell? ⟨w.heap.size, 1, none⟩ = some (.int .u64 m) ∧ (W.drewN n).cell? ⟨w.heap.size + 1 + 1, 0, none⟩ = some (.int .u64 (loOf m a)) ∧ (W.drewN n).cell? ⟨w.heap.size + 1 + 1, 1, none⟩ = some (.int .u64 (hiOf m a))) := Lib.hid fun _ => ⟨cF, cB0, cB1⟩
    have d0 : W.cell? ⟨w.heap.size + 1, 0, none⟩ = some (.int .u64 0) := cell_of_blk hR 0
    have d1 : W.cell? ⟨w.heap.size + 1, 1, none⟩ = some (.int .u64 0) := cell_of_blk hR 1
    have d2 : W.cell? ⟨w.heap.size + 1, 2, none⟩ = some (.int .u64 0) := cell_of_blk hR 2
    have d3 : W.cell? ⟨w.heap.size + 1, 3, none⟩ = some (.int .u64 0) := cell_of_blk hR 3
    have e0 : W.frozen? ⟨w.heap.size + 1, 0, none⟩ = false := free_of_blk hR 0
    have e1 : W.frozen? ⟨w.heap.size + 1, 1, none⟩ = false := free_of_blk hR 1
    have e2 : W.frozen? ⟨w.heap.size + 1, 2, none⟩ = false := free_of_blk hR 2
    have e3 : W.frozen? ⟨w.heap.size + 1, 3, none⟩ = false := free_of_blk hR 3
    have HR := Lib.hid hR; have HBE := Lib.hid hbel
    clear hF hR hb hbel
    first | go_region_held3 (fun w' => w'.cell? ⟨w.heap.size, 1, none⟩ = some (.int .u64 m) ∧ w'.cell? ⟨w.heap.size + 1 + 1, 0, none⟩ = some (.int .u64 (loOf m a)) ∧ w'.cell? ⟨w.heap.size + 1 + 1, 1, none⟩ = some (.int .u64 (hiOf m a))) (first | (with_reducible exact ⟨cellS4 hFR (HSS.out _).1, cellS4 nb (HSS.out _).2.1, cellS4 nb (HSS.out _).2.2⟩) | go_keep) (first | ((go_at_call 39; (with_reducible refine (field_get' m 32 9 32 9 _ rfl rfl hm (by omega)).mono ?_); rintro e wg ⟨rfl, n1, rfl⟩)) | ((go_at_call 39; (with_reducible refine (field_get' m 48 12 48 12 _ rfl rfl hm (by omega)).mono ?_); rintro e wg ⟨rfl, n2, rfl⟩))) | fail
    go_wp2
    exact bodyPost_ret (v := .tuple #[.agg #[.int .u64 (loOf m a), .int .u64 (hiOf m a), .int .u64 (permsOf m), .int .u64 (kindOf' m)], .bool (okOf m a)]) (by simp [results, Try.results27, go_sem, permsOf, kindOf', d0, d1, d2, d3]) rfl ⟨rfl, look_below HBE.out _ _ _ _ _⟩
end Go.Proofs.Ythlgkicidbagbaa
