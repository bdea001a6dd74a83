/- What the law hands to the program's steps: contracts of its three function literals; and the little run. -/
import Derived.Test.YtcdfidojddlgpaaSt29
import Derived.WalkLawsBesides
namespace Go.Proofs.Ytcdfidojddlgpaa
set_option maxRecDepth 100000
open Go Go.RowKit Go.ChangeMaps Go.Lib

/-- A variable of one cell in a block of its own. -/
def Var1 (w : World) (b : Nat) (v : Value) : Prop := ∃ t, w.heap[b]? = some (.cells #[v] t (0, 0))
theorem Var1.cell {w : World} {b : Nat} {v : Value} (h : Var1 w b v) : w.cell? ⟨b, 0, none⟩ = some v := by
  obtain ⟨t, h⟩ := h; rw [cell_of_blk h]; rfl
theorem Var1.free {w : World} {b : Nat} {v : Value} (h : Var1 w b v) : w.frozen? ⟨b, 0, none⟩ = false := by
  obtain ⟨t, h⟩ := h; exact free_of_blk h 0
theorem Var1.lt {w : World} {b : Nat} {v : Value} (h : Var1 w b v) : b < w.heap.size := by
  obtain ⟨t, h⟩ := h; exact blk_lt h
theorem Var1.touch {F : Nat → Prop} {w w' : World} {b : Nat} {v : Value} (h : Var1 w b v) (t : Touch F w w') (hF : ¬ F b) : Var1 w' b v := by
  obtain ⟨ty, h⟩ := h; exact ⟨ty, t.keep h hF⟩
theorem Var1.set {w : World} {b : Nat} {v : Value} (h : Var1 w b v) (u : Value) : Var1 (w.setCell ⟨b, 0, none⟩ u) b u := by
  obtain ⟨ty, h⟩ := h; exact ⟨ty, by have := blk_setCell h 0 u; exact this⟩
theorem Var1.alloc (w : World) (v : Value) (t : TypeId) : Var1 (w.alloc (.cells #[v] t)) w.heap.size v := ⟨t, blk_alloc_new w _⟩

/-- A call that makes one block, and writes into some variables. -/
def Ret (v : Value) (w : World) (f : World → World) (e : Ending) (w' : World) : Prop := e = .returned v ∧ w' = f w

def FineDid (b1 b2 : Nat) (k : Int) (w : World) (e : Ending) (w' : World) : Prop :=
  e = .returned (.bool true) ∧ Var1 w' b1 (.int .i64 (k + 1)) ∧ Var1 w' b2 (.bool true) ∧ Touch (fun i => i = b1 ∨ i = b2) w w'

theorem fine_two {w : World} {b1 b2 : Nat} {k : Int} (h1 : Var1 w b1 (.int .i64 k)) (h2 : Var1 w b2 (.bool true)) (hne : b1 ≠ b2) :
    Var1 ((w.setCell ⟨b1, 0, none⟩ (.int .i64 (k + 1))).setCell ⟨b2, 0, none⟩ (.bool true)) b1 (.int .i64 (k + 1)) ∧ Var1 ((w.setCell ⟨b1, 0, none⟩ (.int .i64 (k + 1))).setCell ⟨b2, 0, none⟩ (.bool true)) b2 (.bool true) ∧
    Touch (fun i => i = b1 ∨ i = b2) w ((w.setCell ⟨b1, 0, none⟩ (.int .i64 (k + 1))).setCell ⟨b2, 0, none⟩ (.bool true)) := by
  refine ⟨?_, ?_, ?_⟩
  · exact (h1.set _).touch (Touch.setCell (F := fun i => i = b2) (Touch.refl _ _) (.inl rfl) _) hne
  · exact (h2.touch (Touch.setCell (F := fun i => i = b1) (Touch.refl _ _) (.inl rfl) _) (Ne.symm hne)).set _
  · exact Touch.setCell (F := fun i => i = b1 ∨ i = b2) (Touch.setCell (F := fun i => i = b1 ∨ i = b2) (Touch.refl _ _) (.inl (.inl rfl)) _) (.inl (.inr rfl)) _
theorem fine_two' {w : World} {b1 b2 : Nat} {k : Int} (h1 : Var1 w b1 (.int .i64 k)) (h2 : Var1 w b2 (.bool true)) (hne : b1 ≠ b2) :
    Var1 ((w.setCell ⟨b2, 0, none⟩ (.bool true)).setCell ⟨b1, 0, none⟩ (.int .i64 (k + 1))) b1 (.int .i64 (k + 1)) ∧ Var1 ((w.setCell ⟨b2, 0, none⟩ (.bool true)).setCell ⟨b1, 0, none⟩ (.int .i64 (k + 1))) b2 (.bool true) ∧
    Touch (fun i => i = b1 ∨ i = b2) w ((w.setCell ⟨b2, 0, none⟩ (.bool true)).setCell ⟨b1, 0, none⟩ (.int .i64 (k + 1))) := by
  refine ⟨?_, ?_, ?_⟩
  · exact (h1.touch (Touch.setCell (F := fun i => i = b2) (Touch.refl _ _) (.inl rfl) _) hne).set _
  · exact (h2.set _).touch (Touch.setCell (F := fun i => i = b1) (Touch.refl _ _) (.inl rfl) _) (Ne.symm hne)
  · exact Touch.setCell (F := fun i => i = b1 ∨ i = b2) (Touch.setCell (F := fun i => i = b1 ∨ i = b2) (Touch.refl _ _) (.inl (.inr rfl)) _) (.inl (.inl rfl)) _
theorem FineDid.more {w w' : World} {b1 b2 : Nat} {k : Int} (h : Var1 w' b1 (.int .i64 (k + 1)) ∧ Var1 w' b2 (.bool true) ∧ Touch (fun i => i = b1 ∨ i = b2) w w') (o : Obj) :
    Var1 (w'.alloc o) b1 (.int .i64 (k + 1)) ∧ Var1 (w'.alloc o) b2 (.bool true) ∧ Touch (fun i => i = b1 ∨ i = b2) w (w'.alloc o) :=
  ⟨h.1.touch ((Touch.refl (fun _ => False) _).alloc _) (fun h => h), h.2.1.touch ((Touch.refl (fun _ => False) _).alloc _) (fun h => h), h.2.2.alloc _⟩

/-- The little run's literal. -/
theorem one_each {w : World} {b1 b2 : Nat} (k : Int) (h1 : Var1 w b1 (.int .i64 k)) (h2 : Var1 w b2 (.bool true)) (hne : b1 ≠ b2) (hk : 0 ≤ k) (hk2 : k ≤ 1000000) :
    Calls Try.prog 27 #[.agg #[.int .i64 1, .int .i64 0, .int .i64 2], .pointer (some ⟨b1, 0, none⟩), .pointer (some ⟨b2, 0, none⟩)] w (FineDid b1 b2 k w) := by
  have c1 := h1.cell
  have c2 := h2.cell
  have f1 := h1.free
  have f2 := h2.free
  have l1 := h1.lt
  have l2 := h2.lt
  have H1 := Lib.hid h1; have H2 := Lib.hid h2
  clear h1 h2
  go_enter Try.func27, Try.ntmps27
  go_wp2
  go_ret
  exact ⟨rfl, FineDid.more (fine_two H1.out H2.out hne) _⟩

/-- The law's first literal: what it is handed is the document's step. -/
theorem want_each {w : World} {b1 b2 b3 : Nat} (k : Nat) (x : Stp) (n cap : Nat) (g : Nat) (h1 : Var1 w b1 (.int .i64 k)) (h2 : Var1 w b2 (.bool true)) (hne : b1 ≠ b2) (hk : k < n) (hn : n ≤ 1000000)
    (h3 : Var1 w b3 (.slice (some ⟨g, 0, none⟩) n cap)) (hc0 : w.cell? ⟨g, k * 3, none⟩ = some (.int .i64 x.1)) (hc1 : w.cell? ⟨g, k * 3 + 1, none⟩ = some (.int .i64 x.2.1)) (hc2 : w.cell? ⟨g, k * 3 + 2, none⟩ = some (.int .i64 x.2.2)) :
    Calls Try.prog 12 #[.agg #[.int .i64 x.1, .int .i64 x.2.1, .int .i64 x.2.2], .pointer (some ⟨b2, 0, none⟩), .pointer (some ⟨b1, 0, none⟩), .pointer (some ⟨b3, 0, none⟩)] w (FineDid b1 b2 k w) := by
  obtain ⟨x0, x1, x2⟩ := x
  have c1 := h1.cell
  have c2 := h2.cell
  have c3 := h3.cell
  have f1 := h1.free
  have f2 := h2.free
  have l1 := h1.lt
  have l2 := h2.lt
  have l3 := h3.lt
  have lg : g < w.heap.size := World.block_lt_of_cell? w _ hc0
  have q1 : b1 ≠ w.heap.size := by omega
  have q2 : b2 ≠ w.heap.size := by omega
  have q3 : b3 ≠ w.heap.size := by omega
  have qg : g ≠ w.heap.size := by omega
  have k0 : (0 : Int) ≤ (k : Int) := by omega
  have k1 : (k : Int) < (n : Int) := by omega
  have H1 := Lib.hid h1; have H2 := Lib.hid h2
  clear h1 h2 h3
  go_enter Try.func12, Try.ntmps12
  go_wp2_with fail
  refine codeWp_world (fun W => W.cell? ⟨b1, 0, none⟩ = some (.int .i64 k) ∧ W.cell? ⟨b2, 0, none⟩ = some (.bool true) ∧ W.cell? ⟨b3, 0, none⟩ = some (.slice (some ⟨g, 0, none⟩) n cap) ∧ W.frozen? ⟨b1, 0, none⟩ = false ∧ W.frozen? ⟨b2, 0, none⟩ = false ∧
    W.cell? ⟨g, k * 3, none⟩ = some (.int .i64 x0) ∧ W.cell? ⟨g, k * 3 + 1, none⟩ = some (.int .i64 x1) ∧ W.cell? ⟨g, k * 3 + 2, none⟩ = some (.int .i64 x2) ∧
    W.cell? ⟨w.heap.size, 0, none⟩ = some (.int .i64 x0) ∧ W.cell? ⟨w.heap.size, 1, none⟩ = some (.int .i64 x1) ∧ W.cell? ⟨w.heap.size, 2, none⟩ = some (.int .i64 x2) ∧ W = w.alloc (.cells #[.int .i64 x0, .int .i64 x1, .int .i64 x2] 39)) ?_ (fun W hW => ?_)
  · have e := fun b hb => Below.heap_alloc w (.cells #[.int .i64 x0, .int .i64 x1, .int .i64 x2] 39) b hb
    refine ⟨?_, ?_, ?_, ?_, ?_, ?_, ?_, ?_, ?_, ?_, ?_, rfl⟩
    · rw [World.cell?_of_block (w := w) (e b1 l1)]; exact c1
    · rw [World.cell?_of_block (w := w) (e b2 l2)]; exact c2
    · rw [World.cell?_of_block (w := w) (e b3 l3)]; exact c3
    · rw [World.frozen?_of_block (w := w) (e b1 l1)]; exact f1
    · rw [World.frozen?_of_block (w := w) (e b2 l2)]; exact f2
    · rw [World.cell?_of_block (w := w) (e g lg)]; exact hc0
    · rw [World.cell?_of_block (w := w) (e g lg)]; exact hc1
    · rw [World.cell?_of_block (w := w) (e g lg)]; exact hc2
    · rw [cell_of_blk (blk_alloc_new w _)]; rfl
    · rw [cell_of_blk (blk_alloc_new w _)]; rfl
    · rw [cell_of_blk (blk_alloc_new w _)]; rfl
  obtain ⟨d1, d2, d3, d4, d5, d6, d7, d8, d9, d10, d11, hW⟩ := hW
  have HW := Lib.hid hW
  have g2 : (W.drew.setCell ⟨b2, 0, none⟩ (.bool true)).cell? ⟨b1, 0, none⟩ = some (.int .i64 k) := by
    have e1 : (W.drew.setCell ⟨b2, 0, none⟩ (.bool true)).heap[b1]? = W.heap[b1]? := blk_setCell_ne (w := W.drew) (a := ⟨b2, 0, none⟩) hne _
    rw [World.cell?_of_block (w := W) e1]; exact d1
  clear hW c1 c2 c3 f1 f2 hc0 hc1 hc2
  have g3 : (W.drew.setCell ⟨b2, 0, none⟩ (.bool true)).frozen? ⟨b1, 0, none⟩ = false := by
    have e1 : (W.drew.setCell ⟨b2, 0, none⟩ (.bool true)).heap[b1]? = W.heap[b1]? := blk_setCell_ne (w := W.drew) (a := ⟨b2, 0, none⟩) hne _
    rw [World.frozen?_of_block (w := W) e1]; exact d4
  go_region
  go_wp2
  go_ret
  have e1 : Var1 W.drew b1 (.int .i64 k) := by rw [HW.out]; exact H1.out.touch (((Touch.refl (fun _ => False) w).alloc _).drew) (fun h => h)
  have e2 : Var1 W.drew b2 (.bool true) := by rw [HW.out]; exact H2.out.touch (((Touch.refl (fun _ => False) w).alloc _).drew) (fun h => h)
  have e3 : Touch (fun i => i = b1 ∨ i = b2) w W.drew := by rw [HW.out]; exact ((Touch.refl _ w).alloc _).drew
  obtain ⟨r1, r2, r3⟩ := fine_two' e1 e2 hne
  exact ⟨rfl, r1, r2, e3.trans r3 (fun _ _ h => h)⟩

/-- The law's second literal: it ends behind so many. -/
def FewDid (b : Nat) (k q : Nat) (w : World) (e : Ending) (w' : World) : Prop :=
  e = .returned (.bool (decide (k + 1 ≤ q))) ∧ Var1 w' b (.int .i64 ((k : Int) + 1)) ∧ Touch (fun i => i = b) w w'

theorem few_each {w : World} {b bm : Nat} (k q : Nat) (most : Int) (x : Stp) (h1 : Var1 w b (.int .i64 k)) (h2 : Var1 w bm (.int .i64 most)) (hne : bm ≠ b) (hq : most % 8 = q) (hk : k ≤ 1000000) :
    Calls Try.prog 13 #[.agg #[.int .i64 x.1, .int .i64 x.2.1, .int .i64 x.2.2], .pointer (some ⟨b, 0, none⟩), .pointer (some ⟨bm, 0, none⟩)] w (FewDid b k q w) := by
  obtain ⟨x0, x1, x2⟩ := x
  have c1 := h1.cell
  have c2 := h2.cell
  have f1 := h1.free
  have l1 := h1.lt
  have l2 := h2.lt
  have c2' : (w.setCell ⟨b, 0, none⟩ (.int .i64 (k + 1))).cell? ⟨bm, 0, none⟩ = some (.int .i64 most) := by
    rw [World.cell?_of_block (w := w) (blk_setCell_ne (w := w) (a := ⟨b, 0, none⟩) hne _)]; exact c2
  have ha := i64_and7 most
  rw [hq] at ha
  have HQ := Lib.hid hq
  clear hq
  have H1 := Lib.hid h1; have H2 := Lib.hid h2
  clear h1 h2
  go_enter Try.func13, Try.ntmps13
  go_wp2
  go_ret
  refine ⟨?_, ((H1.out.set _).touch ((Touch.refl (fun _ => False) _).alloc _) (fun h => h)), (Touch.setCell (F := fun i => i = b) (Touch.refl _ _) (.inl rfl) _).alloc _⟩
  have e : decide ((k : Int) + 1 ≤ (q : Int)) = decide (k + 1 ≤ q) := by
    by_cases h : k + 1 ≤ q
    · simp [h]; omega
    · simp [h]; omega
  simp [e]


theorem enter_one (args : Array Value) (W : World) : (callFunc 27 args).run Try.prog W = .ok (.enter 27 args) W := by kernel_rfl
theorem enter_want (args : Array Value) (W : World) : (callFunc 12 args).run Try.prog W = .ok (.enter 12 args) W := by kernel_rfl
theorem enter_few (args : Array Value) (W : World) : (callFunc 13 args).run Try.prog W = .ok (.enter 13 args) W := by kernel_rfl

def oneBytes : ByteArray := ⟨#[1, 0, 2, 5]⟩

def Yes (w : World) (e : Ending) (w' : World) : Prop := e = .returned (.bool true) ∧ Below w.heap.size w w'

theorem qFunc (w : World) (f : Fn) (c : Array Value) : (binOp .eql 36 (.func f #[] c) .nilFunc).run Try.prog w = .ok (.bool false) w := by kernel_rfl

/-- What holds while the little run's literal is handed steps. -/
def OneInv (w : World) (v : Value) (k : Nat) (W : World) : Prop :=
  Var1 W (w.heap.size + 2) (.int .i64 k) ∧ Var1 W (w.heap.size + 3) (.bool true) ∧ Var1 W (w.heap.size + 1) v ∧ RawIs W v oneBytes ∧ Below w.heap.size w W

theorem bytes_of_list' {w : World} {b : Nat} {cur : Array Value} {t : TypeId} {s : ByteArray} (h : w.heap[b]? = some (.cells cur t (0, 0))) (e : ∀ i (hi : i < s.size), cur[i]? = some (.int .u8 (s[i].toNat : Int))) : Bytes w b 0 s := by
  intro i hi
  rw [cell_of_blk h, Nat.zero_add, e i hi]

theorem one_below {w W W' : World} (h : Below w.heap.size w W) (t : Touch (fun _ => False) W W') : Below w.heap.size w W' :=
  h.trans ⟨t.os, t.tape, t.output, t.size, fun i hi => t.block i (by have := h.size; omega) (fun h => h)⟩

/-- Bytes that lie apart from what is touched stay. -/
theorem raw_far {F : Nat → Prop} {b n cap : Nat} {W W' : World} {s : ByteArray} (h : RawIs W (.slice (some ⟨b, 0, none⟩) n cap) s) (t : Touch F W W') (hF : ¬ F b) (hp : 0 < s.size) : RawIs W' (.slice (some ⟨b, 0, none⟩) n cap) s := by
  obtain ⟨a, c, h1, h2, h3, h4⟩ := h
  simp only [Value.slice.injEq] at h1
  obtain ⟨rfl, rfl, rfl⟩ := h1
  refine ⟨_, _, rfl, h2, h3, fun hp => ?_⟩
  obtain ⟨b', o, e, hb⟩ := h4 hp
  cases e
  exact ⟨_, _, rfl, bytes_block hb (t.block _ (World.block_lt_of_cell? W _ (hb 0 hp)) hF)⟩

theorem one_any (w : World) : Calls Try.prog 15 #[] w (Yes w) := by
  have hq := qFunc
  go_enter Try.func15, Try.ntmps15
  go_wp2_with (first | (go_at_call 11; go_in) | fail)
  refine (steps_each (.slice (some ⟨w.heap.size, 0, none⟩) 4 4) oneBytes (w.heap.size + 1) 27 _ (OneInv w (.slice (some ⟨w.heap.size, 0, none⟩) 4 4)) (fun _ _ => False) enter_one
    (fun k W h => ⟨h.2.2.1.cell, h.2.2.2.1⟩) (fun k W W' h t => ⟨h.1.touch t (fun h => h), h.2.1.touch t (fun h => h), h.2.2.1.touch t (fun h => h), h.2.2.2.1.touch t, one_below h.2.2.2.2 t⟩) ?_ _ ?_).mono ?_
  · intro k W h hk
    have k0 : k = 0 := by have : oneBytes.size / 3 = 1 := rfl; omega
    subst k0
    refine (one_each 0 h.1 h.2.1 (by omega) (by omega) (by omega)).mono ?_
    rintro e W' ⟨he, v1, v2, t⟩
    refine .inl ⟨he, v1, v2, h.2.2.1.touch t (by omega), raw_far h.2.2.2.1 t (by omega) (by omega), ?_⟩
    exact h.2.2.2.2.trans ⟨t.os, t.tape, t.output, t.size, fun i hi => t.block i (by have := h.2.2.2.2.size; omega) (by omega)⟩
  · have z1 : ((w.alloc (.cells #[.int .u8 1, .int .u8 0, .int .u8 2, .int .u8 5] 5))).heap.size = w.heap.size + 1 := by simp
    refine ⟨?_, ?_, ?_, ?_, ?_⟩
    · exact ⟨_, blk_alloc_old (by have := blk_alloc_new ((w.alloc (.cells #[.int .u8 1, .int .u8 0, .int .u8 2, .int .u8 5] 5)).alloc (.cells #[.slice (some ⟨w.heap.size, 0, none⟩) 4 4] 31)) (.cells #[.int .i64 0] 3); simpa using this) _⟩
    · exact ⟨_, by have := blk_alloc_new (((w.alloc (.cells #[.int .u8 1, .int .u8 0, .int .u8 2, .int .u8 5] 5)).alloc (.cells #[.slice (some ⟨w.heap.size, 0, none⟩) 4 4] 31)).alloc (.cells #[.int .i64 0] 3)) (.cells #[.bool true] 4); simpa using this⟩
    · exact ⟨_, blk_alloc_old (blk_alloc_old (by have := blk_alloc_new (w.alloc (.cells #[.int .u8 1, .int .u8 0, .int .u8 2, .int .u8 5] 5)) (.cells #[.slice (some ⟨w.heap.size, 0, none⟩) 4 4] 31); rw [z1] at this; exact this) _) _⟩
    · refine ⟨_, 4, rfl, by show 4 ≤ 4; omega, by omega, fun _ => ⟨w.heap.size, 0, rfl, ?_⟩⟩
      refine bytes_of_list' (blk_alloc_old (blk_alloc_old (blk_alloc_old (blk_alloc_new w (.cells #[.int .u8 1, .int .u8 0, .int .u8 2, .int .u8 5] 5)) _) _) _) fun i hi => ?_
      have hi4 : i < 4 := hi
      rcases (show i = 0 ∨ i = 1 ∨ i = 2 ∨ i = 3 by omega) with rfl | rfl | rfl | rfl <;> rfl
    · exact ((((Below.refl _ _).alloc (Nat.le_refl _) _).alloc (by simp) _).alloc (by simp; omega) _).alloc (by simp; omega) _
  rintro e w5 ⟨rfl, h5⟩
  have h6 : OneInv w (.slice (some ⟨w.heap.size, 0, none⟩) 4 4) 1 w5 := by
    rcases h5 with h | ⟨_, _, h⟩
    · exact h
    · exact h.elim
  have c1 := h6.1.cell
  have c2 := h6.2.1.cell
  have HB := Lib.hid h6.2.2.2.2
  clear h5 h6
  go_wp2
  go_ret
  exact ⟨rfl, HB.out⟩

end Go.Proofs.Ytcdfidojddlgpaa
