/- A device of blocks, as the program keeps it, and what its calls do: contracts. -/
import Derived.Test.YtcdfidojddlgpaaKit
import Derived.Test.YtcdfidojddlgpaaChecked
import Derived.Laws.CopyRow
import Derived.Lib.SlBytesRow
import Derived.Deep.AppendLies
import Derived.Deep.RegionHeld3
import Derived.Outline
namespace Go.Proofs.Ytcdfidojddlgpaa
set_option maxRecDepth 100000
open Go Go.RowKit Go.ChangeMaps Go.Lib

def zeros4096 : ByteArray := ⟨Array.replicate 4096 0⟩
theorem zeros_size : zeros4096.size = 4096 := by simp [zeros4096, ByteArray.size]
theorem zeros_at (i : Nat) (h : i < zeros4096.size) : zeros4096[i] = 0 := by
  show zeros4096.data[i] = 0
  simp [zeros4096]

/-- Block d is a device of n blocks, whose map is m; what each block has; how many calls are to fail. No block that X names keeps a block's bytes. -/
structure DevAt (w : World) (X : Nat → Prop) (d m n : Nat) (left : Int) (bl : List ByteArray) : Prop where
  dev : ∃ t, w.heap[d]? = some (.cells #[.int .i64 n, .map (some m), .int .i64 left] t (0, 0))
  map : ∃ g, IMap w m .i64 g ∧ ∀ (k : Nat) s, bl[k]? = some s → (aget k g = none ∧ s = zeros4096) ∨ ∃ b cap, aget k g = some (.slice (some ⟨b, 0, none⟩) 4096 cap) ∧ Bytes w b 0 s ∧ ¬ X b ∧ b < w.heap.size
  len : bl.length = n
  small : 1 ≤ n ∧ n ≤ 64
  size : ∀ s ∈ bl, s.size = 4096
  ne : d ≠ m
  xd : X d
  xm : X m
  xlt : ∀ b, X b → b < w.heap.size

theorem bytes_block {w w' : World} {b o : Nat} {s : ByteArray} (h : Bytes w b o s) (e : w'.heap[b]? = w.heap[b]?) : Bytes w' b o s := fun i hi => by
  rw [World.cell?_of_block (w := w) e]; exact h i hi

theorem DevAt.keep {w w' : World} {X F : Nat → Prop} {d m n : Nat} {left : Int} {bl : List ByteArray} (h : DevAt w X d m n left bl) (t : Touch F w w') (hF : ∀ k, F k → X k) (hd : ¬ F d) (hm : ¬ F m) : DevAt w' X d m n left bl := by
  obtain ⟨⟨ty, h1⟩, ⟨g, h2, h3⟩, h4, h5, h6, h7, h8, h9, h10⟩ := h
  refine ⟨⟨ty, t.keep h1 hd⟩, ⟨g, h2.keep t hm, fun k s hk => ?_⟩, h4, h5, h6, h7, h8, h9, fun b hb => Nat.lt_of_lt_of_le (h10 b hb) t.size⟩
  rcases h3 k s hk with h | ⟨b, cap, a1, a2, a3, a4⟩
  · exact .inl h
  · exact .inr ⟨b, cap, a1, bytes_block a2 (t.block b a4 (fun f => a3 (hF b f))), a3, Nat.lt_of_lt_of_le a4 t.size⟩

theorem DevAt.grow {w w' : World} {X X' : Nat → Prop} {d m n : Nat} {left : Int} {bl : List ByteArray} (h : DevAt w X d m n left bl) (t : Touch (fun _ => False) w w') (hX : ∀ b, X' b → b < w'.heap.size)
    (hold : ∀ b, b < w.heap.size → X' b → X b) (hd : X' d) (hm : X' m) : DevAt w' X' d m n left bl := by
  have h' := h.keep t (fun _ h => h.elim) (fun h => h) (fun h => h)
  obtain ⟨⟨ty, h1⟩, ⟨g, h2, h3⟩, h4, h5, h6, h7, h8, h9, h10⟩ := h
  refine ⟨h'.dev, ⟨g, h2.keep t (fun h => h), fun k s hk => ?_⟩, h4, h5, h6, h7, hd, hm, hX⟩
  rcases h3 k s hk with h | ⟨b, cap, a1, a2, a3, a4⟩
  · exact .inl h
  · exact .inr ⟨b, cap, a1, bytes_block a2 (t.block b a4 (fun f => f)), fun x => a3 (hold b a4 x), Nat.lt_of_lt_of_le a4 t.size⟩

theorem qMap (w : World) (r : Option Nat) : (binOp .eql 69 (.map r) (.map none)).run Try.prog w = .ok (.bool r.isNone) w :=
  run_eql_map_nil w _ _ _ r Try.underlying69
attribute [local go_sem] qMap

theorem dev_none {w : World} {X : Nat → Prop} {d m n : Nat} {left : Int} {bl : List ByteArray} (h : DevAt w X d m n left bl) :
    Calls Try.prog 29 #[.pointer (some ⟨d, 0, none⟩)] w fun e w' => e = .returned (.bool false) ∧ w = w' := by
  obtain ⟨ty, h1⟩ := h.dev
  have c1 : w.cell? ⟨d, 1, none⟩ = some (.map (some m)) := by rw [cell_of_blk h1]; rfl
  clear h h1
  go_enter Try.func29, Try.ntmps29
  go_wp2
  go_ret
  exact ⟨rfl, rfl⟩

/-- What a call that is to fail leaves. -/
theorem DevAt.failed {w : World} {X : Nat → Prop} {d m n : Nat} {left : Int} {bl : List ByteArray} (h : DevAt w X d m n left bl) (l : Int) :
    DevAt (w.setCell ⟨d, 2, none⟩ (.int .i64 l)) X d m n l bl := by
  obtain ⟨⟨ty, h1⟩, ⟨g, h2, h3⟩, h4, h5, h6, h7, h8, h9, h10⟩ := h
  have t : Touch (fun i => i = d) w (w.setCell ⟨d, 2, none⟩ (.int .i64 l)) := Touch.setCell (F := fun i => i = d) (Touch.refl _ w) (.inl rfl) _
  refine ⟨⟨ty, by rw [blk_setCell h1]; rfl⟩, ⟨g, h2.keep t (Ne.symm h7), fun k s hk => ?_⟩, h4, h5, h6, h7, h8, h9, fun b hb => Nat.lt_of_lt_of_le (h10 b hb) t.size⟩
  rcases h3 k s hk with h | ⟨b, cap, a1, a2, a3, a4⟩
  · exact .inl h
  · exact .inr ⟨b, cap, a1, bytes_block a2 (t.block b a4 (fun f => a3 (by rw [f]; exact h8))), a3, Nat.lt_of_lt_of_le a4 t.size⟩

theorem may_ok {w : World} {X : Nat → Prop} {d m n : Nat} {left : Int} {bl : List ByteArray} (h : DevAt w X d m n left bl) (k : Int) (h0 : 0 ≤ k) (hk : k < n) (hl : left ≤ 0) :
    Calls Try.prog 28 #[.pointer (some ⟨d, 0, none⟩), .int .i64 k, .bool true] w fun e w' => e = .returned (.int .i64 0) ∧ w = w' := by
  obtain ⟨ty, h1⟩ := h.dev
  have c0 : w.cell? ⟨d, 0, none⟩ = some (.int .i64 n) := by rw [cell_of_blk h1]; rfl
  have c2 : w.cell? ⟨d, 2, none⟩ = some (.int .i64 left) := by rw [cell_of_blk h1]; rfl
  have hs := h.small
  have g1 : decide (k < 0) = false := by simp; omega
  have g2 : decide ((n : Int) ≤ k) = false := by simp; omega
  have HD := Lib.hid h; clear h h1
  go_enter Try.func28, Try.ntmps28
  go_wp2_with (go_at_call 29; refine (dev_none HD.out).mono ?_; rintro e w' ⟨rfl, rfl⟩)
  go_ret
  exact ⟨rfl, rfl⟩

theorem may_fail {w : World} {X : Nat → Prop} {d m n : Nat} {left : Int} {bl : List ByteArray} (h : DevAt w X d m n left bl) (k : Int) (h0 : 0 ≤ k) (hk : k < n) (hl : 0 < left) (hl2 : left ≤ 9223372036854775807) :
    Calls Try.prog 28 #[.pointer (some ⟨d, 0, none⟩), .int .i64 k, .bool true] w fun e w' => e = .returned (.int .i64 17) ∧ w.setCell ⟨d, 2, none⟩ (.int .i64 (left - 1)) = w' := by
  obtain ⟨ty, h1⟩ := h.dev
  have c0 : w.cell? ⟨d, 0, none⟩ = some (.int .i64 n) := by rw [cell_of_blk h1]; rfl
  have c2 : w.cell? ⟨d, 2, none⟩ = some (.int .i64 left) := by rw [cell_of_blk h1]; rfl
  have f2 : w.frozen? ⟨d, 2, none⟩ = false := free_of_blk h1 2
  have hs := h.small
  have g1 : decide (k < 0) = false := by simp; omega
  have g2 : decide ((n : Int) ≤ k) = false := by simp; omega
  have HD := Lib.hid h; clear h h1
  go_enter Try.func28, Try.ntmps28
  go_wp2_with (go_at_call 29; refine (dev_none HD.out).mono ?_; rintro e w' ⟨rfl, rfl⟩)
  go_ret
  exact ⟨rfl, rfl⟩

theorem may_arg {w : World} {X : Nat → Prop} {d m n : Nat} {left : Int} {bl : List ByteArray} (h : DevAt w X d m n left bl) (k : Int) (right : Bool) (hk : k < 0 ∨ (n : Int) ≤ k ∨ right = false) :
    Calls Try.prog 28 #[.pointer (some ⟨d, 0, none⟩), .int .i64 k, .bool right] w fun e w' => e = .returned (.int .i64 2) ∧ w = w' := by
  obtain ⟨ty, h1⟩ := h.dev
  have c0 : w.cell? ⟨d, 0, none⟩ = some (.int .i64 n) := by rw [cell_of_blk h1]; rfl
  have hs := h.small
  have HD := Lib.hid h; clear h h1
  by_cases k1 : k < 0
  · have g1 : decide (k < 0) = true := by simp; omega
    clear hk
    go_enter Try.func28, Try.ntmps28
    go_wp2_with (go_at_call 29; refine (dev_none HD.out).mono ?_; rintro e w' ⟨rfl, rfl⟩)
    go_ret
    exact ⟨rfl, rfl⟩
  · have g1 : decide (k < 0) = false := by simp; omega
    by_cases k2 : (n : Int) ≤ k
    · have g2 : decide ((n : Int) ≤ k) = true := by simp; omega
      clear hk
      go_enter Try.func28, Try.ntmps28
      go_wp2_with (go_at_call 29; refine (dev_none HD.out).mono ?_; rintro e w' ⟨rfl, rfl⟩)
      go_ret
      exact ⟨rfl, rfl⟩
    · have g2 : decide ((n : Int) ≤ k) = false := by simp; omega
      obtain rfl : right = false := by rcases hk with h | h | h; omega; omega; exact h
      clear hk
      go_enter Try.func28, Try.ntmps28
      go_wp2_with (go_at_call 29; refine (dev_none HD.out).mono ?_; rintro e w' ⟨rfl, rfl⟩)
      go_ret
      exact ⟨rfl, rfl⟩

theorem dev_fail {w : World} {X : Nat → Prop} {d m n : Nat} {left : Int} {bl : List ByteArray} (h : DevAt w X d m n left bl) (l : Int) :
    Calls Try.prog 19 #[.pointer (some ⟨d, 0, none⟩), .int .i64 l] w fun e w' => e = .returned (.tuple #[]) ∧ w.setCell ⟨d, 2, none⟩ (.int .i64 l) = w' := by
  obtain ⟨ty, h1⟩ := h.dev
  have c2 : w.cell? ⟨d, 2, none⟩ = some (.int .i64 left) := by rw [cell_of_blk h1]; rfl
  have f2 : w.frozen? ⟨d, 2, none⟩ = false := free_of_blk h1 2
  have HD := Lib.hid h; clear h h1
  go_enter Try.func19, Try.ntmps19
  go_wp2_with (go_at_call 29; refine (dev_none HD.out).mono ?_; rintro e w' ⟨rfl, rfl⟩)
  go_end0
  exact ⟨rfl, rfl⟩

theorem dev_blocks {w : World} {X : Nat → Prop} {d m n : Nat} {left : Int} {bl : List ByteArray} (h : DevAt w X d m n left bl) :
    Calls Try.prog 22 #[.pointer (some ⟨d, 0, none⟩)] w fun e w' => e = .returned (.int .i64 n) ∧ w = w' := by
  obtain ⟨ty, h1⟩ := h.dev
  have c0 : w.cell? ⟨d, 0, none⟩ = some (.int .i64 n) := by rw [cell_of_blk h1]; rfl
  have HD := Lib.hid h; clear h h1
  go_enter Try.func22, Try.ntmps22
  go_wp2_with (go_at_call 29; refine (dev_none HD.out).mono ?_; rintro e w' ⟨rfl, rfl⟩)
  go_ret
  exact ⟨rfl, rfl⟩

/-- What a new device is. -/
def DevMade (n : Nat) (w : World) (e : Ending) (w' : World) : Prop :=
  ∃ d m, e = .returned (.tuple #[.pointer (some ⟨d, 0, none⟩), .int .i64 0]) ∧ Below w.heap.size w w' ∧ w.heap.size ≤ d ∧ w.heap.size ≤ m ∧ d < w'.heap.size ∧ m < w'.heap.size ∧
    ∀ X : Nat → Prop, X d → X m → (∀ b, X b → b < w'.heap.size) → DevAt w' X d m n 0 (List.replicate n zeros4096)

theorem dev_new (n : Nat) (h1 : 1 ≤ n) (h2 : n ≤ 64) (w : World) :
    Calls Try.prog 16 #[.int .i64 n] w (DevMade n w) := by
  have g1 : decide ((n : Int) < 1) = false := by simp; omega
  have g2 : decide ((n : Int) > 64) = false := by simp; omega
  have hmm := @run_makeMap Try.prog
  go_enter Try.func16, Try.ntmps16
  go_wp2
  go_ret2
  refine ⟨w.heap.size + 1, w.heap.size, rfl, ((Below.refl _ _).alloc (Nat.le_refl _) _).alloc (by simp) _, by omega, Nat.le_refl _, by simp, by simp; omega, fun X xd xm hX => ?_⟩
  have hm := IMap.made w .i64
  have hb := blk_alloc_new (w.alloc (.map #[] 0)) (Obj.cells #[Value.int IntKind.i64 ↑n, Value.map (some w.heap.size), Value.int IntKind.i64 0] 71)
  have hsz : (w.alloc (.map #[] 0)).heap.size = w.heap.size + 1 := by simp
  rw [hsz] at hb
  refine ⟨⟨_, hb⟩, ⟨[], hm.of_block (by rw [Below.heap_alloc _ _ _ (by rw [hsz]; omega)]), fun k s hk => .inl ⟨rfl, ?_⟩⟩, by simp, ⟨h1, h2⟩, ?_, by omega, xd, xm, hX⟩
  · exact List.eq_of_mem_replicate (List.mem_of_getElem? hk)
  · intro s hs; rw [List.eq_of_mem_replicate hs]; exact zeros_size

theorem byteInfo : (Try.prog.info? 5).map (fun i => (i.zero, i.size, i.bytes)) = some (some (.int .u8 0), 1, 1) := by kernel_rfl

/-- The cells of bytes. -/
def byteCells (s : ByteArray) : List Value := s.data.toList.map fun c => .int .u8 (c.toNat : Int)
theorem byteCells_length (s : ByteArray) : (byteCells s).length = s.size := by simp [byteCells]
theorem byteCells_at (s : ByteArray) (i : Nat) (h : i < s.size) : (byteCells s)[i]? = some (.int .u8 (s[i].toNat : Int)) := by
  have h' : i < s.data.toList.length := by simpa using h
  simp only [byteCells, List.getElem?_map, List.getElem?_eq_getElem h', Option.map_some]
  rfl
theorem byteCells_one (s : ByteArray) : ∀ v ∈ byteCells s, v.oneCell' = true := by
  intro v hv; obtain ⟨c, _, rfl⟩ := List.mem_map.1 hv; rfl
theorem bytes_cells {w : World} {b o : Nat} {s : ByteArray} (h : Bytes w b o s) : ∀ j u, (byteCells s)[j]? = some u → w.cell? ((⟨b, o, none⟩ : Addr).add j) = some u := by
  intro j u hj
  have hlt : j < s.size := by rw [← byteCells_length]; exact (List.getElem?_eq_some_iff.1 hj).1
  have hadd : (⟨b, o, none⟩ : Addr).add j = ⟨b, o + j, none⟩ := by unfold Addr.add; split <;> simp_all
  rw [hadd, h j hlt]; rw [byteCells_at s j hlt] at hj; exact hj
theorem bytes_of_list {w : World} {b : Nat} {cur : Array Value} {t : TypeId} {s : ByteArray} (h : w.heap[b]? = some (.cells cur t (0, 0))) (o : Nat) (e : ∀ i, i < s.size → cur[o + i]? = (byteCells s)[i]?) : Bytes w b o s := by
  intro i hi
  rw [cell_of_blk h, e i hi, byteCells_at s i hi]

theorem bytes_of_owns {w : World} {base e nb n cap : Nat} {s : ByteArray} (h : w.ownsRow base e 1 (.slice (some ⟨nb, 0, none⟩) n cap) n (byteCells s)) : Bytes w nb 0 s ∧ base ≤ nb := by
  obtain ⟨hl, h⟩ := h
  rcases h with ⟨h, _⟩ | ⟨g, c, cur, hv, hb, hg, _, _, hc, ht⟩
  · cases h
  · simp only [Value.slice.injEq, Option.some.injEq, Addr.mk.injEq] at hv
    obtain ⟨⟨rfl, _⟩, _⟩ := hv
    refine ⟨bytes_of_list hg 0 fun i hi => ?_, hb⟩
    have hi' : i < n * 1 := by rw [← hl, byteCells_length]; exact hi
    rw [← ht, List.getElem?_take_of_lt hi']
    simp

theorem DevAt.stored {w w1 w2 : World} {X : Nat → Prop} {d m n : Nat} {left : Int} {bl : List ByteArray} (h : DevAt w X d m n left bl) {k : Nat} {s : ByteArray} (hs : s.size = 4096) {g : List (Int × Value)}
    (hg : ∀ (k : Nat) s, bl[k]? = some s → (aget k g = none ∧ s = zeros4096) ∨ ∃ b cap, aget k g = some (.slice (some ⟨b, 0, none⟩) 4096 cap) ∧ Bytes w b 0 s ∧ ¬ X b ∧ b < w.heap.size)
    (t1 : Touch (fun _ => False) w w1) (t2 : Touch (fun i => i = m) w1 w2) {nb cap : Nat} (hm : IMap w2 m .i64 (aput k (.slice (some ⟨nb, 0, none⟩) 4096 cap) g))
    (hb : Bytes w1 nb 0 s) (hnb : w.heap.size ≤ nb) (hnb2 : nb < w1.heap.size) : DevAt w2 X d m n left (bl.set k s) := by
  have t1' : Touch (fun i => i = m) w w1 := t1.mono (fun _ _ h => h.elim)
  have t : Touch (fun i => i = m) w w2 := t1'.trans t2 (fun _ _ h => h)
  obtain ⟨⟨ty, h1⟩, _, h4, h5, h6, h7, h8, h9, h10⟩ := h
  have hmlt := h10 m h9
  refine ⟨⟨ty, t.keep h1 h7⟩, ⟨_, hm, fun j s' hj => ?_⟩, by simpa using h4, h5, ?_, h7, h8, h9, fun b hb => Nat.lt_of_lt_of_le (h10 b hb) t.size⟩
  · rw [aget_aput]
    rw [List.getElem?_set] at hj
    by_cases e : k = j
    · subst e
      rw [if_pos rfl] at hj
      split at hj
      · cases hj
        rw [if_pos rfl]
        exact .inr ⟨nb, cap, rfl, bytes_block hb (t2.block nb hnb2 (by omega)), fun x => by have := h10 nb x; omega, Nat.lt_of_lt_of_le hnb2 t2.size⟩
      · cases hj
    · rw [if_neg e] at hj
      rw [if_neg (by omega)]
      rcases hg j s' hj with h | ⟨b, cap, a1, a2, a3, a4⟩
      · exact .inl h
      · exact .inr ⟨b, cap, a1, bytes_block a2 (t.block b a4 (fun f => a3 (by rw [f]; exact h9))), a3, Nat.lt_of_lt_of_le a4 t.size⟩
  · intro s' hs'
    rcases List.mem_or_eq_of_mem_set hs' with h | h
    · exact h6 s' h
    · rw [h]; exact hs

/-- What a Write that goes well leaves. -/
def DevWrote (X : Nat → Prop) (d m n : Nat) (left : Int) (bl : List ByteArray) (w : World) (e : Ending) (w' : World) : Prop :=
  e = .returned (.int .i64 0) ∧ DevAt w' X d m n left bl ∧ Touch (fun i => i = m) w w'

set_option maxRecDepth 100000 in
set_option maxHeartbeats 1000000 in
theorem dev_write {w : World} {X : Nat → Prop} {d m n : Nat} {left : Int} {bl : List ByteArray} (h : DevAt w X d m n left bl) (k : Nat) (hk : k < n) (hl : left ≤ 0) (b o cap : Nat) (s : ByteArray) (hs : s.size = 4096) (hb : Bytes w b o s) :
    Calls Try.prog 18 #[.pointer (some ⟨d, 0, none⟩), .int .i64 k, .slice (some ⟨b, o, none⟩) 4096 cap] w (DevWrote X d m n left (bl.set k s) w) := by
  obtain ⟨ty, h1⟩ := h.dev
  obtain ⟨g, hm, hg⟩ := h.map
  have c1 : w.cell? ⟨d, 1, none⟩ = some (.map (some m)) := by rw [cell_of_blk h1]; rfl
  have hsm := h.small
  have hdlt := h.xlt d h.xd
  have hmlt := h.xlt m h.xm
  have HD := Lib.hid h; have H1 := Lib.hid h1; have HG := Lib.hid hg; have HM := Lib.hid hm; have HB := Lib.hid hb; have HS := Lib.hid hs
  clear h h1 hg hm hb hs
  go_enter Try.func18, Try.ntmps18
  go_wp2_with (go_at_call 28; refine (may_ok HD.out _ (by omega) (by omega) hl).mono ?_; rintro e w' ⟨rfl, rfl⟩)
  obtain ⟨i0, hi, hz0, hz1, hz2⟩ := info_parts byteInfo
  have hown0 : ((w.alloc (.cells #[] 5)).drew).ownsRow w.heap.size 5 1 (.slice (some ⟨w.heap.size, 0, none⟩) 0 0) 0 [] :=
    ⟨rfl, .inr ⟨w.heap.size, 0, #[], rfl, Nat.le_refl _, blk_alloc_new w _, Nat.le_refl _, by unfold maxLen; omega, rfl, rfl⟩⟩
  have hlen : (byteCells s).length = 4096 * 1 := by rw [byteCells_length, HS.out]
  have hblt : b < w.heap.size := by have := HB.out 0 (by rw [HS.out]; omega); exact World.block_lt_of_cell? w _ this
  have hnews : ∀ j u, (byteCells s)[j]? = some u → ((w.alloc (.cells #[] 5)).drew).cell? ((⟨b, o, none⟩ : Addr).add j) = some u :=
    bytes_cells (bytes_block HB.out (by show (w.alloc _).heap[b]? = _; exact Below.heap_alloc _ _ _ hblt))
  have HO := Lib.hid hown0; have HL := Lib.hid hlen; have HW := Lib.hid hnews
  clear hown0 hlen hnews
  go_region_held3 (fun w' => w'.cell? ⟨d, 1, none⟩ = some (.map (some m)))
    (first | go_keep | (rw [hgrow.cell_far _ (by simp; omega) (by simp [Value.ownBlock]; omega)]; assumption) | (rw [cell_of_blk (HD3.out.trans H1.out)]; rfl))
    ((refine step_append_lies _ (by rfl) _ _ _ (by rfl) w.heap.size 5 i0 _ 1 1 Try.underlying31 hi hz0 hz1 hz2 rfl (by omega) (.slice (some ⟨w.heap.size, 0, none⟩) 0 0) 0 [] (by rfl) HO.out
        ⟨b, o, none⟩ 4096 cap (byteCells s) (by rfl) HL.out HW.out (byteCells_one s) (by omega) (by unfold maxLen; omega) (by omega) (by simp) (w.heap.size + 1) (by simp) ?_; intro nb ncap w1 hown hgrow hat hlt
      have hm1 : IMap w1 m .i64 g := HM.out.of_block ((hgrow.block m (by simp; omega) (by simp [Value.ownBlock]; omega)).trans (by show (w.alloc _).heap[m]? = _; exact Below.heap_alloc _ _ _ hmlt))
      have hu := hm1.upd (P := Try.prog) (t := 69) (kt := 3) Try.underlying69 Try.underlying3 (k : Int) (.slice (some ⟨nb, 0, none⟩) (0 + 4096) ncap)
      have hrun := hu.1
      have HD3 := Lib.hid ((hu.2.2.block d (Nat.lt_of_lt_of_le (by simp; omega) hgrow.size) HD.out.ne).trans ((hgrow.block d (by simp; omega) (by simp [Value.ownBlock]; omega)).trans (by show (w.alloc _).heap[d]? = _; exact Below.heap_alloc _ _ _ hdlt)))
      have HU := Lib.hid hu.2
      clear hu hm1))
  go_wp2
  go_ret
  obtain ⟨hb1, hnb⟩ := bytes_of_owns hown
  have t1 : Touch (fun _ => False) w w1 := (((Touch.refl _ w).alloc _).drew).grown hgrow (fun q hq => by simp [Value.ownBlock] at hq; omega)
  have hst := HD.out.stored HS.out HG.out t1 HU.out.2 HU.out.1 hb1 hnb hlt
  exact ⟨rfl, hst, (t1.mono (fun _ _ h => h.elim)).trans HU.out.2 (fun _ _ h => h)⟩

theorem dev_write_fail {w : World} {X : Nat → Prop} {d m n : Nat} {left : Int} {bl : List ByteArray} (h : DevAt w X d m n left bl) (k : Int) (h0 : 0 ≤ k) (hk : k < n) (hl : 0 < left) (hl2 : left ≤ 9223372036854775807) (a : Option Addr) (cap : Nat) :
    Calls Try.prog 18 #[.pointer (some ⟨d, 0, none⟩), .int .i64 k, .slice a 4096 cap] w fun e w' => e = .returned (.int .i64 17) ∧ w.setCell ⟨d, 2, none⟩ (.int .i64 (left - 1)) = w' := by
  have HD := Lib.hid h; clear h
  go_enter Try.func18, Try.ntmps18
  go_wp2_with (go_at_call 28; refine (may_fail HD.out _ h0 hk hl hl2).mono ?_; rintro e w' ⟨rfl, rfl⟩)
  go_ret
  exact ⟨rfl, rfl⟩

theorem dev_write_arg {w : World} {X : Nat → Prop} {d m n : Nat} {left : Int} {bl : List ByteArray} (h : DevAt w X d m n left bl) (k : Int) (a : Option Addr) (len cap : Nat) (hk : k < 0 ∨ (n : Int) ≤ k ∨ len ≠ 4096) :
    Calls Try.prog 18 #[.pointer (some ⟨d, 0, none⟩), .int .i64 k, .slice a len cap] w fun e w' => e = .returned (.int .i64 2) ∧ w = w' := by
  have hk' : k < 0 ∨ (n : Int) ≤ k ∨ ((len : Int) == 4096) = false := by
    rcases hk with h | h | h
    · exact .inl h
    · exact .inr (.inl h)
    · exact .inr (.inr (by simp; omega))
  have HD := Lib.hid h; have HK := Lib.hid hk'; clear h hk hk'
  go_enter Try.func18, Try.ntmps18
  go_wp2_with (go_at_call 28; refine (may_arg HD.out _ _ HK.out).mono ?_; rintro e w' ⟨rfl, rfl⟩)
  all_goals go_ret
  all_goals exact ⟨rfl, rfl⟩

/-- A row of 4096 bytes 0. -/
def zeroRow : Array Value := madeCells #[.int .u8 0] 4096
theorem zeroRow_size : zeroRow.size = 4096 := size_madeCells _ _
theorem zeroRow_at (i : Nat) (h : i < 4096) : zeroRow[i]? = some (.int .u8 0) := by
  unfold zeroRow madeCells
  simp [h, Nat.mod_one]

theorem run_make4096 (w : World) : (Instr.makeSlice 31 (.int .i64 4096) (.int .i64 4096)).run Try.prog w = .ok (.slice (some ⟨w.heap.size, 0, none⟩) 4096 4096) (w.alloc (.cells zeroRow 5)) := by
  obtain ⟨i0, hi, hz0, hz1, hz2⟩ := info_parts byteInfo
  have := run_make (P := Try.prog) w 31 5 i0 _ Try.underlying31 hi hz0 .i64 .i64 4096 4096 (by omega) (by omega) (by rw [hz2]; omega) (by omega)
  rw [this, hz1]; rfl

theorem bytes_zeroRow {w : World} {b : Nat} {t : TypeId} (h : w.heap[b]? = some (.cells zeroRow t (0, 0))) : Bytes w b 0 zeros4096 :=
  bytes_of_list h 0 fun i hi => by
    rw [byteCells_at _ _ hi, zeros_at, Nat.zero_add, zeroRow_at i (by rw [zeros_size] at hi; exact hi)]; rfl

theorem byteSize : (Try.prog.info? 5).map (·.size) = some 1 := by kernel_rfl

theorem copy_bytes (w : World) (b cap : Nat) (s : ByteArray) (hs : s.size = 4096) (hb : Bytes w b 0 s) :
    ∃ w2, (∀ ty, (Builtin.copy_ #[31, 31] ty #[.slice (some ⟨w.heap.size, 0, none⟩) 4096 4096, .slice (some ⟨b, 0, none⟩) 4096 cap]).run Try.prog (w.alloc (.cells zeroRow 5)) = .ok (goInt 4096) w2) ∧
      Below w.heap.size w w2 ∧ Bytes w2 w.heap.size 0 s ∧ w2.heap.size = w.heap.size + 1 := by
  have hblt : b < w.heap.size := by have := hb 0 (by rw [hs]; omega); exact World.block_lt_of_cell? w _ this
  have hnew := blk_alloc_new w (.cells zeroRow 5)
  have hl : (byteCells s).length = 4096 := by rw [byteCells_length, hs]
  refine ⟨(w.alloc (.cells zeroRow 5)).setRow w.heap.size (byteCells s).toArray, fun ty => ?_, ?_, ?_, ?_⟩
  · have := run_copy_row Try.prog (w.alloc (.cells zeroRow 5)) 31 31 ty 5 w.heap.size 0 4096 4096 ⟨b, 0, none⟩ 4096 cap zeroRow _ (byteCells s)
      Try.underlying31 byteSize hnew (by rw [hl]; rfl) (bytes_cells (bytes_block hb (Below.heap_alloc _ _ _ hblt))) (by rw [hl, zeroRow_size]; omega) (byteCells_one s)
    rw [this, hl]
    congr 2
    simp [zeroRow_size, List.drop_of_length_le]
  · have a1 := (Below.refl w.heap.size w).alloc (Nat.le_refl _) (.cells zeroRow 5)
    refine a1.trans ⟨rfl, rfl, rfl, by simp [World.setRow], fun k hk => ?_⟩
    simp only [World.setRow, Array.getElem?_modify]
    rw [if_neg (by omega)]
  · refine bytes_of_list (cur := (byteCells s).toArray) (t := 5) ?_ 0 fun i hi => by simp
    simp only [World.setRow, Array.getElem?_modify, hnew]
    simp
  · simp [World.setRow]

/-- What a Read that goes well tells. -/
def DevRead (s : ByteArray) (w : World) (e : Ending) (w' : World) : Prop :=
  ∃ r, e = .returned (.tuple #[.slice (some ⟨r, 0, none⟩) 4096 4096, .int .i64 0]) ∧ Bytes w' r 0 s ∧ Below w.heap.size w w' ∧ w.heap.size ≤ r ∧ r < w'.heap.size

theorem zeroSlice (w : World) : (zeroValue 31).run Try.prog w = .ok (.slice none 0 0) w := by kernel_rfl

theorem dev_read {w : World} {X : Nat → Prop} {d m n : Nat} {left : Int} {bl : List ByteArray} (h : DevAt w X d m n left bl) (k : Nat) (hk : k < n) (hl : left ≤ 0) (s : ByteArray) (hs : bl[k]? = some s) :
    Calls Try.prog 20 #[.pointer (some ⟨d, 0, none⟩), .int .i64 k] w (DevRead s w) := by
  obtain ⟨ty, h1⟩ := h.dev
  obtain ⟨g, hm, hg⟩ := h.map
  have c1 : w.cell? ⟨d, 1, none⟩ = some (.map (some m)) := by rw [cell_of_blk h1]; rfl
  have hmlt := h.xlt m h.xm
  have hmk := run_make4096
  have hdlt := h.xlt d h.xd
  have c1' : (w.alloc (.cells zeroRow 5)).cell? ⟨d, 1, none⟩ = some (.map (some m)) := by rw [cell_of_blk (blk_alloc_old h1 _)]; rfl
  have hlk : ∀ W : World, W.heap[m]? = w.heap[m]? → (Instr.lookup 69 (.map (some m)) (.int .i64 k) false).run Try.prog W = .ok ((aget k g).getD (.slice none 0 0)) W :=
    fun W e => (hm.of_block e).lookup Try.underlying69 Try.underlying3 (zeroSlice W) k
  have hs4 := h.size s (List.mem_of_getElem? hs)
  have h2 := hg k s hs
  have hlk1 := hlk (w.alloc (.cells zeroRow 5)) (Below.heap_alloc _ _ _ hmlt)
  have HD := Lib.hid h; clear h h1 hg hm hlk hs
  rcases h2 with ⟨hno, rfl⟩ | ⟨b, cap, hyes, hb, _, _⟩
  · rw [hno] at hlk1
    simp only [Option.getD_none] at hlk1
    have hcp : ∀ ty, (Builtin.copy_ #[31, 31] ty #[.slice (some ⟨w.heap.size, 0, none⟩) 4096 4096, .slice none 0 0]).run Try.prog (w.alloc (.cells zeroRow 5)) = .ok (goInt 0) (w.alloc (.cells zeroRow 5)) :=
      fun ty => run_copy_nil Try.prog _ _ _ ty 5 _ _ _ Try.underlying31 (by rw [byteSize]; rfl)
    clear hno hs4
    go_enter Try.func20, Try.ntmps20
    go_wp2_with (go_at_call 28; refine (may_ok HD.out _ (by omega) (by omega) hl).mono ?_; rintro e w' ⟨rfl, rfl⟩)
    go_ret2
    exact ⟨_, rfl, bytes_zeroRow (blk_alloc_new w _), (Below.refl _ _).alloc (Nat.le_refl _) _, Nat.le_refl _, by simp⟩
  · rw [hyes] at hlk1
    simp only [Option.getD_some] at hlk1
    obtain ⟨w2, hcp, hbl, hby, hsz⟩ := copy_bytes w b cap s hs4 hb
    have HBL := Lib.hid hbl; have HBY := Lib.hid hby; have HSZ := Lib.hid hsz
    clear hyes hs4 hb hbl hby hsz
    go_enter Try.func20, Try.ntmps20
    go_wp2_with (go_at_call 28; refine (may_ok HD.out _ (by omega) (by omega) hl).mono ?_; rintro e w' ⟨rfl, rfl⟩)
    go_ret2
    exact ⟨_, rfl, HBY.out, HBL.out, Nat.le_refl _, by rw [HSZ.out]; omega⟩

theorem dev_read_fail {w : World} {X : Nat → Prop} {d m n : Nat} {left : Int} {bl : List ByteArray} (h : DevAt w X d m n left bl) (k : Int) (h0 : 0 ≤ k) (hk : k < n) (hl : 0 < left) (hl2 : left ≤ 9223372036854775807) :
    Calls Try.prog 20 #[.pointer (some ⟨d, 0, none⟩), .int .i64 k] w fun e w' => e = .returned (.tuple #[.slice none 0 0, .int .i64 17]) ∧ w.setCell ⟨d, 2, none⟩ (.int .i64 (left - 1)) = w' := by
  have HD := Lib.hid h; clear h
  go_enter Try.func20, Try.ntmps20
  go_wp2_with (go_at_call 28; refine (may_fail HD.out _ h0 hk hl hl2).mono ?_; rintro e w' ⟨rfl, rfl⟩)
  go_ret2
  exact ⟨rfl, rfl⟩

theorem dev_read_arg {w : World} {X : Nat → Prop} {d m n : Nat} {left : Int} {bl : List ByteArray} (h : DevAt w X d m n left bl) (k : Int) (hk : k < 0 ∨ (n : Int) ≤ k) :
    Calls Try.prog 20 #[.pointer (some ⟨d, 0, none⟩), .int .i64 k] w fun e w' => e = .returned (.tuple #[.slice none 0 0, .int .i64 2]) ∧ w = w' := by
  have hk' : k < 0 ∨ (n : Int) ≤ k ∨ true = false := by omega
  have HD := Lib.hid h; have HK := Lib.hid hk'; clear h hk hk'
  go_enter Try.func20, Try.ntmps20
  go_wp2_with (go_at_call 28; refine (may_arg HD.out _ _ HK.out).mono ?_; rintro e w' ⟨rfl, rfl⟩)
  go_ret2
  exact ⟨rfl, rfl⟩

end Go.Proofs.Ytcdfidojddlgpaa
