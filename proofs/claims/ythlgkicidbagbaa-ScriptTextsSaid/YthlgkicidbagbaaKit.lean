/- Small laws over the world of blocks, of no program: what a call may touch; a map whose keys are whole numbers, by its entries in their order. -/
import Derived.WalkKit
import Derived.WalkSpells
import Derived.ProofKit
import Derived.Lib.Hide
import Derived.Laws.MakeOwn
import Derived.ChangeMaps5
import Derived.Deep.Draws
import Derived.Laws.BitsAllLaws
import Derived.Laws.BitsLemmas
namespace Go.Proofs.Ythlgkicidbagbaa
open Go Go.RowKit Go.ChangeMaps

/-! ### Bits -/
theorem i64_mask (i : Nat) (hi : i < 63) (x : Int) : bits .and .i64 x (((2 ^ i - 1 : Nat)) : Int) = x % ((2 ^ i : Nat) : Int) := by
  have h2 : (BitVec.ofInt 64 x).toNat = (x % 18446744073709551616).toNat := by simp [BitVec.toNat_ofInt]
  have hp : 2 ^ i ≤ 2 ^ 62 := Nat.pow_le_pow_right (by omega) (by omega)
  have h3 : (BitVec.ofInt 64 ((2 ^ i - 1 : Nat) : Int)).toNat = 2 ^ i - 1 := by
    rw [BitVec.toNat_ofInt]; omega
  have hd : (2 ^ i : Nat) ∣ 18446744073709551616 := by
    rw [show (18446744073709551616 : Nat) = 2 ^ 64 from rfl]; exact Nat.pow_dvd_pow 2 (by omega)
  have hpos : 0 < 2 ^ i := Nat.two_pow_pos i
  have h4 : (BitVec.ofInt 64 x &&& BitVec.ofInt 64 ((2 ^ i - 1 : Nat) : Int)).toNat = (x % 18446744073709551616).toNat % 2 ^ i := by
    rw [BitVec.toNat_and, h2, h3, Nat.and_two_pow_sub_one_eq_mod]
  have h5 : (((x % 18446744073709551616).toNat % 2 ^ i : Nat) : Int) = x % ((2 ^ i : Nat) : Int) := by
    rw [Int.natCast_emod, Int.toNat_of_nonneg (Int.emod_nonneg _ (by decide))]
    exact Int.emod_emod_of_dvd x (Int.natCast_dvd_natCast.2 hd : ((2 ^ i : Nat) : Int) ∣ ((18446744073709551616 : Nat) : Int))
  show IntKind.i64.wrap ((BitVec.ofInt 64 x &&& BitVec.ofInt 64 ((2 ^ i - 1 : Nat) : Int)).toNat : Int) = _
  rw [h4, h5, IntKind.wrap_i64]
  have := Int.emod_nonneg x (b := ((2 ^ i : Nat) : Int)) (by omega)
  have := Int.emod_lt_of_pos x (b := ((2 ^ i : Nat) : Int)) (by omega)
  omega
theorem i64_and4095 (x : Int) : bits .and .i64 x 4095 = x % 4096 := i64_mask 12 (by omega) x
theorem i64_and7 (x : Int) : bits .and .i64 x 7 = x % 8 := i64_mask 3 (by omega) x
theorem i64_and1 (x : Int) : bits .and .i64 x 1 = x % 2 := i64_mask 1 (by omega) x

/-! ### What a call may touch -/
/-- Of w's blocks none but those in F is another one in w'. -/
structure Touch (F : Nat → Prop) (w w' : World) : Prop where
  os : w'.os = w.os
  tape : w'.tape = w.tape
  output : w'.output = w.output
  size : w.heap.size ≤ w'.heap.size
  block : ∀ k, k < w.heap.size → ¬ F k → w'.heap[k]? = w.heap[k]?

theorem Touch.refl (F : Nat → Prop) (w : World) : Touch F w w := ⟨rfl, rfl, rfl, Nat.le_refl _, fun _ _ _ => rfl⟩
theorem Touch.trans {F G : Nat → Prop} {a b c : World} (h : Touch F a b) (k : Touch G b c) (hG : ∀ i, i < a.heap.size → G i → F i) : Touch F a c :=
  ⟨k.os.trans h.os, k.tape.trans h.tape, k.output.trans h.output, Nat.le_trans h.size k.size,
   fun i hi hF => (k.block i (Nat.lt_of_lt_of_le hi h.size) (fun g => hF (hG i hi g))).trans (h.block i hi hF)⟩
theorem Touch.mono {F G : Nat → Prop} {a b : World} (h : Touch F a b) (hG : ∀ i, i < a.heap.size → F i → G i) : Touch G a b :=
  ⟨h.os, h.tape, h.output, h.size, fun i hi hF => h.block i hi (fun g => hF (hG i hi g))⟩
theorem Touch.drew {F : Nat → Prop} {a b : World} (h : Touch F a b) : Touch F a b.drew := ⟨h.os, h.tape, h.output, h.size, h.block⟩
theorem Touch.drewN {F : Nat → Prop} {a b : World} (h : Touch F a b) (n : Nat) : Touch F a (b.drewN n) := ⟨h.os, h.tape, h.output, h.size, h.block⟩
theorem Touch.alloc {F : Nat → Prop} {a b : World} (h : Touch F a b) (o : Obj) : Touch F a (b.alloc o) :=
  h.trans (G := fun _ => False) ⟨rfl, rfl, rfl, by simp, fun k hk _ => Below.heap_alloc _ _ _ hk⟩ (fun _ _ f => f.elim)
theorem Touch.setCell {F : Nat → Prop} {a b : World} (h : Touch F a b) {p : Addr} (hp : F p.block ∨ a.heap.size ≤ p.block) (u : Value) : Touch F a (b.setCell p u) :=
  h.trans (G := fun i => i = p.block) ⟨rfl, rfl, rfl, by simp [World.setCell], fun k _ hk => Below.heap_setCell _ _ _ _ hk⟩
    (fun i hi e => by subst e; rcases hp with hp | hp; exact hp; omega)
theorem Touch.below {w w' : World} {F : Nat → Prop} (h : Touch F w w') (hF : ∀ i, i < w.heap.size → ¬ F i) : Below w.heap.size w w' :=
  ⟨h.os, h.tape, h.output, h.size, fun k hk => h.block k hk (hF k hk)⟩
theorem Touch.of_below {w w' : World} (h : Below w.heap.size w w') (F : Nat → Prop) : Touch F w w' :=
  ⟨h.os, h.tape, h.output, h.size, fun k hk _ => h.block k hk⟩
theorem Touch.of_grown {w w' : World} {row : Option Nat} (h : w.grownBy w' row) : Touch (fun i => row = some i) w w' :=
  ⟨h.os, h.tape, h.output, h.size, fun k hk hF => h.block k hk (fun e => hF e.symm)⟩
theorem Touch.grown {F : Nat → Prop} {a w w' : World} {row : Option Nat} (h : Touch F a w) (hg : w.grownBy w' row) (hr : ∀ k, row = some k → F k ∨ a.heap.size ≤ k) : Touch F a w' :=
  h.trans (Touch.of_grown hg) (fun i hi e => by rcases hr i e with h | h; exact h; omega)

theorem blk_lt {w : World} {b : Nat} {o : Obj} (h : w.heap[b]? = some o) : b < w.heap.size := by
  rcases Nat.lt_or_ge b w.heap.size with h1 | h1
  · exact h1
  · rw [Array.getElem?_eq_none h1] at h; cases h

theorem Touch.keep {F : Nat → Prop} {w w' : World} (h : Touch F w w') {b : Nat} {o : Obj} (hb : w.heap[b]? = some o) (hF : ¬ F b) : w'.heap[b]? = some o :=
  (h.block b (blk_lt hb) hF).trans hb

theorem cell_of_blk {w : World} {b : Nat} {c : Array Value} {t : TypeId} {fr : Nat × Nat} (h : w.heap[b]? = some (.cells c t fr)) (o : Nat) : w.cell? ⟨b, o, none⟩ = c[o]? := by
  simp [World.cell?, h]
theorem free_of_blk {w : World} {b : Nat} {c : Array Value} {t : TypeId} (h : w.heap[b]? = some (.cells c t (0, 0))) (o : Nat) : w.frozen? ⟨b, o, none⟩ = false := by
  simp [World.frozen?, h]
theorem blk_setCell {w : World} {b : Nat} {c : Array Value} {t : TypeId} {fr : Nat × Nat} (h : w.heap[b]? = some (.cells c t fr)) (o : Nat) (v : Value) :
    (w.setCell ⟨b, o, none⟩ v).heap[b]? = some (.cells (c.setIfInBounds o v) t fr) := by
  simp [World.setCell, Array.getElem?_modify, h]
theorem blk_setCell_ne {w : World} {b : Nat} {a : Addr} (hne : b ≠ a.block) (v : Value) : (w.setCell a v).heap[b]? = w.heap[b]? := Below.heap_setCell _ _ _ _ hne
theorem blk_alloc_new (w : World) (o : Obj) : (w.alloc o).heap[w.heap.size]? = some o := (MapKept.heap_alloc w _).1
theorem blk_alloc_new' (w : World) (o : Obj) (H : Nat) (hH : w.heap.size = H) : (w.alloc o).heap[H]? = some o := by subst hH; exact blk_alloc_new w o
theorem blk_alloc_old {w : World} {b : Nat} {x : Obj} (h : w.heap[b]? = some x) (o : Obj) : (w.alloc o).heap[b]? = some x :=
  (Below.heap_alloc _ _ _ (blk_lt h)).trans h

/-- Behind a call that makes blocks alone: all old cells read as they did. -/
theorem bcell {W w1 : World} (hb : Below W.heap.size W w1) : (∀ b o, b < W.heap.size → w1.cell? ⟨b, o, none⟩ = W.cell? ⟨b, o, none⟩) ∧ (∀ b o, b < W.heap.size → w1.frozen? ⟨b, o, none⟩ = W.frozen? ⟨b, o, none⟩) :=
  ⟨fun b o h => hb.cell (p := ⟨b, o, none⟩) h, fun b o h => hb.frozen (p := ⟨b, o, none⟩) h⟩

/-- The world under a letter, with what is to be known of it. -/
theorem wpList_world {P : Program} {ops : Array Oper} {Q : Exit → Act → World → Prop} {l : List Oper} {a : Act} {w : World} (I : World → Prop) (hI : I w) (h : ∀ W, I W → wpList P ops Q l a W) : wpList P ops Q l a w := h w hI
theorem codeWp_world {P : Program} {c : Code} {Q : Exit → Act → World → Prop} {a : Act} {w : World} (I : World → Prop) (hI : I w) (h : ∀ W, I W → c.wp P Q a W) : c.wp P Q a w := h w hI

/-- A new row without elements. -/
theorem ownsRow_empty (W : World) (base e size H : Nat) (hH : W.heap.size = H) (hb : base ≤ H) : (W.alloc (.cells #[] e)).ownsRow base e size (.slice (some ⟨H, 0, none⟩) 0 0) 0 [] := by
  subst hH
  exact ⟨by simp, .inr ⟨W.heap.size, 0, #[], rfl, hb, blk_alloc_new W _, Nat.le_refl _, by unfold maxLen; omega, by simp, by simp⟩⟩

/-! ### A map whose keys are whole numbers -/
/-- What a key has; and where. -/
def aget (k : Int) : List (Int × Value) → Option Value
  | [] => none
  | p :: r => if k = p.1 then some p.2 else aget k r
def aidx (k : Int) : List (Int × Value) → Nat → Option (Nat × Value)
  | [], _ => none
  | p :: r, i => if k = p.1 then some (i, p.2) else aidx k r (i + 1)
def aput (k : Int) (v : Value) : List (Int × Value) → List (Int × Value)
  | [] => [(k, v)]
  | p :: r => if k = p.1 then (k, v) :: r else p :: aput k v r
def adel (k : Int) : List (Int × Value) → List (Int × Value)
  | [] => []
  | p :: r => if k = p.1 then r else p :: adel k r

/-- Block m of w is a map with keys of the kind K, whose entries are g, in their order. -/
structure IMap (w : World) (m : Nat) (K : IntKind) (g : List (Int × Value)) : Prop where
  obj : ∃ es clock, w.heap[m]? = some (.map es clock) ∧ es.toList.map (fun e => (e.key, e.val)) = g.map (fun p => (Value.int K p.1, p.2)) ∧ (es.toList.map (·.born)).Nodup ∧ ∀ e ∈ es.toList, e.born < clock
  keys : (g.map (·.1)).Nodup

theorem IMap.of_block {w w' : World} {m : Nat} {K : IntKind} {g : List (Int × Value)} (h : IMap w m K g) (e : w'.heap[m]? = w.heap[m]?) : IMap w' m K g := by
  obtain ⟨⟨es, c, h1, h2⟩, h3⟩ := h
  exact ⟨⟨es, c, e.trans h1, h2⟩, h3⟩
theorem IMap.lt {w : World} {m : Nat} {K : IntKind} {g : List (Int × Value)} (h : IMap w m K g) : m < w.heap.size := by
  obtain ⟨⟨es, c, h1, _⟩, _⟩ := h; exact blk_lt h1
theorem IMap.keep {F : Nat → Prop} {w w' : World} {m : Nat} {K : IntKind} {g : List (Int × Value)} (h : IMap w m K g) (t : Touch F w w') (hF : ¬ F m) : IMap w' m K g :=
  h.of_block (t.block m h.lt hF)
theorem IMap.made (w : World) (K : IntKind) : IMap (w.alloc (.map #[] 0)) w.heap.size K [] :=
  ⟨⟨#[], 0, blk_alloc_new w _, rfl, List.nodup_nil, by simp⟩, List.nodup_nil⟩

theorem aidx_none {k : Int} : ∀ {g : List (Int × Value)} {i : Nat}, aidx k g i = none ↔ aget k g = none
  | [], _ => by simp [aidx, aget]
  | p :: r, i => by
    unfold aidx aget; split
    · simp
    · exact aidx_none
theorem aidx_some {k : Int} : ∀ {g : List (Int × Value)} {i j : Nat} {v : Value}, aidx k g i = some (j, v) → aget k g = some v ∧ ∃ n, j = i + n ∧ g[n]? = some (k, v)
  | [], _, _, _, h => by simp [aidx] at h
  | p :: r, i, j, v, h => by
    unfold aidx at h; unfold aget; split at h
    · rename_i e; cases h; rw [if_pos e]; exact ⟨rfl, 0, rfl, by simp [e]⟩
    · rename_i e; rw [if_neg e]
      obtain ⟨h1, n, h2, h3⟩ := aidx_some h
      exact ⟨h1, n + 1, by omega, by simpa using h3⟩
theorem aget_none {k : Int} : ∀ {g : List (Int × Value)}, aget k g = none ↔ k ∉ g.map (·.1)
  | [] => by simp [aget]
  | p :: r => by
    unfold aget; split
    · rename_i e; simp [e]
    · rename_i e; rw [aget_none]; simp [e]
theorem aget_mem {k : Int} {v : Value} : ∀ {g : List (Int × Value)}, aget k g = some v → (k, v) ∈ g
  | [], h => by simp [aget] at h
  | p :: r, h => by
    unfold aget at h; split at h
    · rename_i e; cases h; rw [e]; exact List.mem_cons_self
    · exact List.mem_cons_of_mem _ (aget_mem h)
theorem aget_of_mem {k : Int} {v : Value} : ∀ {g : List (Int × Value)}, (g.map (·.1)).Nodup → (k, v) ∈ g → aget k g = some v
  | [], _, h => by simp at h
  | p :: r, hn, h => by
    rw [List.map_cons, List.nodup_cons] at hn
    unfold aget
    rcases List.mem_cons.1 h with e | e
    · rw [if_pos (by rw [← e]), ← e]
    · rw [if_neg ?_]; exact aget_of_mem hn.2 e
      intro e2; exact hn.1 (by rw [← e2]; exact List.mem_map.2 ⟨_, e, rfl⟩)
theorem aput_new {k : Int} {v : Value} : ∀ {g : List (Int × Value)}, aget k g = none → aput k v g = g ++ [(k, v)]
  | [], _ => rfl
  | p :: r, h => by
    unfold aget at h; unfold aput; split at h
    · cases h
    · rename_i e; rw [if_neg e, aput_new h]; rfl
theorem aput_old {k : Int} {v u : Value} : ∀ {g : List (Int × Value)} {n : Nat}, (g.map (·.1)).Nodup → g[n]? = some (k, u) → aput k v g = g.set n (k, v)
  | [], _, _, h => by simp at h
  | p :: r, 0, _, h => by simp at h; subst h; simp [aput]
  | p :: r, n + 1, hn, h => by
    rw [List.map_cons, List.nodup_cons] at hn
    have h' : r[n]? = some (k, u) := by simpa using h
    unfold aput
    rw [if_neg ?_, aput_old hn.2 h']; rfl
    intro e; exact hn.1 (by rw [← e]; exact List.mem_map.2 ⟨_, List.mem_of_getElem? h', rfl⟩)
theorem aget_aput (k j : Int) (v : Value) : ∀ g : List (Int × Value), aget j (aput k v g) = if j = k then some v else aget j g
  | [] => by simp [aput, aget]
  | p :: r => by
    unfold aput; split
    · rename_i e; subst e; simp only [aget]; split <;> simp_all
    · rename_i e
      simp only [aget]
      split
      · rename_i e2; subst e2; rw [if_neg (by intro e3; exact e e3.symm)]
      · exact aget_aput k j v r
theorem aput_keys (k : Int) (v : Value) : ∀ g : List (Int × Value), ∀ x, x ∈ (aput k v g).map (·.1) ↔ x = k ∨ x ∈ g.map (·.1)
  | [], x => by simp [aput]
  | p :: r, x => by
    unfold aput; split
    · rename_i e; simp only [List.map_cons, List.mem_cons, e]; grind
    · simp only [List.map_cons, List.mem_cons, aput_keys k v r x]; grind
theorem aput_nodup (k : Int) (v : Value) : ∀ g : List (Int × Value), (g.map (·.1)).Nodup → ((aput k v g).map (·.1)).Nodup
  | [], _ => by simp [aput]
  | p :: r, h => by
    rw [List.map_cons, List.nodup_cons] at h
    unfold aput; split
    · rename_i e; rw [List.map_cons, List.nodup_cons, e]; exact h
    · rename_i e
      rw [List.map_cons, List.nodup_cons, aput_keys]
      exact ⟨fun x => by rcases x with x | x; exact e x.symm; exact h.1 x, aput_nodup k v r h.2⟩
theorem aget_adel {k : Int} (j : Int) : ∀ {g : List (Int × Value)}, (g.map (·.1)).Nodup → aget j (adel k g) = if j = k then none else aget j g
  | [], _ => by simp [adel, aget]
  | p :: r, h => by
    rw [List.map_cons, List.nodup_cons] at h
    unfold adel; split
    · rename_i e; subst e
      split
      · rename_i e; subst e; exact aget_none.2 h.1
      · rename_i e; simp only [aget]; rw [if_neg e]
    · rename_i e
      simp only [aget]
      split
      · rename_i e2; subst e2; rw [if_neg (by intro e3; exact e e3.symm)]
      · exact aget_adel j h.2
theorem adel_none {k : Int} : ∀ {g : List (Int × Value)}, aget k g = none → adel k g = g
  | [], _ => rfl
  | p :: r, h => by
    unfold aget at h; unfold adel; split at h
    · cases h
    · rename_i e; rw [if_neg e, adel_none h]
theorem adel_old {k : Int} {u : Value} : ∀ {g : List (Int × Value)} {n : Nat}, (g.map (·.1)).Nodup → g[n]? = some (k, u) → adel k g = g.eraseIdx n
  | [], _, _, h => by simp at h
  | p :: r, 0, _, h => by simp at h; subst h; simp [adel]
  | p :: r, n + 1, hn, h => by
    rw [List.map_cons, List.nodup_cons] at hn
    have h' : r[n]? = some (k, u) := by simpa using h
    unfold adel
    rw [if_neg ?_, adel_old hn.2 h']; rfl
    intro e; exact hn.1 (by rw [← e]; exact List.mem_map.2 ⟨_, List.mem_of_getElem? h', rfl⟩)

theorem eraseIdx_map' {α β : Type} (f : α → β) : ∀ (l : List α) (n : Nat), (l.map f).eraseIdx n = (l.eraseIdx n).map f
  | [], _ => by simp
  | a :: l, 0 => by simp
  | a :: l, n + 1 => by simp [eraseIdx_map' f l n]

theorem findNow_int (K : IntKind) (k : Int) : ∀ (es : List MapEntry) (g : List (Int × Value)) (i : Nat), es.map (fun e => (e.key, e.val)) = g.map (fun p => (Value.int K p.1, p.2)) →
    Instr.findNow (.int K) (.int K k) es i = some (aidx k g i)
  | [], g, i, h => by cases g with
    | nil => simp [Instr.findNow, aidx]
    | cons _ _ => simp at h
  | e :: es, g, i, h => by cases g with
    | nil => simp at h
    | cons p r =>
      simp only [List.map_cons, List.cons.injEq, Prod.mk.injEq] at h
      obtain ⟨⟨h1, h2⟩, h3⟩ := h
      by_cases hk : k = p.1
      · simp [Instr.findNow, Instr.sameNow, aidx, h1, h2, hk]
      · have hkb : (k == p.1) = false := by simpa using hk
        simp [Instr.findNow, Instr.sameNow, aidx, h1, hk, hkb, findNow_int K k es r (i + 1) h3]

section
variable {P : Program} {w : World} {m : Nat} {K : IntKind} {g : List (Int × Value)} {t kt e : TypeId}

theorem run_check (hk : P.underlying kt = some (.int K)) (em : Bool) (k : Int) (w : World) : (Instr.checkKey em 10000 kt (.int K k)).run P w = .ok () w := by
  have h : ∀ n : Nat, (Instr.checkKey em (n + 1) kt (.int K k)).run P w = .ok () w := fun n => by simp [Instr.checkKey, run_underlying hk]
  exact h 9999

theorem IMap.lookup (h : IMap w m K g) (ht : P.underlying t = some (.map kt e)) (hk : P.underlying kt = some (.int K)) {z : Value} (hz : (zeroValue e).run P w = .ok z w) (k : Int) :
    (Instr.lookup t (.map (some m)) (.int K k) false).run P w = .ok ((aget k g).getD z) w := by
  obtain ⟨⟨es, c, h1, h2, _⟩, _⟩ := h
  have hf := findNow_int K k es.toList g 0 h2
  cases hx : aidx k g 0 with
  | none =>
    have := aidx_none.1 hx
    simp [Instr.lookup, run_underlying ht, MapKept.run_getObj_map h1, run_check hk, Instr.findKey, run_underlying hk, hf, hx, hz, this]
  | some y =>
    obtain ⟨j, v⟩ := y
    have := (aidx_some hx).1
    simp [Instr.lookup, run_underlying ht, MapKept.run_getObj_map h1, run_check hk, Instr.findKey, run_underlying hk, hf, hx, this]

theorem IMap.lookup_ok (h : IMap w m K g) (ht : P.underlying t = some (.map kt e)) (hk : P.underlying kt = some (.int K)) {z : Value} (hz : (zeroValue e).run P w = .ok z w) (k : Int) :
    (Instr.lookup t (.map (some m)) (.int K k) true).run P w = .ok (.tuple #[(aget k g).getD z, .bool (aget k g).isSome]) w := by
  obtain ⟨⟨es, c, h1, h2, _⟩, _⟩ := h
  have hf := findNow_int K k es.toList g 0 h2
  cases hx : aidx k g 0 with
  | none =>
    have := aidx_none.1 hx
    simp [Instr.lookup, run_underlying ht, MapKept.run_getObj_map h1, run_check hk, Instr.findKey, run_underlying hk, hf, hx, hz, this]
  | some y =>
    obtain ⟨j, v⟩ := y
    have := (aidx_some hx).1
    simp [Instr.lookup, run_underlying ht, MapKept.run_getObj_map h1, run_check hk, Instr.findKey, run_underlying hk, hf, hx, this]

theorem map_set_entries (es : List MapEntry) (g : List (Int × Value)) (n : Nat) (k : Int) (v : Value) (e0 : MapEntry) (h : es.map (fun e => (e.key, e.val)) = g.map (fun p => (Value.int K p.1, p.2))) :
    (es.set n { e0 with key := .int K k, val := v }).map (fun e => (e.key, e.val)) = (g.set n (k, v)).map (fun p => (Value.int K p.1, p.2)) := by
  rw [List.map_set, List.map_set, h]

theorem IMap.update (h : IMap w m K g) (ht : P.underlying t = some (.map kt e)) (hk : P.underlying kt = some (.int K)) (k : Int) (v : Value) :
    ∃ w', (Instr.mapUpdate t (.map (some m)) (.int K k) v).run P w = .ok () w' ∧ IMap w' m K (aput k v g) ∧ Touch (fun i => i = m) w w' := by
  have hn := aput_nodup k v g h.keys
  have hkeys := h.keys
  have hlt := h.lt
  obtain ⟨⟨es, c, h1, h2, h3, h4⟩, _⟩ := h
  have hf := findNow_int K k es.toList g 0 h2
  have tch : ∀ o, Touch (fun i => i = m) w (setBlock w m o) := fun o => ⟨rfl, rfl, rfl, by simp [setBlock], fun i _ hi => by simp [setBlock, Ne.symm hi]⟩
  have hb : ∀ o, (setBlock w m o).heap[m]? = some o := fun o => by simp [setBlock, hlt]
  cases hx : aidx k g 0 with
  | none =>
    have hno := aidx_none.1 hx
    refine ⟨setBlock w m (.map (es.push ⟨.int K k, v, c⟩) (c + 1)), ?_, ⟨⟨_, _, hb _, ?_, ?_, ?_⟩, hn⟩, tch _⟩
    · simp [Instr.mapUpdate, run_underlying ht, MapKept.run_getObj_map h1, run_check hk, Instr.findKey, run_underlying hk, hf, hx, MapKept.run_setObj_map _ h1, setBlock]
    · rw [aput_new hno]; simp [h2]
    · rw [Array.toList_push, List.map_append, List.nodup_append]
      refine ⟨h3, by simp, ?_⟩
      intro a ha b hb2
      obtain ⟨e1, he, rfl⟩ := List.mem_map.1 ha
      have := h4 e1 he
      simp at hb2; omega
    · intro e1 he
      rw [Array.toList_push, List.mem_append] at he
      rcases he with he | he
      · have := h4 e1 he; omega
      · simp at he; subst he; simp
  | some y =>
    obtain ⟨j, u⟩ := y
    obtain ⟨_, n, hj, hg⟩ := aidx_some hx
    obtain rfl : j = n := by omega
    have hlen : es.toList.length = g.length := by have := congrArg List.length h2; simpa using this
    have hjl : j < es.toList.length := by rw [hlen]; exact (List.getElem?_eq_some_iff.1 hg).1
    obtain ⟨e0, he0⟩ : ∃ e0, es.toList[j]? = some e0 := ⟨_, List.getElem?_eq_getElem hjl⟩
    have hk0 : e0.key = .int K k := by
      have := congrArg (fun l : List (Value × Value) => l[j]?) h2
      simp only [List.getElem?_map, he0, hg, Option.map_some, Option.some.injEq, Prod.mk.injEq] at this
      exact this.1
    have hj' : es[j]? = some e0 := by simpa using he0
    have hlist : (es.modify j (fun e' => { e' with key := .int K k, val := v })).toList = es.toList.set j { e0 with key := .int K k, val := v } := by
      rw [Array.toList_modify]
      apply List.ext_getElem?
      intro i
      rw [List.getElem?_modify, List.getElem?_set]
      by_cases e1 : j = i
      · subst e1; simp [he0]; simpa using hjl
      · simp [e1]
    refine ⟨setBlock w m (.map (es.modify j (fun e' => { e' with key := .int K k, val := v })) c), ?_, ⟨⟨_, _, hb _, ?_, ?_, ?_⟩, hn⟩, tch _⟩
    · simp [Instr.mapUpdate, run_underlying ht, MapKept.run_getObj_map h1, run_check hk, Instr.findKey, run_underlying hk, hf, hx, hj', hk0, Instr.keyThatStays, Instr.sameBits, MapKept.run_setObj_map _ h1, setBlock]
    · rw [hlist, aput_old hkeys hg]; exact map_set_entries es.toList g j k v e0 h2
    · rw [hlist, List.map_set]
      have : (es.toList.map (·.born)).set j e0.born = es.toList.map (·.born) := by
        apply List.ext_getElem?; intro i; rw [List.getElem?_set]; split
        · rename_i e1; subst e1; simp [he0]; simpa using hjl
        · rfl
      simp only [this]; exact h3
    · intro e1 he
      rw [hlist] at he
      rcases List.mem_or_eq_of_mem_set he with he | he
      · exact h4 e1 he
      · subst he; exact h4 e0 (List.mem_of_getElem? he0)

/-- The world behind a store into a map. -/
noncomputable def mapUpd (P : Program) (w : World) (t : TypeId) (m : Nat) (k v : Value) : World :=
  match (Instr.mapUpdate t (.map (some m)) k v).run P w with
  | .ok _ w' => w'
  | .halt _ w' => w'
theorem IMap.upd (h : IMap w m K g) (ht : P.underlying t = some (.map kt e)) (hk : P.underlying kt = some (.int K)) (k : Int) (v : Value) :
    (Instr.mapUpdate t (.map (some m)) (.int K k) v).run P w = .ok () (mapUpd P w t m (.int K k) v) ∧ IMap (mapUpd P w t m (.int K k) v) m K (aput k v g) ∧ Touch (fun i => i = m) w (mapUpd P w t m (.int K k) v) := by
  obtain ⟨w', h1, h2, h3⟩ := h.update ht hk k v
  have e1 : mapUpd P w t m (.int K k) v = w' := by unfold mapUpd; rw [h1]
  rw [e1]; exact ⟨h1, h2, h3⟩

theorem IMap.delete (h : IMap w m K g) (ht : P.underlying t = some (.map kt e)) (hk : P.underlying kt = some (.int K)) (k : Int) (kt' ty : TypeId) :
    ∃ w', (Builtin.delete_ #[t, kt'] ty #[.map (some m), .int K k]).run P w = .ok (.tuple #[]) w' ∧ IMap w' m K (adel k g) ∧ Touch (fun i => i = m) w w' := by
  have hkeys := h.keys
  have hlt := h.lt
  obtain ⟨⟨es, c, h1, h2, h3, h4⟩, _⟩ := h
  have hf := findNow_int K k es.toList g 0 h2
  have tch : ∀ o, Touch (fun i => i = m) w (setBlock w m o) := fun o => ⟨rfl, rfl, rfl, by simp [setBlock], fun i _ hi => by simp [setBlock, Ne.symm hi]⟩
  have hb : ∀ o, (setBlock w m o).heap[m]? = some o := fun o => by simp [setBlock, hlt]
  cases hx : aidx k g 0 with
  | none =>
    have hno := aidx_none.1 hx
    refine ⟨setBlock w m (.map es c), ?_, ⟨⟨_, _, hb _, ?_, h3, h4⟩, ?_⟩, tch _⟩
    · simp [Builtin.delete_, run_underlying ht, MapKept.run_getObj_map h1, run_check hk, Instr.findKey, run_underlying hk, hf, hx, MapKept.run_setObj_map _ h1, setBlock]
    · rw [adel_none hno]; exact h2
    · rw [adel_none hno]; exact hkeys
  | some y =>
    obtain ⟨j, u⟩ := y
    obtain ⟨_, n, hj, hg⟩ := aidx_some hx
    obtain rfl : j = n := by omega
    have hlist : (es.eraseIdxIfInBounds j).toList = es.toList.eraseIdx j := by simp
    refine ⟨setBlock w m (.map (es.eraseIdxIfInBounds j) c), ?_, ⟨⟨_, _, hb _, ?_, ?_, ?_⟩, ?_⟩, tch _⟩
    · simp [Builtin.delete_, run_underlying ht, MapKept.run_getObj_map h1, run_check hk, Instr.findKey, run_underlying hk, hf, hx, MapKept.run_setObj_map _ h1, setBlock]
    · rw [hlist, adel_old hkeys hg, ← eraseIdx_map', ← eraseIdx_map', h2]
    · rw [hlist, ← eraseIdx_map']; exact h3.sublist (List.eraseIdx_sublist _ _)
    · intro e1 he; rw [hlist] at he; exact h4 e1 ((List.eraseIdx_sublist _ _).subset he)
    · rw [adel_old hkeys hg, ← eraseIdx_map']; exact hkeys.sublist (List.eraseIdx_sublist _ _)
end

end Go.Proofs.Ythlgkicidbagbaa
