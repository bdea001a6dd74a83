/- The table of the instructions: a contract of what tells it, and of a line's name. -/
import Derived.Test.YthlgkicidbagbaaField
import Derived.Deep.MidRow
import Derived.Lib.SlBuf
import Derived.Great.Walk
namespace Go.Proofs.Ythlgkicidbagbaa
set_option maxRecDepth 100000
open Go Go.RowKit Go.ChangeMaps Go.Lib
set_option linter.unusedVariables false

/-! ### Builds, one behind the other -/
def buildOp (P : Program) (o : Oper) (a : Act) : Option Act :=
  match o.guard, o.op with
  | none, .build t parts => (P.built t (parts.map fun (i, x) => (i, a.eval x)).toList).map fun c => a.put o.dst (.agg c)
  | _, _ => none
def buildOps (P : Program) : Nat → List Oper → Act → Option Act
  | 0, _, a => some a
  | _, [], _ => none
  | n + 1, o :: r, a => (buildOp P o a).bind (buildOps P n r)
theorem wpList_builds {P : Program} {ops : Array Oper} {Q : Exit → Act → World → Prop} {w : World} : ∀ (n : Nat) (l : List Oper) (a a' : Act), buildOps P n l a = some a' → wpList P ops Q (l.drop n) a' w → wpList P ops Q l a w
  | 0, l, a, a', h, k => by cases h; exact k
  | n + 1, [], a, a', h, k => by cases h
  | n + 1, o :: r, a, a', h, k => by
    simp only [buildOps] at h
    cases hb : buildOp P o a with
    | none => rw [hb] at h; cases h
    | some b =>
      rw [hb] at h
      have ih := wpList_builds n r b a' h k
      unfold buildOp at hb
      split at hb
      · rename_i t parts hg ho
        cases hc : P.built t (parts.map fun (i, x) => (i, a.eval x)).toList with
        | none => rw [hc] at hb; cases hb
        | some c =>
          rw [hc] at hb
          simp only [Option.map_some, Option.some.injEq] at hb
          subst hb
          refine wpList_build hg t parts ho (by rw [hc]; rfl) ?_
          rw [hc]; exact ih
      · cases hb
/-- Builds, and what is to be known of the frame behind them. -/
theorem wpList_builds_to {β : Type} {P : Program} {ops : Array Oper} {Q : Exit → Act → World → Prop} {w : World} (n : Nat) (l r : List Oper) (a : Act) (f : Act → β) (b : β) (h : (buildOps P n l a).map f = some b) (hr : l.drop n = r)
    (k : ∀ a', f a' = b → wpList P ops Q r a' w) : wpList P ops Q l a w := by
  cases hb : buildOps P n l a with
  | none => rw [hb] at h; cases h
  | some a' =>
    rw [hb] at h
    simp only [Option.map_some, Option.some.injEq] at h
    exact wpList_builds n l a a' hb (by rw [hr]; exact k a' h)

/-! ### The table -/
/-- The table's lines: name, shape, code, f, other. -/
def instTab : List (List UInt8 × Nat × Nat × Nat × Nat) := [
  ([108, 117, 105], 85, 55, 0, 0),
  ([97, 117, 105, 112, 99], 85, 23, 0, 0),
  ([106, 97, 108], 74, 111, 0, 0),
  ([106, 97, 108, 114], 73, 103, 0, 0),
  ([98, 101, 113], 66, 99, 0, 0),
  ([98, 110, 101], 66, 99, 1, 0),
  ([98, 108, 116], 66, 99, 4, 0),
  ([98, 103, 101], 66, 99, 5, 0),
  ([98, 108, 116, 117], 66, 99, 6, 0),
  ([98, 103, 101, 117], 66, 99, 7, 0),
  ([108, 98], 73, 3, 0, 0),
  ([108, 104], 73, 3, 1, 0),
  ([108, 119], 73, 3, 2, 0),
  ([108, 100], 73, 3, 3, 0),
  ([108, 98, 117], 73, 3, 4, 0),
  ([108, 104, 117], 73, 3, 5, 0),
  ([108, 119, 117], 73, 3, 6, 0),
  ([115, 98], 83, 35, 0, 0),
  ([115, 104], 83, 35, 1, 0),
  ([115, 119], 83, 35, 2, 0),
  ([115, 100], 83, 35, 3, 0),
  ([97, 100, 100, 105], 73, 19, 0, 0),
  ([115, 108, 116, 105], 73, 19, 2, 0),
  ([115, 108, 116, 105, 117], 73, 19, 3, 0),
  ([120, 111, 114, 105], 73, 19, 4, 0),
  ([111, 114, 105], 73, 19, 6, 0),
  ([97, 110, 100, 105], 73, 19, 7, 0),
  ([115, 108, 108, 105], 72, 19, 1, 0),
  ([115, 114, 108, 105], 72, 19, 5, 0),
  ([115, 114, 97, 105], 72, 19, 5, 16),
  ([97, 100, 100], 82, 51, 0, 0),
  ([115, 117, 98], 82, 51, 0, 32),
  ([115, 108, 108], 82, 51, 1, 0),
  ([115, 108, 116], 82, 51, 2, 0),
  ([115, 108, 116, 117], 82, 51, 3, 0),
  ([120, 111, 114], 82, 51, 4, 0),
  ([115, 114, 108], 82, 51, 5, 0),
  ([115, 114, 97], 82, 51, 5, 32),
  ([111, 114], 82, 51, 6, 0),
  ([97, 110, 100], 82, 51, 7, 0),
  ([101, 99, 97, 108, 108], 78, 115, 0, 0),
  ([101, 98, 114, 101, 97, 107], 78, 115, 0, 1),
  ([99, 108, 99], 73, 15, 2, 0),
  ([99, 115, 99], 83, 35, 4, 0),
  ([99, 115, 101, 116, 98, 111, 117, 110, 100, 115], 82, 91, 0, 8),
  ([99, 115, 101, 116, 98, 111, 117, 110, 100, 115, 101, 120, 97, 99, 116], 82, 91, 0, 9),
  ([99, 115, 101, 97, 108], 82, 91, 0, 11),
  ([99, 117, 110, 115, 101, 97, 108], 82, 91, 0, 12),
  ([99, 97, 110, 100, 112, 101, 114, 109], 82, 91, 0, 13),
  ([99, 115, 101, 116, 97, 100, 100, 114], 82, 91, 0, 16),
  ([99, 105, 110, 99, 111, 102, 102, 115, 101, 116], 82, 91, 0, 17),
  ([99, 115, 117, 98], 82, 91, 0, 20),
  ([99, 98, 117, 105, 108, 100, 99, 97, 112], 82, 91, 0, 29),
  ([99, 116, 101, 115, 116, 115, 117, 98, 115, 101, 116], 82, 91, 0, 32),
  ([99, 115, 101, 116, 101, 113, 117, 97, 108], 82, 91, 0, 33),
  ([99, 103, 101, 116, 112, 101, 114, 109], 71, 91, 0, 0),
  ([99, 103, 101, 116, 116, 121, 112, 101], 71, 91, 0, 1),
  ([99, 103, 101, 116, 98, 97, 115, 101], 71, 91, 0, 2),
  ([99, 103, 101, 116, 108, 101, 110], 71, 91, 0, 3),
  ([99, 103, 101, 116, 116, 97, 103], 71, 91, 0, 4),
  ([99, 103, 101, 116, 111, 102, 102, 115, 101, 116], 71, 91, 0, 6),
  ([99, 114, 114, 108], 71, 91, 0, 8),
  ([99, 114, 97, 109], 71, 91, 0, 9),
  ([99, 109, 111, 118, 101], 71, 91, 0, 10),
  ([99, 99, 108, 101, 97, 114, 116, 97, 103], 71, 91, 0, 11),
  ([99, 103, 101, 116, 97, 100, 100, 114], 71, 91, 0, 15),
  ([99, 115, 101, 97, 108, 101, 110, 116, 114, 121], 71, 91, 0, 17),
  ([99, 105, 110, 99, 111, 102, 102, 115, 101, 116, 105, 109, 109], 73, 91, 1, 0),
  ([99, 115, 101, 116, 98, 111, 117, 110, 100, 115, 105, 109, 109], 67, 91, 2, 0)]

def instRow (r : List UInt8 × Nat × Nat × Nat × Nat) : List Value := [.string ⟨r.1.toArray⟩, .int .u8 r.2.1, .int .u64 r.2.2.1, .int .u64 r.2.2.2.1, .int .u64 r.2.2.2.2]
def instCells : List Value := instTab.flatMap instRow
def zeroTab (P : Program) : Array Value := (P.built 89 []).getD #[]

theorem tab_there (w : World) (P : Program) (h : (zeroTab P).size = 345) : (w.alloc (.cells (zeroTab P) 89)).there w.heap.size 0 345 := fun j hj => by
  have hb := blk_alloc_new w (.cells (zeroTab P) 89 (0, 0))
  refine ⟨?_, free_of_blk hb _⟩
  rw [cell_of_blk hb]
  have : j < (zeroTab P).size := by omega
  simpa using this

theorem alloc_below' (w : World) (o : Obj) : Below w.heap.size w (w.alloc o) := (Below.refl _ _).alloc (Nat.le_refl _) _
theorem rows_any (w : World) : Calls Try.prog 36 #[] w (fun e w' => e = .returned (.agg instCells.toArray) ∧ Below w.heap.size w w') := by
  have th := tab_there w Try.prog (by kernel_rfl)
  have hsz : instCells.length = 345 := by decide +kernel
  have hsa : instCells.toArray.size = 345 := hsz
  go_enter Try.func36, Try.ntmps36
  refine wp_seq (wp_region_lit (Go.Great.wpList_runTo rfl (some 0) rfl (.pointer (some ⟨w.heap.size, 0, none⟩)) (w.alloc (.cells (zeroTab Try.prog) 89)) (by kernel_rfl) ?_))
  refine wpList_nil ?_
  refine wp_seq (wp_region_lit ?_)
  refine wpList_builds_to 70 _ _ _ (fun a => (a.eval (.tmp 0), a.eval (.tmp 70), a.tmps.getD 0 undef, a.defers)) (.pointer (some ⟨w.heap.size, 0, none⟩), .agg instCells.toArray, .pointer (some ⟨w.heap.size, 0, none⟩), []) (by kernel_rfl) rfl ?_
  intro a' ha
  simp only [Prod.mk.injEq] at ha
  obtain ⟨h1, h2, h3, h4⟩ := ha
  have th2 : (w.alloc (.cells (zeroTab Try.prog) 89)).there w.heap.size 0 instCells.toArray.size := by rw [hsa]; exact th
  have th3 : (w.alloc (.cells (zeroTab Try.prog) 89)).there w.heap.size 0 instCells.length := by rw [hsz]; exact th
  have hi : (Try.prog.info? 89).map (·.size) = some instCells.toArray.size := by rw [hsa]; kernel_rfl
  have hi2 : (Try.prog.info? 89).map (·.size) = some instCells.length := by rw [hsz]; kernel_rfl
  have ld := run_loadVar_mid (P := Try.prog) _ w.heap.size 0 89 instCells _ (World.rangeAt_setCells_same _ _ _ _ th3) Try.underlying89 rfl hi2
  have oc : instCells.toArray.all (·.oneCell') = true := by decide +kernel
  have hb : Below w.heap.size w ((w.alloc (.cells (zeroTab Try.prog) 89)).setCells w.heap.size 0 instCells) := below_setCells w.heap.size (Nat.le_refl _) _ _ (alloc_below' w _)
  generalize instCells = cs at *
  clear th th3 hi2 hsz hsa
  refine wpList_store_mid rfl 89 (.tmp 0) (.tmp 70) rfl w.heap.size 0 cs.toArray h1 h2 th2 hi oc ?_
  refine wpList_nil (wp_ret ?_)
  refine bodyPost_ret (v := .agg cs.toArray) ?_ h4 ⟨rfl, hb⟩
  show (results Try.f36 a'.tmps).run _ _ = _
  have h3' : a'.tmps[0]?.getD undef = .pointer (some ⟨w.heap.size, 0, none⟩) := by simpa using h3
  simp [results, Try.results36, h3', asAddr, ld]

def instLine (n : Nat) : List UInt8 × Nat × Nat × Nat × Nat := instTab.getD n ([], 0, 0, 0, 0)
theorem inst_part (n : Nat) (hn : n < 69) : instCells.toArray.extract (n * 5) (n * 5 + 5) = (instRow (instLine n)).toArray := by
  have E : (List.range 69).map (fun n => instCells.toArray.extract (n * 5) (n * 5 + 5)) = (List.range 69).map (fun n => (instRow (instLine n)).toArray) := by kernel_rfl
  have := congrArg (fun l => l[n]?) E
  simpa [hn] using this
theorem inst_index (n : Nat) (hn : n < 69) (w : World) : (Instr.index 89 (.agg instCells.toArray) (.int .i64 (n : Int))).run Try.prog w = .ok (.agg (instRow (instLine n)).toArray) w := by
  have hu := inst_part n hn
  generalize instCells.toArray = cs at *
  generalize (instRow (instLine n)).toArray = r at *
  obtain ⟨i1, hi1, hs1⟩ : ∃ i, Try.prog.info? 72 = some i ∧ i.size = 5 := ⟨_, rfl, rfl⟩
  subst hu
  simp [Instr.index, asIntOf, Try.underlying89, run_underlying, hn, sizeOf, typeInfo, hi1, hs1, go_sem, part, isAgg, Try.underlying72]
end Go.Proofs.Ythlgkicidbagbaa
