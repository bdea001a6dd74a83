/- The document's table of the instructions: a contract. -/
import Derived.Test.YthlgkicidbagbaaName
import Derived.Great.Walk
namespace Go.Proofs.Ythlgkicidbagbaa
set_option maxRecDepth 100000
open Go Go.RowKit Go.ChangeMaps Go.Lib
set_option linter.unusedVariables false

def docRow (r : List UInt8 × Nat × Nat × Nat × Nat) : List Value := [.string ⟨r.1.toArray⟩, .int .u8 r.2.1, .int .u32 r.2.2.1, .int .u32 r.2.2.2.1, .int .u32 r.2.2.2.2]
def docCells : List Value := instTab.flatMap docRow
theorem doc_rows (w : World) : Calls Try.prog 12 #[] w (fun e w' => e = .returned (.slice (some ⟨w.heap.size, 0, none⟩) 69 69) ∧ w' = w.alloc (.cells docCells.toArray 43)) := by
  have hu := Try.underlying39
  go_enter Try.func12, Try.ntmps12
  refine wp_seq (wp_region_lit (Go.Great.wpList_readTo rfl (some 0) rfl (.slice none 0 0) (by kernel_rfl) ?_))
  refine wpList_nil ?_
  refine wp_seq (wp_region_lit ?_)
  refine wpList_builds_to 69 _ _ _ (fun a => (Try.prog.builtSlice 43 69 (((Array.range 69).map fun i => (i, Operand.tmp (i + 1))).map fun (i, x) => (i, a.eval x)).toList, a.tmps.size, a.defers)) (some docCells.toArray, 71, []) (by kernel_rfl) rfl ?_
  intro a' ha
  simp only [Prod.mk.injEq] at ha
  obtain ⟨h1, h2, h3⟩ := ha
  refine Go.Great.wpList_buildSliceTo rfl 39 43 69 ((Array.range 69).map fun i => (i, Operand.tmp (i + 1))) (by kernel_rfl) w.heap.size rfl (some 70) rfl hu docCells.toArray h1 ?_
  generalize docCells.toArray = cs at *
  clear h1
  refine Go.Great.wpList_readTo rfl (some 0) rfl (.slice (some ⟨w.heap.size, 0, none⟩) 69 69) ?_ ?_
  · simp [execOp, Act.eval, Act.put, h2, go_sem]
  refine wpList_nil (wp_ret ?_)
  refine bodyPost_ret (v := .slice (some ⟨w.heap.size, 0, none⟩) 69 69) ?_ h3 ⟨rfl, rfl⟩
  simp [results, Try.results12, Act.put, h2, go_sem]
end Go.Proofs.Ythlgkicidbagbaa
