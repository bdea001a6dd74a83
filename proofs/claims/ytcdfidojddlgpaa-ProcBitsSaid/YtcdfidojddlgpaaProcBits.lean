/- For every 64-bit number taken as bits, the program tells the use of pages and the permissions that the document tells, or refuses them as the document does, and the room of a process is 65536 to 16777216. No condition. -/
import Derived.Test.YtcdfidojddlgpaaRows
import Derived.WalkKit
import Derived.ProofKit
import Derived.OpenShut
import Derived.Lib.Hide
namespace Go.Proofs.Ytcdfidojddlgpaa.procBits
open Go.ChangeShapes Go.WideShapes Go.ChangeAt Go.RowKit
set_option linter.unusedVariables false      -- a walk need not use every 'w<i>' (that an integer argument fits its kind)

theorem own : ownKnob Try.prog.godebug = none := by kernel_rfl

/-! ### The walk -/
theorem room_any (w : World) :
    Calls Try.prog 9 #[] w fun e w' => e = .returned (.agg #[.int .u64 65536, .int .u64 16777216]) ∧ Grown w w' := by
  go_enter Try.func9, Try.ntmps9
  go_wp2
  exact bodyPost_ret (v := .agg #[.int .u64 65536, .int .u64 16777216]) (by simp [results, Try.results9, go_sem]) rfl
    ⟨rfl, (Grown.refl _).alloc _ _⟩

theorem grown_trans {W A B : World} (h : Grown W A) (h' : Grown A B) : Grown W B :=
  ⟨World.keptBut_trans h.1 h'.1, fun a => (h'.2.1 a).trans (h.2.1 a), Nat.le_trans h.2.2 h'.2.2⟩

theorem prot_great (a0 : Int) (h : 7 < a0) (w : World) :
    Calls Try.prog 8 #[.int .u64 a0] w fun e w' => e = .returned (.tuple #[.agg #[.bool false, .bool false, .bool false], .int .u64 0, .bool false]) ∧ Grown w w' := by
  go_enter Try.func8, Try.ntmps8
  go_wp2
  exact bodyPost_ret (v := .tuple #[.agg #[.bool false, .bool false, .bool false], .int .u64 0, .bool false]) (by simp [results, Try.results8, go_sem] <;> decide) rfl
    ⟨rfl, (Grown.refl _).alloc _ _⟩

theorem prot_0 (w : World) :
    Calls Try.prog 8 #[.int .u64 0] w fun e w' => e = .returned (.tuple #[.agg #[.bool false, .bool false, .bool false], .int .u64 0, .bool true]) ∧ Grown w w' := by
  go_enter Try.func8, Try.ntmps8
  go_wp2
  exact bodyPost_ret (v := .tuple #[.agg #[.bool false, .bool false, .bool false], .int .u64 0, .bool true]) (by simp [results, Try.results8, go_sem] <;> decide) rfl
    ⟨rfl, ((Grown.refl _).alloc _ _).alloc _ _⟩

theorem walk_0 (w : World) :
    Calls Try.prog 3 #[.int .u64 0] w fun e w' => e = .returned (.bool true) ∧ Grown w w' := by
  go_enter Try.func3, Try.ntmps3
  go_wp2_with (first | (go_at_call 8; refine (prot_0 _).mono ?_; rintro e w1 ⟨rfl, hg1⟩; have HG1 := Lib.hid hg1; clear hg1) | (go_at_call 9; refine (room_any _).mono ?_; rintro e w2 ⟨rfl, hg2⟩; have HG2 := Lib.hid hg2; clear hg2))
  go_ret
  exact ⟨rfl, grown_trans (HG1.out.alloc _ _) HG2.out⟩

theorem prot_1 (w : World) :
    Calls Try.prog 8 #[.int .u64 1] w fun e w' => e = .returned (.tuple #[.agg #[.bool true, .bool false, .bool false], .int .u64 9, .bool true]) ∧ Grown w w' := by
  go_enter Try.func8, Try.ntmps8
  go_wp2
  exact bodyPost_ret (v := .tuple #[.agg #[.bool true, .bool false, .bool false], .int .u64 9, .bool true]) (by simp [results, Try.results8, go_sem] <;> decide) rfl
    ⟨rfl, ((Grown.refl _).alloc _ _).alloc _ _⟩

theorem walk_1 (w : World) :
    Calls Try.prog 3 #[.int .u64 1] w fun e w' => e = .returned (.bool true) ∧ Grown w w' := by
  go_enter Try.func3, Try.ntmps3
  go_wp2_with (first | (go_at_call 8; refine (prot_1 _).mono ?_; rintro e w1 ⟨rfl, hg1⟩; have HG1 := Lib.hid hg1; clear hg1) | (go_at_call 9; refine (room_any _).mono ?_; rintro e w2 ⟨rfl, hg2⟩; have HG2 := Lib.hid hg2; clear hg2))
  go_ret
  exact ⟨rfl, grown_trans (HG1.out.alloc _ _) HG2.out⟩

theorem prot_2 (w : World) :
    Calls Try.prog 8 #[.int .u64 2] w fun e w' => e = .returned (.tuple #[.agg #[.bool false, .bool true, .bool false], .int .u64 18, .bool true]) ∧ Grown w w' := by
  go_enter Try.func8, Try.ntmps8
  go_wp2
  exact bodyPost_ret (v := .tuple #[.agg #[.bool false, .bool true, .bool false], .int .u64 18, .bool true]) (by simp [results, Try.results8, go_sem] <;> decide) rfl
    ⟨rfl, ((Grown.refl _).alloc _ _).alloc _ _⟩

theorem walk_2 (w : World) :
    Calls Try.prog 3 #[.int .u64 2] w fun e w' => e = .returned (.bool true) ∧ Grown w w' := by
  go_enter Try.func3, Try.ntmps3
  go_wp2_with (first | (go_at_call 8; refine (prot_2 _).mono ?_; rintro e w1 ⟨rfl, hg1⟩; have HG1 := Lib.hid hg1; clear hg1) | (go_at_call 9; refine (room_any _).mono ?_; rintro e w2 ⟨rfl, hg2⟩; have HG2 := Lib.hid hg2; clear hg2))
  go_ret
  exact ⟨rfl, grown_trans (HG1.out.alloc _ _) HG2.out⟩

theorem prot_3 (w : World) :
    Calls Try.prog 8 #[.int .u64 3] w fun e w' => e = .returned (.tuple #[.agg #[.bool true, .bool true, .bool false], .int .u64 27, .bool true]) ∧ Grown w w' := by
  go_enter Try.func8, Try.ntmps8
  go_wp2
  exact bodyPost_ret (v := .tuple #[.agg #[.bool true, .bool true, .bool false], .int .u64 27, .bool true]) (by simp [results, Try.results8, go_sem] <;> decide) rfl
    ⟨rfl, ((Grown.refl _).alloc _ _).alloc _ _⟩

theorem walk_3 (w : World) :
    Calls Try.prog 3 #[.int .u64 3] w fun e w' => e = .returned (.bool true) ∧ Grown w w' := by
  go_enter Try.func3, Try.ntmps3
  go_wp2_with (first | (go_at_call 8; refine (prot_3 _).mono ?_; rintro e w1 ⟨rfl, hg1⟩; have HG1 := Lib.hid hg1; clear hg1) | (go_at_call 9; refine (room_any _).mono ?_; rintro e w2 ⟨rfl, hg2⟩; have HG2 := Lib.hid hg2; clear hg2))
  go_ret
  exact ⟨rfl, grown_trans (HG1.out.alloc _ _) HG2.out⟩

theorem prot_4 (w : World) :
    Calls Try.prog 8 #[.int .u64 4] w fun e w' => e = .returned (.tuple #[.agg #[.bool false, .bool false, .bool true], .int .u64 4, .bool true]) ∧ Grown w w' := by
  go_enter Try.func8, Try.ntmps8
  go_wp2
  exact bodyPost_ret (v := .tuple #[.agg #[.bool false, .bool false, .bool true], .int .u64 4, .bool true]) (by simp [results, Try.results8, go_sem] <;> decide) rfl
    ⟨rfl, ((Grown.refl _).alloc _ _).alloc _ _⟩

theorem walk_4 (w : World) :
    Calls Try.prog 3 #[.int .u64 4] w fun e w' => e = .returned (.bool true) ∧ Grown w w' := by
  go_enter Try.func3, Try.ntmps3
  go_wp2_with (first | (go_at_call 8; refine (prot_4 _).mono ?_; rintro e w1 ⟨rfl, hg1⟩; have HG1 := Lib.hid hg1; clear hg1) | (go_at_call 9; refine (room_any _).mono ?_; rintro e w2 ⟨rfl, hg2⟩; have HG2 := Lib.hid hg2; clear hg2))
  go_ret
  exact ⟨rfl, grown_trans (HG1.out.alloc _ _) HG2.out⟩

theorem prot_5 (w : World) :
    Calls Try.prog 8 #[.int .u64 5] w fun e w' => e = .returned (.tuple #[.agg #[.bool true, .bool false, .bool true], .int .u64 13, .bool true]) ∧ Grown w w' := by
  go_enter Try.func8, Try.ntmps8
  go_wp2
  exact bodyPost_ret (v := .tuple #[.agg #[.bool true, .bool false, .bool true], .int .u64 13, .bool true]) (by simp [results, Try.results8, go_sem] <;> decide) rfl
    ⟨rfl, ((Grown.refl _).alloc _ _).alloc _ _⟩

theorem walk_5 (w : World) :
    Calls Try.prog 3 #[.int .u64 5] w fun e w' => e = .returned (.bool true) ∧ Grown w w' := by
  go_enter Try.func3, Try.ntmps3
  go_wp2_with (first | (go_at_call 8; refine (prot_5 _).mono ?_; rintro e w1 ⟨rfl, hg1⟩; have HG1 := Lib.hid hg1; clear hg1) | (go_at_call 9; refine (room_any _).mono ?_; rintro e w2 ⟨rfl, hg2⟩; have HG2 := Lib.hid hg2; clear hg2))
  go_ret
  exact ⟨rfl, grown_trans (HG1.out.alloc _ _) HG2.out⟩

theorem prot_6 (w : World) :
    Calls Try.prog 8 #[.int .u64 6] w fun e w' => e = .returned (.tuple #[.agg #[.bool false, .bool true, .bool true], .int .u64 22, .bool true]) ∧ Grown w w' := by
  go_enter Try.func8, Try.ntmps8
  go_wp2
  exact bodyPost_ret (v := .tuple #[.agg #[.bool false, .bool true, .bool true], .int .u64 22, .bool true]) (by simp [results, Try.results8, go_sem] <;> decide) rfl
    ⟨rfl, ((Grown.refl _).alloc _ _).alloc _ _⟩

theorem walk_6 (w : World) :
    Calls Try.prog 3 #[.int .u64 6] w fun e w' => e = .returned (.bool true) ∧ Grown w w' := by
  go_enter Try.func3, Try.ntmps3
  go_wp2_with (first | (go_at_call 8; refine (prot_6 _).mono ?_; rintro e w1 ⟨rfl, hg1⟩; have HG1 := Lib.hid hg1; clear hg1) | (go_at_call 9; refine (room_any _).mono ?_; rintro e w2 ⟨rfl, hg2⟩; have HG2 := Lib.hid hg2; clear hg2))
  go_ret
  exact ⟨rfl, grown_trans (HG1.out.alloc _ _) HG2.out⟩

theorem prot_7 (w : World) :
    Calls Try.prog 8 #[.int .u64 7] w fun e w' => e = .returned (.tuple #[.agg #[.bool true, .bool true, .bool true], .int .u64 31, .bool true]) ∧ Grown w w' := by
  go_enter Try.func8, Try.ntmps8
  go_wp2
  exact bodyPost_ret (v := .tuple #[.agg #[.bool true, .bool true, .bool true], .int .u64 31, .bool true]) (by simp [results, Try.results8, go_sem] <;> decide) rfl
    ⟨rfl, ((Grown.refl _).alloc _ _).alloc _ _⟩

theorem walk_7 (w : World) :
    Calls Try.prog 3 #[.int .u64 7] w fun e w' => e = .returned (.bool true) ∧ Grown w w' := by
  go_enter Try.func3, Try.ntmps3
  go_wp2_with (first | (go_at_call 8; refine (prot_7 _).mono ?_; rintro e w1 ⟨rfl, hg1⟩; have HG1 := Lib.hid hg1; clear hg1) | (go_at_call 9; refine (room_any _).mono ?_; rintro e w2 ⟨rfl, hg2⟩; have HG2 := Lib.hid hg2; clear hg2))
  go_ret
  exact ⟨rfl, grown_trans (HG1.out.alloc _ _) HG2.out⟩

theorem walk_great (a0 : Int) (h : 7 < a0) (w : World) :
    Calls Try.prog 3 #[.int .u64 a0] w fun e w' => e = .returned (.bool true) ∧ Grown w w' := by
  have h' : decide (a0 ≤ 7) = false := by simp; omega
  go_enter Try.func3, Try.ntmps3
  go_wp2_with (first | (go_at_call 8; refine (prot_great _ h _).mono ?_; rintro e w1 ⟨rfl, hg1⟩; have HG1 := Lib.hid hg1; clear hg1) | (go_at_call 9; refine (room_any _).mono ?_; rintro e w2 ⟨rfl, hg2⟩; have HG2 := Lib.hid hg2; clear hg2))
  go_ret
  exact ⟨rfl, grown_trans (HG1.out.alloc _ _) HG2.out⟩

theorem walk (a0 : Int) (w0 : (Lit.int .u64 a0).wf = true) (w : World) :
    Calls Try.prog 3 #[.int .u64 a0] w fun e w' => e = .returned (.bool true) ∧ Grown w w' := by
  by_cases h : 7 < a0
  · exact walk_great a0 h w
  · have h0 : 0 ≤ a0 := by
      have := w0
      simp [Lit.wf] at this
      have hm : IntKind.u64.min = 0 := rfl
      omega
    obtain ⟨n, rfl⟩ := Int.eq_ofNat_of_zero_le h0
    rcases (show n = 0 ∨ n = 1 ∨ n = 2 ∨ n = 3 ∨ n = 4 ∨ n = 5 ∨ n = 6 ∨ n = 7 by omega) with rfl | rfl | rfl | rfl | rfl | rfl | rfl | rfl
    · exact walk_0 w
    · exact walk_1 w
    · exact walk_2 w
    · exact walk_3 w
    · exact walk_4 w
    · exact walk_5 w
    · exact walk_6 w
    · exact walk_7 w

/-! ### THE ROW's STEP: WRITTEN OUT: LEAVE IT -/
set_option maxRecDepth 100000 in
theorem lifted (os : Os) (started : os.Started) (H : Type) (enc : TypeId × Value → H) :
    ReturnsInHanded {} Try.checked os 3 .any (Rows.procBitsSpec.pre6 enc Try.prog Try.f3 Rows.procBitsRow.domain false) (Rows.procBitsSpec.post enc Try.prog Try.f3 false true false false) := by
  refine returnsInHanded_of_change (C := Try.checked) own started (by kernel_rfl) Try.func3
    (ChangeSpec.witness6 (enc := enc) (C := Try.checked) false ⟨#[], #[.int .u64 0], []⟩ 8 (by kernel_rfl) (by kernel_rfl) (by kernel_rfl) (by kernel_rfl)) ?_
  intro W base args ds gs before hval0 hW hcnd _
  have hval : ∀ (j : Nat) t v, Try.f3.params[j]? = some t → args[j]? = some v → Value.okWide Try.prog W .any base t v := hval0
  have hW' := hW
  obtain ⟨p, q, hA0, hV, rfl, hfz, hnd⟩ := hW
  have hA : DataW.TrodAll enc Try.prog W 0 (fun _ => true) true Try.f3.params.toList args.toList ds p := hA0
  rw [Try.params3] at hA hval
  obtain ⟨v0, vs0, d0, ds0, p0, q0, hargs, rfl, rfl, h0, r0⟩ := trodAll_cons hA
  obtain ⟨rfl, rfl, rfl⟩ := trodAll_nil r0
  obtain rfl : args = #[v0] := by cases args; simp_all
  obtain ⟨rfl, rfl⟩ := trodVars_none hV
  obtain ⟨a0, rfl, rfl, rfl, w0⟩ := open_int Try.underlying22 (hval 0 22 v0 rfl rfl) h0
  clear hA0 hval0
  simp only [List.append_nil] at hW'
  refine (walk a0 w0 W).mono fun e W' ⟨he, hg⟩ => ?_
  subst he
  exact ⟨_, rfl, post_of_same (pa := []) (pv := []) hW' (fun _ _ _ => (trodAll_cons_mk (shut_bool Try.underlying4 _) trodAll_mk0)) (fun sp _ => (trodAll_cons_mk (shut_int Try.underlying22 w0) trodAll_mk0)) (fun _ _ => rfl) rfl
    (hg.frame _) hg.2.1 (ok_one (by kernel_rfl) rfl (okWide_bool_mk Try.underlying4 _))⟩

theorem over : Rows.procBitsRow.holds Try.pinned (OpenSpec.ofChange Rows.procBitsSpec) :=
  OpenClaim.holds_of_wide 3 Try.f3 rfl rfl rfl rfl rfl rfl rfl ⟨rfl, rfl, rfl, rfl, rfl⟩ rfl rfl rfl rfl rfl (by kernel_rfl) Try.func3 (by kernel_rfl)
    (of_decide_eq_true (by kernel_rfl)) (by unfold Func.isWrapper; first | (rw [if_pos (by decide +kernel)]; kernel_rfl) | (rw [if_neg (by decide +kernel)]; exact ⟨rfl, rfl⟩))
    (fun os started H enc _ => lifted os started H enc)

/-- ████ THE STATEMENT ████ -/
theorem proved : Rows.ProcBitsSaid :=
  over
#print axioms proved
end Go.Proofs.Ytcdfidojddlgpaa.procBits
namespace Go.Proofs.Ytcdfidojddlgpaa
theorem procBits_holds : Rows.ProcBitsSaid := procBits.proved
end Go.Proofs.Ytcdfidojddlgpaa
