/- errors.Is where the target is the number of a device's error: contracts of the library's own text, for a number, and for nil. No condition. -/
import Derived.Test.YtcdfidojddlgpaaChecked
import Derived.WalkKit
import Derived.LaidEql
import Derived.Stop.Asserts
import Derived.RowKitTokens
import Derived.WalkSpells
import Derived.Lib.Hide
namespace Go.Proofs.Ytcdfidojddlgpaa
open Go.RowKit Go.Extern.Stop Go.Stop Go.Extern

theorem isTypeOf (v : Value) (w : World) : (Extern.ReflectliteType.typeOf #[.iface 47 v]).run Try.prog w = .ok (.iface 86 (.agg #[.pointer (some ⟨0, 47, none⟩)])) w := by kernel_rfl
/-- The model's entry for rtype.Comparable. -/
def cmpEntry : Array Value → Sem Value := Extern.ReflectliteType.method fun t => do Extern.Rtype.noPackHeld "Comparable" t; pure (.bool (← typeInfo t).comparable)
theorem isComparable (w : World) : (cmpEntry #[.agg #[.pointer (some ⟨0, 47, none⟩)]]).run Try.prog w = .ok (.bool true) w := by kernel_rfl
theorem noIsE (v : Value) (xT : TypeId) (w : World) : (Instr.typeAssert (.iface 47 v) xT 88 true).run Try.prog w = .ok (.tuple #[.nilIface, .bool false]) w := run_typeAssert_lacksB Try.underlying88 (by kernel_rfl) (by kernel_rfl) v xT w
theorem noUnwrapE (v : Value) (xT : TypeId) (w : World) : (Instr.typeAssert (.iface 47 v) xT 90 true).run Try.prog w = .ok (.tuple #[.nilIface, .bool false]) w := run_typeAssert_lacksB Try.underlying90 (by kernel_rfl) (by kernel_rfl) v xT w
theorem noUnwrapsE (v : Value) (xT : TypeId) (w : World) : (Instr.typeAssert (.iface 47 v) xT 92 true).run Try.prog w = .ok (.tuple #[.nilIface, .bool false]) w := run_typeAssert_lacksB Try.underlying92 (by kernel_rfl) (by kernel_rfl) v xT w
theorem isMethodComparable (v : Value) (w : World) : (Go.method 229 86 v "Comparable").run Try.prog w = .ok (55, v) w := by kernel_rfl

theorem isComp : (Try.prog.info? 47).map (·.comparable) = some true := by kernel_rfl

theorem eql_errno (a b : Int) (w : World) : (binOp .eql 79 (.iface 47 (.int .i64 a)) (.iface 47 (.int .i64 b))).run Try.prog w = .ok (.bool (a == b)) w := by
  obtain ⟨i, hi, hcmp⟩ := Option.map_eq_some_iff.1 isComp
  have h : ∀ d : Nat, (Op.equalIn (d + 2) 79 (.iface 47 (.int .i64 a)) (.iface 47 (.int .i64 b))).run Try.prog w = .ok (a == b) w := fun d => by
    simp [Op.equalIn, run_underlying Try.underlying79, run_underlying Try.underlying47, typeInfo, hi, hcmp]
  simp only [binOp]
  simp [Op.equal, Op.maxDepth, h 9998]

set_option maxRecDepth 100000 in
/-- errors.Is of a number and another one. -/
theorem is_any (a b : Int) (w : World) :
    Calls Try.prog 31 #[.iface 47 (.int .i64 a), .iface 47 (.int .i64 b)] w fun e w' => e = .returned (.bool (a == b)) ∧ w = w' := by
  have h32 := @run_callFunc_extern Try.prog 32 _ Extern.ReflectliteType.typeOf Try.func32 (by kernel_rfl) (by kernel_rfl) (by kernel_rfl) (by kernel_rfl)
  have h55 := @run_callFunc_extern Try.prog 55 _ cmpEntry Try.func55 (by kernel_rfl) (by kernel_rfl) (by kernel_rfl) (by kernel_rfl)
  have tT := isTypeOf
  have cT := isComparable
  have mR := isMethodComparable
  have nE := noIsE
  have uE := noUnwrapE
  have vE := noUnwrapsE
  have heq := eql_errno a b
  have hn1 := run_eql_iface_nil_left (P := Try.prog) w 47 (.int .i64 b) Try.underlying79
  by_cases hab : a = b
  · have hab' : (a == b) = true := by simp [hab]
    clear hab
    have heq' : (binOp .eql 79 (.iface 47 (.int .i64 a)) (.iface 47 (.int .i64 b))).run Try.prog w = .ok (.bool true) w := by rw [heq, hab']
    clear heq
    have HB := Lib.hid hab'; clear hab'
    go_enter Try.func31, Try.ntmps31
    go_wp2
    refine wp_loop_rounds 1 ?_
    rw [rounds_succ]
    go_wp2
    go_ret
    exact ⟨by rw [HB.out]; rfl, rfl⟩
  · have hab' : (a == b) = false := by simp [hab]
    clear hab
    have heq' : (binOp .eql 79 (.iface 47 (.int .i64 a)) (.iface 47 (.int .i64 b))).run Try.prog w = .ok (.bool false) w := by rw [heq, hab']
    clear heq
    have HB := Lib.hid hab'; clear hab'
    go_enter Try.func31, Try.ntmps31
    go_wp2
    refine wp_loop_rounds 1 ?_
    rw [rounds_succ]
    go_wp2
    go_ret
    exact ⟨by rw [HB.out]; rfl, rfl⟩

/-- errors.Is(nil, x). -/
theorem is_nil (b : Int) (w : World) :
    Calls Try.prog 31 #[.nilIface, .iface 47 (.int .i64 b)] w fun e w' => e = .returned (.bool false) ∧ w = w' := by
  have hn := run_eql_iface_nil_left (P := Try.prog) w 47 (.int .i64 b) Try.underlying79
  go_enter Try.func31, Try.ntmps31
  go_wp2
  go_ret
  exact ⟨rfl, rfl⟩

theorem failed_any (a : Int) (w : World) :
    Calls Try.prog 25 #[.iface 47 (.int .i64 a)] w fun e w' => e = .returned (.bool (a == 17)) ∧ w = w' := by
  go_enter Try.func25, Try.ntmps25
  go_wp2_with (go_at_call 31; refine (is_any _ _ _).mono ?_; rintro e w' ⟨rfl, rfl⟩)
  go_ret
  exact ⟨rfl, rfl⟩

theorem failed_nil (w : World) :
    Calls Try.prog 25 #[.nilIface] w fun e w' => e = .returned (.bool false) ∧ w = w' := by
  go_enter Try.func25, Try.ntmps25
  go_wp2_with (go_at_call 31; refine (is_nil _ _).mono ?_; rintro e w' ⟨rfl, rfl⟩)
  go_ret
  exact ⟨rfl, rfl⟩

/-! ### A device that nobody made: nil, or one whose map is nil -/
theorem fail_nil (n : Int) (w : World) :
    Calls Try.prog 19 #[.pointer none, .int .i64 n] w fun e w' => e = .returned (.tuple #[]) ∧ w = w' := by
  go_enter Try.func19, Try.ntmps19
  go_wp2
  go_end0
  exact ⟨rfl, rfl⟩

theorem qT (w : World) (r : Option Nat) : (binOp .eql 69 (.map r) (.map none)).run Try.prog w = .ok (.bool r.isNone) w :=
  run_eql_map_nil w _ _ _ r Try.underlying69
attribute [local go_sem] qT

theorem none_empty (b : Nat) (w : World) (h : w.cell? ⟨b, 1, none⟩ = some (.map none)) :
    Calls Try.prog 29 #[.pointer (some ⟨b, 0, none⟩)] w fun e w' => e = .returned (.bool true) ∧ w = w' := by
  go_enter Try.func29, Try.ntmps29
  go_wp2
  go_ret
  exact ⟨rfl, rfl⟩

theorem fail_empty (b : Nat) (n : Int) (w : World) (h : w.cell? ⟨b, 1, none⟩ = some (.map none)) :
    Calls Try.prog 19 #[.pointer (some ⟨b, 0, none⟩), .int .i64 n] w fun e w' => e = .returned (.tuple #[]) ∧ w = w' := by
  go_enter Try.func19, Try.ntmps19
  go_wp2_with (go_at_call 29; refine (none_empty _ _ h).mono ?_; rintro e w' ⟨rfl, rfl⟩)
  go_end0
  exact ⟨rfl, rfl⟩

end Go.Proofs.Ytcdfidojddlgpaa
