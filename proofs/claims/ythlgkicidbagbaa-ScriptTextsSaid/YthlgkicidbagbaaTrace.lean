/- A process's lines: a contract. -/
import Derived.Test.YthlgkicidbagbaaText2
namespace Go.Proofs.Ythlgkicidbagbaa
set_option maxRecDepth 100000
open Go Go.RowKit Go.ChangeMaps Go.Lib
set_option linter.unusedVariables false

/-- An event. -/
structure Ev where
  pr : Int
  ki : Int
  pc : Int
  op : Int
  co : Int
  t : Bool
  m : Nat
  a : Nat
structure Ev.Ok (e : Ev) : Prop where
  pr1 : -9223372036854775808 ≤ e.pr
  pr2 : e.pr ≤ 9223372036854775807
  ki1 : -9223372036854775808 ≤ e.ki
  ki2 : e.ki ≤ 9223372036854775807
  pc1 : 0 ≤ e.pc
  pc2 : e.pc < 18446744073709551616
  op1 : -9223372036854775808 ≤ e.op
  op2 : e.op ≤ 9223372036854775807
  co1 : -9223372036854775808 ≤ e.co
  co2 : e.co ≤ 9223372036854775807
  m1 : e.m < 18446744073709551616
  a1 : e.a < 18446744073709551616
def Ev.cells (e : Ev) : List Value := [.int .i64 e.pr, .int .i64 e.ki, .int .u64 e.pc, .int .i64 e.op, .int .i64 e.co, .bool e.t, .int .u64 e.m, .int .u64 e.a]
def Ev.text (e : Ev) : ByteArray := textS e.pr e.ki e.pc e.op e.co e.t e.m e.a
theorem Ev.text_size (e : Ev) : e.text.size ≤ 1507 := by
  have := Ythlgkicidbagbaa.text_size e.pr e.ki e.pc e.op e.co e.t e.m e.a
  unfold Ev.text textS
  rw [ByteArray.size_append]
  have k : (⟨#[10]⟩ : ByteArray).size = 1 := rfl
  have : (⟨(Lib.join ((partsS e.pr e.ki e.pc e.op e.co e.t e.m e.a).map (·.data.toList)) [32]).toArray⟩ : ByteArray).size ≤ 1506 := by
    show (Lib.join _ _).toArray.size ≤ _; rw [List.size_toArray]; exact this
  omega

/-- A slice of events, as they lie in memory. -/
def EvsAt (w : World) (v : Value) (L : List Ev) : Prop :=
  ∃ a cap, v = .slice a L.length cap ∧ L.length ≤ cap ∧ cap ≤ maxLen ∧ (a = none → cap = 0) ∧ (0 < L.length → ∃ b o, a = some ⟨b, o, none⟩ ∧ ∀ (i : Nat) x, L[i]? = some x → x.Ok ∧ ∀ j u, x.cells[j]? = some u → w.cell? ⟨b, o + i * 8 + j, none⟩ = some u)
theorem EvsAt.below {w w' : World} {v : Value} {L : List Ev} (h : EvsAt w v L) (hb : Below w.heap.size w w') : EvsAt w' v L := by
  obtain ⟨a, cap, rfl, hc, hm, hn, h⟩ := h
  refine ⟨a, cap, rfl, hc, hm, hn, fun h0 => ?_⟩
  obtain ⟨b, o, rfl, g⟩ := h h0
  refine ⟨b, o, rfl, fun i x hx => ⟨(g i x hx).1, fun j u hu => ?_⟩⟩
  have := (g i x hx).2 j u hu
  exact (hb.cell (cell_lt this)).trans this

/-- What is told of a process. -/
def traceL (id : Int) (L : List Ev) : List UInt8 := L.flatMap fun e => if e.pr = id then e.text.data.toList else []
theorem traceL_append (id : Int) (l m : List Ev) : traceL id (l ++ m) = traceL id l ++ traceL id m := by simp [traceL]
theorem traceL_length (id : Int) : ∀ L : List Ev, (traceL id L).length ≤ 1507 * L.length
  | [] => by simp [traceL]
  | e :: r => by
    have h1 := traceL_length id r
    have h2 := e.text_size
    have e1 : traceL id (e :: r) = (if e.pr = id then e.text.data.toList else []) ++ traceL id r := by simp [traceL]
    have h3 : (if e.pr = id then e.text.data.toList else []).length ≤ 1507 := by
      split
      · have : e.text.data.toList.length = e.text.size := rfl
        omega
      · simp
    rw [e1, List.length_append, List.length_cons]; omega

theorem builder_below {w w' : World} {T e B b : Nat} {p : Value} {bs : List Value} (h : Lib.BuilderAt T e B b p bs w) (hb : Below w.heap.size w w') : Lib.BuilderAt T e B b p bs w' := by
  obtain ⟨h1, v, h2, h3, h4⟩ := h
  exact ⟨h1, v, (hb.block _ (blk_lt h2)).trans h2, own_below h3 hb, h4⟩
theorem isBuilder_below {w w' : World} {T e B b : Nat} {bs : List Value} (h : Lib.IsBuilder T e B b bs w) (hb : Below w.heap.size w w') : Lib.IsBuilder T e B b bs w' :=
  h.imp (builder_below · hb) (builder_below · hb)
theorem isBuilder_lt {w : World} {T e B b : Nat} {bs : List Value} (h : Lib.IsBuilder T e B b bs w) : b < w.heap.size := by
  rcases h with ⟨_, v, h2, _⟩ | ⟨_, v, h2, _⟩ <;> exact blk_lt h2
theorem strCells_eq (s : ByteArray) : Lib.strCells s = Lib.byteCells s.data.toList := rfl
theorem byteCells_append (l m : List UInt8) : Lib.byteCells (l ++ m) = Lib.byteCells l ++ Lib.byteCells m := by simp [Lib.byteCells]

theorem event_call (x : Ev) (h : x.Ok) (w : World) :
    Calls Try.prog 7 #[.agg #[.int .i64 x.pr, .int .i64 x.ki, .int .u64 x.pc, .int .i64 x.op, .int .i64 x.co, .bool x.t, .int .u64 x.m, .int .u64 x.a]] w (fun e w' => e = .returned (.string x.text) ∧ Below w.heap.size w w') :=
  text_any x.pr x.ki x.pc x.op x.co x.t x.m x.a w h.pr1 h.pr2 h.pc1 h.pc2 h.co1 h.co2 h.op1 h.op2 h.m1 h.a1

theorem take_snoc {α : Type} {L : List α} {k : Nat} {x : α} (h : L[k]? = some x) : L.take (k + 1) = L.take k ++ [x] := by
  rw [List.take_add_one, h]; rfl
theorem trace_room {id : Int} {L : List Ev} {k n : Nat} (hn : n ≤ 1507) (hL : L.length ≤ 1000) (hk : k ≤ L.length) : (Lib.byteCells (traceL id (L.take k))).length + n ≤ 140737488355328 := by
  have h1 := traceL_length id (L.take k)
  have h2 : (L.take k).length ≤ 1000 := by rw [List.length_take]; omega
  have h3 : (Lib.byteCells (traceL id (L.take k))).length = (traceL id (L.take k)).length := by simp [Lib.byteCells]
  omega

set_option maxHeartbeats 4000000 in
theorem trace_any (L : List Ev) (v : Value) (id : Int) (w : World) (hL : L.length ≤ 1000) (h : EvsAt w v L) :
    Calls Try.prog 8 #[v, .int .i64 id] w (fun e w' => e = .returned (.string ⟨(traceL id L).toArray⟩) ∧ Below w.heap.size w w') := by
  obtain ⟨a, cap, rfl, hcap, hcap2, -, hcells⟩ := h
  have HC := Lib.hid hcells; clear hcells
  unfold maxLen at hcap2
  go_enter Try.func8, Try.ntmps8
  go_wp2_with fail
  go_loopw [10] (fun i wr => ∃ k : Nat, k ≤ L.length ∧ i = .int .i64 k ∧ Lib.IsBuilder 51 5 w.heap.size w.heap.size (Lib.byteCells (traceL id (L.take k))) wr ∧ Below w.heap.size w wr) (fun i _ => L.length - (RowKit.intOf i).toNat)
  case atStart =>
    refine ⟨0, by omega, rfl, ?_, alloc_below' w _⟩
    exact .inl ⟨Nat.le_refl _, _, blk_alloc_new w _, ⟨rfl, .inl ⟨rfl, rfl⟩⟩, by simp [Value.ownBlock]⟩
  case round =>
    obtain ⟨k, hk, rfl, hbu, hbel⟩ := hrel
    have HBU := Lib.hid hbu; have HBE := Lib.hid hbel
    clear hbu hbel
    by_cases hlt : k < L.length
    · obtain ⟨b, o, rfl, hcl⟩ := HC.out (by omega)
      obtain ⟨x, hx⟩ : ∃ x, L[k]? = some x := ⟨_, List.getElem?_eq_getElem hlt⟩
      obtain ⟨hok, hce⟩ := hcl k x hx
      have hbw : b < w.heap.size := cell_lt (hce 0 _ rfl)
      have hz := HBE.out.size
      have e : ∀ j u, x.cells[j]? = some u → wr.cell? ⟨b, o + k * 8 + j, none⟩ = some u := fun j u hu => (World.cell?_of_block (w := w) (HBE.out.block b hbw)).trans (hce j u hu)
      have c0 := e 0 _ rfl
      have c1 := e 1 _ rfl
      have c2 := e 2 _ rfl
      have c3 := e 3 _ rfl
      have c4 := e 4 _ rfl
      have c5 := e 5 _ rfl
      have c6 := e 6 _ rfl
      have c7 := e 7 _ rfl
      rw [Nat.add_zero] at c0
      have HX := Lib.hid hx
      have HOK := Lib.hid hok
      clear hcl hce e hx hok
      have i0 : (0 : Int) ≤ (k : Int) := by omega
      have i1 : (k : Int) < (L.length : Int) := by omega
      by_cases hq : x.pr = id
      · have hq' : (x.pr == id) = true := beq_iff_eq.2 hq
        have HQ := Lib.hid hq
        clear hq
        go_wp2_with fail
        (with_reducible refine (event_call x HOK.out _).mono ?_)
        rintro e w2 ⟨rfl, hb2⟩
        have BU2 := Lib.hid (isBuilder_below (isBuilder_below HBU.out (alloc_below' wr _)) hb2)
        have hz2 : wr.heap.size + 1 ≤ w2.heap.size := by have := hb2.size; simpa using this
        have BE2 := Lib.hid ((HBE.out.alloc hz _).trans (hb2.mono (by simp; omega)))
        have HS : Hid (x.text.size ≤ 1507) := Lib.hid x.text_size
        clear hb2
        go_wp2_with fail
        (with_reducible refine (Try.Builder_WriteString w.heap.size w.heap.size _ x.text _ BU2.out (trace_room HS.out hL hk) (by omega)).mono ?_)
        rintro e w3 ⟨rfl, hbu3, hb3⟩
        have BU3 := Lib.hid hbu3; have BE3 := Lib.hid hb3
        clear hbu3 hb3
        go_wp2
        go_roundw
        case rel =>
          refine ⟨k + 1, by omega, by go_num, ?_, BE2.out.trans BE3.out⟩
          rw [take_snoc HX.out, traceL_append, byteCells_append, show traceL id [x] = x.text.data.toList by simp [traceL, HQ.out], ← strCells_eq]
          exact .inr BU3.out
        case measure => simp [RowKit.intOf]; omega
      · have hq' : (x.pr == id) = false := beq_eq_false_iff_ne.2 hq
        have HQ := Lib.hid hq
        clear hq
        go_wp2
        go_roundw
        case rel =>
          refine ⟨k + 1, by omega, by go_num, ?_, HBE.out.alloc hz _⟩
          rw [take_snoc HX.out, traceL_append, show traceL id [x] = [] by simp [traceL, HQ.out], List.append_nil]
          exact isBuilder_below HBU.out (alloc_below' wr _)
        case measure => simp [RowKit.intOf]; omega
    · obtain rfl : k = L.length := by omega
      rw [List.take_length] at HBU
      go_wp2_with fail
      (with_reducible refine (Try.Builder_String_any w.heap.size w.heap.size (traceL id L) _ HBU.out HBE.out.size).mono ?_)
      rintro e w2 ⟨rfl, hb2⟩
      have BE2 := Lib.hid hb2
      clear hb2
      go_wp2
      go_ret
      exact ⟨rfl, HBE.out.trans BE2.out⟩
end Go.Proofs.Ythlgkicidbagbaa
