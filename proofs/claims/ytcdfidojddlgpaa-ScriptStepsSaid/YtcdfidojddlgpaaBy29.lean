/- The bytes of steps: a contract. -/
import Derived.Test.YtcdfidojddlgpaaCl29
namespace Go.Proofs.Ytcdfidojddlgpaa
set_option maxRecDepth 100000
open Go Go.RowKit Go.ChangeMaps Go.Lib

/-- A slice value is of these steps. -/
def StepsAt (w : World) (v : Value) (L : List Stp) : Prop :=
  ∃ a cap, v = .slice a L.length cap ∧ (0 < L.length → ∃ b o, a = some ⟨b, o, none⟩ ∧ ∀ (i : Nat) (x : Stp), L[i]? = some x →
    w.cell? ⟨b, o + i * 3, none⟩ = some (.int .i64 x.1) ∧ w.cell? ⟨b, o + i * 3 + 1, none⟩ = some (.int .i64 x.2.1) ∧ w.cell? ⟨b, o + i * 3 + 2, none⟩ = some (.int .i64 x.2.2))

theorem StepsAt.below {w w' : World} {v : Value} {L : List Stp} (h : StepsAt w v L) (b : Below w.heap.size w w') : StepsAt w' v L := by
  obtain ⟨a, cap, h1, h2⟩ := h
  refine ⟨a, cap, h1, fun hp => ?_⟩
  obtain ⟨bb, o, h3, h4⟩ := h2 hp
  refine ⟨bb, o, h3, fun i x hx => ?_⟩
  obtain ⟨k1, k2, k3⟩ := h4 i x hx
  have e := b.block bb (World.block_lt_of_cell? w _ k1)
  refine ⟨?_, ?_, ?_⟩
  · rw [World.cell?_of_block (w := w) e]; exact k1
  · rw [World.cell?_of_block (w := w) e]; exact k2
  · rw [World.cell?_of_block (w := w) e]; exact k3

def okStep (x : Stp) : Bool := decide (0 ≤ x.1 ∧ x.1 ≤ 9 ∧ 0 ≤ x.2.1 ∧ x.2.1 ≤ 255 ∧ 0 ≤ x.2.2 ∧ x.2.2 ≤ 255)
def stepBytes (x : Stp) : List Value := [.int .u8 x.1, .int .u8 x.2.1, .int .u8 x.2.2]
def bytesCells (L : List Stp) : List Value := L.flatMap stepBytes
theorem bytesCells_append (l m : List Stp) : bytesCells (l ++ m) = bytesCells l ++ bytesCells m := by simp [bytesCells]

/-- What the program tells of steps that may be, and of such that may not. -/
def BytesDid (L : List Stp) (w : World) (e : Ending) (w' : World) : Prop :=
  Below w.heap.size w w' ∧ ((L.all okStep = true ∧ ∃ v, e = .returned (.tuple #[v, .bool true]) ∧ w'.ownsRow w.heap.size 5 1 v (3 * L.length) (bytesCells L)) ∨
    (L.all okStep = false ∧ e = .returned (.tuple #[.slice none 0 0, .bool false])))

theorem byteInfo : (Try.prog.info? 5).map (fun i => (i.zero, i.size, i.bytes)) = some (some (.int .u8 0), 1, 1) := by kernel_rfl

set_option maxHeartbeats 4000000 in
theorem bytes_any (L : List Stp) (v : Value) (w : World) (hL : L.length ≤ 1000) (h : StepsAt w v L) : Calls Try.prog 14 #[v] w (BytesDid L w) := by
  obtain ⟨a, cap, rfl, hcells⟩ := h
  have HC := Lib.hid hcells; clear hcells
  go_enter Try.func14, Try.ntmps14
  go_wp2_with fail
  go_loopw [4, 9] (fun v4 i wr => ∃ k : Nat, k ≤ L.length ∧ i = .int .i64 k ∧ wr.ownsRow w.heap.size 5 1 v4 (3 * k) (bytesCells (L.take k)) ∧ (L.take k).all okStep = true ∧ Below w.heap.size w wr) (fun _ i _ => L.length - (RowKit.intOf i).toNat)
  case atStart => exact ⟨0, by omega, rfl, ⟨rfl, .inl ⟨rfl, rfl⟩⟩, rfl, Below.refl _ _⟩
  case round =>
    obtain ⟨k, hk, rfl, hown, hall, hbel⟩ := hrel
    have HO := Lib.hid hown; have HA := Lib.hid hall; have HBE := Lib.hid hbel
    clear hown hall hbel
    by_cases hlt : k < L.length
    · obtain ⟨b, o, rfl, hcl⟩ := HC.out (by omega)
      obtain ⟨x, hx⟩ : ∃ x, L[k]? = some x := ⟨_, List.getElem?_eq_getElem hlt⟩
      obtain ⟨k0, k1, k2⟩ := hcl k x hx
      have hbw : b < w.heap.size := World.block_lt_of_cell? w _ k0
      have e := HBE.out.block b hbw
      have c0 : wr.cell? ⟨b, o + k * 3, none⟩ = _ := (World.cell?_of_block (w := w) e).trans k0
      have c1 : wr.cell? ⟨b, o + k * 3 + 1, none⟩ = _ := (World.cell?_of_block (w := w) e).trans k1
      have c2 : wr.cell? ⟨b, o + k * 3 + 2, none⟩ = _ := (World.cell?_of_block (w := w) e).trans k2
      have HX := Lib.hid hx
      clear hcl k0 k1 k2 e hx
      obtain ⟨x0, x1, x2⟩ := x
      have i0 : (0 : Int) ≤ (k : Int) := by omega
      have i1 : (k : Int) < (L.length : Int) := by omega
      have hz := HBE.out.size
      by_cases hok : okStep (x0, x1, x2) = true
      · have hh := of_decide_eq_true hok
        simp only at hh
        obtain ⟨t1, t2, t3, t4, t5, t6⟩ := hh
        have HOK := Lib.hid hok
        clear hok
        obtain ⟨i0', hi, hz0, hz1, hz2⟩ := info_parts byteInfo
        have I0 := Lib.hid hi; have I1 := Lib.hid hz0; have I2 := Lib.hid hz1; have I3 := Lib.hid hz2
        clear hi hz0 hz1 hz2
        go_wp2_with (at_builtin; go_loud (refine wpList_append_lies _ (by rfl) _ _ _ (by rfl) w.heap.size 5 i0' _ 1 1 Try.underlying31 I0.out I1.out I2.out I3.out rfl (by omega) u4 (3 * k) (bytesCells (L.take k)) (by rfl) ((HO.out.alloc _).alloc _) ⟨wr.heap.size + 1, 0, none⟩ 3 3 (stepBytes (x0, x1, x2)) (by rfl) (by rfl) (World.news_of_block (cs := #[.int .u8 x0, .int .u8 x1, .int .u8 x2]) (t := 5) (fr := (0, 0)) (blk_alloc_new' _ _ _ (by simp))) (by simp [stepBytes, Value.oneCell']) (by omega) (by unfold maxLen; omega) (by omega) (by simp; omega) (wr.heap.size + 2) (by simp) ?_); intro g gc w2 hown2 hgrow hat hg; have HO3 := Lib.hid hown2; have HGR := Lib.hid hgrow; clear hown2 hgrow hat)
        go_roundw
        case rel =>
          have htk : L.take (k + 1) = L.take k ++ [(x0, x1, x2)] := by
            rw [List.take_add_one, HX.out]; rfl
          refine ⟨k + 1, by omega, by go_num, ?_, ?_, ?_⟩
          · rw [htk, bytesCells_append, show 3 * (k + 1) = 3 * k + 3 by omega]
            have := HO3.out
            simpa [bytesCells] using this
          · rw [htk, List.all_append, HA.out]; simp [HOK.out]
          · refine ((HBE.out.alloc hz _).alloc (by simp; omega) _).grown HGR.out (by simp; omega) (fun q hq => ?_)
            rcases HO.out.2 with ⟨hv, _⟩ | ⟨g', c, cur, hv, hb, hg, _⟩
            · rw [hv] at hq; simp [Value.ownBlock] at hq
            · rw [hv] at hq; simp [Value.ownBlock] at hq; omega
        case measure => simp [RowKit.intOf]; omega
      · have hno : ¬ (0 ≤ x0 ∧ x0 ≤ 9 ∧ 0 ≤ x1 ∧ x1 ≤ 255 ∧ 0 ≤ x2 ∧ x2 ≤ 255) := fun h => hok (by simp [okStep]; exact h)
        have fin : ∀ W : World, Below w.heap.size w W → BytesDid L w (.returned (.tuple #[.slice none 0 0, .bool false])) W := fun W hb =>
          ⟨hb, .inr ⟨by
            rw [List.all_eq_false]
            exact ⟨_, List.mem_of_getElem? HX.out, hok⟩, rfl⟩⟩
        have HF := Lib.hid fin
        clear fin hok
        by_cases q1 : x0 < 0
        · clear hno
          go_wp2
          go_ret2
          exact HF.out _ (HBE.out.alloc hz _)
        by_cases q2 : 9 < x0
        · clear hno
          go_wp2
          go_ret2
          exact HF.out _ (HBE.out.alloc hz _)
        by_cases q3 : x1 < 0
        · clear hno
          go_wp2
          go_ret2
          exact HF.out _ (HBE.out.alloc hz _)
        by_cases q4 : 255 < x1
        · clear hno
          go_wp2
          go_ret2
          exact HF.out _ (HBE.out.alloc hz _)
        by_cases q5 : x2 < 0
        · clear hno
          go_wp2
          go_ret2
          exact HF.out _ (HBE.out.alloc hz _)
        by_cases q6 : 255 < x2
        · clear hno
          go_wp2
          go_ret2
          exact HF.out _ (HBE.out.alloc hz _)
        · exact (hno (by omega)).elim
    · obtain rfl : k = L.length := by omega
      go_wp2
      go_ret2
      have e1 := HA.out
      have e2 := HO.out
      rw [List.take_length] at e1 e2
      exact ⟨HBE.out, .inl ⟨e1, _, rfl, e2⟩⟩

end Go.Proofs.Ytcdfidojddlgpaa
