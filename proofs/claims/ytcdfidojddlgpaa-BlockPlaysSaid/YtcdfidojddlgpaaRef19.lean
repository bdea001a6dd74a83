/- The document's device, a value: contracts of its calls. -/
import Derived.Test.YtcdfidojddlgpaaBlk
import Derived.StillTailTactics
import Derived.BigRegion
import Derived.Deep.DeepCutAuto
import Derived.Deep.CutBlock
namespace Go.Proofs.Ytcdfidojddlgpaa
set_option maxRecDepth 100000
open Go Go.RowKit Go.ChangeMaps Go.Lib

/-- The strings from a block's begin on. -/
def Strs (w : World) (b : Nat) (bl : List ByteArray) : Prop := ∀ k s, bl[k]? = some s → w.cell? ⟨b, k, none⟩ = some (.string s)
theorem strs_block {w w' : World} {b : Nat} {bl : List ByteArray} (h : Strs w b bl) (e : w'.heap[b]? = w.heap[b]?) : Strs w' b bl := fun k s hk => by
  rw [World.cell?_of_block (w := w) e]; exact h k s hk

/-- A document's device: its slice of blocks lies in a block from L on. -/
def RefAt (w : World) (L : Nat) (v : Value) (left : Int) (bl : List ByteArray) : Prop :=
  ∃ rb cap, v = .agg #[.slice (some ⟨rb, 0, none⟩) bl.length cap, .int .i64 left] ∧ Strs w rb bl ∧ L ≤ rb ∧ rb < w.heap.size

def RefFailed (v : Value) (b : Bool) (w : World) (e : Ending) (w' : World) : Prop := e = .returned (.tuple #[v, .bool b]) ∧ Below w.heap.size w w'

theorem ref_failed_no (sl : Option Addr) (n c : Nat) (left : Int) (h : left < 1) (w : World) :
    Calls Try.prog 30 #[.agg #[.slice sl n c, .int .i64 left]] w (RefFailed (.agg #[.slice sl n c, .int .i64 left]) false w) := by
  go_enter Try.func30, Try.ntmps30
  go_wp2
  exact bodyPost_ret (v := .tuple #[.agg #[.slice sl n c, .int .i64 left], .bool false]) (by simp [results, Try.results30, go_sem]) rfl
    ⟨rfl, (((Below.refl _ _).alloc (Nat.le_refl _) _).alloc (by simp) _)⟩

theorem ref_failed_yes (sl : Option Addr) (n c : Nat) (left : Int) (h : 1 ≤ left) (h2 : left ≤ 9223372036854775807) (w : World) :
    Calls Try.prog 30 #[.agg #[.slice sl n c, .int .i64 left]] w (RefFailed (.agg #[.slice sl n c, .int .i64 (left - 1)]) true w) := by
  go_enter Try.func30, Try.ntmps30
  go_wp2
  exact bodyPost_ret (v := .tuple #[.agg #[.slice sl n c, .int .i64 (left - 1)], .bool true]) (by simp [results, Try.results30, go_sem]) rfl
    ⟨rfl, (((Below.refl _ _).alloc (Nat.le_refl _) _).alloc (by simp) _)⟩

def RefWrote (L : Nat) (left : Int) (bl : List ByteArray) (bad : Int) (w : World) (e : Ending) (w' : World) : Prop :=
  ∃ v, e = .returned (.tuple #[v, .int .i64 bad]) ∧ RefAt w' L v left bl ∧ Below w.heap.size w w'

theorem RefAt.keep {w w' : World} {L : Nat} {v : Value} {left : Int} {bl : List ByteArray} (h : RefAt w L v left bl) (b : Below w.heap.size w w') : RefAt w' L v left bl := by
  obtain ⟨rb, cap, h1, h2, h3, h4⟩ := h
  exact ⟨rb, cap, h1, strs_block h2 (b.block rb h4), h3, Nat.lt_of_lt_of_le h4 b.size⟩

theorem ref_write_arg {w : World} {L : Nat} {v : Value} {left : Int} {bl : List ByteArray} (h : RefAt w L v left bl) (k : Int) (s : ByteArray) (hk : k < 0 ∨ (bl.length : Int) ≤ k ∨ s.size ≠ 4096) :
    Calls Try.prog 23 #[v, .int .i64 k, .string s] w (RefWrote L left bl 2 w) := by
  have HR := Lib.hid h
  obtain ⟨rb, cap, rfl, _, _, _⟩ := h
  have fin : ∀ w' : World, Below w.heap.size w w' → RefWrote L left bl 2 w (.returned (.tuple #[.agg #[.slice (some ⟨rb, 0, none⟩) bl.length cap, .int .i64 left], .int .i64 2])) w' := fun w' b => ⟨_, rfl, HR.out.keep b, b⟩
  have HF := Lib.hid fin; clear fin
  by_cases k1 : k < 0
  · have g1 : decide (k < 0) = true := by simp; omega
    clear hk
    go_enter Try.func23, Try.ntmps23
    go_wp2
    exact bodyPost_ret (v := .tuple #[.agg #[.slice (some ⟨rb, 0, none⟩) bl.length cap, .int .i64 left], .int .i64 2]) (by simp [results, Try.results23, go_sem]) rfl
      (HF.out _ (((Below.refl _ _).alloc (Nat.le_refl _) _).alloc (by simp) _))
  · have g1 : decide (k < 0) = false := by simp; omega
    by_cases k2 : (bl.length : Int) ≤ k
    · have g2 : decide ((bl.length : Int) ≤ k) = true := by simp; omega
      clear hk
      go_enter Try.func23, Try.ntmps23
      go_wp2
      exact bodyPost_ret (v := .tuple #[.agg #[.slice (some ⟨rb, 0, none⟩) bl.length cap, .int .i64 left], .int .i64 2]) (by simp [results, Try.results23, go_sem]) rfl
        (HF.out _ (((Below.refl _ _).alloc (Nat.le_refl _) _).alloc (by simp) _))
    · have g2 : decide ((bl.length : Int) ≤ k) = false := by simp; omega
      have g3 : ((s.size : Int) != 4096) = true := by simp; omega
      clear hk
      go_enter Try.func23, Try.ntmps23
      go_wp2
      exact bodyPost_ret (v := .tuple #[.agg #[.slice (some ⟨rb, 0, none⟩) bl.length cap, .int .i64 left], .int .i64 2]) (by simp [results, Try.results23, go_sem]) rfl
        (HF.out _ (((Below.refl _ _).alloc (Nat.le_refl _) _).alloc (by simp) _))

theorem ref_write_fail {w : World} {L : Nat} {v : Value} {left : Int} {bl : List ByteArray} (h : RefAt w L v left bl) (k : Int) (s : ByteArray) (h0 : 0 ≤ k) (hk : k < bl.length) (hs : s.size = 4096) (hl : 1 ≤ left) (hl2 : left ≤ 9223372036854775807) :
    Calls Try.prog 23 #[v, .int .i64 k, .string s] w (RefWrote L (left - 1) bl 17 w) := by
  obtain ⟨rb, cap, rfl, h2, h3, h4⟩ := h
  have fin : ∀ w' : World, Below w.heap.size w w' → RefWrote L (left - 1) bl 17 w (.returned (.tuple #[.agg #[.slice (some ⟨rb, 0, none⟩) bl.length cap, .int .i64 (left - 1)], .int .i64 17])) w' := fun w' b => ⟨_, rfl, ⟨rb, cap, rfl, strs_block h2 (b.block rb h4), h3, Nat.lt_of_lt_of_le h4 b.size⟩, b⟩
  have HF := Lib.hid fin; clear fin
  have g1 : decide (k < 0) = false := by simp; omega
  have g2 : decide ((bl.length : Int) ≤ k) = false := by simp; omega
  have g3 : ((s.size : Int) != 4096) = false := by simp; omega
  clear hs h2
  go_enter Try.func23, Try.ntmps23
  go_wp2_with fail
  refine (ref_failed_yes _ _ _ _ hl hl2 _).mono ?_
  rintro e w1 ⟨rfl, hb⟩
  have b0 : w1.heap[w.heap.size]? = some (.cells #[.slice (some ⟨rb, 0, none⟩) bl.length cap, .int .i64 left] 61 (0, 0)) := (hb.block _ (by simp <;> omega)).trans (blk_alloc_old (blk_alloc_new _ _) _)
  have b1 : w1.heap[w.heap.size + 1]? = some (.cells #[.slice none 0 0, .int .i64 0] 61 (0, 0)) := (hb.block _ (by simp)).trans (by have := blk_alloc_new (w.alloc (.cells #[.slice (some ⟨rb, 0, none⟩) bl.length cap, .int .i64 left] 61)) (.cells #[.slice none 0 0, .int .i64 0] 61); simpa using this)
  have c00 : w1.cell? ⟨w.heap.size, 0, none⟩ = some (.slice (some ⟨rb, 0, none⟩) bl.length cap) := by rw [cell_of_blk b0]; rfl
  have c01 : w1.cell? ⟨w.heap.size, 1, none⟩ = some (.int .i64 left) := by rw [cell_of_blk b0]; rfl
  have f00 := free_of_blk b0 0
  have f01 := free_of_blk b0 1
  have c10 : w1.cell? ⟨w.heap.size + 1, 0, none⟩ = some (.slice none 0 0) := by rw [cell_of_blk b1]; rfl
  have c11 : w1.cell? ⟨w.heap.size + 1, 1, none⟩ = some (.int .i64 0) := by rw [cell_of_blk b1]; rfl
  have f10 := free_of_blk b1 0
  have f11 := free_of_blk b1 1
  have HB : Hid (Below w.heap.size w w1) := Lib.hid ((((Below.refl _ _).alloc (Nat.le_refl _) _).alloc (by simp) _).trans (hb.mono (by simp; omega)))
  clear hb b0 b1
  go_wp2
  exact bodyPost_ret (v := .tuple #[.agg #[.slice (some ⟨rb, 0, none⟩) bl.length cap, .int .i64 (left - 1)], .int .i64 17]) (by simp [results, Try.results23, go_sem, c10, c11]) rfl
    (HF.out _ ((((HB.out.setCell (by simp) _).setCell (by simp) _).setCell (by simp) _).setCell (by simp) _))

theorem strInfo : (Try.prog.info? 9).map (fun i => (i.zero, i.size, i.bytes)) = some (some (.string ⟨#[]⟩), 1, 16) := by kernel_rfl

/-- What a slice of strings of the call's own is. -/
def NewStrs (w : World) (L H : Nat) (bl : List ByteArray) (W : World) (v : Value) : Prop :=
  ∃ g cap, v = .slice (some ⟨g, 0, none⟩) bl.length cap ∧ (∃ cur t, W.heap[g]? = some (.cells cur t (0, 0)) ∧ bl.length ≤ cur.size ∧ ∀ (k : Nat) (s : ByteArray), bl[k]? = some s → cur[k]? = some (Value.string s)) ∧ L ≤ g

theorem strs_of_owns {W : World} {base e g n cap : Nat} {bl : List ByteArray} (h : W.ownsRow base e 1 (.slice (some ⟨g, 0, none⟩) n cap) n (bl.map Value.string)) :
    (∃ cur t, W.heap[g]? = some (.cells cur t (0, 0)) ∧ bl.length ≤ cur.size ∧ ∀ (k : Nat) (s : ByteArray), bl[k]? = some s → cur[k]? = some (Value.string s)) ∧ base ≤ g ∧ n = bl.length := by
  obtain ⟨hl, h⟩ := h
  have hn : n = bl.length := by simpa using hl.symm
  rcases h with ⟨h, _⟩ | ⟨g', c, cur, hv, hb, hg, hc1, _, hc, ht⟩
  · cases h
  · simp only [Value.slice.injEq, Option.some.injEq, Addr.mk.injEq] at hv
    obtain ⟨⟨rfl, _⟩, _, rfl⟩ := hv
    refine ⟨⟨cur, _, hg, by omega, fun k s hk => ?_⟩, hb, hn⟩
    have hk' : k < bl.length := (List.getElem?_eq_some_iff.1 hk).1
    have e1 : (cur.toList.take (n * 1))[k]? = some (.string s) := by rw [ht, List.getElem?_map, hk]; rfl
    rw [List.getElem?_take_of_lt (by omega)] at e1
    simpa using e1

set_option maxHeartbeats 1000000 in
theorem ref_write_ok {w : World} {L : Nat} {v : Value} {left : Int} {bl : List ByteArray} (h : RefAt w L v left bl) (hLw : L ≤ w.heap.size) (hbl : bl.length ≤ 64) (k : Nat) (s : ByteArray) (hk : k < bl.length) (hs : s.size = 4096) (hl : left < 1) :
    Calls Try.prog 23 #[v, .int .i64 k, .string s] w (RefWrote L left (bl.set k s) 0 w) := by
  obtain ⟨rb, cap, rfl, h2, h3, h4⟩ := h
  have g2 : decide ((bl.length : Int) ≤ k) = false := by simp; omega
  have g3 : ((s.size : Int) != 4096) = false := by simp; omega
  have H2 := Lib.hid h2
  clear hs h2
  go_enter Try.func23, Try.ntmps23
  go_wp2_with fail
  refine (ref_failed_no _ _ _ _ hl _).mono ?_
  rintro e w1 ⟨rfl, hb⟩
  have b0 : w1.heap[w.heap.size]? = some (.cells #[.slice (some ⟨rb, 0, none⟩) bl.length cap, .int .i64 left] 61 (0, 0)) := (hb.block _ (by simp <;> omega)).trans (blk_alloc_old (blk_alloc_new _ _) _)
  have b1 : w1.heap[w.heap.size + 1]? = some (.cells #[.slice none 0 0, .int .i64 0] 61 (0, 0)) := (hb.block _ (by simp)).trans (by have := blk_alloc_new (w.alloc (.cells #[.slice (some ⟨rb, 0, none⟩) bl.length cap, .int .i64 left] 61)) (.cells #[.slice none 0 0, .int .i64 0] 61); simpa using this)
  have c00 : w1.cell? ⟨w.heap.size, 0, none⟩ = some (.slice (some ⟨rb, 0, none⟩) bl.length cap) := by rw [cell_of_blk b0]; rfl
  have c01 : w1.cell? ⟨w.heap.size, 1, none⟩ = some (.int .i64 left) := by rw [cell_of_blk b0]; rfl
  have f00 := free_of_blk b0 0
  have f01 := free_of_blk b0 1
  have HB : Hid (Below w.heap.size w w1) := Lib.hid ((((Below.refl _ _).alloc (Nat.le_refl _) _).alloc (by simp) _).trans (hb.mono (by simp; omega)))
  have B0 := Lib.hid b0; have B1 := Lib.hid b1
  clear hb b0 b1
  go_upto_region 6 with (fail)
  refine codeWp_world (fun W => W.heap[w.heap.size]? = some (.cells #[.slice (some ⟨rb, 0, none⟩) bl.length cap, .int .i64 left] 61 (0, 0)) ∧
    W.heap[w.heap.size + 1]? = some (.cells #[.slice none 0 0, .int .i64 0] 61 (0, 0)) ∧ Below w.heap.size w W) ⟨?_, ?_, ?_⟩ (fun W hW => ?_)
  · have := blk_setCell (blk_setCell B0.out 0 (.slice (some ⟨rb, 0, none⟩) bl.length cap)) 1 (.int .i64 left); simpa using this
  · rw [blk_setCell_ne (by simp), blk_setCell_ne (by simp)]; exact B1.out
  · exact (HB.out.setCell (by simp) _).setCell (by simp) _
  obtain ⟨hb0, hb1, hbel⟩ := hW
  have hz := blk_lt hb1
  have hsz := hbel.size
  have d00 : W.cell? ⟨w.heap.size, 0, none⟩ = some (.slice (some ⟨rb, 0, none⟩) bl.length cap) := by rw [cell_of_blk hb0]; rfl
  have d00' : (W.alloc (.cells #[] 9)).cell? ⟨w.heap.size, 0, none⟩ = some (.slice (some ⟨rb, 0, none⟩) bl.length cap) := by rw [cell_of_blk (blk_alloc_old hb0 _)]; rfl
  have hnews : ∀ j u, (bl.map Value.string)[j]? = some u → (W.alloc (.cells #[] 9)).cell? ((⟨rb, 0, none⟩ : Addr).add j) = some u := by
    intro j u hj
    have hadd : (⟨rb, 0, none⟩ : Addr).add j = ⟨rb, j, none⟩ := by unfold Addr.add; split <;> simp_all
    rw [List.getElem?_map, Option.map_eq_some_iff] at hj
    obtain ⟨s1, h1, rfl⟩ := hj
    rw [hadd, World.cell?_of_block (w := w) ((Below.heap_alloc W _ rb (by omega)).trans (hbel.block rb h4))]
    exact H2.out j s1 h1
  have hone : ∀ v ∈ bl.map Value.string, v.oneCell' = true := by intro v hv; obtain ⟨_, _, rfl⟩ := List.mem_map.1 hv; rfl
  clear c00 c01 f00 f01
  have HB0 := Lib.hid hb0; have HB1 := Lib.hid hb1; have HBE := Lib.hid hbel; have HN := Lib.hid hnews; have HO := Lib.hid hone
  clear hb0 hb1 hbel hnews hone
  clear B0 B1 HB w1
  obtain ⟨i0, hi, hz0, hz1, hz2⟩ := info_parts strInfo
  have I0 := Lib.hid hi; have I1 := Lib.hid hz0; have I2 := Lib.hid hz1; have I3 := Lib.hid hz2
  clear hi hz0 hz1 hz2
  go_upto_region 7 with (at_builtin; refine wpList_append_lies _ (by rfl) _ _ _ (by rfl) w.heap.size 9 i0 _ 1 16 Try.underlying59 I0.out I1.out I2.out I3.out rfl (by omega) (.slice (some ⟨W.heap.size, 0, none⟩) 0 0) 0 [] (by rfl) (ownsRow_empty W _ _ _ W.heap.size rfl hsz) ⟨rb, 0, none⟩ bl.length cap (bl.map Value.string) (by rfl) (by simp) HN.out HO.out (by omega) (by unfold maxLen; omega) (by omega) (by simp; omega) (W.heap.size + 1) (by simp) ?_; intro g gc w2 hown hgrow hat hlt; have HOW := Lib.hid hown; have HGR := Lib.hid hgrow; have HAT := Lib.hid hat; clear hown hgrow hat)
  obtain ⟨⟨cur, ct, hcur, hcl, hcs⟩, hgb, _⟩ := strs_of_owns (by simpa using HOW.out)
  have hgW : W.heap.size ≤ g := by
    have := HAT.out
    simp [Value.ownBlock] at this
    omega
  have e0 : w2.heap[w.heap.size]? = _ := (HGR.out.block _ (by simp; omega) (by simp [Value.ownBlock]; omega)).trans (blk_alloc_old HB0.out _)
  have e1 : w2.heap[w.heap.size + 1]? = _ := (HGR.out.block _ (by simp; omega) (by simp [Value.ownBlock]; omega)).trans (blk_alloc_old HB1.out _)
  have hbel2 : Below w.heap.size w w2 := (HBE.out.alloc hsz _).grown HGR.out (by simp; omega) (fun q hq => by simp [Value.ownBlock] at hq; omega)
  obtain ⟨v2, cg⟩ : ∃ v, w2.cell? ⟨g, k, none⟩ = some v := ⟨cur[k]'(by omega), by rw [cell_of_blk hcur]; simp⟩
  have fg := free_of_blk hcur k
  have c00 : w2.cell? ⟨w.heap.size, 0, none⟩ = some (.slice (some ⟨rb, 0, none⟩) bl.length cap) := by rw [cell_of_blk e0]; rfl
  have c01 : w2.cell? ⟨w.heap.size, 1, none⟩ = some (.int .i64 left) := by rw [cell_of_blk e0]; rfl
  have f00 := free_of_blk e0 0
  have f01 := free_of_blk e0 1
  have c10 : w2.cell? ⟨w.heap.size + 1, 0, none⟩ = some (.slice none 0 0) := by rw [cell_of_blk e1]; rfl
  have c11 : w2.cell? ⟨w.heap.size + 1, 1, none⟩ = some (.int .i64 0) := by rw [cell_of_blk e1]; rfl
  have f10 := free_of_blk e1 0
  have f11 := free_of_blk e1 1
  have hg0 : g ≠ w.heap.size := by omega
  have hg1 : g ≠ w.heap.size + 1 := by omega
  have n0 : (w2.setCell ⟨g, k, none⟩ (.string s)).cell? ⟨w.heap.size, 0, none⟩ = some (.slice (some ⟨rb, 0, none⟩) bl.length cap) := by
    rw [World.cell?_of_block (w := w2) (blk_setCell_ne (by simp; omega) _)]; exact c00
  have n1 : (w2.setCell ⟨g, k, none⟩ (.string s)).cell? ⟨w.heap.size, 1, none⟩ = some (.int .i64 left) := by
    rw [World.cell?_of_block (w := w2) (blk_setCell_ne (by simp; omega) _)]; exact c01
  clear d00 d00'
  have hgs := HGR.out.size
  have HBE2 := Lib.hid hbel2; have HCUR := Lib.hid hcur; have HCS := Lib.hid hcs; have E0 := Lib.hid e0; have E1 := Lib.hid e1
  clear hbel2 hcur hcs e0 e1 HOW HGR HAT HB0 HB1 HBE HN HO
  go_wp2
  have m0 : (((w2.setCell ⟨g, k, none⟩ (.string s)).setCell ⟨w.heap.size, 0, none⟩ (.slice (some ⟨g, 0, none⟩) bl.length gc))).heap[w.heap.size + 1]? = some (.cells #[.slice none 0 0, .int .i64 0] 61 (0, 0)) := by
    rw [blk_setCell_ne (by simp), blk_setCell_ne (by simp; omega)]; exact E1.out
  have m2 := blk_setCell (blk_setCell m0 0 (.slice (some ⟨g, 0, none⟩) bl.length gc)) 1 (.int .i64 left)
  refine bodyPost_ret (v := .tuple #[.agg #[.slice (some ⟨g, 0, none⟩) bl.length gc, .int .i64 left], .int .i64 0]) (by simp [results, Try.results23, go_sem, cell_of_blk m2]) rfl ?_
  refine ⟨_, rfl, ⟨g, gc, by simp, fun j u hj => ?_, by omega, ?_⟩, ?_⟩
  · rw [World.cell?_of_block (w := w2.setCell ⟨g, k, none⟩ (.string s)) (by rw [blk_setCell_ne (by simp; omega), blk_setCell_ne (by simp; omega), blk_setCell_ne (by simp; omega)]), cell_of_blk (blk_setCell HCUR.out k _), Array.getElem?_setIfInBounds]
    rw [List.getElem?_set] at hj
    by_cases e : k = j
    · subst e
      rw [if_pos rfl, if_pos hk] at hj
      cases hj
      rw [if_pos rfl, if_pos (by omega)]
    · rw [if_neg e] at hj
      rw [if_neg e]
      exact HCS.out j u hj
  · simp [World.setCell]; exact blk_lt HCUR.out
  · exact (((HBE2.out.setCell (by simp; omega) _).setCell (by simp) _).setCell (by simp) _).setCell (by simp) _

def RefRead (L : Nat) (left : Int) (bl : List ByteArray) (s : ByteArray) (bad : Int) (w : World) (e : Ending) (w' : World) : Prop :=
  ∃ v, e = .returned (.tuple #[v, .string s, .int .i64 bad]) ∧ RefAt w' L v left bl ∧ Below w.heap.size w w'

theorem ref_read_arg {w : World} {L : Nat} {v : Value} {left : Int} {bl : List ByteArray} (h : RefAt w L v left bl) (k : Int) (hk : k < 0 ∨ (bl.length : Int) ≤ k) :
    Calls Try.prog 24 #[v, .int .i64 k] w (RefRead L left bl ⟨#[]⟩ 2 w) := by
  have HR := Lib.hid h
  obtain ⟨rb, cap, rfl, _, _, _⟩ := h
  have fin : ∀ w' : World, Below w.heap.size w w' → RefRead L left bl ⟨#[]⟩ 2 w (.returned (.tuple #[.agg #[.slice (some ⟨rb, 0, none⟩) bl.length cap, .int .i64 left], .string ⟨#[]⟩, .int .i64 2])) w' := fun w' b => ⟨_, rfl, HR.out.keep b, b⟩
  have HF := Lib.hid fin; clear fin
  by_cases k1 : k < 0
  · have g1 : decide (k < 0) = true := by simp; omega
    clear hk
    go_enter Try.func24, Try.ntmps24
    go_wp2
    exact bodyPost_ret (v := .tuple #[.agg #[.slice (some ⟨rb, 0, none⟩) bl.length cap, .int .i64 left], .string ⟨#[]⟩, .int .i64 2]) (by simp [results, Try.results24, go_sem]) rfl
      (HF.out _ (((Below.refl _ _).alloc (Nat.le_refl _) _).alloc (by simp) _))
  · have g1 : decide (k < 0) = false := by simp; omega
    have g2 : decide ((bl.length : Int) ≤ k) = true := by simp; omega
    clear hk
    go_enter Try.func24, Try.ntmps24
    go_wp2
    exact bodyPost_ret (v := .tuple #[.agg #[.slice (some ⟨rb, 0, none⟩) bl.length cap, .int .i64 left], .string ⟨#[]⟩, .int .i64 2]) (by simp [results, Try.results24, go_sem]) rfl
      (HF.out _ (((Below.refl _ _).alloc (Nat.le_refl _) _).alloc (by simp) _))

theorem ref_read_fail {w : World} {L : Nat} {v : Value} {left : Int} {bl : List ByteArray} (h : RefAt w L v left bl) (k : Int) (h0 : 0 ≤ k) (hk : k < bl.length) (hl : 1 ≤ left) (hl2 : left ≤ 9223372036854775807) :
    Calls Try.prog 24 #[v, .int .i64 k] w (RefRead L (left - 1) bl ⟨#[]⟩ 17 w) := by
  obtain ⟨rb, cap, rfl, h2, h3, h4⟩ := h
  have fin : ∀ w' : World, Below w.heap.size w w' → RefRead L (left - 1) bl ⟨#[]⟩ 17 w (.returned (.tuple #[.agg #[.slice (some ⟨rb, 0, none⟩) bl.length cap, .int .i64 (left - 1)], .string ⟨#[]⟩, .int .i64 17])) w' := fun w' b => ⟨_, rfl, ⟨rb, cap, rfl, strs_block h2 (b.block rb h4), h3, Nat.lt_of_lt_of_le h4 b.size⟩, b⟩
  have HF := Lib.hid fin; clear fin
  have g1 : decide (k < 0) = false := by simp; omega
  have g2 : decide ((bl.length : Int) ≤ k) = false := by simp; omega
  clear h2
  go_enter Try.func24, Try.ntmps24
  go_wp2_with fail
  refine (ref_failed_yes _ _ _ _ hl hl2 _).mono ?_
  rintro e w1 ⟨rfl, hb⟩
  have b0 : w1.heap[w.heap.size]? = some (.cells #[.slice (some ⟨rb, 0, none⟩) bl.length cap, .int .i64 left] 61 (0, 0)) := (hb.block _ (by simp <;> omega)).trans (blk_alloc_old (blk_alloc_new _ _) _)
  have b1 : w1.heap[w.heap.size + 1]? = some (.cells #[.slice none 0 0, .int .i64 0] 61 (0, 0)) := (hb.block _ (by simp)).trans (by have := blk_alloc_new (w.alloc (.cells #[.slice (some ⟨rb, 0, none⟩) bl.length cap, .int .i64 left] 61)) (.cells #[.slice none 0 0, .int .i64 0] 61); simpa using this)
  have c00 : w1.cell? ⟨w.heap.size, 0, none⟩ = some (.slice (some ⟨rb, 0, none⟩) bl.length cap) := by rw [cell_of_blk b0]; rfl
  have c01 : w1.cell? ⟨w.heap.size, 1, none⟩ = some (.int .i64 left) := by rw [cell_of_blk b0]; rfl
  have f00 := free_of_blk b0 0
  have f01 := free_of_blk b0 1
  have c10 : w1.cell? ⟨w.heap.size + 1, 0, none⟩ = some (.slice none 0 0) := by rw [cell_of_blk b1]; rfl
  have c11 : w1.cell? ⟨w.heap.size + 1, 1, none⟩ = some (.int .i64 0) := by rw [cell_of_blk b1]; rfl
  have f10 := free_of_blk b1 0
  have f11 := free_of_blk b1 1
  have HB : Hid (Below w.heap.size w w1) := Lib.hid ((((Below.refl _ _).alloc (Nat.le_refl _) _).alloc (by simp) _).trans (hb.mono (by simp; omega)))
  have B0 := Lib.hid b0; have B1 := Lib.hid b1
  clear hb b0 b1
  go_wp2
  exact bodyPost_ret (v := .tuple #[.agg #[.slice (some ⟨rb, 0, none⟩) bl.length cap, .int .i64 (left - 1)], .string ⟨#[]⟩, .int .i64 17]) (by simp [results, Try.results24, go_sem, c10, c11]) rfl
    (HF.out _ ((((HB.out.setCell (by simp) _).setCell (by simp) _).setCell (by simp) _).setCell (by simp) _))

theorem ref_read_ok {w : World} {L : Nat} {v : Value} {left : Int} {bl : List ByteArray} (h : RefAt w L v left bl) (k : Nat) (s : ByteArray) (hk : bl[k]? = some s) (hl : left < 1) :
    Calls Try.prog 24 #[v, .int .i64 k] w (RefRead L left bl s 0 w) := by
  obtain ⟨rb, cap, rfl, h2, h3, h4⟩ := h
  have fin : ∀ w' : World, Below w.heap.size w w' → RefRead L left bl s 0 w (.returned (.tuple #[.agg #[.slice (some ⟨rb, 0, none⟩) bl.length cap, .int .i64 left], .string s, .int .i64 0])) w' := fun w' b => ⟨_, rfl, ⟨rb, cap, rfl, strs_block h2 (b.block rb h4), h3, Nat.lt_of_lt_of_le h4 b.size⟩, b⟩
  have HF := Lib.hid fin; clear fin
  have hkl : k < bl.length := (List.getElem?_eq_some_iff.1 hk).1
  have g2 : decide ((bl.length : Int) ≤ k) = false := by simp; omega
  have hc := h2 k s hk
  clear h2 hk
  go_enter Try.func24, Try.ntmps24
  go_wp2_with fail
  refine (ref_failed_no _ _ _ _ hl _).mono ?_
  rintro e w1 ⟨rfl, hb⟩
  have cs : w1.cell? ⟨rb, k, none⟩ = some (.string s) := (hb.cell (by simp; omega)).trans (by rw [World.cell?_of_block (w := w) ((Below.heap_alloc _ _ rb (by simp; omega)).trans (Below.heap_alloc _ _ rb h4))]; exact hc)
  have b0 : w1.heap[w.heap.size]? = some (.cells #[.slice (some ⟨rb, 0, none⟩) bl.length cap, .int .i64 left] 61 (0, 0)) := (hb.block _ (by simp <;> omega)).trans (blk_alloc_old (blk_alloc_new _ _) _)
  have b1 : w1.heap[w.heap.size + 1]? = some (.cells #[.slice none 0 0, .int .i64 0] 61 (0, 0)) := (hb.block _ (by simp)).trans (by have := blk_alloc_new (w.alloc (.cells #[.slice (some ⟨rb, 0, none⟩) bl.length cap, .int .i64 left] 61)) (.cells #[.slice none 0 0, .int .i64 0] 61); simpa using this)
  have c00 : w1.cell? ⟨w.heap.size, 0, none⟩ = some (.slice (some ⟨rb, 0, none⟩) bl.length cap) := by rw [cell_of_blk b0]; rfl
  have c01 : w1.cell? ⟨w.heap.size, 1, none⟩ = some (.int .i64 left) := by rw [cell_of_blk b0]; rfl
  have f00 := free_of_blk b0 0
  have f01 := free_of_blk b0 1
  have c10 : w1.cell? ⟨w.heap.size + 1, 0, none⟩ = some (.slice none 0 0) := by rw [cell_of_blk b1]; rfl
  have c11 : w1.cell? ⟨w.heap.size + 1, 1, none⟩ = some (.int .i64 0) := by rw [cell_of_blk b1]; rfl
  have f10 := free_of_blk b1 0
  have f11 := free_of_blk b1 1
  have HB : Hid (Below w.heap.size w w1) := Lib.hid ((((Below.refl _ _).alloc (Nat.le_refl _) _).alloc (by simp) _).trans (hb.mono (by simp; omega)))
  have B0 := Lib.hid b0; have B1 := Lib.hid b1
  clear hb b0 b1
  have hk0 : (0 : Int) ≤ (k : Int) := by omega
  have hk1 : (k : Int) < (bl.length : Int) := by omega
  go_upto_region 6 with (fail)
  refine codeWp_world (fun W => W.cell? ⟨w.heap.size, 0, none⟩ = some (.slice (some ⟨rb, 0, none⟩) bl.length cap) ∧ W.cell? ⟨w.heap.size, 1, none⟩ = some (.int .i64 left) ∧ W.cell? ⟨rb, k, none⟩ = some (.string s) ∧
    W.heap[w.heap.size + 1]? = some (.cells #[.slice none 0 0, .int .i64 0] 61 (0, 0)) ∧ Below w.heap.size w W) ⟨?_, ?_, ?_, ?_, ?_⟩ (fun W hW => ?_)
  · have := blk_setCell (blk_setCell B0.out 0 (.slice (some ⟨rb, 0, none⟩) bl.length cap)) 1 (.int .i64 left); rw [cell_of_blk this]; simp
  · have := blk_setCell (blk_setCell B0.out 0 (.slice (some ⟨rb, 0, none⟩) bl.length cap)) 1 (.int .i64 left); rw [cell_of_blk this]; simp
  · rw [World.cell?_of_block (w := w1) ((blk_setCell_ne (by simp; omega) _).trans (blk_setCell_ne (by simp; omega) _))]; exact cs
  · rw [blk_setCell_ne (by simp), blk_setCell_ne (by simp)]; exact B1.out
  · exact (HB.out.setCell (by simp) _).setCell (by simp) _
  obtain ⟨d0, d1, d2, hb1, hbel⟩ := hW
  have d3 : W.cell? ⟨w.heap.size + 1, 0, none⟩ = some (.slice none 0 0) := by rw [cell_of_blk hb1]; rfl
  have d4 : W.cell? ⟨w.heap.size + 1, 1, none⟩ = some (.int .i64 0) := by rw [cell_of_blk hb1]; rfl
  have d5 := free_of_blk hb1 0
  have d6 := free_of_blk hb1 1
  have HB1 := Lib.hid hb1; have HBE := Lib.hid hbel
  clear hb1 hbel cs c00 c01 f00 f01 c10 c11 f10 f11 HB B0 B1 w1 hc g2
  go_region
  all_goals go_wp2
  all_goals exact bodyPost_ret (v := .tuple #[.agg #[.slice (some ⟨rb, 0, none⟩) bl.length cap, .int .i64 left], .string s, .int .i64 0]) (by simp [results, Try.results24, go_sem, d3, d4]) rfl (HF.out _ (((HBE.out.drew).setCell (by simp) _).setCell (by simp) _))

/-- So many bytes 0. -/
def zerosN (k : Nat) : ByteArray := ⟨Array.replicate k 0⟩
theorem zerosN_size (k : Nat) : (zerosN k).size = k := by simp [zerosN, ByteArray.size]
theorem zerosN_succ (k : Nat) : zerosN k ++ ⟨#[0]⟩ = zerosN (k + 1) := by
  apply ByteArray.ext
  rw [ByteArray.data_append]
  simp [zerosN, Array.replicate_succ]
theorem zerosN_all : zerosN 4096 = zeros4096 := rfl

def RefNew (n : Nat) (w : World) (e : Ending) (w' : World) : Prop :=
  ∃ v, e = .returned (.tuple #[v, .int .i64 0]) ∧ RefAt w' w.heap.size v 0 (List.replicate n zeros4096) ∧ Below w.heap.size w w'

def RefBad (w : World) (e : Ending) (w' : World) : Prop := e = .returned (.tuple #[.agg #[.slice none 0 0, .int .i64 0], .int .i64 2]) ∧ Below w.heap.size w w'

theorem ref_new_bad (n : Int) (h : n < 1 ∨ 64 < n) (w : World) :
    Calls Try.prog 21 #[.int .i64 n] w (RefBad w) := by
  by_cases h1 : n < 1
  · have g1 : decide (n < 1) = true := by simp; omega
    clear h
    go_enter Try.func21, Try.ntmps21
    go_wp2
    exact bodyPost_ret (v := .tuple #[.agg #[.slice none 0 0, .int .i64 0], .int .i64 2]) (by simp [results, Try.results21, go_sem]) rfl ⟨rfl, (((Below.refl _ _).alloc (Nat.le_refl _) _))⟩
  · have g1 : decide (n < 1) = false := by simp; omega
    have g2 : decide (64 < n) = true := by simp; omega
    clear h
    go_enter Try.func21, Try.ntmps21
    go_wp2
    exact bodyPost_ret (v := .tuple #[.agg #[.slice none 0 0, .int .i64 0], .int .i64 2]) (by simp [results, Try.results21, go_sem]) rfl ⟨rfl, (((Below.refl _ _).alloc (Nat.le_refl _) _))⟩

theorem dev_new_bad (n : Int) (h : n < 1 ∨ 64 < n) (w : World) :
    Calls Try.prog 16 #[.int .i64 n] w fun e w' => e = .returned (.tuple #[.pointer none, .int .i64 2]) ∧ w = w' := by
  by_cases h1 : n < 1
  · have g1 : decide (n < 1) = true := by simp; omega
    clear h
    go_enter Try.func16, Try.ntmps16
    go_wp2
    go_ret2
    exact ⟨rfl, rfl⟩
  · have g1 : decide (n < 1) = false := by simp; omega
    have g2 : decide (64 < n) = true := by simp; omega
    clear h
    go_enter Try.func16, Try.ntmps16
    go_wp2
    go_ret2
    exact ⟨rfl, rfl⟩

/-- The second loop's relation: k blocks are appended. -/
def NewLoop (w : World) (k : Nat) (wr : World) : Prop :=
  ∃ v, wr.heap[w.heap.size + 1]? = some (.cells #[v, .int .i64 0] 61 (0, 0)) ∧ wr.heap[w.heap.size]? = some (.cells #[.slice none 0 0, .int .i64 0] 61 (0, 0)) ∧
    wr.ownsRow (w.heap.size + 2) 9 1 v k (List.replicate k (.string zeros4096)) ∧ Below w.heap.size w wr

set_option maxHeartbeats 2000000 in
theorem ref_new_ok (n : Nat) (h1 : 1 ≤ n) (h2 : n ≤ 64) (w : World) :
    Calls Try.prog 21 #[.int .i64 n] w (RefNew n w) := by
  have g1 : decide ((n : Int) < 1) = false := by simp; omega
  have g2 : decide ((n : Int) > 64) = false := by simp; omega
  go_enter Try.func21, Try.ntmps21
  go_wp2_with fail
  go_loop [4, 5] (fun s i => ∃ k : Nat, k ≤ 4096 ∧ i = .int .i64 k ∧ s = .string (zerosN k)) (fun _ i => 4096 - (RowKit.intOf i).toNat)
  case atStart => exact ⟨0, by omega, rfl, rfl⟩
  case round =>
    obtain ⟨k, hk, rfl, rfl⟩ := hrel
    have hsz : (zerosN k).size ≤ 4096 := by rw [zerosN_size]; exact hk
    by_cases hlt : k < 4096
    · go_wp2_with fail
      go_round
      case rel => exact ⟨k + 1, by omega, by go_num, by rw [zerosN_succ]⟩
      case measure => simp [RowKit.intOf]; omega
    · obtain rfl : k = 4096 := by omega
      rw [zerosN_all] at *
      clear hsz
      go_wp2_with fail
      go_loopw [7] (fun i wr => ∃ k : Nat, k ≤ n ∧ i = .int .i64 k ∧ NewLoop w k wr) (fun i _ => n - (RowKit.intOf i).toNat)
      case atStart =>
        refine ⟨0, by omega, rfl, .slice none 0 0, ?_, ?_, ⟨by simp, .inl ⟨rfl, rfl⟩⟩, ((Below.refl _ _).alloc (Nat.le_refl _) _).alloc (by simp) _⟩
        · have := blk_alloc_new (w.alloc (.cells #[.slice none 0 0, .int .i64 0] 61)) (.cells #[.slice none 0 0, .int .i64 0] 61); simpa using this
        · exact blk_alloc_old (blk_alloc_new w _) _
      case round =>
        obtain ⟨k, hk, rfl, v, hb1, hb0, hown, hbel⟩ := hrel
        have c0 : wr.cell? ⟨w.heap.size + 1, 0, none⟩ = some v := by rw [cell_of_blk hb1]; rfl
        have c1 : wr.cell? ⟨w.heap.size + 1, 1, none⟩ = some (.int .i64 0) := by rw [cell_of_blk hb1]; rfl
        have c2 : wr.cell? ⟨w.heap.size, 0, none⟩ = some (.slice none 0 0) := by rw [cell_of_blk hb0]; rfl
        have c3 : wr.cell? ⟨w.heap.size, 1, none⟩ = some (.int .i64 0) := by rw [cell_of_blk hb0]; rfl
        have f0 := free_of_blk hb0 0
        have f1 := free_of_blk hb0 1
        have hsz := blk_lt hb1
        have HB1 := Lib.hid hb1; have HB0 := Lib.hid hb0; have HOW := Lib.hid hown; have HBE := Lib.hid hbel
        clear hb1 hb0 hown hbel
        by_cases hlt : k < n
        · obtain ⟨i0, hi, hz0, hz1, hz2⟩ := info_parts strInfo
          have I0 := Lib.hid hi; have I1 := Lib.hid hz0; have I2 := Lib.hid hz1; have I3 := Lib.hid hz2
          clear hi hz0 hz1 hz2 c1 c2 c3 f0 f1
          have hvb : ∀ q, v.ownBlock = some q → w.heap.size + 2 ≤ q ∧ q < wr.heap.size := by
            intro q hq
            rcases HOW.out.2 with ⟨hv, _⟩ | ⟨g, c, cur, hv, hb, hg, _⟩
            · rw [hv] at hq; simp [Value.ownBlock] at hq
            · rw [hv] at hq; simp [Value.ownBlock] at hq; subst hq; exact ⟨hb, blk_lt hg⟩
          have HVB := Lib.hid hvb; clear hvb
          go_wp2_with (at_builtin; refine wpList_append_lies _ (by rfl) _ _ _ (by rfl) (w.heap.size + 2) 9 i0 _ 1 16 Try.underlying59 I0.out I1.out I2.out I3.out rfl (by omega) v k (List.replicate k (.string zeros4096)) (by rfl) (HOW.out.alloc _) ⟨wr.heap.size, 0, none⟩ 1 1 [.string zeros4096] (by rfl) (by simp) (World.news_of_block (cs := #[.string zeros4096]) (t := 9) (fr := (0, 0)) (heap_alloc_new wr _)) (by simp [Value.oneCell']) (by omega) (by unfold maxLen; omega) (by omega) (by simp; omega) (wr.heap.size + 1) (by simp) ?_; intro g gc w2 hown2 hgrow hat hg; have e1 : w2.heap[w.heap.size + 1]? = _ := (hgrow.block _ (by simp; omega) (fun e => by have := (HVB.out _ e.symm).1; omega)).trans (blk_alloc_old HB1.out _); have e0 : w2.heap[w.heap.size]? = _ := (hgrow.block _ (by simp; omega) (fun e => by have := (HVB.out _ e.symm).1; omega)).trans (blk_alloc_old HB0.out _); have k0 : w2.cell? ⟨w.heap.size + 1, 0, none⟩ = some v := (by rw [cell_of_blk e1]; rfl); have kf := free_of_blk e1 0; have HO2 := Lib.hid hown2; have HGR := Lib.hid hgrow; have HAT := Lib.hid hat; have E0 := Lib.hid e0; have E1 := Lib.hid e1; clear hown2 hgrow hat e0 e1)
          go_roundw
          case rel =>
            have hgb : w.heap.size + 2 ≤ g := by
              have := HAT.out
              rcases this with h | h
              · exact (HVB.out g h).1
              · omega
            refine ⟨k + 1, by omega, by go_num, _, by have := blk_setCell E1.out 0 (.slice (some ⟨g, 0, none⟩) (k + 1) gc); exact this, by rw [blk_setCell_ne (by simp)]; exact E0.out, ?_, ?_⟩
            · have := HO2.out
              rw [← List.replicate_succ'] at this
              exact ownsRow_setCell_below this (by simp) _
            · exact (((HBE.out.alloc (by omega) _).grown HGR.out (by simp; omega) (fun q hq => by have := (HVB.out q hq).1; omega))).setCell (by simp) _
          case measure => simp [RowKit.intOf]; omega
        · obtain rfl : k = n := by omega
          obtain ⟨g, gc, hv, hgb, hglt⟩ := HOW.out.form (by omega)
          subst hv
          go_wp2_with fail
          refine bodyPost_ret (v := .tuple #[.agg #[.slice (some ⟨g, 0, none⟩) k gc, .int .i64 0], .int .i64 0]) (by simp [results, Try.results21, go_sem, c2, c3]) rfl ?_
          have hst := strs_of_owns (bl := List.replicate k zeros4096) (by simpa using HOW.out)
          obtain ⟨⟨cur, ct, hcur, hcl, hcs⟩, _, _⟩ := hst
          refine ⟨_, rfl, ⟨g, gc, by simp, fun j s hj => ?_, by omega, by simpa [World.setCell] using hglt⟩, (HBE.out.setCell (by simp) _).setCell (by simp) _⟩
          rw [World.cell?_of_block (w := wr) ((blk_setCell_ne (by simp; omega) _).trans (blk_setCell_ne (by simp; omega) _)), cell_of_blk hcur]
          exact hcs j s hj

end Go.Proofs.Ytcdfidojddlgpaa
