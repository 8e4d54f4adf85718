/-
  Hexadecimal digits: the script package's encoded.
-/
import Derived.Test.YtecdkgiandbkeaaGreatDoorKit2
import Derived.Deep.RegionHeld3
import Derived.Deep.AppendLies
namespace Go.Proofs.YtecdkgiandbkeaaGreatDoor
open Go.RowKit ScSpec Go.Sort

theorem strB_at (l : Bytes) (j : Nat) (h : j < l.length) (h' : j < (strB l).size) : (strB l)[j]'h' = l[j]'h := by
  rfl
theorem below_drew {B : Nat} {w w1 : World} (h : Below B w w1) : Below B w w1.drew := ⟨h.os, h.tape, h.output, h.size, h.block⟩
theorem hexs_snoc (l : Bytes) (c : UInt8) : hexs (l ++ [c]) = hexs l ++ [hexD (c.toNat / 16), hexD (c.toNat % 16)] := by simp [hexs]
theorem hexs_length (l : Bytes) : (hexs l).length = 2 * l.length := by
  induction l with
  | nil => rfl
  | cons c l ih => simp only [hexs, List.flatMap_cons, List.length_append, List.length_cons, List.length_nil] at ih ⊢; omega

theorem hex_at : ∀ i : Fin 16, #[48, 49, 50, 51, 52, 53, 54, 55, 56, 57, 97, 98, 99, 100, 101, 102].toList[i.val]'(i.isLt) = hexD i.val := by decide +kernel
theorem hex_cells (c : UInt8) (h1 : ((c.toNat : Int) / 16).toNat < (ByteArray.mk #[48, 49, 50, 51, 52, 53, 54, 55, 56, 57, 97, 98, 99, 100, 101, 102]).size) (h2 : ((c.toNat : Int) % 16).toNat < (ByteArray.mk #[48, 49, 50, 51, 52, 53, 54, 55, 56, 57, 97, 98, 99, 100, 101, 102]).size) :
    #[Value.int .u8 ((ByteArray.mk #[48, 49, 50, 51, 52, 53, 54, 55, 56, 57, 97, 98, 99, 100, 101, 102])[((c.toNat : Int) / 16).toNat]'h1).toNat, Value.int .u8 ((ByteArray.mk #[48, 49, 50, 51, 52, 53, 54, 55, 56, 57, 97, 98, 99, 100, 101, 102])[((c.toNat : Int) % 16).toNat]'h2).toNat].toList = Lib.byteCells [hexD (c.toNat / 16), hexD (c.toNat % 16)] := by
  have hc := c.toNat_lt
  have e1 : ((c.toNat : Int) / 16).toNat = c.toNat / 16 := by omega
  have e2 : ((c.toNat : Int) % 16).toNat = c.toNat % 16 := by omega
  have g1 : ((ByteArray.mk #[48, 49, 50, 51, 52, 53, 54, 55, 56, 57, 97, 98, 99, 100, 101, 102])[((c.toNat : Int) / 16).toNat]'h1) = hexD (c.toNat / 16) := by
    rw [← hex_at ⟨c.toNat / 16, by omega⟩]
    simp only [e1]; rfl
  have g2 : ((ByteArray.mk #[48, 49, 50, 51, 52, 53, 54, 55, 56, 57, 97, 98, 99, 100, 101, 102])[((c.toNat : Int) % 16).toNat]'h2) = hexD (c.toNat % 16) := by
    rw [← hex_at ⟨c.toNat % 16, by omega⟩]
    simp only [e2]; rfl
  rw [g1, g2]; rfl

set_option maxHeartbeats 1000000 in
set_option maxRecDepth 20000 in
theorem sc_encoded (l : Bytes) (hl : l.length ≤ 1000000000) (w : World) :
    Calls Tryz.prog 37 #[.string (strB l)] w fun e w' => e = .returned (.string (strB (hexs l))) ∧ Below w.heap.size w w' := by
  have hsz := strB_size l
  go_enter Tryz.func37, Tryz.ntmps37
  go_wp2_with (refine wp_bytes rfl _ 9 62 5 rfl Tryz.underlying9 Tryz.underlying62 Tryz.underlying5 (strB l) rfl ?_)
  intro c0 W1 hb1 hz1 hc
  have hc' : ∀ j (hj : j < l.length), W1.cell? ⟨w.heap.size, j, none⟩ = some (.int .u8 l[j].toNat) := fun j hj => hc j (by omega)
  have HCC := Lib.hid hc'
  clear hc hc'
  go_wp2_with fail
  go_loopw [3, 9] (fun v i wr => ∃ k : Nat, k ≤ l.length ∧ i = .int .i64 k ∧ Below W1.heap.size W1 wr ∧ Hid (wr.ownsRow W1.heap.size 5 1 v (2 * k) (Lib.byteCells (hexs (l.take k))))) (fun _ i _ => l.length - (intOf i).toNat)
  case atStart => exact ⟨0, by omega, rfl, Below.refl _ _, World.ownsRow_nil _ _ _ _⟩
  case round =>
    obtain ⟨k, hk, rfl, hbr, H⟩ := hrel
    have hzr := hbr.size
    by_cases hlt : k < l.length
    · have x0 := (hbr.cell (p := ⟨w.heap.size, k, none⟩) hz1).trans (HCC.out k hlt)
      generalize hck : l[k] = c at x0
      obtain ⟨A, n, rfl⟩ := own_slice H.out
      have hc8 : c.toNat < 256 := c.toNat_lt
      have ha := u8_and15 (x := (c.toNat : Int)) (by omega) (by omega)
      have i1 : (0 : Int) ≤ (c.toNat : Int) / 16 := by omega
      have i2 : (c.toNat : Int) / 16 < 16 := by omega
      have i3 : (c.toNat : Int) % 16 < 16 := by omega
      have i4 : (0 : Int) ≤ (c.toNat : Int) % 16 := by omega
      go_wp2_with fail
      have hbx : ∀ o : Obj, W1.heap.size ≤ (wr.alloc o).heap.size := fun o => by simp; omega
      go_region_held3 (fun _ => True) (trivial) ((refine step_appendM 2 W1.heap.size (by rfl) _ _ 62 5 _ 1 1 (by rfl) Tryz.underlying62 infoByte (by rfl) (by decide) (by decide) _ (2 * k) (Lib.byteCells (hexs (l.take k))) _ (by rfl) wr.heap.size (by rfl) (heap_alloc_new wr _) (by rfl) (by intro u hu; simp at hu; rcases hu with rfl | rfl <;> rfl) (H.out.alloc _) (hbx _) (by omega) (by omega) ?_; intro v1 w2 hown2 hg2))
      all_goals
        have hr : Lib.byteCells (hexs (l.take (k + 1))) = Lib.byteCells (hexs (l.take k)) ++ Lib.byteCells [hexD (c.toNat / 16), hexD (c.toNat % 16)] := by
          rw [List.take_succ_eq_append_getElem hlt, hck, hexs_snoc]; simp [Lib.byteCells]
        have H2 : Hid (w2.ownsRow W1.heap.size 5 1 v1 (2 * (k + 1)) (Lib.byteCells (hexs (l.take (k + 1))))) := by
          rw [hr, ← hex_cells c (by show _ < 16; omega) (by show _ < 16; omega)]; exact hown2
        have hbel := (below_drew (hbr.alloc hzr _)).grown hg2 (hbx _) (fun j hj => own_base H.out j hj)
        clear hr hown2 hg2
        go_wp2_with fail
        go_roundw
        case rel => exact ⟨k + 1, by omega, by push_cast; rfl, hbel, H2⟩
        case measure => simp [intOf]; omega
    · obtain rfl : k = l.length := by omega
      rw [List.take_length] at H
      have HO : Hid (wr.ownsRow W1.heap.size 5 1 u3 (hexs l).length (Lib.byteCells (hexs l))) := by rw [hexs_length]; exact H.out
      go_wp2_with (refine wp_tostr (base := W1.heap.size) rfl _ 62 9 5 rfl Tryz.underlying62 Tryz.underlying9 Tryz.underlying5 (hexs l) _ rfl HO.out ?_)
      go_ret
      exact ⟨rfl, below_to hb1 (by omega) hbr⟩
end Go.Proofs.YtecdkgiandbkeaaGreatDoor
