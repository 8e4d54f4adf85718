/-
  The reference: its rows, Name, Kind.
-/
import Derived.Test.YtecdkgiandbkeaaGreatDoorScG
import Derived.Deep.QuietTactic
import Derived.BigQuiet
namespace Go.Proofs.YtecdkgiandbkeaaGreatDoor
open Go.RowKit ScSpec Go.Sort

def rowsC1 : List Value := (ScSpec.rows.drop 1).flatMap rowC
theorem rowsC1_arr : rowsC1.toArray.size = 92 := by decide
set_option maxHeartbeats 2000000 in
set_option maxRecDepth 100000 in
theorem ref_rows (w : World) : Calls Tryz.prog 52 #[] w fun e w' => e = .returned (.slice (some ⟨w.heap.size, 0, none⟩) 23 23) ∧ w' = w.alloc (.cells rowsC1.toArray 90) := by
  go_enter Tryz.func52, Tryz.ntmps52
  go_wp2_with fail
  go_ret
  exact ⟨rfl, rfl⟩
theorem rows1_look {W : World} {g : Nat} (h : W.heap[g]? = some (.cells rowsC1.toArray 90 (0, 0))) {k : Nat} (hk : k < 23) :
    W.cell? ⟨g, k * 4, none⟩ = some (.string (strB (kRow (k + 1)).name)) ∧ W.cell? ⟨g, k * 4 + 1, none⟩ = some (.int .i64 (kRow (k + 1)).least) ∧ W.cell? ⟨g, k * 4 + 2, none⟩ = some (.int .i64 (kRow (k + 1)).most) ∧ W.cell? ⟨g, k * 4 + 3, none⟩ = some (.bool (kRow (k + 1)).text) := by
  have e : ∀ j, j < 4 → W.cell? ⟨g, k * 4 + j, none⟩ = (rowC (kRow (k + 1)))[j]? := by
    intro j hj
    have h1 := kRow_at (k := k + 1) (by omega)
    rw [cell_of_row W g _ _ _ _ h, ← flatMap4 (ScSpec.rows.drop 1) k (kRow (k + 1)) (by rw [List.getElem?_drop, Nat.add_comm 1 k]; exact h1) j hj]
    simp [rowsC1]
  exact ⟨e 0 (by omega), e 1 (by omega), e 2 (by omega), e 3 (by omega)⟩
theorem name_of {n : Nat} (h : n < 23) : name ((n : Int) + 1) = (kRow (n + 1)).name := by
  unfold name isKind
  rw [if_pos (by simp; omega), show ((n : Int) + 1).toNat = n + 1 from by omega]
theorem ref_name (k : Int) (w : World) : Calls Tryz.prog 27 #[.int .i64 k] w fun e w' => e = .returned (.string (strB (name k))) ∧ Below w.heap.size w w' := by
  by_cases h1 : k < 1
  · have hn : Hid (name k = []) := by show name k = []; unfold name isKind; rw [if_neg (by simp; omega)]
    rw [hn.out]
    go_enter Tryz.func27, Tryz.ntmps27
    go_wp2_with fail
    go_ret
    exact ⟨rfl, Below.refl _ _⟩
  by_cases h2 : 23 < k
  · have hn : Hid (name k = []) := by show name k = []; unfold name isKind; rw [if_neg (by simp; omega)]
    rw [hn.out]
    go_enter Tryz.func27, Tryz.ntmps27
    go_wp2_with fail
    go_ret
    exact ⟨rfl, Below.refl _ _⟩
  obtain ⟨n, rfl⟩ : ∃ n : Nat, k = (n : Int) + 1 := ⟨(k - 1).toNat, by omega⟩
  have hn : n < 23 := by omega
  rw [name_of hn]
  have hc := rows1_look (W := w.alloc (.cells rowsC1.toArray 90)) (heap_alloc_new w _) hn
  have c0 := hc.1
  generalize kRow (n + 1) = r at c0 ⊢
  clear hc
  go_enter Tryz.func27, Tryz.ntmps27
  go_wp2_with (go_at_call 52; refine (ref_rows _).mono ?_; rintro e w' ⟨rfl, rfl⟩)
  go_ret
  exact ⟨rfl, (Below.refl _ w).alloc (Nat.le_refl _) _⟩
end Go.Proofs.YtecdkgiandbkeaaGreatDoor
