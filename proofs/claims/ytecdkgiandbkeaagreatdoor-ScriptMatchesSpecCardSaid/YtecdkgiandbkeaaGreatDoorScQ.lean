/-
  The laws' example.
-/
import Derived.Test.YtecdkgiandbkeaaGreatDoorScP
namespace Go.Proofs.YtecdkgiandbkeaaGreatDoor
open Go.RowKit ScSpec Go.Sort

def exampleS : Scr := ⟨[[112, 111, 108, 105, 99, 121, 32, 112, 10, 10, 116, 121, 112, 101, 32, 97]], [⟨10, [5], []⟩, ⟨4, [0, 0, 4, 1, 0, 0, 0, 0], [61, 97, 98]⟩, ⟨21, [0, 0, 8, 1, 0, 0, 0, 0], [64, 51]⟩]⟩
theorem rowV_at {w : World} {g : Nat} (xs : List Value) (hg : g < w.heap.size) (h : ∀ i (hi : i < xs.length), w.cell? ⟨g, i, none⟩ = some xs[i]) : RowV w (.slice (some ⟨g, 0, none⟩) xs.length xs.length) xs :=
  ⟨_, _, rfl, Nat.le_refl _, fun _ => ⟨g, 0, rfl, hg, fun i hi => by rw [Nat.zero_add]; exact h i hi⟩⟩
theorem Box.made' {w : World} {n : Nat} (h : n = w.heap.size) (t : TypeId) (cs : Array Value) : Box (w.alloc (.cells cs t)) n t cs := by subst h; exact Box.made w t cs
theorem rowV_box {w : World} {g : Nat} {t : TypeId} {cs : Array Value} (h : Box w g t cs) : RowV w (.slice (some ⟨g, 0, none⟩) cs.toList.length cs.toList.length) cs.toList :=
  rowV_at cs.toList h.lt fun i hi => by
    rw [h.look i]
    simp at hi
    simp [hi]
set_option maxHeartbeats 2000000 in
set_option maxRecDepth 20000 in
theorem law_example (w : World) : Calls Tryz.prog 30 #[] w fun e w' => ∃ v, e = .returned v ∧ ScrV w' v exampleS ∧ Below w.heap.size w w' := by
  go_enter Tryz.func30, Tryz.ntmps30
  go_wp2_with fail
  refine bodyPost_ret (v := .agg #[.slice (some ⟨w.heap.size + 1, 0, none⟩) 1 1, .slice (some ⟨w.heap.size + 1 + 1 + 1 + 1 + 1, 0, none⟩) 3 3]) (by simp [results, Tryz.results30, go_sem]) rfl ⟨_, rfl, ⟨_, _, rfl, ?_, ?_⟩, ?_⟩
  · exact rowV_box (t := 9) (((((Box.made' (by simp) 9 #[.string ⟨#[112, 111, 108, 105, 99, 121, 32, 112, 10, 10, 116, 121, 112, 101, 32, 97]⟩]).alloc _).alloc _).alloc _).alloc _)
  · refine ⟨_, 3, rfl, by decide, fun _ => ⟨w.heap.size + 1 + 1 + 1 + 1 + 1, 0, rfl, by simp, fun i hi => ?_⟩⟩
    have hi' : i < 3 := hi
    obtain rfl | rfl | rfl : i = 0 ∨ i = 1 ∨ i = 2 := by omega
    · exact ⟨_, (Box.made' (by simp) 54 _).look 0, (Box.made' (by simp) 54 _).look 1, (Box.made' (by simp) 54 _).look 2, rowV_box (t := 3) ((((Box.made' (by simp) 3 #[.int .i64 5]).alloc _).alloc _).alloc _)⟩
    · exact ⟨_, (Box.made' (by simp) 54 _).look 3, (Box.made' (by simp) 54 _).look 4, (Box.made' (by simp) 54 _).look 5, rowV_box (t := 3) (((Box.made' (by simp) 3 #[.int .i64 0, .int .i64 0, .int .i64 4, .int .i64 1, .int .i64 0, .int .i64 0, .int .i64 0, .int .i64 0]).alloc _).alloc _)⟩
    · exact ⟨_, (Box.made' (by simp) 54 _).look 6, (Box.made' (by simp) 54 _).look 7, (Box.made' (by simp) 54 _).look 8, rowV_box (t := 3) ((Box.made' (by simp) 3 #[.int .i64 0, .int .i64 0, .int .i64 8, .int .i64 1, .int .i64 0, .int .i64 0, .int .i64 0, .int .i64 0]).alloc _)⟩
  · exact ((((((Below.refl _ _).alloc (Nat.le_refl _) _).alloc (by simp) _).alloc (by simp; omega) _).alloc (by simp; omega) _).alloc (by simp; omega) _).alloc (by simp; omega) _
end Go.Proofs.YtecdkgiandbkeaaGreatDoor
