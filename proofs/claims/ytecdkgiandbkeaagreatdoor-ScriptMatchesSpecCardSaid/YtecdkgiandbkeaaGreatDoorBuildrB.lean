/-
  A builder under way: what it holds, what a write to it leaves as it was.
-/
import Derived.Test.YtecdkgiandbkeaaGreatDoorScK
namespace Go.Proofs.YtecdkgiandbkeaaGreatDoor
open Go.RowKit ScSpec Go.Sort

/-- Block B holds a builder with these bytes. -/
def Bld (w : World) (B : Nat) (l : Bytes) : Prop := Lib.IsBuilder 64 5 B B (Lib.byteCells l) w
theorem bld_new (w : World) : Bld (w.alloc (.cells #[.pointer none, .slice none 0 0] 64)) w.heap.size [] := Lib.fresh_isBuilder 64 5 w
theorem builderAt_below {B b : Nat} {p : Value} {bs : List Value} {w w' : World} (h : Lib.BuilderAt 64 5 B b p bs w) (hb : Below w.heap.size w w') : Lib.BuilderAt 64 5 B b p bs w' := by
  have hlt := h.lt
  obtain ⟨hB, v, hbk, hown, hne⟩ := h
  exact ⟨hB, v, (hb.block b hlt).trans hbk, own_below hown hb, hne⟩
theorem Bld.below {w w' : World} {B : Nat} {l : Bytes} (h : Bld w B l) (hb : Below w.heap.size w w') : Bld w' B l := by
  rcases h with h | h
  · exact .inl (builderAt_below h hb)
  · exact .inr (builderAt_below h hb)
theorem Bld.lt {w : World} {B : Nat} {l : Bytes} (h : Bld w B l) : B < w.heap.size := by
  rcases h with h | h
  · exact h.lt
  · exact h.lt
/-- What is neither the builder in block b nor a row of bytes stays as it is. -/
def Keep (w w' : World) (b : Nat) : Prop := ∀ j, j < w.heap.size → j ≠ b → (∀ c fz, w.heap[j]? ≠ some (.cells c 5 fz)) → w'.heap[j]? = w.heap[j]?
theorem Keep.box {w w' : World} {b : Nat} (h : Keep w w' b) {g : Nat} {t : TypeId} {cs : Array Value} (hB : Box w g t cs) (hg : g ≠ b) (ht : t ≠ 5) : Box w' g t cs := by
  have hB' : w.heap[g]? = some (.cells cs t (0, 0)) := hB
  refine (h g hB.lt hg ?_).trans hB'
  intro c fz e
  rw [hB'] at e
  injection e with e
  injection e with _ e _
  exact ht e
theorem copyCheckK (B b : Nat) (bs : List Value) (w : World) (h : Lib.IsBuilder 64 5 B b bs w) :
    Calls Tryz.prog 73 #[.pointer (some ⟨b, 0, none⟩)] w fun e w' => e = .returned (.tuple #[]) ∧ Lib.BuilderAt 64 5 B b (.pointer (some ⟨b, 0, none⟩)) bs w' ∧ Below B w w' ∧ ∀ j, j ≠ b → w'.heap[j]? = w.heap[j]? := by
  rcases h with h | h
  · refine (copyCheck_fresh b w h.cell0 h.shape h.frozen0).mono ?_
    rintro e w' ⟨rfl, rfl⟩
    exact ⟨rfl, h.used _, (Below.refl B w).setCell (p := ⟨b, 0, none⟩) h.1 _, fun j hj => Below.heap_setCell w ⟨b, 0, none⟩ _ j hj⟩
  · refine (copyCheck_used b w h.cell0).mono ?_
    rintro e w' ⟨rfl, rfl⟩
    exact ⟨rfl, h, Below.refl B _, fun _ _ => rfl⟩

set_option maxHeartbeats 2000000 in
set_option maxRecDepth 100000 in
theorem writeStringK (B b : Nat) (bs : List Value) (s : ByteArray) (w : World) (h : Lib.IsBuilder 64 5 B b bs w) (hlen : bs.length + s.size ≤ 140737488355328) (hBw : B ≤ w.heap.size) :
    Calls Tryz.prog 35 #[.pointer (some ⟨b, 0, none⟩), .string s] w fun e w' => e = .returned (.tuple #[.int .i64 s.size, .nilIface]) ∧ Lib.BuilderAt 64 5 B b (.pointer (some ⟨b, 0, none⟩)) (bs ++ Lib.strCells s) w' ∧ Below B w w' ∧ Keep w w' b := by
  obtain ⟨i0, hi, hz0, hz1, hz2⟩ := info_parts infoByte
  go_enter Tryz.func35, Tryz.ntmps35
  go_wp2_with (go_at_call 73; refine (copyCheckK B b bs _ h).mono ?_)
  rintro e w1 ⟨rfl, h1, hb1, hoth⟩
  have HOTH := Lib.hid hoth
  clear hoth
  obtain ⟨hB, v, hbk, hown, hne⟩ := h1
  have c0 : w1.cell? ⟨b, 0, none⟩ = some (.pointer (some ⟨b, 0, none⟩)) := by rw [Lib.cell_of_heap hbk]; rfl
  have c1 : w1.cell? ⟨b, 1, none⟩ = some v := by rw [Lib.cell_of_heap hbk]; rfl
  go_wp2_with (at_builtin; refine Lib.wpList_append_own_string _ rfl _ _ 62 9 rfl B 5 i0 Tryz.underlying62 Tryz.underlying9 hi hz0 hz1 hz2 _ _ _ rfl hown s rfl ?c3 ?c4 ?c5 ?_)
  case c3 => unfold maxLen; omega
  case c4 => omega
  case c5 => have := hb1.size; omega
  intro v' w2 hown' hgrow _
  have hlt : b < w1.heap.size := by
    rcases Nat.lt_or_ge b w1.heap.size with h' | h'
    · exact h'
    · simp [Array.getElem?_eq_none h'] at hbk
  have hb2 : w2.heap[b]? = some (.cells #[.pointer (some ⟨b, 0, none⟩), v] 64 (0, 0)) := by
    rw [hgrow.block b hlt (fun e => hne e.symm)]
    exact hbk
  have d0 : w2.cell? ⟨b, 0, none⟩ = some (.pointer (some ⟨b, 0, none⟩)) := by rw [Lib.cell_of_heap hb2]; rfl
  have d1 : w2.cell? ⟨b, 1, none⟩ = some v := by rw [Lib.cell_of_heap hb2]; rfl
  have f1 : w2.frozen? ⟨b, 1, none⟩ = false := Lib.frozen_of_heap hb2 1
  have HK : Hid (Keep w (w2.setCell ⟨b, 1, none⟩ v') b) := by
    intro j hj hjb hty
    rw [Below.heap_setCell w2 ⟨b, 1, none⟩ v' j hjb]
    have e1 := HOTH.out j hjb
    have hjw : j < w1.heap.size := by
      rcases Nat.lt_or_ge j w1.heap.size with h' | h'
      · exact h'
      · rw [Array.getElem?_eq_none h', Array.getElem?_eq_getElem hj] at e1
        cases e1
    rw [hgrow.block j hjw ?_]
    · exact e1
    · intro e
      rcases hown.2 with ⟨rfl, _⟩ | ⟨g, cap, cur, rfl, _, hg, _⟩
      · simp [Value.ownBlock] at e
      · simp [Value.ownBlock] at e
        subst e
        rw [e1] at hg
        exact hty _ _ hg
  obtain ⟨ao, n', cap, rfl⟩ : ∃ ao n' cap, v' = .slice ao n' cap := by
    rcases hown'.2 with ⟨hv, _⟩ | ⟨g, cap, cur, hv, _⟩
    · exact ⟨_, _, _, hv⟩
    · exact ⟨_, _, _, hv⟩
  go_wp2
  go_ret2
  refine ⟨rfl, ?_, ?_, HK.out⟩
  · exact Lib.BuilderAt.put (T := 64) (e := 5) hB hb2 (bs' := bs ++ Lib.strCells s) (by simpa [Lib.strCells_length] using hown') (by decide)
  · exact (hb1.grown hgrow (by have := hb1.size; omega) (fun k hk => (hown.lt k hk).1)).setCell (p := ⟨b, 1, none⟩) hB _
/-- WriteString, in the words of builders. -/
theorem bld_write (B : Nat) (l : Bytes) (s : ByteArray) (w : World) (h : Bld w B l) (hlen : l.length + s.size ≤ 140737488355328) :
    Calls Tryz.prog 35 #[.pointer (some ⟨B, 0, none⟩), .string s] w fun e w' => e = .returned (.tuple #[.int .i64 s.size, .nilIface]) ∧ Bld w' B (l ++ s.data.toList) ∧ Below B w w' ∧ Keep w w' B ∧ w.heap.size ≤ w'.heap.size := by
  have hlt := h.lt
  refine (writeStringK B B (Lib.byteCells l) s w h (by simpa [Lib.byteCells] using hlen) (by omega)).mono ?_
  rintro e w' ⟨rfl, h1, h2, h3⟩
  refine ⟨rfl, .inr ?_, h2, h3, h2.size⟩
  have e : Lib.byteCells (l ++ s.data.toList) = Lib.byteCells l ++ Lib.strCells s := by simp [Lib.byteCells, Lib.strCells]
  rw [e]
  exact h1
theorem bld_string (B : Nat) (l : Bytes) (w : World) (h : Bld w B l) :
    Calls Tryz.prog 38 #[.pointer (some ⟨B, 0, none⟩)] w fun e w' => e = .returned (.string (strB l)) ∧ Below B w w' := Tryz.Builder_String_any B B l w h (Nat.le_of_lt h.lt)
end Go.Proofs.YtecdkgiandbkeaaGreatDoor
