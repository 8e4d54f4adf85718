/-
  How scripts lie in memory: rows of strings, of numbers, of steps; what the program's laid variables hold.
-/
import Derived.Test.YtecdkgiandbkeaaGreatDoorScSpec
import Derived.Test.YtecdkgiandbkeaaGreatDoorBuildr
namespace Go.Proofs.YtecdkgiandbkeaaGreatDoor
open Go.RowKit ScSpec

def strB (l : Bytes) : ByteArray := ⟨l.toArray⟩
theorem strB_toList (l : Bytes) : (strB l).data.toList = l := by simp [strB]
theorem strB_size (l : Bytes) : (strB l).size = l.length := by simp [strB, ByteArray.size]
theorem strB_of (s : ByteArray) : strB s.data.toList = s := by
  apply ByteArray.ext; apply Array.ext'; rw [strB_toList]
theorem strB_inj {a b : Bytes} (h : strB a = strB b) : a = b := by
  have := congrArg (fun s : ByteArray => s.data.toList) h
  simpa only [strB_toList] using this
theorem strB_eq_iff {a b : Bytes} : (strB a = strB b) ↔ a = b := ⟨strB_inj, fun h => by rw [h]⟩
theorem extract_strB (s : ByteArray) (i k : Nat) : s.extract i k = strB ((s.data.toList.drop i).take (k - i)) := by
  apply ByteArray.ext
  apply Array.ext'
  rw [strB_toList]
  simp [ByteArray.data_extract]
theorem strB_append (a b : Bytes) : strB a ++ strB b = strB (a ++ b) := by
  apply ByteArray.ext; apply Array.ext'; simp [strB, ByteArray.data_append]
theorem strB_tail (c : UInt8) (l : Bytes) : (strB (c :: l)).extract 1 (l.length + 1) = strB l := by
  rw [extract_strB, strB_toList]; simp
theorem size_eq_len (s : ByteArray) : s.size = s.data.toList.length := by simp

/-- A slice value whose elements, one cell each, are these. -/
def RowV (w : World) (v : Value) (xs : List Value) : Prop :=
  ∃ A c, v = .slice A xs.length c ∧ xs.length ≤ c ∧ (0 < xs.length → ∃ g o, A = some ⟨g, o, none⟩ ∧ g < w.heap.size ∧ ∀ i (h : i < xs.length), w.cell? ⟨g, o + i, none⟩ = some xs[i])
theorem RowV.below {w w' : World} {v : Value} {xs : List Value} (h : RowV w v xs) (hb : Below w.heap.size w w') : RowV w' v xs := by
  obtain ⟨A, c, rfl, hc, h⟩ := h
  refine ⟨A, c, rfl, hc, fun h0 => ?_⟩
  obtain ⟨g, o, rfl, hg, hc⟩ := h h0
  exact ⟨g, o, rfl, Nat.lt_of_lt_of_le hg hb.size, fun i hi => (hb.cell (p := ⟨g, o + i, none⟩) hg).trans (hc i hi)⟩
def strVs (ts : List Bytes) : List Value := ts.map fun t => .string (strB t)
def intVs (xs : List Int) : List Value := xs.map fun x => .int .i64 x
/-- A step's value. -/
def StepV (w : World) (v : Value) (x : Stp) : Prop := ∃ a, v = .agg #[.int .i64 x.kind, a, .string (strB x.text)] ∧ RowV w a (intVs x.args)
theorem StepV.below {w w' : World} {v : Value} {x : Stp} (h : StepV w v x) (hb : Below w.heap.size w w') : StepV w' v x := by
  obtain ⟨a, rfl, h⟩ := h
  exact ⟨a, rfl, h.below hb⟩
/-- A slice value whose elements are these steps: three cells each. -/
def StepsV (w : World) (v : Value) (xs : List Stp) : Prop :=
  ∃ A c, v = .slice A xs.length c ∧ xs.length ≤ c ∧ (0 < xs.length → ∃ g o, A = some ⟨g, o, none⟩ ∧ g < w.heap.size ∧ ∀ i (h : i < xs.length), ∃ a,
    w.cell? ⟨g, o + i * 3, none⟩ = some (.int .i64 xs[i].kind) ∧ w.cell? ⟨g, o + i * 3 + 1, none⟩ = some a ∧ w.cell? ⟨g, o + i * 3 + 2, none⟩ = some (.string (strB xs[i].text)) ∧ RowV w a (intVs xs[i].args))
theorem StepsV.below {w w' : World} {v : Value} {xs : List Stp} (h : StepsV w v xs) (hb : Below w.heap.size w w') : StepsV w' v xs := by
  obtain ⟨A, c, rfl, hc, h⟩ := h
  refine ⟨A, c, rfl, hc, fun h0 => ?_⟩
  obtain ⟨g, o, rfl, hg, hc⟩ := h h0
  refine ⟨g, o, rfl, Nat.lt_of_lt_of_le hg hb.size, fun i hi => ?_⟩
  obtain ⟨a, h1, h2, h3, h4⟩ := hc i hi
  exact ⟨a, (hb.cell (p := ⟨g, _, none⟩) hg).trans h1, (hb.cell (p := ⟨g, _, none⟩) hg).trans h2, (hb.cell (p := ⟨g, _, none⟩) hg).trans h3, h4.below hb⟩
/-- A script's value. -/
def ScrV (w : World) (v : Value) (s : Scr) : Prop := ∃ a b, v = .agg #[a, b] ∧ RowV w a (strVs s.texts) ∧ StepsV w b s.steps
theorem ScrV.below {w w' : World} {v : Value} {s : Scr} (h : ScrV w v s) (hb : Below w.heap.size w w') : ScrV w' v s := by
  obtain ⟨a, b, rfl, h1, h2⟩ := h
  exact ⟨a, b, rfl, h1.below hb, h2.below hb⟩
theorem strVs_length (ts : List Bytes) : (strVs ts).length = ts.length := by simp [strVs]
theorem intVs_length (xs : List Int) : (intVs xs).length = xs.length := by simp [intVs]

/-! ### The laid variables -/
def rowC (r : Row) : List Value := [.string (strB r.name), .int .i64 r.least, .int .i64 r.most, .bool r.text]
def rowsC : List Value := rows.flatMap rowC
structure Laid (w : World) : Prop where
  rows : ∃ t fr, w.heap[0]? = some (.cells rowsC.toArray t fr)
  maxLen : ∃ m, w.cell? ⟨1, 0, none⟩ = some (.int .i64 m)
  errS : ∃ ev, w.cell? ⟨5, 0, none⟩ = some ev ∧ (ev = .nilIface ∨ ∃ te pe, ev = .iface te pe)
  errR : ∃ ev, w.cell? ⟨6, 0, none⟩ = some ev ∧ (ev = .nilIface ∨ ∃ te pe, ev = .iface te pe)
  pow : Lib.TabIs Tryz.prog w "internal/strconv.uint64pow10" .u64 Lib.pow10Tab
  size : 10 ≤ w.heap.size
theorem gPow : Tryz.prog.globalNamed "internal/strconv.uint64pow10" = some 4 := by kernel_rfl
theorem var_below {w w' : World} {B g : Nat} {name : String} (hg : Tryz.prog.globalNamed name = some g) (hb : Below B w w') (hB : g < B) : w'.var? Tryz.prog name = w.var? Tryz.prog name := by
  unfold World.var?
  rw [hg]
  simp only [Option.bind_some]
  rw [hb.block g hB]
theorem Laid.below {w w' : World} (h : Laid w) (hb : Below w.heap.size w w') : Laid w' := by
  have hz := h.size
  obtain ⟨t, fr, h1⟩ := h.rows
  obtain ⟨m, h2⟩ := h.maxLen
  obtain ⟨ev, h3, h4⟩ := h.errS
  obtain ⟨er, h5, h6⟩ := h.errR
  exact ⟨⟨t, fr, (hb.block 0 (by omega)).trans h1⟩, ⟨m, (hb.cell (p := ⟨1, 0, none⟩) (show 1 < w.heap.size by omega)).trans h2⟩, ⟨ev, (hb.cell (p := ⟨5, 0, none⟩) (show 5 < w.heap.size by omega)).trans h3, h4⟩,
    ⟨er, (hb.cell (p := ⟨6, 0, none⟩) (show 6 < w.heap.size by omega)).trans h5, h6⟩, (var_below gPow hb (by omega)).trans h.pow, Nat.le_trans hz hb.size⟩
theorem Laid.drewN {w : World} (h : Laid w) (n : Nat) : Laid (w.drewN n) := h.below (below_drewN (Below.refl _ _) n)
theorem kRow_at {k : Nat} (h : k < 24) : rows[k]? = some (kRow k) := by
  unfold kRow
  rw [List.getD_eq_getElem?_getD, List.getElem?_eq_getElem (by exact h)]; rfl
theorem flatMap4 (l : List Row) (k : Nat) (r : Row) (h : l[k]? = some r) (j : Nat) (hj : j < 4) : (l.flatMap rowC)[k * 4 + j]? = (rowC r)[j]? := by
  induction l generalizing k with
  | nil => simp at h
  | cons a l ih =>
    rw [List.flatMap_cons]
    have h4 : (rowC a).length = 4 := rfl
    cases k with
    | zero =>
      simp only [List.getElem?_cons_zero, Option.some.injEq] at h
      subst h
      rw [List.getElem?_append_left (by omega)]; simp
    | succ k =>
      simp only [List.getElem?_cons_succ] at h
      rw [List.getElem?_append_right (by omega), h4, show (k + 1) * 4 + j - 4 = k * 4 + j from by omega]
      exact ih k h
theorem Laid.row {w : World} (h : Laid w) {k : Nat} (hk : k < 24) :
    w.cell? ⟨0, k * 4, none⟩ = some (.string (strB (kRow k).name)) ∧ w.cell? ⟨0, k * 4 + 1, none⟩ = some (.int .i64 (kRow k).least) ∧ w.cell? ⟨0, k * 4 + 2, none⟩ = some (.int .i64 (kRow k).most) ∧ w.cell? ⟨0, k * 4 + 3, none⟩ = some (.bool (kRow k).text) := by
  obtain ⟨t, fr, h⟩ := h.rows
  have e : ∀ j, j < 4 → w.cell? ⟨0, k * 4 + j, none⟩ = (rowC (kRow k))[j]? := by
    intro j hj
    rw [cell_of_row w 0 _ _ t fr h, ← flatMap4 ScSpec.rows k _ (kRow_at hk) j hj]
    simp [rowsC]
  exact ⟨e 0 (by omega), e 1 (by omega), e 2 (by omega), e 3 (by omega)⟩
end Go.Proofs.YtecdkgiandbkeaaGreatDoor
