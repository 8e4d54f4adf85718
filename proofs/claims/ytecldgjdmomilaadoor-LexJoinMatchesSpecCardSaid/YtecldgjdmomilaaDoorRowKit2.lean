/-
  What the row of Join needs: a row of tokens that a call is handed, opened.
-/
import Derived.Test.YtecldgjdmomilaaDoorRowKit
import Derived.Test.YtecldgjdmomilaaDoorLexO
import Derived.Deep.Slices
import Derived.Carry
namespace Go.Proofs.YtecldgjdmomilaaDoor
open Go.ChangeShapes Go.WideShapes Go.ChangeAt Go.RowKit LexSpec

theorem laidOut : laidOutB Tryd.prog = true := by kernel_rfl
theorem cells36 : Tryd.prog.cellsOf 36 = 4 := by kernel_rfl
theorem cells9 : Tryd.prog.cellsOf 9 = 1 := by kernel_rfl

set_option maxRecDepth 100000 in
theorem token_reads {H : Type} {enc : TypeId × Value → H} {w : World} {base : Nat} {sp : Nat → Bool} {held : Bool} {fuel : Nat} {cs : List Value} {x : DataW H × List MemPlace}
    (h : DataW.trod enc Tryd.prog w base sp held fuel 36 cs = some x) : ∃ q : Cell4, cs = [.int .i64 q.1, .string q.2.1, .int .i64 q.2.2.1, .int .i64 q.2.2.2] ∧ q.2.1.size ≤ 9223372036854775807 := by
  obtain ⟨xs, n, _, hx, hl, hxl, hf⟩ := DataW.trod_struct Tryd.underlying36 h
  rw [cells36] at hl
  match cs, hl with
  | [c0, c1, c2, c3], _ =>
    match xs, hxl with
    | [y0, y1, y2, y3], _ =>
      have h0 : DataW.trod enc Tryd.prog w base sp held n 3 (List.take (Tryd.prog.cellsOf 3) (List.drop 0 [c0, c1, c2, c3])) = some y0 := hf 0 _ rfl
      have h1 : DataW.trod enc Tryd.prog w base sp held n 9 (List.take (Tryd.prog.cellsOf 9) (List.drop 1 [c0, c1, c2, c3])) = some y1 := hf 1 _ rfl
      have h2 : DataW.trod enc Tryd.prog w base sp held n 3 (List.take (Tryd.prog.cellsOf 3) (List.drop 2 [c0, c1, c2, c3])) = some y2 := hf 2 _ rfl
      have h3 : DataW.trod enc Tryd.prog w base sp held n 3 (List.take (Tryd.prog.cellsOf 3) (List.drop 3 [c0, c1, c2, c3])) = some y3 := hf 3 _ rfl
      rw [cells3] at h0 h2 h3
      rw [cells9] at h1
      obtain ⟨a, ha, _, _⟩ := DataW.trod_int Tryd.underlying3 (cs := [c0]) (x := y0) h0
      obtain ⟨b, hb, _, hz⟩ := DataW.trod_string Tryd.underlying9 (cs := [c1]) (x := y1) h1
      obtain ⟨c, hc, _, _⟩ := DataW.trod_int Tryd.underlying3 (cs := [c2]) (x := y2) h2
      obtain ⟨d, hd, _, _⟩ := DataW.trod_int Tryd.underlying3 (cs := [c3]) (x := y3) h3
      injection ha with ha _
      injection hb with hb _
      injection hc with hc _
      injection hd with hd _
      subst ha hb hc hd
      exact ⟨(a, b, c, d), rfl, hz⟩

set_option maxRecDepth 100000 in
theorem open_tokens {H : Type} {enc : TypeId × Value → H} {w : World} {b0 : Nat} {v : Value} {d : DataW H} {ps : List MemPlace}
    (hval : Value.okWide Tryd.prog w .any b0 23 v) (h : DataW.Trod enc Tryd.prog w 0 (fun _ => true) true 23 v d ps) :
    ∃ xs : List Cell4, RowSl w v xs ∧ xs.length ≤ 9223372036854775807 ∧ ∀ i (h : i < xs.length), xs[i].2.1.size ≤ 9223372036854775807 := by
  obtain ⟨fuel, hf⟩ := h
  obtain ⟨A0, l0, c0, rfl⟩ := okWide_slice Tryd.underlying23 hval
  rcases Deep.open_slice Tryd.underlying23 hf with ⟨hc, _⟩ | ⟨a, len, cap, m, n, D, Pl, hc, hb, hl, hm, hmm, hx, hi⟩
  · simp only [Value.cells, List.cons.injEq, and_true, Value.slice.injEq] at hc
    obtain ⟨rfl, rfl, rfl⟩ := hc
    exact ⟨[], ⟨none, 0, rfl, fun h => absurd h (Nat.lt_irrefl 0)⟩, Nat.zero_le _, fun i h => absurd h (Nat.not_lt_zero i)⟩
  · simp only [Value.cells, List.cons.injEq, and_true, Value.slice.injEq] at hc
    obtain ⟨rfl, rfl, rfl⟩ := hc
    simp only [if_true] at hmm
    subst hmm
    rw [cells36] at hi
    have each : ∀ i, i < m → ∃ q : Cell4, (w.cell? (a.add (i * 4)) = some (.int .i64 q.1) ∧ w.cell? ((a.add (i * 4)).add 1) = some (.string q.2.1) ∧ w.cell? ((a.add (i * 4)).add 2) = some (.int .i64 q.2.2.1) ∧ w.cell? ((a.add (i * 4)).add 3) = some (.int .i64 q.2.2.2)) ∧ q.2.1.size ≤ 9223372036854775807 := by
      intro i h
      obtain ⟨cs', h1, h2⟩ := hi i h
      obtain ⟨q, rfl, hz⟩ := token_reads h2
      obtain ⟨_, _, hcell⟩ := World.cells?_some h1
      exact ⟨q, ⟨by simpa [Addr.add] using hcell 0 (by omega), hcell 1 (by omega), hcell 2 (by omega), hcell 3 (by omega)⟩, hz⟩
    obtain ⟨q, hq⟩ := Deep.choose_lt each
    have hlm : l0 ≤ m := hl
    refine ⟨(List.range l0).map q, ⟨some a, m, by simp, fun h0 => ?_⟩, ?_, fun i h => ?_⟩
    · simp only [List.length_map, List.length_range] at h0
      have c0 := (hq 0 (by omega)).1.1
      have hs : a.spot = none := by
        cases hs : a.spot with
        | none => rfl
        | some k => simp [World.cell?, Addr.add, hs] at c0; split at c0 <;> simp_all
      have hlt : a.block < w.heap.size := by
        rcases Nat.lt_or_ge a.block w.heap.size with h | h
        · exact h
        · simp [World.cell?, Addr.add, h] at c0
      obtain ⟨g, o, sp⟩ := a
      simp only at hs hlt
      subst hs
      refine ⟨g, o, rfl, hlt, fun i h => ?_⟩
      simp only [List.length_map, List.length_range] at h
      simp only [List.getElem_map, List.getElem_range]
      have := (hq i (by omega)).1
      have e : ∀ o k, (⟨g, o, none⟩ : Addr).add k = ⟨g, o + k, none⟩ := fun o k => by unfold Addr.add; split <;> simp_all
      simp only [e] at this
      exact this
    · simp only [List.length_map, List.length_range]
      have : maxLen = 9223372036854775807 := rfl
      omega
    · simp only [List.length_map, List.length_range] at h
      simp only [List.getElem_map, List.getElem_range]
      exact (hq i (by omega)).2
end Go.Proofs.YtecldgjdmomilaaDoor
