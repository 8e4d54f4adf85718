/-
  A script that a call is handed, opened: how it lies, and how long its parts may be (the form's own reach).
-/
import Derived.Test.YtecdkgiandbkeaaGreatDoorRowKit
import Derived.Test.YtecdkgiandbkeaaGreatDoorScW
import Derived.Deep.Slices
import Derived.Deep.Strs
import Derived.Lib.SmallJoins
import Derived.Carry
namespace Go.Proofs.YtecdkgiandbkeaaGreatDoor
open Go.ChangeShapes Go.WideShapes Go.ChangeAt Go.RowKit ScSpec

theorem laidOut : laidOutB Tryz.prog = true := by kernel_rfl
theorem cells54 : Tryz.prog.cellsOf 54 = 3 := by kernel_rfl
theorem cells26 : Tryz.prog.cellsOf 26 = 2 := by kernel_rfl
theorem bytes9 : Tryz.prog.bytesOf 9 = 16 := by kernel_rfl
theorem bytes54 : Tryz.prog.bytesOf 54 = 48 := by kernel_rfl
theorem bytes3 : Tryz.prog.bytesOf 3 = 8 := by kernel_rfl

section
variable {H : Type} {enc : TypeId × Value → H} {w : World}
/-- Each part of a datum is no longer than the form's reach. -/
def Near (d : DataW H) (t : TypeId) : Prop := ∀ n ∈ d.weights Tryz.prog t, n ≤ 140737488351232
theorem near_head {t : TypeId} {ts : List TypeId} {d : DataW H} {ds : List (DataW H)} (h : (DataW.weightsEach Tryz.prog (t :: ts) (d :: ds)).all (· ≤ reachBytes) = true) :
    Near d t ∧ (DataW.weightsEach Tryz.prog ts ds).all (· ≤ reachBytes) = true := by
  simp only [DataW.weightsEach, List.all_append, Bool.and_eq_true] at h
  refine ⟨fun n hn => ?_, h.2⟩
  have := List.all_eq_true.1 h.1 n hn
  have e : reachBytes = 140737488351232 := rfl
  rw [e] at this
  simpa using this
theorem near_each {t : TypeId} {ts : List TypeId} {d : DataW H} {ds : List (DataW H)} (h : ∀ n ∈ DataW.weightsEach Tryz.prog (t :: ts) (d :: ds), n ≤ 140737488351232) :
    Near d t ∧ ∀ n ∈ DataW.weightsEach Tryz.prog ts ds, n ≤ 140737488351232 := by
  simp only [DataW.weightsEach, List.mem_append] at h
  exact ⟨fun n hn => h n (.inl hn), fun n hn => h n (.inr hn)⟩
theorem weightsAll_mem {e : TypeId} {l : List (DataW H)} {d : DataW H} (hd : d ∈ l) {n : Nat} (hn : n ∈ d.weights Tryz.prog e) : n ∈ DataW.weightsAll Tryz.prog e l := by
  induction l with
  | nil => cases hd
  | cons x l ih =>
    simp only [DataW.weightsAll, List.mem_append]
    rcases List.mem_cons.1 hd with rfl | h
    · exact .inl hn
    · exact .inr (ih h)
theorem near_slice {t e : TypeId} {el sp : List (DataW H)} (ht : Tryz.prog.underlying t = some (.slice e)) (h : Near (.slice el sp) t) :
    (el.length + sp.length) * Tryz.prog.bytesOf e ≤ 140737488351232 ∧ ∀ d ∈ el, Near d e := by
  unfold Near at h
  simp only [DataW.weights, ht, List.mem_cons, List.mem_append] at h
  exact ⟨h _ (.inl rfl), fun d hd n hn => h n (.inr (.inl (weightsAll_mem hd hn)))⟩
theorem near_agg {t : TypeId} {fs : Array Field} {l : List (DataW H)} (ht : Tryz.prog.underlying t = some (.struct fs)) (h : Near (.agg l) t) : ∀ n ∈ DataW.weightsEach Tryz.prog (fs.toList.map (·.type)) l, n ≤ 140737488351232 := by
  unfold Near at h
  simpa only [DataW.weights, ht] using h
theorem near_string {t : TypeId} {b : List UInt8} (h : Near (H := H) (.lit (.string b)) t) : b.length ≤ 140737488351232 := by
  unfold Near at h
  simp only [DataW.weights, List.mem_singleton, forall_eq] at h
  exact h

theorem addr_plain {a : Addr} {v : Value} {k : Nat} (hk : k = 0) (h : w.cell? (a.add k) = some v) : ∃ g o, a = ⟨g, o, none⟩ ∧ g < w.heap.size := by
  subst hk
  have hs : a.spot = none := by
    cases hs : a.spot with
    | none => rfl
    | some k => simp [World.cell?, Addr.add, hs] at h; split at h <;> simp_all
  have hlt : a.block < w.heap.size := by
    rcases Nat.lt_or_ge a.block w.heap.size with h' | h'
    · exact h'
    · have e : a.add 0 = a := by unfold Addr.add; rw [if_pos rfl]
      rw [e] at h
      simp [World.cell?, h'] at h
  obtain ⟨g, o, sp⟩ := a
  simp only at hs hlt
  subst hs
  exact ⟨g, o, rfl, hlt⟩
theorem add_plain (g o k : Nat) : (⟨g, o, none⟩ : Addr).add k = ⟨g, o + k, none⟩ := by unfold Addr.add; split <;> simp_all

theorem read_row {t e : TypeId} {fuel : Nat} {c : Value} {d : DataW H} {p : List MemPlace} (ht : Tryz.prog.underlying t = some (.slice e)) (hc1 : Tryz.prog.cellsOf e = 1)
    {α : Type} [Inhabited α] (f : α → Value) (g : α → DataW H) (hread : ∀ {n v x q}, DataW.trod enc Tryz.prog w 0 (fun _ => true) true n e [v] = some (x, q) → ∃ a, v = f a ∧ x = g a)
    (h : DataW.trod enc Tryz.prog w 0 (fun _ => true) true fuel t [c] = some (d, p)) (hn : Near d t) :
    ∃ xs : List α, RowV w c (xs.map f) ∧ xs.length * Tryz.prog.bytesOf e ≤ 140737488351232 ∧ ∀ x ∈ xs, Near (g x) e := by
  rcases Deep.open_slice1 ht hc1 h with ⟨hc, hx⟩ | ⟨a, len, cap, m, n, V, D, Pl, hc, hb, hl, hm, hmm, hx, hi⟩
  · simp only [List.cons.injEq, and_true] at hc
    subst hc
    exact ⟨[], rowV_nil _, by simp, by simp⟩
  · simp only [List.cons.injEq, and_true] at hc
    subst hc
    simp only [if_true] at hmm
    subst hmm
    obtain ⟨q, hq⟩ := Deep.choose_lt (p := fun i x => V i = f x ∧ D i = g x) (fun i h => hread (hi i h).2)
    injection hx with hd hp
    subst hd
    obtain ⟨hlen, hel⟩ := near_slice ht hn
    simp only [List.length_map, List.length_range] at hlen
    refine ⟨(List.range len).map q, ⟨some a, m, by simp, by simpa using hl, fun h0 => ?_⟩, ?_, fun x hx => ?_⟩
    · simp only [List.length_map, List.length_range] at h0
      obtain ⟨b, o, rfl, hlt⟩ := addr_plain rfl (hi 0 (by omega)).1
      refine ⟨b, o, rfl, hlt, fun i hii => ?_⟩
      simp only [List.length_map, List.length_range] at hii
      have := (hi i (by omega)).1
      rw [add_plain] at this
      rw [this, (hq i (by omega)).1]
      simp
    · rw [List.length_map, List.length_range]
      exact Nat.le_trans (Nat.mul_le_mul_right _ (by omega)) hlen
    · obtain ⟨i, hi', rfl⟩ := List.mem_map.1 hx
      have hi'' := List.mem_range.1 hi'
      rw [← (hq i (by omega)).2]
      exact hel _ (List.mem_map.2 ⟨i, hi', rfl⟩)

set_option maxRecDepth 100000 in
theorem read_strs {fuel : Nat} {c : Value} {d : DataW H} {p : List MemPlace} (h : DataW.trod enc Tryz.prog w 0 (fun _ => true) true fuel 23 [c] = some (d, p)) (hn : Near d 23) :
    ∃ ts : List Bytes, RowV w c (strVs ts) ∧ ts.length ≤ 140737488351232 ∧ ∀ t ∈ ts, t.length ≤ 140737488351232 := by
  obtain ⟨xs, h1, h2, h3⟩ := read_row (α := Bytes) Tryz.underlying23 cells9 (fun t => .string (strB t)) (fun t => .lit (.string t)) (fun {n v x q} hh => by
    obtain ⟨s, hs, hx, _⟩ := DataW.trod_string Tryz.underlying9 hh
    simp only [List.cons.injEq, and_true] at hs
    injection hx with hx _
    exact ⟨s.data.toList, by rw [hs, strB_of], hx⟩) h hn
  rw [bytes9] at h2
  exact ⟨xs, h1, by omega, fun t ht => near_string (h3 t ht)⟩
set_option maxRecDepth 100000 in
theorem read_ints {fuel : Nat} {c : Value} {d : DataW H} {p : List MemPlace} (h : DataW.trod enc Tryz.prog w 0 (fun _ => true) true fuel 52 [c] = some (d, p)) (hn : Near d 52) :
    ∃ xs : List Int, RowV w c (intVs xs) ∧ xs.length ≤ 140737488351232 := by
  obtain ⟨xs, h1, h2, h3⟩ := read_row (α := Int) Tryz.underlying52 cells3 (fun z => .int .i64 z) (fun z => .lit (.int .i64 z)) (fun {n v x q} hh => by
    obtain ⟨z, hz, hx, _⟩ := DataW.trod_int Tryz.underlying3 hh
    simp only [List.cons.injEq, and_true] at hz
    injection hx with hx _
    exact ⟨z, hz, hx⟩) h hn
  rw [bytes3] at h2
  exact ⟨xs, h1, by omega⟩
set_option maxRecDepth 100000 in
theorem read_step {fuel : Nat} {cs : List Value} {d : DataW H} {p : List MemPlace} (h : DataW.trod enc Tryz.prog w 0 (fun _ => true) true fuel 54 cs = some (d, p)) (hn : Near d 54) :
    ∃ (x : Stp) (a : Value), cs = [.int .i64 x.kind, a, .string (strB x.text)] ∧ RowV w a (intVs x.args) ∧ x.args.length ≤ 140737488351232 ∧ x.text.length ≤ 140737488351232 := by
  obtain ⟨xs, n, _, hx, hl, hxl, hf⟩ := DataW.trod_struct Tryz.underlying54 h
  rw [cells54] at hl
  match cs, hl with
  | [c0, c1, c2], _ =>
    match xs, hxl with
    | [y0, y1, y2], _ =>
      have h0 : DataW.trod enc Tryz.prog w 0 (fun _ => true) true n 3 (List.take (Tryz.prog.cellsOf 3) (List.drop 0 [c0, c1, c2])) = some y0 := hf 0 _ rfl
      have h1 : DataW.trod enc Tryz.prog w 0 (fun _ => true) true n 52 (List.take (Tryz.prog.cellsOf 52) (List.drop 1 [c0, c1, c2])) = some y1 := hf 1 _ rfl
      have h2 : DataW.trod enc Tryz.prog w 0 (fun _ => true) true n 9 (List.take (Tryz.prog.cellsOf 9) (List.drop 2 [c0, c1, c2])) = some y2 := hf 2 _ rfl
      rw [cells3] at h0
      rw [show Tryz.prog.cellsOf 52 = 1 by kernel_rfl] at h1
      rw [cells9] at h2
      have hd := congrArg Prod.fst hx
      simp only [List.map_cons, List.map_nil] at hd
      subst hd
      have hne := near_agg Tryz.underlying54 hn
      obtain ⟨_, hne⟩ := near_each (t := 3) (ts := [52, 9]) hne
      obtain ⟨hn1, hne⟩ := near_each (t := 52) (ts := [9]) hne
      obtain ⟨hn2, _⟩ := near_each (t := 9) (ts := []) hne
      obtain ⟨z, hz, _, _⟩ := DataW.trod_int Tryz.underlying3 (cs := [c0]) (x := y0) h0
      obtain ⟨xs, hr, hrl⟩ := read_ints (c := c1) (d := y1.1) (p := y1.2) h1 hn1
      obtain ⟨s, hs, hy2, _⟩ := DataW.trod_string Tryz.underlying9 (cs := [c2]) (x := y2) h2
      injection hz with hz _
      injection hs with hs _
      subst hz hs hy2
      exact ⟨⟨z, xs, s.data.toList⟩, c1, by rw [strB_of], hr, hrl, near_string hn2⟩
instance : Inhabited Stp := ⟨⟨0, [], []⟩⟩
theorem read_steps {fuel : Nat} {c : Value} {d : DataW H} {p : List MemPlace} (h : DataW.trod enc Tryz.prog w 0 (fun _ => true) true fuel 24 [c] = some (d, p)) (hn : Near d 24) :
    ∃ xs : List Stp, StepsV w c xs ∧ xs.length ≤ 140737488351232 ∧ ∀ x ∈ xs, x.args.length ≤ 140737488351232 ∧ x.text.length ≤ 140737488351232 := by
  rcases Deep.open_slice Tryz.underlying24 h with ⟨hc, hx⟩ | ⟨a, len, cap, m, n, D, Pl, hc, hb, hl, hm, hmm, hx, hi⟩
  · simp only [List.cons.injEq, and_true] at hc
    subst hc
    exact ⟨[], ⟨none, 0, rfl, by simp, fun h => absurd h (Nat.lt_irrefl 0)⟩, by simp, by simp⟩
  · simp only [List.cons.injEq, and_true] at hc
    subst hc
    simp only [if_true] at hmm
    subst hmm
    injection hx with hd hp
    subst hd
    obtain ⟨hlen, hel⟩ := near_slice Tryz.underlying24 hn
    simp only [List.length_map, List.length_range, bytes54] at hlen
    rw [cells54] at hi
    have each : ∀ i, i < len → ∃ x : Stp, (∃ a', w.cell? (a.add (i * 3)) = some (.int .i64 x.kind) ∧ w.cell? ((a.add (i * 3)).add 1) = some a' ∧ w.cell? ((a.add (i * 3)).add 2) = some (.string (strB x.text)) ∧ RowV w a' (intVs x.args)) ∧ x.args.length ≤ 140737488351232 ∧ x.text.length ≤ 140737488351232 := by
      intro i h
      obtain ⟨cs', h1, h2⟩ := hi i (by omega)
      obtain ⟨x, a', rfl, hr, hb1, hb2⟩ := read_step h2 (hel _ (List.mem_map.2 ⟨i, List.mem_range.2 h, rfl⟩))
      obtain ⟨_, _, hcell⟩ := World.cells?_some h1
      exact ⟨x, ⟨a', by simpa [Addr.add] using hcell 0 (by omega), hcell 1 (by omega), hcell 2 (by omega), hr⟩, hb1, hb2⟩
    obtain ⟨q, hq⟩ := Deep.choose_lt each
    refine ⟨(List.range len).map q, ⟨some a, m, by simp, by simpa using hl, fun h0 => ?_⟩, ?_, fun x hx => ?_⟩
    · simp only [List.length_map, List.length_range] at h0
      obtain ⟨a', c0, _⟩ := (hq 0 h0).1
      obtain ⟨b, o, rfl, hlt⟩ := addr_plain (by simp) c0
      refine ⟨b, o, rfl, hlt, fun i hii => ?_⟩
      simp only [List.length_map, List.length_range] at hii
      simp only [List.getElem_map, List.getElem_range]
      obtain ⟨a', d0, d1, d2, dr⟩ := (hq i hii).1
      simp only [add_plain] at d0 d1 d2
      exact ⟨a', d0, d1, d2, dr⟩
    · rw [List.length_map, List.length_range]
      omega
    · obtain ⟨i, hi', rfl⟩ := List.mem_map.1 hx
      exact (hq i (List.mem_range.1 hi')).2
set_option maxRecDepth 100000 in
theorem open_script {v : Value} {d : DataW H} {ps : List MemPlace} {b0 : Nat} (hval : Value.okWide Tryz.prog w .any b0 26 v) (h : DataW.Trod enc Tryz.prog w 0 (fun _ => true) true 26 v d ps) (hn : Near d 26) :
    ∃ s : Scr, ScrV w v s ∧ Fits s := by
  obtain ⟨v0, v1, y0, y1, n, rfl, rfl, rfl, h0, h1⟩ := Joins.open_agg2 Tryz.underlying26 (by kernel_rfl) cells26 hval h
  have hne := near_agg Tryz.underlying26 hn
  obtain ⟨hn0, hne⟩ := near_each (t := 23) (ts := [24]) hne
  obtain ⟨hn1, _⟩ := near_each (t := 24) (ts := []) hne
  obtain ⟨ts, r0, l0, m0⟩ := read_strs (c := v0) (d := y0.1) (p := y0.2) h0 hn0
  obtain ⟨ss, r1, l1, m1⟩ := read_steps (c := v1) (d := y1.1) (p := y1.2) h1 hn1
  exact ⟨⟨ts, ss⟩, ⟨v0, v1, rfl, r0, r1⟩, ⟨by simp only; omega, fun t ht => by have := m0 t ht; omega, by simp only; omega, fun x hx => by have := m1 x hx; omega⟩⟩
end
end Go.Proofs.YtecdkgiandbkeaaGreatDoor
