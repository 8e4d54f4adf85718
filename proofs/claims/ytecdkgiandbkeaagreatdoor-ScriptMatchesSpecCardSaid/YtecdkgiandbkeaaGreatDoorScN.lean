/-
  A script under way while its text is read: how it lies in memory, and what the reader's own writes do to it.
-/
import Derived.Test.YtecdkgiandbkeaaGreatDoorScM
namespace Go.Proofs.YtecdkgiandbkeaaGreatDoor
open Go.RowKit ScSpec Go.Sort

/-! ### What keeps blocks of one type -/
theorem KeepT.refl (w : World) (e : TypeId) : KeepT w w e := fun _ _ _ h => h
theorem KeepT.trans {a b c : World} {e : TypeId} (h : KeepT a b e) (k : KeepT b c e) : KeepT a c e := fun _ _ _ g => k _ _ _ (h _ _ _ g)
theorem keepT_below {w w' : World} (h : Below w.heap.size w w') (e : TypeId) : KeepT w w' e := fun j _ _ g => (h.block j (Array.getElem?_eq_some_iff.1 g).1).trans g
theorem keepT_set {w : World} {g : Nat} {t : TypeId} {cs : Array Value} (h : Box w g t cs) (i : Nat) (u : Value) {e : TypeId} (hne : t ≠ e) : KeepT w (w.setCell ⟨g, i, none⟩ u) e := by
  intro j cs' fz' hj
  have h' : w.heap[g]? = some (.cells cs t (0, 0)) := h
  rw [Below.heap_setCell w ⟨g, i, none⟩ u j ?_, hj]
  intro e1
  have e2 : j = g := e1
  subst e2
  rw [h'] at hj
  injection hj with hj
  injection hj with _ hj _
  exact hne hj
theorem keepT_grown {w w' : World} {base : Nat} {t : TypeId} {size n : Nat} {v : Value} {xs : List Value} (h : w.ownsRow base t size v n xs) (hg : w.grownBy w' v.ownBlock) {e : TypeId} (hne : t ≠ e) : KeepT w w' e := by
  intro j cs' fz' hj
  rw [hg.block j (Array.getElem?_eq_some_iff.1 hj).1 ?_, hj]
  intro e1
  rcases h.2 with ⟨rfl, _⟩ | ⟨g, cap, cur, rfl, _, hb, _⟩
  · simp [Value.ownBlock] at e1
  · simp [Value.ownBlock] at e1
    subst e1
    rw [hb] at hj
    injection hj with hj
    injection hj with _ hj _
    exact hne hj
/-- Two rows of different types lie in different blocks. -/
theorem own_apart {w : World} {b1 b2 : Nat} {t1 t2 : TypeId} {s1 s2 n1 n2 : Nat} {v1 v2 : Value} {xs1 xs2 : List Value} (h1 : w.ownsRow b1 t1 s1 v1 n1 xs1) (h2 : w.ownsRow b2 t2 s2 v2 n2 xs2) (hne : t1 ≠ t2) : v1.ownBlock = none ∨ v1.ownBlock ≠ v2.ownBlock := by
  rcases h1.2 with ⟨rfl, _⟩ | ⟨g, cap, cur, rfl, _, hb, _⟩
  · exact .inl rfl
  · right
    intro e
    rcases h2.2 with ⟨rfl, _⟩ | ⟨g', cap', cur', rfl, _, hb', _⟩
    · simp [Value.ownBlock] at e
    · simp [Value.ownBlock] at e
      subst e
      rw [hb] at hb'
      injection hb' with hb'
      injection hb' with _ hb' _
      exact hne hb'
theorem own_block_ne {w : World} {base : Nat} {t : TypeId} {size n : Nat} {v : Value} {xs : List Value} (h : w.ownsRow base t size v n xs) {g : Nat} (hg : g < base) : some g ≠ v.ownBlock := fun e => by
  have := own_base h g e.symm
  omega

/-! ### Steps collected -/
/-- The cells of steps: kind, arguments, text of each. -/
def StepsO (w : World) (cells : List Value) (ss : List Stp) : Prop :=
  cells.length = ss.length * 3 ∧ ∀ i (h : i < ss.length), ∃ a, cells[i * 3]? = some (.int .i64 ss[i].kind) ∧ cells[i * 3 + 1]? = some a ∧ cells[i * 3 + 2]? = some (.string (strB ss[i].text)) ∧ RowT w a 3 (intVs ss[i].args)
theorem stepsO_nil (w : World) : StepsO w [] [] := ⟨rfl, fun i h => absurd h (Nat.not_lt_zero i)⟩
theorem StepsO.keep {w w' : World} {cells : List Value} {ss : List Stp} (h : StepsO w cells ss) (k : KeepT w w' 3) : StepsO w' cells ss :=
  ⟨h.1, fun i hi => by
    obtain ⟨a, h1, h2, h3, h4⟩ := h.2 i hi
    exact ⟨a, h1, h2, h3, h4.keep k⟩⟩
theorem StepsO.snoc {w : World} {cells : List Value} {ss : List Stp} (h : StepsO w cells ss) {x : Stp} {a : Value} (ha : RowT w a 3 (intVs x.args)) : StepsO w (cells ++ [.int .i64 x.kind, a, .string (strB x.text)]) (ss ++ [x]) := by
  obtain ⟨hl, h⟩ := h
  refine ⟨by simp [hl]; omega, fun i hi => ?_⟩
  rw [List.length_append, List.length_singleton] at hi
  by_cases hlt : i < ss.length
  · obtain ⟨b, h1, h2, h3, h4⟩ := h i hlt
    refine ⟨b, ?_, ?_, ?_, ?_⟩
    · rw [List.getElem?_append_left (by omega), h1, List.getElem_append_left hlt]
    · rw [List.getElem?_append_left (by omega), h2]
    · rw [List.getElem?_append_left (by omega), h3, List.getElem_append_left hlt]
    · rw [List.getElem_append_left hlt]; exact h4
  · obtain rfl : i = ss.length := by omega
    have e : (ss ++ [x])[ss.length]'(by simp) = x := by simp
    refine ⟨a, ?_, ?_, ?_, ?_⟩
    · rw [List.getElem?_append_right (by omega), hl, e]; simp
    · rw [List.getElem?_append_right (by omega), hl, show ss.length * 3 + 1 - ss.length * 3 = 1 from by omega]; rfl
    · rw [List.getElem?_append_right (by omega), hl, show ss.length * 3 + 2 - ss.length * 3 = 2 from by omega, e]; rfl
    · rw [e]; exact ha
theorem stepsV_own {w : World} {base : Nat} {v : Value} {cells : List Value} {ss : List Stp} (h : w.ownsRow base 54 3 v ss.length cells) (hs : StepsO w cells ss) : StepsV w v ss := by
  rcases h.2 with ⟨rfl, h0⟩ | ⟨g, cap, cur, rfl, hb, hg, hnc, hcm, hcs, htake⟩
  · exact ⟨none, 0, by rw [h0], by omega, fun h1 => by omega⟩
  · refine ⟨_, cap, rfl, hnc, fun _ => ⟨g, 0, rfl, (Array.getElem?_eq_some_iff.1 hg).1, fun i hi => ?_⟩⟩
    obtain ⟨a, h1, h2, h3, h4⟩ := hs.2 i hi
    refine ⟨a, ?_, ?_, ?_, h4.rowV⟩
    · rw [Nat.zero_add, h.cellAt _ (by omega), h1]
    · rw [Nat.zero_add, h.cellAt _ (by omega), h2]
    · rw [Nat.zero_add, h.cellAt _ (by omega), h3]

/-! ### The script under way -/
/-- n: the heap's size when the reading began; then come the result's variable, the script's, the lines. -/
structure PSt (w : World) (n : Nat) (wr : World) (ls : List Bytes) (vt vs : Value) (ts : List Bytes) (ss : List Stp) : Prop where
  bel : Below n w wr
  size : n + 3 ≤ wr.heap.size
  res : Box wr n 26 #[.slice none 0 0, .slice none 0 0]
  own : Box wr (n + 1) 26 #[vt, vs]
  lin : Box wr (n + 2) 9 (strVs ls).toArray
  tx : wr.ownsRow (n + 3) 9 1 vt ts.length (strVs ts)
  st : ∃ cells, wr.ownsRow (n + 3) 54 3 vs ss.length cells ∧ StepsO wr cells ss
theorem PSt.call {w : World} {n : Nat} {wr w' : World} {ls : List Bytes} {vt vs : Value} {ts : List Bytes} {ss : List Stp} (h : PSt w n wr ls vt vs ts ss) (hb : Below wr.heap.size wr w') : PSt w n w' ls vt vs ts ss := by
  obtain ⟨cells, h1, h2⟩ := h.st
  have hs := h.size
  exact ⟨below_to h.bel (by omega) hb, Nat.le_trans hs hb.size, h.res.below hb (by omega), h.own.below hb (by omega), h.lin.below hb (by omega), own_below h.tx hb, cells, own_below h1 hb, h2.keep (keepT_below hb 3)⟩
/-- A text is begun. -/
theorem PSt.addText {w : World} {n : Nat} {wr w1 : World} {ls : List Bytes} {vt vs v1 : Value} {ts : List Bytes} {ss : List Stp} {t : Bytes} (h : PSt w n wr ls vt vs ts ss)
    (ho : w1.ownsRow (n + 3) 9 1 v1 (ts.length + 1) (strVs ts ++ [.string (strB t)])) (hg : wr.grownBy w1 vt.ownBlock) : PSt w n (w1.setCell ⟨n + 1, 0, none⟩ v1) ls v1 vs (ts ++ [t]) ss := by
  obtain ⟨cells, h1, h2⟩ := h.st
  have hs := h.size
  have hz := hg.size
  have hown := h.own.kept hg (own_block_ne h.tx (by omega))
  refine ⟨((h.bel.grown hg (by omega) (fun k hk => by have := own_base h.tx k hk; omega)).setCell (p := ⟨n + 1, 0, none⟩) (show n ≤ n + 1 by omega) _), by simp; omega, ?_, ?_, ?_, ?_, cells, ?_, ?_⟩
  · exact (h.res.kept hg (own_block_ne h.tx (by omega))).other (p := ⟨n + 1, 0, none⟩) (show n ≠ n + 1 by omega) _
  · exact heap_setCell_same w1 (n + 1) 0 _ 26 v1 hown
  · exact (h.lin.kept hg (own_block_ne h.tx (by omega))).other (p := ⟨n + 1, 0, none⟩) (show n + 2 ≠ n + 1 by omega) _
  · have e : strVs (ts ++ [t]) = strVs ts ++ [.string (strB t)] := by simp [strVs]
    rw [e, List.length_append, List.length_singleton]
    exact own_other ho (show n + 1 < n + 3 by omega) _
  · exact own_other (h1.kept hg (own_apart h1 h.tx (by decide))) (show n + 1 < n + 3 by omega) _
  · exact h2.keep ((keepT_grown h.tx hg (by decide)).trans (keepT_set hown 0 v1 (by decide)))
/-- A step is added. -/
theorem PSt.addStep {w : World} {n : Nat} {wr w1 : World} {ls : List Bytes} {vt vs v1 a : Value} {ts : List Bytes} {ss : List Stp} {x : Stp} {cells : List Value} (h : PSt w n wr ls vt vs ts ss) (h1 : wr.ownsRow (n + 3) 54 3 vs ss.length cells) (h2 : StepsO wr cells ss) (ha : RowT wr a 3 (intVs x.args))
    (ho : w1.ownsRow (n + 3) 54 3 v1 (ss.length + 1) (cells ++ [.int .i64 x.kind, a, .string (strB x.text)])) (hg : wr.grownBy w1 vs.ownBlock) : PSt w n (w1.setCell ⟨n + 1, 1, none⟩ v1) ls vt v1 ts (ss ++ [x]) := by
  have hs := h.size
  have hz := hg.size
  have hown := h.own.kept hg (own_block_ne h1 (by omega))
  have hk : KeepT wr (w1.setCell ⟨n + 1, 1, none⟩ v1) 3 := (keepT_grown h1 hg (by decide)).trans (keepT_set hown 1 v1 (by decide))
  refine ⟨((h.bel.grown hg (by omega) (fun k hk => by have := own_base h1 k hk; omega)).setCell (p := ⟨n + 1, 1, none⟩) (show n ≤ n + 1 by omega) _), by simp; omega, ?_, ?_, ?_, ?_, cells ++ [.int .i64 x.kind, a, .string (strB x.text)], ?_, ?_⟩
  · exact (h.res.kept hg (own_block_ne h1 (by omega))).other (p := ⟨n + 1, 1, none⟩) (show n ≠ n + 1 by omega) _
  · exact heap_setCell_same w1 (n + 1) 1 _ 26 v1 hown
  · exact (h.lin.kept hg (own_block_ne h1 (by omega))).other (p := ⟨n + 1, 1, none⟩) (show n + 2 ≠ n + 1 by omega) _
  · exact own_other (h.tx.kept hg (own_apart h.tx h1 (by decide))) (show n + 1 < n + 3 by omega) _
  · rw [List.length_append, List.length_singleton]
    exact own_other ho (show n + 1 < n + 3 by omega) _
  · exact (h2.keep hk).snoc (ha.keep hk)
theorem strVs_set (ts : List Bytes) (t x : Bytes) : (strVs (ts ++ [t])).set ts.length (.string (strB x)) = strVs (ts ++ [x]) := by
  have hl : ts.length = (strVs ts).length := (strVs_length ts).symm
  have e : ∀ y : Bytes, strVs (ts ++ [y]) = strVs ts ++ [.string (strB y)] := fun y => by simp [strVs]
  rw [e, e, hl, List.set_append_right _ _ (Nat.le_refl _), Nat.sub_self]; rfl
/-- The last text is written anew. -/
theorem PSt.setLast {w : World} {n : Nat} {wr : World} {ls : List Bytes} {g c : Nat} {vs : Value} {ts : List Bytes} {t : Bytes} {ss : List Stp} {m : Nat} (hm : m = ts.length + 1) (h : PSt w n wr ls (.slice (some ⟨g, 0, none⟩) m c) vs (ts ++ [t]) ss) (x : Bytes) :
    PSt w n (wr.setCell ⟨g, ts.length, none⟩ (.string (strB x))) ls (.slice (some ⟨g, 0, none⟩) m c) vs (ts ++ [x]) ss := by
  subst hm
  obtain ⟨cells, h1, h2⟩ := h.st
  have hs := h.size
  have htx := h.tx
  have hl : (ts ++ [t]).length = ts.length + 1 := by simp
  rw [hl] at htx
  obtain ⟨k1, k2⟩ := htx.stored ts.length (.string (strB x))
  rw [strVs_set] at k1
  have hb := own_base htx g rfl
  refine ⟨h.bel.setCell (p := ⟨g, ts.length, none⟩) (show n ≤ g by omega) _, by simp; omega, ?_, ?_, ?_, ?_, cells, ?_, ?_⟩
  · exact h.res.other (p := ⟨g, ts.length, none⟩) (show n ≠ g by omega) _
  · exact h.own.other (p := ⟨g, ts.length, none⟩) (show n + 1 ≠ g by omega) _
  · exact h.lin.other (p := ⟨g, ts.length, none⟩) (show n + 2 ≠ g by omega) _
  · rw [List.length_append, List.length_singleton]; exact k1
  · exact h1.kept k2 (own_apart h1 htx (by decide))
  · refine h2.keep ?_
    have k2' : wr.grownBy (wr.setCell ⟨g, ts.length, none⟩ (.string (strB x))) (Value.slice (some ⟨g, 0, none⟩) (ts.length + 1) c).ownBlock := k2
    exact keepT_grown htx k2' (by decide)
theorem PSt.scr {w : World} {n : Nat} {wr : World} {ls : List Bytes} {vt vs : Value} {ts : List Bytes} {ss : List Stp} (h : PSt w n wr ls vt vs ts ss) : ScrV wr (.agg #[vt, vs]) ⟨ts, ss⟩ := by
  obtain ⟨cells, h1, h2⟩ := h.st
  exact ⟨vt, vs, rfl, rowV_own h.tx, stepsV_own h1 h2⟩
/-- A store into the result's variable. -/
theorem PSt.scr_res {w : World} {n : Nat} {wr : World} {ls : List Bytes} {vt vs : Value} {ts : List Bytes} {ss : List Stp} (h : PSt w n wr ls vt vs ts ss) (u u' : Value) : ScrV ((wr.setCell ⟨n, 0, none⟩ u).setCell ⟨n, 1, none⟩ u') (.agg #[vt, vs]) ⟨ts, ss⟩ := by
  obtain ⟨cells, h1, h2⟩ := h.st
  have hr1 : Box (wr.setCell ⟨n, 0, none⟩ u) n 26 (#[.slice none 0 0, .slice none 0 0].setIfInBounds 0 u) := heap_setCell_same wr n 0 _ 26 u h.res
  refine ⟨vt, vs, rfl, rowV_own (own_other (own_other h.tx (show n < n + 3 by omega) _) (show n < n + 3 by omega) _), stepsV_own (own_other (own_other h1 (show n < n + 3 by omega) _) (show n < n + 3 by omega) _) (h2.keep ((keepT_set h.res 0 u (by decide)).trans (keepT_set hr1 1 u' (by decide))))⟩
theorem PSt.line {w : World} {n : Nat} {wr : World} {ls : List Bytes} {vt vs : Value} {ts : List Bytes} {ss : List Stp} (h : PSt w n wr ls vt vs ts ss) {k : Nat} (hk : k < ls.length) : wr.cell? ⟨n + 2, k, none⟩ = some (.string (strB ls[k])) := by
  rw [h.lin.look k]
  simp [strVs, hk]

/-! ### The library's calls -/
theorem split_call (d : UInt8) (l : Bytes) (hl : l.length ≤ 1000000000) (w : World) (hL : Laid w) :
    Calls Tryz.prog 13 #[.string (strB l), .string ⟨#[d]⟩] w fun e w' => e = .returned (.slice (some ⟨w.heap.size, 0, none⟩) (split d l).length (split d l).length) ∧ w' = w.alloc (.cells (strVs (split d l)).toArray 9) := by
  obtain ⟨m, hm⟩ := hL.maxLen
  refine (Tryz.strings_Split (strB l) ⟨#[d]⟩ m w (by rw [strB_size]; omega) hm (Nat.le_refl 1)).mono ?_
  rintro e w' ⟨rfl, rfl⟩
  rw [split_count, split_strs]
  exact ⟨rfl, rfl⟩
theorem sc_blank (x : Nat) (w : World) : Calls Tryz.prog 32 #[.int .i32 x] w fun e w' => e = .returned (.bool (pBlank x)) ∧ w = w' := by
  unfold pBlank
  go_enter Tryz.func32, Tryz.ntmps32
  go_wp2
  go_ret
  refine ⟨ret_bool ?_, rfl⟩
  by_cases h : x = 32
  · subst h; rfl
  · rw [decide_eq_false h]
    exact ib_no (by omega)
theorem fields_call (l : Bytes) (hl : l.length ≤ 1000000000) (w : World) :
    Calls Tryz.prog 31 #[.string (strB l), .func (.func 32) #[] #[]] w fun e w' => ∃ A, e = .returned (.slice (some ⟨A, 0, none⟩) (words l).length (words l).length) ∧ A < w'.heap.size ∧ (∀ i (h : i < (words l).length), w'.cell? ⟨A, i, none⟩ = some (.string (strB (words l)[i]))) ∧ Below w.heap.size w w' := by
  refine (Tryz.strings_FieldsFunc 32 #[] (enters_of Tryz.func32 (by kernel_rfl) rfl) pBlank (strB l) w (by rw [strB_size]; omega) (fun W x _ => by
    show Calls Tryz.prog 32 #[.int .i32 (x : Int)] W _
    exact (sc_blank x W).mono fun e w' ⟨h1, h2⟩ => ⟨h1, 0, by rw [h2]; rfl⟩)).mono ?_
  rintro e w' ⟨A, rfl, hA, hown, hb⟩
  rw [fields_words, List.length_map] at *
  refine ⟨A, rfl, (hown.lt A rfl).2, fun i hi => ?_, hb⟩
  rw [hown.cellAt i (by omega)]
  simp [hi]
end Go.Proofs.YtecdkgiandbkeaaGreatDoor
