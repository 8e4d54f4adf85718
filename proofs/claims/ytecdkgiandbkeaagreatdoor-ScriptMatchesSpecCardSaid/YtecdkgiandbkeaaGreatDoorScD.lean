/-
  slices.ContainsFunc at the predicates of the script package: whether some element is faulty.
-/
import Derived.Test.YtecdkgiandbkeaaGreatDoorScC
import Derived.Lib.FieldsP
namespace Go.Proofs.YtecdkgiandbkeaaGreatDoor
open Go.RowKit ScSpec Go.Sort

theorem any_yes {ps : List Bool} {k : Nat} (h : k < ps.length) (hk : ps[k] = true) : ps.any id = true := List.any_eq_true.2 ⟨ps[k], List.getElem_mem h, hk⟩
theorem any_no {ps : List Bool} (h : ∀ i (h : i < ps.length), ps[i] = false) : ps.any id = false := by
  rw [List.any_eq_false]
  intro x hx
  obtain ⟨i, hi, rfl⟩ := List.getElem_of_mem hx
  simp [h i hi]

set_option maxHeartbeats 1000000 in
theorem index_okArg (v : Value) (vs : List Value) (ps : List Bool) (hl : vs.length = ps.length) (hm : vs.length ≤ 1000000000) (w : World) (hr : RowV w v vs)
    (hf : ∀ W, Below w.heap.size w W → ∀ i (h : i < vs.length) (h' : i < ps.length), Calls Tryz.prog 86 #[vs[i]] W fun e W' => e = .returned (.bool ps[i]) ∧ Below W.heap.size W W')
    (h1 : ∀ i (h : i < vs.length), (∃ n, vs[i] = .int .i64 n) ∨ ∃ s, vs[i] = .string s) :
    Calls Tryz.prog 103 #[v, .func (.func 86) #[] #[]] w fun e w' => ∃ r : Int, e = .returned (.int .i64 r) ∧ decide (0 ≤ r) = ps.any id ∧ Below w.heap.size w w' := by
  obtain ⟨A, c, rfl, hcap, hA⟩ := hr
  have HA := Lib.hid hA
  have HF := Lib.hid hf
  have HL := Lib.hid hl
  have H1 := Lib.hid h1
  clear hA hf hl h1
  go_enter Tryz.func103, Tryz.ntmps103
  go_wp2_with fail
  go_loopw [8] (fun i wr => ∃ k : Nat, k ≤ vs.length ∧ i = .int .i64 k ∧ Below w.heap.size w wr ∧ Hid (∀ j (h : j < ps.length), j < k → ps[j] = false)) (fun i _ => vs.length - (intOf i).toNat)
  case atStart => exact ⟨0, by omega, rfl, Below.refl _ _, fun j h h0 => by omega⟩
  case round =>
    obtain ⟨k, hk, rfl, hbr, H⟩ := hrel
    have hzr := hbr.size
    by_cases hlt : k < vs.length
    · obtain ⟨g, o, rfl, hg, hc⟩ := HA.out (by omega)
      have x := (hbr.cell (p := ⟨g, o + k, none⟩) hg).trans (hc k hlt)
      have hlt' : k < ps.length := by rw [← HL.out]; exact hlt
      have HC := Lib.hid (HF.out wr hbr k hlt hlt')
      have h1k := H1.out k hlt
      clear hc
      generalize vs[k] = u at x HC h1k
      cases hp : ps[k] with
      | true =>
        rw [hp] at HC
        have HY := Lib.hid (any_yes hlt' hp)
        clear hp
        rcases h1k with ⟨n, rfl⟩ | ⟨s, rfl⟩
        all_goals
          go_wp2_with fail
          refine HC.out.mono ?_
          rintro e w2 ⟨rfl, hb2⟩
          have hz2 := hb2.size
          go_wp2_with fail
          go_ret
          exact ⟨k, rfl, by rw [HY.out]; simp, below_to hbr hzr hb2⟩
      | false =>
        rw [hp] at HC
        have H2 : Hid (∀ j (h : j < ps.length), j < k + 1 → ps[j] = false) := by
          intro j h hj
          rcases Nat.lt_or_ge j k with h1 | h1
          · exact H j h h1
          · obtain rfl : j = k := by omega
            exact hp
        clear hp
        rcases h1k with ⟨n, rfl⟩ | ⟨s, rfl⟩
        all_goals
          go_wp2_with fail
          refine HC.out.mono ?_
          rintro e w2 ⟨rfl, hb2⟩
          have hz2 := hb2.size
          have hb3 := below_to hbr hzr hb2
          go_wp2_with fail
          go_roundw
          case rel => exact ⟨k + 1, by omega, by push_cast; rfl, hb3, H2⟩
          case measure => simp [intOf]; omega
    · obtain rfl : k = vs.length := by omega
      have HY := Lib.hid (any_no (ps := ps) (fun i h => H.out i h (by rw [HL.out]; exact h)))
      go_wp2_with fail
      go_ret
      exact ⟨-1, rfl, by rw [HY.out]; rfl, hbr⟩

theorem contains_okArg (v : Value) (vs : List Value) (ps : List Bool) (hl : vs.length = ps.length) (hm : vs.length ≤ 1000000000) (w : World) (hr : RowV w v vs)
    (hf : ∀ W, Below w.heap.size w W → ∀ i (h : i < vs.length) (h' : i < ps.length), Calls Tryz.prog 86 #[vs[i]] W fun e W' => e = .returned (.bool ps[i]) ∧ Below W.heap.size W W')
    (h1 : ∀ i (h : i < vs.length), (∃ n, vs[i] = .int .i64 n) ∨ ∃ s, vs[i] = .string s) :
    Calls Tryz.prog 87 #[v, .func (.func 86) #[] #[]] w fun e w' => e = .returned (.bool (ps.any id)) ∧ Below w.heap.size w w' := by
  have HI := Lib.hid (index_okArg v vs ps hl hm w hr hf h1)
  clear hf h1 hl
  obtain ⟨A, c, rfl, hcap, hA⟩ := hr
  clear hA
  go_enter Tryz.func87, Tryz.ntmps87
  go_wp2_with fail
  refine HI.out.mono ?_
  rintro e w2 ⟨r, rfl, hd, hb2⟩
  have HD := Lib.hid hd
  clear hd
  go_wp2_with fail
  go_ret
  exact ⟨ret_bool HD.out, hb2⟩

set_option maxHeartbeats 1000000 in
theorem index_long (v : Value) (vs : List Value) (ps : List Bool) (hl : vs.length = ps.length) (hm : vs.length ≤ 1000000000) (w : World) (hr : RowV w v vs)
    (hf : ∀ W, Below w.heap.size w W → ∀ i (h : i < vs.length) (h' : i < ps.length), Calls Tryz.prog 55 #[vs[i]] W fun e W' => e = .returned (.bool ps[i]) ∧ Below W.heap.size W W')
    (h1 : ∀ i (h : i < vs.length), (∃ n, vs[i] = .int .i64 n) ∨ ∃ s, vs[i] = .string s) :
    Calls Tryz.prog 85 #[v, .func (.func 55) #[] #[]] w fun e w' => ∃ r : Int, e = .returned (.int .i64 r) ∧ decide (0 ≤ r) = ps.any id ∧ Below w.heap.size w w' := by
  obtain ⟨A, c, rfl, hcap, hA⟩ := hr
  have HA := Lib.hid hA
  have HF := Lib.hid hf
  have HL := Lib.hid hl
  have H1 := Lib.hid h1
  clear hA hf hl h1
  go_enter Tryz.func85, Tryz.ntmps85
  go_wp2_with fail
  go_loopw [8] (fun i wr => ∃ k : Nat, k ≤ vs.length ∧ i = .int .i64 k ∧ Below w.heap.size w wr ∧ Hid (∀ j (h : j < ps.length), j < k → ps[j] = false)) (fun i _ => vs.length - (intOf i).toNat)
  case atStart => exact ⟨0, by omega, rfl, Below.refl _ _, fun j h h0 => by omega⟩
  case round =>
    obtain ⟨k, hk, rfl, hbr, H⟩ := hrel
    have hzr := hbr.size
    by_cases hlt : k < vs.length
    · obtain ⟨g, o, rfl, hg, hc⟩ := HA.out (by omega)
      have x := (hbr.cell (p := ⟨g, o + k, none⟩) hg).trans (hc k hlt)
      have hlt' : k < ps.length := by rw [← HL.out]; exact hlt
      have HC := Lib.hid (HF.out wr hbr k hlt hlt')
      have h1k := H1.out k hlt
      clear hc
      generalize vs[k] = u at x HC h1k
      cases hp : ps[k] with
      | true =>
        rw [hp] at HC
        have HY := Lib.hid (any_yes hlt' hp)
        clear hp
        rcases h1k with ⟨n, rfl⟩ | ⟨s, rfl⟩
        all_goals
          go_wp2_with fail
          refine HC.out.mono ?_
          rintro e w2 ⟨rfl, hb2⟩
          have hz2 := hb2.size
          go_wp2_with fail
          go_ret
          exact ⟨k, rfl, by rw [HY.out]; simp, below_to hbr hzr hb2⟩
      | false =>
        rw [hp] at HC
        have H2 : Hid (∀ j (h : j < ps.length), j < k + 1 → ps[j] = false) := by
          intro j h hj
          rcases Nat.lt_or_ge j k with h1 | h1
          · exact H j h h1
          · obtain rfl : j = k := by omega
            exact hp
        clear hp
        rcases h1k with ⟨n, rfl⟩ | ⟨s, rfl⟩
        all_goals
          go_wp2_with fail
          refine HC.out.mono ?_
          rintro e w2 ⟨rfl, hb2⟩
          have hz2 := hb2.size
          have hb3 := below_to hbr hzr hb2
          go_wp2_with fail
          go_roundw
          case rel => exact ⟨k + 1, by omega, by push_cast; rfl, hb3, H2⟩
          case measure => simp [intOf]; omega
    · obtain rfl : k = vs.length := by omega
      have HY := Lib.hid (any_no (ps := ps) (fun i h => H.out i h (by rw [HL.out]; exact h)))
      go_wp2_with fail
      go_ret
      exact ⟨-1, rfl, by rw [HY.out]; rfl, hbr⟩

theorem contains_long (v : Value) (vs : List Value) (ps : List Bool) (hl : vs.length = ps.length) (hm : vs.length ≤ 1000000000) (w : World) (hr : RowV w v vs)
    (hf : ∀ W, Below w.heap.size w W → ∀ i (h : i < vs.length) (h' : i < ps.length), Calls Tryz.prog 55 #[vs[i]] W fun e W' => e = .returned (.bool ps[i]) ∧ Below W.heap.size W W')
    (h1 : ∀ i (h : i < vs.length), (∃ n, vs[i] = .int .i64 n) ∨ ∃ s, vs[i] = .string s) :
    Calls Tryz.prog 59 #[v, .func (.func 55) #[] #[]] w fun e w' => e = .returned (.bool (ps.any id)) ∧ Below w.heap.size w w' := by
  have HI := Lib.hid (index_long v vs ps hl hm w hr hf h1)
  clear hf h1 hl
  obtain ⟨A, c, rfl, hcap, hA⟩ := hr
  clear hA
  go_enter Tryz.func59, Tryz.ntmps59
  go_wp2_with fail
  refine HI.out.mono ?_
  rintro e w2 ⟨r, rfl, hd, hb2⟩
  have HD := Lib.hid hd
  clear hd
  go_wp2_with fail
  go_ret
  exact ⟨ret_bool HD.out, hb2⟩

set_option maxHeartbeats 1000000 in
theorem index_odd (v : Value) (vs : List Value) (ps : List Bool) (hl : vs.length = ps.length) (hm : vs.length ≤ 1000000000) (w : World) (hr : RowV w v vs)
    (hf : ∀ W, Below w.heap.size w W → ∀ i (h : i < vs.length) (h' : i < ps.length), Calls Tryz.prog 56 #[vs[i]] W fun e W' => e = .returned (.bool ps[i]) ∧ Below W.heap.size W W')
    (h1 : ∀ i (h : i < vs.length), (∃ n, vs[i] = .int .i64 n) ∨ ∃ s, vs[i] = .string s) :
    Calls Tryz.prog 85 #[v, .func (.func 56) #[] #[]] w fun e w' => ∃ r : Int, e = .returned (.int .i64 r) ∧ decide (0 ≤ r) = ps.any id ∧ Below w.heap.size w w' := by
  obtain ⟨A, c, rfl, hcap, hA⟩ := hr
  have HA := Lib.hid hA
  have HF := Lib.hid hf
  have HL := Lib.hid hl
  have H1 := Lib.hid h1
  clear hA hf hl h1
  go_enter Tryz.func85, Tryz.ntmps85
  go_wp2_with fail
  go_loopw [8] (fun i wr => ∃ k : Nat, k ≤ vs.length ∧ i = .int .i64 k ∧ Below w.heap.size w wr ∧ Hid (∀ j (h : j < ps.length), j < k → ps[j] = false)) (fun i _ => vs.length - (intOf i).toNat)
  case atStart => exact ⟨0, by omega, rfl, Below.refl _ _, fun j h h0 => by omega⟩
  case round =>
    obtain ⟨k, hk, rfl, hbr, H⟩ := hrel
    have hzr := hbr.size
    by_cases hlt : k < vs.length
    · obtain ⟨g, o, rfl, hg, hc⟩ := HA.out (by omega)
      have x := (hbr.cell (p := ⟨g, o + k, none⟩) hg).trans (hc k hlt)
      have hlt' : k < ps.length := by rw [← HL.out]; exact hlt
      have HC := Lib.hid (HF.out wr hbr k hlt hlt')
      have h1k := H1.out k hlt
      clear hc
      generalize vs[k] = u at x HC h1k
      cases hp : ps[k] with
      | true =>
        rw [hp] at HC
        have HY := Lib.hid (any_yes hlt' hp)
        clear hp
        rcases h1k with ⟨n, rfl⟩ | ⟨s, rfl⟩
        all_goals
          go_wp2_with fail
          refine HC.out.mono ?_
          rintro e w2 ⟨rfl, hb2⟩
          have hz2 := hb2.size
          go_wp2_with fail
          go_ret
          exact ⟨k, rfl, by rw [HY.out]; simp, below_to hbr hzr hb2⟩
      | false =>
        rw [hp] at HC
        have H2 : Hid (∀ j (h : j < ps.length), j < k + 1 → ps[j] = false) := by
          intro j h hj
          rcases Nat.lt_or_ge j k with h1 | h1
          · exact H j h h1
          · obtain rfl : j = k := by omega
            exact hp
        clear hp
        rcases h1k with ⟨n, rfl⟩ | ⟨s, rfl⟩
        all_goals
          go_wp2_with fail
          refine HC.out.mono ?_
          rintro e w2 ⟨rfl, hb2⟩
          have hz2 := hb2.size
          have hb3 := below_to hbr hzr hb2
          go_wp2_with fail
          go_roundw
          case rel => exact ⟨k + 1, by omega, by push_cast; rfl, hb3, H2⟩
          case measure => simp [intOf]; omega
    · obtain rfl : k = vs.length := by omega
      have HY := Lib.hid (any_no (ps := ps) (fun i h => H.out i h (by rw [HL.out]; exact h)))
      go_wp2_with fail
      go_ret
      exact ⟨-1, rfl, by rw [HY.out]; rfl, hbr⟩

theorem contains_odd (v : Value) (vs : List Value) (ps : List Bool) (hl : vs.length = ps.length) (hm : vs.length ≤ 1000000000) (w : World) (hr : RowV w v vs)
    (hf : ∀ W, Below w.heap.size w W → ∀ i (h : i < vs.length) (h' : i < ps.length), Calls Tryz.prog 56 #[vs[i]] W fun e W' => e = .returned (.bool ps[i]) ∧ Below W.heap.size W W')
    (h1 : ∀ i (h : i < vs.length), (∃ n, vs[i] = .int .i64 n) ∨ ∃ s, vs[i] = .string s) :
    Calls Tryz.prog 59 #[v, .func (.func 56) #[] #[]] w fun e w' => e = .returned (.bool (ps.any id)) ∧ Below w.heap.size w w' := by
  have HI := Lib.hid (index_odd v vs ps hl hm w hr hf h1)
  clear hf h1 hl
  obtain ⟨A, c, rfl, hcap, hA⟩ := hr
  clear hA
  go_enter Tryz.func59, Tryz.ntmps59
  go_wp2_with fail
  refine HI.out.mono ?_
  rintro e w2 ⟨r, rfl, hd, hb2⟩
  have HD := Lib.hid hd
  clear hd
  go_wp2_with fail
  go_ret
  exact ⟨ret_bool HD.out, hb2⟩
end Go.Proofs.YtecdkgiandbkeaaGreatDoor
