/-
  Steps: the script package's isStep.
-/
import Derived.Test.YtecdkgiandbkeaaGreatDoorScE
namespace Go.Proofs.YtecdkgiandbkeaaGreatDoor
open Go.RowKit ScSpec Go.Sort

theorem sc_okArg (n : Int) (w : World) : Calls Tryz.prog 86 #[.int .i64 n] w fun e w' => e = .returned (.bool (!okArg n)) ∧ w = w' := by
  unfold okArg
  by_cases h : n < 0
  · have d1 := decide_eq_true h
    have e : (!(decide (0 ≤ n) && decide (n ≤ 2199023255552))) = true := by rw [decide_eq_false (show ¬ 0 ≤ n by omega)]; rfl
    rw [e]
    go_enter Tryz.func86, Tryz.ntmps86
    go_wp2
    go_ret
    exact ⟨rfl, rfl⟩
  · have d1 := decide_eq_false h
    have e : (!(decide (0 ≤ n) && decide (n ≤ 2199023255552))) = decide (2199023255552 < n) := by
      rw [decide_eq_true (show 0 ≤ n by omega), Bool.true_and]
      by_cases h2 : n ≤ 2199023255552
      · rw [decide_eq_true h2, decide_eq_false (show ¬ 2199023255552 < n by omega)]; rfl
      · rw [decide_eq_false h2, decide_eq_true (show 2199023255552 < n by omega)]; rfl
    rw [e]
    go_enter Tryz.func86, Tryz.ntmps86
    go_wp2
    go_ret
    exact ⟨rfl, rfl⟩
theorem sc_long1 (t : Bytes) (w : World) : Calls Tryz.prog 55 #[.string (strB t)] w fun e w' => e = .returned (.bool (decide (4000 < t.length))) ∧ w = w' := by
  have hz := strB_size t
  go_enter Tryz.func55, Tryz.ntmps55
  go_wp2
  go_ret
  exact ⟨ret_bool (by simp <;> omega), rfl⟩
theorem sc_odd2 (t : Bytes) (w : World) : Calls Tryz.prog 56 #[.string (strB t)] w fun e w' => e = .returned (.bool (t.any oddC)) ∧ Below w.heap.size w w' := by
  have HC := Lib.hid (Tryz.strings_ContainsFunc 58 #[] (enters_of Tryz.func58 (by kernel_rfl) rfl) pOdd (strB t) w (fun W x _ => by
    show Calls Tryz.prog 58 #[.int .i32 (x : Int)] W _
    exact (sc_odd1 x W).mono fun e w' ⟨h1, h2⟩ => ⟨h1, 0, by rw [h2]; rfl⟩))
  rw [odd_idx] at HC
  go_enter Tryz.func56, Tryz.ntmps56
  go_wp2_with fail
  refine HC.out.mono ?_
  rintro e w2 ⟨rfl, hb⟩
  go_wp2_with fail
  go_ret
  exact ⟨rfl, hb⟩

theorem any_okArg (xs : List Int) : (xs.map fun x => !okArg x).any id = !(xs.all okArg) := by
  induction xs with
  | nil => rfl
  | cons x l ih => simp only [List.map_cons, List.any_cons, List.all_cons, ih, id]; cases okArg x <;> simp
theorem args_contains (v : Value) (xs : List Int) (hm : xs.length ≤ 1000000000) (w : World) (hr : RowV w v (intVs xs)) :
    Calls Tryz.prog 87 #[v, .func (.func 86) #[] #[]] w fun e w' => e = .returned (.bool (!(xs.all okArg))) ∧ Below w.heap.size w w' := by
  have h := contains_okArg v (intVs xs) (xs.map fun x => !okArg x) (by simp [intVs]) (by rw [intVs_length]; exact hm) w hr ?_ ?_
  · rw [any_okArg] at h
    exact h
  · intro W hb i h h'
    simp only [intVs, List.getElem_map]
    exact (sc_okArg _ W).mono fun e w' ⟨h1, h2⟩ => ⟨h1, by rw [h2]; exact Below.refl _ _⟩
  · intro i h
    simp only [intVs, List.getElem_map]
    exact .inl ⟨_, rfl⟩

theorem isStep_eq {n : Nat} {xs : List Int} {t : Bytes} {r : Row} (hk : isKind n = true) (hr : kRow n = r) :
    isStep ⟨n, xs, t⟩ = (decide (r.least ≤ xs.length) && decide (xs.length ≤ r.most) && (r.text || t.isEmpty) && xs.all okArg && decide ((data t).2.2 = 0)) := by
  subst hr
  simp only [isStep, hk, Int.toNat_natCast, Bool.true_and]
set_option maxHeartbeats 2000000 in
set_option maxRecDepth 20000 in
theorem sc_isStep (v : Value) (x : Stp) (hm : x.args.length ≤ 1000000000) (ht : x.text.length ≤ 281474976710656) (w : World) (hL : Laid w) (hr : StepV w v x) :
    Calls Tryz.prog 60 #[v] w fun e w' => e = .returned (.bool (isStep x)) ∧ Below w.heap.size w w' := by
  obtain ⟨a, rfl, hra⟩ := hr
  obtain ⟨k, xs, t⟩ := x
  simp only at hm ht hra ⊢
  have hra0 := hra
  obtain ⟨A, c, rfl, hcap, hA⟩ := hra0
  clear hA
  cases hk : isKind k with
  | false =>
    have e : isStep ⟨k, xs, t⟩ = false := by simp [isStep, hk]
    rw [e]
    go_enter Tryz.func60, Tryz.ntmps60
    go_wp2_with (go_at_call 63; refine (sc_isKind _ _).mono ?_; rintro e w' ⟨rfl, rfl⟩)
    go_ret
    exact ⟨rfl, by go_grown⟩
  | true =>
    have hk2 : 1 ≤ k ∧ k < 24 := by unfold isKind at hk; simpa using hk
    obtain ⟨n, rfl⟩ : ∃ n : Nat, k = n := ⟨k.toNat, by omega⟩
    have hL1 : Laid (w.alloc (.cells #[.int .i64 n, .slice A (intVs xs).length c, .string (strB t)] 54)) := hL.below ((Below.refl _ w).alloc (Nat.le_refl _) _)
    obtain ⟨c0, c1, c2, c3⟩ := hL1.row (k := n) (by omega)
    go_enter Tryz.func60, Tryz.ntmps60
    go_wp2_with (go_at_call 63; refine (sc_isKind _ _).mono ?_; rintro e w' ⟨rfl, rfl⟩)
    generalize hr0 : kRow n = r at c0 c1 c2 c3
    have hz1 : (w.alloc (.cells #[.int .i64 n, .slice A (intVs xs).length c, .string (strB t)] 54)).heap.size = w.heap.size + 1 := by simp
    generalize hW1 : (w.alloc (.cells #[.int .i64 n, .slice A (intVs xs).length c, .string (strB t)] 54)) = W1 at hL1 hz1 ⊢
    have y1 : W1.cell? ⟨w.heap.size, 1, none⟩ = some (.slice A (intVs xs).length c) := by subst hW1; simp
    have y2 : W1.cell? ⟨w.heap.size, 2, none⟩ = some (.string (strB t)) := by subst hW1; simp
    have hra1 : RowV W1 (.slice A (intVs xs).length c) (intVs xs) := by subst hW1; exact hra.below ((Below.refl _ w).alloc (Nat.le_refl _) _)
    have hb1 : Below w.heap.size w W1 := by subst hW1; exact (Below.refl _ w).alloc (Nat.le_refl _) _
    have hbox : Below W1.heap.size W1 (W1.alloc (.cells #[.string (strB r.name), .int .i64 r.least, .int .i64 r.most, .bool r.text] 84)) := (Below.refl _ W1).alloc (Nat.le_refl _) _
    refine (sc_data t ht _ (hL1.below hbox)).mono ?_
    rintro e w2 ⟨rfl, hb2⟩
    have hz2 := hb2.size
    have hz1' := hbox.size
    have hb02 := below_to hb1 (by omega) (below_to hbox hz1' hb2)
    have hbw := below_to hbox hz1' hb2
    have x1 := (hbw.cell (p := ⟨w.heap.size, 1, none⟩) (show w.heap.size < W1.heap.size by omega)).trans y1
    have x2 := (hbw.cell (p := ⟨w.heap.size, 2, none⟩) (show w.heap.size < W1.heap.size by omega)).trans y2
    have hsz : (W1.alloc (.cells #[.string (strB r.name), .int .i64 r.least, .int .i64 r.most, .bool r.text] 84)).heap.size = W1.heap.size + 1 := by simp
    have r1 : w2.cell? ⟨W1.heap.size, 1, none⟩ = some (.int .i64 r.least) := (hb2.cell (p := ⟨W1.heap.size, 1, none⟩) (show W1.heap.size < _ by omega)).trans (by simp)
    have r2 : w2.cell? ⟨W1.heap.size, 2, none⟩ = some (.int .i64 r.most) := (hb2.cell (p := ⟨W1.heap.size, 2, none⟩) (show W1.heap.size < _ by omega)).trans (by simp)
    have r3 : w2.cell? ⟨W1.heap.size, 3, none⟩ = some (.bool r.text) := (hb2.cell (p := ⟨W1.heap.size, 3, none⟩) (show W1.heap.size < _ by omega)).trans (by simp)
    have HC := Lib.hid (args_contains _ xs hm w2 (hra1.below hbw))
    rw [hz1] at r1 r2 r3
    have hil := intVs_length xs
    rw [hil] at HC
    have hem : (strB t).toList.isEmpty = t.isEmpty := by rw [ByteArray.toList_eq, strB_toList]
    have HE := Lib.hid (isStep_eq (n := n) (xs := xs) (t := t) hk hr0)
    clear hr0 hk hW1 c0 c1 c2 c3 y1 y2 hra hra1
    by_cases d1 : r.least ≤ xs.length
    · by_cases d2 : xs.length ≤ r.most
      · have HF : Hid (isStep ⟨n, xs, t⟩ = ((r.text || t.isEmpty) && xs.all okArg && decide ((data t).2.2 = 0))) := by
          refine HE.out.trans ?_
          rw [decide_eq_true d1, decide_eq_true d2]; simp

        generalize xs.all okArg = B at HC HF
        generalize (data t).2.2 = D at HF ⊢
        cases hrt : r.text with
        | true =>
          rw [hrt] at r3 HF
          cases B with
          | true =>
            go_wp2_with fail
            refine HC.out.mono ?_
            rintro e w3 ⟨rfl, hb3⟩
            go_wp2_with fail
            go_ret
            exact ⟨ret_bool (by rw [HF.out]; first | (simp; done) | (simp; rfl)), below_to hb02 (by omega) hb3⟩
          | false =>
            go_wp2_with fail
            refine HC.out.mono ?_
            rintro e w3 ⟨rfl, hb3⟩
            go_wp2_with fail
            go_ret
            exact ⟨ret_bool (by rw [HF.out]; first | (simp; done) | (simp; rfl)), below_to hb02 (by omega) hb3⟩
        | false =>
          rw [hrt] at r3 HF
          cases htt : t.isEmpty with
          | true =>
            rw [htt] at hem HF
            cases B with
            | true =>
              go_wp2_with fail
              refine HC.out.mono ?_
              rintro e w3 ⟨rfl, hb3⟩
              go_wp2_with fail
              go_ret
              exact ⟨ret_bool (by rw [HF.out]; first | (simp; done) | (simp; rfl)), below_to hb02 (by omega) hb3⟩
            | false =>
              go_wp2_with fail
              refine HC.out.mono ?_
              rintro e w3 ⟨rfl, hb3⟩
              go_wp2_with fail
              go_ret
              exact ⟨ret_bool (by rw [HF.out]; first | (simp; done) | (simp; rfl)), below_to hb02 (by omega) hb3⟩
          | false =>
            rw [htt] at hem HF
            go_wp2_with fail
            go_ret
            exact ⟨ret_bool (by rw [HF.out]; simp), hb02⟩
      · have HF : Hid (isStep ⟨n, xs, t⟩ = false) := by
          refine HE.out.trans ?_
          rw [decide_eq_true d1, decide_eq_false d2]; simp

        go_wp2_with fail
        go_ret
        exact ⟨ret_bool (by rw [HF.out]), hb02⟩
    · have HF : Hid (isStep ⟨n, xs, t⟩ = false) := by
        refine HE.out.trans ?_
        rw [decide_eq_false d1]; simp

      go_wp2_with fail
      go_ret
      exact ⟨ret_bool (by rw [HF.out]), hb02⟩
end Go.Proofs.YtecdkgiandbkeaaGreatDoor
