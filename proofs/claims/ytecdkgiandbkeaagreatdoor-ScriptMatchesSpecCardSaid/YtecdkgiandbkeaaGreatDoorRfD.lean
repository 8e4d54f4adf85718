/-
  The reference: isStep.
-/
import Derived.Test.YtecdkgiandbkeaaGreatDoorRfD1
namespace Go.Proofs.YtecdkgiandbkeaaGreatDoor
open Go.RowKit ScSpec Go.Sort

theorem isStep_not {x : Stp} (h : x.kind < 1 ∨ 23 < x.kind) : isStep x = false := by
  have : isKind x.kind = false := by
    unfold isKind
    rw [Bool.and_eq_false_iff]
    rcases h with h | h
    · left; simp; omega
    · right; simp; omega
  simp [isStep, this]
theorem isStep_at {n : Nat} {xs : List Int} {t : Bytes} {r : Row} (hn : n < 23) (hr : kRow (n + 1) = r) :
    isStep ⟨(n : Int) + 1, xs, t⟩ = (decide (r.least ≤ xs.length) && decide (xs.length ≤ r.most) && (r.text || t.isEmpty) && xs.all okArg && decide ((data t).2.2 = 0)) := by
  have := isStep_eq (n := n + 1) (xs := xs) (t := t) (by unfold isKind; simp; omega) hr
  push_cast at this
  exact this
theorem all_at (xs : List Int) {k : Nat} (h : k < xs.length) : (xs.drop k).all okArg = (okArg xs[k] && (xs.drop (k + 1)).all okArg) := by
  rw [List.drop_eq_getElem_cons h, List.all_cons]
theorem okArg_iff (n : Int) : okArg n = true ↔ 0 ≤ n ∧ n ≤ 2199023255552 := by unfold okArg; simp
theorem kRow_small (k : Nat) : (kRow k).most ≤ 18 ∧ (kRow k).least ≤ 18 := by
  rcases Nat.lt_or_ge k 24 with h | h
  · have : ∀ i : Fin 24, (kRow i.val).most ≤ 18 ∧ (kRow i.val).least ≤ 18 := by decide
    exact this ⟨k, h⟩
  · unfold kRow
    rw [List.getD_eq_getElem?_getD, List.getElem?_eq_none (by exact h)]
    exact ⟨by decide, by decide⟩
set_option maxHeartbeats 4000000 in
set_option maxRecDepth 100000 in
theorem ref_isStep (v : Value) (x : Stp) (hm : x.args.length ≤ 140737488355328) (ht : x.text.length ≤ 281474976710656) (w : World) (hr : StepV w v x) :
    Calls Tryz.prog 61 #[v] w fun e w' => e = .returned (.bool (isStep x)) ∧ Below w.heap.size w w' := by
  obtain ⟨a, rfl, hra⟩ := hr
  obtain ⟨k, xs, t⟩ := x
  simp only at hm ht hra ⊢
  obtain ⟨A, c, rfl⟩ := rowV_slice hra
  by_cases h1 : k < 1
  · rw [isStep_not (.inl h1)]
    go_enter Tryz.func61, Tryz.ntmps61
    go_wp2_with fail
    go_ret
    exact ⟨rfl, by go_grown⟩
  by_cases h2 : 23 < k
  · rw [isStep_not (.inr h2)]
    go_enter Tryz.func61, Tryz.ntmps61
    go_wp2_with fail
    go_ret
    exact ⟨rfl, by go_grown⟩
  obtain ⟨n, rfl⟩ : ∃ n : Nat, k = (n : Int) + 1 := ⟨(k - 1).toNat, by omega⟩
  have hn : n < 23 := by omega
  have hob : Below w.heap.size w (w.alloc (.cells #[.int .i64 ((n : Int) + 1), .slice A xs.length c, .string (strB t)] 54)) := (Below.refl _ w).alloc (Nat.le_refl _) _
  have HX := Lib.hid (Box.made w 54 #[.int .i64 ((n : Int) + 1), .slice A xs.length c, .string (strB t)])
  have HRA := Lib.hid (hra.below hob)
  have HE := Lib.hid (isStep_at (xs := xs) (t := t) hn rfl)
  clear hra
  go_enter Tryz.func61, Tryz.ntmps61
  go_upto_region 3 with fail
  generalize w.alloc (.cells #[.int .i64 ((n : Int) + 1), .slice A xs.length c, .string (strB t)] 54) = W at hob HX HRA ⊢
  generalize w.heap.size = G at HX ⊢
  have y0 := HX.out.look 0
  refine wp_region_held_drew (S := fun w => Below W.heap.size W w) (by kernel_rfl) (below_drew (Below.refl _ _)) (fun hH => ?_)
  refine i_region (w0 := W) (n := n) (G := G) ⟨fun _ _ _ _ _ h => h, hn, HX.out.lt, y0⟩ (fun w1 g g3 hb1 hg3 hbx => ?_) (by kernel_rfl) hH
  have hc1 := below_to hob hob.size hb1
  have HX1 := Lib.hid (HX.out.below hb1 HX.out.lt)
  have HR1 := Lib.hid (HRA.out.below hb1)
  have hks := kRow_small (n + 1)
  generalize kRow (n + 1) = r at hbx HE hks ⊢
  obtain ⟨hks1, hks2⟩ := hks
  have HB := Lib.hid hbx
  clear hob HX HRA y0 hH hb1 hg3 hbx h1 h2
  have y0 := HX1.out.look 0
  have y1 := HX1.out.look 1
  have y2 := HX1.out.look 2
  have r1 := HB.out.look 1
  have r2 := HB.out.look 2
  have r3 := HB.out.look 3
  have hem : (strB t).toList.isEmpty = t.isEmpty := by rw [ByteArray.toList_eq, strB_toList]
  by_cases d1 : r.least ≤ xs.length
  · by_cases d2 : xs.length ≤ r.most
    · have HF : Hid (isStep ⟨(n : Int) + 1, xs, t⟩ = ((r.text || t.isEmpty) && xs.all okArg && decide ((data t).2.2 = 0))) := by
        refine HE.out.trans ?_
        rw [decide_eq_true d1, decide_eq_true d2]; simp
      clear HE y0
      cases hte : t.isEmpty <;> cases hrt : r.text
      case false.false =>
        rw [hrt] at r3 HF
        rw [hte] at hem HF
        clear hrt hte
        go_wp2_with fail
        go_ret
        exact ⟨ret_bool (by rw [HF.out]; simp), hc1⟩
      all_goals
        have HF2 : Hid (isStep ⟨(n : Int) + 1, xs, t⟩ = (xs.all okArg && decide ((data t).2.2 = 0))) := by
          show _ = _
          rw [HF.out, hrt, hte]; simp
        rw [hrt] at r3
        rw [hte] at hem
        clear hrt hte HF
        go_wp2_with fail
        go_loop [4] (fun i => ∃ k : Nat, k ≤ xs.length ∧ i = .int .i64 k ∧ Hid (xs.all okArg = (xs.drop k).all okArg)) (fun i => xs.length - (intOf i).toNat)
        case atStart => exact ⟨0, by omega, rfl, rfl⟩
        case round =>
          obtain ⟨k, hk, rfl, H⟩ := hrel
          by_cases hlt : k < xs.length
          · obtain ⟨ga, oa, ca, hvv, hga, c0⟩ := ints_get HR1.out hlt
            obtain rfl : A = some ⟨ga, oa, none⟩ := by injection hvv
            have hal := Lib.hid (all_at xs hlt)
            generalize xs[k] = z at c0 hal
            have hz := okArg_iff z
            have i1 : (0 : Int) ≤ (k : Int) := by omega
            have i2 : (k : Int) < (xs.length : Int) := by omega
            clear hvv
            cases hoz : okArg z with
            | true =>
              obtain ⟨hz1, hz2⟩ := hz.1 hoz
              have H2 : Hid (xs.all okArg = (xs.drop (k + 1)).all okArg) := by
                show _ = _
                rw [H.out, hal.out, hoz]; rfl
              clear hz hoz hal
              go_wp2_with fail
              go_round
              case rel => exact ⟨k + 1, by omega, by push_cast; rfl, H2⟩
              case measure => simp [intOf]; omega
            | false =>
              have H2 : Hid (isStep ⟨(n : Int) + 1, xs, t⟩ = false) := by
                show _ = _
                rw [HF2.out, H.out, hal.out, hoz]; rfl
              have hz3 : z < 0 ∨ 2199023255552 < z := by
                by_cases h : z < 0
                · exact .inl h
                · right
                  by_cases h2 : 2199023255552 < z
                  · exact h2
                  · rw [hz.2 ⟨by omega, by omega⟩] at hoz; cases hoz
              clear hz hoz hal
              rcases hz3 with hz1 | hz1
              · go_wp2_with fail
                go_ret
                exact ⟨ret_bool (by rw [H2.out]), hc1⟩
              · have hz2 : 0 ≤ z := by omega
                go_wp2_with fail
                go_ret
                exact ⟨ret_bool (by rw [H2.out]), hc1⟩
          · obtain rfl : k = xs.length := by omega
            have H2 : Hid (isStep ⟨(n : Int) + 1, xs, t⟩ = decide ((data t).2.2 = 0)) := by
              show _ = _
              rw [HF2.out, H.out, List.drop_length]; rfl
            have HD := Lib.hid (ref_data t ht w1)
            generalize (data t).2.2 = E at HD H2
            generalize (data t).2.1 = I at HD
            generalize (data t).1 = D at HD
            go_wp2_with fail
            refine HD.out.mono ?_
            rintro e w2 ⟨rfl, rfl⟩
            go_wp2_with fail
            go_ret
            exact ⟨ret_bool (by rw [H2.out]; first | (simp; done) | rfl), hc1⟩
    · have HF : Hid (isStep ⟨(n : Int) + 1, xs, t⟩ = false) := by
        refine HE.out.trans ?_
        rw [decide_eq_true d1, decide_eq_false d2]; simp
      go_wp2_with fail
      go_ret
      exact ⟨ret_bool (by rw [HF.out]), hc1⟩
  · have HF : Hid (isStep ⟨(n : Int) + 1, xs, t⟩ = false) := by
      refine HE.out.trans ?_
      rw [decide_eq_false d1]; simp
    go_wp2_with fail
    go_ret
    exact ⟨ret_bool (by rw [HF.out]), hc1⟩
end Go.Proofs.YtecdkgiandbkeaaGreatDoor
