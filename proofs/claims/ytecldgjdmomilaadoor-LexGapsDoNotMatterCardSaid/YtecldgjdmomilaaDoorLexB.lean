/-
  The reference lexer's numbers: the function returns what the plain word says, and leaves the world as it was.
-/
import Derived.Test.YtecldgjdmomilaaDoorLexA
namespace Go.Proofs.YtecldgjdmomilaaDoor
open Go.RowKit LexSpec

/-! ### numbers -/
theorem dvR_le (l : Bytes) (v : Nat) (h : v ≤ top) : dvR v l ≤ top := by rw [dvR_eq]; exact dval_le _ _ h
def rnF (s : ByteArray) (k : Nat) : Nat := k + runLen isDigit (s.data.toList.drop k)
theorem digI_at (s : ByteArray) {k : Nat} (hlt : k < s.size) : isDigit s[k] = digI (atI s k) := by rw [atI_in s hlt, digI_of]
theorem rnF_step (s : ByteArray) {k : Nat} (h : digI (atI s k) = true) : rnF s (k + 1) = rnF s k := by
  have hlt := digI_lt h
  unfold rnF
  rw [drop_at s hlt]
  simp only [runLen]
  rw [if_pos (by rw [digI_at s hlt]; exact h)]; omega
theorem dvR_step (s : ByteArray) {k : Nat} (h : digI (atI s k) = true) (v : Nat) : dvR (dstep v (s[k]'(digI_lt h))) (s.data.toList.drop (k + 1)) = dvR v (s.data.toList.drop k) := by
  have hlt := digI_lt h
  rw [drop_at s hlt]
  rw [dvR_yes (by rw [digI_at s hlt]; exact h)]
theorem rnF_stop (s : ByteArray) {k : Nat} (h : ¬ digI (atI s k) = true) : rnF s k = k := by
  unfold rnF
  rcases Nat.lt_or_ge k s.size with hlt | hge
  · rw [drop_at s hlt]
    simp only [runLen]
    rw [if_neg (by rw [digI_at s hlt]; exact h)]; rfl
  · rw [List.drop_of_length_le (by simpa using hge)]; rfl
theorem dvR_stop (s : ByteArray) {k : Nat} (h : ¬ digI (atI s k) = true) (v : Nat) : dvR v (s.data.toList.drop k) = v := by
  rcases Nat.lt_or_ge k s.size with hlt | hge
  · rw [drop_at s hlt]
    rw [dvR_no (by rw [digI_at s hlt]; exact h)]
  · rw [List.drop_of_length_le (by simpa using hge)]; rfl
theorem headZero_at (s : ByteArray) (k : Nat) : headZero (s.data.toList.drop k) = decide (atI s k = 48) := by
  rcases Nat.lt_or_ge k s.size with hlt | hge
  · rw [drop_at s hlt, atI_in s hlt]; simp only [headZero]; rw [Bool.eq_iff_iff]; simp; omega
  · rw [List.drop_of_length_le (by simpa using hge), atI_out s hge]; rfl
theorem headUnit_at (s : ByteArray) (k : Nat) : (headUnit (s.data.toList.drop k) : Int) = unitI (atI s k) := by
  rcases Nat.lt_or_ge k s.size with hlt | hge
  · rw [drop_at s hlt, atI_in s hlt, unitI_of]; rfl
  · rw [List.drop_of_length_le (by simpa using hge), atI_out s hge]; rfl

/-- The end and the value of the number at an index; the index itself if there is none. -/
def nmR (s : ByteArray) (i : Nat) : Nat × Nat := match numTok (s.data.toList.drop i) with | none => (i, 0) | some (n, v) => (i + n, v)

theorem nm_zero (s : ByteArray) {i k : Nat} (hk : k = rnF s i) (h1 : i + 1 < k) (h2 : atI s i = 48) : nmR s i = (i, 0) := by
  unfold nmR numTok
  simp only
  rw [if_pos ⟨by unfold rnF at hk; omega, by rw [headZero_at]; simp [h2]⟩]
theorem nm_unit0 (s : ByteArray) {i k v : Nat} (hk : k = rnF s i) (hv : v = dvR 0 (s.data.toList.drop i)) (h1 : ¬ (i + 1 < k ∧ atI s i = 48)) (hu : unitI (atI s k) = 0) :
    nmR s i = if (letI' (atI s k) || digI (atI s k)) = true then (i, 0) else (k, v) := by
  have hr : runLen isDigit (s.data.toList.drop i) = k - i := by unfold rnF at hk; omega
  have hik : i ≤ k := by unfold rnF at hk; omega
  have hz : ¬ (1 < k - i ∧ headZero (s.data.toList.drop i) = true) := by rw [headZero_at]; simp; intro h; simp at h1; exact h1 (by omega)
  have hU : headUnit (s.data.toList.drop k) = 0 := by have := headUnit_at s k; omega
  unfold nmR numTok
  simp only [hr, List.drop_drop, ← hr ▸ dvR_eq (s.data.toList.drop i) 0, ← hv]
  rw [if_neg hz, show i + (k - i) = k from by omega, hU]
  simp only [if_true]
  rw [show i + (k - i) = k from by omega, headEither_at]
  by_cases he : (letI' (atI s k) || digI (atI s k)) = true
  · rw [if_pos he, if_pos he]
  · rw [if_neg he, if_neg he]
    simp only [Prod.mk.injEq, and_true]; omega
theorem nm_unit1 (s : ByteArray) {i k v u : Nat} (hk : k = rnF s i) (hv : v = dvR 0 (s.data.toList.drop i)) (h1 : ¬ (i + 1 < k ∧ atI s i = 48)) (hu : unitI (atI s k) = u) (hu0 : u ≠ 0) :
    nmR s i = if (letI' (atI s (k + 1 : Nat)) || digI (atI s (k + 1 : Nat))) = true then (i, 0) else (k + 1, min (v * u) top) := by
  have hr : runLen isDigit (s.data.toList.drop i) = k - i := by unfold rnF at hk; omega
  have hik : i ≤ k := by unfold rnF at hk; omega
  have hz : ¬ (1 < k - i ∧ headZero (s.data.toList.drop i) = true) := by rw [headZero_at]; simp; intro h; simp at h1; exact h1 (by omega)
  have hU : headUnit (s.data.toList.drop k) = u := by have := headUnit_at s k; omega
  unfold nmR numTok
  simp only [hr, List.drop_drop, ← hr ▸ dvR_eq (s.data.toList.drop i) 0, ← hv]
  rw [if_neg hz, show i + (k - i) = k from by omega, hU, if_neg hu0, if_neg hu0, show i + (k - i + 1) = k + 1 from by omega, headEither_at]
  by_cases he : (letI' (atI s (k + 1 : Nat)) || digI (atI s (k + 1 : Nat))) = true
  · rw [if_pos he, if_pos he]
  · rw [if_neg he, if_neg he]
    simp only [Prod.mk.injEq, and_true]; omega
theorem nm_unit1' (s : ByteArray) {i k v u : Nat} (hk : k = rnF s i) (hv : v = dvR 0 (s.data.toList.drop i)) (h1 : ¬ (i + 1 < k ∧ atI s i = 48)) (hu : unitI (atI s k) = u) (hu0 : u ≠ 0) :
    nmR s i = if (letI' (atI s ((k : Int) + 1)) || digI (atI s ((k : Int) + 1))) = true then (i, 0) else (k + 1, min (v * u) 1099511627777) := by
  have := nm_unit1 s (u := u) hk hv h1 hu hu0
  push_cast at this
  exact this
theorem unitI_cases (n : Int) : ∃ u : Nat, unitI n = u ∧ (u = 0 ∨ u = 1 ∨ u = 60 ∨ u = 3600 ∨ u = 86400) := by
  unfold unitI
  repeat' split
  · exact ⟨1, rfl, by simp⟩
  · exact ⟨60, rfl, by simp⟩
  · exact ⟨3600, rfl, by simp⟩
  · exact ⟨86400, rfl, by simp⟩
  · exact ⟨0, rfl, by simp⟩

theorem Int.ofNat_min_of (v b : Nat) (hb : 48 ≤ b) : (if (1099511627777 : Int) < 10 * (v : Int) + ((b : Int) - 48) then (1099511627777 : Int) else 10 * (v : Int) + ((b : Int) - 48)) = ((min (10 * v + (b - 48)) 1099511627777 : Nat) : Int) := by
  rcases Nat.lt_or_ge 1099511627777 (10 * v + (b - 48)) with h | h
  · rw [if_pos (by omega), Nat.min_eq_right (by omega)]; rfl
  · rw [if_neg (by omega), Nat.min_eq_left h]; omega

set_option maxHeartbeats 2000000 in
theorem ref_number (s : ByteArray) (i : Nat) (w : World) (hs : s.size ≤ 1000000) (hi : i ≤ s.size) : Calls Tryd.prog 77 #[.string s, .int .i64 i] w fun e w' => e = .returned (.tuple #[.int .i64 (nmR s i).1, .int .i64 (nmR s i).2]) ∧ w = w' := by
  go_enter Tryd.func77, Tryd.ntmps77
  go_wp2
  go_loop [6, 7] (fun a b => ∃ k v : Nat, i ≤ k ∧ k ≤ s.size ∧ a = .int .i64 k ∧ b = .int .i64 v ∧ v ≤ 1099511627777 ∧ Hid (rnF s k = rnF s i) ∧ Hid (dvR v (s.data.toList.drop k) = dvR 0 (s.data.toList.drop i))) (fun a _ => s.size - (intOf a).toNat)
  case atStart => exact ⟨i, 0, Nat.le_refl _, hi, rfl, rfl, by omega, rfl, rfl⟩
  case round =>
    obtain ⟨k, v, hik, hk, rfl, rfl, hv, H, G⟩ := hrel
    by_cases hD : digI (atI s k) = true
    · have hlt := digI_lt hD
      have hb : 48 ≤ s[k].toNat ∧ s[k].toNat ≤ 57 := by rw [atI_in s hlt] at hD; unfold digI at hD; simp at hD; omega
      go_wp2_with (first | (go_at_call 102; refine (ref_at _ _ _ (by omega)).mono ?_; rintro e w' ⟨rfl, rfl⟩) | (go_at_call 74; refine (ref_letter _ _).mono ?_; rintro e w' ⟨rfl, rfl⟩) | (go_at_call 76; refine (ref_digit _ _).mono ?_; rintro e w' ⟨rfl, rfl⟩))
      go_round
      case rel => exact ⟨k + 1, dstep v s[k], by omega, by omega, by go_num, by rw [Int.ofNat_min_of v s[k].toNat hb.1, dstep_eq], dstep_le _ _, (rnF_step s hD).trans H.out, (dvR_step s hD v).trans G.out⟩
      case measure => simp [intOf]; omega
    · have hkk := rnF_stop s hD
      have hvv := dvR_stop s hD v
      rw [H.out] at hkk
      rw [G.out] at hvv
      have K := Lib.hid hkk.symm
      have V := Lib.hid hvv.symm
      clear hkk hvv H G
      by_cases hz : i + 1 < k ∧ atI s i = 48
      · obtain ⟨hz1, hz2⟩ := hz
        have hlt : i < s.size := by omega
        have b48 : ((s[i].toNat : Int) == 48) = true := ib_yes (by rw [← atI_in s hlt]; exact hz2)
        have HZ := Lib.hid hz2
        clear hz2
        go_wp2_with (first | (go_at_call 102; refine (ref_at _ _ _ (by omega)).mono ?_; rintro e w' ⟨rfl, rfl⟩) | (go_at_call 74; refine (ref_letter _ _).mono ?_; rintro e w' ⟨rfl, rfl⟩) | (go_at_call 76; refine (ref_digit _ _).mono ?_; rintro e w' ⟨rfl, rfl⟩))
        go_ret2
        exact ⟨by rw [nm_zero s K.out hz1 HZ.out]; rfl, rfl⟩
      · have HZ := Lib.hid hz
        have hzz : k ≤ i + 1 ∨ (i + 1 < k ∧ ((atI s i) == 48) = false) := by
          rcases Nat.lt_or_ge (i + 1) k with h | h
          · exact .inr ⟨h, ib_no fun e => hz ⟨h, e⟩⟩
          · exact .inl h
        clear hz
        rcases hzz with hz1 | ⟨hz1, hz2⟩
        all_goals try
          have hlt : i < s.size := by omega
          rw [atI_in s hlt] at hz2
        all_goals
          obtain ⟨u, hu, hc⟩ := unitI_cases (atI s k)
          rcases hc with rfl | rfl | rfl | rfl | rfl
          · have U := Lib.hid hu
            by_cases hL : letI' (atI s k) = true
            · go_wp2_with (first | (go_at_call 102; refine (ref_at _ _ _ (by omega)).mono ?_; rintro e w' ⟨rfl, rfl⟩) | (go_at_call 74; refine (ref_letter _ _).mono ?_; rintro e w' ⟨rfl, rfl⟩) | (go_at_call 76; refine (ref_digit _ _).mono ?_; rintro e w' ⟨rfl, rfl⟩) | (go_at_call 103; refine (ref_unit _ _).mono ?_; rintro e w' ⟨rfl, rfl⟩))
              go_ret2
              exact ⟨by rw [nm_unit0 s K.out V.out HZ.out U.out, hL]; rfl, rfl⟩
            · by_cases hD2 : digI (atI s k) = true
              · exact absurd hD2 hD
              · go_wp2_with (first | (go_at_call 102; refine (ref_at _ _ _ (by omega)).mono ?_; rintro e w' ⟨rfl, rfl⟩) | (go_at_call 74; refine (ref_letter _ _).mono ?_; rintro e w' ⟨rfl, rfl⟩) | (go_at_call 76; refine (ref_digit _ _).mono ?_; rintro e w' ⟨rfl, rfl⟩) | (go_at_call 103; refine (ref_unit _ _).mono ?_; rintro e w' ⟨rfl, rfl⟩))
                go_ret2
                exact ⟨by rw [nm_unit0 s K.out V.out HZ.out U.out, if_neg (by simp [hL, hD2])]; rfl, rfl⟩
          all_goals
            have U := Lib.hid hu
            have HN := Lib.hid (nm_unit1' s K.out V.out HZ.out U.out (by decide))
            by_cases hL : letI' (atI s ((k : Int) + 1)) = true
            · go_wp2_with (first | (go_at_call 102; refine (ref_at _ _ _ (by omega)).mono ?_; rintro e w' ⟨rfl, rfl⟩) | (go_at_call 74; refine (ref_letter _ _).mono ?_; rintro e w' ⟨rfl, rfl⟩) | (go_at_call 76; refine (ref_digit _ _).mono ?_; rintro e w' ⟨rfl, rfl⟩) | (go_at_call 103; refine (ref_unit _ _).mono ?_; rintro e w' ⟨rfl, rfl⟩))
              all_goals go_ret2
              all_goals exact ⟨by rw [HN.out, hL]; rfl, rfl⟩
            · by_cases hD2 : digI (atI s ((k : Int) + 1)) = true
              · go_wp2_with (first | (go_at_call 102; refine (ref_at _ _ _ (by omega)).mono ?_; rintro e w' ⟨rfl, rfl⟩) | (go_at_call 74; refine (ref_letter _ _).mono ?_; rintro e w' ⟨rfl, rfl⟩) | (go_at_call 76; refine (ref_digit _ _).mono ?_; rintro e w' ⟨rfl, rfl⟩) | (go_at_call 103; refine (ref_unit _ _).mono ?_; rintro e w' ⟨rfl, rfl⟩))
                all_goals go_ret2
                all_goals exact ⟨by rw [HN.out, hD2, Bool.or_true]; rfl, rfl⟩
              · go_wp2_with (first | (go_at_call 102; refine (ref_at _ _ _ (by omega)).mono ?_; rintro e w' ⟨rfl, rfl⟩) | (go_at_call 74; refine (ref_letter _ _).mono ?_; rintro e w' ⟨rfl, rfl⟩) | (go_at_call 76; refine (ref_digit _ _).mono ?_; rintro e w' ⟨rfl, rfl⟩) | (go_at_call 103; refine (ref_unit _ _).mono ?_; rintro e w' ⟨rfl, rfl⟩))
                all_goals go_ret2
                all_goals refine ⟨?_, rfl⟩
                all_goals rw [HN.out, if_neg (by simp [hL, hD2])]
                all_goals refine ret_pair (by push_cast; rfl) ?_
                all_goals omega
end Go.Proofs.YtecldgjdmomilaaDoor
