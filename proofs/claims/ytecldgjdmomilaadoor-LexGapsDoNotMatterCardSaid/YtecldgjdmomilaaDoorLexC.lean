/-
  The reference lexer's signs, single tokens, and lists of tokens.
-/
import Derived.Test.YtecldgjdmomilaaDoorLexB
namespace Go.Proofs.YtecldgjdmomilaaDoor
open Go.RowKit LexSpec

/-! ### signs -/
def sgB (n : Int) : Bool := decide (n = 123) || decide (n = 125) || decide (n = 40) || decide (n = 41) || decide (n = 59) || decide (n = 44) || decide (n = 61)
theorem sgB_of (c : UInt8) : sgB (c.toNat : Int) = isSign c := by
  unfold sgB isSign
  rw [Bool.eq_iff_iff]; simp; omega
def sgF (s : ByteArray) (i : Nat) : Nat := i + signLen (s.data.toList.drop i)
theorem headGt_at (s : ByteArray) (k : Nat) : headGt (s.data.toList.drop k) = decide (atI s k = 62) := by
  rcases Nat.lt_or_ge k s.size with hlt | hge
  · rw [drop_at s hlt, atI_in s hlt]; simp only [headGt]; rw [Bool.eq_iff_iff]; simp; omega
  · rw [List.drop_of_length_le (by simpa using hge), atI_out s hge]; rfl
theorem sg_two (s : ByteArray) {i : Nat} (hi : i < s.size) (h : s[i].toNat = 45) (h2 : atI s ((i : Int) + 1) = 62) : sgF s i = i + 2 := by
  have e := headGt_at s (i + 1)
  push_cast at e
  unfold sgF
  rw [drop_at s hi]
  simp only [signLen]
  rw [if_pos ⟨h, by rw [e]; simp [h2]⟩]
theorem sg_one (s : ByteArray) {i : Nat} (hi : i < s.size) (h : ¬ (s[i].toNat = 45 ∧ atI s ((i : Int) + 1) = 62)) (h2 : sgB (s[i].toNat : Int) = true) : sgF s i = i + 1 := by
  have e := headGt_at s (i + 1)
  push_cast at e
  unfold sgF
  rw [drop_at s hi]
  simp only [signLen]
  rw [if_neg (by rw [e]; simpa using h), if_pos (by rw [← sgB_of]; exact h2)]
theorem sg_none (s : ByteArray) {i : Nat} (hi : i < s.size) (h : ¬ (s[i].toNat = 45 ∧ atI s ((i : Int) + 1) = 62)) (h2 : ¬ sgB (s[i].toNat : Int) = true) : sgF s i = i := by
  have e := headGt_at s (i + 1)
  push_cast at e
  unfold sgF
  rw [drop_at s hi]
  simp only [signLen]
  rw [if_neg (by rw [e]; simpa using h), if_neg (by rw [← sgB_of]; exact h2)]; rfl
theorem sgF_le (s : ByteArray) {k : Nat} (h : k ≤ s.size) : sgF s k ≤ s.size := by
  have := signLen_le (s.data.toList.drop k)
  rw [List.length_drop] at this
  unfold sgF
  simp at this
  omega

set_option maxHeartbeats 400000 in
theorem ref_sign (s : ByteArray) (i : Nat) (w : World) (hs : s.size ≤ 1000000) (hi : i < s.size) : Calls Tryd.prog 78 #[.string s, .int .i64 i] w fun e w' => e = .returned (.int .i64 (sgF s i : Nat)) ∧ w = w' := by
  by_cases h45 : s[i].toNat = 45
  · have b45 := ib_yes (show (s[i].toNat : Int) = 45 by omega)
    have hsg : ¬ sgB (s[i].toNat : Int) = true := by unfold sgB; simp; omega
    have b1 := ib_no (show (s[i].toNat : Int) ≠ 123 by omega)
    have b2 := ib_no (show (s[i].toNat : Int) ≠ 125 by omega)
    have b3 := ib_no (show (s[i].toNat : Int) ≠ 40 by omega)
    have b4 := ib_no (show (s[i].toNat : Int) ≠ 41 by omega)
    have b5 := ib_no (show (s[i].toNat : Int) ≠ 59 by omega)
    have b6 := ib_no (show (s[i].toNat : Int) ≠ 44 by omega)
    have b7 := ib_no (show (s[i].toNat : Int) ≠ 61 by omega)
    by_cases h62 : atI s ((i : Int) + 1) = 62
    · have b62 := ib_yes h62
      have HN := Lib.hid (sg_two s hi h45 h62)
      clear h62 h45
      go_enter Tryd.func78, Tryd.ntmps78
      go_wp2_with (go_at_call 102; refine (ref_at _ _ _ (by omega)).mono ?_; rintro e w' ⟨rfl, rfl⟩)
      go_ret
      exact ⟨ret_int (by rw [HN.out]; push_cast; rfl), rfl⟩
    · have b62 := ib_no h62
      have HN := Lib.hid (sg_none s hi (fun h => h62 h.2) hsg)
      clear h62 h45
      go_enter Tryd.func78, Tryd.ntmps78
      go_wp2_with (go_at_call 102; refine (ref_at _ _ _ (by omega)).mono ?_; rintro e w' ⟨rfl, rfl⟩)
      go_ret
      exact ⟨ret_int (by rw [HN.out]), rfl⟩
  · have b45 := ib_no (show (s[i].toNat : Int) ≠ 45 by omega)
    by_cases hsg : sgB (s[i].toNat : Int) = true
    · have HN := Lib.hid (sg_one s hi (fun h => h45 h.1) hsg)
      have hsg' := hsg
      unfold sgB at hsg'
      simp at hsg'
      rcases hsg' with ((((((h | h) | h) | h) | h) | h) | h)
      all_goals
        have b := ib_yes h
        clear hsg h
        go_enter Tryd.func78, Tryd.ntmps78
        go_wp2_with fail
        all_goals go_ret
        all_goals exact ⟨ret_int (by rw [HN.out]; push_cast; rfl), rfl⟩
    · have HN := Lib.hid (sg_none s hi (fun h => h45 h.1) hsg)
      unfold sgB at hsg
      simp at hsg
      have b1 := ib_no (show (s[i].toNat : Int) ≠ 123 by omega)
      have b2 := ib_no (show (s[i].toNat : Int) ≠ 125 by omega)
      have b3 := ib_no (show (s[i].toNat : Int) ≠ 40 by omega)
      have b4 := ib_no (show (s[i].toNat : Int) ≠ 41 by omega)
      have b5 := ib_no (show (s[i].toNat : Int) ≠ 59 by omega)
      have b6 := ib_no (show (s[i].toNat : Int) ≠ 44 by omega)
      have b7 := ib_no (show (s[i].toNat : Int) ≠ 61 by omega)
      clear hsg
      go_enter Tryd.func78, Tryd.ntmps78
      go_wp2_with fail
      go_ret
      exact ⟨ret_int (by rw [HN.out]), rfl⟩

/-! ### a token -/
def strB (l : Bytes) : ByteArray := ⟨l.toArray⟩
theorem strB_toList (l : Bytes) : (strB l).data.toList = l := by simp [strB]
theorem strB_size (l : Bytes) : (strB l).size = l.length := by simp [strB, ByteArray.size]
theorem extract_strB (s : ByteArray) (i k : Nat) : s.extract i k = strB ((s.data.toList.drop i).take (k - i)) := by
  apply ByteArray.ext
  apply Array.ext'
  rw [strB_toList]
  simp [ByteArray.data_extract]
theorem one_letter (s : ByteArray) {i : Nat} (hi : i < s.size) (h : letI' (s[i].toNat : Int) = true) : one (s.data.toList.drop i) = (1, wdF s i - i, 0) := by
  unfold wdF
  rw [drop_at s hi]
  simp only [one]
  rw [if_pos (by rw [← letI_of]; exact h)]
  simp
theorem one_digit (s : ByteArray) {i : Nat} (hi : i < s.size) (h0 : ¬ letI' (s[i].toNat : Int) = true) (h : digI (s[i].toNat : Int) = true) : one (s.data.toList.drop i) = (2, (nmR s i).1 - i, (nmR s i).2) := by
  unfold nmR
  rw [drop_at s hi]
  simp only [one]
  rw [if_neg (by rw [← letI_of]; exact h0), if_pos (by rw [← digI_of]; exact h)]
  cases numTok (s[i] :: s.data.toList.drop (i + 1)) with
  | none => simp
  | some p => obtain ⟨n, v⟩ := p; simp
theorem one_sign (s : ByteArray) {i : Nat} (hi : i < s.size) (h0 : ¬ letI' (s[i].toNat : Int) = true) (h : ¬ digI (s[i].toNat : Int) = true) : one (s.data.toList.drop i) = (3, sgF s i - i, 0) := by
  unfold sgF
  rw [drop_at s hi]
  simp only [one]
  rw [if_neg (by rw [← letI_of]; exact h0), if_neg (by rw [← digI_of]; exact h)]
  simp
theorem wdF_gt (s : ByteArray) {i : Nat} (hi : i < s.size) (h : letI' (s[i].toNat : Int) = true) : i < wdF s i := by
  unfold wdF
  rw [drop_at s hi]
  simp only [wl]
  rw [if_pos (by unfold isEither; rw [← letI_of, h]; rfl)]; omega
theorem nmR_le (s : ByteArray) {i : Nat} (hi : i ≤ s.size) : i ≤ (nmR s i).1 ∧ (nmR s i).1 ≤ s.size ∧ (nmR s i).2 ≤ 1099511627777 := by
  unfold nmR
  cases h : numTok (s.data.toList.drop i) with
  | none => simp only; exact ⟨Nat.le_refl _, hi, by omega⟩
  | some p =>
    obtain ⟨n, v⟩ := p
    have := numTok_le h
    rw [List.length_drop] at this
    simp only [top] at this ⊢
    simp at this
    omega
theorem sgF_ge (s : ByteArray) (i : Nat) : i ≤ sgF s i := by unfold sgF; omega

theorem tokV_eq {k n pos : Int} {b : ByteArray} {l : Bytes} (h : b = strB l) : Ending.returned (.agg #[.int .i64 k, .string b, .int .i64 n, .int .i64 pos]) = Ending.returned (.agg #[.int .i64 k, .string (strB l), .int .i64 n, .int .i64 pos]) := by rw [h]

set_option maxHeartbeats 400000 in
theorem ref_one_some (s : ByteArray) (i kind len n : Nat) (w : World) (hs : s.size ≤ 1000000) (hi : i < s.size) (h1 : one (s.data.toList.drop i) = (kind, len, n)) (h0 : len ≠ 0) :
    Calls Tryd.prog 37 #[.string s, .int .i64 i] w fun e w' => e = .returned (.agg #[.int .i64 kind, .string (strB ((s.data.toList.drop i).take len)), .int .i64 n, .int .i64 i]) ∧ Below w.heap.size w w' := by
  by_cases hL : letI' (s[i].toNat : Int) = true
  · have e1 := one_letter s hi hL
    have hg := wdF_gt s hi hL
    have hle := wdF_le s (Nat.le_of_lt hi)
    rw [e1] at h1
    simp only [Prod.mk.injEq] at h1
    obtain ⟨rfl, h2, rfl⟩ := h1
    have H2 := Lib.hid h2
    clear h2 e1
    go_enter Tryd.func37, Tryd.ntmps37
    go_wp2_with (first | (go_at_call 74; refine (ref_letter _ _).mono ?_; rintro e w' ⟨rfl, rfl⟩) | (go_at_call 76; refine (ref_digit _ _).mono ?_; rintro e w' ⟨rfl, rfl⟩) | (go_at_call 75; refine (ref_word _ _ _ hs (by omega)).mono ?_; rintro e w' ⟨rfl, rfl⟩) | (go_at_call 77; refine (ref_number _ _ _ hs (by omega)).mono ?_; rintro e w' ⟨rfl, rfl⟩) | (go_at_call 78; refine (ref_sign _ _ _ hs (by omega)).mono ?_; rintro e w' ⟨rfl, rfl⟩))
    go_returns
    exact ⟨tokV_eq (by rw [extract_strB, H2.out]), by go_grown⟩
  · by_cases hD : digI (s[i].toNat : Int) = true
    · have e1 := one_digit s hi hL hD
      obtain ⟨hg, hle, hv⟩ := nmR_le s (Nat.le_of_lt hi)
      rw [e1] at h1
      simp only [Prod.mk.injEq] at h1
      obtain ⟨rfl, h2, rfl⟩ := h1
      have hne := ib_no (show (((nmR s i).1 : Nat) : Int) ≠ (i : Int) by omega)
      have H2 := Lib.hid h2
      clear h2 e1
      go_enter Tryd.func37, Tryd.ntmps37
      go_wp2_with (first | (go_at_call 74; refine (ref_letter _ _).mono ?_; rintro e w' ⟨rfl, rfl⟩) | (go_at_call 76; refine (ref_digit _ _).mono ?_; rintro e w' ⟨rfl, rfl⟩) | (go_at_call 75; refine (ref_word _ _ _ hs (by omega)).mono ?_; rintro e w' ⟨rfl, rfl⟩) | (go_at_call 77; refine (ref_number _ _ _ hs (by omega)).mono ?_; rintro e w' ⟨rfl, rfl⟩) | (go_at_call 78; refine (ref_sign _ _ _ hs (by omega)).mono ?_; rintro e w' ⟨rfl, rfl⟩))
      go_returns
      exact ⟨tokV_eq (by rw [extract_strB, H2.out]), by go_grown⟩
    · have e1 := one_sign s hi hL hD
      have hg := sgF_ge s i
      have hle := sgF_le s (Nat.le_of_lt hi)
      rw [e1] at h1
      simp only [Prod.mk.injEq] at h1
      obtain ⟨rfl, h2, rfl⟩ := h1
      have hne := ib_no (show ((sgF s i : Nat) : Int) ≠ (i : Int) by omega)
      have H2 := Lib.hid h2
      clear h2 e1
      go_enter Tryd.func37, Tryd.ntmps37
      go_wp2_with (first | (go_at_call 74; refine (ref_letter _ _).mono ?_; rintro e w' ⟨rfl, rfl⟩) | (go_at_call 76; refine (ref_digit _ _).mono ?_; rintro e w' ⟨rfl, rfl⟩) | (go_at_call 75; refine (ref_word _ _ _ hs (by omega)).mono ?_; rintro e w' ⟨rfl, rfl⟩) | (go_at_call 77; refine (ref_number _ _ _ hs (by omega)).mono ?_; rintro e w' ⟨rfl, rfl⟩) | (go_at_call 78; refine (ref_sign _ _ _ hs (by omega)).mono ?_; rintro e w' ⟨rfl, rfl⟩))
      go_returns
      exact ⟨tokV_eq (by rw [extract_strB, H2.out]), by go_grown⟩

set_option maxHeartbeats 400000 in
theorem ref_one_none (s : ByteArray) (i : Nat) (w : World) (hs : s.size ≤ 1000000) (hi : i < s.size) (h0 : (one (s.data.toList.drop i)).2.1 = 0) :
    Calls Tryd.prog 37 #[.string s, .int .i64 i] w fun e w' => e = .returned (.agg #[.int .i64 0, .string ⟨#[]⟩, .int .i64 0, .int .i64 0]) ∧ Below w.heap.size w w' := by
  by_cases hL : letI' (s[i].toNat : Int) = true
  · have e1 := one_letter s hi hL
    have hg := wdF_gt s hi hL
    rw [e1] at h0
    simp only at h0
    omega
  · by_cases hD : digI (s[i].toNat : Int) = true
    · have e1 := one_digit s hi hL hD
      obtain ⟨hg, hle, hv⟩ := nmR_le s (Nat.le_of_lt hi)
      rw [e1] at h0
      simp only at h0
      have hne := ib_yes (show (((nmR s i).1 : Nat) : Int) = (i : Int) by omega)
      clear e1 h0
      go_enter Tryd.func37, Tryd.ntmps37
      go_wp2_with (first | (go_at_call 74; refine (ref_letter _ _).mono ?_; rintro e w' ⟨rfl, rfl⟩) | (go_at_call 76; refine (ref_digit _ _).mono ?_; rintro e w' ⟨rfl, rfl⟩) | (go_at_call 75; refine (ref_word _ _ _ hs (by omega)).mono ?_; rintro e w' ⟨rfl, rfl⟩) | (go_at_call 77; refine (ref_number _ _ _ hs (by omega)).mono ?_; rintro e w' ⟨rfl, rfl⟩) | (go_at_call 78; refine (ref_sign _ _ _ hs (by omega)).mono ?_; rintro e w' ⟨rfl, rfl⟩))
      go_returns
      exact ⟨rfl, by go_grown⟩
    · have e1 := one_sign s hi hL hD
      have hg := sgF_ge s i
      rw [e1] at h0
      simp only at h0
      have hne := ib_yes (show ((sgF s i : Nat) : Int) = (i : Int) by omega)
      clear e1 h0
      go_enter Tryd.func37, Tryd.ntmps37
      go_wp2_with (first | (go_at_call 74; refine (ref_letter _ _).mono ?_; rintro e w' ⟨rfl, rfl⟩) | (go_at_call 76; refine (ref_digit _ _).mono ?_; rintro e w' ⟨rfl, rfl⟩) | (go_at_call 75; refine (ref_word _ _ _ hs (by omega)).mono ?_; rintro e w' ⟨rfl, rfl⟩) | (go_at_call 77; refine (ref_number _ _ _ hs (by omega)).mono ?_; rintro e w' ⟨rfl, rfl⟩) | (go_at_call 78; refine (ref_sign _ _ _ hs (by omega)).mono ?_; rintro e w' ⟨rfl, rfl⟩))
      go_returns
      exact ⟨rfl, by go_grown⟩
end Go.Proofs.YtecldgjdmomilaaDoor
