/-
  The reference lexer's small functions: each returns what the plain word says, and leaves the world as it was.
-/
import Derived.Test.YtecldgjdmomilaaDoorRows
import Derived.Test.YtecldgjdmomilaaDoorLexGlue
import Derived.Test.YtecldgjdmomilaaDoorKit
namespace Go.Proofs.YtecldgjdmomilaaDoor
open Go.RowKit LexSpec

/-- The classes over numbers. -/
def letI' (n : Int) : Bool := decide (97 ≤ n) && decide (n ≤ 122)
def digI (n : Int) : Bool := decide (48 ≤ n) && decide (n ≤ 57)
theorem letI_of (c : UInt8) : letI' (c.toNat : Int) = isLetter c := by
  unfold letI' isLetter
  rw [Bool.eq_iff_iff]; simp; omega
theorem digI_of (c : UInt8) : digI (c.toNat : Int) = isDigit c := by
  unfold digI isDigit
  rw [Bool.eq_iff_iff]; simp; omega

theorem letI_yes {n : Int} (h : 97 ≤ n) : letI' n = decide (n ≤ 122) := by unfold letI'; simp [h]
theorem letI_no {n : Int} (h : n < 97) : letI' n = false := by unfold letI'; simp; omega
theorem digI_yes {n : Int} (h : 48 ≤ n) : digI n = decide (n ≤ 57) := by unfold digI; simp [h]
theorem digI_no {n : Int} (h : n < 48) : digI n = false := by unfold digI; simp; omega

set_option maxHeartbeats 400000 in
theorem ref_letter (n : Int) (w : World) : Calls Tryd.prog 74 #[.int .u8 n] w fun e w' => e = .returned (.bool (letI' n)) ∧ w = w' := by
  by_cases h1 : 97 ≤ n
  · go_enter Tryd.func74, Tryd.ntmps74
    go_wp2
    all_goals go_ret
    all_goals exact ⟨ret_bool (by rw [letI_yes h1]), rfl⟩
  · go_enter Tryd.func74, Tryd.ntmps74
    go_wp2
    all_goals go_ret
    all_goals exact ⟨ret_bool (by rw [letI_no (by omega)]), rfl⟩
set_option maxHeartbeats 400000 in
theorem ref_digit (n : Int) (w : World) : Calls Tryd.prog 76 #[.int .u8 n] w fun e w' => e = .returned (.bool (digI n)) ∧ w = w' := by
  by_cases h1 : 48 ≤ n
  · go_enter Tryd.func76, Tryd.ntmps76
    go_wp2
    all_goals go_ret
    all_goals exact ⟨ret_bool (by rw [digI_yes h1]), rfl⟩
  · go_enter Tryd.func76, Tryd.ntmps76
    go_wp2
    all_goals go_ret
    all_goals exact ⟨ret_bool (by rw [digI_no (by omega)]), rfl⟩

/-- The byte at an index, 0 behind the end. -/
def atI (s : ByteArray) (i : Int) : Int := if h : i.toNat < s.size then ((s[i.toNat]'h).toNat : Int) else 0
theorem atI_in (s : ByteArray) {k : Nat} (h : k < s.size) : atI s (k : Int) = (s[k].toNat : Int) := by
  unfold atI
  rw [dif_pos (by simpa using h)]
  simp
theorem atI_out (s : ByteArray) {k : Nat} (h : s.size ≤ k) : atI s (k : Int) = 0 := by
  unfold atI
  rw [dif_neg (by simpa using h)]
theorem atI_range (s : ByteArray) (i : Int) : 0 ≤ atI s i ∧ atI s i ≤ 255 := by
  unfold atI
  split
  · rename_i h
    have := (s[i.toNat]'h).toNat_lt
    omega
  · omega

set_option maxHeartbeats 400000 in
theorem ref_at (s : ByteArray) (i : Int) (w : World) (h0 : 0 ≤ i) : Calls Tryd.prog 102 #[.string s, .int .i64 i] w fun e w' => e = .returned (.int .u8 (atI s i)) ∧ w = w' := by
  obtain ⟨k, rfl⟩ := Int.eq_ofNat_of_zero_le h0
  by_cases h : k < s.size
  · go_enter Tryd.func102, Tryd.ntmps102
    go_wp2
    go_ret
    exact ⟨ret_int (by rw [atI_in s h]), rfl⟩
  · go_enter Tryd.func102, Tryd.ntmps102
    go_wp2
    go_ret
    exact ⟨ret_int (by rw [atI_out s (by omega)]), rfl⟩

def unitI (n : Int) : Int := if n = 115 then 1 else if n = 109 then 60 else if n = 104 then 3600 else if n = 100 then 86400 else 0
theorem unitI_of (c : UInt8) : unitI (c.toNat : Int) = (unitOf c : Nat) := by
  unfold unitI unitOf
  repeat' split
  all_goals omega

set_option maxHeartbeats 400000 in
theorem ref_unit (n : Int) (w : World) : Calls Tryd.prog 103 #[.int .u8 n] w fun e w' => e = .returned (.int .i64 (unitI n)) ∧ w = w' := by
  go_enter Tryd.func103, Tryd.ntmps103
  go_wp2
  all_goals go_ret
  all_goals exact ⟨ret_int (by unfold unitI; simp_all), rfl⟩

/-! ### blanks -/
theorem drop_at (s : ByteArray) {k : Nat} (h : k < s.size) : s.data.toList.drop k = s[k] :: s.data.toList.drop (k + 1) := by
  have h' : k < s.data.toList.length := by simpa using h
  rw [List.drop_eq_getElem_cons h']
  congr 1

def skF (s : ByteArray) (k : Nat) : Nat := k + bl false (s.data.toList.drop k)
def skT (s : ByteArray) (k : Nat) : Nat := k + bl true (s.data.toList.drop k)
theorem skF_le (s : ByteArray) {k : Nat} (h : k ≤ s.size) : skF s k ≤ s.size := by
  have := bl_le (s.data.toList.drop k) false
  rw [List.length_drop] at this
  unfold skF
  simp at this
  omega
theorem skF_blank (s : ByteArray) {k : Nat} (h : k < s.size) (hc : s[k].toNat = 32 ∨ s[k].toNat = 9 ∨ s[k].toNat = 10) : skF s (k + 1) = skF s k := by
  unfold skF
  rw [drop_at s h]
  simp only [bl]
  rw [if_pos hc]; omega
theorem skF_hash (s : ByteArray) {k : Nat} (h : k < s.size) (hc : s[k].toNat = 35) : skT s k = skF s k := by
  unfold skF skT
  rw [drop_at s h]
  simp only [bl]
  rw [if_neg (by omega), if_neg (by omega), if_pos hc]
theorem skF_stop (s : ByteArray) {k : Nat} (h : k < s.size) (h1 : ¬ s[k].toNat = 32) (h2 : ¬ s[k].toNat = 9) (h3 : ¬ s[k].toNat = 10) (h4 : ¬ s[k].toNat = 35) : skF s k = k := by
  unfold skF
  rw [drop_at s h]
  simp only [bl]
  rw [if_neg (by omega), if_neg (by omega)]; omega
theorem skF_end (s : ByteArray) {k : Nat} (h : s.size ≤ k) : skF s k = k := by
  unfold skF
  rw [List.drop_of_length_le (by simpa using h)]; rfl
theorem skT_step (s : ByteArray) {k : Nat} (h : k < s.size) (hc : ¬ s[k].toNat = 10) : skT s (k + 1) = skT s k := by
  unfold skT
  rw [drop_at s h]
  simp only [bl]
  rw [if_neg hc]; omega
theorem skT_nl (s : ByteArray) {k : Nat} (h : k < s.size) (hc : s[k].toNat = 10) : skF s k = skT s k := by
  unfold skF skT
  rw [drop_at s h]
  simp only [bl]
  rw [if_pos (by omega), if_pos hc]
theorem skT_end (s : ByteArray) {k : Nat} (h : s.size ≤ k) : skF s k = skT s k := by
  unfold skF skT
  rw [List.drop_of_length_le (by simpa using h)]; rfl

set_option maxHeartbeats 400000 in
theorem ref_skip (s : ByteArray) (i : Nat) (w : World) (hs : s.size ≤ maxLen) (hi : i ≤ s.size) : Calls Tryd.prog 36 #[.string s, .int .i64 i] w fun e w' => e = .returned (.int .i64 (skF s i : Nat)) ∧ w = w' := by
  unfold maxLen at hs
  go_enter Tryd.func36, Tryd.ntmps36
  go_wp2
  go_loop [1] (fun v => ∃ k : Nat, k ≤ s.size ∧ v = .int .i64 k ∧ Hid (skF s k = skF s i)) (fun v => s.size - (intOf v).toNat)
  case atStart => exact ⟨i, hi, rfl, rfl⟩
  case round =>
    obtain ⟨k, hk, rfl, H⟩ := hrel
    by_cases hlt : k < s.size
    · by_cases h35 : s[k].toNat = 35
      · go_wp2
        go_loop [1] (fun v => ∃ j : Nat, k ≤ j ∧ j ≤ s.size ∧ v = .int .i64 j ∧ Hid (skT s j = skF s i)) (fun v => s.size - (intOf v).toNat)
        case atStart => exact ⟨k, Nat.le_refl _, hk, rfl, (skF_hash s hlt h35).trans H.out⟩
        case round =>
          obtain ⟨j, hkj, hj, rfl, G⟩ := hrel
          by_cases hjl : j < s.size
          · by_cases h10 : s[j].toNat = 10
            · have hne : k ≠ j := by rintro rfl; omega
              go_wp2
              go_round
              case rel => exact ⟨j, hj, rfl, (skT_nl s hjl h10).trans G.out⟩
              case measure => simp [intOf]; omega
            · go_wp2
              go_round
              case rel => exact ⟨j + 1, by omega, by omega, by go_num, (skT_step s hjl h10).trans G.out⟩
              case measure => simp [intOf]; omega
          · go_wp2
            go_round
            case rel => exact ⟨j, hj, rfl, (skT_end s (by omega)).trans G.out⟩
            case measure => simp [intOf]; omega
      · by_cases hb : s[k].toNat = 32 ∨ s[k].toNat = 9 ∨ s[k].toNat = 10
        · rcases hb with h1 | h1 | h1
          all_goals
            go_wp2
            go_round
            case rel => exact ⟨k + 1, by omega, by go_num, (skF_blank s hlt (by omega)).trans H.out⟩
            case measure => simp [intOf]; omega
        · have h1 : ¬ s[k].toNat = 32 := by omega
          have h2 : ¬ s[k].toNat = 9 := by omega
          have h3 : ¬ s[k].toNat = 10 := by omega
          have b1 := ib_no (show (s[k].toNat : Int) ≠ 32 by omega)
          have b2 := ib_no (show (s[k].toNat : Int) ≠ 9 by omega)
          have b3 := ib_no (show (s[k].toNat : Int) ≠ 10 by omega)
          go_wp2
          go_ret
          exact ⟨ret_int (by rw [← H.out, skF_stop s hlt h1 h2 h3 h35]), rfl⟩
    · go_wp2
      go_ret
      exact ⟨ret_int (by rw [← H.out, skF_end s (by omega)]), rfl⟩

/-! ### words -/
def wdF (s : ByteArray) (k : Nat) : Nat := k + wl (s.data.toList.drop k)
theorem wdF_le (s : ByteArray) {k : Nat} (h : k ≤ s.size) : wdF s k ≤ s.size := by
  have := wl_le (s.data.toList.drop k)
  rw [List.length_drop] at this
  unfold wdF
  simp at this
  omega
theorem letI_lt {s : ByteArray} {k : Nat} (h : letI' (atI s k) = true) : k < s.size := by
  rcases Nat.lt_or_ge k s.size with hlt | hge
  · exact hlt
  · rw [atI_out s hge] at h; simp [letI'] at h
theorem digI_lt {s : ByteArray} {k : Nat} (h : digI (atI s k) = true) : k < s.size := by
  rcases Nat.lt_or_ge k s.size with hlt | hge
  · exact hlt
  · rw [atI_out s hge] at h; simp [digI] at h
theorem eithI (s : ByteArray) {k : Nat} (hlt : k < s.size) : isEither s[k] = (letI' (atI s k) || digI (atI s k)) := by
  rw [atI_in s hlt, letI_of, digI_of]; rfl
theorem headEither_at (s : ByteArray) (k : Nat) : headEither (s.data.toList.drop k) = (letI' (atI s k) || digI (atI s k)) := by
  rcases Nat.lt_or_ge k s.size with hlt | hge
  · rw [drop_at s hlt]; exact eithI s hlt
  · rw [List.drop_of_length_le (by simpa using hge), atI_out s hge]; rfl
theorem wdF_step (s : ByteArray) {k : Nat} (h : letI' (atI s k) = true ∨ digI (atI s k) = true) : wdF s (k + 1) = wdF s k := by
  have hlt : k < s.size := by rcases h with h | h; exact letI_lt h; exact digI_lt h
  have he : isEither s[k] = true := by rw [eithI s hlt]; rcases h with h | h <;> simp [h]
  unfold wdF
  rw [drop_at s hlt]
  simp only [wl]
  rw [if_pos he]; omega
theorem wdF_dash (s : ByteArray) {k : Nat} (h0 : ¬ letI' (atI s k) = true) (h1 : ¬ digI (atI s k) = true) (h : atI s k = 45) (h2 : letI' (atI s (k + 1 : Nat)) = true ∨ digI (atI s (k + 1 : Nat)) = true) : wdF s (k + 1) = wdF s k := by
  have hlt : k < s.size := by
    rcases Nat.lt_or_ge k s.size with hlt | hge
    · exact hlt
    · rw [atI_out s hge] at h; omega
  have he : isEither s[k] = false := by rw [eithI s hlt]; simp [h0, h1]
  have hh : headEither (s.data.toList.drop (k + 1)) = true := by rw [headEither_at, Bool.or_eq_true]; exact h2
  rw [atI_in s hlt] at h
  unfold wdF
  rw [drop_at s hlt]
  simp only [wl]
  rw [if_neg (by rw [he]; decide), if_pos ⟨by omega, hh⟩]; omega
theorem wdF_stop (s : ByteArray) {k : Nat} (h0 : ¬ letI' (atI s k) = true) (h1 : ¬ digI (atI s k) = true) (h : ¬ atI s k = 45 ∨ (¬ letI' (atI s (k + 1 : Nat)) = true ∧ ¬ digI (atI s (k + 1 : Nat)) = true)) : wdF s k = k := by
  rcases Nat.lt_or_ge k s.size with hlt | hge
  · have he : isEither s[k] = false := by rw [eithI s hlt]; simp [h0, h1]
    unfold wdF
    rw [drop_at s hlt]
    simp only [wl]
    rw [if_neg (by rw [he]; decide), if_neg]
    · rfl
    · rintro ⟨ha, hb⟩
      rcases h with h | h
      · rw [atI_in s hlt] at h; omega
      · rw [headEither_at, Bool.or_eq_true] at hb
        rcases hb with hb | hb
        · exact h.1 hb
        · exact h.2 hb
  · unfold wdF
    rw [List.drop_of_length_le (by simpa using hge)]; rfl

set_option maxHeartbeats 400000 in
theorem ref_word (s : ByteArray) (i : Nat) (w : World) (hs : s.size ≤ 1000000) (hi : i ≤ s.size) : Calls Tryd.prog 75 #[.string s, .int .i64 i] w fun e w' => e = .returned (.int .i64 (wdF s i : Nat)) ∧ w = w' := by
  go_enter Tryd.func75, Tryd.ntmps75
  go_wp2
  go_loop [1] (fun v => ∃ k : Nat, k ≤ s.size ∧ v = .int .i64 k ∧ Hid (wdF s k = wdF s i)) (fun v => s.size - (intOf v).toNat)
  case atStart => exact ⟨i, hi, rfl, rfl⟩
  case round =>
    obtain ⟨k, hk, rfl, H⟩ := hrel
    by_cases hL : letI' (atI s k) = true
    · have hlt := letI_lt hL
      go_wp2_with (first | (go_at_call 102; refine (ref_at _ _ _ (by omega)).mono ?_; rintro e w' ⟨rfl, rfl⟩) | (go_at_call 74; refine (ref_letter _ _).mono ?_; rintro e w' ⟨rfl, rfl⟩) | (go_at_call 76; refine (ref_digit _ _).mono ?_; rintro e w' ⟨rfl, rfl⟩))
      go_round
      case rel => exact ⟨k + 1, by omega, by go_num, (wdF_step s (.inl hL)).trans H.out⟩
      case measure => simp [intOf]; omega
    · by_cases hD : digI (atI s k) = true
      · have hlt := digI_lt hD
        go_wp2_with (first | (go_at_call 102; refine (ref_at _ _ _ (by omega)).mono ?_; rintro e w' ⟨rfl, rfl⟩) | (go_at_call 74; refine (ref_letter _ _).mono ?_; rintro e w' ⟨rfl, rfl⟩) | (go_at_call 76; refine (ref_digit _ _).mono ?_; rintro e w' ⟨rfl, rfl⟩))
        go_round
        case rel => exact ⟨k + 1, by omega, by go_num, (wdF_step s (.inr hD)).trans H.out⟩
        case measure => simp [intOf]; omega
      · by_cases h45 : atI s k = 45
        · have hlt : k < s.size := by
            rcases Nat.lt_or_ge k s.size with hlt | hge
            · exact hlt
            · rw [atI_out s hge] at h45; omega
          have b45 := ib_yes h45
          have H45 := Lib.hid h45
          clear h45
          by_cases hL2 : letI' (atI s ((k : Int) + 1)) = true
          · go_wp2_with (first | (go_at_call 102; refine (ref_at _ _ _ (by omega)).mono ?_; rintro e w' ⟨rfl, rfl⟩) | (go_at_call 74; refine (ref_letter _ _).mono ?_; rintro e w' ⟨rfl, rfl⟩) | (go_at_call 76; refine (ref_digit _ _).mono ?_; rintro e w' ⟨rfl, rfl⟩))
            go_round
            case rel => exact ⟨k + 1, by omega, by go_num, (wdF_dash s hL hD H45.out (.inl hL2)).trans H.out⟩
            case measure => simp [intOf]; omega
          · by_cases hD2 : digI (atI s ((k : Int) + 1)) = true
            · go_wp2_with (first | (go_at_call 102; refine (ref_at _ _ _ (by omega)).mono ?_; rintro e w' ⟨rfl, rfl⟩) | (go_at_call 74; refine (ref_letter _ _).mono ?_; rintro e w' ⟨rfl, rfl⟩) | (go_at_call 76; refine (ref_digit _ _).mono ?_; rintro e w' ⟨rfl, rfl⟩))
              go_round
              case rel => exact ⟨k + 1, by omega, by go_num, (wdF_dash s hL hD H45.out (.inr hD2)).trans H.out⟩
              case measure => simp [intOf]; omega
            · go_wp2_with (first | (go_at_call 102; refine (ref_at _ _ _ (by omega)).mono ?_; rintro e w' ⟨rfl, rfl⟩) | (go_at_call 74; refine (ref_letter _ _).mono ?_; rintro e w' ⟨rfl, rfl⟩) | (go_at_call 76; refine (ref_digit _ _).mono ?_; rintro e w' ⟨rfl, rfl⟩))
              go_ret
              exact ⟨ret_int (by rw [← H.out, wdF_stop s hL hD (.inr ⟨hL2, hD2⟩)]), rfl⟩
        · have b45 := ib_no h45
          go_wp2_with (first | (go_at_call 102; refine (ref_at _ _ _ (by omega)).mono ?_; rintro e w' ⟨rfl, rfl⟩) | (go_at_call 74; refine (ref_letter _ _).mono ?_; rintro e w' ⟨rfl, rfl⟩) | (go_at_call 76; refine (ref_digit _ _).mono ?_; rintro e w' ⟨rfl, rfl⟩))
          go_ret
          exact ⟨ret_int (by rw [← H.out, wdF_stop s hL hD (.inl h45)]), rfl⟩

end Go.Proofs.YtecldgjdmomilaaDoor
