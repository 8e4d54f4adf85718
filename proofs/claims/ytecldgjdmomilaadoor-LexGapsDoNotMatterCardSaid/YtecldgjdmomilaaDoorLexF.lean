/-
  The lexer's blanks and words.
-/
import Derived.Test.YtecldgjdmomilaaDoorLexE
namespace Go.Proofs.YtecldgjdmomilaaDoor
open Go.RowKit LexSpec

theorem ext_toList (s : ByteArray) (k : Nat) : (s.extract k s.size).data.toList = s.data.toList.drop k := by
  rw [extract_strB, strB_toList]
  exact List.take_of_length_le (by simp)
theorem ext_size (s : ByteArray) (k : Nat) : (s.extract k s.size).size = s.size - k := by
  rw [extract_strB, strB_size]; simp
theorem bl_true (l : Bytes) : bl true l = runLen isNl l + bl false (l.drop (runLen isNl l)) := by
  induction l with
  | nil => rfl
  | cons c l ih =>
    by_cases h : c.toNat = 10
    · have hn : ¬ isNl c = true := by unfold isNl; simp [h]
      rw [runLen_no hn, List.drop_zero]
      simp only [bl]
      rw [if_pos h, if_pos (by omega)]; omega
    · have hn : isNl c = true := by unfold isNl; simp [h]
      rw [runLen_yes hn, List.drop_succ_cons]
      simp only [bl]
      rw [if_neg h, ih]; omega
theorem skT_run (s : ByteArray) (k : Nat) : skF s (k + runLen isNl (s.data.toList.drop k)) = skT s k := by
  unfold skF skT
  rw [bl_true, List.drop_drop]; omega
theorem runLen_drop_le (p : UInt8 → Bool) (s : ByteArray) {k : Nat} (hk : k ≤ s.size) : k + runLen p (s.data.toList.drop k) ≤ s.size := by
  have h := runLen_le p (s.data.toList.drop k)
  simp only [List.length_drop, Array.length_toList] at h
  have : s.data.size = s.size := rfl
  omega
theorem skF0 (s : ByteArray) : skF s 0 = bl false s.data.toList := by unfold skF; simp

theorem int_eq {a b : Int} (h : a = b) : Value.int .i64 a = Value.int .i64 b := by rw [h]
theorem run_nl_at (s : ByteArray) (k : Nat) (w : World) (hs : s.size ≤ 1000000) : Calls Tryd.prog 67 #[.string (s.extract k s.size), .func (.func 68) #[] #[]] w fun e w' => e = .returned (.int .i64 (runLen isNl (s.data.toList.drop k) : Nat)) ∧ w = w' := by
  have h := run_nl (s.extract k s.size) w (by rw [ext_size]; omega)
  rw [ext_toList] at h
  exact h
theorem run_either_at (s : ByteArray) (k : Nat) (w : World) (hs : s.size ≤ 1000000) : Calls Tryd.prog 67 #[.string (s.extract k s.size), .func (.func 99) #[] #[]] w fun e w' => e = .returned (.int .i64 (runLen isEither (s.data.toList.drop k) : Nat)) ∧ w = w' := by
  have h := run_either (s.extract k s.size) w (by rw [ext_size]; omega)
  rw [ext_toList] at h
  exact h

set_option maxHeartbeats 400000 in
theorem lex_blanks (s : ByteArray) (w : World) (hs : s.size ≤ 1000000) : Calls Tryd.prog 34 #[.string s] w fun e w' => e = .returned (.int .i64 (bl false s.data.toList : Nat)) ∧ w = w' := by
  go_enter Tryd.func34, Tryd.ntmps34
  go_wp2
  go_loop [3] (fun v => ∃ k : Nat, k ≤ s.size ∧ v = .int .i64 k ∧ Hid (skF s k = bl false s.data.toList)) (fun v => s.size - (intOf v).toNat)
  case atStart => exact ⟨0, by omega, rfl, skF0 s⟩
  case round =>
    obtain ⟨k, hk, rfl, H⟩ := hrel
    by_cases hlt : k < s.size
    · by_cases h35 : s[k].toNat = 35
      · have hm := runLen_drop_le isNl s hk
        have hm1 : 1 ≤ runLen isNl (s.data.toList.drop k) := by rw [drop_at s hlt, runLen_yes (by unfold isNl; simp [h35])]; omega
        have HT := Lib.hid ((skT_run s k).trans (skF_hash s hlt h35))
        have b1 := ib_no (show (s[k].toNat : Int) ≠ 32 by omega)
        have b2 := ib_no (show (s[k].toNat : Int) ≠ 9 by omega)
        have b3 := ib_no (show (s[k].toNat : Int) ≠ 10 by omega)
        have b4 := ib_yes (show (s[k].toNat : Int) = 35 by omega)
        clear h35
        go_wp2_with (go_at_call 67; refine (run_nl_at s k _ hs).mono ?_; rintro e w' ⟨rfl, rfl⟩)
        go_round
        case rel => exact ⟨k + runLen isNl (s.data.toList.drop k), hm, by go_num, HT.out.trans H.out⟩
        case measure => simp [intOf]; omega
      · by_cases hb : s[k].toNat = 32 ∨ s[k].toNat = 9 ∨ s[k].toNat = 10
        · rcases hb with h1 | h1 | h1
          all_goals
            have HS := Lib.hid (skF_blank s hlt (by omega))
            go_wp2
            go_round
            case rel => exact ⟨k + 1, by omega, by go_num, HS.out.trans H.out⟩
            case measure => simp [intOf]; omega
        · have HS := Lib.hid (skF_stop s hlt (by omega) (by omega) (by omega) h35)
          have b1 := ib_no (show (s[k].toNat : Int) ≠ 32 by omega)
          have b2 := ib_no (show (s[k].toNat : Int) ≠ 9 by omega)
          have b3 := ib_no (show (s[k].toNat : Int) ≠ 10 by omega)
          have b4 := ib_no (show (s[k].toNat : Int) ≠ 35 by omega)
          go_wp2
          go_ret
          exact ⟨ret_int (by rw [← H.out, HS.out]), rfl⟩
    · go_wp2
      go_ret
      exact ⟨ret_int (by rw [← H.out, skF_end s (by omega)]), rfl⟩

/-! ### words -/
theorem wl_run (l : Bytes) : wl l = runLen isEither l + wl (l.drop (runLen isEither l)) := by
  induction l with
  | nil => rfl
  | cons c l ih =>
    by_cases h : isEither c = true
    · rw [runLen_yes h, List.drop_succ_cons]
      simp only [wl]
      rw [if_pos h, ih]; omega
    · rw [runLen_no h, List.drop_zero]; omega
theorem head_run (l : Bytes) : headEither (l.drop (runLen isEither l)) = false := by
  induction l with
  | nil => rfl
  | cons c l ih =>
    by_cases h : isEither c = true
    · rw [runLen_yes h, List.drop_succ_cons]; exact ih
    · rw [runLen_no h, List.drop_zero]; simpa [headEither] using h
theorem wdF_run (s : ByteArray) (k : Nat) : wdF s (k + runLen isEither (s.data.toList.drop k)) = wdF s k := by
  unfold wdF
  rw [wl_run (s.data.toList.drop k), List.drop_drop]; omega
theorem wdF0 (s : ByteArray) : wdF s 0 = wl s.data.toList := by unfold wdF; simp
/-- One round of the word's loop: '-' and what follows. -/
theorem wdF_more (s : ByteArray) {k : Nat} (h : headEither (s.data.toList.drop k) = false) (hk : k + 1 < s.size) (h45 : s[k].toNat = 45) (h2 : isEither s[k + 1] = true) : wdF s (k + 1) = wdF s k := by
  have hlt : k < s.size := by omega
  have hh : headEither (s.data.toList.drop (k + 1)) = true := by rw [drop_at s hk]; exact h2
  unfold wdF
  rw [drop_at s hlt] at h ⊢
  simp only [headEither] at h
  simp only [wl]
  rw [if_neg (by rw [h]; decide), if_pos ⟨h45, hh⟩]; omega
theorem wdF_last (s : ByteArray) {k : Nat} (h : headEither (s.data.toList.drop k) = false) (hn : ∀ hk : k + 1 < s.size, ¬ (s[k].toNat = 45 ∧ isEither s[k + 1] = true)) : wdF s k = k := by
  unfold wdF
  rcases Nat.lt_or_ge k s.size with hlt | hge
  · rw [drop_at s hlt] at h ⊢
    simp only [headEither] at h
    simp only [wl]
    rw [if_neg (by rw [h]; decide), if_neg]
    · rfl
    · rintro ⟨h1, h2⟩
      rcases Nat.lt_or_ge (k + 1) s.size with hl | hg
      · rw [drop_at s hl] at h2
        exact hn hl ⟨h1, h2⟩
      · rw [List.drop_of_length_le (by simpa using hg)] at h2
        cases h2
  · rw [List.drop_of_length_le (by simpa using hge)]; rfl

set_option maxHeartbeats 400000 in
theorem lex_word (s : ByteArray) (w : World) (hs : s.size ≤ 1000000) : Calls Tryd.prog 70 #[.string s] w fun e w' => e = .returned (.int .i64 (wl s.data.toList : Nat)) ∧ w = w' := by
  have hr0 := runLen_drop_le isEither s (Nat.zero_le _)
  rw [List.drop_zero, Nat.zero_add] at hr0
  go_enter Tryd.func70, Tryd.ntmps70
  go_wp2_with (go_at_call 67; refine (run_either s _ hs).mono ?_; rintro e w' ⟨rfl, rfl⟩)
  go_loop [3] (fun v => ∃ k : Nat, k ≤ s.size ∧ v = .int .i64 k ∧ Hid (wdF s k = wl s.data.toList) ∧ Hid (headEither (s.data.toList.drop k) = false)) (fun v => s.size - (intOf v).toNat)
  case atStart =>
    have h1 := wdF_run s 0
    rw [List.drop_zero, Nat.zero_add, wdF0] at h1
    exact ⟨_, hr0, rfl, h1, head_run _⟩
  case round =>
    obtain ⟨k, hk, rfl, H, G⟩ := hrel
    by_cases hlt : k + 1 < s.size
    · have hlt' : k < s.size := by omega
      by_cases h45 : s[k].toNat = 45
      · have b45 := ib_yes (show (s[k].toNat : Int) = 45 by omega)
        have ho := eitI_of s[k + 1]
        by_cases hp : eitI (s[k + 1].toNat : Int) = true
        · have HM := Lib.hid (wdF_more s G.out hlt h45 (ho.symm.trans hp))
          have HR := Lib.hid (wdF_run s (k + 1))
          have HH := Lib.hid (head_run (s.data.toList.drop (k + 1)))
          have hm := runLen_drop_le isEither s (Nat.le_of_lt hlt)
          clear ho h45
          go_wp2_with (first | (go_at_call 99; refine (lex_either _ _).mono ?_; rintro e w' ⟨rfl, rfl⟩) | (go_at_call 67; refine (run_either_at s (k + 1) _ hs).mono ?_; rintro e w' ⟨rfl, rfl⟩))
          go_round
          case rel => exact ⟨k + 1 + runLen isEither (s.data.toList.drop (k + 1)), hm, int_eq (by omega), HR.out.trans (HM.out.trans H.out), by rw [← List.drop_drop]; exact HH.out⟩
          case measure => simp [intOf]; omega
        · have HL := Lib.hid (wdF_last s G.out (fun _ h => hp (ho.trans h.2)))
          clear ho h45
          go_wp2_with (go_at_call 99; refine (lex_either _ _).mono ?_; rintro e w' ⟨rfl, rfl⟩)
          go_ret
          exact ⟨ret_int (by rw [← H.out, HL.out]), rfl⟩
      · have b45 := ib_no (show (s[k].toNat : Int) ≠ 45 by omega)
        have HL := Lib.hid (wdF_last s G.out (fun _ h => h45 h.1))
        clear h45
        go_wp2
        go_ret
        exact ⟨ret_int (by rw [← H.out, HL.out]), rfl⟩
    · have HL := Lib.hid (wdF_last s G.out (fun h _ => hlt h))
      go_wp2
      go_ret
      exact ⟨ret_int (by rw [← H.out, HL.out]), rfl⟩
end Go.Proofs.YtecldgjdmomilaaDoor
