/-
  The lexer's small functions: each returns what the plain word says, and leaves the world as it was.
-/
import Derived.Test.YtecldgjdmomilaaDoorLexD
namespace Go.Proofs.YtecldgjdmomilaaDoor
open Go.RowKit LexSpec

set_option maxHeartbeats 400000 in
theorem lex_letter (n : Int) (w : World) : Calls Tryd.prog 69 #[.int .u8 n] w fun e w' => e = .returned (.bool (letI' n)) ∧ w = w' := by
  by_cases h1 : 97 ≤ n
  · go_enter Tryd.func69, Tryd.ntmps69
    go_wp2
    all_goals go_ret
    all_goals exact ⟨ret_bool (by rw [letI_yes h1]), rfl⟩
  · go_enter Tryd.func69, Tryd.ntmps69
    go_wp2
    all_goals go_ret
    all_goals exact ⟨ret_bool (by rw [letI_no (by omega)]), rfl⟩
set_option maxHeartbeats 400000 in
theorem lex_digit (n : Int) (w : World) : Calls Tryd.prog 71 #[.int .u8 n] w fun e w' => e = .returned (.bool (digI n)) ∧ w = w' := by
  by_cases h1 : 48 ≤ n
  · go_enter Tryd.func71, Tryd.ntmps71
    go_wp2
    all_goals go_ret
    all_goals exact ⟨ret_bool (by rw [digI_yes h1]), rfl⟩
  · go_enter Tryd.func71, Tryd.ntmps71
    go_wp2
    all_goals go_ret
    all_goals exact ⟨ret_bool (by rw [digI_no (by omega)]), rfl⟩
def eitI (n : Int) : Bool := letI' n || digI n
theorem eitI_of (c : UInt8) : eitI (c.toNat : Int) = isEither c := by unfold eitI isEither; rw [letI_of, digI_of]
def isNl (c : UInt8) : Bool := decide (c.toNat ≠ 10)
def nlI (n : Int) : Bool := n != 10
theorem nlI_of (c : UInt8) : nlI (c.toNat : Int) = isNl c := by
  unfold nlI isNl
  rw [Bool.eq_iff_iff]; simp; omega
set_option maxHeartbeats 400000 in
theorem lex_either (n : Int) (w : World) : Calls Tryd.prog 99 #[.int .u8 n] w fun e w' => e = .returned (.bool (eitI n)) ∧ w = w' := by
  by_cases h1 : letI' n = true
  · go_enter Tryd.func99, Tryd.ntmps99
    go_wp2_with (first | (go_at_call 69; refine (lex_letter _ _).mono ?_; rintro e w' ⟨rfl, rfl⟩) | (go_at_call 71; refine (lex_digit _ _).mono ?_; rintro e w' ⟨rfl, rfl⟩))
    go_ret
    exact ⟨ret_bool (by unfold eitI; rw [h1]; rfl), rfl⟩
  · go_enter Tryd.func99, Tryd.ntmps99
    go_wp2_with (first | (go_at_call 69; refine (lex_letter _ _).mono ?_; rintro e w' ⟨rfl, rfl⟩) | (go_at_call 71; refine (lex_digit _ _).mono ?_; rintro e w' ⟨rfl, rfl⟩))
    go_ret
    exact ⟨ret_bool (by unfold eitI; simp [h1]), rfl⟩
set_option maxHeartbeats 400000 in
theorem lex_nl (n : Int) (w : World) : Calls Tryd.prog 68 #[.int .u8 n] w fun e w' => e = .returned (.bool (nlI n)) ∧ w = w' := by
  go_enter Tryd.func68, Tryd.ntmps68
  go_wp2
  all_goals go_ret
  all_goals exact ⟨rfl, rfl⟩

def rpF (p : UInt8 → Bool) (s : ByteArray) (k : Nat) : Nat := k + runLen p (s.data.toList.drop k)
theorem rpF_yes {p : UInt8 → Bool} (s : ByteArray) {k : Nat} (hlt : k < s.size) (h : p s[k] = true) : rpF p s (k + 1) = rpF p s k := by
  unfold rpF
  rw [drop_at s hlt, runLen_yes h]; omega
theorem rpF_no {p : UInt8 → Bool} (s : ByteArray) {k : Nat} (hlt : k < s.size) (h : ¬ p s[k] = true) : rpF p s k = k := by
  unfold rpF
  rw [drop_at s hlt, runLen_no h]; rfl
theorem rpF_end {p : UInt8 → Bool} (s : ByteArray) {k : Nat} (h : s.size ≤ k) : rpF p s k = k := by
  unfold rpF
  rw [List.drop_of_length_le (by simpa using h)]; rfl
theorem rpF_zero (p : UInt8 → Bool) (s : ByteArray) : rpF p s 0 = runLen p s.data.toList := by unfold rpF; simp

set_option maxHeartbeats 400000 in
theorem run_nl (s : ByteArray) (w : World) (hs : s.size ≤ 1000000) : Calls Tryd.prog 67 #[.string s, .func (.func 68) #[] #[]] w fun e w' => e = .returned (.int .i64 (runLen isNl s.data.toList : Nat)) ∧ w = w' := by
  go_enter Tryd.func67, Tryd.ntmps67
  go_wp2
  go_loop [8] (fun v => ∃ k : Nat, k ≤ s.size ∧ v = .int .i64 k ∧ Hid (rpF isNl s k = runLen isNl s.data.toList)) (fun v => s.size - (intOf v).toNat)
  case atStart => exact ⟨0, by omega, rfl, rpF_zero _ s⟩
  case round =>
    obtain ⟨k, hk, rfl, H⟩ := hrel
    by_cases hlt : k < s.size
    · have ho := nlI_of s[k]
      by_cases hp : nlI (s[k].toNat : Int) = true
      · have HP : Hid (isNl s[k] = true) := ho.symm.trans hp
        clear ho
        go_wp2_with (go_at_call 68; refine (lex_nl _ _).mono ?_; rintro e w' ⟨rfl, rfl⟩)
        go_round
        case rel => exact ⟨k + 1, by omega, by go_num, (rpF_yes s hlt HP.out).trans H.out⟩
        case measure => simp [intOf]; omega
      · have HP : Hid (¬ isNl s[k] = true) := by rw [← ho]; exact hp
        clear ho
        go_wp2_with (go_at_call 68; refine (lex_nl _ _).mono ?_; rintro e w' ⟨rfl, rfl⟩)
        go_ret
        exact ⟨ret_int (by rw [← H.out, rpF_no s hlt HP.out]), rfl⟩
    · go_wp2
      go_ret
      exact ⟨ret_int (by rw [← H.out, rpF_end s (by omega)]; omega), rfl⟩
set_option maxHeartbeats 400000 in
theorem run_either (s : ByteArray) (w : World) (hs : s.size ≤ 1000000) : Calls Tryd.prog 67 #[.string s, .func (.func 99) #[] #[]] w fun e w' => e = .returned (.int .i64 (runLen isEither s.data.toList : Nat)) ∧ w = w' := by
  go_enter Tryd.func67, Tryd.ntmps67
  go_wp2
  go_loop [8] (fun v => ∃ k : Nat, k ≤ s.size ∧ v = .int .i64 k ∧ Hid (rpF isEither s k = runLen isEither s.data.toList)) (fun v => s.size - (intOf v).toNat)
  case atStart => exact ⟨0, by omega, rfl, rpF_zero _ s⟩
  case round =>
    obtain ⟨k, hk, rfl, H⟩ := hrel
    by_cases hlt : k < s.size
    · have ho := eitI_of s[k]
      by_cases hp : eitI (s[k].toNat : Int) = true
      · have HP : Hid (isEither s[k] = true) := ho.symm.trans hp
        clear ho
        go_wp2_with (go_at_call 99; refine (lex_either _ _).mono ?_; rintro e w' ⟨rfl, rfl⟩)
        go_round
        case rel => exact ⟨k + 1, by omega, by go_num, (rpF_yes s hlt HP.out).trans H.out⟩
        case measure => simp [intOf]; omega
      · have HP : Hid (¬ isEither s[k] = true) := by rw [← ho]; exact hp
        clear ho
        go_wp2_with (go_at_call 99; refine (lex_either _ _).mono ?_; rintro e w' ⟨rfl, rfl⟩)
        go_ret
        exact ⟨ret_int (by rw [← H.out, rpF_no s hlt HP.out]), rfl⟩
    · go_wp2
      go_ret
      exact ⟨ret_int (by rw [← H.out, rpF_end s (by omega)]; omega), rfl⟩
set_option maxHeartbeats 400000 in
theorem run_digit (s : ByteArray) (w : World) (hs : s.size ≤ 1000000) : Calls Tryd.prog 67 #[.string s, .func (.func 71) #[] #[]] w fun e w' => e = .returned (.int .i64 (runLen isDigit s.data.toList : Nat)) ∧ w = w' := by
  go_enter Tryd.func67, Tryd.ntmps67
  go_wp2
  go_loop [8] (fun v => ∃ k : Nat, k ≤ s.size ∧ v = .int .i64 k ∧ Hid (rpF isDigit s k = runLen isDigit s.data.toList)) (fun v => s.size - (intOf v).toNat)
  case atStart => exact ⟨0, by omega, rfl, rpF_zero _ s⟩
  case round =>
    obtain ⟨k, hk, rfl, H⟩ := hrel
    by_cases hlt : k < s.size
    · have ho := digI_of s[k]
      by_cases hp : digI (s[k].toNat : Int) = true
      · have HP : Hid (isDigit s[k] = true) := ho.symm.trans hp
        clear ho
        go_wp2_with (go_at_call 71; refine (lex_digit _ _).mono ?_; rintro e w' ⟨rfl, rfl⟩)
        go_round
        case rel => exact ⟨k + 1, by omega, by go_num, (rpF_yes s hlt HP.out).trans H.out⟩
        case measure => simp [intOf]; omega
      · have HP : Hid (¬ isDigit s[k] = true) := by rw [← ho]; exact hp
        clear ho
        go_wp2_with (go_at_call 71; refine (lex_digit _ _).mono ?_; rintro e w' ⟨rfl, rfl⟩)
        go_ret
        exact ⟨ret_int (by rw [← H.out, rpF_no s hlt HP.out]), rfl⟩
    · go_wp2
      go_ret
      exact ⟨ret_int (by rw [← H.out, rpF_end s (by omega)]; omega), rfl⟩

end Go.Proofs.YtecldgjdmomilaaDoor
