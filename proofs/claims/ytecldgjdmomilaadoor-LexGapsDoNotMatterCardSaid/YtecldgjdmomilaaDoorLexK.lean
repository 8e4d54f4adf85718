/-
  Spot: the lexer's and the reference's return the same line and column.
-/
import Derived.Test.YtecldgjdmomilaaDoorLexJ
namespace Go.Proofs.YtecldgjdmomilaaDoor
open Go.RowKit LexSpec

/-- The index, held between 0 and the length. -/
def spM (s : ByteArray) (i : Int) : Nat := (min (max i 0) (s.size : Int)).toNat
theorem spM_le (s : ByteArray) (i : Int) : spM s i ≤ s.size := by unfold spM; omega
def lnF (s : ByteArray) (m : Nat) : Int := 1 + ((s.data.toList.take m).count 10 : Nat)
def coF (s : ByteArray) (m : Nat) : Int := (m : Int) - Lib.lastIdx s 10 m
theorem data_bang (s : ByteArray) {k : Nat} (h : k < s.size) : s.data[k]! = s[k] := by
  have h' : k < s.data.size := h
  rw [getElem!_pos s.data k h']; rfl
theorem last_ext (s : ByteArray) {m : Nat} (hm : m ≤ s.size) : ∀ j, j ≤ m → Lib.lastIdx (s.extract 0 m) 10 j = Lib.lastIdx s 10 j := by
  intro j
  induction j with
  | zero => intro _; rfl
  | succ j ih =>
    intro hj
    have hz : (s.extract 0 m).size = m := by rw [ext0_strB, strB_size]; simp; exact Nat.min_eq_left hm
    have e : (s.extract 0 m).data[j]! = s.data[j]! := by
      rw [data_bang s (show j < s.size by omega), data_bang (s.extract 0 m) (show j < (s.extract 0 m).size by omega), ByteArray.getElem_extract]
      congr 1; omega
    unfold Lib.lastIdx
    rw [e, ih (by omega)]
theorem last_ext' (s : ByteArray) {m : Nat} (hm : m ≤ s.size) : Lib.lastIndexByte (s.extract 0 m) 10 = Lib.lastIdx s 10 m := by
  have hz : (s.extract 0 m).size = m := by rw [ext0_strB, strB_size]; simp; exact Nat.min_eq_left hm
  unfold Lib.lastIndexByte
  rw [hz]
  exact last_ext s hm m (Nat.le_refl _)
theorem last_bounds (s : ByteArray) (m : Nat) : -1 ≤ Lib.lastIdx s 10 m ∧ Lib.lastIdx s 10 m < m := by
  rcases Lib.lastIdx_spec s 10 m with ⟨e, _⟩ | ⟨i, hi, e, _⟩ <;> omega
theorem count_le (s : ByteArray) (m : Nat) : (s.data.toList.take m).count 10 ≤ s.size := by
  have := List.count_le_length (a := (10 : UInt8)) (l := s.data.toList.take m)
  rw [List.length_take] at this
  simp only [Array.length_toList] at this
  have : s.data.size = s.size := rfl
  omega
theorem lnF_nl (s : ByteArray) {k : Nat} (h : k < s.size) (hc : s[k].toNat = 10) : lnF s (k + 1) = lnF s k + 1 := by
  have h' : k < s.data.toList.length := by simpa using h
  have e : s.data.toList[k] = 10 := by
    rw [Array.getElem_toList]
    have : s[k] = 10 := by rw [← UInt8.toNat_inj]; exact hc
    exact this
  unfold lnF
  rw [List.take_succ_eq_append_getElem h', List.count_append, e]
  simp; omega
theorem lnF_other (s : ByteArray) {k : Nat} (h : k < s.size) (hc : ¬ s[k].toNat = 10) : lnF s (k + 1) = lnF s k := by
  have h' : k < s.data.toList.length := by simpa using h
  have e : s.data.toList[k] ≠ 10 := by
    rw [Array.getElem_toList]
    intro h10
    apply hc
    have : s[k] = 10 := h10
    rw [this]; rfl
  unfold lnF
  rw [List.take_succ_eq_append_getElem h', List.count_append, List.count_singleton, if_neg (by simpa using e)]
  simp
theorem coF_nl (s : ByteArray) {k : Nat} (h : k < s.size) (hc : s[k].toNat = 10) : coF s (k + 1) = 1 := by
  unfold coF
  rw [Lib.lastIdx_hit s 10 k (by rw [data_bang s h]; omega)]; omega
theorem coF_other (s : ByteArray) {k : Nat} (h : k < s.size) (hc : ¬ s[k].toNat = 10) : coF s (k + 1) = coF s k + 1 := by
  unfold coF
  rw [Lib.lastIdx_miss s 10 k (by rw [data_bang s h]; omega)]; omega

theorem count_call (s : ByteArray) (m : Nat) (w : World) : Calls Tryd.prog 38 #[.string (s.extract 0 m), .string ⟨#[10]⟩] w fun e w' => e = .returned (.int .i64 ((s.data.toList.take m).count 10 : Nat)) ∧ w = w' := by
  refine (Tryd.strings_Count_one (s.extract 0 m) 10 w).mono ?_
  rintro e w' ⟨rfl, rfl⟩
  exact ⟨ret_int (by unfold Lib.countByte; rw [ext0_toList]), rfl⟩
theorem last_call (s : ByteArray) (m : Nat) (w : World) (hm : m ≤ s.size) (hs : s.size ≤ 1000000) : Calls Tryd.prog 39 #[.string (s.extract 0 m), .int .u8 10] w fun e w' => e = .returned (.int .i64 (Lib.lastIdx s 10 m)) ∧ w = w' := by
  have hz : (s.extract 0 m).size = m := by rw [ext0_strB, strB_size]; simp; exact Nat.min_eq_left hm
  refine (Tryd.strings_LastIndexByte (s.extract 0 m) 10 (by omega) w).mono ?_
  rintro e w' ⟨rfl, rfl⟩
  exact ⟨ret_int (last_ext' s hm), rfl⟩

set_option maxHeartbeats 400000 in
theorem lex_spot (s : ByteArray) (i : Int) (w : World) (hs : s.size ≤ 1000000) : Calls Tryd.prog 19 #[.string s, .int .i64 i] w fun e w' => e = .returned (.tuple #[.int .i64 (lnF s (spM s i)), .int .i64 (coF s (spM s i))]) ∧ w = w' := by
  have hle := spM_le s i
  have hb := last_bounds s (spM s i)
  have hc := count_le s (spM s i)
  have hz : (s.extract 0 (spM s i)).size = spM s i := by rw [ext0_strB, strB_size]; simp; exact Nat.min_eq_left hle
  have hdef : spM s i = (min (max i 0) (s.size : Int)).toNat := rfl
  rw [hdef] at hle hb hc hz
  have HM := Lib.hid hdef
  clear hdef
  go_enter Tryd.func19, Tryd.ntmps19
  go_wp2_with (first | (go_at_call 38; refine (count_call s _ _).mono ?_; rintro e w' ⟨rfl, rfl⟩) | (go_at_call 39; refine (last_call s _ _ hle hs).mono ?_; rintro e w' ⟨rfl, rfl⟩))
  go_ret2
  refine ⟨?_, rfl⟩
  rw [HM.out]
  unfold lnF coF
  refine ret_pair ?_ ?_
  · omega
  · omega

set_option maxHeartbeats 400000 in
theorem ref_spot (s : ByteArray) (i : Int) (w : World) (hs : s.size ≤ 1000000) : Calls Tryd.prog 20 #[.string s, .int .i64 i] w fun e w' => e = .returned (.tuple #[.int .i64 (lnF s (spM s i)), .int .i64 (coF s (spM s i))]) ∧ w = w' := by
  go_enter Tryd.func20, Tryd.ntmps20
  go_wp2
  go_loop [6, 7, 8] (fun l c v => ∃ (k : Nat) (x y : Int), k ≤ spM s i ∧ v = .int .i64 k ∧ l = .int .i64 x ∧ c = .int .i64 y ∧ 0 ≤ x ∧ x ≤ k + 1 ∧ 0 ≤ y ∧ y ≤ k + 1 ∧ Hid (x = lnF s k) ∧ Hid (y = coF s k)) (fun _ _ v => s.size - (intOf v).toNat)
  case atStart => exact ⟨0, 1, 1, by omega, rfl, rfl, rfl, by omega, by omega, by omega, by omega, rfl, rfl⟩
  case round =>
    obtain ⟨k, x, y, hk, rfl, rfl, rfl, hx0, hx, hy0, hy, HX, HY⟩ := hrel
    have hle := spM_le s i
    have hdef : spM s i = (min (max i 0) (s.size : Int)).toNat := rfl
    by_cases hki : (k : Int) < i
    · by_cases hlt : k < s.size
      · by_cases h10 : s[k].toNat = 10
        · have b10 := ib_yes (show (s[k].toNat : Int) = 10 by omega)
          have HL := Lib.hid (lnF_nl s hlt h10)
          have HC := Lib.hid (coF_nl s hlt h10)
          have hk1 : k + 1 ≤ spM s i := by omega
          clear h10 hdef
          go_wp2
          go_round
          case rel => exact ⟨k + 1, x + 1, 1, hk1, by go_num, rfl, rfl, by omega, by omega, by omega, by omega, (show x + 1 = lnF s (k + 1) by rw [HL.out, ← HX.out]), HC.out.symm⟩
          case measure => simp [intOf]; omega
        · have b10 := ib_no (show (s[k].toNat : Int) ≠ 10 by omega)
          have HL := Lib.hid (lnF_other s hlt h10)
          have HC := Lib.hid (coF_other s hlt h10)
          have hk1 : k + 1 ≤ spM s i := by omega
          clear h10 hdef
          go_wp2
          go_round
          case rel => exact ⟨k + 1, x, y + 1, hk1, by go_num, rfl, rfl, by omega, by omega, by omega, by omega, (show x = lnF s (k + 1) by rw [HL.out, ← HX.out]), (show y + 1 = coF s (k + 1) by rw [HC.out, ← HY.out])⟩
          case measure => simp [intOf]; omega
      · have HK : Hid (spM s i = k) := by show spM s i = k; omega
        clear hdef
        go_wp2
        go_ret2
        exact ⟨by rw [HK.out, ← HX.out, ← HY.out]; rfl, rfl⟩
    · have HK : Hid (spM s i = k) := by show spM s i = k; omega
      clear hdef
      go_wp2
      go_ret2
      exact ⟨by rw [HK.out, ← HX.out, ← HY.out]; rfl, rfl⟩
end Go.Proofs.YtecldgjdmomilaaDoor
