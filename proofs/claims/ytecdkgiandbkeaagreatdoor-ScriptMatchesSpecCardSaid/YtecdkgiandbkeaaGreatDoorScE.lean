/-
  Runes and bytes: the script package looks for odd characters rune by rune; what it finds, byte by byte.
-/
import Derived.Test.YtecdkgiandbkeaaGreatDoorScD
import Derived.Lib.DecodeN
import Derived.Lib.TrimUEq
namespace Go.Proofs.YtecdkgiandbkeaaGreatDoor
open Go.RowKit ScSpec Go.Sort

theorem decodeN_high (n b0 b1 b2 b3 : Nat) (h : 128 ≤ b0) : 128 ≤ (Lib.decodeN n b0 b1 b2 b3).1 ∧
    ((Lib.decodeN n b0 b1 b2 b3).2 = 1 ∨ ((Lib.decodeN n b0 b1 b2 b3).2 = 2 ∧ 1 < n ∧ b1 / 64 = 2) ∨ ((Lib.decodeN n b0 b1 b2 b3).2 = 3 ∧ 2 < n ∧ b1 / 64 = 2 ∧ b2 / 64 = 2) ∨ ((Lib.decodeN n b0 b1 b2 b3).2 = 4 ∧ 3 < n ∧ b1 / 64 = 2 ∧ b2 / 64 = 2 ∧ b3 / 64 = 2)) := by
  unfold Lib.decodeN
  rw [if_neg (by omega)]
  repeat' split
  all_goals
    refine ⟨?_, ?_⟩
    · show 128 ≤ _
      omega
    · first
      | exact .inl rfl
      | exact .inr (.inl ⟨rfl, by omega, by omega⟩)
      | exact .inr (.inr (.inl ⟨rfl, by omega, by omega, by omega⟩))
      | exact .inr (.inr (.inr ⟨rfl, by omega, by omega, by omega, by omega⟩))
theorem strB_get (l : Bytes) (i : Nat) (h : i < l.length) : (strB l).get! i = l[i] := by
  have e : (strB l).get! i = (strB l).data[i]! := rfl
  rw [e, getElem!_pos _ _ (by simpa [strB] using h)]
  simp [strB]
theorem decode_low (l : Bytes) (i : Nat) (h : i < l.length) (hb : l[i].toNat < 128) : Utf8.decode (strB l) i = (l[i].toNat, 1) := by
  rw [Lib.decode_at, strB_get l i h, Lib.decodeN_ascii _ _ _ _ _ hb]
theorem decode_high (l : Bytes) (i : Nat) (h : i < l.length) (hb : 128 ≤ l[i].toNat) :
    128 ≤ (Utf8.decode (strB l) i).1 ∧ 1 ≤ (Utf8.decode (strB l) i).2 ∧ i + (Utf8.decode (strB l) i).2 ≤ l.length ∧ ∀ j (hj : j < l.length), i ≤ j → j < i + (Utf8.decode (strB l) i).2 → 128 ≤ l[j].toNat := by
  have hd := decodeN_high ((strB l).size - i) ((strB l).get! i).toNat ((strB l).get! (i + 1)).toNat ((strB l).get! (i + 2)).toNat ((strB l).get! (i + 3)).toNat (by rw [strB_get l i h]; exact hb)
  rw [← Lib.decode_at, strB_size] at hd
  obtain ⟨h1, h2⟩ := hd
  refine ⟨h1, by omega, by omega, fun j hj hij hjw => ?_⟩
  have g1 : ∀ k (hk : i + k < l.length), (strB l).get! (i + k) = l[i + k] := fun k hk => strB_get l _ hk
  obtain ⟨d, rfl⟩ : ∃ d, j = i + d := ⟨j - i, by omega⟩
  have hd4 : d = 0 ∨ d = 1 ∨ d = 2 ∨ d = 3 := by omega
  rcases hd4 with rfl | rfl | rfl | rfl
  · exact hb
  · rw [← g1 1 hj]; omega
  · rw [← g1 2 hj]; omega
  · rw [← g1 3 hj]; omega

def pOdd (x : Nat) : Bool := decide (x ≠ 10) && (decide (x < 32) || decide (126 < x))
theorem odd_from (l : Bytes) : ∀ (f pos : Nat), l.length ≤ pos + f → decide (0 ≤ Lib.idxFuncFrom pOdd true (strB l) f pos) = (l.drop pos).any oddC := by
  intro f
  induction f with
  | zero =>
    intro pos h
    rw [List.drop_of_length_le (by omega)]; rfl
  | succ f ih =>
    intro pos h
    unfold Lib.idxFuncFrom
    rw [strB_size]
    by_cases hlt : pos < l.length
    · rw [if_pos hlt, List.drop_eq_getElem_cons hlt, List.any_cons]
      by_cases hb : l[pos].toNat < 128
      · rw [decode_low l pos hlt hb]
        have e : pOdd l[pos].toNat = oddC l[pos] := rfl
        simp only [e]
        cases ho : oddC l[pos] with
        | true => simp
        | false =>
          rw [if_neg (by simp), ih (pos + 1) (by omega)]; simp
      · obtain ⟨h1, _, _, _⟩ := decode_high l pos hlt (by omega)
        have e1 : pOdd (Utf8.decode (strB l) pos).1 = true := by unfold pOdd; simp; omega
        have e2 : oddC l[pos] = true := by unfold oddC; simp; omega
        rw [if_pos e1, e2]; simp
    · rw [if_neg hlt, List.drop_of_length_le (by omega)]; rfl
theorem odd_idx (l : Bytes) : decide (0 ≤ Lib.idxFunc pOdd true (strB l)) = l.any oddC := by
  unfold Lib.idxFunc
  rw [odd_from l _ 0 (by rw [strB_size]; omega)]; rfl

theorem sc_odd1 (x : Nat) (w : World) : Calls Tryz.prog 58 #[.int .i32 x] w fun e w' => e = .returned (.bool (pOdd x)) ∧ w = w' := by
  unfold pOdd
  by_cases h : x = 10
  · subst h
    go_enter Tryz.func58, Tryz.ntmps58
    go_wp2
    go_ret
    exact ⟨rfl, rfl⟩
  · have b := bne_iff_ne.2 (show (x : Int) ≠ 10 by omega)
    go_enter Tryz.func58, Tryz.ntmps58
    by_cases h2 : x < 32
    · have d2 := decide_eq_true (show (x : Int) < 32 by omega)
      go_wp2
      go_ret
      exact ⟨ret_bool (by simp [h, h2]), rfl⟩
    · have d2 := decide_eq_false (show ¬ (x : Int) < 32 by omega)
      go_wp2
      go_ret
      exact ⟨ret_bool (by simp [h, h2] <;> omega), rfl⟩
end Go.Proofs.YtecdkgiandbkeaaGreatDoor
