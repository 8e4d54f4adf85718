/-
  Decimal notation: reading it and printing it, in plain words.
-/
import Derived.Test.YtecdkgiandbkeaaGreatDoorScSpec
import Derived.Lib.AtoiTie
import Derived.Lib.ItoaMem
import Derived.Lib.ItoaNum
namespace Go.Proofs.YtecdkgiandbkeaaGreatDoor.ScSpec

theorem decVal_eq (l : Bytes) : ∀ n, decVal n l = Lib.decFrom n l := by
  induction l with
  | nil => intro n; rfl
  | cons c l ih =>
    intro n
    simp only [decVal, Lib.decFrom, Lib.digitVal]
    by_cases h : 48 ≤ c.toNat ∧ c.toNat ≤ 57
    · have hd : isDigit c = true := by unfold isDigit; simpa using h
      rw [if_pos h, if_pos hd, ih, Nat.mul_comm]
    · have hd : ¬ isDigit c = true := by unfold isDigit; simpa using h
      rw [if_neg h, if_neg hd]
theorem digits_eq (n : Nat) : digits n = Lib.decDigits n := by
  induction n using Nat.strongRecOn with
  | _ n ih =>
    rw [digits, Lib.decDigits]
    split
    · rfl
    · rw [ih (n / 10) (by omega)]
theorem digit_byte {d : Nat} (h : d < 10) : Lib.digitVal (UInt8.ofNat (48 + d)) = some d := by
  have e : (UInt8.ofNat (48 + d)).toNat = 48 + d := by simp; omega
  unfold Lib.digitVal
  rw [e, if_pos (by omega)]
  congr 1; omega
theorem decFrom_snoc (l : Bytes) (b : UInt8) : ∀ n, Lib.decFrom n (l ++ [b]) = (Lib.decFrom n l).bind fun m => (Lib.digitVal b).map fun d => m * 10 + d := by
  induction l with
  | nil =>
    intro n
    simp only [List.nil_append, Lib.decFrom, Option.bind_some]
    cases Lib.digitVal b <;> rfl
  | cons c l ih =>
    intro n
    simp only [List.cons_append, Lib.decFrom]
    cases Lib.digitVal c with
    | none => rfl
    | some d => exact ih _
theorem decDigits_big {n : Nat} (h : ¬ n < 10) : Lib.decDigits n = Lib.decDigits (n / 10) ++ [UInt8.ofNat (48 + n % 10)] := by rw [Lib.decDigits, dif_neg h]
theorem decFrom_digits (n : Nat) : Lib.decFrom 0 (Lib.decDigits n) = some n := by
  induction n using Nat.strongRecOn with
  | _ n ih =>
    by_cases h : n < 10
    · rw [Lib.decDigits_one h]
      simp only [Lib.decFrom, digit_byte h]; simp
    · rw [decDigits_big h, decFrom_snoc, ih _ (by omega), Option.bind_some, digit_byte (by omega), Option.map_some]
      congr 1; omega
theorem decDigits_ne (n : Nat) : Lib.decDigits n ≠ [] := by
  by_cases h : n < 10
  · rw [Lib.decDigits_one h]; simp
  · rw [decDigits_big h]; simp
theorem decDigits_head (n : Nat) (h0 : 0 < n) : (Lib.decDigits n).head? ≠ some 48 := by
  induction n using Nat.strongRecOn with
  | _ n ih =>
    by_cases h : n < 10
    · rw [Lib.decDigits_one h]
      simp only [List.head?_cons, ne_eq, Option.some.injEq]
      intro e
      have := congrArg UInt8.toNat e
      simp at this
      omega
    · rw [decDigits_big h]
      have := ih (n / 10) (by omega) (by omega)
      cases hd : Lib.decDigits (n / 10) with
      | nil => exact absurd hd (decDigits_ne _)
      | cons c l => rw [hd] at this; simpa using this
theorem digits_of_dec (w : Bytes) : ∀ n, w ≠ [] → (1 < w.length → w.head? ≠ some 48) → Lib.decFrom 0 w = some n → Lib.decDigits n = w := by
  induction hn : w.length generalizing w with
  | zero => intro n h; exact absurd (List.length_eq_zero_iff.1 hn) h
  | succ k ih =>
    intro n h0 h1 hd
    obtain ⟨l, b, rfl⟩ : ∃ l b, w = l ++ [b] := ⟨w.dropLast, w.getLast h0, (List.dropLast_concat_getLast h0).symm⟩
    rw [decFrom_snoc] at hd
    obtain ⟨m, hm, hd⟩ := Option.bind_eq_some_iff.1 hd
    obtain ⟨d, hdv, rfl⟩ := Option.map_eq_some_iff.1 hd
    have hb : 48 ≤ b.toNat ∧ b.toNat ≤ 57 ∧ d = b.toNat - 48 := by
      unfold Lib.digitVal at hdv
      split at hdv
      · rename_i h; exact ⟨h.1, h.2, (Option.some.inj hdv).symm⟩
      · cases hdv
    have eb : UInt8.ofNat (48 + d) = b := by
      rw [hb.2.2, show 48 + (b.toNat - 48) = b.toNat from by omega]; simp
    by_cases hl : l = []
    · subst hl
      simp only [Lib.decFrom, Option.some.injEq] at hm
      subst hm
      rw [Nat.zero_mul, Nat.zero_add, Lib.decDigits_one (by omega), eb]; rfl
    · have hlen : 0 < l.length := List.length_pos_iff.2 hl
      have hh : l.head? ≠ some 48 := by
        have := h1 (by rw [List.length_append, List.length_singleton] at hn; omega)
        cases l with
        | nil => exact absurd rfl hl
        | cons c r => simpa using this
      have hm2 := ih l (by simp at hn; exact hn) m hl (fun _ => hh) hm
      have hm0 : 0 < m := by
        rcases Nat.eq_zero_or_pos m with h | h
        · subst h
          rw [Lib.decDigits_one (by omega)] at hm2
          exact absurd (by rw [← hm2]; rfl) hh
        · exact h
      rw [decDigits_big (by omega), show (m * 10 + d) / 10 = m from by omega, show (m * 10 + d) % 10 = d from by omega, hm2, eb]
theorem dec_parts {w : Bytes} {n : Nat} (h : dec w = some n) : w ≠ [] ∧ w.length ≤ 13 ∧ (1 < w.length → w.head? ≠ some 48) ∧ Lib.decFrom 0 w = some n := by
  unfold dec at h
  split at h
  · cases h
  · rename_i hc
    rw [decVal_eq] at h
    exact ⟨fun e => hc (.inl (by rw [e]; rfl)), by omega, fun h1 h2 => hc (.inr (.inr ⟨h1, h2⟩)), h⟩
theorem dec_mk {w : Bytes} {n : Nat} (h0 : w ≠ []) (h1 : w.length ≤ 13) (h2 : 1 < w.length → w.head? ≠ some 48) (h3 : Lib.decFrom 0 w = some n) : dec w = some n := by
  unfold dec
  rw [if_neg ?_, decVal_eq, h3]
  rintro (h | h | h)
  · exact h0 (List.length_eq_zero_iff.1 h)
  · omega
  · exact h2 h.1 h.2
/-- A number's decimal notation denotes it. -/
theorem dec_digits (n : Nat) (h : (digits n).length ≤ 13) : dec (digits n) = some n := by
  rw [digits_eq] at h ⊢
  refine dec_mk (decDigits_ne n) h (fun h1 h2 => ?_) (decFrom_digits n)
  rcases Nat.eq_zero_or_pos n with h0 | h0
  · subst h0
    rw [Lib.decDigits_one (by omega)] at h1
    simp at h1
  · exact decDigits_head n h0 h2
theorem digits_dec {w : Bytes} {n : Nat} (h : dec w = some n) : digits n = w := by
  obtain ⟨h0, h1, h2, h3⟩ := dec_parts h
  rw [digits_eq]
  exact digits_of_dec w n h0 h2 h3
theorem itoa_digits (n : Nat) : Lib.itoa (n : Int) = digits n := by rw [Lib.itoa_nonneg, digits_eq]
theorem dec_lt {w : Bytes} {n : Nat} (h : dec w = some n) : n < 10000000000000 := by
  obtain ⟨h0, h1, h2, h3⟩ := dec_parts h
  have := Lib.decFrom_lt w 0 n h3
  have hp : 10 ^ w.length ≤ 10 ^ 13 := Nat.pow_le_pow_right (by decide) h1
  have e : (10 : Nat) ^ 13 = 10000000000000 := by decide
  omega
theorem atoi_dec {w : Bytes} {n : Nat} (h : dec w = some n) : Lib.atoiAll w = .ok (n : Int) := by
  obtain ⟨h0, h1, h2, h3⟩ := dec_parts h
  rw [Lib.atoiAll_short w (by omega)]
  have hd := Lib.digit_of_decFrom w 0 n h3
  cases w with
  | nil => exact absurd rfl h0
  | cons c r =>
    obtain ⟨d, hc⟩ := hd 0 c rfl
    have hc' : 48 ≤ c.toNat ∧ c.toNat ≤ 57 := by
      unfold Lib.digitVal at hc
      split at hc
      · assumption
      · cases hc
    simp only [Lib.atoi]
    rw [if_neg (by intro e; have e := eq_of_beq e; subst e; simp at hc'), if_neg (by intro e; have e := eq_of_beq e; subst e; simp at hc')]
    unfold Lib.decNat
    rw [if_neg (by simp), h3]; rfl
/-- What the program's test says: the notation of the number read is the text. -/
theorem dec_test {w : Bytes} {v : Int} (h0 : 0 ≤ v) (h1 : w.length ≤ 13) (h2 : Lib.itoa v = w) : dec w = some v.toNat := by
  obtain ⟨n, rfl⟩ : ∃ n : Nat, v = n := ⟨v.toNat, by omega⟩
  rw [itoa_digits] at h2
  subst h2
  exact dec_digits n h1
theorem dec_val {w : Bytes} {v : Int} (h : Lib.atoiAll w = .ok v) {m : Nat} (hm : dec w = some m) : v = m := by
  have := atoi_dec hm
  rw [h] at this
  injection this
theorem dec_some_of {w : Bytes} {v : Int} (h0 : 0 ≤ v) (h1 : w.length ≤ 13) (h2 : Lib.itoa v = w) : (dec w).isSome = true := by rw [dec_test h0 h1 h2]; rfl
theorem dec_none_of {w : Bytes} {v : Int} (h : Lib.atoiAll w = .ok v) (hn : ¬ (0 ≤ v ∧ w.length ≤ 13 ∧ Lib.itoa v = w)) : dec w = none := by
  cases hd : dec w with
  | none => rfl
  | some m =>
    obtain rfl := dec_val h hd
    exact absurd ⟨Int.natCast_nonneg m, (dec_parts hd).2.1, by rw [itoa_digits, digits_dec hd]⟩ hn
theorem dec_none_err {w : Bytes} (h : ∀ v, Lib.atoiAll w ≠ .ok v) : dec w = none := by
  cases hd : dec w with
  | none => rfl
  | some m => exact absurd (atoi_dec hd) (h _)
end Go.Proofs.YtecdkgiandbkeaaGreatDoor.ScSpec
