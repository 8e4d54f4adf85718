/-
  The lexer's signs and single tokens.
-/
import Derived.Test.YtecldgjdmomilaaDoorLexG
import Derived.Test.YtecldgjdmomilaaDoorShelfA
namespace Go.Proofs.YtecldgjdmomilaaDoor
open Go.RowKit LexSpec

/-! ### signs -/
def sgIdx (c : UInt8) : Int := Lib.indexByte [123, 125, 40, 41, 59, 44, 61] c
theorem sgIdx_all : ∀ n : Fin 256, decide (0 ≤ sgIdx (UInt8.ofNat n.val)) = isSign (UInt8.ofNat n.val) := by decide +kernel
theorem sgIdx_eq (c : UInt8) : decide (0 ≤ sgIdx c) = isSign c := by
  have h := sgIdx_all ⟨c.toNat, c.toNat_lt⟩
  simpa using h
theorem lex_idx (c : UInt8) (w : World) : Calls Tryd.prog 101 #[.string ⟨#[123, 125, 40, 41, 59, 44, 61]⟩, .int .u8 c.toNat] w fun e w' => e = .returned (.int .i64 (sgIdx c)) ∧ w = w' := by
  refine (Tryd.strings_IndexByte ⟨#[123, 125, 40, 41, 59, 44, 61]⟩ c.toNat w).mono ?_
  rintro e w' ⟨rfl, rfl⟩
  exact ⟨ret_int (by unfold sgIdx; simp), rfl⟩
def arrow (l : Bytes) : Bool := Lib.hasPrefix l [45, 62]
theorem arrow_cons (c : UInt8) (l : Bytes) : arrow (c :: l) = (decide (c.toNat = 45) && headGt l) := by
  unfold arrow Lib.hasPrefix
  cases l with
  | nil => simp [headGt, List.isPrefixOf]
  | cons d l =>
    simp only [List.isPrefixOf, headGt]
    rw [Bool.eq_iff_iff]
    simp only [Bool.and_eq_true, beq_iff_eq, decide_eq_true_eq, and_true, ← UInt8.toNat_inj]
    constructor
    · rintro ⟨h1, h2⟩; exact ⟨h1.symm, h2.symm⟩
    · rintro ⟨h1, h2⟩; exact ⟨h1.symm, h2.symm⟩
theorem lex_prefix (s : ByteArray) (w : World) : Calls Tryd.prog 100 #[.string s, .string ⟨#[45, 62]⟩] w fun e w' => e = .returned (.bool (arrow s.data.toList)) ∧ w = w' := by
  refine (Tryd.strings_HasPrefix s ⟨#[45, 62]⟩ w).mono ?_
  rintro e w' ⟨rfl, rfl⟩
  exact ⟨rfl, rfl⟩
theorem list_at (s : ByteArray) (h : 0 < s.size) : s.data.toList = s[0] :: s.data.toList.drop 1 := by
  have := drop_at s h
  rwa [List.drop_zero] at this
theorem signLen_at (s : ByteArray) (h : 0 < s.size) : signLen s.data.toList = if arrow s.data.toList = true then 2 else if isSign s[0] = true then 1 else 0 := by
  rw [list_at s h, arrow_cons]
  simp only [signLen]
  by_cases h1 : s[0].toNat = 45 ∧ headGt (s.data.toList.drop 1) = true
  · rw [if_pos h1, if_pos (by rw [Bool.and_eq_true, decide_eq_true_eq]; exact h1)]
  · rw [if_neg h1]
    have : ¬ (decide (s[0].toNat = 45) && headGt (s.data.toList.drop 1)) = true := by rw [Bool.and_eq_true, decide_eq_true_eq]; exact h1
    rw [if_neg this]

set_option maxHeartbeats 400000 in
theorem lex_sign (s : ByteArray) (w : World) (h : 0 < s.size) : Calls Tryd.prog 73 #[.string s] w fun e w' => e = .returned (.int .i64 (signLen s.data.toList : Nat)) ∧ w = w' := by
  have HS := Lib.hid (signLen_at s h)
  by_cases hp : arrow s.data.toList = true
  · go_enter Tryd.func73, Tryd.ntmps73
    go_wp2_with (first | (go_at_call 100; refine (lex_prefix _ _).mono ?_; rintro e w' ⟨rfl, rfl⟩) | (go_at_call 101; refine (lex_idx _ _).mono ?_; rintro e w' ⟨rfl, rfl⟩))
    go_ret
    exact ⟨ret_int (by rw [HS.out, if_pos hp]; rfl), rfl⟩
  · have he := sgIdx_eq s[0]
    by_cases hq : isSign s[0] = true
    · have h0 : 0 ≤ sgIdx s[0] := of_decide_eq_true (he.trans hq)
      clear he
      go_enter Tryd.func73, Tryd.ntmps73
      go_wp2_with (first | (go_at_call 100; refine (lex_prefix _ _).mono ?_; rintro e w' ⟨rfl, rfl⟩) | (go_at_call 101; refine (lex_idx _ _).mono ?_; rintro e w' ⟨rfl, rfl⟩))
      go_ret
      exact ⟨ret_int (by rw [HS.out, if_neg hp, if_pos hq]; rfl), rfl⟩
    · have h0 : sgIdx s[0] < 0 := by
        have := of_decide_eq_false (he.trans (by simpa using hq))
        omega
      clear he
      go_enter Tryd.func73, Tryd.ntmps73
      go_wp2_with (first | (go_at_call 100; refine (lex_prefix _ _).mono ?_; rintro e w' ⟨rfl, rfl⟩) | (go_at_call 101; refine (lex_idx _ _).mono ?_; rintro e w' ⟨rfl, rfl⟩))
      go_ret
      exact ⟨ret_int (by rw [HS.out, if_neg hp, if_neg hq]; rfl), rfl⟩

/-! ### a token -/
theorem nmR_zero (s : ByteArray) (h : 0 < s.size) (h0 : ¬ letI' (s[0].toNat : Int) = true) (hd : digI (s[0].toNat : Int) = true) : one s.data.toList = (2, (nmR s 0).1, (nmR s 0).2) := by
  have := one_digit s h h0 hd
  rwa [List.drop_zero, Nat.sub_zero] at this
theorem pair_eq {k n p m : Int} {b : ByteArray} {l : Bytes} (h : b = strB l) : Ending.returned (.tuple #[.agg #[.int .i64 k, .string b, .int .i64 n, .int .i64 p], .int .i64 m]) = Ending.returned (.tuple #[.agg #[.int .i64 k, .string (strB l), .int .i64 n, .int .i64 p], .int .i64 m]) := by rw [h]
theorem ext0_strB (s : ByteArray) (n : Nat) : s.extract 0 n = strB (s.data.toList.take n) := by rw [extract_strB]; simp

theorem sgF0 (s : ByteArray) : sgF s 0 = signLen s.data.toList := by unfold sgF; simp
theorem box4 {w : World} {g : Nat} {t : TypeId} {a b c d : Value} (h : Box w g t #[a, b, c, d]) :
    w.cell? ⟨g, 0, none⟩ = some a ∧ w.cell? ⟨g, 1, none⟩ = some b ∧ w.cell? ⟨g, 2, none⟩ = some c ∧ w.cell? ⟨g, 3, none⟩ = some d ∧ w.frozen? ⟨g, 0, none⟩ = false ∧ w.frozen? ⟨g, 1, none⟩ = false ∧ w.frozen? ⟨g, 2, none⟩ = false ∧ w.frozen? ⟨g, 3, none⟩ = false :=
  ⟨h.look 0, h.look 1, h.look 2, h.look 3, h.free 0, h.free 1, h.free 2, h.free 3⟩
/-- Two new blocks, and what a call that only makes memory leaves of them. -/
theorem two_boxes {w w1 : World} {t u : TypeId} {cs ds : Array Value} (hb : Below ((w.alloc (.cells cs t)).alloc (.cells ds u)).heap.size ((w.alloc (.cells cs t)).alloc (.cells ds u)) w1) :
    Box w1 w.heap.size t cs ∧ Box w1 (w.heap.size + 1) u ds ∧ Below w.heap.size w w1 ∧ w.heap.size + 1 < w1.heap.size := by
  have b2 : Box ((w.alloc (.cells cs t)).alloc (.cells ds u)) (w.heap.size + 1) u ds := by
    have := Box.made (w.alloc (.cells cs t)) u ds
    simpa using this
  have h2 := b2.below hb (by simp)
  exact ⟨((Box.made w t cs).alloc _).below hb (by simp; omega), h2, below_to (B := w.heap.size) (by go_grown) (by simp; omega) hb, h2.lt⟩

set_option maxHeartbeats 800000 in
theorem lex_token (s : ByteArray) (kind len n : Nat) (w : World) (hs : s.size ≤ 1000000) (hi : 0 < s.size) (hu : Units w) (h1 : one s.data.toList = (kind, len, n)) :
    Calls Tryd.prog 35 #[.string s] w fun e w' => e = .returned (.tuple #[.agg #[.int .i64 kind, .string (strB (s.data.toList.take len)), .int .i64 n, .int .i64 0], .int .i64 len]) ∧ Below w.heap.size w w' := by
  have hle := (one_le s.data.toList).1
  rw [h1] at hle
  have hlen : len ≤ s.size := by simpa using hle
  clear hle
  by_cases hL : letI' (s[0].toNat : Int) = true
  · have e1 := one_letter s hi hL
    rw [List.drop_zero, h1, wdF0, Nat.sub_zero] at e1
    simp only [Prod.mk.injEq] at e1
    obtain ⟨rfl, rfl, rfl⟩ := e1
    clear h1
    go_enter Tryd.func35, Tryd.ntmps35
    go_wp2_with (first | (go_at_call 69; refine (lex_letter _ _).mono ?_; rintro e w' ⟨rfl, rfl⟩) | (go_at_call 70; refine (lex_word _ _ hs).mono ?_; rintro e w' ⟨rfl, rfl⟩))
    go_returns
    exact ⟨pair_eq (ext0_strB _ _), by go_grown⟩
  · by_cases hD : digI (s[0].toNat : Int) = true
    · have e1 := nmR_zero s hi hL hD
      rw [h1] at e1
      simp only [Prod.mk.injEq] at e1
      obtain ⟨rfl, rfl, rfl⟩ := e1
      clear h1
      go_enter Tryd.func35, Tryd.ntmps35
      go_wp2_with (first | (go_at_call 69; refine (lex_letter _ _).mono ?_; rintro e w' ⟨rfl, rfl⟩) | (go_at_call 71; refine (lex_digit _ _).mono ?_; rintro e w' ⟨rfl, rfl⟩) | (go_at_call 72; refine (lex_number _ _ hs (hu.below (by go_grown) hu.lt)).mono ?_; rintro e w1 ⟨rfl, hb1⟩; obtain ⟨bA, bB, hbl, hz⟩ := two_boxes hb1; obtain ⟨a0, a1, a2, a3, fa0, fa1, fa2, fa3⟩ := box4 bA; obtain ⟨c0, c1, c2, c3, fc0, fc1, fc2, fc3⟩ := box4 bB; clear hb1))
      refine bodyPost_ret (v := .tuple #[.agg #[.int .i64 2, .string (s.extract 0 (nmR s 0).1), .int .i64 (nmR s 0).2, .int .i64 0], .int .i64 (nmR s 0).1]) (by simp [results, Tryd.results35, go_sem, a0, a1, a2, a3]) rfl ?_
      exact ⟨pair_eq (ext0_strB _ _), by go_grown⟩
    · have e1 := one_sign s hi hL hD
      rw [List.drop_zero, h1, Nat.sub_zero, sgF0] at e1
      simp only [Prod.mk.injEq] at e1
      obtain ⟨rfl, rfl, rfl⟩ := e1
      clear h1
      go_enter Tryd.func35, Tryd.ntmps35
      go_wp2_with (first | (go_at_call 69; refine (lex_letter _ _).mono ?_; rintro e w' ⟨rfl, rfl⟩) | (go_at_call 71; refine (lex_digit _ _).mono ?_; rintro e w' ⟨rfl, rfl⟩) | (go_at_call 73; refine (lex_sign _ _ hi).mono ?_; rintro e w' ⟨rfl, rfl⟩))
      go_returns
      exact ⟨pair_eq (ext0_strB _ _), by go_grown⟩
end Go.Proofs.YtecldgjdmomilaaDoor
