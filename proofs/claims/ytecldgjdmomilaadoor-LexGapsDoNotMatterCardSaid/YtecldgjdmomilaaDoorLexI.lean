/-
  The lexer's list of tokens.
-/
import Derived.Test.YtecldgjdmomilaaDoorLexH
namespace Go.Proofs.YtecldgjdmomilaaDoor
open Go.RowKit LexSpec

theorem lex_blanks_at (s : ByteArray) (k : Nat) (w : World) (hs : s.size ≤ 1000000) : Calls Tryd.prog 34 #[.string (s.extract k s.size)] w fun e w' => e = .returned (.int .i64 (bl false (s.data.toList.drop k) : Nat)) ∧ w = w' := by
  have h := lex_blanks (s.extract k s.size) w (by rw [ext_size]; omega)
  rw [ext_toList] at h
  exact h
theorem lex_token_at (s : ByteArray) (k kind len n : Nat) (w : World) (hs : s.size ≤ 1000000) (hi : k < s.size) (hu : Units w) (h1 : one (s.data.toList.drop k) = (kind, len, n)) :
    Calls Tryd.prog 35 #[.string (s.extract k s.size)] w fun e w' => e = .returned (.tuple #[.agg #[.int .i64 kind, .string (strB ((s.data.toList.drop k).take len)), .int .i64 n, .int .i64 0], .int .i64 len]) ∧ Below w.heap.size w w' := by
  have h := lex_token (s.extract k s.size) kind len n w (by rw [ext_size]; omega) (by rw [ext_size]; omega) hu (by rw [ext_toList]; exact h1)
  rw [ext_toList] at h
  exact h

set_option maxHeartbeats 2000000 in
theorem lex_tokens (s : ByteArray) (w : World) (hs : s.size ≤ 1000000) (hu : Units w) :
    Calls Tryd.prog 16 #[.string s] w fun e w' => ∃ v, e = .returned (.tuple #[v, .int .i64 (tokens s.data.toList).pos, .int .i64 (tokens s.data.toList).code]) ∧ Toks w v (tokens s.data.toList).toks w' := by
  by_cases hbig : 4000 < s.size
  · have ht : tokens s.data.toList = .err 0 2 := by unfold tokens; rw [if_pos (by simpa using hbig)]
    rw [ht]
    go_enter Tryd.func16, Tryd.ntmps16
    go_wp2_with fail
    go_ret3
    exact ⟨_, rfl, ⟨World.ownsRow_nil _ _ _ _, by go_grown⟩⟩
  · have ht : tokens s.data.toList = lexAll s.data.toList := by unfold tokens; rw [if_neg (by simpa using hbig)]
    rw [ht]
    clear ht
    go_enter Tryd.func16, Tryd.ntmps16
    go_wp2_with (go_at_call 34; refine (lex_blanks s _ hs).mono ?_; rintro e w' ⟨rfl, rfl⟩)
    go_loopw [5, 6] (fun v i wr => ∃ (k f : Nat) (ts : List Tok), k ≤ s.size ∧ i = .int .i64 k ∧ s.size - k < f ∧ ts.length ≤ k ∧ wr.ownsRow w.heap.size 36 4 v ts.length (tokCs ts) ∧ Below w.heap.size w wr ∧ Hid (lxS s f k ts = lexAll s.data.toList))
      (fun _ i _ => s.size - (intOf i).toNat)
    case atStart =>
      have h0 := lxS_start s
      have hz := skF_le s (Nat.zero_le _)
      rw [skF0] at h0 hz
      exact ⟨_, s.size + 1, [], hz, rfl, by omega, by simp, World.ownsRow_nil _ _ _ _, Below.refl _ _, h0⟩
    case round =>
      obtain ⟨k, f, ts, hk, rfl, hf, hlen, hown, hbel, H⟩ := hrel
      obtain ⟨A, c, rfl⟩ := own_slice hown
      have hbs := hbel.size
      by_cases hlt : k < s.size
      · obtain ⟨f, rfl⟩ : ∃ m, f = m + 1 := ⟨f - 1, by omega⟩
        obtain ⟨kind, len, n, h1⟩ : ∃ kind len n, one (s.data.toList.drop k) = (kind, len, n) := ⟨_, _, _, rfl⟩
        have hle := one_le (s.data.toList.drop k)
        rw [h1, List.length_drop] at hle
        simp only [top] at hle
        have hur := hu.below hbel hu.lt
        have hkl : k + len ≤ s.size := by
          have hl := hle.1
          simp only [Array.length_toList] at hl
          have : s.data.size = s.size := rfl
          omega
        have hn1 := hle.2
        have H1 := Lib.hid h1
        by_cases h0 : len = 0
        · have HR : Hid (lexAll s.data.toList = .err k 3) := by rw [← H.out]; exact lxS_none s hlt (by rw [h1]; exact h0)
          subst h0
          clear h1 H hle
          go_wp2_with (go_at_call 35; refine (lex_token_at s k kind 0 n _ hs hlt hur H1.out).mono ?_; rintro e w1 ⟨rfl, hb1⟩)
          go_ret3
          rw [HR.out]
          have hb := below_to hbel hbel.size hb1
          have hz1 := Nat.le_trans hbel.size hb1.size
          exact ⟨_, rfl, World.ownsRow_nil _ _ _ _, by go_grown⟩
        · have b0 := ib_no (show (len : Int) ≠ 0 by omega)
          by_cases hn : 1099511627776 < n
          · have HR : Hid (lexAll s.data.toList = .err k 2) := by rw [← H.out]; exact lxS_big s hlt h1 h0 hn
            clear h1 H hle
            go_wp2_with (go_at_call 35; refine (lex_token_at s k kind len n _ hs hlt hur H1.out).mono ?_; rintro e w1 ⟨rfl, hb1⟩)
            go_ret3
            rw [HR.out]
            have hb := below_to hbel hbel.size hb1
            have hz1 := Nat.le_trans hbel.size hb1.size
            exact ⟨_, rfl, World.ownsRow_nil _ _ _ _, by go_grown⟩
          · have HS := Lib.hid (lxS_step s (f := f) (ts := ts) hlt h1 h0 hn)
            have hn' : (n : Int) ≤ 1099511627776 := by omega
            clear h1 hle
            go_wp2_with (first | (go_at_call 35; refine (lex_token_at s k kind len n _ hs hlt hur H1.out).mono ?_; rintro e w1 ⟨rfl, hb1⟩) | (at_builtin; refine wp_append1 w.heap.size rfl _ _ 23 36 _ 4 40 rfl Tryd.underlying23 Tryd.info36 rfl (by decide) _ ts.length (tokCs ts) _ rfl _ rfl ?hbx rfl ?h1 ((own_below hown hb1).alloc _) ?hb ?h63 ?hl ?_))
            case hbx => simp
            case h1 => exact ⟨rfl, rfl, rfl, rfl⟩
            case hb => have := hbel.size; have := hb1.size; simp; omega
            case h63 => omega
            case hl => omega
            intro v1 w2 hown2 hg2
            have hsl := hb1.size
            have hbel2 := ((below_to hbel hbel.size hb1).alloc (by omega) _).grown hg2 (by simp; omega) (fun j hj => by have := own_base hown j hj; omega)
            clear hg2 hown
            have hl4 : k + len + bl false (s.data.toList.drop (k + len)) ≤ s.size := skF_le s hkl
            go_wp2_with (go_at_call 34; refine (lex_blanks_at s (k + len) _ hs).mono ?_; rintro e w' ⟨rfl, rfl⟩)
            go_roundw
            case rel =>
              have hl2 := skF_le s hkl
              have hl3 : skF s (k + len) = k + len + bl false (s.data.toList.drop (k + len)) := rfl
              exact ⟨skF s (k + len), f, ts ++ [Tok.mk kind ((s.data.toList.drop k).take len) n k], hl2, int_eq (by omega), by omega, by simp; omega, by rw [tokCs_snoc, List.length_append]; exact hown2, hbel2, HS.out.trans H.out⟩
            case measure =>
              simp [intOf]
              omega
      · have HR : Hid (lexAll s.data.toList = .ok ts) := by rw [← H.out]; exact lxS_end s (by omega)
        go_wp2_with fail
        go_ret3
        rw [HR.out]
        exact ⟨_, rfl, hown, hbel⟩
end Go.Proofs.YtecldgjdmomilaaDoor
