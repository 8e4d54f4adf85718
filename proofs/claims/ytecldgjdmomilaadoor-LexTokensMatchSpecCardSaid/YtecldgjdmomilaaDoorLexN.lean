/-
  The walks of the statements on the lexer that compare it with its specification: each returns true.
-/
import Derived.Test.YtecldgjdmomilaaDoorLexM
namespace Go.Proofs.YtecldgjdmomilaaDoor
open Go.RowKit LexSpec

theorem lexAt_len (f : Nat) : ∀ (pos : Nat) (l : Bytes) (ts : List Tok), lexAt f pos l = .ok ts → ts.length ≤ l.length := by
  induction f with
  | zero => intro pos l ts h; simp only [lexAt, Res.ok.injEq] at h; subst h; simp
  | succ f ih =>
    intro pos l ts h
    cases l with
    | nil => simp only [lexAt, Res.ok.injEq] at h; subst h; simp
    | cons c l =>
      simp only [lexAt] at h
      split at h
      · cases h
      · split at h
        · cases h
        · rename_i h0 _
          cases hr : lexAt f (pos + (one (c :: l)).2.1 + bl false (List.drop (one (c :: l)).2.1 (c :: l))) (List.drop (bl false (List.drop (one (c :: l)).2.1 (c :: l))) (List.drop (one (c :: l)).2.1 (c :: l))) with
          | err p e => rw [hr] at h; cases h
          | ok us =>
            rw [hr] at h
            simp only [Res.cons, Res.ok.injEq] at h
            subst h
            have := ih _ _ _ hr
            simp only [List.length_drop, List.length_cons] at this ⊢
            omega
theorem tokens_len (l : Bytes) : (tokens l).toks.length ≤ l.length := by
  unfold tokens
  split
  · simp [LexSpec.Res.toks]
  · cases h : lexAll l with
    | err p e => simp [LexSpec.Res.toks]
    | ok ts =>
      unfold lexAll at h
      have := lexAt_len _ _ _ _ h
      rw [List.length_drop] at this
      simp only [LexSpec.Res.toks]
      omega

set_option maxHeartbeats 1000000 in
theorem law_tokens (s : ByteArray) (w : World) (hu : Units w) : Calls Tryd.prog 3 #[.string s] w fun e w' => e = .returned (.bool true) ∧ Below w.heap.size w w' := by
  by_cases hbig : 4100 < s.size
  · go_enter Tryd.func3, Tryd.ntmps3
    go_wp2_with (go_at_call 15; refine (lex_sanity _ hu).mono ?_; rintro e w1 ⟨rfl, hb1⟩)
    go_ret
    exact ⟨rfl, hb1⟩
  · have hs : s.size ≤ 1000000 := by omega
    go_enter Tryd.func3, Tryd.ntmps3
    go_wp2_with (go_at_call 15; refine (lex_sanity _ hu).mono ?_; rintro e w1 ⟨rfl, hb1⟩)
    have hu1 := hu.below hb1 hu.lt
    have hz1 := hb1.size
    refine (lex_tokens s w1 hs hu1).mono ?_
    rintro e w2 ⟨v2, rfl, ho2, hb2⟩
    have hz2 := hb2.size
    have hlen := tokens_len s.data.toList
    simp only [Array.length_toList] at hlen
    have hsz : s.data.size = s.size := rfl
    generalize htk : tokens s.data.toList = r at ho2 hlen ⊢
    have HR := Lib.hid htk
    clear htk
    go_wp2_with fail
    have h3 := ref_tokens s w2 hs
    rw [HR.out] at h3
    refine h3.mono ?_
    rintro e w3 ⟨v3, rfl, ho3, hb3⟩
    have hz3 := hb3.size
    have ho2' := own_below ho2 hb3
    have hb := below_to (below_to hb1 hz1 hb2) (by omega) hb3
    obtain ⟨A3, c3, rfl⟩ := own_slice ho3
    clear h3 ho2
    go_wp2_with fail
    have hk := (Below.refl w3.heap.size w3).alloc (Nat.le_refl _) (.cells #[.slice A3 r.toks.length c3, .int .i64 r.pos, .int .i64 r.code] 28)
    refine (ref_same v2 _ r.toks r.toks true _ ((TokSl.of_own ho2').below hk) ((TokSl.of_own ho3).below hk) (by omega) (Agree.refl _ _)).mono ?_
    rintro e w4 ⟨rfl, n, rfl⟩
    go_wp2_with fail
    go_ret
    exact ⟨rfl, below_drewN (by go_grown) _⟩
end Go.Proofs.YtecldgjdmomilaaDoor
