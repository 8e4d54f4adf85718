/-
  The walk of the statement on Join and Tokens: the text that Join makes of a text's tokens has the same tokens.
-/
import Derived.Test.YtecldgjdmomilaaDoorLexM
import Derived.Test.YtecldgjdmomilaaDoorLexLaw
namespace Go.Proofs.YtecldgjdmomilaaDoor
open Go.RowKit LexSpec

theorem lexAt_len (f : Nat) : ∀ (pos : Nat) (l : Bytes) (ts : List Tok), lexAt f pos l = .ok ts → ts.length ≤ l.length := by
  induction f with
  | zero => intro pos l ts h; simp only [lexAt, Res.ok.injEq] at h; subst h; simp
  | succ f ih =>
    intro pos l ts h
    cases l with
    | nil => simp only [lexAt, Res.ok.injEq] at h; subst h; simp
    | cons c l =>
      simp only [lexAt] at h
      split at h
      · cases h
      · split at h
        · cases h
        · rename_i h0 _
          cases hr : lexAt f (pos + (one (c :: l)).2.1 + bl false (List.drop (one (c :: l)).2.1 (c :: l))) (List.drop (bl false (List.drop (one (c :: l)).2.1 (c :: l))) (List.drop (one (c :: l)).2.1 (c :: l))) with
          | err p e => rw [hr] at h; cases h
          | ok us =>
            rw [hr] at h
            simp only [Res.cons, Res.ok.injEq] at h
            subst h
            have := ih _ _ _ hr
            simp only [List.length_drop, List.length_cons] at this ⊢
            omega
theorem lexAll_len (l : Bytes) (ts : List Tok) (h : lexAll l = .ok ts) : ts.length ≤ l.length := by
  unfold lexAll at h
  have := lexAt_len _ _ _ _ h
  rw [List.length_drop] at this
  omega
theorem tokens_small (l : Bytes) (h : l.length ≤ 4000) : tokens l = lexAll l := by unfold tokens; rw [if_neg (by omega)]
theorem lexAll_cases (l : Bytes) : (∃ ts, lexAll l = .ok ts) ∨ ∃ p e, lexAll l = .err p e ∧ e ≠ 0 := by
  have key : ∀ (f pos : Nat) (l : Bytes), (∃ ts, lexAt f pos l = .ok ts) ∨ ∃ p e, lexAt f pos l = .err p e ∧ e ≠ 0 := by
    intro f
    induction f with
    | zero => intro pos l; exact .inl ⟨[], rfl⟩
    | succ f ih =>
      intro pos l
      cases l with
      | nil => exact .inl ⟨[], rfl⟩
      | cons c l =>
        simp only [lexAt]
        split
        · exact .inr ⟨_, _, rfl, by decide⟩
        · split
          · exact .inr ⟨_, _, rfl, by decide⟩
          · rcases ih (pos + (one (c :: l)).2.1 + bl false (List.drop (one (c :: l)).2.1 (c :: l))) (List.drop (bl false (List.drop (one (c :: l)).2.1 (c :: l))) (List.drop (one (c :: l)).2.1 (c :: l))) with ⟨ts, h⟩ | ⟨p, e, h, he⟩
            · rw [h]; exact .inl ⟨_, rfl⟩
            · rw [h]; exact .inr ⟨_, _, rfl, he⟩
  exact key _ _ _
theorem lies_text (s : Bytes) (ts : List Tok) : ∀ a, Lies s a ts → ∀ t ∈ ts, t.text.length ≤ s.length := by
  induction ts with
  | nil => intro a _ t ht; simp at ht
  | cons u r ih =>
    intro a h t ht
    obtain ⟨_, h2, _, _, _, h6⟩ := h
    rcases List.mem_cons.1 ht with rfl | ht
    · omega
    · exact ih _ h6 t ht
theorem joined_glue (ts : List Tok) : joined (ts.map cellOf) = glue ts := by
  induction ts with
  | nil => rfl
  | cons t r ih =>
    cases r with
    | nil => simp [joined, txs, cellOf, Lib.join_one, glue, strB_toList]
    | cons u r =>
      have e : joined ((t :: u :: r).map cellOf) = t.text ++ 32 :: joined ((u :: r).map cellOf) := by
        unfold joined txs
        simp only [List.map_cons, Lib.join_cons, cellOf, strB_toList]
        simp [Lib.joinTail]
      rw [e, ih]; rfl
theorem glue_len (ts : List Tok) (B : Nat) (h : ∀ t ∈ ts, t.text.length ≤ B) : (glue ts).length ≤ (B + 1) * ts.length := by
  induction ts with
  | nil => simp [glue]
  | cons t r ih =>
    have h1 := h t (by simp)
    have h2 := ih (fun x hx => h x (by simp [hx]))
    cases r with
    | nil => simp only [glue, List.length_cons, List.length_nil]; omega
    | cons u r =>
      simp only [glue, List.length_append, List.length_cons] at h2 ⊢
      rw [Nat.mul_succ]
      omega
theorem agree_of_key {ts us : List Tok} (h : us.map key = ts.map key) : Agree ts us false := by
  have hl : us.length = ts.length := by have := congrArg List.length h; simpa using this
  refine ⟨hl.symm, fun i h1 h2 => ?_⟩
  have e : (us.map key)[i]? = (ts.map key)[i]? := by rw [h]
  rw [List.getElem?_map, List.getElem?_map, List.getElem?_eq_getElem h1, List.getElem?_eq_getElem h2] at e
  simp only [Option.map_some, Option.some.injEq, key, Prod.mk.injEq] at e
  exact ⟨e.1.symm, e.2.1.symm, e.2.2.symm, fun hh => by cases hh⟩

set_option maxHeartbeats 1000000 in
theorem law_keeps (s : ByteArray) (w : World) (hu : Units w) : Calls Tryd.prog 7 #[.string s] w fun e w' => e = .returned (.bool true) ∧ Below w.heap.size w w' := by
  by_cases hbig : 2000 < s.size
  · go_enter Tryd.func7, Tryd.ntmps7
    go_wp2_with (go_at_call 15; refine (lex_sanity _ hu).mono ?_; rintro e w1 ⟨rfl, hb1⟩)
    go_ret
    exact ⟨rfl, hb1⟩
  · have hs : s.size ≤ 1000000 := by omega
    have hsl : s.data.toList.length = s.size := by simp
    have htk := tokens_small s.data.toList (by omega)
    go_enter Tryd.func7, Tryd.ntmps7
    go_wp2_with (go_at_call 15; refine (lex_sanity _ hu).mono ?_; rintro e w1 ⟨rfl, hb1⟩)
    have hu1 := hu.below hb1 hu.lt
    have hz1 := hb1.size
    have h2 := lex_tokens s w1 hs hu1
    rw [htk] at h2
    clear htk
    rcases lexAll_cases s.data.toList with ⟨ts, ht⟩ | ⟨p, e, ht, he⟩
    · rw [ht] at h2
      have hn := lexAll_len _ _ ht
      have hlie := lies _ (by omega) _ ht
      have htx := lies_text _ _ _ hlie
      have hgl := glue_len ts 2000 (fun t h => by have := htx t h; omega)
      obtain ⟨us, hus, hk⟩ := glue_tokens ts (lexAt_fine _ _ _ _ ht)
      have hun := lexAll_len _ _ hus
      have HA := Lib.hid (agree_of_key hk)
      have HU := Lib.hid hus
      have hq : 2001 * ts.length ≤ 2001 * 2000 := Nat.mul_le_mul_left _ (by omega)
      clear ht hlie htx hk hus
      refine h2.mono ?_
      rintro e w2 ⟨v2, rfl, ho2, hb2⟩
      have hz2 := hb2.size
      have hu2 := hu1.below hb2 hu1.lt
      have hr := RowSl.of_toks (TokSl.of_own ho2)
      have HJ := lex_join v2 (ts.map cellOf) w2 hr (by simp; omega) (by rw [joined_glue]; omega)
      rw [joined_glue] at HJ
      have HJ2 := Lib.hid HJ
      clear h2 hr HJ
      simp only [LexSpec.Res.toks, LexSpec.Res.pos, LexSpec.Res.code] at ho2 ⊢
      go_wp2_with fail
      refine HJ2.out.mono ?_
      rintro e w3 ⟨rfl, hb3⟩
      have hz3 := hb3.size
      have hu3 := hu2.below hb3 hu2.lt
      have ho3 := own_below ho2 hb3
      have hb := below_to (below_to hb1 hz1 hb2) (by omega) hb3
      have hgs : (strB (glue ts)).size = (glue ts).length := strB_size _
      clear ho2
      by_cases hl : 4000 < (glue ts).length
      · go_wp2_with fail
        go_ret
        exact ⟨rfl, hb⟩
      · go_wp2_with fail
        have h4 := lex_tokens (strB (glue ts)) w3 (by rw [hgs]; omega) hu3
        rw [strB_toList, tokens_small _ (by omega), HU.out] at h4
        refine h4.mono ?_
        rintro e w4 ⟨v4, rfl, ho4, hb4⟩
        have hz4 := hb4.size
        have ho5 := own_below ho3 hb4
        clear h4
        simp only [LexSpec.Res.toks, LexSpec.Res.pos, LexSpec.Res.code] at ho4 ⊢
        go_wp2_with fail
        refine (ref_same v2 v4 ts us false _ (TokSl.of_own ho5) (TokSl.of_own ho4) (by omega) HA.out).mono ?_
        rintro e w5 ⟨rfl, n, rfl⟩
        go_wp2_with fail
        go_ret
        exact ⟨rfl, below_drewN (below_to hb (by omega) hb4) _⟩
    · rw [ht] at h2
      have hne := bne_iff_ne.2 (show (e : Int) ≠ 0 by omega)
      clear ht
      refine h2.mono ?_
      rintro e' w2 ⟨v2, rfl, ho2, hb2⟩
      clear h2
      simp only [LexSpec.Res.toks, LexSpec.Res.pos, LexSpec.Res.code] at ho2 ⊢
      go_wp2_with fail
      go_ret
      exact ⟨rfl, below_to hb1 hz1 hb2⟩
end Go.Proofs.YtecldgjdmomilaaDoor
