/-
  Plain laws of the lexer's words: tokens lie in their text; a text made of tokens with spaces between them has the same tokens.
-/
import Derived.Test.YtecldgjdmomilaaDoorLexGlue
namespace Go.Proofs.YtecldgjdmomilaaDoor.LexSpec

/-! ### a token's text, alone, is the same token -/
theorem wl_take (l : Bytes) : wl (l.take (wl l)) = wl l := by
  induction l with
  | nil => rfl
  | cons c l ih =>
    by_cases h : isEither c = true
    · have e : wl (c :: l) = wl l + 1 := by simp only [wl]; rw [if_pos h, Nat.add_comm]
      rw [e, List.take_succ_cons]
      simp only [wl]
      rw [if_pos h, ih, Nat.add_comm]
    · by_cases hd : c.toNat = 45 ∧ headEither l = true
      · have e : wl (c :: l) = wl l + 1 := by simp only [wl]; rw [if_neg h, if_pos hd, Nat.add_comm]
        rw [e, List.take_succ_cons]
        have hh : headEither (l.take (wl l)) = true := by
          cases l with
          | nil => simp [headEither] at hd
          | cons d l =>
            have hd2 : isEither d = true := hd.2
            have e2 : wl (d :: l) = wl l + 1 := by simp only [wl]; rw [if_pos hd2, Nat.add_comm]
            rw [e2, List.take_succ_cons]
            exact hd2
        simp only [wl]
        rw [if_neg h, if_pos ⟨hd.1, hh⟩, ih, Nat.add_comm]
      · have e : wl (c :: l) = 0 := by simp only [wl]; rw [if_neg h, if_neg hd]
        rw [e]; rfl
theorem run_take (p : UInt8 → Bool) (l : Bytes) : ∀ n, runLen p l ≤ n → runLen p (l.take n) = runLen p l := by
  induction l with
  | nil => intro n _; simp [runLen]
  | cons c l ih =>
    intro n hn
    by_cases h : p c = true
    · rw [runLen_yes h] at hn ⊢
      obtain ⟨m, rfl⟩ : ∃ m, n = m + 1 := ⟨n - 1, by omega⟩
      rw [List.take_succ_cons, runLen_yes h, ih m (by omega)]
    · rw [runLen_no h]
      cases n with
      | zero => rfl
      | succ n => rw [List.take_succ_cons, runLen_no h]
theorem numTok_take {l : Bytes} {n v : Nat} (h : numTok l = some (n, v)) (hn : n ≠ 0) : numTok (l.take n) = some (n, v) := by
  unfold numTok at h
  simp only at h
  have hr := runLen_le isDigit l
  by_cases h0 : 1 < runLen isDigit l ∧ headZero l = true
  · rw [if_pos h0] at h; cases h
  · rw [if_neg h0] at h
    generalize hu : headUnit (List.drop (runLen isDigit l) l) = u at h
    have hz : ∀ m, m ≠ 0 → headZero (l.take m) = headZero l := by
      intro m hm
      cases l with
      | nil => simp
      | cons c l =>
        cases m with
        | zero => exact absurd rfl hm
        | succ m => rfl
    by_cases hu0 : u = 0
    · rw [if_pos hu0, if_pos hu0] at h
      by_cases he : headEither (List.drop (runLen isDigit l) l) = true
      · rw [if_pos he] at h; cases h
      · rw [if_neg he] at h
        simp only [Option.some.injEq, Prod.mk.injEq] at h
        obtain ⟨rfl, rfl⟩ := h
        unfold numTok
        simp only
        rw [run_take isDigit l _ (Nat.le_refl _), List.take_take, Nat.min_self, hz _ hn, if_neg h0]
        have hd : List.drop (runLen isDigit l) (List.take (runLen isDigit l) l) = [] := List.drop_of_length_le (by rw [List.length_take]; exact Nat.min_le_left _ _)
        rw [hd]
        simp [headUnit, headEither]
    · rw [if_neg hu0, if_neg hu0] at h
      by_cases he : headEither (List.drop (runLen isDigit l + 1) l) = true
      · rw [if_pos he] at h; cases h
      · rw [if_neg he] at h
        simp only [Option.some.injEq, Prod.mk.injEq] at h
        obtain ⟨rfl, rfl⟩ := h
        unfold numTok
        simp only
        rw [run_take isDigit l _ (Nat.le_succ _), List.take_take, Nat.min_eq_left (Nat.le_succ _), hz _ (by omega), if_neg h0]
        have hne : runLen isDigit l < l.length := by
          rcases Nat.lt_or_ge (runLen isDigit l) l.length with hl | hl
          · exact hl
          · rw [List.drop_of_length_le hl] at hu
            exact absurd hu.symm hu0
        have hd : List.drop (runLen isDigit l) (List.take (runLen isDigit l + 1) l) = [l[runLen isDigit l]] := by
          rw [List.take_succ_eq_append_getElem hne, List.drop_append_of_le_length (by rw [List.length_take]; omega), List.drop_of_length_le (by rw [List.length_take]; exact Nat.min_le_left _ _)]
          rfl
        have hu2 : headUnit [l[runLen isDigit l]] = u := by
          rw [List.drop_eq_getElem_cons hne] at hu
          exact hu
        rw [hd, hu2, if_neg hu0, if_neg hu0]
        have hd2 : List.drop (runLen isDigit l + 1) (List.take (runLen isDigit l + 1) l) = [] := List.drop_of_length_le (by rw [List.length_take]; exact Nat.min_le_left _ _)
        rw [hd2]
        simp [headEither]
theorem sign_not_dash {c : UInt8} (h : isSign c = true) : c.toNat ≠ 45 := by
  unfold isSign at h
  simp at h
  omega
theorem signLen_take (l : Bytes) : signLen (l.take (signLen l)) = signLen l := by
  cases l with
  | nil => rfl
  | cons c l =>
    by_cases h : c.toNat = 45 ∧ headGt l = true
    · have e : signLen (c :: l) = 2 := by simp only [signLen]; rw [if_pos h]
      rw [e]
      cases l with
      | nil => simp [headGt] at h
      | cons d l =>
        simp only [List.take_succ_cons, List.take_zero, signLen]
        rw [if_pos ⟨h.1, h.2⟩]
    · by_cases hs : isSign c = true
      · have e : signLen (c :: l) = 1 := by simp only [signLen]; rw [if_neg h, if_pos hs]
        rw [e]
        simp only [List.take_succ_cons, List.take_zero, signLen]
        rw [if_neg (fun hh => sign_not_dash hs hh.1), if_pos hs]
      · have e : signLen (c :: l) = 0 := by simp only [signLen]; rw [if_neg h, if_neg hs]
        rw [e]; rfl
theorem one_take {l : Bytes} {k len n : Nat} (h : one l = (k, len, n)) (h0 : len ≠ 0) : one (l.take len) = (k, len, n) := by
  cases l with
  | nil => simp [one] at h; exact absurd h.2.1.symm h0
  | cons c l =>
    obtain ⟨m, rfl⟩ : ∃ m, len = m + 1 := ⟨len - 1, by omega⟩
    have ht : (c :: l).take (m + 1) = c :: l.take m := List.take_succ_cons
    rw [ht]
    simp only [one] at h ⊢
    by_cases hL : isLetter c = true
    · rw [if_pos hL] at h ⊢
      simp only [Prod.mk.injEq] at h ⊢
      obtain ⟨h1, h2, h3⟩ := h
      have := wl_take (c :: l)
      rw [h2, ht] at this
      exact ⟨h1, this, h3⟩
    · rw [if_neg hL] at h ⊢
      by_cases hD : isDigit c = true
      · rw [if_pos hD] at h ⊢
        cases hq : numTok (c :: l) with
        | none => rw [hq] at h; simp at h
        | some p =>
          obtain ⟨a, b⟩ := p
          rw [hq] at h
          simp only [Prod.mk.injEq] at h
          obtain ⟨h1, h2, h3⟩ := h
          subst h2
          have := numTok_take hq (by omega)
          rw [ht] at this
          rw [this]
          simp only [Prod.mk.injEq]
          exact ⟨h1, trivial, h3⟩
      · rw [if_neg hD] at h ⊢
        simp only [Prod.mk.injEq] at h ⊢
        obtain ⟨h1, h2, h3⟩ := h
        have := signLen_take (c :: l)
        rw [h2, ht] at this
        exact ⟨h1, this, h3⟩

/-- What every token of a text is. -/
def Fine (t : Tok) : Prop := one t.text = (t.kind, t.text.length, t.n) ∧ t.text ≠ [] ∧ t.n ≤ 1099511627776
theorem lexAt_fine (f : Nat) : ∀ (pos : Nat) (l : Bytes) (ts : List Tok), lexAt f pos l = .ok ts → ∀ t ∈ ts, Fine t := by
  induction f with
  | zero => intro pos l ts h; simp only [lexAt, Res.ok.injEq] at h; subst h; simp
  | succ f ih =>
    intro pos l ts h
    cases l with
    | nil => simp only [lexAt, Res.ok.injEq] at h; subst h; simp
    | cons c l =>
      simp only [lexAt] at h
      split at h
      · cases h
      · split at h
        · cases h
        · rename_i h0 h1
          cases hr : lexAt f (pos + (one (c :: l)).2.1 + bl false (List.drop (one (c :: l)).2.1 (c :: l))) (List.drop (bl false (List.drop (one (c :: l)).2.1 (c :: l))) (List.drop (one (c :: l)).2.1 (c :: l))) with
          | err p e => rw [hr] at h; cases h
          | ok us =>
            rw [hr] at h
            simp only [Res.cons, Res.ok.injEq] at h
            subst h
            have hle := (one_le (c :: l)).1
            intro t ht
            rcases List.mem_cons.1 ht with rfl | ht
            · have hl : ((c :: l).take (one (c :: l)).2.1).length = (one (c :: l)).2.1 := by rw [List.length_take]; exact Nat.min_eq_left hle
              refine ⟨?_, ?_, Nat.le_of_not_lt h1⟩
              · simp only [hl]
                exact one_take rfl h0
              · intro e
                have := congrArg List.length e
                rw [hl] at this
                exact h0 this
            · exact ih _ _ _ hr t ht
theorem one_blank {c : UInt8} {l : Bytes} (h : (one (c :: l)).2.1 ≠ 0) : bl false (c :: l) = 0 := by
  have key : ¬ (c.toNat = 32 ∨ c.toNat = 9 ∨ c.toNat = 10) ∧ c.toNat ≠ 35 := by
    by_cases hL : isLetter c = true
    · unfold isLetter at hL; simp at hL; omega
    · by_cases hD : isDigit c = true
      · unfold isDigit at hD; simp at hD; omega
      · simp only [one] at h
        rw [if_neg hL, if_neg hD] at h
        simp only [signLen] at h
        by_cases h1 : c.toNat = 45 ∧ headGt l = true
        · omega
        · rw [if_neg h1] at h
          by_cases h2 : isSign c = true
          · unfold isSign at h2; simp at h2; omega
          · rw [if_neg h2] at h; exact absurd rfl h
  simp only [bl]
  rw [if_neg key.1, if_neg key.2]
theorem fine_alone {t : Tok} (h : Fine t) : lexAll t.text = .ok [⟨t.kind, t.text, t.n, 0⟩] ∧ openEnd t.text = false := by
  obtain ⟨h1, h2, h3⟩ := h
  obtain ⟨k, tx, n, p⟩ := t
  simp only at h1 h2 h3 ⊢
  cases tx with
  | nil => exact absurd rfl h2
  | cons c l =>
    have hb : bl false (c :: l) = 0 := one_blank (by rw [h1]; simp)
    have hd : List.drop (c :: l).length (c :: l) = [] := List.drop_length
    constructor
    · unfold lexAll
      rw [hb, List.drop_zero]
      simp only [lexAt, h1]
      rw [if_neg (by simp), if_neg (by omega), hd, List.take_length]
      have e : lexAt (c :: l).length (0 + (c :: l).length + bl false []) (List.drop (bl false []) []) = .ok [] := by simp [bl, lexAt]
      rw [e]
      rfl
    · unfold openEnd
      rw [hb, if_neg (by simp), List.drop_zero]
      simp only [lastOpen, h1]
      rw [hd]
      simp [bl, endc]

/-! ### tokens with spaces between them -/
def key (t : Tok) : Nat × Bytes × Nat := (t.kind, t.text, t.n)
def glue : List Tok → Bytes
  | [] => []
  | [t] => t.text
  | t :: u :: r => t.text ++ 32 :: glue (u :: r)
theorem glue_tokens (ts : List Tok) (h : ∀ t ∈ ts, Fine t) : ∃ us, lexAll (glue ts) = .ok us ∧ us.map key = ts.map key := by
  induction ts with
  | nil => exact ⟨[], rfl, rfl⟩
  | cons t r ih =>
    obtain ⟨ha, ho⟩ := fine_alone (h t (by simp))
    cases r with
    | nil => exact ⟨_, ha, rfl⟩
    | cons u r =>
      obtain ⟨us, hu, hk⟩ := ih (fun x hx => h x (by simp only [List.mem_cons] at hx ⊢; exact .inr hx))
      refine ⟨⟨t.kind, t.text, t.n, 0⟩ :: us.map (Tok.shift (t.text.length + 1)), ?_, ?_⟩
      · show lexAll (t.text ++ 32 :: glue (u :: r)) = _
        rw [lexAll_app (c := 32) t.text _ _ ha (.inr ⟨by decide, ho⟩), hu]
        rfl
      · simp only [List.map_cons, List.map_map] at hk ⊢
        rw [← hk]
        rfl

/-! ### tokens lie in their text -/
def gapOK (s : Bytes) (a b : Nat) : Prop := tokens ((s.drop a).take (b - a)) = .ok []
def Lies (s : Bytes) : Nat → List Tok → Prop
  | a, [] => a ≤ s.length ∧ gapOK s a s.length
  | a, t :: ts => a ≤ t.pos ∧ t.pos + t.text.length ≤ s.length ∧ gapOK s a t.pos ∧ (s.drop t.pos).take t.text.length = t.text ∧ t.text ≠ [] ∧ Lies s (t.pos + t.text.length) ts
theorem gap_blank (s : Bytes) (a : Nat) (hs : s.length ≤ 4000) : gapOK s a (a + bl false (s.drop a)) := by
  unfold gapOK
  rw [Nat.add_sub_cancel_left]
  have hl : ((s.drop a).take (bl false (s.drop a))).length ≤ 4000 := by rw [List.length_take, List.length_drop]; omega
  unfold tokens
  rw [if_neg (by omega)]
  unfold lexAll
  have hb := bl_le (s.drop a) false
  have e : ((s.drop a).take (bl false (s.drop a))).length = bl false (s.drop a) := by rw [List.length_take]; exact Nat.min_eq_left hb
  rw [bl_take, List.drop_of_length_le (Nat.le_of_eq e)]
  rfl
theorem lies_at (s : Bytes) (hs : s.length ≤ 4000) (f : Nat) : ∀ (a pos : Nat) (ts : List Tok), lexAt f pos (s.drop pos) = .ok ts → a ≤ pos → pos ≤ s.length → gapOK s a pos → (s.drop pos).length < f → Lies s a ts := by
  induction f with
  | zero => intro a pos ts _ _ _ _ h; omega
  | succ f ih =>
    intro a pos ts h ha hp hg hf
    cases hd : s.drop pos with
    | nil =>
      rw [hd] at h
      simp only [lexAt, Res.ok.injEq] at h
      subst h
      have hl := congrArg List.length hd
      rw [List.length_drop] at hl
      simp at hl
      obtain rfl : pos = s.length := by omega
      exact ⟨by omega, hg⟩
    | cons c l =>
      have hlen : (c :: l).length = s.length - pos := by rw [← hd, List.length_drop]
      rw [hd] at h hf
      simp only [lexAt] at h
      split at h
      · cases h
      · split at h
        · cases h
        · rename_i h0 h1
          have hle := (one_le (c :: l)).1
          have e1 : List.drop (one (c :: l)).2.1 (c :: l) = s.drop (pos + (one (c :: l)).2.1) := by rw [← hd, List.drop_drop]
          generalize hk : (one (c :: l)).2.1 = k at *
          rw [e1, List.drop_drop] at h
          cases hr : lexAt f (pos + k + bl false (s.drop (pos + k))) (s.drop (pos + k + bl false (s.drop (pos + k)))) with
          | err p e => rw [hr] at h; cases h
          | ok us =>
            rw [hr] at h
            simp only [Res.cons, Res.ok.injEq] at h
            subst h
            have hb := bl_le (s.drop (pos + k)) false
            rw [List.length_drop] at hb
            have hl : ((c :: l).take k).length = k := by rw [List.length_take]; exact Nat.min_eq_left hle
            simp only [List.length_cons] at hlen hle hf
            refine ⟨ha, by show pos + ((c :: l).take k).length ≤ s.length; rw [hl]; omega, hg, by rw [hl, hd], ?_, ?_⟩
            · intro e
              have := congrArg List.length e
              rw [hl] at this
              exact h0 this
            · rw [hl]
              exact ih (pos + k) (pos + k + bl false (s.drop (pos + k))) us hr (by omega) (by omega) (gap_blank s _ hs) (by rw [List.length_drop]; omega)
theorem lies (s : Bytes) (hs : s.length ≤ 4000) (ts : List Tok) (h : lexAll s = .ok ts) : Lies s 0 ts := by
  have hb := bl_le s false
  have hg := gap_blank s 0 hs
  rw [List.drop_zero, Nat.zero_add] at hg
  exact lies_at s hs _ 0 _ ts h (Nat.zero_le _) hb hg (by rw [List.length_drop]; omega)
end Go.Proofs.YtecldgjdmomilaaDoor.LexSpec
