/-
  Plain laws of the lexer's words: what follows a blank does not change the tokens before it; tokens of texts that are put together.
-/
import Derived.Test.YtecldgjdmomilaaDoorLexSpec
namespace Go.Proofs.YtecldgjdmomilaaDoor.LexSpec

/-- Within a comment behind all of the text, the text being blanks and comments alone. -/
def endc : Bool → Bytes → Bool
  | b, [] => b
  | true, c :: l => if c.toNat = 10 then endc false l else endc true l
  | false, c :: l => if c.toNat = 32 ∨ c.toNat = 9 ∨ c.toNat = 10 then endc false l else if c.toNat = 35 then endc true l else false

theorem bl_app_lt (l y : Bytes) : ∀ b, bl b l < l.length → bl b (l ++ y) = bl b l := by
  induction l with
  | nil => intro b h; simp at h
  | cons c l ih =>
    intro b h
    cases b
    · simp only [bl, List.cons_append, List.length_cons] at h ⊢
      split at h
      · rename_i hc; rw [if_pos hc, if_pos hc, ih false (by omega)]
      · rename_i hc
        rw [if_neg hc, if_neg hc]
        split at h
        · rename_i hd; rw [if_pos hd, if_pos hd, ih true (by omega)]
        · rename_i hd; rw [if_neg hd, if_neg hd]
    · simp only [bl, List.cons_append, List.length_cons] at h ⊢
      split at h
      · rename_i hc; rw [if_pos hc, if_pos hc, ih false (by omega)]
      · rename_i hc; rw [if_neg hc, if_neg hc, ih true (by omega)]

theorem bl_app_all (l y : Bytes) : ∀ b, bl b l = l.length → bl b (l ++ y) = l.length + bl (endc b l) y := by
  induction l with
  | nil => intro b _; simp [endc]
  | cons c l ih =>
    intro b h
    have hle := bl_le l
    cases b
    · simp only [bl, endc, List.cons_append, List.length_cons] at h ⊢
      split at h
      · rename_i hc; rw [if_pos hc, if_pos hc, ih false (by omega)]; omega
      · rename_i hc
        rw [if_neg hc, if_neg hc]
        split at h
        · rename_i hd; rw [if_pos hd, if_pos hd, ih true (by omega)]; omega
        · omega
    · simp only [bl, endc, List.cons_append, List.length_cons] at h ⊢
      split at h
      · rename_i hc; rw [if_pos hc, if_pos hc, ih false (by omega)]; omega
      · rename_i hc; rw [if_neg hc, if_neg hc, ih true (by omega)]; omega

theorem bl_take (l : Bytes) : ∀ b, bl b (l.take (bl b l)) = bl b l := by
  induction l with
  | nil => intro b; cases b <;> simp [bl]
  | cons c l ih =>
    intro b
    cases b
    · simp only [bl]
      split
      · rename_i hc; rw [Nat.add_comm, List.take_succ_cons]; simp only [bl]; rw [if_pos hc, ih]; omega
      · rename_i hc
        split
        · rename_i hd; rw [Nat.add_comm, List.take_succ_cons]; simp only [bl]; rw [if_neg hc, if_pos hd, ih]; omega
        · simp [bl]
    · simp only [bl]
      split
      · rename_i hc; rw [Nat.add_comm, List.take_succ_cons]; simp only [bl]; rw [if_pos hc, ih]; omega
      · rename_i hc; rw [Nat.add_comm, List.take_succ_cons]; simp only [bl]; rw [if_neg hc, ih]; omega

/-- A blank that ends what is open: a newline; a space, if no comment is open. -/
def Sep (c : UInt8) (o : Bool) : Prop := c.toNat = 10 ∨ (c.toNat = 32 ∧ o = false)
theorem Sep.num {c : UInt8} {o : Bool} (h : Sep c o) : c.toNat = 10 ∨ c.toNat = 32 := by rcases h with h | h <;> omega
theorem Sep.free {c : UInt8} {o : Bool} (h : Sep c o) : Sep c false := by
  rcases h with h | h
  · exact .inl h
  · exact .inr ⟨h.1, rfl⟩
theorem bl_sep {c : UInt8} {o : Bool} (h : Sep c o) (x : Bytes) : bl o (c :: x) = 1 + bl false x := by
  rcases h with h | ⟨h, rfl⟩
  · cases o <;> simp [bl, h]
  · simp [bl, h]

theorem sep_either {c : UInt8} (h : c.toNat = 10 ∨ c.toNat = 32) : isEither c = false := by
  unfold isEither isLetter isDigit
  rcases h with h | h <;> simp [h]
theorem sep_digit {c : UInt8} (h : c.toNat = 10 ∨ c.toNat = 32) : isDigit c = false := by
  unfold isDigit
  rcases h with h | h <;> simp [h]
theorem sep_unit {c : UInt8} (h : c.toNat = 10 ∨ c.toNat = 32) : unitOf c = 0 := by
  unfold unitOf
  rcases h with h | h <;> simp [h]
theorem sep_sign {c : UInt8} (h : c.toNat = 10 ∨ c.toNat = 32) : isSign c = false := by
  unfold isSign
  rcases h with h | h <;> simp [h]

section
variable {c : UInt8} (hc : c.toNat = 10 ∨ c.toNat = 32) (x : Bytes)
include hc
theorem headEither_app (l : Bytes) : headEither (l ++ c :: x) = headEither l := by
  cases l with
  | nil => exact sep_either hc
  | cons d l => rfl
theorem headUnit_app (l : Bytes) : headUnit (l ++ c :: x) = headUnit l := by
  cases l with
  | nil => exact sep_unit hc
  | cons d l => rfl
theorem headZero_app (l : Bytes) : headZero (l ++ c :: x) = headZero l := by
  cases l with
  | nil => simp only [List.nil_append, headZero]; simp; omega
  | cons d l => rfl
theorem headGt_app (l : Bytes) : headGt (l ++ c :: x) = headGt l := by
  cases l with
  | nil => simp only [List.nil_append, headGt]; simp; omega
  | cons d l => rfl
theorem wl_app (l : Bytes) : wl (l ++ c :: x) = wl l := by
  induction l with
  | nil =>
    simp only [List.nil_append, wl]
    rw [if_neg (by rw [sep_either hc]; decide), if_neg (by omega)]
  | cons d l ih => simp only [List.cons_append, wl, ih, headEither_app hc x l]
omit hc in
theorem run_app {p : UInt8 → Bool} (hp : p c = false) (l : Bytes) : runLen p (l ++ c :: x) = runLen p l := by
  induction l with
  | nil => simp [runLen, hp]
  | cons d l ih => simp only [List.cons_append, runLen, ih]
theorem numTok_app (l : Bytes) : numTok (l ++ c :: x) = numTok l := by
  have h0 : runLen isDigit (l ++ c :: x) = runLen isDigit l := run_app x (sep_digit hc) l
  have hle := runLen_le isDigit l
  have htake : (l ++ c :: x).take (runLen isDigit l) = l.take (runLen isDigit l) := List.take_append_of_le_length hle
  have hdrop : (l ++ c :: x).drop (runLen isDigit l) = l.drop (runLen isDigit l) ++ c :: x := List.drop_append_of_le_length hle
  unfold numTok
  simp only [h0, htake, hdrop, headZero_app hc x, headUnit_app hc x]
  by_cases hz : 1 < runLen isDigit l ∧ headZero l = true
  · rw [if_pos hz, if_pos hz]
  · rw [if_neg hz, if_neg hz]
    generalize hu : headUnit (List.drop (runLen isDigit l) l) = u
    by_cases hu0 : u = 0
    · rw [if_pos hu0, if_pos hu0, hdrop, headEither_app hc x]
    · rw [if_neg hu0, if_neg hu0]
      have hne : runLen isDigit l ≠ l.length := by
        intro e
        rw [e] at hu
        simp [headUnit] at hu
        exact hu0 hu.symm
      rw [List.drop_append_of_le_length (by omega), headEither_app hc x]
theorem signLen_app (l : Bytes) : signLen (l ++ c :: x) = signLen l := by
  cases l with
  | nil =>
    simp only [List.nil_append, signLen]
    rw [if_neg (by omega), if_neg (by rw [sep_sign hc]; decide)]
  | cons d l => simp only [List.cons_append, signLen, headGt_app hc x l]
theorem one_app (d : UInt8) (l : Bytes) : one (d :: l ++ c :: x) = one (d :: l) := by
  have h1 := wl_app hc x (d :: l)
  have h2 := numTok_app hc x (d :: l)
  have h3 := signLen_app hc x (d :: l)
  simp only [List.cons_append] at h1 h2 h3 ⊢
  simp only [one, h1, h2, h3]
end

/-- Whether the last blanks of a text hold an open comment (read as 'lexAt' reads). -/
def lastOpen : Nat → Bytes → Bool
  | 0, _ => false
  | _ + 1, [] => false
  | f + 1, c :: l =>
    let rest := (c :: l).drop (one (c :: l)).2.1
    if bl false rest = rest.length then endc false rest else lastOpen f (rest.drop (bl false rest))

theorem lexAt_app {c : UInt8} (x : Bytes) (f : Nat) : ∀ (g g' pos : Nat) (l : Bytes) (ts : List Tok), l ≠ [] → lexAt f pos l = .ok ts → l.length < f → Sep c (lastOpen f l) →
    (l ++ c :: x).length < g → x.length < g' →
    lexAt g pos (l ++ c :: x) = Res.prepend ts (lexAt g' (pos + l.length + 1 + bl false x) (x.drop (bl false x))) := by
  induction f with
  | zero => intro g g' pos l ts _ _ h; omega
  | succ f ih =>
    intro g g' pos l ts hne hl hf hs hg hg'
    obtain ⟨g, rfl⟩ : ∃ m, g = m + 1 := ⟨g - 1, by omega⟩
    cases l with
    | nil => exact absurd rfl hne
    | cons d l =>
      have hone := one_app hs.num x d l
      have hlen := (one_le (d :: l)).1
      simp only [lexAt] at hl
      split at hl
      · cases hl
      · rename_i h0
        split at hl
        · cases hl
        · rename_i h1
          simp only [List.cons_append] at hone
          simp only [List.cons_append, lexAt, hone]
          rw [if_neg h0, if_neg h1]
          generalize hk : (one (d :: l)).2.1 = k at *
          have hd : List.drop k (d :: (l ++ c :: x)) = List.drop k (d :: l) ++ c :: x := by
            rw [← List.cons_append, List.drop_append_of_le_length hlen]
          have ht : List.take k (d :: (l ++ c :: x)) = List.take k (d :: l) := by
            rw [← List.cons_append, List.take_append_of_le_length hlen]
          rw [hd, ht]
          have hdl : (List.drop k (d :: l)).length = (d :: l).length - k := List.length_drop
          simp only [List.length_cons, List.length_append] at hlen hf hg hdl
          simp only [lastOpen, hk] at hs
          generalize List.take k (d :: l) = tk at *
          generalize List.drop k (d :: l) = rest at *
          by_cases hb : bl false rest = rest.length
          · rw [if_pos hb] at hs
            rw [hb] at hl
            have e0 : lexAt f (pos + k + rest.length) (rest.drop rest.length) = .ok [] := by
              rw [List.drop_length]; cases f <;> rfl
            rw [e0] at hl
            injection hl with hl
            subst hl
            rw [bl_app_all _ _ _ hb, bl_sep hs]
            have e1 : (rest ++ c :: x).drop (rest.length + (1 + bl false x)) = x.drop (bl false x) := by
              rw [List.drop_append, List.drop_of_length_le (by omega), Nat.add_sub_cancel_left, Nat.add_comm 1, List.drop_succ_cons, List.nil_append]
            rw [e1, Res.cons_eq]
            have e2 : pos + k + (rest.length + (1 + bl false x)) = pos + (l.length + 1) + 1 + bl false x := by omega
            rw [e2]
            simp only [List.length_cons]
            have hx := bl_le x false
            rw [lexAt_more g g' _ (x.drop (bl false x)) (by rw [List.length_drop]; omega) (by rw [List.length_drop]; omega)]
          · rw [if_neg hb] at hs
            have hble := bl_le rest false
            rw [bl_app_lt _ _ _ (by omega), List.drop_append_of_le_length (by omega)]
            have hr : lexAt f (pos + k + bl false rest) (rest.drop (bl false rest)) ≠ .err 0 0 ∨ True := .inr trivial
            cases hrec : lexAt f (pos + k + bl false rest) (rest.drop (bl false rest)) with
            | err p e => rw [hrec] at hl; cases hl
            | ok ts' =>
              rw [hrec] at hl
              injection hl with hl
              subst hl
              have hlr : (rest.drop (bl false rest)).length = rest.length - bl false rest := List.length_drop
              rw [ih g g' (pos + k + bl false rest) (rest.drop (bl false rest)) ts' (by intro e; rw [e] at hlr; simp at hlr; omega) hrec (by omega) hs (by simp only [List.length_append, List.length_cons]; omega) hg', Res.cons_eq, ← Res.prepend_append]
              have e2 : pos + k + bl false rest + (rest.drop (bl false rest)).length + 1 + bl false x = pos + (d :: l).length + 1 + bl false x := by
                simp only [List.length_cons]; omega
              rw [e2]
              rfl

/-! ### moved by d -/
def Tok.shift (d : Nat) (t : Tok) : Tok := { t with pos := t.pos + d }
def Res.shift (d : Nat) : Res → Res
  | .ok l => .ok (l.map (Tok.shift d))
  | .err p e => .err (p + d) e
theorem Res.shift_cons (d : Nat) (t : Tok) (r : Res) : Res.shift d (Res.cons t r) = Res.cons (t.shift d) (Res.shift d r) := by cases r <;> rfl
theorem lexAt_shift (d : Nat) (f : Nat) : ∀ (pos : Nat) (l : Bytes), lexAt f (pos + d) l = Res.shift d (lexAt f pos l) := by
  induction f with
  | zero => intro pos l; rfl
  | succ f ih =>
    intro pos l
    cases l with
    | nil => rfl
    | cons c l =>
      simp only [lexAt]
      split
      · rfl
      · split
        · rfl
        · rw [Res.shift_cons, ← ih]
          rw [show pos + d + (one (c :: l)).2.1 + bl false (List.drop (one (c :: l)).2.1 (c :: l)) = pos + (one (c :: l)).2.1 + bl false (List.drop (one (c :: l)).2.1 (c :: l)) + d from by omega]
          rfl

/-- What the last blanks of a text hold. -/
def openEnd (l : Bytes) : Bool := if bl false l = l.length then endc false l else lastOpen (l.length + 1) (l.drop (bl false l))

/-- A text with tokens, a blank that ends it, and another text: the tokens of both. -/
theorem lexAll_app {c : UInt8} (l x : Bytes) (ts : List Tok) (h : lexAll l = .ok ts) (hs : Sep c (openEnd l)) :
    lexAll (l ++ c :: x) = Res.prepend ts (Res.shift (l.length + 1) (lexAll x)) := by
  unfold lexAll at h ⊢
  unfold openEnd at hs
  have hle := bl_le l false
  have hx := bl_le x false
  rw [← lexAt_shift]
  by_cases hb : bl false l = l.length
  · rw [if_pos hb] at hs
    rw [bl_app_all _ _ _ hb, bl_sep hs]
    rw [hb, List.drop_length] at h
    have hts : ts = [] := by
      have e : lexAt (l.length + 1) l.length ([] : Bytes) = .ok [] := rfl
      rw [e] at h
      injection h with h
      exact h.symm
    subst hts
    rw [Res.prepend_nil]
    have e1 : (l ++ c :: x).drop (l.length + (1 + bl false x)) = x.drop (bl false x) := by
      rw [List.drop_append, List.drop_of_length_le (by omega), Nat.add_sub_cancel_left, Nat.add_comm 1, List.drop_succ_cons, List.nil_append]
    rw [e1, show l.length + (1 + bl false x) = bl false x + (l.length + 1) from by omega]
    exact lexAt_more _ _ _ _ (by simp only [List.length_drop, List.length_append, List.length_cons]; omega) (by simp only [List.length_drop]; omega)
  · rw [if_neg hb] at hs
    rw [bl_app_lt _ _ _ (by omega), List.drop_append_of_le_length hle]
    have hlr : (l.drop (bl false l)).length = l.length - bl false l := List.length_drop
    have := lexAt_app (c := c) x (l.length + 1) ((l ++ c :: x).length + 1) (x.length + 1) (bl false l) (l.drop (bl false l)) ts (by intro e; rw [e] at hlr; simp at hlr; omega) h (by omega) hs
      (by simp only [List.length_append, List.length_cons]; omega) (by omega)
    rw [this, show bl false l + (l.drop (bl false l)).length + 1 + bl false x = bl false x + (l.length + 1) from by omega]

theorem endc_comment (m : Bytes) (hm : ∀ c ∈ m, c.toNat ≠ 10) (y : Bytes) : bl true (m ++ 10 :: y) = m.length + 1 + bl false y := by
  induction m with
  | nil => simp [bl]
  | cons c m ih =>
    simp only [List.cons_append, bl, List.length_cons]
    rw [if_neg (hm c (by simp)), ih (fun c hc => hm c (by simp [hc]))]
    omega

/-- A comment and a newline ahead of a text. -/
theorem lexAll_comment (m y : Bytes) (hm : ∀ c ∈ m, c.toNat ≠ 10) : lexAll (35 :: (m ++ 10 :: y)) = Res.shift (m.length + 2) (lexAll y) := by
  unfold lexAll
  have hb : bl false (35 :: (m ++ 10 :: y)) = m.length + 2 + bl false y := by
    simp only [bl]
    rw [if_neg (by decide), if_pos (by decide), endc_comment m hm y]
    omega
  rw [hb, ← lexAt_shift]
  have hd : (35 :: (m ++ 10 :: y)).drop (m.length + 2 + bl false y) = y.drop (bl false y) := by
    rw [show m.length + 2 + bl false y = (m.length + (1 + bl false y)) + 1 from by omega, List.drop_succ_cons, List.drop_append, List.drop_of_length_le (by omega), Nat.add_sub_cancel_left, Nat.add_comm 1, List.drop_succ_cons, List.nil_append]
  have hy := bl_le y false
  rw [hd, show m.length + 2 + bl false y = bl false y + (m.length + 2) from by omega]
  exact lexAt_more _ _ _ _ (by simp only [List.length_drop, List.length_append, List.length_cons]; omega) (by simp only [List.length_drop]; omega)

/-- The law of gaps, in plain words. -/
theorem lexAll_gaps (a b m : Bytes) (la lb : List Tok) (ha : lexAll a = .ok la) (hb : lexAll b = .ok lb) (hm : ∀ c ∈ m, c.toNat ≠ 10) :
    lexAll (a ++ 10 :: 35 :: (m ++ 10 :: b)) = .ok (la ++ lb.map (Tok.shift (a.length + m.length + 3))) := by
  rw [lexAll_app (c := 10) a _ la ha (.inl rfl), lexAll_comment m b hm, hb]
  simp only [Res.shift, Res.prepend, List.map_map]
  congr 2
  apply List.map_congr_left
  intro t _
  simp only [Function.comp, Tok.shift]
  congr 1
  omega

end Go.Proofs.YtecldgjdmomilaaDoor.LexSpec
