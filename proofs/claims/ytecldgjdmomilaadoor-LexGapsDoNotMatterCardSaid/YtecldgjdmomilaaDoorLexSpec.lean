/-
  The plain words of the lexer: blanks, words, numbers, signs, tokens, as functions on lists of bytes, and what they keep.
-/
namespace Go.Proofs.YtecldgjdmomilaaDoor.LexSpec

abbrev Bytes := List UInt8

def isLetter (c : UInt8) : Bool := decide (97 ≤ c.toNat) && decide (c.toNat ≤ 122)
def isDigit (c : UInt8) : Bool := decide (48 ≤ c.toNat) && decide (c.toNat ≤ 57)
def isEither (c : UInt8) : Bool := isLetter c || isDigit c

/-- The length of the longest beginning whose bytes satisfy p. -/
def runLen (p : UInt8 → Bool) : Bytes → Nat
  | [] => 0
  | c :: l => if p c = true then 1 + runLen p l else 0

/-- The length of the blanks and comments at the beginning; the flag: within a comment. -/
def bl : Bool → Bytes → Nat
  | _, [] => 0
  | true, c :: l => if c.toNat = 10 then 1 + bl false l else 1 + bl true l
  | false, c :: l => if c.toNat = 32 ∨ c.toNat = 9 ∨ c.toNat = 10 then 1 + bl false l else if c.toNat = 35 then 1 + bl true l else 0

def headEither : Bytes → Bool
  | [] => false
  | c :: _ => isEither c

/-- The length of the word at the beginning. -/
def wl : Bytes → Nat
  | [] => 0
  | c :: l => if isEither c = true then 1 + wl l else if c.toNat = 45 ∧ headEither l = true then 1 + wl l else 0

/-- 2^40 + 1: what stands for every greater value. -/
def top : Nat := 1099511627777

/-- One digit more. -/
def dstep (v : Nat) (c : UInt8) : Nat := min (10 * v + (c.toNat - 48)) top
theorem dstep_le (v : Nat) (c : UInt8) : dstep v c ≤ top := Nat.min_le_right _ _
theorem dstep_eq (v : Nat) (c : UInt8) : dstep v c = min (10 * v + (c.toNat - 48)) 1099511627777 := by unfold dstep top; rfl
attribute [irreducible] dstep
/-- The value of digits, held below the top. -/
def dval : Nat → Bytes → Nat
  | v, [] => v
  | v, c :: l => dval (dstep v c) l

def unitOf (c : UInt8) : Nat :=
  if c.toNat = 115 then 1 else if c.toNat = 109 then 60 else if c.toNat = 104 then 3600 else if c.toNat = 100 then 86400 else 0

def headUnit : Bytes → Nat
  | [] => 0
  | c :: _ => unitOf c

def headZero : Bytes → Bool
  | [] => false
  | c :: _ => decide (c.toNat = 48)

/-- The length and the value of the number at the beginning. -/
def numTok (l : Bytes) : Option (Nat × Nat) :=
  let n := runLen isDigit l
  let v := dval 0 (l.take n)
  if 1 < n ∧ headZero l = true then none
  else
    let u := headUnit (l.drop n)
    let n' := if u = 0 then n else n + 1
    let v' := if u = 0 then v else min (v * u) top
    if headEither (l.drop n') = true then none else some (n', v')

def isSign (c : UInt8) : Bool :=
  decide (c.toNat = 123) || decide (c.toNat = 125) || decide (c.toNat = 40) || decide (c.toNat = 41) || decide (c.toNat = 59) || decide (c.toNat = 44) || decide (c.toNat = 61)

def headGt : Bytes → Bool
  | [] => false
  | c :: _ => decide (c.toNat = 62)

/-- The length of the sign at the beginning. -/
def signLen : Bytes → Nat
  | [] => 0
  | c :: l => if c.toNat = 45 ∧ headGt l = true then 2 else if isSign c = true then 1 else 0

/-- Kind, length and value of the token at the beginning; the length is 0 if there is none. -/
def one : Bytes → Nat × Nat × Nat
  | [] => (3, 0, 0)
  | c :: l =>
    if isLetter c = true then (1, wl (c :: l), 0)
    else if isDigit c = true then (match numTok (c :: l) with | none => (2, 0, 0) | some (n, v) => (2, n, v))
    else (3, signLen (c :: l), 0)

structure Tok where
  kind : Nat
  text : Bytes
  n : Nat
  pos : Nat

/-- Tokens, or the index and the number of the error. -/
inductive Res where
  | ok (l : List Tok)
  | err (pos : Nat) (e : Nat)

def Res.cons (t : Tok) : Res → Res
  | .ok l => .ok (t :: l)
  | .err p e => .err p e
def Res.prepend (ts : List Tok) : Res → Res
  | .ok l => .ok (ts ++ l)
  | .err p e => .err p e

/-- The tokens of a text that begins with no blank, its first byte at index 'pos'; the first number: enough rounds. -/
def lexAt : Nat → Nat → Bytes → Res
  | 0, _, _ => .ok []
  | _ + 1, _, [] => .ok []
  | f + 1, pos, c :: l =>
    let k := one (c :: l)
    if k.2.1 = 0 then .err pos 3
    else if 1099511627776 < k.2.2 then .err pos 2
    else
      let rest := (c :: l).drop k.2.1
      let b := bl false rest
      Res.cons ⟨k.1, (c :: l).take k.2.1, k.2.2, pos⟩ (lexAt f (pos + k.2.1 + b) (rest.drop b))

def lexAll (l : Bytes) : Res := lexAt (l.length + 1) (bl false l) (l.drop (bl false l))
def tokens (l : Bytes) : Res := if 4000 < l.length then .err 0 2 else lexAll l

/-! ### sizes -/
theorem runLen_le (p : UInt8 → Bool) (l : Bytes) : runLen p l ≤ l.length := by
  induction l with
  | nil => simp [runLen]
  | cons c l ih => simp only [runLen, List.length_cons]; split <;> omega
theorem bl_le (l : Bytes) : ∀ b, bl b l ≤ l.length := by
  induction l with
  | nil => intro b; cases b <;> simp [bl]
  | cons c l ih =>
    intro b
    have h1 := ih false
    have h2 := ih true
    cases b <;> simp only [bl, List.length_cons] <;> split <;> (try split) <;> omega
theorem wl_le (l : Bytes) : wl l ≤ l.length := by
  induction l with
  | nil => simp [wl]
  | cons c l ih => simp only [wl, List.length_cons]; split <;> (try split) <;> omega
theorem dval_le (l : Bytes) : ∀ v, v ≤ top → dval v l ≤ top := by
  induction l with
  | nil => intro v h; exact h
  | cons c l ih => intro v _; exact ih _ (dstep_le _ _)
theorem numTok_le {l : Bytes} {n v : Nat} (h : numTok l = some (n, v)) : n ≤ l.length ∧ v ≤ top := by
  unfold numTok at h
  simp only at h
  have hr := runLen_le isDigit l
  have hv : dval 0 (l.take (runLen isDigit l)) ≤ top := dval_le _ 0 (Nat.zero_le _)
  by_cases h0 : 1 < runLen isDigit l ∧ headZero l = true
  · rw [if_pos h0] at h; cases h
  · rw [if_neg h0] at h
    generalize hu : headUnit (List.drop (runLen isDigit l) l) = u at h
    by_cases hu0 : u = 0
    · rw [if_pos hu0, if_pos hu0] at h
      by_cases he : headEither (List.drop (runLen isDigit l) l) = true
      · rw [if_pos he] at h; cases h
      · rw [if_neg he] at h
        simp only [Option.some.injEq, Prod.mk.injEq] at h
        omega
    · rw [if_neg hu0, if_neg hu0] at h
      by_cases he : headEither (List.drop (runLen isDigit l + 1) l) = true
      · rw [if_pos he] at h; cases h
      · rw [if_neg he] at h
        simp only [Option.some.injEq, Prod.mk.injEq] at h
        obtain ⟨h1, h2⟩ := h
        have hne : runLen isDigit l ≠ l.length := by
          intro e
          rw [e] at hu
          simp [headUnit] at hu
          exact hu0 hu.symm
        have := Nat.min_le_right (dval 0 (List.take (runLen isDigit l) l) * u) top
        omega
theorem signLen_le (l : Bytes) : signLen l ≤ l.length := by
  cases l with
  | nil => simp [signLen]
  | cons c l =>
    simp only [signLen, List.length_cons]
    by_cases h : c.toNat = 45 ∧ headGt l = true
    · rw [if_pos h]
      cases l with
      | nil => simp [headGt] at h
      | cons d l => simp
    · rw [if_neg h]
      split <;> omega
theorem one_le (l : Bytes) : (one l).2.1 ≤ l.length ∧ (one l).2.2 ≤ top := by
  cases l with
  | nil => simp [one]
  | cons c l =>
    simp only [one]
    split
    · exact ⟨wl_le _, Nat.zero_le _⟩
    · split
      · cases h : numTok (c :: l) with
        | none => simp
        | some p => obtain ⟨n, v⟩ := p; exact numTok_le h
      · exact ⟨signLen_le (c :: l), Nat.zero_le _⟩

/-! ### the value of the digits at the beginning, in one run -/
def dvR : Nat → Bytes → Nat
  | v, [] => v
  | v, c :: l => if isDigit c = true then dvR (dstep v c) l else v
theorem dvR_yes {c : UInt8} (h : isDigit c = true) (v : Nat) (l : Bytes) : dvR v (c :: l) = dvR (dstep v c) l := if_pos h
theorem dvR_no {c : UInt8} (h : ¬ isDigit c = true) (v : Nat) (l : Bytes) : dvR v (c :: l) = v := if_neg h
theorem runLen_yes {p : UInt8 → Bool} {c : UInt8} (h : p c = true) (l : Bytes) : runLen p (c :: l) = runLen p l + 1 := by
  simp only [runLen, h, if_true]; exact Nat.add_comm _ _
theorem runLen_no {p : UInt8 → Bool} {c : UInt8} (h : ¬ p c = true) (l : Bytes) : runLen p (c :: l) = 0 := by simp only [runLen, h]; rfl
theorem dval_cons (v : Nat) (c : UInt8) (l : Bytes) : dval v (c :: l) = dval (dstep v c) l := rfl
theorem dvR_eq (l : Bytes) : ∀ v, dvR v l = dval v (l.take (runLen isDigit l)) := by
  induction l with
  | nil => intro v; rfl
  | cons c l ih =>
    intro v
    by_cases h : isDigit c = true
    · rw [dvR_yes h, runLen_yes h, List.take_succ_cons, dval_cons, ih]
    · rw [dvR_no h, runLen_no h]
      rfl

/-! ### the rounds do not matter -/
theorem lexAt_more (f : Nat) : ∀ (g pos : Nat) (l : Bytes), l.length < f → l.length < g → lexAt f pos l = lexAt g pos l := by
  induction f with
  | zero => intro g pos l h _; omega
  | succ f ih =>
    intro g pos l h h'
    obtain ⟨g, rfl⟩ : ∃ m, g = m + 1 := ⟨g - 1, by omega⟩
    cases l with
    | nil => rfl
    | cons c l =>
      simp only [lexAt]
      split
      · rfl
      · split
        · rfl
        · rename_i h0 _
          have hl : ((List.drop (one (c :: l)).2.1 (c :: l)).drop (bl false (List.drop (one (c :: l)).2.1 (c :: l)))).length < (c :: l).length := by
            simp only [List.length_drop, List.length_cons]; omega
          rw [ih g _ _ (by omega) (by omega)]

theorem Res.cons_eq (t : Tok) (r : Res) : Res.cons t r = Res.prepend [t] r := by cases r <;> rfl
theorem Res.prepend_append (a b : List Tok) (r : Res) : Res.prepend (a ++ b) r = Res.prepend a (Res.prepend b r) := by cases r <;> simp [Res.prepend]
theorem Res.prepend_nil (r : Res) : Res.prepend [] r = r := by cases r <;> rfl

end Go.Proofs.YtecldgjdmomilaaDoor.LexSpec
