/-
  Plain laws of scripts: what is printed is read again; spaced text; prefixes of lines; two printed texts, one behind the other. No program in sight.
-/
import Derived.Test.YtecdkgiandbkeaaGreatDoorScDec
namespace Go.Proofs.YtecdkgiandbkeaaGreatDoor.ScSpec

/-! ### Pieces and lines -/
theorem split_ne (d : UInt8) (l : Bytes) : split d l ≠ [] := by
  cases l with
  | nil => simp [split]
  | cons c l =>
    simp only [split]
    by_cases h : c = d
    · rw [if_pos h]; simp
    · rw [if_neg h]
      cases split d l <;> simp
theorem split_hit (d : UInt8) (l : Bytes) : split d (d :: l) = [] :: split d l := by simp [split]
theorem split_miss {d c : UInt8} (h : c ≠ d) {l p : Bytes} {ps : List Bytes} (hs : split d l = p :: ps) : split d (c :: l) = (c :: p) :: ps := by
  rw [split, if_neg h, hs]
theorem split_app (d : UInt8) (a b : Bytes) : split d (a ++ d :: b) = split d a ++ split d b := by
  induction a with
  | nil => rw [List.nil_append, split_hit]; rfl
  | cons c a ih =>
    rw [List.cons_append]
    by_cases h : c = d
    · subst h; rw [split_hit, split_hit, ih]; rfl
    · cases hs : split d a with
      | nil => exact absurd hs (split_ne d a)
      | cons p ps =>
        rw [split_miss h hs, split_miss h (by rw [ih, hs]; rfl)]; rfl
theorem split_plain {d : UInt8} {a : Bytes} (h : ∀ c ∈ a, c ≠ d) : split d a = [a] := by
  induction a with
  | nil => rfl
  | cons c a ih => rw [split_miss (h c (by simp)) (ih fun c hc => h c (by simp [hc]))]
theorem split_no (d : UInt8) (l : Bytes) : ∀ p ∈ split d l, ∀ c ∈ p, c ≠ d := by
  induction l with
  | nil => intro p hp; simp [split] at hp; subst hp; simp
  | cons c l ih =>
    by_cases h : c = d
    · subst h
      rw [split_hit]
      intro p hp
      rcases List.mem_cons.1 hp with rfl | hp
      · simp
      · exact ih p hp
    · cases hs : split d l with
      | nil => exact absurd hs (split_ne d l)
      | cons q ps =>
        rw [hs] at ih
        rw [split_miss h hs]
        intro p hp
        rcases List.mem_cons.1 hp with rfl | hp
        · intro c' hc'
          rcases List.mem_cons.1 hc' with rfl | hc'
          · exact h
          · exact ih q (by simp) c' hc'
        · exact ih p (by simp [hp])
/-- Pieces with byte d between them. -/
def glue (d : UInt8) : List Bytes → Bytes
  | [] => []
  | [p] => p
  | p :: q :: ps => p ++ d :: glue d (q :: ps)
theorem glue_cons (d : UInt8) (p : Bytes) {ps : List Bytes} (h : ps ≠ []) : glue d (p :: ps) = p ++ d :: glue d ps := by
  cases ps with
  | nil => exact absurd rfl h
  | cons q ps => rfl
theorem glue_split (d : UInt8) (l : Bytes) : glue d (split d l) = l := by
  induction l with
  | nil => rfl
  | cons c l ih =>
    by_cases h : c = d
    · subst h
      rw [split_hit, glue_cons _ _ (split_ne _ _), ih]; rfl
    · cases hs : split d l with
      | nil => exact absurd hs (split_ne d l)
      | cons q ps =>
        rw [split_miss h hs]
        rw [hs] at ih
        cases ps with
        | nil => simp only [glue] at ih ⊢; rw [ih]
        | cons r ps => simp only [glue] at ih ⊢; rw [← ih]; rfl
theorem split_glue (d : UInt8) (ls : List Bytes) (h : ls ≠ []) : split d (glue d ls) = ls.flatMap (split d) := by
  induction ls with
  | nil => exact absurd rfl h
  | cons p ps ih =>
    cases ps with
    | nil => simp [glue]
    | cons q ps => rw [glue_cons _ _ (by simp), split_app, ih (by simp)]; rfl
theorem flatMap_split_plain (d : UInt8) (ls : List Bytes) (h : ∀ l ∈ ls, ∀ c ∈ l, c ≠ d) : ls.flatMap (split d) = ls := by
  induction ls with
  | nil => rfl
  | cons p ps ih => rw [List.flatMap_cons, split_plain (h p (by simp)), ih fun l hl => h l (by simp [hl])]; rfl
theorem glue_tail (d : UInt8) (p : Bytes) (ps : List Bytes) : glue d (p :: ps) = p ++ ps.flatMap (d :: ·) := by
  induction ps generalizing p with
  | nil => simp [glue]
  | cons q ps ih => rw [glue_cons _ _ (by simp), ih, List.flatMap_cons]; simp
/-- Lines, each with its newline. -/
def lines (ls : List Bytes) : Bytes := ls.flatMap (· ++ [10])
theorem split_lines (ls : List Bytes) (h : ∀ l ∈ ls, ∀ c ∈ l, c ≠ 10) (r : Bytes) : split 10 (lines ls ++ r) = ls ++ split 10 r := by
  induction ls with
  | nil => rfl
  | cons p ps ih =>
    have e : lines (p :: ps) ++ r = p ++ 10 :: (lines ps ++ r) := by simp [lines]
    rw [e, split_app, split_plain (h p (by simp)), ih fun l hl => h l (by simp [hl])]; rfl
theorem lines_append (a b : List Bytes) : lines (a ++ b) = lines a ++ lines b := by simp [lines]
theorem lines_bars (t : Bytes) : lines ((split 10 t).map (124 :: ·)) = 124 :: barred t ++ [10] := by
  induction t with
  | nil => rfl
  | cons c t ih =>
    by_cases h : c = 10
    · subst h
      rw [split_hit]
      have e : barred (10 :: t) = 10 :: 124 :: barred t := rfl
      rw [e, List.map_cons, show lines ((124 :: []) :: (split 10 t).map (124 :: ·)) = [124, 10] ++ lines ((split 10 t).map (124 :: ·)) from rfl, ih]; rfl
    · cases hs : split 10 t with
      | nil => exact absurd hs (split_ne 10 t)
      | cons p ps =>
        rw [split_miss h hs]
        rw [hs] at ih
        have hc : c.toNat ≠ 10 := fun e => h (by rw [← UInt8.ofNat_toNat (x := c), e]; rfl)
        have e : barred (c :: t) = c :: barred t := by simp [barred, hc]
        rw [e]
        simp only [lines, List.map_cons, List.flatMap_cons, List.cons_append, List.cons.injEq, true_and] at ih ⊢
        exact ih

/-! ### Lines of a printed script -/
def textLines (t : Bytes) : List Bytes := textW :: (split 10 t).map (124 :: ·)
theorem lines_text (t : Bytes) : lines (textLines t) = printText t := by
  unfold textLines printText
  rw [show lines (textW :: (split 10 t).map (124 :: ·)) = textW ++ [10] ++ lines ((split 10 t).map (124 :: ·)) from rfl, lines_bars]; rfl
def tailW : Bytes → List Bytes
  | [] => []
  | c :: r => [if c.toNat = 64 then c :: r else 61 :: hexs r]
def stepWords (x : Stp) : List Bytes := x.args.map (fun n => digits n.toNat) ++ tailW x.text
def stepLine (x : Stp) : Bytes := name x.kind ++ (stepWords x).flatMap (32 :: ·)
theorem lines_step (x : Stp) : stepLine x ++ [10] = printStep x := by
  unfold stepLine printStep stepWords
  rw [List.flatMap_append, ← List.append_assoc]
  congr 1
  congr 1
  · congr 1
    induction x.args with
    | nil => rfl
    | cons a l ih => rw [List.map_cons, List.flatMap_cons, List.flatMap_cons, ih]
  · cases x.text with
    | nil => rfl
    | cons c r => simp only [tailW, printTail]; split <;> simp
def plines (s : Scr) : List Bytes := s.texts.flatMap textLines ++ s.steps.map stepLine
theorem lines_plines (s : Scr) : lines (plines s) = printed s := by
  unfold plines printed
  rw [lines_append]
  congr 1
  · induction s.texts with
    | nil => rfl
    | cons t ts ih => rw [List.flatMap_cons, List.flatMap_cons, lines_append, ih, lines_text]
  · induction s.steps with
    | nil => rfl
    | cons x xs ih => rw [List.map_cons, List.flatMap_cons, ← ih, ← lines_step]; rfl

/-! ### Words -/
theorem words_of (p : Bytes) (ws : List Bytes) (hp : ∀ c ∈ p, c ≠ 32) (hp0 : p ≠ []) (hw : ∀ w ∈ ws, (∀ c ∈ w, c ≠ 32) ∧ w ≠ []) : words (p ++ ws.flatMap (32 :: ·)) = p :: ws := by
  have e : split 32 (p ++ ws.flatMap (32 :: ·)) = p :: ws := by
    rw [← glue_tail, split_glue _ _ (by simp), flatMap_split_plain]
    intro l hl
    rcases List.mem_cons.1 hl with rfl | hl
    · exact hp
    · exact (hw l hl).1
  unfold words
  rw [e]
  apply List.filter_eq_self.2
  intro w hm
  rcases List.mem_cons.1 hm with rfl | hm
  · simpa using hp0
  · simpa using (hw w hm).2
theorem digit_toNat {d : Nat} (h : d < 10) : (UInt8.ofNat (48 + d)).toNat = 48 + d := by simp; omega
theorem digits_byte (n : Nat) : ∀ c ∈ digits n, 48 ≤ c.toNat ∧ c.toNat ≤ 57 := by
  induction n using Nat.strongRecOn with
  | _ n ih =>
    intro c hc
    rw [digits] at hc
    split at hc
    · simp only [List.mem_singleton] at hc
      subst hc
      rw [digit_toNat (by omega)]; omega
    · rcases List.mem_append.1 hc with hc | hc
      · exact ih (n / 10) (by omega) c hc
      · simp only [List.mem_singleton] at hc
        subst hc
        rw [digit_toNat (by omega)]; omega
theorem digits_ne (n : Nat) : digits n ≠ [] := by rw [digits_eq]; exact decDigits_ne n
theorem digits_len (k : Nat) : ∀ n, n < 10 ^ (k + 1) → (digits n).length ≤ k + 1 := by
  induction k with
  | zero => intro n h; rw [digits, if_pos (by simpa using h)]; simp
  | succ k ih =>
    intro n h
    rw [digits]
    split
    · simp
    · have h10 : 10 ^ (k + 1 + 1) = 10 ^ (k + 1) * 10 := Nat.pow_succ 10 (k + 1)
      have := ih (n / 10) (by omega)
      simp; omega
theorem ne_of_toNat {c : UInt8} {n : Nat} (hn : n < 256) (h : c.toNat ≠ n) : c ≠ UInt8.ofNat n := by
  intro e; subst e; exact h (by simp; omega)
theorem toNat_of_ne {c : UInt8} {n : Nat} (h : c ≠ UInt8.ofNat n) : c.toNat ≠ n := by
  intro e; exact h (by rw [← e]; simp)
theorem hexD_val : ∀ i : Fin 16, (hexD i.val).toNat = if i.val < 10 then 48 + i.val else 87 + i.val := by decide
theorem hexD_un : ∀ i : Fin 16, unhexD (hexD i.val) = some i.val := by decide
theorem hexs_byte (t : Bytes) : ∀ c ∈ hexs t, 48 ≤ c.toNat ∧ c.toNat ≤ 102 := by
  intro c hc
  obtain ⟨b, _, hb⟩ := List.mem_flatMap.1 hc
  have h8 := b.toNat_lt
  rcases List.mem_cons.1 hb with rfl | hb
  · rw [hexD_val ⟨b.toNat / 16, by omega⟩]
    simp only
    split <;> omega
  · simp only [List.mem_singleton] at hb
    subst hb
    rw [hexD_val ⟨b.toNat % 16, by omega⟩]
    simp only
    split <;> omega
theorem unhex_hexs (t : Bytes) : unhex (hexs t) = some t := by
  induction t with
  | nil => rfl
  | cons b t ih =>
    have h8 := b.toNat_lt
    have e : hexs (b :: t) = hexD (b.toNat / 16) :: hexD (b.toNat % 16) :: hexs t := rfl
    rw [e]
    simp only [unhex]
    rw [hexD_un ⟨b.toNat / 16, by omega⟩, hexD_un ⟨b.toNat % 16, by omega⟩, ih]
    simp only
    rw [show 16 * (b.toNat / 16) + b.toNat % 16 = b.toNat from by omega]
    simp

/-! ### Steps -/
theorem isStep_parts {x : Stp} (h : isStep x = true) : (1 ≤ x.kind ∧ x.kind < 24) ∧ (∀ a ∈ x.args, 0 ≤ a ∧ a ≤ 2199023255552) ∧ (data x.text).2.2 = 0 := by
  unfold isStep isKind at h
  simp only [Bool.and_eq_true, decide_eq_true_eq, List.all_eq_true, okArg] at h
  exact ⟨h.1.1.1.1.1, fun a ha => h.1.2 a ha, h.2⟩
theorem name_facts : ∀ k : Fin 24, 1 ≤ k.val → (name (k.val : Nat)).all (fun c => decide (97 ≤ c.toNat)) = true ∧ (name (k.val : Nat)) ≠ [] ∧ kindOf (name (k.val : Nat)) = k.val ∧ name (k.val : Nat) ≠ textW := by decide
theorem dec_arg {a : Int} (h0 : 0 ≤ a) (h1 : a ≤ 2199023255552) : dec (digits a.toNat) = some a.toNat := dec_digits _ (digits_len 12 _ (by omega))
theorem dec_byte {w : Bytes} {n : Nat} (h : dec w = some n) : ∀ c ∈ w, 48 ≤ c.toNat ∧ c.toNat ≤ 57 := by
  rw [← digits_dec h]; exact digits_byte n
theorem data_ok {t : Bytes} (h : (data t).2.2 = 0) : t = [] ∨ (∃ r, t = 61 :: r ∧ r.length ≤ 4000) ∨ (∃ r n, t = 64 :: r ∧ dec r = some n ∧ n ≤ 65535) := by
  cases t with
  | nil => exact .inl rfl
  | cons c r =>
    right
    simp only [data] at h
    split at h
    · rename_i hc
      left
      exact ⟨r, by rw [← UInt8.ofNat_toNat (x := c), hc.1]; rfl, hc.2⟩
    · split at h
      · rename_i hc
        right
        cases hd : dec r with
        | none => rw [hd] at h; simp at h
        | some n =>
          rw [hd] at h
          simp only at h
          split at h
          · rename_i hn
            exact ⟨r, n, by rw [← UInt8.ofNat_toNat (x := c), hc]; rfl, hd, hn⟩
          · simp at h
      · simp at h
theorem tailW_word {t : Bytes} (h : (data t).2.2 = 0) : ∀ w ∈ tailW t, (∀ c ∈ w, 48 ≤ c.toNat ∧ c.toNat ≤ 102) ∧ w ≠ [] := by
  rcases data_ok h with rfl | ⟨r, rfl, _⟩ | ⟨r, n, rfl, hd, _⟩
  · intro w hw; cases hw
  · intro w hw
    simp only [tailW, List.mem_singleton] at hw
    rw [if_neg (by decide)] at hw
    subst hw
    refine ⟨fun c hc => ?_, by simp⟩
    rcases List.mem_cons.1 hc with rfl | hc
    · decide
    · exact hexs_byte r c hc
  · intro w hw
    simp only [tailW, List.mem_singleton] at hw
    rw [if_pos (by decide)] at hw
    subst hw
    refine ⟨fun c hc => ?_, by simp⟩
    rcases List.mem_cons.1 hc with rfl | hc
    · decide
    · have := dec_byte hd c hc; omega
theorem stepWords_word {x : Stp} (h : isStep x = true) : ∀ w ∈ stepWords x, (∀ c ∈ w, 48 ≤ c.toNat ∧ c.toNat ≤ 102) ∧ w ≠ [] := by
  intro w hw
  rcases List.mem_append.1 hw with hw | hw
  · obtain ⟨a, _, rfl⟩ := List.mem_map.1 hw
    exact ⟨fun c hc => by have := digits_byte _ c hc; omega, digits_ne _⟩
  · exact tailW_word (isStep_parts h).2.2 w hw
theorem ne32 {c : UInt8} (h : 48 ≤ c.toNat) : c ≠ 32 := by intro e; subst e; simp at h
theorem ne10 {c : UInt8} (h : 48 ≤ c.toNat) : c ≠ 10 := by intro e; subst e; simp at h
theorem kind_nat {x : Stp} (h : isStep x = true) : ∃ k : Fin 24, 1 ≤ k.val ∧ x.kind = (k.val : Nat) := by
  obtain ⟨⟨h1, h2⟩, _⟩ := isStep_parts h
  exact ⟨⟨x.kind.toNat, by omega⟩, by simp; omega, by simp; omega⟩
theorem name_byte {x : Stp} (h : isStep x = true) : (∀ c ∈ name x.kind, 97 ≤ c.toNat) ∧ name x.kind ≠ [] ∧ (kindOf (name x.kind) : Int) = x.kind ∧ name x.kind ≠ textW ∧ kindOf (name x.kind) ≠ 0 := by
  obtain ⟨k, hk, e⟩ := kind_nat h
  rw [e]
  obtain ⟨h1, h2, h3, h4⟩ := name_facts k hk
  exact ⟨fun c hc => by have := List.all_eq_true.1 h1 c hc; simpa using this, h2, by rw [h3], h4, by omega⟩
theorem words_step {x : Stp} (h : isStep x = true) : words (stepLine x) = name x.kind :: stepWords x := by
  obtain ⟨h1, h2, _⟩ := name_byte h
  exact words_of _ _ (fun c hc => ne32 (by have := h1 c hc; omega)) h2 fun w hw => ⟨fun c hc => ne32 ((stepWords_word h w hw).1 c hc).1, (stepWords_word h w hw).2⟩
theorem stepLine_byte {x : Stp} (h : isStep x = true) : ∀ c ∈ stepLine x, c.toNat ≠ 10 ∧ c.toNat ≠ 13 := by
  intro c hc
  rcases List.mem_append.1 hc with hc | hc
  · have := (name_byte h).1 c hc; omega
  · obtain ⟨w, hw, hc⟩ := List.mem_flatMap.1 hc
    rcases List.mem_cons.1 hc with rfl | hc
    · decide
    · have := (stepWords_word h w hw).1 c hc; omega
theorem stepLine_head {x : Stp} (h : isStep x = true) : ∃ c r, stepLine x = c :: r ∧ 97 ≤ c.toNat ∧ c.toNat ≤ 122 := by
  obtain ⟨h1, h2, _⟩ := name_byte h
  have h3 : ∀ k : Fin 24, 1 ≤ k.val → (name (k.val : Nat)).all (fun c => decide (c.toNat ≤ 122)) = true := by decide
  obtain ⟨k, hk, e⟩ := kind_nat h
  unfold stepLine
  cases hn : name x.kind with
  | nil => exact absurd hn h2
  | cons c r =>
    refine ⟨c, _, rfl, h1 c (by rw [hn]; simp), ?_⟩
    have := List.all_eq_true.1 (h3 k hk) c (by rw [← e, hn]; simp)
    simpa using this
theorem digits_notLit (n : Nat) : isLit (digits n) = false := by
  cases h : digits n with
  | nil => rfl
  | cons c r =>
    have := digits_byte n c (by rw [h]; simp)
    simp only [isLit, Bool.or_eq_false_iff, decide_eq_false_iff_not]; omega
theorem readArgs_num {w : Bytes} {n : Nat} (hd : dec w = some n) (hl : isLit w = false) {l : List Bytes} {a : List Int} {t : Bytes} (h : readArgs l = some (a, t)) : readArgs (w :: l) = some ((n : Int) :: a, t) := by
  cases l with
  | nil =>
    simp only [readArgs, Option.some.injEq, Prod.mk.injEq] at h
    obtain ⟨rfl, rfl⟩ := h
    simp only [readArgs, hl, hd]; rfl
  | cons v l => simp only [readArgs, hd, h]
theorem readArgs_step {x : Stp} (h : isStep x = true) : readArgs (stepWords x) = some (x.args, x.text) := by
  obtain ⟨_, h2, h3⟩ := isStep_parts h
  unfold stepWords
  have ht : readArgs (tailW x.text) = some ([], x.text) := by
    rcases data_ok h3 with e | ⟨r, e, _⟩ | ⟨r, n, e, _, _⟩
    · rw [e]; rfl
    · rw [e]
      simp only [tailW]
      rw [if_neg (by decide)]
      simp only [readArgs, literal]
      rw [if_pos (by rfl), if_neg (by decide), unhex_hexs]; rfl
    · rw [e]
      simp only [tailW]
      rw [if_pos (by decide)]
      simp only [readArgs, literal]
      rw [if_pos (by rfl), if_pos (by decide)]; rfl
  generalize x.args = as at h2
  induction as with
  | nil => exact ht
  | cons a as ih =>
    have ha := h2 a (by simp)
    rw [List.map_cons, List.cons_append, readArgs_num (dec_arg ha.1 ha.2) (digits_notLit _) (ih fun b hb => h2 b (by simp [hb])), show ((a.toNat : Nat) : Int) = a from by omega]
theorem step_line {x : Stp} (h : isStep x = true) : step (words (stepLine x)) = (x, 0) := by
  obtain ⟨_, _, h3, _, h5⟩ := name_byte h
  rw [words_step h]
  show (if kindOf (name x.kind) = 0 then ((⟨0, [], []⟩, 4) : Stp × Int) else match readArgs (stepWords x) with
    | none => ((⟨0, [], []⟩, 3) : Stp × Int)
    | some (a, t) => if isStep ⟨(kindOf (name x.kind) : Nat), a, t⟩ then ((⟨(kindOf (name x.kind) : Nat), a, t⟩, 0) : Stp × Int) else ((⟨0, [], []⟩, 1) : Stp × Int)) = ((x, 0) : Stp × Int)
  rw [if_neg h5, readArgs_step h]
  simp only
  rw [h3]
  rw [if_pos h]

/-! ### Reading what was printed -/
theorem addLast_snoc (ts : List Bytes) (x y : Bytes) : addLast (ts ++ [x]) y = ts ++ [x ++ y] := by
  unfold addLast
  simp
theorem parseL_bar (k : Nat) (e : Bool) (ts : List Bytes) (ss : List Stp) (p : Bytes) (r : List Bytes) : parseL k true e ts ss ((124 :: p) :: r) = parseL (k + 1) true false (addLast ts ((if e then [] else [10]) ++ p)) ss r := by
  simp [parseL]
theorem parseL_bars (ps : List Bytes) : ∀ (k : Nat) (ts : List Bytes) (x : Bytes) (ss : List Stp) (r : List Bytes), parseL k true false (ts ++ [x]) ss (ps.map (124 :: ·) ++ r) = parseL (k + ps.length) true false (ts ++ [x ++ ps.flatMap (10 :: ·)]) ss r := by
  induction ps with
  | nil => intro k ts x ss r; simp
  | cons p ps ih =>
    intro k ts x ss r
    rw [List.map_cons, List.cons_append, parseL_bar, addLast_snoc, ih, List.flatMap_cons, List.length_cons]
    simp [Nat.add_assoc, Nat.add_comm 1]
theorem words_textW : words textW = [textW] := by decide
theorem parseL_textW (k : Nat) (o e : Bool) (ts : List Bytes) (ss : List Stp) (r : List Bytes) (h : (o && e) = false) : parseL k o e ts ss (textW :: r) = parseL (k + 1) true true (ts ++ [[]]) ss r := by
  rw [parseL, if_neg (by decide), if_neg (by rw [h]; simp), if_neg (by rw [words_textW]; decide), if_pos words_textW]
theorem parseL_text (k : Nat) (o : Bool) (ts : List Bytes) (ss : List Stp) (t : Bytes) (r : List Bytes) : ∃ k', parseL k o false ts ss (textLines t ++ r) = parseL k' true false (ts ++ [t]) ss r := by
  cases hs : split 10 t with
  | nil => exact absurd hs (split_ne 10 t)
  | cons p ps =>
    have e : p ++ ps.flatMap (10 :: ·) = t := by rw [← glue_tail, ← hs, glue_split]
    refine ⟨k + 1 + 1 + ps.length, ?_⟩
    unfold textLines
    rw [hs, List.cons_append, parseL_textW _ _ _ _ _ _ (by simp), List.map_cons, List.cons_append, parseL_bar, addLast_snoc, parseL_bars]
    simp only [if_pos, List.nil_append]
    rw [e]
theorem parseL_texts (l : List Bytes) : ∀ (k : Nat) (o : Bool) (ts : List Bytes) (ss : List Stp) (r : List Bytes), ∃ k' o', parseL k o false ts ss (l.flatMap textLines ++ r) = parseL k' o' false (ts ++ l) ss r := by
  induction l with
  | nil => intro k o ts ss r; exact ⟨k, o, by simp⟩
  | cons t l ih =>
    intro k o ts ss r
    rw [List.flatMap_cons, List.append_assoc]
    obtain ⟨k1, h1⟩ := parseL_text k o ts ss t (l.flatMap textLines ++ r)
    obtain ⟨k2, o2, h2⟩ := ih k1 true (ts ++ [t]) ss r
    exact ⟨k2, o2, by rw [h1, h2]; simp⟩
/-- A line whose words are a step's. -/
theorem parseL_stepW {x : Stp} (h : isStep x = true) (k : Nat) (o : Bool) (ts : List Bytes) (ss : List Stp) (l : Bytes) (r : List Bytes) (hw : words l = words (stepLine x)) (h1 : l.head? ≠ some 124) (h2 : l.head? ≠ some 35) :
    parseL k o false ts ss (l :: r) = parseL (k + 1) false false ts (ss ++ [x]) r := by
  have hst := step_line h
  have hn := name_byte h
  rw [parseL, if_neg h1, if_neg (by simp), if_neg ?_, if_neg ?_, hw, hst, if_pos rfl]
  · rw [hw, words_step h]
    intro e
    exact hn.2.2.2.1 (List.cons.inj e).1
  · rw [hw, words_step h]
    rintro (e | e)
    · cases e
    · exact h2 e
theorem parseL_step {x : Stp} (h : isStep x = true) (k : Nat) (o : Bool) (ts : List Bytes) (ss : List Stp) (r : List Bytes) : parseL k o false ts ss (stepLine x :: r) = parseL (k + 1) false false ts (ss ++ [x]) r := by
  obtain ⟨c, q, e, h1, h2⟩ := stepLine_head h
  refine parseL_stepW h k o ts ss _ r rfl ?_ ?_
  · rw [e]; intro e; have := congrArg UInt8.toNat (Option.some.inj e); simp at this; omega
  · rw [e]; intro e; have := congrArg UInt8.toNat (Option.some.inj e); simp at this; omega
theorem parseL_steps (l : List Stp) (hl : ∀ x ∈ l, isStep x = true) : ∀ (k : Nat) (o : Bool) (ts : List Bytes) (ss : List Stp) (r : List Bytes), ∃ k' o', parseL k o false ts ss (l.map stepLine ++ r) = parseL k' o' false ts (ss ++ l) r := by
  induction l with
  | nil => intro k o ts ss r; exact ⟨k, o, by simp⟩
  | cons x l ih =>
    intro k o ts ss r
    obtain ⟨k2, o2, h2⟩ := ih (fun y hy => hl y (by simp [hy])) (k + 1) false ts (ss ++ [x]) r
    exact ⟨k2, o2, by rw [List.map_cons, List.cons_append, parseL_step (hl x (by simp)), h2]; simp⟩
theorem parseL_printed (s : Scr) (hs : ∀ x ∈ s.steps, isStep x = true) (k : Nat) (o : Bool) (ts : List Bytes) (ss : List Stp) (r : List Bytes) : ∃ k' o', parseL k o false ts ss (plines s ++ r) = parseL k' o' false (ts ++ s.texts) (ss ++ s.steps) r := by
  unfold plines
  rw [List.append_assoc]
  obtain ⟨k1, o1, h1⟩ := parseL_texts s.texts k o ts ss (s.steps.map stepLine ++ r)
  obtain ⟨k2, o2, h2⟩ := parseL_steps s.steps hs k1 o1 (ts ++ s.texts) ss r
  exact ⟨k2, o2, by rw [h1, h2]⟩
theorem parseL_blank (k : Nat) (o : Bool) (ts : List Bytes) (ss : List Stp) (r : List Bytes) : parseL k o false ts ss ([] :: r) = parseL (k + 1) false false ts ss r := by
  rw [parseL, if_neg (by simp), if_neg (by simp), if_pos (.inl (by rfl))]
theorem firstBad_code (l : List Stp) : ∀ i, (firstBad i l).2 = 0 ∨ (firstBad i l).2 = 1 := by
  induction l with
  | nil => intro i; left; rfl
  | cons x l ih =>
    intro i
    simp only [firstBad]
    split
    · exact ih _
    · right; rfl
theorem firstBad_ok (l : List Stp) : ∀ i, (firstBad i l).2 = 0 → (firstBad i l) = (0, 0) ∧ ∀ x ∈ l, isStep x = true := by
  induction l with
  | nil => intro i _; exact ⟨rfl, by simp⟩
  | cons x l ih =>
    intro i h
    simp only [firstBad] at h ⊢
    split at h
    · rename_i hx
      obtain ⟨h1, h2⟩ := ih _ h
      rw [if_pos hx]
      refine ⟨h1, fun y hy => ?_⟩
      rcases List.mem_cons.1 hy with rfl | hy
      · exact hx
      · exact h2 y hy
    · simp at h
theorem firstBad_all (l : List Stp) (h : ∀ x ∈ l, isStep x = true) : ∀ i, firstBad i l = (0, 0) := by
  induction l with
  | nil => intro i; rfl
  | cons x l ih => intro i; simp only [firstBad]; rw [if_pos (h x (by simp)), ih fun y hy => h y (by simp [hy])]
/-- A valid script. -/
structure Valid (s : Scr) : Prop where
  few : s.texts.length ≤ 8
  few2 : s.steps.length ≤ 400
  short : ∀ t ∈ s.texts, t.length ≤ 4000
  plain : s.texts.any (fun t => t.any oddC) = false
  steps : ∀ x ∈ s.steps, isStep x = true
theorem check_valid {s : Scr} (h : Valid s) : check s = (0, 0) := by
  unfold check
  rw [if_neg ?_, if_neg (by rw [h.plain]; simp), firstBad_all _ h.steps]
  rintro (h1 | h1 | h1)
  · have := h.few; omega
  · have := h.few2; omega
  · obtain ⟨t, ht, h2⟩ := List.any_eq_true.1 h1
    have := h.short t ht
    simp at h2; omega
theorem valid_check {s : Scr} (h : (check s).2 = 0) : Valid s := by
  unfold check at h
  split at h
  · simp at h
  · rename_i h1
    split at h
    · simp at h
    · rename_i h2
      refine ⟨by omega, by omega, fun t ht => ?_, by simpa using h2, (firstBad_ok _ _ h).2⟩
      rcases Nat.lt_or_ge 4000 t.length with h4 | h4
      · exact absurd (.inr (.inr (List.any_eq_true.2 ⟨t, ht, by simpa using h4⟩))) h1
      · exact h4
theorem check_code (s : Scr) : (check s).2 = 0 ∨ (check s).2 = 1 ∨ (check s).2 = 2 := by
  unfold check
  split
  · right; right; rfl
  · split
    · right; left; rfl
    · rcases firstBad_code s.steps 0 with h | h
      · left; exact h
      · right; left; exact h
theorem plines_no10 {s : Scr} (hs : ∀ x ∈ s.steps, isStep x = true) : ∀ l ∈ plines s, ∀ c ∈ l, c ≠ 10 := by
  intro l hl
  rcases List.mem_append.1 hl with hl | hl
  · obtain ⟨t, _, hl⟩ := List.mem_flatMap.1 hl
    rcases List.mem_cons.1 hl with rfl | hl
    · decide
    · obtain ⟨p, hp, rfl⟩ := List.mem_map.1 hl
      intro c hc
      rcases List.mem_cons.1 hc with rfl | hc
      · decide
      · exact split_no 10 t p hp c hc
  · obtain ⟨x, hx, rfl⟩ := List.mem_map.1 hl
    intro c hc e
    subst e
    exact (stepLine_byte (hs x hx) _ hc).1 rfl
theorem split_printed {s : Scr} (hs : ∀ x ∈ s.steps, isStep x = true) : split 10 (printed s) = plines s ++ [[]] := by
  have := split_lines (plines s) (plines_no10 hs) []
  rw [List.append_nil, lines_plines] at this
  rw [this]; rfl
/-- Two printed texts, one behind the other. -/
theorem parse_two {a b : Scr} (ha : Valid a) (hb : Valid b) : ∃ k, parse (printed a ++ printed b) = finish k false false (a.texts ++ b.texts) (a.steps ++ b.steps) := by
  have e : split 10 (printed a ++ printed b) = plines a ++ (plines b ++ [[]]) := by
    rw [← lines_plines a, split_lines _ (plines_no10 ha.steps), split_printed hb.steps]
  unfold parse
  rw [e]
  obtain ⟨k1, o1, h1⟩ := parseL_printed a ha.steps 0 false [] [] (plines b ++ [[]])
  obtain ⟨k2, o2, h2⟩ := parseL_printed b hb.steps k1 o1 ([] ++ a.texts) ([] ++ a.steps) [[]]
  refine ⟨k2 + 1, ?_⟩
  rw [h1, h2, parseL_blank]; rfl
theorem finish_ok {k : Nat} {ts : List Bytes} {ss : List Stp} (h : (check ⟨ts, ss⟩).2 = 0) : finish k false false ts ss = ⟨⟨ts, ss⟩, 0, 0⟩ := by
  unfold finish
  rw [if_neg (by simp), if_pos h]
theorem finish_bad {k : Nat} {ts : List Bytes} {ss : List Stp} (h : (check ⟨ts, ss⟩).2 ≠ 0) : finish k false false ts ss = fail 0 (check ⟨ts, ss⟩).2 := by
  unfold finish
  rw [if_neg (by simp), if_neg h]
/-- Reading what was printed gives the script. -/
theorem parse_printed {s : Scr} (hs : Valid s) : parse (printed s) = ⟨s, 0, 0⟩ := by
  unfold parse
  rw [split_printed hs.steps]
  obtain ⟨k1, o1, h1⟩ := parseL_printed s hs.steps 0 false [] [] [[]]
  rw [h1, parseL_blank]
  show parseL (k1 + 1) false false s.texts s.steps [] = _
  rw [parseL]
  exact finish_ok (by rw [check_valid hs])
theorem valid_two {a b : Scr} (ha : Valid a) (hb : Valid b) (h1 : a.texts.length + b.texts.length ≤ 8) (h2 : a.steps.length + b.steps.length ≤ 400) : Valid ⟨a.texts ++ b.texts, a.steps ++ b.steps⟩ := by
  refine ⟨by simpa using h1, by simpa using h2, fun t ht => ?_, ?_, fun x hx => ?_⟩
  · rcases List.mem_append.1 ht with h | h
    · exact ha.short t h
    · exact hb.short t h
  · simp only [List.any_append, ha.plain, hb.plain, Bool.or_self]
  · rcases List.mem_append.1 hx with h | h
    · exact ha.steps x h
    · exact hb.steps x h
theorem joins_ok {a b : Scr} (ha : Valid a) (hb : Valid b) (h1 : a.texts.length + b.texts.length ≤ 8) (h2 : a.steps.length + b.steps.length ≤ 400) : parse (printed a ++ printed b) = ⟨⟨a.texts ++ b.texts, a.steps ++ b.steps⟩, 0, 0⟩ := by
  obtain ⟨k, h⟩ := parse_two ha hb
  rw [h]
  exact finish_ok (by rw [check_valid (valid_two ha hb h1 h2)])
theorem joins_many {a b : Scr} (ha : Valid a) (hb : Valid b) (h : 8 < a.texts.length + b.texts.length ∨ 400 < a.steps.length + b.steps.length) : (parse (printed a ++ printed b)).e = 2 := by
  obtain ⟨k, h'⟩ := parse_two ha hb
  have hc : check ⟨a.texts ++ b.texts, a.steps ++ b.steps⟩ = (-1, 2) := by
    unfold check
    rw [if_pos]
    rcases h with h | h
    · left; simpa using h
    · right; left; simpa using h
  rw [h', finish_bad (by rw [hc]; decide), hc]; rfl

/-! ### Spaced text -/
def sp (l : Bytes) : Bytes := l.flatMap fun c => if c.toNat = 32 then [32, 32] else [c]
theorem sp_cons32 (l : Bytes) : sp (32 :: l) = 32 :: 32 :: sp l := rfl
theorem sp_cons {c : UInt8} (h : c ≠ 32) (l : Bytes) : sp (c :: l) = c :: sp l := by
  have : c.toNat ≠ 32 := toNat_of_ne (n := 32) h
  simp [sp, this]
theorem split_sp (l : Bytes) : ∃ p ps qs, split 32 l = p :: ps ∧ split 32 (sp l) = p :: qs ∧ ps.filter (fun w => !w.isEmpty) = qs.filter (fun w => !w.isEmpty) := by
  induction l with
  | nil => exact ⟨[], [], [], rfl, rfl, rfl⟩
  | cons c l ih =>
    obtain ⟨p, ps, qs, h1, h2, h3⟩ := ih
    by_cases h : c = 32
    · subst h
      refine ⟨[], p :: ps, [] :: p :: qs, by rw [split_hit, h1], by rw [sp_cons32, split_hit, split_hit, h2], ?_⟩
      simp only [List.filter_cons, List.isEmpty_nil, Bool.not_true, Bool.false_eq_true, if_false]
      rw [h3]
    · exact ⟨c :: p, ps, qs, split_miss h h1, by rw [sp_cons h]; exact split_miss h h2, h3⟩
theorem words_sp (l : Bytes) : words (32 :: sp l ++ [32]) = words l := by
  obtain ⟨p, ps, qs, h1, h2, h3⟩ := split_sp l
  unfold words
  rw [List.cons_append, split_hit, split_app 32 (sp l) [], h1, h2]
  simp only [split, List.filter_append, List.filter_cons, List.isEmpty_nil, Bool.not_true, Bool.false_eq_true, if_false, List.filter_nil, List.append_nil]
  rw [h3]
def spaceLine (l : Bytes) : Bytes := if l.head? = some 124 ∨ l = textW then l else 32 :: (sp l ++ [32, 10, 35, 32] ++ l)
def spaced (s : Scr) : Bytes := glue 10 ((plines s ++ [[]]).map spaceLine)
theorem sp_no10 {l : Bytes} (h : ∀ c ∈ l, c ≠ 10) : ∀ c ∈ sp l, c ≠ 10 := by
  intro c hc
  obtain ⟨b, hb, hc⟩ := List.mem_flatMap.1 hc
  split at hc
  · simp at hc; subst hc; decide
  · simp at hc; subst hc; exact h _ hb
theorem split_spaceLine {l : Bytes} (h : ∀ c ∈ l, c ≠ 10) (h1 : l.head? ≠ some 124) (h2 : l ≠ textW) : split 10 (spaceLine l) = [32 :: sp l ++ [32], 35 :: 32 :: l] := by
  unfold spaceLine
  rw [if_neg (fun h => h.elim h1 h2)]
  have e : 32 :: (sp l ++ [32, 10, 35, 32] ++ l) = (32 :: sp l ++ [32]) ++ 10 :: (35 :: 32 :: l) := by simp
  rw [e, split_app, split_plain, split_plain]
  · rfl
  · intro c hc
    rcases List.mem_cons.1 hc with rfl | hc
    · decide
    · rcases List.mem_cons.1 hc with rfl | hc
      · decide
      · exact h c hc
  · intro c hc
    rcases List.mem_append.1 hc with hc | hc
    · rcases List.mem_cons.1 hc with rfl | hc
      · decide
      · exact sp_no10 h c hc
    · simp at hc; subst hc; decide
theorem split_spaceLine_keep {l : Bytes} (h : ∀ c ∈ l, c ≠ 10) (h1 : l.head? = some 124 ∨ l = textW) : split 10 (spaceLine l) = [l] := by
  unfold spaceLine
  rw [if_pos h1, split_plain h]
theorem spaced_text (t : Bytes) : ((textLines t).map spaceLine).flatMap (split 10) = textLines t := by
  unfold textLines
  rw [List.map_cons, List.flatMap_cons, split_spaceLine_keep (by decide) (.inr rfl)]
  show textW :: (((split 10 t).map (124 :: ·)).map spaceLine).flatMap (split 10) = _
  congr 1
  have hno := split_no 10 t
  generalize split 10 t = ls at hno
  induction ls with
  | nil => rfl
  | cons p ps ih =>
    rw [List.map_cons, List.map_cons, List.flatMap_cons, split_spaceLine_keep ?_ (.inl (by rfl)), ih fun q hq => hno q (by simp [hq])]
    · rfl
    · intro c hc
      rcases List.mem_cons.1 hc with rfl | hc
      · decide
      · exact hno p (by simp) c hc
theorem spaced_texts (ts : List Bytes) : ((ts.flatMap textLines).map spaceLine).flatMap (split 10) = ts.flatMap textLines := by
  induction ts with
  | nil => rfl
  | cons t ts ih => rw [List.flatMap_cons, List.map_append, List.flatMap_append, spaced_text, ih]
theorem parseL_comment (k : Nat) (o : Bool) (ts : List Bytes) (ss : List Stp) (l : Bytes) (r : List Bytes) : parseL k o false ts ss ((35 :: l) :: r) = parseL (k + 1) false false ts ss r := by
  rw [parseL, if_neg (by simp), if_neg (by simp), if_pos (.inr rfl)]
theorem parseL_spaced (l : List Stp) (hl : ∀ x ∈ l, isStep x = true) : ∀ (k : Nat) (o : Bool) (ts : List Bytes) (ss : List Stp) (r : List Bytes), ∃ k' o', parseL k o false ts ss (((l.map stepLine).map spaceLine).flatMap (split 10) ++ r) = parseL k' o' false ts (ss ++ l) r := by
  induction l with
  | nil => intro k o ts ss r; exact ⟨k, o, by simp⟩
  | cons x l ih =>
    intro k o ts ss r
    have hx := hl x (by simp)
    obtain ⟨k2, o2, h2⟩ := ih (fun y hy => hl y (by simp [hy])) (k + 1 + 1) false ts (ss ++ [x]) r
    obtain ⟨c, q, e, hc1, hc2⟩ := stepLine_head hx
    have hh : (stepLine x).head? ≠ some 124 := by
      rw [e]; intro e; have := congrArg UInt8.toNat (Option.some.inj e); simp at this; omega
    have ht : stepLine x ≠ textW := by
      intro e'
      have h1 := words_step hx
      rw [e', words_textW] at h1
      exact (name_byte hx).2.2.2.1 (List.cons.inj h1).1.symm
    refine ⟨k2, o2, ?_⟩
    rw [List.map_cons, List.map_cons, List.flatMap_cons, split_spaceLine (fun c hc e => by subst e; exact (stepLine_byte hx _ hc).1 rfl) hh ht]
    rw [List.append_assoc]
    show parseL k o false ts ss ((32 :: sp (stepLine x) ++ [32]) :: (35 :: 32 :: stepLine x) :: (_ ++ r)) = _
    rw [parseL_stepW hx _ _ _ _ _ _ (words_sp _) (by simp) (by simp), parseL_comment, h2]
    simp
theorem parse_spaced {s : Scr} (hs : Valid s) : parse (spaced s) = ⟨s, 0, 0⟩ := by
  unfold parse spaced
  rw [split_glue _ _ (by simp)]
  have e : ((plines s ++ [[]]).map spaceLine).flatMap (split 10) = s.texts.flatMap textLines ++ (((s.steps.map stepLine).map spaceLine).flatMap (split 10) ++ [[32, 32], [35, 32]]) := by
    unfold plines
    rw [List.map_append, List.map_append, List.flatMap_append, List.flatMap_append, spaced_texts, List.append_assoc]
    rfl
  rw [e]
  obtain ⟨k1, o1, h1⟩ := parseL_texts s.texts 0 false [] [] (((s.steps.map stepLine).map spaceLine).flatMap (split 10) ++ [[32, 32], [35, 32]])
  obtain ⟨k2, o2, h2⟩ := parseL_spaced s.steps hs.steps k1 o1 ([] ++ s.texts) [] [[32, 32], [35, 32]]
  rw [h1, h2]
  have h3 : parseL k2 o2 false ([] ++ s.texts) ([] ++ s.steps) [[32, 32], [35, 32]] = parseL (k2 + 1) false false ([] ++ s.texts) ([] ++ s.steps) [[35, 32]] := by
    rw [parseL, if_neg (by simp), if_neg (by simp), if_pos (.inl (by decide))]
  rw [h3, parseL_comment, parseL]
  exact finish_ok (by rw [show (⟨[] ++ s.texts, [] ++ s.steps⟩ : Scr) = s from rfl, check_valid hs])

/-! ### Prefixes of the lines -/
theorem finish_e (k : Nat) (o e : Bool) (ts : List Bytes) (ss : List Stp) (h : (o && e) = false) : (finish k o e ts ss).e = 0 ∨ (finish k o e ts ss).e = 1 ∨ (finish k o e ts ss).e = 2 := by
  unfold finish
  rw [if_neg (by rw [h]; simp)]
  split
  · left; rfl
  · exact check_code _
theorem finish_line (k : Nat) (o e : Bool) (ts : List Bytes) (ss : List Stp) (h : (o && e) = false) : (finish k o e ts ss).line = 0 := by
  unfold finish
  rw [if_neg (by rw [h]; simp)]
  split <;> rfl
theorem fail3 (k : Int) : (fail k 3).e ≠ 0 := by show (3 : Int) ≠ 0; decide
theorem finish_zero (k : Nat) (o e : Bool) (ts : List Bytes) (ss : List Stp) (h : (finish k o e ts ss).e = 0) : (o && e) = false ∧ (finish k o e ts ss).s = ⟨ts, ss⟩ ∧ (check ⟨ts, ss⟩).2 = 0 := by
  cases hoe : o && e with
  | true => unfold finish at h; rw [hoe, if_pos rfl] at h; exact absurd h (fail3 _)
  | false =>
    unfold finish at h ⊢
    rw [hoe, if_neg (by simp)] at h ⊢
    split at h
    · rename_i hc; rw [if_pos hc]; exact ⟨rfl, rfl, hc⟩
    · rename_i hc; exact absurd h hc
/-- What is accepted is valid. -/
theorem parseL_ok (ls : List Bytes) : ∀ (k : Nat) (o e : Bool) (ts : List Bytes) (ss : List Stp), (parseL k o e ts ss ls).e = 0 → (parseL k o e ts ss ls).line = 0 ∧ (check (parseL k o e ts ss ls).s).2 = 0 := by
  induction ls with
  | nil =>
    intro k o e ts ss h
    rw [parseL] at h ⊢
    obtain ⟨h1, h2, h3⟩ := finish_zero _ _ _ _ _ h
    exact ⟨finish_line _ _ _ _ _ h1, by rw [h2]; exact h3⟩
  | cons l r ih =>
    intro k o e ts ss h
    rw [parseL] at h ⊢
    by_cases h1 : l.head? = some 124
    · rw [if_pos h1] at h ⊢
      cases o with
      | true => rw [if_pos rfl] at h ⊢; exact ih _ _ _ _ _ h
      | false => rw [if_neg (by simp)] at h; exact absurd h (fail3 _)
    · rw [if_neg h1] at h ⊢
      by_cases h2 : (o && e) = true
      · rw [if_pos h2] at h; exact absurd h (fail3 _)
      · rw [if_neg h2] at h ⊢
        by_cases h3 : words l = [] ∨ l.head? = some 35
        · rw [if_pos h3] at h ⊢; exact ih _ _ _ _ _ h
        · rw [if_neg h3] at h ⊢
          by_cases h4 : words l = [textW]
          · rw [if_pos h4] at h ⊢; exact ih _ _ _ _ _ h
          · rw [if_neg h4] at h ⊢
            by_cases h5 : (step (words l)).2 = 0
            · rw [if_pos h5] at h ⊢; exact ih _ _ _ _ _ h
            · rw [if_neg h5] at h; exact absurd h h5
theorem parse_ok {t : Bytes} (h : (parse t).e = 0) : (parse t).line = 0 ∧ Valid (parse t).s := by
  obtain ⟨h1, h2⟩ := parseL_ok _ _ _ _ _ _ h
  exact ⟨h1, valid_check h2⟩
/-- What is not accepted gives no script. -/
theorem parseL_fail (ls : List Bytes) : ∀ (k : Nat) (o e : Bool) (ts : List Bytes) (ss : List Stp), (parseL k o e ts ss ls).e ≠ 0 → (parseL k o e ts ss ls).s = ⟨[], []⟩ := by
  induction ls with
  | nil =>
    intro k o e ts ss h
    rw [parseL] at h ⊢
    unfold finish at h ⊢
    split
    · rfl
    · rename_i h1
      rw [if_neg h1] at h
      split
      · rename_i h2; rw [if_pos h2] at h; exact absurd rfl h
      · rfl
  | cons l r ih =>
    intro k o e ts ss h
    rw [parseL] at h ⊢
    by_cases h1 : l.head? = some 124
    · rw [if_pos h1] at h ⊢
      cases o with
      | true => rw [if_pos rfl] at h ⊢; exact ih _ _ _ _ _ h
      | false => rw [if_neg (by simp)]; rfl
    · rw [if_neg h1] at h ⊢
      by_cases h2 : (o && e) = true
      · rw [if_pos h2]; rfl
      · rw [if_neg h2] at h ⊢
        by_cases h3 : words l = [] ∨ l.head? = some 35
        · rw [if_pos h3] at h ⊢; exact ih _ _ _ _ _ h
        · rw [if_neg h3] at h ⊢
          by_cases h4 : words l = [textW]
          · rw [if_pos h4] at h ⊢; exact ih _ _ _ _ _ h
          · rw [if_neg h4] at h ⊢
            by_cases h5 : (step (words l)).2 = 0
            · rw [if_pos h5] at h ⊢; exact ih _ _ _ _ _ h
            · rw [if_neg h5]; rfl
theorem parse_fail {t : Bytes} (h : (parse t).e ≠ 0) : (parse t).s = ⟨[], []⟩ := parseL_fail _ _ _ _ _ _ h
/-- Where the line of an error is: the lines before it end well but for the check; the lines up to it do not. -/
def At (k : Nat) (o e : Bool) (ts : List Bytes) (ss : List Stp) (ls : List Bytes) (n : Int) : Prop :=
  ∃ j : Nat, n = ((k + j + 1 : Nat) : Int) ∧ j < ls.length ∧ ((parseL k o e ts ss (ls.take j)).e = 0 ∨ (parseL k o e ts ss (ls.take j)).e = 1 ∨ (parseL k o e ts ss (ls.take j)).e = 2) ∧ (parseL k o e ts ss (ls.take (j + 1))).e ≠ 0
theorem At.step {k : Nat} {o e : Bool} {ts : List Bytes} {ss : List Stp} {l : Bytes} {r : List Bytes} {n : Int} {o' e' : Bool} {ts' : List Bytes} {ss' : List Stp} (hp : ∀ r, parseL k o e ts ss (l :: r) = parseL (k + 1) o' e' ts' ss' r) (h : At (k + 1) o' e' ts' ss' r n) : At k o e ts ss (l :: r) n := by
  obtain ⟨j, h1, h2, h3, h4⟩ := h
  refine ⟨j + 1, by rw [h1]; congr 1; omega, by simp; omega, ?_, ?_⟩
  · rw [List.take_succ_cons, hp]; exact h3
  · rw [List.take_succ_cons, hp]; exact h4
theorem parseL_line (ls : List Bytes) : ∀ (k : Nat) (o e : Bool) (ts : List Bytes) (ss : List Stp) (n : Int), (parseL k o e ts ss ls).line = n → n ≠ 0 → ((o && e) = true ∧ n = (k : Int)) ∨ At k o e ts ss ls n := by
  induction ls with
  | nil =>
    intro k o e ts ss n h hn
    rw [parseL] at h
    cases hoe : o && e with
    | true =>
      unfold finish at h
      rw [hoe, if_pos rfl] at h
      left; exact ⟨rfl, h.symm⟩
    | false => rw [finish_line _ _ _ _ _ hoe] at h; exact absurd h.symm hn
  | cons l r ih =>
    intro k o e ts ss n h hn
    by_cases h1 : l.head? = some 124
    · cases o with
      | true =>
        have hp : ∀ r, parseL k true e ts ss (l :: r) = parseL (k + 1) true false (addLast ts ((if e then [] else [10]) ++ l.tail)) ss r := by
          intro r; rw [parseL, if_pos h1, if_pos rfl]
        rw [hp] at h
        rcases ih _ _ _ _ _ n h hn with ⟨h2, _⟩ | h2
        · simp at h2
        · right; exact h2.step hp
      | false =>
        have hp : ∀ r, parseL k false e ts ss (l :: r) = fail (k + 1 : Nat) 3 := by
          intro r; rw [parseL, if_pos h1, if_neg (by simp)]
        rw [hp] at h
        right
        refine ⟨0, by rw [← h]; rfl, by simp, ?_, ?_⟩
        · rw [List.take_zero, parseL]; exact finish_e _ _ _ _ _ (by simp)
        · rw [List.take_succ_cons, hp]; exact fail3 _
    · by_cases h2 : (o && e) = true
      · rw [parseL, if_neg h1, if_pos h2] at h
        left; exact ⟨h2, h.symm⟩
      · have h2' : (o && e) = false := by simpa using h2
        right
        by_cases h3 : words l = [] ∨ l.head? = some 35
        · have hp : ∀ r, parseL k o e ts ss (l :: r) = parseL (k + 1) false e ts ss r := by
            intro r; rw [parseL, if_neg h1, if_neg h2, if_pos h3]
          rw [hp] at h
          rcases ih _ _ _ _ _ n h hn with ⟨h4, _⟩ | h4
          · simp at h4
          · exact h4.step hp
        · by_cases h4 : words l = [textW]
          · have hp : ∀ r, parseL k o e ts ss (l :: r) = parseL (k + 1) true true (ts ++ [[]]) ss r := by
              intro r; rw [parseL, if_neg h1, if_neg h2, if_neg h3, if_pos h4]
            rw [hp] at h
            rcases ih _ _ _ _ _ n h hn with ⟨_, h5⟩ | h5
            · refine ⟨0, by rw [h5], by simp, ?_, ?_⟩
              · rw [List.take_zero, parseL]; exact finish_e _ _ _ _ _ h2'
              · rw [List.take_succ_cons, hp, List.take_zero, parseL]
                unfold finish
                rw [if_pos (by simp)]; exact fail3 _
            · exact h5.step hp
          · by_cases h5 : (step (words l)).2 = 0
            · have hp : ∀ r, parseL k o e ts ss (l :: r) = parseL (k + 1) false e ts (ss ++ [(step (words l)).1]) r := by
                intro r; rw [parseL, if_neg h1, if_neg h2, if_neg h3, if_neg h4, if_pos h5]
              rw [hp] at h
              rcases ih _ _ _ _ _ n h hn with ⟨h6, _⟩ | h6
              · simp at h6
              · exact h6.step hp
            · have hp : ∀ r, parseL k o e ts ss (l :: r) = fail (k + 1 : Nat) (step (words l)).2 := by
                intro r; rw [parseL, if_neg h1, if_neg h2, if_neg h3, if_neg h4, if_neg h5]
              rw [hp] at h
              refine ⟨0, by rw [← h]; rfl, by simp, ?_, ?_⟩
              · rw [List.take_zero, parseL]; exact finish_e _ _ _ _ _ h2'
              · rw [List.take_succ_cons, hp]; exact h5
theorem parse_lines (ls : List Bytes) (h : ∀ l ∈ ls, ∀ c ∈ l, c ≠ 10) (hne : ls ≠ []) : parse (glue 10 ls) = parseL 0 false false [] [] ls := by
  unfold parse
  rw [split_glue _ _ hne, flatMap_split_plain _ _ h]
/-- An error with a line. -/
theorem parse_line {t : Bytes} (hn : (parse t).line ≠ 0) : ∃ j : Nat, (parse t).line = ((j + 1 : Nat) : Int) ∧ j < (split 10 t).length ∧ ((parse (glue 10 ((split 10 t).take j))).e = 0 ∨ (parse (glue 10 ((split 10 t).take j))).e = 1 ∨ (parse (glue 10 ((split 10 t).take j))).e = 2) ∧ (parse (glue 10 ((split 10 t).take (j + 1)))).e ≠ 0 := by
  rcases parseL_line (split 10 t) 0 false false [] [] _ rfl hn with ⟨h, _⟩ | ⟨j, h1, h2, h3, h4⟩
  · simp at h
  · have hno : ∀ i, ∀ l ∈ (split 10 t).take i, ∀ c ∈ l, c ≠ 10 := fun i l hl => split_no 10 t l (List.mem_of_mem_take hl)
    refine ⟨j, by rw [show (parse t).line = _ from h1]; congr 1; omega, h2, ?_, ?_⟩
    · cases j with
      | zero =>
        rw [List.take_zero]
        left; decide
      | succ j => rw [parse_lines _ (hno _) (by intro e; have := congrArg List.length e; simp [split_ne] at this)]; exact h3
    · rw [parse_lines _ (hno _) (by intro e; have := congrArg List.length e; simp [split_ne] at this)]; exact h4
theorem parse_line_ok {t : Bytes} (h : (parse t).e = 0) : (parse t).line = 0 := (parse_ok h).1
end Go.Proofs.YtecdkgiandbkeaaGreatDoor.ScSpec
