/-
  The library's words for splitting, replacing, joining and fields, at one byte: the plain words of scripts.
-/
import Derived.Test.YtecdkgiandbkeaaGreatDoorScE
import Derived.Test.YtecdkgiandbkeaaGreatDoorScLaw
import Derived.Lib.Split
import Derived.Lib.Replace
import Derived.Lib.Join
import Derived.Lib.FieldsP
namespace Go.Proofs.YtecdkgiandbkeaaGreatDoor
open Go.RowKit ScSpec Go.Sort

theorem index_cons_ne (b c : UInt8) (l : Bytes) (h : b ≠ c) : Lib.index (b :: l) [c] = if Lib.index l [c] == -1 then -1 else Lib.index l [c] + 1 := by
  have hp : ([c] : List UInt8).isPrefixOf (b :: l) = false := by simp [List.isPrefixOf, Ne.symm h]
  rw [Lib.index, hp]; simp
theorem index_cons_eq (c : UInt8) (l : Bytes) : Lib.index (c :: l) [c] = ((0 : Nat) : Int) := by rw [Lib.index]; simp [List.isPrefixOf]
theorem splitK_one (d : UInt8) (l : Bytes) : Lib.splitK [d] 0 (Lib.count l [d]) l = split d l := by
  induction l with
  | nil => rw [Lib.count_miss (by simp [Lib.index])]; rfl
  | cons c l ih =>
    by_cases h : c = d
    · subst h
      rw [Lib.count_cons_eq, Nat.add_comm 1, Lib.splitK, index_cons_eq, if_neg (by decide), split_hit, ← ih]
      rfl
    · rw [Lib.count_cons_ne c d l h]
      have hix := index_cons_ne c d l h
      cases hk : Lib.count l [d] with
      | zero =>
        rw [hk] at ih
        rw [split_miss h ih.symm]; rfl
      | succ k =>
        obtain ⟨i, hi⟩ := Lib.index_of_count (s := l) (old := [d]) (by omega)
        rw [hk, Lib.splitK, hi, if_neg (by intro e; have := eq_of_beq e; omega)] at ih
        rw [hi, if_neg (by intro e; have := eq_of_beq e; omega)] at hix
        rw [Lib.splitK, hix, if_neg (by intro e; have := eq_of_beq e; omega), split_miss h ih.symm]
        have e1 : ((i : Int) + 1).toNat = i + 1 := by omega
        have e2 : ((i : Int)).toNat = i := by omega
        rw [e1, e2]
        rfl
theorem split_lib (d : UInt8) (s : ByteArray) : (Lib.splitB ⟨#[d]⟩ 0 (Lib.countB s ⟨#[d]⟩) s).map (·.data.toList) = split d s.data.toList := by
  rw [Lib.splitB_data]; exact splitK_one d _
theorem map_strB (l : List ByteArray) : (l.map (·.data.toList)).map strB = l := by
  induction l with
  | nil => rfl
  | cons s l ih => simp only [List.map_cons, strB_of]; rw [ih]
theorem split_strs (d : UInt8) (l : Bytes) : (Lib.splitB ⟨#[d]⟩ 0 (Lib.countB (strB l) ⟨#[d]⟩) (strB l)).map Value.string = strVs (split d l) := by
  have h := split_lib d (strB l)
  rw [strB_toList] at h
  unfold strVs
  rw [← h, List.map_map]
  apply List.map_congr_left
  intro s _
  show Value.string s = Value.string (strB s.data.toList)
  rw [strB_of]
theorem split_count (d : UInt8) (l : Bytes) : Lib.countB (strB l) ⟨#[d]⟩ + 1 = (split d l).length := by
  have h := split_lib d (strB l)
  rw [strB_toList] at h
  rw [← h, List.length_map, Lib.splitB_all ⟨#[d]⟩ (Nat.le_refl 1) 0 _ _ rfl]
theorem replaceK_one (d : UInt8) (new l : Bytes) : Lib.replaceK [d] new (Lib.count l [d]) l = l.flatMap fun c => if c = d then new else [c] := by
  induction l with
  | nil => rw [Lib.count_miss (by simp [Lib.index])]; rfl
  | cons c l ih =>
    by_cases h : c = d
    · subst h
      rw [Lib.count_cons_eq, Nat.add_comm 1, Lib.replaceK, index_cons_eq, if_neg (by decide), List.flatMap_cons, if_pos rfl, ← ih]
      rfl
    · rw [Lib.count_cons_ne c d l h, List.flatMap_cons, if_neg h, ← ih]
      have hix := index_cons_ne c d l h
      cases hk : Lib.count l [d] with
      | zero => rfl
      | succ k =>
        obtain ⟨i, hi⟩ := Lib.index_of_count (s := l) (old := [d]) (by omega)
        rw [hi, if_neg (by intro e; have := eq_of_beq e; omega)] at hix
        rw [Lib.replaceK, hix, if_neg (by intro e; have := eq_of_beq e; omega), Lib.replaceK, hi, if_neg (by intro e; have := eq_of_beq e; omega)]
        have e1 : ((i : Int) + 1).toNat = i + 1 := by omega
        have e2 : ((i : Int)).toNat = i := by omega
        rw [e1, e2]
        rfl
theorem replace_lib (d : UInt8) (new l : Bytes) (h : new ≠ [d]) : Lib.replaceAll l [d] new = l.flatMap fun c => if c = d then new else [c] := by
  unfold Lib.replaceAll Lib.replace
  rw [if_neg (by intro e; exact h (eq_of_beq e).symm), show Lib.replaceNum l [d] (-1) = Lib.count l [d] from by unfold Lib.replaceNum; rw [if_pos (.inl (by decide))], replaceK_one]
theorem eq_byte {c : UInt8} {n : Nat} (hn : n < 256) : (c = UInt8.ofNat n) ↔ c.toNat = n := by
  constructor
  · intro h; subst h; simp; omega
  · intro h; rw [← h]; simp
theorem eq_c10 {c : UInt8} : c = 10 ↔ c.toNat = 10 := eq_byte (n := 10) (by decide)
theorem eq_c32 {c : UInt8} : c = 32 ↔ c.toNat = 32 := eq_byte (n := 32) (by decide)
theorem replace_barred (l : Bytes) : Lib.replaceAll l [10] [10, 124] = barred l := by
  rw [replace_lib _ _ _ (by decide)]
  unfold barred
  congr 1; funext c
  by_cases h : c.toNat = 10
  · rw [if_pos h, if_pos (eq_c10.2 h)]
  · rw [if_neg h, if_neg (fun e => h (eq_c10.1 e))]
theorem replace_sp (l : Bytes) : Lib.replaceAll l [32] [32, 32] = sp l := by
  rw [replace_lib _ _ _ (by decide)]
  unfold sp
  congr 1; funext c
  by_cases h : c.toNat = 32
  · rw [if_pos h, if_pos (eq_c32.2 h)]
  · rw [if_neg h, if_neg (fun e => h (eq_c32.1 e))]
theorem count_le_len (d : UInt8) (l : Bytes) : Lib.count l [d] ≤ l.length := by rw [Lib.count_one]; exact List.count_le_length
theorem join_glue (ls : List Bytes) : Lib.join ls [10] = glue 10 ls := by
  cases ls with
  | nil => rfl
  | cons p ps =>
    rw [Lib.join_cons, glue_tail]
    rfl
theorem hasPrefix_one (c : UInt8) (l : Bytes) : Lib.hasPrefix l [c] = decide (l.head? = some c) := by
  cases l with
  | nil => rfl
  | cons b l =>
    unfold Lib.hasPrefix
    by_cases h : c = b
    · subst h; simp [List.isPrefixOf]
    · have h' : ¬ b = c := fun e => h e.symm
      simp [List.isPrefixOf, h, h']

/-! ### Fields between blanks -/
def pBlank (x : Nat) : Bool := decide (x = 32)
theorem words_blank (l : Bytes) : words (32 :: l) = words l := by
  unfold words; rw [split_hit]; rfl
theorem words_piece {p : Bytes} (hp : ∀ c ∈ p, c ≠ 32) (h0 : p ≠ []) (l : Bytes) : words (p ++ 32 :: l) = p :: words l := by
  unfold words
  rw [split_app, split_plain hp, List.filter_append]
  have : [p].filter (fun w => !w.isEmpty) = [p] := by
    apply List.filter_eq_self.2
    intro w hw
    simp only [List.mem_singleton] at hw
    subst hw
    simpa using h0
  rw [this]; rfl
theorem words_last {p : Bytes} (hp : ∀ c ∈ p, c ≠ 32) (h0 : p ≠ []) : words p = [p] := by
  unfold words
  rw [split_plain hp]
  apply List.filter_eq_self.2
  intro w hw
  simp only [List.mem_singleton] at hw
  subst hw
  simpa using h0
theorem seg_no32 {l : Bytes} {a pos : Nat} (hpos : pos ≤ l.length) (h : ∀ j (hj : j < l.length), a ≤ j → j < pos → l[j] ≠ 32) : ∀ c ∈ (l.drop a).take (pos - a), c ≠ 32 := by
  intro c hc
  obtain ⟨i, hi, rfl⟩ := List.getElem_of_mem hc
  simp only [List.length_take, List.length_drop] at hi
  rw [List.getElem_take, List.getElem_drop]
  exact h (a + i) (by omega) (by omega) (by omega)
theorem fields_from (l : Bytes) : ∀ (f pos : Nat) (st : Option Nat) (acc : List (Nat × Nat)), l.length ≤ pos + f → pos ≤ l.length →
    (∀ a, st = some a → a < pos ∧ ∀ j (hj : j < l.length), a ≤ j → j < pos → l[j] ≠ 32) →
    (Lib.closeSpans (strB l) (Lib.spansFromP pBlank (strB l) f pos st acc)).map (fun x => (strB l).extract x.1 x.2) = acc.map (fun x => (strB l).extract x.1 x.2) ++ (words (l.drop (st.getD pos))).map strB := by
  intro f
  induction f with
  | zero =>
    intro pos st acc h hp hst
    obtain rfl : pos = l.length := by omega
    unfold Lib.spansFromP Lib.closeSpans
    cases st with
    | none => simp only [Option.getD_none]; rw [List.drop_length]; simp [words, split]
    | some a =>
      obtain ⟨ha, hno⟩ := hst a rfl
      simp only [Option.getD_some]
      have hseg := seg_no32 (Nat.le_refl _) hno
      have e : (l.drop a).take (l.length - a) = l.drop a := List.take_of_length_le (by simp)
      rw [e] at hseg
      rw [words_last hseg (by intro h0; have := congrArg List.length h0; simp at this; omega)]
      simp only [List.map_append, List.map_cons, List.map_nil]
      rw [extract_strB, strB_toList, strB_size, e]
  | succ f ih =>
    intro pos st acc h hp hst
    by_cases hlt : pos < l.length
    · unfold Lib.spansFromP
      rw [strB_size, if_pos hlt]
      by_cases hb : l[pos].toNat < 128
      · rw [decode_low l pos hlt hb]
        simp only
        by_cases h32 : l[pos].toNat = 32
        · have e32 : l[pos] = 32 := (eq_byte (n := 32) (by decide)).2 h32
          have hd : l.drop pos = 32 :: l.drop (pos + 1) := by rw [List.drop_eq_getElem_cons hlt, e32]
          rw [if_pos (by unfold pBlank; simpa using h32)]
          cases st with
          | none =>
            simp only
            rw [ih (pos + 1) none acc (by omega) (by omega) (by simp)]
            simp only [Option.getD_none]
            rw [hd, words_blank]
          | some a =>
            obtain ⟨ha, hno⟩ := hst a rfl
            simp only
            rw [ih (pos + 1) none _ (by omega) (by omega) (by simp)]
            simp only [Option.getD_none, Option.getD_some, List.map_append, List.map_cons, List.map_nil]
            have hseg := seg_no32 hp hno
            have e : l.drop a = (l.drop a).take (pos - a) ++ 32 :: l.drop (pos + 1) := by
              rw [← hd]
              conv => lhs; rw [← List.take_append_drop (pos - a) (l.drop a)]
              rw [List.drop_drop, show a + (pos - a) = pos from by omega]
            conv => rhs; rw [e]
            rw [words_piece hseg (by intro h0; have := congrArg List.length h0; simp at this; omega), extract_strB, strB_toList]
            simp
        · rw [if_neg (by unfold pBlank; simpa using h32)]
          have e32 : l[pos] ≠ 32 := fun e => h32 (by rw [e]; rfl)
          cases st with
          | none =>
            simp only
            rw [ih (pos + 1) (some pos) acc (by omega) (by omega) ?_]
            · simp
            · intro a ha
              obtain rfl := Option.some.inj ha
              refine ⟨by omega, fun j hj h1 h2 => ?_⟩
              obtain rfl : j = pos := by omega
              exact e32
          | some a =>
            obtain ⟨ha, hno⟩ := hst a rfl
            simp only
            rw [ih (pos + 1) (some a) acc (by omega) (by omega) ?_]
            · simp
            · intro a' ha'
              obtain rfl := Option.some.inj ha'
              refine ⟨by omega, fun j hj h1 h2 => ?_⟩
              by_cases hjp : j = pos
              · subst hjp; exact e32
              · exact hno j hj h1 (by omega)
      · obtain ⟨h1, h2, h3, h4⟩ := decode_high l pos hlt (by omega)
        generalize hdec : Utf8.decode (strB l) pos = D at h1 h2 h3 h4
        obtain ⟨r, wd⟩ := D
        simp only at h1 h2 h3 h4 ⊢
        rw [if_neg (by unfold pBlank; simp; omega)]
        have hne : ∀ j (hj : j < l.length), pos ≤ j → j < pos + wd → l[j] ≠ 32 := by
          intro j hj g1 g2 e
          have := h4 j hj g1 g2
          rw [e] at this
          revert this; decide
        cases st with
        | none =>
          simp only
          rw [ih (pos + wd) (some pos) acc (by omega) (by omega) ?_]
          · simp
          · intro a ha
            obtain rfl := Option.some.inj ha
            exact ⟨by omega, fun j hj g1 g2 => hne j hj g1 g2⟩
        | some a =>
          obtain ⟨ha, hno⟩ := hst a rfl
          simp only
          rw [ih (pos + wd) (some a) acc (by omega) (by omega) ?_]
          · simp
          · intro a' ha'
            obtain rfl := Option.some.inj ha'
            refine ⟨by omega, fun j hj g1 g2 => ?_⟩
            by_cases hjp : j < pos
            · exact hno j hj g1 hjp
            · exact hne j hj (by omega) g2
    · obtain rfl : pos = l.length := by omega
      rw [Lib.spansFromP_end _ _ _ _ _ _ (by rw [strB_size]; omega)]
      have := ih l.length st acc (by omega) hp hst
      rw [Lib.spansFromP_end _ _ _ _ _ _ (by rw [strB_size]; omega)] at this
      exact this
theorem fields_words (l : Bytes) : Lib.goFieldsP pBlank (strB l) = (words l).map strB := by
  unfold Lib.goFieldsP Lib.spansOfP
  rw [fields_from l _ 0 none [] (by rw [strB_size]; omega) (by omega) (by simp)]
  simp
end Go.Proofs.YtecdkgiandbkeaaGreatDoor
