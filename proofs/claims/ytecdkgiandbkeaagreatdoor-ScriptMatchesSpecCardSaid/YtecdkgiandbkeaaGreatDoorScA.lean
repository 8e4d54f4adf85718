/-
  Kinds of steps: the script package's Name and Kind.
-/
import Derived.Test.YtecdkgiandbkeaaGreatDoorScRep
namespace Go.Proofs.YtecdkgiandbkeaaGreatDoor
open Go.RowKit ScSpec

theorem sc_isKind (k : Int) (w : World) : Calls Tryz.prog 63 #[.int .i64 k] w fun e w' => e = .returned (.bool (isKind k)) ∧ w = w' := by
  unfold isKind
  by_cases h : k < 1
  · go_enter Tryz.func63, Tryz.ntmps63
    go_wp2
    go_ret
    exact ⟨ret_bool (by simp <;> omega), rfl⟩
  · go_enter Tryz.func63, Tryz.ntmps63
    go_wp2
    go_ret
    exact ⟨ret_bool (by simp <;> omega), rfl⟩

theorem sc_name (k : Int) (w : World) (hL : Laid w) : Calls Tryz.prog 26 #[.int .i64 k] w fun e w' => e = .returned (.string (strB (name k))) ∧ w = w' := by
  unfold name
  cases hk : isKind k with
  | true =>
    have hr : 1 ≤ k ∧ k < 24 := by unfold isKind at hk; simpa using hk
    obtain ⟨n, rfl⟩ : ∃ n : Nat, k = n := ⟨k.toNat, by omega⟩
    obtain ⟨c0, c1, c2, c3⟩ := hL.row (k := n) (by omega)
    go_enter Tryz.func26, Tryz.ntmps26
    go_wp2_with (go_at_call 63; refine (sc_isKind _ _).mono ?_; rintro e w' ⟨rfl, rfl⟩)
    go_ret
    exact ⟨by simp, rfl⟩
  | false =>
    go_enter Tryz.func26, Tryz.ntmps26
    go_wp2_with (go_at_call 63; refine (sc_isKind _ _).mono ?_; rintro e w' ⟨rfl, rfl⟩)
    go_ret
    exact ⟨rfl, rfl⟩

theorem below_box {w w2 : World} {o : Obj} (h : Below (w.alloc o).heap.size (w.alloc o) w2) : Below w.heap.size w w2 :=
  below_to ((Below.refl _ w).alloc (Nat.le_refl _) o) (by simp) h
theorem bytes_beq (a b : ByteArray) : (a.toList == b.toList) = decide (a = b) := by
  by_cases h : a = b
  · subst h; simp
  · have : a.toList ≠ b.toList := fun e => h (ByteArray.ext (Array.ext' (by rw [ByteArray.toList_eq, ByteArray.toList_eq] at e; exact e)))
    simp [h, this]
/-- A row's value, whole. -/
def rowV (r : Row) : Value := .agg #[.string (strB r.name), .int .i64 r.least, .int .i64 r.most, .bool r.text]
theorem sc_kind1 (n : ByteArray) (r : Row) (b : Nat) (w : World) (hn : w.cell? ⟨b, 0, none⟩ = some (.string n)) (hb : b < w.heap.size) :
    Calls Tryz.prog 51 #[rowV r, .pointer (some ⟨b, 0, none⟩)] w fun e w' => e = .returned (.bool (decide (strB r.name = n))) ∧ Below w.heap.size w w' := by
  unfold rowV
  go_enter Tryz.func51, Tryz.ntmps51
  go_wp2_with fail
  go_ret
  exact ⟨ret_bool (bytes_beq _ _), by go_grown⟩

theorem kindFrom_step (n : Bytes) (i : Nat) (h : i < 24) : kindFrom n i (ScSpec.rows.drop i) = if (kRow i).name = n then i else kindFrom n (i + 1) (ScSpec.rows.drop (i + 1)) := by
  have e : ScSpec.rows.drop i = kRow i :: ScSpec.rows.drop (i + 1) := by
    rw [List.drop_eq_getElem_cons (by exact h)]
    congr 1
    have := kRow_at h
    rw [List.getElem?_eq_getElem (by exact h)] at this
    exact Option.some.inj this
  rw [e]; rfl

/-- What IndexFunc finds: -1, or the row's number. -/
def rowIdx (n : Bytes) : Int := if kindOf n = 0 then -1 else (kindOf n : Nat)
theorem sc_indexRow (n : ByteArray) (b : Nat) (w : World) (hL : Laid w) (hn : w.cell? ⟨b, 0, none⟩ = some (.string n)) (hb : b < w.heap.size) (hne : n.data.toList ≠ []) :
    Calls Tryz.prog 50 #[.slice (some ⟨0, 0, none⟩) 24 24, .func (.func 51) #[] #[.pointer (some ⟨b, 0, none⟩)]] w fun e w' =>
      e = .returned (.int .i64 (rowIdx n.data.toList)) ∧ Below w.heap.size w w' := by
  have hk0 : kindOf n.data.toList = kindFrom n.data.toList 0 ScSpec.rows := by unfold kindOf; rw [if_neg hne]
  have HK := Lib.hid hk0
  clear hk0
  have HN := Lib.hid hne
  clear hne
  go_enter Tryz.func50, Tryz.ntmps50
  go_wp2_with fail
  go_loopw [8] (fun i wr => ∃ k : Nat, k ≤ 24 ∧ i = .int .i64 k ∧ Below w.heap.size w wr ∧ Hid (kindFrom n.data.toList k (ScSpec.rows.drop k) = kindFrom n.data.toList 0 ScSpec.rows)) (fun i _ => 24 - (intOf i).toNat)
  case atStart => exact ⟨0, by omega, rfl, Below.refl _ _, rfl⟩
  case round =>
    obtain ⟨k, hk, rfl, hbr, H⟩ := hrel
    have hzr := hbr.size
    by_cases hlt : k < 24
    · obtain ⟨c0, c1, c2, c3⟩ := (hL.below hbr).row (k := k) hlt
      have hk1 := sc_kind1 n (kRow k) b wr ((hbr.cell (p := ⟨b, 0, none⟩) hb).trans hn) (by omega)
      unfold rowV at hk1
      have HC := Lib.hid hk1
      clear hk1
      by_cases he : strB (kRow k).name = n
      · have H3 : Hid (kindOf n.data.toList = k ∧ k ≠ 0) := by
          have hs := kindFrom_step n.data.toList k hlt
          rw [if_pos (by rw [← he, strB_toList])] at hs
          have e2 : kindOf n.data.toList = k := by rw [HK.out, ← H.out, hs]
          refine ⟨e2, fun h0 => ?_⟩
          subst h0
          exact HN.out (by rw [← he, strB_toList]; rfl)
        have hd := decide_eq_true he
        rw [hd] at HC
        clear he hd
        go_wp2_with fail
        refine HC.out.mono ?_
        rintro e w2 ⟨rfl, hb2⟩
        have hz2 := hb2.size
        go_wp2_with fail
        go_ret
        exact ⟨ret_int (by unfold rowIdx; rw [H3.out.1, if_neg H3.out.2]), below_to hbr hzr hb2⟩
      · have H2 : Hid (kindFrom n.data.toList (k + 1) (ScSpec.rows.drop (k + 1)) = kindFrom n.data.toList 0 ScSpec.rows) := by
          rw [← H.out, kindFrom_step n.data.toList k hlt, if_neg (fun h => he (by rw [h, strB_of]))]; rfl
        have hd := decide_eq_false he
        rw [hd] at HC
        clear he hd
        go_wp2_with fail
        refine HC.out.mono ?_
        rintro e w2 ⟨rfl, hb2⟩
        have hz2 := hb2.size
        have hb3 := below_to hbr hzr hb2
        go_wp2_with fail
        go_roundw
        case rel => exact ⟨k + 1, by omega, by push_cast; rfl, hb3, H2⟩
        case measure => simp [intOf]; omega
    · obtain rfl : k = 24 := by omega
      have H3 : Hid (kindOf n.data.toList = 0) := by rw [HK.out, ← H.out]; rfl
      go_wp2_with fail
      go_ret
      exact ⟨ret_int (by unfold rowIdx; rw [H3.out, if_pos rfl]), hbr⟩

theorem kindFrom_lt (n : Bytes) (l : List Row) : ∀ i, kindFrom n i l ≤ i + l.length := by
  induction l with
  | nil => intro i; simp [kindFrom]
  | cons r l ih =>
    intro i
    simp only [kindFrom, List.length_cons]
    split
    · omega
    · have := ih (i + 1); omega
theorem kindFrom_lt' (n : Bytes) (l : List Row) : ∀ i, kindFrom n i l < i + l.length ∨ kindFrom n i l = 0 := by
  induction l with
  | nil => intro i; right; rfl
  | cons r l ih =>
    intro i
    simp only [kindFrom, List.length_cons]
    split
    · left; omega
    · rcases ih (i + 1) with h | h
      · left; omega
      · right; exact h
theorem kindOf_lt (n : Bytes) : kindOf n < 24 := by
  unfold kindOf
  split
  · omega
  · rcases kindFrom_lt' n ScSpec.rows 0 with h | h
    · have e : ScSpec.rows.length = 24 := rfl
      omega
    · omega

set_option maxHeartbeats 1000000 in
theorem sc_kind (n : ByteArray) (w : World) (hL : Laid w) :
    Calls Tryz.prog 19 #[.string n] w fun e w' => e = .returned (.tuple #[.int .i64 (kindOf n.data.toList : Nat), .bool (decide (0 < kindOf n.data.toList))]) ∧ Below w.heap.size w w' := by
  have hlt := kindOf_lt n.data.toList
  by_cases h0 : n = ⟨#[]⟩
  · subst h0
    go_enter Tryz.func19, Tryz.ntmps19
    go_wp2_with fail
    go_ret2
    exact ⟨rfl, by go_grown⟩
  · have hne : n.data.toList ≠ [] := fun h => h0 (by rw [← strB_of n, h]; rfl)
    have hL2 : Laid (w.alloc (.cells #[.string n] 9)) := hL.below ((Below.refl _ w).alloc (Nat.le_refl _) _)
    have hb : n.toList.isEmpty = false := by
      rw [ByteArray.toList_eq]
      cases h : n.data.toList with
      | nil => exact absurd h hne
      | cons c l => rfl
    have HI := Lib.hid (sc_indexRow n w.heap.size _ hL2 (by simp) (by simp) hne)
    have hI : rowIdx n.data.toList = if kindOf n.data.toList = 0 then (-1 : Int) else ((kindOf n.data.toList : Nat) : Int) := rfl
    generalize rowIdx n.data.toList = I at HI hI
    generalize kindOf n.data.toList = K at hlt hI ⊢
    clear hne
    by_cases hK : K = 0
    · subst hK
      rw [if_pos rfl] at hI
      subst hI
      go_enter Tryz.func19, Tryz.ntmps19
      go_wp2_with fail
      refine HI.out.mono ?_
      rintro e w2 ⟨rfl, hb2⟩
      have hz2 := hb2.size
      go_wp2_with fail
      go_ret2
      exact ⟨rfl, below_box hb2⟩
    · rw [if_neg hK] at hI
      subst hI
      go_enter Tryz.func19, Tryz.ntmps19
      go_wp2_with fail
      refine HI.out.mono ?_
      rintro e w2 ⟨rfl, hb2⟩
      have hz2 := hb2.size
      go_wp2_with fail
      go_ret2
      exact ⟨rfl, below_box hb2⟩
end Go.Proofs.YtecdkgiandbkeaaGreatDoor
