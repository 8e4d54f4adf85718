/-
  Words of one byte: strings.ContainsAny at one byte of any kind and the characters @ and =.
-/
import Derived.Test.YtecdkgiandbkeaaGreatDoorScI
import Derived.Laws.RangeAny
import Derived.Lib.OthersKept
import Derived.Deep.LoopGhost
namespace Go.Proofs.YtecdkgiandbkeaaGreatDoor
open Go.RowKit ScSpec Go.Sort

def atEq : ByteArray := ⟨#[64, 61]⟩
theorem lit_contains (c : UInt8) : Lib.containsAny [c] [64, 61] = isLit [c] := by
  have h : ∀ n : Fin 256, Lib.containsAny [UInt8.ofNat n.val] [64, 61] = isLit [UInt8.ofNat n.val] := by decide +kernel
  have := h ⟨c.toNat, c.toNat_lt⟩
  simpa using this
theorem decode_one (c : UInt8) (h : 128 ≤ c.toNat) : Utf8.decode (strB [c]) 0 = (65533, 1) := by
  have h2 : ∀ n : Fin 256, 128 ≤ n.val → Utf8.decode (strB [UInt8.ofNat n.val]) 0 = (65533, 1) := by decide +kernel
  have := h2 ⟨c.toNat, c.toNat_lt⟩ h
  simpa using this
theorem should_set (n : Int) (w : World) : Calls Tryz.prog 105 #[.int .i64 n] w fun e w' => e = .returned (.bool (decide (8 < n))) ∧ w = w' := by
  go_enter Tryz.func105, Tryz.ntmps105
  go_wp2
  go_ret
  exact ⟨rfl, rfl⟩
set_option maxHeartbeats 2000000 in
set_option maxRecDepth 100000 in
theorem indexRune_err (w : World) : Calls Tryz.prog 98 #[.string ⟨#[64, 61]⟩, .int .i32 65533] w fun e w' => e = .returned (.int .i64 (-1)) ∧ Below w.heap.size w w' := by
  go_enter Tryz.func98, Tryz.ntmps98
  go_wp2_with fail
  go_loopg [5, 6] 2 (fun g _ _ wx => ∃ i : Nat, i + g = 2 ∧ wx = w.iter ⟨#[64, 61]⟩ i)
  case atStart => exact ⟨0, by omega, rfl⟩
  case round =>
    obtain ⟨i, hig, rfl⟩ := hrel
    cases gk with
    | zero =>
      obtain rfl : i = 2 := by omega
      have hnx := run_next_end (P := Tryz.prog) w ⟨#[64, 61]⟩ 2
      go_wp2_with fail
      go_ret
      exact ⟨rfl, (Below.refl _ _).alloc (Nat.le_refl _) _⟩
    | succ g =>
      have hi : i = 0 ∨ i = 1 := by omega
      rcases hi with rfl | rfl
      · have hnx := fun ty => run_next_ascii (P := Tryz.prog) w ⟨#[64, 61]⟩ 0 ty (by decide) (by decide)
        go_wp2_with fail
        go_roundg g
        case measure => omega
        case rel => exact ⟨1, by omega, rfl⟩
      · have hnx := fun ty => run_next_ascii (P := Tryz.prog) w ⟨#[64, 61]⟩ 1 ty (by decide) (by decide)
        go_wp2_with fail
        go_roundg g
        case measure => omega
        case rel => exact ⟨2, by omega, rfl⟩
set_option maxHeartbeats 2000000 in
set_option maxRecDepth 100000 in
theorem indexAny_high (c : UInt8) (hc : 128 ≤ c.toNat) (w : World) : Calls Tryz.prog 89 #[.string (strB [c]), .string ⟨#[64, 61]⟩] w fun e w' => e = .returned (.int .i64 (-1)) ∧ Below w.heap.size w w' := by
  have hz : (strB [c]).size = 1 := rfl
  have hd := decode_one c hc
  generalize strB [c] = q at hz hd
  have HD := Lib.hid hd
  clear hd
  go_enter Tryz.func89, Tryz.ntmps89
  go_wp2_with (go_at_call 105; refine (should_set _ _).mono ?_; rintro e w' ⟨rfl, rfl⟩)
  go_loopg [9, 10] 1 (fun g _ _ wx => ∃ i : Nat, i + g = 1 ∧ wx.heap[w.heap.size]? = some (.stringIter q i) ∧ Below w.heap.size w wx)
  case atStart => exact ⟨0, by omega, World.iter_heap w q 0, (Below.refl _ _).alloc (Nat.le_refl _) _⟩
  case round =>
    obtain ⟨i, hig, hk, hb⟩ := hrel
    cases gk with
    | zero =>
      obtain rfl : i = 1 := by omega
      have hnx := fun ty => Lib.run_next_end_at (P := Tryz.prog) _ w.heap.size q 1 ty hk (by omega)
      go_wp2_with fail
      go_ret
      exact ⟨rfl, hb⟩
    | succ g =>
      obtain rfl : i = 0 := by omega
      have hnx := fun ty => Lib.run_next_any_at (P := Tryz.prog) _ w.heap.size q 0 ty hk (by omega)
      simp only [HD.out] at hnx
      have hb2 := Lib.below_iterAt hb (Nat.le_refl _) q (0 + 1)
      have hk2 := Lib.iterAt_heap _ w.heap.size q 0 (0 + 1) hk
      have hs2 := hb2.size
      have hlt := (Array.getElem?_eq_some_iff.1 hk2).1
      go_wp2_with fail
      refine (indexRune_err _).mono ?_
      rintro e w2 ⟨rfl, hb3⟩
      have hb4 := below_to hb2 hs2 hb3
      have hk3 := (hb3.block _ hlt).trans hk2
      go_wp2_with fail
      go_roundg g
      case measure => omega
      case rel => exact ⟨1, by omega, hk3, hb4⟩
/-- ContainsAny at one byte. -/
theorem containsAny_one (c : UInt8) (w : World) : Calls Tryz.prog 71 #[.string (strB [c]), .string ⟨#[64, 61]⟩] w fun e w' => e = .returned (.bool (isLit [c])) ∧ Below w.heap.size w w' := by
  by_cases hc : c.toNat < 128
  · refine (Tryz.strings_ContainsAny_laid (strB [c]) ⟨#[64, 61]⟩ w (by rw [strB_size]; show 1 < 4294967281; decide) (by decide) ?_ ?_).mono ?_
    · intro j b h
      rw [strB_toList] at h
      cases j with
      | zero => simp at h; subst h; exact hc
      | succ j => simp at h
    · intro j b h
      cases j with
      | zero => simp at h; subst h; decide
      | succ j =>
        cases j with
        | zero => simp at h; subst h; decide
        | succ j => simp at h
    · rintro e w' ⟨rfl, hb⟩
      exact ⟨ret_bool (by rw [strB_toList]; exact lit_contains c), hb⟩
  · have hh := Lib.hid (indexAny_high c (by omega) w)
    have hl : isLit [c] = false := by simp [isLit]; omega
    rw [hl]
    clear hl
    go_enter Tryz.func71, Tryz.ntmps71
    go_wp2_with fail
    refine hh.out.mono ?_
    rintro e w2 ⟨rfl, hb⟩
    go_wp2_with fail
    go_ret
    exact ⟨rfl, hb⟩
end Go.Proofs.YtecdkgiandbkeaaGreatDoor
