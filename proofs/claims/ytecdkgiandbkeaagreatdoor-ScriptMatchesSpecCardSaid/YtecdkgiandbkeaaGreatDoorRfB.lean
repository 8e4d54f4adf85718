/-
  The reference: Kind, decimal, Data.
-/
import Derived.Test.YtecdkgiandbkeaaGreatDoorRfA
namespace Go.Proofs.YtecdkgiandbkeaaGreatDoor
open Go.RowKit ScSpec Go.Sort

theorem kindOf_one (n : Bytes) : kindFrom n 1 (ScSpec.rows.drop 1) = kindOf n := by
  unfold kindOf
  by_cases h : n = []
  · rw [if_pos h]; subst h; decide
  · rw [if_neg h]
    have := kindFrom_step n 0 (by omega)
    rw [if_neg (fun e => h (by rw [← e]; rfl))] at this
    exact this.symm
theorem two_beq (a b : ByteArray) : (a.toList == b.toList) = (b.toList == a.toList) := by
  rw [bytes_beq, bytes_beq]
  by_cases h : a = b
  · subst h; rfl
  · rw [decide_eq_false h, decide_eq_false (fun e => h e.symm)]
set_option maxHeartbeats 2000000 in
set_option maxRecDepth 20000 in
theorem ref_kind (n : ByteArray) (w : World) :
    Calls Tryz.prog 20 #[.string n] w fun e w' => e = .returned (.tuple #[.int .i64 (kindOf n.data.toList : Nat), .bool (decide (0 < kindOf n.data.toList))]) ∧ Below w.heap.size w w' := by
  have hb : Below w.heap.size w (w.alloc (.cells rowsC1.toArray 90)) := (Below.refl _ w).alloc (Nat.le_refl _) _
  have HR := Lib.hid fun k (hk : k < 23) => rows1_look (W := w.alloc (.cells rowsC1.toArray 90)) (heap_alloc_new w _) hk
  have hK1 := kindOf_one n.data.toList
  go_enter Tryz.func20, Tryz.ntmps20
  go_wp2_with (go_at_call 52; refine (ref_rows _).mono ?_; rintro e w' ⟨rfl, rfl⟩)
  generalize w.alloc (.cells rowsC1.toArray 90) = W at hb HR ⊢
  generalize w.heap.size = G at HR ⊢
  have HK1 := Lib.hid hK1
  clear hK1
  go_loop [5] (fun i => ∃ k : Nat, k ≤ 23 ∧ i = .int .i64 k ∧ Hid (kindFrom n.data.toList (k + 1) (ScSpec.rows.drop (k + 1)) = kindOf n.data.toList)) (fun i => 23 - (intOf i).toNat)
  case atStart => exact ⟨0, by omega, rfl, HK1⟩
  case round =>
    obtain ⟨k, hk, rfl, H⟩ := hrel
    by_cases hlt : k < 23
    · have c0 := (HR.out k hlt).1
      have hs := kindFrom_step n.data.toList (k + 1) (by omega)
      by_cases he : strB (kRow (k + 1)).name = n
      · have hq : kindOf n.data.toList = k + 1 := by rw [← H.out, hs, if_pos (by rw [← he, strB_toList])]
        have HQ := Lib.hid hq
        have hbe : ((strB (kRow (k + 1)).name).toList == n.toList) = true := by rw [bytes_beq, decide_eq_true he]
        generalize strB (kRow (k + 1)).name = nm at c0 hbe he
        clear hs hq he
        go_wp2_with fail
        go_ret2
        refine ⟨?_, hb⟩
        rw [HQ.out]
        simp
      · have hq : kindFrom n.data.toList (k + 1 + 1) (ScSpec.rows.drop (k + 1 + 1)) = kindOf n.data.toList := by
          rw [← H.out, hs, if_neg (fun e => he (by rw [e, strB_of]))]
        have HQ := Lib.hid hq
        have hbe : ((strB (kRow (k + 1)).name).toList == n.toList) = false := by rw [bytes_beq, decide_eq_false he]
        generalize strB (kRow (k + 1)).name = nm at c0 hbe he
        clear hs hq he
        go_wp2_with fail
        go_round
        case rel => exact ⟨k + 1, by omega, by push_cast; rfl, HQ⟩
        case measure => simp [intOf]; omega
    · obtain rfl : k = 23 := by omega
      have hq : kindOf n.data.toList = 0 := by rw [← H.out]; rfl
      have HQ := Lib.hid hq
      clear hq
      go_wp2_with fail
      go_ret2
      refine ⟨?_, hb⟩
      rw [HQ.out]
      rfl

/-! ### decimal -/
theorem digit_bytes (c : UInt8) : isDigit c = true ↔ 48 ≤ c.toNat ∧ c.toNat ≤ 57 := by unfold isDigit; simp
theorem drop_at {α : Type} (l : List α) {k : Nat} (h : k < l.length) : l.drop k = l[k] :: l.drop (k + 1) := List.drop_eq_getElem_cons h
theorem dec_long {l : Bytes} (h : l.length = 0 ∨ 13 < l.length ∨ (1 < l.length ∧ l.head? = some 48)) : dec l = none := by unfold dec; rw [if_pos h]
theorem dec_loop {l : Bytes} (h : ¬ (l.length = 0 ∨ 13 < l.length ∨ (1 < l.length ∧ l.head? = some 48))) : dec l = decVal 0 l := by unfold dec; rw [if_neg h]
theorem pow10_le {k : Nat} (h : k ≤ 13) : 10 ^ k ≤ 10000000000000 := Nat.le_trans (Nat.pow_le_pow_right (by omega) h) (by decide)
/-- What decimal returns beside the Bool. -/
def decI (l : Bytes) : Int := ((dec l).getD 0 : Nat)
theorem ret_nb {n n' : Int} {x y : Bool} (hn : n = n') (h : x = y) : Ending.returned (.tuple #[.int .i64 n, .bool x]) = Ending.returned (.tuple #[.int .i64 n', .bool y]) := by rw [hn, h]
theorem ref_decimal_no (l : Bytes) (hl : l.length ≤ 281474976710656) (h : l.length = 0 ∨ 13 < l.length ∨ (1 < l.length ∧ l.head? = some 48)) (w : World) :
    Calls Tryz.prog 54 #[.string (strB l)] w fun e w' => e = .returned (.tuple #[.int .i64 0, .bool false]) ∧ w = w' := by
  have hz := strB_size l
  by_cases h1 : l.length = 0
  · have hq : (strB l).size < 1 := by omega
    generalize strB l = q at hq hz
    clear hz h
    go_enter Tryz.func54, Tryz.ntmps54
    go_wp2_with fail
    go_ret2
    exact ⟨rfl, rfl⟩
  by_cases h2 : 13 < l.length
  · have hq : 13 < (strB l).size := by omega
    have hq2 : (strB l).size ≤ 281474976710656 := by omega
    generalize strB l = q at hq hq2 hz
    clear hz h
    go_enter Tryz.func54, Tryz.ntmps54
    go_wp2_with fail
    go_ret2
    exact ⟨rfl, rfl⟩
  have h3 := (h.resolve_left h1).resolve_left h2
  have hq : 1 < (strB l).size := by omega
  have hq2 : (strB l).size ≤ 13 := by omega
  have hc : ∀ h : 0 < (strB l).size, ((strB l)[0].toNat : Int) = 48 := by
    intro h0
    have : (strB l)[0] = l[0]'(by omega) := rfl
    rw [this]
    have e := h3.2
    rw [List.head?_eq_getElem?, List.getElem?_eq_getElem (by omega)] at e
    rw [Option.some.inj e]; rfl
  generalize strB l = q at hq hq2 hz hc
  have h0 : 0 < q.size := by omega
  have b1 := ib_yes (hc h0)
  clear hz h h1 h2 h3 hc
  go_enter Tryz.func54, Tryz.ntmps54
  go_wp2_with fail
  go_ret2
  exact ⟨rfl, rfl⟩
set_option maxHeartbeats 2000000 in
set_option maxRecDepth 20000 in
theorem ref_decimal (l : Bytes) (hl : l.length ≤ 281474976710656) (w : World) :
    Calls Tryz.prog 54 #[.string (strB l)] w fun e w' => e = .returned (.tuple #[.int .i64 (decI l), .bool (dec l).isSome]) ∧ w = w' := by
  by_cases h : l.length = 0 ∨ 13 < l.length ∨ (1 < l.length ∧ l.head? = some 48)
  · unfold decI
    rw [dec_long h]
    exact ref_decimal_no l hl h w
  have hz := strB_size l
  have hl1 : 1 ≤ l.length := by omega
  have hl13 : l.length ≤ 13 := by omega
  have HD := Lib.hid (dec_loop h)
  have hcase : l.length = 1 ∨ (1 < l.length ∧ l.head? ≠ some 48) := by
    rcases Nat.lt_or_ge 1 l.length with h1 | h1
    · exact .inr ⟨h1, fun e => h (.inr (.inr ⟨h1, e⟩))⟩
    · exact .inl (by omega)
  have hc : ∀ h : 0 < (strB l).size, 1 < (strB l).size → ((strB l)[0].toNat : Int) ≠ 48 := by
    intro h0 h1 e
    have : (strB l)[0] = l[0]'(by omega) := rfl
    rw [this] at e
    rcases hcase with h2 | ⟨h2, h3⟩
    · omega
    · apply h3
      rw [List.head?_eq_getElem?, List.getElem?_eq_getElem (by omega)]
      congr 1
      apply UInt8.toNat_inj.1
      have : (48 : UInt8).toNat = 48 := rfl
      omega
  have hat : ∀ k (hk : k < (strB l).size) (hk' : k < l.length), (strB l)[k]'hk = l[k]'hk' := fun k hk hk' => rfl
  have HAT := Lib.hid hat
  have hq1 : 1 ≤ (strB l).size := by omega
  have hq13 : (strB l).size ≤ 13 := by omega
  clear hcase h hat
  generalize strB l = q at hz hc hq1 hq13 HAT ⊢
  have HZ := Lib.hid hz
  clear hz
  have main : ∀ (g : q.size = 1 ∨ (1 < q.size ∧ ∀ h : 0 < q.size, ((q[0].toNat : Int) == 48) = false)), Calls Tryz.prog 54 #[.string q] w fun e w' => e = .returned (.tuple #[.int .i64 (decI l), .bool (dec l).isSome]) ∧ w = w' := by
    intro g
    rcases g with g | ⟨g, g2⟩
    · have g3 : ¬ 1 < q.size := by omega
      have g4 : q.size < 2 := by omega
      clear g
      go_enter Tryz.func54, Tryz.ntmps54
      go_wp2_with fail
      go_loop [4, 5] (fun n i => ∃ k m : Nat, k ≤ q.size ∧ m < 10 ^ k ∧ i = .int .i64 k ∧ n = .int .i64 m ∧ Hid (decVal m (l.drop k) = decVal 0 l)) (fun _ i => q.size - (intOf i).toNat)
      case atStart => exact ⟨0, 0, by omega, by decide, rfl, rfl, rfl⟩
      case round =>
        obtain ⟨k, m, hk, hm, rfl, rfl, H⟩ := hrel
        have hp := pow10_le (k := k) (by omega)
        have hmb : m < 10000000000000 := by omega
        have hps : 10 ^ (k + 1) = 10 * 10 ^ k := by rw [Nat.pow_succ, Nat.mul_comm]
        by_cases hlt : k < q.size
        · have hkl : k < l.length := by have := HZ.out; omega
          have hqk := HAT.out k hlt hkl
          have hdr := drop_at l hkl
          have hd : decVal m (l.drop k) = if isDigit q[k] then decVal (10 * m + (q[k].toNat - 48)) (l.drop (k + 1)) else none := by rw [hdr, hqk]; rfl
          have hcl := q[k].toNat_lt
          by_cases hdg : isDigit q[k] = true
          · have hdi := (digit_bytes q[k]).1 hdg
            have hnx : decVal (10 * m + (q[k].toNat - 48)) (l.drop (k + 1)) = decVal 0 l := by rw [← H.out, hd, if_pos hdg]
            have HNX := Lib.hid hnx
            have hb2 : 10 * m + (q[k].toNat - 48) < 10 ^ (k + 1) := by omega
            have e48 : ((q[k].toNat - 48 : Nat) : Int) = (q[k].toNat : Int) - 48 := by omega
            have HE := Lib.hid e48
            have HB2 := Lib.hid hb2
            obtain ⟨hd1, hd2⟩ := hdi
            clear hd hdg hdr hqk hnx hb2 e48 hps hp hm
            go_wp2_with fail
            refine ⟨⟨k + 1, 10 * m + (q[k].toNat - 48), by omega, HB2.out, by push_cast; rfl, by push_cast; rw [HE.out], HNX⟩, ?_⟩
            simp [intOf]; omega
          · have hnx : decVal 0 l = none := by rw [← H.out, hd, if_neg hdg]
            have HNX := Lib.hid (HD.out.trans hnx)
            have hdi : q[k].toNat < 48 ∨ 57 < q[k].toNat := by
              rcases Nat.lt_or_ge q[k].toNat 48 with h1 | h1
              · exact .inl h1
              · exact .inr (by
                  rcases Nat.lt_or_ge 57 q[k].toNat with h2 | h2
                  · exact h2
                  · exact absurd ((digit_bytes q[k]).2 ⟨h1, h2⟩) hdg)
            clear hd hdg hdr hqk hnx hps hp hm
            rcases hdi with hd1 | hd2
            · go_wp2_with fail
              go_ret2
              exact ⟨ret_nb (by unfold decI; rw [HNX.out]; rfl) (by rw [HNX.out]; rfl), rfl⟩
            · have hd3 : 48 ≤ q[k].toNat := by omega
              go_wp2_with fail
              go_ret2
              exact ⟨ret_nb (by unfold decI; rw [HNX.out]; rfl) (by rw [HNX.out]; rfl), rfl⟩
        · have hkl : k = l.length := by have := HZ.out; omega
          have hnx : decVal 0 l = some m := by rw [← H.out, hkl, List.drop_length]; rfl
          have HNX := Lib.hid (HD.out.trans hnx)
          clear hkl hnx hps hp hm
          go_wp2_with fail
          go_ret2
          exact ⟨ret_nb (by unfold decI; rw [HNX.out]; rfl) (by rw [HNX.out]; rfl), rfl⟩
    · have h0 : 0 < q.size := by omega
      have b1 := g2 h0
      clear g2
      go_enter Tryz.func54, Tryz.ntmps54
      go_wp2_with fail
      go_loop [4, 5] (fun n i => ∃ k m : Nat, k ≤ q.size ∧ m < 10 ^ k ∧ i = .int .i64 k ∧ n = .int .i64 m ∧ Hid (decVal m (l.drop k) = decVal 0 l)) (fun _ i => q.size - (intOf i).toNat)
      case atStart => exact ⟨0, 0, by omega, by decide, rfl, rfl, rfl⟩
      case round =>
        obtain ⟨k, m, hk, hm, rfl, rfl, H⟩ := hrel
        have hp := pow10_le (k := k) (by omega)
        have hmb : m < 10000000000000 := by omega
        have hps : 10 ^ (k + 1) = 10 * 10 ^ k := by rw [Nat.pow_succ, Nat.mul_comm]
        by_cases hlt : k < q.size
        · have hkl : k < l.length := by have := HZ.out; omega
          have hqk := HAT.out k hlt hkl
          have hdr := drop_at l hkl
          have hd : decVal m (l.drop k) = if isDigit q[k] then decVal (10 * m + (q[k].toNat - 48)) (l.drop (k + 1)) else none := by rw [hdr, hqk]; rfl
          have hcl := q[k].toNat_lt
          by_cases hdg : isDigit q[k] = true
          · have hdi := (digit_bytes q[k]).1 hdg
            have hnx : decVal (10 * m + (q[k].toNat - 48)) (l.drop (k + 1)) = decVal 0 l := by rw [← H.out, hd, if_pos hdg]
            have HNX := Lib.hid hnx
            have hb2 : 10 * m + (q[k].toNat - 48) < 10 ^ (k + 1) := by omega
            have e48 : ((q[k].toNat - 48 : Nat) : Int) = (q[k].toNat : Int) - 48 := by omega
            have HE := Lib.hid e48
            have HB2 := Lib.hid hb2
            obtain ⟨hd1, hd2⟩ := hdi
            clear hd hdg hdr hqk hnx hb2 e48 hps hp hm
            go_wp2_with fail
            refine ⟨⟨k + 1, 10 * m + (q[k].toNat - 48), by omega, HB2.out, by push_cast; rfl, by push_cast; rw [HE.out], HNX⟩, ?_⟩
            simp [intOf]; omega
          · have hnx : decVal 0 l = none := by rw [← H.out, hd, if_neg hdg]
            have HNX := Lib.hid (HD.out.trans hnx)
            have hdi : q[k].toNat < 48 ∨ 57 < q[k].toNat := by
              rcases Nat.lt_or_ge q[k].toNat 48 with h1 | h1
              · exact .inl h1
              · exact .inr (by
                  rcases Nat.lt_or_ge 57 q[k].toNat with h2 | h2
                  · exact h2
                  · exact absurd ((digit_bytes q[k]).2 ⟨h1, h2⟩) hdg)
            clear hd hdg hdr hqk hnx hps hp hm
            rcases hdi with hd1 | hd2
            · go_wp2_with fail
              go_ret2
              exact ⟨ret_nb (by unfold decI; rw [HNX.out]; rfl) (by rw [HNX.out]; rfl), rfl⟩
            · have hd3 : 48 ≤ q[k].toNat := by omega
              go_wp2_with fail
              go_ret2
              exact ⟨ret_nb (by unfold decI; rw [HNX.out]; rfl) (by rw [HNX.out]; rfl), rfl⟩
        · have hkl : k = l.length := by have := HZ.out; omega
          have hnx : decVal 0 l = some m := by rw [← H.out, hkl, List.drop_length]; rfl
          have HNX := Lib.hid (HD.out.trans hnx)
          clear hkl hnx hps hp hm
          go_wp2_with fail
          go_ret2
          exact ⟨ret_nb (by unfold decI; rw [HNX.out]; rfl) (by rw [HNX.out]; rfl), rfl⟩
  exact main (by
    rcases Nat.lt_or_ge 1 q.size with h1 | h1
    · exact .inr ⟨h1, fun h0 => ib_no (hc h0 h1)⟩
    · exact .inl (by omega))
end Go.Proofs.YtecdkgiandbkeaaGreatDoor
