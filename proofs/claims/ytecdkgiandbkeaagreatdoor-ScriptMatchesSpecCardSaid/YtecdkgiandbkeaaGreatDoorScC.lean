/-
  Texts of steps and steps: the script package's Data and isStep.
-/
import Derived.Test.YtecdkgiandbkeaaGreatDoorScB
namespace Go.Proofs.YtecdkgiandbkeaaGreatDoor
open Go.RowKit ScSpec

theorem strB0 (c : UInt8) (r : Bytes) (h : 0 < (strB (c :: r)).size) : (strB (c :: r))[0] = c := rfl
theorem ret_data {a b : ByteArray} {n n' e e' : Int} (h : a = b) (hn : n = n') (he : e = e') : Ending.returned (.tuple #[.string a, .int .i64 n, .int .i64 e]) = Ending.returned (.tuple #[.string b, .int .i64 n', .int .i64 e']) := by rw [h, hn, he]
theorem strB_nil : strB [] = ⟨#[]⟩ := rfl
theorem isEmpty_cons (c : UInt8) (r : Bytes) : (strB (c :: r)).toList.isEmpty = false := by rw [ByteArray.toList_eq, strB_toList]; rfl

set_option maxHeartbeats 1000000 in
theorem data_eq {c : UInt8} {r : Bytes} (h : c.toNat = 61) (hl : r.length ≤ 4000) : data (c :: r) = (r, -1, 0) := by simp only [data]; rw [if_pos ⟨h, hl⟩]
theorem data_long {c : UInt8} {r : Bytes} (h : c.toNat = 61) (hl : ¬ r.length ≤ 4000) : data (c :: r) = ([], -1, 1) := by simp only [data]; rw [if_neg (fun h => hl h.2), if_neg (by omega)]
theorem data_other {c : UInt8} {r : Bytes} (h : c.toNat ≠ 61) (h2 : c.toNat ≠ 64) : data (c :: r) = ([], -1, 1) := by simp only [data]; rw [if_neg (fun e => h e.1), if_neg h2]
theorem data_num {c : UInt8} {r : Bytes} {n : Nat} (h : c.toNat = 64) (hd : dec r = some n) (hn : n ≤ 65535) : data (c :: r) = ([], (n : Int), 0) := by
  simp only [data]; rw [if_neg (by omega), if_pos h, hd]; simp only; rw [if_pos hn]
theorem data_big {c : UInt8} {r : Bytes} {n : Nat} (h : c.toNat = 64) (hd : dec r = some n) (hn : ¬ n ≤ 65535) : data (c :: r) = ([], -1, 1) := by
  simp only [data]; rw [if_neg (by omega), if_pos h, hd]; simp only; rw [if_neg hn]
theorem data_none {c : UInt8} {r : Bytes} (h : c.toNat = 64) (hd : dec r = none) : data (c :: r) = ([], -1, 1) := by
  simp only [data]; rw [if_neg (by omega), if_pos h, hd]

set_option maxRecDepth 20000 in
set_option maxHeartbeats 1000000 in
theorem sc_data (l : Bytes) (hs : l.length ≤ 281474976710656) (w : World) (hL : Laid w) :
    Calls Tryz.prog 21 #[.string (strB l)] w fun e w' => e = .returned (.tuple #[.string (strB (data l).1), .int .i64 (data l).2.1, .int .i64 (data l).2.2]) ∧ Below w.heap.size w w' := by
  cases l with
  | nil =>
    rw [strB_nil]
    go_enter Tryz.func21, Tryz.ntmps21
    go_wp2_with fail
    go_ret3
    exact ⟨rfl, Below.refl _ _⟩
  | cons c r =>
    have hz : (strB (c :: r)).size = r.length + 1 := by rw [strB_size]; rfl
    have he := isEmpty_cons c r
    have hx := strB_tail c r
    have hrl : r.length ≤ 281474976710656 := by simp only [List.length_cons] at hs; omega
    have hc : ∀ h : 0 < (strB (c :: r)).size, (strB (c :: r))[0].toNat = c.toNat := fun _ => rfl
    have HDc := Lib.hid (sc_decimal (strB r) (by rw [strB_size]; exact hrl) w hL)
    rw [strB_toList] at HDc
    by_cases h61 : c.toNat = 61
    · by_cases hlen : r.length ≤ 4000
      · rw [data_eq h61 hlen]
        generalize strB (c :: r) = q at he hx hz hc
        have h0 : 0 < q.size := by omega
        have b1 := ib_yes (show (q[0].toNat : Int) = 61 by rw [hc h0]; omega)
        clear hc
        go_enter Tryz.func21, Tryz.ntmps21
        go_wp2_with fail
        go_ret3
        exact ⟨rfl, Below.refl _ _⟩
      · rw [data_long h61 hlen]
        generalize strB (c :: r) = q at he hx hz hc
        have h0 : 0 < q.size := by omega
        have b1 := ib_yes (show (q[0].toNat : Int) = 61 by rw [hc h0]; omega)
        have b2 := ib_no (show (q[0].toNat : Int) ≠ 64 by rw [hc h0]; omega)
        clear hc
        go_enter Tryz.func21, Tryz.ntmps21
        go_wp2_with fail
        go_ret3
        exact ⟨rfl, Below.refl _ _⟩
    · by_cases h64 : c.toNat = 64
      · cases hd : dec r with
        | none =>
          rw [data_none h64 hd]
          rw [hd] at HDc
          generalize strB (c :: r) = q at he hx hz hc
          have h0 : 0 < q.size := by omega
          have b1 := ib_no (show (q[0].toNat : Int) ≠ 61 by rw [hc h0]; omega)
          have b2 := ib_yes (show (q[0].toNat : Int) = 64 by rw [hc h0]; omega)
          clear hc
          go_enter Tryz.func21, Tryz.ntmps21
          go_wp2_with fail
          refine HDc.out.mono ?_
          rintro e w1 ⟨n, rfl, _, hb1⟩
          go_wp2_with fail
          go_ret3
          exact ⟨rfl, hb1⟩
        | some n =>
          rw [hd] at HDc
          by_cases hn : n ≤ 65535
          · rw [data_num h64 hd hn]
            generalize strB (c :: r) = q at he hx hz hc
            have h0 : 0 < q.size := by omega
            have b1 := ib_no (show (q[0].toNat : Int) ≠ 61 by rw [hc h0]; omega)
            have b2 := ib_yes (show (q[0].toNat : Int) = 64 by rw [hc h0]; omega)
            clear hc
            go_enter Tryz.func21, Tryz.ntmps21
            go_wp2_with fail
            refine HDc.out.mono ?_
            rintro e w1 ⟨m, rfl, hm, hb1⟩
            obtain rfl := hm n rfl
            go_wp2_with fail
            go_ret3
            exact ⟨rfl, hb1⟩
          · rw [data_big h64 hd hn]
            generalize strB (c :: r) = q at he hx hz hc
            have h0 : 0 < q.size := by omega
            have b1 := ib_no (show (q[0].toNat : Int) ≠ 61 by rw [hc h0]; omega)
            have b2 := ib_yes (show (q[0].toNat : Int) = 64 by rw [hc h0]; omega)
            clear hc
            go_enter Tryz.func21, Tryz.ntmps21
            go_wp2_with fail
            refine HDc.out.mono ?_
            rintro e w1 ⟨m, rfl, hm, hb1⟩
            obtain rfl := hm n rfl
            go_wp2_with fail
            go_ret3
            exact ⟨rfl, hb1⟩
      · rw [data_other h61 h64]
        generalize strB (c :: r) = q at he hx hz hc
        have h0 : 0 < q.size := by omega
        have b1 := ib_no (show (q[0].toNat : Int) ≠ 61 by rw [hc h0]; omega)
        have b2 := ib_no (show (q[0].toNat : Int) ≠ 64 by rw [hc h0]; omega)
        clear hc
        go_enter Tryz.func21, Tryz.ntmps21
        go_wp2_with fail
        go_ret3
        exact ⟨rfl, Below.refl _ _⟩
end Go.Proofs.YtecdkgiandbkeaaGreatDoor
