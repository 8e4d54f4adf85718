/-
  The reference: Data, isStep.
-/
import Derived.Test.YtecdkgiandbkeaaGreatDoorRfB
import Derived.Deep.RegionHeld3
namespace Go.Proofs.YtecdkgiandbkeaaGreatDoor
open Go.RowKit ScSpec Go.Sort

theorem decI_some {l : Bytes} {n : Nat} (h : dec l = some n) : decI l = n := by unfold decI; rw [h]; rfl
set_option maxRecDepth 20000 in
set_option maxHeartbeats 1000000 in
theorem ref_data (l : Bytes) (hs : l.length ≤ 281474976710656) (w : World) :
    Calls Tryz.prog 22 #[.string (strB l)] w fun e w' => e = .returned (.tuple #[.string (strB (data l).1), .int .i64 (data l).2.1, .int .i64 (data l).2.2]) ∧ w = w' := by
  cases l with
  | nil =>
    rw [strB_nil]
    go_enter Tryz.func22, Tryz.ntmps22
    go_wp2_with fail
    go_ret3
    exact ⟨rfl, rfl⟩
  | cons c r =>
    have hz : (strB (c :: r)).size = r.length + 1 := by rw [strB_size]; rfl
    have he := isEmpty_cons c r
    have hx := strB_tail c r
    have hrl : r.length ≤ 281474976710656 := by simp only [List.length_cons] at hs; omega
    have hc : ∀ h : 0 < (strB (c :: r)).size, (strB (c :: r))[0].toNat = c.toNat := fun _ => rfl
    have HDc := Lib.hid (ref_decimal r hrl w)
    by_cases h61 : c.toNat = 61
    · by_cases hlen : r.length ≤ 4000
      · rw [data_eq h61 hlen]
        generalize strB (c :: r) = q at he hx hz hc
        have h0 : 0 < q.size := by omega
        have b1 := ib_yes (show (q[0].toNat : Int) = 61 by rw [hc h0]; omega)
        clear hc
        go_enter Tryz.func22, Tryz.ntmps22
        go_wp2_with fail
        go_ret3
        exact ⟨rfl, rfl⟩
      · rw [data_long h61 hlen]
        generalize strB (c :: r) = q at he hx hz hc
        have h0 : 0 < q.size := by omega
        have b1 := ib_yes (show (q[0].toNat : Int) = 61 by rw [hc h0]; omega)
        have b2 := ib_no (show (q[0].toNat : Int) ≠ 64 by rw [hc h0]; omega)
        clear hc
        go_enter Tryz.func22, Tryz.ntmps22
        go_wp2_with fail
        refine HDc.out.mono ?_
        rintro e w1 ⟨rfl, rfl⟩
        go_wp2_with fail
        go_ret3
        exact ⟨rfl, rfl⟩
    · by_cases h64 : c.toNat = 64
      · cases hd : dec r with
        | none =>
          rw [data_none h64 hd]
          rw [hd] at HDc
          generalize strB (c :: r) = q at he hx hz hc
          have h0 : 0 < q.size := by omega
          have b1 := ib_no (show (q[0].toNat : Int) ≠ 61 by rw [hc h0]; omega)
          have b2 := ib_yes (show (q[0].toNat : Int) = 64 by rw [hc h0]; omega)
          clear hc hd
          go_enter Tryz.func22, Tryz.ntmps22
          go_wp2_with fail
          refine HDc.out.mono ?_
          rintro e w1 ⟨rfl, rfl⟩
          go_wp2_with fail
          go_ret3
          exact ⟨rfl, rfl⟩
        | some n =>
          rw [hd, decI_some hd] at HDc
          by_cases hn : n ≤ 65535
          · rw [data_num h64 hd hn]
            generalize strB (c :: r) = q at he hx hz hc
            have h0 : 0 < q.size := by omega
            have b1 := ib_no (show (q[0].toNat : Int) ≠ 61 by rw [hc h0]; omega)
            have b2 := ib_yes (show (q[0].toNat : Int) = 64 by rw [hc h0]; omega)
            clear hc hd
            go_enter Tryz.func22, Tryz.ntmps22
            go_wp2_with fail
            refine HDc.out.mono ?_
            rintro e w1 ⟨rfl, rfl⟩
            go_wp2_with fail
            go_ret3
            exact ⟨rfl, rfl⟩
          · rw [data_big h64 hd hn]
            generalize strB (c :: r) = q at he hx hz hc
            have h0 : 0 < q.size := by omega
            have b1 := ib_no (show (q[0].toNat : Int) ≠ 61 by rw [hc h0]; omega)
            have b2 := ib_yes (show (q[0].toNat : Int) = 64 by rw [hc h0]; omega)
            have hn2 : 65536 ≤ n := by omega
            clear hc hd
            go_enter Tryz.func22, Tryz.ntmps22
            go_wp2_with fail
            refine HDc.out.mono ?_
            rintro e w1 ⟨rfl, rfl⟩
            go_wp2_with fail
            go_ret3
            exact ⟨rfl, rfl⟩
      · rw [data_other h61 h64]
        generalize strB (c :: r) = q at he hx hz hc
        have h0 : 0 < q.size := by omega
        have b1 := ib_no (show (q[0].toNat : Int) ≠ 61 by rw [hc h0]; omega)
        have b2 := ib_no (show (q[0].toNat : Int) ≠ 64 by rw [hc h0]; omega)
        clear hc
        go_enter Tryz.func22, Tryz.ntmps22
        go_wp2_with fail
        refine HDc.out.mono ?_
        rintro e w1 ⟨rfl, rfl⟩
        go_wp2_with fail
        go_ret3
        exact ⟨rfl, rfl⟩
end Go.Proofs.YtecdkgiandbkeaaGreatDoor
