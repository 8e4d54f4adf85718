/-
  Numbers and texts of steps: the script package's decimal, Data and isStep.
-/
import Derived.Test.YtecdkgiandbkeaaGreatDoorScA
import Derived.Test.YtecdkgiandbkeaaGreatDoorScDec
import Derived.Lib.ItoaLen
namespace Go.Proofs.YtecdkgiandbkeaaGreatDoor
open Go.RowKit ScSpec Go.Sort

theorem below_bytesW (w : World) (s : ByteArray) : Below w.heap.size w (Lib.bytesWorld w 5 s) :=
  ⟨rfl, rfl, rfl, by rw [Lib.bytesWorld_size]; omega, fun j hj => Lib.bytesWorld_at_old w 5 s j hj⟩
theorem below_grow (w : World) (k : Nat) (os : Array Obj) : Below w.heap.size w (grow (w.drewN k) os) :=
  ⟨rfl, rfl, rfl, by simp [grow, World.drewN], fun j hj => by simp [grow, World.drewN, Array.getElem?_append, hj]⟩

theorem itoa_call (n : Int) (h0 : -9223372036854775808 ≤ n) (h1 : n ≤ 9223372036854775807) (w : World) (hL : Laid w) :
    Calls Tryz.prog 36 #[.int .i64 n] w fun e w' => e = .returned (.string (strB (Lib.itoa n))) ∧ Below w.heap.size w w' := by
  refine (Tryz.strconv_Itoa n h0 h1 w hL.pow).mono ?_
  rintro e w' ⟨rfl, k, os, rfl⟩
  exact ⟨rfl, below_grow w k os⟩

/-- An error's value: nil, or something. -/
def isErr (v : Value) : Prop := ∃ t p, v = .iface t p
theorem atoi_call (s : ByteArray) (hs : s.size ≤ 281474976710656) (w : World) (hL : Laid w) :
    Calls Tryz.prog 83 #[.string s] w fun e w' => ∃ n ev, e = .returned (.tuple #[.int .i64 n, ev]) ∧ Below w.heap.size w w' ∧
      ((ev = .nilIface ∧ Lib.atoiAll s.data.toList = .ok n) ∨ (isErr ev ∧ ∀ v, Lib.atoiAll s.data.toList ≠ .ok v)) := by
  obtain ⟨ev, h3, h4⟩ := hL.errS
  obtain ⟨er, h5, h6⟩ := hL.errR
  cases ha : Lib.atoiAll s.data.toList with
  | ok v =>
    refine (Tryz.strconv_Atoi_ok s (by omega) v ha w).mono ?_
    rintro e w' ⟨rfl, hw⟩
    refine ⟨v, _, rfl, ?_, .inl ⟨rfl, rfl⟩⟩
    rcases hw with rfl | ⟨t, rfl⟩
    · exact Below.refl _ _
    · exact below_bytesW _ _
  | range =>
    refine (Tryz.strconv_Atoi_range s hs ha er w h5 h6).mono ?_
    rintro e w' ⟨N, rfl, _, _, hb⟩
    exact ⟨_, _, rfl, hb, .inr ⟨⟨_, _, rfl⟩, fun v h => by cases h⟩⟩
  | _ =>
    refine (Tryz.strconv_Atoi_bad s hs (fun v h => by rw [ha] at h; cases h) (fun h => by rw [ha] at h; cases h) ev w h3 h4).mono ?_
    rintro e w' ⟨N, rfl, _, _, hb⟩
    exact ⟨_, _, rfl, hb, .inr ⟨⟨_, _, rfl⟩, fun v h => by cases h⟩⟩

theorem ret_ib {n : Int} {x y : Bool} (h : x = y) : Ending.returned (.tuple #[.int .i64 n, .bool x]) = Ending.returned (.tuple #[.int .i64 n, .bool y]) := by rw [h]
set_option maxHeartbeats 1000000 in
theorem sc_decimal (s : ByteArray) (hs : s.size ≤ 281474976710656) (w : World) (hL : Laid w) :
    Calls Tryz.prog 53 #[.string s] w fun e w' => ∃ n : Int, e = .returned (.tuple #[.int .i64 n, .bool (dec s.data.toList).isSome]) ∧ (∀ m, dec s.data.toList = some m → n = m) ∧ Below w.heap.size w w' := by
  have HA := Lib.hid (atoi_call s hs w hL)
  go_enter Tryz.func53, Tryz.ntmps53
  go_wp2_with fail
  refine HA.out.mono ?_
  rintro e w1 ⟨n, ev, rfl, hb1, hres⟩
  have hL1 := hL.below hb1
  have hz1 := hb1.size
  rcases hres with ⟨rfl, hok⟩ | ⟨⟨t, p, rfl⟩, hno⟩
  · have hbd := Lib.atoiAll_bounds hok
    by_cases hlen : s.size ≤ 13
    · have HI := Lib.hid (itoa_call n hbd.1 hbd.2 w1 hL1)
      have hbe := bytes_beq (strB (Lib.itoa n)) s
      have HK := Lib.hid hok
      clear hok
      by_cases heq : strB (Lib.itoa n) = s
      · rw [decide_eq_true heq] at hbe
        have HE := Lib.hid heq
        clear heq
        go_wp2_with fail
        refine HI.out.mono ?_
        rintro e w2 ⟨rfl, hb2⟩
        go_wp2_with fail
        have hb := below_to hb1 hz1 hb2
        go_ret2
        refine ⟨n, ret_ib ?_, fun m hm => dec_val HK.out hm, hb⟩
        by_cases h0 : 0 ≤ n
        · rw [dec_some_of h0 (by rw [← size_eq_len]; exact hlen) (by rw [← HE.out, strB_toList])]
          simpa using h0
        · rw [dec_none_of HK.out (fun h => h0 h.1)]
          simpa using h0
      · rw [decide_eq_false heq] at hbe
        have HE := Lib.hid heq
        clear heq
        go_wp2_with fail
        refine HI.out.mono ?_
        rintro e w2 ⟨rfl, hb2⟩
        go_wp2_with fail
        have hb := below_to hb1 hz1 hb2
        go_ret2
        refine ⟨n, ret_ib ?_, fun m hm => dec_val HK.out hm, hb⟩
        rw [dec_none_of HK.out (fun h => HE.out (by rw [h.2.2, strB_of]))]
        rfl
    · have HK := Lib.hid hok
      clear hok
      go_wp2_with fail
      go_ret2
      refine ⟨n, ret_ib ?_, fun m hm => dec_val HK.out hm, hb1⟩
      rw [dec_none_of HK.out (fun h => hlen (by rw [size_eq_len]; exact h.2.1))]
      rfl
  · have HK := Lib.hid hno
    clear hno
    go_wp2_with fail
    go_ret2
    refine ⟨n, ret_ib ?_, fun m hm => ?_, hb1⟩
    · rw [dec_none_err HK.out]
      rfl
    · rw [dec_none_err HK.out] at hm
      cases hm
end Go.Proofs.YtecdkgiandbkeaaGreatDoor
