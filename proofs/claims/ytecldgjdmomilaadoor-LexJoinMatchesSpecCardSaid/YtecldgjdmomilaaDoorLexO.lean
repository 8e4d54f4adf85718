/-
  The walks of the statements on Spot and Join: each returns true.
-/
import Derived.Test.YtecldgjdmomilaaDoorLexM
namespace Go.Proofs.YtecldgjdmomilaaDoor
open Go.RowKit LexSpec

set_option maxHeartbeats 1000000 in
theorem law_spot (s : ByteArray) (i : Int) (w : World) (hu : Units w) : Calls Tryd.prog 4 #[.string s, .int .i64 i] w fun e w' => e = .returned (.bool true) ∧ Below w.heap.size w w' := by
  by_cases hbig : 4100 < s.size
  · go_enter Tryd.func4, Tryd.ntmps4
    go_wp2_with (go_at_call 15; refine (lex_sanity _ hu).mono ?_; rintro e w1 ⟨rfl, hb1⟩)
    go_ret
    exact ⟨rfl, hb1⟩
  · have hs : s.size ≤ 1000000 := by omega
    go_enter Tryd.func4, Tryd.ntmps4
    go_wp2_with (first | (go_at_call 15; refine (lex_sanity _ hu).mono ?_; rintro e w1 ⟨rfl, hb1⟩) | (go_at_call 19; refine (lex_spot s i _ hs).mono ?_; rintro e w' ⟨rfl, rfl⟩) | (go_at_call 20; refine (ref_spot s i _ hs).mono ?_; rintro e w' ⟨rfl, rfl⟩))
    go_ret
    exact ⟨rfl, hb1⟩

theorem joined_len (xs : List Cell4) (hb : ∀ i (h : i < xs.length), xs[i].2.1.size ≤ 100) : (joined xs).length ≤ 101 * xs.length := by
  have := jn_len xs hb xs.length (Nat.le_refl _)
  unfold jn at this
  rwa [List.take_length] at this

set_option maxHeartbeats 1000000 in
theorem law_join (v : Value) (xs : List Cell4) (w : World) (hu : Units w) (hr : RowSl w v xs) (hm : xs.length ≤ 9223372036854775807) (hsz : ∀ i (h : i < xs.length), xs[i].2.1.size ≤ 9223372036854775807) :
    Calls Tryd.prog 5 #[v] w fun e w' => e = .returned (.bool true) ∧ Below w.heap.size w w' := by
  have hr0 := hr
  obtain ⟨A, c, rfl, hA⟩ := hr
  have HA := Lib.hid hA
  clear hA
  by_cases hbig : 400 < xs.length
  · go_enter Tryd.func5, Tryd.ntmps5
    go_wp2_with (go_at_call 15; refine (lex_sanity _ hu).mono ?_; rintro e w1 ⟨rfl, hb1⟩)
    go_ret
    exact ⟨rfl, hb1⟩
  · go_enter Tryd.func5, Tryd.ntmps5
    go_wp2_with (go_at_call 15; refine (lex_sanity _ hu).mono ?_; rintro e w1 ⟨rfl, hb1⟩)
    have hr1 := hr0.below hb1
    have hz1 := hb1.size
    have HS := Lib.hid hsz
    clear hsz
    go_loop [4] (fun i => ∃ k : Nat, k ≤ xs.length ∧ i = .int .i64 k ∧ Hid (∀ j (h : j < xs.length), j < k → xs[j].2.1.size ≤ 100)) (fun i => xs.length - (intOf i).toNat)
    case atStart => exact ⟨0, by omega, rfl, fun j h h0 => by omega⟩
    case round =>
      obtain ⟨k, hk, rfl, HB⟩ := hrel
      by_cases hlt : k < xs.length
      · obtain ⟨g, o, rfl, hg, hc⟩ := HA.out (by omega)
        obtain ⟨h1, h2, h3, h4⟩ := hc k hlt
        have x1 := (hb1.cell (p := ⟨g, o + k * 4 + 1, none⟩) hg).trans h2
        have hsk := HS.out k hlt
        clear hc h1 h2 h3 h4
        by_cases hl : 100 < xs[k].2.1.size
        · go_wp2_with fail
          go_ret
          exact ⟨rfl, hb1⟩
        · have HB2 : Hid (∀ j (h : j < xs.length), j < k + 1 → xs[j].2.1.size ≤ 100) := by
            intro j h hj
            rcases Nat.lt_or_ge j k with h1 | h1
            · exact HB.out j h h1
            · obtain rfl : j = k := by omega
              omega
          go_wp2_with fail
          go_round
          case rel => exact ⟨k + 1, by omega, by go_num, HB2⟩
          case measure => simp [intOf]; omega
      · obtain rfl : k = xs.length := by omega
        have hall : ∀ j (h : j < xs.length), xs[j].2.1.size ≤ 100 := fun j h => HB.out j h h
        have hlen := joined_len xs hall
        have HJ1 := Lib.hid (lex_join _ xs w1 hr1 (by omega) (by omega))
        have HJ2 := Lib.hid hall
        clear hall
        go_wp2_with (go_at_call 21; refine HJ1.out.mono ?_; rintro e w2 ⟨rfl, hb2⟩)
        have hr2 := hr1.below hb2
        have hz2 := hb2.size
        refine (ref_join _ xs w2 hr2 (by omega) HJ2.out).mono ?_
        rintro e w3 ⟨rfl, hb3⟩
        have hb := below_to (below_to hb1 hz1 hb2) (by omega) hb3
        go_wp2_with fail
        go_ret
        exact ⟨rfl, hb⟩
end Go.Proofs.YtecldgjdmomilaaDoor
