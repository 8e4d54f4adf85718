/-
  The walk of the statement that tokens lie in their text.
-/
import Derived.Test.YtecldgjdmomilaaDoorLexP
namespace Go.Proofs.YtecldgjdmomilaaDoor
open Go.RowKit LexSpec

theorem gap_call (s : ByteArray) (a b : Nat) (w : World) (hs : s.size ≤ 4000) (hab : a ≤ b) (hb : b ≤ s.size) (hg : gapOK s.data.toList a b) :
    Calls Tryd.prog 17 #[.string (s.extract a b)] w fun e w' => ∃ A c, e = .returned (.agg #[.slice A 0 c, .int .i64 0, .int .i64 0]) ∧ Below w.heap.size w w' := by
  have hz : (s.extract a b).size = b - a := by rw [extract_strB, strB_size]; simp; omega
  have h := ref_tokens (s.extract a b) w (by omega)
  have e : (s.extract a b).data.toList = (s.data.toList.drop a).take (b - a) := by rw [extract_strB, strB_toList]
  unfold gapOK at hg
  rw [e, hg] at h
  refine h.mono ?_
  rintro e w' ⟨v, rfl, ho, hb⟩
  obtain ⟨A, c, rfl⟩ := own_slice ho
  exact ⟨A, c, rfl, hb⟩
theorem Lies.le {s : Bytes} {a : Nat} {ts : List Tok} (h : Lies s a ts) : a ≤ s.length := by
  cases ts with
  | nil => exact h.1
  | cons t ts => obtain ⟨h1, h2, _⟩ := h; omega

set_option maxRecDepth 100000 in
set_option maxHeartbeats 2000000 in
theorem law_lies (s : ByteArray) (w : World) (hu : Units w) : Calls Tryd.prog 6 #[.string s] w fun e w' => e = .returned (.bool true) ∧ Below w.heap.size w w' := by
  by_cases hbig : 4000 < s.size
  · go_enter Tryd.func6, Tryd.ntmps6
    go_wp2_with (go_at_call 15; refine (lex_sanity _ hu).mono ?_; rintro e w1 ⟨rfl, hb1⟩)
    go_ret
    exact ⟨rfl, hb1⟩
  · have hs : s.size ≤ 1000000 := by omega
    have hsl : s.data.toList.length = s.size := by simp
    have htk := tokens_small s.data.toList (by omega)
    go_enter Tryd.func6, Tryd.ntmps6
    go_wp2_with (go_at_call 15; refine (lex_sanity _ hu).mono ?_; rintro e w1 ⟨rfl, hb1⟩)
    have hu1 := hu.below hb1 hu.lt
    have hz1 := hb1.size
    have h2 := lex_tokens s w1 hs hu1
    rw [htk] at h2
    clear htk
    rcases lexAll_cases s.data.toList with ⟨ts, ht⟩ | ⟨p, e, ht, he⟩
    · rw [ht] at h2
      have hn := lexAll_len _ _ ht
      have HL := Lib.hid (lies _ (by omega) _ ht)
      clear ht
      refine h2.mono ?_
      rintro e w2 ⟨v2, rfl, ho2, hb2⟩
      have hz2 := hb2.size
      clear h2
      simp only [LexSpec.Res.toks, LexSpec.Res.pos, LexSpec.Res.code] at ho2 ⊢
      have hts := TokSl.of_own ho2
      have hb := below_to hb1 hz1 hb2
      have HT := Lib.hid hts
      obtain ⟨A, c, rfl, hA⟩ := hts
      have HA := Lib.hid hA
      clear hA ho2
      go_wp2_with fail
      go_loopw [7, 8] (fun a i wr => ∃ k q : Nat, i = .int .i64 k ∧ a = .int .i64 q ∧ Below w2.heap.size w2 wr ∧ k ≤ ts.length + 1 ∧ q ≤ s.size ∧ Hid (k ≤ ts.length → Lies s.data.toList q (ts.drop k))) (fun _ i _ => ts.length + 1 - (intOf i).toNat)
      case atStart => exact ⟨0, 0, rfl, rfl, Below.refl _ _, by omega, by omega, fun _ => HL.out⟩
      case round =>
        obtain ⟨k, q, rfl, rfl, hbr, hk, hq, H⟩ := hrel
        have hzr := hbr.size
        by_cases hlt : k < ts.length
        · have hL := H.out (by omega)
          rw [List.drop_eq_getElem_cons hlt] at hL
          generalize htt : ts[k] = t at hL
          obtain ⟨h1, h3, h4, h5, h6, h7⟩ := hL
          obtain ⟨g, o, rfl, hg, hc⟩ := HA.out (by omega)
          obtain ⟨a0, a1, a2, a3⟩ := tokCs_at ts k hlt
          have x1 := hc _ _ a1
          have x3 := hc _ _ a3
          rw [← Nat.add_assoc, htt] at x1 x3
          have y1 := (hbr.cell (p := ⟨g, o + k * 4 + 1, none⟩) hg).trans x1
          have y3 := (hbr.cell (p := ⟨g, o + k * 4 + 3, none⟩) hg).trans x3
          have hpl : t.pos ≤ s.size := by omega
          have hsz : (strB t.text).size = t.text.length := strB_size _
          have hex : s.extract t.pos (t.pos + t.text.length) = strB t.text := by rw [extract_strB, Nat.add_sub_cancel_left, h5]
          have hne := ib_no (show (t.text.length : Int) ≠ 0 by cases ht : t.text with | nil => exact absurd ht h6 | cons c l => simp only [List.length_cons]; omega)
          have H7 := Lib.hid h7
          have HX := Lib.hid hex
          have HG := Lib.hid (gap_call s q t.pos wr (by omega) h1 hpl h4)
          clear hc a0 a1 a2 a3 x1 x3 htt h4 h5 h6 h7 hex
          go_wp2_with fail
          refine HG.out.mono ?_
          rintro e w3 ⟨B, d, rfl, hb3⟩
          have hz3 := hb3.size
          have z1 := (hb3.cell (p := ⟨g, o + k * 4 + 1, none⟩) (show g < wr.heap.size by omega)).trans y1
          have z3 := (hb3.cell (p := ⟨g, o + k * 4 + 3, none⟩) (show g < wr.heap.size by omega)).trans y3
          have hg3 : g < w3.heap.size := by omega
          clear y1 y3
          go_wp2_with fail
          have hgt := decide_eq_false (show ¬ ((s.size : Int) < (t.pos : Int) + (t.text.length : Int)) by omega)
          have hex := HX.out
          have hbw := below_to hbr hzr hb3
          go_quiet (fail)
          go_wp2_with fail
          refine ⟨?_, ?measure⟩
          · (repeat apply Exists.intro)
            refine ⟨⟨k + 1, t.pos + t.text.length, by push_cast; rfl, by push_cast; rfl, below_drewN (by go_grown) _, by omega, by omega, Lib.hid (fun _ => H7.out)⟩, rfl⟩
          case measure => simp [intOf]; omega
        · by_cases heq : k = ts.length
          · subst heq
            have hL := H.out (Nat.le_refl _)
            rw [List.drop_length] at hL
            obtain ⟨h1, h2⟩ := hL
            have HG := Lib.hid (gap_call s q s.size wr (by omega) (by omega) (Nat.le_refl _) (by rw [← hsl]; exact h2))
            clear h2
            go_wp2_with fail
            refine HG.out.mono ?_
            rintro e w3 ⟨B, d, rfl, hb3⟩
            have hz3 := hb3.size
            go_wp2_with fail
            have hbw := below_to hbr hzr hb3
            refine ⟨?_, ?measure⟩
            · (repeat apply Exists.intro)
              refine ⟨⟨ts.length + 1, q, by push_cast; rfl, rfl, by go_grown, by omega, by omega, Lib.hid (fun h => absurd h (by omega))⟩, rfl⟩
            case measure => simp [intOf]
          · obtain rfl : k = ts.length + 1 := by omega
            go_wp2_with fail
            go_ret
            exact ⟨rfl, below_to hb (Nat.le_trans hz1 hz2) hbr⟩
    · rw [ht] at h2
      have hne := bne_iff_ne.2 (show (e : Int) ≠ 0 by omega)
      clear ht
      refine h2.mono ?_
      rintro e' w2 ⟨v2, rfl, ho2, hb2⟩
      clear h2
      simp only [LexSpec.Res.toks, LexSpec.Res.pos, LexSpec.Res.code] at ho2 ⊢
      obtain ⟨A, c, rfl⟩ := own_slice ho2
      go_wp2_with fail
      go_ret
      exact ⟨rfl, below_to hb1 hz1 hb2⟩
end Go.Proofs.YtecldgjdmomilaaDoor
