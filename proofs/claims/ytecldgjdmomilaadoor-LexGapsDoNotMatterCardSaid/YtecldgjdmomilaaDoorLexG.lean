/-
  The lexer's numbers.
-/
import Derived.Test.YtecldgjdmomilaaDoorLexF
import Derived.Lib.ConvBytes
import Derived.Laws.Rows
import Derived.Deep.QuietTactic
import Derived.BigQuiet
namespace Go.Proofs.YtecldgjdmomilaaDoor
open Go.RowKit LexSpec

/-- The table of units lies as the program's text lays it. -/
def unitsC : Array Value := #[.int .u8 115, .int .i64 1, .int .u8 109, .int .i64 60, .int .u8 104, .int .i64 3600, .int .u8 100, .int .i64 86400]
def Units (w : World) : Prop := ∃ t fr, w.heap[3]? = some (.cells unitsC t fr)
theorem Units.lt {w : World} (h : Units w) : 3 < w.heap.size := by
  obtain ⟨t, fr, h⟩ := h
  exact (Array.getElem?_eq_some_iff.1 h).1
theorem Units.below {w w' : World} {B : Nat} (h : Units w) (hb : Below B w w') (hB : 3 < B) : Units w' := by
  obtain ⟨t, fr, h⟩ := h
  exact ⟨t, fr, (hb.block 3 hB).trans h⟩

theorem ext0_toList (s : ByteArray) (n : Nat) : (s.extract 0 n).data.toList = s.data.toList.take n := by
  rw [extract_strB, strB_toList]; simp

section
variable {P : Program} {ops : Array Oper} {rest : List Oper} {o : Oper} {a : Act} {Q : Exit → Act → World → Prop}
/-- []byte(s): the new row reads as the string's bytes; what was there is there. -/
theorem wp_bytes {W : World} (hgd : o.guard = none) (x : Operand) (src dst e : TypeId) {u : TypeDesc} (ho : o.op = .convert src dst x)
    (hs : P.underlying src = some u) (hd : P.underlying dst = some (.slice e)) (he : P.underlying e = some (.int .u8)) (s : ByteArray) (hx : a.eval x = .string s)
    (h : ∀ c W1, Below W.heap.size W W1 → W.heap.size < W1.heap.size → (∀ j (hj : j < s.size), W1.cell? ⟨W.heap.size, j, none⟩ = some (.int .u8 (s[j]'hj).toNat)) → wpList P ops Q rest (a.put o.dst (.slice (some ⟨W.heap.size, 0, none⟩) s.size c)) W1) :
    wpList P ops Q (o :: rest) a W := by
  refine wpList_plain hgd fun K hK => ?_
  unfold Oper.wp execOp
  simp only [ho, Sem.run_bind, hx, Lib.run_convert_string_bytes W src dst e s hs hd he, Result.andThen_ok, Sem.run_pure]
  refine hK _ _ (h _ _ ⟨rfl, rfl, rfl, ?_, fun k hk => Lib.bytesWorld_at_old W e s k hk⟩ ?_ fun j hj => ?_)
  · rw [Lib.bytesWorld_size]; omega
  · rw [Lib.bytesWorld_size]; omega
  · rw [Lib.bytesWorld_cell W e s j hj]
    have hj' : j < s.data.toList.length := by simpa using hj
    rw [List.getD_eq_getElem?_getD, List.getElem?_eq_getElem hj']
    rfl
end

theorem run_all (p : UInt8 → Bool) (l : Bytes) : ∀ (j : Nat) (hj : j < l.length), j < runLen p l → p l[j] = true := by
  induction l with
  | nil => intro j hj; simp at hj
  | cons c l ih =>
    intro j hj h
    by_cases hc : p c = true
    · cases j with
      | zero => exact hc
      | succ j => rw [runLen_yes hc] at h; exact ih j (by simpa using hj) (by omega)
    · rw [runLen_no hc] at h; omega
theorem dig_at (s : ByteArray) {N j : Nat} (hN : runLen isDigit s.data.toList = N) (hj : j < N) (hlt : j < s.size) : 48 ≤ s[j].toNat ∧ s[j].toNat ≤ 57 := by
  have h := run_all isDigit s.data.toList j (by simpa using hlt) (by omega)
  have e : s.data.toList[j]'(by simpa using hlt) = s[j] := by rw [Array.getElem_toList]; rfl
  rw [e] at h
  unfold isDigit at h
  simpa using h
/-- The value of the digits from j on, the value before being v. -/
def dvJ (s : ByteArray) (N j v : Nat) : Nat := dval v ((s.data.toList.take N).drop j)
theorem dvJ_step (s : ByteArray) {N j : Nat} (v : Nat) (hj : j < N) (hlt : j < s.size) : dvJ s N (j + 1) (dstep v s[j]) = dvJ s N j v := by
  unfold dvJ
  have hl : j < (s.data.toList.take N).length := by
    rw [List.length_take]
    have : s.data.toList.length = s.size := by simp
    omega
  rw [List.drop_eq_getElem_cons hl]
  have e : (s.data.toList.take N)[j] = s[j] := by rw [List.getElem_take, Array.getElem_toList]; rfl
  rw [e]
  simp only [dval]
theorem dvJ_end (s : ByteArray) (N v : Nat) : dvJ s N N v = v := by
  unfold dvJ
  rw [List.drop_of_length_le (by rw [List.length_take]; exact Nat.min_le_left _ _)]; rfl
theorem dvJ_zero (s : ByteArray) (N : Nat) (hN : runLen isDigit s.data.toList = N) : dvJ s N 0 0 = dvR 0 s.data.toList := by
  unfold dvJ
  rw [dvR_eq, hN, List.drop_zero]

/-! ### the units -/
theorem ix0 (w : World) : (Instr.index 123 (.agg unitsC) (.int .i64 0)).run Tryd.prog w = .ok (.agg #[.int .u8 115, .int .i64 1]) w := by kernel_rfl
theorem ix1 (w : World) : (Instr.index 123 (.agg unitsC) (.int .i64 1)).run Tryd.prog w = .ok (.agg #[.int .u8 109, .int .i64 60]) w := by kernel_rfl
theorem ix2 (w : World) : (Instr.index 123 (.agg unitsC) (.int .i64 2)).run Tryd.prog w = .ok (.agg #[.int .u8 104, .int .i64 3600]) w := by kernel_rfl
theorem ix3 (w : World) : (Instr.index 123 (.agg unitsC) (.int .i64 3)).run Tryd.prog w = .ok (.agg #[.int .u8 100, .int .i64 86400]) w := by kernel_rfl
/-- None of the first k units stands at index j. -/
def notU (s : ByteArray) (j k : Nat) : Prop := (0 < k → atI s j ≠ 115) ∧ (1 < k → atI s j ≠ 109) ∧ (2 < k → atI s j ≠ 104) ∧ (3 < k → atI s j ≠ 100)
theorem notU_zero (s : ByteArray) (j : Nat) : notU s j 0 := ⟨fun h => by omega, fun h => by omega, fun h => by omega, fun h => by omega⟩
theorem notU_four {s : ByteArray} {j : Nat} (h : notU s j 4) : unitI (atI s j) = (0 : Nat) := by
  obtain ⟨h1, h2, h3, h4⟩ := h
  unfold unitI
  rw [if_neg (h1 (by omega)), if_neg (h2 (by omega)), if_neg (h3 (by omega)), if_neg (h4 (by omega))]; rfl
theorem notU_0 {s : ByteArray} {j : Nat} (h : notU s j 0) (hc : atI s j ≠ 115) : notU s j 1 := by
  obtain ⟨h1, h2, h3, h4⟩ := h
  refine ⟨fun _ => ?_, fun _ => ?_, fun _ => ?_, fun _ => ?_⟩
  all_goals first | exact hc | exact h1 (by omega) | exact h2 (by omega) | exact h3 (by omega) | exact h4 (by omega) | omega
theorem unitU_0 {n : Int} (h : n = 115) : unitI n = (1 : Nat) := by subst h; rfl
theorem notU_1 {s : ByteArray} {j : Nat} (h : notU s j 1) (hc : atI s j ≠ 109) : notU s j 2 := by
  obtain ⟨h1, h2, h3, h4⟩ := h
  refine ⟨fun _ => ?_, fun _ => ?_, fun _ => ?_, fun _ => ?_⟩
  all_goals first | exact hc | exact h1 (by omega) | exact h2 (by omega) | exact h3 (by omega) | exact h4 (by omega) | omega
theorem unitU_1 {n : Int} (h : n = 109) : unitI n = (60 : Nat) := by subst h; rfl
theorem notU_2 {s : ByteArray} {j : Nat} (h : notU s j 2) (hc : atI s j ≠ 104) : notU s j 3 := by
  obtain ⟨h1, h2, h3, h4⟩ := h
  refine ⟨fun _ => ?_, fun _ => ?_, fun _ => ?_, fun _ => ?_⟩
  all_goals first | exact hc | exact h1 (by omega) | exact h2 (by omega) | exact h3 (by omega) | exact h4 (by omega) | omega
theorem unitU_2 {n : Int} (h : n = 104) : unitI n = (3600 : Nat) := by subst h; rfl
theorem notU_3 {s : ByteArray} {j : Nat} (h : notU s j 3) (hc : atI s j ≠ 100) : notU s j 4 := by
  obtain ⟨h1, h2, h3, h4⟩ := h
  refine ⟨fun _ => ?_, fun _ => ?_, fun _ => ?_, fun _ => ?_⟩
  all_goals first | exact hc | exact h1 (by omega) | exact h2 (by omega) | exact h3 (by omega) | exact h4 (by omega) | omega
theorem unitU_3 {n : Int} (h : n = 100) : unitI n = (86400 : Nat) := by subst h; rfl
theorem eAt_in (s : ByteArray) {k : Nat} (h : k < s.size) : eitI (s[k].toNat : Int) = (letI' (atI s k) || digI (atI s k)) := by rw [atI_in s h]; rfl
theorem eAt_in1 (s : ByteArray) {k : Nat} (h : k + 1 < s.size) : eitI (s[k + 1].toNat : Int) = (letI' (atI s ((k : Int) + 1)) || digI (atI s ((k : Int) + 1))) := by
  have := eAt_in s h
  push_cast at this
  exact this
theorem eAt_out (s : ByteArray) {k : Nat} (h : s.size ≤ k) : (letI' (atI s k) || digI (atI s k)) = false := by rw [atI_out s h]; rfl
theorem eAt_out1 (s : ByteArray) {k : Nat} (h : s.size ≤ k + 1) : (letI' (atI s ((k : Int) + 1)) || digI (atI s ((k : Int) + 1))) = false := by
  have := eAt_out s h
  push_cast at this
  exact this
theorem rnF_zero (s : ByteArray) : rnF s 0 = runLen isDigit s.data.toList := by unfold rnF; simp

set_option maxRecDepth 100000 in
set_option maxHeartbeats 8000000 in
theorem lex_number (s : ByteArray) (w : World) (hs : s.size ≤ 1000000) (hu : Units w) :
    Calls Tryd.prog 72 #[.string s] w fun e w' => e = .returned (.tuple #[.int .i64 (nmR s 0).1, .int .i64 (nmR s 0).2]) ∧ Below w.heap.size w w' := by
  have hr0 := runLen_drop_le isDigit s (Nat.zero_le _)
  rw [List.drop_zero, Nat.zero_add] at hr0
  generalize hN : runLen isDigit s.data.toList = N at hr0
  have HN := Lib.hid hN
  clear hN
  have hz : (s.extract 0 N).size = N := by rw [extract_strB, strB_size]; simp; exact Nat.min_eq_left hr0
  go_enter Tryd.func72, Tryd.ntmps72
  go_wp2_with (first | (go_at_call 67; refine (run_digit s _ hs).mono ?_; rintro e w' ⟨rfl, rfl⟩; rw [HN.out]) | (with_reducible refine wp_bytes rfl _ 9 96 5 rfl Tryd.underlying9 Tryd.underlying96 Tryd.underlying5 (s.extract 0 N) rfl ?_; intro c W1 hb1 hz1 hcell))
  have hcell2 : ∀ j (hj : j < s.size), j < N → W1.cell? ⟨w.heap.size, j, none⟩ = some (.int .u8 (s[j].toNat : Int)) := by
    intro j hj hN
    rw [hcell j (by omega)]
    have e : (s.extract 0 N)[j]'(by omega) = s[j] := by rw [ByteArray.getElem_extract]; congr 1; omega
    rw [e]
  have HC := Lib.hid hcell2
  have hu1 := hu.below hb1 hu.lt
  clear hcell hcell2
  go_loop [5, 17] (fun b a => ∃ j v : Nat, j ≤ N ∧ a = .int .i64 j ∧ b = .int .i64 v ∧ v ≤ 1099511627777 ∧ Hid (dvJ s N j v = dvR 0 s.data.toList)) (fun _ a => N - (intOf a).toNat)
  case atStart => exact ⟨0, 0, by omega, rfl, rfl, by omega, dvJ_zero s N HN.out⟩
  case round =>
    obtain ⟨j, v, hj, rfl, rfl, hv, H⟩ := hrel
    by_cases hjN : j < N
    · have hlt : j < s.size := by omega
      have hd := dig_at s HN.out hjN hlt
      have hc0 := HC.out j hlt hjN
      go_wp2
      go_round
      case rel => exact ⟨j + 1, dstep v s[j], by omega, by go_num, by rw [Int.ofNat_min_of v s[j].toNat hd.1, dstep_eq], dstep_le _ _, (dvJ_step s v hjN hlt).trans H.out⟩
      case measure => simp [intOf]; omega
    · obtain rfl : j = N := by omega
      have HV := Lib.hid ((dvJ_end s j v).symm.trans H.out)
      obtain ⟨t, fr, hg⟩ := hu1
      have HG := Lib.hid hg
      clear H HC hjN hg
      have K0 := Lib.hid (show j = rnF s 0 by rw [rnF_zero, HN.out])
      have V0 := Lib.hid (show v = dvR 0 (List.drop 0 s.data.toList) by rw [List.drop_zero]; exact HV.out)
      by_cases hz0 : 0 + 1 < j ∧ atI s ((0 : Nat) : Int) = 48
      · obtain ⟨hz1, hz2⟩ := hz0
        have hlt : 0 < s.size := by omega
        have HM := Lib.hid (nm_zero s K0.out hz1 hz2)
        rw [atI_in s hlt] at hz2
        have b48 := ib_yes hz2
        clear hz2
        go_wp2_with fail
        go_ret2
        exact ⟨by rw [HM.out]; rfl, hb1⟩
      · have HZ := Lib.hid hz0
        have hzz : j ≤ 1 ∨ (1 < j ∧ ((atI s ((0 : Nat) : Int)) == 48) = false) := by
          rcases Nat.lt_or_ge 1 j with h | h
          · exact .inr ⟨h, ib_no fun e => hz0 ⟨h, e⟩⟩
          · exact .inl h
        clear hz0
        rcases hzz with hz1 | ⟨hz1, hz2⟩
        · go_wp2_with (with_reducible refine wpList_load_row rfl 123 _ rfl 3 rfl t unitsC fr _ HG.out Tryd.underlying123 rfl (by kernel_rfl) ?_)
          have hbs := Lib.hid hb1
          go_loopw [4, 5, 37] (fun n b i wr => ∃ k : Nat, k ≤ 4 ∧ i = .int .i64 k ∧ n = .int .i64 j ∧ b = .int .i64 v ∧ Below w.heap.size w wr ∧ Hid (notU s j k)) (fun _ _ i _ => 4 - (intOf i).toNat)
          case atStart => exact ⟨0, by omega, rfl, rfl, rfl, hbs.out, notU_zero s j⟩
          case round =>
            obtain ⟨k, hk, rfl, rfl, rfl, hbr, HU⟩ := hrel
            have hbz := hbr.size
            rcases (show k = 0 ∨ k = 1 ∨ k = 2 ∨ k = 3 ∨ k = 4 by omega) with rfl | rfl | rfl | rfl | rfl
            · have ix := ix0
              by_cases hlt : j < s.size
              · by_cases hc : s[j].toNat = 115
                · have bc := ib_yes (show (s[j].toNat : Int) = 115 by omega)
                  have HN := Lib.hid (nm_unit1' s (i := 0) (u := 1) K0.out V0.out HZ.out (unitU_0 (by rw [atI_in s hlt]; omega)) (by decide))
                  clear hc
                  all_goals
                    by_cases hl2 : j + 1 < s.size
                    · by_cases he : eitI (s[j + 1].toNat : Int) = true
                      · have HE := Lib.hid (HN.out.trans (if_pos (by rw [← eAt_in1 s hl2]; exact he)))
                        go_wp2_with fail
                        go_quiet (fail)
                        go_wp2_with (go_at_call 99; refine (lex_either _ _).mono ?_; rintro e w' ⟨rfl, rfl⟩)
                        go_ret2
                        exact ⟨by rw [HE.out]; rfl, by (refine below_drewN ?_ _; go_grown)⟩
                      · have HE := Lib.hid (HN.out.trans (if_neg (by rw [← eAt_in1 s hl2]; exact he)))
                        go_wp2_with fail
                        go_quiet (fail)
                        go_wp2_with (go_at_call 99; refine (lex_either _ _).mono ?_; rintro e w' ⟨rfl, rfl⟩)
                        go_ret2
                        exact ⟨by rw [HE.out]; exact ret_pair (by push_cast; rfl) (by omega), by (refine below_drewN ?_ _; go_grown)⟩
                    · have HE := Lib.hid (HN.out.trans (if_neg (by rw [eAt_out1 s (by omega)]; decide)))
                      go_wp2_with fail
                      go_quiet (fail)
                      go_wp2_with (go_at_call 99; refine (lex_either _ _).mono ?_; rintro e w' ⟨rfl, rfl⟩)
                      go_ret2
                      exact ⟨by rw [HE.out]; exact ret_pair (by push_cast; rfl) (by omega), by (refine below_drewN ?_ _; go_grown)⟩
                · have bc := ib_no (show (s[j].toNat : Int) ≠ 115 by omega)
                  have HU2 := Lib.hid (notU_0 HU.out (by rw [atI_in s hlt]; omega))
                  clear hc
                  go_wp2_with fail
                  go_quiet (fail)
                  go_wp2_with fail
                  go_roundw
                  case rel => exact ⟨1, by omega, rfl, rfl, rfl, by (refine below_drewN ?_ _; go_grown), HU2.out⟩
                  case measure => simp [intOf]
              · have HU2 := Lib.hid (notU_0 HU.out (by rw [atI_out s (by omega)]; decide))
                have hd := decide_eq_false (show ¬ ((j : Int) < (s.size : Int)) by omega)
                go_wp2_with fail
                go_quiet (fail)
                go_wp2_with fail
                go_roundw
                case rel => exact ⟨1, by omega, rfl, rfl, rfl, by (refine below_drewN ?_ _; go_grown), HU2.out⟩
                case measure => simp [intOf]
            · have ix := ix1
              by_cases hlt : j < s.size
              · by_cases hc : s[j].toNat = 109
                · have bc := ib_yes (show (s[j].toNat : Int) = 109 by omega)
                  have HN := Lib.hid (nm_unit1' s (i := 0) (u := 60) K0.out V0.out HZ.out (unitU_1 (by rw [atI_in s hlt]; omega)) (by decide))
                  clear hc
                  by_cases hm : (1099511627777 : Int) < (v : Int) * 60
                  all_goals
                    by_cases hl2 : j + 1 < s.size
                    · by_cases he : eitI (s[j + 1].toNat : Int) = true
                      · have HE := Lib.hid (HN.out.trans (if_pos (by rw [← eAt_in1 s hl2]; exact he)))
                        go_wp2_with fail
                        go_quiet (fail)
                        go_wp2_with (go_at_call 99; refine (lex_either _ _).mono ?_; rintro e w' ⟨rfl, rfl⟩)
                        go_ret2
                        exact ⟨by rw [HE.out]; rfl, by (refine below_drewN ?_ _; go_grown)⟩
                      · have HE := Lib.hid (HN.out.trans (if_neg (by rw [← eAt_in1 s hl2]; exact he)))
                        go_wp2_with fail
                        go_quiet (fail)
                        go_wp2_with (go_at_call 99; refine (lex_either _ _).mono ?_; rintro e w' ⟨rfl, rfl⟩)
                        go_ret2
                        exact ⟨by rw [HE.out]; exact ret_pair (by push_cast; rfl) (by omega), by (refine below_drewN ?_ _; go_grown)⟩
                    · have HE := Lib.hid (HN.out.trans (if_neg (by rw [eAt_out1 s (by omega)]; decide)))
                      go_wp2_with fail
                      go_quiet (fail)
                      go_wp2_with (go_at_call 99; refine (lex_either _ _).mono ?_; rintro e w' ⟨rfl, rfl⟩)
                      go_ret2
                      exact ⟨by rw [HE.out]; exact ret_pair (by push_cast; rfl) (by omega), by (refine below_drewN ?_ _; go_grown)⟩
                · have bc := ib_no (show (s[j].toNat : Int) ≠ 109 by omega)
                  have HU2 := Lib.hid (notU_1 HU.out (by rw [atI_in s hlt]; omega))
                  clear hc
                  go_wp2_with fail
                  go_quiet (fail)
                  go_wp2_with fail
                  go_roundw
                  case rel => exact ⟨2, by omega, rfl, rfl, rfl, by (refine below_drewN ?_ _; go_grown), HU2.out⟩
                  case measure => simp [intOf]
              · have HU2 := Lib.hid (notU_1 HU.out (by rw [atI_out s (by omega)]; decide))
                have hd := decide_eq_false (show ¬ ((j : Int) < (s.size : Int)) by omega)
                go_wp2_with fail
                go_quiet (fail)
                go_wp2_with fail
                go_roundw
                case rel => exact ⟨2, by omega, rfl, rfl, rfl, by (refine below_drewN ?_ _; go_grown), HU2.out⟩
                case measure => simp [intOf]
            · have ix := ix2
              by_cases hlt : j < s.size
              · by_cases hc : s[j].toNat = 104
                · have bc := ib_yes (show (s[j].toNat : Int) = 104 by omega)
                  have HN := Lib.hid (nm_unit1' s (i := 0) (u := 3600) K0.out V0.out HZ.out (unitU_2 (by rw [atI_in s hlt]; omega)) (by decide))
                  clear hc
                  by_cases hm : (1099511627777 : Int) < (v : Int) * 3600
                  all_goals
                    by_cases hl2 : j + 1 < s.size
                    · by_cases he : eitI (s[j + 1].toNat : Int) = true
                      · have HE := Lib.hid (HN.out.trans (if_pos (by rw [← eAt_in1 s hl2]; exact he)))
                        go_wp2_with fail
                        go_quiet (fail)
                        go_wp2_with (go_at_call 99; refine (lex_either _ _).mono ?_; rintro e w' ⟨rfl, rfl⟩)
                        go_ret2
                        exact ⟨by rw [HE.out]; rfl, by (refine below_drewN ?_ _; go_grown)⟩
                      · have HE := Lib.hid (HN.out.trans (if_neg (by rw [← eAt_in1 s hl2]; exact he)))
                        go_wp2_with fail
                        go_quiet (fail)
                        go_wp2_with (go_at_call 99; refine (lex_either _ _).mono ?_; rintro e w' ⟨rfl, rfl⟩)
                        go_ret2
                        exact ⟨by rw [HE.out]; exact ret_pair (by push_cast; rfl) (by omega), by (refine below_drewN ?_ _; go_grown)⟩
                    · have HE := Lib.hid (HN.out.trans (if_neg (by rw [eAt_out1 s (by omega)]; decide)))
                      go_wp2_with fail
                      go_quiet (fail)
                      go_wp2_with (go_at_call 99; refine (lex_either _ _).mono ?_; rintro e w' ⟨rfl, rfl⟩)
                      go_ret2
                      exact ⟨by rw [HE.out]; exact ret_pair (by push_cast; rfl) (by omega), by (refine below_drewN ?_ _; go_grown)⟩
                · have bc := ib_no (show (s[j].toNat : Int) ≠ 104 by omega)
                  have HU2 := Lib.hid (notU_2 HU.out (by rw [atI_in s hlt]; omega))
                  clear hc
                  go_wp2_with fail
                  go_quiet (fail)
                  go_wp2_with fail
                  go_roundw
                  case rel => exact ⟨3, by omega, rfl, rfl, rfl, by (refine below_drewN ?_ _; go_grown), HU2.out⟩
                  case measure => simp [intOf]
              · have HU2 := Lib.hid (notU_2 HU.out (by rw [atI_out s (by omega)]; decide))
                have hd := decide_eq_false (show ¬ ((j : Int) < (s.size : Int)) by omega)
                go_wp2_with fail
                go_quiet (fail)
                go_wp2_with fail
                go_roundw
                case rel => exact ⟨3, by omega, rfl, rfl, rfl, by (refine below_drewN ?_ _; go_grown), HU2.out⟩
                case measure => simp [intOf]
            · have ix := ix3
              by_cases hlt : j < s.size
              · by_cases hc : s[j].toNat = 100
                · have bc := ib_yes (show (s[j].toNat : Int) = 100 by omega)
                  have HN := Lib.hid (nm_unit1' s (i := 0) (u := 86400) K0.out V0.out HZ.out (unitU_3 (by rw [atI_in s hlt]; omega)) (by decide))
                  clear hc
                  by_cases hm : (1099511627777 : Int) < (v : Int) * 86400
                  all_goals
                    by_cases hl2 : j + 1 < s.size
                    · by_cases he : eitI (s[j + 1].toNat : Int) = true
                      · have HE := Lib.hid (HN.out.trans (if_pos (by rw [← eAt_in1 s hl2]; exact he)))
                        go_wp2_with fail
                        go_quiet (fail)
                        go_wp2_with (go_at_call 99; refine (lex_either _ _).mono ?_; rintro e w' ⟨rfl, rfl⟩)
                        go_ret2
                        exact ⟨by rw [HE.out]; rfl, by (refine below_drewN ?_ _; go_grown)⟩
                      · have HE := Lib.hid (HN.out.trans (if_neg (by rw [← eAt_in1 s hl2]; exact he)))
                        go_wp2_with fail
                        go_quiet (fail)
                        go_wp2_with (go_at_call 99; refine (lex_either _ _).mono ?_; rintro e w' ⟨rfl, rfl⟩)
                        go_ret2
                        exact ⟨by rw [HE.out]; exact ret_pair (by push_cast; rfl) (by omega), by (refine below_drewN ?_ _; go_grown)⟩
                    · have HE := Lib.hid (HN.out.trans (if_neg (by rw [eAt_out1 s (by omega)]; decide)))
                      go_wp2_with fail
                      go_quiet (fail)
                      go_wp2_with (go_at_call 99; refine (lex_either _ _).mono ?_; rintro e w' ⟨rfl, rfl⟩)
                      go_ret2
                      exact ⟨by rw [HE.out]; exact ret_pair (by push_cast; rfl) (by omega), by (refine below_drewN ?_ _; go_grown)⟩
                · have bc := ib_no (show (s[j].toNat : Int) ≠ 100 by omega)
                  have HU2 := Lib.hid (notU_3 HU.out (by rw [atI_in s hlt]; omega))
                  clear hc
                  go_wp2_with fail
                  go_quiet (fail)
                  go_wp2_with fail
                  go_roundw
                  case rel => exact ⟨4, by omega, rfl, rfl, rfl, by (refine below_drewN ?_ _; go_grown), HU2.out⟩
                  case measure => simp [intOf]
              · have HU2 := Lib.hid (notU_3 HU.out (by rw [atI_out s (by omega)]; decide))
                have hd := decide_eq_false (show ¬ ((j : Int) < (s.size : Int)) by omega)
                go_wp2_with fail
                go_quiet (fail)
                go_wp2_with fail
                go_roundw
                case rel => exact ⟨4, by omega, rfl, rfl, rfl, by (refine below_drewN ?_ _; go_grown), HU2.out⟩
                case measure => simp [intOf]
            · have HN := Lib.hid (nm_unit0 s (i := 0) K0.out V0.out HZ.out (notU_four HU.out))
              by_cases hlt : j < s.size
              · by_cases he : eitI (s[j].toNat : Int) = true
                · have HE := Lib.hid (HN.out.trans (if_pos (by rw [← eAt_in s hlt]; exact he)))
                  go_wp2_with (go_at_call 99; refine (lex_either _ _).mono ?_; rintro e w' ⟨rfl, rfl⟩)
                  go_ret2
                  exact ⟨by rw [HE.out]; rfl, hbr⟩
                · have HE := Lib.hid (HN.out.trans (if_neg (by rw [← eAt_in s hlt]; exact he)))
                  go_wp2_with (go_at_call 99; refine (lex_either _ _).mono ?_; rintro e w' ⟨rfl, rfl⟩)
                  go_ret2
                  exact ⟨by rw [HE.out]; rfl, hbr⟩
              · have HE := Lib.hid (HN.out.trans (if_neg (by rw [eAt_out s (by omega)]; decide)))
                go_wp2_with fail
                go_ret2
                exact ⟨by rw [HE.out]; rfl, hbr⟩
        · have hlt0 : 0 < s.size := by omega
          rw [atI_in s hlt0] at hz2
          go_wp2_with (with_reducible refine wpList_load_row rfl 123 _ rfl 3 rfl t unitsC fr _ HG.out Tryd.underlying123 rfl (by kernel_rfl) ?_)
          have hbs := Lib.hid hb1
          go_loopw [4, 5, 37] (fun n b i wr => ∃ k : Nat, k ≤ 4 ∧ i = .int .i64 k ∧ n = .int .i64 j ∧ b = .int .i64 v ∧ Below w.heap.size w wr ∧ Hid (notU s j k)) (fun _ _ i _ => 4 - (intOf i).toNat)
          case atStart => exact ⟨0, by omega, rfl, rfl, rfl, hbs.out, notU_zero s j⟩
          case round =>
            obtain ⟨k, hk, rfl, rfl, rfl, hbr, HU⟩ := hrel
            have hbz := hbr.size
            rcases (show k = 0 ∨ k = 1 ∨ k = 2 ∨ k = 3 ∨ k = 4 by omega) with rfl | rfl | rfl | rfl | rfl
            · have ix := ix0
              by_cases hlt : j < s.size
              · by_cases hc : s[j].toNat = 115
                · have bc := ib_yes (show (s[j].toNat : Int) = 115 by omega)
                  have HN := Lib.hid (nm_unit1' s (i := 0) (u := 1) K0.out V0.out HZ.out (unitU_0 (by rw [atI_in s hlt]; omega)) (by decide))
                  clear hc
                  all_goals
                    by_cases hl2 : j + 1 < s.size
                    · by_cases he : eitI (s[j + 1].toNat : Int) = true
                      · have HE := Lib.hid (HN.out.trans (if_pos (by rw [← eAt_in1 s hl2]; exact he)))
                        go_wp2_with fail
                        go_quiet (fail)
                        go_wp2_with (go_at_call 99; refine (lex_either _ _).mono ?_; rintro e w' ⟨rfl, rfl⟩)
                        go_ret2
                        exact ⟨by rw [HE.out]; rfl, by (refine below_drewN ?_ _; go_grown)⟩
                      · have HE := Lib.hid (HN.out.trans (if_neg (by rw [← eAt_in1 s hl2]; exact he)))
                        go_wp2_with fail
                        go_quiet (fail)
                        go_wp2_with (go_at_call 99; refine (lex_either _ _).mono ?_; rintro e w' ⟨rfl, rfl⟩)
                        go_ret2
                        exact ⟨by rw [HE.out]; exact ret_pair (by push_cast; rfl) (by omega), by (refine below_drewN ?_ _; go_grown)⟩
                    · have HE := Lib.hid (HN.out.trans (if_neg (by rw [eAt_out1 s (by omega)]; decide)))
                      go_wp2_with fail
                      go_quiet (fail)
                      go_wp2_with (go_at_call 99; refine (lex_either _ _).mono ?_; rintro e w' ⟨rfl, rfl⟩)
                      go_ret2
                      exact ⟨by rw [HE.out]; exact ret_pair (by push_cast; rfl) (by omega), by (refine below_drewN ?_ _; go_grown)⟩
                · have bc := ib_no (show (s[j].toNat : Int) ≠ 115 by omega)
                  have HU2 := Lib.hid (notU_0 HU.out (by rw [atI_in s hlt]; omega))
                  clear hc
                  go_wp2_with fail
                  go_quiet (fail)
                  go_wp2_with fail
                  go_roundw
                  case rel => exact ⟨1, by omega, rfl, rfl, rfl, by (refine below_drewN ?_ _; go_grown), HU2.out⟩
                  case measure => simp [intOf]
              · have HU2 := Lib.hid (notU_0 HU.out (by rw [atI_out s (by omega)]; decide))
                have hd := decide_eq_false (show ¬ ((j : Int) < (s.size : Int)) by omega)
                go_wp2_with fail
                go_quiet (fail)
                go_wp2_with fail
                go_roundw
                case rel => exact ⟨1, by omega, rfl, rfl, rfl, by (refine below_drewN ?_ _; go_grown), HU2.out⟩
                case measure => simp [intOf]
            · have ix := ix1
              by_cases hlt : j < s.size
              · by_cases hc : s[j].toNat = 109
                · have bc := ib_yes (show (s[j].toNat : Int) = 109 by omega)
                  have HN := Lib.hid (nm_unit1' s (i := 0) (u := 60) K0.out V0.out HZ.out (unitU_1 (by rw [atI_in s hlt]; omega)) (by decide))
                  clear hc
                  by_cases hm : (1099511627777 : Int) < (v : Int) * 60
                  all_goals
                    by_cases hl2 : j + 1 < s.size
                    · by_cases he : eitI (s[j + 1].toNat : Int) = true
                      · have HE := Lib.hid (HN.out.trans (if_pos (by rw [← eAt_in1 s hl2]; exact he)))
                        go_wp2_with fail
                        go_quiet (fail)
                        go_wp2_with (go_at_call 99; refine (lex_either _ _).mono ?_; rintro e w' ⟨rfl, rfl⟩)
                        go_ret2
                        exact ⟨by rw [HE.out]; rfl, by (refine below_drewN ?_ _; go_grown)⟩
                      · have HE := Lib.hid (HN.out.trans (if_neg (by rw [← eAt_in1 s hl2]; exact he)))
                        go_wp2_with fail
                        go_quiet (fail)
                        go_wp2_with (go_at_call 99; refine (lex_either _ _).mono ?_; rintro e w' ⟨rfl, rfl⟩)
                        go_ret2
                        exact ⟨by rw [HE.out]; exact ret_pair (by push_cast; rfl) (by omega), by (refine below_drewN ?_ _; go_grown)⟩
                    · have HE := Lib.hid (HN.out.trans (if_neg (by rw [eAt_out1 s (by omega)]; decide)))
                      go_wp2_with fail
                      go_quiet (fail)
                      go_wp2_with (go_at_call 99; refine (lex_either _ _).mono ?_; rintro e w' ⟨rfl, rfl⟩)
                      go_ret2
                      exact ⟨by rw [HE.out]; exact ret_pair (by push_cast; rfl) (by omega), by (refine below_drewN ?_ _; go_grown)⟩
                · have bc := ib_no (show (s[j].toNat : Int) ≠ 109 by omega)
                  have HU2 := Lib.hid (notU_1 HU.out (by rw [atI_in s hlt]; omega))
                  clear hc
                  go_wp2_with fail
                  go_quiet (fail)
                  go_wp2_with fail
                  go_roundw
                  case rel => exact ⟨2, by omega, rfl, rfl, rfl, by (refine below_drewN ?_ _; go_grown), HU2.out⟩
                  case measure => simp [intOf]
              · have HU2 := Lib.hid (notU_1 HU.out (by rw [atI_out s (by omega)]; decide))
                have hd := decide_eq_false (show ¬ ((j : Int) < (s.size : Int)) by omega)
                go_wp2_with fail
                go_quiet (fail)
                go_wp2_with fail
                go_roundw
                case rel => exact ⟨2, by omega, rfl, rfl, rfl, by (refine below_drewN ?_ _; go_grown), HU2.out⟩
                case measure => simp [intOf]
            · have ix := ix2
              by_cases hlt : j < s.size
              · by_cases hc : s[j].toNat = 104
                · have bc := ib_yes (show (s[j].toNat : Int) = 104 by omega)
                  have HN := Lib.hid (nm_unit1' s (i := 0) (u := 3600) K0.out V0.out HZ.out (unitU_2 (by rw [atI_in s hlt]; omega)) (by decide))
                  clear hc
                  by_cases hm : (1099511627777 : Int) < (v : Int) * 3600
                  all_goals
                    by_cases hl2 : j + 1 < s.size
                    · by_cases he : eitI (s[j + 1].toNat : Int) = true
                      · have HE := Lib.hid (HN.out.trans (if_pos (by rw [← eAt_in1 s hl2]; exact he)))
                        go_wp2_with fail
                        go_quiet (fail)
                        go_wp2_with (go_at_call 99; refine (lex_either _ _).mono ?_; rintro e w' ⟨rfl, rfl⟩)
                        go_ret2
                        exact ⟨by rw [HE.out]; rfl, by (refine below_drewN ?_ _; go_grown)⟩
                      · have HE := Lib.hid (HN.out.trans (if_neg (by rw [← eAt_in1 s hl2]; exact he)))
                        go_wp2_with fail
                        go_quiet (fail)
                        go_wp2_with (go_at_call 99; refine (lex_either _ _).mono ?_; rintro e w' ⟨rfl, rfl⟩)
                        go_ret2
                        exact ⟨by rw [HE.out]; exact ret_pair (by push_cast; rfl) (by omega), by (refine below_drewN ?_ _; go_grown)⟩
                    · have HE := Lib.hid (HN.out.trans (if_neg (by rw [eAt_out1 s (by omega)]; decide)))
                      go_wp2_with fail
                      go_quiet (fail)
                      go_wp2_with (go_at_call 99; refine (lex_either _ _).mono ?_; rintro e w' ⟨rfl, rfl⟩)
                      go_ret2
                      exact ⟨by rw [HE.out]; exact ret_pair (by push_cast; rfl) (by omega), by (refine below_drewN ?_ _; go_grown)⟩
                · have bc := ib_no (show (s[j].toNat : Int) ≠ 104 by omega)
                  have HU2 := Lib.hid (notU_2 HU.out (by rw [atI_in s hlt]; omega))
                  clear hc
                  go_wp2_with fail
                  go_quiet (fail)
                  go_wp2_with fail
                  go_roundw
                  case rel => exact ⟨3, by omega, rfl, rfl, rfl, by (refine below_drewN ?_ _; go_grown), HU2.out⟩
                  case measure => simp [intOf]
              · have HU2 := Lib.hid (notU_2 HU.out (by rw [atI_out s (by omega)]; decide))
                have hd := decide_eq_false (show ¬ ((j : Int) < (s.size : Int)) by omega)
                go_wp2_with fail
                go_quiet (fail)
                go_wp2_with fail
                go_roundw
                case rel => exact ⟨3, by omega, rfl, rfl, rfl, by (refine below_drewN ?_ _; go_grown), HU2.out⟩
                case measure => simp [intOf]
            · have ix := ix3
              by_cases hlt : j < s.size
              · by_cases hc : s[j].toNat = 100
                · have bc := ib_yes (show (s[j].toNat : Int) = 100 by omega)
                  have HN := Lib.hid (nm_unit1' s (i := 0) (u := 86400) K0.out V0.out HZ.out (unitU_3 (by rw [atI_in s hlt]; omega)) (by decide))
                  clear hc
                  by_cases hm : (1099511627777 : Int) < (v : Int) * 86400
                  all_goals
                    by_cases hl2 : j + 1 < s.size
                    · by_cases he : eitI (s[j + 1].toNat : Int) = true
                      · have HE := Lib.hid (HN.out.trans (if_pos (by rw [← eAt_in1 s hl2]; exact he)))
                        go_wp2_with fail
                        go_quiet (fail)
                        go_wp2_with (go_at_call 99; refine (lex_either _ _).mono ?_; rintro e w' ⟨rfl, rfl⟩)
                        go_ret2
                        exact ⟨by rw [HE.out]; rfl, by (refine below_drewN ?_ _; go_grown)⟩
                      · have HE := Lib.hid (HN.out.trans (if_neg (by rw [← eAt_in1 s hl2]; exact he)))
                        go_wp2_with fail
                        go_quiet (fail)
                        go_wp2_with (go_at_call 99; refine (lex_either _ _).mono ?_; rintro e w' ⟨rfl, rfl⟩)
                        go_ret2
                        exact ⟨by rw [HE.out]; exact ret_pair (by push_cast; rfl) (by omega), by (refine below_drewN ?_ _; go_grown)⟩
                    · have HE := Lib.hid (HN.out.trans (if_neg (by rw [eAt_out1 s (by omega)]; decide)))
                      go_wp2_with fail
                      go_quiet (fail)
                      go_wp2_with (go_at_call 99; refine (lex_either _ _).mono ?_; rintro e w' ⟨rfl, rfl⟩)
                      go_ret2
                      exact ⟨by rw [HE.out]; exact ret_pair (by push_cast; rfl) (by omega), by (refine below_drewN ?_ _; go_grown)⟩
                · have bc := ib_no (show (s[j].toNat : Int) ≠ 100 by omega)
                  have HU2 := Lib.hid (notU_3 HU.out (by rw [atI_in s hlt]; omega))
                  clear hc
                  go_wp2_with fail
                  go_quiet (fail)
                  go_wp2_with fail
                  go_roundw
                  case rel => exact ⟨4, by omega, rfl, rfl, rfl, by (refine below_drewN ?_ _; go_grown), HU2.out⟩
                  case measure => simp [intOf]
              · have HU2 := Lib.hid (notU_3 HU.out (by rw [atI_out s (by omega)]; decide))
                have hd := decide_eq_false (show ¬ ((j : Int) < (s.size : Int)) by omega)
                go_wp2_with fail
                go_quiet (fail)
                go_wp2_with fail
                go_roundw
                case rel => exact ⟨4, by omega, rfl, rfl, rfl, by (refine below_drewN ?_ _; go_grown), HU2.out⟩
                case measure => simp [intOf]
            · have HN := Lib.hid (nm_unit0 s (i := 0) K0.out V0.out HZ.out (notU_four HU.out))
              by_cases hlt : j < s.size
              · by_cases he : eitI (s[j].toNat : Int) = true
                · have HE := Lib.hid (HN.out.trans (if_pos (by rw [← eAt_in s hlt]; exact he)))
                  go_wp2_with (go_at_call 99; refine (lex_either _ _).mono ?_; rintro e w' ⟨rfl, rfl⟩)
                  go_ret2
                  exact ⟨by rw [HE.out]; rfl, hbr⟩
                · have HE := Lib.hid (HN.out.trans (if_neg (by rw [← eAt_in s hlt]; exact he)))
                  go_wp2_with (go_at_call 99; refine (lex_either _ _).mono ?_; rintro e w' ⟨rfl, rfl⟩)
                  go_ret2
                  exact ⟨by rw [HE.out]; rfl, hbr⟩
              · have HE := Lib.hid (HN.out.trans (if_neg (by rw [eAt_out s (by omega)]; decide)))
                go_wp2_with fail
                go_ret2
                exact ⟨by rw [HE.out]; rfl, hbr⟩

end Go.Proofs.YtecldgjdmomilaaDoor
