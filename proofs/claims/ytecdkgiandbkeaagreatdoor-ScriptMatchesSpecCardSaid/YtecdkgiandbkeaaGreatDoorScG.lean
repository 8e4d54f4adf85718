/-
  Scripts: the script package's Check.
-/
import Derived.Test.YtecdkgiandbkeaaGreatDoorScF
namespace Go.Proofs.YtecdkgiandbkeaaGreatDoor
open Go.RowKit ScSpec Go.Sort

theorem any_map_id {α : Type} (l : List α) (p : α → Bool) : (l.map p).any id = l.any p := by
  induction l with
  | nil => rfl
  | cons x l ih => simp [List.map_cons, List.any_cons]
theorem texts_long (v : Value) (ts : List Bytes) (hm : ts.length ≤ 1000000000) (w : World) (hr : RowV w v (strVs ts)) :
    Calls Tryz.prog 59 #[v, .func (.func 55) #[] #[]] w fun e w' => e = .returned (.bool (ts.any fun t => decide (4000 < t.length))) ∧ Below w.heap.size w w' := by
  have h := contains_long v (strVs ts) (ts.map fun t => decide (4000 < t.length)) (by simp [strVs]) (by rw [strVs_length]; exact hm) w hr ?_ ?_
  · rw [any_map_id] at h
    exact h
  · intro W hb i h h'
    simp only [strVs, List.getElem_map]
    exact (sc_long1 _ W).mono fun e w' ⟨h1, h2⟩ => ⟨h1, by rw [h2]; exact Below.refl _ _⟩
  · intro i h
    simp only [strVs, List.getElem_map]
    exact .inr ⟨_, rfl⟩
theorem texts_odd (v : Value) (ts : List Bytes) (hm : ts.length ≤ 1000000000) (w : World) (hr : RowV w v (strVs ts)) :
    Calls Tryz.prog 59 #[v, .func (.func 56) #[] #[]] w fun e w' => e = .returned (.bool (ts.any fun t => t.any oddC)) ∧ Below w.heap.size w w' := by
  have h := contains_odd v (strVs ts) (ts.map fun t => t.any oddC) (by simp [strVs]) (by rw [strVs_length]; exact hm) w hr ?_ ?_
  · rw [any_map_id] at h
    exact h
  · intro W hb i h h'
    simp only [strVs, List.getElem_map]
    exact sc_odd2 _ W
  · intro i h
    simp only [strVs, List.getElem_map]
    exact .inr ⟨_, rfl⟩

/-- The steps of a script are small enough to be read. -/
def Small (s : Scr) : Prop := ∀ x ∈ s.steps, x.args.length ≤ 1000000000 ∧ x.text.length ≤ 281474976710656
theorem check_many {s : Scr} (h : 8 < s.texts.length ∨ 400 < s.steps.length ∨ s.texts.any (fun t => decide (4000 < t.length)) = true) : check s = (-1, 2) := by unfold check; rw [if_pos h]
theorem check_odd {s : Scr} (h : ¬ (8 < s.texts.length ∨ 400 < s.steps.length ∨ s.texts.any (fun t => decide (4000 < t.length)) = true)) (h2 : s.texts.any (fun t => t.any oddC) = true) : check s = (-1, 1) := by
  unfold check; rw [if_neg h, if_pos h2]
theorem check_steps {s : Scr} (h : ¬ (8 < s.texts.length ∨ 400 < s.steps.length ∨ s.texts.any (fun t => decide (4000 < t.length)) = true)) (h2 : s.texts.any (fun t => t.any oddC) = false) : check s = firstBad 0 s.steps := by
  unfold check; rw [if_neg h, if_neg (by rw [h2]; simp)]
theorem ret_ints {a b a' b' : Int} (h : a = a') (h2 : b = b') : Ending.returned (.tuple #[.int .i64 a, .int .i64 b]) = Ending.returned (.tuple #[.int .i64 a', .int .i64 b']) := by rw [h, h2]
theorem steps_get {w : World} {v : Value} {xs : List Stp} (h : StepsV w v xs) {k : Nat} (hk : k < xs.length) : ∃ g o c a, v = .slice (some ⟨g, o, none⟩) xs.length c ∧ g < w.heap.size ∧
    w.cell? ⟨g, o + k * 3, none⟩ = some (.int .i64 xs[k].kind) ∧ w.cell? ⟨g, o + k * 3 + 1, none⟩ = some a ∧ w.cell? ⟨g, o + k * 3 + 2, none⟩ = some (.string (strB xs[k].text)) ∧ RowV w a (intVs xs[k].args) := by
  obtain ⟨A, c, rfl, _, h⟩ := h
  obtain ⟨g, o, rfl, hg, hc⟩ := h (by omega)
  obtain ⟨a, h1, h2, h3, h4⟩ := hc k hk
  exact ⟨g, o, c, a, rfl, hg, h1, h2, h3, h4⟩

set_option maxHeartbeats 2000000 in
set_option maxRecDepth 20000 in
theorem sc_check (v : Value) (s : Scr) (hsm : Small s) (w : World) (hL : Laid w) (hr : ScrV w v s) :
    Calls Tryz.prog 23 #[v] w fun e w' => e = .returned (.tuple #[.int .i64 (check s).1, .int .i64 (check s).2]) ∧ Below w.heap.size w w' := by
  obtain ⟨va, vb, rfl, hT, hS⟩ := hr
  have hT0 := hT
  have hS0 := hS
  obtain ⟨A, c, rfl, hcap, hA⟩ := hT0
  obtain ⟨B, d, rfl, hcap2, hB⟩ := hS0
  clear hA hB
  have hil := strVs_length s.texts
  rw [hil] at hT ⊢
  by_cases h8 : 8 < s.texts.length
  · have HK := Lib.hid (check_many (.inl h8))
    go_enter Tryz.func23, Tryz.ntmps23
    go_wp2_with fail
    go_ret2
    exact ⟨ret_ints (by rw [HK.out]) (by rw [HK.out]), by go_grown⟩
  by_cases h4 : 400 < s.steps.length
  · have HK := Lib.hid (check_many (.inr (.inl h4)))
    go_enter Tryz.func23, Tryz.ntmps23
    go_wp2_with fail
    go_ret2
    exact ⟨ret_ints (by rw [HK.out]) (by rw [HK.out]), by go_grown⟩
  have hbox : Below w.heap.size w (w.alloc (.cells #[.slice A s.texts.length c, .slice B s.steps.length d] 26)) := (Below.refl _ w).alloc (Nat.le_refl _) _
  have hbz : (w.alloc (.cells #[.slice A s.texts.length c, .slice B s.steps.length d] 26)).heap.size = w.heap.size + 1 := by simp
  have H1 := Lib.hid (texts_long _ s.texts (by omega) _ (hT.below hbox))
  have k0 : ∀ w2, Below (w.alloc (.cells #[.slice A s.texts.length c, .slice B s.steps.length d] 26)).heap.size (w.alloc (.cells #[.slice A s.texts.length c, .slice B s.steps.length d] 26)) w2 →
      w2.cell? ⟨w.heap.size, 0, none⟩ = some (.slice A s.texts.length c) ∧ w2.cell? ⟨w.heap.size, 1, none⟩ = some (.slice B s.steps.length d) := fun w2 hb =>
    ⟨(hb.cell (p := ⟨w.heap.size, 0, none⟩) (show w.heap.size < _ by omega)).trans (by simp), (hb.cell (p := ⟨w.heap.size, 1, none⟩) (show w.heap.size < _ by omega)).trans (by simp)⟩
  have hK0 : ∀ b, s.texts.any (fun t => decide (4000 < t.length)) = b → b = false → ¬ (8 < s.texts.length ∨ 400 < s.steps.length ∨ s.texts.any (fun t => decide (4000 < t.length)) = true) := by
    rintro b hb rfl (h | h | h)
    · exact h8 h
    · exact h4 h
    · rw [hb] at h; cases h
  have HK0 := Lib.hid hK0
  clear hK0
  go_enter Tryz.func23, Tryz.ntmps23
  go_wp2_with fail
  refine H1.out.mono ?_
  rintro e w1 ⟨rfl, hb1⟩
  have hb01 := below_box hb1
  have hz1 := hb1.size
  obtain ⟨x0, x1⟩ := k0 w1 hb1
  cases hlg : s.texts.any (fun t => decide (4000 < t.length)) with
  | true =>
    have HK := Lib.hid (check_many (.inr (.inr hlg)))
    clear hlg
    go_wp2_with fail
    go_ret2
    exact ⟨ret_ints (by rw [HK.out]) (by rw [HK.out]), hb01⟩
  | false =>
    have HN := Lib.hid (HK0.out _ hlg rfl)
    clear hlg
    have H2 := Lib.hid (texts_odd _ s.texts (by omega) w1 (hT.below hb01))
    go_wp2_with fail
    refine H2.out.mono ?_
    rintro e w2 ⟨rfl, hb2⟩
    have hz2 := hb2.size
    have hb02 := below_to hb01 (by omega) hb2
    obtain ⟨y0, y1⟩ := k0 w2 (below_to hb1 hz1 hb2)
    clear k0
    cases hod : s.texts.any (fun t => t.any oddC) with
    | true =>
      have HK := Lib.hid (check_odd HN.out hod)
      clear hod
      go_wp2_with fail
      go_ret2
      exact ⟨ret_ints (by rw [HK.out]) (by rw [HK.out]), hb02⟩
    | false =>
      have HK := Lib.hid (check_steps HN.out hod)
      clear hod
      have hS2 := Lib.hid (hS.below hb02)
      have HSM := Lib.hid hsm
      clear hsm hS
      go_wp2_with fail
      go_loopw [33] (fun i wr => ∃ k : Nat, k ≤ s.steps.length ∧ i = .int .i64 k ∧ Below w2.heap.size w2 wr ∧ Hid (firstBad k (s.steps.drop k) = firstBad 0 s.steps)) (fun i _ => s.steps.length - (intOf i).toNat)
      case atStart => exact ⟨0, by omega, rfl, Below.refl _ _, rfl⟩
      case round =>
        obtain ⟨k, hk, rfl, hbr, H⟩ := hrel
        have hzr := hbr.size
        have hb0r := below_to hb02 (by omega) hbr
        by_cases hlt : k < s.steps.length
        · obtain ⟨g, o, c', a, hv, hg, c0, c1, c2, hra⟩ := steps_get (hS2.out.below hbr) hlt
          obtain ⟨rfl, rfl⟩ : B = some ⟨g, o, none⟩ ∧ d = c' := by injection hv with h1 h2 h3; exact ⟨h1, h3⟩
          have hxm := HSM.out s.steps[k] (List.getElem_mem _)
          have hst : Hid (firstBad k (s.steps.drop k) = if isStep s.steps[k] then firstBad (k + 1) (s.steps.drop (k + 1)) else ((k : Int), 1)) := by
            show firstBad k (s.steps.drop k) = _
            rw [List.drop_eq_getElem_cons hlt]; rfl
          generalize hx : s.steps[k] = x at c0 c1 c2 hra hxm hst
          have hob : Below wr.heap.size wr (wr.alloc (.cells #[.int .i64 x.kind, a, .string (strB x.text)] 54)) := (Below.refl _ wr).alloc (Nat.le_refl _) _
          have HI := Lib.hid (sc_isStep (.agg #[.int .i64 x.kind, a, .string (strB x.text)]) x hxm.1 hxm.2 _ ((hL.below hb0r).below hob) ⟨a, rfl, hra.below hob⟩)
          clear hx
          obtain ⟨A2, n2, rfl, hcap3, _⟩ := hra
          cases hb : isStep x with
          | true =>
            rw [hb] at HI hst
            have H2 : Hid (firstBad (k + 1) (s.steps.drop (k + 1)) = firstBad 0 s.steps) := by
              rw [← H.out, hst.out, if_pos rfl]; rfl
            clear hst
            go_wp2_with fail
            refine HI.out.mono ?_
            rintro e w3 ⟨rfl, hb3⟩
            have hz3 := hb3.size
            have hbr3 := below_to hbr hzr (below_box hb3)
            go_wp2_with fail
            go_roundw
            case rel => exact ⟨k + 1, by omega, by push_cast; rfl, hbr3, H2⟩
            case measure => simp [intOf]; omega
          | false =>
            rw [hb] at HI hst
            have H2 : Hid (firstBad 0 s.steps = ((k : Int), 1)) := by
              rw [← H.out, hst.out, if_neg (by simp)]; rfl
            clear hst
            go_wp2_with fail
            refine HI.out.mono ?_
            rintro e w3 ⟨rfl, hb3⟩
            have hz3 := hb3.size
            have hbr3 := below_to hb0r (by omega) (below_box hb3)
            go_wp2_with fail
            go_ret2
            exact ⟨ret_ints (by rw [HK.out, H2.out]) (by rw [HK.out, H2.out]), hbr3⟩
        · obtain rfl : k = s.steps.length := by omega
          have H2 : Hid (firstBad 0 s.steps = (0, 0)) := by
            rw [← H.out, List.drop_length]; rfl
          go_wp2_with fail
          go_ret2
          exact ⟨ret_ints (by rw [HK.out, H2.out]) (by rw [HK.out, H2.out]), hb0r⟩
end Go.Proofs.YtecdkgiandbkeaaGreatDoor
