/-
  Scripts that are short enough, and those that are too long to be checked.
-/
import Derived.Test.YtecdkgiandbkeaaGreatDoorScU
namespace Go.Proofs.YtecdkgiandbkeaaGreatDoor
open Go.RowKit ScSpec Go.Sort

/-- What a reading of a script from outside gives: no part is longer than memory. -/
structure Fits (s : Scr) : Prop where
  texts : s.texts.length ≤ 140737488355328
  text : ∀ t ∈ s.texts, t.length ≤ 140737488355328
  steps : s.steps.length ≤ 140737488355328
  step : ∀ x ∈ s.steps, x.args.length ≤ 140737488355328 ∧ x.text.length ≤ 140737488355328
def Many (s : Scr) : Prop := 8 < s.texts.length ∨ 400 < s.steps.length
def sumT (l : List Bytes) : Nat := (l.map fun t => t.length / 20).sum
def sumS (l : List Stp) : Nat := (l.map fun x => x.args.length + x.text.length / 20).sum
def fewN (s : Scr) : Nat := s.texts.length + s.steps.length + sumT s.texts + sumS s.steps
theorem sum_take_snoc {α : Type} (f : α → Nat) (l : List α) (k : Nat) (h : k < l.length) : ((l.take (k + 1)).map f).sum = ((l.take k).map f).sum + f l[k] := by
  rw [List.take_succ_eq_append_getElem h, List.map_append, List.sum_append]; rfl
theorem sumT_snoc (l : List Bytes) (k : Nat) (h : k < l.length) : sumT (l.take (k + 1)) = sumT (l.take k) + l[k].length / 20 := by
  exact sum_take_snoc _ l k h
theorem sumS_snoc (l : List Stp) (k : Nat) (h : k < l.length) : sumS (l.take (k + 1)) = sumS (l.take k) + (l[k].args.length + l[k].text.length / 20) := by
  exact sum_take_snoc _ l k h
theorem sumT_le (l : List Bytes) (h : ∀ t ∈ l, t.length ≤ 140737488355328) : sumT l ≤ l.length * 140737488355328 := by
  induction l with
  | nil => simp [sumT]
  | cons t l ih =>
    have h1 := h t (by simp)
    have h2 := ih fun y hy => h y (by simp [hy])
    simp only [sumT, List.map_cons, List.sum_cons, List.length_cons] at h2 ⊢
    omega
theorem sumS_le (l : List Stp) (h : ∀ x ∈ l, x.args.length ≤ 140737488355328 ∧ x.text.length ≤ 140737488355328) : sumS l ≤ l.length * 281474976710656 := by
  induction l with
  | nil => simp [sumS]
  | cons t l ih =>
    have h1 := h t (by simp)
    have h2 := ih fun y hy => h y (by simp [hy])
    simp only [sumS, List.map_cons, List.sum_cons, List.length_cons] at h2 ⊢
    omega
theorem sumT_mem {l : List Bytes} {t : Bytes} (h : t ∈ l) : t.length / 20 ≤ sumT l := by
  induction l with
  | nil => cases h
  | cons y l ih =>
    simp only [sumT, List.map_cons, List.sum_cons] at ih ⊢
    rcases List.mem_cons.1 h with rfl | h
    · omega
    · have := ih h; omega
theorem sumS_mem {l : List Stp} {x : Stp} (h : x ∈ l) : x.args.length + x.text.length / 20 ≤ sumS l := by
  induction l with
  | nil => cases h
  | cons y l ih =>
    simp only [sumS, List.map_cons, List.sum_cons] at ih ⊢
    rcases List.mem_cons.1 h with rfl | h
    · omega
    · have := ih h; omega
theorem few_small {s : Scr} (h : fewN s ≤ 3000) : Small s := by
  intro x hx
  have := sumS_mem hx
  unfold fewN at h
  exact ⟨by omega, by omega⟩

set_option maxHeartbeats 4000000 in
set_option maxRecDepth 100000 in
theorem law_few_any (va : Value) (s : Scr) (w : World) (hf : Fits s) (hr : ScrV w va s) : Calls Tryz.prog 18 #[va] w fun e w' => ∃ b, e = .returned (.bool b) ∧ Below w.heap.size w w' := by
  obtain ⟨ta, sa, rfl, hta, hsa⟩ := hr
  obtain ⟨A, c, rfl⟩ := strs_slice hta
  obtain ⟨B, d, rfl⟩ := steps_slice hsa
  have hob : Below w.heap.size w (w.alloc (.cells #[.slice A s.texts.length c, .slice B s.steps.length d] 26)) := (Below.refl _ w).alloc (Nat.le_refl _) _
  have HT := Lib.hid (hta.below hob)
  have HS := Lib.hid (hsa.below hob)
  have HX := Lib.hid (Box.made w 26 #[.slice A s.texts.length c, .slice B s.steps.length d])
  have HF := Lib.hid hf
  have h1 := hf.texts
  have h2 := hf.steps
  clear hta hsa hf
  go_enter Tryz.func18, Tryz.ntmps18
  go_upto_region 2 with fail
  generalize w.alloc (.cells #[.slice A s.texts.length c, .slice B s.steps.length d] 26) = W at hob HT HS HX ⊢
  have y0 := HX.out.look 0
  have hgW := HX.out.lt
  go_wp2_with fail
  go_loopw [3, 18] (fun n i wr => ∃ (k : Nat) (m : Int), k ≤ s.texts.length ∧ i = .int .i64 k ∧ n = .int .i64 m ∧ wr = W) (fun _ i _ => s.texts.length - (intOf i).toNat)
  case atStart => exact ⟨0, _, by omega, rfl, rfl, rfl⟩
  case round =>
    obtain ⟨k, m, hk, rfl, rfl, hw⟩ := hrel
    have hw' := hw.symm
    subst hw'
    by_cases hlt : k < s.texts.length
    · obtain ⟨g, o, c', hvv, hg, c0⟩ := texts_get HT.out hlt
      obtain rfl : A = some ⟨g, o, none⟩ := by injection hvv
      have htl := HF.out.text s.texts[k] (List.getElem_mem _)
      have hz := strB_size s.texts[k]
      generalize s.texts[k] = t at c0 htl hz
      generalize strB t = q at c0 hz
      have hq : q.size ≤ 140737488355328 := by omega
      clear hvv hz htl
      go_wp2_with fail
      go_roundw
      case rel => exact ⟨k + 1, _, by omega, by push_cast; rfl, rfl, trivial⟩
      case measure => simp [intOf]; omega
    · obtain rfl : k = s.texts.length := by omega
      have y1 := HX.out.look 1
      go_wp2_with fail
      go_loopw [3, 31] (fun n i wr => ∃ (k : Nat) (m : Int), k ≤ s.steps.length ∧ i = .int .i64 k ∧ n = .int .i64 m ∧ Below W.heap.size W wr) (fun _ i _ => s.steps.length - (intOf i).toNat)
      case atStart => exact ⟨0, _, by omega, rfl, rfl, Below.refl _ _⟩
      case round =>
        obtain ⟨j, m2, hj, rfl, rfl, hbr⟩ := hrel
        have hzr := hbr.size
        by_cases hlj : j < s.steps.length
        · obtain ⟨g, o, c', a, hvv, hg, c0, c1, c2, hra⟩ := steps_get (HS.out.below hbr) hlj
          obtain rfl : B = some ⟨g, o, none⟩ := by injection hvv
          have hxl := HF.out.step s.steps[j] (List.getElem_mem _)
          generalize s.steps[j] = x at c0 c1 c2 hra hxl
          obtain ⟨Ax, cx, rfl⟩ := rowV_slice hra
          have hz := strB_size x.text
          generalize strB x.text = q at c2 hz
          have hq : q.size ≤ 140737488355328 := by omega
          have hal := hxl.1
          have hb2 : Below W.heap.size W (wr.alloc (.cells #[.int .i64 x.kind, .slice Ax x.args.length cx, .string q] 54)) := hbr.alloc hzr _
          clear hvv hz hxl hra
          go_wp2_with fail
          go_roundw
          case rel => exact ⟨j + 1, _, by omega, by push_cast; rfl, rfl, hb2⟩
          case measure => simp [intOf]; omega
        · go_wp2_with fail
          go_ret
          exact ⟨_, rfl, below_to hob hob.size hbr⟩
set_option maxHeartbeats 4000000 in
set_option maxRecDepth 100000 in
theorem law_few (va : Value) (s : Scr) (w : World) (hf : Fits s) (hm : ¬ Many s) (hr : ScrV w va s) : Calls Tryz.prog 18 #[va] w fun e w' => e = .returned (.bool (decide (fewN s ≤ 3000))) ∧ Below w.heap.size w w' := by
  have hm1 : s.texts.length ≤ 8 := by unfold Many at hm; omega
  have hm2 : s.steps.length ≤ 400 := by unfold Many at hm; omega
  obtain ⟨ta, sa, rfl, hta, hsa⟩ := hr
  obtain ⟨A, c, rfl⟩ := strs_slice hta
  obtain ⟨B, d, rfl⟩ := steps_slice hsa
  have hob : Below w.heap.size w (w.alloc (.cells #[.slice A s.texts.length c, .slice B s.steps.length d] 26)) := (Below.refl _ w).alloc (Nat.le_refl _) _
  have HT := Lib.hid (hta.below hob)
  have HS := Lib.hid (hsa.below hob)
  have HX := Lib.hid (Box.made w 26 #[.slice A s.texts.length c, .slice B s.steps.length d])
  have HF := Lib.hid hf
  have hbT : ∀ k, sumT (s.texts.take k) ≤ 1200000000000000 := fun k => by
    have := sumT_le (s.texts.take k) (fun t ht => hf.text t (List.mem_of_mem_take ht))
    have h3 : (s.texts.take k).length * 140737488355328 ≤ 8 * 140737488355328 := Nat.mul_le_mul_right _ (by rw [List.length_take]; omega)
    omega
  have hbS : ∀ k, sumS (s.steps.take k) ≤ 120000000000000000 := fun k => by
    have := sumS_le (s.steps.take k) (fun t ht => hf.step t (List.mem_of_mem_take ht))
    have h3 : (s.steps.take k).length * 281474976710656 ≤ 400 * 281474976710656 := Nat.mul_le_mul_right _ (by rw [List.length_take]; omega)
    omega
  have HBT := Lib.hid hbT
  have HBS := Lib.hid hbS
  clear hta hsa hf hm hbT hbS
  go_enter Tryz.func18, Tryz.ntmps18
  go_upto_region 2 with fail
  generalize w.alloc (.cells #[.slice A s.texts.length c, .slice B s.steps.length d] 26) = W at hob HT HS HX ⊢
  have y0 := HX.out.look 0
  go_wp2_with fail
  go_loopw [3, 18] (fun n i wr => ∃ (k : Nat), k ≤ s.texts.length ∧ i = .int .i64 k ∧ n = .int .i64 ((s.texts.length : Int) + s.steps.length + sumT (s.texts.take k)) ∧ wr = W) (fun _ i _ => s.texts.length - (intOf i).toNat)
  case atStart => exact ⟨0, by omega, rfl, by simp [sumT], rfl⟩
  case round =>
    obtain ⟨k, hk, rfl, rfl, hw⟩ := hrel
    have hw' := hw.symm
    subst hw'
    by_cases hlt : k < s.texts.length
    · obtain ⟨g, o, c', hvv, hg, c0⟩ := texts_get HT.out hlt
      obtain rfl : A = some ⟨g, o, none⟩ := by injection hvv
      have htl := HF.out.text s.texts[k] (List.getElem_mem _)
      have HSN := Lib.hid (sumT_snoc s.texts k hlt)
      have hb := HBT.out k
      have hz := strB_size s.texts[k]
      generalize s.texts[k] = t at c0 htl hz HSN
      generalize sumT (s.texts.take k) = m at hb HSN ⊢
      generalize strB t = q at c0 hz
      have HZ := Lib.hid hz
      have hq : q.size ≤ 140737488355328 := by omega
      clear hvv hz htl
      go_wp2_with fail
      go_roundw
      case rel => exact ⟨k + 1, by omega, by push_cast; rfl, by rw [HSN.out, HZ.out]; congr 1; push_cast; omega, trivial⟩
      case measure => simp [intOf]; omega
    · obtain rfl : k = s.texts.length := by omega
      have y1 := HX.out.look 1
      have hb := HBT.out s.texts.length
      rw [List.take_length] at hb
      have HTK : Hid (s.texts.take s.texts.length = s.texts) := List.take_length
      rw [HTK.out]
      obtain ⟨M, hM⟩ : ∃ M, sumT s.texts = M := ⟨_, rfl⟩
      have HMM := Lib.hid hM
      rw [hM] at hb ⊢
      clear hM
      go_wp2_with fail
      go_loopw [3, 31] (fun n i wr => ∃ (k : Nat), k ≤ s.steps.length ∧ i = .int .i64 k ∧ n = .int .i64 ((s.texts.length : Int) + s.steps.length + M + sumS (s.steps.take k)) ∧ Below W.heap.size W wr) (fun _ i _ => s.steps.length - (intOf i).toNat)
      case atStart => exact ⟨0, by omega, rfl, by simp [sumS], Below.refl _ _⟩
      case round =>
        obtain ⟨j, hj, rfl, rfl, hbr⟩ := hrel
        have hzr := hbr.size
        by_cases hlj : j < s.steps.length
        · obtain ⟨g, o, c', a, hvv, hg, c0, c1, c2, hra⟩ := steps_get (HS.out.below hbr) hlj
          obtain rfl : B = some ⟨g, o, none⟩ := by injection hvv
          have hxl := HF.out.step s.steps[j] (List.getElem_mem _)
          have HSN := Lib.hid (sumS_snoc s.steps j hlj)
          have hb2 := HBS.out j
          generalize s.steps[j] = x at c0 c1 c2 hra hxl HSN
          generalize sumS (s.steps.take j) = m at hb2 HSN ⊢
          obtain ⟨Ax, cx, rfl⟩ := rowV_slice hra
          have hz := strB_size x.text
          generalize strB x.text = q at c2 hz
          have HZ := Lib.hid hz
          have hq : q.size ≤ 140737488355328 := by omega
          have hal := hxl.1
          have hb3 : Below W.heap.size W (wr.alloc (.cells #[.int .i64 x.kind, .slice Ax x.args.length cx, .string q] 54)) := hbr.alloc hzr _
          clear hvv hz hxl hra
          go_wp2_with fail
          go_roundw
          case rel => exact ⟨j + 1, by omega, by push_cast; rfl, by rw [HSN.out, HZ.out]; congr 1; push_cast; omega, hb3⟩
          case measure => simp [intOf]; omega
        · obtain rfl : j = s.steps.length := by omega
          have hb2 := HBS.out s.steps.length
          rw [List.take_length] at hb2 ⊢
          have HFN : Hid (fewN s = s.texts.length + s.steps.length + M + sumS s.steps) := by show fewN s = _; unfold fewN; rw [HMM.out]
          go_wp2_with fail
          go_ret
          refine ⟨ret_bool ?_, below_to hob hob.size hbr⟩
          rw [HFN.out, Bool.eq_iff_iff, decide_eq_true_eq, decide_eq_true_eq]
          omega

set_option maxHeartbeats 2000000 in
set_option maxRecDepth 20000 in
theorem sc_check_many (va : Value) (s : Scr) (hm : Many s) (w : World) (hr : ScrV w va s) :
    Calls Tryz.prog 23 #[va] w fun e w' => e = .returned (.tuple #[.int .i64 (-1), .int .i64 2]) ∧ Below w.heap.size w w' := by
  obtain ⟨ta, sa, rfl, hta, hsa⟩ := hr
  obtain ⟨A, c, rfl⟩ := strs_slice hta
  obtain ⟨B, d, rfl⟩ := steps_slice hsa
  clear hta hsa
  by_cases h8 : 8 < s.texts.length
  · go_enter Tryz.func23, Tryz.ntmps23
    go_wp2_with fail
    go_ret2
    exact ⟨rfl, by go_grown⟩
  · have h4 : 400 < s.steps.length := hm.resolve_left h8
    go_enter Tryz.func23, Tryz.ntmps23
    go_wp2_with fail
    go_ret2
    exact ⟨rfl, by go_grown⟩
set_option maxHeartbeats 2000000 in
set_option maxRecDepth 20000 in
theorem sc_print_many (va : Value) (s : Scr) (hm : Many s) (w : World) (hr : ScrV w va s) :
    Calls Tryz.prog 12 #[va] w fun e w' => e = .returned (.tuple #[.string ⟨#[]⟩, .int .i64 2]) ∧ Below w.heap.size w w' := by
  obtain ⟨ta, sa, rfl, hta, hsa⟩ := hr
  obtain ⟨A, c, rfl⟩ := strs_slice hta
  obtain ⟨B, d, rfl⟩ := steps_slice hsa
  have hob : Below w.heap.size w (w.alloc (.cells #[.slice A s.texts.length c, .slice B s.steps.length d] 26)) := (Below.refl _ w).alloc (Nat.le_refl _) _
  have HC := Lib.hid (sc_check_many _ s hm _ ⟨_, _, rfl, hta.below hob, hsa.below hob⟩)
  clear hta hsa
  go_enter Tryz.func12, Tryz.ntmps12
  go_wp2_with fail
  refine HC.out.mono ?_
  rintro e w1 ⟨rfl, hb1⟩
  have hbel := below_box hb1
  go_wp2_with fail
  go_ret2
  exact ⟨rfl, hbel⟩
end Go.Proofs.YtecdkgiandbkeaaGreatDoor
