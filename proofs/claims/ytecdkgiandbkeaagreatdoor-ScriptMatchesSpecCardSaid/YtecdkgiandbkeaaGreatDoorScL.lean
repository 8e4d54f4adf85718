/-
  The textual form: the script package's Print.
-/
import Derived.Test.YtecdkgiandbkeaaGreatDoorBuildrB
namespace Go.Proofs.YtecdkgiandbkeaaGreatDoor
open Go.RowKit ScSpec Go.Sort

theorem flatMap_len {α : Type} (f : α → Bytes) (b : Nat) (l : List α) (h : ∀ x ∈ l, (f x).length ≤ b) : (l.flatMap f).length ≤ l.length * b := by
  induction l with
  | nil => simp
  | cons x l ih =>
    have h1 := h x (by simp)
    have h2 := ih fun y hy => h y (by simp [hy])
    rw [List.flatMap_cons, List.length_append, List.length_cons, Nat.add_mul]; omega
theorem barred_len (t : Bytes) : (barred t).length ≤ 2 * t.length := by
  have := flatMap_len (fun c : UInt8 => if c.toNat = 10 then [10, 124] else [c]) 2 t (fun c _ => by split <;> simp)
  unfold barred; omega
theorem printText_len {t : Bytes} (h : t.length ≤ 4000) : (printText t).length ≤ 9000 := by
  have := barred_len t
  simp only [printText, List.length_append, List.length_cons, List.length_nil]; omega
theorem name_len (k : Int) : (name k).length ≤ 10 := by
  unfold name
  split
  · rename_i h
    unfold isKind at h
    simp only [Bool.and_eq_true, decide_eq_true_eq] at h
    have hh : ∀ i : Fin 24, (kRow i.val).name.length ≤ 10 := by decide
    exact hh ⟨k.toNat, by omega⟩
  · simp
theorem most_le (k : Nat) (h : k < 24) : (kRow k).most ≤ 18 := by
  have hh : ∀ i : Fin 24, (kRow i.val).most ≤ 18 := by decide
  exact hh ⟨k, h⟩
theorem isStep_args {x : Stp} (h : isStep x = true) : x.args.length ≤ 18 := by
  obtain ⟨h1, _⟩ := isStep_parts h
  unfold isStep at h
  simp only [Bool.and_eq_true, decide_eq_true_eq] at h
  have := most_le x.kind.toNat (by omega)
  omega
theorem digits_arg_len {a : Int} (h0 : 0 ≤ a) (h1 : a ≤ 2199023255552) : (digits a.toNat).length ≤ 13 := digits_len 12 _ (by omega)
theorem args_len {x : Stp} (h : isStep x = true) (j : Nat) : ((x.args.take j).flatMap (fun n => 32 :: digits n.toNat)).length ≤ 300 := by
  have h1 := isStep_args h
  have h2 := (isStep_parts h).2.1
  have := flatMap_len (fun n : Int => 32 :: digits n.toNat) 14 (x.args.take j) (fun n hn => by
    have := digits_arg_len (h2 n (List.mem_of_mem_take hn)).1 (h2 n (List.mem_of_mem_take hn)).2
    simp; omega)
  rw [List.length_take] at this
  have : min j x.args.length * 14 ≤ 18 * 14 := Nat.mul_le_mul_right _ (by omega)
  omega
theorem text_len {x : Stp} (h : isStep x = true) : x.text.length ≤ 4001 := by
  rcases data_ok (isStep_parts h).2.2 with e | ⟨r, e, hr⟩ | ⟨r, n, e, hd, _⟩
  · rw [e]; simp
  · rw [e]; simp; omega
  · rw [e]; have := (dec_parts hd).2.1; simp; omega
theorem tail_len {x : Stp} (h : isStep x = true) : (printTail x.text).length ≤ 8010 := by
  have ht := text_len h
  cases hx : x.text with
  | nil => simp [printTail]
  | cons c r =>
    rw [hx, List.length_cons] at ht
    simp only [printTail]
    split
    · simp; omega
    · have := hexs_length r
      simp only [List.length_cons]; omega
theorem printStep_len {x : Stp} (h : isStep x = true) : (printStep x).length ≤ 9000 := by
  have h1 := name_len x.kind
  have h2 := args_len h x.args.length
  rw [List.take_length] at h2
  have h3 := tail_len h
  simp only [printStep, List.length_append, List.length_cons, List.length_nil]; omega
theorem texts_len {s : Scr} (h : Valid s) (k : Nat) : ((s.texts.take k).flatMap printText).length ≤ 100000 := by
  have := flatMap_len printText 9000 (s.texts.take k) (fun t ht => printText_len (h.short t (List.mem_of_mem_take ht)))
  rw [List.length_take] at this
  have h8 := h.few
  have : min k s.texts.length * 9000 ≤ 8 * 9000 := Nat.mul_le_mul_right _ (by omega)
  omega
theorem steps_len {s : Scr} (h : Valid s) (k : Nat) : ((s.steps.take k).flatMap printStep).length ≤ 3600000 := by
  have := flatMap_len printStep 9000 (s.steps.take k) (fun t ht => printStep_len (h.steps t (List.mem_of_mem_take ht)))
  rw [List.length_take] at this
  have h8 := h.few2
  have : min k s.steps.length * 9000 ≤ 400 * 9000 := Nat.mul_le_mul_right _ (by omega)
  omega
theorem cat_toList (a b : ByteArray) : (a ++ b).data.toList = a.data.toList ++ b.data.toList := by simp [ByteArray.data_append]
theorem flatMap_snoc {α : Type} (f : α → Bytes) (l : List α) (k : Nat) (h : k < l.length) : (l.take (k + 1)).flatMap f = (l.take k).flatMap f ++ f l[k] := by
  rw [List.take_succ_eq_append_getElem h, List.flatMap_append, List.flatMap_cons, List.flatMap_nil, List.append_nil]
theorem replace_bar_call (t : Bytes) (ht : t.length ≤ 4000) (w : World) (hL : Laid w) :
    Calls Tryz.prog 15 #[.string (strB t), .string ⟨#[10]⟩, .string ⟨#[10, 124]⟩] w fun e w' => e = .returned (.string (strB (barred t))) ∧ Below w.heap.size w w' := by
  obtain ⟨m, hm⟩ := hL.maxLen
  have hc : Lib.countB (strB t) ⟨#[10]⟩ ≤ t.length := by
    show Lib.count (strB t).data.toList [10] ≤ t.length
    rw [strB_toList]; exact count_le_len _ _
  refine (Tryz.strings_ReplaceAll (strB t) ⟨#[10]⟩ ⟨#[10, 124]⟩ m w (by rw [strB_size]; omega) hm (by decide) ?_).mono ?_
  · rw [strB_size]
    show t.length + Lib.countB (strB t) ⟨#[10]⟩ * 2 ≤ _
    omega
  · rintro e w' ⟨rfl, hb⟩
    refine ⟨?_, hb⟩
    rw [strB_toList]
    show Ending.returned (.string (strB (Lib.replaceAll t [10] [10, 124]))) = _
    rw [replace_barred]
/-- The row of texts, under way. -/
theorem texts_get {w : World} {v : Value} {ts : List Bytes} (h : RowV w v (strVs ts)) {k : Nat} (hk : k < ts.length) : ∃ g o c, v = .slice (some ⟨g, o, none⟩) ts.length c ∧ g < w.heap.size ∧ w.cell? ⟨g, o + k, none⟩ = some (.string (strB ts[k])) := by
  obtain ⟨A, c, rfl, _, h⟩ := h
  obtain ⟨g, o, rfl, hg, hc⟩ := h (by rw [strVs_length]; omega)
  rw [strVs_length]
  have := hc k (by rw [strVs_length]; exact hk)
  simp only [strVs, List.getElem_map] at this
  exact ⟨g, o, c, rfl, hg, this⟩
theorem ints_get {w : World} {v : Value} {xs : List Int} (h : RowV w v (intVs xs)) {k : Nat} (hk : k < xs.length) : ∃ g o c, v = .slice (some ⟨g, o, none⟩) xs.length c ∧ g < w.heap.size ∧ w.cell? ⟨g, o + k, none⟩ = some (.int .i64 xs[k]) := by
  obtain ⟨A, c, rfl, _, h⟩ := h
  obtain ⟨g, o, rfl, hg, hc⟩ := h (by rw [intVs_length]; omega)
  rw [intVs_length]
  have := hc k (by rw [intVs_length]; exact hk)
  simp only [intVs, List.getElem_map] at this
  exact ⟨g, o, c, rfl, hg, this⟩
theorem rowV_slice {w : World} {v : Value} {xs : List Int} (h : RowV w v (intVs xs)) : ∃ A c, v = .slice A xs.length c := by
  obtain ⟨A, c, rfl, _, h⟩ := h
  rw [intVs_length]
  exact ⟨A, c, rfl⟩
theorem ret_si {a b : ByteArray} {n : Int} (h : a = b) : Ending.returned (.tuple #[.string a, .int .i64 n]) = Ending.returned (.tuple #[.string b, .int .i64 n]) := by rw [h]
theorem hasPrefix_call (l : Bytes) (c : UInt8) (w : World) : Calls Tryz.prog 14 #[.string (strB l), .string ⟨#[c]⟩] w fun e w' => e = .returned (.bool (decide (l.head? = some c))) ∧ w = w' := by
  refine (Tryz.strings_HasPrefix (strB l) ⟨#[c]⟩ w).mono ?_
  rintro e w' ⟨rfl, rfl⟩
  refine ⟨ret_bool ?_, rfl⟩
  rw [strB_toList]
  exact hasPrefix_one c l
theorem itoa_arg {a : Int} (h0 : 0 ≤ a) (h1 : a ≤ 2199023255552) (w : World) (hL : Laid w) :
    Calls Tryz.prog 36 #[.int .i64 a] w fun e w' => e = .returned (.string (strB (digits a.toNat))) ∧ Below w.heap.size w w' := by
  refine (itoa_call a (by omega) (by omega) w hL).mono ?_
  rintro e w' ⟨rfl, hb⟩
  refine ⟨?_, hb⟩
  conv => lhs; rw [show a = (a.toNat : Int) from by omega]
  rw [itoa_digits]
theorem printStep_split (x : Stp) : printStep x = name x.kind ++ x.args.flatMap (fun n => 32 :: digits n.toNat) ++ (printTail x.text ++ [10]) := by simp [printStep]
set_option maxHeartbeats 8000000 in
set_option maxRecDepth 100000 in
theorem sc_print (v : Value) (s : Scr) (hsm : Small s) (w : World) (hL : Laid w) (hr : ScrV w v s) :
    Calls Tryz.prog 12 #[v] w fun e w' => e = .returned (.tuple #[.string (strB (print s).1), .int .i64 (print s).2]) ∧ Below w.heap.size w w' := by
  obtain ⟨va, vb, rfl, hT, hS⟩ := hr
  have hT0 := hT
  have hS0 := hS
  obtain ⟨A, c, rfl, hcap, hA⟩ := hT0
  obtain ⟨B, d, rfl, hcap2, hB⟩ := hS0
  clear hA hB
  have hil := strVs_length s.texts
  rw [hil] at hT ⊢
  clear hil hcap hcap2
  have hbox : Below w.heap.size w (w.alloc (.cells #[.slice A s.texts.length c, .slice B s.steps.length d] 26)) := (Below.refl _ w).alloc (Nat.le_refl _) _
  have HC := Lib.hid (sc_check (.agg #[.slice A s.texts.length c, .slice B s.steps.length d]) s hsm _ (hL.below hbox) ⟨_, _, rfl, hT.below hbox, hS.below hbox⟩)
  by_cases hv : (check s).2 = 0
  · have HV := Lib.hid (valid_check hv)
    have HP : Hid (print s = (printed s, 0)) := by show print s = _; unfold print; rw [if_pos hv]
    rw [hv] at HC
    have hn1 := HV.out.few
    have hn2 := HV.out.few2
    clear hv hsm
    go_enter Tryz.func12, Tryz.ntmps12
    go_wp2_with fail
    refine HC.out.mono ?_
    rintro e w1 ⟨rfl, hb1⟩
    have hbel := below_box hb1
    have hz1 := hb1.size
    have hB1 := (Box.made w 26 #[.slice A s.texts.length c, .slice B s.steps.length d]).below hb1 (by simp)
    have y0 := hB1.look 0
    have y1 := hB1.look 1
    have hT1 := Lib.hid (hT.below hbel)
    have hS1 := Lib.hid (hS.below hbel)
    have hL1 := hL.below hbel
    simp only [World.alloc, Array.size_push] at hz1
    have hlt1 : w.heap.size < w1.heap.size := by omega
    clear hT hS HC hbox hb1 hB1
    go_wp2_with fail
    go_loopw [24] (fun i wr => ∃ k : Nat, k ≤ s.texts.length ∧ i = .int .i64 k ∧ Below w1.heap.size w1 wr ∧ w1.heap.size < wr.heap.size ∧ Hid (Bld wr w1.heap.size ((s.texts.take k).flatMap printText))) (fun i _ => s.texts.length - (intOf i).toNat)
    case atStart => exact ⟨0, by omega, rfl, (Below.refl _ _).alloc (Nat.le_refl _) _, by simp, bld_new w1⟩
    case round =>
      obtain ⟨k, hk, rfl, hbr, hzr, H⟩ := hrel
      by_cases hlt : k < s.texts.length
      · obtain ⟨g, o, c', hvv, hg, c0⟩ := texts_get (hT1.out.below hbr) hlt
        obtain ⟨rfl, rfl⟩ : A = some ⟨g, o, none⟩ ∧ c = c' := by injection hvv with h1 h2 h3; exact ⟨h1, h3⟩
        clear hvv
        have hsn := Lib.hid (flatMap_snoc printText s.texts k hlt)
        have hkl := texts_len HV.out k
        have htl := HV.out.short s.texts[k] (List.getElem_mem _)
        generalize s.texts[k] = t at c0 hsn htl
        have HR := Lib.hid (replace_bar_call t htl wr (hL1.below hbr))
        have hbl := barred_len t
        have hq : (strB (barred t)).size ≤ 8000 := by rw [strB_size]; omega
        have HQ := Lib.hid (strB_toList (barred t))
        generalize strB (barred t) = q at HR hq HQ
        clear hbl
        go_wp2_with fail
        refine HR.out.mono ?_
        rintro e w2 ⟨rfl, hb2⟩
        have hz2 := hb2.size
        have HB2 := Lib.hid (H.out.below hb2)
        go_wp2_with fail
        refine (bld_write _ _ _ _ HB2.out ?_).mono ?_
        · simp only [ByteArray.size_append]
          show _ + (6 + q.size + 1) ≤ _
          omega
        rintro e w3 ⟨rfl, hb3, hbb3, _, hz3⟩
        have H4 : Hid (Bld w3 w1.heap.size ((s.texts.take (k + 1)).flatMap printText)) := by
          show Bld _ _ _
          rw [hsn.out]
          rw [cat_toList, cat_toList, HQ.out] at hb3
          exact hb3
        have hb03 := hbr.trans ((below_to (Below.refl w1.heap.size wr) (by omega) hb2).trans hbb3)
        clear hb3 hbb3
        go_wp2_with fail
        go_roundw
        case rel => exact ⟨k + 1, by omega, by push_cast; rfl, hb03, by omega, H4⟩
        case measure => simp [intOf]; omega
      · obtain rfl : k = s.texts.length := by omega
        rw [List.take_length] at H
        have hTl := texts_len HV.out s.texts.length
        rw [List.take_length] at hTl
        generalize hTT : s.texts.flatMap printText = T at H hTl
        have HTT := Lib.hid hTT
        have hbw := Lib.hid hbr
        clear hTT hT1 hn1 hk hlt
        obtain ⟨wt, hwt⟩ : ∃ wt : World, wt = wr := ⟨_, rfl⟩
        subst hwt
        have x1 := (hbr.cell (p := ⟨w.heap.size, 1, none⟩) hlt1).trans y1
        clear y0 y1 hbr
        go_wp2_with fail
        go_loopw [37] (fun i wr => ∃ k : Nat, k ≤ s.steps.length ∧ i = .int .i64 k ∧ Below w1.heap.size w1 wr ∧ w1.heap.size < wr.heap.size ∧ Hid (Bld wr w1.heap.size (T ++ (s.steps.take k).flatMap printStep))) (fun i _ => s.steps.length - (intOf i).toNat)
        case atStart => exact ⟨0, by omega, rfl, hbw.out, hzr, by show Bld _ _ _; simpa using H.out⟩
        case round =>
          obtain ⟨k, hk, rfl, hbr, hzr, H⟩ := hrel
          by_cases hlt : k < s.steps.length
          · obtain ⟨g, o, c', a, hvv, hg, c0, c1, c2, hra⟩ := steps_get hS1.out hlt
            obtain ⟨rfl, rfl⟩ : B = some ⟨g, o, none⟩ ∧ d = c' := by injection hvv with h1 h2 h3; exact ⟨h1, h3⟩
            clear hvv
            have hsn := Lib.hid (flatMap_snoc printStep s.steps k hlt)
            have hkl := steps_len HV.out k
            have hx := HV.out.steps s.steps[k] (List.getElem_mem _)
            generalize s.steps[k] = x at c0 c1 c2 hra hsn hx
            generalize (s.steps.take k).flatMap printStep = SK at H hkl hsn
            replace c0 := (hbr.cell (p := ⟨g, _, none⟩) hg).trans c0
            replace c1 := (hbr.cell (p := ⟨g, _, none⟩) hg).trans c1
            replace c2 := (hbr.cell (p := ⟨g, _, none⟩) hg).trans c2
            obtain ⟨Ax, cx, rfl⟩ := rowV_slice hra
            have HRA := Lib.hid hra
            have HX := Lib.hid hx
            have hnl := name_len x.kind
            have hal := isStep_args hx
            have hLr := hL1.below hbr
            have hob : Below wr.heap.size wr (wr.alloc (.cells #[.int .i64 x.kind, .slice Ax x.args.length cx, .string (strB x.text)] 54)) := (Below.refl _ wr).alloc (Nat.le_refl _) _
            have HNM := Lib.hid (sc_name x.kind _ (hLr.below hob))
            have HBX := Lib.hid (Box.made wr 54 #[.int .i64 x.kind, .slice Ax x.args.length cx, .string (strB x.text)])
            have HBL := Lib.hid (H.out.below hob)
            have HNQ := Lib.hid (strB_toList (name x.kind))
            have hnq : (strB (name x.kind)).size ≤ 10 := by rw [strB_size]; exact hnl
            generalize strB (name x.kind) = nq at HNM HNQ hnq
            clear hra hx hob H
            go_wp2_with fail
            refine HNM.out.mono ?_
            rintro e w' ⟨rfl, rfl⟩
            go_wp2_with fail
            refine (bld_write _ _ _ _ HBL.out (by simp only [List.length_append]; omega)).mono ?_
            rintro e w3 ⟨rfl, hb3, hbb3, hk3, hz3⟩
            have HB3 := Lib.hid (hk3.box HBX.out (by omega) (by decide))
            rw [HNQ.out] at hb3
            have H3 := Lib.hid hb3
            have y1 := HB3.out.look 1
            have hb13 := (hbr.alloc (by omega) (.cells #[.int .i64 x.kind, .slice Ax x.args.length cx, .string (strB x.text)] 54)).trans hbb3
            simp only [World.alloc, Array.size_push] at hz3
            clear hk3 hb3 hbb3 c0 c1 c2
            go_wp2_with fail
            obtain ⟨ws, hws⟩ : ∃ ws : World, ws = wr := ⟨_, rfl⟩
            subst hws
            clear x1
            go_loopw [48] (fun i wr => ∃ j : Nat, j ≤ x.args.length ∧ i = .int .i64 j ∧ Below w1.heap.size w1 wr ∧ ws.heap.size < wr.heap.size ∧ Hid (Box wr ws.heap.size 54 #[.int .i64 x.kind, .slice Ax x.args.length cx, .string (strB x.text)]) ∧ Hid (Bld wr w1.heap.size (T ++ SK ++ name x.kind ++ (x.args.take j).flatMap (fun n => 32 :: digits n.toNat)))) (fun i _ => x.args.length - (intOf i).toNat)
            case atStart => exact ⟨0, by omega, rfl, hb13, by omega, HB3, by show Bld _ _ _; simpa using H3.out⟩
            case round =>
              obtain ⟨j, hj, rfl, hbq, hzq, HBq, Hq⟩ := hrel
              have hLq := hL1.below hbq
              have hjl := args_len HX.out j
              by_cases hlj : j < x.args.length
              · obtain ⟨ga, oa, ca, hva, hga, d0⟩ := ints_get HRA.out hlj
                obtain ⟨rfl, rfl⟩ : Ax = some ⟨ga, oa, none⟩ ∧ cx = ca := by injection hva with h1 h2 h3; exact ⟨h1, h3⟩
                clear hva
                replace d0 := (hbq.cell (p := ⟨ga, _, none⟩) hga).trans d0
                have hsj := Lib.hid (flatMap_snoc (fun n : Int => 32 :: digits n.toNat) x.args j hlj)
                have hnb := (isStep_parts HX.out).2.1 x.args[j] (List.getElem_mem _)
                generalize x.args[j] = n at d0 hsj hnb
                have HI := Lib.hid (itoa_arg hnb.1 hnb.2 wr hLq)
                have hql := digits_arg_len hnb.1 hnb.2
                have HQ := Lib.hid (strB_toList (digits n.toNat))
                have hq : (strB (digits n.toNat)).size ≤ 13 := by rw [strB_size]; exact hql
                generalize strB (digits n.toNat) = q at HI HQ hq
                generalize (x.args.take j).flatMap (fun n => 32 :: digits n.toNat) = AJ at Hq hjl hsj
                clear hql
                go_wp2_with fail
                refine HI.out.mono ?_
                rintro e w4 ⟨rfl, hb4⟩
                have hz4 := hb4.size
                have HL4 := Lib.hid (Hq.out.below hb4)
                have HB4 := Lib.hid (HBq.out.below hb4 hzq)
                go_wp2_with fail
                refine (bld_write _ _ _ _ HL4.out ?_).mono ?_
                · simp only [ByteArray.size_append, List.length_append]
                  show _ + (1 + q.size) ≤ _
                  omega
                rintro e w5 ⟨rfl, hb5, hbb5, hk5, hz5⟩
                have HB5 := Lib.hid (hk5.box HB4.out (by omega) (by decide))
                have HL5 : Hid (Bld w5 w1.heap.size (T ++ SK ++ name x.kind ++ (x.args.take (j + 1)).flatMap (fun n => 32 :: digits n.toNat))) := by
                  show Bld _ _ _
                  rw [hsj.out, ← List.append_assoc]
                  rw [cat_toList, HQ.out] at hb5
                  exact hb5
                have hb05 := (below_to hbq (by omega) hb4).trans hbb5
                clear hb5 hbb5 hk5
                go_wp2_with fail
                go_roundw
                case rel => exact ⟨j + 1, by omega, by push_cast; rfl, hb05, by omega, HB5, HL5⟩
                case measure => simp [intOf]; omega
              · obtain rfl : j = x.args.length := by omega
                have hps := Lib.hid (printStep_split x)
                rw [List.take_length] at Hq hjl
                generalize x.args.flatMap (fun n => 32 :: digits n.toNat) = AJ at Hq hjl hps
                have y2 := HBq.out.look 2
                have HP2 := Lib.hid (hasPrefix_call x.text 64 wr)
                rcases data_ok (isStep_parts HX.out).2.2 with he | ⟨r, he, hrl⟩ | ⟨r, n, he, hd, _⟩
                · have HE := Lib.hid he
                  rw [he] at y2 HP2
                  rw [strB_nil] at y2 HP2
                  clear he
                  go_wp2_with fail
                  refine HP2.out.mono ?_
                  rintro e w' ⟨rfl, rfl⟩
                  go_wp2_with fail
                  refine (bld_write _ _ _ _ Hq.out (by simp only [List.length_append]; show _ + 1 ≤ _; omega)).mono ?_
                  rintro e w6 ⟨rfl, hb6, hbb6, _, hz6⟩
                  have HB6 := Lib.hid hb6
                  have hb06 := hbq.trans hbb6
                  clear hb6 hbb6
                  go_wp2_with fail
                  go_roundw
                  case rel => exact ⟨k + 1, by omega, by push_cast; rfl, hb06, by omega, by show Bld _ _ _; rw [hsn.out, hps.out, HE.out]; simpa [List.append_assoc, printTail] using HB6.out⟩
                  case measure => simp [intOf]; omega
                · have HE := Lib.hid he
                  rw [he] at y2 HP2
                  have hie := isEmpty_cons 61 r
                  have hx1 := strB_tail 61 r
                  have hz := strB_size (61 :: r)
                  rw [List.length_cons] at hz
                  have HEN := Lib.hid (sc_encoded r (by omega) wr)
                  have hxl := hexs_length r
                  have HQ := Lib.hid (strB_toList (hexs r))
                  have hq : (strB (hexs r)).size ≤ 8000 := by rw [strB_size]; omega
                  generalize strB (hexs r) = q at HEN HQ hq
                  generalize strB (61 :: r) = p at y2 HP2 hie hx1 hz
                  clear he hxl
                  go_wp2_with fail
                  refine HP2.out.mono ?_
                  rintro e w' ⟨rfl, rfl⟩
                  go_wp2_with fail
                  refine HEN.out.mono ?_
                  rintro e w5 ⟨rfl, hb5⟩
                  have hz5 := hb5.size
                  have HL5 := Lib.hid (Hq.out.below hb5)
                  go_wp2_with fail
                  refine (bld_write _ _ _ _ HL5.out ?_).mono ?_
                  · simp only [ByteArray.size_append, List.length_append]
                    show _ + (2 + q.size) ≤ _
                    omega
                  rintro e w7 ⟨rfl, hb7, hbb7, _, hz7⟩
                  rw [cat_toList, HQ.out] at hb7
                  have HL7 := Lib.hid hb7
                  have hb07 := (below_to hbq (by omega) hb5).trans hbb7
                  have hhl := hexs_length r
                  clear hb7 hbb7
                  go_wp2_with fail
                  refine (bld_write _ _ _ _ HL7.out ?_).mono ?_
                  · simp only [List.length_append]
                    show _ + (2 + _) + 1 ≤ _
                    omega
                  rintro e w6 ⟨rfl, hb6, hbb6, _, hz6⟩
                  have HB6 := Lib.hid hb6
                  have hb06 := hb07.trans hbb6
                  clear hb6 hbb6 hhl
                  go_wp2_with fail
                  go_roundw
                  case rel => exact ⟨k + 1, by omega, by push_cast; rfl, hb06, by omega, by show Bld _ _ _; rw [hsn.out, hps.out, HE.out]; simpa [List.append_assoc, printTail] using HB6.out⟩
                  case measure => simp [intOf]; omega
                · have HE := Lib.hid he
                  rw [he] at y2 HP2
                  have hrl := (dec_parts hd).2.1
                  have hz := strB_size (64 :: r)
                  have HQ := Lib.hid (strB_toList (64 :: r))
                  rw [List.length_cons] at hz
                  generalize strB (64 :: r) = p at y2 HP2 hz HQ
                  clear he hd
                  go_wp2_with fail
                  refine HP2.out.mono ?_
                  rintro e w' ⟨rfl, rfl⟩
                  go_wp2_with fail
                  refine (bld_write _ _ _ _ Hq.out ?_).mono ?_
                  · simp only [ByteArray.size_append, List.length_append]
                    show _ + (1 + p.size) ≤ _
                    omega
                  rintro e w7 ⟨rfl, hb7, hbb7, _, hz7⟩
                  rw [cat_toList, HQ.out] at hb7
                  have HL7 := Lib.hid hb7
                  have hb07 := hbq.trans hbb7
                  clear hb7 hbb7
                  go_wp2_with fail
                  refine (bld_write _ _ _ _ HL7.out ?_).mono ?_
                  · simp only [List.length_append, List.length_cons]
                    show _ + (1 + _) + 1 ≤ _
                    omega
                  rintro e w6 ⟨rfl, hb6, hbb6, _, hz6⟩
                  have HB6 := Lib.hid hb6
                  have hb06 := hb07.trans hbb6
                  clear hb6 hbb6
                  go_wp2_with fail
                  go_roundw
                  case rel => exact ⟨k + 1, by omega, by push_cast; rfl, hb06, by omega, by show Bld _ _ _; rw [hsn.out, hps.out, HE.out]; simpa [List.append_assoc, printTail] using HB6.out⟩
                  case measure => simp [intOf]; omega
          · obtain rfl : k = s.steps.length := by omega
            rw [List.take_length] at H
            go_wp2_with fail
            refine (bld_string _ _ _ H.out).mono ?_
            rintro e w2 ⟨rfl, hb2⟩
            go_wp2_with fail
            go_ret2
            refine ⟨?_, ?_⟩
            · rw [HP.out]
              refine ret_si ?_
              unfold printed
              rw [HTT.out]
            · exact below_to hbel (by omega) (hbr.trans hb2)
  · have HP : Hid (print s = ([], (check s).2)) := by show print s = _; unfold print; rw [if_neg hv]
    have hb := bne_iff_ne.2 hv
    generalize (check s).2 = ec at HC HP hb
    clear hv
    go_enter Tryz.func12, Tryz.ntmps12
    go_wp2_with fail
    refine HC.out.mono ?_
    rintro e w1 ⟨rfl, hb1⟩
    have hbel := below_box hb1
    go_wp2_with fail
    go_ret2
    exact ⟨by rw [HP.out]; rfl, hbel⟩
end Go.Proofs.YtecdkgiandbkeaaGreatDoor
