/-
  The law on what is specified.
-/
import Derived.Test.YtecdkgiandbkeaaGreatDoorScZa
import Derived.Test.YtecdkgiandbkeaaGreatDoorScBig
import Derived.Test.YtecdkgiandbkeaaGreatDoorRfG
namespace Go.Proofs.YtecdkgiandbkeaaGreatDoor
open Go.RowKit ScSpec Go.Sort

set_option maxHeartbeats 2000000 in
set_option maxRecDepth 20000 in
theorem ref_check_many (va : Value) (s : Scr) (hm : Many s) (w : World) (hr : ScrV w va s) :
    Calls Tryz.prog 24 #[va] w fun e w' => e = .returned (.tuple #[.int .i64 (-1), .int .i64 2]) ∧ Below w.heap.size w w' := by
  obtain ⟨ta, sa, rfl, hta, hsa⟩ := hr
  obtain ⟨A, c, rfl⟩ := strs_slice hta
  obtain ⟨B, d, rfl⟩ := steps_slice hsa
  clear hta hsa
  by_cases h8 : 8 < s.texts.length
  · go_enter Tryz.func24, Tryz.ntmps24
    go_wp2_with fail
    go_ret2
    exact ⟨rfl, by go_grown⟩
  · have h4 : 400 < s.steps.length := hm.resolve_left h8
    go_enter Tryz.func24, Tryz.ntmps24
    go_wp2_with fail
    go_ret2
    exact ⟨rfl, by go_grown⟩
set_option maxHeartbeats 2000000 in
set_option maxRecDepth 20000 in
theorem ref_print_many (va : Value) (s : Scr) (hm : Many s) (w : World) (hr : ScrV w va s) :
    Calls Tryz.prog 25 #[va] w fun e w' => e = .returned (.tuple #[.string ⟨#[]⟩, .int .i64 2]) ∧ Below w.heap.size w w' := by
  obtain ⟨ta, sa, rfl, hta, hsa⟩ := hr
  obtain ⟨A, c, rfl⟩ := strs_slice hta
  obtain ⟨B, d, rfl⟩ := steps_slice hsa
  have hob : Below w.heap.size w (w.alloc (.cells #[.slice A s.texts.length c, .slice B s.steps.length d] 26)) := (Below.refl _ w).alloc (Nat.le_refl _) _
  have HC := Lib.hid (ref_check_many _ s hm _ ⟨_, _, rfl, hta.below hob, hsa.below hob⟩)
  clear hta hsa
  go_enter Tryz.func25, Tryz.ntmps25
  go_wp2_with fail
  refine HC.out.mono ?_
  rintro e w1 ⟨rfl, hb1⟩
  have hbel := below_box hb1
  go_wp2_with fail
  go_ret2
  exact ⟨rfl, hbel⟩
/-- What a function of a script gives, in whatever world. -/
def Gives (f : FuncId) (s : Scr) (v : Value) : Prop := ∀ va w, Laid w → ScrV w va s → Calls Tryz.prog f #[va] w fun r w' => r = .returned v ∧ Below w.heap.size w w'
theorem few_all (s : Scr) (hf : Fits s) (h : Many s ∨ fewN s ≤ 3000) : ∃ (p : ByteArray) (k e j : Int), Gives 12 s (.tuple #[.string p, .int .i64 j]) ∧ Gives 25 s (.tuple #[.string p, .int .i64 j]) ∧ Gives 23 s (.tuple #[.int .i64 k, .int .i64 e]) ∧ Gives 24 s (.tuple #[.int .i64 k, .int .i64 e]) := by
  by_cases hm : Many s
  · exact ⟨⟨#[]⟩, -1, 2, 2, fun va w _ hr => sc_print_many va s hm w hr, fun va w _ hr => ref_print_many va s hm w hr, fun va w _ hr => sc_check_many va s hm w hr, fun va w _ hr => ref_check_many va s hm w hr⟩
  · have hsm := few_small (h.resolve_left hm)
    exact ⟨_, _, _, _, fun va w hL hr => sc_print va s hsm w hL hr, fun va w _ hr => ref_print va s hsm hf.text w hr, fun va w hL hr => sc_check va s hsm w hL hr, fun va w _ hr => ref_check va s hsm hf.text w hr⟩
/-- Two boxes that hold scripts, and what they lean on. -/
structure Two (w : World) (G G3 : Nat) (va vb sa sb : Value) (a b : Scr) : Prop where
  x : Box w G 26 #[va, vb]
  y : Box w G3 26 #[sa, sb]
  a : ScrV w (.agg #[va, vb]) a
  b : ScrV w (.agg #[sa, sb]) b
theorem Two.below {w w' : World} {G G3 : Nat} {va vb sa sb : Value} {a b : Scr} (h : Two w G G3 va vb sa sb a b) (hb : Below w.heap.size w w') : Two w' G G3 va vb sa sb a b :=
  ⟨h.x.below hb h.x.lt, h.y.below hb h.y.lt, h.a.below hb, h.b.below hb⟩
set_option maxHeartbeats 16000000 in
set_option maxRecDepth 100000 in
theorem law_matches (va vb : Value) (a b : Scr) (N : Int) (nm tx : ByteArray) (hnm : nm.size ≤ 140737488355328) (htx : tx.size ≤ 140737488355328) (w : World) (hL : Laid w) (hfa : Fits a) (hfb : Fits b) (hra : ScrV w va a) (hrb : ScrV w vb b) :
    Calls Tryz.prog 5 #[va, vb, .int .i64 N, .string nm, .string tx] w fun e w' => e = .returned (.bool true) ∧ Below w.heap.size w w' := by
  obtain ⟨ta, sa, rfl, hta, hsa⟩ := hra
  obtain ⟨tb, sb, rfl, htb, hsb⟩ := hrb
  obtain ⟨A, c, rfl⟩ := strs_slice hta
  obtain ⟨B, d, rfl⟩ := steps_slice hsa
  obtain ⟨A2, c2, rfl⟩ := strs_slice htb
  obtain ⟨B2, d2, rfl⟩ := steps_slice hsb
  have hob : Below w.heap.size w ((w.alloc (.cells #[.slice A a.texts.length c, .slice B a.steps.length d] 26)).alloc (.cells #[.slice A2 b.texts.length c2, .slice B2 b.steps.length d2] 26)) :=
    ((Below.refl _ w).alloc (Nat.le_refl _) _).alloc (by simp) _
  have hz1 : (w.alloc (.cells #[.slice A a.texts.length c, .slice B a.steps.length d] 26)).heap.size = w.heap.size + 1 := by simp
  have HY := Box.made (w.alloc (.cells #[.slice A a.texts.length c, .slice B a.steps.length d] 26)) 26 #[.slice A2 b.texts.length c2, .slice B2 b.steps.length d2]
  rw [hz1] at HY
  have HT := Lib.hid (Two.mk ((Box.made w 26 #[.slice A a.texts.length c, .slice B a.steps.length d]).alloc (.cells #[.slice A2 b.texts.length c2, .slice B2 b.steps.length d2] 26)) HY (⟨_, _, rfl, hta.below hob, hsa.below hob⟩ : ScrV _ _ a) (⟨_, _, rfl, htb.below hob, hsb.below hob⟩ : ScrV _ _ b))
  clear hta hsa htb hsb hz1 HY
  go_enter Tryz.func5, Tryz.ntmps5
  go_upto_region 1 with fail
  generalize ((w.alloc (.cells #[.slice A a.texts.length c, .slice B a.steps.length d] 26)).alloc (.cells #[.slice A2 b.texts.length c2, .slice B2 b.steps.length d2] 26)) = W at hob HT ⊢
  generalize w.heap.size + 1 = G3 at HT ⊢
  generalize w.heap.size = G at HT ⊢
  have y0 := HT.out.x.look 0
  have y1 := HT.out.x.look 1
  go_wp2_with fail
  refine (few_call _ a W hfa HT.out.a).mono ?_
  rintro e w1 ⟨ba, rfl, hb1, hfewa⟩
  have hc1 := below_to hob hob.size hb1
  have HT1 := Lib.hid (HT.out.below hb1)
  have HFA := Lib.hid hfewa
  clear y0 y1 HT hob hb1 hfewa
  cases ba with
  | false =>
    go_wp2_with fail
    refine (law_sanity w1 (hL.below hc1)).mono ?_
    rintro e w2 ⟨rfl, hb2⟩
    go_wp2_with fail
    go_ret
    exact ⟨rfl, below_to hc1 hc1.size hb2⟩
  | true =>
    have z0 := HT1.out.y.look 0
    have z1 := HT1.out.y.look 1
    go_wp2_with fail
    refine (few_call _ b w1 hfb HT1.out.b).mono ?_
    rintro e w2 ⟨bb, rfl, hb2, hfewb⟩
    have hc2 := below_to hc1 hc1.size hb2
    have HT2 := Lib.hid (HT1.out.below hb2)
    clear z0 z1 HT1 hc1 hb2 hfewb
    cases bb with
    | false =>
      go_wp2_with fail
      refine (law_sanity w2 (hL.below hc2)).mono ?_
      rintro e w3 ⟨rfl, hb3⟩
      go_wp2_with fail
      go_ret
      exact ⟨rfl, below_to hc2 hc2.size hb3⟩
    | true =>
      by_cases h5 : 5000 < nm.size + tx.size
      · go_wp2_with fail
        refine (law_sanity w2 (hL.below hc2)).mono ?_
        rintro e w3 ⟨rfl, hb3⟩
        go_wp2_with fail
        go_ret
        exact ⟨rfl, below_to hc2 hc2.size hb3⟩
      · have h5n : nm.size + tx.size ≤ 5000 := by omega
        obtain ⟨p, k, e, j, HP, HRP, HC, HRC⟩ := few_all a hfa (HFA.out (by simp))
        have HP := Lib.hid HP
        have HRP := Lib.hid HRP
        have HC := Lib.hid HC
        have HRC := Lib.hid HRC
        have HK := Lib.hid (sc_kind nm)
        have HRK := Lib.hid (ref_kind nm)
        have hdl : tx.data.toList.length ≤ 281474976710656 := by have := size_eq_len tx; omega
        have HD := Lib.hid (sc_data tx.data.toList hdl)
        have HRD := Lib.hid (ref_data tx.data.toList hdl)
        rw [strB_of] at HD HRD
        generalize kindOf nm.data.toList = K at HK HRK
        generalize hbk : decide (0 < K) = IS at HK HRK
        generalize (data tx.data.toList).1 = D1 at HD HRD
        generalize (data tx.data.toList).2.1 = D2 at HD HRD
        generalize (data tx.data.toList).2.2 = D3 at HD HRD
        clear hbk hdl HFA h5
        go_wp2_with fail
        refine (HK.out w2 (hL.below hc2)).mono ?_
        rintro e' w3 ⟨rfl, hb3⟩
        have hc3 := below_to hc2 hc2.size hb3
        have HT3 := Lib.hid (HT2.out.below hb3)
        clear HT2 hc2 hb3
        go_wp2_with fail
        refine (HRK.out w3).mono ?_
        rintro e' w4 ⟨rfl, hb4⟩
        have hc4 := below_to hc3 hc3.size hb4
        have HT4 := Lib.hid (HT3.out.below hb4)
        clear HT3 hc3 hb4
        go_wp2_with fail
        refine (HD.out w4 (hL.below hc4)).mono ?_
        rintro e' w5 ⟨rfl, hb5⟩
        have hc5 := below_to hc4 hc4.size hb5
        have HT5 := Lib.hid (HT4.out.below hb5)
        clear HT4 hc4 hb5
        go_wp2_with fail
        refine (HRD.out w5).mono ?_
        rintro e' w6 ⟨rfl, rfl⟩
        have y0 := HT5.out.x.look 0
        have y1 := HT5.out.x.look 1
        go_wp2_with fail
        refine (HC.out _ w5 (hL.below hc5) HT5.out.a).mono ?_
        rintro e' w6 ⟨rfl, hb6⟩
        have hc6 := below_to hc5 hc5.size hb6
        have HT6 := Lib.hid (HT5.out.below hb6)
        clear HT5 hc5 hb6 y0 y1
        have y0 := HT6.out.x.look 0
        have y1 := HT6.out.x.look 1
        go_wp2_with fail
        refine (HRC.out _ w6 (hL.below hc6) HT6.out.a).mono ?_
        rintro e' w7 ⟨rfl, hb7⟩
        have hc7 := below_to hc6 hc6.size hb7
        have HT7 := Lib.hid (HT6.out.below hb7)
        clear HT6 hc6 hb7 y0 y1
        have y0 := HT7.out.x.look 0
        have y1 := HT7.out.x.look 1
        go_wp2_with fail
        refine (HP.out _ w7 (hL.below hc7) HT7.out.a).mono ?_
        rintro e' w8 ⟨rfl, hb8⟩
        have hc8 := below_to hc7 hc7.size hb8
        have HT8 := Lib.hid (HT7.out.below hb8)
        clear HT7 hc7 hb8 y0 y1
        have y0 := HT8.out.x.look 0
        have y1 := HT8.out.x.look 1
        go_wp2_with fail
        refine (HRP.out _ w8 (hL.below hc8) HT8.out.a).mono ?_
        rintro e' w9 ⟨rfl, hb9⟩
        have hc9 := below_to hc8 hc8.size hb9
        have HT9 := Lib.hid (HT8.out.below hb9)
        clear HT8 hc8 hb9 y0 y1
        go_wp2_with fail
        have hkp : ∀ u v : World, (Below w9.heap.size w9 u) → Below u.heap.size u v → Below w9.heap.size w9 v := fun u v h h2 => below_to h h.size h2
        have hL9 : ∀ u, Below w9.heap.size w9 u → Laid u := fun u h => (hL.below hc9).below h
        refine wp_region_held_drew (S := fun u => Below w9.heap.size w9 u) (by kernel_rfl) (below_drew (Below.refl _ _)) (fun hH => ?_)
        refine mat_start (by kernel_rfl) ?_
        refine mat_region (N := N) (NM := strB (name N)) (B := sameS a b) (G := G) (G3 := G3) ⟨fun _ _ _ _ _ h => h, fun u h => ⟨⟨(HT9.out.below h).x.look 0, (HT9.out.below h).x.look 1⟩, (HT9.out.below h).y.look 0, (HT9.out.below h).y.look 1⟩,
          fun u h => (law_sanity u (hL9 u h)).mono fun e' v ⟨h1, h2⟩ => ⟨h1, hkp u v h h2⟩,
          fun u h => (sc_name N u (hL9 u h)).mono fun e' v ⟨h1, h2⟩ => ⟨h1, h2 ▸ h⟩,
          fun u h => (ref_name N u).mono fun e' v ⟨h1, h2⟩ => ⟨h1, hkp u v h h2⟩,
          fun u h => (sc_sameB _ _ a b u (HT9.out.below h).a (HT9.out.below h).b hfa.texts hfa.steps (fun x hx => (hfa.step x hx).1) (fun x hx => (hfb.step x hx).1)).mono fun e' v ⟨h1, h2⟩ => ⟨h1, hkp u v h h2⟩,
          fun u h => (ref_sameB _ _ a b u (HT9.out.below h).a (HT9.out.below h).b hfa.texts hfa.steps (fun x hx => (hfa.step x hx).1)).mono fun e' v ⟨h1, h2⟩ => ⟨h1, hkp u v h h2⟩⟩ _ _ _ _ _ _ _ _ _ _ _ _ _ _ _ _ _ _ _ _ _ _ _ _ _ _ _ _ _ _ _ _ _ _ _ _ _ _ _ _ _ _ _ _ _ _ _ _ _ _ _ _ _ _ _ _ _ _ _ _ _ _ _ _ _ _ _ _ _ _ _ _ _ _ _ _ _ _ _ _ _ _ _ _ _ _ _ _ _ _ _ _ _ _ _ _ _ _ _ _ _ _ _ _ _ _ _ _ _ _ _ _ _ _ _ _ _ _ _ _ _ _ _ _ _ _ _ _ _ _ hH (fun u hu => ?_)
        go_wp2_with fail
        go_ret
        exact ⟨rfl, below_to hc9 hc9.size hu⟩
end Go.Proofs.YtecdkgiandbkeaaGreatDoor
