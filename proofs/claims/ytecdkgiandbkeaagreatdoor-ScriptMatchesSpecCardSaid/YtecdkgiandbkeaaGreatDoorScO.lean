/-
  Reading a textual form: the script package's Parse.
-/
import Derived.Test.YtecdkgiandbkeaaGreatDoorScN
import Derived.RegionTactic
import Derived.WalkMore
namespace Go.Proofs.YtecdkgiandbkeaaGreatDoor
open Go.RowKit ScSpec Go.Sort

/-! ### One line, in plain words -/
theorem split_len (d : UInt8) (l : Bytes) : (split d l).length ≤ l.length + 1 := by
  induction l with
  | nil => simp [split]
  | cons c l ih =>
    by_cases h : c = d
    · subst h; rw [split_hit]; simp; omega
    · cases hs : split d l with
      | nil => exact absurd hs (split_ne d l)
      | cons p ps => rw [split_miss h hs]; rw [hs] at ih; simp at ih ⊢; omega
theorem split_piece (d : UInt8) (l : Bytes) : ∀ p ∈ split d l, p.length ≤ l.length := by
  induction l with
  | nil => intro p hp; simp [split] at hp; subst hp; simp
  | cons c l ih =>
    by_cases h : c = d
    · subst h
      rw [split_hit]
      intro p hp
      rcases List.mem_cons.1 hp with rfl | hp
      · simp
      · have := ih p hp; simp; omega
    · cases hs : split d l with
      | nil => exact absurd hs (split_ne d l)
      | cons q ps =>
        rw [hs] at ih
        rw [split_miss h hs]
        intro p hp
        rcases List.mem_cons.1 hp with rfl | hp
        · have := ih q (by simp); simp; omega
        · have := ih p (by simp [hp]); simp; omega
theorem words_word (l : Bytes) : ∀ x ∈ words l, x ≠ [] ∧ x.length ≤ l.length := by
  intro x hx
  unfold words at hx
  obtain ⟨h1, h2⟩ := List.mem_filter.1 hx
  exact ⟨by intro e; subst e; simp at h2, split_piece 32 l x h1⟩
theorem words_len (l : Bytes) : (words l).length ≤ l.length + 1 := Nat.le_trans (List.length_filter_le _ _) (split_len 32 l)
theorem pl_noBar {k : Nat} {e : Bool} {ts : List Bytes} {ss : List Stp} {l : Bytes} {r : List Bytes} (h : l.head? = some 124) : parseL k false e ts ss (l :: r) = fail (k + 1 : Nat) 3 := by
  rw [parseL, if_pos h, if_neg (by simp)]
theorem pl_bar {k : Nat} {e : Bool} {ts : List Bytes} {ss : List Stp} {l : Bytes} {r : List Bytes} (h : l.head? = some 124) : parseL k true e ts ss (l :: r) = parseL (k + 1) true false (addLast ts ((if e then [] else [10]) ++ l.tail)) ss r := by
  rw [parseL, if_pos h, if_pos rfl]
theorem pl_open {k : Nat} {ts : List Bytes} {ss : List Stp} {l : Bytes} {r : List Bytes} (h : l.head? ≠ some 124) : parseL k true true ts ss (l :: r) = fail k 3 := by
  rw [parseL, if_neg h, if_pos (by simp)]
theorem pl_skip {k : Nat} {o e : Bool} {ts : List Bytes} {ss : List Stp} {l : Bytes} {r : List Bytes} (h : l.head? ≠ some 124) (h2 : (o && e) = false) (h3 : words l = [] ∨ l.head? = some 35) : parseL k o e ts ss (l :: r) = parseL (k + 1) false e ts ss r := by
  rw [parseL, if_neg h, if_neg (by rw [h2]; simp), if_pos h3]
theorem pl_text {k : Nat} {o e : Bool} {ts : List Bytes} {ss : List Stp} {l : Bytes} {r : List Bytes} (h : l.head? ≠ some 124) (h2 : (o && e) = false) (h3 : ¬ (words l = [] ∨ l.head? = some 35)) (h4 : words l = [textW]) : parseL k o e ts ss (l :: r) = parseL (k + 1) true true (ts ++ [[]]) ss r := by
  rw [parseL, if_neg h, if_neg (by rw [h2]; simp), if_neg h3, if_pos h4]
theorem pl_step {k : Nat} {o e : Bool} {ts : List Bytes} {ss : List Stp} {l : Bytes} {r : List Bytes} (h : l.head? ≠ some 124) (h2 : (o && e) = false) (h3 : ¬ (words l = [] ∨ l.head? = some 35)) (h4 : words l ≠ [textW]) : parseL k o e ts ss (l :: r) = if (ScSpec.step (words l)).2 = 0 then parseL (k + 1) false e ts (ss ++ [(ScSpec.step (words l)).1]) r else fail (k + 1 : Nat) (ScSpec.step (words l)).2 := by
  rw [parseL, if_neg h, if_neg (by rw [h2]; simp), if_neg h3, if_neg h4]
theorem step_ok {l : List Bytes} (h : (ScSpec.step l).2 = 0) : isStep (ScSpec.step l).1 = true := by
  unfold ScSpec.step at h ⊢
  by_cases h1 : kindOf (l.headD []) = 0
  · rw [if_pos h1] at h; simp at h
  · rw [if_neg h1] at h ⊢
    cases hra : readArgs l.tail with
    | none => rw [hra] at h; simp at h
    | some p =>
      obtain ⟨a, t⟩ := p
      rw [hra] at h
      simp only at h ⊢
      by_cases h3 : isStep ⟨(kindOf (l.headD []) : Nat), a, t⟩ = true
      · rw [if_pos h3]; exact h3
      · rw [if_neg h3] at h; simp at h
/-- What is known of a script under way behind k lines. -/
def Bnd (k : Nat) (ts : List Bytes) (ss : List Stp) : Prop := (∀ t ∈ ts, t.length ≤ k * 100000001) ∧ (∀ x ∈ ss, isStep x = true) ∧ ts.length ≤ k ∧ ss.length ≤ k
theorem Bnd.next {k : Nat} {ts : List Bytes} {ss : List Stp} (h : Bnd k ts ss) : Bnd (k + 1) ts ss := ⟨fun t ht => Nat.le_trans (h.1 t ht) (Nat.mul_le_mul_right _ (Nat.le_succ k)), h.2.1, Nat.le_succ_of_le h.2.2.1, Nat.le_succ_of_le h.2.2.2⟩
theorem Bnd.text {k : Nat} {ts : List Bytes} {ss : List Stp} (h : Bnd k ts ss) : Bnd (k + 1) (ts ++ [[]]) ss := by
  have h' := h.next
  refine ⟨fun t ht => ?_, h'.2.1, by have := h.2.2.1; simp; omega, h'.2.2.2⟩
  rcases List.mem_append.1 ht with ht | ht
  · exact h'.1 t ht
  · simp at ht; subst ht; simp
theorem Bnd.step {k : Nat} {ts : List Bytes} {ss : List Stp} (h : Bnd k ts ss) {x : Stp} (hx : isStep x = true) : Bnd (k + 1) ts (ss ++ [x]) := by
  have h' := h.next
  refine ⟨h'.1, fun y hy => ?_, h'.2.2.1, by have := h.2.2.2; simp; omega⟩
  rcases List.mem_append.1 hy with hy | hy
  · exact h.2.1 y hy
  · simp at hy; subst hy; exact hx
theorem Bnd.last {k : Nat} {ts : List Bytes} {t x : Bytes} {ss : List Stp} (h : Bnd k (ts ++ [t]) ss) (hx : x.length ≤ t.length + 100000001) : Bnd (k + 1) (ts ++ [x]) ss := by
  have h' := h.next
  refine ⟨fun y hy => ?_, h'.2.1, by have := h'.2.2.1; simpa using this, h'.2.2.2⟩
  rcases List.mem_append.1 hy with hy | hy
  · exact h'.1 y (by simp [hy])
  · simp at hy; subst hy
    have := h.1 t (by simp)
    rw [Nat.succ_mul]
    exact Nat.le_trans hx (Nat.add_le_add_right this _)
theorem own_slice_ne {w : World} {base n : Nat} {e : TypeId} {size : Nat} {v : Value} {xs : List Value} (h : w.ownsRow base e size v (n + 1) xs) : ∃ g c, v = .slice (some ⟨g, 0, none⟩) (n + 1) c := by
  rcases h.2 with ⟨_, h0⟩ | ⟨g, cap, cur, rfl, _⟩
  · cases h0
  · exact ⟨g, cap, rfl⟩
theorem not_text {h : Bytes} (hn : h ≠ textW) : ((strB h).toList == [116, 101, 120, 116]) = false := by
  rw [ByteArray.toList_eq, strB_toList]
  exact beq_eq_false_iff_ne.2 hn
theorem infoStr : (Tryz.prog.info? 9).map (fun i => (i.zero, i.size, i.bytes)) = some (some (.string ⟨#[]⟩), 1, 16) := by kernel_rfl
theorem infoStp : (Tryz.prog.info? 54).map (fun i => (i.zero, i.size, i.bytes)) = some (some (.agg #[.int .i64 0, .slice none 0 0, .string ⟨#[]⟩]), 3, 48) := by kernel_rfl
theorem fields_n (l : Bytes) (hl : l.length ≤ 1000000000) (ws : List Bytes) (hws : words l = ws) (m : Nat) (hm : ws.length = m) (w : World) :
    Calls Tryz.prog 31 #[.string (strB l), .func (.func 32) #[] #[]] w fun e w' => ∃ A, e = .returned (.slice (some ⟨A, 0, none⟩) m m) ∧ A < w'.heap.size ∧ Hid (∀ i x, ws[i]? = some x → w'.cell? ⟨A, i, none⟩ = some (.string (strB x))) ∧ Below w.heap.size w w' := by
  subst hws
  subst hm
  refine (fields_call l hl w).mono ?_
  rintro e w' ⟨A, rfl, hA, hc, hb⟩
  refine ⟨A, rfl, hA, fun i x hx => ?_, hb⟩
  obtain ⟨hi, rfl⟩ := List.getElem?_eq_some_iff.1 hx
  exact hc i hi
theorem scrV_nil (w : World) : ScrV w (.agg #[.slice none 0 0, .slice none 0 0]) ⟨[], []⟩ := ⟨_, _, rfl, rowV_nil w, ⟨none, 0, rfl, Nat.le_refl _, fun h => absurd h (Nat.lt_irrefl _)⟩⟩

set_option maxHeartbeats 8000000 in
set_option maxRecDepth 100000 in
theorem sc_parse (l : Bytes) (hl : l.length ≤ 100000000) (w : World) (hL : Laid w) :
    Calls Tryz.prog 10 #[.string (strB l)] w fun e w' => ∃ sv, e = .returned (.tuple #[sv, .int .i64 (parse l).line, .int .i64 (parse l).e]) ∧ ScrV w' sv (parse l).s ∧ Below w.heap.size w w' := by
  have hlen := split_len 10 l
  have HLN := Lib.hid (split_piece 10 l)
  have hob : Below w.heap.size w ((w.alloc (.cells #[.slice none 0 0, .slice none 0 0] 26)).alloc (.cells #[.slice none 0 0, .slice none 0 0] 26)) := ((Below.refl _ w).alloc (Nat.le_refl _) _).alloc (by simp) _
  have HSP := Lib.hid (split_call 10 l (by omega) _ (hL.below hob))
  have HP0 : Hid (parse l = parseL 0 false false [] [] ((split 10 l).drop 0)) := rfl
  generalize hP : parse l = P at HP0 ⊢
  clear hP
  generalize hls : split 10 l = ls at hlen HLN HSP HP0
  clear hls
  generalize hnl : ls.length = nl at hlen HSP
  have HNL := Lib.hid hnl
  clear hnl
  have hnl2 : nl ≤ 100000001 := by omega
  clear hlen
  go_enter Tryz.func10, Tryz.ntmps10
  go_wp2_with fail
  go_step3
  go_wp2_with fail
  refine HSP.out.mono ?_
  rintro e w1 ⟨rfl, rfl⟩
  have HS0 : Hid (PSt w w.heap.size (((w.alloc (.cells #[.slice none 0 0, .slice none 0 0] 26)).alloc (.cells #[.slice none 0 0, .slice none 0 0] 26)).alloc (.cells (strVs ls).toArray 9)) ls (.slice none 0 0) (.slice none 0 0) [] []) := by
    refine ⟨hob.alloc (by simp; omega) _, by simp, ((Box.made w 26 _).alloc _).alloc _, ?_, ?_, World.ownsRow_nil _ _ _ _, [], World.ownsRow_nil _ _ _ _, stepsO_nil _⟩
    · have := (Box.made (w.alloc (.cells #[.slice none 0 0, .slice none 0 0] 26)) 26 #[.slice none 0 0, .slice none 0 0]).alloc (.cells (strVs ls).toArray 9)
      simpa using this
    · have := Box.made ((w.alloc (.cells #[.slice none 0 0, .slice none 0 0] 26)).alloc (.cells #[.slice none 0 0, .slice none 0 0] 26)) 9 (strVs ls).toArray
      simpa using this
  clear hob HSP
  go_wp2_with fail
  go_step3
  go_wp2_with fail
  go_loopw [6, 7, 9, 22] (fun o e at' i wr => ∃ (k : Nat) (bo be : Bool) (ts : List Bytes) (ss : List Stp) (vt vs : Value), k ≤ nl ∧ o = .bool bo ∧ e = .bool be ∧ at' = .int .i64 k ∧ i = .int .i64 k ∧ Hid (PSt w w.heap.size wr ls vt vs ts ss) ∧ Hid (Bnd k ts ss) ∧ Hid (P = parseL k bo be ts ss (ls.drop k)) ∧ Hid (bo = true → ts ≠ [])) (fun _ _ _ i _ => nl - (intOf i).toNat)
  case atStart => exact ⟨0, false, false, [], [], _, _, by omega, rfl, rfl, rfl, rfl, HS0, ⟨by simp, by simp, by simp, by simp⟩, HP0, by show false = true → _; simp⟩
  case round =>
    obtain ⟨k, bo, be, ts, ss, vt, vs, hk, rfl, rfl, rfl, rfl, HS, HB, H, HO⟩ := hrel
    have hzr := HS.out.size
    obtain ⟨At, ct, rfl⟩ := own_slice HS.out.tx
    obtain ⟨As, cs, rfl⟩ : ∃ A c, vs = .slice A ss.length c := by
      obtain ⟨cells, h1, _⟩ := HS.out.st
      exact own_slice h1
    have HLr := Lib.hid (hL.below HS.out.bel)
    by_cases hlt : k < nl
    · have hlk : k < ls.length := by rw [HNL.out]; exact hlt
      have c0 := HS.out.line hlk
      have hdr := Lib.hid (List.drop_eq_getElem_cons hlk)
      have hll := HLN.out ls[k] (List.getElem_mem _)
      generalize ls[k] = ln at c0 hdr hll
      have HPF := Lib.hid (hasPrefix_call ln 124 wr)
      by_cases hbar : ln.head? = some 124
      · rw [decide_eq_true hbar] at HPF
        have HBAR := Lib.hid hbar
        clear hbar
        cases bo with
        | false =>
          have HF : Hid (P = fail (k + 1 : Nat) 3) := by
            show P = _
            rw [H.out, hdr.out, pl_noBar HBAR.out]
          have z0 := HS.out.res.look 0
          have z1 := HS.out.res.look 1
          have f0 := HS.out.res.free 0
          have f1 := HS.out.res.free 1
          go_wp2_with fail
          refine HPF.out.mono ?_
          rintro e w' ⟨rfl, rfl⟩
          go_wp2_with fail
          rw [Exit.noGoto_ret]
          refine bodyPost_ret (v := .tuple #[.agg #[.slice none 0 0, .slice none 0 0], .int .i64 ((k : Int) + 1), .int .i64 3]) (by simp [results, Tryz.results10, go_sem, z0, z1]) rfl ⟨_, by rw [HF.out]; rfl, by rw [HF.out]; exact scrV_nil _, ((HS.out.bel.setCell (Nat.le_refl _) _).setCell (Nat.le_refl _) _)⟩
        | true =>
          obtain ⟨ti, tl, rfl⟩ : ∃ ti tl, ts = ti ++ [tl] := ⟨ts.dropLast, ts.getLast (HO.out rfl), (List.dropLast_concat_getLast _).symm⟩
          have htl := HB.out.1 tl (by simp)
          obtain ⟨c, r, hln⟩ : ∃ c r, ln = c :: r := by
            cases ln with
            | nil => cases HBAR.out
            | cons c r => exact ⟨c, r, rfl⟩
          obtain rfl : c = 124 := by have := HBAR.out; rw [hln] at this; simpa using this
          have hlen1 : (ti ++ [tl]).length = ti.length + 1 := by simp
          obtain ⟨g, ct2, hvt⟩ := own_slice_ne (n := ti.length) (by have := HS.out.tx; rw [hlen1] at this; exact this)
          rw [hlen1] at HS
          obtain ⟨rfl, rfl⟩ : At = some ⟨g, 0, none⟩ ∧ ct = ct2 := by injection hvt with h1 h2 h3; exact ⟨h1, h3⟩
          clear hvt
          have htx := HS.out.tx
          rw [hlen1] at htx
          have d0 := htx.cellAt ti.length (by omega)
          have hf0 := htx.frozenAt ti.length
          have hg := own_base htx g rfl
          have e1 : (strVs (ti ++ [tl]))[ti.length]? = some (.string (strB tl)) := by simp [strVs]
          rw [e1] at d0
          have x0 := HS.out.own.look 0
          have htz : (strB tl).size ≤ 20000000000000000 := by
            rw [strB_size]
            have : k * 100000001 ≤ 100000001 * 100000001 := Nat.mul_le_mul_right _ (by omega)
            omega
          have hxl := strB_tail 124 r
          have hz : (strB (124 :: r)).size = r.length + 1 := by rw [strB_size]; rfl
          have hrl : r.length ≤ 100000000 := by rw [hln] at hll; simp at hll; omega
          have HF := Lib.hid (pl_bar (k := k) (e := be) (ts := ti ++ [tl]) (ss := ss) (r := ls.drop (k + 1)) HBAR.out)
          have HTL := Lib.hid htl
          rw [hln] at c0 HPF HF hdr
          have hrz : (strB r).size = r.length := strB_size r
          have hmk : ti.length + 1 ≤ 100000001 := by have := HB.out.2.2.1; omega
          generalize hm : ti.length = m at HS x0 d0 hf0 hlen1 hmk
          have HM := Lib.hid hm
          clear hm htx e1 hll htl hlen1
          generalize hq : strB (124 :: r) = q at c0 HPF hxl hz
          generalize hp : strB r = p at hxl hrz
          generalize hu : strB tl = u at d0 htz
          have HQP := Lib.hid hp
          have HQU := Lib.hid hu
          clear hq hp hu hln
          cases be with
          | false =>
            go_wp2_with fail
            refine HPF.out.mono ?_
            rintro e w' ⟨rfl, rfl⟩
            go_wp2_with fail
            have HS2 := Lib.hid (HS.out.setLast (by rw [HM.out]) (tl ++ [10]))
            have hw2 : wr.setCell ⟨g, m, none⟩ (.string (u ++ ⟨#[10]⟩)) = wr.setCell ⟨g, ti.length, none⟩ (.string (strB (tl ++ [10]))) := by
              rw [HM.out, ← strB_append, HQU.out]; rfl
            rw [← hw2] at HS2
            have HW := Lib.hid hw2
            clear hw2
            have d2 : (wr.setCell ⟨g, m, none⟩ (.string (u ++ ⟨#[10]⟩))).cell? ⟨g, m, none⟩ = some (.string (u ++ ⟨#[10]⟩)) := World.cell?_setCell_same _ _ _ d0
            have f2 : (wr.setCell ⟨g, m, none⟩ (.string (u ++ ⟨#[10]⟩))).frozen? ⟨g, m, none⟩ = false := by rw [World.frozen?_setCell]; exact hf0
            have hz2 : (u ++ ⟨#[10]⟩ : ByteArray).size ≤ 20000000000000001 := by rw [ByteArray.size_append]; show u.size + 1 ≤ _; omega
            generalize wr.setCell ⟨g, m, none⟩ (.string (u ++ ⟨#[10]⟩)) = W at HS2 HW d2 f2 ⊢
            have HQ2 : Hid (u ++ ⟨#[10]⟩ = strB (tl ++ [10])) := by show u ++ _ = _; rw [← strB_append, HQU.out]; rfl
            generalize (u ++ ⟨#[10]⟩ : ByteArray) = u2 at d2 hz2 HQ2 ⊢
            clear d0 hf0 x0 c0 HPF
            have hq1 : (1 : Int) ≤ (q.size : Int) := by omega
            go_region
            have HS3 : Hid (PSt w w.heap.size (W.setCell ⟨g, m, none⟩ (.string (u2 ++ p))).drew ls (.slice (some ⟨g, 0, none⟩) (m + 1) ct) (.slice As ss.length cs) (ti ++ [tl ++ [10] ++ r]) ss) := by
              have h := HS2.out.setLast (by rw [HM.out]) (tl ++ [10] ++ r)
              rw [HM.out, ← strB_append (tl ++ [10]) r, ← HQ2.out, HQP.out] at h
              exact h.call (below_drew (Below.refl _ _))
            have HB3 : Hid (Bnd (k + 1) (ti ++ [tl ++ [10] ++ r]) ss) := HB.out.last (by simp; omega)
            have H3 : Hid (P = parseL (k + 1) true false (ti ++ [tl ++ [10] ++ r]) ss (ls.drop (k + 1))) := by
              show P = _
              rw [H.out, hdr.out]
              refine HF.out.trans ?_
              rw [addLast_snoc]
              simp
            clear d2 f2 hz2
            go_wp2_with fail
            go_roundw
            case rel => exact ⟨k + 1, true, false, _, ss, _, _, by omega, rfl, rfl, by push_cast; rfl, by push_cast; rfl, HS3, HB3, H3, by show true = true → _; simp⟩
            case measure => simp [intOf]; omega
          | true =>
            have hq1 : (1 : Int) ≤ (q.size : Int) := by omega
            go_wp2_with fail
            refine HPF.out.mono ?_
            rintro e w' ⟨rfl, rfl⟩
            go_wp2_with fail
            go_region
            have HS3 : Hid (PSt w w.heap.size (wr.setCell ⟨g, m, none⟩ (.string (u ++ p))).drew ls (.slice (some ⟨g, 0, none⟩) (m + 1) ct) (.slice As ss.length cs) (ti ++ [tl ++ r]) ss) := by
              have h := HS.out.setLast (by rw [HM.out]) (tl ++ r)
              rw [HM.out, ← strB_append tl r, HQU.out, HQP.out] at h
              exact h.call (below_drew (Below.refl _ _))
            have HB3 : Hid (Bnd (k + 1) (ti ++ [tl ++ r]) ss) := HB.out.last (by simp; omega)
            have H3 : Hid (P = parseL (k + 1) true false (ti ++ [tl ++ r]) ss (ls.drop (k + 1))) := by
              show P = _
              rw [H.out, hdr.out]
              refine HF.out.trans ?_
              rw [addLast_snoc]
              simp
            clear d0 hf0 x0 c0
            go_wp2_with fail
            go_roundw
            case rel => exact ⟨k + 1, true, false, _, ss, _, _, by omega, rfl, rfl, by push_cast; rfl, by push_cast; rfl, HS3, HB3, H3, by show true = true → _; simp⟩
            case measure => simp [intOf]; omega
      · rw [decide_eq_false hbar] at HPF
        have HBAR := Lib.hid hbar
        clear hbar
        have z0 := HS.out.res.look 0
        have z1 := HS.out.res.look 1
        have f0 := HS.out.res.free 0
        have f1 := HS.out.res.free 1
        by_cases hoe : bo = true ∧ be = true
        · obtain ⟨rfl, rfl⟩ := hoe
          have HF : Hid (P = fail k 3) := by
            show P = _
            rw [H.out, hdr.out, pl_open HBAR.out]
          go_wp2_with fail
          refine HPF.out.mono ?_
          rintro e w' ⟨rfl, rfl⟩
          go_wp2_with fail
          rw [Exit.noGoto_ret]
          refine bodyPost_ret (v := .tuple #[.agg #[.slice none 0 0, .slice none 0 0], .int .i64 (k : Int), .int .i64 3]) (by simp [results, Tryz.results10, go_sem, z0, z1]) rfl ⟨_, by rw [HF.out]; rfl, by rw [HF.out]; exact scrV_nil _, ((HS.out.bel.setCell (Nat.le_refl _) _).setCell (Nat.le_refl _) _)⟩
        · have hoe2 : (bo && be) = false := by cases bo <;> cases be <;> simp at hoe ⊢
          have HOE := Lib.hid hoe2
          have hln9 : ln.length ≤ 1000000000 := by omega
          have HWW := Lib.hid (words_word ln)
          have hwl := words_len ln
          have HC0 := Lib.hid (pl_skip (k := k) (o := bo) (e := be) (ts := ts) (ss := ss) (r := ls.drop (k + 1)) HBAR.out HOE.out)
          have HC1 := Lib.hid (pl_text (k := k) (o := bo) (e := be) (ts := ts) (ss := ss) (r := ls.drop (k + 1)) HBAR.out HOE.out)
          have HC2 := Lib.hid (pl_step (k := k) (o := bo) (e := be) (ts := ts) (ss := ss) (r := ls.drop (k + 1)) HBAR.out HOE.out)
          have hcase : bo = false ∨ (bo = true ∧ be = false) := by cases bo <;> cases be <;> simp at hoe ⊢
          clear hoe hoe2
          cases hws : words ln with
          | nil =>
            have HWD := Lib.hid (fields_n ln hln9 [] hws 0 rfl wr)
            have H3 : Hid (P = parseL (k + 1) false be ts ss (ls.drop (k + 1))) := by
              show P = _
              rw [H.out, hdr.out, HC0.out (.inl hws)]
            have HB3 := Lib.hid HB.out.next
            clear hws hwl HC0 HC1 HC2 HOE H HWW z0 z1 f0 f1
            rcases hcase with rfl | ⟨rfl, rfl⟩
            all_goals
              go_wp2_with fail
              refine HPF.out.mono ?_
              rintro e w' ⟨rfl, rfl⟩
              go_wp2_with fail
              refine HWD.out.mono ?_
              rintro e w2 ⟨A, rfl, hA, _, hb2⟩
              have HS2 := Lib.hid (HS.out.call hb2)
              go_wp2_with fail
              go_roundw
              case rel => exact ⟨k + 1, false, _, ts, ss, _, _, by omega, rfl, rfl, by push_cast; rfl, by push_cast; rfl, HS2, HB3, H3, by show false = true → _; simp⟩
              case measure => simp [intOf]; omega
          | cons h tail =>
            obtain ⟨m, hm⟩ : ∃ m, tail.length = m := ⟨_, rfl⟩
            have HM := Lib.hid hm
            have HWD := Lib.hid (fields_n ln hln9 (h :: tail) hws (m + 1) (by simp [hm]) wr)
            rw [hws] at HWW hwl
            simp only [List.length_cons, hm] at hwl
            have hwh := (HWW.out h (by simp)).1
            obtain ⟨c, r, hln⟩ : ∃ c r, ln = c :: r := by
              cases ln with
              | nil => simp [words, split] at hws
              | cons c r => exact ⟨c, r, rfl⟩
            have hq0 : ∀ hh : 0 < (strB ln).size, (strB ln)[0].toNat = c.toNat := by subst hln; exact fun _ => rfl
            have hqz : 0 < (strB ln).size := by rw [hln, strB_size]; simp
            have hhd : ln.head? = some c := by rw [hln]; rfl
            have HHD := Lib.hid hhd
            have HWS := Lib.hid hws
            generalize hq : strB ln = q at c0 HPF HWD hq0 hqz
            have hq1 := hq0 hqz
            clear hq0 hhd hln hws hq hm
            have hb0 := ib_no (show ((m : Int) + 1) ≠ 0 by omega)
            by_cases h35 : c.toNat = 35
            · have hb35 := ib_yes (show (q[0].toNat : Int) = 35 by rw [hq1]; omega)
              have H3 : Hid (P = parseL (k + 1) false be ts ss (ls.drop (k + 1))) := by
                show P = _
                rw [H.out, hdr.out, HC0.out (.inr (by rw [HHD.out, eq_byte (n := 35) (by decide) |>.2 h35]; rfl))]
              have HB3 := Lib.hid HB.out.next
              clear hwl HC0 HC1 HC2 HOE H HWW z0 z1 f0 f1 hq1 h35
              rcases hcase with rfl | ⟨rfl, rfl⟩
              all_goals
                go_wp2_with fail
                refine HPF.out.mono ?_
                rintro e w' ⟨rfl, rfl⟩
                go_wp2_with fail
                refine HWD.out.mono ?_
                rintro e w2 ⟨A, rfl, hA, _, hb2⟩
                have HS2 := Lib.hid (HS.out.call hb2)
                go_wp2_with fail
                go_roundw
                case rel => exact ⟨k + 1, false, _, ts, ss, _, _, by omega, rfl, rfl, by push_cast; rfl, by push_cast; rfl, HS2, HB3, H3, by show false = true → _; simp⟩
                case measure => simp [intOf]; omega
            · have hb35 := ib_no (show (q[0].toNat : Int) ≠ 35 by rw [hq1]; omega)
              have HNS : Hid (¬ (words ln = [] ∨ ln.head? = some 35)) := by
                rintro (e | e)
                · rw [HWS.out] at e; cases e
                · rw [HHD.out] at e; exact h35 ((eq_byte (n := 35) (by decide)).1 (Option.some.inj e))
              clear hq1 h35 HC0
              by_cases htx : h = textW ∧ m = 0
              · obtain ⟨rfl, rfl⟩ := htx
                obtain rfl := List.length_eq_zero_iff.1 HM.out
                have H3 : Hid (P = parseL (k + 1) true true (ts ++ [[]]) ss (ls.drop (k + 1))) := by
                  show P = _
                  rw [H.out, hdr.out, HC1.out HNS.out HWS.out]
                have HB3 := Lib.hid HB.out.text
                have x0 := HS.out.own.look 0
                clear hwl HC1 HC2 HOE H HWW z0 z1 f0 f1 hb0 hwh
                rcases hcase with rfl | ⟨rfl, rfl⟩
                all_goals
                  go_wp2_with fail
                  refine HPF.out.mono ?_
                  rintro e w' ⟨rfl, rfl⟩
                  go_wp2_with fail
                  refine HWD.out.mono ?_
                  rintro e w2 ⟨A, rfl, hA, HC, hb2⟩
                  have HS2 := Lib.hid (HS.out.call hb2)
                  have hz2 := hb2.size
                  have d0 := HC.out 0 _ rfl
                  rw [show strB textW = ⟨#[116, 101, 120, 116]⟩ from rfl] at d0
                  have x0 := HS2.out.own.look 0
                  have hts := HB.out.2.2.1
                  have hk63 : ts.length + 1 ≤ 140737488355328 := by omega
                  have hk64 : (ts.length + 1) * 16 ≤ 140737488355328 := by omega
                  have hbase : ∀ o : Obj, w.heap.size + 3 ≤ (w2.alloc o).heap.size := fun o => by simp; omega
                  clear hts
                  have HS3 := Lib.hid (HS2.out.call ((Below.refl _ w2).alloc (Nat.le_refl _) (.cells #[.string ⟨#[]⟩] 9)))
                  go_wp2_with (at_builtin; refine wp_appendB 1 (w.heap.size + 3) (by rfl) _ _ 23 9 _ 1 16 (by rfl) Tryz.underlying23 infoStr (by rfl) (by decide) _ ts.length (strVs ts) _ (by rfl) w2.heap.size (by rfl) (heap_alloc_new w2 _) (by rfl) (by intro u hu; simp at hu; subst hu; rfl) HS3.out.tx (hbase _) hk63 hk64 ?_; intro v1 w3 hown3 hg3; obtain ⟨A3, c3, rfl⟩ := own_slice hown3; have hB3 := Lib.hid (HS3.out.own.kept hg3 (own_block_ne HS3.out.tx (by omega))); have q1 := hB3.out.look 0; have r1 := hB3.out.free 0; have HG := Lib.hid hg3; have HO3 := Lib.hid hown3; clear hg3 hown3 x0)
                  have HS4 := Lib.hid (HS3.out.addText (t := []) HO3.out HG.out)
                  clear q1 r1 d0
                  go_roundw
                  case rel => exact ⟨k + 1, true, true, ts ++ [[]], ss, _, _, by omega, rfl, rfl, by push_cast; rfl, by push_cast; rfl, HS4, HB3, H3, by show true = true → _; simp⟩
                  case measure => simp [intOf]; omega
              · have HNT : Hid (words ln ≠ [textW]) := by
                  intro e
                  rw [HWS.out] at e
                  injection e with e1 e2
                  have h2 := HM.out
                  rw [e2] at h2
                  exact htx ⟨e1, h2.symm⟩
                have hkey : (m = 0 ∧ h ≠ textW) ∨ m ≠ 0 := by
                  rcases Nat.eq_zero_or_pos m with h0 | h0
                  · exact .inl ⟨h0, fun e => htx ⟨e, h0⟩⟩
                  · exact .inr (by omega)
                have HPS := Lib.hid (HC2.out HNS.out HNT.out)
                have hmle : m ≤ 1000000000 := by omega
                clear htx HC1 HC2 HOE hwl hb0 hwh
                obtain ⟨S, hS⟩ : ∃ S, S = ScSpec.step (h :: tail) := ⟨_, rfl⟩
                have HSE := Lib.hid hS
                rw [HWS.out, ← hS] at HPS
                clear hS
                by_cases he : S.2 = 0
                · have hxs := Lib.hid (step_ok (l := h :: tail) (by rw [← HSE.out]; exact he))
                  rw [← HSE.out] at hxs
                  have H3 : Hid (P = parseL (k + 1) false be ts (ss ++ [S.1]) (ls.drop (k + 1))) := by
                    show P = _
                    rw [H.out, hdr.out, HPS.out, if_pos he]
                  have HB3 := Lib.hid (HB.out.step hxs.out)
                  have hss := HB.out.2.2.2
                  have hk63 : ss.length + 1 ≤ 140737488355328 := by omega
                  have hk64 : (ss.length + 1) * 48 ≤ 140737488355328 := by omega
                  clear HPS H z0 z1 f0 f1 hss
                  rw [HSE.out] at he
                  have HE0 := Lib.hid he
                  clear he
                  rcases hcase with rfl | ⟨rfl, rfl⟩
                  all_goals
                    go_wp2_with fail
                    refine HPF.out.mono ?_
                    rintro e w' ⟨rfl, rfl⟩
                    go_wp2_with fail
                    refine HWD.out.mono ?_
                    rintro e w2 ⟨A, rfl, hA, HC, hb2⟩
                    have HS2 := Lib.hid (HS.out.call hb2)
                    have hz2 := hb2.size
                    have d0 := HC.out 0 _ rfl
                    have HST := Lib.hid (sc_step h tail A 0 m HM.out hmle (fun x hx => ⟨(HWW.out x hx).1, Nat.le_trans (HWW.out x hx).2 hln9⟩) w2 (hL.below HS2.out.bel) hA (fun i hi => by rw [Nat.zero_add]; exact HC.out i _ (List.getElem?_eq_getElem hi)))
                    rw [HE0.out, ← HSE.out] at HST
                    rcases hkey with ⟨rfl, hk2⟩ | hk2
                    · have hbb := not_text hk2
                      clear hk2
                      go_wp2_with fail
                      refine HST.out.mono ?_
                      rintro e w3 ⟨sv, rfl, hsv, hb3⟩
                      obtain ⟨a, rfl, hra⟩ := hsv
                      obtain ⟨Aa, ca, rfl⟩ := rowV_slice hra.rowV
                      have hob : Below w3.heap.size w3 ((w3.alloc (.cells #[.int .i64 S.1.kind, .slice Aa S.1.args.length ca, .string (strB S.1.text)] 54)).alloc (.cells #[.int .i64 S.1.kind, .slice Aa S.1.args.length ca, .string (strB S.1.text)] 54)) := ((Below.refl _ w3).alloc (Nat.le_refl _) _).alloc (by simp) _
                      have hRA := Lib.hid (hra.keep (keepT_below hob 3))
                      have HS4 := Lib.hid ((HS2.out.call hb3).call hob)
                      obtain ⟨cells, h1, h2⟩ := HS4.out.st
                      have H1 := Lib.hid h1
                      have H2 := Lib.hid h2
                      have y1 : (w3.alloc (.cells #[.int .i64 S.1.kind, .slice Aa S.1.args.length ca, .string (strB S.1.text)] 54)).cell? ⟨w.heap.size + 1, 1, none⟩ = some (.slice As ss.length cs) := ((HS2.out.call hb3).call ((Below.refl _ w3).alloc (Nat.le_refl _) _)).own.look 1
                      have hz4 := HS4.out.size
                      have hbx : ((w3.alloc (.cells #[.int .i64 S.1.kind, .slice Aa S.1.args.length ca, .string (strB S.1.text)] 54)).alloc (.cells #[.int .i64 S.1.kind, .slice Aa S.1.args.length ca, .string (strB S.1.text)] 54)).heap[w3.heap.size + 1]? = some (.cells #[.int .i64 S.1.kind, .slice Aa S.1.args.length ca, .string (strB S.1.text)] 54 (0, 0)) := by
                        have := heap_alloc_new (w3.alloc (.cells #[.int .i64 S.1.kind, .slice Aa S.1.args.length ca, .string (strB S.1.text)] 54)) (.cells #[.int .i64 S.1.kind, .slice Aa S.1.args.length ca, .string (strB S.1.text)] 54)
                        simpa using this
                      have HBX := Lib.hid hbx
                      clear hbx h1 h2 hob hra
                      go_wp2_with (at_builtin; refine wp_appendB 1 (w.heap.size + 3) (by rfl) _ _ 24 54 _ 3 48 (by rfl) Tryz.underlying24 infoStp (by rfl) (by decide) _ ss.length cells _ (by rfl) (w3.heap.size + 1) (by rfl) HBX.out (by rfl) (by intro u hu; simp at hu; rcases hu with rfl | rfl | rfl <;> rfl) H1.out HS4.out.size hk63 hk64 ?_; intro v1 w4 hown3 hg3; obtain ⟨A3, c3, rfl⟩ := own_slice hown3; have hB3 := Lib.hid (HS4.out.own.kept hg3 (own_block_ne H1.out (by omega))); have q1 := hB3.out.look 1; have r1 := hB3.out.free 1; have HG := Lib.hid hg3; have HO3 := Lib.hid hown3; clear hg3 hown3 y1)
                      have HS5 := Lib.hid (HS4.out.addStep (x := S.1) H1.out H2.out hRA.out HO3.out HG.out)
                      clear q1 r1 d0
                      go_roundw
                      case rel => exact ⟨k + 1, false, _, ts, ss ++ [S.1], _, _, by omega, rfl, rfl, by push_cast; rfl, by push_cast; rfl, HS5, HB3, H3, by show false = true → _; simp⟩
                      case measure => simp [intOf]; omega
                    · have hbm := ib_no (show ((m : Int) + 1) ≠ 1 by omega)
                      go_wp2_with fail
                      refine HST.out.mono ?_
                      rintro e w3 ⟨sv, rfl, hsv, hb3⟩
                      obtain ⟨a, rfl, hra⟩ := hsv
                      obtain ⟨Aa, ca, rfl⟩ := rowV_slice hra.rowV
                      have hob : Below w3.heap.size w3 ((w3.alloc (.cells #[.int .i64 S.1.kind, .slice Aa S.1.args.length ca, .string (strB S.1.text)] 54)).alloc (.cells #[.int .i64 S.1.kind, .slice Aa S.1.args.length ca, .string (strB S.1.text)] 54)) := ((Below.refl _ w3).alloc (Nat.le_refl _) _).alloc (by simp) _
                      have hRA := Lib.hid (hra.keep (keepT_below hob 3))
                      have HS4 := Lib.hid ((HS2.out.call hb3).call hob)
                      obtain ⟨cells, h1, h2⟩ := HS4.out.st
                      have H1 := Lib.hid h1
                      have H2 := Lib.hid h2
                      have y1 : (w3.alloc (.cells #[.int .i64 S.1.kind, .slice Aa S.1.args.length ca, .string (strB S.1.text)] 54)).cell? ⟨w.heap.size + 1, 1, none⟩ = some (.slice As ss.length cs) := ((HS2.out.call hb3).call ((Below.refl _ w3).alloc (Nat.le_refl _) _)).own.look 1
                      have hz4 := HS4.out.size
                      have hbx : ((w3.alloc (.cells #[.int .i64 S.1.kind, .slice Aa S.1.args.length ca, .string (strB S.1.text)] 54)).alloc (.cells #[.int .i64 S.1.kind, .slice Aa S.1.args.length ca, .string (strB S.1.text)] 54)).heap[w3.heap.size + 1]? = some (.cells #[.int .i64 S.1.kind, .slice Aa S.1.args.length ca, .string (strB S.1.text)] 54 (0, 0)) := by
                        have := heap_alloc_new (w3.alloc (.cells #[.int .i64 S.1.kind, .slice Aa S.1.args.length ca, .string (strB S.1.text)] 54)) (.cells #[.int .i64 S.1.kind, .slice Aa S.1.args.length ca, .string (strB S.1.text)] 54)
                        simpa using this
                      have HBX := Lib.hid hbx
                      clear hbx h1 h2 hob hra
                      go_wp2_with (at_builtin; refine wp_appendB 1 (w.heap.size + 3) (by rfl) _ _ 24 54 _ 3 48 (by rfl) Tryz.underlying24 infoStp (by rfl) (by decide) _ ss.length cells _ (by rfl) (w3.heap.size + 1) (by rfl) HBX.out (by rfl) (by intro u hu; simp at hu; rcases hu with rfl | rfl | rfl <;> rfl) H1.out HS4.out.size hk63 hk64 ?_; intro v1 w4 hown3 hg3; obtain ⟨A3, c3, rfl⟩ := own_slice hown3; have hB3 := Lib.hid (HS4.out.own.kept hg3 (own_block_ne H1.out (by omega))); have q1 := hB3.out.look 1; have r1 := hB3.out.free 1; have HG := Lib.hid hg3; have HO3 := Lib.hid hown3; clear hg3 hown3 y1)
                      have HS5 := Lib.hid (HS4.out.addStep (x := S.1) H1.out H2.out hRA.out HO3.out HG.out)
                      clear q1 r1 d0
                      go_roundw
                      case rel => exact ⟨k + 1, false, _, ts, ss ++ [S.1], _, _, by omega, rfl, rfl, by push_cast; rfl, by push_cast; rfl, HS5, HB3, H3, by show false = true → _; simp⟩
                      case measure => simp [intOf]; omega
                · have H3 : Hid (P = fail (k + 1 : Nat) S.2) := by
                    show P = _
                    rw [H.out, hdr.out, HPS.out, if_neg he]
                  have hb2 := bne_iff_ne.2 he
                  generalize hS2 : S.2 = code at H3 hb2
                  have HS2E := Lib.hid hS2
                  clear HPS H he hS2
                  rcases hcase with rfl | ⟨rfl, rfl⟩
                  all_goals
                    go_wp2_with fail
                    refine HPF.out.mono ?_
                    rintro e w' ⟨rfl, rfl⟩
                    go_wp2_with fail
                    refine HWD.out.mono ?_
                    rintro e w2 ⟨A, rfl, hA, HC, hb2⟩
                    have HS2 := Lib.hid (HS.out.call hb2)
                    have hz2 := hb2.size
                    have d0 := HC.out 0 _ rfl
                    have HST := Lib.hid (sc_step h tail A 0 m HM.out hmle (fun x hx => ⟨(HWW.out x hx).1, Nat.le_trans (HWW.out x hx).2 hln9⟩) w2 (hL.below HS2.out.bel) hA (fun i hi => by rw [Nat.zero_add]; exact HC.out i _ (List.getElem?_eq_getElem hi)))
                    rw [← HSE.out, HS2E.out] at HST
                    rcases hkey with ⟨rfl, hk2⟩ | hk2
                    · have hbb := not_text hk2
                      clear hk2
                      go_wp2_with fail
                      refine HST.out.mono ?_
                      rintro e w3 ⟨sv, rfl, hsv, hb3⟩
                      obtain ⟨a, rfl, hra⟩ := hsv
                      obtain ⟨Aa, ca, rfl⟩ := rowV_slice hra.rowV
                      have HS3 := Lib.hid ((HS2.out.call hb3).call ((Below.refl _ w3).alloc (Nat.le_refl _) (.cells #[.int .i64 S.1.kind, .slice Aa S.1.args.length ca, .string (strB S.1.text)] 54)))
                      have z0 := HS3.out.res.look 0
                      have z1 := HS3.out.res.look 1
                      have f0 := HS3.out.res.free 0
                      have f1 := HS3.out.res.free 1
                      go_wp2_with fail
                      rw [Exit.noGoto_ret]
                      refine bodyPost_ret (v := .tuple #[.agg #[.slice none 0 0, .slice none 0 0], .int .i64 ((k : Int) + 1), .int .i64 code]) (by simp [results, Tryz.results10, go_sem, z0, z1]) rfl ⟨_, by rw [H3.out]; rfl, by rw [H3.out]; exact scrV_nil _, ((HS3.out.bel.setCell (Nat.le_refl _) _).setCell (Nat.le_refl _) _)⟩
                    · have hbm := ib_no (show ((m : Int) + 1) ≠ 1 by omega)
                      go_wp2_with fail
                      refine HST.out.mono ?_
                      rintro e w3 ⟨sv, rfl, hsv, hb3⟩
                      obtain ⟨a, rfl, hra⟩ := hsv
                      obtain ⟨Aa, ca, rfl⟩ := rowV_slice hra.rowV
                      have HS3 := Lib.hid ((HS2.out.call hb3).call ((Below.refl _ w3).alloc (Nat.le_refl _) (.cells #[.int .i64 S.1.kind, .slice Aa S.1.args.length ca, .string (strB S.1.text)] 54)))
                      have z0 := HS3.out.res.look 0
                      have z1 := HS3.out.res.look 1
                      have f0 := HS3.out.res.free 0
                      have f1 := HS3.out.res.free 1
                      go_wp2_with fail
                      rw [Exit.noGoto_ret]
                      refine bodyPost_ret (v := .tuple #[.agg #[.slice none 0 0, .slice none 0 0], .int .i64 ((k : Int) + 1), .int .i64 code]) (by simp [results, Tryz.results10, go_sem, z0, z1]) rfl ⟨_, by rw [H3.out]; rfl, by rw [H3.out]; exact scrV_nil _, ((HS3.out.bel.setCell (Nat.le_refl _) _).setCell (Nat.le_refl _) _)⟩
    · obtain rfl : k = nl := by omega
      have H0 : Hid (P = finish k bo be ts ss) := by
        show P = _
        rw [H.out, List.drop_of_length_le (Nat.le_of_eq HNL.out), parseL]
      by_cases hoe : bo = true ∧ be = true
      · obtain ⟨rfl, rfl⟩ := hoe
        have HF : Hid (P = fail k 3) := by
          show P = _
          rw [H0.out]; rfl
        have z0 := HS.out.res.look 0
        have z1 := HS.out.res.look 1
        have f0 := HS.out.res.free 0
        have f1 := HS.out.res.free 1
        go_wp2_with fail
        try rw [Exit.noGoto_ret]
        refine bodyPost_ret (v := .tuple #[.agg #[.slice none 0 0, .slice none 0 0], .int .i64 (k : Int), .int .i64 3]) (by simp [results, Tryz.results10, go_sem, z0, z1]) rfl ⟨_, by rw [HF.out]; rfl, by rw [HF.out]; exact scrV_nil _, ((HS.out.bel.setCell (Nat.le_refl _) _).setCell (Nat.le_refl _) _)⟩
      · have hcase : bo = false ∨ (bo = true ∧ be = false) := by cases bo <;> cases be <;> simp at hoe ⊢
        have hsm : Hid (Small ⟨ts, ss⟩) := by
          intro x hx
          have hx' := HB.out.2.1 x hx
          exact ⟨by have := isStep_args hx'; omega, by have := text_len hx'; omega⟩
        have HC := Lib.hid (sc_check _ ⟨ts, ss⟩ hsm.out wr HLr.out HS.out.scr)
        have y0 := HS.out.own.look 0
        have y1 := HS.out.own.look 1
        have hfb : (bo && be) = false := by cases bo <;> cases be <;> simp at hoe ⊢
        have HFN : Hid (P = if (check ⟨ts, ss⟩).2 = 0 then ⟨⟨ts, ss⟩, 0, 0⟩ else fail 0 (check ⟨ts, ss⟩).2) := by
          show P = _
          rw [H0.out]
          unfold finish
          rw [hfb, if_neg (by simp)]
        clear hoe hfb H0 H
        by_cases he : (check ⟨ts, ss⟩).2 = 0
        · have H3 : Hid (P = ⟨⟨ts, ss⟩, 0, 0⟩) := by
            show P = _
            rw [HFN.out, if_pos he]
          rw [he] at HC
          clear he HFN
          rcases hcase with rfl | ⟨rfl, rfl⟩
          all_goals
            go_wp2_with fail
            refine HC.out.mono ?_
            rintro e w2 ⟨rfl, hb2⟩
            have HS2 := Lib.hid (HS.out.call hb2)
            have y0 := HS2.out.own.look 0
            have y1 := HS2.out.own.look 1
            have z0 := HS2.out.res.look 0
            have z1 := HS2.out.res.look 1
            have f0 := HS2.out.res.free 0
            have f1 := HS2.out.res.free 1
            go_wp2_with fail
            try rw [Exit.noGoto_ret]
            refine bodyPost_ret (v := .tuple #[.agg #[.slice At ts.length ct, .slice As ss.length cs], .int .i64 0, .int .i64 0]) (by simp [results, Tryz.results10, go_sem, z0, z1]) rfl ⟨_, by rw [H3.out], by rw [H3.out]; exact HS2.out.scr_res _ _, ((HS2.out.bel.setCell (Nat.le_refl _) _).setCell (Nat.le_refl _) _)⟩
        · have H3 : Hid (P = fail 0 (check ⟨ts, ss⟩).2) := by
            show P = _
            rw [HFN.out, if_neg he]
          have hbn := bne_iff_ne.2 he
          generalize (check ⟨ts, ss⟩).2 = code at HC H3 hbn
          clear he HFN
          rcases hcase with rfl | ⟨rfl, rfl⟩
          all_goals
            go_wp2_with fail
            refine HC.out.mono ?_
            rintro e w2 ⟨rfl, hb2⟩
            have HS2 := Lib.hid (HS.out.call hb2)
            have z0 := HS2.out.res.look 0
            have z1 := HS2.out.res.look 1
            have f0 := HS2.out.res.free 0
            have f1 := HS2.out.res.free 1
            go_wp2_with fail
            try rw [Exit.noGoto_ret]
            refine bodyPost_ret (v := .tuple #[.agg #[.slice none 0 0, .slice none 0 0], .int .i64 0, .int .i64 code]) (by simp [results, Tryz.results10, go_sem, z0, z1]) rfl ⟨_, by rw [H3.out]; rfl, by rw [H3.out]; exact scrV_nil _, ((HS2.out.bel.setCell (Nat.le_refl _) _).setCell (Nat.le_refl _) _)⟩
end Go.Proofs.YtecdkgiandbkeaaGreatDoor
