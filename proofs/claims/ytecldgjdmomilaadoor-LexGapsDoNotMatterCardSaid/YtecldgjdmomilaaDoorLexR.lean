/-
  The walk of the statement that what stands between the tokens does not matter.
-/
import Derived.Test.YtecldgjdmomilaaDoorLexP
namespace Go.Proofs.YtecldgjdmomilaaDoor
open Go.RowKit LexSpec

theorem below_of_grown {B : Nat} {w w' : World} {row : Option Nat} (h : w.grownBy w' row) (hB : B ≤ w.heap.size) (hr : ∀ k, row = some k → B ≤ k) : Below B w w' :=
  ⟨h.os, h.tape, h.output, h.size, fun i hi => h.block i (by omega) (fun e => by have := hr i e.symm; omega)⟩
theorem grown_to {w w1 w2 : World} {row : Option Nat} (h : w.grownBy w1 row) (k : w1.grownBy w2 row) : w.grownBy w2 row :=
  ⟨k.os.trans h.os, k.tape.trans h.tape, k.output.trans h.output, Nat.le_trans h.size k.size, fun i hi hn => (k.block i (Nat.lt_of_lt_of_le hi h.size) hn).trans (h.block i hi hn)⟩

theorem own_cap {w : World} {base n : Nat} {e : TypeId} {size : Nat} {A : Option Addr} {m c : Nat} {xs : List Value} (h : w.ownsRow base e size (.slice A m c) n xs) : n ≤ c := by
  rcases h.2 with ⟨h1, h2⟩ | ⟨g, cap, cur, h1, _, _, h2, _⟩
  · omega
  · injection h1 with _ _ h1
    omega

theorem tokCs_app (ts us : List Tok) : tokCs (ts ++ us) = tokCs ts ++ tokCs us := by simp [tokCs]
theorem TokSl.left {w : World} {A : Option Addr} {n c : Nat} {ts us : List Tok} (h : TokSl w (.slice A n c) (ts ++ us)) : TokSl w (.slice A ts.length c) ts := by
  obtain ⟨A', c', hv, h⟩ := h
  injection hv with e1 e2 e3
  subst e1 e3
  refine ⟨A, c, rfl, fun h0 => ?_⟩
  obtain ⟨g, o, rfl, hg, hc⟩ := h (by simp; omega)
  refine ⟨g, o, rfl, hg, fun j u hu => hc j u ?_⟩
  rw [tokCs_app, List.getElem?_append_left (List.getElem?_eq_some_iff.1 hu).1]
  exact hu
theorem TokSl.right {w : World} {g o n c c' : Nat} {ts us : List Tok} (h : TokSl w (.slice (some ⟨g, o, none⟩) n c) (ts ++ us)) : TokSl w (.slice (some ⟨g, o + ts.length * 4, none⟩) us.length c') us := by
  obtain ⟨A', c1, hv, h⟩ := h
  injection hv with e1 e2 e3
  subst e1 e3
  refine ⟨_, c', rfl, fun h0 => ?_⟩
  obtain ⟨g', o', hA, hg, hc⟩ := h (by simp; omega)
  injection hA with hA
  injection hA with h1 h2
  subst h1 h2
  refine ⟨g, _, rfl, hg, fun j u hu => ?_⟩
  have := hc (ts.length * 4 + j) u (by rw [tokCs_app, List.getElem?_append_right (by rw [tokCs_length]; omega), tokCs_length, Nat.add_sub_cancel_left]; exact hu)
  rwa [← Nat.add_assoc] at this

theorem TokSl.right' {w : World} {A : Option Addr} {n n' c c' : Nat} {ts us : List Tok} (h : TokSl w (.slice A n c) (ts ++ us)) (hn : n' = us.length) : TokSl w (.slice (A.map fun x => x.add (ts.length * 4)) n' c') us := by
  subst hn
  by_cases h0 : 0 < us.length
  · have hh := h
    obtain ⟨A', c1, hv, h⟩ := hh
    injection hv with e1 e2 e3
    subst e1 e3
    obtain ⟨g', o', hA, hg, hc⟩ := h (by simp; omega)
    subst hA
    have e : ∀ k, (⟨g', o', none⟩ : Addr).add k = ⟨g', o' + k, none⟩ := fun k => by unfold Addr.add; split <;> simp_all
    simp only [Option.map_some, e]
    exact TokSl.right (n := n) (c := c) (by assumption)
  · exact ⟨_, _, rfl, fun h => absurd h h0⟩
theorem TokSl.none {w : World} {A : Option Addr} {n c : Nat} {ts : List Tok} (hn : n = ts.length) (h0 : n = 0) : TokSl w (.slice A n c) ts := by
  subst hn
  exact ⟨_, _, rfl, fun h => by omega⟩

/-- The first k tokens moved by d. -/
def moved (d : Nat) (ts : List Tok) (k : Nat) : List Tok := (ts.take k).map (Tok.shift d) ++ ts.drop k
theorem moved_length (d : Nat) (ts : List Tok) (k : Nat) : (moved d ts k).length = ts.length := by simp [moved]; omega
theorem moved_zero (d : Nat) (ts : List Tok) : moved d ts 0 = ts := by simp [moved]
theorem moved_all (d : Nat) (ts : List Tok) : moved d ts ts.length = ts.map (Tok.shift d) := by simp [moved]
theorem moved_step (d : Nat) (ts : List Tok) (k : Nat) (h : k < ts.length) :
    (tokCs (moved d ts k)).set (k * 4 + 3) (.int .i64 ((ts[k].pos : Int) + d)) = tokCs (moved d ts (k + 1)) := by
  have e1 : moved d ts k = (ts.take k).map (Tok.shift d) ++ ts[k] :: ts.drop (k + 1) := by unfold moved; rw [List.drop_eq_getElem_cons h]
  have e2 : moved d ts (k + 1) = (ts.take k).map (Tok.shift d) ++ (ts[k].shift d) :: ts.drop (k + 1) := by
    unfold moved; rw [List.take_succ_eq_append_getElem h, List.map_append, List.append_assoc]; rfl
  have e3 : ∀ (a : List Tok) (t : Tok) (b : List Tok), tokCs (a ++ t :: b) = tokCs a ++ (tokC t ++ tokCs b) := fun a t b => by simp [tokCs]
  have hl : (tokCs ((ts.take k).map (Tok.shift d))).length = k * 4 := by rw [tokCs_length]; simp; omega
  rw [e1, e2, e3, e3, List.set_append_right _ _ (by omega), hl, show k * 4 + 3 - k * 4 = 3 from by omega]
  simp [tokC, Tok.shift]
theorem moved_at (d : Nat) (ts : List Tok) (k : Nat) (h : k < ts.length) : (tokCs (moved d ts k))[k * 4 + 3]? = some (.int .i64 ts[k].pos) := by
  have h' : k < (moved d ts k).length := by rw [moved_length]; exact h
  have := (tokCs_at (moved d ts k) k h').2.2.2
  rw [this]
  have e1 : moved d ts k = (ts.take k).map (Tok.shift d) ++ ts[k] :: ts.drop (k + 1) := by unfold moved; rw [List.drop_eq_getElem_cons h]
  simp only [e1]
  rw [List.getElem_append_right (by simp; omega)]
  simp [show k - min k ts.length = 0 from by omega]

theorem lies_pos (s : Bytes) (ts : List Tok) : ∀ a, Lies s a ts → ∀ t ∈ ts, t.pos ≤ s.length := by
  induction ts with
  | nil => intro a _ t ht; simp at ht
  | cons u r ih =>
    intro a h t ht
    obtain ⟨_, h2, _, _, _, h6⟩ := h
    rcases List.mem_cons.1 ht with rfl | ht
    · omega
    · exact ih _ h6 t ht
def headS (a m : ByteArray) : ByteArray := a ++ ⟨#[10, 35]⟩ ++ m ++ ⟨#[10]⟩
theorem headS_size (a m : ByteArray) : (headS a m).size = a.size + m.size + 3 := by
  simp only [headS, ByteArray.size_append]
  have h1 : (ByteArray.mk #[10, 35]).size = 2 := rfl
  have h2 : (ByteArray.mk #[10]).size = 1 := rfl
  omega
theorem headS_list (a m b : ByteArray) : (headS a m ++ b).data.toList = a.data.toList ++ 10 :: 35 :: (m.data.toList ++ 10 :: b.data.toList) := by
  simp [headS, ByteArray.data_append]

set_option maxHeartbeats 4000000 in
set_option maxRecDepth 100000 in
theorem law_gaps (a b m : ByteArray) (w : World) (hu : Units w) : Calls Tryd.prog 8 #[.string a, .string b, .string m] w fun e w' => e = .returned (.bool true) ∧ Below w.heap.size w w' := by
  by_cases hA : 1000 < a.size
  · go_enter Tryd.func8, Tryd.ntmps8
    go_wp2_with (go_at_call 15; refine (lex_sanity _ hu).mono ?_; rintro e w1 ⟨rfl, hb1⟩)
    go_ret
    exact ⟨rfl, hb1⟩
  by_cases hB : 1000 < b.size
  · go_enter Tryd.func8, Tryd.ntmps8
    go_wp2_with (go_at_call 15; refine (lex_sanity _ hu).mono ?_; rintro e w1 ⟨rfl, hb1⟩)
    go_ret
    exact ⟨rfl, hb1⟩
  by_cases hM : 1000 < m.size
  · go_enter Tryd.func8, Tryd.ntmps8
    go_wp2_with (go_at_call 15; refine (lex_sanity _ hu).mono ?_; rintro e w1 ⟨rfl, hb1⟩)
    go_ret
    exact ⟨rfl, hb1⟩
  have hal : a.data.toList.length = a.size := by simp
  have hbl : b.data.toList.length = b.size := by simp
  have hml : m.data.toList.length = m.size := by simp
  go_enter Tryd.func8, Tryd.ntmps8
  go_wp2_with (go_at_call 15; refine (lex_sanity _ hu).mono ?_; rintro e w1 ⟨rfl, hb1⟩)
  have hu1 := hu.below hb1 hu.lt
  have hz1 := hb1.size
  go_loop [8] (fun i => ∃ k : Nat, k ≤ m.size ∧ i = .int .i64 k ∧ Hid (∀ j (h : j < m.size), j < k → m[j].toNat ≠ 10)) (fun i => m.size - (intOf i).toNat)
  case atStart => exact ⟨0, by omega, rfl, fun j h h0 => by omega⟩
  case round =>
    obtain ⟨k, hk, rfl, H⟩ := hrel
    by_cases hlt : k < m.size
    · by_cases hc : m[k].toNat = 10
      · have bc := ib_yes (show (m[k].toNat : Int) = 10 by omega)
        go_wp2_with fail
        go_ret
        exact ⟨rfl, hb1⟩
      · have bc := ib_no (show (m[k].toNat : Int) ≠ 10 by omega)
        have H2 : Hid (∀ j (h : j < m.size), j < k + 1 → m[j].toNat ≠ 10) := by
          intro j h hj
          rcases Nat.lt_or_ge j k with h1 | h1
          · exact H j h h1
          · obtain rfl : j = k := by omega
            exact hc
        go_wp2_with fail
        go_round
        case rel => exact ⟨k + 1, by omega, by push_cast; rfl, H2⟩
        case measure => simp [intOf]; omega
    · obtain rfl : k = m.size := by omega
      have ta := lex_tokens a w1 (by omega) hu1
      rw [tokens_small _ (by omega)] at ta
      go_wp2_with fail
      rcases lexAll_cases a.data.toList with ⟨la, hta⟩ | ⟨p, e, hta, he⟩
      · rw [hta] at ta
        refine ta.mono ?_
        rintro e w2 ⟨va, rfl, hoa, hb2⟩
        have hz2 := hb2.size
        have hu2 := hu1.below hb2 hu1.lt
        have hb02 := below_to hb1 hz1 hb2
        clear ta
        simp only [LexSpec.Res.toks, LexSpec.Res.pos, LexSpec.Res.code] at hoa ⊢
        go_wp2_with fail
        have tb := lex_tokens b w2 (by omega) hu2
        rw [tokens_small _ (by omega)] at tb
        rcases lexAll_cases b.data.toList with ⟨lb, htb⟩ | ⟨p, e, htb, he⟩
        · rw [htb] at tb
          refine tb.mono ?_
          rintro e w3 ⟨vb, rfl, hob, hb3⟩
          have hz3 := hb3.size
          have hu3 := hu2.below hb3 hu2.lt
          have hb03 := below_to hb02 (by omega) hb3
          clear tb
          simp only [LexSpec.Res.toks, LexSpec.Res.pos, LexSpec.Res.code] at hob ⊢
          have hhs := headS_size a m
          go_wp2_with fail
          have tc := lex_tokens (headS a m ++ b) w3 (by rw [ByteArray.size_append, hhs]; omega) hu3
          rw [tokens_small _ (by rw [headS_list]; simp; omega), headS_list, lexAll_gaps _ _ _ la lb hta htb (fun c hc => by
            obtain ⟨j, hj, rfl⟩ := List.getElem_of_mem hc
            have := H.out j (by omega) (by omega)
            simpa [ByteArray.getElem_eq_getElem_data] using this)] at tc
          refine tc.mono ?_
          rintro e w4 ⟨vc, rfl, hoc, hb4⟩
          have hz4 := hb4.size
          clear tc
          simp only [LexSpec.Res.toks, LexSpec.Res.pos, LexSpec.Res.code] at hoc ⊢
          have hna := own_ltB hoa
          have hba := own_base hob
          have hoa4 := own_below (own_below hoa hb3) hb4
          have hob4 := own_below hob hb4
          have hlb : b.size < 2000000 := by omega
          have hna' := lexAll_len _ _ hta
          have hnb' := lexAll_len _ _ htb
          have hcl : (la ++ lb.map (Tok.shift (a.data.toList.length + m.data.toList.length + 3))).length = la.length + lb.length := by simp
          rw [hcl] at hoc
          obtain ⟨VA, ca, rfl⟩ := own_slice hoa
          obtain ⟨VB, cb, rfl⟩ := own_slice hob
          obtain ⟨VC, cc, rfl⟩ := own_slice hoc
          have HOC := Lib.hid hoc
          have HOA := Lib.hid hoa4
          have HNA := Lib.hid hna
          have HBA := Lib.hid hba
          have HLB := Lib.hid (own_ltB hob)
          have HTB := Lib.hid hob4
          have HPB := Lib.hid (lies_pos _ _ _ (lies _ (by omega) _ htb))
          clear hoa hob hoc hoa4 hob4 hta htb hna hba
          have hhd : a ++ { data := #[10, 35] } ++ m ++ { data := #[10] } = headS a m := rfl
          go_wp2_with fail
          rw [hhd]
          generalize headS a m = hd at hhs
          rw [show a.data.toList.length + m.data.toList.length + 3 = hd.size from by omega] at HOC
          generalize hgd : hd.size = d at HOC
          go_loopw [19] (fun i wr => ∃ k : Nat, i = .int .i64 k ∧ k ≤ lb.length ∧ Hid (wr.ownsRow w2.heap.size 36 4 (.slice VB lb.length cb) lb.length (tokCs (moved d lb k))) ∧ Hid (w4.grownBy wr (Value.slice VB lb.length cb).ownBlock)) (fun i _ => lb.length - (intOf i).toNat)
          case atStart => exact ⟨0, rfl, by omega, by rw [moved_zero]; exact HTB, ⟨rfl, rfl, rfl, Nat.le_refl _, fun _ _ _ => rfl⟩⟩
          case round =>
            obtain ⟨k, rfl, hk, HR, HW⟩ := hrel
            by_cases hlt : k < lb.length
            · have HR1 := HR.out
              obtain ⟨g, cap, hv, _, hgl⟩ := HR1.form (by omega)
              obtain rfl : VB = some ⟨g, 0, none⟩ := by injection hv
              have hpb := HPB.out lb[k] (List.getElem_mem _)
              have hst := HR1.stored (k * 4 + 3) (.int .i64 ((lb[k].pos : Int) + d))
              have hcell := (HR1.cellAt (k * 4 + 3) (by omega)).trans (moved_at d lb k hlt)
              have hfr := HR1.frozenAt (k * 4 + 3)
              rw [moved_step d lb k hlt, show (d : Int) = (a.size : Int) + (m.size : Int) + 3 from by omega] at hst
              have HS := Lib.hid hst
              clear hst HR1
              go_wp2_with fail
              refine ⟨?_, ?measure⟩
              · exact ⟨k + 1, by push_cast; rfl, by omega, Lib.hid HS.out.1, Lib.hid (grown_to HW.out HS.out.2)⟩
              case measure => simp [intOf]; omega
            · obtain rfl : k = lb.length := by omega
              rw [moved_all] at HR
              have hcc := own_cap HOC.out
              have hne : ∀ k, (Value.slice VA la.length ca).ownBlock = some k → some k ≠ (Value.slice VB lb.length cb).ownBlock := fun k h e => by
                have h1 := HNA.out k h
                have h2 := HBA.out k e.symm
                omega
              have hoa := HOA.out.kept HW.out (by cases h : (Value.slice VA la.length ca).ownBlock with | none => exact .inl rfl | some k => exact .inr (hne k h))
              have hoc := HOC.out.kept HW.out (by
                cases h : (Value.slice VC (la.length + lb.length) cc).ownBlock with
                | none => exact .inl rfl
                | some k =>
                  refine .inr fun e => ?_
                  have h1 := own_base HOC.out k h
                  have h2 := HLB.out k e.symm
                  omega)
              have hta := TokSl.of_own hoa
              have htb : TokSl wr (.slice VB lb.length cb) (lb.map (Tok.shift d)) := by
                have := TokSl.of_own (ts := lb.map (Tok.shift d)) (v := .slice VB lb.length cb) (w := wr) (B := w2.heap.size) (by rw [List.length_map]; exact HR.out)
                exact this
              have htc := TokSl.of_own (ts := la ++ lb.map (Tok.shift d)) (v := .slice VC (la.length + lb.length) cc) (w := wr) (B := w3.heap.size) (by rw [List.length_append, List.length_map]; exact hoc)
              have hbw : Below w.heap.size w wr := (below_to hb03 (by omega) hb4).trans (below_of_grown HW.out (by omega) (fun k e => by have := HBA.out k e; omega))
              go_wp2_with fail
              refine (ref_same _ _ la la true _ htc.left hta (by omega) (Agree.refl _ _)).mono ?_
              rintro e w5 ⟨rfl, n5, rfl⟩
              have hdr : Below wr.heap.size wr (wr.drewN n5) := below_drewN (Below.refl _ _) _
              have htb5 := htb.below hdr
              have htc5 := htc.below hdr
              have HLL : Hid (lb.length = (lb.map (Tok.shift d)).length) := by simp [Hid]
              go_wp2_with fail
              · refine (ref_same _ _ (lb.map (Tok.shift d)) (lb.map (Tok.shift d)) true _ (TokSl.none HLL.out (by omega)) htb5 (by rw [← HLL.out]; omega) (Agree.refl _ _)).mono ?_
                rintro e w6 ⟨rfl, n6, rfl⟩
                go_wp2_with fail
                go_ret
                exact ⟨rfl, below_drewN hbw _⟩
              · refine (ref_same _ _ (lb.map (Tok.shift d)) (lb.map (Tok.shift d)) true _ (htc5.right' HLL.out) htb5 (by rw [← HLL.out]; omega) (Agree.refl _ _)).mono ?_
                rintro e w6 ⟨rfl, n6, rfl⟩
                go_wp2_with fail
                go_ret
                exact ⟨rfl, below_drewN hbw _⟩
        · rw [htb] at tb
          have hne := bne_iff_ne.2 (show (e : Int) ≠ 0 by omega)
          refine tb.mono ?_
          rintro e' w3 ⟨vb, rfl, hob, hb3⟩
          have hb03 := below_to hb02 (by omega) hb3
          clear tb
          simp only [LexSpec.Res.toks, LexSpec.Res.pos, LexSpec.Res.code] at hob ⊢
          go_wp2_with fail
          go_ret
          exact ⟨rfl, hb03⟩
      · rw [hta] at ta
        have hne := bne_iff_ne.2 (show (e : Int) ≠ 0 by omega)
        refine ta.mono ?_
        rintro e' w2 ⟨va, rfl, hoa, hb2⟩
        have hz2 := hb2.size
        have hu2 := hu1.below hb2 hu1.lt
        have hb02 := below_to hb1 hz1 hb2
        clear ta
        simp only [LexSpec.Res.toks, LexSpec.Res.pos, LexSpec.Res.code] at hoa ⊢
        go_wp2_with fail
        have tb := lex_tokens b w2 (by omega) hu2
        refine tb.mono ?_
        rintro e' w3 ⟨vb, rfl, hob, hb3⟩
        have hb03 := below_to hb02 (by omega) hb3
        clear tb
        go_wp2_with fail
        go_ret
        exact ⟨rfl, hb03⟩
end Go.Proofs.YtecldgjdmomilaaDoor
