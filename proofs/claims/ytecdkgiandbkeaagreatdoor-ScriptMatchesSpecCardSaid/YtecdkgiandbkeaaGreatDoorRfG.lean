/-
  The reference: Print.
-/
import Derived.Test.YtecdkgiandbkeaaGreatDoorRfF
namespace Go.Proofs.YtecdkgiandbkeaaGreatDoor
open Go.RowKit ScSpec Go.Sort

def txB : Bytes := [116, 101, 120, 116, 10, 124]
theorem barred_step (t : Bytes) {j : Nat} (h : j < t.length) : barred (t.take (j + 1)) = barred (t.take j) ++ (if t[j].toNat = 10 then [10, 124] else [t[j]]) := by
  unfold barred
  rw [flatMap_snoc _ t j h]
theorem print_bad {s : Scr} (h : (check s).2 ≠ 0) : print s = ([], (check s).2) := by unfold print; rw [if_neg h]
theorem print_good {s : Scr} (h : (check s).2 = 0) : print s = (printed s, 0) := by unfold print; rw [if_pos h]
theorem barred_take_len (t : Bytes) (h : t.length ≤ 4000) (j : Nat) : (barred (t.take j)).length ≤ 8000 := by
  have := barred_len (t.take j)
  have h2 : (t.take j).length ≤ t.length := List.length_take_le' _ _
  omega
theorem PO.drew {w0 w : World} {v : Value} {acc : Bytes} (h : PO w0 w v acc) : PO w0 w.drew v acc := ⟨below_drew h.bel, h.own⟩
theorem wrap_u8_in (n : Int) (h0 : 0 ≤ n) (h1 : n < 256) : IntKind.u8.wrap n = n := by
  rw [IntKind.wrap_u8]
  omega
set_option maxHeartbeats 16000000 in
set_option maxRecDepth 100000 in
theorem ref_print (v : Value) (s : Scr) (hsm : Small s) (hts : ∀ t ∈ s.texts, t.length ≤ 140737488355328) (w : World) (hr : ScrV w v s) :
    Calls Tryz.prog 25 #[v] w fun e w' => e = .returned (.tuple #[.string (strB (print s).1), .int .i64 (print s).2]) ∧ Below w.heap.size w w' := by
  obtain ⟨va, vb, rfl, hT, hS⟩ := hr
  obtain ⟨A, c, rfl⟩ := strs_slice hT
  obtain ⟨B, d, rfl⟩ := steps_slice hS
  have hob : Below w.heap.size w (w.alloc (.cells #[.slice A s.texts.length c, .slice B s.steps.length d] 26)) := (Below.refl _ w).alloc (Nat.le_refl _) _
  have HT := Lib.hid (hT.below hob)
  have HS := Lib.hid (hS.below hob)
  have HX := Lib.hid (Box.made w 26 #[.slice A s.texts.length c, .slice B s.steps.length d])
  have HC := Lib.hid (ref_check (.agg #[.slice A s.texts.length c, .slice B s.steps.length d]) s hsm hts _ ⟨_, _, rfl, HT.out, HS.out⟩)
  clear hT hS hts
  by_cases hv : (check s).2 = 0
  case neg =>
    have HP := Lib.hid (print_bad hv)
    have hb := bne_iff_ne.2 hv
    generalize (check s).2 = E at HC hb HP
    generalize (check s).1 = I at HC
    clear hv
    go_enter Tryz.func25, Tryz.ntmps25
    go_wp2_with fail
    refine HC.out.mono ?_
    rintro e w1 ⟨rfl, hb1⟩
    go_wp2_with fail
    go_ret2
    exact ⟨by rw [HP.out]; rfl, below_to hob hob.size hb1⟩
  case pos =>
    have HP := Lib.hid (print_good hv)
    rw [hv] at HC
    generalize (check s).1 = I at HC
    have HV := Lib.hid (valid_check hv)
    have hn1 := HV.out.few
    have hn2 := HV.out.few2
    clear hv hsm
    go_enter Tryz.func25, Tryz.ntmps25
    go_wp2_with fail
    refine HC.out.mono ?_
    rintro e W ⟨rfl, hb1⟩
    have hcW := below_to hob hob.size hb1
    have HT1 := Lib.hid (HT.out.below hb1)
    have HS1 := Lib.hid (HS.out.below hb1)
    have HX1 := Lib.hid (HX.out.below hb1 HX.out.lt)
    clear hob HT HS HX HC hb1
    generalize w.heap.size = G at HX1 ⊢
    have HY : Hid (∀ wr, Below W.heap.size W wr → wr.cell? ⟨G, 0, none⟩ = some (.slice A s.texts.length c) ∧ wr.cell? ⟨G, 1, none⟩ = some (.slice B s.steps.length d)) :=
      fun wr hb => ⟨(HX1.out.below hb HX1.out.lt).look 0, (HX1.out.below hb HX1.out.lt).look 1⟩
    clear HX1
    go_wp2_with fail
    go_loopw [6, 7] (fun v i wr => ∃ k : Nat, k ≤ s.texts.length ∧ i = .int .i64 k ∧ PO W wr v ((s.texts.take k).flatMap printText)) (fun _ i _ => s.texts.length - (intOf i).toNat)
    case atStart => exact ⟨0, by omega, rfl, PO.nil W⟩
    case round =>
      obtain ⟨k, hk, rfl, H⟩ := hrel
      obtain ⟨y0, y1⟩ := HY.out wr H.bel
      by_cases hlt : k < s.texts.length
      · obtain ⟨g, q, c', hvv, hg, c0⟩ := texts_get HT1.out hlt
        obtain rfl : A = some ⟨g, q, none⟩ := by injection hvv
        have HC0 : Hid (∀ wr, Below W.heap.size W wr → wr.cell? ⟨g, q + k, none⟩ = some (.string (strB s.texts[k]))) := fun wr hb => (hb.cell (p := ⟨g, q + k, none⟩) hg).trans c0
        have hsh := HV.out.short s.texts[k] (List.getElem_mem _)
        have hal := texts_len HV.out k
        have HSN := Lib.hid (flatMap_snoc printText s.texts k hlt)
        generalize s.texts[k] = t at HC0 hsh HSN
        generalize (s.texts.take k).flatMap printText = acc at H hal HSN
        have hz := strB_size t
        have HAT := Lib.hid fun i (h : i < (strB t).size) (h' : i < t.length) => strB_ix t h h'
        generalize strB t = b at HC0 hz HAT
        have HZ := Lib.hid hz
        have hbz : b.size ≤ 4000 := by omega
        have i1 : (0 : Int) ≤ (k : Int) := by omega
        have i2 : (k : Int) < (s.texts.length : Int) := by omega
        clear hvv c0 hz
        have hlen1 : acc.length + txB.length ≤ 1000000000 := by have : txB.length = 6 := rfl; omega
        go_wp2_with (at_builtin; refine wp_putS txB H (by rfl) (by rfl) (by rfl) (by rfl) (by rfl) hlen1 ?_; intro v1 w1 H1 hk1; clear H)
        go_loopw [6, 8] (fun v i wr => ∃ j : Nat, j ≤ b.size ∧ i = .int .i64 j ∧ PO W wr v (acc ++ txB ++ barred (t.take j))) (fun _ i _ => b.size - (intOf i).toNat)
        case atStart => exact ⟨0, by omega, rfl, by simpa [barred] using H1⟩
        case round =>
          obtain ⟨j, hj, rfl, H⟩ := hrel
          obtain ⟨x0, x1⟩ := HY.out wr H.bel
          have x2 := HC0.out wr H.bel
          have hbl := barred_take_len t hsh j
          have hlen2 : (acc ++ txB ++ barred (t.take j)).length ≤ 200000 := by
            have : txB.length = 6 := rfl
            rw [List.length_append, List.length_append]; omega
          by_cases hlj : j < b.size
          · have hjt : j < t.length := by have := HZ.out; omega
            have hbt := HAT.out j hlj hjt
            have HB := Lib.hid (barred_step t hjt)
            rw [← hbt] at HB
            have j1 : (0 : Int) ≤ (j : Int) := by omega
            have j2 : (j : Int) < (b.size : Int) := by omega
            have hlen3 : (acc ++ txB ++ barred (t.take j)).length + [b[j]].length ≤ 1000000000 := by rw [List.length_singleton]; omega
            have hlen4 : (acc ++ txB ++ barred (t.take j) ++ [b[j]]).length + ([124] : Bytes).length ≤ 1000000000 := by rw [List.length_append, List.length_singleton, List.length_singleton]; omega
            obtain ⟨ac2, hac⟩ : ∃ X, acc ++ txB ++ barred (t.take j) = X := ⟨_, rfl⟩
            rw [hac] at H hlen3 hlen4
            have HAC := Lib.hid hac
            clear hbt hbl hlen2 hjt hac
            by_cases e10 : b[j].toNat = 10
            · have b1 := ib_yes (show (b[j].toNat : Int) = 10 by omega)
              have HE : Hid (ac2 ++ [b[j]] ++ [124] = ac2 ++ (if b[j].toNat = 10 then [10, 124] else [b[j]])) := by
                show _ = _
                have e : b[j] = 10 := UInt8.toNat_inj.1 e10
                rw [if_pos e10, e, List.append_assoc]; rfl
              clear e10
              go_wp2_with (first
                | (at_builtin; refine wp_put [b[j]] H (by rfl) (by rfl) (by rfl) (by rfl) (by rfl) (by rfl) hlen3 ?_; intro v1 w2 H2 hk2; obtain ⟨z0, z1⟩ := HY.out w2 H2.bel; have z2 := HC0.out w2 H2.bel; clear H)
                | (at_builtin; refine wp_put [124] H2 (by rfl) (by rfl) (by rfl) (by rfl) (by rfl) (by rfl) hlen4 ?_; intro v2 w3 H3 hk3; clear H2))
              go_roundw
              case rel => exact ⟨j + 1, by omega, by push_cast; rfl, by rw [HB.out, ← List.append_assoc, HAC.out, ← HE.out]; exact H3⟩
              case measure => simp [intOf]; omega
            · have b1 := ib_no (show (b[j].toNat : Int) ≠ 10 by omega)
              have HE : Hid (ac2 ++ [b[j]] = ac2 ++ (if b[j].toNat = 10 then [10, 124] else [b[j]])) := by
                show _ = _
                rw [if_neg e10]
              clear e10
              go_wp2_with (at_builtin; refine wp_put [b[j]] H (by rfl) (by rfl) (by rfl) (by rfl) (by rfl) (by rfl) hlen3 ?_; intro v1 w2 H2 hk2; obtain ⟨z0, z1⟩ := HY.out w2 H2.bel; have z2 := HC0.out w2 H2.bel; clear H)
              go_roundw
              case rel => exact ⟨j + 1, by omega, by push_cast; rfl, by rw [HB.out, ← List.append_assoc, HAC.out, ← HE.out]; exact H2⟩
              case measure => simp [intOf]; omega
          · have hjt : t.length ≤ j := by have := HZ.out; omega
            have hlen3 : (acc ++ txB ++ barred t).length + ([10] : Bytes).length ≤ 1000000000 := by
              rw [List.take_of_length_le hjt] at hlen2
              rw [List.length_singleton]; omega
            have HPT : Hid (acc ++ txB ++ barred t ++ [10] = acc ++ printText t) := by
              show _ = _
              simp [printText, txB, List.append_assoc]
            rw [List.take_of_length_le hjt] at H
            clear hbl hlen2 hjt
            go_wp2_with (at_builtin; refine wp_put [10] H (by rfl) (by rfl) (by rfl) (by rfl) (by rfl) (by rfl) hlen3 ?_; intro v2 w3 H3 hk3; clear H)
            go_roundw
            case rel => exact ⟨k + 1, by omega, by push_cast; rfl, by rw [HSN.out, ← HPT.out]; exact H3⟩
            case measure => simp [intOf]; omega
      · obtain rfl : k = s.texts.length := by omega
        rw [List.take_length] at H
        have hal := texts_len HV.out s.texts.length
        rw [List.take_length] at hal
        have HPR : Hid (printed s = s.texts.flatMap printText ++ s.steps.flatMap printStep) := rfl
        generalize s.texts.flatMap printText = ac0 at H hal HPR
        go_wp2_with fail
        go_loopw [6, 9] (fun v i wr => ∃ k : Nat, k ≤ s.steps.length ∧ i = .int .i64 k ∧ PO W wr v (ac0 ++ (s.steps.take k).flatMap printStep)) (fun _ i _ => s.steps.length - (intOf i).toNat)
        case atStart => exact ⟨0, by omega, rfl, by simpa using H⟩
        case round =>
          obtain ⟨k, hk, rfl, H⟩ := hrel
          obtain ⟨y0, y1⟩ := HY.out wr H.bel
          by_cases hlt : k < s.steps.length
          · obtain ⟨g, q, c', a, hvv, hg, d0, d1, d2, hra⟩ := steps_get HS1.out hlt
            obtain rfl : B = some ⟨g, q, none⟩ := by injection hvv
            have c0 := (H.bel.cell (p := ⟨g, q + k * 3, none⟩) hg).trans d0
            have c1 := (H.bel.cell (p := ⟨g, q + k * 3 + 1, none⟩) hg).trans d1
            have c2 := (H.bel.cell (p := ⟨g, q + k * 3 + 2, none⟩) hg).trans d2
            have hsl := steps_len HV.out k
            have hst := HV.out.steps s.steps[k] (List.getElem_mem _)
            have HSN := Lib.hid (flatMap_snoc printStep s.steps k hlt)
            generalize s.steps[k] = x at c0 c1 c2 hra hst HSN
            obtain ⟨ac1, hac1⟩ : ∃ X, ac0 ++ (s.steps.take k).flatMap printStep = X := ⟨_, rfl⟩
            have hl1 : ac1.length ≤ 3700000 := by rw [← hac1, List.length_append]; omega
            rw [hac1] at H
            have HAC1 := Lib.hid hac1
            obtain ⟨Ax, cx, rfl⟩ := rowV_slice hra
            have HRA := Lib.hid hra
            have HST := Lib.hid hst
            have i1 : (0 : Int) ≤ (k : Int) := by omega
            have i2 : (k : Int) < (s.steps.length : Int) := by omega
            have hbx := Box.made wr 54 #[.int .i64 x.kind, .slice Ax x.args.length cx, .string (strB x.text)]
            have H0 := H.fresh (.cells #[.int .i64 x.kind, .slice Ax x.args.length cx, .string (strB x.text)] 54)
            have hn10 := name_len x.kind
            have hlen1 : ac1.length + (name x.kind).length ≤ 1000000000 := by omega
            clear hvv hac1 hst hra hsl d0 d1 d2
            go_wp2_with fail
            refine (ref_name x.kind _).mono ?_
            rintro e w2 ⟨rfl, hb2⟩
            have H2 := H0.call hb2
            have HBX := Lib.hid (hbx.below hb2 hbx.lt)
            generalize wr.heap.size = gx at HBX ⊢
            clear hbx H0 H hb2
            go_wp2_with (at_builtin; refine wp_putS (name x.kind) H2 (by rfl) (by rfl) (by rfl) (by rfl) (by rfl) hlen1 ?_; intro v3 w3 H3 hk3; have HBX3 := Lib.hid (hk3 _ _ _ (by decide) HBX.out); clear H2 HBX)
            obtain ⟨ac3, hac3⟩ : ∃ X, ac1 ++ name x.kind = X := ⟨_, rfl⟩
            have hl3 : ac3.length ≤ 3700100 := by rw [← hac3, List.length_append]; omega
            rw [hac3] at H3
            have HAC3 := Lib.hid hac3
            have h18 := isStep_args HST.out
            clear hac3 y0 y1 c0 c1 c2 hlen1 hn10
            go_loopw [6, 11] (fun v i wr2 => ∃ j : Nat, j ≤ x.args.length ∧ i = .int .i64 j ∧ PO W wr2 v (ac3 ++ (x.args.take j).flatMap (fun n => 32 :: digits n.toNat)) ∧ Hid (Box wr2 gx 54 #[.int .i64 x.kind, .slice Ax x.args.length cx, .string (strB x.text)])) (fun _ i _ => x.args.length - (intOf i).toNat)
            case atStart => exact ⟨0, by omega, rfl, by simpa using H3, HBX3⟩
            case round =>
              obtain ⟨j, hj, rfl, H, HBX⟩ := hrel
              have z1 := HBX.out.look 1
              have hal := args_len HST.out j
              by_cases hlj : j < x.args.length
              · obtain ⟨ga, qa, ca, hva, hga, e0⟩ := ints_get HRA.out hlj
                obtain rfl : Ax = some ⟨ga, qa, none⟩ := by injection hva
                have hza := (isStep_parts HST.out).2.1 x.args[j] (List.getElem_mem _)
                have HSA := Lib.hid (flatMap_snoc (fun n : Int => 32 :: digits n.toNat) x.args j hlj)
                generalize x.args[j] = z at e0 hza HSA
                obtain ⟨m, rfl⟩ : ∃ m : Nat, z = m := ⟨z.toNat, by omega⟩
                rw [Int.toNat_natCast] at HSA
                have HE0 : Hid (∀ wr, Below W.heap.size W wr → wr.cell? ⟨ga, qa + j, none⟩ = some (.int .i64 m)) := fun wr hb => (hb.cell (p := ⟨ga, qa + j, none⟩) hga).trans e0
                obtain ⟨ac4, hac4⟩ : ∃ X, ac3 ++ (x.args.take j).flatMap (fun n => 32 :: digits n.toNat) = X := ⟨_, rfl⟩
                have hl4 : ac4.length ≤ 3700500 := by rw [← hac4, List.length_append]; omega
                rw [hac4] at H
                have HAC4 := Lib.hid hac4
                have hdl := digits_len 18 m (by omega)
                have HDG := Lib.hid (ref_digits m (by omega))
                have hlen1 : ac4.length + ([32] : Bytes).length ≤ 1000000000 := by rw [List.length_singleton]; omega
                have hlen2 : (ac4 ++ [32]).length + (digits m).length ≤ 1000000000 := by rw [List.length_append, List.length_singleton]; omega
                have j1 : (0 : Int) ≤ (j : Int) := by omega
                have j2 : (j : Int) < (x.args.length : Int) := by omega
                clear hva e0 hac4 hza hal hdl
                go_wp2_with (at_builtin; refine wp_put [32] H (by rfl) (by rfl) (by rfl) (by rfl) (by rfl) (by rfl) hlen1 ?_; intro v4 w4 H4 hk4; have HBX4 := Lib.hid (hk4 _ _ _ (by decide) HBX.out); have z14 := HBX4.out.look 1; have e04 := HE0.out w4 H4.bel; clear H HBX)
                refine (HDG.out w4).mono ?_
                rintro e w5 ⟨rfl, hb5⟩
                have H5 := H4.call hb5
                have HBX5 := Lib.hid (HBX4.out.below hb5 HBX4.out.lt)
                clear H4 hb5 z14 e04 HBX4
                go_wp2_with (at_builtin; refine wp_putS (digits m) H5 (by rfl) (by rfl) (by rfl) (by rfl) (by rfl) hlen2 ?_; intro v6 w6 H6 hk6; have HBX6 := Lib.hid (hk6 _ _ _ (by decide) HBX5.out); clear H5 HBX5)
                go_roundw
                case rel => exact ⟨j + 1, by omega, by push_cast; rfl, by rw [HSA.out, ← List.append_assoc, HAC4.out]; simpa [List.append_assoc] using H6, HBX6⟩
                case measure => simp [intOf]; omega
              · obtain rfl : j = x.args.length := by omega
                rw [List.take_length] at H hal
                obtain ⟨ac5, hac5⟩ : ∃ X, ac3 ++ x.args.flatMap (fun n => 32 :: digits n.toNat) = X := ⟨_, rfl⟩
                have hl5 : ac5.length ≤ 3700500 := by rw [← hac5, List.length_append]; omega
                rw [hac5] at H
                have hps : ac5 ++ (printTail x.text ++ [10]) = ac1 ++ printStep x := by rw [← hac5, ← HAC3.out, printStep_split]; simp [List.append_assoc]
                have HPS := Lib.hid hps
                clear hac5 hps hal
                have htl := text_len HST.out
                rcases data_ok (isStep_parts HST.out).2.2 with e | ⟨r, e, hr⟩ | ⟨r, n, e, hd, _⟩
                · rw [e, strB_nil] at HBX
                  rw [e] at HPS
                  have z2 := HBX.out.look 2
                  have hlen1 : ac5.length + ([10] : Bytes).length ≤ 1000000000 := by rw [List.length_singleton]; omega
                  clear e htl
                  have hlenZ := hlen1
                  clear hlen1
                  go_wp2_with fail
                  go_loopw [6, 12] (fun v i wr2 => i = .int .i64 1 ∧ PO W wr2 v ac5 ∧ Hid (Box wr2 gx 54 #[.int .i64 x.kind, .slice Ax x.args.length cx, .string ⟨#[]⟩])) (fun _ _ _ => 0)
                  case atStart => exact ⟨rfl, H, HBX⟩
                  case round =>
                    obtain ⟨rfl, H, HBX⟩ := hrel
                    have z2 := HBX.out.look 2
                    go_wp2_with (at_builtin; refine wp_put [10] H (by rfl) (by rfl) (by rfl) (by rfl) (by rfl) (by rfl) hlenZ ?_; intro v8 w8 H8 hk8; clear H)
                    go_roundw
                    case rel => exact ⟨k + 1, by omega, by push_cast; rfl, by rw [HSN.out, ← List.append_assoc, HAC1.out, ← HPS.out]; simpa [printTail, List.append_assoc] using H8⟩
                    case measure => simp [intOf]; omega
                · obtain ⟨c, hc0⟩ : ∃ c : UInt8, c = 61 := ⟨_, rfl⟩
                  rw [← hc0] at e
                  have hcn : c.toNat = 61 := by rw [hc0]; rfl
                  rw [e] at HBX HPS
                  have hz : (strB (c :: r)).size = r.length + 1 := by rw [strB_size]; rfl
                  have hq0 : ∀ h : 0 < (strB (c :: r)).size, (strB (c :: r))[0].toNat = c.toNat := fun _ => rfl
                  have HAT : Hid (∀ i (h : i + 1 < (strB (c :: r)).size) (h' : i < r.length), (strB (c :: r))[i + 1]'h = r[i]'h') := fun i h h' => rfl
                  have he := isEmpty_cons c r
                  have hrl : r.length ≤ 4000 := by rw [e] at htl; simp only [List.length_cons] at htl; omega
                  have hpt : printTail (c :: r) = 32 :: c :: hexs r := by simp only [printTail]; rw [if_neg (by omega)]; rw [hc0]
                  rw [hpt] at HPS
                  have hcc : #[Value.int .u8 32, Value.int .u8 (c.toNat : Int)].toList = Lib.byteCells [32, c] := rfl
                  clear e htl hpt hc0 z1
                  generalize strB (c :: r) = b at HBX hz hq0 HAT he
                  have h0 : 0 < b.size := by omega
                  have hbz : b.size ≤ 4001 := by omega
                  have e0 := hq0 h0
                  rw [← e0] at hcc
                  have HCC := Lib.hid hcc
                  have b1 := ib_no (show (b[0].toNat : Int) ≠ 64 by omega)
                  have HZ := Lib.hid hz
                  have hlen1 : ac5.length + ([32, c] : Bytes).length ≤ 1000000000 := by have : ([32, c] : Bytes).length = 2 := rfl; omega
                  have z1 := HBX.out.look 1
                  have z2 := HBX.out.look 2
                  clear hz hq0 e0 hcc
                  go_wp2_with (at_builtin; refine wp_put [32, c] H (by rfl) (by rfl) (by rfl) (by rfl) HCC.out (by rfl) hlen1 ?_; intro v6 w6 H6 hk6; have HBX6 := Lib.hid (hk6 _ _ _ (by decide) HBX.out); clear H HBX)
                  go_loopw [6, 12] (fun v i wr2 => ∃ j : Nat, 1 ≤ j ∧ j ≤ b.size ∧ i = .int .i64 j ∧ PO W wr2 v (ac5 ++ [32, c] ++ hexs (r.take (j - 1))) ∧ Hid (Box wr2 gx 54 #[.int .i64 x.kind, .slice Ax x.args.length cx, .string b])) (fun _ i _ => b.size - (intOf i).toNat)
                  case atStart => exact ⟨1, by omega, by omega, rfl, by simpa [hexs] using H6, HBX6⟩
                  case round =>
                    obtain ⟨j, hj1, hj, rfl, H, HBX⟩ := hrel
                    have z2 := HBX.out.look 2
                    by_cases hlj : j < b.size
                    · obtain ⟨i, rfl⟩ : ∃ i, j = i + 1 := ⟨j - 1, by omega⟩
                      have hir : i < r.length := by have := HZ.out; omega
                      have hbt := HAT.out i hlj hir
                      have htk : r.take (i + 1) = r.take i ++ [r[i]] := List.take_succ_eq_append_getElem hir
                      rw [← hbt] at htk
                      have HTK := Lib.hid htk
                      have HACL : (ac5 ++ [32, c] ++ hexs (r.take (i + 1 - 1))).length ≤ 3800000 := by
                        have h1 : (r.take (i + 1 - 1)).length ≤ r.length := List.length_take_le' _ _
                        have h2 := hexs_length (r.take (i + 1 - 1))
                        have : ([32, c] : Bytes).length = 2 := rfl
                        simp only [List.length_append]; omega
                      rw [Nat.add_sub_cancel] at H HACL
                      have hb8 : b[i + 1].toNat < 256 := b[i + 1].toNat_lt
                      clear hbt htk
                      have j1 : (0 : Int) ≤ (i : Int) + 1 := by omega
                      have j2 : (i : Int) + 1 < (b.size : Int) := by omega
                      have j3 : ((i : Int) + 1).toNat = i + 1 := by omega
                      have hlen3 : (ac5 ++ [32, c] ++ hexs (r.take i)).length + 2 ≤ 1000000000 := by omega
                      have i1 : (0 : Int) ≤ (b[i + 1].toNat : Int) / 16 := by omega
                      have i2 : (b[i + 1].toNat : Int) / 16 < 16 := by omega
                      have i3 : (b[i + 1].toNat : Int) % 16 < 16 := by omega
                      have i4 : (0 : Int) ≤ (b[i + 1].toNat : Int) % 16 := by omega
                      have HCX := Lib.hid (hex_cells b[i + 1] (by show _ < 16; omega) (by show _ < 16; omega))
                      have hw1 : IntKind.u8.wrap ((b[i + 1].toNat : Int) / 16) = (b[i + 1].toNat : Int) / 16 := wrap_u8_in _ (by omega) (by omega)
                      have hw2 : (b[i + 1].toNat : Int).tmod 16 = (b[i + 1].toNat : Int) % 16 := Int.tmod_eq_emod_of_nonneg (by omega)
                      have hbx : ∀ o : Obj, W.heap.size ≤ (wr.alloc o).heap.size := fun o => by have := H.bel.size; simp; omega
                      go_wp2_with fail
                      go_region_held3 (fun w' => w'.cell? ⟨gx, 2, none⟩ = some (.string b)) (go_keep) ((refine step_appendM 2 W.heap.size (by rfl) _ _ 62 5 _ 1 1 (by rfl) Tryz.underlying62 infoByte (by rfl) (by decide) (by decide) _ (ac5 ++ [32, c] ++ hexs (r.take i)).length (Lib.byteCells (ac5 ++ [32, c] ++ hexs (r.take i))) _ (by rfl) wr.heap.size (by rfl) (heap_alloc_new wr _) (by rfl) (by intro u hu; simp at hu; rcases hu with rfl | rfl <;> rfl) (H.own.alloc _) (hbx _) (by omega) (by omega) ?_; intro v1 w2 hown2 hg2; have HBX7 := Lib.hid (box_grown (show Box (wr.alloc _).drew gx 54 _ from HBX.out.alloc _) (show (wr.alloc _).drew.ownsRow _ _ _ _ _ _ from H.own.alloc _) hg2 (by decide)); have z27 := HBX7.out.look 2))
                      all_goals
                        rw [HCX.out] at hown2
                        have H7 := ((H.fresh _).drew.grown (l := [hexD (b[i + 1].toNat / 16), hexD (b[i + 1].toNat % 16)]) hown2 hg2).1
                        clear hown2 hg2 H HBX hw1 hw2 z2
                        go_wp2_with fail
                        go_roundw
                        case rel => exact ⟨i + 1 + 1, by omega, by omega, by push_cast; rfl, by rw [Nat.add_sub_cancel, HTK.out, hexs_snoc, ← List.append_assoc]; exact H7, HBX7⟩
                        case measure => simp [intOf]; omega
                    · have hj2 : j - 1 = r.length := by have := HZ.out; omega
                      rw [hj2, List.take_length] at H
                      have hlenZ : (ac5 ++ [32, c] ++ hexs r).length + ([10] : Bytes).length ≤ 1000000000 := by
                        have h2 := hexs_length r
                        have : ([32, c] : Bytes).length = 2 := rfl
                        simp only [List.length_append, List.length_singleton]; omega
                      clear hj2
                      go_wp2_with (at_builtin; refine wp_put [10] H (by rfl) (by rfl) (by rfl) (by rfl) (by rfl) (by rfl) hlenZ ?_; intro v8 w8 H8 hk8; clear H)
                      go_roundw
                      case rel => exact ⟨k + 1, by omega, by push_cast; rfl, by rw [HSN.out, ← List.append_assoc, HAC1.out, ← HPS.out]; simpa [printTail, List.append_assoc] using H8⟩
                      case measure => simp [intOf]; omega
                · obtain ⟨c, hc0⟩ : ∃ c : UInt8, c = 64 := ⟨_, rfl⟩
                  rw [← hc0] at e
                  have hcn : c.toNat = 64 := by rw [hc0]; rfl
                  rw [e] at HBX HPS
                  have hz : (strB (c :: r)).size = r.length + 1 := by rw [strB_size]; rfl
                  have hq0 : ∀ h : 0 < (strB (c :: r)).size, (strB (c :: r))[0].toNat = c.toNat := fun _ => rfl
                  have HAT : Hid (∀ i (h : i + 1 < (strB (c :: r)).size) (h' : i < r.length), (strB (c :: r))[i + 1]'h = r[i]'h') := fun i h h' => rfl
                  have he := isEmpty_cons c r
                  have hrl : r.length ≤ 4000 := by rw [e] at htl; simp only [List.length_cons] at htl; omega
                  have hpt : printTail (c :: r) = 32 :: c :: r := by simp only [printTail]; rw [if_pos hcn]
                  rw [hpt] at HPS
                  have hcc : #[Value.int .u8 32, Value.int .u8 (c.toNat : Int)].toList = Lib.byteCells [32, c] := rfl
                  clear e htl hpt hc0 z1
                  generalize strB (c :: r) = b at HBX hz hq0 HAT he
                  have h0 : 0 < b.size := by omega
                  have hbz : b.size ≤ 4001 := by omega
                  have e0 := hq0 h0
                  rw [← e0] at hcc
                  have HCC := Lib.hid hcc
                  have b1 := ib_yes (show (b[0].toNat : Int) = 64 by omega)
                  have HZ := Lib.hid hz
                  have hlen1 : ac5.length + ([32, c] : Bytes).length ≤ 1000000000 := by have : ([32, c] : Bytes).length = 2 := rfl; omega
                  have z1 := HBX.out.look 1
                  have z2 := HBX.out.look 2
                  clear hz hq0 e0 hcc
                  go_wp2_with (at_builtin; refine wp_put [32, c] H (by rfl) (by rfl) (by rfl) (by rfl) HCC.out (by rfl) hlen1 ?_; intro v6 w6 H6 hk6; have HBX6 := Lib.hid (hk6 _ _ _ (by decide) HBX.out); clear H HBX)
                  go_loopw [6, 12] (fun v i wr2 => ∃ j : Nat, 1 ≤ j ∧ j ≤ b.size ∧ i = .int .i64 j ∧ PO W wr2 v (ac5 ++ [32, c] ++ r.take (j - 1)) ∧ Hid (Box wr2 gx 54 #[.int .i64 x.kind, .slice Ax x.args.length cx, .string b])) (fun _ i _ => b.size - (intOf i).toNat)
                  case atStart => exact ⟨1, by omega, by omega, rfl, by simpa using H6, HBX6⟩
                  case round =>
                    obtain ⟨j, hj1, hj, rfl, H, HBX⟩ := hrel
                    have z2 := HBX.out.look 2
                    by_cases hlj : j < b.size
                    · obtain ⟨i, rfl⟩ : ∃ i, j = i + 1 := ⟨j - 1, by omega⟩
                      have hir : i < r.length := by have := HZ.out; omega
                      have hbt := HAT.out i hlj hir
                      have htk : r.take (i + 1) = r.take i ++ [r[i]] := List.take_succ_eq_append_getElem hir
                      rw [← hbt] at htk
                      have HTK := Lib.hid htk
                      have HACL : (ac5 ++ [32, c] ++ r.take (i + 1 - 1)).length ≤ 3800000 := by
                        have h1 : (r.take (i + 1 - 1)).length ≤ r.length := List.length_take_le' _ _
                        have h2 := hexs_length (r.take (i + 1 - 1))
                        have : ([32, c] : Bytes).length = 2 := rfl
                        simp only [List.length_append]; omega
                      rw [Nat.add_sub_cancel] at H HACL
                      have hb8 : b[i + 1].toNat < 256 := b[i + 1].toNat_lt
                      clear hbt htk
                      have b2 := b1
                      have j1 : (0 : Int) ≤ (i : Int) + 1 := by omega
                      have j2 : (i : Int) + 1 < (b.size : Int) := by omega
                      have hlen3 : (ac5 ++ [32, c] ++ r.take i).length + [b[i + 1]].length ≤ 1000000000 := by rw [List.length_singleton]; omega
                      go_wp2_with (at_builtin; refine wp_put [b[i + 1]] H (by rfl) (by rfl) (by rfl) (by rfl) (by rfl) (by rfl) hlen3 ?_; intro v7 w7 H7 hk7; have HBX7 := Lib.hid (hk7 _ _ _ (by decide) HBX.out); clear H HBX)
                      go_roundw
                      case rel => exact ⟨i + 1 + 1, by omega, by omega, by push_cast; rfl, by rw [Nat.add_sub_cancel, HTK.out, ← List.append_assoc]; exact H7, HBX7⟩
                      case measure => simp [intOf]; omega
                    · have hj2 : j - 1 = r.length := by have := HZ.out; omega
                      rw [hj2, List.take_length] at H
                      have hlenZ : (ac5 ++ [32, c] ++ r).length + ([10] : Bytes).length ≤ 1000000000 := by
                        have h2 := hexs_length r
                        have : ([32, c] : Bytes).length = 2 := rfl
                        simp only [List.length_append, List.length_singleton]; omega
                      clear hj2
                      go_wp2_with (at_builtin; refine wp_put [10] H (by rfl) (by rfl) (by rfl) (by rfl) (by rfl) (by rfl) hlenZ ?_; intro v8 w8 H8 hk8; clear H)
                      go_roundw
                      case rel => exact ⟨k + 1, by omega, by push_cast; rfl, by rw [HSN.out, ← List.append_assoc, HAC1.out, ← HPS.out]; simpa [printTail, List.append_assoc] using H8⟩
                      case measure => simp [intOf]; omega
          · obtain rfl : k = s.steps.length := by omega
            rw [List.take_length, ← HPR.out] at H
            have HOW : Hid (wr.ownsRow W.heap.size 5 1 u6 (printed s).length (Lib.byteCells (printed s))) := H.own
            have hfin := below_to hcW hcW.size H.bel
            go_wp2_with (refine wp_tostr (base := W.heap.size) rfl _ 62 9 5 rfl Tryz.underlying62 Tryz.underlying9 Tryz.underlying5 (printed s) _ rfl HOW.out ?_)
            go_ret2
            exact ⟨by rw [HP.out]; rfl, hfin⟩
end Go.Proofs.YtecdkgiandbkeaaGreatDoor
