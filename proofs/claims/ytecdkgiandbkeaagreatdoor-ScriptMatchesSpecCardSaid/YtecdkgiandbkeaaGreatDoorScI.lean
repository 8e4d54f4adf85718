/-
  Hexadecimal digits: the script package's decoded and literal.
-/
import Derived.Test.YtecdkgiandbkeaaGreatDoorScH
namespace Go.Proofs.YtecdkgiandbkeaaGreatDoor
open Go.RowKit ScSpec Go.Sort

def hexT : ByteArray := ⟨#[48, 49, 50, 51, 52, 53, 54, 55, 56, 57, 97, 98, 99, 100, 101, 102]⟩
/-- What IndexByte finds. -/
def hexI (c : UInt8) : Int := match unhexD c with | some n => (n : Int) | none => -1
theorem hexI_all : ∀ n : Fin 256, Lib.indexByte hexT.data.toList (UInt8.ofNat n.val) = hexI (UInt8.ofNat n.val) := by decide +kernel
theorem hexI_at (c : UInt8) : Lib.indexByte hexT.data.toList ((c.toNat : Int)).toNat.toUInt8 = hexI c := by
  have h := hexI_all ⟨c.toNat, c.toNat_lt⟩
  have e : UInt8.ofNat c.toNat = c := by simp
  simp only [e] at h
  rw [show ((c.toNat : Int)).toNat.toUInt8 = c from by simp [Nat.toUInt8]]
  exact h
theorem index_hex (c : UInt8) (w : World) : Calls Tryz.prog 106 #[.string ⟨#[48, 49, 50, 51, 52, 53, 54, 55, 56, 57, 97, 98, 99, 100, 101, 102]⟩, .int .u8 c.toNat] w fun e w' => e = .returned (.int .i64 (hexI c)) ∧ w = w' := by
  refine (Tryz.strings_IndexByte hexT c.toNat w).mono ?_
  rintro e w' ⟨rfl, rfl⟩
  exact ⟨ret_int (hexI_at c), rfl⟩
theorem unhexD_lt {c : UInt8} {n : Nat} (h : unhexD c = some n) : n < 16 := by
  unfold unhexD isDigit at h
  split at h
  · rename_i h1; simp at h1 h; omega
  · split at h
    · simp at h; omega
    · cases h

theorem unhex_step {a b : UInt8} {r : Bytes} {x y : Nat} (ha : unhexD a = some x) (hb : unhexD b = some y) : unhex (a :: b :: r) = (unhex r).map (UInt8.ofNat (16 * x + y) :: ·) := by
  simp only [unhex, ha, hb]
  cases unhex r <;> rfl
theorem unhex_badA {a b : UInt8} {r : Bytes} (ha : unhexD a = none) : unhex (a :: b :: r) = none := by
  simp only [unhex, ha]
theorem unhex_badB {a b : UInt8} {r : Bytes} (hb : unhexD b = none) : unhex (a :: b :: r) = none := by
  simp only [unhex, hb]
  cases unhexD a <;> rfl
theorem or_hex : ∀ x y : Fin 16, bits BinOp.or IntKind.i64 ((x.val : Int) * 16) (y.val : Int) % 256 = ((16 * x.val + y.val : Nat) : Int) := by decide +kernel
theorem drop_two (l : Bytes) {k : Nat} (h : k + 1 < l.length) : l.drop k = l[k] :: l[k + 1] :: l.drop (k + 2) := by
  rw [List.drop_eq_getElem_cons (by omega), List.drop_eq_getElem_cons h]
theorem ret_sb {s : ByteArray} {x y : Bool} (h : x = y) : Ending.returned (.tuple #[.string s, .bool x]) = Ending.returned (.tuple #[.string s, .bool y]) := by rw [h]
theorem wrap_i64_in (n : Int) (h0 : -9223372036854775808 ≤ n) (h1 : n ≤ 9223372036854775807) : IntKind.i64.wrap n = n := by
  rw [IntKind.wrap_i64]
  omega
set_option maxHeartbeats 1000000 in
set_option maxRecDepth 20000 in
theorem sc_decoded (l : Bytes) (hl : l.length ≤ 1000000000) (w : World) :
    Calls Tryz.prog 90 #[.string (strB l)] w fun e w' => ∃ s, e = .returned (.tuple #[.string s, .bool (unhex l).isSome]) ∧ (∀ t, unhex l = some t → s = strB t) ∧ s.size ≤ 1000000000 ∧ Below w.heap.size w w' := by
  have hsz := strB_size l
  generalize hq : strB l = q at hsz
  have HQ := Lib.hid hq
  have HSZ := Lib.hid hsz
  have hql : q.size ≤ 1000000000 := by omega
  clear hq hsz
  go_enter Tryz.func90, Tryz.ntmps90
  go_wp2_with fail
  go_loopw [4, 5] (fun v i wr => ∃ (k : Nat) (t : Bytes), k ≤ q.size ∧ i = .int .i64 k ∧ Below w.heap.size w wr ∧ Hid (k = 2 * t.length) ∧ Hid (wr.ownsRow w.heap.size 5 1 v t.length (Lib.byteCells t)) ∧ Hid (unhex l = (unhex (l.drop k)).map (t ++ ·))) (fun _ i _ => q.size - (intOf i).toNat)
  case atStart => exact ⟨0, [], by omega, rfl, Below.refl _ _, rfl, World.ownsRow_nil _ _ _ _, by show unhex l = _; simp⟩
  case round =>
    obtain ⟨k, t, hk, rfl, hbr, HKT, HO, H⟩ := hrel
    have hzr := hbr.size
    by_cases hlt : k + 1 < q.size
    · have i5 : k < q.size := by omega
      have i1 : (0 : Int) ≤ (k : Int) + 1 := by omega
      have i2 : (k : Int) + 1 < (q.size : Int) := by omega
      have i3 : ((k : Int) + 1).toNat = k + 1 := by omega
      have hw : IntKind.i64.wrap ((k : Int) + 1) = (k : Int) + 1 := wrap_i64_in _ (by omega) (by omega)
      have hll : k + 1 < l.length := by have := HSZ.out; omega
      have q0 : q[k] = l[k] := by have := HQ.out; subst this; rfl
      have q1 : q[k + 1] = l[k + 1] := by have := HQ.out; subst this; rfl
      have HD := Lib.hid (drop_two l hll)
      cases ha : unhexD l[k] with
      | none =>
        have e0 : hexI q[k] = -1 := by rw [q0]; unfold hexI; rw [ha]
        have HN : Hid (unhex l = none) := by
          show unhex l = none
          rw [H.out, HD.out, unhex_badA ha]; rfl
        clear q0 q1 ha
        go_wp2_with fail
        go_region_held3 (fun _ => True) (trivial) ((go_at_call 106; refine (index_hex _ _).mono ?_; rintro e w' ⟨rfl, rfl⟩))
        all_goals
          go_wp2_with fail
          go_ret2
          refine ⟨⟨#[]⟩, ?_, ?_, by decide, below_drew hbr⟩
          · rw [HN.out]; rfl
          · intro t' ht'
            rw [HN.out] at ht'
            cases ht'
      | some x =>
        have hx := unhexD_lt ha
        have e0 : hexI q[k] = (x : Int) := by rw [q0]; unfold hexI; rw [ha]
        cases hb : unhexD l[k + 1] with
        | none =>
          have e1 : hexI q[k + 1] = -1 := by rw [q1]; unfold hexI; rw [hb]
          have HN : Hid (unhex l = none) := by
            show unhex l = none
            rw [H.out, HD.out, unhex_badB hb]; rfl
          clear q0 q1 ha hb
          go_wp2_with fail
          go_region_held3 (fun _ => True) (trivial) ((go_at_call 106; refine (index_hex _ _).mono ?_; rintro e w' ⟨rfl, rfl⟩))
          all_goals
            go_wp2_with fail
            go_ret2
            refine ⟨⟨#[]⟩, ?_, ?_, by decide, below_drew hbr⟩
            · rw [HN.out]; rfl
            · intro t' ht'
              rw [HN.out] at ht'
              cases ht'
        | some y =>
          have hy := unhexD_lt hb
          have e1 : hexI q[k + 1] = (y : Int) := by rw [q1]; unfold hexI; rw [hb]
          have HS : Hid (unhex l = (unhex (l.drop (k + 2))).map (fun r => (t ++ [UInt8.ofNat (16 * x + y)]) ++ r)) := by
            show unhex l = _
            rw [H.out, HD.out, unhex_step ha hb]
            cases unhex (l.drop (k + 2)) <;> simp
          obtain ⟨A, n, rfl⟩ := own_slice HO.out
          clear q0 q1 ha hb
          go_wp2_with fail
          go_region_held3 (fun _ => True) (trivial) ((go_at_call 106; refine (index_hex _ _).mono ?_; rintro e w' ⟨rfl, rfl⟩))
          all_goals
            have hor := or_hex ⟨x, hx⟩ ⟨y, hy⟩
            simp only at hor
            have HOR := Lib.hid hor
            clear hor
            have hbase : ∀ o : Obj, w.heap.size ≤ (wr.alloc o).drew.heap.size := fun o => by simp; omega
            have hlen : t.length + 1 ≤ 140737488355328 := by have := HKT.out; omega
            go_wp2_with (at_builtin; refine wp_appendB 1 w.heap.size (by rfl) _ _ 62 5 _ 1 1 (by rfl) Tryz.underlying62 infoByte (by rfl) (by decide) _ t.length (Lib.byteCells t) _ (by rfl) wr.heap.size (by rfl) (heap_alloc_new wr _) (by rfl) (by intro u hu; simp at hu; subst hu; rfl) ((HO.out.alloc _).drew) (hbase _) hlen (by omega) ?_; intro v1 w2 hown2 hg2)
            have H2 : Hid (w2.ownsRow w.heap.size 5 1 v1 (t ++ [UInt8.ofNat (16 * x + y)]).length (Lib.byteCells (t ++ [UInt8.ofNat (16 * x + y)]))) := by
              have e1 : Lib.byteCells (t ++ [UInt8.ofNat (16 * x + y)]) = Lib.byteCells t ++ #[Value.int .u8 (bits BinOp.or IntKind.i64 ((x : Int) * 16) (y : Int) % 256)].toList := by
                rw [HOR.out]
                have e3 : (UInt8.ofNat (16 * x + y)).toNat = 16 * x + y := by simp; omega
                simp only [Lib.byteCells, List.map_append, List.map_cons, List.map_nil, e3]
              rw [e1, List.length_append, List.length_singleton]
              exact hown2
            have hbel := (below_drew (hbr.alloc hzr _)).grown hg2 (hbase _) (fun j hj => own_base HO.out j hj)
            clear hown2 hg2
            go_roundw
            case rel => exact ⟨k + 2, t ++ [UInt8.ofNat (16 * x + y)], by omega, by push_cast; rfl, hbel, by show k + 2 = _; rw [HKT.out, List.length_append, List.length_singleton]; omega, H2, HS⟩
            case measure => simp [intOf]; omega
    · have hkt := HKT.out
      have hsz := HSZ.out
      have hdrop : Hid (unhex (l.drop k) = if l.length % 2 = 0 then some [] else none) := by
        by_cases he : k = l.length
        · show unhex (l.drop k) = _
          rw [he, List.drop_length, if_pos (by omega)]; rfl
        · show unhex (l.drop k) = _
          rw [List.drop_eq_getElem_cons (by omega), List.drop_of_length_le (by omega), if_neg (by omega)]; rfl
      have hq2 : Hid (q.size % 2 = l.length % 2) := by show q.size % 2 = _; rw [hsz]
      clear hsz hkt
      go_wp2_with (refine wp_tostr (base := w.heap.size) rfl _ 62 9 5 rfl Tryz.underlying62 Tryz.underlying9 Tryz.underlying5 t _ rfl HO.out ?_)
      go_ret2
      refine ⟨strB t, ?_, ?_, by rw [strB_size]; have := HKT.out; omega, hbr⟩
      · have e : ((q.size : Int) % 2 == 0) = (unhex l).isSome := by
          rw [H.out, hdrop.out]
          have := hq2.out
          by_cases h2 : l.length % 2 = 0
          · rw [if_pos h2]
            exact ib_yes (by omega)
          · rw [if_neg h2]
            exact ib_no (by omega)
        exact ret_sb e
      · intro t' ht'
        rw [H.out, hdrop.out] at ht'
        split at ht'
        · simp at ht'
          rw [ht']
        · cases ht'

/-- literal: what a word denotes; what stands in the text's place where it denotes nothing is not told. -/
theorem sc_literal (l : Bytes) (h0 : l ≠ []) (hl : l.length ≤ 1000000000) (w : World) :
    Calls Tryz.prog 72 #[.string (strB l)] w fun e w' => ∃ s, e = .returned (.tuple #[.string s, .bool (literal l).isSome]) ∧ (∀ t, literal l = some t → s = strB t) ∧ Below w.heap.size w w' := by
  cases l with
  | nil => exact absurd rfl h0
  | cons c r =>
    clear h0
    have hz : (strB (c :: r)).size = r.length + 1 := by rw [strB_size]; rfl
    have hx := strB_tail c r
    have hrl : r.length ≤ 1000000000 := by simp only [List.length_cons] at hl; omega
    have hc : ∀ h : 0 < (strB (c :: r)).size, (strB (c :: r))[0].toNat = c.toNat := fun _ => rfl
    have HD := Lib.hid (sc_decoded r hrl w)
    by_cases h64 : c.toNat = 64
    · have HLit : Hid (literal (c :: r) = some (c :: r)) := by show literal _ = _; simp only [literal]; rw [if_pos h64]
      generalize hq : strB (c :: r) = q at hx hz hc
      have HQ := Lib.hid hq
      clear hq
      have h0 : 0 < q.size := by omega
      have b1 := ib_yes (show (q[0].toNat : Int) = 64 by rw [hc h0]; omega)
      clear hc
      go_enter Tryz.func72, Tryz.ntmps72
      go_wp2_with fail
      go_ret2
      refine ⟨q, ret_sb (by rw [HLit.out]; rfl), fun t ht => ?_, Below.refl _ _⟩
      rw [HLit.out] at ht
      rw [← Option.some.inj ht, HQ.out]
    · have HLit : Hid (literal (c :: r) = (unhex r).map (61 :: ·)) := by show literal _ = _; simp only [literal]; rw [if_neg h64]
      generalize hq : strB (c :: r) = q at hx hz hc
      have HQ := Lib.hid hq
      clear hq
      have h0 : 0 < q.size := by omega
      have b1 := ib_no (show (q[0].toNat : Int) ≠ 64 by rw [hc h0]; omega)
      clear hc
      go_enter Tryz.func72, Tryz.ntmps72
      go_wp2_with fail
      refine HD.out.mono ?_
      rintro e w1 ⟨s, rfl, hs, hsl, hb1⟩
      have HS := Lib.hid hs
      clear hs
      go_wp2_with fail
      go_ret2
      refine ⟨_, ret_sb (by rw [HLit.out]; cases unhex r <;> rfl), fun t ht => ?_, hb1⟩
      rw [HLit.out] at ht
      cases hu : unhex r with
      | none => rw [hu] at ht; cases ht
      | some t' =>
        rw [hu] at ht
        rw [HS.out t' hu, ← Option.some.inj ht]
        rfl
end Go.Proofs.YtecdkgiandbkeaaGreatDoor
