/-
  Steps of lines: the script package's step.
-/
import Derived.Test.YtecdkgiandbkeaaGreatDoorScJ
import Derived.Test.YtecdkgiandbkeaaGreatDoorScLib
import Derived.Deep.DeepCutAuto
namespace Go.Proofs.YtecdkgiandbkeaaGreatDoor
open Go.RowKit ScSpec Go.Sort

/-! ### Plain words -/
def readNums : List Bytes → Option (List Int)
  | [] => some []
  | w :: l => match dec w with
    | some n => (readNums l).map ((n : Int) :: ·)
    | none => none
theorem readNums_one {w : Bytes} {n : Nat} (h : dec w = some n) (l : List Bytes) : readNums (w :: l) = (readNums l).map ((n : Int) :: ·) := by rw [readNums, h]
theorem readNums_bad {w : Bytes} (h : dec w = none) (l : List Bytes) : readNums (w :: l) = none := by rw [readNums, h]
theorem readNums_len : ∀ (l : List Bytes) (a : List Int), readNums l = some a → a.length = l.length := by
  intro l
  induction l with
  | nil => intro a h; simp only [readNums, Option.some.injEq] at h; subst h; rfl
  | cons w l ih =>
    intro a h
    cases hd : dec w with
    | none => rw [readNums_bad hd] at h; cases h
    | some n =>
      rw [readNums_one hd] at h
      obtain ⟨b, hb, rfl⟩ := Option.map_eq_some_iff.1 h
      simp [ih b hb]
theorem dec_lit {w : Bytes} (h : isLit w = true) : dec w = none := by
  cases hd : dec w with
  | none => rfl
  | some n =>
    cases w with
    | nil => cases h
    | cons c r =>
      have := dec_byte hd c (by simp)
      simp only [isLit, Bool.or_eq_true, decide_eq_true_eq] at h
      omega
theorem readArgs_cons {w : Bytes} (l : List Bytes) (h0 : l ≠ []) : readArgs (w :: l) = match dec w with
    | some n => (readArgs l).map fun p => ((n : Int) :: p.1, p.2)
    | none => none := by
  cases l with
  | nil => exact absurd rfl h0
  | cons v l =>
    rw [readArgs]
    cases dec w with
    | none => rfl
    | some n =>
      cases readArgs (v :: l) with
      | none => rfl
      | some p => rfl
theorem readArgs_plain (l : List Bytes) (b : Bytes) (h : isLit b = false) : readArgs (l ++ [b]) = (readNums (l ++ [b])).map fun a => (a, []) := by
  induction l with
  | nil =>
    simp only [List.nil_append, readArgs, h, readNums]
    cases dec b <;> rfl
  | cons w l ih =>
    rw [List.cons_append, readArgs_cons _ (by simp), readNums, ih]
    cases dec w with
    | none => rfl
    | some n => simp only [Option.map_map]; rfl
theorem readArgs_lit (l : List Bytes) (b : Bytes) (h : isLit b = true) : readArgs (l ++ [b]) = match literal b with
    | some t => (readNums l).map fun a => (a, t)
    | none => none := by
  induction l with
  | nil =>
    simp only [List.nil_append, readArgs, h, readNums]
    cases literal b <;> rfl
  | cons w l ih =>
    rw [List.cons_append, readArgs_cons _ (by simp), readNums, ih]
    cases dec w with
    | none => cases literal b <;> rfl
    | some n =>
      cases literal b with
      | none => rfl
      | some t => simp only [Option.map_map]; rfl
theorem readNums_lit (l : List Bytes) (b : Bytes) (h : isLit b = true) : readNums (l ++ [b]) = none := by
  induction l with
  | nil => rw [List.nil_append, readNums_bad (dec_lit h)]
  | cons w l ih =>
    rw [List.cons_append, readNums, ih]
    cases dec w <;> rfl
theorem unhex_len : ∀ (n : Nat) (r : Bytes), r.length ≤ n → ∀ t, unhex r = some t → t.length ≤ r.length := by
  intro n
  induction n with
  | zero =>
    intro r hr t h
    obtain rfl := List.length_eq_zero_iff.1 (Nat.le_zero.1 hr)
    simp only [unhex, Option.some.injEq] at h
    subst h; simp
  | succ n ih =>
    intro r hr t h
    match r, hr, h with
    | [], _, h => simp only [unhex, Option.some.injEq] at h; subst h; simp
    | [_], _, h => cases h
    | a :: b :: r, hr, h =>
      cases ha : unhexD a with
      | none => rw [unhex_badA ha] at h; cases h
      | some x =>
        cases hb : unhexD b with
        | none => rw [unhex_badB hb] at h; cases h
        | some y =>
          rw [unhex_step ha hb] at h
          obtain ⟨u, hu, rfl⟩ := Option.map_eq_some_iff.1 h
          have := ih r (by simp at hr; omega) u hu
          simp; omega
theorem literal_len {b t : Bytes} (h : literal b = some t) : t.length ≤ b.length := by
  cases b with
  | nil => cases h
  | cons c r =>
    simp only [literal] at h
    split at h
    · rw [← Option.some.inj h]; exact Nat.le_refl _
    · obtain ⟨u, hu, rfl⟩ := Option.map_eq_some_iff.1 h
      have := unhex_len _ r (Nat.le_refl _) u hu
      simp; omega
/-- What the words left to be read as numbers, and the text set, say of all words behind the first. -/
def Rest (ds : List Bytes) (tt : Bytes) (tail : List Bytes) : Prop :=
  (∀ a, readNums ds = some a → readArgs tail = some (a, tt) ∧ tt.length ≤ 1000000000) ∧ (readNums ds = none → readArgs tail = none)
theorem rest_nil : Rest [] [] [] := ⟨fun a h => by simp only [readNums, Option.some.injEq] at h; subst h; exact ⟨rfl, by simp⟩, fun h => by cases h⟩
theorem rest_plain (l : List Bytes) (b : Bytes) (h : isLit b = false) : Rest (l ++ [b]) [] (l ++ [b]) := by
  refine ⟨fun a ha => ?_, fun hn => ?_⟩
  · rw [readArgs_plain _ _ h, ha]; exact ⟨rfl, by simp⟩
  · rw [readArgs_plain _ _ h, hn]; rfl
theorem rest_lit (l : List Bytes) (b t : Bytes) (h : isLit b = true) (hb : b.length ≤ 1000000000) (ht : literal b = some t) : Rest l t (l ++ [b]) := by
  have hl := literal_len ht
  refine ⟨fun a ha => ?_, fun hn => ?_⟩
  · rw [readArgs_lit _ _ h, ha, ht]; exact ⟨rfl, by omega⟩
  · rw [readArgs_lit _ _ h, hn, ht]; rfl
theorem rest_bad (l : List Bytes) (b t : Bytes) (h : isLit b = true) (ht : literal b = none) : Rest (l ++ [b]) t (l ++ [b]) := by
  refine ⟨fun a ha => ?_, fun _ => ?_⟩
  · rw [readNums_lit _ _ h] at ha; cases ha
  · rw [readArgs_lit _ _ h, ht]

theorem step_noKind {h : Bytes} {tail : List Bytes} (hk : kindOf h = 0) : ScSpec.step (h :: tail) = (⟨0, [], []⟩, 4) := by
  show (if kindOf h = 0 then ((⟨0, [], []⟩, 4) : Stp × Int) else _) = _
  rw [if_pos hk]
theorem step_noArgs {h : Bytes} {tail : List Bytes} (hk : kindOf h ≠ 0) (ha : readArgs tail = none) : ScSpec.step (h :: tail) = (⟨0, [], []⟩, 3) := by
  show (if kindOf h = 0 then ((⟨0, [], []⟩, 4) : Stp × Int) else match readArgs tail with
    | none => ((⟨0, [], []⟩, 3) : Stp × Int)
    | some (a, t) => if isStep ⟨(kindOf h : Nat), a, t⟩ then ((⟨(kindOf h : Nat), a, t⟩, 0) : Stp × Int) else (⟨0, [], []⟩, 1)) = _
  rw [if_neg hk, ha]
theorem step_args {h : Bytes} {tail : List Bytes} {a : List Int} {t : Bytes} (hk : kindOf h ≠ 0) (ha : readArgs tail = some (a, t)) : ScSpec.step (h :: tail) = if isStep ⟨(kindOf h : Nat), a, t⟩ then (⟨(kindOf h : Nat), a, t⟩, 0) else (⟨0, [], []⟩, 1) := by
  show (if kindOf h = 0 then ((⟨0, [], []⟩, 4) : Stp × Int) else match readArgs tail with
    | none => ((⟨0, [], []⟩, 3) : Stp × Int)
    | some (a, t) => if isStep ⟨(kindOf h : Nat), a, t⟩ then ((⟨(kindOf h : Nat), a, t⟩, 0) : Stp × Int) else (⟨0, [], []⟩, 1)) = _
  rw [if_neg hk, ha]
theorem rowV_own {w : World} {base : Nat} {e : TypeId} {v : Value} {n : Nat} {xs : List Value} (h : w.ownsRow base e 1 v n xs) : RowV w v xs := by
  have hl := h.1
  rw [Nat.mul_one] at hl
  rcases h.2 with ⟨rfl, h0⟩ | ⟨g, cap, cur, rfl, hb, hg, hnc, hcm, hcs, htake⟩
  · subst h0
    exact ⟨none, 0, by rw [hl], by omega, fun h1 => by omega⟩
  · subst hl
    refine ⟨_, cap, rfl, hnc, fun _ => ⟨g, 0, rfl, (Array.getElem?_eq_some_iff.1 hg).1, fun i hi => ?_⟩⟩
    rw [Nat.zero_add, h.cellAt i (by omega), List.getElem?_eq_getElem hi]
theorem rowV_nil (w : World) : RowV w (.slice none 0 0) [] := ⟨none, 0, rfl, Nat.le_refl _, fun h => absurd h (Nat.lt_irrefl _)⟩
/-- A step's value in the walk's spelling, with no arguments. -/
theorem stepV_zero (w : World) : StepV w (.agg #[.int .i64 0, .slice none 0 0, .string ⟨#[]⟩]) ⟨0, [], []⟩ := ⟨_, rfl, rowV_nil w⟩

/-- A slice value whose elements, one cell each, are these, in a block of elements of type e. -/
def RowT (w : World) (v : Value) (e : TypeId) (xs : List Value) : Prop :=
  ∃ A c, v = .slice A xs.length c ∧ xs.length ≤ c ∧ (0 < xs.length → ∃ g o cs fz, A = some ⟨g, o, none⟩ ∧ w.heap[g]? = some (.cells cs e fz) ∧ ∀ i (h : i < xs.length), cs[o + i]? = some xs[i])
theorem RowT.rowV {w : World} {v : Value} {e : TypeId} {xs : List Value} (h : RowT w v e xs) : RowV w v xs := by
  obtain ⟨A, c, rfl, hc, h⟩ := h
  refine ⟨A, c, rfl, hc, fun h0 => ?_⟩
  obtain ⟨g, o, cs, fz, rfl, hg, hc⟩ := h h0
  exact ⟨g, o, rfl, (Array.getElem?_eq_some_iff.1 hg).1, fun i hi => (cell_of_row w g (o + i) cs e fz hg).trans (hc i hi)⟩
/-- Blocks of elements of type e stay as they are. -/
def KeepT (w w' : World) (e : TypeId) : Prop := ∀ (j : Nat) (cs : Array Value) (fz : Nat × Nat), w.heap[j]? = some (Obj.cells cs e fz) → w'.heap[j]? = some (Obj.cells cs e fz)
theorem RowT.keep {w w' : World} {v : Value} {e : TypeId} {xs : List Value} (h : RowT w v e xs) (k : KeepT w w' e) : RowT w' v e xs := by
  obtain ⟨A, c, rfl, hc, h⟩ := h
  refine ⟨A, c, rfl, hc, fun h0 => ?_⟩
  obtain ⟨g, o, cs, fz, rfl, hg, hc⟩ := h h0
  exact ⟨g, o, cs, fz, rfl, k _ _ _ hg, hc⟩
theorem rowT_own {w : World} {base : Nat} {e : TypeId} {v : Value} {n : Nat} {xs : List Value} (h : w.ownsRow base e 1 v n xs) : RowT w v e xs := by
  have hl := h.1
  rw [Nat.mul_one] at hl
  rcases h.2 with ⟨rfl, h0⟩ | ⟨g, cap, cur, rfl, hb, hg, hnc, hcm, hcs, htake⟩
  · subst h0
    exact ⟨none, 0, by rw [hl], by omega, fun h1 => by omega⟩
  · subst hl
    refine ⟨_, cap, rfl, hnc, fun _ => ⟨g, 0, cur, _, rfl, hg, fun i hi => ?_⟩⟩
    rw [Nat.zero_add]
    have e1 := congrArg (fun l => l[i]?) htake
    simp only [Nat.mul_one, List.getElem?_take, hi, if_true, Array.getElem?_toList] at e1
    rw [e1, List.getElem?_eq_getElem hi]
theorem rowT_nil (w : World) (e : TypeId) : RowT w (.slice none 0 0) e [] := ⟨none, 0, rfl, Nat.le_refl _, fun h => absurd h (Nat.lt_irrefl _)⟩
/-- A step's value, its arguments in a block of numbers. -/
def StepT (w : World) (v : Value) (x : Stp) : Prop := ∃ a, v = .agg #[.int .i64 x.kind, a, .string (strB x.text)] ∧ RowT w a 3 (intVs x.args)
theorem StepT.stepV {w : World} {v : Value} {x : Stp} (h : StepT w v x) : StepV w v x := by
  obtain ⟨a, rfl, h⟩ := h
  exact ⟨a, rfl, h.rowV⟩
theorem stepT_zero (w : World) : StepT w (.agg #[.int .i64 0, .slice none 0 0, .string ⟨#[]⟩]) ⟨0, [], []⟩ := ⟨_, rfl, rowT_nil w 3⟩
theorem stepT_own {w : World} {base : Nat} {k : Int} {va : Value} {n : Nat} {nums : List Int} {tt : Bytes} (h : w.ownsRow base 3 1 va n (intVs nums)) : StepT w (.agg #[.int .i64 k, va, .string (strB tt)]) ⟨k, nums, tt⟩ := ⟨va, rfl, rowT_own h⟩
theorem grown_setCell (w : World) (p : Addr) (v : Value) : w.grownBy (w.setCell p v) (some p.block) :=
  ⟨rfl, rfl, rfl, by simp, fun i _ hne => Below.heap_setCell w p v i (fun e => hne (by rw [e]))⟩
/-- A store elsewhere leaves an owned row as it is. -/
theorem own_other {w : World} {base : Nat} {e : TypeId} {size n : Nat} {v : Value} {xs : List Value} (h : w.ownsRow base e size v n xs) {p : Addr} (hp : p.block < base) (u : Value) : (w.setCell p u).ownsRow base e size v n xs :=
  h.kept (grown_setCell w p u) (by
    cases hv : v.ownBlock with
    | none => exact .inl rfl
    | some k =>
      right
      have := own_base h k hv
      intro e
      injection e with e
      omega)
theorem stepV_own {w : World} {base : Nat} {k : Int} {va : Value} {n : Nat} {nums : List Int} {tt : Bytes} (h : w.ownsRow base 3 1 va n (intVs nums)) : StepV w (.agg #[.int .i64 k, va, .string (strB tt)]) ⟨k, nums, tt⟩ := ⟨va, rfl, rowV_own h⟩
theorem infoInt : (Tryz.prog.info? 3).map (fun i => (i.zero, i.size, i.bytes)) = some (some (.int .i64 0), 1, 8) := by kernel_rfl
/-- The last word denotes a text. -/
def lastLit (l : List Bytes) : Bool := isLit (l.getLast?.getD [])
theorem strB_first (c : UInt8) (r : Bytes) : (strB (c :: r)).extract 0 1 = strB [c] := by rw [extract_strB, strB_toList]; rfl
set_option maxHeartbeats 4000000 in
set_option maxRecDepth 100000 in
theorem sc_step (h : Bytes) (tail : List Bytes) (g o n : Nat) (hn : tail.length = n) (hlen : n ≤ 1000000000) (hw : ∀ x ∈ h :: tail, x ≠ [] ∧ x.length ≤ 1000000000) (w : World) (hL : Laid w) (hg : g < w.heap.size)
    (hc : ∀ i (hi : i < (h :: tail).length), w.cell? ⟨g, o + i, none⟩ = some (.string (strB (h :: tail)[i]))) :
    Calls Tryz.prog 33 #[.slice (some ⟨g, o, none⟩) (n + 1) (n + 1)] w fun e w' => ∃ sv, e = .returned (.tuple #[sv, .int .i64 (ScSpec.step (h :: tail)).2]) ∧ StepT w' sv (ScSpec.step (h :: tail)).1 ∧ Below w.heap.size w w' := by
  have hbox : Below w.heap.size w (w.alloc (.cells #[.int .i64 0, .slice none 0 0, .string ⟨#[]⟩] 54)) := (Below.refl _ w).alloc (Nat.le_refl _) _
  have HK := Lib.hid (sc_kind (strB h) _ (hL.below hbox))
  rw [strB_toList] at HK
  have c0 := hc 0 (by simp)
  rw [Nat.add_zero, List.getElem_cons_zero] at c0
  have HN := Lib.hid hn
  by_cases hk : kindOf h = 0
  · have HS := Lib.hid (step_noKind (tail := tail) hk)
    rw [hk] at HK
    clear hk hc hn
    go_enter Tryz.func33, Tryz.ntmps33
    go_wp2_with fail
    refine HK.out.mono ?_
    rintro e w1 ⟨rfl, hb1⟩
    have hB := (Box.made w 54 #[.int .i64 0, .slice none 0 0, .string ⟨#[]⟩]).below hb1 (by simp)
    have x0 := hB.look 0
    have x1 := hB.look 1
    have x2 := hB.look 2
    have f0 := hB.free 0
    have f1 := hB.free 1
    have f2 := hB.free 2
    go_wp2_with fail
    have hz1 := hb1.size
    have hlt : w.heap.size < w1.heap.size := hB.lt
    have hbel := below_box hb1
    refine bodyPost_ret (v := .tuple #[.agg #[.int .i64 0, .slice none 0 0, .string ⟨#[]⟩], .int .i64 4]) (by simp [results, Tryz.results33, go_sem, x0, x1, x2]) rfl ⟨_, by rw [HS.out], by rw [HS.out]; exact stepT_zero _, ?_⟩
    exact ((hbel.setCell (Nat.le_refl _) _).setCell (Nat.le_refl _) _).setCell (Nat.le_refl _) _
  · have hkp : decide (0 < kindOf h) = true := by simp; omega
    rw [hkp] at HK
    have HKN := Lib.hid hk
    have HC : Hid (∀ i (hi : i < tail.length), w.cell? ⟨g, o + 1 + i, none⟩ = some (.string (strB tail[i]))) := by
      intro i hi
      have := hc (i + 1) (by simp; omega)
      rw [List.getElem_cons_succ] at this
      rw [show o + 1 + i = o + (i + 1) from by omega]
      exact this
    have HW := Lib.hid hw
    clear hk hc hkp hn hw
    generalize hK : kindOf h = K at HK
    have HKE := Lib.hid hK
    clear hK
    go_enter Tryz.func33, Tryz.ntmps33
    go_wp2_with fail
    refine HK.out.mono ?_
    rintro e w1 ⟨rfl, hb1⟩
    have hB := Lib.hid ((Box.made w 54 #[.int .i64 0, .slice none 0 0, .string ⟨#[]⟩]).below hb1 (by simp))
    have hz1 := hb1.size
    have hbel := below_box hb1
    have HCell := Lib.hid (fun i hi => (hbel.cell (p := ⟨g, o + 1 + i, none⟩) hg).trans (HC.out i hi))
    simp only [World.alloc, Array.size_push] at hz1
    have hL1 := hL.below hbel
    clear HK
    go_upto_region 5 with fail
    go_cut [0] (fun s0 wx => ∃ A, s0 = .slice A n n ∧ (n ≠ 0 → A = some ⟨g, o + 1, none⟩) ∧ wx = w1.alloc (.cells #[.int .i64 K, .slice none 0 0, .string ⟨#[]⟩] 54))
    case first =>
      by_cases ht : n = 0
      · subst ht
        go_wp2_with fail
        go_meet
        exact ⟨_, rfl, fun h => absurd rfl h, rfl⟩
      · go_wp2_with fail
        go_meet
        exact ⟨_, rfl, fun _ => rfl, rfl⟩
    case rest =>
      obtain ⟨A, rfl, hA, rfl⟩ := hcut
      have HA := Lib.hid hA
      clear hA
      have hb1x := (Below.refl _ w1).alloc (Nat.le_refl _) (.cells #[.int .i64 K, .slice none 0 0, .string ⟨#[]⟩] 54)
      have hw1 : (w1.alloc (.cells #[.int .i64 K, .slice none 0 0, .string ⟨#[]⟩] 54)).heap.size = w1.heap.size + 1 := by simp
      have hB1 := Lib.hid (Box.made w1 54 #[.int .i64 K, .slice none 0 0, .string ⟨#[]⟩])
      have hB0 := Lib.hid (hB.out.alloc (.cells #[.int .i64 K, .slice none 0 0, .string ⟨#[]⟩] 54))
      have HCell2 := Lib.hid (fun i hi => (hb1x.cell (p := ⟨g, o + 1 + i, none⟩) (show g < w1.heap.size by omega)).trans (HCell.out i hi))
      have hL2 := hL1.below hb1x
      go_upto_region 7 with fail
      generalize w1.alloc (.cells #[.int .i64 K, .slice none 0 0, .string ⟨#[]⟩] 54) = W at hb1x hw1 hB1 hB0 HCell2 hL2
      go_cut [38] (fun s38 wx => s38 = .bool (lastLit tail) ∧ Below W.heap.size W wx)
      case first =>
        by_cases ht : n = 0
        · subst ht
          have ht := List.length_eq_zero_iff.1 HN.out
          subst ht
          go_wp2_with fail
          go_meet
          exact ⟨rfl, Below.refl _ _⟩
        · obtain ⟨m, rfl⟩ : ∃ m, n = m + 1 := ⟨n - 1, by omega⟩
          obtain ⟨es, b, rfl⟩ : ∃ es b, tail = es ++ [b] := ⟨tail.dropLast, tail.getLast (by rintro rfl; cases HN.out), (List.dropLast_concat_getLast _).symm⟩
          obtain rfl := HA.out (by omega)
          have hb0 := (HW.out b (by simp)).1
          have hbl := (HW.out b (by simp)).2
          have hem : es.length = m := by have := HN.out; simp at this; exact this
          have c1 := HCell2.out m (by simp; omega)
          rw [List.getElem_append_right (by omega)] at c1
          simp only [hem, Nat.sub_self, List.getElem_cons_zero] at c1
          cases b with
          | nil => exact absurd rfl hb0
          | cons c r =>
            have hll : Hid (lastLit (es ++ [c :: r]) = isLit [c]) := by show lastLit _ = _; simp [lastLit, isLit]
            have hx := strB_first c r
            have hz : (strB (c :: r)).size = r.length + 1 := by rw [strB_size]; rfl
            have hrl : r.length ≤ 1000000000 := by simp only [List.length_cons] at hbl; omega
            generalize strB (c :: r) = q at hx hz c1
            have HCA := Lib.hid (containsAny_one c W)
            clear hem hb0 hbl
            go_wp2_with fail
            refine HCA.out.mono ?_
            rintro e w2 ⟨rfl, hb2⟩
            go_wp2_with fail
            go_meet
            exact ⟨by rw [hll.out], hb2⟩
      case rest =>
        obtain ⟨rfl, hb2⟩ := hcut
        have hz2 := hb2.size
        have hb12 := below_to hb1x (by omega) hb2
        have hB1w := Lib.hid (hB1.out.below hb2 (by omega))
        have hB0w := Lib.hid (hB0.out.below hb2 (by omega))
        have HCell3 := Lib.hid (fun i hi => (hb2.cell (p := ⟨g, o + 1 + i, none⟩) (show g < W.heap.size by omega)).trans (HCell2.out i hi))
        have hL3 := hL2.below hb2
        clear hB1 hB0 HCell2 HC hL2 hL1
        go_upto_if 38 with fail
        go_cut [0, 5] (fun s0 s5 wx => ∃ d c tt, s0 = .slice A d c ∧ d ≤ n ∧ Hid (Rest (tail.take d) tt tail) ∧ Hid (Box wx w1.heap.size 54 #[.int .i64 K, .slice none 0 0, .string (strB tt)]) ∧ Hid (Box wx w.heap.size 54 #[.int .i64 0, .slice none 0 0, .string ⟨#[]⟩]) ∧ Below w1.heap.size w1 wx ∧ w1.heap.size < wx.heap.size)
        case first =>
          cases hll : lastLit tail with
          | false =>
            go_wp2_with fail
            go_meet
            refine ⟨n, n, [], rfl, Nat.le_refl _, ?_, hB1w, hB0w, hb12, by omega⟩
            show Rest _ _ _
            rw [List.take_of_length_le (Nat.le_of_eq HN.out)]
            by_cases ht : tail = []
            · subst ht; exact rest_nil
            · obtain ⟨es, b, rfl⟩ : ∃ es b, tail = es ++ [b] := ⟨tail.dropLast, tail.getLast ht, (List.dropLast_concat_getLast _).symm⟩
              exact rest_plain _ _ (by simpa [lastLit] using hll)
          | true =>
            have ht : n ≠ 0 := by
              rintro rfl
              have ht := List.length_eq_zero_iff.1 HN.out
              subst ht
              cases hll
            obtain ⟨m, rfl⟩ : ∃ m, n = m + 1 := ⟨n - 1, by omega⟩
            obtain ⟨es, b, rfl⟩ : ∃ es b, tail = es ++ [b] := ⟨tail.dropLast, tail.getLast (by rintro rfl; cases HN.out), (List.dropLast_concat_getLast _).symm⟩
            obtain rfl := HA.out (by omega)
            have hb0 := (HW.out b (by simp)).1
            have hbl := (HW.out b (by simp)).2
            have hem : es.length = m := by have := HN.out; simp at this; exact this
            have HEM := Lib.hid hem
            have c1 := HCell3.out m (by simp; omega)
            rw [List.getElem_append_right (by omega)] at c1
            simp only [hem, Nat.sub_self, List.getElem_cons_zero] at c1
            have hlb : Hid (isLit b = true) := by show isLit b = true; simpa [lastLit] using hll
            have HLT := Lib.hid (sc_literal b hb0 hbl wc)
            have HBL := Lib.hid hbl
            clear hem hll hb0 hbl ht
            go_wp2_with fail
            refine HLT.out.mono ?_
            rintro e w3 ⟨s, rfl, hs, hb3⟩
            have HS := Lib.hid hs
            clear hs
            have hz3 := hb3.size
            have hB3 := hB1w.out.below hb3 (by omega)
            have x0 := hB3.look 0
            have x1 := hB3.look 1
            have x2 := hB3.look 2
            have f2 := hB3.free 2
            have hB03 := Lib.hid ((hB0w.out.below hb3 (by omega)).other (p := ⟨w1.heap.size, 2, none⟩) (by show w.heap.size ≠ w1.heap.size; omega) (.string s))
            have hb13 := Lib.hid ((below_to hb12 (by omega) hb3).setCell (p := ⟨w1.heap.size, 2, none⟩) (Nat.le_refl _) (.string s))
            have hB4 := Lib.hid (heap_setCell_same w3 w1.heap.size 2 _ 54 (.string s) hB3)
            cases hlit : literal b with
            | none =>
              have hbad := Lib.hid (rest_bad es b s.data.toList hlb.out hlit)
              rw [Option.isSome_none]
              clear hlit
              go_wp2_with fail
              go_meet
              refine ⟨m + 1, m + 1, s.data.toList, rfl, Nat.le_refl _, ?_, ?_, hB03, hb13.out, ?_⟩
              · show Rest _ _ _
                rw [List.take_of_length_le (by have := HN.out; omega)]
                exact hbad.out
              · show Box _ _ _ _
                rw [strB_of]
                exact hB4.out
              · simp; omega
            | some t =>
              obtain rfl := HS.out t hlit
              have hgood := Lib.hid (rest_lit es b t hlb.out HBL.out hlit)
              rw [Option.isSome_some]
              clear hlit
              go_wp2_with fail
              go_meet
              refine ⟨m, m + 1, t, rfl, by omega, ?_, hB4, hB03, hb13.out, ?_⟩
              · show Rest _ _ _
                rw [List.take_append_of_le_length (by have := HEM.out; omega), List.take_of_length_le (by have := HEM.out; omega)]
                exact hgood.out
              · simp; omega
        case rest =>
          obtain ⟨d, c, tt, rfl, hdn, HR, hBX, hB0X, hbX, hzX⟩ := hcut
          have hdl : Hid ((tail.take d).length = d) := by show (tail.take d).length = d; rw [List.length_take, HN.out]; omega
          have HCX : Hid (∀ i (hi : i < d), wc.cell? ⟨g, o + 1 + i, none⟩ = some (.string (strB ((tail.take d)[i]'(by rw [hdl.out]; exact hi))))) := by
            intro i hi
            rw [List.getElem_take]
            exact (hbX.cell (p := ⟨g, o + 1 + i, none⟩) (show g < w1.heap.size by omega)).trans (HCell.out i (by rw [HN.out]; omega))
          have HWD : Hid (∀ x ∈ tail.take d, x.length ≤ 1000000000) := fun x hx => (HW.out x (by simp [List.mem_of_mem_take hx])).2
          have hA : d ≠ 0 → A = some ⟨g, o + 1, none⟩ := fun h => HA.out (by omega)
          have HA2 := Lib.hid hA
          have hL1 := hL.below hbel
          clear hA HA hB hb1x hw1 hL3 hz2 hb12 hb2 HCell
          generalize tail.take d = ds at HR hdl HCX HWD
          go_wp2_with fail
          go_loopw [56] (fun i wr => ∃ (k : Nat) (va : Value) (nums : List Int), k ≤ d ∧ i = .int .i64 k ∧ Below w1.heap.size w1 wr ∧ w1.heap.size < wr.heap.size ∧ Hid (Box wr w1.heap.size 54 #[.int .i64 K, va, .string (strB tt)]) ∧ Hid (Box wr w.heap.size 54 #[.int .i64 0, .slice none 0 0, .string ⟨#[]⟩]) ∧ Hid (wr.ownsRow (w1.heap.size + 1) 3 1 va k (intVs nums)) ∧ Hid (readNums ds = (readNums (ds.drop k)).map (nums ++ ·))) (fun i _ => d - (intOf i).toNat)
          case atStart => exact ⟨0, .slice none 0 0, [], by omega, rfl, hbX, hzX, hBX, hB0X, World.ownsRow_nil _ _ _ _, by show readNums ds = _; simp⟩
          case round =>
            obtain ⟨k, va, nums, hk, rfl, hbr, hzr, hB1r, hB0r, HO, H⟩ := hrel
            obtain ⟨Av, cv, rfl⟩ := own_slice HO.out
            by_cases hlt : k < d
            · obtain rfl := HA2.out (by omega)
              have x0 := (hbr.cell (p := ⟨g, o + 1 + k, none⟩) (show g < w1.heap.size by omega)).trans ((hbX.cell (p := ⟨g, o + 1 + k, none⟩) (show g < w1.heap.size by omega)).symm.trans (HCX.out k hlt))
              have hdk : Hid (readNums (ds.drop k) = match dec (ds[k]'(by rw [hdl.out]; exact hlt)) with
                | some n => (readNums (ds.drop (k + 1))).map ((n : Int) :: ·)
                | none => none) := by
                show readNums _ = _
                rw [List.drop_eq_getElem_cons (by rw [hdl.out]; exact hlt), readNums]
              have hbl := HWD.out (ds[k]'(by rw [hdl.out]; exact hlt)) (List.getElem_mem _)
              generalize ds[k]'(by rw [hdl.out]; exact hlt) = b at x0 hdk hbl
              have hLr := hL1.below hbr
              have HD := Lib.hid (sc_decimal (strB b) (by rw [strB_size]; omega) wr hLr)
              rw [strB_toList] at HD
              cases hd : dec b with
              | none =>
                have HS : Hid (ScSpec.step (h :: tail) = (⟨0, [], []⟩, 3)) := by
                  refine step_noArgs HKN.out (HR.out.2 ?_)
                  rw [H.out, hdk.out, hd]; rfl
                rw [hd] at HD
                clear hd hdk
                go_wp2_with fail
                refine HD.out.mono ?_
                rintro e w2 ⟨n2, rfl, _, hb2⟩
                have hB2 := hB0r.out.below hb2 (by omega)
                have z0 := hB2.look 0
                have z1 := hB2.look 1
                have z2 := hB2.look 2
                have f0 := hB2.free 0
                have f1 := hB2.free 1
                have f2 := hB2.free 2
                go_wp2_with fail
                have hbel2 := below_to hbel (by omega) (below_to hbr (by omega) hb2)
                refine bodyPost_ret (v := .tuple #[.agg #[.int .i64 0, .slice none 0 0, .string ⟨#[]⟩], .int .i64 3]) (by simp [results, Tryz.results33, go_sem, z0, z1, z2]) rfl ⟨_, by rw [HS.out], by rw [HS.out]; exact stepT_zero _, ?_⟩
                exact ((hbel2.setCell (Nat.le_refl _) _).setCell (Nat.le_refl _) _).setCell (Nat.le_refl _) _
              | some m =>
                have H2 : Hid (readNums ds = (readNums (ds.drop (k + 1))).map ((nums ++ [(m : Int)]) ++ ·)) := by
                  show readNums ds = _
                  rw [H.out, hdk.out, hd]
                  simp only [Option.map_map]
                  congr 1
                  funext a
                  simp
                rw [hd] at HD
                clear hd hdk
                go_wp2_with fail
                refine HD.out.mono ?_
                rintro e w2 ⟨n2, rfl, hm2, hb2⟩
                obtain rfl := hm2 m rfl
                clear hm2
                have hz2 := hb2.size
                have hB2 := Lib.hid (hB1r.out.below hb2 (by omega))
                have hB02 := Lib.hid (hB0r.out.below hb2 (by omega))
                have HO2 := Lib.hid (own_below HO.out hb2)
                have y1 := hB2.out.look 1
                have hk63 : k + 1 ≤ 140737488355328 := by omega
                have hk64 : (k + 1) * 8 ≤ 140737488355328 := by omega
                have hbase : ∀ o : Obj, w1.heap.size + 1 ≤ (w2.alloc o).heap.size := fun o => by simp; omega
                go_wp2_with (at_builtin; refine wp_appendB 1 (w1.heap.size + 1) (by rfl) _ _ 52 3 _ 1 8 (by rfl) Tryz.underlying52 infoInt (by rfl) (by decide) _ k (intVs nums) _ (by rfl) w2.heap.size (by rfl) (heap_alloc_new w2 _) (by rfl) (by intro u hu; simp at hu; subst hu; rfl) (HO2.out.alloc _) (hbase _) hk63 hk64 ?_; intro v1 w3 hown3 hg3; obtain ⟨A3, c3, rfl⟩ := own_slice hown3; have hB3 := Lib.hid ((hB2.out.alloc (.cells #[.int .i64 (m : Int)] 3)).kept hg3 (fun e => absurd (own_base HO2.out _ e.symm) (by omega))); have q1 := hB3.out.look 1; have r1 := hB3.out.free 1; have HG := Lib.hid hg3; have HO3 := Lib.hid hown3; clear hg3 hown3 y1)
                have hbel3 := ((below_to hbr (by omega) hb2).alloc (by omega) (.cells #[.int .i64 (m : Int)] 3)).grown HG.out (by simp; omega) (fun j hj => by have := own_base HO2.out j hj; omega)
                have hz3 := HG.out.size
                have hB03 := (hB02.out.alloc (.cells #[.int .i64 (m : Int)] 3)).kept HG.out (fun e => absurd (own_base HO2.out _ e.symm) (by omega))
                have hB4 := Lib.hid (heap_setCell_same w3 w1.heap.size 1 _ 54 (.slice A3 (k + 1) c3) hB3.out)
                have hB04 := Lib.hid (hB03.other (p := ⟨w1.heap.size, 1, none⟩) (show w.heap.size ≠ w1.heap.size by omega) (.slice A3 (k + 1) c3))
                have HO4 := Lib.hid (own_other HO3.out (p := ⟨w1.heap.size, 1, none⟩) (show w1.heap.size < w1.heap.size + 1 by omega) (.slice A3 (k + 1) c3))
                have hbel4 := hbel3.setCell (p := ⟨w1.heap.size, 1, none⟩) (Nat.le_refl _) (.slice A3 (k + 1) c3)
                have hz4 : w1.heap.size < (w3.setCell ⟨w1.heap.size, 1, none⟩ (.slice A3 (k + 1) c3)).heap.size := by simp at hz3; simp; omega
                clear hB03 hbel3 hz3
                go_roundw
                case rel => exact ⟨k + 1, _, nums ++ [(m : Int)], by omega, by push_cast; rfl, hbel4, hz4, hB4, hB04, by show World.ownsRow _ _ _ _ _ _ _; rw [show intVs (nums ++ [(m : Int)]) = intVs nums ++ [Value.int .i64 (m : Int)] from by simp [intVs]]; exact HO4.out, H2⟩
                case measure => simp [intOf]; omega
            · obtain rfl : k = d := by omega
              have hra := Lib.hid (rowV_own HO.out)
              have HN2 : Hid (∃ a, readNums ds = some a ∧ a = nums) := by
                refine ⟨nums, ?_, rfl⟩
                rw [H.out, List.drop_of_length_le (Nat.le_of_eq hdl.out)]; simp [readNums]
              obtain ⟨nums2, hnums, rfl⟩ := HN2.out
              have hra2 := HR.out.1 _ hnums
              have hnl := readNums_len _ _ hnums
              have htl := hra2.2
              rw [hdl.out] at hnl
              have HST := Lib.hid (step_args HKN.out hra2.1)
              have HLR := Lib.hid (hL1.below hbr)
              have HIS := Lib.hid (sc_isStep _ ⟨(K : Int), nums2, tt⟩ (by show List.length nums2 ≤ _; omega) (by show List.length tt ≤ _; omega) wr HLR.out (stepV_own HO.out))
              have HKE2 := HKE.out
              subst HKE2
              clear HN2 hnums hra2 hnl htl
              have y0 := hB1r.out.look 0
              have y1 := hB1r.out.look 1
              have y2 := hB1r.out.look 2
              cases hb : isStep ⟨(kindOf h : Int), nums2, tt⟩ with
              | false =>
                rw [hb] at HIS HST
                clear hb
                go_wp2_with fail
                refine HIS.out.mono ?_
                rintro e w2 ⟨rfl, hb2⟩
                have hB2 := hB0r.out.below hb2 (by omega)
                have z0 := hB2.look 0
                have z1 := hB2.look 1
                have z2 := hB2.look 2
                have f0 := hB2.free 0
                have f1 := hB2.free 1
                have f2 := hB2.free 2
                go_wp2_with fail
                have hbel2 := below_to hbel (by omega) (below_to hbr (by omega) hb2)
                refine bodyPost_ret (v := .tuple #[.agg #[.int .i64 0, .slice none 0 0, .string ⟨#[]⟩], .int .i64 1]) (by simp [results, Tryz.results33, go_sem, z0, z1, z2]) rfl ⟨_, by rw [HST.out]; rfl, by rw [HST.out]; exact stepT_zero _, ?_⟩
                exact ((hbel2.setCell (Nat.le_refl _) _).setCell (Nat.le_refl _) _).setCell (Nat.le_refl _) _
              | true =>
                rw [hb] at HIS HST
                clear hb
                go_wp2_with fail
                refine HIS.out.mono ?_
                rintro e w2 ⟨rfl, hb2⟩
                have hB2 := hB0r.out.below hb2 (by omega)
                have z0 := hB2.look 0
                have z1 := hB2.look 1
                have z2 := hB2.look 2
                have f0 := hB2.free 0
                have f1 := hB2.free 1
                have f2 := hB2.free 2
                have hB3 := hB1r.out.below hb2 (by omega)
                have y0 := hB3.look 0
                have y1 := hB3.look 1
                have y2 := hB3.look 2
                go_wp2_with fail
                have hbel2 := below_to hbel (by omega) (below_to hbr (by omega) hb2)
                refine bodyPost_ret (v := .tuple #[.agg #[.int .i64 (kindOf h), .slice Av k cv, .string (strB tt)], .int .i64 0]) (by simp [results, Tryz.results33, go_sem, z0, z1, z2]) rfl ⟨_, by rw [HST.out]; rfl, ?_, ?_⟩
                · rw [HST.out]
                  exact stepT_own (own_other (own_other (own_other (own_below HO.out hb2) (show w.heap.size < _ by omega) _) (show w.heap.size < _ by omega) _) (show w.heap.size < _ by omega) _)
                · exact ((hbel2.setCell (Nat.le_refl _) _).setCell (Nat.le_refl _) _).setCell (Nat.le_refl _) _
end Go.Proofs.YtecdkgiandbkeaaGreatDoor
