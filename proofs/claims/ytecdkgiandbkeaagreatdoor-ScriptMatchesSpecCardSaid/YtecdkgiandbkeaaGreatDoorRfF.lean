/-
  The reference: decimal digits; bytes put behind one another.
-/
import Derived.Test.YtecdkgiandbkeaaGreatDoorRfE
import Derived.Lib.AppendStr
namespace Go.Proofs.YtecdkgiandbkeaaGreatDoor
open Go.RowKit ScSpec Go.Sort

theorem own_box {w : World} {base : Nat} {e : TypeId} {cs : Array Value} (hb : base ≤ w.heap.size) (hm : cs.size ≤ 1000) : (w.alloc (.cells cs e)).ownsRow base e 1 (.slice (some ⟨w.heap.size, 0, none⟩) cs.size cs.size) cs.size cs.toList :=
  ⟨by simp, .inr ⟨w.heap.size, cs.size, cs, rfl, hb, heap_alloc_new w _, Nat.le_refl _, by simp [maxLen]; omega, by simp, by rw [Nat.mul_one]; exact List.take_of_length_le (by simp)⟩⟩
theorem digit_cell {n : Nat} (h : n < 10) : #[Value.int .u8 ((48 : Int) + n)].toList = Lib.byteCells [UInt8.ofNat (48 + n)] := by
  have e : (UInt8.ofNat (48 + n)).toNat = 48 + n := by simp; omega
  simp only [Lib.byteCells, List.map_cons, List.map_nil, e]
  push_cast
  rfl
theorem ref_digit1 (n : Nat) (h : n < 10) (w : World) : Calls Tryz.prog 62 #[.int .i64 n] w fun e w' => e = .returned (.string (strB (digits n))) ∧ Below w.heap.size w w' := by
  rw [digits, if_pos h]
  have HO : Hid ((w.alloc (.cells #[.int .u8 ((48 : Int) + n)] 5)).ownsRow w.heap.size 5 1 (.slice (some ⟨w.heap.size, 0, none⟩) 1 1) [UInt8.ofNat (48 + n)].length (Lib.byteCells [UInt8.ofNat (48 + n)])) := by
    have := own_box (w := w) (e := 5) (cs := #[.int .u8 ((48 : Int) + n)]) (Nat.le_refl _) (by simp)
    rw [digit_cell h] at this
    exact this
  generalize [UInt8.ofNat (48 + n)] = D at HO ⊢
  go_enter Tryz.func62, Tryz.ntmps62
  go_wp2_with (refine wp_tostr (base := w.heap.size) rfl _ 62 9 5 rfl Tryz.underlying62 Tryz.underlying9 Tryz.underlying5 D _ rfl HO.out ?_)
  go_ret
  exact ⟨rfl, (Below.refl _ w).alloc (Nat.le_refl _) _⟩
theorem ref_digits (n : Nat) : n ≤ 4611686018427387904 → ∀ w : World, Calls Tryz.prog 62 #[.int .i64 n] w fun e w' => e = .returned (.string (strB (digits n))) ∧ Below w.heap.size w w' := by
  induction n using Nat.strongRecOn with
  | _ n ih =>
    intro hn w
    by_cases h : n < 10
    · exact ref_digit1 n h w
    have h1 := ih (n / 10) (by omega) (by omega) w
    have e1 : ((n / 10 : Nat) : Int) = (n : Int) / 10 := by omega
    have e2 : ((n % 10 : Nat) : Int) = (n : Int) % 10 := by omega
    rw [e1] at h1
    have h2 : ∀ w : World, Calls Tryz.prog 62 #[.int .i64 ((n : Int) % 10)] w fun e w' => e = .returned (.string (strB (digits (n % 10)))) ∧ Below w.heap.size w w' := fun w => by
      have := ref_digit1 (n % 10) (by omega) w
      rw [e2] at this
      exact this
    have hd : digits n = digits (n / 10) ++ digits (n % 10) := by
      rw [digits, if_neg h]
      congr 1
      rw [digits, if_pos (by omega)]
    have HD := Lib.hid hd
    have H1 := Lib.hid h1
    have H2 := Lib.hid h2
    have hl := digits_len 18 (n / 10) (by omega)
    have hl2 := digits_len 0 (n % 10) (by omega)
    clear ih h1 h2 hd e1 e2
    have hs1 := strB_size (digits (n / 10))
    have hs2 := strB_size (digits (n % 10))
    have HA := Lib.hid (strB_append (digits (n / 10)) (digits (n % 10)))
    generalize strB (digits (n / 10)) = q1 at H1 hs1 HA
    generalize strB (digits (n % 10)) = q2 at H2 hs2 HA
    have hq1 : q1.size ≤ 19 := by omega
    have hq2 : q2.size ≤ 19 := by omega
    clear hs1 hs2 hl hl2
    go_enter Tryz.func62, Tryz.ntmps62
    go_wp2_with fail
    refine H1.out.mono ?_
    rintro e w1 ⟨rfl, hb1⟩
    go_wp2_with fail
    refine (H2.out w1).mono ?_
    rintro e w2 ⟨rfl, hb2⟩
    go_wp2_with fail
    go_ret
    exact ⟨by rw [HD.out, ← HA.out]; rfl, below_to hb1 hb1.size hb2⟩

/-- Bytes collected so far: v owns them; what was there when the collecting began is there. -/
structure PO (w0 w : World) (v : Value) (acc : Bytes) : Prop where
  bel : Below w0.heap.size w0 w
  own : w.ownsRow w0.heap.size 5 1 v acc.length (Lib.byteCells acc)
def KeepB (w w' : World) : Prop := ∀ g t cs, t ≠ 5 → Box w g t cs → Box w' g t cs
theorem PO.nil (w : World) : PO w w (.slice none 0 0) [] := ⟨Below.refl _ _, World.ownsRow_nil _ _ _ _⟩
theorem PO.call {w0 w w' : World} {v : Value} {acc : Bytes} (h : PO w0 w v acc) (hb : Below w.heap.size w w') : PO w0 w' v acc := ⟨below_to h.bel h.bel.size hb, own_below h.own hb⟩
theorem PO.fresh {w0 w : World} {v : Value} {acc : Bytes} (h : PO w0 w v acc) (o : Obj) : PO w0 (w.alloc o) v acc := h.call ((Below.refl _ w).alloc (Nat.le_refl _) o)
theorem byteCells_append (a b : Bytes) : Lib.byteCells (a ++ b) = Lib.byteCells a ++ Lib.byteCells b := by simp [Lib.byteCells]
theorem PO.grown {w0 w w1 : World} {v v1 : Value} {acc l : Bytes} (h : PO w0 w v acc) (ho : w1.ownsRow w0.heap.size 5 1 v1 (acc.length + l.length) (Lib.byteCells acc ++ Lib.byteCells l)) (hg : w.grownBy w1 v.ownBlock) : PO w0 w1 v1 (acc ++ l) ∧ KeepB w w1 := by
  refine ⟨⟨h.bel.grown hg h.bel.size (fun k hk => own_base h.own k hk), ?_⟩, fun g t cs ht hb => box_grown hb h.own hg ht⟩
  rw [byteCells_append, List.length_append]
  exact ho
section
variable {ops : Array Oper} {rest : List Oper} {o : Oper} {a : Act} {Q : Exit → Act → World → Prop} {w0 W : World} {v : Value} {acc : Bytes}
theorem wp_put (l : Bytes) {s x : Operand} {cs : Array Value} {m : Nat} (H : PO w0 W v acc) (hgd : o.guard = none)
    (ho : o.op = .call { callee := .builtin .append, args := #[s, x], argTypes := #[62, 62] }) (hs : a.eval s = v) (hx : a.eval x = .slice (some ⟨W.heap.size, 0, none⟩) m m) (hcs : cs.toList = Lib.byteCells l) (hm : m = l.length) (hlen : acc.length + l.length ≤ 1000000000)
    (h : ∀ v1 w1, PO w0 w1 v1 (acc ++ l) → KeepB W w1 → wpList Tryz.prog ops Q rest (a.put o.dst v1) w1) :
    wpList Tryz.prog ops Q (o :: rest) a (W.alloc (.cells cs 5)) := by
  subst hm
  have hz : cs.size = l.length := by rw [← Array.length_toList, hcs]; simp [Lib.byteCells]
  refine wp_appendM l.length w0.heap.size hgd s x 62 5 _ 1 1 ho Tryz.underlying62 infoByte (by rfl) (by decide) v acc.length (Lib.byteCells acc) cs hs W.heap.size hx rfl (by rw [hz, Nat.mul_one]) ?_ H.own H.bel.size (by omega) (by omega) ?_
  · intro u hu
    rw [hcs] at hu
    obtain ⟨b, _, rfl⟩ := List.mem_map.1 hu
    rfl
  · intro v1 w1 h1 hg
    rw [hcs] at h1
    obtain ⟨h2, h3⟩ := H.grown h1 hg
    exact h v1 w1 h2 h3
theorem strCells_strB (l : Bytes) : Lib.strCells (strB l) = Lib.byteCells l := by unfold Lib.strCells Lib.byteCells; rw [strB_toList]
theorem wp_putS (l : Bytes) {s x : Operand} {q : ByteArray} (H : PO w0 W v acc) (hgd : o.guard = none)
    (ho : o.op = .call { callee := .builtin .append, args := #[s, x], argTypes := #[62, 9] }) (hs : a.eval s = v) (hx : a.eval x = .string q) (hq : q = strB l) (hlen : acc.length + l.length ≤ 1000000000)
    (h : ∀ v1 w1, PO w0 w1 v1 (acc ++ l) → KeepB W w1 → wpList Tryz.prog ops Q rest (a.put o.dst v1) w1) :
    wpList Tryz.prog ops Q (o :: rest) a W := by
  subst hq
  obtain ⟨i0, hi, hzz⟩ := Option.map_eq_some_iff.1 infoByte
  simp only [Prod.mk.injEq] at hzz
  obtain ⟨hz0, hz1, hz2⟩ := hzz
  have hsz := strB_size l
  refine Lib.wpList_append_own_string W hgd s x 62 9 ho w0.heap.size 5 i0 Tryz.underlying62 Tryz.underlying9 hi hz0 hz1 hz2 v acc.length (Lib.byteCells acc) hs H.own (strB l) hx (by simp only [maxLen]; omega) (by omega) H.bel.size ?_
  intro v1 w1 h1 hg _
  rw [strCells_strB, hsz] at h1
  obtain ⟨h2, h3⟩ := H.grown h1 hg
  exact h v1 w1 h2 h3
end
end Go.Proofs.YtecdkgiandbkeaaGreatDoor
