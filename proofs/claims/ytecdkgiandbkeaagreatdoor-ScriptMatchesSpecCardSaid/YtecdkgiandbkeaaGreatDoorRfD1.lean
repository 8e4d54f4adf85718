/-
  The reference's isStep: the statement that fetches a row draws its order: by the states that it can come through.
-/
import Derived.Test.YtecdkgiandbkeaaGreatDoorRfC
import Derived.Test.YtecdkgiandbkeaaGreatDoorScX
namespace Go.Proofs.YtecdkgiandbkeaaGreatDoor
open Go.RowKit ScSpec Go.Sort

noncomputable def iops : Array Oper := (Tryz.f61.body.bind (regionOf 3)).getD #[]
noncomputable def iop (k : Nat) : Oper := iops.getD k default
theorem iop_size : iops.size = 8 := by kernel_rfl
theorem iop_at {k : Nat} (h : k < 8) : iops[k]? = some (iop k) := by
  have h' : k < iops.size := by rw [iop_size]; exact h
  unfold iop
  rw [Array.getD_eq_getD_getElem?, Array.getElem?_eq_getElem h']; rfl
theorem iop_sel : Region.noSelect iops = true := by kernel_rfl
def li (a r : Nat) : Array Bool := #[decide (1 ≤ a), true, true, true, decide (2 ≤ a), decide (3 ≤ a), decide (1 ≤ r), decide (4 ≤ a)]
/-- A row's cells lie at g, from number m on. -/
def RowAt (w : World) (g m : Nat) (r : Row) : Prop :=
  g < w.heap.size ∧ w.cell? ⟨g, m, none⟩ = some (.string (strB r.name)) ∧ w.cell? ⟨g, m + 1, none⟩ = some (.int .i64 r.least) ∧ w.cell? ⟨g, m + 2, none⟩ = some (.int .i64 r.most) ∧ w.cell? ⟨g, m + 3, none⟩ = some (.bool r.text)
theorem RowAt.below {w w' : World} {g m : Nat} {r : Row} (h : RowAt w g m r) (hb : Below w.heap.size w w') : RowAt w' g m r :=
  ⟨Nat.lt_of_lt_of_le h.1 hb.size, (hb.cell (p := ⟨g, m, none⟩) h.1).trans h.2.1, (hb.cell (p := ⟨g, m + 1, none⟩) h.1).trans h.2.2.1, (hb.cell (p := ⟨g, m + 2, none⟩) h.1).trans h.2.2.2.1, (hb.cell (p := ⟨g, m + 3, none⟩) h.1).trans h.2.2.2.2⟩
theorem ref_rows_at {n : Nat} (hn : n < 23) (w : World) : Calls Tryz.prog 52 #[] w fun e w' => ∃ g, e = .returned (.slice (some ⟨g, 0, none⟩) 23 23) ∧ Below w.heap.size w w' ∧ RowAt w' g (n * 4) (kRow (n + 1)) := by
  refine (ref_rows w).mono ?_
  rintro e w' ⟨rfl, rfl⟩
  obtain ⟨c0, c1, c2, c3⟩ := rows1_look (heap_alloc_new w (.cells rowsC1.toArray 90)) hn
  exact ⟨_, rfl, (Below.refl _ w).alloc (Nat.le_refl _) _, by simp, c0, c1, c2, c3⟩
def Z90 : Array Value := #[.string ⟨#[]⟩, .int .i64 0, .int .i64 0, .bool false]
/-- Where the region stands. -/
structure IFc (w0 w : World) (n : Nat) (a r g g3 : Nat) : Prop where
  bel : Below w0.heap.size w0 w
  row : 1 ≤ a → RowAt w g (n * 4) (kRow (n + 1))
  box : 1 ≤ r → w0.heap.size ≤ g3 ∧ Box w g3 90 Z90
structure IE (w0 : World) (Q : Exit → Act → World → Prop) (n G : Nat) : Prop where
  hQ : ∀ c a d v w, Q (.panic c) (Act.put a (some d) v) w → Q (.panic c) a w
  hn : n < 23
  k0 : G < w0.heap.size ∧ w0.cell? ⟨G, 0, none⟩ = some (.int .i64 ((n : Int) + 1))
section
variable {w0 w : World} {Q : Exit → Act → World → Prop} {n G a r g g3 : Nat} {K : Act → World → Prop} {A : Act} {E0 : Prop}
theorem i_take {S : World → Prop} {k d n : Nat} {l l' : Array Bool} {v : Value} {a' : Act} (hk : k < 8) (hf : Region.free .any iops l k = true) (hr : (Region.ready .any iops l).contains k = true) (hd : (iop k).dst = some d)
    (hQ : ∀ c a d v w, Q (.panic c) (Act.put a (some d) v) w → Q (.panic c) a w) (hw : Region.wanted (iop k) (yielded iops A.tmps) = true) (hy : ∀ w, S w → (execOp A.eval (iop k)).run Tryz.prog w = .ok (.value v) w) (hS : S w)
    (hl : l.setIfInBounds k true = l') (ha : A.put (some d) v = a') (next : wpAnyH Tryz.prog .any iops Q S n l' a' w) : wpAnyH Tryz.prog .any iops Q S (n + 1) l A w := by
  subst hl ha
  rw [← hd] at next
  exact wpAnyH_take (iop_at hk) iop_sel hf hr (fun _ _ _ h => hQ _ _ d _ _ (by rw [← hd]; exact h)) (.inl ⟨hw, hy⟩) hS next
theorem IFc.grow {w' : World} (F : IFc w0 w n a r g g3) (hb : Below w.heap.size w w') : IFc w0 w' n a r g g3 :=
  ⟨below_to F.bel F.bel.size hb, fun h => (F.row h).below hb, fun h => ⟨(F.box h).1, (F.box h).2.below hb (F.box h).2.lt⟩⟩
theorem i_op0 (E : IE w0 Q n G) (F : IFc w0 w n 0 r g g3)
    (h : ∀ g' w', IFc w0 w' n 1 r g' g3 → K (A.put (iop 0).dst (.slice (some ⟨g', 0, none⟩) 23 23)) w') : if Region.wanted (iop 0) (yielded iops A.tmps) = true then Oper.wp Tryz.prog (iop 0) A w K Q else E0 := by
  have hg : (iop 0).guard = none := by kernel_rfl
  have hw : Region.wanted (iop 0) (yielded iops A.tmps) = true := by simp [Region.wanted, hg]
  rw [if_pos hw]
  unfold Oper.wp
  rw [show (execOp A.eval (iop 0)).run Tryz.prog w = .ok (.enter 52 #[]) w by kernel_rfl, Oper.upon_enter]
  refine (ref_rows_at E.hn w).mono ?_
  rintro e w' ⟨g', rfl, hb, hr⟩
  have G := F.grow hb
  exact h g' w' ⟨G.bel, fun _ => hr, G.box⟩
theorem run_alloc90 (w : World) : (Instr.alloc 90 true (.tuple #[])).run Tryz.prog w = .ok (.pointer (some ⟨w.heap.size, 0, none⟩)) (w.alloc (.cells Z90 90)) := by kernel_rfl
theorem i_op6 (F : IFc w0 w n a 0 g g3)
    (h : ∀ g' w', IFc w0 w' n a 1 g g' → K (A.put (iop 6).dst (.pointer (some ⟨g', 0, none⟩))) w') : if Region.wanted (iop 6) (yielded iops A.tmps) = true then Oper.wp Tryz.prog (iop 6) A w K Q else E0 := by
  have hg : (iop 6).guard = none := by kernel_rfl
  have ho : (iop 6).op = .alloc 90 := by kernel_rfl
  have hw : Region.wanted (iop 6) (yielded iops A.tmps) = true := by simp [Region.wanted, hg]
  rw [if_pos hw]
  unfold Oper.wp execOp
  simp only [ho, Sem.run_bind, Sem.run_pure, run_alloc90, Result.andThen_ok]
  have G := F.grow ((Below.refl _ w).alloc (Nat.le_refl _) (.cells Z90 90))
  exact h _ _ ⟨G.bel, G.row, fun _ => ⟨F.bel.size, Box.made w 90 Z90⟩⟩
def rowV1 (q : Row) : Value := .agg #[.string (strB q.name), .int .i64 q.least, .int .i64 q.most, .bool q.text]
theorem i_op5 (F : IFc w0 w n 2 r g g3) (hv : A.eval (.tmp 20) = .pointer (some ⟨g, n * 4, none⟩))
    (h : IFc w0 w n 3 r g g3 → K (A.put (iop 5).dst (rowV1 (kRow (n + 1)))) w) : if Region.wanted (iop 5) (yielded iops A.tmps) = true then Oper.wp Tryz.prog (iop 5) A w K Q else E0 := by
  have hg : (iop 5).guard = none := by kernel_rfl
  have ho : (iop 5).op = .load 90 (.tmp 20) := by kernel_rfl
  have hw : Region.wanted (iop 5) (yielded iops A.tmps) = true := by simp [Region.wanted, hg]
  rw [if_pos hw]
  obtain ⟨_, c0, c1, c2, c3⟩ := F.row (by omega)
  have hh := h ⟨F.bel, fun _ => F.row (by omega), F.box⟩
  generalize kRow (n + 1) = q at c0 c1 c2 c3 hh
  unfold rowV1 at hh
  generalize n * 4 = m at c0 c1 c2 c3 hv
  generalize iop 5 = op at ho hh
  clear h hw hg
  unfold Oper.wp
  have hrun : (execOp A.eval op).run Tryz.prog w = .ok (.value (.agg #[.string (strB q.name), .int .i64 q.least, .int .i64 q.most, .bool q.text])) w := by
    generalize A.eval = r at hv
    unfold execOp
    rw [ho]
    go_simp
  rw [hrun, Oper.upon_value]
  exact hh
theorem i_op7 (F : IFc w0 w n 3 1 g g3) (hv : A.eval (.tmp 3) = .pointer (some ⟨g3, 0, none⟩)) (hx : A.eval (.tmp 21) = rowV1 (kRow (n + 1)))
    (h : ∀ w', Below w0.heap.size w0 w' → Box w' g3 90 #[.string (strB (kRow (n + 1)).name), .int .i64 (kRow (n + 1)).least, .int .i64 (kRow (n + 1)).most, .bool (kRow (n + 1)).text] → K (A.put (iop 7).dst undef) w') :
    if Region.wanted (iop 7) (yielded iops A.tmps) = true then Oper.wp Tryz.prog (iop 7) A w K Q else E0 := by
  have hg : (iop 7).guard = none := by kernel_rfl
  have ho : (iop 7).op = .store 90 (.tmp 3) (.tmp 21) := by kernel_rfl
  have hw : Region.wanted (iop 7) (yielded iops A.tmps) = true := by simp [Region.wanted, hg]
  rw [if_pos hw]
  obtain ⟨hB, hbx⟩ := F.box (by omega)
  have c0 : w.cell? ⟨g3, 0, none⟩ = some (.string ⟨#[]⟩) := hbx.look 0
  have c1 : w.cell? ⟨g3, 1, none⟩ = some (.int .i64 0) := hbx.look 1
  have c2 : w.cell? ⟨g3, 2, none⟩ = some (.int .i64 0) := hbx.look 2
  have c3 : w.cell? ⟨g3, 3, none⟩ = some (.bool false) := hbx.look 3
  have f0 := hbx.free 0
  have f1 := hbx.free 1
  have f2 := hbx.free 2
  have f3 := hbx.free 3
  have hd : (iop 7).dst = none := by kernel_rfl
  unfold rowV1 at hx
  generalize kRow (n + 1) = q at hx h
  have hh := h ((((w.setCell ⟨g3, 0, none⟩ (.string (strB q.name))).setCell ⟨g3, 1, none⟩ (.int .i64 q.least)).setCell ⟨g3, 2, none⟩ (.int .i64 q.most)).setCell ⟨g3, 3, none⟩ (.bool q.text))
    ((((F.bel.setCell (p := ⟨g3, 0, none⟩) hB _).setCell (p := ⟨g3, 1, none⟩) hB _).setCell (p := ⟨g3, 2, none⟩) hB _).setCell (p := ⟨g3, 3, none⟩) hB _)
    (heap_setCell_same _ g3 3 _ 90 _ (heap_setCell_same _ g3 2 _ 90 _ (heap_setCell_same _ g3 1 _ 90 _ (heap_setCell_same w g3 0 _ 90 _ hbx))))
  rw [hd] at hh
  clear h
  generalize iop 7 = op at ho hd
  obtain ⟨d, op, ty, pos, af, gd⟩ := op
  simp only at ho hd
  subst ho hd
  unfold Oper.wp execOp
  generalize A.eval = r at hv hx
  go_simp
  exact hh
end
set_option maxRecDepth 100000 in
theorem in_3_1 {w0 w : World} {Q : Exit → Act → World → Prop} {n G g g3 : Nat} {D : List Deferred} {x0 x2 x4 x5 x6 x7 x8 x9 x10 x11 x12 x13 x14 x15 x22 x23 x24 x25 x26 x27 x28 x29 x30 x31 x32 x33 x34 x35 x36 x37 x38 x39 x40 x41 x42 x43 x44 x45 x46 x47 x48 x49 x50 x51 x52 x53 x54 x55 x56 x57 x58 x59 x60 x61 x62 x63 x64 x65 x66 x67 x68 x69 x70 x71 x72 x73 x74 x75 : Value}
    (_ : IE w0 Q n G)
    (nx : ∀ w g g3, Below w0.heap.size w0 w → w0.heap.size ≤ g3 → Box w g3 90 #[.string (strB (kRow (n + 1)).name), .int .i64 (kRow (n + 1)).least, .int .i64 (kRow (n + 1)).most, .bool (kRow (n + 1)).text] → Q .normal ⟨#[x0, .pointer (some ⟨G, 0, none⟩), x2, .pointer (some ⟨g3, 0, none⟩), x4, x5, x6, x7, x8, x9, x10, x11, x12, x13, x14, x15, .slice (some ⟨g, 0, none⟩) 23 23, .pointer (some ⟨G, 0, none⟩), .int .i64 ((n : Int) + 1), .int .i64 n, .pointer (some ⟨g, n * 4, none⟩), rowV1 (kRow (n + 1)), x22, x23, x24, x25, x26, x27, x28, x29, x30, x31, x32, x33, x34, x35, x36, x37, x38, x39, x40, x41, x42, x43, x44, x45, x46, x47, x48, x49, x50, x51, x52, x53, x54, x55, x56, x57, x58, x59, x60, x61, x62, x63, x64, x65, x66, x67, x68, x69, x70, x71, x72, x73, x74, x75], D⟩ w)
    (F : IFc w0 w n 3 1 g g3) : wpAnyH Tryz.prog .any iops Q (fun w => Below w0.heap.size w0 w) 1 (li 3 1) ⟨#[x0, .pointer (some ⟨G, 0, none⟩), x2, .pointer (some ⟨g3, 0, none⟩), x4, x5, x6, x7, x8, x9, x10, x11, x12, x13, x14, x15, .slice (some ⟨g, 0, none⟩) 23 23, .pointer (some ⟨G, 0, none⟩), .int .i64 ((n : Int) + 1), .int .i64 n, .pointer (some ⟨g, n * 4, none⟩), rowV1 (kRow (n + 1)), x22, x23, x24, x25, x26, x27, x28, x29, x30, x31, x32, x33, x34, x35, x36, x37, x38, x39, x40, x41, x42, x43, x44, x45, x46, x47, x48, x49, x50, x51, x52, x53, x54, x55, x56, x57, x58, x59, x60, x61, x62, x63, x64, x65, x66, x67, x68, x69, x70, x71, x72, x73, x74, x75], D⟩ w := by
  refine wpAnyH_ready (rs := [7]) (by kernel_rfl) (by simp) ?_
  exact AllReadyH.cons (iop_at (by decide)) (fun K hK => i_op7 F (by kernel_rfl) (by kernel_rfl) (fun w' hb hbx => hK.out _ _ hb (fun _ => cast_w (a' := ⟨#[x0, .pointer (some ⟨G, 0, none⟩), x2, .pointer (some ⟨g3, 0, none⟩), x4, x5, x6, x7, x8, x9, x10, x11, x12, x13, x14, x15, .slice (some ⟨g, 0, none⟩) 23 23, .pointer (some ⟨G, 0, none⟩), .int .i64 ((n : Int) + 1), .int .i64 n, .pointer (some ⟨g, n * 4, none⟩), rowV1 (kRow (n + 1)), x22, x23, x24, x25, x26, x27, x28, x29, x30, x31, x32, x33, x34, x35, x36, x37, x38, x39, x40, x41, x42, x43, x44, x45, x46, x47, x48, x49, x50, x51, x52, x53, x54, x55, x56, x57, x58, x59, x60, x61, x62, x63, x64, x65, x66, x67, x68, x69, x70, x71, x72, x73, x74, x75], D⟩) (by kernel_rfl) (by kernel_rfl) (wpAnyH_done (listed := li 4 1) (by kernel_rfl) (nx w' g g3 hb (F.box (by omega)).1 hbx) _)))) (AllReadyH.nil)
set_option maxRecDepth 100000 in
theorem in_3_0 {w0 w : World} {Q : Exit → Act → World → Prop} {n G g g3 : Nat} {D : List Deferred} {s3 x0 x2 x4 x5 x6 x7 x8 x9 x10 x11 x12 x13 x14 x15 x22 x23 x24 x25 x26 x27 x28 x29 x30 x31 x32 x33 x34 x35 x36 x37 x38 x39 x40 x41 x42 x43 x44 x45 x46 x47 x48 x49 x50 x51 x52 x53 x54 x55 x56 x57 x58 x59 x60 x61 x62 x63 x64 x65 x66 x67 x68 x69 x70 x71 x72 x73 x74 x75 : Value}
    (E : IE w0 Q n G)
    (nx : ∀ w g g3, Below w0.heap.size w0 w → w0.heap.size ≤ g3 → Box w g3 90 #[.string (strB (kRow (n + 1)).name), .int .i64 (kRow (n + 1)).least, .int .i64 (kRow (n + 1)).most, .bool (kRow (n + 1)).text] → Q .normal ⟨#[x0, .pointer (some ⟨G, 0, none⟩), x2, .pointer (some ⟨g3, 0, none⟩), x4, x5, x6, x7, x8, x9, x10, x11, x12, x13, x14, x15, .slice (some ⟨g, 0, none⟩) 23 23, .pointer (some ⟨G, 0, none⟩), .int .i64 ((n : Int) + 1), .int .i64 n, .pointer (some ⟨g, n * 4, none⟩), rowV1 (kRow (n + 1)), x22, x23, x24, x25, x26, x27, x28, x29, x30, x31, x32, x33, x34, x35, x36, x37, x38, x39, x40, x41, x42, x43, x44, x45, x46, x47, x48, x49, x50, x51, x52, x53, x54, x55, x56, x57, x58, x59, x60, x61, x62, x63, x64, x65, x66, x67, x68, x69, x70, x71, x72, x73, x74, x75], D⟩ w)
    (F : IFc w0 w n 3 0 g g3) : wpAnyH Tryz.prog .any iops Q (fun w => Below w0.heap.size w0 w) 2 (li 3 0) ⟨#[x0, .pointer (some ⟨G, 0, none⟩), x2, s3, x4, x5, x6, x7, x8, x9, x10, x11, x12, x13, x14, x15, .slice (some ⟨g, 0, none⟩) 23 23, .pointer (some ⟨G, 0, none⟩), .int .i64 ((n : Int) + 1), .int .i64 n, .pointer (some ⟨g, n * 4, none⟩), rowV1 (kRow (n + 1)), x22, x23, x24, x25, x26, x27, x28, x29, x30, x31, x32, x33, x34, x35, x36, x37, x38, x39, x40, x41, x42, x43, x44, x45, x46, x47, x48, x49, x50, x51, x52, x53, x54, x55, x56, x57, x58, x59, x60, x61, x62, x63, x64, x65, x66, x67, x68, x69, x70, x71, x72, x73, x74, x75], D⟩ w := by
  refine wpAnyH_ready (rs := [6]) (by kernel_rfl) (by simp) ?_
  exact AllReadyH.cons (iop_at (by decide)) (fun K hK => i_op6 F (fun g' w' F' => hK.out _ _ F'.bel (fun _ => cast_w (a' := ⟨#[x0, .pointer (some ⟨G, 0, none⟩), x2, .pointer (some ⟨g', 0, none⟩), x4, x5, x6, x7, x8, x9, x10, x11, x12, x13, x14, x15, .slice (some ⟨g, 0, none⟩) 23 23, .pointer (some ⟨G, 0, none⟩), .int .i64 ((n : Int) + 1), .int .i64 n, .pointer (some ⟨g, n * 4, none⟩), rowV1 (kRow (n + 1)), x22, x23, x24, x25, x26, x27, x28, x29, x30, x31, x32, x33, x34, x35, x36, x37, x38, x39, x40, x41, x42, x43, x44, x45, x46, x47, x48, x49, x50, x51, x52, x53, x54, x55, x56, x57, x58, x59, x60, x61, x62, x63, x64, x65, x66, x67, x68, x69, x70, x71, x72, x73, x74, x75], D⟩) (by kernel_rfl) (by kernel_rfl) (in_3_1 E nx F')))) (AllReadyH.nil)
set_option maxRecDepth 100000 in
theorem in_2_1 {w0 w : World} {Q : Exit → Act → World → Prop} {n G g g3 : Nat} {D : List Deferred} {s21 x0 x2 x4 x5 x6 x7 x8 x9 x10 x11 x12 x13 x14 x15 x22 x23 x24 x25 x26 x27 x28 x29 x30 x31 x32 x33 x34 x35 x36 x37 x38 x39 x40 x41 x42 x43 x44 x45 x46 x47 x48 x49 x50 x51 x52 x53 x54 x55 x56 x57 x58 x59 x60 x61 x62 x63 x64 x65 x66 x67 x68 x69 x70 x71 x72 x73 x74 x75 : Value}
    (E : IE w0 Q n G)
    (nx : ∀ w g g3, Below w0.heap.size w0 w → w0.heap.size ≤ g3 → Box w g3 90 #[.string (strB (kRow (n + 1)).name), .int .i64 (kRow (n + 1)).least, .int .i64 (kRow (n + 1)).most, .bool (kRow (n + 1)).text] → Q .normal ⟨#[x0, .pointer (some ⟨G, 0, none⟩), x2, .pointer (some ⟨g3, 0, none⟩), x4, x5, x6, x7, x8, x9, x10, x11, x12, x13, x14, x15, .slice (some ⟨g, 0, none⟩) 23 23, .pointer (some ⟨G, 0, none⟩), .int .i64 ((n : Int) + 1), .int .i64 n, .pointer (some ⟨g, n * 4, none⟩), rowV1 (kRow (n + 1)), x22, x23, x24, x25, x26, x27, x28, x29, x30, x31, x32, x33, x34, x35, x36, x37, x38, x39, x40, x41, x42, x43, x44, x45, x46, x47, x48, x49, x50, x51, x52, x53, x54, x55, x56, x57, x58, x59, x60, x61, x62, x63, x64, x65, x66, x67, x68, x69, x70, x71, x72, x73, x74, x75], D⟩ w)
    (F : IFc w0 w n 2 1 g g3) : wpAnyH Tryz.prog .any iops Q (fun w => Below w0.heap.size w0 w) 2 (li 2 1) ⟨#[x0, .pointer (some ⟨G, 0, none⟩), x2, .pointer (some ⟨g3, 0, none⟩), x4, x5, x6, x7, x8, x9, x10, x11, x12, x13, x14, x15, .slice (some ⟨g, 0, none⟩) 23 23, .pointer (some ⟨G, 0, none⟩), .int .i64 ((n : Int) + 1), .int .i64 n, .pointer (some ⟨g, n * 4, none⟩), s21, x22, x23, x24, x25, x26, x27, x28, x29, x30, x31, x32, x33, x34, x35, x36, x37, x38, x39, x40, x41, x42, x43, x44, x45, x46, x47, x48, x49, x50, x51, x52, x53, x54, x55, x56, x57, x58, x59, x60, x61, x62, x63, x64, x65, x66, x67, x68, x69, x70, x71, x72, x73, x74, x75], D⟩ w := by
  refine wpAnyH_ready (rs := [5]) (by kernel_rfl) (by simp) ?_
  exact AllReadyH.cons (iop_at (by decide)) (fun K hK => i_op5 F (by kernel_rfl) (fun F' => hK.out _ _ F'.bel (fun _ => cast_w (a' := ⟨#[x0, .pointer (some ⟨G, 0, none⟩), x2, .pointer (some ⟨g3, 0, none⟩), x4, x5, x6, x7, x8, x9, x10, x11, x12, x13, x14, x15, .slice (some ⟨g, 0, none⟩) 23 23, .pointer (some ⟨G, 0, none⟩), .int .i64 ((n : Int) + 1), .int .i64 n, .pointer (some ⟨g, n * 4, none⟩), rowV1 (kRow (n + 1)), x22, x23, x24, x25, x26, x27, x28, x29, x30, x31, x32, x33, x34, x35, x36, x37, x38, x39, x40, x41, x42, x43, x44, x45, x46, x47, x48, x49, x50, x51, x52, x53, x54, x55, x56, x57, x58, x59, x60, x61, x62, x63, x64, x65, x66, x67, x68, x69, x70, x71, x72, x73, x74, x75], D⟩) (by kernel_rfl) (by kernel_rfl) (in_3_1 E nx F')))) (AllReadyH.nil)
set_option maxRecDepth 100000 in
theorem in_2_0 {w0 w : World} {Q : Exit → Act → World → Prop} {n G g g3 : Nat} {D : List Deferred} {s21 s3 x0 x2 x4 x5 x6 x7 x8 x9 x10 x11 x12 x13 x14 x15 x22 x23 x24 x25 x26 x27 x28 x29 x30 x31 x32 x33 x34 x35 x36 x37 x38 x39 x40 x41 x42 x43 x44 x45 x46 x47 x48 x49 x50 x51 x52 x53 x54 x55 x56 x57 x58 x59 x60 x61 x62 x63 x64 x65 x66 x67 x68 x69 x70 x71 x72 x73 x74 x75 : Value}
    (E : IE w0 Q n G)
    (nx : ∀ w g g3, Below w0.heap.size w0 w → w0.heap.size ≤ g3 → Box w g3 90 #[.string (strB (kRow (n + 1)).name), .int .i64 (kRow (n + 1)).least, .int .i64 (kRow (n + 1)).most, .bool (kRow (n + 1)).text] → Q .normal ⟨#[x0, .pointer (some ⟨G, 0, none⟩), x2, .pointer (some ⟨g3, 0, none⟩), x4, x5, x6, x7, x8, x9, x10, x11, x12, x13, x14, x15, .slice (some ⟨g, 0, none⟩) 23 23, .pointer (some ⟨G, 0, none⟩), .int .i64 ((n : Int) + 1), .int .i64 n, .pointer (some ⟨g, n * 4, none⟩), rowV1 (kRow (n + 1)), x22, x23, x24, x25, x26, x27, x28, x29, x30, x31, x32, x33, x34, x35, x36, x37, x38, x39, x40, x41, x42, x43, x44, x45, x46, x47, x48, x49, x50, x51, x52, x53, x54, x55, x56, x57, x58, x59, x60, x61, x62, x63, x64, x65, x66, x67, x68, x69, x70, x71, x72, x73, x74, x75], D⟩ w)
    (F : IFc w0 w n 2 0 g g3) : wpAnyH Tryz.prog .any iops Q (fun w => Below w0.heap.size w0 w) 3 (li 2 0) ⟨#[x0, .pointer (some ⟨G, 0, none⟩), x2, s3, x4, x5, x6, x7, x8, x9, x10, x11, x12, x13, x14, x15, .slice (some ⟨g, 0, none⟩) 23 23, .pointer (some ⟨G, 0, none⟩), .int .i64 ((n : Int) + 1), .int .i64 n, .pointer (some ⟨g, n * 4, none⟩), s21, x22, x23, x24, x25, x26, x27, x28, x29, x30, x31, x32, x33, x34, x35, x36, x37, x38, x39, x40, x41, x42, x43, x44, x45, x46, x47, x48, x49, x50, x51, x52, x53, x54, x55, x56, x57, x58, x59, x60, x61, x62, x63, x64, x65, x66, x67, x68, x69, x70, x71, x72, x73, x74, x75], D⟩ w := by
  refine wpAnyH_ready (rs := [5, 6]) (by kernel_rfl) (by simp) ?_
  exact AllReadyH.cons (iop_at (by decide)) (fun K hK => i_op5 F (by kernel_rfl) (fun F' => hK.out _ _ F'.bel (fun _ => cast_w (a' := ⟨#[x0, .pointer (some ⟨G, 0, none⟩), x2, s3, x4, x5, x6, x7, x8, x9, x10, x11, x12, x13, x14, x15, .slice (some ⟨g, 0, none⟩) 23 23, .pointer (some ⟨G, 0, none⟩), .int .i64 ((n : Int) + 1), .int .i64 n, .pointer (some ⟨g, n * 4, none⟩), rowV1 (kRow (n + 1)), x22, x23, x24, x25, x26, x27, x28, x29, x30, x31, x32, x33, x34, x35, x36, x37, x38, x39, x40, x41, x42, x43, x44, x45, x46, x47, x48, x49, x50, x51, x52, x53, x54, x55, x56, x57, x58, x59, x60, x61, x62, x63, x64, x65, x66, x67, x68, x69, x70, x71, x72, x73, x74, x75], D⟩) (by kernel_rfl) (by kernel_rfl) (in_3_0 E nx F')))) (AllReadyH.cons (iop_at (by decide)) (fun K hK => i_op6 F (fun g' w' F' => hK.out _ _ F'.bel (fun _ => cast_w (a' := ⟨#[x0, .pointer (some ⟨G, 0, none⟩), x2, .pointer (some ⟨g', 0, none⟩), x4, x5, x6, x7, x8, x9, x10, x11, x12, x13, x14, x15, .slice (some ⟨g, 0, none⟩) 23 23, .pointer (some ⟨G, 0, none⟩), .int .i64 ((n : Int) + 1), .int .i64 n, .pointer (some ⟨g, n * 4, none⟩), s21, x22, x23, x24, x25, x26, x27, x28, x29, x30, x31, x32, x33, x34, x35, x36, x37, x38, x39, x40, x41, x42, x43, x44, x45, x46, x47, x48, x49, x50, x51, x52, x53, x54, x55, x56, x57, x58, x59, x60, x61, x62, x63, x64, x65, x66, x67, x68, x69, x70, x71, x72, x73, x74, x75], D⟩) (by kernel_rfl) (by kernel_rfl) (in_2_1 E nx F')))) (AllReadyH.nil))
set_option maxRecDepth 100000 in
theorem in_1_1 {w0 w : World} {Q : Exit → Act → World → Prop} {n G g g3 : Nat} {D : List Deferred} {s20 s21 x0 x2 x4 x5 x6 x7 x8 x9 x10 x11 x12 x13 x14 x15 x22 x23 x24 x25 x26 x27 x28 x29 x30 x31 x32 x33 x34 x35 x36 x37 x38 x39 x40 x41 x42 x43 x44 x45 x46 x47 x48 x49 x50 x51 x52 x53 x54 x55 x56 x57 x58 x59 x60 x61 x62 x63 x64 x65 x66 x67 x68 x69 x70 x71 x72 x73 x74 x75 : Value}
    (E : IE w0 Q n G)
    (nx : ∀ w g g3, Below w0.heap.size w0 w → w0.heap.size ≤ g3 → Box w g3 90 #[.string (strB (kRow (n + 1)).name), .int .i64 (kRow (n + 1)).least, .int .i64 (kRow (n + 1)).most, .bool (kRow (n + 1)).text] → Q .normal ⟨#[x0, .pointer (some ⟨G, 0, none⟩), x2, .pointer (some ⟨g3, 0, none⟩), x4, x5, x6, x7, x8, x9, x10, x11, x12, x13, x14, x15, .slice (some ⟨g, 0, none⟩) 23 23, .pointer (some ⟨G, 0, none⟩), .int .i64 ((n : Int) + 1), .int .i64 n, .pointer (some ⟨g, n * 4, none⟩), rowV1 (kRow (n + 1)), x22, x23, x24, x25, x26, x27, x28, x29, x30, x31, x32, x33, x34, x35, x36, x37, x38, x39, x40, x41, x42, x43, x44, x45, x46, x47, x48, x49, x50, x51, x52, x53, x54, x55, x56, x57, x58, x59, x60, x61, x62, x63, x64, x65, x66, x67, x68, x69, x70, x71, x72, x73, x74, x75], D⟩ w)
    (F : IFc w0 w n 1 1 g g3) : wpAnyH Tryz.prog .any iops Q (fun w => Below w0.heap.size w0 w) 3 (li 1 1) ⟨#[x0, .pointer (some ⟨G, 0, none⟩), x2, .pointer (some ⟨g3, 0, none⟩), x4, x5, x6, x7, x8, x9, x10, x11, x12, x13, x14, x15, .slice (some ⟨g, 0, none⟩) 23 23, .pointer (some ⟨G, 0, none⟩), .int .i64 ((n : Int) + 1), .int .i64 n, s20, s21, x22, x23, x24, x25, x26, x27, x28, x29, x30, x31, x32, x33, x34, x35, x36, x37, x38, x39, x40, x41, x42, x43, x44, x45, x46, x47, x48, x49, x50, x51, x52, x53, x54, x55, x56, x57, x58, x59, x60, x61, x62, x63, x64, x65, x66, x67, x68, x69, x70, x71, x72, x73, x74, x75], D⟩ w := by
  have hn := E.hn
  have hi : ∀ w, (Instr.indexAt 87 (.slice (some ⟨g, 0, none⟩) 23 23) (.int .i64 n)).run Tryz.prog w = .ok (.pointer (some ⟨g, n * 4, none⟩)) w := fun w => by
    have h1 : (0 : Int) ≤ (n : Int) := by omega
    have h2 : (n : Int) < 23 := by omega
    go_simp
  refine i_take (k := 4) (d := 20) (v := .pointer (some ⟨g, n * 4, none⟩)) (a' := ⟨#[x0, .pointer (some ⟨G, 0, none⟩), x2, .pointer (some ⟨g3, 0, none⟩), x4, x5, x6, x7, x8, x9, x10, x11, x12, x13, x14, x15, .slice (some ⟨g, 0, none⟩) 23 23, .pointer (some ⟨G, 0, none⟩), .int .i64 ((n : Int) + 1), .int .i64 n, .pointer (some ⟨g, n * 4, none⟩), s21, x22, x23, x24, x25, x26, x27, x28, x29, x30, x31, x32, x33, x34, x35, x36, x37, x38, x39, x40, x41, x42, x43, x44, x45, x46, x47, x48, x49, x50, x51, x52, x53, x54, x55, x56, x57, x58, x59, x60, x61, x62, x63, x64, x65, x66, x67, x68, x69, x70, x71, x72, x73, x74, x75], D⟩) (by decide) (by kernel_rfl) (by kernel_rfl) (by kernel_rfl) E.hQ (by kernel_rfl) (fun w _ => ?_) F.bel (by kernel_rfl) (by kernel_rfl) (in_2_1 E nx ⟨F.bel, fun _ => F.row (by omega), F.box⟩)
  have ho : (iop 4).op = .indexAddr 87 (.tmp 16) (.tmp 19) := by kernel_rfl
  unfold execOp
  rw [ho]
  simp only [Sem.run_bind, Sem.run_pure]
  rw [show (Act.eval _ (.tmp 16)) = .slice (some ⟨g, 0, none⟩) 23 23 by kernel_rfl, show (Act.eval _ (.tmp 19)) = .int .i64 n by kernel_rfl, hi, Result.andThen_ok]
set_option maxRecDepth 100000 in
theorem in_1_0 {w0 w : World} {Q : Exit → Act → World → Prop} {n G g g3 : Nat} {D : List Deferred} {s20 s21 s3 x0 x2 x4 x5 x6 x7 x8 x9 x10 x11 x12 x13 x14 x15 x22 x23 x24 x25 x26 x27 x28 x29 x30 x31 x32 x33 x34 x35 x36 x37 x38 x39 x40 x41 x42 x43 x44 x45 x46 x47 x48 x49 x50 x51 x52 x53 x54 x55 x56 x57 x58 x59 x60 x61 x62 x63 x64 x65 x66 x67 x68 x69 x70 x71 x72 x73 x74 x75 : Value}
    (E : IE w0 Q n G)
    (nx : ∀ w g g3, Below w0.heap.size w0 w → w0.heap.size ≤ g3 → Box w g3 90 #[.string (strB (kRow (n + 1)).name), .int .i64 (kRow (n + 1)).least, .int .i64 (kRow (n + 1)).most, .bool (kRow (n + 1)).text] → Q .normal ⟨#[x0, .pointer (some ⟨G, 0, none⟩), x2, .pointer (some ⟨g3, 0, none⟩), x4, x5, x6, x7, x8, x9, x10, x11, x12, x13, x14, x15, .slice (some ⟨g, 0, none⟩) 23 23, .pointer (some ⟨G, 0, none⟩), .int .i64 ((n : Int) + 1), .int .i64 n, .pointer (some ⟨g, n * 4, none⟩), rowV1 (kRow (n + 1)), x22, x23, x24, x25, x26, x27, x28, x29, x30, x31, x32, x33, x34, x35, x36, x37, x38, x39, x40, x41, x42, x43, x44, x45, x46, x47, x48, x49, x50, x51, x52, x53, x54, x55, x56, x57, x58, x59, x60, x61, x62, x63, x64, x65, x66, x67, x68, x69, x70, x71, x72, x73, x74, x75], D⟩ w)
    (F : IFc w0 w n 1 0 g g3) : wpAnyH Tryz.prog .any iops Q (fun w => Below w0.heap.size w0 w) 4 (li 1 0) ⟨#[x0, .pointer (some ⟨G, 0, none⟩), x2, s3, x4, x5, x6, x7, x8, x9, x10, x11, x12, x13, x14, x15, .slice (some ⟨g, 0, none⟩) 23 23, .pointer (some ⟨G, 0, none⟩), .int .i64 ((n : Int) + 1), .int .i64 n, s20, s21, x22, x23, x24, x25, x26, x27, x28, x29, x30, x31, x32, x33, x34, x35, x36, x37, x38, x39, x40, x41, x42, x43, x44, x45, x46, x47, x48, x49, x50, x51, x52, x53, x54, x55, x56, x57, x58, x59, x60, x61, x62, x63, x64, x65, x66, x67, x68, x69, x70, x71, x72, x73, x74, x75], D⟩ w := by
  have hn := E.hn
  have hi : ∀ w, (Instr.indexAt 87 (.slice (some ⟨g, 0, none⟩) 23 23) (.int .i64 n)).run Tryz.prog w = .ok (.pointer (some ⟨g, n * 4, none⟩)) w := fun w => by
    have h1 : (0 : Int) ≤ (n : Int) := by omega
    have h2 : (n : Int) < 23 := by omega
    go_simp
  refine i_take (k := 4) (d := 20) (v := .pointer (some ⟨g, n * 4, none⟩)) (a' := ⟨#[x0, .pointer (some ⟨G, 0, none⟩), x2, s3, x4, x5, x6, x7, x8, x9, x10, x11, x12, x13, x14, x15, .slice (some ⟨g, 0, none⟩) 23 23, .pointer (some ⟨G, 0, none⟩), .int .i64 ((n : Int) + 1), .int .i64 n, .pointer (some ⟨g, n * 4, none⟩), s21, x22, x23, x24, x25, x26, x27, x28, x29, x30, x31, x32, x33, x34, x35, x36, x37, x38, x39, x40, x41, x42, x43, x44, x45, x46, x47, x48, x49, x50, x51, x52, x53, x54, x55, x56, x57, x58, x59, x60, x61, x62, x63, x64, x65, x66, x67, x68, x69, x70, x71, x72, x73, x74, x75], D⟩) (by decide) (by kernel_rfl) (by kernel_rfl) (by kernel_rfl) E.hQ (by kernel_rfl) (fun w _ => ?_) F.bel (by kernel_rfl) (by kernel_rfl) (in_2_0 E nx ⟨F.bel, fun _ => F.row (by omega), F.box⟩)
  have ho : (iop 4).op = .indexAddr 87 (.tmp 16) (.tmp 19) := by kernel_rfl
  unfold execOp
  rw [ho]
  simp only [Sem.run_bind, Sem.run_pure]
  rw [show (Act.eval _ (.tmp 16)) = .slice (some ⟨g, 0, none⟩) 23 23 by kernel_rfl, show (Act.eval _ (.tmp 19)) = .int .i64 n by kernel_rfl, hi, Result.andThen_ok]
set_option maxRecDepth 100000 in
theorem in_0_1 {w0 w : World} {Q : Exit → Act → World → Prop} {n G g g3 : Nat} {D : List Deferred} {s16 s20 s21 x0 x2 x4 x5 x6 x7 x8 x9 x10 x11 x12 x13 x14 x15 x22 x23 x24 x25 x26 x27 x28 x29 x30 x31 x32 x33 x34 x35 x36 x37 x38 x39 x40 x41 x42 x43 x44 x45 x46 x47 x48 x49 x50 x51 x52 x53 x54 x55 x56 x57 x58 x59 x60 x61 x62 x63 x64 x65 x66 x67 x68 x69 x70 x71 x72 x73 x74 x75 : Value}
    (E : IE w0 Q n G)
    (nx : ∀ w g g3, Below w0.heap.size w0 w → w0.heap.size ≤ g3 → Box w g3 90 #[.string (strB (kRow (n + 1)).name), .int .i64 (kRow (n + 1)).least, .int .i64 (kRow (n + 1)).most, .bool (kRow (n + 1)).text] → Q .normal ⟨#[x0, .pointer (some ⟨G, 0, none⟩), x2, .pointer (some ⟨g3, 0, none⟩), x4, x5, x6, x7, x8, x9, x10, x11, x12, x13, x14, x15, .slice (some ⟨g, 0, none⟩) 23 23, .pointer (some ⟨G, 0, none⟩), .int .i64 ((n : Int) + 1), .int .i64 n, .pointer (some ⟨g, n * 4, none⟩), rowV1 (kRow (n + 1)), x22, x23, x24, x25, x26, x27, x28, x29, x30, x31, x32, x33, x34, x35, x36, x37, x38, x39, x40, x41, x42, x43, x44, x45, x46, x47, x48, x49, x50, x51, x52, x53, x54, x55, x56, x57, x58, x59, x60, x61, x62, x63, x64, x65, x66, x67, x68, x69, x70, x71, x72, x73, x74, x75], D⟩ w)
    (F : IFc w0 w n 0 1 g g3) : wpAnyH Tryz.prog .any iops Q (fun w => Below w0.heap.size w0 w) 4 (li 0 1) ⟨#[x0, .pointer (some ⟨G, 0, none⟩), x2, .pointer (some ⟨g3, 0, none⟩), x4, x5, x6, x7, x8, x9, x10, x11, x12, x13, x14, x15, s16, .pointer (some ⟨G, 0, none⟩), .int .i64 ((n : Int) + 1), .int .i64 n, s20, s21, x22, x23, x24, x25, x26, x27, x28, x29, x30, x31, x32, x33, x34, x35, x36, x37, x38, x39, x40, x41, x42, x43, x44, x45, x46, x47, x48, x49, x50, x51, x52, x53, x54, x55, x56, x57, x58, x59, x60, x61, x62, x63, x64, x65, x66, x67, x68, x69, x70, x71, x72, x73, x74, x75], D⟩ w := by
  refine wpAnyH_ready (rs := [0]) (by kernel_rfl) (by simp) ?_
  exact AllReadyH.cons (iop_at (by decide)) (fun K hK => i_op0 E F (fun g' w' F' => hK.out _ _ F'.bel (fun _ => cast_w (a' := ⟨#[x0, .pointer (some ⟨G, 0, none⟩), x2, .pointer (some ⟨g3, 0, none⟩), x4, x5, x6, x7, x8, x9, x10, x11, x12, x13, x14, x15, .slice (some ⟨g', 0, none⟩) 23 23, .pointer (some ⟨G, 0, none⟩), .int .i64 ((n : Int) + 1), .int .i64 n, s20, s21, x22, x23, x24, x25, x26, x27, x28, x29, x30, x31, x32, x33, x34, x35, x36, x37, x38, x39, x40, x41, x42, x43, x44, x45, x46, x47, x48, x49, x50, x51, x52, x53, x54, x55, x56, x57, x58, x59, x60, x61, x62, x63, x64, x65, x66, x67, x68, x69, x70, x71, x72, x73, x74, x75], D⟩) (by kernel_rfl) (by kernel_rfl) (in_1_1 E nx F')))) (AllReadyH.nil)
set_option maxRecDepth 100000 in
theorem in_0_0 {w0 w : World} {Q : Exit → Act → World → Prop} {n G g g3 : Nat} {D : List Deferred} {s16 s20 s21 s3 x0 x2 x4 x5 x6 x7 x8 x9 x10 x11 x12 x13 x14 x15 x22 x23 x24 x25 x26 x27 x28 x29 x30 x31 x32 x33 x34 x35 x36 x37 x38 x39 x40 x41 x42 x43 x44 x45 x46 x47 x48 x49 x50 x51 x52 x53 x54 x55 x56 x57 x58 x59 x60 x61 x62 x63 x64 x65 x66 x67 x68 x69 x70 x71 x72 x73 x74 x75 : Value}
    (E : IE w0 Q n G)
    (nx : ∀ w g g3, Below w0.heap.size w0 w → w0.heap.size ≤ g3 → Box w g3 90 #[.string (strB (kRow (n + 1)).name), .int .i64 (kRow (n + 1)).least, .int .i64 (kRow (n + 1)).most, .bool (kRow (n + 1)).text] → Q .normal ⟨#[x0, .pointer (some ⟨G, 0, none⟩), x2, .pointer (some ⟨g3, 0, none⟩), x4, x5, x6, x7, x8, x9, x10, x11, x12, x13, x14, x15, .slice (some ⟨g, 0, none⟩) 23 23, .pointer (some ⟨G, 0, none⟩), .int .i64 ((n : Int) + 1), .int .i64 n, .pointer (some ⟨g, n * 4, none⟩), rowV1 (kRow (n + 1)), x22, x23, x24, x25, x26, x27, x28, x29, x30, x31, x32, x33, x34, x35, x36, x37, x38, x39, x40, x41, x42, x43, x44, x45, x46, x47, x48, x49, x50, x51, x52, x53, x54, x55, x56, x57, x58, x59, x60, x61, x62, x63, x64, x65, x66, x67, x68, x69, x70, x71, x72, x73, x74, x75], D⟩ w)
    (F : IFc w0 w n 0 0 g g3) : wpAnyH Tryz.prog .any iops Q (fun w => Below w0.heap.size w0 w) 5 (li 0 0) ⟨#[x0, .pointer (some ⟨G, 0, none⟩), x2, s3, x4, x5, x6, x7, x8, x9, x10, x11, x12, x13, x14, x15, s16, .pointer (some ⟨G, 0, none⟩), .int .i64 ((n : Int) + 1), .int .i64 n, s20, s21, x22, x23, x24, x25, x26, x27, x28, x29, x30, x31, x32, x33, x34, x35, x36, x37, x38, x39, x40, x41, x42, x43, x44, x45, x46, x47, x48, x49, x50, x51, x52, x53, x54, x55, x56, x57, x58, x59, x60, x61, x62, x63, x64, x65, x66, x67, x68, x69, x70, x71, x72, x73, x74, x75], D⟩ w := by
  refine wpAnyH_ready (rs := [0, 6]) (by kernel_rfl) (by simp) ?_
  exact AllReadyH.cons (iop_at (by decide)) (fun K hK => i_op0 E F (fun g' w' F' => hK.out _ _ F'.bel (fun _ => cast_w (a' := ⟨#[x0, .pointer (some ⟨G, 0, none⟩), x2, s3, x4, x5, x6, x7, x8, x9, x10, x11, x12, x13, x14, x15, .slice (some ⟨g', 0, none⟩) 23 23, .pointer (some ⟨G, 0, none⟩), .int .i64 ((n : Int) + 1), .int .i64 n, s20, s21, x22, x23, x24, x25, x26, x27, x28, x29, x30, x31, x32, x33, x34, x35, x36, x37, x38, x39, x40, x41, x42, x43, x44, x45, x46, x47, x48, x49, x50, x51, x52, x53, x54, x55, x56, x57, x58, x59, x60, x61, x62, x63, x64, x65, x66, x67, x68, x69, x70, x71, x72, x73, x74, x75], D⟩) (by kernel_rfl) (by kernel_rfl) (in_1_0 E nx F')))) (AllReadyH.cons (iop_at (by decide)) (fun K hK => i_op6 F (fun g' w' F' => hK.out _ _ F'.bel (fun _ => cast_w (a' := ⟨#[x0, .pointer (some ⟨G, 0, none⟩), x2, .pointer (some ⟨g', 0, none⟩), x4, x5, x6, x7, x8, x9, x10, x11, x12, x13, x14, x15, s16, .pointer (some ⟨G, 0, none⟩), .int .i64 ((n : Int) + 1), .int .i64 n, s20, s21, x22, x23, x24, x25, x26, x27, x28, x29, x30, x31, x32, x33, x34, x35, x36, x37, x38, x39, x40, x41, x42, x43, x44, x45, x46, x47, x48, x49, x50, x51, x52, x53, x54, x55, x56, x57, x58, x59, x60, x61, x62, x63, x64, x65, x66, x67, x68, x69, x70, x71, x72, x73, x74, x75], D⟩) (by kernel_rfl) (by kernel_rfl) (in_0_1 E nx F')))) (AllReadyH.nil))
theorem i_load3 {a : Act} {w : World} {o : Oper} {x : Operand} {p : Addr} {v : Value} (ho : o.op = .load 3 x) (hx : a.eval x = .pointer (some p)) (c0 : w.cell? p = some v) : (execOp a.eval o).run Tryz.prog w = .ok (.value v) w := by
  generalize a.eval = r at hx
  unfold execOp
  rw [ho]
  go_simp
theorem run_sub1 {n : Nat} (h : n < 23) (w : World) : (binOp .sub 3 (.int .i64 ((n : Int) + 1)) (.int .i64 1)).run Tryz.prog w = .ok (.int .i64 n) w := by
  have h1 : (0 : Int) ≤ (n : Int) := by omega
  have h2 : (n : Int) < 23 := by omega
  go_simp
  exact wrap_i64_in _ (by omega) (by omega)
set_option maxRecDepth 100000 in
theorem i_region {w0 w : World} {Q : Exit → Act → World → Prop} {n G : Nat} {D : List Deferred} {s16 s20 s21 s3 x0 x2 x4 x5 x6 x7 x8 x9 x10 x11 x12 x13 x14 x15 x17 x18 x19 x22 x23 x24 x25 x26 x27 x28 x29 x30 x31 x32 x33 x34 x35 x36 x37 x38 x39 x40 x41 x42 x43 x44 x45 x46 x47 x48 x49 x50 x51 x52 x53 x54 x55 x56 x57 x58 x59 x60 x61 x62 x63 x64 x65 x66 x67 x68 x69 x70 x71 x72 x73 x74 x75 : Value}
    (E : IE w0 Q n G)
    (nx : ∀ w g g3, Below w0.heap.size w0 w → w0.heap.size ≤ g3 → Box w g3 90 #[.string (strB (kRow (n + 1)).name), .int .i64 (kRow (n + 1)).least, .int .i64 (kRow (n + 1)).most, .bool (kRow (n + 1)).text] → Q .normal ⟨#[x0, .pointer (some ⟨G, 0, none⟩), x2, .pointer (some ⟨g3, 0, none⟩), x4, x5, x6, x7, x8, x9, x10, x11, x12, x13, x14, x15, .slice (some ⟨g, 0, none⟩) 23 23, .pointer (some ⟨G, 0, none⟩), .int .i64 ((n : Int) + 1), .int .i64 n, .pointer (some ⟨g, n * 4, none⟩), rowV1 (kRow (n + 1)), x22, x23, x24, x25, x26, x27, x28, x29, x30, x31, x32, x33, x34, x35, x36, x37, x38, x39, x40, x41, x42, x43, x44, x45, x46, x47, x48, x49, x50, x51, x52, x53, x54, x55, x56, x57, x58, x59, x60, x61, x62, x63, x64, x65, x66, x67, x68, x69, x70, x71, x72, x73, x74, x75], D⟩ w)
    {ops : Array Oper} (hops : ops = iops) (hS : Below w0.heap.size w0 w) : wpAnyH Tryz.prog .any ops Q (fun w => Below w0.heap.size w0 w) ops.size (Array.replicate ops.size false) ⟨#[x0, .pointer (some ⟨G, 0, none⟩), x2, s3, x4, x5, x6, x7, x8, x9, x10, x11, x12, x13, x14, x15, s16, x17, x18, x19, s20, s21, x22, x23, x24, x25, x26, x27, x28, x29, x30, x31, x32, x33, x34, x35, x36, x37, x38, x39, x40, x41, x42, x43, x44, x45, x46, x47, x48, x49, x50, x51, x52, x53, x54, x55, x56, x57, x58, x59, x60, x61, x62, x63, x64, x65, x66, x67, x68, x69, x70, x71, x72, x73, x74, x75], D⟩ w := by
  subst hops
  rw [iop_size]
  refine i_take (k := 1) (d := 17) (v := .pointer (some ⟨G, 0, none⟩)) (a' := ⟨#[x0, .pointer (some ⟨G, 0, none⟩), x2, s3, x4, x5, x6, x7, x8, x9, x10, x11, x12, x13, x14, x15, s16, .pointer (some ⟨G, 0, none⟩), x18, x19, s20, s21, x22, x23, x24, x25, x26, x27, x28, x29, x30, x31, x32, x33, x34, x35, x36, x37, x38, x39, x40, x41, x42, x43, x44, x45, x46, x47, x48, x49, x50, x51, x52, x53, x54, x55, x56, x57, x58, x59, x60, x61, x62, x63, x64, x65, x66, x67, x68, x69, x70, x71, x72, x73, x74, x75], D⟩) (by decide) (by kernel_rfl) (by kernel_rfl) (by kernel_rfl) E.hQ (by kernel_rfl) (fun _ _ => by kernel_rfl) hS rfl (by kernel_rfl) ?_
  refine i_take (k := 2) (d := 18) (v := .int .i64 ((n : Int) + 1)) (a' := ⟨#[x0, .pointer (some ⟨G, 0, none⟩), x2, s3, x4, x5, x6, x7, x8, x9, x10, x11, x12, x13, x14, x15, s16, .pointer (some ⟨G, 0, none⟩), .int .i64 ((n : Int) + 1), x19, s20, s21, x22, x23, x24, x25, x26, x27, x28, x29, x30, x31, x32, x33, x34, x35, x36, x37, x38, x39, x40, x41, x42, x43, x44, x45, x46, x47, x48, x49, x50, x51, x52, x53, x54, x55, x56, x57, x58, x59, x60, x61, x62, x63, x64, x65, x66, x67, x68, x69, x70, x71, x72, x73, x74, x75], D⟩) (by decide) (by kernel_rfl) (by kernel_rfl) (by kernel_rfl) E.hQ (by kernel_rfl) (fun w hw => i_load3 (p := ⟨G, 0, none⟩) (x := .tmp 17) (by kernel_rfl) (by kernel_rfl) ((hw.cell (p := ⟨G, 0, none⟩) E.k0.1).trans E.k0.2)) hS rfl (by kernel_rfl) ?_
  refine i_take (k := 3) (d := 19) (v := .int .i64 n) (a' := ⟨#[x0, .pointer (some ⟨G, 0, none⟩), x2, s3, x4, x5, x6, x7, x8, x9, x10, x11, x12, x13, x14, x15, s16, .pointer (some ⟨G, 0, none⟩), .int .i64 ((n : Int) + 1), .int .i64 n, s20, s21, x22, x23, x24, x25, x26, x27, x28, x29, x30, x31, x32, x33, x34, x35, x36, x37, x38, x39, x40, x41, x42, x43, x44, x45, x46, x47, x48, x49, x50, x51, x52, x53, x54, x55, x56, x57, x58, x59, x60, x61, x62, x63, x64, x65, x66, x67, x68, x69, x70, x71, x72, x73, x74, x75], D⟩) (by decide) (by kernel_rfl) (by kernel_rfl) (by kernel_rfl) E.hQ (by kernel_rfl) (fun w _ => ?y) hS rfl (by kernel_rfl) ?_
  case y =>
    have ho : (iop 3).op = .binOp .sub 3 (.tmp 18) (.const (.int .i64 1)) 3 := by kernel_rfl
    unfold execOp
    rw [ho]
    simp only [Sem.run_bind, Sem.run_pure]
    rw [show (Act.eval _ (.tmp 18)) = .int .i64 ((n : Int) + 1) by kernel_rfl, show (Act.eval _ (.const (.int .i64 1))) = .int .i64 1 by kernel_rfl]
    rw [show ∀ w, (eqGuard BinOp.sub 3 (Operand.tmp 18) (Operand.const (Value.int IntKind.i64 1)) (Value.int IntKind.i64 ((n : Int) + 1)) (Value.int IntKind.i64 1)).run Tryz.prog w = .ok () w from fun _ => by kernel_rfl]
    simp only [Result.andThen_ok, run_sub1 E.hn]
  exact cast_w (a' := ⟨#[x0, .pointer (some ⟨G, 0, none⟩), x2, s3, x4, x5, x6, x7, x8, x9, x10, x11, x12, x13, x14, x15, s16, .pointer (some ⟨G, 0, none⟩), .int .i64 ((n : Int) + 1), .int .i64 n, s20, s21, x22, x23, x24, x25, x26, x27, x28, x29, x30, x31, x32, x33, x34, x35, x36, x37, x38, x39, x40, x41, x42, x43, x44, x45, x46, x47, x48, x49, x50, x51, x52, x53, x54, x55, x56, x57, x58, x59, x60, x61, x62, x63, x64, x65, x66, x67, x68, x69, x70, x71, x72, x73, x74, x75], D⟩) (by kernel_rfl) (by kernel_rfl) (in_0_0 (g := 0) (g3 := 0) E nx ⟨hS, fun h => by omega, fun h => by omega⟩)
end Go.Proofs.YtecdkgiandbkeaaGreatDoor
