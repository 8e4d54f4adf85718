/-
  Join: the lexer's and the reference's return the same text.
-/
import Derived.Test.YtecldgjdmomilaaDoorLexK
namespace Go.Proofs.YtecldgjdmomilaaDoor
open Go.RowKit LexSpec

/-- A token as it lies in memory: kind, text, value, index, whatever they are. -/
abbrev Cell4 := Int × ByteArray × Int × Int
/-- A slice value whose elements are these. -/
def RowSl (w : World) (v : Value) (xs : List Cell4) : Prop :=
  ∃ A c, v = .slice A xs.length c ∧ (0 < xs.length → ∃ g o, A = some ⟨g, o, none⟩ ∧ g < w.heap.size ∧ ∀ i (h : i < xs.length),
    w.cell? ⟨g, o + i * 4, none⟩ = some (.int .i64 xs[i].1) ∧ w.cell? ⟨g, o + i * 4 + 1, none⟩ = some (.string xs[i].2.1) ∧ w.cell? ⟨g, o + i * 4 + 2, none⟩ = some (.int .i64 xs[i].2.2.1) ∧ w.cell? ⟨g, o + i * 4 + 3, none⟩ = some (.int .i64 xs[i].2.2.2))
theorem RowSl.below {w w' : World} {v : Value} {xs : List Cell4} (h : RowSl w v xs) (hb : Below w.heap.size w w') : RowSl w' v xs := by
  obtain ⟨A, c, rfl, h⟩ := h
  refine ⟨A, c, rfl, fun h0 => ?_⟩
  obtain ⟨g, o, rfl, hg, hc⟩ := h h0
  refine ⟨g, o, rfl, Nat.lt_of_lt_of_le hg hb.size, fun i hi => ?_⟩
  obtain ⟨h1, h2, h3, h4⟩ := hc i hi
  exact ⟨(hb.cell (p := ⟨g, _, none⟩) hg).trans h1, (hb.cell (p := ⟨g, _, none⟩) hg).trans h2, (hb.cell (p := ⟨g, _, none⟩) hg).trans h3, (hb.cell (p := ⟨g, _, none⟩) hg).trans h4⟩
def cellOf (t : Tok) : Cell4 := (t.kind, strB t.text, t.n, t.pos)
theorem RowSl.of_toks {w : World} {v : Value} {ts : List Tok} (h : TokSl w v ts) : RowSl w v (ts.map cellOf) := by
  obtain ⟨A, c, rfl, h⟩ := h
  refine ⟨A, c, by simp, fun h0 => ?_⟩
  obtain ⟨g, o, rfl, hg, hc⟩ := h (by simpa using h0)
  refine ⟨g, o, rfl, hg, fun i hi => ?_⟩
  have hi' : i < ts.length := by simpa using hi
  obtain ⟨a0, a1, a2, a3⟩ := tokCs_at ts i hi'
  have x1 := hc _ _ a1
  have x2 := hc _ _ a2
  have x3 := hc _ _ a3
  rw [← Nat.add_assoc] at x1 x2 x3
  simp only [List.getElem_map, cellOf]
  exact ⟨hc _ _ a0, x1, x2, x3⟩

def txs (xs : List Cell4) : List Bytes := xs.map fun x => x.2.1.data.toList
theorem txs_eq (xs : List Cell4) : (xs.map fun x => x.2.1).map (·.data.toList) = txs xs := by unfold txs; rw [List.map_map]; rfl
def joined (xs : List Cell4) : Bytes := Lib.join (txs xs) [32]
def strVs (xs : List Cell4) : List Value := xs.map fun x => .string x.2.1
theorem Tryd.info9 : (Tryd.prog.info? 9).map (fun i => (i.zero, i.size, i.bytes)) = some (some (.string ⟨#[]⟩), 1, 16) := by kernel_rfl
theorem strVs_snoc (xs : List Cell4) {k : Nat} (h : k < xs.length) : strVs (xs.take (k + 1)) = strVs (xs.take k) ++ [.string xs[k].2.1] := by
  unfold strVs
  rw [List.take_succ_eq_append_getElem h, List.map_append]; rfl

set_option maxHeartbeats 1000000 in
theorem lex_join (v : Value) (xs : List Cell4) (w : World) (hr : RowSl w v xs) (hn : xs.length ≤ 1000000) (hl : (joined xs).length ≤ 140737488355328) :
    Calls Tryd.prog 21 #[v] w fun e w' => e = .returned (.string (strB (joined xs))) ∧ Below w.heap.size w w' := by
  obtain ⟨A, c, rfl, hA⟩ := hr
  have HA := Lib.hid hA
  have HL := Lib.hid hl
  clear hA hl
  go_enter Tryd.func21, Tryd.ntmps21
  go_wp2
  go_loopw [3, 8] (fun t i wr => ∃ k : Nat, k ≤ xs.length ∧ i = .int .i64 k ∧ wr.ownsRow w.heap.size 9 1 t k (strVs (xs.take k)) ∧ Below w.heap.size w wr) (fun _ i _ => xs.length - (intOf i).toNat)
  case atStart => exact ⟨0, by omega, rfl, World.ownsRow_nil _ _ _ _, Below.refl _ _⟩
  case round =>
    obtain ⟨k, hk, rfl, hown, hbel⟩ := hrel
    obtain ⟨B, d, rfl⟩ := own_slice hown
    have hbs := hbel.size
    by_cases hlt : k < xs.length
    · obtain ⟨g, o, rfl, hg, hc⟩ := HA.out (by omega)
      obtain ⟨h1, h2, h3, h4⟩ := hc k hlt
      have x0 := (hbel.cell (p := ⟨g, o + k * 4, none⟩) hg).trans h1
      have x1 := (hbel.cell (p := ⟨g, o + k * 4 + 1, none⟩) hg).trans h2
      have x2 := (hbel.cell (p := ⟨g, o + k * 4 + 2, none⟩) hg).trans h3
      have x3 := (hbel.cell (p := ⟨g, o + k * 4 + 3, none⟩) hg).trans h4
      clear hc h1 h2 h3 h4
      have hg2 : g < wr.heap.size := by omega
      go_wp2_with (at_builtin; refine wp_append1 w.heap.size rfl _ _ 65 9 _ 1 16 rfl Tryd.underlying65 Tryd.info9 rfl (by decide) _ k (strVs (xs.take k)) _ rfl _ rfl ?hbx rfl ?h1 (hown.alloc _) ?hb ?h63 ?hl ?_)
      case hbx => simp
      case h1 => rfl
      case hb => simp; omega
      case h63 => omega
      case hl => omega
      intro v1 w2 hown2 hg2
      have hbel2 := (hbel.alloc hbs _).grown hg2 (by simp; omega) (fun j hj => by have := own_base hown j hj; omega)
      clear hg2 hown
      go_wp2_with fail
      go_roundw
      case rel => exact ⟨k + 1, by omega, by go_num, by rw [strVs_snoc xs hlt]; exact hown2, hbel2⟩
      case measure => simp [intOf]; omega
    · obtain rfl : k = xs.length := by omega
      rw [List.take_length] at hown
      by_cases h0 : xs.length = 0
      · have hx : xs = [] := List.eq_nil_of_length_eq_zero h0
        subst hx
        go_wp2_with (go_at_call 40; refine (Tryd.strings_Join_none _ _ _ _).mono ?_; rintro e w' ⟨rfl, rfl⟩)
        go_ret
        exact ⟨rfl, hbel⟩
      · obtain ⟨g, cap, hv, hb, hlt2⟩ := hown.form (by omega)
        obtain ⟨rfl, rfl⟩ : B = some ⟨g, 0, none⟩ ∧ d = cap := by injection hv; exact ⟨by assumption, by assumption⟩
        have hcells : ∀ (j : Nat) (x : ByteArray), (xs.map fun x => x.2.1)[j]? = some x → wr.cell? ⟨g, 0 + j, none⟩ = some (.string x) := by
          intro j x hx
          have := hown.cells (g := g) rfl j (.string x) (by unfold strVs; rw [List.getElem?_map] at hx ⊢; cases hj : xs[j]? with | none => rw [hj] at hx; cases hx | some y => rw [hj] at hx; simp at hx ⊢; exact hx)
          have e : (⟨g, 0, none⟩ : Addr).add j = ⟨g, 0 + j, none⟩ := by unfold Addr.add; split <;> simp_all
          rwa [e] at this
        have hcap : xs.length ≤ d := by
          rcases hown.2 with ⟨he, _⟩ | ⟨g', cap', cur, he, _, _, h1, _⟩
          · cases he
          · injection he with _ _ he; omega
        have HJ := Tryd.strings_Join g 0 d (xs.map fun x => x.2.1) ⟨#[32]⟩ wr hcells hlt2 (by simp; omega) (by simpa using hcap) (by rw [txs_eq]; exact HL.out)
        rw [List.length_map, txs_eq] at HJ
        have HJ2 := Lib.hid HJ
        clear HJ hcells hv
        go_wp2_with (go_at_call 40; refine HJ2.out.mono ?_; rintro e w2 ⟨rfl, hb2⟩)
        go_ret
        exact ⟨rfl, below_to hbel hbs hb2⟩

/-! ### the reference's -/
def jn (xs : List Cell4) (k : Nat) : Bytes := joined (xs.take k)
theorem joined_snoc (ys : List Cell4) (x : Cell4) (h : ys ≠ []) : joined (ys ++ [x]) = joined ys ++ [32] ++ x.2.1.data.toList := by
  unfold joined txs
  rw [List.map_append]
  cases ys with
  | nil => exact absurd rfl h
  | cons y ys =>
    simp only [List.map_cons, List.cons_append, List.map_nil, Lib.join_cons]
    simp [Lib.joinTail, List.append_assoc]
theorem jn_zero (xs : List Cell4) : jn xs 0 = [] := by unfold jn joined txs; simp [Lib.join_nil]
theorem jn_one (xs : List Cell4) (h : 0 < xs.length) : jn xs 1 = xs[0].2.1.data.toList := by
  unfold jn
  rw [List.take_succ_eq_append_getElem h]
  simp [joined, txs, Lib.join_one]
theorem jn_succ (xs : List Cell4) {k : Nat} (h : k < xs.length) (hk : 0 < k) : jn xs (k + 1) = jn xs k ++ [32] ++ xs[k].2.1.data.toList := by
  unfold jn
  rw [List.take_succ_eq_append_getElem h, joined_snoc]
  intro e
  have := congrArg List.length e
  rw [List.length_take, List.length_nil] at this
  omega
theorem strB_app (a : Bytes) (s : ByteArray) : strB a ++ s = strB (a ++ s.data.toList) := by
  apply ByteArray.ext
  simp [strB]
theorem jn_len (xs : List Cell4) (hb : ∀ i (h : i < xs.length), xs[i].2.1.size ≤ 100) : ∀ k, k ≤ xs.length → (jn xs k).length ≤ 101 * k := by
  intro k
  induction k with
  | zero => intro _; rw [jn_zero]; simp
  | succ k ih =>
    intro hk
    have hx := hb k (by omega)
    have e : xs[k].2.1.data.toList.length = xs[k].2.1.size := by simp
    rcases Nat.eq_zero_or_pos k with rfl | h0
    · rw [jn_one xs (by omega), e]; omega
    · rw [jn_succ xs (by omega) h0]
      have := ih (by omega)
      simp only [List.length_append, List.length_cons, List.length_nil]
      omega

set_option maxHeartbeats 1000000 in
theorem ref_join (v : Value) (xs : List Cell4) (w : World) (hr : RowSl w v xs) (hn : xs.length ≤ 400) (hb : ∀ i (h : i < xs.length), xs[i].2.1.size ≤ 100) :
    Calls Tryd.prog 22 #[v] w fun e w' => e = .returned (.string (strB (joined xs))) ∧ Below w.heap.size w w' := by
  obtain ⟨A, c, rfl, hA⟩ := hr
  have HA := Lib.hid hA
  have HB := Lib.hid hb
  have HJ := Lib.hid (jn_len xs hb)
  clear hA hb
  go_enter Tryd.func22, Tryd.ntmps22
  go_wp2
  go_loop [3, 4] (fun s i => ∃ k : Nat, k ≤ xs.length ∧ i = .int .i64 k ∧ s = .string (strB (jn xs k))) (fun _ i => xs.length - (intOf i).toNat)
  case atStart => exact ⟨0, by omega, rfl, by rw [jn_zero]; rfl⟩
  case round =>
    obtain ⟨k, hk, rfl, rfl⟩ := hrel
    by_cases hlt : k < xs.length
    · obtain ⟨g, o, rfl, hg, hc⟩ := HA.out (by omega)
      obtain ⟨h1, x1, h3, h4⟩ := hc k hlt
      clear hc h1 h3 h4
      have hbk := HB.out k hlt
      have hjk := HJ.out k hk
      have hz : (strB (jn xs k)).size ≤ 101 * k := by rw [strB_size]; exact hjk
      rcases Nat.eq_zero_or_pos k with h0 | h0
      · subst h0
        have HS := Lib.hid (jn_one xs hlt)
        go_wp2_with fail
        go_round
        case rel => exact ⟨1, by omega, rfl, by rw [HS.out, jn_zero, strB_app]; rfl⟩
        case measure => simp [intOf]; omega
      · have HS := Lib.hid (jn_succ xs hlt h0)
        go_wp2_with fail
        go_round
        case rel => exact ⟨k + 1, by omega, by go_num, by rw [HS.out, strB_app, strB_app]⟩
        case measure => simp [intOf]; omega
    · obtain rfl : k = xs.length := by omega
      go_wp2_with fail
      go_ret
      exact ⟨by unfold jn; rw [List.take_length]; rfl, by go_grown⟩
end Go.Proofs.YtecldgjdmomilaaDoor
