/-
  The comparison of two lists of tokens: true if they agree.
-/
import Derived.Test.YtecldgjdmomilaaDoorLexI
namespace Go.Proofs.YtecldgjdmomilaaDoor
open Go.RowKit LexSpec

/-- A slice value that reads as these tokens. -/
def TokSl (w : World) (v : Value) (ts : List Tok) : Prop :=
  ∃ A c, v = .slice A ts.length c ∧ (0 < ts.length → ∃ g o, A = some ⟨g, o, none⟩ ∧ g < w.heap.size ∧ ∀ j u, (tokCs ts)[j]? = some u → w.cell? ⟨g, o + j, none⟩ = some u)
theorem TokSl.of_own {w : World} {B : Nat} {v : Value} {ts : List Tok} (h : w.ownsRow B 36 4 v ts.length (tokCs ts)) : TokSl w v ts := by
  obtain ⟨A, c, rfl⟩ := own_slice h
  refine ⟨A, c, rfl, fun h0 => ?_⟩
  obtain ⟨g, cap, hv, hb, hlt⟩ := h.form h0
  have hA : A = some ⟨g, 0, none⟩ := by injection hv
  subst hA
  refine ⟨g, 0, rfl, hlt, fun j u hu => ?_⟩
  have := h.cells (g := g) rfl j u hu
  have e : (⟨g, 0, none⟩ : Addr).add j = ⟨g, 0 + j, none⟩ := by unfold Addr.add; split <;> simp_all
  rwa [e] at this
theorem TokSl.below {w w' : World} {v : Value} {ts : List Tok} (h : TokSl w v ts) (hb : Below w.heap.size w w') : TokSl w' v ts := by
  obtain ⟨A, c, rfl, h⟩ := h
  refine ⟨A, c, rfl, fun h0 => ?_⟩
  obtain ⟨g, o, rfl, hg, hc⟩ := h h0
  exact ⟨g, o, rfl, Nat.lt_of_lt_of_le hg hb.size, fun j u hu => (hb.cell (p := ⟨g, o + j, none⟩) hg).trans (hc j u hu)⟩
theorem tokCs_at (ts : List Tok) (i : Nat) (h : i < ts.length) : (tokCs ts)[i * 4]? = some (.int .i64 ts[i].kind) ∧ (tokCs ts)[i * 4 + 1]? = some (.string (strB ts[i].text)) ∧ (tokCs ts)[i * 4 + 2]? = some (.int .i64 ts[i].n) ∧ (tokCs ts)[i * 4 + 3]? = some (.int .i64 ts[i].pos) := by
  induction ts generalizing i with
  | nil => simp at h
  | cons t ts ih =>
    have e : tokCs (t :: ts) = tokC t ++ tokCs ts := by simp [tokCs]
    rw [e]
    cases i with
    | zero => simp [tokC]
    | succ i =>
      have h4 : (tokC t).length = 4 := rfl
      have := ih i (by simpa using h)
      refine ⟨?_, ?_, ?_, ?_⟩ <;> (rw [List.getElem?_append_right (by omega), h4]; simp only [List.getElem_cons_succ])
      · rw [show (i + 1) * 4 - 4 = i * 4 from by omega]; exact this.1
      · rw [show (i + 1) * 4 + 1 - 4 = i * 4 + 1 from by omega]; exact this.2.1
      · rw [show (i + 1) * 4 + 2 - 4 = i * 4 + 2 from by omega]; exact this.2.2.1
      · rw [show (i + 1) * 4 + 3 - 4 = i * 4 + 3 from by omega]; exact this.2.2.2

/-- Two lists of tokens agree, with their indices if 'wh'. -/
def Agree (ts us : List Tok) (wh : Bool) : Prop := ts.length = us.length ∧ ∀ (i : Nat) (h : i < ts.length) (h' : i < us.length), ts[i].kind = us[i].kind ∧ ts[i].text = us[i].text ∧ ts[i].n = us[i].n ∧ (wh = true → ts[i].pos = us[i].pos)
theorem Agree.refl (ts : List Tok) (wh : Bool) : Agree ts ts wh := ⟨rfl, fun _ _ _ => ⟨rfl, rfl, rfl, fun _ => rfl⟩⟩

set_option maxHeartbeats 1000000 in
theorem ref_same (va vb : Value) (ts us : List Tok) (wh : Bool) (w : World) (ha : TokSl w va ts) (hb : TokSl w vb us) (hlen : ts.length ≤ 1000000) (h : Agree ts us wh) :
    Calls Tryd.prog 18 #[va, vb, .bool wh] w fun e w' => e = .returned (.bool true) ∧ ∃ n, w' = w.drewN n := by
  obtain ⟨A, c, rfl, hA⟩ := ha
  obtain ⟨B, d, rfl, hB⟩ := hb
  obtain ⟨hl, hag⟩ := h
  rw [← hl] at hB ⊢
  have HA := Lib.hid hA
  have HB := Lib.hid hB
  have HG := Lib.hid hag
  clear hA hB hag
  have HL := Lib.hid hl
  clear hl
  go_enter Tryd.func18, Tryd.ntmps18
  go_wp2
  go_loopw [7] (fun i wr => ∃ k : Nat, k ≤ ts.length ∧ i = .int .i64 k ∧ ∃ n, wr = w.drewN n) (fun i _ => ts.length - (intOf i).toNat)
  case atStart => exact ⟨0, by omega, rfl, 0, rfl⟩
  case round =>
    obtain ⟨k, hk, rfl, m, rfl⟩ := hrel
    by_cases hlt : k < ts.length
    · obtain ⟨ga, oa, rfl, hga, hca⟩ := HA.out (by omega)
      obtain ⟨gb, ob, rfl, hgb, hcb⟩ := HB.out (by omega)
      obtain ⟨a0, a1, a2, a3⟩ := tokCs_at ts k hlt
      obtain ⟨b0, b1, b2, b3⟩ := tokCs_at us k (by rw [← HL.out]; exact hlt)
      obtain ⟨e0, e1, e2, e3⟩ := HG.out k hlt (by rw [← HL.out]; exact hlt)
      rw [← e0] at b0
      rw [← e1] at b1
      rw [← e2] at b2
      have x0 := hca _ _ a0
      have x1 := hca _ _ a1
      have x2 := hca _ _ a2
      have x3 := hca _ _ a3
      have y0 := hcb _ _ b0
      have y1 := hcb _ _ b1
      have y2 := hcb _ _ b2
      have y3 := hcb _ _ b3
      rw [← Nat.add_assoc] at x1 x2 x3 y1 y2 y3
      have E3 := Lib.hid e3
      clear hca hcb a0 a1 a2 a3 b0 b1 b2 b3 e0 e1 e2 e3
      cases wh
      · go_wp2
        go_quiet (fail)
        go_wp2
        go_roundw
        case rel => exact ⟨k + 1, by omega, by go_num, _, rfl⟩
        case measure => simp [intOf]; omega
      · have e3 := E3.out rfl
        rw [← e3] at y3
        clear e3
        go_wp2
        go_quiet (fail)
        go_wp2
        go_roundw
        case rel => exact ⟨k + 1, by omega, by go_num, _, rfl⟩
        case measure => simp [intOf]; omega
    · go_wp2
      go_ret
      exact ⟨rfl, m, rfl⟩
end Go.Proofs.YtecldgjdmomilaaDoor
