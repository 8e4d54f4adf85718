/-
  The reference lexer's list of tokens.
-/
import Derived.Test.YtecldgjdmomilaaDoorLexC
namespace Go.Proofs.YtecldgjdmomilaaDoor
open Go.RowKit LexSpec

def tokC (t : Tok) : List Value := [.int .i64 t.kind, .string (strB t.text), .int .i64 t.n, .int .i64 t.pos]
def tokCs (ts : List Tok) : List Value := ts.flatMap tokC
theorem tokCs_snoc (ts : List Tok) (t : Tok) : tokCs (ts ++ [t]) = tokCs ts ++ tokC t := by simp [tokCs]
theorem tokCs_length (ts : List Tok) : (tokCs ts).length = ts.length * 4 := by
  induction ts with
  | nil => rfl
  | cons t ts ih => simp only [tokCs, List.flatMap_cons, List.length_append, List.length_cons] at ih ⊢; simp only [tokC, List.length_cons, List.length_nil]; omega
def LexSpec.Res.toks : Res → List Tok | .ok l => l | .err _ _ => []
def LexSpec.Res.pos : Res → Nat | .ok _ => 0 | .err p _ => p
def LexSpec.Res.code : Res → Nat | .ok _ => 0 | .err _ e => e

theorem Tryd.info36 : (Tryd.prog.info? 36).map (fun i => (i.zero, i.size, i.bytes)) = some (some (.agg #[.int .i64 0, .string ⟨#[]⟩, .int .i64 0, .int .i64 0]), 4, 40) := by kernel_rfl

/-- What a call that makes tokens leaves: the tokens lie in a row of its own. -/
def Toks (w : World) (v : Value) (ts : List Tok) (w' : World) : Prop := w'.ownsRow w.heap.size 36 4 v ts.length (tokCs ts) ∧ Below w.heap.size w w'

theorem box3 {w : World} {g : Nat} {t : TypeId} {a b c : Value} (h : Box w g t #[a, b, c]) :
    w.cell? ⟨g, 0, none⟩ = some a ∧ w.cell? ⟨g, 1, none⟩ = some b ∧ w.cell? ⟨g, 2, none⟩ = some c ∧ w.frozen? ⟨g, 0, none⟩ = false ∧ w.frozen? ⟨g, 1, none⟩ = false ∧ w.frozen? ⟨g, 2, none⟩ = false :=
  ⟨h.look 0, h.look 1, h.look 2, h.free 0, h.free 1, h.free 2⟩
theorem one_kind (l : Bytes) : 1 ≤ (one l).1 := by
  cases l with
  | nil => simp [one]
  | cons c l =>
    simp only [one]
    split
    · exact Nat.le_refl _
    · split
      · split <;> simp
      · simp
def lxS (s : ByteArray) (f k : Nat) (ts : List Tok) : Res := Res.prepend ts (lexAt f k (s.data.toList.drop k))
theorem lxS_start (s : ByteArray) : lxS s (s.size + 1) (skF s 0) [] = lexAll s.data.toList := by
  unfold lxS lexAll skF
  rw [Res.prepend_nil]
  simp
theorem lxS_end (s : ByteArray) {f k : Nat} {ts : List Tok} (h : s.size ≤ k) : lxS s f k ts = .ok ts := by
  unfold lxS
  rw [List.drop_of_length_le (by simpa using h)]
  cases f <;> simp [lexAt, Res.prepend]
theorem lxS_none (s : ByteArray) {f k : Nat} {ts : List Tok} (h : k < s.size) (h0 : (one (s.data.toList.drop k)).2.1 = 0) : lxS s (f + 1) k ts = .err k 3 := by
  unfold lxS
  rw [drop_at s h] at h0 ⊢
  simp only [lexAt]
  rw [if_pos h0]
  rfl
theorem lxS_big (s : ByteArray) {f k kind len n : Nat} {ts : List Tok} (h : k < s.size) (h1 : one (s.data.toList.drop k) = (kind, len, n)) (h0 : len ≠ 0) (hn : 1099511627776 < n) : lxS s (f + 1) k ts = .err k 2 := by
  unfold lxS
  rw [drop_at s h] at h1 ⊢
  simp only [lexAt, h1]
  rw [if_neg h0, if_pos hn]
  rfl
theorem lxS_step (s : ByteArray) {f k kind len n : Nat} {ts : List Tok} (h : k < s.size) (h1 : one (s.data.toList.drop k) = (kind, len, n)) (h0 : len ≠ 0) (hn : ¬ 1099511627776 < n) :
    lxS s f (skF s (k + len)) (ts ++ [⟨kind, (s.data.toList.drop k).take len, n, k⟩]) = lxS s (f + 1) k ts := by
  unfold lxS skF
  have hd := drop_at s h
  rw [Res.prepend_append]
  congr 1
  rw [hd] at h1 ⊢
  simp only [lexAt, h1]
  rw [if_neg h0, if_neg hn, Res.cons_eq]
  have e : List.drop len (s[k] :: s.data.toList.drop (k + 1)) = s.data.toList.drop (k + len) := by rw [← hd, List.drop_drop]
  rw [e, List.drop_drop]

theorem ref_skip' (s : ByteArray) (k n : Nat) (w : World) (hs : s.size ≤ 1000000) (hi : k + n ≤ s.size) : Calls Tryd.prog 36 #[.string s, .int .i64 ((k : Int) + n)] w fun e w' => e = .returned (.int .i64 (skF s (k + n) : Nat)) ∧ w = w' := by
  have := ref_skip s (k + n) w (by unfold maxLen; omega) hi
  push_cast at this
  exact this

set_option maxHeartbeats 1000000 in
theorem ref_tokens (s : ByteArray) (w : World) (hs : s.size ≤ 1000000) :
    Calls Tryd.prog 17 #[.string s] w fun e w' => ∃ v, e = .returned (.agg #[v, .int .i64 (tokens s.data.toList).pos, .int .i64 (tokens s.data.toList).code]) ∧ Toks w v (tokens s.data.toList).toks w' := by
  by_cases hbig : 4000 < s.size
  · have ht : tokens s.data.toList = .err 0 2 := by unfold tokens; rw [if_pos (by simpa using hbig)]
    rw [ht]
    go_enter Tryd.func17, Tryd.ntmps17
    go_wp2_with fail
    go_returns
    exact ⟨_, rfl, ⟨World.ownsRow_nil _ _ _ _, by go_grown⟩⟩
  · have ht : tokens s.data.toList = lexAll s.data.toList := by unfold tokens; rw [if_neg (by simpa using hbig)]
    rw [ht]
    clear ht
    go_enter Tryd.func17, Tryd.ntmps17
    go_wp2_with (go_at_call 36; refine (ref_skip _ 0 _ (by unfold maxLen; omega) (by omega)).mono ?_; rintro e w' ⟨rfl, rfl⟩)
    go_loopw [3, 4] (fun v i wr => ∃ (k f : Nat) (ts : List Tok), k ≤ s.size ∧ i = .int .i64 k ∧ s.size - k < f ∧ ts.length ≤ k ∧ wr.ownsRow (w.heap.size + 1) 36 4 v ts.length (tokCs ts) ∧ Below w.heap.size w wr ∧
        Box wr w.heap.size 28 #[.slice none 0 0, .int .i64 0, .int .i64 0] ∧ Hid (lxS s f k ts = lexAll s.data.toList))
      (fun _ i _ => s.size - (intOf i).toNat)
    case atStart =>
      exact ⟨skF s 0, s.size + 1, [], skF_le s (by omega), rfl, by omega, by simp, World.ownsRow_nil _ _ _ _, by go_grown, Box.made _ _ _, lxS_start s⟩
    case round =>
      obtain ⟨k, f, ts, hk, rfl, hf, hlen, hown, hbel, hres, H⟩ := hrel
      obtain ⟨A, c, rfl⟩ := own_slice hown
      by_cases hlt : k < s.size
      · obtain ⟨f, rfl⟩ : ∃ m, f = m + 1 := ⟨f - 1, by omega⟩
        obtain ⟨kind, len, n, h1⟩ : ∃ kind len n, one (s.data.toList.drop k) = (kind, len, n) := ⟨_, _, _, rfl⟩
        have hle := one_le (s.data.toList.drop k)
        rw [h1, List.length_drop] at hle
        simp only [top] at hle
        have hk1 := one_kind (s.data.toList.drop k)
        rw [h1] at hk1
        have hk0 := ib_no (show (kind : Int) ≠ 0 by simp only at hk1; omega)
        by_cases h0 : len = 0
        · have HR : Hid (lexAll s.data.toList = .err k 3) := by rw [← H.out]; exact lxS_none s hlt (by rw [h1]; exact h0)
          have h0' : (one (s.data.toList.drop k)).2.1 = 0 := by rw [h1]; exact h0
          have H0 := Lib.hid h0'
          clear h0' h1 h0 H
          go_wp2_with (go_at_call 37; refine (ref_one_none s k _ hs hlt H0.out).mono ?_; rintro e w1 ⟨rfl, hb1⟩; have hres1 := hres.below hb1 hres.lt; have hz := hres1.lt; obtain ⟨c0, c1, c2, f0, f1, f2⟩ := box3 hres1)
          refine bodyPost_ret (v := .agg #[.slice none 0 0, .int .i64 k, .int .i64 3]) (by simp [results, Tryd.results17, go_sem, c0, c1, c2, hz]) rfl ?_
          rw [HR.out]
          have hb := below_to hbel hbel.size hb1
          exact ⟨_, rfl, World.ownsRow_nil _ _ _ _, by go_grown⟩
        · have H1 := Lib.hid h1
          by_cases hn : 1099511627776 < n
          · have HR : Hid (lexAll s.data.toList = .err k 2) := by rw [← H.out]; exact lxS_big s hlt h1 h0 hn
            clear h1 H
            go_wp2_with (go_at_call 37; refine (ref_one_some s k kind len n _ hs hlt H1.out h0).mono ?_; rintro e w1 ⟨rfl, hb1⟩; have hres1 := hres.below hb1 hres.lt; have hz := hres1.lt; obtain ⟨c0, c1, c2, f0, f1, f2⟩ := box3 hres1)
            refine bodyPost_ret (v := .agg #[.slice none 0 0, .int .i64 k, .int .i64 2]) (by simp [results, Tryd.results17, go_sem, c0, c1, c2, hz]) rfl ?_
            rw [HR.out]
            have hb := below_to hbel hbel.size hb1
            exact ⟨_, rfl, World.ownsRow_nil _ _ _ _, by go_grown⟩
          · have HS := Lib.hid (lxS_step s (f := f) (ts := ts) hlt h1 h0 hn)
            clear h1
            have hkl : k + len ≤ s.size := by
              have hl := hle.1
              simp only [Array.length_toList] at hl
              have : s.data.size = s.size := rfl
              omega
            have hsz : (strB ((s.data.toList.drop k).take len)).size = len := by
              have hl := hle.1
              simp only [Array.length_toList] at hl
              rw [strB_size, List.length_take, List.length_drop]
              simp only [Array.length_toList]
              omega
            have hn' : (n : Int) ≤ 1099511627776 := by omega
            go_wp2_with (first | (go_at_call 37; refine (ref_one_some s k kind len n _ hs hlt H1.out h0).mono ?_; rintro e w1 ⟨rfl, hb1⟩; have hres1 := hres.below hb1 hres.lt; have hz := hres1.lt) | (at_builtin; go_loud (refine wp_append1 (w.heap.size + 1) rfl _ _ 23 36 _ 4 40 rfl Tryd.underlying23 Tryd.info36 rfl (by decide) _ ts.length (tokCs ts) _ rfl _ rfl ?hbx rfl ?h1 ((own_below hown hb1).alloc _) ?hb ?h63 ?hl ?_)))
            case hbx => simp
            case h1 => exact ⟨rfl, rfl, rfl, rfl⟩
            case hb => have := hbel.size; simp; omega
            case h63 => omega
            case hl => omega
            intro v1 w2 hown2 hg2
            have hsl := hb1.size
            have bt := (Box.made w1 36 #[.int .i64 kind, .string (strB ((s.data.toList.drop k).take len)), .int .i64 n, .int .i64 k]).kept hg2 (fun e => by have := own_ltB hown _ e.symm; omega)
            have hres2 := (hres1.alloc (.cells #[.int .i64 kind, .string (strB ((s.data.toList.drop k).take len)), .int .i64 n, .int .i64 k] 36)).kept hg2 (fun e => by have := own_base hown _ e.symm; omega)
            have hbel2 := ((below_to hbel hbel.size hb1).alloc (Nat.le_of_lt hz) _).grown hg2 (by simp; omega) (fun j hj => by have := own_base hown j hj; omega)
            have t1 := bt.look 1
            clear hg2 hown hres1 bt hle
            go_wp2_with (go_at_call 36; refine (ref_skip' s k len _ hs hkl).mono ?_; rintro e w' ⟨rfl, rfl⟩)
            go_roundw
            case rel =>
              have hl2 := skF_le s hkl
              have hl3 : k + len ≤ skF s (k + len) := by unfold skF; omega
              exact ⟨skF s (k + len), f, ts ++ [Tok.mk kind ((s.data.toList.drop k).take len) n k], hl2, rfl, by omega, by simp; omega, by rw [tokCs_snoc, List.length_append]; exact hown2, hbel2, hres2, HS.out.trans H.out⟩
            case measure =>
              have hl3 : k + len ≤ skF s (k + len) := by unfold skF; omega
              simp [intOf]
              omega
      · have HR : Hid (lexAll s.data.toList = .ok ts) := by rw [← H.out]; exact lxS_end s (by omega)
        obtain ⟨c0, c1, c2, f0, f1, f2⟩ := box3 hres
        go_wp2_with fail
        refine bodyPost_ret (v := .agg #[.slice A ts.length c, .int .i64 0, .int .i64 0]) (by simp [results, Tryd.results17, go_sem, c0, c1, c2]) rfl ?_
        rw [HR.out]
        exact ⟨_, rfl, ((ownsRow_setCell_below (ownsRow_setCell_below (ownsRow_setCell_below hown (by simp) _) (by simp) _) (by simp) _).mono (by omega)), ((hbel.setCell (by simp) _).setCell (by simp) _).setCell (by simp) _⟩
end Go.Proofs.YtecldgjdmomilaaDoor
