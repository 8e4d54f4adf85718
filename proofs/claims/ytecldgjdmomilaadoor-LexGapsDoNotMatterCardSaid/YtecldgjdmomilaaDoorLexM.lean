/-
  The examples that every statement on the lexer plays first are true.
-/
import Derived.Test.YtecldgjdmomilaaDoorLexL
namespace Go.Proofs.YtecldgjdmomilaaDoor
open Go.RowKit LexSpec

def ex1 : Bytes := [116, 121, 112, 101, 32, 97, 45, 49, 123, 108, 105, 102, 101, 32, 50, 104, 59, 125, 35, 120]
def ex1T : List Tok := [⟨1, [116, 121, 112, 101], 0, 0⟩, ⟨1, [97, 45, 49], 0, 5⟩, ⟨3, [123], 0, 8⟩, ⟨1, [108, 105, 102, 101], 0, 9⟩, ⟨2, [50, 104], 7200, 14⟩, ⟨3, [59], 0, 16⟩, ⟨3, [125], 0, 17⟩]
theorem ex1_tokens : tokens ex1 = .ok ex1T := by kernel_rfl
def ex2 : Bytes := [97, 32, 49, 120]
theorem ex2_tokens : tokens ex2 = .err 2 3 := by kernel_rfl
def ex3 : Bytes := [49, 48, 57, 57, 53, 49, 49, 54, 50, 55, 55, 55, 55]
theorem ex3_tokens : tokens ex3 = .err 0 2 := by kernel_rfl
def exJ : Bytes := [116, 121, 112, 101, 32, 97, 45, 49, 32, 123, 32, 108, 105, 102, 101, 32, 50, 104, 32, 59, 32, 125]
theorem exJ_joined : joined (ex1T.map cellOf) = exJ := by decide +kernel

theorem lex_ex1 (w : World) (hu : Units w) : Calls Tryd.prog 16 #[.string ⟨#[116, 121, 112, 101, 32, 97, 45, 49, 123, 108, 105, 102, 101, 32, 50, 104, 59, 125, 35, 120]⟩] w fun e w' => ∃ g cap, e = .returned (.tuple #[.slice (some ⟨g, 0, none⟩) 7 cap, .int .i64 0, .int .i64 0]) ∧ Toks w (.slice (some ⟨g, 0, none⟩) 7 cap) ex1T w' := by
  have h := lex_tokens ⟨#[116, 121, 112, 101, 32, 97, 45, 49, 123, 108, 105, 102, 101, 32, 50, 104, 59, 125, 35, 120]⟩ w (by decide) hu
  have e : tokens (⟨#[116, 121, 112, 101, 32, 97, 45, 49, 123, 108, 105, 102, 101, 32, 50, 104, 59, 125, 35, 120]⟩ : ByteArray).data.toList = .ok ex1T := ex1_tokens
  rw [e] at h
  refine h.mono ?_
  rintro e w' ⟨v, rfl, ho, hb⟩
  obtain ⟨g, cap, hv, _, _⟩ := World.ownsRow.form (show w'.ownsRow w.heap.size 36 4 v 7 (tokCs ex1T) from ho) (by decide)
  subst hv
  exact ⟨g, cap, rfl, ho, hb⟩
theorem lex_ex2 (w : World) (hu : Units w) : Calls Tryd.prog 16 #[.string ⟨#[97, 32, 49, 120]⟩] w fun e w' => ∃ v, e = .returned (.tuple #[v, .int .i64 2, .int .i64 3]) ∧ Toks w v [] w' := by
  have h := lex_tokens ⟨#[97, 32, 49, 120]⟩ w (by decide) hu
  have e : tokens (⟨#[97, 32, 49, 120]⟩ : ByteArray).data.toList = .err 2 3 := ex2_tokens
  rw [e] at h
  exact h
theorem lex_ex3 (w : World) (hu : Units w) : Calls Tryd.prog 16 #[.string ⟨#[49, 48, 57, 57, 53, 49, 49, 54, 50, 55, 55, 55, 55]⟩] w fun e w' => ∃ v, e = .returned (.tuple #[v, .int .i64 0, .int .i64 2]) ∧ Toks w v [] w' := by
  have h := lex_tokens ⟨#[49, 48, 57, 57, 53, 49, 49, 54, 50, 55, 55, 55, 55]⟩ w (by decide) hu
  have e : tokens (⟨#[49, 48, 57, 57, 53, 49, 49, 54, 50, 55, 55, 55, 55]⟩ : ByteArray).data.toList = .err 0 2 := ex3_tokens
  rw [e] at h
  exact h
theorem lex_ex4 (w : World) : Calls Tryd.prog 19 #[.string ⟨#[97, 10, 98, 99]⟩, .int .i64 3] w fun e w' => e = .returned (.tuple #[.int .i64 2, .int .i64 2]) ∧ w = w' := by
  have h := lex_spot ⟨#[97, 10, 98, 99]⟩ 3 w (by decide)
  have e1 : lnF ⟨#[97, 10, 98, 99]⟩ (spM ⟨#[97, 10, 98, 99]⟩ 3) = 2 := by decide +kernel
  have e2 : coF ⟨#[97, 10, 98, 99]⟩ (spM ⟨#[97, 10, 98, 99]⟩ 3) = 2 := by decide +kernel
  rw [e1, e2] at h
  exact h

set_option maxHeartbeats 1000000 in
theorem lex_sanity (w : World) (hu : Units w) : Calls Tryd.prog 15 #[] w fun e w' => e = .returned (.bool true) ∧ Below w.heap.size w w' := by
  go_enter Tryd.func15, Tryd.ntmps15
  go_wp2_with fail
  refine (lex_ex1 w hu).mono ?_
  rintro e w1 ⟨g, cap, rfl, ho1, hb1⟩
  have hu1 := hu.below hb1 hu.lt
  have hz1 := hb1.size
  go_wp2_with fail
  refine (lex_ex2 w1 hu1).mono ?_
  rintro e w2 ⟨v2, rfl, ho2, hb2⟩
  have hu2 := hu1.below hb2 hu1.lt
  have hz2 := hb2.size
  go_wp2_with fail
  refine (lex_ex3 w2 hu2).mono ?_
  rintro e w3 ⟨v3, rfl, ho3, hb3⟩
  have hz3 := hb3.size
  go_wp2_with fail
  refine (lex_ex4 w3).mono ?_
  rintro e w' ⟨rfl, rfl⟩
  have ho := own_below (own_below ho1 hb2) hb3
  have hb := below_to (below_to hb1 hz1 hb2) (by omega) hb3
  have c0 : w3.cell? ⟨g, 16, none⟩ = some (.int .i64 2) := World.ownsRow.cellAt ho 16 (by decide)
  have c1 : w3.cell? ⟨g, 17, none⟩ = some (.string ⟨#[50, 104]⟩) := World.ownsRow.cellAt ho 17 (by decide)
  have c2 : w3.cell? ⟨g, 18, none⟩ = some (.int .i64 7200) := World.ownsRow.cellAt ho 18 (by decide)
  have c3 : w3.cell? ⟨g, 19, none⟩ = some (.int .i64 14) := World.ownsRow.cellAt ho 19 (by decide)
  have hr : RowSl w3 (.slice (some ⟨g, 0, none⟩) 7 cap) (ex1T.map cellOf) := RowSl.of_toks (TokSl.of_own ho)
  have hj := lex_join _ _ w3 hr (by decide) (by rw [exJ_joined]; decide)
  have eJ : strB (joined (ex1T.map cellOf)) = ⟨#[116, 121, 112, 101, 32, 97, 45, 49, 32, 123, 32, 108, 105, 102, 101, 32, 50, 104, 32, 59, 32, 125]⟩ := by rw [exJ_joined]; rfl
  rw [eJ] at hj
  have HJ := Lib.hid hj
  clear hj eJ
  clear ho1 ho2 ho3 ho hr hb1 hb2 hb3
  go_wp2_with fail
  refine HJ.out.mono ?_
  rintro e w4 ⟨rfl, hb4⟩
  go_wp2_with fail
  go_ret
  exact ⟨rfl, below_to hb (by omega) hb4⟩
end Go.Proofs.YtecldgjdmomilaaDoor
