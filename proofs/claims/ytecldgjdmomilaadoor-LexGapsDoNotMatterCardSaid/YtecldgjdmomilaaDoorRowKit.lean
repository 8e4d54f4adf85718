/-
  What the rows of this seat share: the step from a walk that leaves all old memory as it was to the row's statement, and what the list of laid variables gives.
-/
import Derived.Test.YtecldgjdmomilaaDoorCards
import Derived.Test.YtecldgjdmomilaaDoorTie
import Derived.WalkKit
import Derived.ProofKit
import Derived.OpenShut
import Derived.Deep.DeepHandedRow
import Derived.Lib.LaidTab
import Derived.Below
import Derived.ChangeSame
import Derived.Test.YtecldgjdmomilaaDoorLexG
namespace Go.Proofs.YtecldgjdmomilaaDoor
open Go.ChangeShapes Go.WideShapes Go.ChangeAt Go.RowKit

theorem own : ownKnob Tryd.prog.godebug = none := by kernel_rfl

section
variable {H : Type} {enc : TypeId × Value → H} {P : Program}
/-- The row's last step for a call of which only 'Below' is known. -/
theorem post_below {f : Func} {s : ChangeSpec} {apart fresh handsOn again : Bool} {W W' : World} {args : Array Value} {v : Value} {ds gs : List (DataW H)} {before pa pv : List MemPlace}
    (hW : DataW.Whole enc P f.params.toList s.vars apart W args.toList ds gs before)
    (hr : ∀ (b : Nat) (sp : Nat → Bool) (hd : Bool), DataW.TrodAll enc P W' b sp hd f.resultTypes.toList (v.resultList f.resultTypes.size) (s.fn H (ds ++ gs)).results [])
    (ha : ∀ sp : Nat → Bool, (∀ p ∈ before, sp p.block = true) → DataW.TrodAll enc P W' 0 sp true f.params.toList args.toList (s.fn H (ds ++ gs)).args pa)
    (hv : ∀ sp : Nat → Bool, (∀ p ∈ before, sp p.block = true) → DataW.TrodVars enc P W' sp s.vars (s.fn H (ds ++ gs)).vars pv)
    (hp : before = pa ++ pv) (hb : Below W.heap.size W W')
    (hok : ∀ (j : Nat) (t : TypeId) (r : Value), f.resultTypes[j]? = some t → (v.resultList f.resultTypes.size)[j]? = some r → Value.okWide P W' .any 0 t r) :
    s.post enc P f apart fresh handsOn again W args v W' := by
  have hlow : ∀ p ∈ before, p.block < W.heap.size := fun p h => hW.lt p h
  have hall : ∀ p ∈ before, (fun b => decide (b < W.heap.size)) p.block = true := fun p h => by simpa using hlow p h
  refine ⟨ds, gs, before, [], pa, pv, hW, hr _ _ _, ha _ hall, hv _ hall, World.keptBut_mono (fun p h => ⟨h, ?_⟩) (hb.frame (· ∈ before)), fun _ => ?_⟩
  · rw [hp, List.mem_append] at h
    exact .inr h
  · obtain ⟨_, _, _, _, _, hz, hn⟩ := hW
    refine ⟨hok, _, _, ([] ++ pa) ++ pv, ⟨[] ++ pa, pv, trodAll_append (ha _ (fun _ _ => rfl)) (hr _ _ _), hv _ (fun _ _ => rfl), rfl, ?_, ?_⟩, ?_⟩
    · intro b off h
      have hin : MemPlace.cell b off ∈ before := by rw [hp]; simpa using h
      rw [hb.frozen (hlow _ hin)]
      exact hz b off hin
    · intro h
      have := hn h
      rw [hp] at this
      simpa using this
    · intro p h _
      rw [hp]
      simpa using h
end

theorem gUnits : Tryd.prog.globalNamed "custody/lex.units" = some 3 := by kernel_rfl
theorem gUnitsType : (Tryd.prog.globals[3]?).map (·.type) = some 123 := by kernel_rfl

theorem cells122 : Tryd.prog.cellsOf 122 = 2 := by kernel_rfl
theorem cells123 : Tryd.prog.cellsOf 123 = 8 := by kernel_rfl
theorem cells5 : Tryd.prog.cellsOf 5 = 1 := by kernel_rfl
theorem cells3 : Tryd.prog.cellsOf 3 = 1 := by kernel_rfl

set_option maxRecDepth 100000 in
theorem unit_reads {H : Type} {enc : TypeId × Value → H} {w : World} {base : Nat} {sp : Nat → Bool} {held : Bool} {fuel : Nat} {cs : List Value} {x : DataW H × List MemPlace}
    (h : DataW.trod enc Tryd.prog w base sp held fuel 122 cs = some x) : ∃ a b, cs = [.int .u8 a, .int .i64 b] ∧ x.1 = .agg [.lit (.int .u8 a), .lit (.int .i64 b)] := by
  obtain ⟨xs, n, _, hx, hl, hxl, hf⟩ := DataW.trod_struct Tryd.underlying122 h
  rw [cells122] at hl
  match cs, hl with
  | [c0, c1], _ =>
    match xs, hxl with
    | [y0, y1], _ =>
      have h0 : DataW.trod enc Tryd.prog w base sp held n 5 (List.take (Tryd.prog.cellsOf 5) (List.drop 0 [c0, c1])) = some y0 := hf 0 _ rfl
      have h1 : DataW.trod enc Tryd.prog w base sp held n 3 (List.take (Tryd.prog.cellsOf 3) (List.drop 1 [c0, c1])) = some y1 := hf 1 _ rfl
      rw [cells5] at h0
      rw [cells3] at h1
      obtain ⟨a, ha, hy0, _⟩ := DataW.trod_int Tryd.underlying5 (cs := [c0]) (x := y0) h0
      obtain ⟨b, hb, hy1, _⟩ := DataW.trod_int Tryd.underlying3 (cs := [c1]) (x := y1) h1
      injection ha with ha _
      injection hb with hb _
      subst ha hb hy0 hy1
      exact ⟨a, b, rfl, by rw [hx]; rfl⟩


set_option maxRecDepth 100000 in
theorem units_read {W : World} {cs : Array Value} {fuel : Nat} {p : List MemPlace} (hvar : W.var? Tryd.prog "custody/lex.units" = some cs)
    (hd : DataW.trod (fun _ => ()) Tryd.prog W 0 (fun _ => true) false fuel 123 cs.toList = some (Rows.laid_custody_lex_units, p)) : Units W := by
  have hcs : cs = unitsC := by
    obtain ⟨xs, m, _, hx, hl, hxl, hi⟩ := DataW.trod_array Tryd.underlying123 hd
    rw [cells123] at hl
    obtain ⟨l⟩ := cs
    simp only at hl hi
    match l, hl with
    | [c0, c1, c2, c3, c4, c5, c6, c7], _ =>
      match xs, hxl with
      | [y0, y1, y2, y3], _ =>
        rw [cells122] at hi
        obtain ⟨a0, b0, e0, f0⟩ := unit_reads (cs := [c0, c1]) (x := y0) (hi 0 (by decide))
        obtain ⟨a1, b1, e1, f1⟩ := unit_reads (cs := [c2, c3]) (x := y1) (hi 1 (by decide))
        obtain ⟨a2, b2, e2, f2⟩ := unit_reads (cs := [c4, c5]) (x := y2) (hi 2 (by decide))
        obtain ⟨a3, b3, e3, f3⟩ := unit_reads (cs := [c6, c7]) (x := y3) (hi 3 (by decide))
        have hx1 := congrArg Prod.fst hx
        simp only [Rows.laid_custody_lex_units, List.map_cons, List.map_nil, f0, f1, f2, f3, DataW.agg.injEq, List.cons.injEq, DataW.lit.injEq, Lit.int.injEq, true_and, and_true] at hx1
        simp at e0 e1 e2 e3
        obtain ⟨⟨rfl, rfl⟩, ⟨rfl, rfl⟩, ⟨rfl, rfl⟩, rfl, rfl⟩ := hx1
        obtain ⟨rfl, rfl⟩ := e0
        obtain ⟨rfl, rfl⟩ := e1
        obtain ⟨rfl, rfl⟩ := e2
        obtain ⟨rfl, rfl⟩ := e3
        rfl
  subst hcs
  unfold World.var? at hvar
  rw [gUnits] at hvar
  simp only [Option.bind_some] at hvar
  split at hvar
  · rename_i cs' t fr hh
    injection hvar with hvar
    subst hvar
    exact ⟨t, fr, hh⟩
  · cases hvar
theorem units_of {W : World} (h : laidMetH Tryd.prog [("custody/lex.units", Rows.laid_custody_lex_units)] W) : Units W := by
  obtain ⟨ps, ⟨g', t', cs, fuel, p, q, hg', ht', hvar, hd, _, _⟩, _⟩ := (show laidMet Tryd.prog [("custody/lex.units", Rows.laid_custody_lex_units)] W from h)
  obtain rfl := Option.some.inj (gUnits.symm.trans hg')
  obtain rfl := Option.some.inj (gUnitsType.symm.trans ht')
  exact units_read hvar hd

/-- A world for a witness: the settled one, the table of units holding what its initialiser lays. -/
noncomputable def laidWorld (os : Os) : World :=
  { World.holding Tryd.prog os ⟨#[], #[], []⟩ with heap := (World.holding Tryd.prog os ⟨#[], #[], []⟩).heap.modify 3 fun
      | .cells _ t frozen => .cells #[.int .u8 115, .int .i64 1, .int .u8 109, .int .i64 60, .int .u8 104, .int .i64 3600, .int .u8 100, .int .i64 86400] t frozen
      | o => o }
end Go.Proofs.YtecldgjdmomilaaDoor
