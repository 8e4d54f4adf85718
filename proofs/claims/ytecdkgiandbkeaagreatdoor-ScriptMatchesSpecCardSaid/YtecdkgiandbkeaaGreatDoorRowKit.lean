/-
  What the rows of this seat share: the step from a walk that leaves all old memory as it was to the row's statement, and what the list of laid variables gives.
-/
import Derived.Test.YtecdkgiandbkeaaGreatDoorCards
import Derived.Test.YtecdkgiandbkeaaGreatDoorTie
import Derived.WalkKit
import Derived.ProofKit
import Derived.OpenShut
import Derived.Deep.DeepHandedRow
import Derived.Lib.LaidTab
import Derived.Lib.LaidU8
import Derived.Below
import Derived.ChangeSame
import Derived.ChangeAgain
import Derived.Shelf.Vars
import Derived.Test.YtecdkgiandbkeaaGreatDoorScRep
namespace Go.Proofs.YtecdkgiandbkeaaGreatDoor
open Go.ChangeShapes Go.WideShapes Go.ChangeAt Go.RowKit ScSpec

theorem own : ownKnob Tryz.prog.godebug = none := by kernel_rfl

section
variable {H : Type} {enc : TypeId × Value → H} {P : Program}
/-- The row's last step for a call of which only 'Below' is known. -/
theorem post_below {f : Func} {s : ChangeSpec} {apart fresh handsOn again : Bool} {W W' : World} {args : Array Value} {v : Value} {ds gs : List (DataW H)} {before pa pv : List MemPlace}
    (hW : DataW.Whole enc P f.params.toList s.vars apart W args.toList ds gs before)
    (hr : ∀ (b : Nat) (sp : Nat → Bool) (hd : Bool), DataW.TrodAll enc P W' b sp hd f.resultTypes.toList (v.resultList f.resultTypes.size) (s.fn H (ds ++ gs)).results [])
    (ha : ∀ sp : Nat → Bool, (∀ p ∈ before, sp p.block = true) → DataW.TrodAll enc P W' 0 sp true f.params.toList args.toList (s.fn H (ds ++ gs)).args pa)
    (hv : ∀ sp : Nat → Bool, (∀ p ∈ before, sp p.block = true) → DataW.TrodVars enc P W' sp s.vars (s.fn H (ds ++ gs)).vars pv)
    (hp : before = pa ++ pv) (hb : Below W.heap.size W W')
    (hok : ∀ (j : Nat) (t : TypeId) (r : Value), f.resultTypes[j]? = some t → (v.resultList f.resultTypes.size)[j]? = some r → Value.okWide P W' .any 0 t r) :
    s.post enc P f apart fresh handsOn again W args v W' := by
  have hlow : ∀ p ∈ before, p.block < W.heap.size := fun p h => hW.lt p h
  have hall : ∀ p ∈ before, (fun b => decide (b < W.heap.size)) p.block = true := fun p h => by simpa using hlow p h
  refine ⟨ds, gs, before, [], pa, pv, hW, hr _ _ _, ha _ hall, hv _ hall, World.keptBut_mono (fun p h => ⟨h, ?_⟩) (hb.frame (· ∈ before)), fun _ => ?_⟩
  · rw [hp, List.mem_append] at h
    exact .inr h
  · obtain ⟨_, _, _, _, _, hz, hn⟩ := hW
    refine ⟨hok, _, _, ([] ++ pa) ++ pv, ⟨[] ++ pa, pv, trodAll_append (ha _ (fun _ _ => rfl)) (hr _ _ _), hv _ (fun _ _ => rfl), rfl, ?_, ?_⟩, ?_⟩
    · intro b off h
      have hin : MemPlace.cell b off ∈ before := by rw [hp]; simpa using h
      rw [hb.frozen (hlow _ hin)]
      exact hz b off hin
    · intro h
      have := hn h
      rw [hp] at this
      simpa using this
    · intro p h _
      rw [hp]
      simpa using h
end


theorem gRows : Tryz.prog.globalNamed "custody/script.rows" = some 0 := by kernel_rfl
theorem gRowsType : (Tryz.prog.globals[0]?).map (·.type) = some 85 := by kernel_rfl
theorem gErrS : Tryz.prog.globalNamed "strconv.ErrSyntax" = some 5 := by kernel_rfl
theorem gErrSType : (Tryz.prog.globals[5]?).map (·.type) = some 66 := by kernel_rfl
theorem gErrR : Tryz.prog.globalNamed "strconv.ErrRange" = some 6 := by kernel_rfl
theorem gErrRType : (Tryz.prog.globals[6]?).map (·.type) = some 66 := by kernel_rfl
theorem gPowType : (Tryz.prog.globals[4]?).map (·.type) = some 145 := by kernel_rfl
theorem low_heap : (begin Tryz.prog (fun _ _ => 0) default).world.heap.size = 14 := by kernel_rfl
theorem cells84 : Tryz.prog.cellsOf 84 = 4 := by kernel_rfl
theorem cells85 : Tryz.prog.cellsOf 85 = 96 := by kernel_rfl
theorem cells9 : Tryz.prog.cellsOf 9 = 1 := by kernel_rfl
theorem cells3 : Tryz.prog.cellsOf 3 = 1 := by kernel_rfl
theorem cells4 : Tryz.prog.cellsOf 4 = 1 := by kernel_rfl

def rowD {H : Type} (r : Row) : DataW H := .agg [.lit (.string r.name), .lit (.int .i64 r.least), .lit (.int .i64 r.most), .lit (.bool r.text)]
theorem rows_data {H : Type} : (Rows.laid_custody_script_rows : DataW H) = .agg (ScSpec.rows.map rowD) := rfl
set_option maxRecDepth 100000 in
theorem row_reads {H : Type} {enc : TypeId × Value → H} {w : World} {base : Nat} {sp : Nat → Bool} {held : Bool} {fuel : Nat} {cs : List Value} {r : Row} {p : List MemPlace}
    (h : DataW.trod enc Tryz.prog w base sp held fuel 84 cs = some (rowD r, p)) : cs = rowC r := by
  obtain ⟨xs, n, _, hx, hl, hxl, hf⟩ := DataW.trod_struct Tryz.underlying84 h
  rw [cells84] at hl
  match cs, hl with
  | [c0, c1, c2, c3], _ =>
    match xs, hxl with
    | [y0, y1, y2, y3], _ =>
      have h0 : DataW.trod enc Tryz.prog w base sp held n 9 (List.take (Tryz.prog.cellsOf 9) (List.drop 0 [c0, c1, c2, c3])) = some y0 := hf 0 _ rfl
      have h1 : DataW.trod enc Tryz.prog w base sp held n 3 (List.take (Tryz.prog.cellsOf 3) (List.drop 1 [c0, c1, c2, c3])) = some y1 := hf 1 _ rfl
      have h2 : DataW.trod enc Tryz.prog w base sp held n 3 (List.take (Tryz.prog.cellsOf 3) (List.drop 2 [c0, c1, c2, c3])) = some y2 := hf 2 _ rfl
      have h3 : DataW.trod enc Tryz.prog w base sp held n 4 (List.take (Tryz.prog.cellsOf 4) (List.drop 3 [c0, c1, c2, c3])) = some y3 := hf 3 _ rfl
      rw [cells9] at h0
      rw [cells3] at h1 h2
      rw [cells4] at h3
      obtain ⟨s, hs, hy0, _⟩ := DataW.trod_string Tryz.underlying9 (cs := [c0]) (x := y0) h0
      obtain ⟨a, ha, hy1, _⟩ := DataW.trod_int Tryz.underlying3 (cs := [c1]) (x := y1) h1
      obtain ⟨b, hb, hy2, _⟩ := DataW.trod_int Tryz.underlying3 (cs := [c2]) (x := y2) h2
      obtain ⟨d, hd, hy3⟩ := DataW.trod_bool Tryz.underlying4 (cs := [c3]) (x := y3) h3
      injection hs with hs _
      injection ha with ha _
      injection hb with hb _
      injection hd with hd _
      subst hs ha hb hd hy0 hy1 hy2 hy3
      have hx1 := congrArg Prod.fst hx
      simp only [rowD, List.map_cons, List.map_nil, DataW.agg.injEq, List.cons.injEq, DataW.lit.injEq, Lit.int.injEq, Lit.string.injEq, Lit.bool.injEq, true_and, and_true] at hx1
      obtain ⟨h0, h1, h2, h3⟩ := hx1
      unfold rowC
      rw [h0, h1, h2, h3, strB_of]
theorem chunks : ∀ (rs : List Row) (cs : List Value), cs.length = rs.length * 4 → (∀ i r, rs[i]? = some r → (cs.drop (i * 4)).take 4 = rowC r) → cs = rs.flatMap rowC
  | [], cs, h, _ => by
    have : cs.length = 0 := by simpa using h
    rw [List.length_eq_zero_iff.1 this]; rfl
  | r :: rs, cs, h, hc => by
    have h0 := hc 0 r rfl
    rw [Nat.zero_mul, List.drop_zero] at h0
    have ih := chunks rs (cs.drop 4) (by rw [List.length_drop, h, List.length_cons]; omega) (fun i q hi => by
      have := hc (i + 1) q (by simpa using hi)
      rw [List.drop_drop]
      rw [show 4 + i * 4 = (i + 1) * 4 from by omega]
      exact this)
    rw [List.flatMap_cons, ← ih, ← h0, List.take_append_drop]
set_option maxRecDepth 100000 in
theorem rows_read {W : World} (h : Lib.VarReads Tryz.prog W "custody/script.rows" Rows.laid_custody_script_rows) : ∃ t fr, W.heap[0]? = some (.cells rowsC.toArray t fr) := by
  obtain ⟨g, t, cs, fuel, p, hg, ht, hvar, hd⟩ := h
  obtain rfl := Option.some.inj (gRows.symm.trans hg)
  obtain rfl := Option.some.inj (gRowsType.symm.trans ht)
  rw [rows_data] at hd
  have hcs : cs.toList = rowsC := by
    obtain ⟨xs, m, _, _, hl, _, _⟩ := DataW.trod_array Tryz.underlying85 hd
    rw [cells85] at hl
    refine chunks ScSpec.rows cs.toList hl ?_
    intro i r hi
    have hi24 : i < 24 := (List.getElem?_eq_some_iff.1 hi).1
    obtain ⟨f', d, q, hd1, hd2⟩ := Lib.array_elem Tryz.underlying85 hd i hi24
    rw [cells84] at hd2
    rw [List.getElem?_map, hi] at hd1
    obtain rfl := Option.some.inj hd1
    exact row_reads hd2
  unfold World.var? at hvar
  rw [gRows] at hvar
  simp only [Option.bind_some] at hvar
  split at hvar
  · rename_i cs' t fr hh
    injection hvar with hvar
    subst hvar
    refine ⟨t, fr, ?_⟩
    rw [← hcs]
    exact hh
  · cases hvar
theorem err_read {W : World} {name : String} {g : Nat} {d : DataW Unit} (hgn : Tryz.prog.globalNamed name = some g) (hgt : (Tryz.prog.globals[g]?).map (·.type) = some 66) {nm : String} {dd : DataW Unit} (hdd : d = .iface nm dd)
    (h : Lib.VarReads Tryz.prog W name d) : ∃ ev, W.cell? ⟨g, 0, none⟩ = some ev ∧ (ev = .nilIface ∨ ∃ te pe, ev = .iface te pe) := by
  subst hdd
  obtain ⟨g', t, cs, fuel, p, hg, ht, hvar, hd⟩ := h
  obtain rfl := Option.some.inj (hgn.symm.trans hg)
  obtain rfl := Option.some.inj (hgt.symm.trans ht)
  obtain ⟨f', u, v, hcs, _, _⟩ := iface_of_trod Tryz.underlying66 hd
  unfold World.var? at hvar
  rw [hgn] at hvar
  simp only [Option.bind_some] at hvar
  split at hvar
  · rename_i cs' t fr hh
    injection hvar with hvar
    subst hvar
    refine ⟨.iface u v, ?_, .inr ⟨u, v, rfl⟩⟩
    rw [cell_of_row W g 0 _ t fr hh]
    have := congrArg (fun l => l[0]?) hcs
    simpa using this
  · cases hvar
set_option maxRecDepth 100000 in
theorem pow_read {W : World} (h : Lib.VarReads Tryz.prog W "internal/strconv.uint64pow10" Rows.laid_internal_strconv_uint64pow10) : Lib.TabIs Tryz.prog W "internal/strconv.uint64pow10" .u64 Lib.pow10Tab := by
  obtain ⟨g, t, cs, fuel, p, hg, ht, hvar, hd⟩ := h
  obtain rfl := Option.some.inj (gPow.symm.trans hg)
  obtain rfl := Option.some.inj (gPowType.symm.trans ht)
  have hc := Lib.cells_of_tab (k := .u64) (zs := Lib.pow10Tab) Tryz.underlying145 (show Tryz.prog.underlying 105 = some (.int .u64) by kernel_rfl) (by kernel_rfl) (by kernel_rfl) (show DataW.trod (fun _ => ()) Tryz.prog W 0 (fun _ => true) false fuel 145 cs.toList = some (Lib.tabData .u64 Lib.pow10Tab, p) from hd)
  unfold Lib.TabIs
  rw [hvar]
  congr 1
  apply Array.ext'
  rw [hc]
set_option maxRecDepth 100000 in
theorem laid_of {W : World} (h : laidMetH Tryz.prog Rows.scriptLinesRow.laid W) (hsh : W.ShapedOpen Tryz.prog) : Laid W := by
  have h' : laidMet Tryz.prog Rows.scriptLinesRow.laid W := h
  have m1 : ("custody/script.rows", Rows.laid_custody_script_rows) ∈ Rows.scriptLinesRow.laid := by simp [Rows.scriptLinesRow]
  have m2 : ("strconv.ErrSyntax", Rows.laid_strconv_ErrSyntax) ∈ Rows.scriptLinesRow.laid := by simp [Rows.scriptLinesRow]
  have m3 : ("strconv.ErrRange", Rows.laid_strconv_ErrRange) ∈ Rows.scriptLinesRow.laid := by simp [Rows.scriptLinesRow]
  have m4 : ("internal/strconv.uint64pow10", Rows.laid_internal_strconv_uint64pow10) ∈ Rows.scriptLinesRow.laid := by simp [Rows.scriptLinesRow]
  refine ⟨rows_read (Lib.laidMet.reads h' m1), (Go.Proofs.cell_of_shapedOpen_int (g := 1) (t := 3) (zero := #[.int .i64 0]) (k := .i64) hsh (by rw [show Tryz.prog.globals.size = 9 by kernel_rfl]; decide) (by kernel_rfl) (by kernel_rfl) (by kernel_rfl) (by kernel_rfl) (by kernel_rfl)), err_read gErrS gErrSType rfl (Lib.laidMet.reads h' m2), err_read gErrR gErrRType rfl (Lib.laidMet.reads h' m3), pow_read (Lib.laidMet.reads h' m4), ?_⟩
  obtain ⟨o, _, ho, _⟩ := hsh.2 13 (by have : Tryz.prog.globals.size = 9 := by kernel_rfl
                                       omega) (by rw [low_heap]; omega)
  have := (Array.getElem?_eq_some_iff.1 ho).1
  omega

/-- A datum of plain parts as cells (for the witness world). -/
def litC : DataW Unit → List Value
  | .lit (.int k z) => [.int k z]
  | .lit (.string b) => [.string ⟨b.toArray⟩]
  | .lit (.bool b) => [.bool b]
  | _ => []
def cellsD : DataW Unit → Array Value
  | .agg l => (l.flatMap fun | .agg m => m.flatMap litC | d => litC d).toArray
  | _ => #[]
def putC (cs : Array Value) : Obj → Obj
  | .cells _ t frozen => .cells cs t frozen
  | o => o
def errT (d : DataW Unit) : Array Value := match d with | .iface _ (.ptr d) => cellsD d | _ => #[]
/-- A world for a witness: the settled one, the listed variables holding what their initialisers lay. -/
noncomputable def laidWorld (os : Os) : World :=
  let w0 := World.holding Tryz.prog os ⟨#[.cells (errT Rows.laid_strconv_ErrSyntax) 160, .cells (errT Rows.laid_strconv_ErrRange) 160], #[], []⟩
  { w0 with heap := ((((((((w0.heap.modify 0 (putC (cellsD Rows.laid_custody_script_rows))).modify 2 (putC (Go.Pinned.utf8FirstZ.map fun (n : Nat) => Value.int .u8 (n : Int)).toArray)).modify 3 (putC (cellsD Rows.laid_unicode_utf8_acceptRanges))).modify 4 (putC (cellsD Rows.laid_internal_strconv_uint64pow10))).modify 5 (putC #[.iface 158 (.pointer (some ⟨14, 0, none⟩))])).modify 6 (putC #[.iface 158 (.pointer (some ⟨15, 0, none⟩))])).modify 7 (putC (cellsD Rows.laid_math_bits_deBruijn32tab))).modify 8 (putC (cellsD Rows.laid_math_bits_deBruijn64tab))) }
end Go.Proofs.YtecdkgiandbkeaaGreatDoor
