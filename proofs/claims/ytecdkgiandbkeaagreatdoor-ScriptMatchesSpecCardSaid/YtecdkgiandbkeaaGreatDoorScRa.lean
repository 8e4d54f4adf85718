/-
  The laws' sanity examples: the last statement, a region that draws its order, one operation after the other.
-/
import Derived.Test.YtecdkgiandbkeaaGreatDoorKit
import Derived.Test.YtecdkgiandbkeaaGreatDoorProg
import Derived.Deep.RegionHeld3
namespace Go.Proofs.YtecdkgiandbkeaaGreatDoor
open Go.RowKit

/-- The operations of a function's region by its number. -/
def regionOf (n : Nat) : Code → Option (Array Oper)
  | .region id ops _ => if id = n then some ops else none
  | .seq a b => (regionOf n a).or (regionOf n b)
  | _ => none
noncomputable def sanOps : Array Oper := (Tryz.f9.body.bind (regionOf 11)).getD #[]
noncomputable def sop (k : Nat) : Oper := sanOps.getD k default
theorem san_size : sanOps.size = 102 := by kernel_rfl
theorem san_at {k : Nat} (h : k < 102) : sanOps[k]? = some (sop k) := by
  have h' : k < sanOps.size := by rw [san_size]; exact h
  unfold sop
  rw [Array.getD_eq_getD_getElem?, Array.getElem?_eq_getElem h']; rfl
def lst (i : Nat) : Array Bool := ((List.range 102).map fun k => decide (k < i)).toArray
theorem lst_0 : Array.replicate 102 false = lst 0 := by decide +kernel
theorem lst_set {i : Nat} (_ : i < 102) : (lst i).setIfInBounds i true = lst (i + 1) := by
  unfold lst
  apply Array.ext'
  simp only [Array.toList_setIfInBounds]
  apply List.ext_getElem
  · simp
  intro j h1 h2
  simp only [List.getElem_set, List.getElem_map, List.getElem_range]
  by_cases h : i = j
  · rw [if_pos h, decide_eq_true (by omega)]
  · rw [if_neg h, decide_eq_decide]; omega
theorem san_sel : Region.noSelect sanOps = true := by kernel_rfl
theorem san_free0 : Region.free .any sanOps (lst 0) 0 = true := by kernel_rfl
theorem san_has0 : (Region.ready .any sanOps (lst 0)).contains 0 = true := by kernel_rfl
theorem san_free1 : Region.free .any sanOps (lst 1) 1 = true := by kernel_rfl
theorem san_has1 : (Region.ready .any sanOps (lst 1)).contains 1 = true := by kernel_rfl
theorem san_free2 : Region.free .any sanOps (lst 2) 2 = true := by kernel_rfl
theorem san_has2 : (Region.ready .any sanOps (lst 2)).contains 2 = true := by kernel_rfl
theorem san_free3 : Region.free .any sanOps (lst 3) 3 = true := by kernel_rfl
theorem san_has3 : (Region.ready .any sanOps (lst 3)).contains 3 = true := by kernel_rfl
theorem san_free4 : Region.free .any sanOps (lst 4) 4 = true := by kernel_rfl
theorem san_has4 : (Region.ready .any sanOps (lst 4)).contains 4 = true := by kernel_rfl
theorem san_free5 : Region.free .any sanOps (lst 5) 5 = true := by kernel_rfl
theorem san_has5 : (Region.ready .any sanOps (lst 5)).contains 5 = true := by kernel_rfl
theorem san_free6 : Region.free .any sanOps (lst 6) 6 = true := by kernel_rfl
theorem san_has6 : (Region.ready .any sanOps (lst 6)).contains 6 = true := by kernel_rfl
theorem san_free7 : Region.free .any sanOps (lst 7) 7 = true := by kernel_rfl
theorem san_has7 : (Region.ready .any sanOps (lst 7)).contains 7 = true := by kernel_rfl
theorem san_ready8 : Region.ready .any sanOps (lst 8) = [8] := by kernel_rfl
theorem san_ready9 : Region.ready .any sanOps (lst 9) = [9] := by kernel_rfl
theorem san_free10 : Region.free .any sanOps (lst 10) 10 = true := by kernel_rfl
theorem san_has10 : (Region.ready .any sanOps (lst 10)).contains 10 = true := by kernel_rfl
theorem san_free11 : Region.free .any sanOps (lst 11) 11 = true := by kernel_rfl
theorem san_has11 : (Region.ready .any sanOps (lst 11)).contains 11 = true := by kernel_rfl
theorem san_free12 : Region.free .any sanOps (lst 12) 12 = true := by kernel_rfl
theorem san_has12 : (Region.ready .any sanOps (lst 12)).contains 12 = true := by kernel_rfl
theorem san_free13 : Region.free .any sanOps (lst 13) 13 = true := by kernel_rfl
theorem san_has13 : (Region.ready .any sanOps (lst 13)).contains 13 = true := by kernel_rfl
theorem san_free14 : Region.free .any sanOps (lst 14) 14 = true := by kernel_rfl
theorem san_has14 : (Region.ready .any sanOps (lst 14)).contains 14 = true := by kernel_rfl
theorem san_free15 : Region.free .any sanOps (lst 15) 15 = true := by kernel_rfl
theorem san_has15 : (Region.ready .any sanOps (lst 15)).contains 15 = true := by kernel_rfl
theorem san_free16 : Region.free .any sanOps (lst 16) 16 = true := by kernel_rfl
theorem san_has16 : (Region.ready .any sanOps (lst 16)).contains 16 = true := by kernel_rfl
theorem san_free17 : Region.free .any sanOps (lst 17) 17 = true := by kernel_rfl
theorem san_has17 : (Region.ready .any sanOps (lst 17)).contains 17 = true := by kernel_rfl
theorem san_free18 : Region.free .any sanOps (lst 18) 18 = true := by kernel_rfl
theorem san_has18 : (Region.ready .any sanOps (lst 18)).contains 18 = true := by kernel_rfl
theorem san_free19 : Region.free .any sanOps (lst 19) 19 = true := by kernel_rfl
theorem san_has19 : (Region.ready .any sanOps (lst 19)).contains 19 = true := by kernel_rfl
theorem san_free20 : Region.free .any sanOps (lst 20) 20 = true := by kernel_rfl
theorem san_has20 : (Region.ready .any sanOps (lst 20)).contains 20 = true := by kernel_rfl
theorem san_free21 : Region.free .any sanOps (lst 21) 21 = true := by kernel_rfl
theorem san_has21 : (Region.ready .any sanOps (lst 21)).contains 21 = true := by kernel_rfl
theorem san_free22 : Region.free .any sanOps (lst 22) 22 = true := by kernel_rfl
theorem san_has22 : (Region.ready .any sanOps (lst 22)).contains 22 = true := by kernel_rfl
theorem san_free23 : Region.free .any sanOps (lst 23) 23 = true := by kernel_rfl
theorem san_has23 : (Region.ready .any sanOps (lst 23)).contains 23 = true := by kernel_rfl
theorem san_free24 : Region.free .any sanOps (lst 24) 24 = true := by kernel_rfl
theorem san_has24 : (Region.ready .any sanOps (lst 24)).contains 24 = true := by kernel_rfl
theorem san_free25 : Region.free .any sanOps (lst 25) 25 = true := by kernel_rfl
theorem san_has25 : (Region.ready .any sanOps (lst 25)).contains 25 = true := by kernel_rfl
theorem san_free26 : Region.free .any sanOps (lst 26) 26 = true := by kernel_rfl
theorem san_has26 : (Region.ready .any sanOps (lst 26)).contains 26 = true := by kernel_rfl
theorem san_free27 : Region.free .any sanOps (lst 27) 27 = true := by kernel_rfl
theorem san_has27 : (Region.ready .any sanOps (lst 27)).contains 27 = true := by kernel_rfl
theorem san_free28 : Region.free .any sanOps (lst 28) 28 = true := by kernel_rfl
theorem san_has28 : (Region.ready .any sanOps (lst 28)).contains 28 = true := by kernel_rfl
theorem san_free29 : Region.free .any sanOps (lst 29) 29 = true := by kernel_rfl
theorem san_has29 : (Region.ready .any sanOps (lst 29)).contains 29 = true := by kernel_rfl
theorem san_free30 : Region.free .any sanOps (lst 30) 30 = true := by kernel_rfl
theorem san_has30 : (Region.ready .any sanOps (lst 30)).contains 30 = true := by kernel_rfl
theorem san_free31 : Region.free .any sanOps (lst 31) 31 = true := by kernel_rfl
theorem san_has31 : (Region.ready .any sanOps (lst 31)).contains 31 = true := by kernel_rfl
theorem san_free32 : Region.free .any sanOps (lst 32) 32 = true := by kernel_rfl
theorem san_has32 : (Region.ready .any sanOps (lst 32)).contains 32 = true := by kernel_rfl
theorem san_free33 : Region.free .any sanOps (lst 33) 33 = true := by kernel_rfl
theorem san_has33 : (Region.ready .any sanOps (lst 33)).contains 33 = true := by kernel_rfl
theorem san_free34 : Region.free .any sanOps (lst 34) 34 = true := by kernel_rfl
theorem san_has34 : (Region.ready .any sanOps (lst 34)).contains 34 = true := by kernel_rfl
theorem san_free35 : Region.free .any sanOps (lst 35) 35 = true := by kernel_rfl
theorem san_has35 : (Region.ready .any sanOps (lst 35)).contains 35 = true := by kernel_rfl
theorem san_free36 : Region.free .any sanOps (lst 36) 36 = true := by kernel_rfl
theorem san_has36 : (Region.ready .any sanOps (lst 36)).contains 36 = true := by kernel_rfl
theorem san_free37 : Region.free .any sanOps (lst 37) 37 = true := by kernel_rfl
theorem san_has37 : (Region.ready .any sanOps (lst 37)).contains 37 = true := by kernel_rfl
theorem san_free38 : Region.free .any sanOps (lst 38) 38 = true := by kernel_rfl
theorem san_has38 : (Region.ready .any sanOps (lst 38)).contains 38 = true := by kernel_rfl
theorem san_free39 : Region.free .any sanOps (lst 39) 39 = true := by kernel_rfl
theorem san_has39 : (Region.ready .any sanOps (lst 39)).contains 39 = true := by kernel_rfl
theorem san_free40 : Region.free .any sanOps (lst 40) 40 = true := by kernel_rfl
theorem san_has40 : (Region.ready .any sanOps (lst 40)).contains 40 = true := by kernel_rfl
theorem san_free41 : Region.free .any sanOps (lst 41) 41 = true := by kernel_rfl
theorem san_has41 : (Region.ready .any sanOps (lst 41)).contains 41 = true := by kernel_rfl
theorem san_free42 : Region.free .any sanOps (lst 42) 42 = true := by kernel_rfl
theorem san_has42 : (Region.ready .any sanOps (lst 42)).contains 42 = true := by kernel_rfl
theorem san_free43 : Region.free .any sanOps (lst 43) 43 = true := by kernel_rfl
theorem san_has43 : (Region.ready .any sanOps (lst 43)).contains 43 = true := by kernel_rfl
theorem san_free44 : Region.free .any sanOps (lst 44) 44 = true := by kernel_rfl
theorem san_has44 : (Region.ready .any sanOps (lst 44)).contains 44 = true := by kernel_rfl
theorem san_free45 : Region.free .any sanOps (lst 45) 45 = true := by kernel_rfl
theorem san_has45 : (Region.ready .any sanOps (lst 45)).contains 45 = true := by kernel_rfl
theorem san_free46 : Region.free .any sanOps (lst 46) 46 = true := by kernel_rfl
theorem san_has46 : (Region.ready .any sanOps (lst 46)).contains 46 = true := by kernel_rfl
theorem san_free47 : Region.free .any sanOps (lst 47) 47 = true := by kernel_rfl
theorem san_has47 : (Region.ready .any sanOps (lst 47)).contains 47 = true := by kernel_rfl
theorem san_free48 : Region.free .any sanOps (lst 48) 48 = true := by kernel_rfl
theorem san_has48 : (Region.ready .any sanOps (lst 48)).contains 48 = true := by kernel_rfl
theorem san_free49 : Region.free .any sanOps (lst 49) 49 = true := by kernel_rfl
theorem san_has49 : (Region.ready .any sanOps (lst 49)).contains 49 = true := by kernel_rfl
theorem san_free50 : Region.free .any sanOps (lst 50) 50 = true := by kernel_rfl
theorem san_has50 : (Region.ready .any sanOps (lst 50)).contains 50 = true := by kernel_rfl
theorem san_free51 : Region.free .any sanOps (lst 51) 51 = true := by kernel_rfl
theorem san_has51 : (Region.ready .any sanOps (lst 51)).contains 51 = true := by kernel_rfl
theorem san_free52 : Region.free .any sanOps (lst 52) 52 = true := by kernel_rfl
theorem san_has52 : (Region.ready .any sanOps (lst 52)).contains 52 = true := by kernel_rfl
theorem san_free53 : Region.free .any sanOps (lst 53) 53 = true := by kernel_rfl
theorem san_has53 : (Region.ready .any sanOps (lst 53)).contains 53 = true := by kernel_rfl
theorem san_free54 : Region.free .any sanOps (lst 54) 54 = true := by kernel_rfl
theorem san_has54 : (Region.ready .any sanOps (lst 54)).contains 54 = true := by kernel_rfl
theorem san_free55 : Region.free .any sanOps (lst 55) 55 = true := by kernel_rfl
theorem san_has55 : (Region.ready .any sanOps (lst 55)).contains 55 = true := by kernel_rfl
theorem san_free56 : Region.free .any sanOps (lst 56) 56 = true := by kernel_rfl
theorem san_has56 : (Region.ready .any sanOps (lst 56)).contains 56 = true := by kernel_rfl
theorem san_free57 : Region.free .any sanOps (lst 57) 57 = true := by kernel_rfl
theorem san_has57 : (Region.ready .any sanOps (lst 57)).contains 57 = true := by kernel_rfl
theorem san_free58 : Region.free .any sanOps (lst 58) 58 = true := by kernel_rfl
theorem san_has58 : (Region.ready .any sanOps (lst 58)).contains 58 = true := by kernel_rfl
theorem san_free59 : Region.free .any sanOps (lst 59) 59 = true := by kernel_rfl
theorem san_has59 : (Region.ready .any sanOps (lst 59)).contains 59 = true := by kernel_rfl
theorem san_free60 : Region.free .any sanOps (lst 60) 60 = true := by kernel_rfl
theorem san_has60 : (Region.ready .any sanOps (lst 60)).contains 60 = true := by kernel_rfl
theorem san_free61 : Region.free .any sanOps (lst 61) 61 = true := by kernel_rfl
theorem san_has61 : (Region.ready .any sanOps (lst 61)).contains 61 = true := by kernel_rfl
theorem san_free62 : Region.free .any sanOps (lst 62) 62 = true := by kernel_rfl
theorem san_has62 : (Region.ready .any sanOps (lst 62)).contains 62 = true := by kernel_rfl
theorem san_free63 : Region.free .any sanOps (lst 63) 63 = true := by kernel_rfl
theorem san_has63 : (Region.ready .any sanOps (lst 63)).contains 63 = true := by kernel_rfl
theorem san_free64 : Region.free .any sanOps (lst 64) 64 = true := by kernel_rfl
theorem san_has64 : (Region.ready .any sanOps (lst 64)).contains 64 = true := by kernel_rfl
theorem san_free65 : Region.free .any sanOps (lst 65) 65 = true := by kernel_rfl
theorem san_has65 : (Region.ready .any sanOps (lst 65)).contains 65 = true := by kernel_rfl
theorem san_free66 : Region.free .any sanOps (lst 66) 66 = true := by kernel_rfl
theorem san_has66 : (Region.ready .any sanOps (lst 66)).contains 66 = true := by kernel_rfl
theorem san_free67 : Region.free .any sanOps (lst 67) 67 = true := by kernel_rfl
theorem san_has67 : (Region.ready .any sanOps (lst 67)).contains 67 = true := by kernel_rfl
theorem san_free68 : Region.free .any sanOps (lst 68) 68 = true := by kernel_rfl
theorem san_has68 : (Region.ready .any sanOps (lst 68)).contains 68 = true := by kernel_rfl
theorem san_free69 : Region.free .any sanOps (lst 69) 69 = true := by kernel_rfl
theorem san_has69 : (Region.ready .any sanOps (lst 69)).contains 69 = true := by kernel_rfl
theorem san_free70 : Region.free .any sanOps (lst 70) 70 = true := by kernel_rfl
theorem san_has70 : (Region.ready .any sanOps (lst 70)).contains 70 = true := by kernel_rfl
theorem san_free71 : Region.free .any sanOps (lst 71) 71 = true := by kernel_rfl
theorem san_has71 : (Region.ready .any sanOps (lst 71)).contains 71 = true := by kernel_rfl
theorem san_free72 : Region.free .any sanOps (lst 72) 72 = true := by kernel_rfl
theorem san_has72 : (Region.ready .any sanOps (lst 72)).contains 72 = true := by kernel_rfl
theorem san_free73 : Region.free .any sanOps (lst 73) 73 = true := by kernel_rfl
theorem san_has73 : (Region.ready .any sanOps (lst 73)).contains 73 = true := by kernel_rfl
theorem san_free74 : Region.free .any sanOps (lst 74) 74 = true := by kernel_rfl
theorem san_has74 : (Region.ready .any sanOps (lst 74)).contains 74 = true := by kernel_rfl
theorem san_ready75 : Region.ready .any sanOps (lst 75) = [75] := by kernel_rfl
theorem san_free76 : Region.free .any sanOps (lst 76) 76 = true := by kernel_rfl
theorem san_has76 : (Region.ready .any sanOps (lst 76)).contains 76 = true := by kernel_rfl
theorem san_free77 : Region.free .any sanOps (lst 77) 77 = true := by kernel_rfl
theorem san_has77 : (Region.ready .any sanOps (lst 77)).contains 77 = true := by kernel_rfl
theorem san_free78 : Region.free .any sanOps (lst 78) 78 = true := by kernel_rfl
theorem san_has78 : (Region.ready .any sanOps (lst 78)).contains 78 = true := by kernel_rfl
theorem san_ready79 : Region.ready .any sanOps (lst 79) = [79] := by kernel_rfl
theorem san_free80 : Region.free .any sanOps (lst 80) 80 = true := by kernel_rfl
theorem san_has80 : (Region.ready .any sanOps (lst 80)).contains 80 = true := by kernel_rfl
theorem san_free81 : Region.free .any sanOps (lst 81) 81 = true := by kernel_rfl
theorem san_has81 : (Region.ready .any sanOps (lst 81)).contains 81 = true := by kernel_rfl
theorem san_free82 : Region.free .any sanOps (lst 82) 82 = true := by kernel_rfl
theorem san_has82 : (Region.ready .any sanOps (lst 82)).contains 82 = true := by kernel_rfl
theorem san_free83 : Region.free .any sanOps (lst 83) 83 = true := by kernel_rfl
theorem san_has83 : (Region.ready .any sanOps (lst 83)).contains 83 = true := by kernel_rfl
theorem san_free84 : Region.free .any sanOps (lst 84) 84 = true := by kernel_rfl
theorem san_has84 : (Region.ready .any sanOps (lst 84)).contains 84 = true := by kernel_rfl
theorem san_free85 : Region.free .any sanOps (lst 85) 85 = true := by kernel_rfl
theorem san_has85 : (Region.ready .any sanOps (lst 85)).contains 85 = true := by kernel_rfl
theorem san_free86 : Region.free .any sanOps (lst 86) 86 = true := by kernel_rfl
theorem san_has86 : (Region.ready .any sanOps (lst 86)).contains 86 = true := by kernel_rfl
theorem san_free87 : Region.free .any sanOps (lst 87) 87 = true := by kernel_rfl
theorem san_has87 : (Region.ready .any sanOps (lst 87)).contains 87 = true := by kernel_rfl
theorem san_free88 : Region.free .any sanOps (lst 88) 88 = true := by kernel_rfl
theorem san_has88 : (Region.ready .any sanOps (lst 88)).contains 88 = true := by kernel_rfl
theorem san_free89 : Region.free .any sanOps (lst 89) 89 = true := by kernel_rfl
theorem san_has89 : (Region.ready .any sanOps (lst 89)).contains 89 = true := by kernel_rfl
theorem san_free90 : Region.free .any sanOps (lst 90) 90 = true := by kernel_rfl
theorem san_has90 : (Region.ready .any sanOps (lst 90)).contains 90 = true := by kernel_rfl
theorem san_free91 : Region.free .any sanOps (lst 91) 91 = true := by kernel_rfl
theorem san_has91 : (Region.ready .any sanOps (lst 91)).contains 91 = true := by kernel_rfl
theorem san_ready92 : Region.ready .any sanOps (lst 92) = [92] := by kernel_rfl
theorem san_ready93 : Region.ready .any sanOps (lst 93) = [93] := by kernel_rfl
theorem san_free94 : Region.free .any sanOps (lst 94) 94 = true := by kernel_rfl
theorem san_has94 : (Region.ready .any sanOps (lst 94)).contains 94 = true := by kernel_rfl
theorem san_free95 : Region.free .any sanOps (lst 95) 95 = true := by kernel_rfl
theorem san_has95 : (Region.ready .any sanOps (lst 95)).contains 95 = true := by kernel_rfl
theorem san_free96 : Region.free .any sanOps (lst 96) 96 = true := by kernel_rfl
theorem san_has96 : (Region.ready .any sanOps (lst 96)).contains 96 = true := by kernel_rfl
theorem san_free97 : Region.free .any sanOps (lst 97) 97 = true := by kernel_rfl
theorem san_has97 : (Region.ready .any sanOps (lst 97)).contains 97 = true := by kernel_rfl
theorem san_ready98 : Region.ready .any sanOps (lst 98) = [98] := by kernel_rfl
theorem san_free99 : Region.free .any sanOps (lst 99) 99 = true := by kernel_rfl
theorem san_has99 : (Region.ready .any sanOps (lst 99)).contains 99 = true := by kernel_rfl
theorem san_free100 : Region.free .any sanOps (lst 100) 100 = true := by kernel_rfl
theorem san_has100 : (Region.ready .any sanOps (lst 100)).contains 100 = true := by kernel_rfl
theorem san_free101 : Region.free .any sanOps (lst 101) 101 = true := by kernel_rfl
theorem san_has101 : (Region.ready .any sanOps (lst 101)).contains 101 = true := by kernel_rfl
theorem san_end : Region.ready .any sanOps (lst 102) = [] := by kernel_rfl
theorem cast_act {Q : Exit → Act → World → Prop} {a b : Act} {w : World} (h : b = a) (hq : Q .normal a w) : Q .normal b w := h ▸ hq
section
variable {S : World → Prop} {Q : Exit → Act → World → Prop}
theorem san_start {ops : Array Oper} {a : Act} {w : World} (ho : ops = sanOps) (h : wpAnyH Tryz.prog .any sanOps Q S 102 (lst 0) a w) :
    wpAnyH Tryz.prog .any ops Q S ops.size (Array.replicate ops.size false) a w := by
  subst ho
  rw [san_size, lst_0]
  exact h
theorem san_take {k n d : Nat} {v : Value} {a : Act} {w : World} (h : k < 102) (hf : Region.free .any sanOps (lst k) k = true) (hr : (Region.ready .any sanOps (lst k)).contains k = true) (hd : (sop k).dst = some d)
    (hQ : ∀ c a d v w, Q (.panic c) (Act.put a (some d) v) w → Q (.panic c) a w) (hw : Region.wanted (sop k) (yielded sanOps a.tmps) = true)
    (hy : ∀ w, S w → (execOp a.eval (sop k)).run Tryz.prog w = .ok (.value v) w) (hS : S w) (next : wpAnyH Tryz.prog .any sanOps Q S n (lst (k + 1)) (a.put (some d) v) w) :
    wpAnyH Tryz.prog .any sanOps Q S (n + 1) (lst k) a w := by
  rw [← hd] at next
  refine wpAnyH_take (san_at h) san_sel hf hr (fun _ _ _ h => hQ _ _ d _ _ (by rw [← hd]; exact h)) (.inl ⟨hw, hy⟩) hS ?_
  rw [lst_set h]
  exact next
theorem san_call {k n : Nat} {f : FuncId} {vals : Array Value} {a : Act} {w : World} (h : k < 102) (hr : Region.ready .any sanOps (lst k) = [k]) (hw : Region.wanted (sop k) (yielded sanOps a.tmps) = true)
    (hx : (execOp a.eval (sop k)).run Tryz.prog w = .ok (.enter f vals) w)
    (next : Calls Tryz.prog f vals w fun e w' => ∃ v, e = .returned v ∧ S w' ∧ wpAnyH Tryz.prog .any sanOps Q S n (lst (k + 1)) (a.put (sop k).dst v) w') :
    wpAnyH Tryz.prog .any sanOps Q S (n + 1) (lst k) a w := by
  refine wpAnyH_ready (rs := [k]) hr (by simp) (AllReadyH.cons (san_at h) (fun K hK => ?_) AllReadyH.nil)
  rw [if_pos hw]
  unfold Oper.wp
  rw [hx, Oper.upon_enter]
  refine next.mono ?_
  rintro e w' ⟨v, rfl, hS, hn⟩
  refine hK.out _ _ hS (fun _ => ?_)
  rw [lst_set h]
  exact hn
theorem san_load {o : Oper} {a : Act} {w : World} {G : Nat} {ca cb : Value} {x : Operand} (ho : o.op = .load 26 x) (hx : a.eval x = .pointer (some ⟨G, 0, none⟩))
    (c0 : w.cell? ⟨G, 0, none⟩ = some ca) (c1 : w.cell? ⟨G, 1, none⟩ = some cb) : (execOp a.eval o).run Tryz.prog w = .ok (.value (.agg #[ca, cb])) w := by
  generalize a.eval = r at hx
  unfold execOp
  rw [ho]
  go_simp
theorem san_eqs {o : Oper} {a : Act} {w : World} {s t : ByteArray} {x y : Operand} {u} (ho : o.op = .binOp .eql 9 x y u) (hx : a.eval x = .string s) (hy : a.eval y = .string t) (h : (s.toList == t.toList) = true) :
    (execOp a.eval o).run Tryz.prog w = .ok (.value (.bool true)) w := by
  generalize a.eval = r at hx hy
  unfold execOp
  rw [ho]
  go_simp
end
/-- What the region leans on: what the calls give, what the loads read. -/
structure SanHyp (S : World → Prop) (Q : Exit → Act → World → Prop) (T : ByteArray) (G : Nat) (ca cb : Value) (V : World → Value → Prop) : Prop where
  hT : (T.toList == (ByteArray.mk (List.toArray [116, 101, 120, 116, 10, 124, 112, 111, 108, 105, 99, 121, 32, 112, 10, 124, 10, 124, 116, 121, 112, 101, 32, 97, 10, 116, 105, 99, 107, 32, 53, 10, 99, 111, 109, 109, 97, 110, 100, 32, 48, 32, 48, 32, 52, 32, 49, 32, 48, 32, 48, 32, 48, 32, 48, 32, 61, 54, 49, 54, 50, 10, 115, 101, 110, 100, 32, 48, 32, 48, 32, 56, 32, 49, 32, 48, 32, 48, 32, 48, 32, 48, 32, 64, 51, 10])).toList) = true
  hQ : ∀ c a d v w, Q (.panic c) (Act.put a (some d) v) w → Q (.panic c) a w
  cell : ∀ w, S w → w.cell? ⟨G, 0, none⟩ = some ca ∧ w.cell? ⟨G, 1, none⟩ = some cb
  h30 : ∀ w, S w → Calls Tryz.prog 30 #[] w fun e w' => ∃ v, e = .returned v ∧ S w' ∧ V w' v
  h11 : ∀ w v, S w → V w v → Calls Tryz.prog 11 #[.agg #[ca, cb], v] w fun e w' => e = .returned (.bool true) ∧ S w'
  h23 : ∀ w, S w → Calls Tryz.prog 26 #[.int .i64 23] w fun e w' => e = .returned (.string ⟨#[97, 117, 100, 105, 116]⟩) ∧ w = w'
  h24 : ∀ w, S w → Calls Tryz.prog 26 #[.int .i64 24] w fun e w' => e = .returned (.string ⟨#[]⟩) ∧ w = w'
  h28 : ∀ w v, S w → V w v → Calls Tryz.prog 28 #[.agg #[ca, cb], v] w fun e w' => e = .returned (.bool true) ∧ S w'
  h28n : ∀ w, S w → Calls Tryz.prog 28 #[.agg #[ca, cb], .agg #[.slice none 0 0, .slice none 0 0]] w fun e w' => e = .returned (.bool false) ∧ S w'
set_option maxHeartbeats 4000000 in
set_option maxRecDepth 100000 in
theorem san_region {S : World → Prop} {Q : Exit → Act → World → Prop} {T : ByteArray} {G : Nat} {ca cb : Value} {V : World → Value → Prop} {D : List Deferred} (H : SanHyp S Q T G ca cb V) (x0 x6 x9 x18 x19 x23 x27 x28 x29 x30 x31 x32 x33 x34 x35 x36 x37 x38 x39 x40 x41 x42 x43 x44 x45 x46 x47 x48 x49 x50 x51 x52 x53 x54 x55 x56 x57 x58 x59 x60 x61 x62 x63 x64 x65 x66 x67 x68 x69 x70 x71 x72 x73 x74 x75 x76 x77 x78 x79 x80 x81 x82 x83 x84 x85 x86 x87 x88 x89 x90 x91 x92 x93 x94 x95 x96 x97 x98 x99 x100 x101 x102 x103 x104 x105 x106 x107 x108 x109 x110 x111 x112 x113 x114 x115 x116 x117 x118 x119 x120 x121 x122 x123 x124 x125 x126 x127 x128 x129 x130 x131 x132 x133 x134 x135 x136 x137 x138 x139 x140 x141 x142 x143 x144 x145 x146 x147 x148 x149 x150 x151 x152 x153 x154 x155 x156 x157 x158 x159 x160 x161 x162 x163 x164 x165 x166 x167 x168 x169 x170 x171 x172 x173 x174 x175 x176 x177 x178 x179 : Value) (w : World) (hS : S w)
    (next : ∀ w v1 v2, S w → Q .normal ⟨#[.bool true, .string T, .int .i64 0, .pointer (some ⟨G, 0, none⟩), .int .i64 0, .int .i64 0, x6, .int .i64 2, .int .i64 4, x9, .int .i64 1, .int .i64 3, .string ⟨#[97, 98]⟩, .int .i64 (-1), .int .i64 0, .string ⟨#[]⟩, .int .i64 3, .int .i64 0, x18, x19, .int .i64 1, .int .i64 23, .bool true, x23, .bool false, .int .i64 1, .int .i64 1, x27, x28, x29, x30, x31, x32, x33, x34, x35, x36, x37, x38, x39, x40, x41, x42, x43, x44, x45, x46, x47, x48, x49, x50, x51, x52, x53, x54, x55, x56, x57, x58, x59, x60, x61, x62, x63, x64, x65, x66, x67, x68, x69, x70, x71, x72, x73, x74, x75, x76, x77, x78, .string T, .bool true, .bool true, .int .i64 0, .bool true, .bool true, .bool true, .agg #[ca, cb], v1, .bool true, .bool true, .bool true, .int .i64 0, .bool true, .bool true, .bool true, .int .i64 0, .bool true, .bool true, .bool true, .int .i64 2, .bool true, .bool true, .bool true, .int .i64 4, .bool true, .bool true, .bool true, .int .i64 1, .bool true, .bool true, .bool true, .int .i64 3, .bool true, .bool true, .bool true, .string ⟨#[97, 98]⟩, .bool true, .bool true, .bool true, .int .i64 (-1), .bool true, .bool true, .bool true, .int .i64 0, .bool true, .bool true, .bool true, .string ⟨#[]⟩, .bool true, .bool true, .bool true, .int .i64 3, .bool true, .bool true, .bool true, .int .i64 0, .bool true, .bool true, .bool true, .int .i64 1, .bool true, .bool true, .bool true, .int .i64 23, .bool true, .bool true, .bool true, .bool true, .bool true, .bool true, .bool false, .bool true, .bool true, .bool true, .string ⟨#[97, 117, 100, 105, 116]⟩, .bool true, .bool true, .bool true, .string ⟨#[]⟩, .bool true, .bool true, .bool true, .int .i64 1, .bool true, .bool true, .bool true, .int .i64 1, .bool true, .bool true, .bool true, .agg #[ca, cb], v2, .bool true, .bool true, .bool true, .agg #[ca, cb], .agg #[.slice none 0 0, .slice none 0 0], .bool false, .bool true, .bool true], D⟩ w) :
    wpAnyH Tryz.prog .any sanOps Q S 102 (lst 0) ⟨#[x0, .string T, .int .i64 0, .pointer (some ⟨G, 0, none⟩), .int .i64 0, .int .i64 0, x6, .int .i64 2, .int .i64 4, x9, .int .i64 1, .int .i64 3, .string ⟨#[97, 98]⟩, .int .i64 (-1), .int .i64 0, .string ⟨#[]⟩, .int .i64 3, .int .i64 0, x18, x19, .int .i64 1, .int .i64 23, .bool true, x23, .bool false, .int .i64 1, .int .i64 1, x27, x28, x29, x30, x31, x32, x33, x34, x35, x36, x37, x38, x39, x40, x41, x42, x43, x44, x45, x46, x47, x48, x49, x50, x51, x52, x53, x54, x55, x56, x57, x58, x59, x60, x61, x62, x63, x64, x65, x66, x67, x68, x69, x70, x71, x72, x73, x74, x75, x76, x77, x78, x79, x80, x81, x82, x83, x84, x85, x86, x87, x88, x89, x90, x91, x92, x93, x94, x95, x96, x97, x98, x99, x100, x101, x102, x103, x104, x105, x106, x107, x108, x109, x110, x111, x112, x113, x114, x115, x116, x117, x118, x119, x120, x121, x122, x123, x124, x125, x126, x127, x128, x129, x130, x131, x132, x133, x134, x135, x136, x137, x138, x139, x140, x141, x142, x143, x144, x145, x146, x147, x148, x149, x150, x151, x152, x153, x154, x155, x156, x157, x158, x159, x160, x161, x162, x163, x164, x165, x166, x167, x168, x169, x170, x171, x172, x173, x174, x175, x176, x177, x178, x179], D⟩ w := by
  refine san_take (k := 0) (v := .string T) (by decide) san_free0 san_has0 (d := 79) (by kernel_rfl) H.hQ (by kernel_rfl) (fun _ _ => by kernel_rfl) hS ?_
  refine san_take (k := 1) (v := .bool true) (by decide) san_free1 san_has1 (d := 80) (by kernel_rfl) H.hQ (by kernel_rfl) (fun _ _ => san_eqs (x := .tmp 79) (y := .const (.string (ByteArray.mk (List.toArray [116, 101, 120, 116, 10, 124, 112, 111, 108, 105, 99, 121, 32, 112, 10, 124, 10, 124, 116, 121, 112, 101, 32, 97, 10, 116, 105, 99, 107, 32, 53, 10, 99, 111, 109, 109, 97, 110, 100, 32, 48, 32, 48, 32, 52, 32, 49, 32, 48, 32, 48, 32, 48, 32, 48, 32, 61, 54, 49, 54, 50, 10, 115, 101, 110, 100, 32, 48, 32, 48, 32, 56, 32, 49, 32, 48, 32, 48, 32, 48, 32, 48, 32, 64, 51, 10])))) (u := 9) (by kernel_rfl) (by kernel_rfl) (by kernel_rfl) H.hT) hS ?_
  refine san_take (k := 2) (v := .bool true) (by decide) san_free2 san_has2 (d := 81) (by kernel_rfl) H.hQ (by kernel_rfl) (fun _ _ => by kernel_rfl) hS ?_
  refine san_take (k := 3) (v := .int .i64 0) (by decide) san_free3 san_has3 (d := 82) (by kernel_rfl) H.hQ (by kernel_rfl) (fun _ _ => by kernel_rfl) hS ?_
  refine san_take (k := 4) (v := .bool true) (by decide) san_free4 san_has4 (d := 83) (by kernel_rfl) H.hQ (by kernel_rfl) (fun _ _ => by kernel_rfl) hS ?_
  refine san_take (k := 5) (v := .bool true) (by decide) san_free5 san_has5 (d := 84) (by kernel_rfl) H.hQ (by kernel_rfl) (fun _ _ => by kernel_rfl) hS ?_
  refine san_take (k := 6) (v := .bool true) (by decide) san_free6 san_has6 (d := 85) (by kernel_rfl) H.hQ (by kernel_rfl) (fun _ _ => by kernel_rfl) hS ?_
  refine san_take (k := 7) (v := .agg #[ca, cb]) (by decide) san_free7 san_has7 (d := 86) (by kernel_rfl) H.hQ (by kernel_rfl) (fun w hw => san_load (x := .tmp 3) (by kernel_rfl) (by kernel_rfl) (H.cell w hw).1 (H.cell w hw).2) hS ?_
  refine san_call (k := 8) (f := 30) (vals := #[]) (by decide) san_ready8 (by kernel_rfl) (by kernel_rfl) ((H.h30 _ hS).mono ?_)
  rintro e w' ⟨v1, rfl, hS, hV⟩
  refine ⟨_, rfl, hS, ?_⟩
  refine san_call (k := 9) (f := 11) (vals := #[.agg #[ca, cb], v1]) (by decide) san_ready9 (by kernel_rfl) (by kernel_rfl) ((H.h11 _ _ hS hV).mono ?_)
  rintro e w' ⟨rfl, hS⟩
  refine ⟨_, rfl, hS, ?_⟩
  refine san_take (k := 10) (v := .bool true) (by decide) san_free10 san_has10 (d := 89) (by kernel_rfl) H.hQ (by kernel_rfl) (fun _ _ => by kernel_rfl) hS ?_
  refine san_take (k := 11) (v := .bool true) (by decide) san_free11 san_has11 (d := 90) (by kernel_rfl) H.hQ (by kernel_rfl) (fun _ _ => by kernel_rfl) hS ?_
  refine san_take (k := 12) (v := .int .i64 0) (by decide) san_free12 san_has12 (d := 91) (by kernel_rfl) H.hQ (by kernel_rfl) (fun _ _ => by kernel_rfl) hS ?_
  refine san_take (k := 13) (v := .bool true) (by decide) san_free13 san_has13 (d := 92) (by kernel_rfl) H.hQ (by kernel_rfl) (fun _ _ => by kernel_rfl) hS ?_
  refine san_take (k := 14) (v := .bool true) (by decide) san_free14 san_has14 (d := 93) (by kernel_rfl) H.hQ (by kernel_rfl) (fun _ _ => by kernel_rfl) hS ?_
  refine san_take (k := 15) (v := .bool true) (by decide) san_free15 san_has15 (d := 94) (by kernel_rfl) H.hQ (by kernel_rfl) (fun _ _ => by kernel_rfl) hS ?_
  refine san_take (k := 16) (v := .int .i64 0) (by decide) san_free16 san_has16 (d := 95) (by kernel_rfl) H.hQ (by kernel_rfl) (fun _ _ => by kernel_rfl) hS ?_
  refine san_take (k := 17) (v := .bool true) (by decide) san_free17 san_has17 (d := 96) (by kernel_rfl) H.hQ (by kernel_rfl) (fun _ _ => by kernel_rfl) hS ?_
  refine san_take (k := 18) (v := .bool true) (by decide) san_free18 san_has18 (d := 97) (by kernel_rfl) H.hQ (by kernel_rfl) (fun _ _ => by kernel_rfl) hS ?_
  refine san_take (k := 19) (v := .bool true) (by decide) san_free19 san_has19 (d := 98) (by kernel_rfl) H.hQ (by kernel_rfl) (fun _ _ => by kernel_rfl) hS ?_
  refine san_take (k := 20) (v := .int .i64 2) (by decide) san_free20 san_has20 (d := 99) (by kernel_rfl) H.hQ (by kernel_rfl) (fun _ _ => by kernel_rfl) hS ?_
  refine san_take (k := 21) (v := .bool true) (by decide) san_free21 san_has21 (d := 100) (by kernel_rfl) H.hQ (by kernel_rfl) (fun _ _ => by kernel_rfl) hS ?_
  refine san_take (k := 22) (v := .bool true) (by decide) san_free22 san_has22 (d := 101) (by kernel_rfl) H.hQ (by kernel_rfl) (fun _ _ => by kernel_rfl) hS ?_
  refine san_take (k := 23) (v := .bool true) (by decide) san_free23 san_has23 (d := 102) (by kernel_rfl) H.hQ (by kernel_rfl) (fun _ _ => by kernel_rfl) hS ?_
  refine san_take (k := 24) (v := .int .i64 4) (by decide) san_free24 san_has24 (d := 103) (by kernel_rfl) H.hQ (by kernel_rfl) (fun _ _ => by kernel_rfl) hS ?_
  refine san_take (k := 25) (v := .bool true) (by decide) san_free25 san_has25 (d := 104) (by kernel_rfl) H.hQ (by kernel_rfl) (fun _ _ => by kernel_rfl) hS ?_
  refine san_take (k := 26) (v := .bool true) (by decide) san_free26 san_has26 (d := 105) (by kernel_rfl) H.hQ (by kernel_rfl) (fun _ _ => by kernel_rfl) hS ?_
  refine san_take (k := 27) (v := .bool true) (by decide) san_free27 san_has27 (d := 106) (by kernel_rfl) H.hQ (by kernel_rfl) (fun _ _ => by kernel_rfl) hS ?_
  refine san_take (k := 28) (v := .int .i64 1) (by decide) san_free28 san_has28 (d := 107) (by kernel_rfl) H.hQ (by kernel_rfl) (fun _ _ => by kernel_rfl) hS ?_
  refine san_take (k := 29) (v := .bool true) (by decide) san_free29 san_has29 (d := 108) (by kernel_rfl) H.hQ (by kernel_rfl) (fun _ _ => by kernel_rfl) hS ?_
  refine san_take (k := 30) (v := .bool true) (by decide) san_free30 san_has30 (d := 109) (by kernel_rfl) H.hQ (by kernel_rfl) (fun _ _ => by kernel_rfl) hS ?_
  refine san_take (k := 31) (v := .bool true) (by decide) san_free31 san_has31 (d := 110) (by kernel_rfl) H.hQ (by kernel_rfl) (fun _ _ => by kernel_rfl) hS ?_
  refine san_take (k := 32) (v := .int .i64 3) (by decide) san_free32 san_has32 (d := 111) (by kernel_rfl) H.hQ (by kernel_rfl) (fun _ _ => by kernel_rfl) hS ?_
  refine san_take (k := 33) (v := .bool true) (by decide) san_free33 san_has33 (d := 112) (by kernel_rfl) H.hQ (by kernel_rfl) (fun _ _ => by kernel_rfl) hS ?_
  refine san_take (k := 34) (v := .bool true) (by decide) san_free34 san_has34 (d := 113) (by kernel_rfl) H.hQ (by kernel_rfl) (fun _ _ => by kernel_rfl) hS ?_
  refine san_take (k := 35) (v := .bool true) (by decide) san_free35 san_has35 (d := 114) (by kernel_rfl) H.hQ (by kernel_rfl) (fun _ _ => by kernel_rfl) hS ?_
  refine san_take (k := 36) (v := .string ⟨#[97, 98]⟩) (by decide) san_free36 san_has36 (d := 115) (by kernel_rfl) H.hQ (by kernel_rfl) (fun _ _ => by kernel_rfl) hS ?_
  refine san_take (k := 37) (v := .bool true) (by decide) san_free37 san_has37 (d := 116) (by kernel_rfl) H.hQ (by kernel_rfl) (fun _ _ => by kernel_rfl) hS ?_
  refine san_take (k := 38) (v := .bool true) (by decide) san_free38 san_has38 (d := 117) (by kernel_rfl) H.hQ (by kernel_rfl) (fun _ _ => by kernel_rfl) hS ?_
  refine san_take (k := 39) (v := .bool true) (by decide) san_free39 san_has39 (d := 118) (by kernel_rfl) H.hQ (by kernel_rfl) (fun _ _ => by kernel_rfl) hS ?_
  refine san_take (k := 40) (v := .int .i64 (-1)) (by decide) san_free40 san_has40 (d := 119) (by kernel_rfl) H.hQ (by kernel_rfl) (fun _ _ => by kernel_rfl) hS ?_
  refine san_take (k := 41) (v := .bool true) (by decide) san_free41 san_has41 (d := 120) (by kernel_rfl) H.hQ (by kernel_rfl) (fun _ _ => by kernel_rfl) hS ?_
  refine san_take (k := 42) (v := .bool true) (by decide) san_free42 san_has42 (d := 121) (by kernel_rfl) H.hQ (by kernel_rfl) (fun _ _ => by kernel_rfl) hS ?_
  refine san_take (k := 43) (v := .bool true) (by decide) san_free43 san_has43 (d := 122) (by kernel_rfl) H.hQ (by kernel_rfl) (fun _ _ => by kernel_rfl) hS ?_
  refine san_take (k := 44) (v := .int .i64 0) (by decide) san_free44 san_has44 (d := 123) (by kernel_rfl) H.hQ (by kernel_rfl) (fun _ _ => by kernel_rfl) hS ?_
  refine san_take (k := 45) (v := .bool true) (by decide) san_free45 san_has45 (d := 124) (by kernel_rfl) H.hQ (by kernel_rfl) (fun _ _ => by kernel_rfl) hS ?_
  refine san_take (k := 46) (v := .bool true) (by decide) san_free46 san_has46 (d := 125) (by kernel_rfl) H.hQ (by kernel_rfl) (fun _ _ => by kernel_rfl) hS ?_
  refine san_take (k := 47) (v := .bool true) (by decide) san_free47 san_has47 (d := 126) (by kernel_rfl) H.hQ (by kernel_rfl) (fun _ _ => by kernel_rfl) hS ?_
  refine san_take (k := 48) (v := .string ⟨#[]⟩) (by decide) san_free48 san_has48 (d := 127) (by kernel_rfl) H.hQ (by kernel_rfl) (fun _ _ => by kernel_rfl) hS ?_
  refine san_take (k := 49) (v := .bool true) (by decide) san_free49 san_has49 (d := 128) (by kernel_rfl) H.hQ (by kernel_rfl) (fun _ _ => by kernel_rfl) hS ?_
  refine san_take (k := 50) (v := .bool true) (by decide) san_free50 san_has50 (d := 129) (by kernel_rfl) H.hQ (by kernel_rfl) (fun _ _ => by kernel_rfl) hS ?_
  refine san_take (k := 51) (v := .bool true) (by decide) san_free51 san_has51 (d := 130) (by kernel_rfl) H.hQ (by kernel_rfl) (fun _ _ => by kernel_rfl) hS ?_
  refine san_take (k := 52) (v := .int .i64 3) (by decide) san_free52 san_has52 (d := 131) (by kernel_rfl) H.hQ (by kernel_rfl) (fun _ _ => by kernel_rfl) hS ?_
  refine san_take (k := 53) (v := .bool true) (by decide) san_free53 san_has53 (d := 132) (by kernel_rfl) H.hQ (by kernel_rfl) (fun _ _ => by kernel_rfl) hS ?_
  refine san_take (k := 54) (v := .bool true) (by decide) san_free54 san_has54 (d := 133) (by kernel_rfl) H.hQ (by kernel_rfl) (fun _ _ => by kernel_rfl) hS ?_
  refine san_take (k := 55) (v := .bool true) (by decide) san_free55 san_has55 (d := 134) (by kernel_rfl) H.hQ (by kernel_rfl) (fun _ _ => by kernel_rfl) hS ?_
  refine san_take (k := 56) (v := .int .i64 0) (by decide) san_free56 san_has56 (d := 135) (by kernel_rfl) H.hQ (by kernel_rfl) (fun _ _ => by kernel_rfl) hS ?_
  refine san_take (k := 57) (v := .bool true) (by decide) san_free57 san_has57 (d := 136) (by kernel_rfl) H.hQ (by kernel_rfl) (fun _ _ => by kernel_rfl) hS ?_
  refine san_take (k := 58) (v := .bool true) (by decide) san_free58 san_has58 (d := 137) (by kernel_rfl) H.hQ (by kernel_rfl) (fun _ _ => by kernel_rfl) hS ?_
  refine san_take (k := 59) (v := .bool true) (by decide) san_free59 san_has59 (d := 138) (by kernel_rfl) H.hQ (by kernel_rfl) (fun _ _ => by kernel_rfl) hS ?_
  refine san_take (k := 60) (v := .int .i64 1) (by decide) san_free60 san_has60 (d := 139) (by kernel_rfl) H.hQ (by kernel_rfl) (fun _ _ => by kernel_rfl) hS ?_
  refine san_take (k := 61) (v := .bool true) (by decide) san_free61 san_has61 (d := 140) (by kernel_rfl) H.hQ (by kernel_rfl) (fun _ _ => by kernel_rfl) hS ?_
  refine san_take (k := 62) (v := .bool true) (by decide) san_free62 san_has62 (d := 141) (by kernel_rfl) H.hQ (by kernel_rfl) (fun _ _ => by kernel_rfl) hS ?_
  refine san_take (k := 63) (v := .bool true) (by decide) san_free63 san_has63 (d := 142) (by kernel_rfl) H.hQ (by kernel_rfl) (fun _ _ => by kernel_rfl) hS ?_
  refine san_take (k := 64) (v := .int .i64 23) (by decide) san_free64 san_has64 (d := 143) (by kernel_rfl) H.hQ (by kernel_rfl) (fun _ _ => by kernel_rfl) hS ?_
  refine san_take (k := 65) (v := .bool true) (by decide) san_free65 san_has65 (d := 144) (by kernel_rfl) H.hQ (by kernel_rfl) (fun _ _ => by kernel_rfl) hS ?_
  refine san_take (k := 66) (v := .bool true) (by decide) san_free66 san_has66 (d := 145) (by kernel_rfl) H.hQ (by kernel_rfl) (fun _ _ => by kernel_rfl) hS ?_
  refine san_take (k := 67) (v := .bool true) (by decide) san_free67 san_has67 (d := 146) (by kernel_rfl) H.hQ (by kernel_rfl) (fun _ _ => by kernel_rfl) hS ?_
  refine san_take (k := 68) (v := .bool true) (by decide) san_free68 san_has68 (d := 147) (by kernel_rfl) H.hQ (by kernel_rfl) (fun _ _ => by kernel_rfl) hS ?_
  refine san_take (k := 69) (v := .bool true) (by decide) san_free69 san_has69 (d := 148) (by kernel_rfl) H.hQ (by kernel_rfl) (fun _ _ => by kernel_rfl) hS ?_
  refine san_take (k := 70) (v := .bool true) (by decide) san_free70 san_has70 (d := 149) (by kernel_rfl) H.hQ (by kernel_rfl) (fun _ _ => by kernel_rfl) hS ?_
  refine san_take (k := 71) (v := .bool false) (by decide) san_free71 san_has71 (d := 150) (by kernel_rfl) H.hQ (by kernel_rfl) (fun _ _ => by kernel_rfl) hS ?_
  refine san_take (k := 72) (v := .bool true) (by decide) san_free72 san_has72 (d := 151) (by kernel_rfl) H.hQ (by kernel_rfl) (fun _ _ => by kernel_rfl) hS ?_
  refine san_take (k := 73) (v := .bool true) (by decide) san_free73 san_has73 (d := 152) (by kernel_rfl) H.hQ (by kernel_rfl) (fun _ _ => by kernel_rfl) hS ?_
  refine san_take (k := 74) (v := .bool true) (by decide) san_free74 san_has74 (d := 153) (by kernel_rfl) H.hQ (by kernel_rfl) (fun _ _ => by kernel_rfl) hS ?_
  refine san_call (k := 75) (f := 26) (vals := #[.int .i64 23]) (by decide) san_ready75 (by kernel_rfl) (by kernel_rfl) ((H.h23 _ hS).mono ?_)
  rintro e w' ⟨rfl, rfl⟩
  refine ⟨_, rfl, hS, ?_⟩
  refine san_take (k := 76) (v := .bool true) (by decide) san_free76 san_has76 (d := 155) (by kernel_rfl) H.hQ (by kernel_rfl) (fun _ _ => by kernel_rfl) hS ?_
  refine san_take (k := 77) (v := .bool true) (by decide) san_free77 san_has77 (d := 156) (by kernel_rfl) H.hQ (by kernel_rfl) (fun _ _ => by kernel_rfl) hS ?_
  refine san_take (k := 78) (v := .bool true) (by decide) san_free78 san_has78 (d := 157) (by kernel_rfl) H.hQ (by kernel_rfl) (fun _ _ => by kernel_rfl) hS ?_
  refine san_call (k := 79) (f := 26) (vals := #[.int .i64 24]) (by decide) san_ready79 (by kernel_rfl) (by kernel_rfl) ((H.h24 _ hS).mono ?_)
  rintro e w' ⟨rfl, rfl⟩
  refine ⟨_, rfl, hS, ?_⟩
  refine san_take (k := 80) (v := .bool true) (by decide) san_free80 san_has80 (d := 159) (by kernel_rfl) H.hQ (by kernel_rfl) (fun _ _ => by kernel_rfl) hS ?_
  refine san_take (k := 81) (v := .bool true) (by decide) san_free81 san_has81 (d := 160) (by kernel_rfl) H.hQ (by kernel_rfl) (fun _ _ => by kernel_rfl) hS ?_
  refine san_take (k := 82) (v := .bool true) (by decide) san_free82 san_has82 (d := 161) (by kernel_rfl) H.hQ (by kernel_rfl) (fun _ _ => by kernel_rfl) hS ?_
  refine san_take (k := 83) (v := .int .i64 1) (by decide) san_free83 san_has83 (d := 162) (by kernel_rfl) H.hQ (by kernel_rfl) (fun _ _ => by kernel_rfl) hS ?_
  refine san_take (k := 84) (v := .bool true) (by decide) san_free84 san_has84 (d := 163) (by kernel_rfl) H.hQ (by kernel_rfl) (fun _ _ => by kernel_rfl) hS ?_
  refine san_take (k := 85) (v := .bool true) (by decide) san_free85 san_has85 (d := 164) (by kernel_rfl) H.hQ (by kernel_rfl) (fun _ _ => by kernel_rfl) hS ?_
  refine san_take (k := 86) (v := .bool true) (by decide) san_free86 san_has86 (d := 165) (by kernel_rfl) H.hQ (by kernel_rfl) (fun _ _ => by kernel_rfl) hS ?_
  refine san_take (k := 87) (v := .int .i64 1) (by decide) san_free87 san_has87 (d := 166) (by kernel_rfl) H.hQ (by kernel_rfl) (fun _ _ => by kernel_rfl) hS ?_
  refine san_take (k := 88) (v := .bool true) (by decide) san_free88 san_has88 (d := 167) (by kernel_rfl) H.hQ (by kernel_rfl) (fun _ _ => by kernel_rfl) hS ?_
  refine san_take (k := 89) (v := .bool true) (by decide) san_free89 san_has89 (d := 168) (by kernel_rfl) H.hQ (by kernel_rfl) (fun _ _ => by kernel_rfl) hS ?_
  refine san_take (k := 90) (v := .bool true) (by decide) san_free90 san_has90 (d := 169) (by kernel_rfl) H.hQ (by kernel_rfl) (fun _ _ => by kernel_rfl) hS ?_
  refine san_take (k := 91) (v := .agg #[ca, cb]) (by decide) san_free91 san_has91 (d := 170) (by kernel_rfl) H.hQ (by kernel_rfl) (fun w hw => san_load (x := .tmp 3) (by kernel_rfl) (by kernel_rfl) (H.cell w hw).1 (H.cell w hw).2) hS ?_
  refine san_call (k := 92) (f := 30) (vals := #[]) (by decide) san_ready92 (by kernel_rfl) (by kernel_rfl) ((H.h30 _ hS).mono ?_)
  rintro e w' ⟨v2, rfl, hS, hV⟩
  refine ⟨_, rfl, hS, ?_⟩
  refine san_call (k := 93) (f := 28) (vals := #[.agg #[ca, cb], v2]) (by decide) san_ready93 (by kernel_rfl) (by kernel_rfl) ((H.h28 _ _ hS hV).mono ?_)
  rintro e w' ⟨rfl, hS⟩
  refine ⟨_, rfl, hS, ?_⟩
  refine san_take (k := 94) (v := .bool true) (by decide) san_free94 san_has94 (d := 173) (by kernel_rfl) H.hQ (by kernel_rfl) (fun _ _ => by kernel_rfl) hS ?_
  refine san_take (k := 95) (v := .bool true) (by decide) san_free95 san_has95 (d := 174) (by kernel_rfl) H.hQ (by kernel_rfl) (fun _ _ => by kernel_rfl) hS ?_
  refine san_take (k := 96) (v := .agg #[ca, cb]) (by decide) san_free96 san_has96 (d := 175) (by kernel_rfl) H.hQ (by kernel_rfl) (fun w hw => san_load (x := .tmp 3) (by kernel_rfl) (by kernel_rfl) (H.cell w hw).1 (H.cell w hw).2) hS ?_
  refine san_take (k := 97) (v := .agg #[.slice none 0 0, .slice none 0 0]) (by decide) san_free97 san_has97 (d := 176) (by kernel_rfl) H.hQ (by kernel_rfl) (fun _ _ => by kernel_rfl) hS ?_
  refine san_call (k := 98) (f := 28) (vals := #[.agg #[ca, cb], .agg #[.slice none 0 0, .slice none 0 0]]) (by decide) san_ready98 (by kernel_rfl) (by kernel_rfl) ((H.h28n _ hS).mono ?_)
  rintro e w' ⟨rfl, hS⟩
  refine ⟨_, rfl, hS, ?_⟩
  refine san_take (k := 99) (v := .bool true) (by decide) san_free99 san_has99 (d := 178) (by kernel_rfl) H.hQ (by kernel_rfl) (fun _ _ => by kernel_rfl) hS ?_
  refine san_take (k := 100) (v := .bool true) (by decide) san_free100 san_has100 (d := 179) (by kernel_rfl) H.hQ (by kernel_rfl) (fun _ _ => by kernel_rfl) hS ?_
  refine san_take (k := 101) (v := .bool true) (by decide) san_free101 san_has101 (d := 0) (by kernel_rfl) H.hQ (by kernel_rfl) (fun _ _ => by kernel_rfl) hS ?_
  refine wpAnyH_done san_end ?_ _
  exact cast_act (by kernel_rfl) (next _ v1 v2 hS)
end Go.Proofs.YtecdkgiandbkeaaGreatDoor
