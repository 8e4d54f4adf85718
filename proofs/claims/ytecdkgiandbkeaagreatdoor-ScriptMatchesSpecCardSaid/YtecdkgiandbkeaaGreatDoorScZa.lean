/-
  The law on what is specified: its last statement, a region that draws its order, one operation after the other.
-/
import Derived.Test.YtecdkgiandbkeaaGreatDoorScRa
namespace Go.Proofs.YtecdkgiandbkeaaGreatDoor
open Go.RowKit

noncomputable def mat_ops : Array Oper := (Tryz.f5.body.bind (regionOf 11)).getD #[]
noncomputable def mat_op (k : Nat) : Oper := mat_ops.getD k default
theorem mat_size : mat_ops.size = 63 := by kernel_rfl
theorem mat_at {k : Nat} (h : k < 63) : mat_ops[k]? = some (mat_op k) := by
  have h' : k < mat_ops.size := by rw [mat_size]; exact h
  unfold mat_op
  rw [Array.getD_eq_getD_getElem?, Array.getElem?_eq_getElem h']; rfl
theorem mat_sel : Region.noSelect mat_ops = true := by kernel_rfl
def mat_l0 : Array Bool := #[false, false, false, false, false, false, false, false, false, false, false, false, false, false, false, false, false, false, false, false, false, false, false, false, false, false, false, false, false, false, false, false, false, false, false, false, false, false, false, false, false, false, false, false, false, false, false, false, false, false, false, false, false, false, false, false, false, false, false, false, false, false, false]
def mat_l1 : Array Bool := #[true, false, false, false, false, false, false, false, false, false, false, false, false, false, false, false, false, false, false, false, false, false, false, false, false, false, false, false, false, false, false, false, false, false, false, false, false, false, false, false, false, false, false, false, false, false, false, false, false, false, false, false, false, false, false, false, false, false, false, false, false, false, false]
def mat_l2 : Array Bool := #[true, true, false, false, false, false, false, false, false, false, false, false, false, false, false, false, false, false, false, false, false, false, false, false, false, false, false, false, false, false, false, false, false, false, false, false, false, false, false, false, false, false, false, false, false, false, false, false, false, false, false, false, false, false, false, false, false, false, false, false, false, false, false]
def mat_l3 : Array Bool := #[true, true, true, false, false, false, false, false, false, false, false, false, false, false, false, false, false, false, false, false, false, false, false, false, false, false, false, false, false, false, false, false, false, false, false, false, false, false, false, false, false, false, false, false, false, false, false, false, false, false, false, false, false, false, false, false, false, false, false, false, false, false, false]
def mat_l4 : Array Bool := #[true, true, true, false, true, false, false, false, false, false, false, false, false, false, false, false, false, false, false, false, false, false, false, false, false, false, false, false, false, false, false, false, false, false, false, false, false, false, false, false, false, false, false, false, false, false, false, false, false, false, false, false, false, false, false, false, false, false, false, false, false, false, false]
def mat_l5 : Array Bool := #[true, true, true, true, true, false, false, false, false, false, false, false, false, false, false, false, false, false, false, false, false, false, false, false, false, false, false, false, false, false, false, false, false, false, false, false, false, false, false, false, false, false, false, false, false, false, false, false, false, false, false, false, false, false, false, false, false, false, false, false, false, false, false]
def mat_l6 : Array Bool := #[true, true, true, true, true, true, false, false, false, false, false, false, false, false, false, false, false, false, false, false, false, false, false, false, false, false, false, false, false, false, false, false, false, false, false, false, false, false, false, false, false, false, false, false, false, false, false, false, false, false, false, false, false, false, false, false, false, false, false, false, false, false, false]
def mat_l7 : Array Bool := #[true, true, true, true, true, true, true, false, false, false, false, false, false, false, false, false, false, false, false, false, false, false, false, false, false, false, false, false, false, false, false, false, false, false, false, false, false, false, false, false, false, false, false, false, false, false, false, false, false, false, false, false, false, false, false, false, false, false, false, false, false, false, false]
def mat_l8 : Array Bool := #[true, true, true, true, true, true, true, true, false, false, false, false, false, false, false, false, false, false, false, false, false, false, false, false, false, false, false, false, false, false, false, false, false, false, false, false, false, false, false, false, false, false, false, false, false, false, false, false, false, false, false, false, false, false, false, false, false, false, false, false, false, false, false]
def mat_l9 : Array Bool := #[true, true, true, true, true, true, true, true, true, false, false, false, false, false, false, false, false, false, false, false, false, false, false, false, false, false, false, false, false, false, false, false, false, false, false, false, false, false, false, false, false, false, false, false, false, false, false, false, false, false, false, false, false, false, false, false, false, false, false, false, false, false, false]
def mat_l10 : Array Bool := #[true, true, true, true, true, true, true, true, true, true, false, false, false, false, false, false, false, false, false, false, false, false, false, false, false, false, false, false, false, false, false, false, false, false, false, false, false, false, false, false, false, false, false, false, false, false, false, false, false, false, false, false, false, false, false, false, false, false, false, false, false, false, false]
def mat_l11 : Array Bool := #[true, true, true, true, true, true, true, true, true, true, true, false, false, false, false, false, false, false, false, false, false, false, false, false, false, false, false, false, false, false, false, false, false, false, false, false, false, false, false, false, false, false, false, false, false, false, false, false, false, false, false, false, false, false, false, false, false, false, false, false, false, false, false]
def mat_l12 : Array Bool := #[true, true, true, true, true, true, true, true, true, true, true, true, false, false, false, false, false, false, false, false, false, false, false, false, false, false, false, false, false, false, false, false, false, false, false, false, false, false, false, false, false, false, false, false, false, false, false, false, false, false, false, false, false, false, false, false, false, false, false, false, false, false, false]
def mat_l13 : Array Bool := #[true, true, true, true, true, true, true, true, true, true, true, true, true, false, false, false, false, false, false, false, false, false, false, false, false, false, false, false, false, false, false, false, false, false, false, false, false, false, false, false, false, false, false, false, false, false, false, false, false, false, false, false, false, false, false, false, false, false, false, false, false, false, false]
def mat_l14 : Array Bool := #[true, true, true, true, true, true, true, true, true, true, true, true, true, true, false, false, false, false, false, false, false, false, false, false, false, false, false, false, false, false, false, false, false, false, false, false, false, false, false, false, false, false, false, false, false, false, false, false, false, false, false, false, false, false, false, false, false, false, false, false, false, false, false]
def mat_l15 : Array Bool := #[true, true, true, true, true, true, true, true, true, true, true, true, true, true, true, false, false, false, false, false, false, false, false, false, false, false, false, false, false, false, false, false, false, false, false, false, false, false, false, false, false, false, false, false, false, false, false, false, false, false, false, false, false, false, false, false, false, false, false, false, false, false, false]
def mat_l16 : Array Bool := #[true, true, true, true, true, true, true, true, true, true, true, true, true, true, true, true, false, false, false, false, false, false, false, false, false, false, false, false, false, false, false, false, false, false, false, false, false, false, false, false, false, false, false, false, false, false, false, false, false, false, false, false, false, false, false, false, false, false, false, false, false, false, false]
def mat_l17 : Array Bool := #[true, true, true, true, true, true, true, true, true, true, true, true, true, true, true, true, true, false, false, false, false, false, false, false, false, false, false, false, false, false, false, false, false, false, false, false, false, false, false, false, false, false, false, false, false, false, false, false, false, false, false, false, false, false, false, false, false, false, false, false, false, false, false]
def mat_l18 : Array Bool := #[true, true, true, true, true, true, true, true, true, true, true, true, true, true, true, true, true, true, false, false, false, false, false, false, false, false, false, false, false, false, false, false, false, false, false, false, false, false, false, false, false, false, false, false, false, false, false, false, false, false, false, false, false, false, false, false, false, false, false, false, false, false, false]
def mat_l19 : Array Bool := #[true, true, true, true, true, true, true, true, true, true, true, true, true, true, true, true, true, true, true, false, false, false, false, false, false, false, false, false, false, false, false, false, false, false, false, false, false, false, false, false, false, false, false, false, false, false, false, false, false, false, false, false, false, false, false, false, false, false, false, false, false, false, false]
def mat_l20 : Array Bool := #[true, true, true, true, true, true, true, true, true, true, true, true, true, true, true, true, true, true, true, true, false, false, false, false, false, false, false, false, false, false, false, false, false, false, false, false, false, false, false, false, false, false, false, false, false, false, false, false, false, false, false, false, false, false, false, false, false, false, false, false, false, false, false]
def mat_l21 : Array Bool := #[true, true, true, true, true, true, true, true, true, true, true, true, true, true, true, true, true, true, true, true, true, false, false, false, false, false, false, false, false, false, false, false, false, false, false, false, false, false, false, false, false, false, false, false, false, false, false, false, false, false, false, false, false, false, false, false, false, false, false, false, false, false, false]
def mat_l22 : Array Bool := #[true, true, true, true, true, true, true, true, true, true, true, true, true, true, true, true, true, true, true, true, true, true, false, false, false, false, false, false, false, false, false, false, false, false, false, false, false, false, false, false, false, false, false, false, false, false, false, false, false, false, false, false, false, false, false, false, false, false, false, false, false, false, false]
def mat_l23 : Array Bool := #[true, true, true, true, true, true, true, true, true, true, true, true, true, true, true, true, true, true, true, true, true, true, true, false, false, false, false, false, false, false, false, false, false, false, false, false, false, false, false, false, false, false, false, false, false, false, false, false, false, false, false, false, false, false, false, false, false, false, false, false, false, false, false]
def mat_l24 : Array Bool := #[true, true, true, true, true, true, true, true, true, true, true, true, true, true, true, true, true, true, true, true, true, true, true, true, false, false, false, false, false, false, false, false, false, false, false, false, false, false, false, false, false, false, false, false, false, false, false, false, false, false, false, false, false, false, false, false, false, false, false, false, false, false, false]
def mat_l25 : Array Bool := #[true, true, true, true, true, true, true, true, true, true, true, true, true, true, true, true, true, true, true, true, true, true, true, true, true, false, false, false, false, false, false, false, false, false, false, false, false, false, false, false, false, false, false, false, false, false, false, false, false, false, false, false, false, false, false, false, false, false, false, false, false, false, false]
def mat_l26 : Array Bool := #[true, true, true, true, true, true, true, true, true, true, true, true, true, true, true, true, true, true, true, true, true, true, true, true, true, true, false, false, false, false, false, false, false, false, false, false, false, false, false, false, false, false, false, false, false, false, false, false, false, false, false, false, false, false, false, false, false, false, false, false, false, false, false]
def mat_l27 : Array Bool := #[true, true, true, true, true, true, true, true, true, true, true, true, true, true, true, true, true, true, true, true, true, true, true, true, true, true, true, false, false, false, false, false, false, false, false, false, false, false, false, false, false, false, false, false, false, false, false, false, false, false, false, false, false, false, false, false, false, false, false, false, false, false, false]
def mat_l28 : Array Bool := #[true, true, true, true, true, true, true, true, true, true, true, true, true, true, true, true, true, true, true, true, true, true, true, true, true, true, true, true, false, false, false, false, false, false, false, false, false, false, false, false, false, false, false, false, false, false, false, false, false, false, false, false, false, false, false, false, false, false, false, false, false, false, false]
def mat_l29 : Array Bool := #[true, true, true, true, true, true, true, true, true, true, true, true, true, true, true, true, true, true, true, true, true, true, true, true, true, true, true, true, true, false, false, false, false, false, false, false, false, false, false, false, false, false, false, false, false, false, false, false, false, false, false, false, false, false, false, false, false, false, false, false, false, false, false]
def mat_l30 : Array Bool := #[true, true, true, true, true, true, true, true, true, true, true, true, true, true, true, true, true, true, true, true, true, true, true, true, true, true, true, true, true, true, false, false, false, false, false, false, false, false, false, false, false, false, false, false, false, false, false, false, false, false, false, false, false, false, false, false, false, false, false, false, false, false, false]
def mat_l31 : Array Bool := #[true, true, true, true, true, true, true, true, true, true, true, true, true, true, true, true, true, true, true, true, true, true, true, true, true, true, true, true, true, true, true, false, false, false, false, false, false, false, false, false, false, false, false, false, false, false, false, false, false, false, false, false, false, false, false, false, false, false, false, false, false, false, false]
def mat_l32 : Array Bool := #[true, true, true, true, true, true, true, true, true, true, true, true, true, true, true, true, true, true, true, true, true, true, true, true, true, true, true, true, true, true, true, true, false, false, false, false, false, false, false, false, false, false, false, false, false, false, false, false, false, false, false, false, false, false, false, false, false, false, false, false, false, false, false]
def mat_l33 : Array Bool := #[true, true, true, true, true, true, true, true, true, true, true, true, true, true, true, true, true, true, true, true, true, true, true, true, true, true, true, true, true, true, true, true, true, false, false, false, false, false, false, false, false, false, false, false, false, false, false, false, false, false, false, false, false, false, false, false, false, false, false, false, false, false, false]
def mat_l34 : Array Bool := #[true, true, true, true, true, true, true, true, true, true, true, true, true, true, true, true, true, true, true, true, true, true, true, true, true, true, true, true, true, true, true, true, true, true, false, false, false, false, false, false, false, false, false, false, false, false, false, false, false, false, false, false, false, false, false, false, false, false, false, false, false, false, false]
def mat_l35 : Array Bool := #[true, true, true, true, true, true, true, true, true, true, true, true, true, true, true, true, true, true, true, true, true, true, true, true, true, true, true, true, true, true, true, true, true, true, true, false, false, false, false, false, false, false, false, false, false, false, false, false, false, false, false, false, false, false, false, false, false, false, false, false, false, false, false]
def mat_l36 : Array Bool := #[true, true, true, true, true, true, true, true, true, true, true, true, true, true, true, true, true, true, true, true, true, true, true, true, true, true, true, true, true, true, true, true, true, true, true, true, false, false, false, false, false, false, false, false, false, false, false, false, false, false, false, false, false, false, false, false, false, false, false, false, false, false, false]
def mat_l37 : Array Bool := #[true, true, true, true, true, true, true, true, true, true, true, true, true, true, true, true, true, true, true, true, true, true, true, true, true, true, true, true, true, true, true, true, true, true, true, true, true, false, false, false, false, false, false, false, false, false, false, false, false, false, false, false, false, false, false, false, false, false, false, false, false, false, false]
def mat_l38 : Array Bool := #[true, true, true, true, true, true, true, true, true, true, true, true, true, true, true, true, true, true, true, true, true, true, true, true, true, true, true, true, true, true, true, true, true, true, true, true, true, true, false, false, false, false, false, false, false, false, false, false, false, false, false, false, false, false, false, false, false, false, false, false, false, false, false]
def mat_l39 : Array Bool := #[true, true, true, true, true, true, true, true, true, true, true, true, true, true, true, true, true, true, true, true, true, true, true, true, true, true, true, true, true, true, true, true, true, true, true, true, true, true, true, false, false, false, false, false, false, false, false, false, false, false, false, false, false, false, false, false, false, false, false, false, false, false, false]
def mat_l40 : Array Bool := #[true, true, true, true, true, true, true, true, true, true, true, true, true, true, true, true, true, true, true, true, true, true, true, true, true, true, true, true, true, true, true, true, true, true, true, true, true, true, true, true, false, false, false, false, false, false, false, false, false, false, false, false, false, false, false, false, false, false, false, false, false, false, false]
def mat_l41 : Array Bool := #[true, true, true, true, true, true, true, true, true, true, true, true, true, true, true, true, true, true, true, true, true, true, true, true, true, true, true, true, true, true, true, true, true, true, true, true, true, true, true, true, true, false, false, false, false, false, false, false, false, false, false, false, false, false, false, false, false, false, false, false, false, false, false]
def mat_l42 : Array Bool := #[true, true, true, true, true, true, true, true, true, true, true, true, true, true, true, true, true, true, true, true, true, true, true, true, true, true, true, true, true, true, true, true, true, true, true, true, true, true, true, true, true, true, false, false, false, false, false, false, false, false, false, false, false, false, false, false, false, false, false, false, false, false, false]
def mat_l43 : Array Bool := #[true, true, true, true, true, true, true, true, true, true, true, true, true, true, true, true, true, true, true, true, true, true, true, true, true, true, true, true, true, true, true, true, true, true, true, true, true, true, true, true, true, true, true, false, false, false, false, false, false, false, false, false, false, false, false, false, false, false, false, false, false, false, false]
def mat_l44 : Array Bool := #[true, true, true, true, true, true, true, true, true, true, true, true, true, true, true, true, true, true, true, true, true, true, true, true, true, true, true, true, true, true, true, true, true, true, true, true, true, true, true, true, true, true, true, true, false, false, false, false, false, false, false, false, false, false, false, false, false, false, false, false, false, false, false]
def mat_l45 : Array Bool := #[true, true, true, true, true, true, true, true, true, true, true, true, true, true, true, true, true, true, true, true, true, true, true, true, true, true, true, true, true, true, true, true, true, true, true, true, true, true, true, true, true, true, true, true, true, false, false, false, false, false, false, false, false, false, false, false, false, false, false, false, false, false, false]
def mat_l46 : Array Bool := #[true, true, true, true, true, true, true, true, true, true, true, true, true, true, true, true, true, true, true, true, true, true, true, true, true, true, true, true, true, true, true, true, true, true, true, true, true, true, true, true, true, true, true, true, true, true, false, false, false, false, false, false, false, false, false, false, false, false, false, false, false, false, false]
def mat_l47 : Array Bool := #[true, true, true, true, true, true, true, true, true, true, true, true, true, true, true, true, true, true, true, true, true, true, true, true, true, true, true, true, true, true, true, true, true, true, true, true, true, true, true, true, true, true, true, true, true, true, true, false, false, false, false, false, false, false, false, false, false, false, false, false, false, false, false]
def mat_l48 : Array Bool := #[true, true, true, true, true, true, true, true, true, true, true, true, true, true, true, true, true, true, true, true, true, true, true, true, true, true, true, true, true, true, true, true, true, true, true, true, true, true, true, true, true, true, true, true, true, true, true, true, false, false, false, false, false, false, false, false, false, false, false, false, false, false, false]
def mat_l49 : Array Bool := #[true, true, true, true, true, true, true, true, true, true, true, true, true, true, true, true, true, true, true, true, true, true, true, true, true, true, true, true, true, true, true, true, true, true, true, true, true, true, true, true, true, true, true, true, true, true, true, true, true, false, false, false, false, false, false, false, false, false, false, false, false, false, false]
def mat_l50 : Array Bool := #[true, true, true, true, true, true, true, true, true, true, true, true, true, true, true, true, true, true, true, true, true, true, true, true, true, true, true, true, true, true, true, true, true, true, true, true, true, true, true, true, true, true, true, true, true, true, true, true, true, true, false, false, false, false, false, false, false, false, false, false, false, false, false]
def mat_l51 : Array Bool := #[true, true, true, true, true, true, true, true, true, true, true, true, true, true, true, true, true, true, true, true, true, true, true, true, true, true, true, true, true, true, true, true, true, true, true, true, true, true, true, true, true, true, true, true, true, true, true, true, true, true, true, false, false, false, false, false, false, false, false, false, false, false, false]
def mat_l52 : Array Bool := #[true, true, true, true, true, true, true, true, true, true, true, true, true, true, true, true, true, true, true, true, true, true, true, true, true, true, true, true, true, true, true, true, true, true, true, true, true, true, true, true, true, true, true, true, true, true, true, true, true, true, true, true, false, false, false, false, false, false, false, false, false, false, false]
def mat_l53 : Array Bool := #[true, true, true, true, true, true, true, true, true, true, true, true, true, true, true, true, true, true, true, true, true, true, true, true, true, true, true, true, true, true, true, true, true, true, true, true, true, true, true, true, true, true, true, true, true, true, true, true, true, true, true, true, true, false, false, false, false, false, false, false, false, false, false]
def mat_l54 : Array Bool := #[true, true, true, true, true, true, true, true, true, true, true, true, true, true, true, true, true, true, true, true, true, true, true, true, true, true, true, true, true, true, true, true, true, true, true, true, true, true, true, true, true, true, true, true, true, true, true, true, true, true, true, true, true, true, false, false, false, false, false, false, false, false, false]
def mat_l55 : Array Bool := #[true, true, true, true, true, true, true, true, true, true, true, true, true, true, true, true, true, true, true, true, true, true, true, true, true, true, true, true, true, true, true, true, true, true, true, true, true, true, true, true, true, true, true, true, true, true, true, true, true, true, true, true, true, true, true, false, false, false, false, false, false, false, false]
def mat_l56 : Array Bool := #[true, true, true, true, true, true, true, true, true, true, true, true, true, true, true, true, true, true, true, true, true, true, true, true, true, true, true, true, true, true, true, true, true, true, true, true, true, true, true, true, true, true, true, true, true, true, true, true, true, true, true, true, true, true, true, true, false, false, false, false, false, false, false]
def mat_l57 : Array Bool := #[true, true, true, true, true, true, true, true, true, true, true, true, true, true, true, true, true, true, true, true, true, true, true, true, true, true, true, true, true, true, true, true, true, true, true, true, true, true, true, true, true, true, true, true, true, true, true, true, true, true, true, true, true, true, true, true, false, true, false, false, false, false, false]
def mat_l58 : Array Bool := #[true, true, true, true, true, true, true, true, true, true, true, true, true, true, true, true, true, true, true, true, true, true, true, true, true, true, true, true, true, true, true, true, true, true, true, true, true, true, true, true, true, true, true, true, true, true, true, true, true, true, true, true, true, true, true, true, false, true, true, false, false, false, false]
def mat_l59 : Array Bool := #[true, true, true, true, true, true, true, true, true, true, true, true, true, true, true, true, true, true, true, true, true, true, true, true, true, true, true, true, true, true, true, true, true, true, true, true, true, true, true, true, true, true, true, true, true, true, true, true, true, true, true, true, true, true, true, true, true, true, true, false, false, false, false]
def mat_l60 : Array Bool := #[true, true, true, true, true, true, true, true, true, true, true, true, true, true, true, true, true, true, true, true, true, true, true, true, true, true, true, true, true, true, true, true, true, true, true, true, true, true, true, true, true, true, true, true, true, true, true, true, true, true, true, true, true, true, true, true, true, true, true, true, false, false, false]
def mat_l61 : Array Bool := #[true, true, true, true, true, true, true, true, true, true, true, true, true, true, true, true, true, true, true, true, true, true, true, true, true, true, true, true, true, true, true, true, true, true, true, true, true, true, true, true, true, true, true, true, true, true, true, true, true, true, true, true, true, true, true, true, true, true, true, true, true, false, false]
def mat_l62 : Array Bool := #[true, true, true, true, true, true, true, true, true, true, true, true, true, true, true, true, true, true, true, true, true, true, true, true, true, true, true, true, true, true, true, true, true, true, true, true, true, true, true, true, true, true, true, true, true, true, true, true, true, true, true, true, true, true, true, true, true, true, true, true, true, true, false]
def mat_l63 : Array Bool := #[true, true, true, true, true, true, true, true, true, true, true, true, true, true, true, true, true, true, true, true, true, true, true, true, true, true, true, true, true, true, true, true, true, true, true, true, true, true, true, true, true, true, true, true, true, true, true, true, true, true, true, true, true, true, true, true, true, true, true, true, true, true, true]
theorem mat_set0 : mat_l0.setIfInBounds 0 true = mat_l1 := by kernel_rfl
theorem mat_ready0 : Region.ready .any mat_ops mat_l0 = [0] := by kernel_rfl
theorem mat_set1 : mat_l1.setIfInBounds 1 true = mat_l2 := by kernel_rfl
theorem mat_free1 : Region.free .any mat_ops mat_l1 1 = true := by kernel_rfl
theorem mat_has1 : (Region.ready .any mat_ops mat_l1).contains 1 = true := by kernel_rfl
theorem mat_set2 : mat_l2.setIfInBounds 2 true = mat_l3 := by kernel_rfl
theorem mat_free2 : Region.free .any mat_ops mat_l2 2 = true := by kernel_rfl
theorem mat_has2 : (Region.ready .any mat_ops mat_l2).contains 2 = true := by kernel_rfl
theorem mat_set3 : mat_l3.setIfInBounds 4 true = mat_l4 := by kernel_rfl
theorem mat_free3 : Region.free .any mat_ops mat_l3 4 = true := by kernel_rfl
theorem mat_has3 : (Region.ready .any mat_ops mat_l3).contains 4 = true := by kernel_rfl
theorem mat_set4 : mat_l4.setIfInBounds 3 true = mat_l5 := by kernel_rfl
theorem mat_ready4 : Region.ready .any mat_ops mat_l4 = [3] := by kernel_rfl
theorem mat_set5 : mat_l5.setIfInBounds 5 true = mat_l6 := by kernel_rfl
theorem mat_ready5 : Region.ready .any mat_ops mat_l5 = [5] := by kernel_rfl
theorem mat_set6 : mat_l6.setIfInBounds 6 true = mat_l7 := by kernel_rfl
theorem mat_free6 : Region.free .any mat_ops mat_l6 6 = true := by kernel_rfl
theorem mat_has6 : (Region.ready .any mat_ops mat_l6).contains 6 = true := by kernel_rfl
theorem mat_set7 : mat_l7.setIfInBounds 7 true = mat_l8 := by kernel_rfl
theorem mat_free7 : Region.free .any mat_ops mat_l7 7 = true := by kernel_rfl
theorem mat_has7 : (Region.ready .any mat_ops mat_l7).contains 7 = true := by kernel_rfl
theorem mat_set8 : mat_l8.setIfInBounds 8 true = mat_l9 := by kernel_rfl
theorem mat_free8 : Region.free .any mat_ops mat_l8 8 = true := by kernel_rfl
theorem mat_has8 : (Region.ready .any mat_ops mat_l8).contains 8 = true := by kernel_rfl
theorem mat_set9 : mat_l9.setIfInBounds 9 true = mat_l10 := by kernel_rfl
theorem mat_free9 : Region.free .any mat_ops mat_l9 9 = true := by kernel_rfl
theorem mat_has9 : (Region.ready .any mat_ops mat_l9).contains 9 = true := by kernel_rfl
theorem mat_set10 : mat_l10.setIfInBounds 10 true = mat_l11 := by kernel_rfl
theorem mat_free10 : Region.free .any mat_ops mat_l10 10 = true := by kernel_rfl
theorem mat_has10 : (Region.ready .any mat_ops mat_l10).contains 10 = true := by kernel_rfl
theorem mat_set11 : mat_l11.setIfInBounds 11 true = mat_l12 := by kernel_rfl
theorem mat_free11 : Region.free .any mat_ops mat_l11 11 = true := by kernel_rfl
theorem mat_has11 : (Region.ready .any mat_ops mat_l11).contains 11 = true := by kernel_rfl
theorem mat_set12 : mat_l12.setIfInBounds 12 true = mat_l13 := by kernel_rfl
theorem mat_free12 : Region.free .any mat_ops mat_l12 12 = true := by kernel_rfl
theorem mat_has12 : (Region.ready .any mat_ops mat_l12).contains 12 = true := by kernel_rfl
theorem mat_set13 : mat_l13.setIfInBounds 13 true = mat_l14 := by kernel_rfl
theorem mat_free13 : Region.free .any mat_ops mat_l13 13 = true := by kernel_rfl
theorem mat_has13 : (Region.ready .any mat_ops mat_l13).contains 13 = true := by kernel_rfl
theorem mat_set14 : mat_l14.setIfInBounds 14 true = mat_l15 := by kernel_rfl
theorem mat_free14 : Region.free .any mat_ops mat_l14 14 = true := by kernel_rfl
theorem mat_has14 : (Region.ready .any mat_ops mat_l14).contains 14 = true := by kernel_rfl
theorem mat_set15 : mat_l15.setIfInBounds 15 true = mat_l16 := by kernel_rfl
theorem mat_free15 : Region.free .any mat_ops mat_l15 15 = true := by kernel_rfl
theorem mat_has15 : (Region.ready .any mat_ops mat_l15).contains 15 = true := by kernel_rfl
theorem mat_set16 : mat_l16.setIfInBounds 16 true = mat_l17 := by kernel_rfl
theorem mat_free16 : Region.free .any mat_ops mat_l16 16 = true := by kernel_rfl
theorem mat_has16 : (Region.ready .any mat_ops mat_l16).contains 16 = true := by kernel_rfl
theorem mat_set17 : mat_l17.setIfInBounds 17 true = mat_l18 := by kernel_rfl
theorem mat_free17 : Region.free .any mat_ops mat_l17 17 = true := by kernel_rfl
theorem mat_has17 : (Region.ready .any mat_ops mat_l17).contains 17 = true := by kernel_rfl
theorem mat_set18 : mat_l18.setIfInBounds 18 true = mat_l19 := by kernel_rfl
theorem mat_free18 : Region.free .any mat_ops mat_l18 18 = true := by kernel_rfl
theorem mat_has18 : (Region.ready .any mat_ops mat_l18).contains 18 = true := by kernel_rfl
theorem mat_set19 : mat_l19.setIfInBounds 19 true = mat_l20 := by kernel_rfl
theorem mat_free19 : Region.free .any mat_ops mat_l19 19 = true := by kernel_rfl
theorem mat_has19 : (Region.ready .any mat_ops mat_l19).contains 19 = true := by kernel_rfl
theorem mat_set20 : mat_l20.setIfInBounds 20 true = mat_l21 := by kernel_rfl
theorem mat_free20 : Region.free .any mat_ops mat_l20 20 = true := by kernel_rfl
theorem mat_has20 : (Region.ready .any mat_ops mat_l20).contains 20 = true := by kernel_rfl
theorem mat_set21 : mat_l21.setIfInBounds 21 true = mat_l22 := by kernel_rfl
theorem mat_free21 : Region.free .any mat_ops mat_l21 21 = true := by kernel_rfl
theorem mat_has21 : (Region.ready .any mat_ops mat_l21).contains 21 = true := by kernel_rfl
theorem mat_set22 : mat_l22.setIfInBounds 22 true = mat_l23 := by kernel_rfl
theorem mat_free22 : Region.free .any mat_ops mat_l22 22 = true := by kernel_rfl
theorem mat_has22 : (Region.ready .any mat_ops mat_l22).contains 22 = true := by kernel_rfl
theorem mat_set23 : mat_l23.setIfInBounds 23 true = mat_l24 := by kernel_rfl
theorem mat_free23 : Region.free .any mat_ops mat_l23 23 = true := by kernel_rfl
theorem mat_has23 : (Region.ready .any mat_ops mat_l23).contains 23 = true := by kernel_rfl
theorem mat_set24 : mat_l24.setIfInBounds 24 true = mat_l25 := by kernel_rfl
theorem mat_free24 : Region.free .any mat_ops mat_l24 24 = true := by kernel_rfl
theorem mat_has24 : (Region.ready .any mat_ops mat_l24).contains 24 = true := by kernel_rfl
theorem mat_set25 : mat_l25.setIfInBounds 25 true = mat_l26 := by kernel_rfl
theorem mat_free25 : Region.free .any mat_ops mat_l25 25 = true := by kernel_rfl
theorem mat_has25 : (Region.ready .any mat_ops mat_l25).contains 25 = true := by kernel_rfl
theorem mat_set26 : mat_l26.setIfInBounds 26 true = mat_l27 := by kernel_rfl
theorem mat_free26 : Region.free .any mat_ops mat_l26 26 = true := by kernel_rfl
theorem mat_has26 : (Region.ready .any mat_ops mat_l26).contains 26 = true := by kernel_rfl
theorem mat_set27 : mat_l27.setIfInBounds 27 true = mat_l28 := by kernel_rfl
theorem mat_free27 : Region.free .any mat_ops mat_l27 27 = true := by kernel_rfl
theorem mat_has27 : (Region.ready .any mat_ops mat_l27).contains 27 = true := by kernel_rfl
theorem mat_set28 : mat_l28.setIfInBounds 28 true = mat_l29 := by kernel_rfl
theorem mat_free28 : Region.free .any mat_ops mat_l28 28 = true := by kernel_rfl
theorem mat_has28 : (Region.ready .any mat_ops mat_l28).contains 28 = true := by kernel_rfl
theorem mat_set29 : mat_l29.setIfInBounds 29 true = mat_l30 := by kernel_rfl
theorem mat_free29 : Region.free .any mat_ops mat_l29 29 = true := by kernel_rfl
theorem mat_has29 : (Region.ready .any mat_ops mat_l29).contains 29 = true := by kernel_rfl
theorem mat_set30 : mat_l30.setIfInBounds 30 true = mat_l31 := by kernel_rfl
theorem mat_free30 : Region.free .any mat_ops mat_l30 30 = true := by kernel_rfl
theorem mat_has30 : (Region.ready .any mat_ops mat_l30).contains 30 = true := by kernel_rfl
theorem mat_set31 : mat_l31.setIfInBounds 31 true = mat_l32 := by kernel_rfl
theorem mat_free31 : Region.free .any mat_ops mat_l31 31 = true := by kernel_rfl
theorem mat_has31 : (Region.ready .any mat_ops mat_l31).contains 31 = true := by kernel_rfl
theorem mat_set32 : mat_l32.setIfInBounds 32 true = mat_l33 := by kernel_rfl
theorem mat_free32 : Region.free .any mat_ops mat_l32 32 = true := by kernel_rfl
theorem mat_has32 : (Region.ready .any mat_ops mat_l32).contains 32 = true := by kernel_rfl
theorem mat_set33 : mat_l33.setIfInBounds 33 true = mat_l34 := by kernel_rfl
theorem mat_free33 : Region.free .any mat_ops mat_l33 33 = true := by kernel_rfl
theorem mat_has33 : (Region.ready .any mat_ops mat_l33).contains 33 = true := by kernel_rfl
theorem mat_set34 : mat_l34.setIfInBounds 34 true = mat_l35 := by kernel_rfl
theorem mat_free34 : Region.free .any mat_ops mat_l34 34 = true := by kernel_rfl
theorem mat_has34 : (Region.ready .any mat_ops mat_l34).contains 34 = true := by kernel_rfl
theorem mat_set35 : mat_l35.setIfInBounds 35 true = mat_l36 := by kernel_rfl
theorem mat_free35 : Region.free .any mat_ops mat_l35 35 = true := by kernel_rfl
theorem mat_has35 : (Region.ready .any mat_ops mat_l35).contains 35 = true := by kernel_rfl
theorem mat_set36 : mat_l36.setIfInBounds 36 true = mat_l37 := by kernel_rfl
theorem mat_free36 : Region.free .any mat_ops mat_l36 36 = true := by kernel_rfl
theorem mat_has36 : (Region.ready .any mat_ops mat_l36).contains 36 = true := by kernel_rfl
theorem mat_set37 : mat_l37.setIfInBounds 37 true = mat_l38 := by kernel_rfl
theorem mat_free37 : Region.free .any mat_ops mat_l37 37 = true := by kernel_rfl
theorem mat_has37 : (Region.ready .any mat_ops mat_l37).contains 37 = true := by kernel_rfl
theorem mat_set38 : mat_l38.setIfInBounds 38 true = mat_l39 := by kernel_rfl
theorem mat_free38 : Region.free .any mat_ops mat_l38 38 = true := by kernel_rfl
theorem mat_has38 : (Region.ready .any mat_ops mat_l38).contains 38 = true := by kernel_rfl
theorem mat_set39 : mat_l39.setIfInBounds 39 true = mat_l40 := by kernel_rfl
theorem mat_free39 : Region.free .any mat_ops mat_l39 39 = true := by kernel_rfl
theorem mat_has39 : (Region.ready .any mat_ops mat_l39).contains 39 = true := by kernel_rfl
theorem mat_set40 : mat_l40.setIfInBounds 40 true = mat_l41 := by kernel_rfl
theorem mat_free40 : Region.free .any mat_ops mat_l40 40 = true := by kernel_rfl
theorem mat_has40 : (Region.ready .any mat_ops mat_l40).contains 40 = true := by kernel_rfl
theorem mat_set41 : mat_l41.setIfInBounds 41 true = mat_l42 := by kernel_rfl
theorem mat_free41 : Region.free .any mat_ops mat_l41 41 = true := by kernel_rfl
theorem mat_has41 : (Region.ready .any mat_ops mat_l41).contains 41 = true := by kernel_rfl
theorem mat_set42 : mat_l42.setIfInBounds 42 true = mat_l43 := by kernel_rfl
theorem mat_free42 : Region.free .any mat_ops mat_l42 42 = true := by kernel_rfl
theorem mat_has42 : (Region.ready .any mat_ops mat_l42).contains 42 = true := by kernel_rfl
theorem mat_set43 : mat_l43.setIfInBounds 43 true = mat_l44 := by kernel_rfl
theorem mat_free43 : Region.free .any mat_ops mat_l43 43 = true := by kernel_rfl
theorem mat_has43 : (Region.ready .any mat_ops mat_l43).contains 43 = true := by kernel_rfl
theorem mat_set44 : mat_l44.setIfInBounds 44 true = mat_l45 := by kernel_rfl
theorem mat_free44 : Region.free .any mat_ops mat_l44 44 = true := by kernel_rfl
theorem mat_has44 : (Region.ready .any mat_ops mat_l44).contains 44 = true := by kernel_rfl
theorem mat_set45 : mat_l45.setIfInBounds 45 true = mat_l46 := by kernel_rfl
theorem mat_free45 : Region.free .any mat_ops mat_l45 45 = true := by kernel_rfl
theorem mat_has45 : (Region.ready .any mat_ops mat_l45).contains 45 = true := by kernel_rfl
theorem mat_set46 : mat_l46.setIfInBounds 46 true = mat_l47 := by kernel_rfl
theorem mat_free46 : Region.free .any mat_ops mat_l46 46 = true := by kernel_rfl
theorem mat_has46 : (Region.ready .any mat_ops mat_l46).contains 46 = true := by kernel_rfl
theorem mat_set47 : mat_l47.setIfInBounds 47 true = mat_l48 := by kernel_rfl
theorem mat_free47 : Region.free .any mat_ops mat_l47 47 = true := by kernel_rfl
theorem mat_has47 : (Region.ready .any mat_ops mat_l47).contains 47 = true := by kernel_rfl
theorem mat_set48 : mat_l48.setIfInBounds 48 true = mat_l49 := by kernel_rfl
theorem mat_free48 : Region.free .any mat_ops mat_l48 48 = true := by kernel_rfl
theorem mat_has48 : (Region.ready .any mat_ops mat_l48).contains 48 = true := by kernel_rfl
theorem mat_set49 : mat_l49.setIfInBounds 49 true = mat_l50 := by kernel_rfl
theorem mat_free49 : Region.free .any mat_ops mat_l49 49 = true := by kernel_rfl
theorem mat_has49 : (Region.ready .any mat_ops mat_l49).contains 49 = true := by kernel_rfl
theorem mat_set50 : mat_l50.setIfInBounds 50 true = mat_l51 := by kernel_rfl
theorem mat_free50 : Region.free .any mat_ops mat_l50 50 = true := by kernel_rfl
theorem mat_has50 : (Region.ready .any mat_ops mat_l50).contains 50 = true := by kernel_rfl
theorem mat_set51 : mat_l51.setIfInBounds 51 true = mat_l52 := by kernel_rfl
theorem mat_free51 : Region.free .any mat_ops mat_l51 51 = true := by kernel_rfl
theorem mat_has51 : (Region.ready .any mat_ops mat_l51).contains 51 = true := by kernel_rfl
theorem mat_set52 : mat_l52.setIfInBounds 52 true = mat_l53 := by kernel_rfl
theorem mat_free52 : Region.free .any mat_ops mat_l52 52 = true := by kernel_rfl
theorem mat_has52 : (Region.ready .any mat_ops mat_l52).contains 52 = true := by kernel_rfl
theorem mat_set53 : mat_l53.setIfInBounds 53 true = mat_l54 := by kernel_rfl
theorem mat_free53 : Region.free .any mat_ops mat_l53 53 = true := by kernel_rfl
theorem mat_has53 : (Region.ready .any mat_ops mat_l53).contains 53 = true := by kernel_rfl
theorem mat_set54 : mat_l54.setIfInBounds 54 true = mat_l55 := by kernel_rfl
theorem mat_free54 : Region.free .any mat_ops mat_l54 54 = true := by kernel_rfl
theorem mat_has54 : (Region.ready .any mat_ops mat_l54).contains 54 = true := by kernel_rfl
theorem mat_set55 : mat_l55.setIfInBounds 55 true = mat_l56 := by kernel_rfl
theorem mat_free55 : Region.free .any mat_ops mat_l55 55 = true := by kernel_rfl
theorem mat_has55 : (Region.ready .any mat_ops mat_l55).contains 55 = true := by kernel_rfl
theorem mat_set56 : mat_l56.setIfInBounds 57 true = mat_l57 := by kernel_rfl
theorem mat_free56 : Region.free .any mat_ops mat_l56 57 = true := by kernel_rfl
theorem mat_has56 : (Region.ready .any mat_ops mat_l56).contains 57 = true := by kernel_rfl
theorem mat_set57 : mat_l57.setIfInBounds 58 true = mat_l58 := by kernel_rfl
theorem mat_free57 : Region.free .any mat_ops mat_l57 58 = true := by kernel_rfl
theorem mat_has57 : (Region.ready .any mat_ops mat_l57).contains 58 = true := by kernel_rfl
theorem mat_set58 : mat_l58.setIfInBounds 56 true = mat_l59 := by kernel_rfl
theorem mat_ready58 : Region.ready .any mat_ops mat_l58 = [56] := by kernel_rfl
theorem mat_set59 : mat_l59.setIfInBounds 59 true = mat_l60 := by kernel_rfl
theorem mat_ready59 : Region.ready .any mat_ops mat_l59 = [59] := by kernel_rfl
theorem mat_set60 : mat_l60.setIfInBounds 60 true = mat_l61 := by kernel_rfl
theorem mat_free60 : Region.free .any mat_ops mat_l60 60 = true := by kernel_rfl
theorem mat_has60 : (Region.ready .any mat_ops mat_l60).contains 60 = true := by kernel_rfl
theorem mat_set61 : mat_l61.setIfInBounds 61 true = mat_l62 := by kernel_rfl
theorem mat_free61 : Region.free .any mat_ops mat_l61 61 = true := by kernel_rfl
theorem mat_has61 : (Region.ready .any mat_ops mat_l61).contains 61 = true := by kernel_rfl
theorem mat_set62 : mat_l62.setIfInBounds 62 true = mat_l63 := by kernel_rfl
theorem mat_free62 : Region.free .any mat_ops mat_l62 62 = true := by kernel_rfl
theorem mat_has62 : (Region.ready .any mat_ops mat_l62).contains 62 = true := by kernel_rfl
theorem mat_end : Region.ready .any mat_ops mat_l63 = [] := by kernel_rfl
section
variable {S : World → Prop} {Q : Exit → Act → World → Prop}
theorem mat_cast {a b : Act} {w : World} (h : b = a) (hq : Q .normal a w) : Q .normal b w := h ▸ hq
theorem mat_start {ops : Array Oper} {a : Act} {w : World} (ho : ops = mat_ops) (h : wpAnyH Tryz.prog .any mat_ops Q S 63 mat_l0 a w) :
    wpAnyH Tryz.prog .any ops Q S ops.size (Array.replicate ops.size false) a w := by
  subst ho
  rw [mat_size, show Array.replicate 63 false = mat_l0 by kernel_rfl]
  exact h
theorem mat_take {k n d : Nat} {l l' : Array Bool} {v : Value} {a : Act} {w : World} (h : k < 63) (hf : Region.free .any mat_ops l k = true) (hr : (Region.ready .any mat_ops l).contains k = true) (hl : l.setIfInBounds k true = l') (hd : (mat_op k).dst = some d)
    (hQ : ∀ c a d v w, Q (.panic c) (Act.put a (some d) v) w → Q (.panic c) a w) (hw : Region.wanted (mat_op k) (yielded mat_ops a.tmps) = true)
    (hy : ∀ w, S w → (execOp a.eval (mat_op k)).run Tryz.prog w = .ok (.value v) w) (hS : S w) (next : wpAnyH Tryz.prog .any mat_ops Q S n l' (a.put (some d) v) w) :
    wpAnyH Tryz.prog .any mat_ops Q S (n + 1) l a w := by
  subst hl
  rw [← hd] at next
  exact wpAnyH_take (mat_at h) mat_sel hf hr (fun _ _ _ h => hQ _ _ d _ _ (by rw [← hd]; exact h)) (.inl ⟨hw, hy⟩) hS next
theorem mat_call {k n : Nat} {l l' : Array Bool} {f : FuncId} {vals : Array Value} {a : Act} {w : World} (h : k < 63) (hr : Region.ready .any mat_ops l = [k]) (hl : l.setIfInBounds k true = l') (hw : Region.wanted (mat_op k) (yielded mat_ops a.tmps) = true)
    (hx : (execOp a.eval (mat_op k)).run Tryz.prog w = .ok (.enter f vals) w)
    (next : Calls Tryz.prog f vals w fun e w' => ∃ v, e = .returned v ∧ S w' ∧ wpAnyH Tryz.prog .any mat_ops Q S n l' (a.put (mat_op k).dst v) w') :
    wpAnyH Tryz.prog .any mat_ops Q S (n + 1) l a w := by
  subst hl
  refine wpAnyH_ready (rs := [k]) hr (by simp) (AllReadyH.cons (mat_at h) (fun K hK => ?_) AllReadyH.nil)
  rw [if_pos hw]
  unfold Oper.wp
  rw [hx, Oper.upon_enter]
  refine next.mono ?_
  rintro e w' ⟨v, rfl, hS, hn⟩
  exact hK.out _ _ hS (fun _ => hn)
theorem mat_eqv {o : Oper} {t u : TypeId} {a : Act} {w : World} {v : Value} {x y : Operand} (ho : o.op = .binOp .eql t x y u) (hx : a.eval x = v) (hy : a.eval y = v)
    (h : ∀ w, (do eqGuard .eql t x y v v; binOp .eql t v v : Sem Value).run Tryz.prog w = .ok (.bool true) w) : (execOp a.eval o).run Tryz.prog w = .ok (.value (.bool true)) w := by
  unfold execOp
  rw [ho]
  simp only [hx, hy]
  rw [Sem.run_bind, h]
  rfl
end
/-- What the region leans on. -/
structure MatHyp (S : World → Prop) (Q : Exit → Act → World → Prop) (N : Int) (NM : ByteArray) (B : Bool) (G G3 : Nat) (ca cb da db : Value) : Prop where
  hQ : ∀ c a d v w, Q (.panic c) (Act.put a (some d) v) w → Q (.panic c) a w
  cell : ∀ w, S w → (w.cell? ⟨G, 0, none⟩ = some ca ∧ w.cell? ⟨G, 1, none⟩ = some cb) ∧ w.cell? ⟨G3, 0, none⟩ = some da ∧ w.cell? ⟨G3, 1, none⟩ = some db
  h9 : ∀ w, S w → Calls Tryz.prog 9 #[] w fun e w' => e = .returned (.bool true) ∧ S w'
  h26 : ∀ w, S w → Calls Tryz.prog 26 #[.int .i64 N] w fun e w' => e = .returned (.string NM) ∧ S w'
  h27 : ∀ w, S w → Calls Tryz.prog 27 #[.int .i64 N] w fun e w' => e = .returned (.string NM) ∧ S w'
  h28 : ∀ w, S w → Calls Tryz.prog 28 #[.agg #[ca, cb], .agg #[da, db]] w fun e w' => e = .returned (.bool B) ∧ S w'
  h11 : ∀ w, S w → Calls Tryz.prog 11 #[.agg #[ca, cb], .agg #[da, db]] w fun e w' => e = .returned (.bool B) ∧ S w'
theorem mat_int {t : TypeId} (x y : Operand) (n : Int) (h : t = 3 ∨ t = 27) : ∀ w, (do eqGuard .eql t x y (.int .i64 n) (.int .i64 n); binOp .eql t (.int .i64 n) (.int .i64 n) : Sem Value).run Tryz.prog w = .ok (.bool true) w := by
  intro w
  rcases h with rfl | rfl <;> go_simp
theorem mat_bool (x y : Operand) (b : Bool) : ∀ w, (do eqGuard .eql 4 x y (.bool b) (.bool b); binOp .eql 4 (.bool b) (.bool b) : Sem Value).run Tryz.prog w = .ok (.bool true) w := by
  intro w
  cases b <;> go_simp
theorem mat_str (x y : Operand) (s : ByteArray) : ∀ w, (do eqGuard .eql 9 x y (.string s) (.string s); binOp .eql 9 (.string s) (.string s) : Sem Value).run Tryz.prog w = .ok (.bool true) w := by
  intro w
  go_simp
set_option maxHeartbeats 4000000 in
set_option maxRecDepth 100000 in
theorem mat_region {S : World → Prop} {Q : Exit → Act → World → Prop} {N K I1 E1 X1 G1 J1 : Int} {NM A1 P1 : ByteArray} {IS B : Bool} {G G3 : Nat} {ca cb da db : Value} (H : MatHyp S Q N NM B G G3 ca cb da db) {D : List Deferred} (x0 x1 x3 x4 x7 x8 x9 x10 x29 x30 x31 x32 x33 x34 x35 x36 x37 x38 x39 x40 x41 x42 x43 x44 x45 x46 x47 x48 x49 x50 x51 x52 x53 x54 x55 x56 x57 x58 x59 x60 x61 x62 x63 x64 x65 x66 x67 x68 x69 x70 x71 x72 x73 x74 x75 x76 x77 x78 x79 x80 x81 x82 x83 x84 x85 x86 x87 x88 x89 x90 x91 x92 x93 x94 x95 x96 x97 x98 x99 x100 x101 x102 x103 x104 x105 x106 x107 x108 x109 x110 x111 x112 x113 x114 x115 x116 x117 x118 x119 x120 x121 x122 x123 x124 x125 x126 x127 x128 x129 x130 x131 x132 x133 x134 x135 x136 x137 x138 x139 x140 x141 x142 x143 x144 x145 x146 x147 x148 x149 : Value) (w : World) (hS : S w)
    (next : ∀ w , S w → Q .normal ⟨#[x0, x1, .int .i64 N, x3, x4, .pointer (some ⟨G, 0, none⟩), .pointer (some ⟨G3, 0, none⟩), x7, x8, x9, .bool true, .int .i64 K, .bool IS, .int .i64 K, .bool IS, .string A1, .int .i64 I1, .int .i64 E1, .string A1, .int .i64 I1, .int .i64 E1, .int .i64 X1, .int .i64 G1, .int .i64 X1, .int .i64 G1, .string P1, .int .i64 J1, .string P1, .int .i64 J1, x29, x30, x31, x32, x33, x34, x35, x36, x37, x38, x39, x40, x41, x42, x43, x44, x45, x46, x47, x48, x49, x50, x51, x52, x53, x54, x55, x56, x57, x58, x59, x60, x61, x62, x63, x64, x65, x66, x67, x68, x69, x70, x71, x72, x73, x74, x75, x76, x77, x78, x79, x80, x81, x82, x83, x84, x85, x86, x87, .bool true, .bool true, .int .i64 N, .string NM, .int .i64 N, .string NM, .bool true, .bool true, .bool true, .int .i64 K, .int .i64 K, .bool true, .bool true, .bool true, .bool IS, .bool IS, .bool true, .bool true, .bool true, .string A1, .string A1, .bool true, .bool true, .bool true, .int .i64 I1, .int .i64 I1, .bool true, .bool true, .bool true, .int .i64 E1, .int .i64 E1, .bool true, .bool true, .bool true, .int .i64 X1, .int .i64 X1, .bool true, .bool true, .bool true, .int .i64 G1, .int .i64 G1, .bool true, .bool true, .bool true, .string P1, .string P1, .bool true, .bool true, .bool true, .int .i64 J1, .int .i64 J1, .bool true, .bool true, .bool true, .agg #[ca, cb], .agg #[da, db], .bool B, .agg #[ca, cb], .agg #[da, db], .bool B, .bool true, .bool true], D⟩ w) :
    wpAnyH Tryz.prog .any mat_ops Q S 63 mat_l0 ⟨#[x0, x1, .int .i64 N, x3, x4, .pointer (some ⟨G, 0, none⟩), .pointer (some ⟨G3, 0, none⟩), x7, x8, x9, x10, .int .i64 K, .bool IS, .int .i64 K, .bool IS, .string A1, .int .i64 I1, .int .i64 E1, .string A1, .int .i64 I1, .int .i64 E1, .int .i64 X1, .int .i64 G1, .int .i64 X1, .int .i64 G1, .string P1, .int .i64 J1, .string P1, .int .i64 J1, x29, x30, x31, x32, x33, x34, x35, x36, x37, x38, x39, x40, x41, x42, x43, x44, x45, x46, x47, x48, x49, x50, x51, x52, x53, x54, x55, x56, x57, x58, x59, x60, x61, x62, x63, x64, x65, x66, x67, x68, x69, x70, x71, x72, x73, x74, x75, x76, x77, x78, x79, x80, x81, x82, x83, x84, x85, x86, x87, x88, x89, x90, x91, x92, x93, x94, x95, x96, x97, x98, x99, x100, x101, x102, x103, x104, x105, x106, x107, x108, x109, x110, x111, x112, x113, x114, x115, x116, x117, x118, x119, x120, x121, x122, x123, x124, x125, x126, x127, x128, x129, x130, x131, x132, x133, x134, x135, x136, x137, x138, x139, x140, x141, x142, x143, x144, x145, x146, x147, x148, x149], D⟩ w := by
  refine mat_call (k := 0) (f := 9) (vals := #[]) (by decide) mat_ready0 mat_set0 (by kernel_rfl) (by kernel_rfl) ((H.h9 _ hS).mono ?_)
  rintro e w' ⟨rfl, hS⟩
  refine ⟨_, rfl, hS, ?_⟩
  refine mat_take (k := 1) (d := 89) (v := .bool true) (by decide) mat_free1 mat_has1 mat_set1 (by kernel_rfl) H.hQ (by kernel_rfl) (fun _ _ => by kernel_rfl) hS ?_
  refine mat_take (k := 2) (d := 90) (v := .int .i64 N) (by decide) mat_free2 mat_has2 mat_set2 (by kernel_rfl) H.hQ (by kernel_rfl) (fun _ _ => by kernel_rfl) hS ?_
  refine mat_take (k := 4) (d := 92) (v := .int .i64 N) (by decide) mat_free3 mat_has3 mat_set3 (by kernel_rfl) H.hQ (by kernel_rfl) (fun _ _ => by kernel_rfl) hS ?_
  refine mat_call (k := 3) (f := 26) (vals := #[.int .i64 N]) (by decide) mat_ready4 mat_set4 (by kernel_rfl) (by kernel_rfl) ((H.h26 _ hS).mono ?_)
  rintro e w' ⟨rfl, hS⟩
  refine ⟨_, rfl, hS, ?_⟩
  refine mat_call (k := 5) (f := 27) (vals := #[.int .i64 N]) (by decide) mat_ready5 mat_set5 (by kernel_rfl) (by kernel_rfl) ((H.h27 _ hS).mono ?_)
  rintro e w' ⟨rfl, hS⟩
  refine ⟨_, rfl, hS, ?_⟩
  refine mat_take (k := 6) (d := 94) (v := .bool true) (by decide) mat_free6 mat_has6 mat_set6 (by kernel_rfl) H.hQ (by kernel_rfl) (fun _ _ => mat_eqv (v := .string NM) (t := 9) (x := .tmp 91) (y := .tmp 93) (u := 9) (by kernel_rfl) (by kernel_rfl) (by kernel_rfl) (mat_str _ _ _)) hS ?_
  refine mat_take (k := 7) (d := 95) (v := .bool true) (by decide) mat_free7 mat_has7 mat_set7 (by kernel_rfl) H.hQ (by kernel_rfl) (fun _ _ => by kernel_rfl) hS ?_
  refine mat_take (k := 8) (d := 96) (v := .bool true) (by decide) mat_free8 mat_has8 mat_set8 (by kernel_rfl) H.hQ (by kernel_rfl) (fun _ _ => by kernel_rfl) hS ?_
  refine mat_take (k := 9) (d := 97) (v := .int .i64 K) (by decide) mat_free9 mat_has9 mat_set9 (by kernel_rfl) H.hQ (by kernel_rfl) (fun _ _ => by kernel_rfl) hS ?_
  refine mat_take (k := 10) (d := 98) (v := .int .i64 K) (by decide) mat_free10 mat_has10 mat_set10 (by kernel_rfl) H.hQ (by kernel_rfl) (fun _ _ => by kernel_rfl) hS ?_
  refine mat_take (k := 11) (d := 99) (v := .bool true) (by decide) mat_free11 mat_has11 mat_set11 (by kernel_rfl) H.hQ (by kernel_rfl) (fun _ _ => mat_eqv (v := .int .i64 K) (t := 3) (x := .tmp 97) (y := .tmp 98) (u := 3) (by kernel_rfl) (by kernel_rfl) (by kernel_rfl) (mat_int _ _ _ (.inl rfl))) hS ?_
  refine mat_take (k := 12) (d := 100) (v := .bool true) (by decide) mat_free12 mat_has12 mat_set12 (by kernel_rfl) H.hQ (by kernel_rfl) (fun _ _ => by kernel_rfl) hS ?_
  refine mat_take (k := 13) (d := 101) (v := .bool true) (by decide) mat_free13 mat_has13 mat_set13 (by kernel_rfl) H.hQ (by kernel_rfl) (fun _ _ => by kernel_rfl) hS ?_
  refine mat_take (k := 14) (d := 102) (v := .bool IS) (by decide) mat_free14 mat_has14 mat_set14 (by kernel_rfl) H.hQ (by kernel_rfl) (fun _ _ => by kernel_rfl) hS ?_
  refine mat_take (k := 15) (d := 103) (v := .bool IS) (by decide) mat_free15 mat_has15 mat_set15 (by kernel_rfl) H.hQ (by kernel_rfl) (fun _ _ => by kernel_rfl) hS ?_
  refine mat_take (k := 16) (d := 104) (v := .bool true) (by decide) mat_free16 mat_has16 mat_set16 (by kernel_rfl) H.hQ (by kernel_rfl) (fun _ _ => mat_eqv (v := .bool IS) (t := 4) (x := .tmp 102) (y := .tmp 103) (u := 4) (by kernel_rfl) (by kernel_rfl) (by kernel_rfl) (mat_bool _ _ _)) hS ?_
  refine mat_take (k := 17) (d := 105) (v := .bool true) (by decide) mat_free17 mat_has17 mat_set17 (by kernel_rfl) H.hQ (by kernel_rfl) (fun _ _ => by kernel_rfl) hS ?_
  refine mat_take (k := 18) (d := 106) (v := .bool true) (by decide) mat_free18 mat_has18 mat_set18 (by kernel_rfl) H.hQ (by kernel_rfl) (fun _ _ => by kernel_rfl) hS ?_
  refine mat_take (k := 19) (d := 107) (v := .string A1) (by decide) mat_free19 mat_has19 mat_set19 (by kernel_rfl) H.hQ (by kernel_rfl) (fun _ _ => by kernel_rfl) hS ?_
  refine mat_take (k := 20) (d := 108) (v := .string A1) (by decide) mat_free20 mat_has20 mat_set20 (by kernel_rfl) H.hQ (by kernel_rfl) (fun _ _ => by kernel_rfl) hS ?_
  refine mat_take (k := 21) (d := 109) (v := .bool true) (by decide) mat_free21 mat_has21 mat_set21 (by kernel_rfl) H.hQ (by kernel_rfl) (fun _ _ => mat_eqv (v := .string A1) (t := 9) (x := .tmp 107) (y := .tmp 108) (u := 9) (by kernel_rfl) (by kernel_rfl) (by kernel_rfl) (mat_str _ _ _)) hS ?_
  refine mat_take (k := 22) (d := 110) (v := .bool true) (by decide) mat_free22 mat_has22 mat_set22 (by kernel_rfl) H.hQ (by kernel_rfl) (fun _ _ => by kernel_rfl) hS ?_
  refine mat_take (k := 23) (d := 111) (v := .bool true) (by decide) mat_free23 mat_has23 mat_set23 (by kernel_rfl) H.hQ (by kernel_rfl) (fun _ _ => by kernel_rfl) hS ?_
  refine mat_take (k := 24) (d := 112) (v := .int .i64 I1) (by decide) mat_free24 mat_has24 mat_set24 (by kernel_rfl) H.hQ (by kernel_rfl) (fun _ _ => by kernel_rfl) hS ?_
  refine mat_take (k := 25) (d := 113) (v := .int .i64 I1) (by decide) mat_free25 mat_has25 mat_set25 (by kernel_rfl) H.hQ (by kernel_rfl) (fun _ _ => by kernel_rfl) hS ?_
  refine mat_take (k := 26) (d := 114) (v := .bool true) (by decide) mat_free26 mat_has26 mat_set26 (by kernel_rfl) H.hQ (by kernel_rfl) (fun _ _ => mat_eqv (v := .int .i64 I1) (t := 3) (x := .tmp 112) (y := .tmp 113) (u := 3) (by kernel_rfl) (by kernel_rfl) (by kernel_rfl) (mat_int _ _ _ (.inl rfl))) hS ?_
  refine mat_take (k := 27) (d := 115) (v := .bool true) (by decide) mat_free27 mat_has27 mat_set27 (by kernel_rfl) H.hQ (by kernel_rfl) (fun _ _ => by kernel_rfl) hS ?_
  refine mat_take (k := 28) (d := 116) (v := .bool true) (by decide) mat_free28 mat_has28 mat_set28 (by kernel_rfl) H.hQ (by kernel_rfl) (fun _ _ => by kernel_rfl) hS ?_
  refine mat_take (k := 29) (d := 117) (v := .int .i64 E1) (by decide) mat_free29 mat_has29 mat_set29 (by kernel_rfl) H.hQ (by kernel_rfl) (fun _ _ => by kernel_rfl) hS ?_
  refine mat_take (k := 30) (d := 118) (v := .int .i64 E1) (by decide) mat_free30 mat_has30 mat_set30 (by kernel_rfl) H.hQ (by kernel_rfl) (fun _ _ => by kernel_rfl) hS ?_
  refine mat_take (k := 31) (d := 119) (v := .bool true) (by decide) mat_free31 mat_has31 mat_set31 (by kernel_rfl) H.hQ (by kernel_rfl) (fun _ _ => mat_eqv (v := .int .i64 E1) (t := 27) (x := .tmp 117) (y := .tmp 118) (u := 27) (by kernel_rfl) (by kernel_rfl) (by kernel_rfl) (mat_int _ _ _ (.inr rfl))) hS ?_
  refine mat_take (k := 32) (d := 120) (v := .bool true) (by decide) mat_free32 mat_has32 mat_set32 (by kernel_rfl) H.hQ (by kernel_rfl) (fun _ _ => by kernel_rfl) hS ?_
  refine mat_take (k := 33) (d := 121) (v := .bool true) (by decide) mat_free33 mat_has33 mat_set33 (by kernel_rfl) H.hQ (by kernel_rfl) (fun _ _ => by kernel_rfl) hS ?_
  refine mat_take (k := 34) (d := 122) (v := .int .i64 X1) (by decide) mat_free34 mat_has34 mat_set34 (by kernel_rfl) H.hQ (by kernel_rfl) (fun _ _ => by kernel_rfl) hS ?_
  refine mat_take (k := 35) (d := 123) (v := .int .i64 X1) (by decide) mat_free35 mat_has35 mat_set35 (by kernel_rfl) H.hQ (by kernel_rfl) (fun _ _ => by kernel_rfl) hS ?_
  refine mat_take (k := 36) (d := 124) (v := .bool true) (by decide) mat_free36 mat_has36 mat_set36 (by kernel_rfl) H.hQ (by kernel_rfl) (fun _ _ => mat_eqv (v := .int .i64 X1) (t := 3) (x := .tmp 122) (y := .tmp 123) (u := 3) (by kernel_rfl) (by kernel_rfl) (by kernel_rfl) (mat_int _ _ _ (.inl rfl))) hS ?_
  refine mat_take (k := 37) (d := 125) (v := .bool true) (by decide) mat_free37 mat_has37 mat_set37 (by kernel_rfl) H.hQ (by kernel_rfl) (fun _ _ => by kernel_rfl) hS ?_
  refine mat_take (k := 38) (d := 126) (v := .bool true) (by decide) mat_free38 mat_has38 mat_set38 (by kernel_rfl) H.hQ (by kernel_rfl) (fun _ _ => by kernel_rfl) hS ?_
  refine mat_take (k := 39) (d := 127) (v := .int .i64 G1) (by decide) mat_free39 mat_has39 mat_set39 (by kernel_rfl) H.hQ (by kernel_rfl) (fun _ _ => by kernel_rfl) hS ?_
  refine mat_take (k := 40) (d := 128) (v := .int .i64 G1) (by decide) mat_free40 mat_has40 mat_set40 (by kernel_rfl) H.hQ (by kernel_rfl) (fun _ _ => by kernel_rfl) hS ?_
  refine mat_take (k := 41) (d := 129) (v := .bool true) (by decide) mat_free41 mat_has41 mat_set41 (by kernel_rfl) H.hQ (by kernel_rfl) (fun _ _ => mat_eqv (v := .int .i64 G1) (t := 27) (x := .tmp 127) (y := .tmp 128) (u := 27) (by kernel_rfl) (by kernel_rfl) (by kernel_rfl) (mat_int _ _ _ (.inr rfl))) hS ?_
  refine mat_take (k := 42) (d := 130) (v := .bool true) (by decide) mat_free42 mat_has42 mat_set42 (by kernel_rfl) H.hQ (by kernel_rfl) (fun _ _ => by kernel_rfl) hS ?_
  refine mat_take (k := 43) (d := 131) (v := .bool true) (by decide) mat_free43 mat_has43 mat_set43 (by kernel_rfl) H.hQ (by kernel_rfl) (fun _ _ => by kernel_rfl) hS ?_
  refine mat_take (k := 44) (d := 132) (v := .string P1) (by decide) mat_free44 mat_has44 mat_set44 (by kernel_rfl) H.hQ (by kernel_rfl) (fun _ _ => by kernel_rfl) hS ?_
  refine mat_take (k := 45) (d := 133) (v := .string P1) (by decide) mat_free45 mat_has45 mat_set45 (by kernel_rfl) H.hQ (by kernel_rfl) (fun _ _ => by kernel_rfl) hS ?_
  refine mat_take (k := 46) (d := 134) (v := .bool true) (by decide) mat_free46 mat_has46 mat_set46 (by kernel_rfl) H.hQ (by kernel_rfl) (fun _ _ => mat_eqv (v := .string P1) (t := 9) (x := .tmp 132) (y := .tmp 133) (u := 9) (by kernel_rfl) (by kernel_rfl) (by kernel_rfl) (mat_str _ _ _)) hS ?_
  refine mat_take (k := 47) (d := 135) (v := .bool true) (by decide) mat_free47 mat_has47 mat_set47 (by kernel_rfl) H.hQ (by kernel_rfl) (fun _ _ => by kernel_rfl) hS ?_
  refine mat_take (k := 48) (d := 136) (v := .bool true) (by decide) mat_free48 mat_has48 mat_set48 (by kernel_rfl) H.hQ (by kernel_rfl) (fun _ _ => by kernel_rfl) hS ?_
  refine mat_take (k := 49) (d := 137) (v := .int .i64 J1) (by decide) mat_free49 mat_has49 mat_set49 (by kernel_rfl) H.hQ (by kernel_rfl) (fun _ _ => by kernel_rfl) hS ?_
  refine mat_take (k := 50) (d := 138) (v := .int .i64 J1) (by decide) mat_free50 mat_has50 mat_set50 (by kernel_rfl) H.hQ (by kernel_rfl) (fun _ _ => by kernel_rfl) hS ?_
  refine mat_take (k := 51) (d := 139) (v := .bool true) (by decide) mat_free51 mat_has51 mat_set51 (by kernel_rfl) H.hQ (by kernel_rfl) (fun _ _ => mat_eqv (v := .int .i64 J1) (t := 27) (x := .tmp 137) (y := .tmp 138) (u := 27) (by kernel_rfl) (by kernel_rfl) (by kernel_rfl) (mat_int _ _ _ (.inr rfl))) hS ?_
  refine mat_take (k := 52) (d := 140) (v := .bool true) (by decide) mat_free52 mat_has52 mat_set52 (by kernel_rfl) H.hQ (by kernel_rfl) (fun _ _ => by kernel_rfl) hS ?_
  refine mat_take (k := 53) (d := 141) (v := .bool true) (by decide) mat_free53 mat_has53 mat_set53 (by kernel_rfl) H.hQ (by kernel_rfl) (fun _ _ => by kernel_rfl) hS ?_
  refine mat_take (k := 54) (d := 142) (v := .agg #[ca, cb]) (by decide) mat_free54 mat_has54 mat_set54 (by kernel_rfl) H.hQ (by kernel_rfl) (fun w hw => san_load (x := .tmp 5) (by kernel_rfl) (by kernel_rfl) (H.cell w hw).1.1 (H.cell w hw).1.2) hS ?_
  refine mat_take (k := 55) (d := 143) (v := .agg #[da, db]) (by decide) mat_free55 mat_has55 mat_set55 (by kernel_rfl) H.hQ (by kernel_rfl) (fun w hw => san_load (x := .tmp 6) (by kernel_rfl) (by kernel_rfl) (H.cell w hw).2.1 (H.cell w hw).2.2) hS ?_
  refine mat_take (k := 57) (d := 145) (v := .agg #[ca, cb]) (by decide) mat_free56 mat_has56 mat_set56 (by kernel_rfl) H.hQ (by kernel_rfl) (fun w hw => san_load (x := .tmp 5) (by kernel_rfl) (by kernel_rfl) (H.cell w hw).1.1 (H.cell w hw).1.2) hS ?_
  refine mat_take (k := 58) (d := 146) (v := .agg #[da, db]) (by decide) mat_free57 mat_has57 mat_set57 (by kernel_rfl) H.hQ (by kernel_rfl) (fun w hw => san_load (x := .tmp 6) (by kernel_rfl) (by kernel_rfl) (H.cell w hw).2.1 (H.cell w hw).2.2) hS ?_
  refine mat_call (k := 56) (f := 28) (vals := #[.agg #[ca, cb], .agg #[da, db]]) (by decide) mat_ready58 mat_set58 (by kernel_rfl) (by kernel_rfl) ((H.h28 _ hS).mono ?_)
  rintro e w' ⟨rfl, hS⟩
  refine ⟨_, rfl, hS, ?_⟩
  refine mat_call (k := 59) (f := 11) (vals := #[.agg #[ca, cb], .agg #[da, db]]) (by decide) mat_ready59 mat_set59 (by kernel_rfl) (by kernel_rfl) ((H.h11 _ hS).mono ?_)
  rintro e w' ⟨rfl, hS⟩
  refine ⟨_, rfl, hS, ?_⟩
  refine mat_take (k := 60) (d := 148) (v := .bool true) (by decide) mat_free60 mat_has60 mat_set60 (by kernel_rfl) H.hQ (by kernel_rfl) (fun _ _ => mat_eqv (v := .bool B) (t := 4) (x := .tmp 144) (y := .tmp 147) (u := 4) (by kernel_rfl) (by kernel_rfl) (by kernel_rfl) (mat_bool _ _ _)) hS ?_
  refine mat_take (k := 61) (d := 149) (v := .bool true) (by decide) mat_free61 mat_has61 mat_set61 (by kernel_rfl) H.hQ (by kernel_rfl) (fun _ _ => by kernel_rfl) hS ?_
  refine mat_take (k := 62) (d := 10) (v := .bool true) (by decide) mat_free62 mat_has62 mat_set62 (by kernel_rfl) H.hQ (by kernel_rfl) (fun _ _ => by kernel_rfl) hS ?_
  refine wpAnyH_done mat_end ?_ _
  exact mat_cast (by kernel_rfl) (next _  hS)
end Go.Proofs.YtecdkgiandbkeaaGreatDoor

