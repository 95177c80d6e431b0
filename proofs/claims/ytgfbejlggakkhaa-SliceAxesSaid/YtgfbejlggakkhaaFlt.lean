/-
  Words of this place: floats and complex numbers as cells; what the operations on them give, as the walk asks it.
-/
import Derived.Test.YtgfbejlggakkhaaWWords
import Derived.Test.YtgfbejlggakkhaaWMore
import Derived.Test.YtgfbejlggakkhaaWFoot
import Derived.Laws.ComplexArith
import Derived.Laws.Externs
namespace Go.Proofs.YtgfbejlggakkhaaW.PrintWords
open Go.RowKit

/-- how two doubles stand to each other -/
abbrev ford (x y : Nat) : Option Ordering := FloatKind.f64.format.order x y

namespace Kd
def f64 : Kd Nat := scalar (Value.float .f64) (fun _ => rfl)
def c128 : Kd (Nat × Nat) := scalar (fun z => Value.complex .f64 z.1 z.2) (fun _ => rfl)
section
variable {w W : World} {A : Option Addr} {n : Nat} {ad : Addr}
theorem at_c128 {xs : List (Nat × Nat)} (h : Kd.c128.C w A n xs) (i : Int) (h0 : 0 ≤ i) (h1 : i < n) : ∃ ad, A = some ad ∧ w.cell? (ad.add i.toNat) = some (.complex .f64 (rdOf ((0, 0) : Nat × Nat) xs i).1 (rdOf ((0, 0) : Nat × Nat) xs i).2) :=
  ReadsOf.at_ (reads_of_C (enc := fun z : Nat × Nat => Value.complex .f64 z.1 z.2) (d := ((0, 0) : Nat × Nat)) (h1 := fun _ => rfl) h) i h0 h1
end
end Kd

/-! ### the operations -/
/-- what an operation leaves that gives 'o'; where it is none, the answer is asked -/
def fres (P : Program) (w : World) (k : FloatKind) (o : Option Nat) (els : Sem Value) : Result Value :=
  match o with
  | some r => .ok (.float k r) w
  | none => els.run P w
theorem fres_some (P : Program) (w : World) (k : FloatKind) (r : Nat) (els : Sem Value) : fres P w k (some r) els = .ok (.float k r) w := rfl
section
variable {P : Program} (w : World)
theorem run_f_add (t : TypeId) (k : FloatKind) (x y : Nat) : (binOp .add t (.float k x) (.float k y)).run P w = fres P w k (floatBits .add k x y) (binOp .add t (.float k x) (.float k y)) := by
  cases h : floatBits .add k x y with
  | some r => exact run_float_arith w .add t k x y r h
  | none => rfl
theorem run_f_sub (t : TypeId) (k : FloatKind) (x y : Nat) : (binOp .sub t (.float k x) (.float k y)).run P w = fres P w k (floatBits .sub k x y) (binOp .sub t (.float k x) (.float k y)) := by
  cases h : floatBits .sub k x y with
  | some r => exact run_float_arith w .sub t k x y r h
  | none => rfl
theorem run_f_mul (t : TypeId) (k : FloatKind) (x y : Nat) : (binOp .mul t (.float k x) (.float k y)).run P w = fres P w k (floatBits .mul k x y) (binOp .mul t (.float k x) (.float k y)) := by
  cases h : floatBits .mul k x y with
  | some r => exact run_float_arith w .mul t k x y r h
  | none => rfl
theorem run_f_quo (t : TypeId) (k : FloatKind) (x y : Nat) : (binOp .quo t (.float k x) (.float k y)).run P w = fres P w k (floatBits .quo k x y) (binOp .quo t (.float k x) (.float k y)) := by
  cases h : floatBits .quo k x y with
  | some r => exact run_float_arith w .quo t k x y r h
  | none => rfl
/-- part by part -/
def cres (P : Program) (w : World) (k : FloatKind) (o q : Option Nat) (els : Sem Value) : Result Value :=
  match o, q with
  | some r, some s => .ok (.complex k r s) w
  | _, _ => els.run P w
theorem cres_some (P : Program) (w : World) (k : FloatKind) (r s : Nat) (els : Sem Value) : cres P w k (some r) (some s) els = .ok (.complex k r s) w := rfl
theorem run_c_add (t : TypeId) (k : FloatKind) (a b c d : Nat) : (binOp .add t (.complex k a b) (.complex k c d)).run P w = cres P w k (floatBits .add k a c) (floatBits .add k b d) (binOp .add t (.complex k a b) (.complex k c d)) := by
  cases h : floatBits .add k a c with
  | none => rfl
  | some r =>
    cases h2 : floatBits .add k b d with
    | none => rfl
    | some s => exact run_complex_sum w .add (.inl rfl) t k a b c d r s (by unfold cSumBits; rw [h, h2]; rfl)
theorem run_c_sub (t : TypeId) (k : FloatKind) (a b c d : Nat) : (binOp .sub t (.complex k a b) (.complex k c d)).run P w = cres P w k (floatBits .sub k a c) (floatBits .sub k b d) (binOp .sub t (.complex k a b) (.complex k c d)) := by
  cases h : floatBits .sub k a c with
  | none => rfl
  | some r =>
    cases h2 : floatBits .sub k b d with
    | none => rfl
    | some s => exact run_complex_sum w .sub (.inr rfl) t k a b c d r s (by unfold cSumBits; rw [h, h2]; rfl)
/-- a conversion of a float to a whole number -/
def ires (P : Program) (w : World) (k : IntKind) (o : Option Int) (els : Sem Value) : Result Value :=
  match o with
  | some r => .ok (.int k r) w
  | none => els.run P w
theorem ires_some (P : Program) (w : World) (k : IntKind) (r : Int) (els : Sem Value) : ires P w k (some r) els = .ok (.int k r) w := rfl
theorem run_f_int (src dst : TypeId) (s : FloatKind) (k : IntKind) (b : Nat) (hs : (P.underlying src).isSome = true) (hd : P.underlying dst = some (.int k)) :
    (convert src dst (.float s b)).run P w = ires P w k (floatToIntVal s b k) (convert src dst (.float s b)) := by
  cases h : floatToIntVal s b k with
  | none => rfl
  | some r => exact run_convert_float_int w src dst s k b r hs hd h
theorem run_f_same (src dst : TypeId) (k : FloatKind) (b : Nat) (hs : (P.underlying src).isSome = true) (hd : P.underlying dst = some (.float k)) :
    (convert src dst (.float k b)).run P w = .ok (.float k b) w :=
  run_convert_float_float w src dst k k b b hs hd (by unfold floatToFloatBits; rw [if_pos rfl])
theorem unary_f_neg (k : FloatKind) (b : Nat) : Op.unary .neg (.float k b) = pure (.float k (Op.negFloat k b)) := rfl
/-- 'max' and 'min' of two floats -/
def fmax (k : FloatKind) (x y : Nat) : Option Nat := (k.format.order x y).map fun o => match o with | .lt => y | .gt => x | .eq => if (k.decode x).neg then y else x
def fmin (k : FloatKind) (x y : Nat) : Option Nat := (k.format.order x y).map fun o => match o with | .lt => x | .gt => y | .eq => if (k.decode x).neg then x else y
theorem run_max2_f (k k' : FloatKind) (x y : Nat) : (Builtin.max2 (.float k x) (.float k' y)).run P w = fres P w k (fmax k x y) (Builtin.max2 (.float k x) (.float k' y)) := by
  unfold fmax
  cases h : k.format.order x y with
  | none => rfl
  | some o => cases o <;> simp [Builtin.max2, h, fres]
theorem run_min2_f (k k' : FloatKind) (x y : Nat) : (Builtin.min2 (.float k x) (.float k' y)).run P w = fres P w k (fmin k x y) (Builtin.min2 (.float k x) (.float k' y)) := by
  unfold fmin
  cases h : k.format.order x y with
  | none => rfl
  | some o => cases o <;> simp [Builtin.min2, h, fres]
theorem run_store_float {a : Addr} {m : Mode} (k : FloatKind) (n : Nat) : (store a (.float k n) m).run P w = stored P w a (.float k n) m := run_store P w a _ m rfl
theorem run_store_complex {a : Addr} {m : Mode} (k : FloatKind) (x y : Nat) : (store a (.complex k x y) m).run P w = stored P w a (.complex k x y) m := run_store P w a _ m rfl
end
end Go.Proofs.YtgfbejlggakkhaaW.PrintWords
