/-
  What the library's functions without a body give: floats' bits, whole numbers below and above, the greater and the lesser.
-/
import Derived.Test.YtgfbejlggakkhaaProg
import Derived.Test.YtgfbejlggakkhaaFlt
import Derived.KernelRfl
namespace Go.Proofs.YtgfbejlggakkhaaW.PrintWords
open Go.RowKit
/-- a float made whole ('none': which NaN comes out is asked) -/
def fint (way : Ieee.Toward) (x : Nat) : Option Nat :=
  match FloatKind.f64.decode x with
  | .nan _ t => if FloatKind.f64.format.quiet t = t then some x else none
  | d => some (FloatKind.f64.encode (d.integral way))
def fpick (neg : Bool) (win : Ordering) (x y : Nat) : Nat :=
  let a := FloatKind.f64.decode x
  let b := FloatKind.f64.decode y
  if a == .infinity neg || b == .infinity neg then FloatKind.f64.encode (.infinity neg)
  else if a.isNaN || b.isNaN then 0x7FF8000000000001
  else if a.isZero && b.isZero then (if a.neg == neg then x else y)
  else if a.order b == some win then x else y
section
variable {P : Program} (w : World)
def vres (P : Program) (w : World) (o : Option Nat) (els : Sem Next) : Result Next :=
  match o with
  | some r => .ok (.value (.float .f64 r)) w
  | none => els.run P w
theorem vres_some (P : Program) (w : World) (r : Nat) (els : Sem Next) : vres P w (some r) els = .ok (.value (.float .f64 r)) w := rfl
theorem run_integral (name : String) (way : Ieee.Toward) (x : Nat) {r : Nat} (h : fint way x = some r) : (Extern.MathFloor.toIntegral name way #[.float .f64 x]).run P w = .ok (.float .f64 r) w := by
  have key : ∃ g : Bool → Nat → Sem Value, Extern.MathFloor.toIntegral name way #[.float .f64 x] = (match FloatKind.f64.decode x with
      | .nan s t => if FloatKind.f64.format.quiet t = t then pure (.float .f64 x) else g s t
      | d => pure (.float .f64 (FloatKind.f64.encode (d.integral way)))) := ⟨_, rfl⟩
  obtain ⟨g, hg⟩ := key
  rw [hg]
  unfold fint at h
  cases hd : FloatKind.f64.decode x with
  | number s m p => rw [hd] at h; injection h with h; subst h; rfl
  | infinity s => rw [hd] at h; injection h with h; subst h; rfl
  | nan s t =>
    rw [hd] at h
    simp only at h ⊢
    split at h
    · injection h with h; subst h
      rename_i hq
      rw [if_pos hq]; rfl
    · cases h
theorem run_pick (name : String) (neg : Bool) (win : Ordering) (x y : Nat) : (Extern.MathDim.pick name neg win #[.float .f64 x, .float .f64 y]).run P w = .ok (.float .f64 (fpick neg win x y)) w := rfl
end
theorem ext_int {P : Program} {f : FuncId} {fn : Func} (name : String) {way : Ieee.Toward} (hf : P.funcs[f]? = some fn) (hname : (fn.name == "runtime.NumGoroutine") = false) (hb : fn.body.isNone = true) (hn : Extern.findNext fn = none) (he : Extern.find fn = some (Extern.MathFloor.toIntegral name way)) (x : Nat) (w : World) :
    (callFunc f #[.float .f64 x]).run P w = vres P w (fint way x) (callFunc f #[.float .f64 x]) := by
  cases h : fint way x with
  | none => rfl
  | some r => rw [run_callFunc_extern hf hname hb hn he, run_integral w name way x h]; rfl
theorem ext_pick {P : Program} {f : FuncId} {fn : Func} (name : String) {neg : Bool} {win : Ordering} (hf : P.funcs[f]? = some fn) (hname : (fn.name == "runtime.NumGoroutine") = false) (hb : fn.body.isNone = true) (hn : Extern.findNext fn = none) (he : Extern.find fn = some (Extern.MathDim.pick name neg win)) (x y : Nat) (w : World) :
    (callFunc f #[.float .f64 x, .float .f64 y]).run P w = .ok (.value (.float .f64 (fpick neg win x y))) w := by
  rw [run_callFunc_extern hf hname hb hn he, run_pick]; rfl
theorem ext_bits {P : Program} {f : FuncId} {fn : Func} (hf : P.funcs[f]? = some fn) (hname : (fn.name == "runtime.NumGoroutine") = false) (hb : fn.body.isNone = true) (hn : Extern.findNext fn = none) (he : Extern.find fn = some Extern.MathFloatBits.float64bits) (x : Nat) (w : World) :
    (callFunc f #[.float .f64 x]).run P w = .ok (.value (.int .u64 (x : Int))) w := by
  rw [run_callFunc_extern hf hname hb hn he]; rfl
theorem ext_frombits {P : Program} {f : FuncId} {fn : Func} (hf : P.funcs[f]? = some fn) (hname : (fn.name == "runtime.NumGoroutine") = false) (hb : fn.body.isNone = true) (hn : Extern.findNext fn = none) (he : Extern.find fn = some Extern.MathFloatBits.float64frombits) (x : Int) (w : World) :
    (callFunc f #[.int .u64 x]).run P w = .ok (.value (.float .f64 x.toNat)) w := by
  rw [run_callFunc_extern hf hname hb hn he]; rfl
theorem ext_Float64bits (x : Nat) (w : World) : (callFunc 74 #[.float .f64 x]).run Try.prog w = .ok (.value (.int .u64 (x : Int))) w := ext_bits Try.func74 (by kernel_rfl) (by kernel_rfl) (by kernel_rfl) (by kernel_rfl) x w
theorem ext_Float64frombits (x : Int) (w : World) : (callFunc 32 #[.int .u64 x]).run Try.prog w = .ok (.value (.float .f64 x.toNat)) w := ext_frombits Try.func32 (by kernel_rfl) (by kernel_rfl) (by kernel_rfl) (by kernel_rfl) x w
theorem ext_archFloor (x : Nat) (w : World) : (callFunc 75 #[.float .f64 x]).run Try.prog w = vres Try.prog w (fint .down x) (callFunc 75 #[.float .f64 x]) := ext_int "math.archFloor" Try.func75 (by kernel_rfl) (by kernel_rfl) (by kernel_rfl) (by kernel_rfl) x w
theorem ext_archCeil (x : Nat) (w : World) : (callFunc 54 #[.float .f64 x]).run Try.prog w = vres Try.prog w (fint .up x) (callFunc 54 #[.float .f64 x]) := ext_int "math.archCeil" Try.func54 (by kernel_rfl) (by kernel_rfl) (by kernel_rfl) (by kernel_rfl) x w
theorem ext_archTrunc (x : Nat) (w : World) : (callFunc 92 #[.float .f64 x]).run Try.prog w = vres Try.prog w (fint .zero x) (callFunc 92 #[.float .f64 x]) := ext_int "math.archTrunc" Try.func92 (by kernel_rfl) (by kernel_rfl) (by kernel_rfl) (by kernel_rfl) x w
theorem ext_archMax (x y : Nat) (w : World) : (callFunc 50 #[.float .f64 x, .float .f64 y]).run Try.prog w = .ok (.value (.float .f64 (fpick false .gt x y))) w := ext_pick "math.archMax" Try.func50 (by kernel_rfl) (by kernel_rfl) (by kernel_rfl) (by kernel_rfl) x y w
theorem ext_archMin (x y : Nat) (w : World) : (callFunc 52 #[.float .f64 x, .float .f64 y]).run Try.prog w = .ok (.value (.float .f64 (fpick true .lt x y))) w := ext_pick "math.archMin" Try.func52 (by kernel_rfl) (by kernel_rfl) (by kernel_rfl) (by kernel_rfl) x y w
end Go.Proofs.YtgfbejlggakkhaaW.PrintWords
