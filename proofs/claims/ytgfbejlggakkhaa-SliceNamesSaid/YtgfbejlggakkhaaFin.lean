/-
  Is a float finite? Where it isn't, the difference is a number that is none, whichever the machine takes.
-/
import Derived.Test.YtgfbejlggakkhaaProg
import Derived.Test.YtgfbejlggakkhaaFlt
import Derived.Test.YtgfbejlggakkhaaF64
import Derived.Test.YtgfbejlggakkhaaWLast
import Derived.Laws.NewFold
import Derived.WalkKit
namespace Go.Proofs.Ytgfbejlggakkhaa.Hand
open Go.RowKit Go.Proofs.YtgfbejlggakkhaaW.PrintWords Go.Proofs.YtgfbejlggakkhaaW.PrintLast Ieee
set_option linter.unusedVariables false

def finF (x : Nat) : Bool := match floatBits .sub .f64 x x with | some r => (ford r 0 == some .eq) | none => false
theorem nan_read (t : Nat) : ∃ s f, double.read ((t % 2) * 2 ^ 63 + 0x7ff0000000000000 + 1 + (t / 2) % (2 ^ 52 - 1)) = .nan s f := by
  rw [F64.read_of]
  unfold F64.readOf
  have h1 : ((t % 2) * 2 ^ 63 + 0x7ff0000000000000 + 1 + (t / 2) % (2 ^ 52 - 1)) % 2 ^ 63 = 0x7ff0000000000000 + 1 + (t / 2) % (2 ^ 52 - 1) := by omega
  rw [h1]
  rw [if_neg (by omega), if_neg (by omega), if_neg (by omega)]
  exact ⟨_, _, rfl⟩
theorem ord_nan {x y : Nat} (h : ∃ s f, double.read x = .nan s f) : ford x y = none := by
  obtain ⟨s, f, h⟩ := h
  show (double.read x).order (double.read y) = none
  rw [h]; rfl
theorem sub_none {P : Program} (w : World) (t : TypeId) (x y : Nat) (h : floatBits .sub .f64 x y = none) : ∃ b, (binOp .sub t (.float .f64 x) (.float .f64 y)).run P w = .ok (.float .f64 b) w.drew ∧ ∃ s f, double.read b = .nan s f := by
  have h' : FloatKind.f64.format.sub x y = none := h
  refine ⟨_, ?_, nan_read (w.tape w.drawn (.nanBits .f64 x y))⟩
  simp [binOp, Op.floatArith, h', Question.forced, Question.cut]
set_option maxHeartbeats 1000000 in
theorem fin_calls (x : Nat) (r : Bool) (w : World) (h : some (finF x) = some r) :
    Calls Try.prog 44 #[.float .f64 x] w fun e w' => e = .returned (.bool r) ∧ Drawn0 w w' := by
  obtain rfl := Option.some.inj h
  unfold finF
  cases hs : floatBits .sub .f64 x x with
  | some r =>
    have hr := run_float_arith (P := Try.prog) w .sub 28 .f64 x x r hs
    go_enter Try.func44, Try.ntmps44
    go_wp2
    go_ret
    exact ⟨rfl, Drawn0.refl _⟩
  | none =>
    obtain ⟨b, hr, hb⟩ := sub_none (P := Try.prog) w 28 x x hs
    have ho := ord_nan (y := 0) hb
    go_enter Try.func44, Try.ntmps44
    go_wp2
    go_ret
    exact ⟨by simp, ⟨1, rfl⟩⟩
end Go.Proofs.Ytgfbejlggakkhaa.Hand
