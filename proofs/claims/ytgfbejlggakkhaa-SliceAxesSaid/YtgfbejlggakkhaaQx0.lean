-- by this place's own print2.py over the kit's print
import Derived.Test.YtgfbejlggakkhaaProg
import Derived.Below
import Derived.Deep.Draws
import Derived.Deep.AppendLies
import Derived.Maps.AppendAt
import Derived.OwnWalk
import Derived.Laws.BytesArg
import Derived.Laws.MakeOwn
import Derived.Laws.OwnMore
import Derived.Deep.OwnRows
import Derived.Tactics
import Derived.Lib.ConvBytes
import Derived.Laws.Slices
import Derived.WalkKit
import Derived.KernelRfl
import Derived.RowKit3
import Derived.Deep.LoopGhost
import Derived.Deep.QuietTactic
import Derived.BigQuiet
import Derived.WideLaws
import Derived.Deep.DeepCutAuto
import Derived.Deep.CutBlock
import Derived.Deep.RegionHeld3
import Derived.Laws.Rows
import Derived.Lib.AppendStr
import Derived.ArgAppend
import Derived.Laws.IdiomCopy
import Derived.OrdersHeld
import Derived.Laws.BitsLemmas
import Derived.RowKit
import Derived.Test.YtgfbejlggakkhaaWWords
import Derived.Test.YtgfbejlggakkhaaWLast
import Derived.Test.YtgfbejlggakkhaaWTab
import Derived.Test.YtgfbejlggakkhaaWFour
import Derived.Test.YtgfbejlggakkhaaWQPut
import Derived.Test.YtgfbejlggakkhaaWApart
import Derived.Test.YtgfbejlggakkhaaWArr
import Derived.Test.YtgfbejlggakkhaaWZeros
import Derived.Test.YtgfbejlggakkhaaWFoot
import Derived.Test.YtgfbejlggakkhaaWKept
import Derived.Test.YtgfbejlggakkhaaWShare
import Derived.Test.YtgfbejlggakkhaaWN
import Derived.Test.YtgfbejlggakkhaaWFootNe
import Derived.Test.YtgfbejlggakkhaaWAt
import Derived.Test.YtgfbejlggakkhaaWEqStruct
import Derived.Test.YtgfbejlggakkhaaWRepsOne
import Derived.Test.YtgfbejlggakkhaaWInv
import Derived.Test.YtgfbejlggakkhaaWInvWords
import Derived.Test.YtgfbejlggakkhaaWGuard
import Derived.Test.YtgfbejlggakkhaaWNEv
import Derived.Test.YtgfbejlggakkhaaWMore
import Derived.Test.YtgfbejlggakkhaaOwn
import Derived.Test.YtgfbejlggakkhaaFlt
import Derived.Test.YtgfbejlggakkhaaExt
namespace Go.Proofs.Ytgfbejlggakkhaa.Q
open Go.RowKit Go.Proofs.YtgfbejlggakkhaaW.PrintWords Go.Proofs.YtgfbejlggakkhaaW.PrintLast Go.Proofs.YtgfbejlggakkhaaW.PrintMore
attribute [local go_sem] vres_some fres_some cres_some ires_some run_f_add run_f_sub run_f_mul run_f_quo run_c_add run_c_sub run_f_int run_f_same unary_f_neg run_max2_f run_min2_f run_store_float run_store_complex ext_Float64bits ext_Float64frombits ext_archFloor ext_archCeil ext_archTrunc ext_archMax ext_archMin max2_int min2_int max_two min_two max_three min_three max_four min_four   -- for this text's walks alone
set_option linter.unusedVariables false
set_option linter.unusedSimpArgs false



def errW : Option Int → Value
  | none => .nilIface
  | some c => .iface 0 (.int .i64 c)
theorem errW_none : errW none = .nilIface := rfl
theorem errW_some (c : Int) : errW (some c) = .iface 0 (.int .i64 c) := rfl

theorem info23 : (Try.prog.info? 23).map (fun i => (i.zero, i.size, i.bytes)) = some (some (.complex .f64 0 0), 1, 16) := by kernel_rfl
theorem info96 : (Try.prog.info? 96).map (fun i => (i.zero, i.size, i.bytes)) = some (some (.agg #[(.int .i64 0), (.int .i64 0)]), 2, 16) := by kernel_rfl
-- the values' own types
/-! #### struct type 96 -/
structure S96 where
  f0 : Int
  f1 : Int
def z96 : S96 := ⟨(0 : Int), (0 : Int)⟩
def k96 : Kd S96 := Kd.iso (Kd.pair (Kd.int .i64) (Kd.int .i64)) (fun x : S96 => (x.f0, x.f1))
theorem k96_open {w : World} {x : S96} {cs : List Value} (h : k96.K w x cs) : cs = [.int .i64 x.f0, .int .i64 x.f1] := by
  obtain ⟨_, _, rfl, rfl, rfl⟩ := h
  exact rfl
theorem k96_openM {w : World} {base : Nat} {ok : Nat → Prop} {x : S96} {cs : List Value} (h : k96.M w base ok x cs) : cs = [.int .i64 x.f0, .int .i64 x.f1] := by
  obtain ⟨_, _, rfl, rfl, rfl⟩ := h
  exact rfl
theorem k96_mkM (w : World) (base : Nat) (ok : Nat → Prop) (x : S96)  : k96.M w base ok x [.int .i64 x.f0, .int .i64 x.f1] := ⟨[.int .i64 x.f0], [.int .i64 x.f1], rfl, rfl, rfl⟩
def rd_T96 (xs : List S96) (i : Int) : S96 := xs.getD i.toNat z96
theorem at_T96 {w : World} {A : Option Addr} {n : Nat} {xs : List S96} (h : Kd.C k96 w A n xs) (i : Int) (h0 : 0 ≤ i) (h1 : i < n) : ∃ ad , A = some ad ∧ w.cell? (ad.add (i.toNat * 2)) = some (.int .i64 (rd_T96 xs i).f0) ∧ w.cell? ⟨(ad.add (i.toNat * 2)).block, (ad.add (i.toNat * 2)).off + 1, none⟩ = some (.int .i64 (rd_T96 xs i).f1) := by
  obtain ⟨ad, c, e, _, hK, hc0⟩ := Kd.C_get h z96 i h0 h1
  have hc : ∀ j u, c[j]? = some u → w.cell? (ad.add (i.toNat * 2 + j)) = some u := hc0
  obtain rfl := k96_open hK
  exact ⟨ad, e, hc 0 _ rfl, by rw [← add_field _ _ 1 (by omega)]; exact hc 1 _ rfl⟩

/-! #### struct type 84 -/
structure S84 where
  f0 : Int
  f1 : Int
  f2 : Bool
/-! #### struct type 63 -/
structure S63 where
  f0 : (Nat × Nat)
  f1 : Bool
/-! #### struct type 35 -/
structure S35 where
  f0 : Int
  f1 : (Nat × Nat)
  f2 : Bool
/-! #### struct type 38 -/
structure S38 where
  f0 : Int
  f1 : (Nat × Nat)
  f2 : Bool
end Go.Proofs.Ytgfbejlggakkhaa.Q
