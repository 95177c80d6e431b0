-- by this place's own print2.py over the kit's print
import Derived.Test.YtgfbejlggakkhaaQx0
namespace Go.Proofs.Ytgfbejlggakkhaa.Q
open Go.RowKit Go.Proofs.YtgfbejlggakkhaaW.PrintWords Go.Proofs.YtgfbejlggakkhaaW.PrintLast Go.Proofs.YtgfbejlggakkhaaW.PrintMore
attribute [local go_sem] vres_some fres_some cres_some ires_some run_f_add run_f_sub run_f_mul run_f_quo run_c_add run_c_sub run_f_int run_f_same unary_f_neg run_max2_f run_min2_f run_store_float run_store_complex ext_Float64bits ext_Float64frombits ext_archFloor ext_archCeil ext_archTrunc ext_archMax ext_archMin max2_int min2_int max_two min_two max_three min_three max_four min_four   -- for this text's walks alone
set_option linter.unusedVariables false
set_option linter.unusedSimpArgs false

theorem eqA38 (d : Nat) (w : World) (x0 y0 : Int) (x1a x1b y1a y1b : Nat) (x2 y2 : Bool) :
    (Op.equalIn (d + 2) 38 (.agg #[.int .i64 x0, .complex .f64 x1a x1b, .bool x2]) (.agg #[.int .i64 y0, .complex .f64 y1a y1b, .bool y2])).run Try.prog w = .ok (x0 == y0 && ((ford x1a y1a == some .eq && ford x1b y1b == some .eq) && (x2 == y2))) w := by
  refine eqA_of Try.underlying38 (by kernel_rfl) ?_
  refine eqf_cons (by rfl) (by first | (go_simp; done) | (go_simp; rfl)) (by first | (go_simp; done) | (go_simp; rfl)) (by go_simp) ?_
  refine eqf_cons (by rfl) (by first | (go_simp; done) | (go_simp; rfl)) (by first | (go_simp; done) | (go_simp; rfl)) (run_equalIn_c128 w Try.underlying23 _ _ _ _ _) ?_
  exact eqf_last (by rfl) (by first | (go_simp; done) | (go_simp; rfl)) (by first | (go_simp; done) | (go_simp; rfl)) (by go_simp)
end Go.Proofs.Ytgfbejlggakkhaa.Q
