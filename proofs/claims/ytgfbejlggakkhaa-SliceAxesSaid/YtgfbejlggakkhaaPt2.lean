/-
  The constellations: all points of a set.
-/
import Derived.Test.YtgfbejlggakkhaaPt1
namespace Go.Proofs.Ytgfbejlggakkhaa.Hand
open Go.RowKit Go.Proofs.Ytgfbejlggakkhaa.Q Go.Proofs.YtgfbejlggakkhaaW.PrintWords Go.Proofs.YtgfbejlggakkhaaW.PrintLast Go.Proofs.YtgfbejlggakkhaaW.PrintMore
set_option linter.unusedVariables false
attribute [local go_sem] vres_some fres_some cres_some ires_some run_store_float run_store_complex

/-- all points, by their labels -/
def allF (size : Int) : Option (List (Nat × Nat) × Int) :=
  match setF size with
  | none => some ([], 1)
  | some (_, _, pt) => ((List.range size.toNat).mapM fun i : Nat => pt (i : Int)).map fun l => (l, 0)
theorem mapM_get {α β : Type} {f : α → Option β} : ∀ {xs : List α} {ys : List β}, xs.mapM f = some ys → ys.length = xs.length ∧ ∀ (i : Nat) (x : α), xs[i]? = some x → f x = ys[i]?
  | [], ys, h => by
    simp at h
    subst h
    exact ⟨rfl, fun i x hx => by simp at hx⟩
  | a :: xs, ys, h => by
    rw [List.mapM_cons] at h
    obtain ⟨y, hy, h⟩ := Option.bind_eq_some_iff.mp h
    obtain ⟨zs, hz, h⟩ := Option.bind_eq_some_iff.mp h
    obtain rfl := Option.some.inj h
    obtain ⟨h1, h2⟩ := mapM_get hz
    refine ⟨by simp [h1], fun i x hx => ?_⟩
    cases i with
    | zero => simp at hx; subst hx; simpa using hy
    | succ i => simpa using h2 i x (by simpa using hx)
/-- the row while it is filled -/
def ptsTo (l : List (Nat × Nat)) (n i : Nat) : List (Nat × Nat) := (List.range n).map (fun j : Nat => if j < i then rdOf ((0, 0) : Nat × Nat) l (j : Int) else (0, 0))
theorem ptsTo_zero (l : List (Nat × Nat)) (n : Nat) : List.replicate n ((0, 0) : Nat × Nat) = ptsTo l n 0 :=
  List.ext_getElem (by simp [ptsTo]) fun j h1 h2 => by simp [ptsTo]
theorem ptsTo_done (l : List (Nat × Nat)) : ptsTo l l.length l.length = l := by
  refine List.ext_getElem (by simp [ptsTo]) fun j h1 h2 => ?_
  simp [ptsTo, rdOf, h2]
theorem ptsTo_set (l : List (Nat × Nat)) (n i : Nat) : (ptsTo l n i).set i (rdOf ((0, 0) : Nat × Nat) l (i : Int)) = ptsTo l n (i + 1) := by
  refine List.ext_getElem (by simp [ptsTo]) fun j h1 h2 => ?_
  by_cases hj : i = j
  · subst hj; simp [ptsTo]
  · rw [List.getElem_set_ne hj]
    have : (j < i) = (j < i + 1) := by rw [eq_iff_iff]; omega
    simp [ptsTo, this]
set_option maxHeartbeats 4000000 in
set_option maxRecDepth 100000 in
theorem all_calls (size : Int) (r1 : List (Nat × Nat)) (r2 : Int) (w : World) (h : allF size = some (r1, r2)) :
    Calls Try.prog 85 #[.int .i64 size] w fun e w' => ∃ v0_ : Value, e = .returned (.tuple #[v0_, .int .i64 r2]) ∧ Kd.R Kd.c128 23 w' w.heap.size (fun _ => True) v0_ r1 ∧ Below w.heap.size w w' := by
  unfold allF at h
  cases hs : setF size with
  | none =>
    rw [hs] at h
    obtain ⟨rfl, rfl⟩ := Prod.mk.inj (Option.some.inj h)
    go_enter Try.func85, Try.ntmps85
    go_wp2_with ((with_reducible refine gate_callee (f := 56) rfl ?_); refine goesL_ (some 10) rfl rfl Try.func56 (by kernel_rfl) rfl #[.int .i64 size] rfl (by (try simp only [List.map_toArray, List.map_cons, List.map_nil]); first | done | rfl) ?_; (with_reducible refine (of_calls size _).mono ?_); rintro e w' ⟨v, ok, rfl, hb, hn, _⟩; obtain ⟨rfl, rfl⟩ := hn hs; refine ⟨_, rfl, ?_⟩)
    go_ret2
    exact ⟨_, rfl, Kd.R_nil _ _ _ _ _, below_step hb (below_alloc (Below.refl _ _) _)⟩
  | some q =>
    obtain ⟨b, ed, pt⟩ := q
    rw [hs] at h
    obtain ⟨l, hl, h⟩ := Option.map_eq_some_iff.mp h
    obtain ⟨rfl, rfl⟩ := Prod.mk.inj h
    obtain ⟨hlen, hget⟩ := mapM_get hl
    obtain ⟨n, hn, h0⟩ : ∃ n : Nat, size = n ∧ 0 < n ∧ n ≤ 256 := by
      unfold setF at hs
      by_cases c4 : size = 4
      · exact ⟨4, by omega, by omega, by omega⟩
      by_cases c16 : size = 16
      · exact ⟨16, by omega, by omega, by omega⟩
      by_cases c32 : size = 32
      · exact ⟨32, by omega, by omega, by omega⟩
      by_cases c64 : size = 64
      · exact ⟨64, by omega, by omega, by omega⟩
      by_cases c128 : size = 128
      · exact ⟨128, by omega, by omega, by omega⟩
      by_cases c256 : size = 256
      · exact ⟨256, by omega, by omega, by omega⟩
      rw [if_neg c4, if_neg c16, if_neg c32, if_neg c64, if_neg c128, if_neg c256] at hs
      cases hs
    subst hn
    have hlen' : l.length = n := by rw [hlen]; simp
    have hpt : ∀ i : Nat, i < n → pt (i : Int) = some (rdOf ((0, 0) : Nat × Nat) l (i : Int)) := fun i hi => by
      have h1 := hget i i (by simp [hi])
      rw [h1]
      simp [rdOf, hlen', hi]
    clear hget hl hlen
    go_enter Try.func85, Try.ntmps85
    go_upto_region 4 with ((with_reducible refine gate_callee (f := 56) rfl ?_); refine goesL_ (some 10) rfl rfl Try.func56 (by kernel_rfl) rfl #[.int .i64 (n : Int)] rfl (by (try simp only [List.map_toArray, List.map_cons, List.map_nil]); first | done | rfl) ?_; (with_reducible refine (of_calls (n : Int) _).mono ?_); rintro e w' ⟨v, ok, rfl, hb, _, hS⟩; obtain ⟨rfl, fn, g1, g2, g3, rfl, hf, hgs, hC⟩ := hS b ed pt hs; refine ⟨_, rfl, ?_⟩)
    have sz5 : (w'.alloc (Obj.cells #[Value.int IntKind.i64 b, Value.int IntKind.i64 ed, Value.func (Fn.func fn) #[] #[Value.pointer (some { block := g1, off := 0 }), Value.pointer (some { block := g2, off := 0 })]] 88)).heap.size = w'.heap.size + 1 := World.size_alloc _ _
    have q5 : (w'.alloc (Obj.cells #[Value.int IntKind.i64 b, Value.int IntKind.i64 ed, Value.func (Fn.func fn) #[] #[Value.pointer (some { block := g1, off := 0 }), Value.pointer (some { block := g2, off := 0 })]] 88)).heap[w'.heap.size]? = some _ := heap_alloc_new w' _
    have B5 : Below w.heap.size w (w'.alloc (Obj.cells #[Value.int IntKind.i64 b, Value.int IntKind.i64 ed, Value.func (Fn.func fn) #[] #[Value.pointer (some { block := g1, off := 0 }), Value.pointer (some { block := g2, off := 0 })]] 88)) := below_step hb (below_alloc (Below.refl _ _) _)
    have C5 : ∀ w1 : World, (∀ k, k < w'.heap.size + 1 → w1.heap[k]? = (w'.alloc (Obj.cells #[Value.int IntKind.i64 b, Value.int IntKind.i64 ed, Value.func (Fn.func fn) #[] #[Value.pointer (some { block := g1, off := 0 }), Value.pointer (some { block := g2, off := 0 })]] 88)).heap[k]?) → ∀ l r, pt l = some r → Calls Try.prog fn #[.int .i64 l, .pointer (some ⟨g1, 0, none⟩), .pointer (some ⟨g2, 0, none⟩)] w1 fun e w' => e = .returned (.complex .f64 r.1 r.2) ∧ Drawn0 w1 w' :=
      fun w1 h1 => hC w1 (fun g hg => by rw [h1 g (by have := (hgs g hg).2; omega)]; exact (below_alloc (Below.refl _ _) _).block g (hgs g hg).2)
    clear hC hgs hs h
    generalize (w'.alloc (Obj.cells #[Value.int IntKind.i64 b, Value.int IntKind.i64 ed, Value.func (Fn.func fn) #[] #[Value.pointer (some { block := g1, off := 0 }), Value.pointer (some { block := g2, off := 0 })]] 88)) = W5 at sz5 q5 B5 C5 ⊢
    have S5 := Aside0.mk sz5
    have Q5 := Aside0.mk q5
    have D5 := Aside0.mk B5
    have E5 := Aside0.mk C5
    have F5 := Aside0.mk hpt
    clear sz5 q5 B5 C5 hpt
    go_wp2_with ((with_reducible refine gate_dst (N := 16) rfl ?_); refine Kd.R_make Kd.c128 _ 23 rfl (N := 16) rfl 79 _ _ rfl (n : Int) rfl rfl Try.underlying79 (.complex .f64 0 0) 16 (by kernel_rfl) rfl (by decide) (by omega) ((0, 0) : Nat × Nat) (ok := fun _ => True) (okp := fun _ => True) rfl (fun _ hk => hk) trivial (by omega) (by simp only [Int.toNat_natCast]; omega) (Below.refl _ _) (Nat.le_refl _) ?_; intro v w6 hR6 hB6 hg6 hnew6; clear hg6 hnew6; obtain ⟨g, c, rfl, hgl, _⟩ := Kd.R_form hR6 (by simp; omega); have R6 := Aside0.mk hR6; have B6 := Aside0.mk hB6; have G6 := Aside0.mk hgl; clear hR6 hB6 hgl)
    rw [show (List.replicate ((n : Int)).toNat ((0, 0) : Nat × Nat)).length = n from by simp] at R6
    rw [show (List.replicate ((n : Int)).toNat ((0, 0) : Nat × Nat)) = ptsTo l n 0 from ptsTo_zero l n] at R6
    go_loopg [19] (n + 1) (fun kq v19 wz => ∃ i : Nat, v19 = .int .i64 (i : Int) ∧ i ≤ n ∧ Aside0 (n - i < kq) ∧ Aside0 (Kd.R Kd.c128 23 wz W5.heap.size (fun _ => True) (.slice (some ⟨g, 0, none⟩) n c) (ptsTo l n i)) ∧ Aside0 (∀ k, k < w'.heap.size + 1 → wz.heap[k]? = W5.heap[k]?) ∧ Aside0 (Below w.heap.size w wz))
    case atStart =>
      exact ⟨0, rfl, Nat.zero_le _, ⟨by omega⟩, R6, ⟨fun k hk => B6.out.block k (by have := S5.out; omega)⟩, ⟨below_then D5.out (by have := S5.out; have := hb.size; omega) B6.out⟩⟩
    case round =>
      obtain ⟨i, rfl, hile, HM, HRr, HKr, HBr⟩ := hrel
      by_cases hin : i < n
      · have c1 : decide ((i : Int) < (n : Int)) = true := decide_eq_true (by omega)
        have hq := (HKr.out _ (by omega)).trans Q5.out
        have z2 := (blk_cell hq 2).trans (rfl : _ = some (Value.func (Fn.func fn) #[] #[Value.pointer (some { block := g1, off := 0 }), Value.pointer (some { block := g2, off := 0 })]))
        clear hq
        have hcell := Kd.R_celln (enc := fun z : Nat × Nat => Value.complex .f64 z.1 z.2) ((0, 0) : Nat × Nat) HRr.out (i : Int) (by omega) (by omega)
        simp only [Int.toNat_natCast] at hcell
        obtain ⟨z3, z4⟩ := hcell
        have p1 : (0 ≤ (i : Int)) = True := eq_true (by omega)
        have p2 : ((i : Int) < (n : Int)) = True := eq_true (by omega)
        rcases hf with rfl | rfl
        · skip
          go_wp2_with ((go_at_call 79; refine Calls.mono (E5.out wr HKr.out _ _ (F5.out i hin)) ?_; rintro e w'' ⟨rfl, ⟨nd, rfl⟩⟩))
          go_roundg (n - i)
          case measure => exact HM.out
          case rel =>
            have hR := Kd.R_putn (enc := fun z : Nat × Nat => Value.complex .f64 z.1 z.2) (Kd.R_drewN HRr.out nd) (i : Int) (rdOf ((0, 0) : Nat × Nat) l (i : Int))
            simp only [Int.toNat_natCast] at hR
            rw [ptsTo_set] at hR
            refine ⟨i + 1, ?_, by omega, ⟨by omega⟩, ⟨hR⟩, ⟨fun k hk => ?_⟩, ⟨(pw_below_drewN HBr.out nd).setCell ?_ _⟩⟩
            · exact congrArg (Value.int .i64) (by omega)
            · rw [Below.heap_setCell _ _ _ _ (show k ≠ g by have := S5.out; have := G6.out; omega)]
              exact HKr.out k hk
            · show w.heap.size ≤ g
              have := G6.out; have := S5.out; have := hb.size; omega
        · skip
          go_wp2_with ((go_at_call 80; refine Calls.mono (E5.out wr HKr.out _ _ (F5.out i hin)) ?_; rintro e w'' ⟨rfl, ⟨nd, rfl⟩⟩))
          go_roundg (n - i)
          case measure => exact HM.out
          case rel =>
            have hR := Kd.R_putn (enc := fun z : Nat × Nat => Value.complex .f64 z.1 z.2) (Kd.R_drewN HRr.out nd) (i : Int) (rdOf ((0, 0) : Nat × Nat) l (i : Int))
            simp only [Int.toNat_natCast] at hR
            rw [ptsTo_set] at hR
            refine ⟨i + 1, ?_, by omega, ⟨by omega⟩, ⟨hR⟩, ⟨fun k hk => ?_⟩, ⟨(pw_below_drewN HBr.out nd).setCell ?_ _⟩⟩
            · exact congrArg (Value.int .i64) (by omega)
            · rw [Below.heap_setCell _ _ _ _ (show k ≠ g by have := S5.out; have := G6.out; omega)]
              exact HKr.out k hk
            · show w.heap.size ≤ g
              have := G6.out; have := S5.out; have := hb.size; omega
      · obtain rfl : i = n := by omega
        have c1 : decide ((i : Int) < (i : Int)) = false := decide_eq_false (by omega)
        go_wp2
        go_ret2
        refine ⟨_, rfl, ?_, HBr.out⟩
        have := HRr.out
        have e := ptsTo_done l
        rw [hlen'] at e
        rw [e] at this
        exact Kd.R_lower this (by have := S5.out; have := hb.size; omega)
end Go.Proofs.Ytgfbejlggakkhaa.Hand
