/-
  Cuts and gaps, both ways; the law of axes.
-/
import Derived.Test.YtgfbejlggakkhaaSl2
import Derived.Test.YtgfbejlggakkhaaQx8
namespace Go.Proofs.Ytgfbejlggakkhaa.Hand
open Go.RowKit Go.Proofs.Ytgfbejlggakkhaa.Q Go.Proofs.YtgfbejlggakkhaaW.PrintWords Go.Proofs.YtgfbejlggakkhaaW.PrintLast Go.Proofs.YtgfbejlggakkhaaW.PrintMore Go.Proofs.Ytgfbejlggakkhaa.F64
set_option linter.unusedVariables false

theorem ford_refl {x : Nat} (h : (Ieee.double.read x).isNaN = false) : (ford x x == some .eq) = true := by
  have := ne_self x
  rw [h] at this
  simpa using this
theorem num_of {x : Nat} (h : num1 x = true) : ∃ s m p, Ieee.double.read x = .number s m p := by
  unfold num1 at h
  cases hr : Ieee.double.read x with
  | number s m p => exact ⟨_, _, _, rfl⟩
  | infinity s => rw [hr] at h; cases h
  | nan s t => rw [hr] at h; cases h
theorem G_nan {n : Int} {x : Nat} (h : G K n x) : (Ieee.double.read x).isNaN = false := by
  obtain ⟨a, b, c, h⟩ := G_num h
  rw [h]; rfl
theorem pt_num {size e : Int} (h : Known size e) (label : Int) (h0 : 0 ≤ label) (h1 : label < size) :
    (∃ s m p, Ieee.double.read (rdOf ((0, 0) : Nat × Nat) (listOf size) label).1 = .number s m p) ∧ (∃ s m p, Ieee.double.read (rdOf ((0, 0) : Nat × Nat) (listOf size) label).2 = .number s m p) := by
  have hl := h.len
  obtain ⟨n, rfl⟩ := Int.eq_ofNat_of_zero_le h0
  have hn : n < (listOf size).length := by omega
  have hm : rdOf ((0, 0) : Nat × Nat) (listOf size) (n : Int) ∈ listOf size := by simp [rdOf, hn]
  have := List.all_eq_true.1 h.num _ hm
  unfold num2 at this
  rw [Bool.and_eq_true] at this
  exact ⟨num_of this.1, num_of this.2⟩
theorem gap_both (c p : Nat × Nat) (h1 : ∃ n, G K n c.1) (h2 : ∃ n, G K n c.2) (h3 : ∃ s m q, Ieee.double.read p.1 = .number s m q) (h4 : ∃ s m q, Ieee.double.read p.2 = .number s m q) :
    ∃ g, slice_gap.f c p = some g ∧ foghornref05_gap.f c p = some g ∧ (Ieee.double.read g).isNaN = false := by
  obtain ⟨n1, h1⟩ := h1
  obtain ⟨n2, h2⟩ := h2
  obtain ⟨d1, e1, f1⟩ := sub_num (G_num h1) h3
  obtain ⟨d2, e2, f2⟩ := sub_num (G_num h2) h4
  obtain ⟨q1, e3, f3⟩ := sq_good f1
  obtain ⟨q2, e4, f4⟩ := sq_good f2
  obtain ⟨g, e5, f5⟩ := add_good f3 f4
  refine ⟨g, ?_, ?_, f5⟩
  · unfold slice_gap.f
    simp only [e1, e2, e3, e4, e5, Option.bind_some]
  · unfold foghornref05_gap.f
    simp only [e1, e2, e3, e4, e5, Option.bind_some]
theorem cut_both (size : Int) (z : Nat × Nat) (lx : z.1 < 2 ^ 64) (ly : z.2 < 2 ^ 64) :
    ∃ (c : Nat × Nat) (r : Int), slice_Cut.f size z = some (c, r) ∧ Ev (fun k => foghornref05_Cut.f k size z) (c, r) ∧ (Ieee.double.read c.1).isNaN = false ∧ (Ieee.double.read c.2).isNaN = false ∧
      ((r = 1 ∧ c = (0, 0)) ∨ (r = 0 ∧ ∃ e, Known size e ∧ (Ieee.double.read z.1).isNaN = false ∧ (Ieee.double.read z.2).isNaN = false ∧ slice_cut.f z e = some c ∧ (∃ n, G K n c.1 ∧ -e * 2 ^ K ≤ n ∧ n ≤ e * 2 ^ K) ∧ (∃ n, G K n c.2 ∧ -e * 2 ^ K ≤ n ∧ n ≤ e * 2 ^ K))) := by
  have z0 : (Ieee.double.read 0).isNaN = false := by decide
  have bad : ∀ x6 : Int, Ev (fun k => foghornref05_Cut.j0 k z x6 true) (((0, 0), 1) : (Nat × Nat) × Int) := fun x6 => ⟨1, fun k hk => by
    obtain ⟨j, rfl⟩ : ∃ j, k = j + 1 := ⟨k - 1, by omega⟩
    rfl⟩
  have good : ∀ (x6 : Int) (q : (Nat × Nat) × Int), ((foghornref05_cut.f z.1 x6).bind fun t => ((foghornref05_cut.f z.2 x6).bind fun u => some ((t, u), (0 : Int)))) = some q → Ev (fun k => foghornref05_Cut.j0 k z x6 false) q := fun x6 q h => ⟨1, fun k hk => by
    obtain ⟨j, rfl⟩ : ∃ j, k = j + 1 := ⟨k - 1, by omega⟩
    exact h⟩
  rcases known size with ⟨e, hk⟩ | ⟨h1, h2, _⟩
  · have hE : points_Edge.f size = some (e, 0) := by show some (edgeF size) = _; rw [hk.edge]
    cases hx : (Ieee.double.read z.1).isNaN with
    | true =>
      refine ⟨(0, 0), 1, ?_, ?_, z0, z0, .inl ⟨rfl, rfl⟩⟩
      · unfold slice_Cut.f
        rw [hE, nan_prog, hx]
        rfl
      · unfold foghornref05_Cut.f
        rw [hk.ref]
        exact ev_some (ev_pos rfl (ev_pos (by rw [ne_self, hx]) (bad _)))
    | false =>
      cases hy : (Ieee.double.read z.2).isNaN with
      | true =>
        refine ⟨(0, 0), 1, ?_, ?_, z0, z0, .inl ⟨rfl, rfl⟩⟩
        · unfold slice_Cut.f
          rw [hE, nan_prog, hx, hy]
          rfl
        · unfold foghornref05_Cut.f
          rw [hk.ref, ne_self z.2, hy]
          exact ev_some (ev_pos rfl (ev_neg (by rw [ne_self, hx]; exact Bool.false_ne_true) (bad _)))
      | false =>
        obtain ⟨c, p1, p2, p3, g1, g2⟩ := cut_prog z e hk.lo hk.hi hx hy lx ly
        obtain ⟨n1, g1, b1⟩ := g1
        obtain ⟨n2, g2, b2⟩ := g2
        refine ⟨c, 0, ?_, ?_, G_nan g1, G_nan g2, .inr ⟨rfl, e, hk, rfl, rfl, p1, ⟨n1, g1, b1⟩, ⟨n2, g2, b2⟩⟩⟩
        · unfold slice_Cut.f
          rw [hE, nan_prog, hx, hy]
          show ((slice_cut.f z e).bind fun t => some (t, (0 : Int))) = _
          rw [p1]; rfl
        · unfold foghornref05_Cut.f
          rw [hk.ref, ne_self z.2, hy]
          refine ev_some (ev_pos rfl (ev_neg (by rw [ne_self, hx]; exact Bool.false_ne_true) (good _ _ ?_)))
          rw [p2, Option.bind_some, p3]
          rfl
  · refine ⟨(0, 0), 1, ?_, ?_, z0, z0, .inl ⟨rfl, rfl⟩⟩
    · unfold slice_Cut.f
      have hE : points_Edge.f size = some (0, 1) := by show some (edgeF size) = _; rw [h1]
      rw [hE]
      rfl
    · unfold foghornref05_Cut.f
      rw [h2]
      exact ev_some (ev_neg (by decide) (bad _))
theorem gap_all (size : Int) (z : Nat × Nat) (label : Int) (lx : z.1 < 2 ^ 64) (ly : z.2 < 2 ^ 64) :
    ∃ (g : Nat) (r : Int), slice_Gap.f size z label = some (g, r) ∧ Ev (fun k => foghornref05_Gap.f k size z label) (g, r) ∧ (Ieee.double.read g).isNaN = false := by
  have z0 : (Ieee.double.read 0).isNaN = false := by decide
  obtain ⟨c, r, hp, hr, n1, n2, hc⟩ := cut_both size z lx ly
  rcases known size with ⟨e, hk⟩ | ⟨h1, h2, h3, h4, h5⟩
  · by_cases hl : 0 ≤ label ∧ label < size
    · have ha := known_at hk label
      rw [if_pos hl] at ha
      have hb := known_ref_at hk label
      rcases hc with ⟨rfl, rfl⟩ | ⟨rfl, e', hk', hx, hy, hcut, g1, g2⟩
      · refine ⟨0, 1, ?_, ?_, z0⟩
        · unfold slice_Gap.f
          rw [ha, hp]; rfl
        · unfold foghornref05_Gap.f
          refine Ev.bind hb (Ev.bind hr ?_)
          rw [if_pos hl]
          exact ev_pos rfl (ev_neg (by decide) (Ev.now _))
      · obtain ⟨a, b⟩ := pt_num hk label hl.1 hl.2
        obtain ⟨g, q1, q2, q3⟩ := gap_both c _ (by obtain ⟨n, h, _⟩ := g1; exact ⟨n, h⟩) (by obtain ⟨n, h, _⟩ := g2; exact ⟨n, h⟩) a b
        refine ⟨g, 0, ?_, ?_, q3⟩
        · unfold slice_Gap.f
          rw [ha, hp]
          show ((slice_gap.f c (rdOf ((0, 0) : Nat × Nat) (listOf size) label)).bind fun t => some (t, (0 : Int))) = _
          rw [q1]; rfl
        · unfold foghornref05_Gap.f
          refine Ev.bind hb (Ev.bind hr ?_)
          rw [if_pos hl]
          refine ev_pos rfl (ev_pos rfl ?_)
          rw [q2]
          exact ev_some (Ev.now _)
    · have ha := known_at hk label
      rw [if_neg hl] at ha
      have hb := known_ref_at hk label
      refine ⟨0, 1, ?_, ?_, z0⟩
      · unfold slice_Gap.f
        rw [ha, hp]; rfl
      · unfold foghornref05_Gap.f
        refine Ev.bind hb (Ev.bind hr ?_)
        rw [if_neg hl]
        exact ev_neg (by decide) (Ev.now _)
  · refine ⟨0, 1, ?_, ?_, z0⟩
    · unfold slice_Gap.f
      have ha : points_At.f size label = some ((0, 0), 1) := h4 label
      rw [ha, hp]; rfl
    · unfold foghornref05_Gap.f
      have hb : Ev (fun k => foghornref04_At.f k size label) (((0, 0), 1) : (Nat × Nat) × Int) := by
        unfold foghornref04_At.f
        exact Ev.bind h5 (ev_neg (by decide) (Ev.now _))
      exact Ev.bind hb (Ev.bind hr (ev_neg (by decide) (Ev.now _)))
theorem u64_lt {n : Int} (h : (Lit.int .u64 n).wf = true) : n.toNat < 2 ^ 64 := by
  have h2 : (decide (IntKind.u64.min ≤ n) && decide (n ≤ IntKind.u64.max)) = true := h
  have e1 : IntKind.u64.min = 0 := by decide
  have e2 : IntKind.u64.max = 18446744073709551615 := by decide
  rw [e1, e2, Bool.and_eq_true, decide_eq_true_eq, decide_eq_true_eq] at h2
  omega
theorem axes_pure (a0 a1 a2 a3 a4 : Int) (h0 : (Lit.int .u64 a0).wf = true) (h1 : (Lit.int .u64 a1).wf = true) : ∃ k, foghornlaw05_SliceAxes.f k a0 a1 a2 a3 a4 = some true := by
  have l0 := u64_lt h0
  have l1 := u64_lt h1
  obtain ⟨r1, r2, p1, q1, _⟩ := axis_both a0.toNat a2
  obtain ⟨c, r, p2, q2, n1, n2, _⟩ := cut_both a3 (a0.toNat, a1.toNat) l0 l1
  obtain ⟨g, s, p3, q3, n3⟩ := gap_all a3 (a0.toNat, a1.toNat) a4 l0 l1
  have E1 : Ev (fun k => foghornref05_Axis.f k a0.toNat a2) (r1, r2) := ⟨20, fun k hk => by
    obtain ⟨j, rfl⟩ : ∃ j, k = j + 20 := ⟨k - 20, by omega⟩
    exact q1 j⟩
  have E2 : Ev (fun k => slice_Axis.f k a0.toNat a2) (r1, r2) := ⟨20, fun k hk => by
    obtain ⟨j, rfl⟩ : ∃ j, k = j + 20 := ⟨k - 20, by omega⟩
    exact p1 j⟩
  refine Ev.rounds ?_
  unfold foghornlaw05_SliceAxes.f foghornlaw05_number.f
  refine ev_some (Ev.bind E1 (Ev.bind E2 (Ev.bind q2 ?_)))
  · rw [p2]
    refine ev_some (Ev.bind q3 ?_)
    rw [p3]
    refine ev_some (ev_pos rfl (ev_pos rfl (ev_pos ?_ (ev_pos rfl (ev_pos (ford_refl n3) (ev_to (Ev.now _) (by simp)))))))
    simp only [ford_refl n1, ford_refl n2, Bool.and_self]
end Go.Proofs.Ytgfbejlggakkhaa.Hand
