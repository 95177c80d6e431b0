-- by this place's own print2.py over the kit's print
import Derived.Test.YtdgeapgfpikcmaaQx0
import Derived.Test.YtdgeapgfpikcmaaQx6
namespace Go.Proofs.Ytdgeapgfpikcmaa.Q
open Go.RowKit Go.Proofs.YtdgeapgfpikcmaaV.PrintWords Go.Proofs.YtdgeapgfpikcmaaV.PrintLast Go.Proofs.YtdgeapgfpikcmaaV.PrintMore
attribute [local go_sem] max2_int min2_int max_two min_two max_three min_three max_four min_four   -- for this text's walks alone
set_option linter.unusedVariables false
set_option linter.unusedSimpArgs false

/-! ### foghornlaw20_sent: function 10 -/
def foghornlaw20_sent.f (k : Nat) (a0 : ByteArray) (a1 : Int) : Option (ByteArray × Int) := if (a0.size : Int) > (wrap64 (255 - (wrap64 (2 + (wrap64 (2 * (Int.tmod (wrap64 ((Int.tmod a1 32) + 32)) 32))))))) then (if 0 ≤ (wrap64 (255 - (wrap64 (2 + (wrap64 (2 * (Int.tmod (wrap64 ((Int.tmod a1 32) + 32)) 32))))))) then (if (wrap64 (255 - (wrap64 (2 + (wrap64 (2 * (Int.tmod (wrap64 ((Int.tmod a1 32) + 32)) 32))))))) ≤ (a0.size : Int) then (if (a0.extract 0 ((wrap64 (255 - (wrap64 (2 + (wrap64 (2 * (Int.tmod (wrap64 ((Int.tmod a1 32) + 32)) 32))))))) : Int).toNat).toList = ([] : List UInt8) then ((foghornref19_Encode.f k (⟨#[97]⟩ : ByteArray) (wrap64 (2 + (wrap64 (2 * (Int.tmod (wrap64 ((Int.tmod a1 32) + 32)) 32)))))).bind fun bt228 => (some (bt228.1, wrap64 (2 + (wrap64 (2 * (Int.tmod (wrap64 ((Int.tmod a1 32) + 32)) 32))))))) else ((foghornref19_Encode.f k (a0.extract 0 ((wrap64 (255 - (wrap64 (2 + (wrap64 (2 * (Int.tmod (wrap64 ((Int.tmod a1 32) + 32)) 32))))))) : Int).toNat) (wrap64 (2 + (wrap64 (2 * (Int.tmod (wrap64 ((Int.tmod a1 32) + 32)) 32)))))).bind fun bt230 => (some (bt230.1, wrap64 (2 + (wrap64 (2 * (Int.tmod (wrap64 ((Int.tmod a1 32) + 32)) 32)))))))) else (none)) else (none)) else (if a0.toList = ([] : List UInt8) then ((foghornref19_Encode.f k (⟨#[97]⟩ : ByteArray) (wrap64 (2 + (wrap64 (2 * (Int.tmod (wrap64 ((Int.tmod a1 32) + 32)) 32)))))).bind fun bt232 => (some (bt232.1, wrap64 (2 + (wrap64 (2 * (Int.tmod (wrap64 ((Int.tmod a1 32) + 32)) 32))))))) else ((foghornref19_Encode.f k a0 (wrap64 (2 + (wrap64 (2 * (Int.tmod (wrap64 ((Int.tmod a1 32) + 32)) 32)))))).bind fun bt234 => (some (bt234.1, wrap64 (2 + (wrap64 (2 * (Int.tmod (wrap64 ((Int.tmod a1 32) + 32)) 32))))))))
theorem foghornlaw20_sent.mono : ∀ a0 a1 k, LeO (foghornlaw20_sent.f k a0 a1) (foghornlaw20_sent.f (k + 1) a0 a1) := by
  intro a0 a1 k
  unfold foghornlaw20_sent.f
  repeat' first
      | (with_reducible exact foghornref19_Encode.mono _ _ _)
      | (with_reducible exact LeO.refl _)
      | (with_reducible exact LeO.none _)
      | (with_reducible refine LeO.ite ?_ ?_)
      | (with_reducible refine LeO.bind ?_ (fun _ => ?_))
      | exact foghornref19_Encode.mono _ _ _
      | exact LeO.none _
      | refine LeO.ite ?_ ?_
      | refine LeO.bind ?_ (fun _ => ?_)
set_option maxHeartbeats 8000000 in
set_option maxRecDepth 100000 in
theorem foghornlaw20_sent.calls (k : Nat) (a0 : ByteArray) (a1 : Int) (r1 : ByteArray) (r2 : Int) (w : World) (h : foghornlaw20_sent.f k a0 a1 = some (r1, r2)) :
    Calls Try.prog 10 #[.string a0, .int .i64 a1] w fun e w' => e = .returned (.tuple #[.string r1, .int .i64 r2]) ∧ Below w.heap.size w w' := by
  have HB := Aside0.mk (Below.refl w.heap.size w)
  have H : (if (a0.size : Int) > (wrap64 (255 - (wrap64 (2 + (wrap64 (2 * (Int.tmod (wrap64 ((Int.tmod a1 32) + 32)) 32))))))) then (if 0 ≤ (wrap64 (255 - (wrap64 (2 + (wrap64 (2 * (Int.tmod (wrap64 ((Int.tmod a1 32) + 32)) 32))))))) then (if (wrap64 (255 - (wrap64 (2 + (wrap64 (2 * (Int.tmod (wrap64 ((Int.tmod a1 32) + 32)) 32))))))) ≤ (a0.size : Int) then (if (a0.extract 0 ((wrap64 (255 - (wrap64 (2 + (wrap64 (2 * (Int.tmod (wrap64 ((Int.tmod a1 32) + 32)) 32))))))) : Int).toNat).toList = ([] : List UInt8) then ((foghornref19_Encode.f k (⟨#[97]⟩ : ByteArray) (wrap64 (2 + (wrap64 (2 * (Int.tmod (wrap64 ((Int.tmod a1 32) + 32)) 32)))))).bind fun bt228 => (some (bt228.1, wrap64 (2 + (wrap64 (2 * (Int.tmod (wrap64 ((Int.tmod a1 32) + 32)) 32))))))) else ((foghornref19_Encode.f k (a0.extract 0 ((wrap64 (255 - (wrap64 (2 + (wrap64 (2 * (Int.tmod (wrap64 ((Int.tmod a1 32) + 32)) 32))))))) : Int).toNat) (wrap64 (2 + (wrap64 (2 * (Int.tmod (wrap64 ((Int.tmod a1 32) + 32)) 32)))))).bind fun bt230 => (some (bt230.1, wrap64 (2 + (wrap64 (2 * (Int.tmod (wrap64 ((Int.tmod a1 32) + 32)) 32)))))))) else (none)) else (none)) else (if a0.toList = ([] : List UInt8) then ((foghornref19_Encode.f k (⟨#[97]⟩ : ByteArray) (wrap64 (2 + (wrap64 (2 * (Int.tmod (wrap64 ((Int.tmod a1 32) + 32)) 32)))))).bind fun bt232 => (some (bt232.1, wrap64 (2 + (wrap64 (2 * (Int.tmod (wrap64 ((Int.tmod a1 32) + 32)) 32))))))) else ((foghornref19_Encode.f k a0 (wrap64 (2 + (wrap64 (2 * (Int.tmod (wrap64 ((Int.tmod a1 32) + 32)) 32)))))).bind fun bt234 => (some (bt234.1, wrap64 (2 + (wrap64 (2 * (Int.tmod (wrap64 ((Int.tmod a1 32) + 32)) 32))))))))) = some (r1, r2) := h
  clear h
  by_cases c3 : (a0.size : Int) > (wrap64 (255 - (wrap64 (2 + (wrap64 (2 * (Int.tmod (wrap64 ((Int.tmod a1 32) + 32)) 32)))))))
  · rw [if_pos c3] at H
    have c3b0 : decide ((wrap64 (255 - (wrap64 (2 + (wrap64 (2 * (Int.tmod (wrap64 ((Int.tmod a1 32) + 32)) 32))))))) < (a0.size : Int)) = true := decide_eq_true c3
    clear c3
    obtain ⟨ji4, hji4⟩ : ∃ j_ : Int, (wrap64 (255 - (wrap64 (2 + (wrap64 (2 * (Int.tmod (wrap64 ((Int.tmod a1 32) + 32)) 32))))))) = j_ := ⟨_, rfl⟩
    replace H : (if 0 ≤ (ji4) then (if (ji4) ≤ (a0.size : Int) then (if (a0.extract 0 ((ji4) : Int).toNat).toList = ([] : List UInt8) then ((foghornref19_Encode.f k (⟨#[97]⟩ : ByteArray) (wrap64 (2 + (wrap64 (2 * (Int.tmod (wrap64 ((Int.tmod a1 32) + 32)) 32)))))).bind fun bt228 => (some (bt228.1, wrap64 (2 + (wrap64 (2 * (Int.tmod (wrap64 ((Int.tmod a1 32) + 32)) 32))))))) else ((foghornref19_Encode.f k (a0.extract 0 ((ji4) : Int).toNat) (wrap64 (2 + (wrap64 (2 * (Int.tmod (wrap64 ((Int.tmod a1 32) + 32)) 32)))))).bind fun bt230 => (some (bt230.1, wrap64 (2 + (wrap64 (2 * (Int.tmod (wrap64 ((Int.tmod a1 32) + 32)) 32)))))))) else (none)) else (none)) = some (r1, r2) := by first | (rw [hji4] at H; exact H) | (simp only [hji4] at H ⊢; exact H)
    (try rw [hji4] at c3b0)
    have hji4w : (IntKind.i64.wrap (255 - (wrap64 (2 + (wrap64 (2 * (Int.tmod (wrap64 ((Int.tmod a1 32) + 32)) 32))))))) = ji4 := (i64_w _).trans hji4
    by_cases c5 : 0 ≤ (ji4)
    · rw [if_pos c5] at H
      have c5b0 := eq_true c5
      have c5b1 : decide (0 ≤ (ji4)) = true := decide_eq_true c5
      clear c5
      by_cases c6 : (ji4) ≤ (a0.size : Int)
      · rw [if_pos c6] at H
        have c6b0 := eq_true c6
        have c6b1 : decide ((ji4) ≤ (a0.size : Int)) = true := decide_eq_true c6
        clear c6
        by_cases c7 : (a0.extract 0 ((ji4) : Int).toNat).toList = ([] : List UInt8)
        · rw [if_pos c7] at H
          have c7b0 : ((a0.extract 0 ((ji4) : Int).toNat).toList == ([] : List UInt8)) = true := beq_iff_eq.mpr c7
          have c7b1 : ((a0.extract 0 ((ji4) : Int).toNat).toList != ([] : List UInt8)) = false := bne_eq_false_iff_eq.mpr c7
          clear c7
          replace H := Option.bind_eq_some_iff.mp H
          obtain ⟨⟨t228, t229⟩, A80, H⟩ := H
          replace H : (some (t228, wrap64 (2 + (wrap64 (2 * (Int.tmod (wrap64 ((Int.tmod a1 32) + 32)) 32)))))) = some (r1, r2) := H
          have A8 := Aside0.mk A80
          clear A80
          simp only [Option.some.injEq, Prod.mk.injEq] at H
          obtain ⟨rfl, rfl⟩ := H
          go_enter Try.func10, Try.ntmps10
          go_wp2_with (first | ((with_reducible refine gate_callee (f := 13) rfl ?_); refine goesL_ (some 28) rfl rfl Try.func13 (by kernel_rfl) rfl #[.string (⟨#[97]⟩ : ByteArray), .int .i64 (wrap64 (2 + (wrap64 (2 * (Int.tmod (wrap64 ((Int.tmod a1 32) + 32)) 32)))))] rfl (by (try simp only [List.map_toArray, List.map_cons, List.map_nil]); first | done | rfl | (simp only [List.length_drop, List.length_take]; rfl)) ?_; (with_reducible refine (foghornref19_Encode.calls k (⟨#[97]⟩ : ByteArray) (wrap64 (2 + (wrap64 (2 * (Int.tmod (wrap64 ((Int.tmod a1 32) + 32)) 32))))) t228 t229 _ A8.out).mono ?_); rintro e w9 ⟨rfl, hb⟩; refine ⟨_, rfl, ?_⟩; have n0_ := Aside0.mk (below_step (by repeat (first | (with_reducible first | exact HB.out | apply below_alloc | apply pw_below_drewN | apply below_drew1) | exact HB.out)) hb); clear HB; have HB := n0_; clear n0_; (try clear hb); (try clear hb2); (try clear hk); (try clear hi)))
          go_ret2
          exact ⟨by first | rfl | (simp [errW_none, errW_some] <;> rfl) | (simp only [← hji4]; first | rfl | (simp [errW_none, errW_some] <;> rfl)) | (simp [*, errW_none, errW_some] <;> rfl), by repeat (first | (with_reducible first | exact HB.out | apply below_alloc | apply pw_below_drewN | apply below_drew1) | exact HB.out)⟩
        · rw [if_neg c7] at H
          have c7b0 : ((a0.extract 0 ((ji4) : Int).toNat).toList == ([] : List UInt8)) = false := beq_eq_false_iff_ne.mpr c7
          have c7b1 : ((a0.extract 0 ((ji4) : Int).toNat).toList != ([] : List UInt8)) = true := bne_iff_ne.mpr c7
          replace H := Option.bind_eq_some_iff.mp H
          obtain ⟨⟨t230, t231⟩, A100, H⟩ := H
          replace H : (some (t230, wrap64 (2 + (wrap64 (2 * (Int.tmod (wrap64 ((Int.tmod a1 32) + 32)) 32)))))) = some (r1, r2) := H
          have A10 := Aside0.mk A100
          clear A100
          simp only [Option.some.injEq, Prod.mk.injEq] at H
          obtain ⟨rfl, rfl⟩ := H
          go_enter Try.func10, Try.ntmps10
          go_wp2_with (first | ((with_reducible refine gate_callee (f := 13) rfl ?_); refine goesL_ (some 28) rfl rfl Try.func13 (by kernel_rfl) rfl #[.string (a0.extract 0 ((ji4) : Int).toNat), .int .i64 (wrap64 (2 + (wrap64 (2 * (Int.tmod (wrap64 ((Int.tmod a1 32) + 32)) 32)))))] rfl (by (try simp only [List.map_toArray, List.map_cons, List.map_nil]); first | done | (simp only [hji4]; rfl) | rfl | (simp only [List.length_drop, List.length_take]; rfl)) ?_; (with_reducible refine (foghornref19_Encode.calls k (a0.extract 0 ((ji4) : Int).toNat) (wrap64 (2 + (wrap64 (2 * (Int.tmod (wrap64 ((Int.tmod a1 32) + 32)) 32))))) t230 t231 _ A10.out).mono ?_); rintro e w11 ⟨rfl, hb⟩; refine ⟨_, rfl, ?_⟩; have n0_ := Aside0.mk (below_step (by repeat (first | (with_reducible first | exact HB.out | apply below_alloc | apply pw_below_drewN | apply below_drew1) | exact HB.out)) hb); clear HB; have HB := n0_; clear n0_; (try clear hb); (try clear hb2); (try clear hk); (try clear hi)))
          go_ret2
          exact ⟨by first | rfl | (simp [errW_none, errW_some] <;> rfl) | (simp only [← hji4]; first | rfl | (simp [errW_none, errW_some] <;> rfl)) | (simp [*, errW_none, errW_some] <;> rfl), by repeat (first | (with_reducible first | exact HB.out | apply below_alloc | apply pw_below_drewN | apply below_drew1) | exact HB.out)⟩
      · rw [if_neg c6] at H
        exact absurd H (by simp)
    · rw [if_neg c5] at H
      exact absurd H (by simp)
  · rw [if_neg c3] at H
    have c3b0 : decide ((wrap64 (255 - (wrap64 (2 + (wrap64 (2 * (Int.tmod (wrap64 ((Int.tmod a1 32) + 32)) 32))))))) < (a0.size : Int)) = false := decide_eq_false c3
    clear c3
    by_cases c12 : a0.toList = ([] : List UInt8)
    · rw [if_pos c12] at H
      have c12b0 : (a0.toList == ([] : List UInt8)) = true := beq_iff_eq.mpr c12
      have c12b1 : (a0.toList != ([] : List UInt8)) = false := bne_eq_false_iff_eq.mpr c12
      clear c12
      replace H := Option.bind_eq_some_iff.mp H
      obtain ⟨⟨t232, t233⟩, A130, H⟩ := H
      replace H : (some (t232, wrap64 (2 + (wrap64 (2 * (Int.tmod (wrap64 ((Int.tmod a1 32) + 32)) 32)))))) = some (r1, r2) := H
      have A13 := Aside0.mk A130
      clear A130
      simp only [Option.some.injEq, Prod.mk.injEq] at H
      obtain ⟨rfl, rfl⟩ := H
      go_enter Try.func10, Try.ntmps10
      go_wp2_with (first | ((with_reducible refine gate_callee (f := 13) rfl ?_); refine goesL_ (some 28) rfl rfl Try.func13 (by kernel_rfl) rfl #[.string (⟨#[97]⟩ : ByteArray), .int .i64 (wrap64 (2 + (wrap64 (2 * (Int.tmod (wrap64 ((Int.tmod a1 32) + 32)) 32)))))] rfl (by (try simp only [List.map_toArray, List.map_cons, List.map_nil]); first | done | rfl | (simp only [List.length_drop, List.length_take]; rfl)) ?_; (with_reducible refine (foghornref19_Encode.calls k (⟨#[97]⟩ : ByteArray) (wrap64 (2 + (wrap64 (2 * (Int.tmod (wrap64 ((Int.tmod a1 32) + 32)) 32))))) t232 t233 _ A13.out).mono ?_); rintro e w14 ⟨rfl, hb⟩; refine ⟨_, rfl, ?_⟩; have n0_ := Aside0.mk (below_step (by repeat (first | (with_reducible first | exact HB.out | apply below_alloc | apply pw_below_drewN | apply below_drew1) | exact HB.out)) hb); clear HB; have HB := n0_; clear n0_; (try clear hb); (try clear hb2); (try clear hk); (try clear hi)))
      go_ret2
      exact ⟨by first | rfl | (simp [errW_none, errW_some] <;> rfl) | (simp [*, errW_none, errW_some] <;> rfl), by repeat (first | (with_reducible first | exact HB.out | apply below_alloc | apply pw_below_drewN | apply below_drew1) | exact HB.out)⟩
    · rw [if_neg c12] at H
      have c12b0 : (a0.toList == ([] : List UInt8)) = false := beq_eq_false_iff_ne.mpr c12
      have c12b1 : (a0.toList != ([] : List UInt8)) = true := bne_iff_ne.mpr c12
      replace H := Option.bind_eq_some_iff.mp H
      obtain ⟨⟨t234, t235⟩, A150, H⟩ := H
      replace H : (some (t234, wrap64 (2 + (wrap64 (2 * (Int.tmod (wrap64 ((Int.tmod a1 32) + 32)) 32)))))) = some (r1, r2) := H
      have A15 := Aside0.mk A150
      clear A150
      simp only [Option.some.injEq, Prod.mk.injEq] at H
      obtain ⟨rfl, rfl⟩ := H
      go_enter Try.func10, Try.ntmps10
      go_wp2_with (first | ((with_reducible refine gate_callee (f := 13) rfl ?_); refine goesL_ (some 28) rfl rfl Try.func13 (by kernel_rfl) rfl #[.string a0, .int .i64 (wrap64 (2 + (wrap64 (2 * (Int.tmod (wrap64 ((Int.tmod a1 32) + 32)) 32)))))] rfl (by (try simp only [List.map_toArray, List.map_cons, List.map_nil]); first | done | rfl | (simp only [List.length_drop, List.length_take]; rfl)) ?_; (with_reducible refine (foghornref19_Encode.calls k a0 (wrap64 (2 + (wrap64 (2 * (Int.tmod (wrap64 ((Int.tmod a1 32) + 32)) 32))))) t234 t235 _ A15.out).mono ?_); rintro e w16 ⟨rfl, hb⟩; refine ⟨_, rfl, ?_⟩; have n0_ := Aside0.mk (below_step (by repeat (first | (with_reducible first | exact HB.out | apply below_alloc | apply pw_below_drewN | apply below_drew1) | exact HB.out)) hb); clear HB; have HB := n0_; clear n0_; (try clear hb); (try clear hb2); (try clear hk); (try clear hi)))
      go_ret2
      exact ⟨by first | rfl | (simp [errW_none, errW_some] <;> rfl) | (simp [*, errW_none, errW_some] <;> rfl), by repeat (first | (with_reducible first | exact HB.out | apply below_alloc | apply pw_below_drewN | apply below_drew1) | exact HB.out)⟩

/-! ### foghornref20_Numbers: function 12 -/
def foghornref20_Numbers.l0 : Nat → List Int → List Int → Int → Option (Bool)
  | 0, _, _, _ => none
  | k + 1, x0, x1, x5 => if x5 < (x0.length : Int) then (if 0 ≤ x5 then (if x5 < (x1.length : Int) then (if (rd x0 x5) = (rd x1 x5) then (foghornref20_Numbers.l0 k x0 x1 (wrap64 (x5 + 1))) else (some false)) else (none)) else (none)) else (some true)
def foghornref20_Numbers.f (k : Nat) (l0 : List Int) (l1 : List Int) : Option (Bool) := if (l0.length : Int) = (l1.length : Int) then (foghornref20_Numbers.l0 k l0 l1 0) else (some false)
theorem foghornref20_Numbers.mono_l : ∀ k, (∀ y0 y1 y2, LeO (foghornref20_Numbers.l0 k y0 y1 y2) (foghornref20_Numbers.l0 (k + 1) y0 y1 y2))
  | 0 => fun _ _ _ r h => by simp [foghornref20_Numbers.l0] at h
  | k + 1 => by
    have ih0 := foghornref20_Numbers.mono_l k
    · intro y0 y1 y2
      unfold foghornref20_Numbers.l0
      repeat' first
      | (with_reducible exact ih0 _ _ _)
      | (with_reducible exact LeO.refl _)
      | (with_reducible exact LeO.none _)
      | (with_reducible refine LeO.ite ?_ ?_)
      | (with_reducible refine LeO.bind ?_ (fun _ => ?_))
      | exact ih0 _ _ _
      | exact LeO.none _
      | refine LeO.ite ?_ ?_
      | refine LeO.bind ?_ (fun _ => ?_)
theorem foghornref20_Numbers.mono : ∀ a0 a1 k, LeO (foghornref20_Numbers.f k a0 a1) (foghornref20_Numbers.f (k + 1) a0 a1) := by
  intro a0 a1 k
  have ih0 := foghornref20_Numbers.mono_l k
  unfold foghornref20_Numbers.f
  repeat' first
      | (with_reducible exact ih0 _ _ _)
      | (with_reducible exact LeO.refl _)
      | (with_reducible exact LeO.none _)
      | (with_reducible refine LeO.ite ?_ ?_)
      | (with_reducible refine LeO.bind ?_ (fun _ => ?_))
      | exact ih0 _ _ _
      | exact LeO.none _
      | refine LeO.ite ?_ ?_
      | refine LeO.bind ?_ (fun _ => ?_)
set_option maxHeartbeats 8000000 in
set_option maxRecDepth 100000 in
theorem foghornref20_Numbers.calls (k : Nat) (A0 : Option Addr) (c0 : Nat) (l0 : List Int) (A1 : Option Addr) (c1 : Nat) (l1 : List Int) (r : Bool) (w : World) (hr0 : Kd.C (Kd.int .i64) w A0 l0.length l0) (hc0 : l0.length ≤ c0) (hr1 : Kd.C (Kd.int .i64) w A1 l1.length l1) (hc1 : l1.length ≤ c1) (h : foghornref20_Numbers.f k l0 l1 = some r) :
    Calls Try.prog 12 #[.slice A0 l0.length c0, .slice A1 l1.length c1] w fun e w' => e = .returned (.bool r) ∧ Drawn0 w w' := by
  have HR0 := Aside0.mk hr0
  have HC0 := Aside0.mk hc0
  clear hr0 hc0
  have HR1 := Aside0.mk hr1
  have HC1 := Aside0.mk hc1
  clear hr1 hc1
  have H : (if (l0.length : Int) = (l1.length : Int) then (foghornref20_Numbers.l0 k l0 l1 0) else (some false)) = some r := h
  clear h
  by_cases c3 : (l0.length : Int) = (l1.length : Int)
  · rw [if_pos c3] at H
    have c3b0 : ((l0.length : Int) == (l1.length : Int)) = true := beq_iff_eq.mpr c3
    have c3b1 : ((l0.length : Int) != (l1.length : Int)) = false := bne_eq_false_iff_eq.mpr c3
    have c3b2 : (l0.length == l1.length) = true := by first | simpa using c3 | (simp at c3 ⊢; omega)
    clear c3
    have H' := Aside0.mk H
    clear H
    go_enter Try.func12, Try.ntmps12
    go_wp2
    repeat (go_quiet (fail); try go_wp2)
    (try simp only [add_off0])
    go_loopg [5] k (fun kq v5 w' => ∃ (x5_1 : Int), v5 = .int .i64 x5_1 ∧ Aside0 (foghornref20_Numbers.l0 kq l0 l1 x5_1 = some r) ∧ Aside0 (kq ≤ k) ∧ Drawn0 w w')
    case atStart => exact ⟨(0), (by first | rfl | (simp; done) | (simp [*]; done)), H', ⟨Nat.le_refl _⟩, by repeat (first | exact Drawn0.refl _ | apply Drawn0.step)⟩
    case round =>
      clear H'
      (try clear c1); (try clear p2); (try clear c3); (try clear c3b0); (try clear c3b1); (try clear c3b2)
      obtain ⟨x5_1, rfl, HA, HK1, ⟨m1, rfl⟩⟩ := hrel
      cases gk with
      | zero => exact absurd HA.out (by simp [foghornref20_Numbers.l0])
      | succ k1 =>
        have H := HA.out
        clear HA
        simp only [foghornref20_Numbers.l0] at H
        by_cases c4 : x5_1 < (l0.length : Int)
        · rw [if_pos c4] at H
          have c4b0 : decide (x5_1 < (l0.length : Int)) = true := decide_eq_true c4
          clear c4
          by_cases c5 : 0 ≤ x5_1
          · rw [if_pos c5] at H
            have c5b0 : decide (0 ≤ x5_1) = true := decide_eq_true c5
            clear c5
            by_cases c6 : x5_1 < (l1.length : Int)
            · rw [if_pos c6] at H
              have c6b0 : decide (x5_1 < (l1.length : Int)) = true := decide_eq_true c6
              clear c6
              by_cases c7 : (rd l0 x5_1) = (rd l1 x5_1)
              · rw [if_pos c7] at H
                have c7b0 : ((rd l0 x5_1) == (rd l1 x5_1)) = true := beq_iff_eq.mpr c7
                have c7b1 : ((rd l0 x5_1) != (rd l1 x5_1)) = false := bne_eq_false_iff_eq.mpr c7
                clear c7
                have H' := Aside0.mk H
                clear H
                have p236 : 0 ≤ (x5_1 : Int) := of_decide_eq_true (by first | (with_reducible assumption) | assumption)
                have q236 : x5_1 < (l0.length : Int) := of_decide_eq_true (by first | (with_reducible assumption) | assumption)
                obtain ⟨ad236, e236, hx236_0⟩ := Kd.at_int HR0.out x5_1 p236 q236
                cases e236
                replace p236 := eq_true p236
                replace q236 := eq_true q236
                have p237 : 0 ≤ (x5_1 : Int) := of_decide_eq_true (by first | (with_reducible assumption) | assumption)
                have q237 : x5_1 < (l1.length : Int) := of_decide_eq_true (by first | (with_reducible assumption) | assumption)
                obtain ⟨ad237, e237, hx237_0⟩ := Kd.at_int HR1.out x5_1 p237 q237
                cases e237
                replace p237 := eq_true p237
                replace q237 := eq_true q237
                go_wp2
                repeat (go_quiet (fail); try go_wp2)
                refine Handed.intro k1 ?measure ?_
                rotate_left
                go_step
                (try simp only [add_off0])
                (repeat apply Exists.intro)
                refine ⟨?rel, rfl⟩
                case measure => have := HK1.out; omega
                case rel => exact ⟨(wrap64 (x5_1 + 1)), (by first | rfl | (simp; done) | (simp [*]; done)), H', ⟨by have := HK1.out; omega⟩, by repeat (first | exact Drawn0.refl _ | apply Drawn0.step)⟩
              · rw [if_neg c7] at H
                have c7b0 : ((rd l0 x5_1) == (rd l1 x5_1)) = false := beq_eq_false_iff_ne.mpr c7
                have c7b1 : ((rd l0 x5_1) != (rd l1 x5_1)) = true := bne_iff_ne.mpr c7
                obtain rfl := Option.some.inj H
                have p236 : 0 ≤ (x5_1 : Int) := of_decide_eq_true (by first | (with_reducible assumption) | assumption)
                have q236 : x5_1 < (l0.length : Int) := of_decide_eq_true (by first | (with_reducible assumption) | assumption)
                obtain ⟨ad236, e236, hx236_0⟩ := Kd.at_int HR0.out x5_1 p236 q236
                cases e236
                replace p236 := eq_true p236
                replace q236 := eq_true q236
                have p237 : 0 ≤ (x5_1 : Int) := of_decide_eq_true (by first | (with_reducible assumption) | assumption)
                have q237 : x5_1 < (l1.length : Int) := of_decide_eq_true (by first | (with_reducible assumption) | assumption)
                obtain ⟨ad237, e237, hx237_0⟩ := Kd.at_int HR1.out x5_1 p237 q237
                cases e237
                replace p237 := eq_true p237
                replace q237 := eq_true q237
                go_wp2
                repeat (go_quiet (fail); try go_wp2)
                go_ret
                exact ⟨by first | rfl | (simp; done) | (simp [*]; done), by repeat (first | exact Drawn0.refl _ | apply Drawn0.step)⟩
            · rw [if_neg c6] at H
              exact absurd H (by simp)
          · rw [if_neg c5] at H
            exact absurd H (by simp)
        · rw [if_neg c4] at H
          have c4b0 : decide (x5_1 < (l0.length : Int)) = false := decide_eq_false c4
          clear c4
          obtain rfl := Option.some.inj H
          go_wp2
          repeat (go_quiet (fail); try go_wp2)
          go_ret
          exact ⟨by first | rfl | (simp; done) | (simp [*]; done), by repeat (first | exact Drawn0.refl _ | apply Drawn0.step)⟩
  · rw [if_neg c3] at H
    have c3b0 : ((l0.length : Int) == (l1.length : Int)) = false := beq_eq_false_iff_ne.mpr c3
    have c3b1 : ((l0.length : Int) != (l1.length : Int)) = true := bne_iff_ne.mpr c3
    have c3b2 : (l0.length == l1.length) = false := by first | simpa using c3 | (simp at c3 ⊢; omega)
    obtain rfl := Option.some.inj H
    go_enter Try.func12, Try.ntmps12
    go_wp2
    repeat (go_quiet (fail); try go_wp2)
    go_ret
    exact ⟨by first | rfl | (simp; done) | (simp [*]; done), by repeat (first | exact Drawn0.refl _ | apply Drawn0.step)⟩

end Go.Proofs.Ytdgeapgfpikcmaa.Q
