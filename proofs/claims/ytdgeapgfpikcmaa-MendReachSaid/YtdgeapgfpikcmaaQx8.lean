-- by this place's own print2.py over the kit's print
import Derived.Test.YtdgeapgfpikcmaaQx0
import Derived.Test.YtdgeapgfpikcmaaQx4
import Derived.Test.YtdgeapgfpikcmaaQx7
namespace Go.Proofs.Ytdgeapgfpikcmaa.Q
open Go.RowKit Go.Proofs.YtdgeapgfpikcmaaV.PrintWords Go.Proofs.YtdgeapgfpikcmaaV.PrintLast Go.Proofs.YtdgeapgfpikcmaaV.PrintMore
attribute [local go_sem] max2_int min2_int max_two min_two max_three min_three max_four min_four   -- for this text's walks alone
set_option linter.unusedVariables false
set_option linter.unusedSimpArgs false

/-! ### foghornlaw20_MendReach: function 3 -/
theorem R_typesI {α : Type} {d : Kd α} {e base : Nat} {ok : Nat → Prop} {w : World} {v : Value} {xs : List α} (h : d.R e w base ok v xs) {g t : Nat} {cells : Array Value} (hb : RowIn w g cells t) (ht : ∀ q, q ∈ e :: d.E → q ≠ t) : d.R e w base (fun k => ok k ∧ k ≠ g) v xs :=
  Kd.R_mono (Kd.R_bound h) (fun k hk => ⟨hk.1, by
    obtain ⟨_, _, _, q, hq, cells', hc⟩ := hk
    rintro rfl
    exact RowIn.ne hc hb (ht q hq) rfl⟩)
mutual
def foghornlaw20_MendReach.l0 : Nat → Int → List (S29) → ByteArray → List Int → List Int → Int → Int → Option (Bool)
  | 0, _, _, _, _, _, _, _ => none
  | k + 1, x1, x2, x7, x8, x9, x10, x11 => if x11 < (x2.length : Int) then (if 0 ≤ x11 then (if (x7.size : Int) = 0 then (none) else (if (rd_T29 x2 x11).f1 = true then (foghornlaw20_MendReach.j1 k x1 x2 x7 x8 x9 x10 x11 (Int.tmod (wrap64 ((Int.tmod ((rd_T29 x2 x11).f0) (x7.size : Int)) + (x7.size : Int))) (x7.size : Int)) 1) else (foghornlaw20_MendReach.j1 k x1 x2 x7 x8 x9 x10 x11 (Int.tmod (wrap64 ((Int.tmod ((rd_T29 x2 x11).f0) (x7.size : Int)) + (x7.size : Int))) (x7.size : Int)) 2))) else (none)) else (foghornlaw20_MendReach.l1 k x1 x7 x8 x9 ([] : List Int) ([] : List Int) ([] : List Int) 0)
def foghornlaw20_MendReach.j1 : Nat → Int → List (S29) → ByteArray → List Int → List Int → Int → Int → Int → Int → Option (Bool)
  | 0, _, _, _, _, _, _, _, _, _ => none
  | k + 1, x1, x2, x7, x8, x9, x10, x11, x12, x13 => if 0 ≤ x12 then (if x12 < (x9.length : Int) then (if (rd x9 x12) = 0 then (foghornlaw20_MendReach.j2 k x1 x2 x7 x8 x9 x10 x11 x12 x13 (decide (x10 < x13))) else (foghornlaw20_MendReach.j2 k x1 x2 x7 x8 x9 x10 x11 x12 x13 true)) else (none)) else (none)
def foghornlaw20_MendReach.j2 : Nat → Int → List (S29) → ByteArray → List Int → List Int → Int → Int → Int → Int → Bool → Option (Bool)
  | 0, _, _, _, _, _, _, _, _, _, _ => none
  | k + 1, x1, x2, x7, x8, x9, x10, x11, x12, x13, x68 => if x68 = true then (foghornlaw20_MendReach.l0 k x1 x2 x7 x8 x9 x10 (wrap64 (x11 + 1))) else (if 0 ≤ x11 then (if x11 < (x2.length : Int) then (if ((rd_T29 x2 x11).f1 = true) then (if 0 ≤ x12 then (if x12 < (x9.length : Int) then (if x12 < (x8.length : Int) then (foghornlaw20_MendReach.l0 k x1 x2 x7 (x8.set (x12 : Int).toNat (Go.bits .xor .u8 (rd x8 x12) ((rd_T29 x2 x11).f2))) (x9.set (x12 : Int).toNat (wrap64 (3 - x13))) (wrap64 (x10 - x13)) (wrap64 (x11 + 1))) else (none)) else (none)) else (none)) else (if ((rd_T29 x2 x11).f2) = 0 then (foghornlaw20_MendReach.l0 k x1 x2 x7 x8 x9 x10 (wrap64 (x11 + 1))) else (if 0 ≤ x12 then (if x12 < (x9.length : Int) then (if x12 < (x8.length : Int) then (foghornlaw20_MendReach.l0 k x1 x2 x7 (x8.set (x12 : Int).toNat (Go.bits .xor .u8 (rd x8 x12) ((rd_T29 x2 x11).f2))) (x9.set (x12 : Int).toNat (wrap64 (3 - x13))) (wrap64 (x10 - x13)) (wrap64 (x11 + 1))) else (none)) else (none)) else (none)))) else (none)) else (none))
def foghornlaw20_MendReach.l1 : Nat → Int → ByteArray → List Int → List Int → List Int → List Int → List Int → Int → Option (Bool)
  | 0, _, _, _, _, _, _, _, _ => none
  | k + 1, x1, x7, x8, x9, x14, x15, x16, x17 => if x17 < (x9.length : Int) then (if 0 ≤ x17 then (if (rd x9 x17) = 1 then (if x14.length < 17592186044416 then ((some (x14 ++ [x17] : List Int)).bind fun y272 => (if (rd x9 x17) = 2 then (if x15.length < 17592186044416 then ((some (([x17] : List Int) : List Int)).bind fun y279 => (if y279.length + x16.length < 17592186044416 then (foghornlaw20_MendReach.l1 k x1 x7 x8 x9 y272 (x15 ++ [x17]) (y279 ++ x16) (wrap64 (x17 + 1))) else (none))) else (none)) else (foghornlaw20_MendReach.l1 k x1 x7 x8 x9 y272 x15 x16 (wrap64 (x17 + 1))))) else (none)) else (if (rd x9 x17) = 2 then (if x15.length < 17592186044416 then ((some (([x17] : List Int) : List Int)).bind fun y289 => (if y289.length + x16.length < 17592186044416 then (foghornlaw20_MendReach.l1 k x1 x7 x8 x9 x14 (x15 ++ [x17]) (y289 ++ x16) (wrap64 (x17 + 1))) else (none))) else (none)) else (foghornlaw20_MendReach.l1 k x1 x7 x8 x9 x14 x15 x16 (wrap64 (x17 + 1))))) else (none)) else ((mend_Mend.f k (strOfNums x8) x1 x16).bind fun bt260 => (if bt260.2.2.2 = 0 then (if bt260.1.toList = x7.toList then ((foghornref20_Numbers.f k bt260.2.1 x14).bind fun t269 => (if t269 = true then ((foghornref20_Numbers.f k bt260.2.2.1 x15).bind fun t270 => (some t270)) else (some false))) else (some false)) else (some false)))
end
def foghornlaw20_MendReach.f (k : Nat) (a0 : ByteArray) (a1 : Int) (l2 : List (S29)) : Option (Bool) := (foghornlaw20_awake.f k).bind fun t238 => (if t238 = true then ((foghornlaw20_sent.f k a0 a1).bind fun bt239 => (if bt239.1.size ≤ 140737488355328 then (if 0 ≤ (bt239.1.size : Int) then (if ((bt239.1.size : Int) : Int).toNat ≤ 35184372088832 then (foghornlaw20_MendReach.l0 k bt239.2 l2 bt239.1 (numsOf bt239.1) (List.replicate ((bt239.1.size : Int) : Int).toNat 0) bt239.2 0) else (none)) else (none)) else (none))) else (some false))
theorem foghornlaw20_MendReach.mono_l : ∀ k, (∀ y0 y1 y2 y3 y4 y5 y6, LeO (foghornlaw20_MendReach.l0 k y0 y1 y2 y3 y4 y5 y6) (foghornlaw20_MendReach.l0 (k + 1) y0 y1 y2 y3 y4 y5 y6)) ∧ (∀ y0 y1 y2 y3 y4 y5 y6 y7 y8, LeO (foghornlaw20_MendReach.j1 k y0 y1 y2 y3 y4 y5 y6 y7 y8) (foghornlaw20_MendReach.j1 (k + 1) y0 y1 y2 y3 y4 y5 y6 y7 y8)) ∧ (∀ y0 y1 y2 y3 y4 y5 y6 y7 y8 y9, LeO (foghornlaw20_MendReach.j2 k y0 y1 y2 y3 y4 y5 y6 y7 y8 y9) (foghornlaw20_MendReach.j2 (k + 1) y0 y1 y2 y3 y4 y5 y6 y7 y8 y9)) ∧ (∀ y0 y1 y2 y3 y4 y5 y6 y7, LeO (foghornlaw20_MendReach.l1 k y0 y1 y2 y3 y4 y5 y6 y7) (foghornlaw20_MendReach.l1 (k + 1) y0 y1 y2 y3 y4 y5 y6 y7))
  | 0 => ⟨fun _ _ _ _ _ _ _ r h => by simp [foghornlaw20_MendReach.l0] at h, fun _ _ _ _ _ _ _ _ _ r h => by simp [foghornlaw20_MendReach.j1] at h, fun _ _ _ _ _ _ _ _ _ _ r h => by simp [foghornlaw20_MendReach.j2] at h, fun _ _ _ _ _ _ _ _ r h => by simp [foghornlaw20_MendReach.l1] at h⟩
  | k + 1 => by
    obtain ⟨ih0, ih1, ih2, ih3⟩ := foghornlaw20_MendReach.mono_l k
    refine ⟨?_, ?_, ?_, ?_⟩
    · intro y0 y1 y2 y3 y4 y5 y6
      unfold foghornlaw20_MendReach.l0
      repeat' first
      | (with_reducible exact ih0 _ _ _ _ _ _ _)
      | (with_reducible exact ih1 _ _ _ _ _ _ _ _ _)
      | (with_reducible exact ih2 _ _ _ _ _ _ _ _ _ _)
      | (with_reducible exact ih3 _ _ _ _ _ _ _ _)
      | (with_reducible exact foghornlaw20_awake.mono _)
      | (with_reducible exact foghornlaw20_sent.mono _ _ _)
      | (with_reducible exact foghornref20_Numbers.mono _ _ _)
      | (with_reducible exact mend_Mend.mono _ _ _ _)
      | (with_reducible exact LeO.refl _)
      | (with_reducible exact LeO.none _)
      | (with_reducible refine LeO.ite ?_ ?_)
      | (with_reducible refine LeO.bind ?_ (fun _ => ?_))
      | exact ih0 _ _ _ _ _ _ _
      | exact ih1 _ _ _ _ _ _ _ _ _
      | exact ih2 _ _ _ _ _ _ _ _ _ _
      | exact ih3 _ _ _ _ _ _ _ _
      | exact foghornlaw20_awake.mono _
      | exact foghornlaw20_sent.mono _ _ _
      | exact foghornref20_Numbers.mono _ _ _
      | exact mend_Mend.mono _ _ _ _
      | exact LeO.none _
      | refine LeO.ite ?_ ?_
      | refine LeO.bind ?_ (fun _ => ?_)
    · intro y0 y1 y2 y3 y4 y5 y6 y7 y8
      unfold foghornlaw20_MendReach.j1
      repeat' first
      | (with_reducible exact ih0 _ _ _ _ _ _ _)
      | (with_reducible exact ih1 _ _ _ _ _ _ _ _ _)
      | (with_reducible exact ih2 _ _ _ _ _ _ _ _ _ _)
      | (with_reducible exact ih3 _ _ _ _ _ _ _ _)
      | (with_reducible exact foghornlaw20_awake.mono _)
      | (with_reducible exact foghornlaw20_sent.mono _ _ _)
      | (with_reducible exact foghornref20_Numbers.mono _ _ _)
      | (with_reducible exact mend_Mend.mono _ _ _ _)
      | (with_reducible exact LeO.refl _)
      | (with_reducible exact LeO.none _)
      | (with_reducible refine LeO.ite ?_ ?_)
      | (with_reducible refine LeO.bind ?_ (fun _ => ?_))
      | exact ih0 _ _ _ _ _ _ _
      | exact ih1 _ _ _ _ _ _ _ _ _
      | exact ih2 _ _ _ _ _ _ _ _ _ _
      | exact ih3 _ _ _ _ _ _ _ _
      | exact foghornlaw20_awake.mono _
      | exact foghornlaw20_sent.mono _ _ _
      | exact foghornref20_Numbers.mono _ _ _
      | exact mend_Mend.mono _ _ _ _
      | exact LeO.none _
      | refine LeO.ite ?_ ?_
      | refine LeO.bind ?_ (fun _ => ?_)
    · intro y0 y1 y2 y3 y4 y5 y6 y7 y8 y9
      unfold foghornlaw20_MendReach.j2
      repeat' first
      | (with_reducible exact ih0 _ _ _ _ _ _ _)
      | (with_reducible exact ih1 _ _ _ _ _ _ _ _ _)
      | (with_reducible exact ih2 _ _ _ _ _ _ _ _ _ _)
      | (with_reducible exact ih3 _ _ _ _ _ _ _ _)
      | (with_reducible exact foghornlaw20_awake.mono _)
      | (with_reducible exact foghornlaw20_sent.mono _ _ _)
      | (with_reducible exact foghornref20_Numbers.mono _ _ _)
      | (with_reducible exact mend_Mend.mono _ _ _ _)
      | (with_reducible exact LeO.refl _)
      | (with_reducible exact LeO.none _)
      | (with_reducible refine LeO.ite ?_ ?_)
      | (with_reducible refine LeO.bind ?_ (fun _ => ?_))
      | exact ih0 _ _ _ _ _ _ _
      | exact ih1 _ _ _ _ _ _ _ _ _
      | exact ih2 _ _ _ _ _ _ _ _ _ _
      | exact ih3 _ _ _ _ _ _ _ _
      | exact foghornlaw20_awake.mono _
      | exact foghornlaw20_sent.mono _ _ _
      | exact foghornref20_Numbers.mono _ _ _
      | exact mend_Mend.mono _ _ _ _
      | exact LeO.none _
      | refine LeO.ite ?_ ?_
      | refine LeO.bind ?_ (fun _ => ?_)
    · intro y0 y1 y2 y3 y4 y5 y6 y7
      unfold foghornlaw20_MendReach.l1
      repeat' first
      | (with_reducible exact ih0 _ _ _ _ _ _ _)
      | (with_reducible exact ih1 _ _ _ _ _ _ _ _ _)
      | (with_reducible exact ih2 _ _ _ _ _ _ _ _ _ _)
      | (with_reducible exact ih3 _ _ _ _ _ _ _ _)
      | (with_reducible exact foghornlaw20_awake.mono _)
      | (with_reducible exact foghornlaw20_sent.mono _ _ _)
      | (with_reducible exact foghornref20_Numbers.mono _ _ _)
      | (with_reducible exact mend_Mend.mono _ _ _ _)
      | (with_reducible exact LeO.refl _)
      | (with_reducible exact LeO.none _)
      | (with_reducible refine LeO.ite ?_ ?_)
      | (with_reducible refine LeO.bind ?_ (fun _ => ?_))
      | exact ih0 _ _ _ _ _ _ _
      | exact ih1 _ _ _ _ _ _ _ _ _
      | exact ih2 _ _ _ _ _ _ _ _ _ _
      | exact ih3 _ _ _ _ _ _ _ _
      | exact foghornlaw20_awake.mono _
      | exact foghornlaw20_sent.mono _ _ _
      | exact foghornref20_Numbers.mono _ _ _
      | exact mend_Mend.mono _ _ _ _
      | exact LeO.none _
      | refine LeO.ite ?_ ?_
      | refine LeO.bind ?_ (fun _ => ?_)
theorem foghornlaw20_MendReach.mono : ∀ a0 a1 a2 k, LeO (foghornlaw20_MendReach.f k a0 a1 a2) (foghornlaw20_MendReach.f (k + 1) a0 a1 a2) := by
  intro a0 a1 a2 k
  obtain ⟨ih0, ih1, ih2, ih3⟩ := foghornlaw20_MendReach.mono_l k
  unfold foghornlaw20_MendReach.f
  repeat' first
      | (with_reducible exact ih0 _ _ _ _ _ _ _)
      | (with_reducible exact ih1 _ _ _ _ _ _ _ _ _)
      | (with_reducible exact ih2 _ _ _ _ _ _ _ _ _ _)
      | (with_reducible exact ih3 _ _ _ _ _ _ _ _)
      | (with_reducible exact foghornlaw20_awake.mono _)
      | (with_reducible exact foghornlaw20_sent.mono _ _ _)
      | (with_reducible exact foghornref20_Numbers.mono _ _ _)
      | (with_reducible exact mend_Mend.mono _ _ _ _)
      | (with_reducible exact LeO.refl _)
      | (with_reducible exact LeO.none _)
      | (with_reducible refine LeO.ite ?_ ?_)
      | (with_reducible refine LeO.bind ?_ (fun _ => ?_))
      | exact ih0 _ _ _ _ _ _ _
      | exact ih1 _ _ _ _ _ _ _ _ _
      | exact ih2 _ _ _ _ _ _ _ _ _ _
      | exact ih3 _ _ _ _ _ _ _ _
      | exact foghornlaw20_awake.mono _
      | exact foghornlaw20_sent.mono _ _ _
      | exact foghornref20_Numbers.mono _ _ _
      | exact mend_Mend.mono _ _ _ _
      | exact LeO.none _
      | refine LeO.ite ?_ ?_
      | refine LeO.bind ?_ (fun _ => ?_)
def foghornlaw20_MendReach.T18 : Bool × List (List Nat × List Nat) := (true, [([], []), ([], []), ([], []), ([], []), ([2, 3], [2, 3]), ([4], [4]), ([], []), ([], []), ([6, 7], [6, 7]), ([8], [8]), ([9], [9]), ([5, 10], [5, 10]), ([0, 1, 0, 1, 2, 3, 4, 5, 6, 7, 8, 9, 10, 11], [0, 1]), ([12, 11, 0, 1, 2, 3, 4, 5, 6, 7, 8, 9, 10, 11], [11, 12])])
def foghornlaw20_MendReach.B18 : List Nat := [0, 0, 0, 0, 12, 28, 0, 0, 192, 448, 960, 2044, 4095, 8191]
theorem foghornlaw20_MendReach.tab18 : rtab .any (opsOf Try.f3 18) = foghornlaw20_MendReach.T18 := by kernel_rfl
theorem foghornlaw20_MendReach.bits18 : waitsOk foghornlaw20_MendReach.T18.2 foghornlaw20_MendReach.B18 = true := by kernel_rfl
set_option maxHeartbeats 8000000 in
set_option maxRecDepth 100000 in
theorem foghornlaw20_MendReach.calls (k : Nat) (a0 : ByteArray) (a1 : Int) (A2 : Option Addr) (c2 : Nat) (l2 : List (S29)) (r : Bool) (w : World) (hr2 : Kd.C k29 w A2 l2.length l2) (hc2 : l2.length ≤ c2) (h : foghornlaw20_MendReach.f k a0 a1 l2 = some r) :
    Calls Try.prog 3 #[.string a0, .int .i64 a1, .slice A2 l2.length c2] w fun e w' => e = .returned (.bool r) ∧ Below w.heap.size w w' := by
  have hu31 := Try.underlying31
  have HR2 := Aside0.mk hr2
  have HC2 := Aside0.mk hc2
  clear hr2 hc2
  have HB := Aside0.mk (Below.refl w.heap.size w)
  have H : ((foghornlaw20_awake.f k).bind fun t238 => (if t238 = true then ((foghornlaw20_sent.f k a0 a1).bind fun bt239 => (if bt239.1.size ≤ 140737488355328 then (if 0 ≤ (bt239.1.size : Int) then (if ((bt239.1.size : Int) : Int).toNat ≤ 35184372088832 then (foghornlaw20_MendReach.l0 k bt239.2 l2 bt239.1 (numsOf bt239.1) (List.replicate ((bt239.1.size : Int) : Int).toNat 0) bt239.2 0) else (none)) else (none)) else (none))) else (some false))) = some r := h
  clear h
  replace H := Option.bind_eq_some_iff.mp H
  obtain ⟨t238, A40, H⟩ := H
  replace H : (if t238 = true then ((foghornlaw20_sent.f k a0 a1).bind fun bt239 => (if bt239.1.size ≤ 140737488355328 then (if 0 ≤ (bt239.1.size : Int) then (if ((bt239.1.size : Int) : Int).toNat ≤ 35184372088832 then (foghornlaw20_MendReach.l0 k bt239.2 l2 bt239.1 (numsOf bt239.1) (List.replicate ((bt239.1.size : Int) : Int).toNat 0) bt239.2 0) else (none)) else (none)) else (none))) else (some false)) = some r := H
  have A4 := Aside0.mk A40
  clear A40
  by_cases c5 : t238 = true
  · subst c5
    have H1 : ((foghornlaw20_sent.f k a0 a1).bind fun bt239 => (if bt239.1.size ≤ 140737488355328 then (if 0 ≤ (bt239.1.size : Int) then (if ((bt239.1.size : Int) : Int).toNat ≤ 35184372088832 then (foghornlaw20_MendReach.l0 k bt239.2 l2 bt239.1 (numsOf bt239.1) (List.replicate ((bt239.1.size : Int) : Int).toNat 0) bt239.2 0) else (none)) else (none)) else (none))) = some r := by rw [if_pos rfl] at H; exact H
    clear H
    have H := H1
    clear H1
    replace H := Option.bind_eq_some_iff.mp H
    obtain ⟨⟨t239, t240⟩, A60, H⟩ := H
    replace H : (if t239.size ≤ 140737488355328 then (if 0 ≤ (t239.size : Int) then (if ((t239.size : Int) : Int).toNat ≤ 35184372088832 then (foghornlaw20_MendReach.l0 k t240 l2 t239 (numsOf t239) (List.replicate ((t239.size : Int) : Int).toNat 0) t240 0) else (none)) else (none)) else (none)) = some r := H
    have A6 := Aside0.mk A60
    clear A60
    by_cases c7 : t239.size ≤ 140737488355328
    · rw [if_pos c7] at H
      have c7b0 := eq_true c7
      have c7b1 : decide (t239.size ≤ 140737488355328) = true := decide_eq_true c7
      clear c7
      obtain ⟨y241, hy241⟩ : ∃ y_ : List Int, y_ = (numsOf t239) := ⟨_, rfl⟩
      replace H : (if 0 ≤ (t239.size : Int) then (if ((t239.size : Int) : Int).toNat ≤ 35184372088832 then (foghornlaw20_MendReach.l0 k t240 l2 t239 y241 (List.replicate ((t239.size : Int) : Int).toNat 0) t240 0) else (none)) else (none)) = some r := by first | (rw [hy241]; with_reducible exact H) | (have H2_ := (Option.bind_some _ _).symm.trans H; rw [hy241]; with_reducible exact H2_) | (have H2_ := (Option.bind_some _ _).symm.trans H; with_reducible exact H2_) | with_reducible exact H | (rw [hy241]; exact H) | exact H
      have Ny241 := Aside0.mk hy241
      clear hy241
      by_cases c8 : 0 ≤ (t239.size : Int)
      · rw [if_pos c8] at H
        have c8b0 := eq_true c8
        have c8b1 : decide (0 ≤ (t239.size : Int)) = true := decide_eq_true c8
        clear c8
        by_cases c9 : ((t239.size : Int) : Int).toNat ≤ 35184372088832
        · rw [if_pos c9] at H
          have c9b0 := eq_true c9
          have c9b1 : decide (((t239.size : Int) : Int).toNat ≤ 35184372088832) = true := decide_eq_true c9
          clear c9
          obtain ⟨y244, hy244⟩ : ∃ y_ : List Int, y_ = (List.replicate ((t239.size : Int) : Int).toNat 0) := ⟨_, rfl⟩
          replace H : (foghornlaw20_MendReach.l0 k t240 l2 t239 y241 y244 t240 0) = some r := by first | (rw [hy244]; with_reducible exact H) | (have H2_ := (Option.bind_some _ _).symm.trans H; rw [hy244]; with_reducible exact H2_) | (have H2_ := (Option.bind_some _ _).symm.trans H; with_reducible exact H2_) | with_reducible exact H | (rw [hy244]; exact H) | exact H
          have Ny244 := Aside0.mk hy244
          clear hy244
          have H' := Aside0.mk H
          clear H
          go_enter Try.func3, Try.ntmps3
          go_wp2_with (first | ((with_reducible refine gate_callee (f := 9) rfl ?_); refine goesL_ (some 20) rfl rfl Try.func9 (by kernel_rfl) rfl #[] rfl (by (try simp only [List.map_toArray, List.map_cons, List.map_nil]); first | done | rfl | (simp only [List.length_drop, List.length_take]; rfl)) ?_; (with_reducible refine (foghornlaw20_awake.calls k  true _ A4.out).mono ?_); rintro e w10 ⟨rfl, hb⟩; refine ⟨_, rfl, ?_⟩; have n0_ := Aside0.mk (below_step (by repeat (first | (with_reducible first | exact HB.out | apply below_alloc | apply pw_below_drewN | apply below_drew1) | exact HB.out)) hb); clear HB; have HB := n0_; clear n0_; (try clear hb); (try clear hb2); (try clear hk); (try clear hi)) | ((with_reducible refine gate_callee (f := 10) rfl ?_); refine goesL_ (some 25) rfl rfl Try.func10 (by kernel_rfl) rfl #[.string a0, .int .i64 a1] rfl (by (try simp only [List.map_toArray, List.map_cons, List.map_nil]); first | done | rfl | (simp only [List.length_drop, List.length_take]; rfl)) ?_; (with_reducible refine (foghornlaw20_sent.calls k a0 a1 t239 t240 _ A6.out).mono ?_); rintro e w11 ⟨rfl, hb⟩; refine ⟨_, rfl, ?_⟩; have n0_ := Aside0.mk (below_step (by repeat (first | (with_reducible first | exact HB.out | apply below_alloc | apply pw_below_drewN | apply below_drew1) | exact HB.out)) hb); clear HB; have HB := n0_; clear n0_; (try clear hb); (try clear hb2); (try clear hk); (try clear hi)) | ((with_reducible refine gate_dst (N := 29) rfl ?_); refine Kd.R_ofstr _ 5 rfl (N := 29) rfl 9 26 _ rfl t239 rfl Try.underlying9 Try.underlying26 Try.underlying5 (of_decide_eq_true (by first | (with_reducible assumption) | assumption)) (ok := fun _ => True) (okp := fun _ => True) (fun _ hk => hk) trivial (Below.refl _ _) (Nat.le_refl _) ?_; intro v242 w12 ho13 hb hg_ hnew_; clear hg_ hnew_; (first | rw [← Ny241.out] at ho13 | (simp only [Int.reduceToNat] at ho13; rw [← Ny241.out] at ho13)); have n0_ := Aside0.mk (Kd.R_lower ho13 (below_size (by repeat (first | (with_reducible first | exact HB.out | apply below_alloc | apply pw_below_drewN | apply below_drew1) | exact HB.out)))); have n1_ := Aside0.mk (below_step (by repeat (first | (with_reducible first | exact HB.out | apply below_alloc | apply pw_below_drewN | apply below_drew1) | exact HB.out)) hb); clear HB; have HO243 := n0_; have HB := n1_; clear n0_ n1_; clear hb ho13) | ((with_reducible refine gate_dst (N := 32) rfl ?_); refine Kd.R_make (Kd.int .i64) _ 3 rfl (N := 32) rfl 27 _ _ rfl (t239.size : Int) rfl rfl Try.underlying27 (.int .i64 0) 8 info3 rfl (by decide) (by omega) 0 (ok := fun _ => True) (okp := fun _ => True) rfl (fun _ hk => hk) trivial (of_decide_eq_true (by first | (with_reducible assumption) | assumption)) (Nat.le_trans (Nat.mul_le_mul_right _ (of_decide_eq_true (by first | (with_reducible assumption) | assumption) : (t239.size : Int).toNat ≤ 35184372088832)) (by omega)) (Below.refl _ _) (Nat.le_refl _) ?_; intro v245 w14 ho15 hb hg_ hnew_; clear hg_ hnew_; (first | rw [← Ny244.out] at ho15 | (simp only [Int.reduceToNat] at ho15; rw [← Ny244.out] at ho15)); have n0_ := Aside0.mk (Kd.R_below (by (with_reducible repeat (first | apply Kd.R_alloc | apply Kd.R_drewN | apply Kd.R_drew)); exact HO243.out) hb); have n1_ := Aside0.mk (Kd.R_lower ho15 (below_size (by repeat (first | (with_reducible first | exact HB.out | apply below_alloc | apply pw_below_drewN | apply below_drew1) | exact HB.out)))); have n2_ := Aside0.mk (below_step (by repeat (first | (with_reducible first | exact HB.out | apply below_alloc | apply pw_below_drewN | apply below_drew1) | exact HB.out)) hb); clear HO243; clear HB; have HO243 := n0_; have HO246 := n1_; have HB := n2_; clear n0_ n1_ n2_; clear hb ho15))
          (try simp only [add_off0])
          go_loopg [10, 11] k (fun kq v10 v11 w' => ∃ (x8_1 : List Int) (x9_1 : List Int) (x10_1 : Int) (x11_1 : Int), v10 = .int .i64 x10_1 ∧ v11 = .int .i64 x11_1 ∧ Aside0 (foghornlaw20_MendReach.l0 kq t240 l2 t239 x8_1 x9_1 x10_1 x11_1 = some r) ∧ Aside0 (kq ≤ k) ∧ Aside0 (Kd.R (Kd.int .u8) 5 w' w.heap.size (fun _ => True) v242 x8_1) ∧ Aside0 (Kd.R (Kd.int .i64) 3 w' w.heap.size (fun _ => True) v245 x9_1) ∧ Aside0 (Below w.heap.size w w'))
          case atStart => exact ⟨(y241), (y244), (t240), (0), (by first | rfl | (simp; done) | (simp [*]; done)), (by first | rfl | (simp; done) | (simp [*]; done)), H', ⟨Nat.le_refl _⟩, ⟨by (with_reducible repeat (first | apply Kd.R_alloc | apply Kd.R_drewN | apply Kd.R_drew)); exact HO243.out⟩, ⟨by (with_reducible repeat (first | apply Kd.R_alloc | apply Kd.R_drewN | apply Kd.R_drew)); exact HO246.out⟩, ⟨by repeat (first | (with_reducible first | exact HB.out | apply below_alloc | apply pw_below_drewN | apply below_drew1) | exact HB.out)⟩⟩
          case round =>
            clear H'
            (try clear c1); (try clear c2); (try clear p2); (try clear c3); (try clear c5); (try clear c7); (try clear c7b0); (try clear c7b1); (try clear c8); (try clear c8b0); (try clear c8b1); (try clear c9); (try clear c9b0); (try clear c9b1); (try clear c10)
            obtain ⟨x8_1, x9_1, x10_1, x11_1, rfl, rfl, HA, HK1, HO_8, HO_9, HB⟩ := hrel
            cases gk with
            | zero => exact absurd HA.out (by simp [foghornlaw20_MendReach.l0])
            | succ k1 =>
              have H := HA.out
              clear HA
              simp only [foghornlaw20_MendReach.l0] at H
              by_cases c16 : x11_1 < (l2.length : Int)
              · rw [if_pos c16] at H
                have c16b0 : decide (x11_1 < (l2.length : Int)) = true := decide_eq_true c16
                clear c16
                by_cases c17 : 0 ≤ x11_1
                · rw [if_pos c17] at H
                  have c17b0 : decide (0 ≤ x11_1) = true := decide_eq_true c17
                  clear c17
                  by_cases c18 : (t239.size : Int) = 0
                  · rw [if_pos c18] at H
                    exact absurd H (by simp)
                  · rw [if_neg c18] at H
                    have c18b0 : ((t239.size : Int) == 0) = false := beq_eq_false_iff_ne.mpr c18
                    have c18b1 : ((t239.size : Int) != 0) = true := bne_iff_ne.mpr c18
                    have HC19 := Aside0.mk H
                    clear H
                    have p247 : 0 ≤ (x11_1 : Int) := of_decide_eq_true (by first | (with_reducible assumption) | assumption)
                    have q247 : x11_1 < (l2.length : Int) := of_decide_eq_true (by first | (with_reducible assumption) | assumption)
                    obtain ⟨ad247, e247, hx247_0, hx247_1, hx247_2⟩ := at_T29 HR2.out x11_1 p247 q247
                    cases e247
                    replace hx247_0 := (HB.out.cell (World.block_lt_of_cell? w _ hx247_0)).trans hx247_0
                    replace hx247_1 := (HB.out.cell (World.block_lt_of_cell? w _ hx247_1)).trans hx247_1
                    replace hx247_2 := (HB.out.cell (World.block_lt_of_cell? w _ hx247_2)).trans hx247_2
                    replace p247 := eq_true p247
                    replace q247 := eq_true q247
                    have p248 : 0 ≤ (x11_1 : Int) := of_decide_eq_true (by first | (with_reducible assumption) | assumption)
                    have q248 : x11_1 < (l2.length : Int) := of_decide_eq_true (by first | (with_reducible assumption) | assumption)
                    obtain ⟨ad248, e248, hx248_0, hx248_1, hx248_2⟩ := at_T29 HR2.out x11_1 p248 q248
                    obtain rfl : ad247 = ad248 := (by injection e248)
                    replace hx248_0 := (HB.out.cell (World.block_lt_of_cell? w _ hx248_0)).trans hx248_0
                    replace hx248_1 := (HB.out.cell (World.block_lt_of_cell? w _ hx248_1)).trans hx248_1
                    replace hx248_2 := (HB.out.cell (World.block_lt_of_cell? w _ hx248_2)).trans hx248_2
                    replace p248 := eq_true p248
                    replace q248 := eq_true q248
                    go_upto_if 58 with (fail)
                    go_cut [13] (fun v13 wc => ∃ (kq : Nat) (x13_18 : Int), v13 = .int .i64 x13_18 ∧ Aside0 (foghornlaw20_MendReach.j1 kq t240 l2 t239 x8_1 x9_1 x10_1 x11_1 (Int.tmod (wrap64 ((Int.tmod ((rd_T29 l2 x11_1).f0) (t239.size : Int)) + (t239.size : Int))) (t239.size : Int)) x13_18 = some r) ∧ Aside0 (kq ≤ k1) ∧ Aside0 (Kd.R (Kd.int .u8) 5 wc w.heap.size (fun _ => True) v242 x8_1) ∧ Aside0 (Kd.R (Kd.int .i64) 3 wc w.heap.size (fun _ => True) v245 x9_1) ∧ Aside0 (Below w.heap.size w wc))
                    case first =>
                      have H := HC19.out
                      clear HC19
                      obtain ⟨bq20, hbq20⟩ : ∃ b_ : Bool, b_ = ((rd_T29 l2 x11_1).f1) := ⟨_, rfl⟩
                      replace H : (if bq20 = true then (foghornlaw20_MendReach.j1 k1 t240 l2 t239 x8_1 x9_1 x10_1 x11_1 (Int.tmod (wrap64 ((Int.tmod ((rd_T29 l2 x11_1).f0) (t239.size : Int)) + (t239.size : Int))) (t239.size : Int)) 1) else (foghornlaw20_MendReach.j1 k1 t240 l2 t239 x8_1 x9_1 x10_1 x11_1 (Int.tmod (wrap64 ((Int.tmod ((rd_T29 l2 x11_1).f0) (t239.size : Int)) + (t239.size : Int))) (t239.size : Int)) 2)) = some r := by rw [← hbq20] at H; exact H
                      have Nbq20 := Aside0.mk hbq20
                      clear hbq20
                      (try rw [← Nbq20.out])
                      by_cases c21 : bq20 = true
                      · subst c21
                        have H1 : (foghornlaw20_MendReach.j1 k1 t240 l2 t239 x8_1 x9_1 x10_1 x11_1 (Int.tmod (wrap64 ((Int.tmod ((rd_T29 l2 x11_1).f0) (t239.size : Int)) + (t239.size : Int))) (t239.size : Int)) 1) = some r := by rw [if_pos rfl] at H; exact H
                        clear H
                        have H := H1
                        clear H1
                        have H' := Aside0.mk H
                        clear H
                        go_wp2
                        go_meet
                        case rel => exact ⟨_, (1), (by first | rfl | (simp; done) | (simp [*]; done)), H', ⟨by have := HK1.out; first | omega | exact Nat.le_refl _⟩, ⟨by (with_reducible repeat (first | apply Kd.R_alloc | apply Kd.R_drewN | apply Kd.R_drew)); exact HO_8.out⟩, ⟨by (with_reducible repeat (first | apply Kd.R_alloc | apply Kd.R_drewN | apply Kd.R_drew)); exact HO_9.out⟩, ⟨by repeat (first | (with_reducible first | exact HB.out | apply below_alloc | apply pw_below_drewN | apply below_drew1) | exact HB.out)⟩⟩
                      · replace c21 := Bool.eq_false_iff.mpr c21
                        subst c21
                        have H1 : (foghornlaw20_MendReach.j1 k1 t240 l2 t239 x8_1 x9_1 x10_1 x11_1 (Int.tmod (wrap64 ((Int.tmod ((rd_T29 l2 x11_1).f0) (t239.size : Int)) + (t239.size : Int))) (t239.size : Int)) 2) = some r := by rw [if_neg (show ¬ (false = true) by decide)] at H; exact H
                        clear H
                        have H := H1
                        clear H1
                        have H' := Aside0.mk H
                        clear H
                        go_wp2
                        go_meet
                        case rel => exact ⟨_, (2), (by first | rfl | (simp; done) | (simp [*]; done)), H', ⟨by have := HK1.out; first | omega | exact Nat.le_refl _⟩, ⟨by (with_reducible repeat (first | apply Kd.R_alloc | apply Kd.R_drewN | apply Kd.R_drew)); exact HO_8.out⟩, ⟨by (with_reducible repeat (first | apply Kd.R_alloc | apply Kd.R_drewN | apply Kd.R_drew)); exact HO_9.out⟩, ⟨by repeat (first | (with_reducible first | exact HB.out | apply below_alloc | apply pw_below_drewN | apply below_drew1) | exact HB.out)⟩⟩
                    case rest =>
                      clear HC19
                      (try clear c1); (try clear c2); (try clear p2); (try clear q2); (try clear hx2); (try clear c3); (try clear c5); (try clear p6); (try clear c7); (try clear c7b0); (try clear c7b1); (try clear c8); (try clear c8b0); (try clear c8b1); (try clear c9); (try clear c9b0); (try clear c9b1); (try clear c10); (try clear c16); (try clear c16b0); (try clear c17); (try clear c17b0); (try clear c18); (try clear c18b0); (try clear c18b1); (try clear q20); (try clear c21); (try clear hx247_0); (try clear hx247_1); (try clear hx247_2); (try clear hx248_0); (try clear hx248_1); (try clear hx248_2); (try clear p2); (try clear p247); (try clear p248); (try clear q247); (try clear q248)
                      obtain ⟨kq, x13_18, rfl, HA, HJ18, HO_8, HO_9, HB⟩ := hcut
                      cases kq with
                      | zero => exact absurd HA.out (by simp [foghornlaw20_MendReach.j1])
                      | succ kj18 =>
                        have H := HA.out
                        clear HA
                        simp only [foghornlaw20_MendReach.j1] at H
                        have HC22 := Aside0.mk H
                        clear H
                        go_upto_region 14 with (fail)
                        go_cut [68] (fun v68 wc => ∃ (kq : Nat) (x68_21 : Bool), v68 = .bool x68_21 ∧ Aside0 (foghornlaw20_MendReach.j2 kq t240 l2 t239 x8_1 x9_1 x10_1 x11_1 (Int.tmod (wrap64 ((Int.tmod ((rd_T29 l2 x11_1).f0) (t239.size : Int)) + (t239.size : Int))) (t239.size : Int)) x13_18 x68_21 = some r) ∧ Aside0 (kq ≤ kj18) ∧ Aside0 (Kd.R (Kd.int .u8) 5 wc w.heap.size (fun _ => True) v242 x8_1) ∧ Aside0 (Kd.R (Kd.int .i64) 3 wc w.heap.size (fun _ => True) v245 x9_1) ∧ Aside0 (Below w.heap.size w wc))
                        case first =>
                          have H := HC22.out
                          clear HC22
                          obtain ⟨ji23, hji23⟩ : ∃ j_ : Int, (Int.tmod (wrap64 ((Int.tmod ((rd_T29 l2 x11_1).f0) (t239.size : Int)) + (t239.size : Int))) (t239.size : Int)) = j_ := ⟨_, rfl⟩
                          replace H : (if 0 ≤ (ji23) then (if (ji23) < (x9_1.length : Int) then (if (rd x9_1 (ji23)) = 0 then (foghornlaw20_MendReach.j2 kj18 t240 l2 t239 x8_1 x9_1 x10_1 x11_1 (ji23) x13_18 (decide (x10_1 < x13_18))) else (foghornlaw20_MendReach.j2 kj18 t240 l2 t239 x8_1 x9_1 x10_1 x11_1 (ji23) x13_18 true)) else (none)) else (none)) = some r := by first | (rw [hji23] at H; exact H) | (simp only [hji23] at H ⊢; exact H)
                          by_cases c24 : 0 ≤ (ji23)
                          · rw [if_pos c24] at H
                            have c24b0 : decide (0 ≤ (ji23)) = true := decide_eq_true c24
                            clear c24
                            (first | rw [c24b0] | (simp only [i64_w, i32_w]; rw [c24b0]) | skip)
                            by_cases c25 : (ji23) < (x9_1.length : Int)
                            · rw [if_pos c25] at H
                              have c25b0 : decide ((ji23) < (x9_1.length : Int)) = true := decide_eq_true c25
                              clear c25
                              by_cases c26 : (rd x9_1 (ji23)) = 0
                              · rw [if_pos c26] at H
                                have c26b0 : ((rd x9_1 (ji23)) == 0) = true := beq_iff_eq.mpr c26
                                have c26b1 : ((rd x9_1 (ji23)) != 0) = false := bne_eq_false_iff_eq.mpr c26
                                clear c26
                                have H' := Aside0.mk H
                                clear H
                                obtain ⟨Ao27, co27, eo27⟩ := Kd.R_slice HO_9.out
                                subst eo27
                                have p249 : 0 ≤ ((ji23) : Int) := of_decide_eq_true (by first | (with_reducible assumption) | assumption)
                                have q249 : (ji23) < (x9_1.length : Int) := of_decide_eq_true (by first | (with_reducible assumption) | assumption)
                                obtain ⟨ad249, e249, hx249_0⟩ := Kd.at_int (Kd.R_reads' HO_9.out).2.2 (ji23) p249 q249
                                cases e249
                                replace p249 := eq_true p249
                                replace q249 := eq_true q249
                                go_wp2
                                (try subst hji23)
                                go_meet
                                case rel => exact ⟨_, (decide (x10_1 < x13_18)), (by first | rfl | (simp; done) | (simp [*]; done)), H', ⟨by have := HK1.out; have := HJ18.out; first | omega | exact Nat.le_refl _⟩, ⟨by (with_reducible repeat (first | apply Kd.R_alloc | apply Kd.R_drewN | apply Kd.R_drew)); exact HO_8.out⟩, ⟨by (with_reducible repeat (first | apply Kd.R_alloc | apply Kd.R_drewN | apply Kd.R_drew)); exact HO_9.out⟩, ⟨by repeat (first | (with_reducible first | exact HB.out | apply below_alloc | apply pw_below_drewN | apply below_drew1) | exact HB.out)⟩⟩
                              · rw [if_neg c26] at H
                                have c26b0 : ((rd x9_1 (ji23)) == 0) = false := beq_eq_false_iff_ne.mpr c26
                                have c26b1 : ((rd x9_1 (ji23)) != 0) = true := bne_iff_ne.mpr c26
                                have H' := Aside0.mk H
                                clear H
                                obtain ⟨Ao28, co28, eo28⟩ := Kd.R_slice HO_9.out
                                subst eo28
                                have p249 : 0 ≤ ((ji23) : Int) := of_decide_eq_true (by first | (with_reducible assumption) | assumption)
                                have q249 : (ji23) < (x9_1.length : Int) := of_decide_eq_true (by first | (with_reducible assumption) | assumption)
                                obtain ⟨ad249, e249, hx249_0⟩ := Kd.at_int (Kd.R_reads' HO_9.out).2.2 (ji23) p249 q249
                                cases e249
                                replace p249 := eq_true p249
                                replace q249 := eq_true q249
                                go_wp2
                                (try subst hji23)
                                go_meet
                                case rel => exact ⟨_, (true), (by first | rfl | (simp; done) | (simp [*]; done)), H', ⟨by have := HK1.out; have := HJ18.out; first | omega | exact Nat.le_refl _⟩, ⟨by (with_reducible repeat (first | apply Kd.R_alloc | apply Kd.R_drewN | apply Kd.R_drew)); exact HO_8.out⟩, ⟨by (with_reducible repeat (first | apply Kd.R_alloc | apply Kd.R_drewN | apply Kd.R_drew)); exact HO_9.out⟩, ⟨by repeat (first | (with_reducible first | exact HB.out | apply below_alloc | apply pw_below_drewN | apply below_drew1) | exact HB.out)⟩⟩
                            · rw [if_neg c25] at H
                              exact absurd H (by simp)
                          · rw [if_neg c24] at H
                            exact absurd H (by simp)
                        case rest =>
                          clear HC22
                          (try clear c1); (try clear c2); (try clear p2); (try clear q2); (try clear hx2); (try clear c3); (try clear c5); (try clear p6); (try clear c7); (try clear c7b0); (try clear c7b1); (try clear c8); (try clear c8b0); (try clear c8b1); (try clear c9); (try clear c9b0); (try clear c9b1); (try clear c10); (try clear c16); (try clear c16b0); (try clear c17); (try clear c17b0); (try clear c18); (try clear c18b0); (try clear c18b1); (try clear q20); (try clear c21); (try clear c24); (try clear c24b0); (try clear p24); (try clear q24); (try clear hx24); (try clear c25); (try clear c25b0); (try clear c26); (try clear c26b0); (try clear c26b1); (try clear hx247_0); (try clear hx247_1); (try clear hx247_2); (try clear hx248_0); (try clear hx248_1); (try clear hx248_2); (try clear hx249_0); (try clear p2); (try clear p247); (try clear p248); (try clear p249); (try clear p6); (try clear q2); (try clear q20); (try clear q247); (try clear q248); (try clear q249)
                          obtain ⟨kq, x68_21, rfl, HA, HJ21, HO_8, HO_9, HB⟩ := hcut
                          cases kq with
                          | zero => exact absurd HA.out (by simp [foghornlaw20_MendReach.j2])
                          | succ kj21 =>
                            have H := HA.out
                            clear HA
                            simp only [foghornlaw20_MendReach.j2] at H
                            by_cases c29 : x68_21 = true
                            · subst c29
                              have H1 : (foghornlaw20_MendReach.l0 kj21 t240 l2 t239 x8_1 x9_1 x10_1 (wrap64 (x11_1 + 1))) = some r := by rw [if_pos rfl] at H; exact H
                              clear H
                              have H := H1
                              clear H1
                              have H' := Aside0.mk H
                              clear H
                              go_wp2
                              refine Handed.intro kj21 ?measure ?_
                              rotate_left
                              go_step
                              (try simp only [add_off0])
                              (repeat apply Exists.intro)
                              refine ⟨?rel, rfl⟩
                              case measure => have := HK1.out; have := HJ18.out; have := HJ21.out; omega
                              case rel => exact ⟨(x8_1), (x9_1), (x10_1), (wrap64 (x11_1 + 1)), (by first | rfl | (simp; done) | (simp [*]; done)), (by first | rfl | (simp; done) | (simp [*]; done)), H', ⟨by have := HK1.out; have := HJ18.out; have := HJ21.out; omega⟩, ⟨by (with_reducible repeat (first | apply Kd.R_alloc | apply Kd.R_drewN | apply Kd.R_drew)); exact HO_8.out⟩, ⟨by (with_reducible repeat (first | apply Kd.R_alloc | apply Kd.R_drewN | apply Kd.R_drew)); exact HO_9.out⟩, ⟨by repeat (first | (with_reducible first | exact HB.out | apply below_alloc | apply pw_below_drewN | apply below_drew1) | exact HB.out)⟩⟩
                            · replace c29 := Bool.eq_false_iff.mpr c29
                              subst c29
                              have H1 : (if 0 ≤ x11_1 then (if x11_1 < (l2.length : Int) then (if ((rd_T29 l2 x11_1).f1 = true) then (if 0 ≤ (Int.tmod (wrap64 ((Int.tmod ((rd_T29 l2 x11_1).f0) (t239.size : Int)) + (t239.size : Int))) (t239.size : Int)) then (if (Int.tmod (wrap64 ((Int.tmod ((rd_T29 l2 x11_1).f0) (t239.size : Int)) + (t239.size : Int))) (t239.size : Int)) < (x9_1.length : Int) then (if (Int.tmod (wrap64 ((Int.tmod ((rd_T29 l2 x11_1).f0) (t239.size : Int)) + (t239.size : Int))) (t239.size : Int)) < (x8_1.length : Int) then (foghornlaw20_MendReach.l0 kj21 t240 l2 t239 (x8_1.set ((Int.tmod (wrap64 ((Int.tmod ((rd_T29 l2 x11_1).f0) (t239.size : Int)) + (t239.size : Int))) (t239.size : Int)) : Int).toNat (Go.bits .xor .u8 (rd x8_1 (Int.tmod (wrap64 ((Int.tmod ((rd_T29 l2 x11_1).f0) (t239.size : Int)) + (t239.size : Int))) (t239.size : Int))) ((rd_T29 l2 x11_1).f2))) (x9_1.set ((Int.tmod (wrap64 ((Int.tmod ((rd_T29 l2 x11_1).f0) (t239.size : Int)) + (t239.size : Int))) (t239.size : Int)) : Int).toNat (wrap64 (3 - x13_18))) (wrap64 (x10_1 - x13_18)) (wrap64 (x11_1 + 1))) else (none)) else (none)) else (none)) else (if ((rd_T29 l2 x11_1).f2) = 0 then (foghornlaw20_MendReach.l0 kj21 t240 l2 t239 x8_1 x9_1 x10_1 (wrap64 (x11_1 + 1))) else (if 0 ≤ (Int.tmod (wrap64 ((Int.tmod ((rd_T29 l2 x11_1).f0) (t239.size : Int)) + (t239.size : Int))) (t239.size : Int)) then (if (Int.tmod (wrap64 ((Int.tmod ((rd_T29 l2 x11_1).f0) (t239.size : Int)) + (t239.size : Int))) (t239.size : Int)) < (x9_1.length : Int) then (if (Int.tmod (wrap64 ((Int.tmod ((rd_T29 l2 x11_1).f0) (t239.size : Int)) + (t239.size : Int))) (t239.size : Int)) < (x8_1.length : Int) then (foghornlaw20_MendReach.l0 kj21 t240 l2 t239 (x8_1.set ((Int.tmod (wrap64 ((Int.tmod ((rd_T29 l2 x11_1).f0) (t239.size : Int)) + (t239.size : Int))) (t239.size : Int)) : Int).toNat (Go.bits .xor .u8 (rd x8_1 (Int.tmod (wrap64 ((Int.tmod ((rd_T29 l2 x11_1).f0) (t239.size : Int)) + (t239.size : Int))) (t239.size : Int))) ((rd_T29 l2 x11_1).f2))) (x9_1.set ((Int.tmod (wrap64 ((Int.tmod ((rd_T29 l2 x11_1).f0) (t239.size : Int)) + (t239.size : Int))) (t239.size : Int)) : Int).toNat (wrap64 (3 - x13_18))) (wrap64 (x10_1 - x13_18)) (wrap64 (x11_1 + 1))) else (none)) else (none)) else (none)))) else (none)) else (none)) = some r := by rw [if_neg (show ¬ (false = true) by decide)] at H; exact H
                              clear H
                              have H := H1
                              clear H1
                              by_cases c30 : 0 ≤ x11_1
                              · rw [if_pos c30] at H
                                have c30b0 : decide (0 ≤ x11_1) = true := decide_eq_true c30
                                clear c30
                                by_cases c31 : x11_1 < (l2.length : Int)
                                · rw [if_pos c31] at H
                                  have c31b0 : decide (x11_1 < (l2.length : Int)) = true := decide_eq_true c31
                                  clear c31
                                  obtain ⟨bq32, hbq32⟩ : ∃ b_ : Bool, b_ = ((rd_T29 l2 x11_1).f1) := ⟨_, rfl⟩
                                  replace H : (if (bq32 = true) then (if 0 ≤ (Int.tmod (wrap64 ((Int.tmod ((rd_T29 l2 x11_1).f0) (t239.size : Int)) + (t239.size : Int))) (t239.size : Int)) then (if (Int.tmod (wrap64 ((Int.tmod ((rd_T29 l2 x11_1).f0) (t239.size : Int)) + (t239.size : Int))) (t239.size : Int)) < (x9_1.length : Int) then (if (Int.tmod (wrap64 ((Int.tmod ((rd_T29 l2 x11_1).f0) (t239.size : Int)) + (t239.size : Int))) (t239.size : Int)) < (x8_1.length : Int) then (foghornlaw20_MendReach.l0 kj21 t240 l2 t239 (x8_1.set ((Int.tmod (wrap64 ((Int.tmod ((rd_T29 l2 x11_1).f0) (t239.size : Int)) + (t239.size : Int))) (t239.size : Int)) : Int).toNat (Go.bits .xor .u8 (rd x8_1 (Int.tmod (wrap64 ((Int.tmod ((rd_T29 l2 x11_1).f0) (t239.size : Int)) + (t239.size : Int))) (t239.size : Int))) ((rd_T29 l2 x11_1).f2))) (x9_1.set ((Int.tmod (wrap64 ((Int.tmod ((rd_T29 l2 x11_1).f0) (t239.size : Int)) + (t239.size : Int))) (t239.size : Int)) : Int).toNat (wrap64 (3 - x13_18))) (wrap64 (x10_1 - x13_18)) (wrap64 (x11_1 + 1))) else (none)) else (none)) else (none)) else (if ((rd_T29 l2 x11_1).f2) = 0 then (foghornlaw20_MendReach.l0 kj21 t240 l2 t239 x8_1 x9_1 x10_1 (wrap64 (x11_1 + 1))) else (if 0 ≤ (Int.tmod (wrap64 ((Int.tmod ((rd_T29 l2 x11_1).f0) (t239.size : Int)) + (t239.size : Int))) (t239.size : Int)) then (if (Int.tmod (wrap64 ((Int.tmod ((rd_T29 l2 x11_1).f0) (t239.size : Int)) + (t239.size : Int))) (t239.size : Int)) < (x9_1.length : Int) then (if (Int.tmod (wrap64 ((Int.tmod ((rd_T29 l2 x11_1).f0) (t239.size : Int)) + (t239.size : Int))) (t239.size : Int)) < (x8_1.length : Int) then (foghornlaw20_MendReach.l0 kj21 t240 l2 t239 (x8_1.set ((Int.tmod (wrap64 ((Int.tmod ((rd_T29 l2 x11_1).f0) (t239.size : Int)) + (t239.size : Int))) (t239.size : Int)) : Int).toNat (Go.bits .xor .u8 (rd x8_1 (Int.tmod (wrap64 ((Int.tmod ((rd_T29 l2 x11_1).f0) (t239.size : Int)) + (t239.size : Int))) (t239.size : Int))) ((rd_T29 l2 x11_1).f2))) (x9_1.set ((Int.tmod (wrap64 ((Int.tmod ((rd_T29 l2 x11_1).f0) (t239.size : Int)) + (t239.size : Int))) (t239.size : Int)) : Int).toNat (wrap64 (3 - x13_18))) (wrap64 (x10_1 - x13_18)) (wrap64 (x11_1 + 1))) else (none)) else (none)) else (none)))) = some r := by rw [← hbq32] at H; exact H
                                  have Nbq32 := Aside0.mk hbq32
                                  clear hbq32
                                  by_cases c33 : (bq32 = true)
                                  · subst c33
                                    have H1 : (if 0 ≤ (Int.tmod (wrap64 ((Int.tmod ((rd_T29 l2 x11_1).f0) (t239.size : Int)) + (t239.size : Int))) (t239.size : Int)) then (if (Int.tmod (wrap64 ((Int.tmod ((rd_T29 l2 x11_1).f0) (t239.size : Int)) + (t239.size : Int))) (t239.size : Int)) < (x9_1.length : Int) then (if (Int.tmod (wrap64 ((Int.tmod ((rd_T29 l2 x11_1).f0) (t239.size : Int)) + (t239.size : Int))) (t239.size : Int)) < (x8_1.length : Int) then (foghornlaw20_MendReach.l0 kj21 t240 l2 t239 (x8_1.set ((Int.tmod (wrap64 ((Int.tmod ((rd_T29 l2 x11_1).f0) (t239.size : Int)) + (t239.size : Int))) (t239.size : Int)) : Int).toNat (Go.bits .xor .u8 (rd x8_1 (Int.tmod (wrap64 ((Int.tmod ((rd_T29 l2 x11_1).f0) (t239.size : Int)) + (t239.size : Int))) (t239.size : Int))) ((rd_T29 l2 x11_1).f2))) (x9_1.set ((Int.tmod (wrap64 ((Int.tmod ((rd_T29 l2 x11_1).f0) (t239.size : Int)) + (t239.size : Int))) (t239.size : Int)) : Int).toNat (wrap64 (3 - x13_18))) (wrap64 (x10_1 - x13_18)) (wrap64 (x11_1 + 1))) else (none)) else (none)) else (none)) = some r := by rw [if_pos rfl] at H; exact H
                                    clear H
                                    have H := H1
                                    clear H1
                                    obtain ⟨ji34, hji34⟩ : ∃ j_ : Int, (Int.tmod (wrap64 ((Int.tmod ((rd_T29 l2 x11_1).f0) (t239.size : Int)) + (t239.size : Int))) (t239.size : Int)) = j_ := ⟨_, rfl⟩
                                    replace H : (if 0 ≤ (ji34) then (if (ji34) < (x9_1.length : Int) then (if (ji34) < (x8_1.length : Int) then (foghornlaw20_MendReach.l0 kj21 t240 l2 t239 (x8_1.set ((ji34) : Int).toNat (Go.bits .xor .u8 (rd x8_1 (ji34)) ((rd_T29 l2 x11_1).f2))) (x9_1.set ((ji34) : Int).toNat (wrap64 (3 - x13_18))) (wrap64 (x10_1 - x13_18)) (wrap64 (x11_1 + 1))) else (none)) else (none)) else (none)) = some r := by first | (rw [hji34] at H; exact H) | (simp only [hji34] at H ⊢; exact H)
                                    by_cases c35 : 0 ≤ (ji34)
                                    · rw [if_pos c35] at H
                                      have c35b0 : decide (0 ≤ (ji34)) = true := decide_eq_true c35
                                      clear c35
                                      by_cases c36 : (ji34) < (x9_1.length : Int)
                                      · rw [if_pos c36] at H
                                        have c36b0 : decide ((ji34) < (x9_1.length : Int)) = true := decide_eq_true c36
                                        clear c36
                                        obtain ⟨y251, hy251⟩ : ∃ y_ : List Int, y_ = (x9_1.set ((ji34) : Int).toNat (wrap64 (3 - x13_18))) := ⟨_, rfl⟩
                                        replace H : (if (ji34) < (x8_1.length : Int) then (foghornlaw20_MendReach.l0 kj21 t240 l2 t239 (x8_1.set ((ji34) : Int).toNat (Go.bits .xor .u8 (rd x8_1 (ji34)) ((rd_T29 l2 x11_1).f2))) y251 (wrap64 (x10_1 - x13_18)) (wrap64 (x11_1 + 1))) else (none)) = some r := by first | (rw [hy251]; with_reducible exact H) | (have H2_ := (Option.bind_some _ _).symm.trans H; rw [hy251]; with_reducible exact H2_) | (have H2_ := (Option.bind_some _ _).symm.trans H; with_reducible exact H2_) | with_reducible exact H | (rw [hy251]; exact H) | exact H
                                        have Ny251 := Aside0.mk hy251
                                        clear hy251
                                        by_cases c38 : (ji34) < (x8_1.length : Int)
                                        · rw [if_pos c38] at H
                                          have c38b0 : decide ((ji34) < (x8_1.length : Int)) = true := decide_eq_true c38
                                          clear c38
                                          obtain ⟨y254, hy254⟩ : ∃ y_ : List Int, y_ = (x8_1.set ((ji34) : Int).toNat (Go.bits .xor .u8 (rd x8_1 (ji34)) ((rd_T29 l2 x11_1).f2))) := ⟨_, rfl⟩
                                          replace H : (foghornlaw20_MendReach.l0 kj21 t240 l2 t239 y254 y251 (wrap64 (x10_1 - x13_18)) (wrap64 (x11_1 + 1))) = some r := by first | (rw [hy254]; with_reducible exact H) | (have H2_ := (Option.bind_some _ _).symm.trans H; rw [hy254]; with_reducible exact H2_) | (have H2_ := (Option.bind_some _ _).symm.trans H; with_reducible exact H2_) | with_reducible exact H | (rw [hy254]; exact H) | exact H
                                          have Ny254 := Aside0.mk hy254
                                          clear hy254
                                          have H' := Aside0.mk H
                                          clear H
                                          have p250 : 0 ≤ (x11_1 : Int) := of_decide_eq_true (by first | (with_reducible assumption) | assumption)
                                          have q250 : x11_1 < (l2.length : Int) := of_decide_eq_true (by first | (with_reducible assumption) | assumption)
                                          obtain ⟨ad250, e250, hx250_0, hx250_1, hx250_2⟩ := at_T29 HR2.out x11_1 p250 q250
                                          (try rw [← Nbq32.out] at hx250_1)
                                          obtain rfl : ad247 = ad250 := (by injection e250)
                                          replace hx250_0 := (HB.out.cell (World.block_lt_of_cell? w _ hx250_0)).trans hx250_0
                                          replace hx250_1 := (HB.out.cell (World.block_lt_of_cell? w _ hx250_1)).trans hx250_1
                                          replace hx250_2 := (HB.out.cell (World.block_lt_of_cell? w _ hx250_2)).trans hx250_2
                                          replace p250 := eq_true p250
                                          replace q250 := eq_true q250
                                          have p37 : 0 ≤ ((ji34) : Int) := of_decide_eq_true (by first | (with_reducible assumption) | assumption)
                                          have q37 : ((ji34) : Int) < ((x9_1.length : Int) : Int) := of_decide_eq_true (by first | (with_reducible assumption) | assumption)
                                          obtain ⟨go37, co37, eo37, gb37, gl37, cl37, HG37⟩ := Kd.R_form HO_9.out (by omega)
                                          (first | cases eo37 | (injection eo37 with ea_ en_ ec_; (first | subst ea_ | (injection ea_ with ea_; subst ea_)); subst ec_; clear en_))
                                          have GB37 := Aside0.mk gb37
                                          have GG37 := Aside0.mk HG37
                                          clear gb37 gl37 HG37
                                          obtain ⟨hx37_0, hf37_0⟩ := Kd.R_celln 0 HO_9.out ((ji34) : Int) p37 q37
                                          replace p37 := eq_true p37
                                          replace q37 := eq_true q37
                                          have HP40 := Kd.R_putg HO_9.out ((ji34) : Int) (wrap64 (3 - x13_18))
                                          try go_wp2_with (first | ((with_reducible refine gate_store (t := 3) (p := 90) rfl ?_); refine store_event (t := 3) (p := 90) (v := ?vo_w41) (w1 := (wc.setCell ⟨go37, ((ji34) : Int).toNat, none⟩ (.int .i64 (wrap64 (3 - x13_18))))) ?hg ?ho ?hn ?hr ?_; (case ho => rfl); (case hg => rfl); (case hn => rfl); (case hr => first | (go_simp; done) | (go_simp; rfl)); intro w41 hw; have hg : wc.grownBy w41 (some go37) := (by rw [hw]; exact HP40.2); have hp_ : Kd.R (Kd.int .i64) 3 w41 w.heap.size (fun _ => True) (.slice (some ⟨go37, 0, none⟩) x9_1.length co37) y251 := (by rw [hw, Ny251.out]; exact HP40.1); clear HP40; have n0_ := Aside0.mk (Kd.R_over' (v := (.slice (some ⟨go37, 0, none⟩) x9_1.length co37)) (by (with_reducible repeat (first | apply Kd.R_alloc | apply Kd.R_drewN | apply Kd.R_drew)); exact HO_8.out) (Kd.R_typed HO_9.out) (by decide) hg); have n1_ := Aside0.mk (hp_); have n2_ := Aside0.mk ((by rw [hw]; exact below_set (HB.out) GB37.out : Below w.heap.size w w41)); clear HO_8; clear HO_9; clear HB; have HO_8 := n0_; have HO_9 := n1_; have HB := n2_; clear n0_ n1_ n2_; clear hg hw hp_))
                                          have n0_ := Aside0.mk (Kd.R_drew HO_8.out)
                                          have n1_ := Aside0.mk (Kd.R_drew HO_9.out)
                                          have n2_ := Aside0.mk (below_drew1 HB.out)
                                          clear HO_8
                                          clear HO_9
                                          clear HB
                                          have HO_8 := n0_
                                          have HO_9 := n1_
                                          have HB := n2_
                                          clear n0_ n1_ n2_
                                          obtain ⟨Ao43, co43, eo43⟩ := Kd.R_slice HO_8.out
                                          (first | subst eo43 | (injection eo43 with f1_ f2_ f3_; have f4_ := f1_.symm; have f5_ := f3_.symm; clear f1_ f2_ f3_; subst f4_; subst f5_))
                                          have p252 : 0 ≤ ((ji34) : Int) := of_decide_eq_true (by first | (with_reducible assumption) | assumption)
                                          have q252 : (ji34) < (x8_1.length : Int) := of_decide_eq_true (by first | (with_reducible assumption) | assumption)
                                          obtain ⟨ad252, e252, hx252_0⟩ := Kd.at_int (Kd.R_reads' HO_8.out).2.2 (ji34) p252 q252
                                          cases e252
                                          replace p252 := eq_true p252
                                          replace q252 := eq_true q252
                                          have p253 : 0 ≤ (x11_1 : Int) := of_decide_eq_true (by first | (with_reducible assumption) | assumption)
                                          have q253 : x11_1 < (l2.length : Int) := of_decide_eq_true (by first | (with_reducible assumption) | assumption)
                                          obtain ⟨ad253, e253, hx253_0, hx253_1, hx253_2⟩ := at_T29 HR2.out x11_1 p253 q253
                                          have hw253_2 := hx253_2
                                          have hw253_1 := hx253_1
                                          have hw253_0 := hx253_0
                                          (try rw [← Nbq32.out] at hx253_1)
                                          obtain rfl : ad247 = ad253 := (by injection e253)
                                          replace hx253_0 := (HB.out.cell (World.block_lt_of_cell? w _ hx253_0)).trans hx253_0
                                          replace hx253_1 := (HB.out.cell (World.block_lt_of_cell? w _ hx253_1)).trans hx253_1
                                          replace hx253_2 := (HB.out.cell (World.block_lt_of_cell? w _ hx253_2)).trans hx253_2
                                          replace p253 := eq_true p253
                                          replace q253 := eq_true q253
                                          have p39 : 0 ≤ ((ji34) : Int) := of_decide_eq_true (by first | (with_reducible assumption) | assumption)
                                          have q39 : ((ji34) : Int) < ((x8_1.length : Int) : Int) := of_decide_eq_true (by first | (with_reducible assumption) | assumption)
                                          obtain ⟨go39, co39, eo39, gb39, gl39, cl39, HG39⟩ := Kd.R_form HO_8.out (by omega)
                                          (first | cases eo39 | (injection eo39 with ea_ en_ ec_; (first | subst ea_ | (injection ea_ with ea_; subst ea_)); subst ec_; clear en_))
                                          have GB39 := Aside0.mk gb39
                                          have GG39 := Aside0.mk HG39
                                          clear gb39 gl39 HG39
                                          (first | simp only [add_plain] at hx252_0 | skip)
                                          obtain ⟨hx39_0, hf39_0⟩ := Kd.R_celln 0 HO_8.out ((ji34) : Int) p39 q39
                                          replace p39 := eq_true p39
                                          replace q39 := eq_true q39
                                          have HP44 := Kd.R_putn HO_8.out ((ji34) : Int) (Go.bits .xor .u8 (rd x8_1 (ji34)) ((rd_T29 l2 x11_1).f2))
                                          rw [← Ny254.out] at HP44
                                          have HQ44 := Aside0.mk HP44
                                          clear HP44
                                          refine start_ (n := 14) (S := fun w' => w'.cell? ⟨go39, ((ji34)).toNat, none⟩ = some (.int .u8 (rd x8_1 (ji34))) ∧ w'.cell? (ad247.add ((x11_1).toNat * 3)) = some (.int .i64 ((rd_T29 l2 x11_1).f0)) ∧ w'.cell? ⟨(ad247.add ((x11_1).toNat * 3)).block, (ad247.add ((x11_1).toNat * 3)).off + 1, none⟩ = some (.bool (true)) ∧ w'.cell? ⟨(ad247.add ((x11_1).toNat * 3)).block, (ad247.add ((x11_1).toNat * 3)).off + 2, none⟩ = some (.int .u8 ((rd_T29 l2 x11_1).f2))) (ds := [13]) #[false, false, false, false, false, false, false, false, false, false, false, false, false, false] (by kernel_rfl) rfl rfl ⟨hx252_0, (by first | exact ((HB.out.cell (World.block_lt_of_cell? w _ hw253_0)).trans hw253_0) | exact ((HB.out.cell (World.block_lt_of_cell? w _ hw253_0)).trans hw253_0).trans (by rw [← Nbq32.out])), (by first | exact ((HB.out.cell (World.block_lt_of_cell? w _ hw253_1)).trans hw253_1) | exact ((HB.out.cell (World.block_lt_of_cell? w _ hw253_1)).trans hw253_1).trans (by rw [← Nbq32.out])), (by first | exact ((HB.out.cell (World.block_lt_of_cell? w _ hw253_2)).trans hw253_2) | exact ((HB.out.cell (World.block_lt_of_cell? w _ hw253_2)).trans hw253_2).trans (by rw [← Nbq32.out]))⟩ (fun hHeld => ?_); refine with_tabW foghornlaw20_MendReach.tab18 foghornlaw20_MendReach.bits18 (fun HT_ HW_ => ?_)
                                          generalize w41.drew = w42 at HO_8 HO_9 HB GG39 HQ44 hf39_0 hx252_0 hx253_0 hx253_1 hx253_2 hx39_0 hHeld ⊢
                                          refine pure_ (i := 0) (N := some 91) (v := ?_) (a' := ?_) #[true, false, false, false, false, false, false, false, false, false, false, false, false, false] rfl rfl (any_of HT_.out (by kernel_rfl)) (fun _ _ _ h => h) (Or.inl ⟨by rfl, ?_⟩) ?_ ?_
                                          rotate_left
                                          · intro w'
                                            go_simp
                                            with_reducible rfl
                                          rotate_left
                                          · simp only [Act.put, List.setIfInBounds_toArray, List.set_cons_zero, List.set_cons_succ, i64_w, i32_w]
                                            rfl
                                          refine pure_ (i := 1) (N := some 92) (v := ?_) (a' := ?_) #[true, true, false, false, false, false, false, false, false, false, false, false, false, false] rfl rfl (any_of HT_.out (by kernel_rfl)) (fun _ _ _ h => h) (Or.inl ⟨by rfl, ?_⟩) ?_ ?_
                                          rotate_left
                                          · intro w'
                                            go_simp
                                            with_reducible rfl
                                          rotate_left
                                          · simp only [Act.put, List.setIfInBounds_toArray, List.set_cons_zero, List.set_cons_succ, i64_w, i32_w]
                                            rfl
                                          refine pure_ (i := 2) (N := some 93) (v := ?_) (a' := ?_) #[true, true, true, false, false, false, false, false, false, false, false, false, false, false] rfl rfl (any_of HT_.out (by kernel_rfl)) (fun _ _ _ h => h) (Or.inl ⟨by rfl, ?_⟩) ?_ ?_
                                          rotate_left
                                          · intro w'
                                            go_simp
                                            with_reducible rfl
                                          rotate_left
                                          · simp only [Act.put, List.setIfInBounds_toArray, List.set_cons_zero, List.set_cons_succ, i64_w, i32_w]
                                            rfl
                                          refine pure_ (i := 3) (N := some 94) (v := ?_) (a' := ?_) #[true, true, true, true, false, false, false, false, false, false, false, false, false, false] rfl rfl (any_of HT_.out (by kernel_rfl)) (fun _ _ _ h => h) (Or.inl ⟨by rfl, ?_⟩) ?_ ?_
                                          rotate_left
                                          · intro w'
                                            go_simp
                                            with_reducible rfl
                                          rotate_left
                                          · simp only [Act.put, List.setIfInBounds_toArray, List.set_cons_zero, List.set_cons_succ, i64_w, i32_w]
                                            rfl
                                          refine pure_ (i := 4) (N := some 95) (v := ?_) (a' := ?_) #[true, true, true, true, true, false, false, false, false, false, false, false, false, false] rfl rfl (any_of HT_.out (by kernel_rfl)) (fun _ _ _ h => h) (Or.inl ⟨by rfl, ?_⟩) ?_ ?_
                                          rotate_left
                                          · intro w'
                                            go_simp
                                            with_reducible rfl
                                          rotate_left
                                          · simp only [Act.put, List.setIfInBounds_toArray, List.set_cons_zero, List.set_cons_succ, i64_w, i32_w]
                                            rfl
                                          refine pure_ (i := 6) (N := some 97) (v := ?_) (a' := ?_) #[true, true, true, true, true, false, true, false, false, false, false, false, false, false] rfl rfl (any_of HT_.out (by kernel_rfl)) (fun _ _ _ h => h) (Or.inl ⟨by rfl, ?_⟩) ?_ ?_
                                          rotate_left
                                          · intro w'
                                            go_simp
                                            with_reducible rfl
                                          rotate_left
                                          · simp only [Act.put, List.setIfInBounds_toArray, List.set_cons_zero, List.set_cons_succ, i64_w, i32_w]
                                            rfl
                                          refine pure_ (i := 7) (N := some 98) (v := ?_) (a' := ?_) #[true, true, true, true, true, false, true, true, false, false, false, false, false, false] rfl rfl (any_of HT_.out (by kernel_rfl)) (fun _ _ _ h => h) (Or.inl ⟨by rfl, ?_⟩) ?_ ?_
                                          rotate_left
                                          · intro w'
                                            go_simp
                                            with_reducible rfl
                                          rotate_left
                                          · simp only [Act.put, List.setIfInBounds_toArray, List.set_cons_zero, List.set_cons_succ, i64_w, i32_w]
                                            rfl
                                          refine pure_ (i := 8) (N := some 99) (v := ?_) (a' := ?_) #[true, true, true, true, true, false, true, true, true, false, false, false, false, false] rfl rfl (any_of HT_.out (by kernel_rfl)) (fun _ _ _ h => h) (Or.inl ⟨by rfl, ?_⟩) ?_ ?_
                                          rotate_left
                                          · intro w'
                                            go_simp
                                            with_reducible rfl
                                          rotate_left
                                          · simp only [Act.put, List.setIfInBounds_toArray, List.set_cons_zero, List.set_cons_succ, i64_w, i32_w]
                                            rfl
                                          refine pure_ (i := 9) (N := some 100) (v := ?_) (a' := ?_) #[true, true, true, true, true, false, true, true, true, true, false, false, false, false] rfl rfl (any_of HT_.out (by kernel_rfl)) (fun _ _ _ h => h) (Or.inl ⟨by rfl, ?_⟩) ?_ ?_
                                          rotate_left
                                          · intro w'
                                            go_simp
                                            with_reducible rfl
                                          rotate_left
                                          · simp only [Act.put, List.setIfInBounds_toArray, List.set_cons_zero, List.set_cons_succ, i64_w, i32_w]
                                            rfl
                                          refine take_ (i := 5) (N := some 96) (v := ?_) (a' := ?_) #[true, true, true, true, true, true, true, true, true, true, false, false, false, false] rfl rfl (take_ofW HT_.out HW_.out (by kernel_rfl)) (fun _ _ _ h => h) (Or.inl ⟨by rfl, ?_⟩) hHeld ?_ ?_
                                          rotate_left
                                          · rintro w' ⟨s0, s1, s2, s3⟩
                                            go_simp
                                            with_reducible rfl
                                          rotate_left
                                          · simp only [Act.put, List.setIfInBounds_toArray, List.set_cons_zero, List.set_cons_succ, i64_w, i32_w]
                                            rfl
                                          refine take_ (i := 10) (N := some 101) (v := ?_) (a' := ?_) #[true, true, true, true, true, true, true, true, true, true, true, false, false, false] rfl rfl (take_ofW HT_.out HW_.out (by kernel_rfl)) (fun _ _ _ h => h) (Or.inl ⟨by rfl, ?_⟩) hHeld ?_ ?_
                                          rotate_left
                                          · rintro w' ⟨s0, s1, s2, s3⟩
                                            go_simp
                                            with_reducible rfl
                                          rotate_left
                                          · simp only [Act.put, List.setIfInBounds_toArray, List.set_cons_zero, List.set_cons_succ, i64_w, i32_w]
                                            rfl
                                          refine pure_ (i := 11) (N := some 102) (v := ?_) (a' := ?_) #[true, true, true, true, true, true, true, true, true, true, true, true, false, false] rfl rfl (any_of HT_.out (by kernel_rfl)) (fun _ _ _ h => h) (Or.inl ⟨by rfl, ?_⟩) ?_ ?_
                                          rotate_left
                                          · intro w'
                                            go_simp
                                            with_reducible rfl
                                          rotate_left
                                          · simp only [Act.put, List.setIfInBounds_toArray, List.set_cons_zero, List.set_cons_succ, i64_w, i32_w]
                                            rfl
                                          refine pure_ (i := 12) (N := some 103) (v := ?_) (a' := ?_) #[true, true, true, true, true, true, true, true, true, true, true, true, true, false] rfl rfl (any_of HT_.out (by kernel_rfl)) (fun _ _ _ h => h) (Or.inl ⟨by rfl, ?_⟩) ?_ ?_
                                          rotate_left
                                          · intro w'
                                            go_simp
                                            with_reducible rfl
                                          rotate_left
                                          · simp only [Act.put, List.setIfInBounds_toArray, List.set_cons_zero, List.set_cons_succ, i64_w, i32_w]
                                            rfl
                                          refine last_ (i := 13) (N := none) #[true, true, true, true, true, true, true, true, true, true, true, true, true, true] rfl rfl (one_of HT_.out (by kernel_rfl)) (by decide) (fun K hK => ?_)
                                          refine skip_ (w1 := ?_) (by rfl) rfl ?_ ?_
                                          rotate_left
                                          · go_simp
                                            rfl
                                          refine hK.out _ _ ?_
                                          clear hK K
                                          refine done_ (done_of HT_.out (by kernel_rfl)) ?_
                                          try go_wp2
                                          refine Handed.intro kj21 ?measure ?_
                                          rotate_left
                                          go_step
                                          (try simp only [add_off0])
                                          (repeat apply Exists.intro)
                                          refine ⟨?rel, rfl⟩
                                          case measure => have := HK1.out; have := HJ18.out; have := HJ21.out; omega
                                          case rel => exact ⟨(y254), (y251), (wrap64 (x10_1 - x13_18)), (wrap64 (x11_1 + 1)), (by first | rfl | (simp; done) | (simp [*]; done)), (by first | rfl | (simp; done) | (simp [*]; done)), H', ⟨by have := HK1.out; have := HJ18.out; have := HJ21.out; omega⟩, ⟨by (with_reducible repeat (first | apply Kd.R_alloc | apply Kd.R_drewN | apply Kd.R_drew)); exact HQ44.out⟩, ⟨by (with_reducible repeat (first | apply Kd.R_alloc | apply Kd.R_drewN | apply Kd.R_drew)); exact Kd.R_mono (Kd.R_far (p := ⟨go39, ((ji34) : Int).toNat, none⟩) (R_typesI HO_9.out GG39.out (by decide)) (fun _ hk => hk.2) (.int .u8 (Go.bits .xor .u8 (rd x8_1 (ji34)) ((rd_T29 l2 x11_1).f2)))) (fun _ hk => trivial)⟩, ⟨by repeat (first | (with_reducible first | exact HB.out | apply below_alloc | apply pw_below_drewN | apply below_drew1 | refine below_set ?_ GB39.out) | exact HB.out)⟩⟩
                                        · rw [if_neg c38] at H
                                          exact absurd H (by simp)
                                      · rw [if_neg c36] at H
                                        exact absurd H (by simp)
                                    · rw [if_neg c35] at H
                                      exact absurd H (by simp)
                                  · replace c33 := Bool.eq_false_iff.mpr c33
                                    subst c33
                                    have H1 : (if ((rd_T29 l2 x11_1).f2) = 0 then (foghornlaw20_MendReach.l0 kj21 t240 l2 t239 x8_1 x9_1 x10_1 (wrap64 (x11_1 + 1))) else (if 0 ≤ (Int.tmod (wrap64 ((Int.tmod ((rd_T29 l2 x11_1).f0) (t239.size : Int)) + (t239.size : Int))) (t239.size : Int)) then (if (Int.tmod (wrap64 ((Int.tmod ((rd_T29 l2 x11_1).f0) (t239.size : Int)) + (t239.size : Int))) (t239.size : Int)) < (x9_1.length : Int) then (if (Int.tmod (wrap64 ((Int.tmod ((rd_T29 l2 x11_1).f0) (t239.size : Int)) + (t239.size : Int))) (t239.size : Int)) < (x8_1.length : Int) then (foghornlaw20_MendReach.l0 kj21 t240 l2 t239 (x8_1.set ((Int.tmod (wrap64 ((Int.tmod ((rd_T29 l2 x11_1).f0) (t239.size : Int)) + (t239.size : Int))) (t239.size : Int)) : Int).toNat (Go.bits .xor .u8 (rd x8_1 (Int.tmod (wrap64 ((Int.tmod ((rd_T29 l2 x11_1).f0) (t239.size : Int)) + (t239.size : Int))) (t239.size : Int))) ((rd_T29 l2 x11_1).f2))) (x9_1.set ((Int.tmod (wrap64 ((Int.tmod ((rd_T29 l2 x11_1).f0) (t239.size : Int)) + (t239.size : Int))) (t239.size : Int)) : Int).toNat (wrap64 (3 - x13_18))) (wrap64 (x10_1 - x13_18)) (wrap64 (x11_1 + 1))) else (none)) else (none)) else (none))) = some r := by rw [if_neg (show ¬ (false = true) by decide)] at H; exact H
                                    clear H
                                    have H := H1
                                    clear H1
                                    by_cases c45 : ((rd_T29 l2 x11_1).f2) = 0
                                    · rw [if_pos c45] at H
                                      have c45b0 : (((rd_T29 l2 x11_1).f2) == 0) = true := beq_iff_eq.mpr c45
                                      have c45b1 : (((rd_T29 l2 x11_1).f2) != 0) = false := bne_eq_false_iff_eq.mpr c45
                                      clear c45
                                      have H' := Aside0.mk H
                                      clear H
                                      have p250 : 0 ≤ (x11_1 : Int) := of_decide_eq_true (by first | (with_reducible assumption) | assumption)
                                      have q250 : x11_1 < (l2.length : Int) := of_decide_eq_true (by first | (with_reducible assumption) | assumption)
                                      obtain ⟨ad250, e250, hx250_0, hx250_1, hx250_2⟩ := at_T29 HR2.out x11_1 p250 q250
                                      (try rw [← Nbq32.out] at hx250_1)
                                      obtain rfl : ad247 = ad250 := (by injection e250)
                                      replace hx250_0 := (HB.out.cell (World.block_lt_of_cell? w _ hx250_0)).trans hx250_0
                                      replace hx250_1 := (HB.out.cell (World.block_lt_of_cell? w _ hx250_1)).trans hx250_1
                                      replace hx250_2 := (HB.out.cell (World.block_lt_of_cell? w _ hx250_2)).trans hx250_2
                                      replace p250 := eq_true p250
                                      replace q250 := eq_true q250
                                      have p255 : 0 ≤ (x11_1 : Int) := of_decide_eq_true (by first | (with_reducible assumption) | assumption)
                                      have q255 : x11_1 < (l2.length : Int) := of_decide_eq_true (by first | (with_reducible assumption) | assumption)
                                      obtain ⟨ad255, e255, hx255_0, hx255_1, hx255_2⟩ := at_T29 HR2.out x11_1 p255 q255
                                      (try rw [← Nbq32.out] at hx255_1)
                                      obtain rfl : ad247 = ad255 := (by injection e255)
                                      replace hx255_0 := (HB.out.cell (World.block_lt_of_cell? w _ hx255_0)).trans hx255_0
                                      replace hx255_1 := (HB.out.cell (World.block_lt_of_cell? w _ hx255_1)).trans hx255_1
                                      replace hx255_2 := (HB.out.cell (World.block_lt_of_cell? w _ hx255_2)).trans hx255_2
                                      replace p255 := eq_true p255
                                      replace q255 := eq_true q255
                                      go_wp2
                                      refine Handed.intro kj21 ?measure ?_
                                      rotate_left
                                      go_step
                                      (try simp only [add_off0])
                                      (repeat apply Exists.intro)
                                      refine ⟨?rel, rfl⟩
                                      case measure => have := HK1.out; have := HJ18.out; have := HJ21.out; omega
                                      case rel => exact ⟨(x8_1), (x9_1), (x10_1), (wrap64 (x11_1 + 1)), (by first | rfl | (simp; done) | (simp [*]; done)), (by first | rfl | (simp; done) | (simp [*]; done)), H', ⟨by have := HK1.out; have := HJ18.out; have := HJ21.out; omega⟩, ⟨by (with_reducible repeat (first | apply Kd.R_alloc | apply Kd.R_drewN | apply Kd.R_drew)); exact HO_8.out⟩, ⟨by (with_reducible repeat (first | apply Kd.R_alloc | apply Kd.R_drewN | apply Kd.R_drew)); exact HO_9.out⟩, ⟨by repeat (first | (with_reducible first | exact HB.out | apply below_alloc | apply pw_below_drewN | apply below_drew1) | exact HB.out)⟩⟩
                                    · rw [if_neg c45] at H
                                      have c45b0 : (((rd_T29 l2 x11_1).f2) == 0) = false := beq_eq_false_iff_ne.mpr c45
                                      have c45b1 : (((rd_T29 l2 x11_1).f2) != 0) = true := bne_iff_ne.mpr c45
                                      obtain ⟨ji46, hji46⟩ : ∃ j_ : Int, (Int.tmod (wrap64 ((Int.tmod ((rd_T29 l2 x11_1).f0) (t239.size : Int)) + (t239.size : Int))) (t239.size : Int)) = j_ := ⟨_, rfl⟩
                                      replace H : (if 0 ≤ (ji46) then (if (ji46) < (x9_1.length : Int) then (if (ji46) < (x8_1.length : Int) then (foghornlaw20_MendReach.l0 kj21 t240 l2 t239 (x8_1.set ((ji46) : Int).toNat (Go.bits .xor .u8 (rd x8_1 (ji46)) ((rd_T29 l2 x11_1).f2))) (x9_1.set ((ji46) : Int).toNat (wrap64 (3 - x13_18))) (wrap64 (x10_1 - x13_18)) (wrap64 (x11_1 + 1))) else (none)) else (none)) else (none)) = some r := by first | (rw [hji46] at H; exact H) | (simp only [hji46] at H ⊢; exact H)
                                      by_cases c47 : 0 ≤ (ji46)
                                      · rw [if_pos c47] at H
                                        have c47b0 : decide (0 ≤ (ji46)) = true := decide_eq_true c47
                                        clear c47
                                        by_cases c48 : (ji46) < (x9_1.length : Int)
                                        · rw [if_pos c48] at H
                                          have c48b0 : decide ((ji46) < (x9_1.length : Int)) = true := decide_eq_true c48
                                          clear c48
                                          obtain ⟨y256, hy256⟩ : ∃ y_ : List Int, y_ = (x9_1.set ((ji46) : Int).toNat (wrap64 (3 - x13_18))) := ⟨_, rfl⟩
                                          replace H : (if (ji46) < (x8_1.length : Int) then (foghornlaw20_MendReach.l0 kj21 t240 l2 t239 (x8_1.set ((ji46) : Int).toNat (Go.bits .xor .u8 (rd x8_1 (ji46)) ((rd_T29 l2 x11_1).f2))) y256 (wrap64 (x10_1 - x13_18)) (wrap64 (x11_1 + 1))) else (none)) = some r := by first | (rw [hy256]; with_reducible exact H) | (have H2_ := (Option.bind_some _ _).symm.trans H; rw [hy256]; with_reducible exact H2_) | (have H2_ := (Option.bind_some _ _).symm.trans H; with_reducible exact H2_) | with_reducible exact H | (rw [hy256]; exact H) | exact H
                                          have Ny256 := Aside0.mk hy256
                                          clear hy256
                                          by_cases c50 : (ji46) < (x8_1.length : Int)
                                          · rw [if_pos c50] at H
                                            have c50b0 : decide ((ji46) < (x8_1.length : Int)) = true := decide_eq_true c50
                                            clear c50
                                            obtain ⟨y259, hy259⟩ : ∃ y_ : List Int, y_ = (x8_1.set ((ji46) : Int).toNat (Go.bits .xor .u8 (rd x8_1 (ji46)) ((rd_T29 l2 x11_1).f2))) := ⟨_, rfl⟩
                                            replace H : (foghornlaw20_MendReach.l0 kj21 t240 l2 t239 y259 y256 (wrap64 (x10_1 - x13_18)) (wrap64 (x11_1 + 1))) = some r := by first | (rw [hy259]; with_reducible exact H) | (have H2_ := (Option.bind_some _ _).symm.trans H; rw [hy259]; with_reducible exact H2_) | (have H2_ := (Option.bind_some _ _).symm.trans H; with_reducible exact H2_) | with_reducible exact H | (rw [hy259]; exact H) | exact H
                                            have Ny259 := Aside0.mk hy259
                                            clear hy259
                                            have H' := Aside0.mk H
                                            clear H
                                            have p250 : 0 ≤ (x11_1 : Int) := of_decide_eq_true (by first | (with_reducible assumption) | assumption)
                                            have q250 : x11_1 < (l2.length : Int) := of_decide_eq_true (by first | (with_reducible assumption) | assumption)
                                            obtain ⟨ad250, e250, hx250_0, hx250_1, hx250_2⟩ := at_T29 HR2.out x11_1 p250 q250
                                            (try rw [← Nbq32.out] at hx250_1)
                                            obtain rfl : ad247 = ad250 := (by injection e250)
                                            replace hx250_0 := (HB.out.cell (World.block_lt_of_cell? w _ hx250_0)).trans hx250_0
                                            replace hx250_1 := (HB.out.cell (World.block_lt_of_cell? w _ hx250_1)).trans hx250_1
                                            replace hx250_2 := (HB.out.cell (World.block_lt_of_cell? w _ hx250_2)).trans hx250_2
                                            replace p250 := eq_true p250
                                            replace q250 := eq_true q250
                                            have p255 : 0 ≤ (x11_1 : Int) := of_decide_eq_true (by first | (with_reducible assumption) | assumption)
                                            have q255 : x11_1 < (l2.length : Int) := of_decide_eq_true (by first | (with_reducible assumption) | assumption)
                                            obtain ⟨ad255, e255, hx255_0, hx255_1, hx255_2⟩ := at_T29 HR2.out x11_1 p255 q255
                                            (try rw [← Nbq32.out] at hx255_1)
                                            obtain rfl : ad247 = ad255 := (by injection e255)
                                            replace hx255_0 := (HB.out.cell (World.block_lt_of_cell? w _ hx255_0)).trans hx255_0
                                            replace hx255_1 := (HB.out.cell (World.block_lt_of_cell? w _ hx255_1)).trans hx255_1
                                            replace hx255_2 := (HB.out.cell (World.block_lt_of_cell? w _ hx255_2)).trans hx255_2
                                            replace p255 := eq_true p255
                                            replace q255 := eq_true q255
                                            have p49 : 0 ≤ ((ji46) : Int) := of_decide_eq_true (by first | (with_reducible assumption) | assumption)
                                            have q49 : ((ji46) : Int) < ((x9_1.length : Int) : Int) := of_decide_eq_true (by first | (with_reducible assumption) | assumption)
                                            obtain ⟨go49, co49, eo49, gb49, gl49, cl49, HG49⟩ := Kd.R_form HO_9.out (by omega)
                                            (first | cases eo49 | (injection eo49 with ea_ en_ ec_; (first | subst ea_ | (injection ea_ with ea_; subst ea_)); subst ec_; clear en_))
                                            have GB49 := Aside0.mk gb49
                                            have GG49 := Aside0.mk HG49
                                            clear gb49 gl49 HG49
                                            obtain ⟨hx49_0, hf49_0⟩ := Kd.R_celln 0 HO_9.out ((ji46) : Int) p49 q49
                                            replace p49 := eq_true p49
                                            replace q49 := eq_true q49
                                            have HP52 := Kd.R_putg HO_9.out ((ji46) : Int) (wrap64 (3 - x13_18))
                                            try go_wp2_with (first | ((with_reducible refine gate_store (t := 3) (p := 90) rfl ?_); refine store_event (t := 3) (p := 90) (v := ?vo_w53) (w1 := (wc.setCell ⟨go49, ((ji46) : Int).toNat, none⟩ (.int .i64 (wrap64 (3 - x13_18))))) ?hg ?ho ?hn ?hr ?_; (case ho => rfl); (case hg => rfl); (case hn => rfl); (case hr => first | (go_simp; done) | (go_simp; rfl)); intro w53 hw; have hg : wc.grownBy w53 (some go49) := (by rw [hw]; exact HP52.2); have hp_ : Kd.R (Kd.int .i64) 3 w53 w.heap.size (fun _ => True) (.slice (some ⟨go49, 0, none⟩) x9_1.length co49) y256 := (by rw [hw, Ny256.out]; exact HP52.1); clear HP52; have n0_ := Aside0.mk (Kd.R_over' (v := (.slice (some ⟨go49, 0, none⟩) x9_1.length co49)) (by (with_reducible repeat (first | apply Kd.R_alloc | apply Kd.R_drewN | apply Kd.R_drew)); exact HO_8.out) (Kd.R_typed HO_9.out) (by decide) hg); have n1_ := Aside0.mk (hp_); have n2_ := Aside0.mk ((by rw [hw]; exact below_set (HB.out) GB49.out : Below w.heap.size w w53)); clear HO_8; clear HO_9; clear HB; have HO_8 := n0_; have HO_9 := n1_; have HB := n2_; clear n0_ n1_ n2_; clear hg hw hp_))
                                            have n0_ := Aside0.mk (Kd.R_drew HO_8.out)
                                            have n1_ := Aside0.mk (Kd.R_drew HO_9.out)
                                            have n2_ := Aside0.mk (below_drew1 HB.out)
                                            clear HO_8
                                            clear HO_9
                                            clear HB
                                            have HO_8 := n0_
                                            have HO_9 := n1_
                                            have HB := n2_
                                            clear n0_ n1_ n2_
                                            obtain ⟨Ao55, co55, eo55⟩ := Kd.R_slice HO_8.out
                                            (first | subst eo55 | (injection eo55 with f1_ f2_ f3_; have f4_ := f1_.symm; have f5_ := f3_.symm; clear f1_ f2_ f3_; subst f4_; subst f5_))
                                            have p257 : 0 ≤ ((ji46) : Int) := of_decide_eq_true (by first | (with_reducible assumption) | assumption)
                                            have q257 : (ji46) < (x8_1.length : Int) := of_decide_eq_true (by first | (with_reducible assumption) | assumption)
                                            obtain ⟨ad257, e257, hx257_0⟩ := Kd.at_int (Kd.R_reads' HO_8.out).2.2 (ji46) p257 q257
                                            cases e257
                                            replace p257 := eq_true p257
                                            replace q257 := eq_true q257
                                            have p258 : 0 ≤ (x11_1 : Int) := of_decide_eq_true (by first | (with_reducible assumption) | assumption)
                                            have q258 : x11_1 < (l2.length : Int) := of_decide_eq_true (by first | (with_reducible assumption) | assumption)
                                            obtain ⟨ad258, e258, hx258_0, hx258_1, hx258_2⟩ := at_T29 HR2.out x11_1 p258 q258
                                            have hw258_2 := hx258_2
                                            have hw258_1 := hx258_1
                                            have hw258_0 := hx258_0
                                            (try rw [← Nbq32.out] at hx258_1)
                                            obtain rfl : ad247 = ad258 := (by injection e258)
                                            replace hx258_0 := (HB.out.cell (World.block_lt_of_cell? w _ hx258_0)).trans hx258_0
                                            replace hx258_1 := (HB.out.cell (World.block_lt_of_cell? w _ hx258_1)).trans hx258_1
                                            replace hx258_2 := (HB.out.cell (World.block_lt_of_cell? w _ hx258_2)).trans hx258_2
                                            replace p258 := eq_true p258
                                            replace q258 := eq_true q258
                                            have p51 : 0 ≤ ((ji46) : Int) := of_decide_eq_true (by first | (with_reducible assumption) | assumption)
                                            have q51 : ((ji46) : Int) < ((x8_1.length : Int) : Int) := of_decide_eq_true (by first | (with_reducible assumption) | assumption)
                                            obtain ⟨go51, co51, eo51, gb51, gl51, cl51, HG51⟩ := Kd.R_form HO_8.out (by omega)
                                            (first | cases eo51 | (injection eo51 with ea_ en_ ec_; (first | subst ea_ | (injection ea_ with ea_; subst ea_)); subst ec_; clear en_))
                                            have GB51 := Aside0.mk gb51
                                            have GG51 := Aside0.mk HG51
                                            clear gb51 gl51 HG51
                                            (first | simp only [add_plain] at hx257_0 | skip)
                                            obtain ⟨hx51_0, hf51_0⟩ := Kd.R_celln 0 HO_8.out ((ji46) : Int) p51 q51
                                            replace p51 := eq_true p51
                                            replace q51 := eq_true q51
                                            have HP56 := Kd.R_putn HO_8.out ((ji46) : Int) (Go.bits .xor .u8 (rd x8_1 (ji46)) ((rd_T29 l2 x11_1).f2))
                                            rw [← Ny259.out] at HP56
                                            have HQ56 := Aside0.mk HP56
                                            clear HP56
                                            refine start_ (n := 14) (S := fun w' => w'.cell? ⟨go51, ((ji46)).toNat, none⟩ = some (.int .u8 (rd x8_1 (ji46))) ∧ w'.cell? (ad247.add ((x11_1).toNat * 3)) = some (.int .i64 ((rd_T29 l2 x11_1).f0)) ∧ w'.cell? ⟨(ad247.add ((x11_1).toNat * 3)).block, (ad247.add ((x11_1).toNat * 3)).off + 1, none⟩ = some (.bool (false)) ∧ w'.cell? ⟨(ad247.add ((x11_1).toNat * 3)).block, (ad247.add ((x11_1).toNat * 3)).off + 2, none⟩ = some (.int .u8 ((rd_T29 l2 x11_1).f2))) (ds := [13]) #[false, false, false, false, false, false, false, false, false, false, false, false, false, false] (by kernel_rfl) rfl rfl ⟨hx257_0, (by first | exact ((HB.out.cell (World.block_lt_of_cell? w _ hw258_0)).trans hw258_0) | exact ((HB.out.cell (World.block_lt_of_cell? w _ hw258_0)).trans hw258_0).trans (by rw [← Nbq32.out])), (by first | exact ((HB.out.cell (World.block_lt_of_cell? w _ hw258_1)).trans hw258_1) | exact ((HB.out.cell (World.block_lt_of_cell? w _ hw258_1)).trans hw258_1).trans (by rw [← Nbq32.out])), (by first | exact ((HB.out.cell (World.block_lt_of_cell? w _ hw258_2)).trans hw258_2) | exact ((HB.out.cell (World.block_lt_of_cell? w _ hw258_2)).trans hw258_2).trans (by rw [← Nbq32.out]))⟩ (fun hHeld => ?_); refine with_tabW foghornlaw20_MendReach.tab18 foghornlaw20_MendReach.bits18 (fun HT_ HW_ => ?_)
                                            generalize w53.drew = w54 at HO_8 HO_9 HB GG51 HQ56 hf51_0 hx257_0 hx258_0 hx258_1 hx258_2 hx51_0 hHeld ⊢
                                            refine pure_ (i := 0) (N := some 91) (v := ?_) (a' := ?_) #[true, false, false, false, false, false, false, false, false, false, false, false, false, false] rfl rfl (any_of HT_.out (by kernel_rfl)) (fun _ _ _ h => h) (Or.inl ⟨by rfl, ?_⟩) ?_ ?_
                                            rotate_left
                                            · intro w'
                                              go_simp
                                              with_reducible rfl
                                            rotate_left
                                            · simp only [Act.put, List.setIfInBounds_toArray, List.set_cons_zero, List.set_cons_succ, i64_w, i32_w]
                                              rfl
                                            refine pure_ (i := 1) (N := some 92) (v := ?_) (a' := ?_) #[true, true, false, false, false, false, false, false, false, false, false, false, false, false] rfl rfl (any_of HT_.out (by kernel_rfl)) (fun _ _ _ h => h) (Or.inl ⟨by rfl, ?_⟩) ?_ ?_
                                            rotate_left
                                            · intro w'
                                              go_simp
                                              with_reducible rfl
                                            rotate_left
                                            · simp only [Act.put, List.setIfInBounds_toArray, List.set_cons_zero, List.set_cons_succ, i64_w, i32_w]
                                              rfl
                                            refine pure_ (i := 2) (N := some 93) (v := ?_) (a' := ?_) #[true, true, true, false, false, false, false, false, false, false, false, false, false, false] rfl rfl (any_of HT_.out (by kernel_rfl)) (fun _ _ _ h => h) (Or.inl ⟨by rfl, ?_⟩) ?_ ?_
                                            rotate_left
                                            · intro w'
                                              go_simp
                                              with_reducible rfl
                                            rotate_left
                                            · simp only [Act.put, List.setIfInBounds_toArray, List.set_cons_zero, List.set_cons_succ, i64_w, i32_w]
                                              rfl
                                            refine pure_ (i := 3) (N := some 94) (v := ?_) (a' := ?_) #[true, true, true, true, false, false, false, false, false, false, false, false, false, false] rfl rfl (any_of HT_.out (by kernel_rfl)) (fun _ _ _ h => h) (Or.inl ⟨by rfl, ?_⟩) ?_ ?_
                                            rotate_left
                                            · intro w'
                                              go_simp
                                              with_reducible rfl
                                            rotate_left
                                            · simp only [Act.put, List.setIfInBounds_toArray, List.set_cons_zero, List.set_cons_succ, i64_w, i32_w]
                                              rfl
                                            refine pure_ (i := 4) (N := some 95) (v := ?_) (a' := ?_) #[true, true, true, true, true, false, false, false, false, false, false, false, false, false] rfl rfl (any_of HT_.out (by kernel_rfl)) (fun _ _ _ h => h) (Or.inl ⟨by rfl, ?_⟩) ?_ ?_
                                            rotate_left
                                            · intro w'
                                              go_simp
                                              with_reducible rfl
                                            rotate_left
                                            · simp only [Act.put, List.setIfInBounds_toArray, List.set_cons_zero, List.set_cons_succ, i64_w, i32_w]
                                              rfl
                                            refine pure_ (i := 6) (N := some 97) (v := ?_) (a' := ?_) #[true, true, true, true, true, false, true, false, false, false, false, false, false, false] rfl rfl (any_of HT_.out (by kernel_rfl)) (fun _ _ _ h => h) (Or.inl ⟨by rfl, ?_⟩) ?_ ?_
                                            rotate_left
                                            · intro w'
                                              go_simp
                                              with_reducible rfl
                                            rotate_left
                                            · simp only [Act.put, List.setIfInBounds_toArray, List.set_cons_zero, List.set_cons_succ, i64_w, i32_w]
                                              rfl
                                            refine pure_ (i := 7) (N := some 98) (v := ?_) (a' := ?_) #[true, true, true, true, true, false, true, true, false, false, false, false, false, false] rfl rfl (any_of HT_.out (by kernel_rfl)) (fun _ _ _ h => h) (Or.inl ⟨by rfl, ?_⟩) ?_ ?_
                                            rotate_left
                                            · intro w'
                                              go_simp
                                              with_reducible rfl
                                            rotate_left
                                            · simp only [Act.put, List.setIfInBounds_toArray, List.set_cons_zero, List.set_cons_succ, i64_w, i32_w]
                                              rfl
                                            refine pure_ (i := 8) (N := some 99) (v := ?_) (a' := ?_) #[true, true, true, true, true, false, true, true, true, false, false, false, false, false] rfl rfl (any_of HT_.out (by kernel_rfl)) (fun _ _ _ h => h) (Or.inl ⟨by rfl, ?_⟩) ?_ ?_
                                            rotate_left
                                            · intro w'
                                              go_simp
                                              with_reducible rfl
                                            rotate_left
                                            · simp only [Act.put, List.setIfInBounds_toArray, List.set_cons_zero, List.set_cons_succ, i64_w, i32_w]
                                              rfl
                                            refine pure_ (i := 9) (N := some 100) (v := ?_) (a' := ?_) #[true, true, true, true, true, false, true, true, true, true, false, false, false, false] rfl rfl (any_of HT_.out (by kernel_rfl)) (fun _ _ _ h => h) (Or.inl ⟨by rfl, ?_⟩) ?_ ?_
                                            rotate_left
                                            · intro w'
                                              go_simp
                                              with_reducible rfl
                                            rotate_left
                                            · simp only [Act.put, List.setIfInBounds_toArray, List.set_cons_zero, List.set_cons_succ, i64_w, i32_w]
                                              rfl
                                            refine take_ (i := 5) (N := some 96) (v := ?_) (a' := ?_) #[true, true, true, true, true, true, true, true, true, true, false, false, false, false] rfl rfl (take_ofW HT_.out HW_.out (by kernel_rfl)) (fun _ _ _ h => h) (Or.inl ⟨by rfl, ?_⟩) hHeld ?_ ?_
                                            rotate_left
                                            · rintro w' ⟨s0, s1, s2, s3⟩
                                              go_simp
                                              with_reducible rfl
                                            rotate_left
                                            · simp only [Act.put, List.setIfInBounds_toArray, List.set_cons_zero, List.set_cons_succ, i64_w, i32_w]
                                              rfl
                                            refine take_ (i := 10) (N := some 101) (v := ?_) (a' := ?_) #[true, true, true, true, true, true, true, true, true, true, true, false, false, false] rfl rfl (take_ofW HT_.out HW_.out (by kernel_rfl)) (fun _ _ _ h => h) (Or.inl ⟨by rfl, ?_⟩) hHeld ?_ ?_
                                            rotate_left
                                            · rintro w' ⟨s0, s1, s2, s3⟩
                                              go_simp
                                              with_reducible rfl
                                            rotate_left
                                            · simp only [Act.put, List.setIfInBounds_toArray, List.set_cons_zero, List.set_cons_succ, i64_w, i32_w]
                                              rfl
                                            refine pure_ (i := 11) (N := some 102) (v := ?_) (a' := ?_) #[true, true, true, true, true, true, true, true, true, true, true, true, false, false] rfl rfl (any_of HT_.out (by kernel_rfl)) (fun _ _ _ h => h) (Or.inl ⟨by rfl, ?_⟩) ?_ ?_
                                            rotate_left
                                            · intro w'
                                              go_simp
                                              with_reducible rfl
                                            rotate_left
                                            · simp only [Act.put, List.setIfInBounds_toArray, List.set_cons_zero, List.set_cons_succ, i64_w, i32_w]
                                              rfl
                                            refine pure_ (i := 12) (N := some 103) (v := ?_) (a' := ?_) #[true, true, true, true, true, true, true, true, true, true, true, true, true, false] rfl rfl (any_of HT_.out (by kernel_rfl)) (fun _ _ _ h => h) (Or.inl ⟨by rfl, ?_⟩) ?_ ?_
                                            rotate_left
                                            · intro w'
                                              go_simp
                                              with_reducible rfl
                                            rotate_left
                                            · simp only [Act.put, List.setIfInBounds_toArray, List.set_cons_zero, List.set_cons_succ, i64_w, i32_w]
                                              rfl
                                            refine last_ (i := 13) (N := none) #[true, true, true, true, true, true, true, true, true, true, true, true, true, true] rfl rfl (one_of HT_.out (by kernel_rfl)) (by decide) (fun K hK => ?_)
                                            refine skip_ (w1 := ?_) (by rfl) rfl ?_ ?_
                                            rotate_left
                                            · go_simp
                                              rfl
                                            refine hK.out _ _ ?_
                                            clear hK K
                                            refine done_ (done_of HT_.out (by kernel_rfl)) ?_
                                            try go_wp2
                                            refine Handed.intro kj21 ?measure ?_
                                            rotate_left
                                            go_step
                                            (try simp only [add_off0])
                                            (repeat apply Exists.intro)
                                            refine ⟨?rel, rfl⟩
                                            case measure => have := HK1.out; have := HJ18.out; have := HJ21.out; omega
                                            case rel => exact ⟨(y259), (y256), (wrap64 (x10_1 - x13_18)), (wrap64 (x11_1 + 1)), (by first | rfl | (simp; done) | (simp [*]; done)), (by first | rfl | (simp; done) | (simp [*]; done)), H', ⟨by have := HK1.out; have := HJ18.out; have := HJ21.out; omega⟩, ⟨by (with_reducible repeat (first | apply Kd.R_alloc | apply Kd.R_drewN | apply Kd.R_drew)); exact HQ56.out⟩, ⟨by (with_reducible repeat (first | apply Kd.R_alloc | apply Kd.R_drewN | apply Kd.R_drew)); exact Kd.R_mono (Kd.R_far (p := ⟨go51, ((ji46) : Int).toNat, none⟩) (R_typesI HO_9.out GG51.out (by decide)) (fun _ hk => hk.2) (.int .u8 (Go.bits .xor .u8 (rd x8_1 (ji46)) ((rd_T29 l2 x11_1).f2)))) (fun _ hk => trivial)⟩, ⟨by repeat (first | (with_reducible first | exact HB.out | apply below_alloc | apply pw_below_drewN | apply below_drew1 | refine below_set ?_ GB51.out) | exact HB.out)⟩⟩
                                          · rw [if_neg c50] at H
                                            exact absurd H (by simp)
                                        · rw [if_neg c48] at H
                                          exact absurd H (by simp)
                                      · rw [if_neg c47] at H
                                        exact absurd H (by simp)
                                · rw [if_neg c31] at H
                                  exact absurd H (by simp)
                              · rw [if_neg c30] at H
                                exact absurd H (by simp)
                · rw [if_neg c17] at H
                  exact absurd H (by simp)
              · rw [if_neg c16] at H
                have c16b0 : decide (x11_1 < (l2.length : Int)) = false := decide_eq_false c16
                clear c16
                have H' := Aside0.mk H
                clear H
                go_wp2
                (try simp only [add_off0])
                go_loopg [14, 15, 16, 17] k1 (fun kq v14 v15 v16 v17 w' => ∃ (x14_2 : List Int) (x15_2 : List Int) (x16_2 : List Int) (x17_2 : Int), v17 = .int .i64 x17_2 ∧ Aside0 (foghornlaw20_MendReach.l1 kq t240 t239 x8_1 x9_1 x14_2 x15_2 x16_2 x17_2 = some r) ∧ Aside0 (kq ≤ k1) ∧ Aside0 (Kd.R (Kd.int .u8) 5 w' w.heap.size (fun _ => True) v242 x8_1) ∧ Aside0 (Kd.R (Kd.int .i64) 3 w' w.heap.size (fun k_ => some k_ ≠ (v14 : Value).ownBlock ∧ some k_ ≠ (v15 : Value).ownBlock ∧ some k_ ≠ (v16 : Value).ownBlock) v245 x9_1) ∧ Aside0 (Kd.R (Kd.int .i64) 3 w' w.heap.size (fun k_ => some k_ ≠ (v245 : Value).ownBlock ∧ some k_ ≠ (v15 : Value).ownBlock ∧ some k_ ≠ (v16 : Value).ownBlock) v14 x14_2) ∧ Aside0 (Kd.R (Kd.int .i64) 3 w' w.heap.size (fun k_ => some k_ ≠ (v245 : Value).ownBlock ∧ some k_ ≠ (v14 : Value).ownBlock ∧ some k_ ≠ (v16 : Value).ownBlock) v15 x15_2) ∧ Aside0 (Kd.R (Kd.int .i64) 3 w' w.heap.size (fun k_ => some k_ ≠ (v245 : Value).ownBlock ∧ some k_ ≠ (v14 : Value).ownBlock ∧ some k_ ≠ (v15 : Value).ownBlock) v16 x16_2) ∧ Aside0 (Below w.heap.size w w'))
                case atStart => exact ⟨(([] : List Int)), (([] : List Int)), (([] : List Int)), (0), (by first | rfl | (simp; done) | (simp [*]; done)), H', ⟨Nat.le_refl _⟩, ⟨by (with_reducible repeat (first | apply Kd.R_alloc | apply Kd.R_drewN | apply Kd.R_drew)); exact HO_8.out⟩, ⟨by (with_reducible repeat (first | apply Kd.R_alloc | apply Kd.R_drewN | apply Kd.R_drew)); exact Kd.R_mono HO_9.out (fun _ hk => ⟨(by simp [Value.ownBlock]), ⟨(by simp [Value.ownBlock]), (by simp [Value.ownBlock])⟩⟩)⟩, ⟨by first | exact Kd.R_nil _ _ _ _ _ | exact Kd.N_nil _ _ _ _ _ | exact Kd.V_nil _ _ _ _ _ | exact Kd.Q_nil _ _ _ _ _ | exact Kd.S_nil _ _ _ _ _⟩, ⟨by first | exact Kd.R_nil _ _ _ _ _ | exact Kd.N_nil _ _ _ _ _ | exact Kd.V_nil _ _ _ _ _ | exact Kd.Q_nil _ _ _ _ _ | exact Kd.S_nil _ _ _ _ _⟩, ⟨by first | exact Kd.R_nil _ _ _ _ _ | exact Kd.N_nil _ _ _ _ _ | exact Kd.V_nil _ _ _ _ _ | exact Kd.Q_nil _ _ _ _ _ | exact Kd.S_nil _ _ _ _ _⟩, ⟨by repeat (first | (with_reducible first | exact HB.out | apply below_alloc | apply pw_below_drewN | apply below_drew1) | exact HB.out)⟩⟩
                case round =>
                  clear H'
                  (try clear c1); (try clear c2); (try clear p2); (try clear q2); (try clear hx2); (try clear c3); (try clear p3); (try clear q3); (try clear hx3); (try clear hf3); (try clear c4); (try clear p4); (try clear q4); (try clear hx4); (try clear hf4); (try clear c5); (try clear p5); (try clear q5); (try clear hx5); (try clear hf5); (try clear p6); (try clear c7); (try clear c7b0); (try clear c7b1); (try clear c8); (try clear c8b0); (try clear c8b1); (try clear c9); (try clear c9b0); (try clear c9b1); (try clear c10); (try clear c16); (try clear c16b0); (try clear c17); (try clear c17b0); (try clear c18); (try clear c18b0); (try clear c18b1); (try clear q20); (try clear c21); (try clear c24); (try clear c24b0); (try clear p24); (try clear q24); (try clear hx24); (try clear c25); (try clear c25b0); (try clear p25); (try clear q25); (try clear hx25); (try clear c26); (try clear c26b0); (try clear c26b1); (try clear c29); (try clear c30); (try clear c30b0); (try clear c31); (try clear c31b0); (try clear q32); (try clear c33); (try clear c35); (try clear c35b0); (try clear c36); (try clear c36b0); (try clear p37); (try clear q37); (try clear hx37); (try clear hf37); (try clear c38); (try clear c38b0); (try clear p39); (try clear q39); (try clear hx39); (try clear hf39); (try clear c45); (try clear c45b0); (try clear c45b1); (try clear c47); (try clear c47b0); (try clear c48); (try clear c48b0); (try clear p49); (try clear q49); (try clear hx49); (try clear hf49); (try clear c50); (try clear c50b0); (try clear p51); (try clear q51); (try clear hx51); (try clear hf51); (try clear hx247_0); (try clear hx247_1); (try clear hx247_2); (try clear hx248_0); (try clear hx248_1); (try clear hx248_2); (try clear hx249_0); (try clear hx250_0); (try clear hx250_1); (try clear hx250_2); (try clear hx252_0); (try clear hx253_0); (try clear hx253_1); (try clear hx253_2); (try clear hx255_0); (try clear hx255_1); (try clear hx255_2); (try clear hx257_0); (try clear hx258_0); (try clear hx258_1); (try clear hx258_2); (try clear hx37_0); (try clear hx39_0); (try clear hx49_0); (try clear hx51_0); (try clear p2); (try clear p24); (try clear p247); (try clear p248); (try clear p249); (try clear p250); (try clear p252); (try clear p253); (try clear p255); (try clear p257); (try clear p258); (try clear p37); (try clear p39); (try clear p49); (try clear p51); (try clear p6); (try clear q2); (try clear q20); (try clear q24); (try clear q247); (try clear q248); (try clear q249); (try clear q250); (try clear q252); (try clear q253); (try clear q255); (try clear q257); (try clear q258); (try clear q37); (try clear q39); (try clear q49); (try clear q51)
                  obtain ⟨x14_2, x15_2, x16_2, x17_2, rfl, HA, HK2, HO_8, HO_9, HO_14, HO_15, HO_16, HB⟩ := hrel
                  cases gk with
                  | zero => exact absurd HA.out (by simp [foghornlaw20_MendReach.l1])
                  | succ k2 =>
                    have H := HA.out
                    clear HA
                    simp only [foghornlaw20_MendReach.l1] at H
                    by_cases c57 : x17_2 < (x9_1.length : Int)
                    · rw [if_pos c57] at H
                      have c57b0 : decide (x17_2 < (x9_1.length : Int)) = true := decide_eq_true c57
                      clear c57
                      by_cases c58 : 0 ≤ x17_2
                      · rw [if_pos c58] at H
                        have c58b0 : decide (0 ≤ x17_2) = true := decide_eq_true c58
                        clear c58
                        by_cases c59 : (rd x9_1 x17_2) = 1
                        · rw [if_pos c59] at H
                          have c59b0 : ((rd x9_1 x17_2) == 1) = true := beq_iff_eq.mpr c59
                          have c59b1 : ((rd x9_1 x17_2) != 1) = false := bne_eq_false_iff_eq.mpr c59
                          clear c59
                          by_cases c60 : x14_2.length < 17592186044416
                          · rw [if_pos c60] at H
                            have LMc60 := Aside0.mk c60
                            clear c60
                            obtain ⟨y272, hy272⟩ : ∃ y_ : List Int, y_ = (x14_2 ++ [x17_2]) := ⟨_, rfl⟩
                            replace H : (if (rd x9_1 x17_2) = 2 then (if x15_2.length < 17592186044416 then ((some (([x17_2] : List Int) : List Int)).bind fun y279 => (if y279.length + x16_2.length < 17592186044416 then (foghornlaw20_MendReach.l1 k2 t240 t239 x8_1 x9_1 y272 (x15_2 ++ [x17_2]) (y279 ++ x16_2) (wrap64 (x17_2 + 1))) else (none))) else (none)) else (foghornlaw20_MendReach.l1 k2 t240 t239 x8_1 x9_1 y272 x15_2 x16_2 (wrap64 (x17_2 + 1)))) = some r := by first | (rw [hy272]; with_reducible exact H) | (have H2_ := (Option.bind_some _ _).symm.trans H; rw [hy272]; with_reducible exact H2_) | (have H2_ := (Option.bind_some _ _).symm.trans H; with_reducible exact H2_) | with_reducible exact H | (rw [hy272]; exact H) | exact H
                            have Ny272 := Aside0.mk hy272
                            clear hy272
                            by_cases c61 : (rd x9_1 x17_2) = 2
                            · rw [if_pos c61] at H
                              have c61b0 : ((rd x9_1 x17_2) == 2) = true := beq_iff_eq.mpr c61
                              have c61b1 : ((rd x9_1 x17_2) != 2) = false := bne_eq_false_iff_eq.mpr c61
                              clear c61
                              by_cases c62 : x15_2.length < 17592186044416
                              · rw [if_pos c62] at H
                                have LMc62 := Aside0.mk c62
                                clear c62
                                obtain ⟨y276, hy276⟩ : ∃ y_ : List Int, y_ = (x15_2 ++ [x17_2]) := ⟨_, rfl⟩
                                replace H : ((some (([x17_2] : List Int) : List Int)).bind fun y279 => (if y279.length + x16_2.length < 17592186044416 then (foghornlaw20_MendReach.l1 k2 t240 t239 x8_1 x9_1 y272 y276 (y279 ++ x16_2) (wrap64 (x17_2 + 1))) else (none))) = some r := by first | (rw [hy276]; with_reducible exact H) | (have H2_ := (Option.bind_some _ _).symm.trans H; rw [hy276]; with_reducible exact H2_) | (have H2_ := (Option.bind_some _ _).symm.trans H; with_reducible exact H2_) | with_reducible exact H | (rw [hy276]; exact H) | exact H
                                have Ny276 := Aside0.mk hy276
                                clear hy276
                                obtain ⟨y279, hy279⟩ : ∃ y_ : List Int, y_ = (([x17_2] : List Int)) := ⟨_, rfl⟩
                                replace H : (if y279.length + x16_2.length < 17592186044416 then (foghornlaw20_MendReach.l1 k2 t240 t239 x8_1 x9_1 y272 y276 (y279 ++ x16_2) (wrap64 (x17_2 + 1))) else (none)) = some r := by first | (rw [hy279]; with_reducible exact H) | (have H2_ := (Option.bind_some _ _).symm.trans H; rw [hy279]; with_reducible exact H2_) | (have H2_ := (Option.bind_some _ _).symm.trans H; with_reducible exact H2_) | with_reducible exact H | (rw [hy279]; exact H) | exact H
                                have Ny279 := Aside0.mk hy279
                                clear hy279
                                by_cases c63 : y279.length + x16_2.length < 17592186044416
                                · rw [if_pos c63] at H
                                  have LMc63 := Aside0.mk c63
                                  clear c63
                                  obtain ⟨y282, hy282⟩ : ∃ y_ : List Int, y_ = (y279 ++ x16_2) := ⟨_, rfl⟩
                                  replace H : (foghornlaw20_MendReach.l1 k2 t240 t239 x8_1 x9_1 y272 y276 y282 (wrap64 (x17_2 + 1))) = some r := by first | (rw [hy282]; with_reducible exact H) | (have H2_ := (Option.bind_some _ _).symm.trans H; rw [hy282]; with_reducible exact H2_) | (have H2_ := (Option.bind_some _ _).symm.trans H; with_reducible exact H2_) | with_reducible exact H | (rw [hy282]; exact H) | exact H
                                  have Ny282 := Aside0.mk hy282
                                  clear hy282
                                  have H' := Aside0.mk H
                                  clear H
                                  obtain ⟨Ao64, co64, eo64⟩ := Kd.R_slice HO_9.out
                                  subst eo64
                                  have p271 : 0 ≤ (x17_2 : Int) := of_decide_eq_true (by first | (with_reducible assumption) | assumption)
                                  have q271 : x17_2 < (x9_1.length : Int) := of_decide_eq_true (by first | (with_reducible assumption) | assumption)
                                  obtain ⟨ad271, e271, hx271_0⟩ := Kd.at_int (Kd.R_reads' HO_9.out).2.2 x17_2 p271 q271
                                  cases e271
                                  replace p271 := eq_true p271
                                  replace q271 := eq_true q271
                                  go_wp2_with (first | ((with_reducible refine gate_builtin (b := .append) (xs := #[.tmp 115, .tmp 117]) rfl ?_); at_builtin; refine Kd.R_append (Kd.int .i64) (w0 := w) w.heap.size rfl (.tmp 115) (.tmp 117) 27 3 (.int .i64 0) 8 rfl Try.underlying27 info3 rfl (by decide) (by omega) u14 x14_2 x17_2 [.int .i64 x17_2] (fun k_ => some k_ ≠ (.slice (some ad271) x9_1.length co64 : Value).ownBlock ∧ some k_ ≠ (u15 : Value).ownBlock ∧ some k_ ≠ (u16 : Value).ownBlock) (fun _ => False) rfl rfl ?aP (fun _ hk => hk.elim) ?aF ?aO ?aB ?aS ?aL ?_; (case aP => exact rfl); (case aB => exact (by repeat (first | (with_reducible first | exact HB.out | apply below_alloc | apply pw_below_drewN | apply below_drew1) | exact HB.out))); (case aF => exact (fun k_ hk => ⟨Kd.fresh' (Kd.R_lt (by (with_reducible repeat (first | apply Kd.R_alloc | apply Kd.R_drewN | apply Kd.R_drew)); exact HO_9.out)) k_ hk, Kd.fresh' (Kd.R_lt (by (with_reducible repeat (first | apply Kd.R_alloc | apply Kd.R_drewN | apply Kd.R_drew)); exact HO_15.out)) k_ hk, Kd.fresh' (Kd.R_lt (by (with_reducible repeat (first | apply Kd.R_alloc | apply Kd.R_drewN | apply Kd.R_drew)); exact HO_16.out)) k_ hk⟩)); (case aO => exact (by (with_reducible repeat (first | apply Kd.R_alloc | apply Kd.R_drewN | apply Kd.R_drew)); exact HO_14.out)); (case aS => exact (below_size (by repeat (first | (with_reducible first | exact HB.out | apply below_alloc | apply pw_below_drewN | apply below_drew1) | exact HB.out)))); (case aL => have := LMc60.out; omega); intro v273 w65 ho hb hg hat; rw [← Ny272.out] at ho; have n0_ := Aside0.mk (Kd.R_over' (by (with_reducible repeat (first | apply Kd.R_alloc | apply Kd.R_drewN | apply Kd.R_drew)); exact HO_8.out) (Kd.R_typed (by (with_reducible repeat (first | apply Kd.R_alloc | apply Kd.R_drewN | apply Kd.R_drew)); exact HO_14.out)) (by decide) hg); have n1_ := Aside0.mk (Kd.R_after (ok := (fun k_ => some k_ ≠ (u15 : Value).ownBlock ∧ some k_ ≠ (u16 : Value).ownBlock)) (by (with_reducible repeat (first | apply Kd.R_alloc | apply Kd.R_drewN | apply Kd.R_drew)); exact Kd.R_mono HO_9.out (fun _ hk => ⟨⟨hk.2.1, hk.2.2⟩, hk.1⟩)) hg hat); have n2_ := Aside0.mk (Kd.R_after (ok := (fun k_ => some k_ ≠ (.slice (some ad271) x9_1.length co64 : Value).ownBlock ∧ some k_ ≠ (u16 : Value).ownBlock)) (by (with_reducible repeat (first | apply Kd.R_alloc | apply Kd.R_drewN | apply Kd.R_drew)); exact Kd.R_mono HO_15.out (fun _ hk => ⟨⟨hk.1, hk.2.2⟩, hk.2.1⟩)) hg hat); have n3_ := Aside0.mk (Kd.R_after (ok := (fun k_ => some k_ ≠ (.slice (some ad271) x9_1.length co64 : Value).ownBlock ∧ some k_ ≠ (u15 : Value).ownBlock)) (by (with_reducible repeat (first | apply Kd.R_alloc | apply Kd.R_drewN | apply Kd.R_drew)); exact Kd.R_mono HO_16.out (fun _ hk => ⟨⟨hk.1, hk.2.2⟩, hk.2.1⟩)) hg hat); have n4_ := Aside0.mk (hb); have n5_ := Aside0.mk (ho); clear HO_8; clear HO_9; clear HO_15; clear HO_16; clear HB; clear HO_14; have HO_8 := n0_; have HO_9 := n1_; have HO_15 := n2_; have HO_16 := n3_; have HB := n4_; have HO274 := n5_; clear n0_ n1_ n2_ n3_ n4_ n5_; clear ho hb hg hat; have p275 : 0 ≤ (x17_2 : Int) := of_decide_eq_true (by first | (with_reducible assumption) | assumption); have q275 : x17_2 < (x9_1.length : Int) := of_decide_eq_true (by first | (with_reducible assumption) | assumption); obtain ⟨ad275, e275, hx275_0⟩ := Kd.at_int (Kd.R_reads' HO_9.out).2.2 x17_2 p275 q275; obtain rfl : ad271 = ad275 := (by injection e275); replace p275 := eq_true p275; replace q275 := eq_true q275) | ((with_reducible refine gate_builtin (b := .append) (xs := #[.tmp 124, .tmp 126]) rfl ?_); at_builtin; refine Kd.R_append (Kd.int .i64) (w0 := w) w.heap.size rfl (.tmp 124) (.tmp 126) 27 3 (.int .i64 0) 8 rfl Try.underlying27 info3 rfl (by decide) (by omega) u15 x15_2 x17_2 [.int .i64 x17_2] (fun k_ => some k_ ≠ (.slice (some ad271) x9_1.length co64 : Value).ownBlock ∧ some k_ ≠ (u16 : Value).ownBlock ∧ some k_ ≠ (v273 : Value).ownBlock) (fun _ => False) rfl rfl ?aP (fun _ hk => hk.elim) ?aF ?aO ?aB ?aS ?aL ?_; (case aP => exact rfl); (case aB => exact (by repeat (first | (with_reducible first | exact HB.out | apply below_alloc | apply pw_below_drewN | apply below_drew1) | exact HB.out))); (case aF => exact (fun k_ hk => ⟨Kd.fresh' (Kd.R_lt (by (with_reducible repeat (first | apply Kd.R_alloc | apply Kd.R_drewN | apply Kd.R_drew)); exact HO_9.out)) k_ hk, Kd.fresh' (Kd.R_lt (by (with_reducible repeat (first | apply Kd.R_alloc | apply Kd.R_drewN | apply Kd.R_drew)); exact HO_16.out)) k_ hk, Kd.fresh' (Kd.R_lt (by (with_reducible repeat (first | apply Kd.R_alloc | apply Kd.R_drewN | apply Kd.R_drew)); exact HO274.out)) k_ hk⟩)); (case aO => exact (by (with_reducible repeat (first | apply Kd.R_alloc | apply Kd.R_drewN | apply Kd.R_drew)); exact Kd.R_mono HO_15.out (fun _ hk => ⟨hk.1.1, ⟨hk.1.2, hk.2⟩⟩))); (case aS => exact (below_size (by repeat (first | (with_reducible first | exact HB.out | apply below_alloc | apply pw_below_drewN | apply below_drew1) | exact HB.out)))); (case aL => have := LMc62.out; omega); intro v277 w66 ho hb hg hat; rw [← Ny276.out] at ho; have n0_ := Aside0.mk (Kd.R_over' (by (with_reducible repeat (first | apply Kd.R_alloc | apply Kd.R_drewN | apply Kd.R_drew)); exact HO_8.out) (Kd.R_typed (by (with_reducible repeat (first | apply Kd.R_alloc | apply Kd.R_drewN | apply Kd.R_drew)); exact HO_15.out)) (by decide) hg); have n1_ := Aside0.mk (Kd.R_after (ok := (fun k_ => some k_ ≠ (u16 : Value).ownBlock ∧ some k_ ≠ (v273 : Value).ownBlock)) (by (with_reducible repeat (first | apply Kd.R_alloc | apply Kd.R_drewN | apply Kd.R_drew)); exact Kd.R_mono HO_9.out (fun _ hk => ⟨⟨hk.1.2, hk.2⟩, hk.1.1⟩)) hg hat); have n2_ := Aside0.mk (Kd.R_after (ok := (fun k_ => some k_ ≠ (.slice (some ad271) x9_1.length co64 : Value).ownBlock ∧ some k_ ≠ (v273 : Value).ownBlock)) (by (with_reducible repeat (first | apply Kd.R_alloc | apply Kd.R_drewN | apply Kd.R_drew)); exact Kd.R_mono HO_16.out (fun _ hk => ⟨⟨hk.1.1, hk.2⟩, hk.1.2⟩)) hg hat); have n3_ := Aside0.mk (Kd.R_after (ok := (fun k_ => some k_ ≠ (.slice (some ad271) x9_1.length co64 : Value).ownBlock ∧ some k_ ≠ (u16 : Value).ownBlock)) (by (with_reducible repeat (first | apply Kd.R_alloc | apply Kd.R_drewN | apply Kd.R_drew)); exact Kd.R_mono HO274.out (fun _ hk => ⟨⟨hk.1, hk.2.2⟩, hk.2.1⟩)) hg hat); have n4_ := Aside0.mk (hb); have n5_ := Aside0.mk (ho); clear HO_8; clear HO_9; clear HO_16; clear HO274; clear HB; clear HO_15; have HO_8 := n0_; have HO_9 := n1_; have HO_16 := n2_; have HO274 := n3_; have HB := n4_; have HO278 := n5_; clear n0_ n1_ n2_ n3_ n4_ n5_; clear ho hb hg hat) | ((with_reducible refine gate_dst (N := 129) rfl ?_); refine Kd.R_lit (Kd.int .i64) _ 3 ?hg (N := 129) ?hd (xs := ([x17_2] : List Int)) (inner := [.int .i64 x17_2]) (ok := fun _ => True) (okp := fun _ => True) ?hr ?hp (fun _ hk => hk) trivial (Below.refl _ _) (Nat.le_refl _) (by simp) ?_; (case hd => rfl); (case hg => rfl); (case hr => first | (go_simp; done) | (go_simp; rfl)); (case hp => exact (Reps.one (show Kd.M (Kd.int .i64) _ _ _ x17_2 [.int .i64 x17_2] from rfl) (Reps.none _ _))); intro v280 w67 ho68 hb hg_ hnew_; clear hg_ hnew_; (first | rw [← Ny279.out] at ho68 | (simp only [Int.reduceToNat] at ho68; rw [← Ny279.out] at ho68)); have n0_ := Aside0.mk (Kd.R_below (by (with_reducible repeat (first | apply Kd.R_alloc | apply Kd.R_drewN | apply Kd.R_drew)); exact HO_8.out) hb); have n1_ := Aside0.mk (Kd.R_elder' (by (with_reducible repeat (first | apply Kd.R_alloc | apply Kd.R_drewN | apply Kd.R_drew)); exact HO_9.out) (Kd.R_base ho68) hb); have n2_ := Aside0.mk (Kd.R_elder' (by (with_reducible repeat (first | apply Kd.R_alloc | apply Kd.R_drewN | apply Kd.R_drew)); exact HO_16.out) (Kd.R_base ho68) hb); have n3_ := Aside0.mk (Kd.R_elder' (by (with_reducible repeat (first | apply Kd.R_alloc | apply Kd.R_drewN | apply Kd.R_drew)); exact HO274.out) (Kd.R_base ho68) hb); have n4_ := Aside0.mk (Kd.R_elder' (by (with_reducible repeat (first | apply Kd.R_alloc | apply Kd.R_drewN | apply Kd.R_drew)); exact HO278.out) (Kd.R_base ho68) hb); have n5_ := Aside0.mk (Kd.R_lower (Kd.R_new' (Kd.R_new' (Kd.R_new' (Kd.R_new' ho68 (Kd.R_lt (by (with_reducible repeat (first | apply Kd.R_alloc | apply Kd.R_drewN | apply Kd.R_drew)); exact HO_9.out))) (Kd.R_lt (by (with_reducible repeat (first | apply Kd.R_alloc | apply Kd.R_drewN | apply Kd.R_drew)); exact HO_16.out))) (Kd.R_lt (by (with_reducible repeat (first | apply Kd.R_alloc | apply Kd.R_drewN | apply Kd.R_drew)); exact HO274.out))) (Kd.R_lt (by (with_reducible repeat (first | apply Kd.R_alloc | apply Kd.R_drewN | apply Kd.R_drew)); exact HO278.out))) (below_size (by repeat (first | (with_reducible first | exact HB.out | apply below_alloc | apply pw_below_drewN | apply below_drew1) | exact HB.out)))); have n6_ := Aside0.mk (below_step (by repeat (first | (with_reducible first | exact HB.out | apply below_alloc | apply pw_below_drewN | apply below_drew1) | exact HB.out)) hb); clear HO_8; clear HO_9; clear HO_16; clear HO274; clear HO278; clear HB; have HO_8 := n0_; have HO_9 := n1_; have HO_16 := n2_; have HO274 := n3_; have HO278 := n4_; have HO281 := n5_; have HB := n6_; clear n0_ n1_ n2_ n3_ n4_ n5_ n6_; clear hb ho68; obtain ⟨Ao70, co70, eo70⟩ := Kd.R_slice HO_16.out; subst eo70) | ((with_reducible refine gate_builtin (b := .append) (xs := #[.tmp 129, .tmp 130]) rfl ?_); at_builtin; refine Kd.R_append_rows (Kd.int .i64) (w0 := w) w.heap.size rfl (.tmp 129) (.tmp 130) 27 3 (.int .i64 0) 8 rfl Try.underlying27 info3 rfl (by decide) (by omega) v280 y279 x16_2 _ _ _ (fun k_ => some k_ ≠ (.slice (some ad271) x9_1.length co64 : Value).ownBlock ∧ some k_ ≠ (.slice Ao70 x16_2.length co70 : Value).ownBlock ∧ some k_ ≠ (v273 : Value).ownBlock ∧ some k_ ≠ (v277 : Value).ownBlock) (fun _ => False) rfl rfl ?aO ?aR (fun _ _ h => h) (fun _ h => h.elim) ?aF ?aB ?aS ?aL ?_; (case aR => repeat (first | exact (Kd.R_reads' HO_16.out).2.2 | (with_reducible refine Kd.C_alloc ?_ _) | (with_reducible refine Kd.C_drewN ?_ _) | (with_reducible refine Kd.C_drew ?_))); (case aB => exact (by repeat (first | (with_reducible first | exact HB.out | apply below_alloc | apply pw_below_drewN | apply below_drew1) | exact HB.out))); (case aF => exact (fun k_ hk => ⟨Kd.fresh' (Kd.R_lt (by (with_reducible repeat (first | apply Kd.R_alloc | apply Kd.R_drewN | apply Kd.R_drew)); exact HO_9.out)) k_ hk, Kd.fresh' (Kd.R_lt (by (with_reducible repeat (first | apply Kd.R_alloc | apply Kd.R_drewN | apply Kd.R_drew)); exact HO_16.out)) k_ hk, Kd.fresh' (Kd.R_lt (by (with_reducible repeat (first | apply Kd.R_alloc | apply Kd.R_drewN | apply Kd.R_drew)); exact HO274.out)) k_ hk, Kd.fresh' (Kd.R_lt (by (with_reducible repeat (first | apply Kd.R_alloc | apply Kd.R_drewN | apply Kd.R_drew)); exact HO278.out)) k_ hk⟩)); (case aO => exact (by (with_reducible repeat (first | apply Kd.R_alloc | apply Kd.R_drewN | apply Kd.R_drew)); exact Kd.R_mono HO281.out (fun _ hk => ⟨hk.1.1.1.2, ⟨hk.1.1.2, ⟨hk.1.2, hk.2⟩⟩⟩))); (case aS => exact (below_size (by repeat (first | (with_reducible first | exact HB.out | apply below_alloc | apply pw_below_drewN | apply below_drew1) | exact HB.out)))); (case aL => have := LMc63.out; omega); intro v283 w69 ho hb hg hat; rw [← Ny282.out] at ho; have n0_ := Aside0.mk (Kd.R_over' (by (with_reducible repeat (first | apply Kd.R_alloc | apply Kd.R_drewN | apply Kd.R_drew)); exact HO_8.out) (Kd.R_typed (by (with_reducible repeat (first | apply Kd.R_alloc | apply Kd.R_drewN | apply Kd.R_drew)); exact HO281.out)) (by decide) hg); have n1_ := Aside0.mk (Kd.R_after (ok := (fun k_ => some k_ ≠ (.slice Ao70 x16_2.length co70 : Value).ownBlock ∧ some k_ ≠ (v273 : Value).ownBlock ∧ some k_ ≠ (v277 : Value).ownBlock)) (by (with_reducible repeat (first | apply Kd.R_alloc | apply Kd.R_drewN | apply Kd.R_drew)); exact Kd.R_mono HO_9.out (fun _ hk => ⟨⟨hk.1.1.1, ⟨hk.1.1.2, hk.1.2⟩⟩, hk.2⟩)) hg hat); have n2_ := Aside0.mk (Kd.R_after (ok := (fun k_ => some k_ ≠ (.slice (some ad271) x9_1.length co64 : Value).ownBlock ∧ some k_ ≠ (v273 : Value).ownBlock ∧ some k_ ≠ (v277 : Value).ownBlock)) (by (with_reducible repeat (first | apply Kd.R_alloc | apply Kd.R_drewN | apply Kd.R_drew)); exact Kd.R_mono HO_16.out (fun _ hk => ⟨⟨hk.1.1.1, ⟨hk.1.1.2, hk.1.2⟩⟩, hk.2⟩)) hg hat); have n3_ := Aside0.mk (Kd.R_after (ok := (fun k_ => some k_ ≠ (.slice (some ad271) x9_1.length co64 : Value).ownBlock ∧ some k_ ≠ (.slice Ao70 x16_2.length co70 : Value).ownBlock ∧ some k_ ≠ (v277 : Value).ownBlock)) (by (with_reducible repeat (first | apply Kd.R_alloc | apply Kd.R_drewN | apply Kd.R_drew)); exact Kd.R_mono HO274.out (fun _ hk => ⟨⟨hk.1.1.1, ⟨hk.1.1.2, hk.1.2⟩⟩, hk.2⟩)) hg hat); have n4_ := Aside0.mk (Kd.R_after (ok := (fun k_ => some k_ ≠ (.slice (some ad271) x9_1.length co64 : Value).ownBlock ∧ some k_ ≠ (.slice Ao70 x16_2.length co70 : Value).ownBlock ∧ some k_ ≠ (v273 : Value).ownBlock)) (by (with_reducible repeat (first | apply Kd.R_alloc | apply Kd.R_drewN | apply Kd.R_drew)); exact HO278.out) hg hat); have n5_ := Aside0.mk (hb); have n6_ := Aside0.mk (ho); clear HO_8; clear HO_9; clear HO_16; clear HO274; clear HO278; clear HB; clear HO281; have HO_8 := n0_; have HO_9 := n1_; have HO_16 := n2_; have HO274 := n3_; have HO278 := n4_; have HB := n5_; have HO284 := n6_; clear n0_ n1_ n2_ n3_ n4_ n5_ n6_; clear ho hb hg hat))
                                  refine Handed.intro k2 ?measure ?_
                                  rotate_left
                                  go_step
                                  (try simp only [add_off0])
                                  (repeat apply Exists.intro)
                                  refine ⟨?rel, rfl⟩
                                  case measure => have := HK1.out; have := HK2.out; omega
                                  case rel => exact ⟨(y272), (y276), (y282), (wrap64 (x17_2 + 1)), (by first | rfl | (simp; done) | (simp [*]; done)), H', ⟨by have := HK1.out; have := HK2.out; omega⟩, ⟨by (with_reducible repeat (first | apply Kd.R_alloc | apply Kd.R_drewN | apply Kd.R_drew)); exact HO_8.out⟩, ⟨by (with_reducible repeat (first | apply Kd.R_alloc | apply Kd.R_drewN | apply Kd.R_drew)); exact Kd.R_mono HO_9.out (fun _ hk => ⟨hk.1.2.1, ⟨hk.1.2.2, hk.2⟩⟩)⟩, ⟨by (with_reducible repeat (first | apply Kd.R_alloc | apply Kd.R_drewN | apply Kd.R_drew)); exact Kd.R_mono HO274.out (fun _ hk => ⟨hk.1.1, ⟨hk.1.2.2, hk.2⟩⟩)⟩, ⟨by (with_reducible repeat (first | apply Kd.R_alloc | apply Kd.R_drewN | apply Kd.R_drew)); exact Kd.R_mono HO278.out (fun _ hk => ⟨hk.1.1, ⟨hk.1.2.2, hk.2⟩⟩)⟩, ⟨by (with_reducible repeat (first | apply Kd.R_alloc | apply Kd.R_drewN | apply Kd.R_drew)); exact Kd.R_mono HO284.out (fun _ hk => ⟨hk.1, ⟨hk.2.2.1, hk.2.2.2⟩⟩)⟩, ⟨by repeat (first | (with_reducible first | exact HB.out | apply below_alloc | apply pw_below_drewN | apply below_drew1) | exact HB.out)⟩⟩
                                · rw [if_neg c63] at H
                                  exact absurd H (by simp)
                              · rw [if_neg c62] at H
                                exact absurd H (by simp)
                            · rw [if_neg c61] at H
                              have c61b0 : ((rd x9_1 x17_2) == 2) = false := beq_eq_false_iff_ne.mpr c61
                              have c61b1 : ((rd x9_1 x17_2) != 2) = true := bne_iff_ne.mpr c61
                              have H' := Aside0.mk H
                              clear H
                              obtain ⟨Ao71, co71, eo71⟩ := Kd.R_slice HO_9.out
                              subst eo71
                              have p271 : 0 ≤ (x17_2 : Int) := of_decide_eq_true (by first | (with_reducible assumption) | assumption)
                              have q271 : x17_2 < (x9_1.length : Int) := of_decide_eq_true (by first | (with_reducible assumption) | assumption)
                              obtain ⟨ad271, e271, hx271_0⟩ := Kd.at_int (Kd.R_reads' HO_9.out).2.2 x17_2 p271 q271
                              cases e271
                              replace p271 := eq_true p271
                              replace q271 := eq_true q271
                              go_wp2_with (first | ((with_reducible refine gate_builtin (b := .append) (xs := #[.tmp 115, .tmp 117]) rfl ?_); at_builtin; refine Kd.R_append (Kd.int .i64) (w0 := w) w.heap.size rfl (.tmp 115) (.tmp 117) 27 3 (.int .i64 0) 8 rfl Try.underlying27 info3 rfl (by decide) (by omega) u14 x14_2 x17_2 [.int .i64 x17_2] (fun k_ => some k_ ≠ (.slice (some ad271) x9_1.length co71 : Value).ownBlock ∧ some k_ ≠ (u15 : Value).ownBlock ∧ some k_ ≠ (u16 : Value).ownBlock) (fun _ => False) rfl rfl ?aP (fun _ hk => hk.elim) ?aF ?aO ?aB ?aS ?aL ?_; (case aP => exact rfl); (case aB => exact (by repeat (first | (with_reducible first | exact HB.out | apply below_alloc | apply pw_below_drewN | apply below_drew1) | exact HB.out))); (case aF => exact (fun k_ hk => ⟨Kd.fresh' (Kd.R_lt (by (with_reducible repeat (first | apply Kd.R_alloc | apply Kd.R_drewN | apply Kd.R_drew)); exact HO_9.out)) k_ hk, Kd.fresh' (Kd.R_lt (by (with_reducible repeat (first | apply Kd.R_alloc | apply Kd.R_drewN | apply Kd.R_drew)); exact HO_15.out)) k_ hk, Kd.fresh' (Kd.R_lt (by (with_reducible repeat (first | apply Kd.R_alloc | apply Kd.R_drewN | apply Kd.R_drew)); exact HO_16.out)) k_ hk⟩)); (case aO => exact (by (with_reducible repeat (first | apply Kd.R_alloc | apply Kd.R_drewN | apply Kd.R_drew)); exact HO_14.out)); (case aS => exact (below_size (by repeat (first | (with_reducible first | exact HB.out | apply below_alloc | apply pw_below_drewN | apply below_drew1) | exact HB.out)))); (case aL => have := LMc60.out; omega); intro v273 w72 ho hb hg hat; rw [← Ny272.out] at ho; have n0_ := Aside0.mk (Kd.R_over' (by (with_reducible repeat (first | apply Kd.R_alloc | apply Kd.R_drewN | apply Kd.R_drew)); exact HO_8.out) (Kd.R_typed (by (with_reducible repeat (first | apply Kd.R_alloc | apply Kd.R_drewN | apply Kd.R_drew)); exact HO_14.out)) (by decide) hg); have n1_ := Aside0.mk (Kd.R_after (ok := (fun k_ => some k_ ≠ (u15 : Value).ownBlock ∧ some k_ ≠ (u16 : Value).ownBlock)) (by (with_reducible repeat (first | apply Kd.R_alloc | apply Kd.R_drewN | apply Kd.R_drew)); exact Kd.R_mono HO_9.out (fun _ hk => ⟨⟨hk.2.1, hk.2.2⟩, hk.1⟩)) hg hat); have n2_ := Aside0.mk (Kd.R_after (ok := (fun k_ => some k_ ≠ (.slice (some ad271) x9_1.length co71 : Value).ownBlock ∧ some k_ ≠ (u16 : Value).ownBlock)) (by (with_reducible repeat (first | apply Kd.R_alloc | apply Kd.R_drewN | apply Kd.R_drew)); exact Kd.R_mono HO_15.out (fun _ hk => ⟨⟨hk.1, hk.2.2⟩, hk.2.1⟩)) hg hat); have n3_ := Aside0.mk (Kd.R_after (ok := (fun k_ => some k_ ≠ (.slice (some ad271) x9_1.length co71 : Value).ownBlock ∧ some k_ ≠ (u15 : Value).ownBlock)) (by (with_reducible repeat (first | apply Kd.R_alloc | apply Kd.R_drewN | apply Kd.R_drew)); exact Kd.R_mono HO_16.out (fun _ hk => ⟨⟨hk.1, hk.2.2⟩, hk.2.1⟩)) hg hat); have n4_ := Aside0.mk (hb); have n5_ := Aside0.mk (ho); clear HO_8; clear HO_9; clear HO_15; clear HO_16; clear HB; clear HO_14; have HO_8 := n0_; have HO_9 := n1_; have HO_15 := n2_; have HO_16 := n3_; have HB := n4_; have HO274 := n5_; clear n0_ n1_ n2_ n3_ n4_ n5_; clear ho hb hg hat; have p275 : 0 ≤ (x17_2 : Int) := of_decide_eq_true (by first | (with_reducible assumption) | assumption); have q275 : x17_2 < (x9_1.length : Int) := of_decide_eq_true (by first | (with_reducible assumption) | assumption); obtain ⟨ad275, e275, hx275_0⟩ := Kd.at_int (Kd.R_reads' HO_9.out).2.2 x17_2 p275 q275; obtain rfl : ad271 = ad275 := (by injection e275); replace p275 := eq_true p275; replace q275 := eq_true q275))
                              refine Handed.intro k2 ?measure ?_
                              rotate_left
                              go_step
                              (try simp only [add_off0])
                              (repeat apply Exists.intro)
                              refine ⟨?rel, rfl⟩
                              case measure => have := HK1.out; have := HK2.out; omega
                              case rel => exact ⟨(y272), (x15_2), (x16_2), (wrap64 (x17_2 + 1)), (by first | rfl | (simp; done) | (simp [*]; done)), H', ⟨by have := HK1.out; have := HK2.out; omega⟩, ⟨by (with_reducible repeat (first | apply Kd.R_alloc | apply Kd.R_drewN | apply Kd.R_drew)); exact HO_8.out⟩, ⟨by (with_reducible repeat (first | apply Kd.R_alloc | apply Kd.R_drewN | apply Kd.R_drew)); exact Kd.R_mono HO_9.out (fun _ hk => ⟨hk.2, ⟨hk.1.1, hk.1.2⟩⟩)⟩, ⟨by (with_reducible repeat (first | apply Kd.R_alloc | apply Kd.R_drewN | apply Kd.R_drew)); exact HO274.out⟩, ⟨by (with_reducible repeat (first | apply Kd.R_alloc | apply Kd.R_drewN | apply Kd.R_drew)); exact Kd.R_mono HO_15.out (fun _ hk => ⟨hk.1.1, ⟨hk.2, hk.1.2⟩⟩)⟩, ⟨by (with_reducible repeat (first | apply Kd.R_alloc | apply Kd.R_drewN | apply Kd.R_drew)); exact Kd.R_mono HO_16.out (fun _ hk => ⟨hk.1.1, ⟨hk.2, hk.1.2⟩⟩)⟩, ⟨by repeat (first | (with_reducible first | exact HB.out | apply below_alloc | apply pw_below_drewN | apply below_drew1) | exact HB.out)⟩⟩
                          · rw [if_neg c60] at H
                            exact absurd H (by simp)
                        · rw [if_neg c59] at H
                          have c59b0 : ((rd x9_1 x17_2) == 1) = false := beq_eq_false_iff_ne.mpr c59
                          have c59b1 : ((rd x9_1 x17_2) != 1) = true := bne_iff_ne.mpr c59
                          by_cases c73 : (rd x9_1 x17_2) = 2
                          · rw [if_pos c73] at H
                            have c73b0 : ((rd x9_1 x17_2) == 2) = true := beq_iff_eq.mpr c73
                            have c73b1 : ((rd x9_1 x17_2) != 2) = false := bne_eq_false_iff_eq.mpr c73
                            clear c73
                            by_cases c74 : x15_2.length < 17592186044416
                            · rw [if_pos c74] at H
                              have LMc74 := Aside0.mk c74
                              clear c74
                              obtain ⟨y286, hy286⟩ : ∃ y_ : List Int, y_ = (x15_2 ++ [x17_2]) := ⟨_, rfl⟩
                              replace H : ((some (([x17_2] : List Int) : List Int)).bind fun y289 => (if y289.length + x16_2.length < 17592186044416 then (foghornlaw20_MendReach.l1 k2 t240 t239 x8_1 x9_1 x14_2 y286 (y289 ++ x16_2) (wrap64 (x17_2 + 1))) else (none))) = some r := by first | (rw [hy286]; with_reducible exact H) | (have H2_ := (Option.bind_some _ _).symm.trans H; rw [hy286]; with_reducible exact H2_) | (have H2_ := (Option.bind_some _ _).symm.trans H; with_reducible exact H2_) | with_reducible exact H | (rw [hy286]; exact H) | exact H
                              have Ny286 := Aside0.mk hy286
                              clear hy286
                              obtain ⟨y289, hy289⟩ : ∃ y_ : List Int, y_ = (([x17_2] : List Int)) := ⟨_, rfl⟩
                              replace H : (if y289.length + x16_2.length < 17592186044416 then (foghornlaw20_MendReach.l1 k2 t240 t239 x8_1 x9_1 x14_2 y286 (y289 ++ x16_2) (wrap64 (x17_2 + 1))) else (none)) = some r := by first | (rw [hy289]; with_reducible exact H) | (have H2_ := (Option.bind_some _ _).symm.trans H; rw [hy289]; with_reducible exact H2_) | (have H2_ := (Option.bind_some _ _).symm.trans H; with_reducible exact H2_) | with_reducible exact H | (rw [hy289]; exact H) | exact H
                              have Ny289 := Aside0.mk hy289
                              clear hy289
                              by_cases c75 : y289.length + x16_2.length < 17592186044416
                              · rw [if_pos c75] at H
                                have LMc75 := Aside0.mk c75
                                clear c75
                                obtain ⟨y292, hy292⟩ : ∃ y_ : List Int, y_ = (y289 ++ x16_2) := ⟨_, rfl⟩
                                replace H : (foghornlaw20_MendReach.l1 k2 t240 t239 x8_1 x9_1 x14_2 y286 y292 (wrap64 (x17_2 + 1))) = some r := by first | (rw [hy292]; with_reducible exact H) | (have H2_ := (Option.bind_some _ _).symm.trans H; rw [hy292]; with_reducible exact H2_) | (have H2_ := (Option.bind_some _ _).symm.trans H; with_reducible exact H2_) | with_reducible exact H | (rw [hy292]; exact H) | exact H
                                have Ny292 := Aside0.mk hy292
                                clear hy292
                                have H' := Aside0.mk H
                                clear H
                                obtain ⟨Ao76, co76, eo76⟩ := Kd.R_slice HO_9.out
                                subst eo76
                                have p271 : 0 ≤ (x17_2 : Int) := of_decide_eq_true (by first | (with_reducible assumption) | assumption)
                                have q271 : x17_2 < (x9_1.length : Int) := of_decide_eq_true (by first | (with_reducible assumption) | assumption)
                                obtain ⟨ad271, e271, hx271_0⟩ := Kd.at_int (Kd.R_reads' HO_9.out).2.2 x17_2 p271 q271
                                cases e271
                                replace p271 := eq_true p271
                                replace q271 := eq_true q271
                                have p285 : 0 ≤ (x17_2 : Int) := of_decide_eq_true (by first | (with_reducible assumption) | assumption)
                                have q285 : x17_2 < (x9_1.length : Int) := of_decide_eq_true (by first | (with_reducible assumption) | assumption)
                                obtain ⟨ad285, e285, hx285_0⟩ := Kd.at_int (Kd.R_reads' HO_9.out).2.2 x17_2 p285 q285
                                obtain rfl : ad271 = ad285 := (by injection e285)
                                replace p285 := eq_true p285
                                replace q285 := eq_true q285
                                go_wp2_with (first | ((with_reducible refine gate_builtin (b := .append) (xs := #[.tmp 124, .tmp 126]) rfl ?_); at_builtin; refine Kd.R_append (Kd.int .i64) (w0 := w) w.heap.size rfl (.tmp 124) (.tmp 126) 27 3 (.int .i64 0) 8 rfl Try.underlying27 info3 rfl (by decide) (by omega) u15 x15_2 x17_2 [.int .i64 x17_2] (fun k_ => some k_ ≠ (.slice (some ad271) x9_1.length co76 : Value).ownBlock ∧ some k_ ≠ (u14 : Value).ownBlock ∧ some k_ ≠ (u16 : Value).ownBlock) (fun _ => False) rfl rfl ?aP (fun _ hk => hk.elim) ?aF ?aO ?aB ?aS ?aL ?_; (case aP => exact rfl); (case aB => exact (by repeat (first | (with_reducible first | exact HB.out | apply below_alloc | apply pw_below_drewN | apply below_drew1) | exact HB.out))); (case aF => exact (fun k_ hk => ⟨Kd.fresh' (Kd.R_lt (by (with_reducible repeat (first | apply Kd.R_alloc | apply Kd.R_drewN | apply Kd.R_drew)); exact HO_9.out)) k_ hk, Kd.fresh' (Kd.R_lt (by (with_reducible repeat (first | apply Kd.R_alloc | apply Kd.R_drewN | apply Kd.R_drew)); exact HO_14.out)) k_ hk, Kd.fresh' (Kd.R_lt (by (with_reducible repeat (first | apply Kd.R_alloc | apply Kd.R_drewN | apply Kd.R_drew)); exact HO_16.out)) k_ hk⟩)); (case aO => exact (by (with_reducible repeat (first | apply Kd.R_alloc | apply Kd.R_drewN | apply Kd.R_drew)); exact HO_15.out)); (case aS => exact (below_size (by repeat (first | (with_reducible first | exact HB.out | apply below_alloc | apply pw_below_drewN | apply below_drew1) | exact HB.out)))); (case aL => have := LMc74.out; omega); intro v287 w77 ho hb hg hat; rw [← Ny286.out] at ho; have n0_ := Aside0.mk (Kd.R_over' (by (with_reducible repeat (first | apply Kd.R_alloc | apply Kd.R_drewN | apply Kd.R_drew)); exact HO_8.out) (Kd.R_typed (by (with_reducible repeat (first | apply Kd.R_alloc | apply Kd.R_drewN | apply Kd.R_drew)); exact HO_15.out)) (by decide) hg); have n1_ := Aside0.mk (Kd.R_after (ok := (fun k_ => some k_ ≠ (u14 : Value).ownBlock ∧ some k_ ≠ (u16 : Value).ownBlock)) (by (with_reducible repeat (first | apply Kd.R_alloc | apply Kd.R_drewN | apply Kd.R_drew)); exact Kd.R_mono HO_9.out (fun _ hk => ⟨⟨hk.1, hk.2.2⟩, hk.2.1⟩)) hg hat); have n2_ := Aside0.mk (Kd.R_after (ok := (fun k_ => some k_ ≠ (.slice (some ad271) x9_1.length co76 : Value).ownBlock ∧ some k_ ≠ (u16 : Value).ownBlock)) (by (with_reducible repeat (first | apply Kd.R_alloc | apply Kd.R_drewN | apply Kd.R_drew)); exact Kd.R_mono HO_14.out (fun _ hk => ⟨⟨hk.1, hk.2.2⟩, hk.2.1⟩)) hg hat); have n3_ := Aside0.mk (Kd.R_after (ok := (fun k_ => some k_ ≠ (.slice (some ad271) x9_1.length co76 : Value).ownBlock ∧ some k_ ≠ (u14 : Value).ownBlock)) (by (with_reducible repeat (first | apply Kd.R_alloc | apply Kd.R_drewN | apply Kd.R_drew)); exact Kd.R_mono HO_16.out (fun _ hk => ⟨⟨hk.1, hk.2.1⟩, hk.2.2⟩)) hg hat); have n4_ := Aside0.mk (hb); have n5_ := Aside0.mk (ho); clear HO_8; clear HO_9; clear HO_14; clear HO_16; clear HB; clear HO_15; have HO_8 := n0_; have HO_9 := n1_; have HO_14 := n2_; have HO_16 := n3_; have HB := n4_; have HO288 := n5_; clear n0_ n1_ n2_ n3_ n4_ n5_; clear ho hb hg hat) | ((with_reducible refine gate_dst (N := 129) rfl ?_); refine Kd.R_lit (Kd.int .i64) _ 3 ?hg (N := 129) ?hd (xs := ([x17_2] : List Int)) (inner := [.int .i64 x17_2]) (ok := fun _ => True) (okp := fun _ => True) ?hr ?hp (fun _ hk => hk) trivial (Below.refl _ _) (Nat.le_refl _) (by simp) ?_; (case hd => rfl); (case hg => rfl); (case hr => first | (go_simp; done) | (go_simp; rfl)); (case hp => exact (Reps.one (show Kd.M (Kd.int .i64) _ _ _ x17_2 [.int .i64 x17_2] from rfl) (Reps.none _ _))); intro v290 w78 ho79 hb hg_ hnew_; clear hg_ hnew_; (first | rw [← Ny289.out] at ho79 | (simp only [Int.reduceToNat] at ho79; rw [← Ny289.out] at ho79)); have n0_ := Aside0.mk (Kd.R_below (by (with_reducible repeat (first | apply Kd.R_alloc | apply Kd.R_drewN | apply Kd.R_drew)); exact HO_8.out) hb); have n1_ := Aside0.mk (Kd.R_elder' (by (with_reducible repeat (first | apply Kd.R_alloc | apply Kd.R_drewN | apply Kd.R_drew)); exact HO_9.out) (Kd.R_base ho79) hb); have n2_ := Aside0.mk (Kd.R_elder' (by (with_reducible repeat (first | apply Kd.R_alloc | apply Kd.R_drewN | apply Kd.R_drew)); exact HO_14.out) (Kd.R_base ho79) hb); have n3_ := Aside0.mk (Kd.R_elder' (by (with_reducible repeat (first | apply Kd.R_alloc | apply Kd.R_drewN | apply Kd.R_drew)); exact HO_16.out) (Kd.R_base ho79) hb); have n4_ := Aside0.mk (Kd.R_elder' (by (with_reducible repeat (first | apply Kd.R_alloc | apply Kd.R_drewN | apply Kd.R_drew)); exact HO288.out) (Kd.R_base ho79) hb); have n5_ := Aside0.mk (Kd.R_lower (Kd.R_new' (Kd.R_new' (Kd.R_new' (Kd.R_new' ho79 (Kd.R_lt (by (with_reducible repeat (first | apply Kd.R_alloc | apply Kd.R_drewN | apply Kd.R_drew)); exact HO_9.out))) (Kd.R_lt (by (with_reducible repeat (first | apply Kd.R_alloc | apply Kd.R_drewN | apply Kd.R_drew)); exact HO_14.out))) (Kd.R_lt (by (with_reducible repeat (first | apply Kd.R_alloc | apply Kd.R_drewN | apply Kd.R_drew)); exact HO_16.out))) (Kd.R_lt (by (with_reducible repeat (first | apply Kd.R_alloc | apply Kd.R_drewN | apply Kd.R_drew)); exact HO288.out))) (below_size (by repeat (first | (with_reducible first | exact HB.out | apply below_alloc | apply pw_below_drewN | apply below_drew1) | exact HB.out)))); have n6_ := Aside0.mk (below_step (by repeat (first | (with_reducible first | exact HB.out | apply below_alloc | apply pw_below_drewN | apply below_drew1) | exact HB.out)) hb); clear HO_8; clear HO_9; clear HO_14; clear HO_16; clear HO288; clear HB; have HO_8 := n0_; have HO_9 := n1_; have HO_14 := n2_; have HO_16 := n3_; have HO288 := n4_; have HO291 := n5_; have HB := n6_; clear n0_ n1_ n2_ n3_ n4_ n5_ n6_; clear hb ho79; obtain ⟨Ao81, co81, eo81⟩ := Kd.R_slice HO_16.out; subst eo81) | ((with_reducible refine gate_builtin (b := .append) (xs := #[.tmp 129, .tmp 130]) rfl ?_); at_builtin; refine Kd.R_append_rows (Kd.int .i64) (w0 := w) w.heap.size rfl (.tmp 129) (.tmp 130) 27 3 (.int .i64 0) 8 rfl Try.underlying27 info3 rfl (by decide) (by omega) v290 y289 x16_2 _ _ _ (fun k_ => some k_ ≠ (.slice (some ad271) x9_1.length co76 : Value).ownBlock ∧ some k_ ≠ (u14 : Value).ownBlock ∧ some k_ ≠ (.slice Ao81 x16_2.length co81 : Value).ownBlock ∧ some k_ ≠ (v287 : Value).ownBlock) (fun _ => False) rfl rfl ?aO ?aR (fun _ _ h => h) (fun _ h => h.elim) ?aF ?aB ?aS ?aL ?_; (case aR => repeat (first | exact (Kd.R_reads' HO_16.out).2.2 | (with_reducible refine Kd.C_alloc ?_ _) | (with_reducible refine Kd.C_drewN ?_ _) | (with_reducible refine Kd.C_drew ?_))); (case aB => exact (by repeat (first | (with_reducible first | exact HB.out | apply below_alloc | apply pw_below_drewN | apply below_drew1) | exact HB.out))); (case aF => exact (fun k_ hk => ⟨Kd.fresh' (Kd.R_lt (by (with_reducible repeat (first | apply Kd.R_alloc | apply Kd.R_drewN | apply Kd.R_drew)); exact HO_9.out)) k_ hk, Kd.fresh' (Kd.R_lt (by (with_reducible repeat (first | apply Kd.R_alloc | apply Kd.R_drewN | apply Kd.R_drew)); exact HO_14.out)) k_ hk, Kd.fresh' (Kd.R_lt (by (with_reducible repeat (first | apply Kd.R_alloc | apply Kd.R_drewN | apply Kd.R_drew)); exact HO_16.out)) k_ hk, Kd.fresh' (Kd.R_lt (by (with_reducible repeat (first | apply Kd.R_alloc | apply Kd.R_drewN | apply Kd.R_drew)); exact HO288.out)) k_ hk⟩)); (case aO => exact (by (with_reducible repeat (first | apply Kd.R_alloc | apply Kd.R_drewN | apply Kd.R_drew)); exact Kd.R_mono HO291.out (fun _ hk => ⟨hk.1.1.1.2, ⟨hk.1.1.2, ⟨hk.1.2, hk.2⟩⟩⟩))); (case aS => exact (below_size (by repeat (first | (with_reducible first | exact HB.out | apply below_alloc | apply pw_below_drewN | apply below_drew1) | exact HB.out)))); (case aL => have := LMc75.out; omega); intro v293 w80 ho hb hg hat; rw [← Ny292.out] at ho; have n0_ := Aside0.mk (Kd.R_over' (by (with_reducible repeat (first | apply Kd.R_alloc | apply Kd.R_drewN | apply Kd.R_drew)); exact HO_8.out) (Kd.R_typed (by (with_reducible repeat (first | apply Kd.R_alloc | apply Kd.R_drewN | apply Kd.R_drew)); exact HO291.out)) (by decide) hg); have n1_ := Aside0.mk (Kd.R_after (ok := (fun k_ => some k_ ≠ (u14 : Value).ownBlock ∧ some k_ ≠ (.slice Ao81 x16_2.length co81 : Value).ownBlock ∧ some k_ ≠ (v287 : Value).ownBlock)) (by (with_reducible repeat (first | apply Kd.R_alloc | apply Kd.R_drewN | apply Kd.R_drew)); exact Kd.R_mono HO_9.out (fun _ hk => ⟨⟨hk.1.1.1, ⟨hk.1.1.2, hk.1.2⟩⟩, hk.2⟩)) hg hat); have n2_ := Aside0.mk (Kd.R_after (ok := (fun k_ => some k_ ≠ (.slice (some ad271) x9_1.length co76 : Value).ownBlock ∧ some k_ ≠ (.slice Ao81 x16_2.length co81 : Value).ownBlock ∧ some k_ ≠ (v287 : Value).ownBlock)) (by (with_reducible repeat (first | apply Kd.R_alloc | apply Kd.R_drewN | apply Kd.R_drew)); exact Kd.R_mono HO_14.out (fun _ hk => ⟨⟨hk.1.1.1, ⟨hk.1.1.2, hk.1.2⟩⟩, hk.2⟩)) hg hat); have n3_ := Aside0.mk (Kd.R_after (ok := (fun k_ => some k_ ≠ (.slice (some ad271) x9_1.length co76 : Value).ownBlock ∧ some k_ ≠ (u14 : Value).ownBlock ∧ some k_ ≠ (v287 : Value).ownBlock)) (by (with_reducible repeat (first | apply Kd.R_alloc | apply Kd.R_drewN | apply Kd.R_drew)); exact Kd.R_mono HO_16.out (fun _ hk => ⟨⟨hk.1.1.1, ⟨hk.1.1.2, hk.1.2⟩⟩, hk.2⟩)) hg hat); have n4_ := Aside0.mk (Kd.R_after (ok := (fun k_ => some k_ ≠ (.slice (some ad271) x9_1.length co76 : Value).ownBlock ∧ some k_ ≠ (u14 : Value).ownBlock ∧ some k_ ≠ (.slice Ao81 x16_2.length co81 : Value).ownBlock)) (by (with_reducible repeat (first | apply Kd.R_alloc | apply Kd.R_drewN | apply Kd.R_drew)); exact HO288.out) hg hat); have n5_ := Aside0.mk (hb); have n6_ := Aside0.mk (ho); clear HO_8; clear HO_9; clear HO_14; clear HO_16; clear HO288; clear HB; clear HO291; have HO_8 := n0_; have HO_9 := n1_; have HO_14 := n2_; have HO_16 := n3_; have HO288 := n4_; have HB := n5_; have HO294 := n6_; clear n0_ n1_ n2_ n3_ n4_ n5_ n6_; clear ho hb hg hat))
                                refine Handed.intro k2 ?measure ?_
                                rotate_left
                                go_step
                                (try simp only [add_off0])
                                (repeat apply Exists.intro)
                                refine ⟨?rel, rfl⟩
                                case measure => have := HK1.out; have := HK2.out; omega
                                case rel => exact ⟨(x14_2), (y286), (y292), (wrap64 (x17_2 + 1)), (by first | rfl | (simp; done) | (simp [*]; done)), H', ⟨by have := HK1.out; have := HK2.out; omega⟩, ⟨by (with_reducible repeat (first | apply Kd.R_alloc | apply Kd.R_drewN | apply Kd.R_drew)); exact HO_8.out⟩, ⟨by (with_reducible repeat (first | apply Kd.R_alloc | apply Kd.R_drewN | apply Kd.R_drew)); exact Kd.R_mono HO_9.out (fun _ hk => ⟨hk.1.1, ⟨hk.1.2.2, hk.2⟩⟩)⟩, ⟨by (with_reducible repeat (first | apply Kd.R_alloc | apply Kd.R_drewN | apply Kd.R_drew)); exact Kd.R_mono HO_14.out (fun _ hk => ⟨hk.1.1, ⟨hk.1.2.2, hk.2⟩⟩)⟩, ⟨by (with_reducible repeat (first | apply Kd.R_alloc | apply Kd.R_drewN | apply Kd.R_drew)); exact Kd.R_mono HO288.out (fun _ hk => ⟨hk.1.1, ⟨hk.1.2.1, hk.2⟩⟩)⟩, ⟨by (with_reducible repeat (first | apply Kd.R_alloc | apply Kd.R_drewN | apply Kd.R_drew)); exact Kd.R_mono HO294.out (fun _ hk => ⟨hk.1, ⟨hk.2.1, hk.2.2.2⟩⟩)⟩, ⟨by repeat (first | (with_reducible first | exact HB.out | apply below_alloc | apply pw_below_drewN | apply below_drew1) | exact HB.out)⟩⟩
                              · rw [if_neg c75] at H
                                exact absurd H (by simp)
                            · rw [if_neg c74] at H
                              exact absurd H (by simp)
                          · rw [if_neg c73] at H
                            have c73b0 : ((rd x9_1 x17_2) == 2) = false := beq_eq_false_iff_ne.mpr c73
                            have c73b1 : ((rd x9_1 x17_2) != 2) = true := bne_iff_ne.mpr c73
                            have H' := Aside0.mk H
                            clear H
                            obtain ⟨Ao82, co82, eo82⟩ := Kd.R_slice HO_9.out
                            subst eo82
                            have p271 : 0 ≤ (x17_2 : Int) := of_decide_eq_true (by first | (with_reducible assumption) | assumption)
                            have q271 : x17_2 < (x9_1.length : Int) := of_decide_eq_true (by first | (with_reducible assumption) | assumption)
                            obtain ⟨ad271, e271, hx271_0⟩ := Kd.at_int (Kd.R_reads' HO_9.out).2.2 x17_2 p271 q271
                            cases e271
                            replace p271 := eq_true p271
                            replace q271 := eq_true q271
                            have p285 : 0 ≤ (x17_2 : Int) := of_decide_eq_true (by first | (with_reducible assumption) | assumption)
                            have q285 : x17_2 < (x9_1.length : Int) := of_decide_eq_true (by first | (with_reducible assumption) | assumption)
                            obtain ⟨ad285, e285, hx285_0⟩ := Kd.at_int (Kd.R_reads' HO_9.out).2.2 x17_2 p285 q285
                            obtain rfl : ad271 = ad285 := (by injection e285)
                            replace p285 := eq_true p285
                            replace q285 := eq_true q285
                            go_wp2
                            refine Handed.intro k2 ?measure ?_
                            rotate_left
                            go_step
                            (try simp only [add_off0])
                            (repeat apply Exists.intro)
                            refine ⟨?rel, rfl⟩
                            case measure => have := HK1.out; have := HK2.out; omega
                            case rel => exact ⟨(x14_2), (x15_2), (x16_2), (wrap64 (x17_2 + 1)), (by first | rfl | (simp; done) | (simp [*]; done)), H', ⟨by have := HK1.out; have := HK2.out; omega⟩, ⟨by (with_reducible repeat (first | apply Kd.R_alloc | apply Kd.R_drewN | apply Kd.R_drew)); exact HO_8.out⟩, ⟨by (with_reducible repeat (first | apply Kd.R_alloc | apply Kd.R_drewN | apply Kd.R_drew)); exact HO_9.out⟩, ⟨by (with_reducible repeat (first | apply Kd.R_alloc | apply Kd.R_drewN | apply Kd.R_drew)); exact HO_14.out⟩, ⟨by (with_reducible repeat (first | apply Kd.R_alloc | apply Kd.R_drewN | apply Kd.R_drew)); exact HO_15.out⟩, ⟨by (with_reducible repeat (first | apply Kd.R_alloc | apply Kd.R_drewN | apply Kd.R_drew)); exact HO_16.out⟩, ⟨by repeat (first | (with_reducible first | exact HB.out | apply below_alloc | apply pw_below_drewN | apply below_drew1) | exact HB.out)⟩⟩
                      · rw [if_neg c58] at H
                        exact absurd H (by simp)
                    · rw [if_neg c57] at H
                      have c57b0 : decide (x17_2 < (x9_1.length : Int)) = false := decide_eq_false c57
                      clear c57
                      replace H := Option.bind_eq_some_iff.mp H
                      obtain ⟨⟨t260, t261, t264, t267⟩, A830, H⟩ := H
                      replace H : (if t267 = 0 then (if t260.toList = t239.toList then ((foghornref20_Numbers.f k2 t261 x14_2).bind fun t269 => (if t269 = true then ((foghornref20_Numbers.f k2 t264 x15_2).bind fun t270 => (some t270)) else (some false))) else (some false)) else (some false)) = some r := H
                      have A83 := Aside0.mk A830
                      clear A830
                      by_cases c84 : t267 = 0
                      · rw [if_pos c84] at H
                        have c84b0 : (t267 == 0) = true := beq_iff_eq.mpr c84
                        have c84b1 : (t267 != 0) = false := bne_eq_false_iff_eq.mpr c84
                        clear c84
                        by_cases c85 : t260.toList = t239.toList
                        · rw [if_pos c85] at H
                          have c85b0 : (t260.toList == t239.toList) = true := beq_iff_eq.mpr c85
                          have c85b1 : (t260.toList != t239.toList) = false := bne_eq_false_iff_eq.mpr c85
                          clear c85
                          replace H := Option.bind_eq_some_iff.mp H
                          obtain ⟨t269, A860, H⟩ := H
                          replace H : (if t269 = true then ((foghornref20_Numbers.f k2 t264 x15_2).bind fun t270 => (some t270)) else (some false)) = some r := H
                          have A86 := Aside0.mk A860
                          clear A860
                          by_cases c87 : t269 = true
                          · subst c87
                            have H1 : ((foghornref20_Numbers.f k2 t264 x15_2).bind fun t270 => (some t270)) = some r := by rw [if_pos rfl] at H; exact H
                            clear H
                            have H := H1
                            clear H1
                            replace H := Option.bind_eq_some_iff.mp H
                            obtain ⟨t270, A880, H⟩ := H
                            replace H : (some t270) = some r := H
                            have A88 := Aside0.mk A880
                            clear A880
                            obtain rfl := Option.some.inj H
                            obtain ⟨Ao89, co89, eo89⟩ := Kd.R_slice HO_9.out
                            subst eo89
                            have hcv90 := own_string (P := Try.prog) Try.underlying26 Try.underlying5 Try.underlying9 (Kd.own_of_R HO_8.out)
                            obtain ⟨Ao91, co91, eo91⟩ := Kd.R_slice HO_16.out
                            subst eo91
                            go_wp2_with (first | ((with_reducible refine gate_callee (f := 11) rfl ?_); refine goesL_ (some 137) rfl rfl Try.func11 (by kernel_rfl) rfl #[.string (strOfNums x8_1), .int .i64 t240, .slice Ao91 x16_2.length co91] rfl (by (try simp only [List.map_toArray, List.map_cons, List.map_nil]); first | done | rfl | (simp only [List.length_drop, List.length_take]; rfl)) ?_; (with_reducible refine (mend_Mend.calls k2 (strOfNums x8_1) t240 _ _ x16_2 t260 t261 t264 t267 _ ?side1 ?side2 A83.out).mono ?_); (case side1 => repeat (first | exact (Kd.R_reads' HO_16.out).2.2 | (with_reducible refine Kd.C_alloc ?_ _) | (with_reducible refine Kd.C_drewN ?_ _) | (with_reducible refine Kd.C_drew ?_))); (case side2 => exact (Kd.R_reads' HO_16.out).2.1); rintro e w92 ⟨v262, v265, rfl, ho0, ho1, hb⟩; refine ⟨_, rfl, ?_⟩; have n0_ := Aside0.mk (Kd.R_below (by (with_reducible repeat (first | apply Kd.R_alloc | apply Kd.R_drewN | apply Kd.R_drew)); exact HO_8.out) hb); have n1_ := Aside0.mk (Kd.R_mono (Kd.R_told (Kd.R_told (Kd.R_old (by (with_reducible repeat (first | apply Kd.R_alloc | apply Kd.R_drewN | apply Kd.R_drew)); exact HO_9.out) hb) (Kd.R_base ho0)) (Kd.R_base ho1)) (fun _ h_ => h_.1)); have n2_ := Aside0.mk (Kd.R_mono (Kd.R_told (Kd.R_told (Kd.R_old (by (with_reducible repeat (first | apply Kd.R_alloc | apply Kd.R_drewN | apply Kd.R_drew)); exact HO_14.out) hb) (Kd.R_base ho0)) (Kd.R_base ho1)) (fun _ h_ => h_.1)); have n3_ := Aside0.mk (Kd.R_mono (Kd.R_told (Kd.R_told (Kd.R_old (by (with_reducible repeat (first | apply Kd.R_alloc | apply Kd.R_drewN | apply Kd.R_drew)); exact HO_15.out) hb) (Kd.R_base ho0)) (Kd.R_base ho1)) (fun _ h_ => h_.1)); have n4_ := Aside0.mk (Kd.R_mono (Kd.R_told (Kd.R_told (Kd.R_old (by (with_reducible repeat (first | apply Kd.R_alloc | apply Kd.R_drewN | apply Kd.R_drew)); exact HO_16.out) hb) (Kd.R_base ho0)) (Kd.R_base ho1)) (fun _ h_ => h_.1)); have n5_ := Aside0.mk (Kd.R_lower (Kd.R_new' (Kd.R_new' (Kd.R_new' (Kd.R_new' ho0 (Kd.R_lt (by (with_reducible repeat (first | apply Kd.R_alloc | apply Kd.R_drewN | apply Kd.R_drew)); exact HO_9.out))) (Kd.R_lt (by (with_reducible repeat (first | apply Kd.R_alloc | apply Kd.R_drewN | apply Kd.R_drew)); exact HO_14.out))) (Kd.R_lt (by (with_reducible repeat (first | apply Kd.R_alloc | apply Kd.R_drewN | apply Kd.R_drew)); exact HO_15.out))) (Kd.R_lt (by (with_reducible repeat (first | apply Kd.R_alloc | apply Kd.R_drewN | apply Kd.R_drew)); exact HO_16.out))) (below_size (by repeat (first | (with_reducible first | exact HB.out | apply below_alloc | apply pw_below_drewN | apply below_drew1) | exact HB.out)))); have n6_ := Aside0.mk (Kd.R_lower (Kd.R_new' (Kd.R_new' (Kd.R_new' (Kd.R_new' ho1 (Kd.R_lt (by (with_reducible repeat (first | apply Kd.R_alloc | apply Kd.R_drewN | apply Kd.R_drew)); exact HO_9.out))) (Kd.R_lt (by (with_reducible repeat (first | apply Kd.R_alloc | apply Kd.R_drewN | apply Kd.R_drew)); exact HO_14.out))) (Kd.R_lt (by (with_reducible repeat (first | apply Kd.R_alloc | apply Kd.R_drewN | apply Kd.R_drew)); exact HO_15.out))) (Kd.R_lt (by (with_reducible repeat (first | apply Kd.R_alloc | apply Kd.R_drewN | apply Kd.R_drew)); exact HO_16.out))) (below_size (by repeat (first | (with_reducible first | exact HB.out | apply below_alloc | apply pw_below_drewN | apply below_drew1) | exact HB.out)))); have n7_ := Aside0.mk (below_step (by repeat (first | (with_reducible first | exact HB.out | apply below_alloc | apply pw_below_drewN | apply below_drew1) | exact HB.out)) hb); clear HO_8; clear HO_9; clear HO_14; clear HO_15; clear HO_16; clear HB; have HO_8 := n0_; have HO_9 := n1_; have HO_14 := n2_; have HO_15 := n3_; have HO_16 := n4_; have HO263 := n5_; have HO266 := n6_; have HB := n7_; clear n0_ n1_ n2_ n3_ n4_ n5_ n6_ n7_; (try clear hb); (try clear hb2); (try clear hk); (try clear hi); (try clear ho0); (try clear ho1)) | ((with_reducible refine gate_dst (N := 18) rfl ?_); refine box_event ?hg (N := 18) ?hd (cs := #[.string (⟨#[]⟩ : ByteArray), .slice none 0 0, .slice none 0 0]) (t := 31) ?hr ?_; (case hd => rfl); (case hg => rfl); (case hr => first | (go_simp; done) | (go_simp; rfl)); intro gb268 hg w93 hbox hb; have n0_ := Aside0.mk (Kd.R_below (by (with_reducible repeat (first | apply Kd.R_alloc | apply Kd.R_drewN | apply Kd.R_drew)); exact HO_8.out) hb); have n1_ := Aside0.mk (Kd.R_below (by (with_reducible repeat (first | apply Kd.R_alloc | apply Kd.R_drewN | apply Kd.R_drew)); exact HO_9.out) hb); have n2_ := Aside0.mk (Kd.R_below (by (with_reducible repeat (first | apply Kd.R_alloc | apply Kd.R_drewN | apply Kd.R_drew)); exact HO_14.out) hb); have n3_ := Aside0.mk (Kd.R_below (by (with_reducible repeat (first | apply Kd.R_alloc | apply Kd.R_drewN | apply Kd.R_drew)); exact HO_15.out) hb); have n4_ := Aside0.mk (Kd.R_below (by (with_reducible repeat (first | apply Kd.R_alloc | apply Kd.R_drewN | apply Kd.R_drew)); exact HO_16.out) hb); have n5_ := Aside0.mk (Kd.R_below (by (with_reducible repeat (first | apply Kd.R_alloc | apply Kd.R_drewN | apply Kd.R_drew)); exact HO263.out) hb); have n6_ := Aside0.mk (Kd.R_below (by (with_reducible repeat (first | apply Kd.R_alloc | apply Kd.R_drewN | apply Kd.R_drew)); exact HO266.out) hb); have n7_ := Aside0.mk (below_step (by repeat (first | (with_reducible first | exact HB.out | apply below_alloc | apply pw_below_drewN | apply below_drew1) | exact HB.out)) hb); have n8_ := Aside0.mk (hbox); have n9_ := Aside0.mk ((by rw [hg]; exact (below_size (by repeat (first | (with_reducible first | exact HB.out | apply below_alloc | apply pw_below_drewN | apply below_drew1) | exact HB.out))) : w.heap.size ≤ gb268)); have n10_ := Aside0.mk ((by rw [hg]; exact (below_size (by repeat (first | (with_reducible first | exact HB.out | apply below_alloc | apply pw_below_drewN | apply below_drew1) | exact HB.out))) : w.heap.size ≤ gb268)); clear HO_8; clear HO_9; clear HO_14; clear HO_15; clear HO_16; clear HO263; clear HO266; clear HB; have HO_8 := n0_; have HO_9 := n1_; have HO_14 := n2_; have HO_15 := n3_; have HO_16 := n4_; have HO263 := n5_; have HO266 := n6_; have HB := n7_; have BK268 := n8_; have GW268 := n9_; have GE268 := n10_; clear n0_ n1_ n2_ n3_ n4_ n5_ n6_ n7_ n8_ n9_ n10_; clear hb hbox hg; have hcz94_0 : w93.cell? ⟨gb268, 0, none⟩ = some (.string (⟨#[]⟩ : ByteArray)) := (blk_cell BK268.out 0).trans rfl; have hcz94_1 : w93.cell? ⟨gb268, 1, none⟩ = some (.slice none 0 0) := (blk_cell BK268.out 1).trans rfl; have hcz94_2 : w93.cell? ⟨gb268, 2, none⟩ = some (.slice none 0 0) := (blk_cell BK268.out 2).trans rfl; have hfz94_0 := blk_frozen BK268.out 0; have hfz94_1 := blk_frozen BK268.out 1; have hfz94_2 := blk_frozen BK268.out 2; obtain ⟨Ao95, co95, eo95⟩ := Kd.R_slice HO263.out; subst eo95; obtain ⟨Ao96, co96, eo96⟩ := Kd.R_slice HO266.out; subst eo96; obtain ⟨Ao97, co97, eo97⟩ := Kd.R_slice HO_14.out; subst eo97) | (go_at_call 12; (with_reducible refine (foghornref20_Numbers.calls k2 _ _ t261 _ _ x14_2 true _ ?side1 ?side2 ?side3 ?side4 A86.out).mono ?_); (case side1 => refine (Kd.R_reads' (e := 3) (base := w.heap.size) (ok := fun k_ => ((((some k_ ≠ (.slice Ao96 t264.length co96 : Value).ownBlock ∧ some k_ ≠ (.slice Ao89 x9_1.length co89 : Value).ownBlock) ∧ some k_ ≠ (.slice Ao97 x14_2.length co97 : Value).ownBlock) ∧ some k_ ≠ (u15 : Value).ownBlock) ∧ some k_ ≠ (.slice Ao91 x16_2.length co91 : Value).ownBlock)) (n := t261.length) (c := co95) ?_).2.2; exact (by (with_reducible repeat (first | apply Kd.R_alloc | apply Kd.R_drewN | apply Kd.R_drew)); exact (Kd.R_mono (Kd.R_far (p := ⟨gb268, 2, none⟩) (Kd.R_far (p := ⟨gb268, 1, none⟩) (Kd.R_far (p := ⟨gb268, 0, none⟩) (Kd.R_types HO263.out BK268.out (by decide)) (fun _ hk => hk.2) (.string t260)) (fun _ hk => hk.2) (.slice Ao95 t261.length co95)) (fun _ hk => hk.2) (.slice Ao96 t264.length co96)) (fun _ h_ => h_.1)))); (case side2 => exact (Kd.R_reads' HO263.out).2.1); (case side3 => refine (Kd.R_reads' (e := 3) (base := w.heap.size) (ok := fun k_ => (((some k_ ≠ (.slice Ao89 x9_1.length co89 : Value).ownBlock ∧ (some k_ ≠ (u15 : Value).ownBlock ∧ some k_ ≠ (.slice Ao91 x16_2.length co91 : Value).ownBlock)) ∧ some k_ ≠ (.slice Ao95 t261.length co95 : Value).ownBlock) ∧ some k_ ≠ (.slice Ao96 t264.length co96 : Value).ownBlock)) (n := x14_2.length) (c := co97) ?_).2.2; exact (by (with_reducible repeat (first | apply Kd.R_alloc | apply Kd.R_drewN | apply Kd.R_drew)); exact (Kd.R_mono (Kd.R_far (p := ⟨gb268, 2, none⟩) (Kd.R_far (p := ⟨gb268, 1, none⟩) (Kd.R_far (p := ⟨gb268, 0, none⟩) (Kd.R_types HO_14.out BK268.out (by decide)) (fun _ hk => hk.2) (.string t260)) (fun _ hk => hk.2) (.slice Ao95 t261.length co95)) (fun _ hk => hk.2) (.slice Ao96 t264.length co96)) (fun _ h_ => h_.1)))); (case side4 => exact (Kd.R_reads' HO_14.out).2.1); rintro e w' ⟨rfl, ⟨nd, rfl⟩⟩; obtain ⟨Ao98, co98, eo98⟩ := Kd.R_slice HO_15.out; subst eo98) | (go_at_call 12; (with_reducible refine (foghornref20_Numbers.calls k2 _ _ t264 _ _ x15_2 t270 _ ?side1 ?side2 ?side3 ?side4 A88.out).mono ?_); (case side1 => refine (Kd.R_reads' (e := 3) (base := w.heap.size) (ok := fun k_ => ((((some k_ ≠ (.slice Ao95 t261.length co95 : Value).ownBlock ∧ some k_ ≠ (.slice Ao89 x9_1.length co89 : Value).ownBlock) ∧ some k_ ≠ (.slice Ao97 x14_2.length co97 : Value).ownBlock) ∧ some k_ ≠ (.slice Ao98 x15_2.length co98 : Value).ownBlock) ∧ some k_ ≠ (.slice Ao91 x16_2.length co91 : Value).ownBlock)) (n := t264.length) (c := co96) ?_).2.2; exact (by (with_reducible repeat (first | apply Kd.R_alloc | apply Kd.R_drewN | apply Kd.R_drew)); exact (Kd.R_mono (Kd.R_far (p := ⟨gb268, 2, none⟩) (Kd.R_far (p := ⟨gb268, 1, none⟩) (Kd.R_far (p := ⟨gb268, 0, none⟩) (Kd.R_types HO266.out BK268.out (by decide)) (fun _ hk => hk.2) (.string t260)) (fun _ hk => hk.2) (.slice Ao95 t261.length co95)) (fun _ hk => hk.2) (.slice Ao96 t264.length co96)) (fun _ h_ => h_.1)))); (case side2 => exact (Kd.R_reads' HO266.out).2.1); (case side3 => refine (Kd.R_reads' (e := 3) (base := w.heap.size) (ok := fun k_ => (((some k_ ≠ (.slice Ao89 x9_1.length co89 : Value).ownBlock ∧ (some k_ ≠ (.slice Ao97 x14_2.length co97 : Value).ownBlock ∧ some k_ ≠ (.slice Ao91 x16_2.length co91 : Value).ownBlock)) ∧ some k_ ≠ (.slice Ao95 t261.length co95 : Value).ownBlock) ∧ some k_ ≠ (.slice Ao96 t264.length co96 : Value).ownBlock)) (n := x15_2.length) (c := co98) ?_).2.2; exact (by (with_reducible repeat (first | apply Kd.R_alloc | apply Kd.R_drewN | apply Kd.R_drew)); exact (Kd.R_mono (Kd.R_far (p := ⟨gb268, 2, none⟩) (Kd.R_far (p := ⟨gb268, 1, none⟩) (Kd.R_far (p := ⟨gb268, 0, none⟩) (Kd.R_types HO_15.out BK268.out (by decide)) (fun _ hk => hk.2) (.string t260)) (fun _ hk => hk.2) (.slice Ao95 t261.length co95)) (fun _ hk => hk.2) (.slice Ao96 t264.length co96)) (fun _ h_ => h_.1)))); (case side4 => exact (Kd.R_reads' HO_15.out).2.1); rintro e w' ⟨rfl, ⟨nd, rfl⟩⟩))
                            go_ret
                            exact ⟨by first | rfl | (simp [errW_none, errW_some] <;> rfl) | (simp [*, errW_none, errW_some] <;> rfl), by repeat (first | (with_reducible first | exact HB.out | apply below_alloc | apply pw_below_drewN | apply below_drew1 | refine below_set ?_ GE268.out) | exact HB.out)⟩
                          · replace c87 := Bool.eq_false_iff.mpr c87
                            subst c87
                            have H1 : (some false) = some r := by rw [if_neg (show ¬ (false = true) by decide)] at H; exact H
                            clear H
                            have H := H1
                            clear H1
                            obtain rfl := Option.some.inj H
                            obtain ⟨Ao99, co99, eo99⟩ := Kd.R_slice HO_9.out
                            subst eo99
                            have hcv100 := own_string (P := Try.prog) Try.underlying26 Try.underlying5 Try.underlying9 (Kd.own_of_R HO_8.out)
                            obtain ⟨Ao101, co101, eo101⟩ := Kd.R_slice HO_16.out
                            subst eo101
                            go_wp2_with (first | ((with_reducible refine gate_callee (f := 11) rfl ?_); refine goesL_ (some 137) rfl rfl Try.func11 (by kernel_rfl) rfl #[.string (strOfNums x8_1), .int .i64 t240, .slice Ao101 x16_2.length co101] rfl (by (try simp only [List.map_toArray, List.map_cons, List.map_nil]); first | done | rfl | (simp only [List.length_drop, List.length_take]; rfl)) ?_; (with_reducible refine (mend_Mend.calls k2 (strOfNums x8_1) t240 _ _ x16_2 t260 t261 t264 t267 _ ?side1 ?side2 A83.out).mono ?_); (case side1 => repeat (first | exact (Kd.R_reads' HO_16.out).2.2 | (with_reducible refine Kd.C_alloc ?_ _) | (with_reducible refine Kd.C_drewN ?_ _) | (with_reducible refine Kd.C_drew ?_))); (case side2 => exact (Kd.R_reads' HO_16.out).2.1); rintro e w102 ⟨v262, v265, rfl, ho0, ho1, hb⟩; refine ⟨_, rfl, ?_⟩; have n0_ := Aside0.mk (Kd.R_below (by (with_reducible repeat (first | apply Kd.R_alloc | apply Kd.R_drewN | apply Kd.R_drew)); exact HO_8.out) hb); have n1_ := Aside0.mk (Kd.R_mono (Kd.R_told (Kd.R_told (Kd.R_old (by (with_reducible repeat (first | apply Kd.R_alloc | apply Kd.R_drewN | apply Kd.R_drew)); exact HO_9.out) hb) (Kd.R_base ho0)) (Kd.R_base ho1)) (fun _ h_ => h_.1)); have n2_ := Aside0.mk (Kd.R_mono (Kd.R_told (Kd.R_told (Kd.R_old (by (with_reducible repeat (first | apply Kd.R_alloc | apply Kd.R_drewN | apply Kd.R_drew)); exact HO_14.out) hb) (Kd.R_base ho0)) (Kd.R_base ho1)) (fun _ h_ => h_.1)); have n3_ := Aside0.mk (Kd.R_mono (Kd.R_told (Kd.R_told (Kd.R_old (by (with_reducible repeat (first | apply Kd.R_alloc | apply Kd.R_drewN | apply Kd.R_drew)); exact HO_15.out) hb) (Kd.R_base ho0)) (Kd.R_base ho1)) (fun _ h_ => h_.1)); have n4_ := Aside0.mk (Kd.R_mono (Kd.R_told (Kd.R_told (Kd.R_old (by (with_reducible repeat (first | apply Kd.R_alloc | apply Kd.R_drewN | apply Kd.R_drew)); exact HO_16.out) hb) (Kd.R_base ho0)) (Kd.R_base ho1)) (fun _ h_ => h_.1)); have n5_ := Aside0.mk (Kd.R_lower (Kd.R_new' (Kd.R_new' (Kd.R_new' (Kd.R_new' ho0 (Kd.R_lt (by (with_reducible repeat (first | apply Kd.R_alloc | apply Kd.R_drewN | apply Kd.R_drew)); exact HO_9.out))) (Kd.R_lt (by (with_reducible repeat (first | apply Kd.R_alloc | apply Kd.R_drewN | apply Kd.R_drew)); exact HO_14.out))) (Kd.R_lt (by (with_reducible repeat (first | apply Kd.R_alloc | apply Kd.R_drewN | apply Kd.R_drew)); exact HO_15.out))) (Kd.R_lt (by (with_reducible repeat (first | apply Kd.R_alloc | apply Kd.R_drewN | apply Kd.R_drew)); exact HO_16.out))) (below_size (by repeat (first | (with_reducible first | exact HB.out | apply below_alloc | apply pw_below_drewN | apply below_drew1) | exact HB.out)))); have n6_ := Aside0.mk (Kd.R_lower (Kd.R_new' (Kd.R_new' (Kd.R_new' (Kd.R_new' ho1 (Kd.R_lt (by (with_reducible repeat (first | apply Kd.R_alloc | apply Kd.R_drewN | apply Kd.R_drew)); exact HO_9.out))) (Kd.R_lt (by (with_reducible repeat (first | apply Kd.R_alloc | apply Kd.R_drewN | apply Kd.R_drew)); exact HO_14.out))) (Kd.R_lt (by (with_reducible repeat (first | apply Kd.R_alloc | apply Kd.R_drewN | apply Kd.R_drew)); exact HO_15.out))) (Kd.R_lt (by (with_reducible repeat (first | apply Kd.R_alloc | apply Kd.R_drewN | apply Kd.R_drew)); exact HO_16.out))) (below_size (by repeat (first | (with_reducible first | exact HB.out | apply below_alloc | apply pw_below_drewN | apply below_drew1) | exact HB.out)))); have n7_ := Aside0.mk (below_step (by repeat (first | (with_reducible first | exact HB.out | apply below_alloc | apply pw_below_drewN | apply below_drew1) | exact HB.out)) hb); clear HO_8; clear HO_9; clear HO_14; clear HO_15; clear HO_16; clear HB; have HO_8 := n0_; have HO_9 := n1_; have HO_14 := n2_; have HO_15 := n3_; have HO_16 := n4_; have HO263 := n5_; have HO266 := n6_; have HB := n7_; clear n0_ n1_ n2_ n3_ n4_ n5_ n6_ n7_; (try clear hb); (try clear hb2); (try clear hk); (try clear hi); (try clear ho0); (try clear ho1)) | ((with_reducible refine gate_dst (N := 18) rfl ?_); refine box_event ?hg (N := 18) ?hd (cs := #[.string (⟨#[]⟩ : ByteArray), .slice none 0 0, .slice none 0 0]) (t := 31) ?hr ?_; (case hd => rfl); (case hg => rfl); (case hr => first | (go_simp; done) | (go_simp; rfl)); intro gb268 hg w103 hbox hb; have n0_ := Aside0.mk (Kd.R_below (by (with_reducible repeat (first | apply Kd.R_alloc | apply Kd.R_drewN | apply Kd.R_drew)); exact HO_8.out) hb); have n1_ := Aside0.mk (Kd.R_below (by (with_reducible repeat (first | apply Kd.R_alloc | apply Kd.R_drewN | apply Kd.R_drew)); exact HO_9.out) hb); have n2_ := Aside0.mk (Kd.R_below (by (with_reducible repeat (first | apply Kd.R_alloc | apply Kd.R_drewN | apply Kd.R_drew)); exact HO_14.out) hb); have n3_ := Aside0.mk (Kd.R_below (by (with_reducible repeat (first | apply Kd.R_alloc | apply Kd.R_drewN | apply Kd.R_drew)); exact HO_15.out) hb); have n4_ := Aside0.mk (Kd.R_below (by (with_reducible repeat (first | apply Kd.R_alloc | apply Kd.R_drewN | apply Kd.R_drew)); exact HO_16.out) hb); have n5_ := Aside0.mk (Kd.R_below (by (with_reducible repeat (first | apply Kd.R_alloc | apply Kd.R_drewN | apply Kd.R_drew)); exact HO263.out) hb); have n6_ := Aside0.mk (Kd.R_below (by (with_reducible repeat (first | apply Kd.R_alloc | apply Kd.R_drewN | apply Kd.R_drew)); exact HO266.out) hb); have n7_ := Aside0.mk (below_step (by repeat (first | (with_reducible first | exact HB.out | apply below_alloc | apply pw_below_drewN | apply below_drew1) | exact HB.out)) hb); have n8_ := Aside0.mk (hbox); have n9_ := Aside0.mk ((by rw [hg]; exact (below_size (by repeat (first | (with_reducible first | exact HB.out | apply below_alloc | apply pw_below_drewN | apply below_drew1) | exact HB.out))) : w.heap.size ≤ gb268)); have n10_ := Aside0.mk ((by rw [hg]; exact (below_size (by repeat (first | (with_reducible first | exact HB.out | apply below_alloc | apply pw_below_drewN | apply below_drew1) | exact HB.out))) : w.heap.size ≤ gb268)); clear HO_8; clear HO_9; clear HO_14; clear HO_15; clear HO_16; clear HO263; clear HO266; clear HB; have HO_8 := n0_; have HO_9 := n1_; have HO_14 := n2_; have HO_15 := n3_; have HO_16 := n4_; have HO263 := n5_; have HO266 := n6_; have HB := n7_; have BK268 := n8_; have GW268 := n9_; have GE268 := n10_; clear n0_ n1_ n2_ n3_ n4_ n5_ n6_ n7_ n8_ n9_ n10_; clear hb hbox hg; have hcz104_0 : w103.cell? ⟨gb268, 0, none⟩ = some (.string (⟨#[]⟩ : ByteArray)) := (blk_cell BK268.out 0).trans rfl; have hcz104_1 : w103.cell? ⟨gb268, 1, none⟩ = some (.slice none 0 0) := (blk_cell BK268.out 1).trans rfl; have hcz104_2 : w103.cell? ⟨gb268, 2, none⟩ = some (.slice none 0 0) := (blk_cell BK268.out 2).trans rfl; have hfz104_0 := blk_frozen BK268.out 0; have hfz104_1 := blk_frozen BK268.out 1; have hfz104_2 := blk_frozen BK268.out 2; obtain ⟨Ao105, co105, eo105⟩ := Kd.R_slice HO263.out; subst eo105; obtain ⟨Ao106, co106, eo106⟩ := Kd.R_slice HO266.out; subst eo106; obtain ⟨Ao107, co107, eo107⟩ := Kd.R_slice HO_14.out; subst eo107) | (go_at_call 12; (with_reducible refine (foghornref20_Numbers.calls k2 _ _ t261 _ _ x14_2 false _ ?side1 ?side2 ?side3 ?side4 A86.out).mono ?_); (case side1 => refine (Kd.R_reads' (e := 3) (base := w.heap.size) (ok := fun k_ => ((((some k_ ≠ (.slice Ao106 t264.length co106 : Value).ownBlock ∧ some k_ ≠ (.slice Ao99 x9_1.length co99 : Value).ownBlock) ∧ some k_ ≠ (.slice Ao107 x14_2.length co107 : Value).ownBlock) ∧ some k_ ≠ (u15 : Value).ownBlock) ∧ some k_ ≠ (.slice Ao101 x16_2.length co101 : Value).ownBlock)) (n := t261.length) (c := co105) ?_).2.2; exact (by (with_reducible repeat (first | apply Kd.R_alloc | apply Kd.R_drewN | apply Kd.R_drew)); exact (Kd.R_mono (Kd.R_far (p := ⟨gb268, 2, none⟩) (Kd.R_far (p := ⟨gb268, 1, none⟩) (Kd.R_far (p := ⟨gb268, 0, none⟩) (Kd.R_types HO263.out BK268.out (by decide)) (fun _ hk => hk.2) (.string t260)) (fun _ hk => hk.2) (.slice Ao105 t261.length co105)) (fun _ hk => hk.2) (.slice Ao106 t264.length co106)) (fun _ h_ => h_.1)))); (case side2 => exact (Kd.R_reads' HO263.out).2.1); (case side3 => refine (Kd.R_reads' (e := 3) (base := w.heap.size) (ok := fun k_ => (((some k_ ≠ (.slice Ao99 x9_1.length co99 : Value).ownBlock ∧ (some k_ ≠ (u15 : Value).ownBlock ∧ some k_ ≠ (.slice Ao101 x16_2.length co101 : Value).ownBlock)) ∧ some k_ ≠ (.slice Ao105 t261.length co105 : Value).ownBlock) ∧ some k_ ≠ (.slice Ao106 t264.length co106 : Value).ownBlock)) (n := x14_2.length) (c := co107) ?_).2.2; exact (by (with_reducible repeat (first | apply Kd.R_alloc | apply Kd.R_drewN | apply Kd.R_drew)); exact (Kd.R_mono (Kd.R_far (p := ⟨gb268, 2, none⟩) (Kd.R_far (p := ⟨gb268, 1, none⟩) (Kd.R_far (p := ⟨gb268, 0, none⟩) (Kd.R_types HO_14.out BK268.out (by decide)) (fun _ hk => hk.2) (.string t260)) (fun _ hk => hk.2) (.slice Ao105 t261.length co105)) (fun _ hk => hk.2) (.slice Ao106 t264.length co106)) (fun _ h_ => h_.1)))); (case side4 => exact (Kd.R_reads' HO_14.out).2.1); rintro e w' ⟨rfl, ⟨nd, rfl⟩⟩))
                            go_ret
                            exact ⟨by first | rfl | (simp [errW_none, errW_some] <;> rfl) | (simp [*, errW_none, errW_some] <;> rfl), by repeat (first | (with_reducible first | exact HB.out | apply below_alloc | apply pw_below_drewN | apply below_drew1 | refine below_set ?_ GE268.out) | exact HB.out)⟩
                        · rw [if_neg c85] at H
                          have c85b0 : (t260.toList == t239.toList) = false := beq_eq_false_iff_ne.mpr c85
                          have c85b1 : (t260.toList != t239.toList) = true := bne_iff_ne.mpr c85
                          obtain rfl := Option.some.inj H
                          obtain ⟨Ao108, co108, eo108⟩ := Kd.R_slice HO_9.out
                          subst eo108
                          have hcv109 := own_string (P := Try.prog) Try.underlying26 Try.underlying5 Try.underlying9 (Kd.own_of_R HO_8.out)
                          obtain ⟨Ao110, co110, eo110⟩ := Kd.R_slice HO_16.out
                          subst eo110
                          go_wp2_with (first | ((with_reducible refine gate_callee (f := 11) rfl ?_); refine goesL_ (some 137) rfl rfl Try.func11 (by kernel_rfl) rfl #[.string (strOfNums x8_1), .int .i64 t240, .slice Ao110 x16_2.length co110] rfl (by (try simp only [List.map_toArray, List.map_cons, List.map_nil]); first | done | rfl | (simp only [List.length_drop, List.length_take]; rfl)) ?_; (with_reducible refine (mend_Mend.calls k2 (strOfNums x8_1) t240 _ _ x16_2 t260 t261 t264 t267 _ ?side1 ?side2 A83.out).mono ?_); (case side1 => repeat (first | exact (Kd.R_reads' HO_16.out).2.2 | (with_reducible refine Kd.C_alloc ?_ _) | (with_reducible refine Kd.C_drewN ?_ _) | (with_reducible refine Kd.C_drew ?_))); (case side2 => exact (Kd.R_reads' HO_16.out).2.1); rintro e w111 ⟨v262, v265, rfl, ho0, ho1, hb⟩; refine ⟨_, rfl, ?_⟩; have n0_ := Aside0.mk (Kd.R_below (by (with_reducible repeat (first | apply Kd.R_alloc | apply Kd.R_drewN | apply Kd.R_drew)); exact HO_8.out) hb); have n1_ := Aside0.mk (Kd.R_mono (Kd.R_told (Kd.R_told (Kd.R_old (by (with_reducible repeat (first | apply Kd.R_alloc | apply Kd.R_drewN | apply Kd.R_drew)); exact HO_9.out) hb) (Kd.R_base ho0)) (Kd.R_base ho1)) (fun _ h_ => h_.1)); have n2_ := Aside0.mk (Kd.R_mono (Kd.R_told (Kd.R_told (Kd.R_old (by (with_reducible repeat (first | apply Kd.R_alloc | apply Kd.R_drewN | apply Kd.R_drew)); exact HO_14.out) hb) (Kd.R_base ho0)) (Kd.R_base ho1)) (fun _ h_ => h_.1)); have n3_ := Aside0.mk (Kd.R_mono (Kd.R_told (Kd.R_told (Kd.R_old (by (with_reducible repeat (first | apply Kd.R_alloc | apply Kd.R_drewN | apply Kd.R_drew)); exact HO_15.out) hb) (Kd.R_base ho0)) (Kd.R_base ho1)) (fun _ h_ => h_.1)); have n4_ := Aside0.mk (Kd.R_mono (Kd.R_told (Kd.R_told (Kd.R_old (by (with_reducible repeat (first | apply Kd.R_alloc | apply Kd.R_drewN | apply Kd.R_drew)); exact HO_16.out) hb) (Kd.R_base ho0)) (Kd.R_base ho1)) (fun _ h_ => h_.1)); have n5_ := Aside0.mk (Kd.R_lower (Kd.R_new' (Kd.R_new' (Kd.R_new' (Kd.R_new' ho0 (Kd.R_lt (by (with_reducible repeat (first | apply Kd.R_alloc | apply Kd.R_drewN | apply Kd.R_drew)); exact HO_9.out))) (Kd.R_lt (by (with_reducible repeat (first | apply Kd.R_alloc | apply Kd.R_drewN | apply Kd.R_drew)); exact HO_14.out))) (Kd.R_lt (by (with_reducible repeat (first | apply Kd.R_alloc | apply Kd.R_drewN | apply Kd.R_drew)); exact HO_15.out))) (Kd.R_lt (by (with_reducible repeat (first | apply Kd.R_alloc | apply Kd.R_drewN | apply Kd.R_drew)); exact HO_16.out))) (below_size (by repeat (first | (with_reducible first | exact HB.out | apply below_alloc | apply pw_below_drewN | apply below_drew1) | exact HB.out)))); have n6_ := Aside0.mk (Kd.R_lower (Kd.R_new' (Kd.R_new' (Kd.R_new' (Kd.R_new' ho1 (Kd.R_lt (by (with_reducible repeat (first | apply Kd.R_alloc | apply Kd.R_drewN | apply Kd.R_drew)); exact HO_9.out))) (Kd.R_lt (by (with_reducible repeat (first | apply Kd.R_alloc | apply Kd.R_drewN | apply Kd.R_drew)); exact HO_14.out))) (Kd.R_lt (by (with_reducible repeat (first | apply Kd.R_alloc | apply Kd.R_drewN | apply Kd.R_drew)); exact HO_15.out))) (Kd.R_lt (by (with_reducible repeat (first | apply Kd.R_alloc | apply Kd.R_drewN | apply Kd.R_drew)); exact HO_16.out))) (below_size (by repeat (first | (with_reducible first | exact HB.out | apply below_alloc | apply pw_below_drewN | apply below_drew1) | exact HB.out)))); have n7_ := Aside0.mk (below_step (by repeat (first | (with_reducible first | exact HB.out | apply below_alloc | apply pw_below_drewN | apply below_drew1) | exact HB.out)) hb); clear HO_8; clear HO_9; clear HO_14; clear HO_15; clear HO_16; clear HB; have HO_8 := n0_; have HO_9 := n1_; have HO_14 := n2_; have HO_15 := n3_; have HO_16 := n4_; have HO263 := n5_; have HO266 := n6_; have HB := n7_; clear n0_ n1_ n2_ n3_ n4_ n5_ n6_ n7_; (try clear hb); (try clear hb2); (try clear hk); (try clear hi); (try clear ho0); (try clear ho1)) | ((with_reducible refine gate_dst (N := 18) rfl ?_); refine box_event ?hg (N := 18) ?hd (cs := #[.string (⟨#[]⟩ : ByteArray), .slice none 0 0, .slice none 0 0]) (t := 31) ?hr ?_; (case hd => rfl); (case hg => rfl); (case hr => first | (go_simp; done) | (go_simp; rfl)); intro gb268 hg w112 hbox hb; have n0_ := Aside0.mk (Kd.R_below (by (with_reducible repeat (first | apply Kd.R_alloc | apply Kd.R_drewN | apply Kd.R_drew)); exact HO_8.out) hb); have n1_ := Aside0.mk (Kd.R_below (by (with_reducible repeat (first | apply Kd.R_alloc | apply Kd.R_drewN | apply Kd.R_drew)); exact HO_9.out) hb); have n2_ := Aside0.mk (Kd.R_below (by (with_reducible repeat (first | apply Kd.R_alloc | apply Kd.R_drewN | apply Kd.R_drew)); exact HO_14.out) hb); have n3_ := Aside0.mk (Kd.R_below (by (with_reducible repeat (first | apply Kd.R_alloc | apply Kd.R_drewN | apply Kd.R_drew)); exact HO_15.out) hb); have n4_ := Aside0.mk (Kd.R_below (by (with_reducible repeat (first | apply Kd.R_alloc | apply Kd.R_drewN | apply Kd.R_drew)); exact HO_16.out) hb); have n5_ := Aside0.mk (Kd.R_below (by (with_reducible repeat (first | apply Kd.R_alloc | apply Kd.R_drewN | apply Kd.R_drew)); exact HO263.out) hb); have n6_ := Aside0.mk (Kd.R_below (by (with_reducible repeat (first | apply Kd.R_alloc | apply Kd.R_drewN | apply Kd.R_drew)); exact HO266.out) hb); have n7_ := Aside0.mk (below_step (by repeat (first | (with_reducible first | exact HB.out | apply below_alloc | apply pw_below_drewN | apply below_drew1) | exact HB.out)) hb); have n8_ := Aside0.mk (hbox); have n9_ := Aside0.mk ((by rw [hg]; exact (below_size (by repeat (first | (with_reducible first | exact HB.out | apply below_alloc | apply pw_below_drewN | apply below_drew1) | exact HB.out))) : w.heap.size ≤ gb268)); have n10_ := Aside0.mk ((by rw [hg]; exact (below_size (by repeat (first | (with_reducible first | exact HB.out | apply below_alloc | apply pw_below_drewN | apply below_drew1) | exact HB.out))) : w.heap.size ≤ gb268)); clear HO_8; clear HO_9; clear HO_14; clear HO_15; clear HO_16; clear HO263; clear HO266; clear HB; have HO_8 := n0_; have HO_9 := n1_; have HO_14 := n2_; have HO_15 := n3_; have HO_16 := n4_; have HO263 := n5_; have HO266 := n6_; have HB := n7_; have BK268 := n8_; have GW268 := n9_; have GE268 := n10_; clear n0_ n1_ n2_ n3_ n4_ n5_ n6_ n7_ n8_ n9_ n10_; clear hb hbox hg; have hcz113_0 : w112.cell? ⟨gb268, 0, none⟩ = some (.string (⟨#[]⟩ : ByteArray)) := (blk_cell BK268.out 0).trans rfl; have hcz113_1 : w112.cell? ⟨gb268, 1, none⟩ = some (.slice none 0 0) := (blk_cell BK268.out 1).trans rfl; have hcz113_2 : w112.cell? ⟨gb268, 2, none⟩ = some (.slice none 0 0) := (blk_cell BK268.out 2).trans rfl; have hfz113_0 := blk_frozen BK268.out 0; have hfz113_1 := blk_frozen BK268.out 1; have hfz113_2 := blk_frozen BK268.out 2; obtain ⟨Ao114, co114, eo114⟩ := Kd.R_slice HO263.out; subst eo114; obtain ⟨Ao115, co115, eo115⟩ := Kd.R_slice HO266.out; subst eo115))
                          go_ret
                          exact ⟨by first | rfl | (simp [errW_none, errW_some] <;> rfl) | (simp [*, errW_none, errW_some] <;> rfl), by repeat (first | (with_reducible first | exact HB.out | apply below_alloc | apply pw_below_drewN | apply below_drew1 | refine below_set ?_ GE268.out) | exact HB.out)⟩
                      · rw [if_neg c84] at H
                        have c84b0 : (t267 == 0) = false := beq_eq_false_iff_ne.mpr c84
                        have c84b1 : (t267 != 0) = true := bne_iff_ne.mpr c84
                        obtain rfl := Option.some.inj H
                        obtain ⟨Ao116, co116, eo116⟩ := Kd.R_slice HO_9.out
                        subst eo116
                        have hcv117 := own_string (P := Try.prog) Try.underlying26 Try.underlying5 Try.underlying9 (Kd.own_of_R HO_8.out)
                        obtain ⟨Ao118, co118, eo118⟩ := Kd.R_slice HO_16.out
                        subst eo118
                        go_wp2_with (first | ((with_reducible refine gate_callee (f := 11) rfl ?_); refine goesL_ (some 137) rfl rfl Try.func11 (by kernel_rfl) rfl #[.string (strOfNums x8_1), .int .i64 t240, .slice Ao118 x16_2.length co118] rfl (by (try simp only [List.map_toArray, List.map_cons, List.map_nil]); first | done | rfl | (simp only [List.length_drop, List.length_take]; rfl)) ?_; (with_reducible refine (mend_Mend.calls k2 (strOfNums x8_1) t240 _ _ x16_2 t260 t261 t264 t267 _ ?side1 ?side2 A83.out).mono ?_); (case side1 => repeat (first | exact (Kd.R_reads' HO_16.out).2.2 | (with_reducible refine Kd.C_alloc ?_ _) | (with_reducible refine Kd.C_drewN ?_ _) | (with_reducible refine Kd.C_drew ?_))); (case side2 => exact (Kd.R_reads' HO_16.out).2.1); rintro e w119 ⟨v262, v265, rfl, ho0, ho1, hb⟩; refine ⟨_, rfl, ?_⟩; have n0_ := Aside0.mk (Kd.R_below (by (with_reducible repeat (first | apply Kd.R_alloc | apply Kd.R_drewN | apply Kd.R_drew)); exact HO_8.out) hb); have n1_ := Aside0.mk (Kd.R_mono (Kd.R_told (Kd.R_told (Kd.R_old (by (with_reducible repeat (first | apply Kd.R_alloc | apply Kd.R_drewN | apply Kd.R_drew)); exact HO_9.out) hb) (Kd.R_base ho0)) (Kd.R_base ho1)) (fun _ h_ => h_.1)); have n2_ := Aside0.mk (Kd.R_mono (Kd.R_told (Kd.R_told (Kd.R_old (by (with_reducible repeat (first | apply Kd.R_alloc | apply Kd.R_drewN | apply Kd.R_drew)); exact HO_14.out) hb) (Kd.R_base ho0)) (Kd.R_base ho1)) (fun _ h_ => h_.1)); have n3_ := Aside0.mk (Kd.R_mono (Kd.R_told (Kd.R_told (Kd.R_old (by (with_reducible repeat (first | apply Kd.R_alloc | apply Kd.R_drewN | apply Kd.R_drew)); exact HO_15.out) hb) (Kd.R_base ho0)) (Kd.R_base ho1)) (fun _ h_ => h_.1)); have n4_ := Aside0.mk (Kd.R_mono (Kd.R_told (Kd.R_told (Kd.R_old (by (with_reducible repeat (first | apply Kd.R_alloc | apply Kd.R_drewN | apply Kd.R_drew)); exact HO_16.out) hb) (Kd.R_base ho0)) (Kd.R_base ho1)) (fun _ h_ => h_.1)); have n5_ := Aside0.mk (Kd.R_lower (Kd.R_new' (Kd.R_new' (Kd.R_new' (Kd.R_new' ho0 (Kd.R_lt (by (with_reducible repeat (first | apply Kd.R_alloc | apply Kd.R_drewN | apply Kd.R_drew)); exact HO_9.out))) (Kd.R_lt (by (with_reducible repeat (first | apply Kd.R_alloc | apply Kd.R_drewN | apply Kd.R_drew)); exact HO_14.out))) (Kd.R_lt (by (with_reducible repeat (first | apply Kd.R_alloc | apply Kd.R_drewN | apply Kd.R_drew)); exact HO_15.out))) (Kd.R_lt (by (with_reducible repeat (first | apply Kd.R_alloc | apply Kd.R_drewN | apply Kd.R_drew)); exact HO_16.out))) (below_size (by repeat (first | (with_reducible first | exact HB.out | apply below_alloc | apply pw_below_drewN | apply below_drew1) | exact HB.out)))); have n6_ := Aside0.mk (Kd.R_lower (Kd.R_new' (Kd.R_new' (Kd.R_new' (Kd.R_new' ho1 (Kd.R_lt (by (with_reducible repeat (first | apply Kd.R_alloc | apply Kd.R_drewN | apply Kd.R_drew)); exact HO_9.out))) (Kd.R_lt (by (with_reducible repeat (first | apply Kd.R_alloc | apply Kd.R_drewN | apply Kd.R_drew)); exact HO_14.out))) (Kd.R_lt (by (with_reducible repeat (first | apply Kd.R_alloc | apply Kd.R_drewN | apply Kd.R_drew)); exact HO_15.out))) (Kd.R_lt (by (with_reducible repeat (first | apply Kd.R_alloc | apply Kd.R_drewN | apply Kd.R_drew)); exact HO_16.out))) (below_size (by repeat (first | (with_reducible first | exact HB.out | apply below_alloc | apply pw_below_drewN | apply below_drew1) | exact HB.out)))); have n7_ := Aside0.mk (below_step (by repeat (first | (with_reducible first | exact HB.out | apply below_alloc | apply pw_below_drewN | apply below_drew1) | exact HB.out)) hb); clear HO_8; clear HO_9; clear HO_14; clear HO_15; clear HO_16; clear HB; have HO_8 := n0_; have HO_9 := n1_; have HO_14 := n2_; have HO_15 := n3_; have HO_16 := n4_; have HO263 := n5_; have HO266 := n6_; have HB := n7_; clear n0_ n1_ n2_ n3_ n4_ n5_ n6_ n7_; (try clear hb); (try clear hb2); (try clear hk); (try clear hi); (try clear ho0); (try clear ho1)) | ((with_reducible refine gate_dst (N := 18) rfl ?_); refine box_event ?hg (N := 18) ?hd (cs := #[.string (⟨#[]⟩ : ByteArray), .slice none 0 0, .slice none 0 0]) (t := 31) ?hr ?_; (case hd => rfl); (case hg => rfl); (case hr => first | (go_simp; done) | (go_simp; rfl)); intro gb268 hg w120 hbox hb; have n0_ := Aside0.mk (Kd.R_below (by (with_reducible repeat (first | apply Kd.R_alloc | apply Kd.R_drewN | apply Kd.R_drew)); exact HO_8.out) hb); have n1_ := Aside0.mk (Kd.R_below (by (with_reducible repeat (first | apply Kd.R_alloc | apply Kd.R_drewN | apply Kd.R_drew)); exact HO_9.out) hb); have n2_ := Aside0.mk (Kd.R_below (by (with_reducible repeat (first | apply Kd.R_alloc | apply Kd.R_drewN | apply Kd.R_drew)); exact HO_14.out) hb); have n3_ := Aside0.mk (Kd.R_below (by (with_reducible repeat (first | apply Kd.R_alloc | apply Kd.R_drewN | apply Kd.R_drew)); exact HO_15.out) hb); have n4_ := Aside0.mk (Kd.R_below (by (with_reducible repeat (first | apply Kd.R_alloc | apply Kd.R_drewN | apply Kd.R_drew)); exact HO_16.out) hb); have n5_ := Aside0.mk (Kd.R_below (by (with_reducible repeat (first | apply Kd.R_alloc | apply Kd.R_drewN | apply Kd.R_drew)); exact HO263.out) hb); have n6_ := Aside0.mk (Kd.R_below (by (with_reducible repeat (first | apply Kd.R_alloc | apply Kd.R_drewN | apply Kd.R_drew)); exact HO266.out) hb); have n7_ := Aside0.mk (below_step (by repeat (first | (with_reducible first | exact HB.out | apply below_alloc | apply pw_below_drewN | apply below_drew1) | exact HB.out)) hb); have n8_ := Aside0.mk (hbox); have n9_ := Aside0.mk ((by rw [hg]; exact (below_size (by repeat (first | (with_reducible first | exact HB.out | apply below_alloc | apply pw_below_drewN | apply below_drew1) | exact HB.out))) : w.heap.size ≤ gb268)); have n10_ := Aside0.mk ((by rw [hg]; exact (below_size (by repeat (first | (with_reducible first | exact HB.out | apply below_alloc | apply pw_below_drewN | apply below_drew1) | exact HB.out))) : w.heap.size ≤ gb268)); clear HO_8; clear HO_9; clear HO_14; clear HO_15; clear HO_16; clear HO263; clear HO266; clear HB; have HO_8 := n0_; have HO_9 := n1_; have HO_14 := n2_; have HO_15 := n3_; have HO_16 := n4_; have HO263 := n5_; have HO266 := n6_; have HB := n7_; have BK268 := n8_; have GW268 := n9_; have GE268 := n10_; clear n0_ n1_ n2_ n3_ n4_ n5_ n6_ n7_ n8_ n9_ n10_; clear hb hbox hg; have hcz121_0 : w120.cell? ⟨gb268, 0, none⟩ = some (.string (⟨#[]⟩ : ByteArray)) := (blk_cell BK268.out 0).trans rfl; have hcz121_1 : w120.cell? ⟨gb268, 1, none⟩ = some (.slice none 0 0) := (blk_cell BK268.out 1).trans rfl; have hcz121_2 : w120.cell? ⟨gb268, 2, none⟩ = some (.slice none 0 0) := (blk_cell BK268.out 2).trans rfl; have hfz121_0 := blk_frozen BK268.out 0; have hfz121_1 := blk_frozen BK268.out 1; have hfz121_2 := blk_frozen BK268.out 2; obtain ⟨Ao122, co122, eo122⟩ := Kd.R_slice HO263.out; subst eo122; obtain ⟨Ao123, co123, eo123⟩ := Kd.R_slice HO266.out; subst eo123))
                        go_ret
                        exact ⟨by first | rfl | (simp [errW_none, errW_some] <;> rfl) | (simp [*, errW_none, errW_some] <;> rfl), by repeat (first | (with_reducible first | exact HB.out | apply below_alloc | apply pw_below_drewN | apply below_drew1 | refine below_set ?_ GE268.out) | exact HB.out)⟩
        · rw [if_neg c9] at H
          exact absurd H (by simp)
      · rw [if_neg c8] at H
        exact absurd H (by simp)
    · rw [if_neg c7] at H
      exact absurd H (by simp)
  · replace c5 := Bool.eq_false_iff.mpr c5
    subst c5
    have H1 : (some false) = some r := by rw [if_neg (show ¬ (false = true) by decide)] at H; exact H
    clear H
    have H := H1
    clear H1
    obtain rfl := Option.some.inj H
    go_enter Try.func3, Try.ntmps3
    go_wp2_with (first | ((with_reducible refine gate_callee (f := 9) rfl ?_); refine goesL_ (some 20) rfl rfl Try.func9 (by kernel_rfl) rfl #[] rfl (by (try simp only [List.map_toArray, List.map_cons, List.map_nil]); first | done | rfl | (simp only [List.length_drop, List.length_take]; rfl)) ?_; (with_reducible refine (foghornlaw20_awake.calls k  false _ A4.out).mono ?_); rintro e w124 ⟨rfl, hb⟩; refine ⟨_, rfl, ?_⟩; have n0_ := Aside0.mk (below_step (by repeat (first | (with_reducible first | exact HB.out | apply below_alloc | apply pw_below_drewN | apply below_drew1) | exact HB.out)) hb); clear HB; have HB := n0_; clear n0_; (try clear hb); (try clear hb2); (try clear hk); (try clear hi)))
    go_ret
    exact ⟨by first | rfl | (simp [errW_none, errW_some] <;> rfl) | (simp [*, errW_none, errW_some] <;> rfl), by repeat (first | (with_reducible first | exact HB.out | apply below_alloc | apply pw_below_drewN | apply below_drew1) | exact HB.out)⟩

end Go.Proofs.Ytdgeapgfpikcmaa.Q
