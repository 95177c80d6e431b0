/-
  A polynomial at a number, read out of an array by a pointer.
-/
import Derived.Test.YtdgeapgfpikcmaaH1
namespace Go.Proofs.Ytdgeapgfpikcmaa.Hand
open Go.RowKit Gf Go.Proofs.Ytdgeapgfpikcmaa.Q Go.Proofs.YtdgeapgfpikcmaaV.PrintWords Go.Proofs.YtdgeapgfpikcmaaV.PrintLast Go.Proofs.YtdgeapgfpikcmaaV.PrintMore

theorem drawn0_quiet {w w' : World} {n : Nat} (h : Drawn0 (w.drewN n) w') : ∃ m, w' = w.drewN m := by
  obtain ⟨m, hm⟩ := h
  exact ⟨n + m, by rw [hm, World.drewN_drewN]⟩
theorem times_quiet (a b : G) (w : World) (n : Nat) : Calls Try.prog 51 #[.int .u8 (gi a), .int .u8 (gi b)] (w.drewN n) fun e w'' => e = .returned (.int .u8 (gi (a * b))) ∧ ∃ m, w'' = w.drewN m :=
  (times_call a b (w.drewN n)).mono fun _ _ ⟨he, h⟩ => ⟨he, drawn0_quiet h⟩

set_option maxHeartbeats 1000000 in
theorem poly_at (P : Nat → G) (x : G) (g : Nat) (d : Int) (w : World) (h0 : -1 ≤ d) (h1 : d < 66) (hc : ∀ j, j < 66 → w.cell? ⟨g, j, none⟩ = some (.int .u8 (gi (P j)))) :
    Calls Try.prog 54 #[.pointer (some ⟨g, 0, none⟩), .int .u8 (gi x), .int .i64 d] w fun e w' => e = .returned (.int .u8 (gi (evf P (d + 1).toNat x))) ∧ Drawn0 w w' := by
  have Hc := Aside0.mk hc
  clear hc
  obtain ⟨r, hr⟩ : ∃ r, r = evf P (d + 1).toNat x := ⟨_, rfl⟩
  rw [← hr]
  have Hr := Aside0.mk hr
  clear hr
  go_enter Try.func54, Try.ntmps54
  go_wp2
  go_loopg [7, 8] 70 (fun kq v7 v8 w' => ∃ (s : G) (m : Nat), v7 = .int .u8 (gi s) ∧ v8 = .int .i64 ((m : Int) - 1) ∧ Aside0 (s * pw x m + evf P m x = r) ∧ m ≤ 66 ∧ Aside0 (m < kq) ∧ Aside0 (Drawn0 w w'))
  case atStart =>
    refine ⟨g0, (d + 1).toNat, rfl, ?_, ⟨?_⟩, by omega, ⟨by omega⟩, ⟨Drawn0.refl _⟩⟩
    · rw [show (((d + 1).toNat : Nat) : Int) - 1 = d from by omega]
    · rw [zero_mul, zero_add, Hr.out]
  case round =>
    obtain ⟨s, m, rfl, rfl, HA, hm, HK, HD⟩ := hrel
    cases m with
    | zero =>
      rw [show (((0 : Nat) : Int) - 1) = -1 from rfl]
      go_wp2
      go_ret
      refine ⟨?_, HD.out⟩
      have := HA.out
      have e : s * pw x 0 + evf P 0 x = s := by show s * g1 + g0 = s; rw [mul_one, add_zero]
      rw [e] at this
      rw [this]
      rfl
    | succ m =>
      have hcell : wr.cell? ⟨g, m, none⟩ = some (.int .u8 (gi (P m))) := by
        obtain ⟨nd, hd⟩ := HD.out
        rw [hd]
        exact Hc.out m (by omega)
      have e1 : ((m + 1 : Nat) : Int) - 1 = (m : Int) := by omega
      rw [e1]
      have hlo : (0 : Int) ≤ m := by omega
      have hhi : (m : Int) < 66 := by omega
      go_wp2
      go_quiet ((go_at_call 51; exact times_quiet s x _ _))
      go_wp2
      go_roundg (m + 1)
      case measure => have := HK.out; omega
      case rel =>
        refine ⟨s * x + P m, m, ?_, rfl, ⟨?_⟩, by omega, ⟨by omega⟩, ⟨?_⟩⟩
        · rw [bits_xor]
        · have := HA.out
          rw [← this]
          show (s * x + P m) * pw x m + evf P m x = s * (pw x m * x) + (evf P m x + P m * pw x m)
          rw [add_mul]; ac_rfl
        · obtain ⟨nd, hd⟩ := HD.out
          exact ⟨nd + nq, by rw [hd, World.drewN_drewN]⟩
end Go.Proofs.Ytdgeapgfpikcmaa.Hand
