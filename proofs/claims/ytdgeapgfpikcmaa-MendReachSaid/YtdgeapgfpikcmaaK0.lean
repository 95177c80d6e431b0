/-
  The search for the polynomial of all places: the walk.
-/
import Derived.Test.YtdgeapgfpikcmaaH3
import Derived.Test.YtdgeapgfpikcmaaArr
import Derived.StillTailTactics
namespace Go.Proofs.Ytdgeapgfpikcmaa.Hand
open Go.RowKit Gf Go.Proofs.Ytdgeapgfpikcmaa.Q Go.Proofs.YtdgeapgfpikcmaaV.PrintWords Go.Proofs.YtdgeapgfpikcmaaV.PrintLast Go.Proofs.YtdgeapgfpikcmaaV.PrintMore

/-- a field number, as a value -/
abbrev gv (a : G) : Value := .int .u8 (gi a)
theorem gv_one (a : G) : (gv a).oneCell' = true := rfl
/-- block g holds this polynomial -/
abbrev Pol (w : World) (g : Nat) (P : Nat → G) : Prop := Arr gv 66 90 w g P
theorem zeros_pol : Try.zeroCells90 = arrC gv 66 (fun _ => g0) := by rfl

/-- what the search holds in memory -/
structure KeyMem (w0 w : World) (g4 g6 g7 : Nat) (A B : Nat → G) : Prop where
  below : Below w0.heap.size w0 w
  h4 : ∃ Z, Pol w g4 Z
  h6 : Pol w g6 A
  h7 : Pol w g7 B
  n4 : w0.heap.size ≤ g4
  n6 : w0.heap.size ≤ g6
  n7 : w0.heap.size ≤ g7
  n46 : g4 ≠ g6
  n47 : g4 ≠ g7
  n67 : g6 ≠ g7

theorem KeyMem.drewN {w0 w : World} {g4 g6 g7 : Nat} {A B : Nat → G} (h : KeyMem w0 w g4 g6 g7 A B) (m : Nat) : KeyMem w0 (w.drewN m) g4 g6 g7 A B :=
  ⟨pw_below_drewN h.below m, h.h4, h.h6, h.h7, h.n4, h.n6, h.n7, h.n46, h.n47, h.n67⟩
theorem kstep_zero {S : Nat → G} {f n : Nat} {s : St} (h : conv s.A S n = g0) : kstep S f n s = ⟨s.A, s.B, s.l, s.gap + 1, s.b⟩ := if_pos h
theorem kstep_long {S : Nat → G} {f n : Nat} {s : St} (h : conv s.A S n ≠ g0) (h2 : 2 * s.l ≤ n + f) : kstep S f n s = ⟨upd s.A s.B (conv s.A S n * Gf.inv s.b) s.gap, s.A, n + 1 + f - s.l, 1, conv s.A S n⟩ := by
  unfold kstep; rw [if_neg h, if_pos h2]
theorem kstep_short {S : Nat → G} {f n : Nat} {s : St} (h : conv s.A S n ≠ g0) (h2 : ¬ 2 * s.l ≤ n + f) : kstep S f n s = ⟨upd s.A s.B (conv s.A S n * Gf.inv s.b) s.gap, s.B, s.l, s.gap + 1, s.b⟩ := by
  unfold kstep; rw [if_neg h, if_neg h2]
/-- the polynomial while it is being turned: the first k terms of the other one are in -/
def updk (A B : Nat → G) (c : G) (gap k j : Nat) : G := if gap ≤ j ∧ j < gap + k then A j + c * B (j - gap) else A j
theorem updk_zero (A B : Nat → G) (c : G) (gap j : Nat) : A j = updk A B c gap 0 j := by
  unfold updk; rw [if_neg (by omega)]
theorem updk_succ (A B : Nat → G) (c : G) (gap k j : Nat) : (if j = k + gap then updk A B c gap k (k + gap) + c * B k else updk A B c gap k j) = updk A B c gap (k + 1) j := by
  unfold updk
  by_cases h : j = k + gap
  · rw [if_pos h, if_neg (by omega), if_pos (by omega), show j - gap = k from by omega, h]
  · rw [if_neg h]
    by_cases h2 : gap ≤ j ∧ j < gap + k
    · rw [if_pos h2, if_pos (by omega)]
    · rw [if_neg h2, if_neg (by omega)]
theorem updk_all (A B : Nat → G) (c : G) (gap k : Nat) (hk : 66 ≤ k + gap) (j : Nat) (hj : j < 66) : updk A B c gap k j = upd A B c gap j := by
  unfold updk upd
  by_cases h : gap ≤ j
  · rw [if_pos (by omega), if_pos h]
  · rw [if_neg (by omega), if_neg h]
theorem KeyMem.other {w0 w w1 : World} {g4 g6 g7 : Nat} {A B : Nat → G} (h : KeyMem w0 w g4 g6 g7 A B) {g : Nat} (hg : w.grownBy w1 (some g)) (hb : w0.heap.size ≤ g) (h4 : g4 ≠ g) (h6 : g6 ≠ g) (h7 : g7 ≠ g) : KeyMem w0 w1 g4 g6 g7 A B := by
  obtain ⟨Z, hZ⟩ := h.h4
  exact ⟨h.below.grown hg h.below.size (fun k hk => by simp at hk; omega), ⟨Z, Arr.grown hZ hg (by simpa using h4)⟩, Arr.grown h.h6 hg (by simpa using h6), Arr.grown h.h7 hg (by simpa using h7), h.n4, h.n6, h.n7, h.n46, h.n47, h.n67⟩
theorem KeyMem.more {w0 w w1 : World} {g4 g6 g7 : Nat} {A B : Nat → G} (h : KeyMem w0 w g4 g6 g7 A B) (hb : Below w.heap.size w w1) : KeyMem w0 w1 g4 g6 g7 A B := by
  obtain ⟨Z, hZ⟩ := h.h4
  exact ⟨below_step h.below hb, ⟨Z, Arr.below hZ hb⟩, Arr.below h.h6 hb, Arr.below h.h7 hb, h.n4, h.n6, h.n7, h.n46, h.n47, h.n67⟩
theorem KeyMem.set6 {w0 w w1 : World} {g4 g6 g7 : Nat} {A B A' : Nat → G} (h : KeyMem w0 w g4 g6 g7 A B) (hg : w.grownBy w1 (some g6)) (h6 : Pol w1 g6 A') : KeyMem w0 w1 g4 g6 g7 A' B := by
  obtain ⟨Z, hZ⟩ := h.h4
  exact ⟨h.below.grown hg h.below.size (fun k hk => by simp at hk; have := h.n6; omega), ⟨Z, Arr.grown hZ hg (by simpa using h.n46)⟩, h6, Arr.grown h.h7 hg (by have := h.n67; simp; omega), h.n4, h.n6, h.n7, h.n46, h.n47, h.n67⟩
theorem KeyMem.set7 {w0 w w1 : World} {g4 g6 g7 : Nat} {A B B' : Nat → G} (h : KeyMem w0 w g4 g6 g7 A B) (hg : w.grownBy w1 (some g7)) (h7 : Pol w1 g7 B') : KeyMem w0 w1 g4 g6 g7 A B' := by
  obtain ⟨Z, hZ⟩ := h.h4
  exact ⟨h.below.grown hg h.below.size (fun k hk => by simp at hk; have := h.n7; omega), ⟨Z, Arr.grown hZ hg (by simpa using h.n47)⟩, Arr.grown h.h6 hg (by simpa using h.n67), h7, h.n4, h.n6, h.n7, h.n46, h.n47, h.n67⟩
theorem info5s : (Try.prog.info? 5).map (·.size) = some 1 := by kernel_rfl
theorem info90s : (Try.prog.info? 90).map (·.size) = some 66 := by kernel_rfl
/-- the three arrays are there: the first of what was lost, copied -/
theorem key_start {w w4 w6 w7 w8 w9 : World} {g4 g6 g7 : Nat} {Γ : Nat → G} {f : Nat} (hd : ∀ k, f < k → Γ k = g0)
    (e4 : g4 = w.heap.size) (p4 : Pol w4 g4 (fun _ => g0)) (b4 : Below w.heap.size w w4) (e6 : g6 = w4.heap.size) (l4 : g4 < w4.heap.size) (b6 : Below w4.heap.size w4 w6)
    (e7 : g7 = w6.heap.size) (l6 : g6 < w6.heap.size) (b7 : Below w6.heap.size w6 w7)
    (p8 : Pol w8 g6 (fun j => if j < f + 1 then Γ j else g0)) (g8 : w7.grownBy w8 (some g6)) (p9 : Pol w9 g7 (fun j => if j < f + 1 then Γ j else g0)) (g9 : w8.grownBy w9 (some g7)) :
    KeyMem w w9 g4 g6 g7 Γ Γ := by
  have hz : ∀ j, j < 66 → (if j < f + 1 then Γ j else g0) = Γ j := by
    intro j _
    by_cases h : j < f + 1
    · rw [if_pos h]
    · rw [if_neg h, hd j (by omega)]
  have z4 := b4.size
  have z6 := b6.size
  have z7 := b7.size
  have q4 : Pol w9 g4 (fun _ => g0) := Arr.grown (Arr.grown (Arr.below (Arr.below p4 b6) b7) g8 (by simp; omega)) g9 (by simp; omega)
  have q6 : Pol w9 g6 _ := Arr.grown p8 g9 (by simp; omega)
  refine ⟨?_, ⟨_, q4⟩, Arr.congr q6 hz, Arr.congr p9 hz, by omega, by omega, by omega, by omega, by omega, by omega⟩
  have h1 : Below w.heap.size w w7 := below_step (below_step b4 b6) b7
  exact (h1.grown g8 (by omega) (fun k hk => by simp at hk; omega)).grown g9 (by have := g8.size; omega) (fun k hk => by simp at hk; omega)

set_option maxHeartbeats 4000000 in
set_option maxRecDepth 100000 in
theorem key_walk (S Γ : Nat → G) (r f gs cs gl cl : Nat) (w : World) (hr : r ≤ 64) (hf : f ≤ r)
    (hs : ∀ j, j < r → w.cell? ⟨gs, j, none⟩ = some (.int .u8 (gi (S j)))) (hl : ∀ j, j < f + 1 → w.cell? ⟨gl, j, none⟩ = some (.int .u8 (gi (Γ j)))) (hgs : gs < w.heap.size) (hgl : gl < w.heap.size) (hd : ∀ k, f < k → Γ k = g0) (h0 : Γ 0 = g1) :
    Calls Try.prog 50 #[.slice (some ⟨gs, 0, none⟩) r cs, .slice (some ⟨gl, 0, none⟩) (f + 1) cl] w fun e w' => e = .returned (.tuple #[.agg (arrC gv 66 (krun S f Γ (r - f)).A), .int .i64 ((krun S f Γ (r - f)).l : Int)]) ∧ Below w.heap.size w w' := by
  have Hs := Aside0.mk hs
  have Hl := Aside0.mk hl
  have Hgs := Aside0.mk hgs
  have Hgl := Aside0.mk hgl
  have Hd := Aside0.mk hd
  have H0 := Aside0.mk h0
  clear hs hl hgs hgl hd h0
  go_enter Try.func50, Try.ntmps50
  go_wp2_with (first
    | ((with_reducible refine gate_dst (N := 4) rfl ?_); refine arr_alloc (enc := gv) (n := 66) (T := 90) rfl Try.zeroCells90 (by first | (go_simp; done) | (go_simp; rfl)) zeros_pol ?_; intro g4 e4 w4 p4 b4 l4; have E4 := Aside0.mk e4; have P4 := Aside0.mk p4; have B4 := Aside0.mk b4; have L4 := Aside0.mk l4; clear e4 p4 b4 l4)
    | ((with_reducible refine gate_dst (N := 6) rfl ?_); refine arr_alloc (enc := gv) (n := 66) (T := 90) rfl Try.zeroCells90 (by first | (go_simp; done) | (go_simp; rfl)) zeros_pol ?_; intro g6 e6 w6 p6 b6 l6; have E6 := Aside0.mk e6; have P6 := Aside0.mk p6; have B6 := Aside0.mk b6; have L6 := Aside0.mk l6; clear e6 p6 b6 l6)
    | ((with_reducible refine gate_dst (N := 7) rfl ?_); refine arr_alloc (enc := gv) (n := 66) (T := 90) rfl Try.zeroCells90 (by first | (go_simp; done) | (go_simp; rfl)) zeros_pol ?_; intro g7 e7 w7 p7 b7 l7; have E7 := Aside0.mk e7; have P7 := Aside0.mk p7; have B7 := Aside0.mk b7; clear e7 p7 b7 l7)
    | ((with_reducible refine gate_dst (N := 24) rfl ?_); refine arr_copy (enc := gv) (n := 66) (g := g6) (T := 90) rfl (.tmp 22) (.tmp 23) 26 26 rfl rfl ⟨gl, 0, none⟩ (f + 1) cl rfl Try.underlying26 info5s (by omega) Γ (fun j hj => by rw [add_off0]; exact ((((B4.out.cell (p := ⟨gl, j, none⟩) Hgl.out).symm ▸ Hl.out j hj : _) : w4.cell? ⟨gl, j, none⟩ = _) |> fun q => (B7.out.cell (p := ⟨gl, j, none⟩) (by have := Hgl.out; have := B4.out.size; have := B6.out.size; show gl < w6.heap.size; omega)).trans ((B6.out.cell (p := ⟨gl, j, none⟩) (by have := Hgl.out; have := B4.out.size; show gl < w4.heap.size; omega)).trans q))) gv_one (Arr.below P6.out B7.out) ?_; intro w8 p8 g8 _; have P8 := Aside0.mk p8; have G8 := Aside0.mk g8; clear p8 g8)
    | ((with_reducible refine gate_dst (N := 25) rfl ?_); refine arr_load (enc := gv) (n := 66) (g := g6) (T := 90) rfl (.tmp 6) rfl rfl Try.underlying90 info90s P8.out ?_)
    | ((with_reducible refine gate_store (t := 90) (p := 7) (v := .tmp 25) rfl ?_); refine arr_store (enc := gv) (n := 66) (g := g7) (T := 90) rfl (.tmp 7) (.tmp 25) rfl rfl rfl info90s gv_one (Arr.grown P7.out G8.out (by have := E7.out; have := L6.out; simp; omega)) ?_; intro w9 p9 g9 _; have P9 := Aside0.mk p9; have G9 := Aside0.mk g9; clear p9 g9))
  have HM := Aside0.mk (key_start Hd.out E4.out P4.out B4.out E6.out L4.out B6.out E7.out L6.out B7.out P8.out G8.out P9.out G9.out)
  clear E4 P4 B4 E6 L4 P6 B6 E7 L6 P7 B7 P8 G8 P9 G9
  have hf64 : f ≤ 64 := by omega
  go_loopg [9, 10, 11, 12] 70 (fun kq v9 v10 v11 v12 w' => ∃ (m n : Nat), n ≤ r ∧ v9 = .int .i64 ((krun S f Γ m).l : Int) ∧ v10 = .int .u8 (gi (krun S f Γ m).b) ∧ v11 = .int .i64 ((krun S f Γ m).gap : Int) ∧ v12 = .int .i64 (n : Int) ∧ Aside0 (n = f + m) ∧ Aside0 (KeyMem w w' g4 g6 g7 (krun S f Γ m).A (krun S f Γ m).B) ∧ Aside0 (r - n < kq))
  case atStart => exact ⟨0, f, hf, rfl, rfl, rfl, rfl, ⟨rfl⟩, HM, ⟨by omega⟩⟩
  case round =>
    clear HM
    obtain ⟨m, n, hn, rfl, rfl, rfl, rfl, HN, HM, HQ⟩ := hrel
    have HI := Aside0.mk (krun_inv S f Γ H0.out Hd.out m)
    have Hst : Aside0 (krun S f Γ (m + 1) = kstep S f n (krun S f Γ m)) := ⟨by rw [HN.out]; rfl⟩
    by_cases hlt : n < r
    · go_wp2
      obtain ⟨wo, rfl⟩ : ∃ wo : World, wo = wr := ⟨_, rfl⟩
      obtain ⟨q1, rfl⟩ : ∃ q1 : Nat, q1 = gk := ⟨_, rfl⟩
      have hl64 : (krun S f Γ m).l ≤ n := by have := HI.out.ln; have := HN.out; omega
      have hgap : (krun S f Γ m).gap ≤ n + 1 := by have := HI.out.gn; have := HN.out; omega
      have hgap1 : 1 ≤ (krun S f Γ m).gap := HI.out.gp
      have HD0 := Aside0.mk (Drawn0.refl wo)
      go_loopg [13, 14] 70 (fun kq v13 v14 w' => ∃ (j : Nat), j ≤ (krun S f Γ m).l + 1 ∧ v13 = .int .u8 (gi (sm j (fun k => (krun S f Γ m).A k * S (n - k)))) ∧ v14 = .int .i64 (j : Int) ∧ Aside0 (Drawn0 wo w') ∧ Aside0 ((krun S f Γ m).l + 1 - j < kq))
      case atStart => exact ⟨0, by omega, rfl, rfl, HD0, ⟨by omega⟩⟩
      case round =>
        clear HD0
        obtain ⟨j, hj, rfl, rfl, HD, HJ⟩ := hrel
        have HMr : Aside0 (KeyMem w wr g4 g6 g7 (krun S f Γ m).A (krun S f Γ m).B) := ⟨by obtain ⟨nd, hd⟩ := HD.out; rw [hd]; exact HM.out.drewN nd⟩
        by_cases hjl : j ≤ (krun S f Γ m).l
        · have hjn : j ≤ n := by omega
          have hc1 : wr.cell? ⟨g6, j, none⟩ = some (.int .u8 (gi ((krun S f Γ m).A j))) := Arr.cell HMr.out.h6 j (by omega)
          have hc2 : wr.cell? ⟨gs, n - j, none⟩ = some (.int .u8 (gi (S (n - j)))) := by rw [HMr.out.below.cell (p := ⟨gs, n - j, none⟩) Hgs.out]; exact Hs.out _ (by omega)
          have hj66 : j < 66 := by omega
          have hnj : n - j < r := by omega
          go_wp2
          go_quiet ((go_at_call 51; exact times_quiet ((krun S f Γ m).A j) (S (n - j)) _ _))
          go_wp2
          go_roundg (gk - 1)
          case measure => have := HJ.out; omega
          case rel =>
            refine ⟨j + 1, by omega, ?_, by go_num, ⟨?_⟩, ⟨by have := HJ.out; omega⟩⟩
            · rw [bits_xor]; rfl
            · obtain ⟨nd, hd⟩ := HD.out
              exact ⟨nd + nq, by rw [hd, World.drewN_drewN]⟩
        · have hje : j = (krun S f Γ m).l + 1 := by omega
          have hdis : sm j (fun k => (krun S f Γ m).A k * S (n - k)) = conv (krun S f Γ m).A S n := by
            unfold conv
            rw [hje]
            exact (sm_more _ (by omega) (fun i h1 _ => by rw [HI.out.ad i (by omega), zero_mul])).symm
          rw [hdis]
          clear hdis
          subst hje
          by_cases hz : conv (krun S f Γ m).A S n = g0
          · have hz1 : (gi (conv (krun S f Γ m).A S n) == 0) = true := by rw [hz]; rfl
            go_wp2
            go_roundg (q1 - 1)
            case measure => have := HQ.out; omega
            case rel =>
              refine ⟨m + 1, n + 1, by omega, ?_, ?_, ?_, by go_num, ⟨by have := HN.out; omega⟩, ⟨?_⟩, ⟨by have := HQ.out; omega⟩⟩
              · rw [Hst.out, kstep_zero hz]
              · rw [Hst.out, kstep_zero hz]
              · rw [Hst.out, kstep_zero hz]; go_num
              · rw [Hst.out, kstep_zero hz]; exact HMr.out
          · have hz1 : (gi (conv (krun S f Γ m).A S n) == 0) = false := by
              rw [beq_eq_false_iff_ne]; intro h; exact hz (gi_inj h)
            have HZ := Aside0.mk hz
            clear hz
            go_wp2_with (first
              | (go_at_call 53; refine (over_call (conv (krun S f Γ m).A S n) (krun S f Γ m).b _ HI.out.bn).mono ?_; rintro e w' ⟨rfl, ⟨nd, rfl⟩⟩)
              | ((with_reducible refine gate_dst (N := 66) rfl ?_); refine arr_load (enc := gv) (n := 66) (g := g6) (T := 90) rfl (.tmp 6) rfl rfl Try.underlying90 info90s (Arr.drewN HMr.out.h6 nd) ?_)
              | ((with_reducible refine gate_dst (N := 17) rfl ?_); refine arr_alloc (enc := gv) (n := 66) (T := 90) rfl Try.zeroCells90 (by first | (go_simp; done) | (go_simp; rfl)) zeros_pol ?_; intro g17 e17 w17 p17 b17 l17; have E17 := Aside0.mk e17; have P17 := Aside0.mk p17; have HM17 := Aside0.mk (KeyMem.more (HMr.out.drewN nd) b17); have L17 := Aside0.mk l17; clear e17 p17 b17 l17)
              | ((with_reducible refine gate_store (t := 90) (p := 17) (v := .tmp 66) rfl ?_); refine arr_store (enc := gv) (n := 66) (g := g17) (T := 90) rfl (.tmp 17) (.tmp 66) rfl rfl rfl info90s gv_one P17.out ?_; intro w18 p18 g18 s18; have P18 := Aside0.mk p18; have G18 := Aside0.mk g18; clear p18 g18 s18))
            have h17a : Aside0 (w.heap.size ≤ g17) := ⟨by have := E17.out; have := HMr.out.below.size; simp at *; omega⟩
            have h17b : Aside0 (g4 ≠ g17 ∧ g6 ≠ g17 ∧ g7 ≠ g17) := ⟨by
              obtain ⟨Z, hZ⟩ := HMr.out.h4
              have q4 := Arr.lt hZ
              have q6 := Arr.lt HMr.out.h6
              have q7 := Arr.lt HMr.out.h7
              have q := E17.out
              simp at q
              omega⟩
            have HM18 := Aside0.mk (HM17.out.other G18.out h17a.out h17b.out.1 h17b.out.2.1 h17b.out.2.2)
            clear E17 P17 L17 G18 HM17
            go_loopg [18] 70 (fun kq v18 w' => ∃ (k : Nat), k ≤ 66 ∧ v18 = .int .i64 (k : Int) ∧ Aside0 (KeyMem w w' g4 g6 g7 (krun S f Γ m).A (krun S f Γ m).B) ∧ Aside0 (Pol w' g17 (updk (krun S f Γ m).A (krun S f Γ m).B (conv (krun S f Γ m).A S n * Gf.inv (krun S f Γ m).b) (krun S f Γ m).gap k)) ∧ Aside0 (66 - k < kq))
            case atStart => exact ⟨0, by omega, rfl, HM18, ⟨Arr.congr P18.out (fun j _ => updk_zero _ _ _ _ j)⟩, ⟨by omega⟩⟩
            case round =>
              clear HM18 P18 HM HMr
              obtain ⟨k, hk, rfl, HM, HP, HK⟩ := hrel
              by_cases hkg : k + (krun S f Γ m).gap < 66
              · have hc1 : wr.cell? ⟨g17, k + (krun S f Γ m).gap, none⟩ = some (.int .u8 (gi (updk (krun S f Γ m).A (krun S f Γ m).B (conv (krun S f Γ m).A S n * Gf.inv (krun S f Γ m).b) (krun S f Γ m).gap k (k + (krun S f Γ m).gap)))) := Arr.cell HP.out _ hkg
                have hc2 : wr.cell? ⟨g7, k, none⟩ = some (.int .u8 (gi ((krun S f Γ m).B k))) := Arr.cell HM.out.h7 k (by omega)
                have hf1 : wr.frozen? ⟨g17, k + (krun S f Γ m).gap, none⟩ = false := Arr.free HP.out _ hkg
                have hk66 : k < 66 := by omega
                have hc1' : ({ wr with drawn := wr.drawn + 1 } : World).cell? ⟨g17, k + (krun S f Γ m).gap, none⟩ = some (.int .u8 (gi (updk (krun S f Γ m).A (krun S f Γ m).B (conv (krun S f Γ m).A S n * Gf.inv (krun S f Γ m).b) (krun S f Γ m).gap k (k + (krun S f Γ m).gap)))) := hc1
                have hc2' : ({ wr with drawn := wr.drawn + 1 } : World).cell? ⟨g7, k, none⟩ = some (.int .u8 (gi ((krun S f Γ m).B k))) := hc2
                go_wp2
                have hs1 : IntKind.i64.wrap ((k : Int) + ((krun S f Γ m).gap : Int)) = (k : Int) + ((krun S f Γ m).gap : Int) := by rw [IntKind.wrap_i64]; omega
                have hs2 : (0 : Int) ≤ (k : Int) + ((krun S f Γ m).gap : Int) := by omega
                have hs3 : ((k : Int) + ((krun S f Γ m).gap : Int)).toNat = k + (krun S f Γ m).gap := by omega
                have hs4 : (k : Int) + ((krun S f Γ m).gap : Int) < 66 := by omega
                have hs5 : (0 : Int) ≤ (k : Int) := by omega
                have hs6 : (k : Int) < 66 := by omega
                refine wp_region_still_tail 12 (by kernel_rfl) (by kernel_rfl) ?_
                simp only [List.take_succ_cons, List.take_zero, List.drop_succ_cons, List.drop_zero]
                iterate 9 still_step
                still_call (times_same (conv (krun S f Γ m).A S n * Gf.inv (krun S f Γ m).b) ((krun S f Γ m).B k) _)
                repeat still_step
                refine wpStill_nil ?_
                clear hc1 hc2 hc1' hc2'
                change wpList _ _ _ _ _ wr.drew
                have hc1 : wr.drew.cell? ⟨g17, k + (krun S f Γ m).gap, none⟩ = some (.int .u8 (gi (updk (krun S f Γ m).A (krun S f Γ m).B (conv (krun S f Γ m).A S n * Gf.inv (krun S f Γ m).b) (krun S f Γ m).gap k (k + (krun S f Γ m).gap)))) := Arr.cell HP.out _ hkg
                go_wp2
                rw [bits_xor]
                go_roundg (gk - 1)
                case measure => have := HK.out; omega
                case rel =>
                  refine ⟨k + 1, by omega, by go_num, ⟨KeyMem.drewN (HM.out.other (grown_set wr g17 _ _) h17a.out h17b.out.1 h17b.out.2.1 h17b.out.2.2) 1⟩, ⟨?_⟩, ⟨by have := HK.out; omega⟩⟩
                  exact Arr.drewN (Arr.congr (Arr.set HP.out (k + (krun S f Γ m).gap) hkg _) (fun j _ => updk_succ _ _ _ _ k j)) 1
              · by_cases h2 : 2 * (krun S f Γ m).l ≤ n + f
                · go_wp2_with (first
                    | ((with_reducible refine gate_dst (N := 91) rfl ?_); refine arr_load (enc := gv) (n := 66) (g := g6) (T := 90) rfl (.tmp 6) rfl rfl Try.underlying90 info90s HM.out.h6 ?_)
                    | ((with_reducible refine gate_store (t := 90) (p := 7) (v := .tmp 91) rfl ?_); refine arr_store (enc := gv) (n := 66) (g := g7) (T := 90) rfl (.tmp 7) (.tmp 91) rfl rfl rfl info90s gv_one HM.out.h7 ?_; intro w20 p20 g20 s20; have HM20 := Aside0.mk (HM.out.set7 g20 p20); have HP20 := Aside0.mk (Arr.grown HP.out g20 (by have := h17b.out; simp; omega)); clear p20 g20 s20)
                    | ((with_reducible refine gate_dst (N := 101) rfl ?_); refine arr_load (enc := gv) (n := 66) (g := g17) (T := 90) rfl (.tmp 17) rfl rfl Try.underlying90 info90s HP20.out ?_)
                    | ((with_reducible refine gate_store (t := 90) (p := 6) (v := .tmp 101) rfl ?_); refine arr_store (enc := gv) (n := 66) (g := g6) (T := 90) rfl (.tmp 6) (.tmp 101) rfl rfl rfl info90s gv_one HM20.out.h6 ?_; intro w21 p21 g21 s21; have HM21 := Aside0.mk (HM20.out.set6 g21 p21); clear p21 g21 s21))
                  go_roundg (q1 - 1)
                  case measure => have := HQ.out; omega
                  case rel =>
                    refine ⟨m + 1, n + 1, by omega, ?_, ?_, ?_, by go_num, ⟨by have := HN.out; omega⟩, ⟨?_⟩, ⟨by have := HQ.out; omega⟩⟩
                    · rw [Hst.out, kstep_long HZ.out h2]
                      congr 1
                      show (n : Int) + 1 + f - _ = ((n + 1 + f - (krun S f Γ m).l : Nat) : Int)
                      omega
                    · rw [Hst.out, kstep_long HZ.out h2]
                    · rw [Hst.out, kstep_long HZ.out h2]; rfl
                    · rw [Hst.out, kstep_long HZ.out h2]
                      exact ⟨HM21.out.below, HM21.out.h4, Arr.congr HM21.out.h6 (fun j hj => updk_all _ _ _ _ k (by omega) j hj), HM21.out.h7, HM21.out.n4, HM21.out.n6, HM21.out.n7, HM21.out.n46, HM21.out.n47, HM21.out.n67⟩
                · go_wp2_with (first
                    | ((with_reducible refine gate_dst (N := 101) rfl ?_); refine arr_load (enc := gv) (n := 66) (g := g17) (T := 90) rfl (.tmp 17) rfl rfl Try.underlying90 info90s HP.out ?_)
                    | ((with_reducible refine gate_store (t := 90) (p := 6) (v := .tmp 101) rfl ?_); refine arr_store (enc := gv) (n := 66) (g := g6) (T := 90) rfl (.tmp 6) (.tmp 101) rfl rfl rfl info90s gv_one HM.out.h6 ?_; intro w21 p21 g21 s21; have HM21 := Aside0.mk (HM.out.set6 g21 p21); clear p21 g21 s21))
                  go_roundg (q1 - 1)
                  case measure => have := HQ.out; omega
                  case rel =>
                    refine ⟨m + 1, n + 1, by omega, ?_, ?_, ?_, by go_num, ⟨by have := HN.out; omega⟩, ⟨?_⟩, ⟨by have := HQ.out; omega⟩⟩
                    · rw [Hst.out, kstep_short HZ.out h2]
                    · rw [Hst.out, kstep_short HZ.out h2]
                    · rw [Hst.out, kstep_short HZ.out h2]; go_num
                    · rw [Hst.out, kstep_short HZ.out h2]
                      exact ⟨HM21.out.below, HM21.out.h4, Arr.congr HM21.out.h6 (fun j hj => updk_all _ _ _ _ k (by omega) j hj), HM21.out.h7, HM21.out.n4, HM21.out.n6, HM21.out.n7, HM21.out.n46, HM21.out.n47, HM21.out.n67⟩
    · have hnr : n = r := by omega
      subst hnr
      go_wp2_with (first
        | ((with_reducible refine gate_dst (N := 102) rfl ?_); refine arr_load (enc := gv) (n := 66) (g := g6) (T := 90) rfl (.tmp 6) rfl rfl Try.underlying90 info90s HM.out.h6 ?_)
        | ((with_reducible refine gate_store (t := 90) (p := 4) (v := .tmp 102) rfl ?_); obtain ⟨Z, hZ⟩ := HM.out.h4; refine arr_store (enc := gv) (n := 66) (g := g4) (T := 90) rfl (.tmp 4) (.tmp 102) rfl rfl rfl info90s gv_one hZ ?_; intro w5 p5 g5 s5; have P5 := Aside0.mk p5; have G5 := Aside0.mk g5; clear p5 g5 s5))
      obtain ⟨fr, hfr, _⟩ := P5.out
      have hrow := run_loadVar_row (P := Try.prog) w5 g4 90 90 _ fr _ hfr Try.underlying90 rfl (by rw [arrC_size]; exact info90s)
      have hm : n - f = m := by have := HN.out; omega
      rw [hm]
      refine bodyPost_ret (v := .tuple #[.agg (arrC gv 66 (krun S f Γ m).A), .int .i64 ((krun S f Γ m).l : Int)]) (by simp [results, Try.results50, asAddr, hrow]) rfl ⟨rfl, ?_⟩
      exact HM.out.below.grown G5.out HM.out.below.size (fun k hk => by simp at hk; have := HM.out.n4; omega)
end Go.Proofs.Ytdgeapgfpikcmaa.Hand
