import Derived.Test.YtdgeapgfpikcmaaRows
import Derived.Test.YtdgeapgfpikcmaaL8
import Derived.WalkKit
import Derived.ProofKit
import Derived.OpenShut
import Derived.ShutString
import Derived.ChangeOld
import Derived.Below
import Derived.SizedLaws
import Derived.Deep.Slices
namespace Go.Proofs.Ytdgeapgfpikcmaa.mendReach
open Go.ChangeShapes Go.WideShapes Go.ChangeAt Go.RowKit Go.Proofs.Ytdgeapgfpikcmaa.Q Go.Proofs.YtdgeapgfpikcmaaV.PrintWords Go.Proofs.YtdgeapgfpikcmaaV.PrintLast
open Go.ChangeMaps (open_string shut_string)
set_option linter.unusedVariables false
theorem own : ownKnob Try.prog.godebug = none := by kernel_rfl
theorem laidOut : laidOutB Try.prog = true := by kernel_rfl
theorem u8_range {n : Int} (h : (Lit.int .u8 n).wf = true) : 0 ≤ n ∧ n < 256 := by
  have h2 : (decide (IntKind.u8.min ≤ n) && decide (n ≤ IntKind.u8.max)) = true := h
  have e1 : IntKind.u8.min = 0 := by decide
  have e2 : IntKind.u8.max = 255 := by decide
  rw [e1, e2, Bool.and_eq_true, decide_eq_true_eq, decide_eq_true_eq] at h2
  omega
theorem three {α : Type} {l : List α} (h : l.length = 3) : ∃ a b c, l = [a, b, c] := by
  match l, h with
  | [a, b, c], _ => exact ⟨a, b, c, rfl⟩
set_option maxRecDepth 100000 in
/-- a row of harms, opened -/
theorem open_harms {H : Type} {enc : TypeId × Value → H} {w : World} {base : Nat} {spare : Nat → Bool} {held : Bool} {a : Option Addr} {len cap : Nat} {d : DataW H} {p : List MemPlace}
    (h : ∃ fuel, DataW.trod enc Try.prog w base spare held fuel 22 [.slice a len cap] = some (d, p)) :
    ∃ zs : List S29, zs.length = len ∧ len ≤ cap ∧ cap ≤ maxLen ∧ Kd.C k29 w a zs.length zs ∧ ∀ x, x ∈ zs → 0 ≤ x.f2 ∧ x.f2 < 256 := by
  obtain ⟨fuel, h⟩ := h
  have ce : Try.prog.cellsOf 29 = 3 := by kernel_rfl
  rcases Deep.open_slice Try.underlying22 h with ⟨hcs, _⟩ | ⟨x, l, c, m, n, D, Pl, hcs, hb, hl, hm, hmm, _, hx⟩
  · simp at hcs
    obtain ⟨rfl, rfl, rfl⟩ := hcs
    exact ⟨[], rfl, Nat.le_refl _, Nat.zero_le _, ⟨rfl, Nat.zero_le _, fun h => absurd h (Nat.lt_irrefl _)⟩, fun x hx => by cases hx⟩
  · simp at hcs
    obtain ⟨rfl, rfl, rfl⟩ := hcs
    have hlm : len ≤ m := by rw [hmm]; split <;> omega
    have each : ∀ i, i < len → ∃ q : S29, (w.cell? (x.add (i * 3)) = some (.int .i64 q.f0) ∧ w.cell? (x.add (i * 3 + 1)) = some (.bool q.f1) ∧ w.cell? (x.add (i * 3 + 2)) = some (.int .u8 q.f2)) ∧ 0 ≤ q.f2 ∧ q.f2 < 256 := by
      intro i hi
      obtain ⟨cs', h1, h2⟩ := hx i (by omega)
      rw [ce] at h1
      obtain ⟨_, hlen, hcell⟩ := World.cells?_some h1
      obtain ⟨xs, k, hk, hxy, _, hxl, hf⟩ := DataW.trod_struct Try.underlying29 h2
      have hxl3 : xs.length = 3 := hxl
      obtain ⟨y0, y1, y2, rfl⟩ := three hxl3
      obtain ⟨v0, v1, v2, rfl⟩ := three hlen
      · have g0 := hf 0 _ rfl
        have g1 := hf 1 _ rfl
        have g2 := hf 2 _ rfl
        have c0 : Try.prog.cellsOf 3 = 1 := by kernel_rfl
        have c1 : Try.prog.cellsOf 4 = 1 := by kernel_rfl
        have c2 : Try.prog.cellsOf 5 = 1 := by kernel_rfl
        simp [c0, c1, c2] at g0 g1 g2
        obtain ⟨n0, e0, _, _⟩ := DataW.trod_int Try.underlying3 g0
        obtain ⟨n1, e1, _⟩ := DataW.trod_bool Try.underlying4 g1
        obtain ⟨n2, e2, _, w2⟩ := DataW.trod_int Try.underlying5 g2
        have q0 := hcell 0 (by omega)
        have q1 := hcell 1 (by omega)
        have q2 := hcell 2 (by omega)
        rw [Deep.add_add] at q0 q1 q2
        simp at e0 e1 e2
        subst e0 e1 e2
        refine ⟨⟨n0, n1, n2⟩, ⟨by simpa using q0, by simpa using q1, by simpa using q2⟩, ?_⟩
        exact u8_range w2
    have : Inhabited S29 := ⟨z29⟩
    obtain ⟨q, hq⟩ := Deep.choose_lt each
    refine ⟨(List.range len).map q, by simp, hl, hm, ⟨rfl, by have : maxLen ≤ 9223372036854775807 := (by decide); simp; omega, fun _ => ⟨x, rfl, fun j y hj => ?_⟩⟩, fun y hy => ?_⟩
    · obtain ⟨hjl, hy⟩ := List.getElem?_eq_some_iff.1 hj
      simp at hjl hy
      obtain ⟨⟨h0, h1, h2⟩, _⟩ := hq j hjl
      rw [hy] at h0 h1 h2
      refine ⟨[.int .i64 y.f0, .bool y.f1, .int .u8 y.f2], rfl, ⟨[.int .i64 y.f0], [.bool y.f1, .int .u8 y.f2], rfl, rfl, ⟨[.bool y.f1], [.int .u8 y.f2], rfl, rfl, rfl⟩⟩, fun i u hu => ?_⟩
      match i, hu with
      | 0, hu => simp at hu; subst hu; exact h0
      | 1, hu => simp at hu; subst hu; exact h1
      | 2, hu => simp at hu; subst hu; exact h2
    · obtain ⟨j, hj, rfl⟩ := List.mem_map.1 hy
      exact (hq j (List.mem_range.1 hj)).2
set_option maxRecDepth 100000 in
theorem lifted (os : Os) (started : os.Started) (H : Type) (enc : TypeId × Value → H) :
    ReturnsInHanded {} Try.checked os 3 .any (Rows.mendReachSpec.pre6 enc Try.prog Try.f3 Rows.mendReachRow.domain false) (Rows.mendReachSpec.post enc Try.prog Try.f3 false true false false) := by
  refine returnsInHanded_of_change_sized (C := Try.checked) own started (by kernel_rfl) Try.func3
    (ChangeSpec.witness6 (enc := enc) (C := Try.checked) false ⟨#[], #[.string ByteArray.empty, .int .i64 0, .slice none 0 0], []⟩ 8 (by kernel_rfl) (by kernel_rfl) (by kernel_rfl) (by kernel_rfl)) ?_
  intro W base args ds gs before hval0 hW hcnd hsz0 _
  have hsz : (DataW.weightsEach Try.prog (Try.f3.params.toList ++ Rows.mendReachSpec.plain.varTypes Try.prog) (ds ++ gs)).all (· ≤ reachBytes) = true := hsz0
  have hval : ∀ (j : Nat) t v, Try.f3.params[j]? = some t → args[j]? = some v → Value.okWide Try.prog W .any base t v := hval0
  have hW' := hW
  obtain ⟨p, q, hA0, hV, rfl, hfz, hnd⟩ := hW
  have hA : DataW.TrodAll enc Try.prog W 0 (fun _ => true) true Try.f3.params.toList args.toList ds p := hA0
  rw [Try.params3] at hA hval hsz
  obtain ⟨v0, vs0, d0, ds0, p0, q0, hargs, rfl, rfl, h0, r0⟩ := trodAll_cons hA
  obtain ⟨v1, vs1, d1, ds1, p1, q1, rfl, rfl, rfl, h1, r1⟩ := trodAll_cons r0
  obtain ⟨v2, vs2, d2, ds2, p2, q2, rfl, rfl, rfl, h2, r2⟩ := trodAll_cons r1
  obtain ⟨rfl, rfl, rfl⟩ := trodAll_nil r2
  obtain rfl : args = #[v0, v1, v2] := by cases args; simp_all
  obtain ⟨rfl, rfl⟩ := trodVars_none hV
  obtain ⟨a0, rfl, rfl, rfl, y0⟩ := open_string Try.underlying9 (hval 0 9 v0 rfl rfl) h0
  have w0 : a0.size ≤ 140737488351232 := by
    have z := sized_string hsz (j := 0) (t := 9) rfl rfl
    rw [Array.length_toList] at z
    exact z
  obtain ⟨a1, rfl, rfl, rfl, w1⟩ := open_int Try.underlying3 (hval 1 3 v1 rfl rfl) h1
  obtain ⟨a2, len2, cap2, rfl⟩ := okWide_slice Try.underlying22 (hval 2 22 v2 rfl rfl)
  have k2 := h2
  have lt2 : ∀ x ∈ p2, x.block < W.heap.size := by obtain ⟨m, hm⟩ := k2; exact DataW.trod_lt m _ _ _ hm
  obtain ⟨zs, hl, hlc, hcm, hC, hb⟩ := open_harms h2
  subst hl
  have hml : maxLen ≤ 9223372036854775807 := by decide
  obtain ⟨k, hk⟩ := Hand.reach_pure a0 a1 zs w0 (by omega) hb
  clear hA0 hval0 hsz0 hsz
  refine (foghornlaw20_MendReach.calls k a0 a1 a2 cap2 zs true W hC hlc hk).mono fun e W' ⟨he, bel⟩ => ?_
  subst he
  exact ⟨_, rfl, _, _, _, [], _, [], hW', trodAll_mk1 (shut_bool Try.underlying4 _), (trodAll_cons_mk (shut_string Try.underlying9 y0) (trodAll_cons_mk (shut_int Try.underlying3 w1) (trodAll_cons_mk (Below.trod laidOut (by kernel_rfl) (of_decide_eq_true (by kernel_rfl)) k2 bel lt2) trodAll_mk0))), rfl, bel.frame _, fun h => by cases h⟩
theorem over : Rows.mendReachRow.holds Try.pinned (OpenSpec.ofChange Rows.mendReachSpec) :=
  OpenClaim.holds_of_wide 3 Try.f3 rfl rfl rfl rfl rfl rfl rfl ⟨rfl, rfl, rfl, rfl, rfl⟩ rfl rfl rfl rfl rfl (by kernel_rfl) Try.func3 (by kernel_rfl)
    (of_decide_eq_true (by kernel_rfl)) (by unfold Func.isWrapper; first | (rw [if_pos (by decide +kernel)]; kernel_rfl) | (rw [if_neg (by decide +kernel)]; exact ⟨rfl, rfl⟩))
    (fun os started H enc _ => lifted os started H enc)
theorem proved : Rows.MendReachSaid := over
#print axioms proved
end Go.Proofs.Ytdgeapgfpikcmaa.mendReach
namespace Go.Proofs.Ytdgeapgfpikcmaa
/-- The row, under a short name, for the claim. -/
theorem mendReach_holds : Rows.MendReachSaid := mendReach.proved
end Go.Proofs.Ytdgeapgfpikcmaa
