/-
  Edges, points, cuts and gaps: the program's and the document's are the same.
-/
import Derived.Test.YtgfbejlggakkhaaSl0
import Derived.Test.YtgfbejlggakkhaaSl1
import Derived.Test.YtgfbejlggakkhaaF66
import Derived.Test.YtgfbejlggakkhaaPt2
import Derived.Test.YtgfbejlggakkhaaPt3
import Derived.Test.YtgfbejlggakkhaaQx8
import Derived.Test.YtgfbejlggakkhaaQx7
import Derived.Test.YtgfbejlggakkhaaQx7
namespace Go.Proofs.Ytgfbejlggakkhaa.Hand
open Go.RowKit Go.Proofs.Ytgfbejlggakkhaa.Q Go.Proofs.YtgfbejlggakkhaaW.PrintWords Go.Proofs.YtgfbejlggakkhaaW.PrintLast Go.Proofs.YtgfbejlggakkhaaW.PrintMore Go.Proofs.Ytgfbejlggakkhaa.F64
set_option linter.unusedVariables false

theorem ev_pos {α : Type} {c : Prop} [Decidable c] {A B : Nat → Option α} {q : α} (h : c) (k : Ev A q) : Ev (fun n => if c then A n else B n) q := Ev.congr (fun _ => if_pos h) k
theorem ev_neg {α : Type} {c : Prop} [Decidable c] {A B : Nat → Option α} {q : α} (h : ¬ c) (k : Ev B q) : Ev (fun n => if c then A n else B n) q := Ev.congr (fun _ => if_neg h) k
theorem ev_some {α β : Type} {x : α} {A : Nat → α → Option β} {q : β} (k : Ev (fun n => A n x) q) : Ev (fun n => (some x).bind (A n)) q := Ev.congr (fun _ => rfl) k
theorem ev_to {α : Type} {A : Nat → Option α} {q q' : α} (k : Ev A q) (h : q = q') : Ev A q' := h ▸ k
/-- what is known of a size that is one -/
structure Known (size e : Int) : Prop where
  edge : edgeF size = (e, 0)
  ref : foghornref04_Edge.f size = some (e, 0)
  lo : 1 ≤ e
  hi : e ≤ 15
  odd : e % 2 = 1
  all : allF size = some (listOf size, 0)
  allr : Ev (fun k => foghornref04_All.f k size) (listOf size, 0)
  len : ((listOf size).length : Int) = size
  pos : 0 < size
  num : (listOf size).all num2 = true
  most : size ≤ 256
  at_ : ∀ label : Int, 0 ≤ label → label < size → atF size label = some (rdOf ((0, 0) : Nat × Nat) (listOf size) label, 0)
theorem known_of {size b e : Int} {pt : Int → Option (Nat × Nat)} {K : Nat} (hs : setF size = some (b, e, pt)) (hr : foghornref04_Edge.f size = some (e, 0)) (h1 : 1 ≤ e) (h2 : e ≤ 15) (h3 : e % 2 = 1) (hp : 0 < size) (hm : size ≤ 256) (hnum : (listOf size).all num2 = true)
    (ha : points_All.f size = some (listOf size, 0)) (hb : foghornref04_All.f K size = some (listOf size, 0)) : Known size e := by
  have ha' : allF size = some (listOf size, 0) := ha
  have hall := ha'
  unfold allF at hall
  rw [hs] at hall
  obtain ⟨l, hl, he⟩ := Option.map_eq_some_iff.mp hall
  obtain ⟨rfl, _⟩ := Prod.mk.inj he
  obtain ⟨hlen, hget⟩ := mapM_get hl
  have hn : (listOf size).length = size.toNat := by rw [hlen]; simp
  refine ⟨by unfold edgeF; rw [hs], hr, h1, h2, h3, ha', Ev.of (fun k => foghornref04_All.mono size k) hb, by omega, hp, hnum, hm, fun label l0 l1 => ?_⟩
  obtain ⟨n, rfl⟩ := Int.eq_ofNat_of_zero_le l0
  have hn' : n < size.toNat := by omega
  have h4 := hget n n (by simp [hn'])
  unfold atF
  rw [hs]
  simp only
  rw [if_neg (by omega), if_neg (by omega)]
  rw [h4]
  simp [rdOf, hn, hn']
theorem known (size : Int) : (∃ e, Known size e) ∨ (edgeF size = (0, 1) ∧ foghornref04_Edge.f size = some (0, 1) ∧ allF size = some ([], 1) ∧ (∀ label, atF size label = some ((0, 0), 1)) ∧ Ev (fun k => foghornref04_All.f k size) ([], 1)) := by
  by_cases c4 : size = 4
  · subst c4; exact .inl ⟨1, known_of (b := 2) (pt := sqF 1 1) rfl rfl (by omega) (by omega) (by omega) (by omega) (by omega) num_4 all_4.1 all_4.2⟩
  by_cases c16 : size = 16
  · subst c16; exact .inl ⟨3, known_of (b := 4) (pt := sqF 2 3) rfl rfl (by omega) (by omega) (by omega) (by omega) (by omega) num_16 all_16.1 all_16.2⟩
  by_cases c32 : size = 32
  · subst c32; exact .inl ⟨5, known_of (b := 5) (pt := crF 5 3) rfl rfl (by omega) (by omega) (by omega) (by omega) (by omega) num_32 all_32.1 all_32.2⟩
  by_cases c64 : size = 64
  · subst c64; exact .inl ⟨7, known_of (b := 6) (pt := sqF 3 7) rfl rfl (by omega) (by omega) (by omega) (by omega) (by omega) num_64 all_64.1 all_64.2⟩
  by_cases c128 : size = 128
  · subst c128; exact .inl ⟨11, known_of (b := 7) (pt := crF 11 7) rfl rfl (by omega) (by omega) (by omega) (by omega) (by omega) num_128 all_128.1 all_128.2⟩
  by_cases c256 : size = 256
  · subst c256; exact .inl ⟨15, known_of (b := 8) (pt := sqF 4 15) rfl rfl (by omega) (by omega) (by omega) (by omega) (by omega) num_256 all_256.1 all_256.2⟩
  have hs : setF size = none := by
    unfold setF
    rw [if_neg c4, if_neg c16, if_neg c32, if_neg c64, if_neg c128, if_neg c256]
  have hr : foghornref04_Edge.f size = some (0, 1) := by
    unfold foghornref04_Edge.f
    rw [if_neg c4, if_neg c16, if_neg c32, if_neg c64, if_neg c128, if_neg c256]
  refine .inr ⟨by unfold edgeF; rw [hs], hr, by unfold allF; rw [hs], fun label => by unfold atF; rw [hs], ?_⟩
  refine Ev.of (fun k => foghornref04_All.mono size k) (k := 2) ?_
  unfold foghornref04_All.f foghornref04_Points.f
  rw [hr]
  rfl
theorem known_ref_at {size e : Int} (h : Known size e) (label : Int) : Ev (fun k => foghornref04_At.f k size label) ((if 0 ≤ label ∧ label < size then (rdOf ((0, 0) : Nat × Nat) (listOf size) label, 0) else ((0, 0), 1)) : (Nat × Nat) × Int) := by
  unfold foghornref04_At.f
  have hl := h.len
  refine Ev.bind h.allr (ev_pos rfl ?_)
  by_cases c1 : label < 0
  · exact ev_to (ev_pos c1 (Ev.now _)) (if_neg (by omega)).symm
  · refine ev_neg c1 ?_
    by_cases c2 : label ≥ size
    · exact ev_to (ev_pos c2 (Ev.now _)) (if_neg (by omega)).symm
    · exact ev_to (ev_neg c2 (ev_pos (by omega) (ev_pos (by show label < ((listOf size).length : Int); omega) (Ev.now _)))) (if_pos (by omega)).symm
theorem known_at {size e : Int} (h : Known size e) (label : Int) : points_At.f size label = some (if 0 ≤ label ∧ label < size then (rdOf ((0, 0) : Nat × Nat) (listOf size) label, 0) else ((0, 0), 1)) := by
  show atF size label = _
  by_cases c : 0 ≤ label ∧ label < size
  · rw [if_pos c]; exact h.at_ label c.1 c.2
  · rw [if_neg c]
    have ha := h.all
    unfold allF at ha
    unfold atF
    cases hs : setF size with
    | none => rfl
    | some q =>
      obtain ⟨b, e', pt⟩ := q
      simp only
      by_cases c1 : label < 0
      · rw [if_pos c1]
      · rw [if_neg c1, if_pos (by omega)]
/-- the cut: a number that is none; else the same words -/
theorem nan_prog (z : Nat × Nat) : slice_nan.f z = some ((Ieee.double.read z.1).isNaN || (Ieee.double.read z.2).isNaN) := by
  unfold slice_nan.f math_IsNaN.f
  simp only [ne_self, Option.bind_some]
  cases (Ieee.double.read z.1).isNaN <;> rfl
theorem cut_prog (z : Nat × Nat) (e : Int) (h1 : 1 ≤ e) (h2 : e ≤ 15) (hx : (Ieee.double.read z.1).isNaN = false) (hy : (Ieee.double.read z.2).isNaN = false) (lx : z.1 < 2 ^ 64) (ly : z.2 < 2 ^ 64) :
    ∃ c : Nat × Nat, slice_cut.f z e = some c ∧ foghornref05_cut.f z.1 e = some c.1 ∧ foghornref05_cut.f z.2 e = some c.2 ∧ (∃ n, G K n c.1 ∧ -e * 2 ^ K ≤ n ∧ n ≤ e * 2 ^ K) ∧ (∃ n, G K n c.2 ∧ -e * 2 ^ K ≤ n ∧ n ≤ e * 2 ^ K) := by
  obtain ⟨r, p1, q1, g1⟩ := cut_same z.1 hx lx e h1 h2
  obtain ⟨r', p2, q2, g2⟩ := cut_same z.2 hy ly e h1 h2
  refine ⟨(r, r'), ?_, ?_, ?_, g1, g2⟩
  · unfold slice_cut.f math_Min.f math_Max.f
    simp only [Option.bind_some, p1, p2]
  · unfold foghornref05_cut.f
    show _ = some r
    rw [← q1]
    split
    · rfl
    · split <;> rfl
  · unfold foghornref05_cut.f
    show _ = some r'
    rw [← q2]
    split
    · rfl
    · split <;> rfl
end Go.Proofs.Ytgfbejlggakkhaa.Hand
