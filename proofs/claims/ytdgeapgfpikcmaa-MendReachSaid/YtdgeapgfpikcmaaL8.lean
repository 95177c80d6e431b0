/-
  The pure law of MendReach.
-/
import Derived.Test.YtdgeapgfpikcmaaL4
namespace Go.Proofs.Ytdgeapgfpikcmaa.Hand
open Go.RowKit Gf Go.Proofs.Ytdgeapgfpikcmaa.Q Go.Proofs.YtdgeapgfpikcmaaV.PrintWords Go.Proofs.YtdgeapgfpikcmaaV.PrintLast Go.Proofs.YtdgeapgfpikcmaaV.PrintMore

theorem tmodn (r : Int) (n : Nat) (hn : 0 < n) : -(n : Int) < Int.tmod r n ∧ Int.tmod r n < n ∧ (0 ≤ r → 0 ≤ Int.tmod r n) := by
  have h1 : ∀ q : Int, 0 ≤ q → 0 ≤ Int.tmod q n ∧ Int.tmod q n < n := fun q hq => by
    rw [Int.tmod_eq_emod_of_nonneg hq]
    exact ⟨Int.emod_nonneg _ (by omega), Int.emod_lt_of_pos _ (by omega)⟩
  by_cases h : 0 ≤ r
  · have := h1 r h; omega
  · have e : Int.tmod r n = -(Int.tmod (-r) n) := by rw [Int.neg_tmod, Int.neg_neg]
    have := h1 (-r) (by omega)
    omega
theorem rd29_mem (l : List S29) (i : Nat) (h : i < l.length) : rd_T29 l (i : Int) ∈ l := by
  simp [rd_T29, List.getD_eq_getElem?_getD, h]
/-- harm done at a place where none was -/
theorem harmed_more {s : ByteArray} {r : Nat} {B : Nat → G} {I : Nat → Nat} {left cost p : Nat} (h : Harmed s r B I left) (hp : p < s.size) (h0 : I p = 0) (hc : cost = 1 ∨ cost = 2) (hl : cost ≤ left) (x : G) (hx : cost = 2 → x ≠ g0) :
    Harmed s r (fun k => if k = p then B p + x else B k) (fun k => if k = p then 3 - cost else I k) (left - cost) := by
  have hcnt : ∀ v, v = 3 - cost → cnt s.size (fun k => decide ((if k = p then 3 - cost else I k) = v)) = cnt s.size (fun k => decide (I k = v)) + 1 := fun v hv => by
    rw [← cnt_set hp (P := fun k => decide (I k = v)) (decide_eq_false (by rw [h0]; omega))]
    apply cnt_congr
    intro k _
    by_cases hk : k = p
    · rw [if_pos hk, if_pos hk, hv]; simp
    · rw [if_neg hk, if_neg hk]
  have hcnt2 : ∀ v, v ≠ 3 - cost → v ≠ 0 → cnt s.size (fun k => decide ((if k = p then 3 - cost else I k) = v)) = cnt s.size (fun k => decide (I k = v)) := fun v hv hv0 => by
    apply cnt_congr
    intro k _
    by_cases hk : k = p
    · rw [if_pos hk, hk, h0]
      rw [decide_eq_false (fun h => hv h.symm), decide_eq_false (fun h => hv0 h.symm)]
    · rw [if_neg hk]
  refine ⟨fun k => ?_, fun k hk hk0 => ?_, fun k hk hk1 => ?_, ?_⟩
  · by_cases hk : k = p
    · rw [if_pos hk]; omega
    · rw [if_neg hk]; exact h.two k
  · by_cases h1 : k = p
    · rw [if_pos h1] at hk0; omega
    · rw [if_neg h1] at hk0 ⊢; exact h.none k hk hk0
  · by_cases h1 : k = p
    · rw [if_pos h1] at hk1 ⊢
      rw [h.none p hp h0, h1]
      intro he
      have : wg s p + (wg s p + x) = wg s p + wg s p := by rw [he]
      rw [← add_assoc, add_self, zero_add] at this
      exact hx (by omega) this
    · rw [if_neg h1] at hk1 ⊢; exact h.wrong k hk hk1
  · have h3 := h.left
    rcases hc with rfl | rfl
    · rw [hcnt2 1 (by decide) (by decide), hcnt 2 rfl]; omega
    · rw [hcnt 1 rfl, hcnt2 2 (by decide) (by decide)]; omega
theorem reach_j2 (s : ByteArray) (r : Nat) (hf : Fit s.size r) (l2 : List S29) (i : Nat) (hi : i < l2.length) (hb : 0 ≤ (rd_T29 l2 (i : Int)).f2 ∧ (rd_T29 l2 (i : Int)).f2 < 256) (hl : l2.length ≤ 9223372036854775807)
    (B : Nat → G) (I : Nat → Nat) (left cost p : Nat) (h : Harmed s r B I left) (hp : p < s.size) (hc : cost = 1 ∨ cost = 2) (hlost : cost = 2 ↔ ¬ (rd_T29 l2 (i : Int)).f1 = true) (b : Bool) (hbb : b = false → I p = 0 ∧ cost ≤ left)
    (hn : ∀ B I left, Harmed s r B I left → Ev (fun k => foghornlaw20_MendReach.l0 k (r : Int) l2 s (gl s.size B) (il s.size I) (left : Int) ((i + 1 : Nat) : Int)) true) :
    Ev (fun k => foghornlaw20_MendReach.j2 k (r : Int) l2 s (gl s.size B) (il s.size I) (left : Int) (i : Int) (p : Int) (cost : Int) b) true := by
  have h255 := hf.n255
  have h64 := hf.r64
  have e1 : wrap64 ((i : Int) + 1) = ((i + 1 : Nat) : Int) := by unfold wrap64; omega
  by_cases hbt : b = true
  · refine Ev.step (fun k => rfl) (ev_pos hbt ?_)
    rw [e1]
    exact hn B I left h
  · have hbf : b = false := by simpa using hbt
    obtain ⟨h0, hcl⟩ := hbb hbf
    have hleft := h.left
    have hupd : ((rd_T29 l2 (i : Int)).f1 = true ∨ (rd_T29 l2 (i : Int)).f2 ≠ 0) → Ev (fun k => foghornlaw20_MendReach.l0 k (r : Int) l2 s ((gl s.size B).set ((p : Int)).toNat (Go.bits .xor .u8 (rd (gl s.size B) (p : Int)) (rd_T29 l2 (i : Int)).f2)) ((il s.size I).set ((p : Int)).toNat (wrap64 (3 - (cost : Int)))) (wrap64 ((left : Int) - (cost : Int))) (wrap64 ((i : Int) + 1))) true := by
      intro hh
      have ex : (rd_T29 l2 (i : Int)).f2 = gi (ig (rd_T29 l2 (i : Int)).f2) := (gi_ig hb.1 hb.2).symm
      have e3 : wrap64 (3 - (cost : Int)) = ((3 - cost : Nat) : Int) := by unfold wrap64; omega
      have e4 : wrap64 ((left : Int) - (cost : Int)) = ((left - cost : Nat) : Int) := by unfold wrap64; omega
      rw [gl_get s.size B p hp, ex, bits_xor, show ((p : Int)).toNat = p from by omega, gl_set, e3, il_set, e4, e1]
      refine hn _ _ _ (harmed_more h hp h0 hc hcl _ (fun hc2 hx => ?_))
      rcases hh with hh | hh
      · exact (hlost.1 hc2) hh
      · exact hh (by rw [ex, hx]; rfl)
    refine Ev.step (fun k => rfl) (ev_neg hbt (ev_pos (by omega) (ev_pos (by omega) ?_)))
    by_cases h1 : (rd_T29 l2 (i : Int)).f1 = true
    · exact ev_pos h1 (ev_pos (by omega) (ev_pos (by rw [il_len]; omega) (ev_pos (by rw [gl_len]; omega) (hupd (.inl h1)))))
    · by_cases h2 : (rd_T29 l2 (i : Int)).f2 = 0
      · refine ev_neg h1 (ev_pos h2 ?_)
        rw [e1]
        exact hn B I left h
      · exact ev_neg h1 (ev_neg h2 (ev_pos (by omega) (ev_pos (by rw [il_len]; omega) (ev_pos (by rw [gl_len]; omega) (hupd (.inr h2))))))
theorem reach_j1 (s : ByteArray) (r : Nat) (hf : Fit s.size r) (l2 : List S29) (i : Nat) (hi : i < l2.length) (hb : 0 ≤ (rd_T29 l2 (i : Int)).f2 ∧ (rd_T29 l2 (i : Int)).f2 < 256) (hl : l2.length ≤ 9223372036854775807)
    (B : Nat → G) (I : Nat → Nat) (left cost p : Nat) (h : Harmed s r B I left) (hp : p < s.size) (hc : cost = 1 ∨ cost = 2) (hlost : cost = 2 ↔ ¬ (rd_T29 l2 (i : Int)).f1 = true)
    (hn : ∀ B I left, Harmed s r B I left → Ev (fun k => foghornlaw20_MendReach.l0 k (r : Int) l2 s (gl s.size B) (il s.size I) (left : Int) ((i + 1 : Nat) : Int)) true) :
    Ev (fun k => foghornlaw20_MendReach.j1 k (r : Int) l2 s (gl s.size B) (il s.size I) (left : Int) (i : Int) (p : Int) (cost : Int)) true := by
  obtain ⟨pi, hpi⟩ : ∃ pi : Int, pi = (p : Int) := ⟨_, rfl⟩
  rw [← hpi]
  refine Ev.step (fun k => rfl) (ev_pos (by omega) (ev_pos (by rw [il_len]; omega) ?_))
  rw [hpi, il_get s.size I p hp]
  by_cases h0 : I p = 0
  · exact ev_pos (by omega) (reach_j2 s r hf l2 i hi hb hl B I left cost p h hp hc hlost _ (fun hd => ⟨h0, by have := of_decide_eq_false hd; omega⟩) hn)
  · exact ev_neg (by omega) (reach_j2 s r hf l2 i hi hb hl B I left cost p h hp hc hlost _ (fun hd => by cases hd) hn)
theorem reach_loop (s : ByteArray) (r : Nat) (hf : Fit s.size r) (hw : Code r s) (l2 : List S29) (hb : ∀ x, x ∈ l2 → 0 ≤ x.f2 ∧ x.f2 < 256) (hl : l2.length ≤ 9223372036854775807) (d : Nat) : ∀ (i : Nat) (B : Nat → G) (I : Nat → Nat) (left : Nat), l2.length = i + d → Harmed s r B I left →
    Ev (fun k => foghornlaw20_MendReach.l0 k (r : Int) l2 s (gl s.size B) (il s.size I) (left : Int) (i : Int)) true := by
  induction d with
  | zero =>
    intro i B I left hi h
    exact Ev.step (fun k => rfl) (ev_neg (by omega) (reach_tail s r hf hw B I left h s.size 0 (by omega)))
  | succ d ih =>
    intro i B I left hi h
    have hn0 : 0 < s.size := by have := hf.rn; omega
    have h255 := hf.n255
    have hm := rd29_mem l2 i (by omega)
    have hn : ∀ B I left, Harmed s r B I left → Ev (fun k => foghornlaw20_MendReach.l0 k (r : Int) l2 s (gl s.size B) (il s.size I) (left : Int) ((i + 1 : Nat) : Int)) true := fun B I left h => ih (i + 1) B I left (by omega) h
    obtain ⟨p, hp, hpn⟩ : ∃ p : Nat, Int.tmod (wrap64 ((Int.tmod ((rd_T29 l2 (i : Int)).f0) (s.size : Int)) + (s.size : Int))) (s.size : Int) = (p : Int) ∧ p < s.size := by
      have t1 := tmodn (rd_T29 l2 (i : Int)).f0 s.size hn0
      have e : wrap64 ((Int.tmod ((rd_T29 l2 (i : Int)).f0) (s.size : Int)) + (s.size : Int)) = (Int.tmod ((rd_T29 l2 (i : Int)).f0) (s.size : Int)) + (s.size : Int) := by unfold wrap64; omega
      rw [e]
      have t2 := tmodn (Int.tmod ((rd_T29 l2 (i : Int)).f0) (s.size : Int) + (s.size : Int)) s.size hn0
      have t3 := t2.2.2 (by omega)
      exact ⟨(Int.tmod (Int.tmod ((rd_T29 l2 (i : Int)).f0) (s.size : Int) + (s.size : Int)) (s.size : Int)).toNat, by omega, by omega⟩
    refine Ev.step (fun k => rfl) (ev_pos (by omega) (ev_pos (by omega) (ev_neg (by omega) ?_)))
    rw [hp]
    by_cases h1 : (rd_T29 l2 (i : Int)).f1 = true
    · exact ev_pos h1 (reach_j1 s r hf l2 i (by omega) (hb _ hm) hl B I left 1 p h hpn (.inl rfl) ⟨fun h => by omega, fun h => absurd h1 h⟩ hn)
    · exact ev_neg h1 (reach_j1 s r hf l2 i (by omega) (hb _ hm) hl B I left 2 p h hpn (.inr rfl) ⟨fun _ => h1, fun _ => rfl⟩ hn)
theorem reach_pure (a0 : ByteArray) (a1 : Int) (l2 : List S29) (h0 : a0.size ≤ 140737488351232) (hl : l2.length ≤ 9223372036854775807) (hb : ∀ x, x ∈ l2 → 0 ≤ x.f2 ∧ x.f2 < 256) : ∃ k, foghornlaw20_MendReach.f k a0 a1 l2 = some true := by
  obtain ⟨s, r, hf, hw, he⟩ := sent_ev a0 a1 h0
  have h255 := hf.n255
  have h : Ev (fun k => foghornlaw20_MendReach.f k a0 a1 l2) true := by
    unfold foghornlaw20_MendReach.f
    refine Ev.bind awake_ev (ev_pos rfl (Ev.bind he (ev_pos (by show s.size ≤ _; omega) (ev_pos (by show (0 : Int) ≤ (s.size : Int); omega) (ev_pos (by show ((s.size : Int)).toNat ≤ _; omega) ?_)))))
    show Ev (fun k => foghornlaw20_MendReach.l0 k (r : Int) l2 s (numsOf s) (List.replicate ((s.size : Int)).toNat 0) (r : Int) 0) true
    rw [numsOf_gl, show ((s.size : Int)).toNat = s.size from by omega, il_zeros]
    refine reach_loop s r hf hw l2 hb hl l2.length 0 (wg s) (fun _ => 0) r (by omega) ⟨fun _ => Nat.zero_le _, fun _ _ _ => rfl, fun _ _ h => absurd h (by decide), ?_⟩
    have e1 : cnt s.size (fun p => decide (0 = 1)) = 0 := (cnt_congr fun _ _ => rfl).trans (cnt_none s.size)
    have e2 : cnt s.size (fun p => decide (0 = 2)) = 0 := (cnt_congr fun _ _ => rfl).trans (cnt_none s.size)
    rw [e1, e2]; omega
  exact h.rounds
end Go.Proofs.Ytdgeapgfpikcmaa.Hand
