/-
  The pure law of MendNever.
-/
import Derived.Test.YtdgeapgfpikcmaaL4
import Derived.Test.YtdgeapgfpikcmaaQx10
namespace Go.Proofs.Ytdgeapgfpikcmaa.Hand
open Go.RowKit Gf Go.Proofs.Ytdgeapgfpikcmaa.Q Go.Proofs.YtdgeapgfpikcmaaV.PrintWords Go.Proofs.YtdgeapgfpikcmaaV.PrintLast Go.Proofs.YtdgeapgfpikcmaaV.PrintMore

instance (r : Nat) (s c : ByteArray) (l : List Int) : Decidable (Near r s c l) := by unfold Near; infer_instance
theorem Within_ev (s t : ByteArray) (r : Nat) (h : Fit s.size r) (l : List Int) (hl : l.length ≤ 9223372036854775000) (hg : GoodL s.size l) (ht : t.size = s.size) (hw : Code r t) : Ev (fun k => mend_Within.f k s t (r : Int) l) (decide (Near r s t l), 0) := by
  have e1 := whole_ev t r (by rw [ht]; exact h)
  rw [decide_eq_true hw] at e1
  have e2 := within_ev s t ht.symm h.n255 (lostB l) r l.length hl
  refine Ev.bind (mcheck_ok s r h l (by omega) hg) (ev_pos rfl ?_)
  have hb : ((t.size : Int) != (s.size : Int)) = false := by rw [ht]; simp
  generalize ((t.size : Int) != (s.size : Int)) = b at hb ⊢
  exact Ev.step (fun k => rfl) (ev_neg (by rw [hb]; decide) (Ev.bind e1 (ev_pos rfl (Ev.bind e2 (ev_to (Ev.now _) rfl)))))
theorem Within_len (s t : ByteArray) (r : Nat) (h : Fit s.size r) (l : List Int) (hl : l.length ≤ 9223372036854775000) (hg : GoodL s.size l) (ht : t.size ≠ s.size) : Ev (fun k => mend_Within.f k s t (r : Int) l) (false, 1) := by
  refine Ev.bind (mcheck_ok s r h l (by omega) hg) (ev_pos rfl ?_)
  have hb : ((t.size : Int) != (s.size : Int)) = true := by simp; omega
  generalize ((t.size : Int) != (s.size : Int)) = b at hb ⊢
  exact Ev.step (fun k => rfl) (ev_pos hb (Ev.now _))
theorem fil_split (n : Nat) (B : Nat → Bool) (p : Nat) (hp : p < n) (hB : B p = true) : (fil p B).length < (fil n B).length ∧ rd (fil n B) ((fil p B).length : Int) = (p : Int) := by
  induction n with
  | zero => omega
  | succ n ih =>
    rw [fil_succ]
    by_cases h : p = n
    · subst h
      rw [if_pos hB]
      refine ⟨by simp, ?_⟩
      simp [rd, List.getD_eq_getElem?_getD]
    · obtain ⟨h1, h2⟩ := ih (by omega)
      by_cases hn : B n = true
      · rw [if_pos hn]
        refine ⟨by rw [List.length_append]; omega, ?_⟩
        rw [← h2]
        simp [rd, List.getD_eq_getElem?_getD, List.getElem?_append_left h1]
      · rw [if_neg hn]; exact ⟨h1, h2⟩
theorem never_gone (s c : ByteArray) (hc : c.size = s.size) (_hn : s.size ≤ 255) (l W Lt : List Int) (hl : l.length ≤ 9223372036854775000) (x20 : Int) (p : Nat) (hp : p < s.size)
    (h : Ev (fun k => foghornlaw20_MendNever.j7 k s l x20 (p : Int) (unB s c (lostB l) p) c W Lt) true) (d : Nat) : ∀ i, l.length = i + d →
    Ev (fun k => foghornlaw20_MendNever.l2 k s l x20 (p : Int) (lostB (l.take i) p) (i : Int) c W Lt) true := by
  induction d with
  | zero =>
    intro i hi
    rw [List.take_of_length_le (by omega)]
    refine Ev.step (fun k => rfl) (ev_neg (by omega) ?_)
    by_cases hb : lostB l p = true
    · rw [show unB s c (lostB l) p = false from by unfold unB; rw [hb]; simp] at h
      exact ev_pos hb h
    · refine ev_neg hb (ev_pos (by omega) (ev_pos (by omega) (ev_pos (by omega) ?_)))
      have e : unB s c (lostB l) p = ((bt s (p : Int)) != (bt c (p : Int))) := by
        unfold unB
        rw [show lostB l p = false from by simpa using hb, ← gi_wg, ← gi_wg]
        by_cases hw : wg s p = wg c p
        · rw [hw]; simp
        · have : gi (wg s p) ≠ gi (wg c p) := fun h => hw (gi_inj h)
          simp [hw, this]
      rw [← e]
      exact h
  | succ d ih =>
    intro i hi
    have hq := ih (i + 1) (by omega)
    refine Ev.step (fun k => rfl) (ev_pos (by omega) ?_)
    have e1 : wrap64 ((i : Int) + 1) = ((i + 1 : Nat) : Int) := by unfold wrap64; omega
    rw [e1]
    by_cases hb : lostB (l.take i) p = true
    · refine ev_pos hb ?_
      have : lostB (l.take (i + 1)) p = true := by
        rw [take_more l i (by omega)]
        unfold lostB at hb ⊢
        exact decide_eq_true (List.mem_append.2 (.inl (of_decide_eq_true hb)))
      rw [this] at hq
      exact hq
    · refine ev_neg hb (ev_pos (by omega) ?_)
      have : lostB (l.take (i + 1)) p = ((rd l (i : Int)) == (p : Int)) := by
        rw [take_more l i (by omega)]
        unfold lostB at hb ⊢
        have hb' : ¬ (p : Int) ∈ l.take i := fun h => hb (decide_eq_true h)
        by_cases he : rd l (i : Int) = (p : Int)
        · rw [he]; simp
        · have he' : ¬ (p : Int) = rd l (i : Int) := fun h => he h.symm
          simp [hb', he, he']
      rw [this] at hq
      exact hq
theorem never_loop (s c : ByteArray) (hc : c.size = s.size) (hn : s.size ≤ 255) (l Lt : List Int) (hl : l.length ≤ 9223372036854775000) (d : Nat) : ∀ p, s.size = p + d →
    Ev (fun k => foghornlaw20_MendNever.l1 k s l ((fil p (unB s c (lostB l))).length : Int) (p : Int) c (fil s.size (unB s c (lostB l))) Lt) true := by
  induction d with
  | zero =>
    intro p hp
    refine Ev.step (fun k => rfl) (ev_neg (by omega) (ev_to (Ev.now _) ?_))
    rw [show p = s.size from by omega]
    simp
  | succ d ih =>
    intro p hp
    have hq := ih (p + 1) (by omega)
    have hlen := fil_le p (unB s c (lostB l))
    have e1 : wrap64 ((p : Int) + 1) = ((p + 1 : Nat) : Int) := by unfold wrap64; omega
    refine Ev.step (fun k => rfl) (ev_pos (by omega) ?_)
    refine never_gone s c hc hn l _ Lt hl _ p (by omega) ?_ l.length 0 (by omega)
    rw [fil_succ] at hq
    by_cases hb : unB s c (lostB l) p = true
    · obtain ⟨h1, h2⟩ := fil_split s.size (unB s c (lostB l)) p (by omega) hb
      rw [if_pos hb, List.length_append, List.length_singleton] at hq
      refine Ev.step (fun k => rfl) (ev_pos hb (ev_neg (by omega) (ev_pos (by omega) (ev_pos (by omega) (ev_pos h2 ?_)))))
      have e2 : wrap64 (((fil p (unB s c (lostB l))).length : Int) + 1) = (((fil p (unB s c (lostB l))).length + 1 : Nat) : Int) := by unfold wrap64; omega
      rw [e1, e2]
      exact hq
    · rw [if_neg hb] at hq
      refine Ev.step (fun k => rfl) (ev_neg hb ?_)
      rw [e1]
      exact hq
/-- what Mend has told, one way or the other -/
inductive Told (s : ByteArray) (r : Nat) (l : List Int) : Int → ByteArray → List Int → List Int → Prop
  | found (c : ByteArray) (hc : c.size = s.size) (hw : Code r c) (hn : Near r s c l) : Told s r l 0 c (fil s.size (unB s c (lostB l))) (fil s.size (lostB l))
  | none (h : ∀ c : ByteArray, c.size = s.size → Code r c → ¬ Near r s c l) : Told s r l 9 ⟨#[]⟩ [] []
theorem never_j3 (s : ByteArray) (r : Nat) (h : Fit s.size r) (l : List Int) (hl : l.length ≤ 9223372036854775000) (hg : GoodL s.size l) {e : Int} {w : ByteArray} {W Lt : List Int} (ht : Told s r l e w W Lt)
    (o : ByteArray) (b : Bool) (hb : b = true → o.size = s.size ∧ Code r o ∧ Near r s o l) (z : Bool) (hz : z = false) : Ev (fun k => foghornlaw20_MendNever.j3 k s (r : Int) l e o b z w W Lt) true := by
  have h64 := h.r64
  have h255 := h.n255
  refine Ev.step (fun k => rfl) (ev_neg (by rw [hz]; decide) ?_)
  cases ht with
  | none hno =>
    refine ev_pos rfl (ev_neg (fun hbt => ?_) (ev_pos ((toList_nil _).2 rfl) (ev_to (Ev.now _) (by simp [wrap64]))))
    obtain ⟨h1, h2, h3⟩ := hb hbt
    exact hno o h1 h2 h3
  | found c hc hw hn =>
    have hlr : l.length ≤ r := by unfold Near at hn; omega
    have e1 := whole_ev w r (by rw [hc]; exact h)
    rw [decide_eq_true hw] at e1
    have e2 := Within_ev s w r h l hl hg hc hw
    rw [decide_eq_true hn] at e2
    have hz2 : ∀ q, q < s.size → unB w w (lostB l) q = false := fun q _ => by simp [unB]
    have e3 := Mend_found w r (by rw [hc]; exact h) l (by rw [hc]; exact hg) w rfl hw (by
      unfold Near
      rw [hc, cnt_congr hz2, cnt_none]; omega)
    have hW : fil w.size (unB w w (lostB l)) = [] := by
      rw [hc]
      have := fil_len s.size (unB w w (lostB l))
      rw [cnt_congr hz2, cnt_none] at this
      exact List.length_eq_zero_iff.1 this
    rw [hW] at e3
    have hlost : (fil s.size (lostB l)).length = l.length := by
      rw [fil_len]
      have := cnt_lost s.size l hg l.length (Nat.le_refl _)
      rwa [List.take_length] at this
    have hWn : 2 * (fil s.size (unB s w (lostB l))).length + l.length ≤ r := by rw [fil_len]; exact hn
    refine ev_neg (by decide) (Ev.bind e1 (Ev.bind e2 (Ev.bind e3 (ev_pos rfl (ev_pos rfl (ev_pos rfl (ev_pos rfl (ev_pos rfl (ev_pos rfl (ev_pos rfl (ev_pos rfl (ev_pos (by rw [hlost]) (ev_neg ?_ ?_)))))))))))))
    · have e4 : wrap64 (wrap64 (2 * ((fil s.size (unB s w (lostB l))).length : Int)) + (l.length : Int)) = 2 * ((fil s.size (unB s w (lostB l))).length : Int) + (l.length : Int) := by unfold wrap64; omega
      rw [e4]; omega
    · have hend : Ev (fun k => foghornlaw20_MendNever.j4 k s l false w (fil s.size (unB s w (lostB l))) (fil s.size (lostB l))) true := by
        refine Ev.step (fun k => rfl) ?_
        exact never_loop s w hc h255 l _ hl s.size 0 (by omega)
      by_cases hbt : b = true
      · refine ev_pos hbt ?_
        obtain ⟨h1, h2, h3⟩ := hb hbt
        have : o = w := near_one s r h l hg o w h1 h2 h3 hc hw hn
        rw [this, show (w.toList != w.toList) = false from by simp]
        exact hend
      · exact ev_neg hbt hend
theorem never_j2 (s : ByteArray) (r : Nat) (h : Fit s.size r) (l : List Int) (hl : l.length ≤ 9223372036854775000) (hg : GoodL s.size l) {e : Int} {w : ByteArray} {W Lt : List Int} (ht : Told s r l e w W Lt)
    (o : ByteArray) (ho : o.size = 0 ∨ (o.size = s.size ∧ Code r o)) : Ev (fun k => foghornlaw20_MendNever.j2 k s (r : Int) l e o w W Lt) true := by
  have hrn := h.rn
  by_cases h0 : o.size = 0
  · exact Ev.step (fun k => rfl) (Ev.bind (Within_len s o r h l hl hg (by omega)) (ev_pos ((toList_nil o).2 h0) (never_j3 s r h l hl hg ht o false (fun h => by cases h) false rfl)))
  · obtain ⟨h1, h2⟩ := ho.resolve_left h0
    exact Ev.step (fun k => rfl) (Ev.bind (Within_ev s o r h l hl hg h1 h2) (ev_neg (fun h => h0 ((toList_nil o).1 h)) (never_j3 s r h l hl hg ht o _ (fun hd => ⟨h1, h2, of_decide_eq_true hd⟩) _ rfl)))
theorem never_l0 (s : ByteArray) (r : Nat) (h : Fit s.size r) (l : List Int) (hl : l.length ≤ 9223372036854775000) (hg : GoodL s.size l) {e : Int} {w : ByteArray} {W Lt : List Int} (ht : Told s r l e w W Lt) (d : Nat) : ∀ x : ByteArray, 0 < x.size → s.size - r ≤ x.size + d → x.size ≤ 140737488351232 →
    Ev (fun k => foghornlaw20_MendNever.l0 k s (r : Int) l x e w W Lt) true := by
  have hrn := h.rn
  have h255 := h.n255
  have e1 : wrap64 ((s.size : Int) - (r : Int)) = ((s.size - r : Nat) : Int) := by unfold wrap64; omega
  have stop : ∀ x : ByteArray, s.size - r ≤ x.size → Ev (fun k => foghornlaw20_MendNever.l0 k s (r : Int) l x e w W Lt) true := by
    intro x hx
    have hsz : (x.extract 0 (wrap64 ((s.size : Int) - (r : Int))).toNat).size = s.size - r := by
      rw [e1, ByteArray.size_extract]; omega
    obtain ⟨c, hc, hw, _, he⟩ := enc_ev (x.extract 0 (wrap64 ((s.size : Int) - (r : Int))).toNat) r (by rw [hsz, show s.size - r + r = s.size from by omega]; exact h)
    rw [hsz] at hc
    refine Ev.step (fun k => rfl) (ev_neg (by omega) (ev_pos (by omega) (ev_pos (by omega) (Ev.bind he ?_))))
    exact never_j2 s r h l hl hg ht c (.inr ⟨by omega, hw⟩)
  induction d with
  | zero => intro x _ hx _; exact stop x hx
  | succ d ih =>
    intro x h0 hx hx2
    by_cases hlt : s.size - r ≤ x.size
    · exact stop x hlt
    · refine Ev.step (fun k => rfl) (ev_pos (by omega) (ev_pos (by omega) ?_))
      exact ih (x ++ x) (by rw [ByteArray.size_append]; omega) (by rw [ByteArray.size_append]; omega) (by rw [ByteArray.size_append]; omega)
theorem never_pure (a0 : ByteArray) (a1 : Int) (l2 : List Int) (a3 : ByteArray) (hl : l2.length * 8 ≤ 140737488351232) (h3 : a3.size ≤ 140737488351232) : ∃ k, foghornlaw20_MendNever.f k a0 a1 l2 a3 = some true := by
  have h : Ev (fun k => foghornlaw20_MendNever.f k a0 a1 l2 a3) true := by
    unfold foghornlaw20_MendNever.f
    refine Ev.bind awake_ev (ev_pos rfl ?_)
    have told : ∀ (r : Nat) (hf : Fit a0.size r) (hg : GoodL a0.size l2) {e : Int} {w : ByteArray} {W Lt : List Int} (_ : Told a0 r l2 e w W Lt) (b : Bool) (hb : b = true → 0 < a3.size), Ev (fun k => foghornlaw20_MendNever.j0 k a0 (r : Int) l2 a3 e (⟨#[]⟩ : ByteArray) b w W Lt) true := by
      intro r hf hg e w W Lt ht b hb
      refine Ev.step (fun k => rfl) ?_
      by_cases hbt : b = true
      · exact ev_pos hbt (never_l0 a0 r hf l2 (by omega) hg ht a0.size a3 (hb hbt) (by omega) h3)
      · exact ev_neg hbt (never_j2 a0 r hf l2 (by omega) hg ht _ (.inl rfl))
    rcases Mend_all a0 a1 l2 (by omega) with ⟨_, he⟩ | ⟨r, rfl, hf, hg, ⟨c, hc, hw, hn, he⟩ | ⟨hno, he⟩⟩
    · exact Ev.bind he (ev_pos rfl (ev_pos ((toList_nil _).2 rfl) (ev_to (Ev.now _) (by simp [wrap64]))))
    · refine Ev.bind he (ev_neg (fun h => absurd (show (0 : Int) = 1 from h) (by decide)) ?_)
      by_cases h0 : (a3.size : Int) > 0
      · exact ev_pos h0 (told r hf hg (.found c hc hw hn) _ (fun _ => by omega))
      · exact ev_neg h0 (told r hf hg (.found c hc hw hn) false (fun h => by cases h))
    · refine Ev.bind he (ev_neg (by decide) ?_)
      by_cases h0 : (a3.size : Int) > 0
      · exact ev_pos h0 (told r hf hg (.none hno) _ (fun _ => by omega))
      · exact ev_neg h0 (told r hf hg (.none hno) false (fun h => by cases h))
  exact h.rounds
end Go.Proofs.Ytdgeapgfpikcmaa.Hand
