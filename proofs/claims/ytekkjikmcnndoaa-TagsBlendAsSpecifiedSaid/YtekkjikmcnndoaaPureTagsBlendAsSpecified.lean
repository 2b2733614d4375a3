/- The plain statement of TagsBlendAsSpecified: the printed law answers true after some rounds; for every list of answers and every list of factors within the sizes of typed data. -/
import Derived.Test.YtekkjikmcnndoaaOpenTagsBlendAsSpecified
import Derived.Test.YtekkjikmcnndoaaM
namespace Go.Proofs.Ytekkjikmcnndoaa.Pure
open Go.RowKit Go.Proofs.YtekkjikmcnndoaaW.PrintWords Go.Proofs.YtekkjikmcnndoaaW.PrintLast Go.Proofs.Ytekkjikmcnndoaa.P Go.Proofs.Ytekkjikmcnndoaa.Lb Go.Proofs.Ytekkjikmcnndoaa.M
set_option linter.unusedVariables false
set_option linter.unusedSimpArgs false

theorem law_l1 (l : List S28) (hm8 : l.length ≤ 8) (hs : Short l) : ∀ d i : Nat, i + d = l.length → 1 ≤ i → Ev (fun k => quietuslaw43_TagsBlendAsSpecified.l1 k l i) true := by
  intro d
  induction d with
  | zero =>
    intro i hi h1
    apply Ev_succ
    simp only [quietuslaw43_TagsBlendAsSpecified.l1, if_neg (show ¬ (i : Int) < (l.length : Int) by omega)]
    exact Ev.bind sanity_ev (Ev.now _)
  | succ d ih =>
    intro i hi h1
    obtain ⟨p, rfl⟩ : ∃ p, i = p + 1 := ⟨i - 1, by omega⟩
    have e1 : wrap64 (((p + 1 : Nat) : Int) - 1) = (p : Int) := by unfold wrap64; omega
    apply Ev_succ
    simp only [quietuslaw43_TagsBlendAsSpecified.l1, e1, if_pos (show ((p + 1 : Nat) : Int) < (l.length : Int) by omega), if_pos (show 0 ≤ (p : Int) by omega), if_pos (show (p : Int) < (l.length : Int) by omega), if_pos (show 0 ≤ ((p + 1 : Nat) : Int) by omega), rd28]
    refine Ev.bind (forged_prog _ _ _ _ (hs p (by omega)) (hs (p + 1) (by omega))) ?_
    refine Ev.bind (forged_ref _ _ _ _ (hs p (by omega)) (hs (p + 1) (by omega))) ?_
    simp only [if_true, bne_self_eq_false]
    apply Ev_succ
    simp only [quietuslaw43_TagsBlendAsSpecified.j4, Bool.false_eq_true, if_false, wrap_succ (p + 1) l.length (by omega) (by omega)]
    exact ih (p + 2) (by omega) (by omega)
theorem law_short (l : List S28) (by_ : List Int) (hm8 : l.length ≤ 8) (hb8 : by_.length ≤ 8) (hs : Short l) : Ev (fun k => quietuslaw43_TagsBlendAsSpecified.l0 k l by_ l (l.length : Int) (l.length : Int)) true := by
  obtain ⟨R, hR70, h1, h2⟩ := blend_both l by_ hm8 hb8 hs
  apply Ev_succ
  simp only [quietuslaw43_TagsBlendAsSpecified.l0, if_neg (show ¬ (l.length : Int) < (l.length : Int) by omega)]
  refine Ev.bind h1 ?_
  refine Ev.bind h2 ?_
  refine Ev.bind (same_ev _ _ _ _ (by omega)) ?_
  simp only [decide_true, beq_self_eq_true, Bool.and_self, if_true, bne_self_eq_false]
  apply Ev_succ
  simp only [quietuslaw43_TagsBlendAsSpecified.j2, Bool.false_eq_true, if_false]
  by_cases h : l.length = 0
  · apply Ev_succ
    simp only [quietuslaw43_TagsBlendAsSpecified.l1, if_neg (show ¬ (1 : Int) < (l.length : Int) by omega)]
    exact Ev.bind sanity_ev (Ev.now _)
  · exact law_l1 l hm8 hs (l.length - 1) 1 (by omega) (by omega)
theorem law_l0 (l : List S28) (by_ : List Int) (hm8 : l.length ≤ 8) (hb8 : by_.length ≤ 8) : ∀ d i : Nat, i + d = l.length → (∀ q, q < i → (l.getD q z28).f0.length ≤ 70) → Ev (fun k => quietuslaw43_TagsBlendAsSpecified.l0 k l by_ l (l.length : Int) i) true := by
  intro d
  induction d with
  | zero =>
    intro i hi h
    have := law_short l by_ hm8 hb8 (fun q hq => h q (by omega))
    rwa [show i = l.length by omega]
  | succ d ih =>
    intro i hi h
    apply Ev_succ
    simp only [quietuslaw43_TagsBlendAsSpecified.l0, if_pos (show (i : Int) < (l.length : Int) by omega), if_pos (show 0 ≤ (i : Int) by omega), rd28]
    by_cases h70 : (l.getD i z28).f0.length ≤ 70
    · simp only [if_neg (show ¬ ((l.getD i z28).f0.length : Int) > 70 by omega), wrap_succ i l.length (by omega) (by omega)]
      refine ih (i + 1) (by omega) (fun q hq => ?_)
      by_cases hqi : q < i
      · exact h q hqi
      · obtain rfl : q = i := by omega
        exact h70
    · simp only [if_pos (show ((l.getD i z28).f0.length : Int) > 70 by omega)]
      exact Ev.bind sanity_ev (Ev.now _)

theorem TagsBlendAsSpecified : TagsBlendAsSpecifiedOpen.Pure := by
  intro l by_ hl hb
  apply Ev.rounds
  unfold quietuslaw43_TagsBlendAsSpecified.f
  by_cases h8 : l.length ≤ 8
  rotate_left
  · simp only [if_pos (show (l.length : Int) > 8 by omega)]
    apply Ev_succ
    simp only [quietuslaw43_TagsBlendAsSpecified.j0, if_true]
    exact Ev.bind sanity_ev (Ev.now _)
  simp only [if_neg (show ¬ (l.length : Int) > 8 by omega)]
  by_cases hb8 : by_.length ≤ 8
  rotate_left
  · apply Ev_succ
    simp only [quietuslaw43_TagsBlendAsSpecified.j0, decide_eq_true (show (by_.length : Int) > 8 by omega), if_true]
    exact Ev.bind sanity_ev (Ev.now _)
  apply Ev_succ
  simp only [quietuslaw43_TagsBlendAsSpecified.j0, decide_eq_false (show ¬ (by_.length : Int) > 8 by omega), Bool.false_eq_true, if_false]
  exact law_l0 l by_ h8 hb8 l.length 0 (by omega) (fun q hq => by omega)
end Go.Proofs.Ytekkjikmcnndoaa.Pure
