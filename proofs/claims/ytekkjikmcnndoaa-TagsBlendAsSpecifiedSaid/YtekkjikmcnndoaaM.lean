/- What the printed functions of package tag and of its specification come to, in closed form; Blend and Forged of both come to the same. For every list within the sizes that each theorem states. -/
import Derived.Test.YtekkjikmcnndoaaP19
import Derived.Test.YtekkjikmcnndoaaP12
import Derived.Test.YtekkjikmcnndoaaP16
import Derived.Test.YtekkjikmcnndoaaP7
import Derived.Test.YtekkjikmcnndoaaP5
import Derived.Test.YtekkjikmcnndoaaP6
import Derived.Test.YtekkjikmcnndoaaP3
import Derived.Test.YtekkjikmcnndoaaSa
import Derived.Test.YtekkjikmcnndoaaP14
import Derived.Test.YtekkjikmcnndoaaP17
import Derived.Test.YtekkjikmcnndoaaP13
import Derived.Test.YtekkjikmcnndoaaP20
namespace Go.Proofs.Ytekkjikmcnndoaa.M
open Go.RowKit Go.Proofs.YtekkjikmcnndoaaW.PrintWords Go.Proofs.YtekkjikmcnndoaaW.PrintLast Go.Proofs.Ytekkjikmcnndoaa.P
open Go.Proofs.Ytekkjikmcnndoaa.Ha (wildB)
set_option linter.unusedVariables false
set_option linter.unusedSimpArgs false

theorem Ev_succ {α : Type} {g : Nat → Option α} {r : α} (h : Ev (fun k => g (k + 1)) r) : Ev g r := Ev.step (fun _ => rfl) h
theorem Ev_now' {α : Type} {r s : α} (h : r = s) : Ev (fun _ => some r) s := by subst h; exact Ev.now r

theorem rd_nat (l : List Int) (i : Nat) : rd l (i : Int) = l.getD i 0 := by simp [rd]
theorem wrap_succ (i : Nat) (n : Nat) (h : i < n) (hn : n < 4611686018427387904) : wrap64 ((i : Int) + 1) = ((i + 1 : Nat) : Int) := by unfold wrap64; omega
theorem wild_f (n : Int) : tag_wild.f n = some (wildB n) := by
  unfold tag_wild.f wildB
  by_cases h : n < 0 <;> simp [h]
theorem residue_f (n : Int) : quietusref43_residue.f n = some (!wildB n) := by
  unfold quietusref43_residue.f wildB
  by_cases h : n < 0
  · rw [if_neg (by omega)]; simp [h]
  · rw [if_pos (by omega)]
    by_cases h2 : n < 2147483647
    · have h3 : ¬ 2147483647 ≤ n := by omega
      simp [h, h2, h3]
    · have h3 : 2147483647 ≤ n := by omega
      simp [h, h2, h3]
theorem wild_false {n : Int} : wildB n = false ↔ 0 ≤ n ∧ n < 2147483647 := by
  unfold wildB
  simp
theorem contains_f (l : List Int) (h : l.length ≤ 9223372036854775807) : Ha.tag_ContainsFunc_wild.f l = some (l.any wildB) := by
  unfold Ha.tag_ContainsFunc_wild.f
  rw [if_pos h]

theorem getD_ext {a b : List Int} (hl : a.length = b.length) (h : ∀ j, j < a.length → a.getD j 0 = b.getD j 0) : a = b := by
  apply List.ext_getElem hl
  intro i h1 h2
  have := h i h1
  simpa [List.getD, h1, h2] using this

theorem sameList_l0 (a b : List Int) (hl : a.length = b.length) (hb : a.length < 4611686018427387904) : ∀ d i : Nat, i + d = a.length → (∀ j, j < i → a.getD j 0 = b.getD j 0) →
    Ev (fun k => quietusref43_SameList.l0 k a b i) (decide (a = b)) := by
  intro d
  induction d with
  | zero =>
    intro i hi h
    apply Ev_succ
    simp only [quietusref43_SameList.l0, if_neg (show ¬ (i : Int) < (a.length : Int) by omega)]
    exact Ev_now' (by rw [eq_comm, decide_eq_true_eq]; exact getD_ext hl (fun j hj => h j (by omega)))
  | succ d ih =>
    intro i hi h
    apply Ev_succ
    simp only [quietusref43_SameList.l0, if_pos (show (i : Int) < (a.length : Int) by omega), if_pos (show 0 ≤ (i : Int) by omega), if_pos (show (i : Int) < (b.length : Int) by omega), rd_nat]
    by_cases he : a.getD i 0 = b.getD i 0
    · simp only [if_pos he, wrap_succ i a.length (by omega) hb]
      refine ih (i + 1) (by omega) (fun j hj => ?_)
      by_cases hji : j < i
      · exact h j hji
      · obtain rfl : j = i := by omega
        exact he
    · simp only [if_neg he]
      exact Ev_now' (by rw [eq_comm, decide_eq_false_iff_not]; rintro rfl; exact he rfl)
theorem sameList_ev (a b : List Int) (hb : a.length < 4611686018427387904) : Ev (fun k => quietusref43_SameList.f k a b) (decide (a = b)) := by
  unfold quietusref43_SameList.f
  by_cases hl : a.length = b.length
  · simp only [if_pos (show (a.length : Int) = (b.length : Int) by omega)]
    exact sameList_l0 a b hl hb a.length 0 (by omega) (fun j hj => by omega)
  · simp only [if_neg (show ¬ (a.length : Int) = (b.length : Int) by omega)]
    exact Ev_now' (by rw [eq_comm, decide_eq_false_iff_not]; rintro rfl; exact hl rfl)

theorem equal_l0 (a b : List Int) (hl : a.length = b.length) (hb : a.length < 4611686018427387904) : ∀ d i : Nat, i + d = a.length → (∀ j, j < i → a.getD j 0 = b.getD j 0) →
    Ev (fun k => slices_Equal_int_int.l0 k a b (a.length : Int) i) (decide (a = b)) := by
  intro d
  induction d with
  | zero =>
    intro i hi h
    apply Ev_succ
    simp only [slices_Equal_int_int.l0, if_neg (show ¬ (i : Int) < (a.length : Int) by omega)]
    exact Ev_now' (by rw [eq_comm, decide_eq_true_eq]; exact getD_ext hl (fun j hj => h j (by omega)))
  | succ d ih =>
    intro i hi h
    apply Ev_succ
    simp only [slices_Equal_int_int.l0, if_pos (show (i : Int) < (a.length : Int) by omega), if_pos (show 0 ≤ (i : Int) by omega), if_pos (show (i : Int) < (b.length : Int) by omega), rd_nat]
    by_cases he : a.getD i 0 = b.getD i 0
    · simp only [if_pos he, wrap_succ i a.length (by omega) hb]
      refine ih (i + 1) (by omega) (fun j hj => ?_)
      by_cases hji : j < i
      · exact h j hji
      · obtain rfl : j = i := by omega
        exact he
    · simp only [if_neg he]
      exact Ev_now' (by rw [eq_comm, decide_eq_false_iff_not]; rintro rfl; exact he rfl)
theorem equal_ev (a b : List Int) (hb : a.length < 4611686018427387904) : Ev (fun k => slices_Equal_int_int.f k a b) (decide (a = b)) := by
  unfold slices_Equal_int_int.f
  by_cases hl : a.length = b.length
  · simp only [if_pos (show (a.length : Int) = (b.length : Int) by omega)]
    exact equal_l0 a b hl hb a.length 0 (by omega) (fun j hj => by omega)
  · simp only [if_neg (show ¬ (a.length : Int) = (b.length : Int) by omega)]
    exact Ev_now' (by rw [eq_comm, decide_eq_false_iff_not]; rintro rfl; exact hl rfl)
theorem same_ev (a b : List Int) (x y : Int) (hb : a.length < 4611686018427387904) : Ev (fun k => quietusref43_Same.f k a x b y) (decide (a = b) && (x == y)) := by
  unfold quietusref43_Same.f
  refine Ev.bind (sameList_ev a b hb) ?_
  by_cases h : a = b
  · simp only [h, decide_true, if_true]
    exact Ev_now' (by simp)
  · simp only [h, decide_false, Bool.false_eq_true, if_false]
    exact Ev_now' (by simp)

theorem residues_l0 (l : List Int) (hb : l.length < 4611686018427387904) : ∀ d i : Nat, i + d = l.length → (∀ j, j < i → wildB (l.getD j 0) = false) →
    Ev (fun k => quietusref43_residues.l0 k l i) (!l.any wildB) := by
  intro d
  induction d with
  | zero =>
    intro i hi h
    apply Ev_succ
    simp only [quietusref43_residues.l0, if_neg (show ¬ (i : Int) < (l.length : Int) by omega)]
    refine Ev_now' ?_
    have : l.any wildB = false := by
      rw [List.any_eq_false]
      intro x hx
      obtain ⟨j, hj⟩ := List.getElem?_of_mem hx
      have hlt := (List.getElem?_eq_some_iff.1 hj).1
      have := h j (by omega)
      rw [List.getD_eq_getElem?_getD, hj] at this
      simpa using this
    rw [this]; rfl
  | succ d ih =>
    intro i hi h
    apply Ev_succ
    simp only [quietusref43_residues.l0, if_pos (show (i : Int) < (l.length : Int) by omega), if_pos (show 0 ≤ (i : Int) by omega), rd_nat, residue_f, Option.bind_some]
    cases hw : wildB (l.getD i 0) with
    | false =>
      simp only [Bool.not_false, if_true, wrap_succ i l.length (by omega) hb]
      refine ih (i + 1) (by omega) (fun j hj => ?_)
      by_cases hji : j < i
      · exact h j hji
      · obtain rfl : j = i := by omega
        exact hw
    | true =>
      simp only [Bool.not_true, Bool.false_eq_true, if_false]
      refine Ev_now' ?_
      have hil : i < l.length := by omega
      have : l.any wildB = true := by
        rw [List.any_eq_true]
        refine ⟨l.getD i 0, ?_, hw⟩
        rw [List.getD_eq_getElem?_getD, List.getElem?_eq_getElem hil]
        exact List.getElem_mem hil
      rw [this]; rfl
theorem residues_ev (l : List Int) (hb : l.length < 4611686018427387904) : Ev (fun k => quietusref43_residues.f k l) (!l.any wildB) := by
  unfold quietusref43_residues.f
  exact residues_l0 l hb l.length 0 (by omega) (fun j hj => by omega)

theorem plain_l0 (l : List Int) (x : Int) (hb : l.length < 17592186044416) : ∀ d i : Nat, i + d = l.length →
    Ev (fun k => tag_plain.l0 k l (l.length : Int) i (l.take i) x) (l, x) := by
  intro d
  induction d with
  | zero =>
    intro i hi
    apply Ev_succ
    simp only [tag_plain.l0, if_neg (show ¬ (i : Int) < (l.length : Int) by omega)]
    exact Ev_now' (by rw [List.take_of_length_le (by omega)])
  | succ d ih =>
    intro i hi
    apply Ev_succ
    have ht : (l.take i).length < 17592186044416 := by rw [List.length_take]; omega
    have hn : l.take i ++ [l.getD i 0] = l.take (i + 1) := by
      rw [List.take_succ_eq_append_getElem (by omega)]
      simp [List.getD, show i < l.length by omega]
    simp only [tag_plain.l0, if_pos (show (i : Int) < (l.length : Int) by omega), if_pos (show 0 ≤ (i : Int) by omega), if_pos ht, rd_nat, hn, wrap_succ i l.length (by omega) (by omega)]
    exact ih (i + 1) (by omega)
theorem plain_ev (l : List Int) (x : Int) (hb : l.length < 17592186044416) : Ev (fun k => tag_plain.f k l x) (l, x) := by
  unfold tag_plain.f
  exact plain_l0 l x hb l.length 0 (by omega)

/-- The sum of residues. -/
def sumM : Int → List Int → Int
  | a, [] => a
  | a, x :: r => sumM ((a + x) % 2147483647) r
theorem sum_l0 (l : List Int) (hr : ∀ x ∈ l, 0 ≤ x ∧ x < 2147483647) (hb : l.length < 4611686018427387904) : ∀ d i : Nat, i + d = l.length → ∀ a : Int, 0 ≤ a ∧ a < 2147483647 →
    Ev (fun k => tag_sum.l0 k a l (l.length : Int) i) (sumM a (l.drop i)) := by
  intro d
  induction d with
  | zero =>
    intro i hi a ha
    apply Ev_succ
    simp only [tag_sum.l0, if_neg (show ¬ (i : Int) < (l.length : Int) by omega)]
    exact Ev_now' (by rw [List.drop_of_length_le (by omega)]; rfl)
  | succ d ih =>
    intro i hi a ha
    have hil : i < l.length := by omega
    have hx : 0 ≤ l.getD i 0 ∧ l.getD i 0 < 2147483647 := by
      apply hr
      rw [List.getD_eq_getElem?_getD, List.getElem?_eq_getElem hil]
      exact List.getElem_mem hil
    have hd : l.drop i = l.getD i 0 :: l.drop (i + 1) := by
      rw [List.drop_eq_getElem_cons hil]
      simp [List.getD, hil]
    have hw : wrap64 (a + l.getD i 0) = a + l.getD i 0 := by unfold wrap64; omega
    apply Ev_succ
    simp only [tag_sum.l0, if_pos (show (i : Int) < (l.length : Int) by omega), if_pos (show 0 ≤ (i : Int) by omega), rd_nat, wrap_succ i l.length (by omega) hb, hw, ge_iff_le]
    rw [hd]
    by_cases h : 2147483647 ≤ a + l.getD i 0
    · have h2 : wrap64 (a + l.getD i 0 - 2147483647) = (a + l.getD i 0) % 2147483647 := by unfold wrap64; omega
      simp only [if_pos h, h2]
      exact ih (i + 1) (by omega) _ (by omega)
    · have h2 : a + l.getD i 0 = (a + l.getD i 0) % 2147483647 := by omega
      simp only [if_neg h]
      rw [h2]
      exact ih (i + 1) (by omega) _ (by omega)
theorem sum_ev (l : List Int) (hr : ∀ x ∈ l, 0 ≤ x ∧ x < 2147483647) (hb : l.length < 4611686018427387904) : Ev (fun k => tag_sum.f k l) (sumM 0 l) := by
  unfold tag_sum.f
  exact sum_l0 l hr hb l.length 0 (by omega) 0 (by omega)
theorem sum2_ev (a b : Int) (ha : 0 ≤ a ∧ a < 2147483647) (hb : 0 ≤ b ∧ b < 2147483647) : Ev (fun k => tag_sum.f k [a, b]) ((a + b) % 2147483647) := by
  have h := sum_ev [a, b] (fun x hx => by
    simp only [List.mem_cons, List.mem_nil_iff, or_false] at hx
    rcases hx with rfl | rfl <;> assumption) (by simp)
  have e : sumM 0 [a, b] = (a + b) % 2147483647 := by simp only [sumM]; omega
  rwa [e] at h
/-- The product of residues. -/
theorem times_f (a b : Int) (ha : 0 ≤ a ∧ a < 2147483647) (hb : 0 ≤ b ∧ b < 2147483647) : tag_residue_times.f a b = some (a * b % 2147483647) := by
  unfold tag_residue_times.f
  have h1 : 0 ≤ a * b := Int.mul_nonneg ha.1 hb.1
  have h2 : a * b < 4611686018427387904 := by
    have := Int.mul_le_mul (Int.le_of_lt ha.2) (Int.le_of_lt hb.2) hb.1 (by omega)
    omega
  rw [show wrap64 (a * b) = a * b by unfold wrap64; omega, Int.tmod_eq_emod_of_nonneg h1]
theorem mod_res (a : Int) : 0 ≤ a % 2147483647 ∧ a % 2147483647 < 2147483647 := by omega
end Go.Proofs.Ytekkjikmcnndoaa.M

namespace Go.Proofs.Ytekkjikmcnndoaa.M
open Go.RowKit Go.Proofs.YtekkjikmcnndoaaW.PrintWords Go.Proofs.YtekkjikmcnndoaaW.PrintLast Go.Proofs.Ytekkjikmcnndoaa.P
theorem sanity_ev : Ev (fun _ => Sa.sanity.f) true := Ev.now true
end Go.Proofs.Ytekkjikmcnndoaa.M

namespace Go.Proofs.Ytekkjikmcnndoaa.M
open Go.RowKit Go.Proofs.YtekkjikmcnndoaaW.PrintWords Go.Proofs.YtekkjikmcnndoaaW.PrintLast Go.Proofs.Ytekkjikmcnndoaa.P
open Go.Proofs.Ytekkjikmcnndoaa.Ha (wildB)
set_option linter.unusedVariables false
set_option linter.unusedSimpArgs false

/-- The sum of products modulo the prime, of the first n numbers. -/
def D (f g : Nat → Int) : Nat → Int
  | 0 => 0
  | n + 1 => (D f g n + f n * g n % 2147483647) % 2147483647
theorem D_res (f g : Nat → Int) : ∀ n, 0 ≤ D f g n ∧ D f g n < 2147483647
  | 0 => by simp [D]
  | n + 1 => by unfold D; omega
theorem rd28 (l : List S28) (i : Nat) : rd_T28 l (i : Int) = l.getD i z28 := by simp [rd_T28]
theorem rd28_0 (l : List S28) : rd_T28 l 0 = l.getD 0 z28 := rfl
theorem emod_res (a b : Int) (ha : 0 ≤ a ∧ a < 2147483647) (hb : 0 ≤ b ∧ b < 2147483647) : Int.tmod (wrap64 (a * b)) 2147483647 = a * b % 2147483647 := by
  have := times_f a b ha hb
  unfold tag_residue_times.f at this
  exact Option.some.inj this
theorem emod_add (a b : Int) (ha : 0 ≤ a ∧ a < 2147483647) (hb : 0 ≤ b ∧ b < 2147483647) : Int.tmod (wrap64 (a + b)) 2147483647 = (a + b) % 2147483647 := by
  rw [show wrap64 (a + b) = a + b by unfold wrap64; omega, Int.tmod_eq_emod_of_nonneg (by omega)]

section
variable (l : List S28) (by_ : List Int) (n : Nat)
def col (j : Nat) (i : Nat) : Int := (l.getD i z28).f0.getD j 0
def tgs (i : Nat) : Int := (l.getD i z28).f1
def fac (i : Nat) : Int := by_.getD i 0
/-- What is known of answers and factors that can be blended. -/
structure BH : Prop where
  hm : by_.length = l.length
  hm8 : l.length ≤ 8
  hn : ∀ i, i < l.length → (l.getD i z28).f0.length = n
  hn70 : n ≤ 70
  hby : ∀ i, i < l.length → 0 ≤ fac by_ i ∧ fac by_ i < 2147483647
  htg : ∀ i, i < l.length → 0 ≤ tgs l i ∧ tgs l i < 2147483647
  hcol : ∀ i, i < l.length → ∀ j, j < n → 0 ≤ col l j i ∧ col l j i < 2147483647

theorem ref_l4 (H : BH l by_ n) (out : List Int) : ∀ d i : Nat, i + d = l.length →
    Ev (fun k => quietusref43_Blend.l4 k l by_ i out (D (tgs l) (fac by_) i)) (out, D (tgs l) (fac by_) l.length, 0) := by
  obtain ⟨hm, hm8, hn, hn70, hby, htg, hcol⟩ := id H
  intro d
  induction d with
  | zero =>
    intro i hi
    apply Ev_succ
    simp only [quietusref43_Blend.l4, if_neg (show ¬ (i : Int) < (l.length : Int) by omega)]
    exact Ev_now' (by rw [show i = l.length by omega])
  | succ d ih =>
    intro i hi
    apply Ev_succ
    have h1 := hby i (by omega)
    have h2 := htg i (by omega)
    have e1 : Int.tmod (wrap64 (rd by_ (i : Int) * (rd_T28 l (i : Int)).f1)) 2147483647 = tgs l i * fac by_ i % 2147483647 := by
      rw [rd_nat, rd28]
      show Int.tmod (wrap64 (fac by_ i * tgs l i)) 2147483647 = _
      rw [emod_res _ _ h1 h2, Int.mul_comm]
    simp only [quietusref43_Blend.l4, if_pos (show (i : Int) < (l.length : Int) by omega), if_pos (show 0 ≤ (i : Int) by omega), if_pos (show (i : Int) < (by_.length : Int) by omega), e1, emod_add _ _ (D_res (tgs l) (fac by_) i) (mod_res (tgs l i * fac by_ i)), wrap_succ i l.length (by omega) (by omega)]
    exact ih (i + 1) (by omega)
theorem ref_l3 (H : BH l by_ n) (out : List Int) (t : Int) (j : Nat) (hj : j < n) (hout : out.length ≤ 70) (R : List Int × Int × Int)
    (hR : Ev (fun k => quietusref43_Blend.l2 k l by_ ((j + 1 : Nat) : Int) (out ++ [D (col l j) (fac by_) l.length]) t) R) : ∀ d i : Nat, i + d = l.length →
    Ev (fun k => quietusref43_Blend.l3 k l by_ j (D (col l j) (fac by_) i) i out t) R := by
  obtain ⟨hm, hm8, hn, hn70, hby, htg, hcol⟩ := id H
  intro d
  induction d with
  | zero =>
    intro i hi
    apply Ev_succ
    simp only [quietusref43_Blend.l3, if_neg (show ¬ (i : Int) < (l.length : Int) by omega), if_pos (show out.length < 17592186044416 by omega), wrap_succ j n hj (by omega)]
    rw [show i = l.length by omega]
    exact hR
  | succ d ih =>
    intro i hi
    apply Ev_succ
    have h1 := hby i (by omega)
    have h2 := hcol i (by omega) j hj
    have hl := hn i (by omega)
    have e1 : Int.tmod (wrap64 (rd by_ (i : Int) * rd (rd_T28 l (i : Int)).f0 (j : Int))) 2147483647 = col l j i * fac by_ i % 2147483647 := by
      rw [rd_nat, rd28, rd_nat]
      show Int.tmod (wrap64 (fac by_ i * col l j i)) 2147483647 = _
      rw [emod_res _ _ h1 h2, Int.mul_comm]
    simp only [quietusref43_Blend.l3, if_pos (show (i : Int) < (l.length : Int) by omega), if_pos (show 0 ≤ (i : Int) by omega), if_pos (show (i : Int) < (by_.length : Int) by omega), if_pos (show 0 ≤ (j : Int) by omega), if_pos (show (j : Int) < ((rd_T28 l (i : Int)).f0.length : Int) by rw [rd28, hl]; omega), e1, emod_add _ _ (D_res (col l j) (fac by_) i) (mod_res (col l j i * fac by_ i)), wrap_succ i l.length (by omega) (by omega)]
    exact ih (i + 1) (by omega)
def sums (j : Nat) : List Int := (List.range j).map fun j => D (col l j) (fac by_) l.length
theorem sums_succ (j : Nat) : sums l by_ (j + 1) = sums l by_ j ++ [D (col l j) (fac by_) l.length] := by
  unfold sums
  rw [List.range_succ, List.map_append]; rfl
theorem sums_length (j : Nat) : (sums l by_ j).length = j := by simp [sums]
theorem ref_l2 (H : BH l by_ n) (h0 : 0 < l.length) : ∀ d j : Nat, j + d = n →
    Ev (fun k => quietusref43_Blend.l2 k l by_ j (sums l by_ j) 0) (sums l by_ n, D (tgs l) (fac by_) l.length, 0) := by
  obtain ⟨hm, hm8, hn, hn70, hby, htg, hcol⟩ := id H
  intro d
  induction d with
  | zero =>
    intro j hj
    apply Ev_succ
    have hl := hn 0 h0
    simp only [quietusref43_Blend.l2, if_pos (show 0 < (l.length : Int) by omega), if_neg (show ¬ (j : Int) < ((rd_T28 l 0).f0.length : Int) by rw [rd28_0, hl]; omega)]
    have := ref_l4 l by_ n H (sums l by_ j) l.length 0 (by omega)
    rw [show j = n by omega] at this ⊢
    exact this
  | succ d ih =>
    intro j hj
    apply Ev_succ
    have hl := hn 0 h0
    simp only [quietusref43_Blend.l2, if_pos (show 0 < (l.length : Int) by omega), if_pos (show (j : Int) < ((rd_T28 l 0).f0.length : Int) by rw [rd28_0, hl]; omega)]
    refine ref_l3 l by_ n H (sums l by_ j) 0 j (by omega) (by rw [sums_length]; omega) _ ?_ l.length 0 (by omega)
    rw [← sums_succ]
    exact ih (j + 1) (by omega)

/-! the program's loops -/
def mid (i j : Nat) : List Int := (List.range n).map fun j' => if j' < j then D (col l j') (fac by_) (i + 1) else D (col l j') (fac by_) i
theorem mid_get (i j j' : Nat) (h : j' < n) : (mid l by_ n i j).getD j' 0 = if j' < j then D (col l j') (fac by_) (i + 1) else D (col l j') (fac by_) i := by
  simp [mid, List.getD, h]
theorem mid_length (i j : Nat) : (mid l by_ n i j).length = n := by simp [mid]
theorem mid_set (i j : Nat) (h : j < n) : (mid l by_ n i j).set j (D (col l j) (fac by_) (i + 1)) = mid l by_ n i (j + 1) := by
  apply getD_ext
  · simp [mid_length]
  · intro q hq
    rw [List.length_set, mid_length] at hq
    rw [mid_get _ _ _ _ _ _ hq]
    rw [List.getD_eq_getElem?_getD, List.getElem?_set]
    by_cases hqj : j = q
    · subst hqj
      rw [mid_length]
      simp [h]
    · rw [if_neg hqj, ← List.getD_eq_getElem?_getD, mid_get _ _ _ _ _ _ hq]
      by_cases h1 : q < j
      · rw [if_pos h1, if_pos (by omega)]
      · rw [if_neg h1, if_neg (by omega)]
theorem mid_full (i : Nat) : mid l by_ n i n = mid l by_ n (i + 1) 0 := by
  unfold mid
  apply List.map_congr_left
  intro j hj
  rw [List.mem_range] at hj
  simp [hj]
theorem prog_l2 (H : BH l by_ n) (i : Nat) (hi : i < l.length) (R : List Int × Int × Int)
    (hR : Ev (fun k => tag_Blend.l1 k by_ (mid l by_ n i n) (D (tgs l) (fac by_) (i + 1)) l (l.length : Int) ((i + 1 : Nat) : Int)) R) : ∀ d j : Nat, j + d = n →
    Ev (fun k => tag_Blend.l2 k by_ (mid l by_ n i j) (D (tgs l) (fac by_) i) i l (l.length : Int) i (l.getD i z28).f0 ((l.getD i z28).f0.length : Int) j (l.getD i z28).f0 (l.getD i z28).f1) R := by
  obtain ⟨hm, hm8, hn, hn70, hby, htg, hcol⟩ := id H
  have hl := hn i hi
  have h1 := hby i hi
  have h2 := htg i hi
  intro d
  induction d with
  | zero =>
    intro j hj
    apply Ev_succ
    have e1 : tag_residue_times.f (l.getD i z28).f1 (rd by_ (i : Int)) = some (tgs l i * fac by_ i % 2147483647) := by
      rw [rd_nat]
      exact times_f _ _ h2 h1
    simp only [tag_Blend.l2, if_neg (show ¬ (j : Int) < ((l.getD i z28).f0.length : Int) by rw [hl]; omega), if_pos (show 0 ≤ (i : Int) by omega), if_pos (show (i : Int) < (by_.length : Int) by omega), e1, Option.bind_some]
    refine Ev.bind (sum2_ev _ _ (D_res (tgs l) (fac by_) i) (mod_res _)) ?_
    simp only [wrap_succ i l.length hi (by omega)]
    rw [show j = n by omega]
    exact hR
  | succ d ih =>
    intro j hj
    apply Ev_succ
    have h3 := hcol i hi j (by omega)
    have e1 : tag_residue_times.f (rd (l.getD i z28).f0 (j : Int)) (rd by_ (i : Int)) = some (col l j i * fac by_ i % 2147483647) := by
      rw [rd_nat, rd_nat]
      exact times_f _ _ h3 h1
    have e2 : rd (mid l by_ n i j) (j : Int) = D (col l j) (fac by_) i := by
      rw [rd_nat, mid_get _ _ _ _ _ _ (by omega), if_neg (by omega)]
    simp only [tag_Blend.l2, if_pos (show (j : Int) < ((l.getD i z28).f0.length : Int) by rw [hl]; omega), if_pos (show 0 ≤ (j : Int) by omega), if_pos (show (j : Int) < ((mid l by_ n i j).length : Int) by rw [mid_length]; omega), if_pos (show 0 ≤ (i : Int) by omega), if_pos (show (i : Int) < (by_.length : Int) by omega), e1, e2, Option.bind_some]
    refine Ev.bind (sum2_ev _ _ (D_res (col l j) (fac by_) i) (mod_res _)) ?_
    simp only [wrap_succ j n (by omega) (by omega), Int.toNat_natCast]
    have := mid_set l by_ n i j (by omega)
    unfold D at this
    rw [this]
    exact ih (j + 1) (by omega)
theorem prog_l1 (H : BH l by_ n) : ∀ d i : Nat, i + d = l.length →
    Ev (fun k => tag_Blend.l1 k by_ (mid l by_ n i 0) (D (tgs l) (fac by_) i) l (l.length : Int) i) (sums l by_ n, D (tgs l) (fac by_) l.length, 0) := by
  obtain ⟨hm, hm8, hn, hn70, hby, htg, hcol⟩ := id H
  intro d
  induction d with
  | zero =>
    intro i hi
    apply Ev_succ
    simp only [tag_Blend.l1, if_neg (show ¬ (i : Int) < (l.length : Int) by omega)]
    have hs : mid l by_ n i 0 = sums l by_ n := by
      unfold mid sums
      rw [show i = l.length by omega]
      simp
    rw [hs, show i = l.length by omega]
    refine Ev.bind (plain_ev _ _ (by rw [sums_length]; omega)) ?_
    exact Ev_now' rfl
  | succ d ih =>
    intro i hi
    apply Ev_succ
    simp only [tag_Blend.l1, if_pos (show (i : Int) < (l.length : Int) by omega), if_pos (show 0 ≤ (i : Int) by omega), rd28]
    refine prog_l2 l by_ n H i (by omega) _ ?_ n 0 (by omega)
    rw [mid_full]
    exact ih (i + 1) (by omega)
end
end Go.Proofs.Ytekkjikmcnndoaa.M

namespace Go.Proofs.Ytekkjikmcnndoaa.M
open Go.RowKit Go.Proofs.YtekkjikmcnndoaaW.PrintWords Go.Proofs.YtekkjikmcnndoaaW.PrintLast Go.Proofs.Ytekkjikmcnndoaa.P
open Go.Proofs.Ytekkjikmcnndoaa.Ha (wildB)
set_option linter.unusedVariables false
set_option linter.unusedSimpArgs false

def badA (a : S28) : Bool := wildB a.f1 || a.f0.any wildB
section
variable (l : List S28) (by_ : List Int)
/-- The lengths of all sums are at most 70. -/
def Short : Prop := ∀ i, i < l.length → (l.getD i z28).f0.length ≤ 70
theorem prog_mis (hm8 : l.length ≤ 8) (hs : Short l) (R : List Int × Int × Int) (hR : R = ([], 0, 1)) : ∀ d i : Nat, i + d = l.length → (∃ q, i ≤ q ∧ q < l.length ∧ (l.getD q z28).f0.length ≠ (l.getD 0 z28).f0.length) → ∀ b,
    Ev (fun k => tag_Blend.l0 k l by_ b l (l.length : Int) i) R := by
  intro d
  induction d with
  | zero => intro i hi ⟨q, h1, h2, _⟩; omega
  | succ d ih =>
    intro i hi hq b
    apply Ev_succ
    simp only [tag_Blend.l0, if_pos (show (i : Int) < (l.length : Int) by omega), if_pos (show 0 ≤ (i : Int) by omega), if_pos (show (0 : Int) < (l.length : Int) by omega), rd28, rd28_0]
    by_cases he : (l.getD i z28).f0.length = (l.getD 0 z28).f0.length
    · have hq2 : ∃ q, i + 1 ≤ q ∧ q < l.length ∧ (l.getD q z28).f0.length ≠ (l.getD 0 z28).f0.length := by
        obtain ⟨q, h1, h2, h3⟩ := hq
        refine ⟨q, ?_, h2, h3⟩
        rcases Nat.lt_or_ge i q with h | h
        · exact h
        · obtain rfl : q = i := by omega
          exact absurd he h3
      have hg := fun b => ih (i + 1) (by omega) hq2 b
      have hsi := hs i (by omega)
      simp only [if_pos (show ((l.getD i z28).f0.length : Int) = ((l.getD 0 z28).f0.length : Int) by omega), wrap_succ i l.length (by omega) (by omega), wild_f, Option.bind_some, contains_f _ (show (l.getD i z28).f0.length ≤ 9223372036854775807 by omega)]
      cases b with
      | true => simp only [if_true]; exact hg _
      | false =>
        simp only [Bool.false_eq_true, if_false]
        cases wildB (l.getD i z28).f1 with
        | true => simp only [if_true]; exact hg _
        | false => simp only [Bool.false_eq_true, if_false]; exact hg _
    · simp only [if_neg (show ¬ ((l.getD i z28).f0.length : Int) = ((l.getD 0 z28).f0.length : Int) by omega)]
      exact Ev_now' hR.symm
theorem prog_flag (hm8 : l.length ≤ 8) (hs : Short l) (hl : ∀ q, q < l.length → (l.getD q z28).f0.length = (l.getD 0 z28).f0.length) (R : List Int × Int × Int) (B : Bool)
    (hR : Ev (fun k => tag_Blend.l0 k l by_ B l (l.length : Int) (l.length : Int)) R) : ∀ d i : Nat, i + d = l.length → ∀ b, (b || (l.drop i).any badA) = B →
    Ev (fun k => tag_Blend.l0 k l by_ b l (l.length : Int) i) R := by
  intro d
  induction d with
  | zero =>
    intro i hi b hb
    rw [List.drop_of_length_le (by omega)] at hb
    simp at hb
    subst hb
    rw [show i = l.length by omega]
    exact hR
  | succ d ih =>
    intro i hi b hb
    have hil : i < l.length := by omega
    have hd : l.drop i = l.getD i z28 :: l.drop (i + 1) := by
      rw [List.drop_eq_getElem_cons hil]
      simp [List.getD, hil]
    rw [hd, List.any_cons] at hb
    have he := hl i hil
    have hsi := hs i hil
    apply Ev_succ
    simp only [tag_Blend.l0, if_pos (show (i : Int) < (l.length : Int) by omega), if_pos (show 0 ≤ (i : Int) by omega), if_pos (show (0 : Int) < (l.length : Int) by omega), rd28, rd28_0, if_pos (show ((l.getD i z28).f0.length : Int) = ((l.getD 0 z28).f0.length : Int) by omega), wrap_succ i l.length (by omega) (by omega), wild_f, Option.bind_some, contains_f _ (show (l.getD i z28).f0.length ≤ 9223372036854775807 by omega)]
    cases b with
    | true => simp only [if_true]; exact ih (i + 1) (by omega) _ (by simpa using hb)
    | false =>
      simp only [Bool.false_eq_true, if_false]
      have hb2 : (wildB (l.getD i z28).f1 || (l.getD i z28).f0.any wildB || (l.drop (i + 1)).any badA) = B := by rw [← hb]; simp [badA]
      cases hw : wildB (l.getD i z28).f1 with
      | true => simp only [if_true]; exact ih (i + 1) (by omega) _ (by rw [hw] at hb2; simpa using hb2)
      | false => simp only [Bool.false_eq_true, if_false]; exact ih (i + 1) (by omega) _ (by rw [hw] at hb2; simpa using hb2)
theorem ref_mis (hm8 : l.length ≤ 8) : ∀ d i : Nat, i + d = l.length → (∃ q, i ≤ q ∧ q < l.length ∧ (l.getD q z28).f0.length ≠ (l.getD 0 z28).f0.length) →
    Ev (fun k => quietusref43_Blend.l0 k l by_ i) ([], 0, 1) := by
  intro d
  induction d with
  | zero => intro i hi ⟨q, h1, h2, _⟩; omega
  | succ d ih =>
    intro i hi hq
    apply Ev_succ
    simp only [quietusref43_Blend.l0, if_pos (show (i : Int) < (l.length : Int) by omega), if_pos (show 0 ≤ (i : Int) by omega), if_pos (show (0 : Int) < (l.length : Int) by omega), rd28, rd28_0]
    by_cases he : (l.getD i z28).f0.length = (l.getD 0 z28).f0.length
    · have hq2 : ∃ q, i + 1 ≤ q ∧ q < l.length ∧ (l.getD q z28).f0.length ≠ (l.getD 0 z28).f0.length := by
        obtain ⟨q, h1, h2, h3⟩ := hq
        refine ⟨q, ?_, h2, h3⟩
        rcases Nat.lt_or_ge i q with h | h
        · exact h
        · obtain rfl : q = i := by omega
          exact absurd he h3
      simp only [if_pos (show ((l.getD i z28).f0.length : Int) = ((l.getD 0 z28).f0.length : Int) by omega), wrap_succ i l.length (by omega) (by omega)]
      exact ih (i + 1) (by omega) hq2
    · simp only [if_neg (show ¬ ((l.getD i z28).f0.length : Int) = ((l.getD 0 z28).f0.length : Int) by omega)]
      exact Ev.now _
theorem ref_l0 (hm8 : l.length ≤ 8) (hl : ∀ q, q < l.length → (l.getD q z28).f0.length = (l.getD 0 z28).f0.length) (R : List Int × Int × Int)
    (hR : Ev (fun k => quietusref43_Blend.l1 k l by_ 0) R) : ∀ d i : Nat, i + d = l.length → Ev (fun k => quietusref43_Blend.l0 k l by_ i) R := by
  intro d
  induction d with
  | zero =>
    intro i hi
    apply Ev_succ
    simp only [quietusref43_Blend.l0, if_neg (show ¬ (i : Int) < (l.length : Int) by omega)]
    exact hR
  | succ d ih =>
    intro i hi
    have he := hl i (by omega)
    apply Ev_succ
    simp only [quietusref43_Blend.l0, if_pos (show (i : Int) < (l.length : Int) by omega), if_pos (show 0 ≤ (i : Int) by omega), if_pos (show (0 : Int) < (l.length : Int) by omega), rd28, rd28_0, if_pos (show ((l.getD i z28).f0.length : Int) = ((l.getD 0 z28).f0.length : Int) by omega), wrap_succ i l.length (by omega) (by omega)]
    exact ih (i + 1) (by omega)
def badI (i : Nat) : Bool := wildB (by_.getD i 0) || badA (l.getD i z28)
theorem ref_l1 (hm8 : l.length ≤ 8) (hm : by_.length = l.length) (hs : Short l) : ∀ d i : Nat, i + d = l.length →
    ((∃ q, i ≤ q ∧ q < l.length ∧ badI l by_ q = true) → Ev (fun k => quietusref43_Blend.l1 k l by_ i) ([], 0, 3)) ∧ (∀ R, Ev (fun k => quietusref43_Blend.l2 k l by_ 0 [] 0) R → (∀ q, i ≤ q → q < l.length → badI l by_ q = false) → Ev (fun k => quietusref43_Blend.l1 k l by_ i) R) := by
  intro d
  induction d with
  | zero =>
    intro i hi
    refine ⟨fun ⟨q, h1, h2, _⟩ => by omega, fun R hR _ => ?_⟩
    apply Ev_succ
    simp only [quietusref43_Blend.l1, if_neg (show ¬ (i : Int) < (l.length : Int) by omega)]
    exact hR
  | succ d ih =>
    intro i hi
    obtain ⟨ih1, ih2⟩ := ih (i + 1) (by omega)
    have hsi := hs i (by omega)
    have key : ∀ S, (badI l by_ i = true → S = ([], 0, 3)) → (badI l by_ i = false → Ev (fun k => quietusref43_Blend.l1 k l by_ ((i + 1 : Nat) : Int)) S) → Ev (fun k => quietusref43_Blend.l1 k l by_ i) S := by
      intro S h3 h4
      apply Ev_succ
      simp only [quietusref43_Blend.l1, if_pos (show (i : Int) < (l.length : Int) by omega), if_pos (show 0 ≤ (i : Int) by omega), if_pos (show (i : Int) < (by_.length : Int) by omega), rd28, rd_nat, residue_f, Option.bind_some]
      refine Ev.bind (residues_ev _ (by omega)) ?_
      cases w1 : wildB (by_.getD i 0) with
      | true =>
        simp only [Bool.not_true, Bool.false_eq_true, if_false]
        apply Ev_succ
        simp only [quietusref43_Blend.j3, if_true]
        exact Ev_now' (h3 (by simp [badI, w1, -List.getD_eq_getElem?_getD])).symm
      | false =>
        simp only [Bool.not_false, if_true]
        cases w2 : (l.getD i z28).f0.any wildB with
        | true =>
          simp only [Bool.not_true, Bool.false_eq_true, if_false]
          apply Ev_succ
          simp only [quietusref43_Blend.j3, if_true]
          exact Ev_now' (h3 (by unfold badI badA; rw [w2]; simp)).symm
        | false =>
          simp only [Bool.not_false, if_true, Bool.not_not]
          apply Ev_succ
          cases w3 : wildB (l.getD i z28).f1 with
          | true =>
            simp only [quietusref43_Blend.j3, if_true]
            exact Ev_now' (h3 (by unfold badI badA; rw [w3]; simp)).symm
          | false =>
            simp only [quietusref43_Blend.j3, Bool.false_eq_true, if_false, wrap_succ i l.length (by omega) (by omega)]
            exact h4 (by unfold badI badA; rw [w1, w2, w3]; rfl)
    refine ⟨fun ⟨q, h1, h2, h3⟩ => key _ (fun _ => rfl) (fun hb => ih1 ⟨q, ?_, h2, h3⟩), fun R hR h => key _ (fun hb => ?_) (fun _ => ih2 R hR (fun q h1 h2 => h q (by omega) h2))⟩
    · rcases Nat.lt_or_ge i q with h | h
      · exact h
      · obtain rfl : q = i := by omega
        rw [hb] at h3
        cases h3
    · rw [h i (Nat.le_refl _) (by omega)] at hb
      cases hb

theorem any_iff (p : Int → Bool) (x : List Int) : x.any p = true ↔ ∃ j, j < x.length ∧ p (x.getD j 0) = true := by
  rw [List.any_eq_true]
  constructor
  · rintro ⟨v, hv, hp⟩
    obtain ⟨j, hj⟩ := List.getElem?_of_mem hv
    have hlt := (List.getElem?_eq_some_iff.1 hj).1
    exact ⟨j, hlt, by rw [List.getD_eq_getElem?_getD, hj]; exact hp⟩
  · rintro ⟨j, hj, hp⟩
    rw [List.getD_eq_getElem?_getD, List.getElem?_eq_getElem hj] at hp
    exact ⟨x[j], List.getElem_mem hj, hp⟩
theorem anyA_iff (p : S28 → Bool) (x : List S28) : x.any p = true ↔ ∃ j, j < x.length ∧ p (x.getD j z28) = true := by
  rw [List.any_eq_true]
  constructor
  · rintro ⟨v, hv, hp⟩
    obtain ⟨j, hj⟩ := List.getElem?_of_mem hv
    have hlt := (List.getElem?_eq_some_iff.1 hj).1
    exact ⟨j, hlt, by rw [List.getD_eq_getElem?_getD, hj]; exact hp⟩
  · rintro ⟨j, hj, hp⟩
    rw [List.getD_eq_getElem?_getD, List.getElem?_eq_getElem hj] at hp
    exact ⟨x[j], List.getElem_mem hj, hp⟩

/-- Both Blends come to one result. -/
theorem blend_both (hm8 : l.length ≤ 8) (hb8 : by_.length ≤ 8) (hs : Short l) : ∃ R : List Int × Int × Int, R.1.length ≤ 70 ∧ Ev (fun k => tag_Blend.f k l by_) R ∧ Ev (fun k => quietusref43_Blend.f k l by_) R := by
  have fin : ∀ b : Bool, b = true → ∃ R : List Int × Int × Int, R.1.length ≤ 70 ∧ Ev (fun k => tag_Blend.j0 k l by_ b) R ∧ Ev (fun k => quietusref43_Blend.j0 k l by_ b) R := by
    rintro b rfl
    refine ⟨([], 0, 1), by simp, Ev_succ ?_, Ev_succ ?_⟩
    · simp only [tag_Blend.j0, if_true]; exact Ev.now _
    · simp only [quietusref43_Blend.j0, if_true]; exact Ev.now _
  unfold tag_Blend.f quietusref43_Blend.f
  by_cases h0 : l.length = 0
  · simp only [if_pos (show (l.length : Int) = 0 by omega)]
    exact fin true rfl
  simp only [if_neg (show ¬ (l.length : Int) = 0 by omega)]
  by_cases hm : by_.length = l.length
  rotate_left
  · exact fin _ (by simp; omega)
  have hbf : ((by_.length : Int) != (l.length : Int)) = false := by simp; omega
  rw [hbf]
  have start : ∀ R, Ev (fun k => tag_Blend.l0 k l by_ (by_.any wildB) l (l.length : Int) ((0 : Nat) : Int)) R → Ev (fun k => quietusref43_Blend.l0 k l by_ ((0 : Nat) : Int)) R →
      Ev (fun k => tag_Blend.j0 k l by_ false) R ∧ Ev (fun k => quietusref43_Blend.j0 k l by_ false) R := by
    intro R h1 h2
    refine ⟨Ev_succ ?_, Ev_succ ?_⟩
    · simp only [tag_Blend.j0, Bool.false_eq_true, if_false, contains_f _ (show by_.length ≤ 9223372036854775807 by omega), Option.bind_some]
      exact h1
    · simp only [quietusref43_Blend.j0, Bool.false_eq_true, if_false]
      exact h2
  by_cases hl : ∀ q, q < l.length → (l.getD q z28).f0.length = (l.getD 0 z28).f0.length
  rotate_left
  · have hq : ∃ q, 0 ≤ q ∧ q < l.length ∧ (l.getD q z28).f0.length ≠ (l.getD 0 z28).f0.length := by
      apply Classical.byContradiction
      intro hn
      apply hl
      intro q hq
      apply Classical.byContradiction
      intro hne
      exact hn ⟨q, Nat.zero_le _, hq, hne⟩
    exact ⟨([], 0, 1), by simp, start _ (prog_mis l by_ hm8 hs _ rfl l.length 0 (by omega) hq _) (ref_mis l by_ hm8 l.length 0 (by omega) hq)⟩
  by_cases hbad : ∃ q, 0 ≤ q ∧ q < l.length ∧ badI l by_ q = true
  · refine ⟨([], 0, 3), by simp, start _ ?_ ?_⟩
    · refine prog_flag l by_ hm8 hs hl _ true ?_ l.length 0 (by omega) _ ?_
      · apply Ev_succ
        simp only [tag_Blend.l0, if_neg (show ¬ (l.length : Int) < (l.length : Int) by omega), if_true]
        exact Ev.now _
      · obtain ⟨q, _, hq, hb⟩ := hbad
        unfold badI at hb
        rw [Bool.or_eq_true] at hb ⊢
        rcases hb with hb | hb
        · exact Or.inl ((any_iff _ _).2 ⟨q, by omega, hb⟩)
        · exact Or.inr (by rw [List.drop_zero]; exact (anyA_iff _ _).2 ⟨q, hq, hb⟩)
    · exact ref_l0 l by_ hm8 hl _ ((ref_l1 l by_ hm8 hm hs l.length 0 (by omega)).1 hbad) l.length 0 (by omega)
  · have hgood : ∀ q, 0 ≤ q → q < l.length → badI l by_ q = false := fun q h1 h2 => by
      cases hb : badI l by_ q with
      | false => rfl
      | true => exact absurd ⟨q, h1, h2, hb⟩ hbad
    have hres : ∀ i, i < l.length → wildB (by_.getD i 0) = false ∧ wildB (l.getD i z28).f1 = false ∧ (l.getD i z28).f0.any wildB = false := fun i hi => by
      have h := hgood i (Nat.zero_le _) hi
      unfold badI badA at h
      simp only [Bool.or_eq_false_iff] at h
      exact h
    have H : BH l by_ (l.getD 0 z28).f0.length := {
      hm := hm
      hm8 := hm8
      hn := hl
      hn70 := hs 0 (by omega)
      hby := fun i hi => wild_false.1 (hres i hi).1
      htg := fun i hi => wild_false.1 (hres i hi).2.1
      hcol := fun i hi j hj => wild_false.1 (by
        have h := (hres i hi).2.2
        cases hw : wildB (col l j i) with
        | false => rfl
        | true =>
          have h2 : (l.getD i z28).f0.any wildB = true := (any_iff _ _).2 ⟨j, by rw [hl i hi]; exact hj, hw⟩
          rw [h] at h2
          cases h2) }
    refine ⟨(sums l by_ (l.getD 0 z28).f0.length, D (tgs l) (fac by_) l.length, 0), by rw [sums_length]; exact H.hn70, start _ ?_ ?_⟩
    · refine prog_flag l by_ hm8 hs hl _ false ?_ l.length 0 (by omega) _ ?_
      · apply Ev_succ
        have hz : List.replicate (((l.getD 0 z28).f0.length : Int)).toNat (0 : Int) = mid l by_ (l.getD 0 z28).f0.length 0 0 := by
          apply getD_ext
          · simp [mid_length]
          · intro q hq
            have hq2 : q < (l.getD 0 z28).f0.length := by simpa using hq
            rw [mid_get _ _ _ _ _ _ hq2]
            simp only [Nat.not_lt_zero, if_false]
            show _ = D _ _ 0
            rw [List.getD_eq_getElem?_getD, List.getElem?_replicate, if_pos (by simpa using hq)]
            rfl
        have h70 := hs 0 (by omega)
        simp only [tag_Blend.l0, if_neg (show ¬ (l.length : Int) < (l.length : Int) by omega), Bool.false_eq_true, if_false, if_pos (show (0 : Int) < (l.length : Int) by omega), rd28_0, if_pos (show 0 ≤ ((l.getD 0 z28).f0.length : Int) by omega), if_pos (show (((l.getD 0 z28).f0.length : Int)).toNat ≤ 35184372088832 by omega), hz]
        exact prog_l1 l by_ _ H l.length 0 (by omega)
      · rw [List.drop_zero, Bool.or_eq_false_iff]
        constructor
        · cases hw : by_.any wildB with
          | false => rfl
          | true =>
            obtain ⟨j, hj, hp⟩ := (any_iff _ _).1 hw
            rw [(hres j (by omega)).1] at hp
            cases hp
        · cases hw : l.any badA with
          | false => rfl
          | true =>
            obtain ⟨j, hj, hp⟩ := (anyA_iff _ _).1 hw
            unfold badA at hp
            rw [(hres j hj).2.1, (hres j hj).2.2] at hp
            cases hp
    · exact ref_l0 l by_ hm8 hl _ ((ref_l1 l by_ hm8 hm hs l.length 0 (by omega)).2 _ (ref_l2 l by_ _ H (by omega) (l.getD 0 z28).f0.length 0 (by omega)) hgood) l.length 0 (by omega)
end
end Go.Proofs.Ytekkjikmcnndoaa.M

namespace Go.Proofs.Ytekkjikmcnndoaa.M
open Go.RowKit Go.Proofs.YtekkjikmcnndoaaW.PrintWords Go.Proofs.YtekkjikmcnndoaaW.PrintLast Go.Proofs.Ytekkjikmcnndoaa.P
open Go.Proofs.Ytekkjikmcnndoaa.Ha (wildB)
set_option linter.unusedVariables false
set_option linter.unusedSimpArgs false

/-- What Forged returns. -/
def forgedS (a : List Int) (x : Int) (b : List Int) (y : Int) : Int × Bool :=
  if a.length = 0 ∨ a.length ≠ b.length ∨ wildB x = true ∨ wildB y = true ∨ a.any wildB = true ∨ b.any wildB = true then (0, false)
  else if a = b then if x = y then ((a.length : Int), true) else (0, false) else (wrap64 ((a.length : Int) - 1), true)

theorem forgedS_good (a b : List Int) (x y : Int) (h0 : ¬ a.length = 0) (hl : a.length = b.length) (w1 : wildB x = false) (w2 : wildB y = false) (w3 : a.any wildB = false) (w4 : b.any wildB = false) :
    forgedS a x b y = if a = b then if x = y then ((a.length : Int), true) else (0, false) else (wrap64 ((a.length : Int) - 1), true) := by
  unfold forgedS
  refine if_neg ?_
  rw [w1, w2, w3, w4]
  rintro (h | h | h | h | h | h)
  · exact h0 h
  · exact h hl
  all_goals cases h

theorem forged_prog (a b : List Int) (x y : Int) (ha : a.length ≤ 70) (hb : b.length ≤ 70) : Ev (fun k => tag_Forged.f k a x b y) (forgedS a x b y) := by
  have hbad : forgedS a x b y = (0, false) → Ev (fun k => tag_Forged.j0 k (a.length : Int) true a x b y) (forgedS a x b y) := by
    intro h
    rw [h]
    apply Ev_succ
    simp only [tag_Forged.j0, if_true]
    exact Ev.now _
  unfold tag_Forged.f
  by_cases h0 : a.length = 0
  · simp only [if_pos (show (a.length : Int) = 0 by omega)]
    exact hbad (by unfold forgedS; rw [if_pos (Or.inl h0)])
  simp only [if_neg (show ¬ (a.length : Int) = 0 by omega)]
  by_cases hl : a.length = b.length
  rotate_left
  · simp only [if_neg (show ¬ (a.length : Int) = (b.length : Int) by omega)]
    exact hbad (by unfold forgedS; rw [if_pos (Or.inr (Or.inl hl))])
  simp only [if_pos (show (a.length : Int) = (b.length : Int) by omega), wild_f, Option.bind_some, contains_f _ (show a.length ≤ 9223372036854775807 by omega), contains_f _ (show b.length ≤ 9223372036854775807 by omega)]
  cases w1 : wildB x with
  | true => simp only [if_true]; exact hbad (by unfold forgedS; rw [if_pos (by simp [w1])])
  | false =>
    simp only [Bool.false_eq_true, if_false]
    cases w2 : wildB y with
    | true => simp only [if_true]; exact hbad (by unfold forgedS; rw [if_pos (by simp [w2])])
    | false =>
      simp only [Bool.false_eq_true, if_false]
      cases w3 : a.any wildB with
      | true => simp only [if_true]; exact hbad (by unfold forgedS; rw [if_pos (by rw [w3]; simp)])
      | false =>
        simp only [Bool.false_eq_true, if_false]
        cases w4 : b.any wildB with
        | true => exact hbad (by unfold forgedS; rw [if_pos (by rw [w4]; simp)])
        | false =>
          apply Ev_succ
          simp only [tag_Forged.j0, Bool.false_eq_true, if_false]
          refine Ev.bind (equal_ev a b (by omega)) ?_
          rw [forgedS_good a b x y h0 hl w1 w2 w3 w4]
          by_cases he : a = b
          · simp only [decide_eq_true he, if_true, if_pos he]
            by_cases hx : x = y
            · simp only [if_pos hx]; exact Ev.now _
            · simp only [if_neg hx]; exact Ev.now _
          · simp only [decide_eq_false he, Bool.false_eq_true, if_false, if_neg he]
            exact Ev.now _
theorem forged_l0 (a b : List Int) (x y : Int) (ha : a.length ≤ 70) (hl : a.length = b.length) : ∀ d i : Nat, i + d = a.length → ∀ s : Bool, (s = true ↔ ∀ j, j < i → a.getD j 0 = b.getD j 0) →
    Ev (fun k => quietusref43_Forged.l0 k s i a x b y) (if a = b then if x = y then ((a.length : Int), true) else (0, false) else (wrap64 ((a.length : Int) - 1), true)) := by
  intro d
  induction d with
  | zero =>
    intro i hi s hs
    have he : s = true ↔ a = b := by
      rw [hs]
      constructor
      · intro h; exact getD_ext hl (fun j hj => h j (by omega))
      · rintro rfl j _; rfl
    apply Ev_succ
    simp only [quietusref43_Forged.l0, if_neg (show ¬ (i : Int) < (a.length : Int) by omega)]
    by_cases h : a = b
    · simp only [if_pos (he.2 h), if_pos h]
      by_cases hx : x = y
      · simp only [if_pos hx]; exact Ev.now _
      · simp only [if_neg hx]; exact Ev.now _
    · simp only [if_neg (show ¬ s = true from fun hh => h (he.1 hh)), if_neg h]
      exact Ev.now _
  | succ d ih =>
    intro i hi s hs
    apply Ev_succ
    cases s with
    | true =>
      have h1 := hs.1 rfl
      simp only [quietusref43_Forged.l0, if_pos (show (i : Int) < (a.length : Int) by omega), if_true, if_pos (show 0 ≤ (i : Int) by omega), if_pos (show (i : Int) < (b.length : Int) by omega), rd_nat, wrap_succ i a.length (by omega) (by omega)]
      refine ih (i + 1) (by omega) _ ?_
      rw [beq_iff_eq]
      constructor
      · intro h j hj
        by_cases hji : j < i
        · exact h1 j hji
        · obtain rfl : j = i := by omega
          exact h
      · intro h; exact h i (by omega)
    | false =>
      simp only [quietusref43_Forged.l0, if_pos (show (i : Int) < (a.length : Int) by omega), Bool.false_eq_true, if_false, wrap_succ i a.length (by omega) (by omega)]
      refine ih (i + 1) (by omega) _ ?_
      constructor
      · intro h; cases h
      · intro h; exact hs.2 (fun j hj => h j (by omega))
theorem forged_ref (a b : List Int) (x y : Int) (ha : a.length ≤ 70) (hb : b.length ≤ 70) : Ev (fun k => quietusref43_Forged.f k a x b y) (forgedS a x b y) := by
  have hbad : forgedS a x b y = (0, false) → Ev (fun k => quietusref43_Forged.j0 k true a x b y) (forgedS a x b y) := by
    intro h
    rw [h]
    apply Ev_succ
    simp only [quietusref43_Forged.j0, if_true]
    exact Ev.now _
  unfold quietusref43_Forged.f
  simp only [Option.bind_some, List.length_cons, List.length_nil, List.cons_append, List.nil_append, if_pos (show 0 + 1 + a.length < 17592186044416 by omega), if_pos (show a.length + 1 + b.length < 17592186044416 by omega), residue_f]
  refine Ev.bind (residues_ev _ (by simp; omega)) ?_
  have hany : (x :: (a ++ b)).any wildB = (wildB x || (a.any wildB || b.any wildB)) := by rw [List.any_cons, List.any_append]
  rw [hany]
  cases w1 : wildB x with
  | true => simp only [Bool.true_or, Bool.not_true, Bool.false_eq_true, if_false]; exact hbad (by unfold forgedS; rw [if_pos (by simp [w1])])
  | false =>
    cases w3 : a.any wildB with
    | true => simp only [Bool.true_or, Bool.or_true, Bool.not_true, Bool.false_eq_true, if_false]; exact hbad (by unfold forgedS; rw [if_pos (by rw [w3]; simp)])
    | false =>
      cases w4 : b.any wildB with
      | true => simp only [Bool.true_or, Bool.or_true, Bool.not_true, Bool.false_eq_true, if_false]; exact hbad (by unfold forgedS; rw [if_pos (by rw [w4]; simp)])
      | false =>
        simp only [Bool.or_self, Bool.not_false, if_true]
        cases w2 : wildB y with
        | true => simp only [Bool.not_true, Bool.false_eq_true, if_false]; exact hbad (by unfold forgedS; rw [if_pos (by simp [w2])])
        | false =>
          simp only [Bool.not_false, if_true]
          by_cases h0 : a.length = 0
          · simp only [if_pos (show (a.length : Int) = 0 by omega)]
            exact hbad (by unfold forgedS; rw [if_pos (Or.inl h0)])
          simp only [if_neg (show ¬ (a.length : Int) = 0 by omega)]
          by_cases hl : a.length = b.length
          · have hne : ((a.length : Int) != (b.length : Int)) = false := by simp; omega
            apply Ev_succ
            simp only [hne, quietusref43_Forged.j0, Bool.false_eq_true, if_false]
            rw [forgedS_good a b x y h0 hl w1 w2 w3 w4]
            exact forged_l0 a b x y ha hl a.length 0 (by omega) true (by simp)
          · have hne : ((a.length : Int) != (b.length : Int)) = true := by simp; omega
            rw [hne]
            exact hbad (by unfold forgedS; rw [if_pos (Or.inr (Or.inl hl))])
end Go.Proofs.Ytekkjikmcnndoaa.M
