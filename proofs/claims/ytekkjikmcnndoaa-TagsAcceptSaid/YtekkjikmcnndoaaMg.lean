/- What the printed functions of package tag come to, in closed form. For every list within the sizes that each theorem states. -/
import Derived.Test.YtekkjikmcnndoaaP18
import Derived.Test.YtekkjikmcnndoaaP12
import Derived.Test.YtekkjikmcnndoaaP7
import Derived.Test.YtekkjikmcnndoaaP5
import Derived.Test.YtekkjikmcnndoaaP6
import Derived.Test.YtekkjikmcnndoaaP3
import Derived.Test.YtekkjikmcnndoaaP8
import Derived.Test.YtekkjikmcnndoaaP9
import Derived.Test.YtekkjikmcnndoaaP10
import Derived.Test.YtekkjikmcnndoaaP11
import Derived.Test.YtekkjikmcnndoaaP13
import Derived.Test.YtekkjikmcnndoaaP21
import Derived.Test.YtekkjikmcnndoaaP22
import Derived.Test.YtekkjikmcnndoaaP23
import Derived.Test.YtekkjikmcnndoaaSa
import Derived.Test.YtekkjikmcnndoaaMf
namespace Go.Proofs.Ytekkjikmcnndoaa.M
open Go.RowKit Go.Proofs.YtekkjikmcnndoaaW.PrintWords Go.Proofs.YtekkjikmcnndoaaW.PrintLast Go.Proofs.Ytekkjikmcnndoaa.P
open Go.Proofs.Ytekkjikmcnndoaa.Ha (wildB)
set_option linter.unusedVariables false
set_option linter.unusedSimpArgs false

theorem Ev_succ {α : Type} {g : Nat → Option α} {r : α} (h : Ev (fun k => g (k + 1)) r) : Ev g r := Ev.step (fun _ => rfl) h
theorem Ev_now' {α : Type} {r s : α} (h : r = s) : Ev (fun _ => some r) s := by subst h; exact Ev.now r

theorem rd_nat (l : List Int) (i : Nat) : rd l (i : Int) = l.getD i 0 := by simp [rd]
theorem wrap_succ (i : Nat) (n : Nat) (h : i < n) (hn : n < 4611686018427387904) : wrap64 ((i : Int) + 1) = ((i + 1 : Nat) : Int) := by unfold wrap64; omega
theorem wild_f (n : Int) : tag_wild.f n = some (wildB n) := by
  unfold tag_wild.f wildB
  by_cases h : n < 0 <;> simp [h]
theorem wild_false {n : Int} : wildB n = false ↔ 0 ≤ n ∧ n < 2147483647 := by
  unfold wildB
  simp
theorem contains_f (l : List Int) (h : l.length ≤ 9223372036854775807) : Ha.tag_ContainsFunc_wild.f l = some (l.any wildB) := by
  unfold Ha.tag_ContainsFunc_wild.f
  rw [if_pos h]

theorem getD_ext {a b : List Int} (hl : a.length = b.length) (h : ∀ j, j < a.length → a.getD j 0 = b.getD j 0) : a = b := by
  apply List.ext_getElem hl
  intro i h1 h2
  have := h i h1
  simpa [List.getD, h1, h2] using this

theorem sameList_l0 (a b : List Int) (hl : a.length = b.length) (hb : a.length < 4611686018427387904) : ∀ d i : Nat, i + d = a.length → (∀ j, j < i → a.getD j 0 = b.getD j 0) →
    Ev (fun k => quietusref43_SameList.l0 k a b i) (decide (a = b)) := by
  intro d
  induction d with
  | zero =>
    intro i hi h
    apply Ev_succ
    simp only [quietusref43_SameList.l0, if_neg (show ¬ (i : Int) < (a.length : Int) by omega)]
    exact Ev_now' (by rw [eq_comm, decide_eq_true_eq]; exact getD_ext hl (fun j hj => h j (by omega)))
  | succ d ih =>
    intro i hi h
    apply Ev_succ
    simp only [quietusref43_SameList.l0, if_pos (show (i : Int) < (a.length : Int) by omega), if_pos (show 0 ≤ (i : Int) by omega), if_pos (show (i : Int) < (b.length : Int) by omega), rd_nat]
    by_cases he : a.getD i 0 = b.getD i 0
    · simp only [if_pos he, wrap_succ i a.length (by omega) hb]
      refine ih (i + 1) (by omega) (fun j hj => ?_)
      by_cases hji : j < i
      · exact h j hji
      · obtain rfl : j = i := by omega
        exact he
    · simp only [if_neg he]
      exact Ev_now' (by rw [eq_comm, decide_eq_false_iff_not]; rintro rfl; exact he rfl)
theorem sameList_ev (a b : List Int) (hb : a.length < 4611686018427387904) : Ev (fun k => quietusref43_SameList.f k a b) (decide (a = b)) := by
  unfold quietusref43_SameList.f
  by_cases hl : a.length = b.length
  · simp only [if_pos (show (a.length : Int) = (b.length : Int) by omega)]
    exact sameList_l0 a b hl hb a.length 0 (by omega) (fun j hj => by omega)
  · simp only [if_neg (show ¬ (a.length : Int) = (b.length : Int) by omega)]
    exact Ev_now' (by rw [eq_comm, decide_eq_false_iff_not]; rintro rfl; exact hl rfl)

theorem equal_l0 (a b : List Int) (hl : a.length = b.length) (hb : a.length < 4611686018427387904) : ∀ d i : Nat, i + d = a.length → (∀ j, j < i → a.getD j 0 = b.getD j 0) →
    Ev (fun k => slices_Equal_int_int.l0 k a b (a.length : Int) i) (decide (a = b)) := by
  intro d
  induction d with
  | zero =>
    intro i hi h
    apply Ev_succ
    simp only [slices_Equal_int_int.l0, if_neg (show ¬ (i : Int) < (a.length : Int) by omega)]
    exact Ev_now' (by rw [eq_comm, decide_eq_true_eq]; exact getD_ext hl (fun j hj => h j (by omega)))
  | succ d ih =>
    intro i hi h
    apply Ev_succ
    simp only [slices_Equal_int_int.l0, if_pos (show (i : Int) < (a.length : Int) by omega), if_pos (show 0 ≤ (i : Int) by omega), if_pos (show (i : Int) < (b.length : Int) by omega), rd_nat]
    by_cases he : a.getD i 0 = b.getD i 0
    · simp only [if_pos he, wrap_succ i a.length (by omega) hb]
      refine ih (i + 1) (by omega) (fun j hj => ?_)
      by_cases hji : j < i
      · exact h j hji
      · obtain rfl : j = i := by omega
        exact he
    · simp only [if_neg he]
      exact Ev_now' (by rw [eq_comm, decide_eq_false_iff_not]; rintro rfl; exact he rfl)
theorem equal_ev (a b : List Int) (hb : a.length < 4611686018427387904) : Ev (fun k => slices_Equal_int_int.f k a b) (decide (a = b)) := by
  unfold slices_Equal_int_int.f
  by_cases hl : a.length = b.length
  · simp only [if_pos (show (a.length : Int) = (b.length : Int) by omega)]
    exact equal_l0 a b hl hb a.length 0 (by omega) (fun j hj => by omega)
  · simp only [if_neg (show ¬ (a.length : Int) = (b.length : Int) by omega)]
    exact Ev_now' (by rw [eq_comm, decide_eq_false_iff_not]; rintro rfl; exact hl rfl)
theorem plain_l0 (l : List Int) (x : Int) (hb : l.length < 17592186044416) : ∀ d i : Nat, i + d = l.length →
    Ev (fun k => tag_plain.l0 k l (l.length : Int) i (l.take i) x) (l, x) := by
  intro d
  induction d with
  | zero =>
    intro i hi
    apply Ev_succ
    simp only [tag_plain.l0, if_neg (show ¬ (i : Int) < (l.length : Int) by omega)]
    exact Ev_now' (by rw [List.take_of_length_le (by omega)])
  | succ d ih =>
    intro i hi
    apply Ev_succ
    have ht : (l.take i).length < 17592186044416 := by rw [List.length_take]; omega
    have hn : l.take i ++ [l.getD i 0] = l.take (i + 1) := by
      rw [List.take_succ_eq_append_getElem (by omega)]
      simp [List.getD, show i < l.length by omega]
    simp only [tag_plain.l0, if_pos (show (i : Int) < (l.length : Int) by omega), if_pos (show 0 ≤ (i : Int) by omega), if_pos ht, rd_nat, hn, wrap_succ i l.length (by omega) (by omega)]
    exact ih (i + 1) (by omega)
theorem plain_ev (l : List Int) (x : Int) (hb : l.length < 17592186044416) : Ev (fun k => tag_plain.f k l x) (l, x) := by
  unfold tag_plain.f
  exact plain_l0 l x hb l.length 0 (by omega)

/-- The sum of residues. -/
def sumM : Int → List Int → Int
  | a, [] => a
  | a, x :: r => sumM ((a + x) % 2147483647) r
theorem sum_l0 (l : List Int) (hr : ∀ x ∈ l, 0 ≤ x ∧ x < 2147483647) (hb : l.length < 4611686018427387904) : ∀ d i : Nat, i + d = l.length → ∀ a : Int, 0 ≤ a ∧ a < 2147483647 →
    Ev (fun k => tag_sum.l0 k a l (l.length : Int) i) (sumM a (l.drop i)) := by
  intro d
  induction d with
  | zero =>
    intro i hi a ha
    apply Ev_succ
    simp only [tag_sum.l0, if_neg (show ¬ (i : Int) < (l.length : Int) by omega)]
    exact Ev_now' (by rw [List.drop_of_length_le (by omega)]; rfl)
  | succ d ih =>
    intro i hi a ha
    have hil : i < l.length := by omega
    have hx : 0 ≤ l.getD i 0 ∧ l.getD i 0 < 2147483647 := by
      apply hr
      rw [List.getD_eq_getElem?_getD, List.getElem?_eq_getElem hil]
      exact List.getElem_mem hil
    have hd : l.drop i = l.getD i 0 :: l.drop (i + 1) := by
      rw [List.drop_eq_getElem_cons hil]
      simp [List.getD, hil]
    have hw : wrap64 (a + l.getD i 0) = a + l.getD i 0 := by unfold wrap64; omega
    apply Ev_succ
    simp only [tag_sum.l0, if_pos (show (i : Int) < (l.length : Int) by omega), if_pos (show 0 ≤ (i : Int) by omega), rd_nat, wrap_succ i l.length (by omega) hb, hw, ge_iff_le]
    rw [hd]
    by_cases h : 2147483647 ≤ a + l.getD i 0
    · have h2 : wrap64 (a + l.getD i 0 - 2147483647) = (a + l.getD i 0) % 2147483647 := by unfold wrap64; omega
      simp only [if_pos h, h2]
      exact ih (i + 1) (by omega) _ (by omega)
    · have h2 : a + l.getD i 0 = (a + l.getD i 0) % 2147483647 := by omega
      simp only [if_neg h]
      rw [h2]
      exact ih (i + 1) (by omega) _ (by omega)
theorem sum_ev (l : List Int) (hr : ∀ x ∈ l, 0 ≤ x ∧ x < 2147483647) (hb : l.length < 4611686018427387904) : Ev (fun k => tag_sum.f k l) (sumM 0 l) := by
  unfold tag_sum.f
  exact sum_l0 l hr hb l.length 0 (by omega) 0 (by omega)
theorem sum2_ev (a b : Int) (ha : 0 ≤ a ∧ a < 2147483647) (hb : 0 ≤ b ∧ b < 2147483647) : Ev (fun k => tag_sum.f k [a, b]) ((a + b) % 2147483647) := by
  have h := sum_ev [a, b] (fun x hx => by
    simp only [List.mem_cons, List.mem_nil_iff, or_false] at hx
    rcases hx with rfl | rfl <;> assumption) (by simp)
  have e : sumM 0 [a, b] = (a + b) % 2147483647 := by simp only [sumM]; omega
  rwa [e] at h
/-- The product of residues. -/
theorem times_f (a b : Int) (ha : 0 ≤ a ∧ a < 2147483647) (hb : 0 ≤ b ∧ b < 2147483647) : tag_residue_times.f a b = some (a * b % 2147483647) := by
  unfold tag_residue_times.f
  have h1 : 0 ≤ a * b := Int.mul_nonneg ha.1 hb.1
  have h2 : a * b < 4611686018427387904 := by
    have := Int.mul_le_mul (Int.le_of_lt ha.2) (Int.le_of_lt hb.2) hb.1 (by omega)
    omega
  rw [show wrap64 (a * b) = a * b by unfold wrap64; omega, Int.tmod_eq_emod_of_nonneg h1]
theorem mod_res (a : Int) : 0 ≤ a % 2147483647 ∧ a % 2147483647 < 2147483647 := by omega
theorem emod_res (a b : Int) (ha : 0 ≤ a ∧ a < 2147483647) (hb : 0 ≤ b ∧ b < 2147483647) : Int.tmod (wrap64 (a * b)) 2147483647 = a * b % 2147483647 := by
  have := times_f a b ha hb
  unfold tag_residue_times.f at this
  exact Option.some.inj this
theorem emod_add (a b : Int) (ha : 0 ≤ a ∧ a < 2147483647) (hb : 0 ≤ b ∧ b < 2147483647) : Int.tmod (wrap64 (a + b)) 2147483647 = (a + b) % 2147483647 := by
  rw [show wrap64 (a + b) = a + b by unfold wrap64; omega, Int.tmod_eq_emod_of_nonneg (by omega)]

/-- What Forged returns. -/
def forgedS (a : List Int) (x : Int) (b : List Int) (y : Int) : Int × Bool :=
  if a.length = 0 ∨ a.length ≠ b.length ∨ wildB x = true ∨ wildB y = true ∨ a.any wildB = true ∨ b.any wildB = true then (0, false)
  else if a = b then if x = y then ((a.length : Int), true) else (0, false) else (wrap64 ((a.length : Int) - 1), true)

theorem forgedS_good (a b : List Int) (x y : Int) (h0 : ¬ a.length = 0) (hl : a.length = b.length) (w1 : wildB x = false) (w2 : wildB y = false) (w3 : a.any wildB = false) (w4 : b.any wildB = false) :
    forgedS a x b y = if a = b then if x = y then ((a.length : Int), true) else (0, false) else (wrap64 ((a.length : Int) - 1), true) := by
  unfold forgedS
  refine if_neg ?_
  rw [w1, w2, w3, w4]
  rintro (h | h | h | h | h | h)
  · exact h0 h
  · exact h hl
  all_goals cases h

theorem forged_prog (a b : List Int) (x y : Int) (ha : a.length ≤ 70) (hb : b.length ≤ 70) : Ev (fun k => tag_Forged.f k a x b y) (forgedS a x b y) := by
  have hbad : forgedS a x b y = (0, false) → Ev (fun k => tag_Forged.j0 k (a.length : Int) true a x b y) (forgedS a x b y) := by
    intro h
    rw [h]
    apply Ev_succ
    simp only [tag_Forged.j0, if_true]
    exact Ev.now _
  unfold tag_Forged.f
  by_cases h0 : a.length = 0
  · simp only [if_pos (show (a.length : Int) = 0 by omega)]
    exact hbad (by unfold forgedS; rw [if_pos (Or.inl h0)])
  simp only [if_neg (show ¬ (a.length : Int) = 0 by omega)]
  by_cases hl : a.length = b.length
  rotate_left
  · simp only [if_neg (show ¬ (a.length : Int) = (b.length : Int) by omega)]
    exact hbad (by unfold forgedS; rw [if_pos (Or.inr (Or.inl hl))])
  simp only [if_pos (show (a.length : Int) = (b.length : Int) by omega), wild_f, Option.bind_some, contains_f _ (show a.length ≤ 9223372036854775807 by omega), contains_f _ (show b.length ≤ 9223372036854775807 by omega)]
  cases w1 : wildB x with
  | true => simp only [if_true]; exact hbad (by unfold forgedS; rw [if_pos (by simp [w1])])
  | false =>
    simp only [Bool.false_eq_true, if_false]
    cases w2 : wildB y with
    | true => simp only [if_true]; exact hbad (by unfold forgedS; rw [if_pos (by simp [w2])])
    | false =>
      simp only [Bool.false_eq_true, if_false]
      cases w3 : a.any wildB with
      | true => simp only [if_true]; exact hbad (by unfold forgedS; rw [if_pos (by rw [w3]; simp)])
      | false =>
        simp only [Bool.false_eq_true, if_false]
        cases w4 : b.any wildB with
        | true => exact hbad (by unfold forgedS; rw [if_pos (by rw [w4]; simp)])
        | false =>
          apply Ev_succ
          simp only [tag_Forged.j0, Bool.false_eq_true, if_false]
          refine Ev.bind (equal_ev a b (by omega)) ?_
          rw [forgedS_good a b x y h0 hl w1 w2 w3 w4]
          by_cases he : a = b
          · simp only [decide_eq_true he, if_true, if_pos he]
            by_cases hx : x = y
            · simp only [if_pos hx]; exact Ev.now _
            · simp only [if_neg hx]; exact Ev.now _
          · simp only [decide_eq_false he, Bool.false_eq_true, if_false, if_neg he]
            exact Ev.now _

theorem sanity_ev : Ev (fun _ => Sa.sanity.f) true := Ev.now true
/-! ### Sums of products -/
/-- The sum of the products of two lists, up to the shorter one's end. -/
def dotI : List Int → List Int → Int
  | x :: a, y :: b => x * y + dotI a b
  | _, _ => 0
theorem dotI_nil (a : List Int) : dotI a [] = 0 := by cases a <;> rfl
theorem res_any {l : List Int} (h : l.any wildB = false) : ∀ x ∈ l, 0 ≤ x ∧ x < 2147483647 := by
  intro x hx
  rw [List.any_eq_false] at h
  exact wild_false.mp (Bool.eq_false_iff.mpr (h x hx))
theorem any_res {l : List Int} (h : ∀ x ∈ l, 0 ≤ x ∧ x < 2147483647) : l.any wildB = false := by
  rw [List.any_eq_false]
  intro x hx
  rw [wild_false.mpr (h x hx)]
  exact Bool.false_ne_true
theorem getD_res {l : List Int} (h : ∀ x ∈ l, 0 ≤ x ∧ x < 2147483647) (i : Nat) : 0 ≤ l.getD i 0 ∧ l.getD i 0 < 2147483647 := by
  rw [List.getD_eq_getElem?_getD]
  by_cases hi : i < l.length
  · rw [List.getElem?_eq_getElem hi]; exact h _ (List.getElem_mem hi)
  · rw [List.getElem?_eq_none (by omega)]; simp
theorem prods_sum : ∀ (a b : List Int) (c : Int), (∀ x ∈ a, 0 ≤ x ∧ x < 2147483647) → (∀ x ∈ b, 0 ≤ x ∧ x < 2147483647) → sumM c (Ha.prods a b) % 2147483647 = (c + dotI a b) % 2147483647
  | [], b, c, _, _ => by simp [Ha.prods, sumM, dotI]
  | x :: a, [], c, _, _ => by simp [Ha.prods, sumM, dotI]
  | x :: a, y :: b, c, ha, hb => by
    have e : Ha.prods (x :: a) (y :: b) = x * y % 2147483647 :: Ha.prods a b := by
      show Ha.timesI x y :: Ha.prods a b = _
      rw [show Ha.timesI x y = x * y % 2147483647 from emod_res x y (ha x (by simp)) (hb y (by simp))]
    rw [e]
    show sumM ((c + x * y % 2147483647) % 2147483647) (Ha.prods a b) % 2147483647 = (c + (x * y + dotI a b)) % 2147483647
    rw [prods_sum a b _ (fun z hz => ha z (by simp [hz])) (fun z hz => hb z (by simp [hz]))]
    generalize x * y = q
    omega
theorem sumM_res : ∀ (l : List Int) (c : Int), 0 ≤ c ∧ c < 2147483647 → 0 ≤ sumM c l ∧ sumM c l < 2147483647
  | [], c, h => h
  | x :: l, c, h => sumM_res l _ (mod_res _)
theorem prods_res (a b : List Int) (ha : ∀ x ∈ a, 0 ≤ x ∧ x < 2147483647) (hb : ∀ x ∈ b, 0 ≤ x ∧ x < 2147483647) : ∀ x ∈ Ha.prods a b, 0 ≤ x ∧ x < 2147483647 := by
  intro z hz
  unfold Ha.prods at hz
  obtain ⟨i, hi, rfl⟩ := List.mem_iff_getElem.mp hz
  rw [List.getElem_zipWith]
  rw [show ∀ x y, Ha.timesI x y = Int.tmod (wrap64 (x * y)) 2147483647 from fun _ _ => rfl, emod_res _ _ (ha _ (List.getElem_mem _)) (hb _ (List.getElem_mem _))]
  exact mod_res _
theorem pa_sum_l0 : ∀ k a l n i, Pa.tag_sum.l0 k a l n i = tag_sum.l0 k a l n i := by
  intro k
  induction k with
  | zero => intro a l n i; rfl
  | succ k ih => intro a l n i; simp only [Pa.tag_sum.l0, tag_sum.l0, ih]
theorem pa_sum (k : Nat) (l : List Int) : Pa.tag_sum.f k l = tag_sum.f k l := pa_sum_l0 _ _ _ _ _
theorem product_ev (a b : List Int) (ha : ∀ x ∈ a, 0 ≤ x ∧ x < 2147483647) (hb : ∀ x ∈ b, 0 ≤ x ∧ x < 2147483647) (hl : b.length ≤ a.length) (hs : b.length < 17592186044416) :
    Ev (fun k => Ha.tag_product.f k a b) (dotI a b % 2147483647) := by
  unfold Ha.tag_product.f
  simp only [if_pos hl, if_pos hs, pa_sum]
  have h := sum_ev (Ha.prods a b) (prods_res a b ha hb) (by rw [Ha.prods_length a b hl]; omega)
  have e : sumM 0 (Ha.prods a b) = dotI a b % 2147483647 := by
    have := prods_sum a b 0 ha hb
    have := sumM_res (Ha.prods a b) 0 (by omega)
    omega
  rwa [e] at h

/-! ### Check, challenge -/
def checkS (m s : List Int) : Int := if m.length < 1 ∨ 64 < m.length ∨ 200 < s.length then 2 else if m.any wildB = true ∨ s.any wildB = true then 3 else 0
theorem check_ev (m s : List Int) : Ev (fun k => tag_Check.f k m s) (checkS m s) := by
  have h2 : ∀ b, (b = true → checkS m s = 2) → (b = false → ¬ (m.length < 1 ∨ 64 < m.length ∨ 200 < s.length)) → Ev (fun k => tag_Check.j0 k b m s) (checkS m s) := by
    intro b h1 h0
    apply Ev_succ
    cases b with
    | true => simp only [tag_Check.j0, if_true, h1 rfl]; exact Ev.now _
    | false =>
      have hl := h0 rfl
      simp only [tag_Check.j0, Bool.false_eq_true, if_false, contains_f _ (show m.length ≤ 9223372036854775807 by omega), contains_f _ (show s.length ≤ 9223372036854775807 by omega), Option.bind_some]
      unfold checkS
      rw [if_neg hl]
      cases w1 : m.any wildB with
      | true =>
        simp only [if_true, true_or]
        apply Ev_succ
        simp only [tag_Check.j1, if_true]
        exact Ev.now _
      | false =>
        simp only [Bool.false_eq_true, if_false, false_or]
        apply Ev_succ
        cases w2 : s.any wildB with
        | true => simp only [tag_Check.j1, if_true]; exact Ev.now _
        | false => simp only [tag_Check.j1, Bool.false_eq_true, if_false]; exact Ev.now _
  unfold tag_Check.f
  by_cases a1 : m.length < 1
  · simp only [if_pos (show (m.length : Int) < 1 by omega)]
    exact h2 true (fun _ => by unfold checkS; rw [if_pos (Or.inl a1)]) (fun h => by cases h)
  simp only [if_neg (show ¬ (m.length : Int) < 1 by omega), gt_iff_lt]
  by_cases a2 : 64 < m.length
  · simp only [if_pos (show (64 : Int) < (m.length : Int) by omega)]
    exact h2 true (fun _ => by unfold checkS; rw [if_pos (Or.inr (Or.inl a2))]) (fun h => by cases h)
  simp only [if_neg (show ¬ (64 : Int) < (m.length : Int) by omega)]
  by_cases a3 : 200 < s.length
  · simp only [decide_eq_true (show (200 : Int) < (s.length : Int) by omega)]
    exact h2 true (fun _ => by unfold checkS; rw [if_pos (Or.inr (Or.inr a3))]) (fun h => by cases h)
  · simp only [decide_eq_false (show ¬ (200 : Int) < (s.length : Int) by omega)]
    exact h2 false (fun h => by cases h) (fun _ => by omega)
theorem checkS_zero {m s : List Int} (h : checkS m s = 0) : 1 ≤ m.length ∧ m.length ≤ 64 ∧ s.length ≤ 200 ∧ (∀ x ∈ m, 0 ≤ x ∧ x < 2147483647) ∧ ∀ x ∈ s, 0 ≤ x ∧ x < 2147483647 := by
  unfold checkS at h
  split at h
  · cases h
  · split at h
    · cases h
    · rename_i h1 h2
      refine ⟨by omega, by omega, by omega, res_any (Bool.eq_false_iff.mpr fun h => h2 (Or.inl h)), res_any (Bool.eq_false_iff.mpr fun h => h2 (Or.inr h))⟩
theorem checkS_good {m s : List Int} (h1 : 1 ≤ m.length) (h2 : m.length ≤ 64) (h3 : s.length ≤ 200) (h4 : ∀ x ∈ m, 0 ≤ x ∧ x < 2147483647) (h5 : ∀ x ∈ s, 0 ≤ x ∧ x < 2147483647) : checkS m s = 0 := by
  unfold checkS
  rw [if_neg (by omega), any_res h4, any_res h5]
  simp

theorem rd60 (l : List S60) (i : Nat) : rd_T60 l (i : Int) = l.getD i z60 := by simp [rd_T60]
def chalS : List S60 → Int → Int
  | [], _ => 0
  | x :: r, n => if x.f0 < 0 ∨ n ≤ x.f0 then 1 else if wildB x.f1 = true then 3 else chalS r n
theorem chal_l0 (l : List S60) (n : Int) (hb : l.length < 4611686018427387904) : ∀ d i : Nat, i + d = l.length → Ev (fun k => tag_challenge.l0 k n l (l.length : Int) i) (chalS (l.drop i) n) := by
  intro d
  induction d with
  | zero =>
    intro i hi
    apply Ev_succ
    simp only [tag_challenge.l0, if_neg (show ¬ (i : Int) < (l.length : Int) by omega)]
    exact Ev_now' (by rw [List.drop_of_length_le (by omega)]; rfl)
  | succ d ih =>
    intro i hi
    have hil : i < l.length := by omega
    have hd : l.drop i = l.getD i z60 :: l.drop (i + 1) := by
      rw [List.drop_eq_getElem_cons hil]
      simp [List.getD, hil]
    rw [hd]
    generalize hx : l.getD i z60 = x
    have hj : ∀ b, (b = true ↔ (x.f0 < 0 ∨ n ≤ x.f0)) → Ev (fun k => tag_challenge.j1 k n l (l.length : Int) i b x.f0 x.f1) (chalS (x :: l.drop (i + 1)) n) := by
      intro b hb2
      apply Ev_succ
      unfold chalS
      cases b with
      | true =>
        simp only [tag_challenge.j1, if_true, if_pos (hb2.mp rfl)]
        exact Ev.now _
      | false =>
        have hn : ¬ (x.f0 < 0 ∨ n ≤ x.f0) := fun h => by cases hb2.mpr h
        simp only [tag_challenge.j1, Bool.false_eq_true, if_false, if_neg hn, wild_f, Option.bind_some, wrap_succ i l.length hil hb]
        by_cases hw : wildB x.f1 = true
        · simp only [if_pos hw]; exact Ev.now _
        · simp only [if_neg hw]; exact ih (i + 1) (by omega)
    apply Ev_succ
    simp only [tag_challenge.l0, if_pos (show (i : Int) < (l.length : Int) by omega), if_pos (show 0 ≤ (i : Int) by omega), rd60, hx]
    by_cases h0 : x.f0 < 0
    · simp only [if_pos h0]
      exact hj true (by simp [h0])
    · simp only [if_neg h0]
      exact hj _ (by simp [h0])
theorem chal_ev (l : List S60) (n : Int) (hb : l.length < 4611686018427387904) : Ev (fun k => tag_challenge.f k l n) (chalS l n) := by
  unfold tag_challenge.f
  exact chal_l0 l n hb l.length 0 (by omega)
theorem chalS_zero : ∀ {l : List S60} {n : Int}, chalS l n = 0 ↔ ∀ x ∈ l, (0 ≤ x.f0 ∧ x.f0 < n) ∧ (0 ≤ x.f1 ∧ x.f1 < 2147483647)
  | [], n => by simp [chalS]
  | x :: r, n => by
    have ih := @chalS_zero r n
    unfold chalS
    by_cases h1 : x.f0 < 0 ∨ n ≤ x.f0
    · rw [if_pos h1]
      constructor
      · intro h; cases h
      · intro h; have := (h x (by simp)).1; omega
    · rw [if_neg h1]
      cases hw : wildB x.f1 with
      | true =>
        simp only [if_true]
        constructor
        · intro h; cases h
        · intro h
          have := wild_false.mpr (h x (by simp)).2
          rw [hw] at this; cases this
      | false =>
        simp only [Bool.false_eq_true, if_false]
        rw [ih]
        have hw2 := wild_false.mp hw
        constructor
        · intro h y hy
          rcases List.mem_cons.mp hy with rfl | hy
          · exact ⟨by omega, hw2⟩
          · exact h y hy
        · intro h y hy
          exact h y (by simp [hy])
end Go.Proofs.Ytekkjikmcnndoaa.M
