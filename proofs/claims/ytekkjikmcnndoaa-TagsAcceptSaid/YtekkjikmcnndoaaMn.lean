/- Congruence modulo the prime 2147483647, and finite sums; for all whole numbers. -/
import Derived.Test.YtekkjikmcnndoaaMl
namespace Go.Proofs.Ytekkjikmcnndoaa.M
open Go.RowKit Go.Proofs.YtekkjikmcnndoaaW.PrintWords Go.Proofs.YtekkjikmcnndoaaW.PrintLast Go.Proofs.Ytekkjikmcnndoaa.P
open Go.Proofs.Ytekkjikmcnndoaa.Ha (wildB)
set_option linter.unusedVariables false
set_option linter.unusedSimpArgs false

/-- Two numbers leave the same rest. -/
def cg (a b : Int) : Prop := a % 2147483647 = b % 2147483647
theorem cg.rfl {a : Int} : cg a a := Eq.refl _
theorem cg.of_eq {a b : Int} (h : a = b) : cg a b := by rw [h]; exact cg.rfl
theorem cg.symm {a b : Int} (h : cg a b) : cg b a := Eq.symm h
theorem cg.trans {a b c : Int} (h : cg a b) (h' : cg b c) : cg a c := Eq.trans h h'
theorem cg.add {a b c d : Int} (h : cg a b) (h' : cg c d) : cg (a + c) (b + d) := by unfold cg at *; omega
theorem cg.sub {a b c d : Int} (h : cg a b) (h' : cg c d) : cg (a - c) (b - d) := by unfold cg at *; omega
theorem cg.mul {a b c d : Int} (h : cg a b) (h' : cg c d) : cg (a * c) (b * d) := by
  unfold cg at *
  rw [Int.mul_emod, h, h', ← Int.mul_emod]
theorem cg.mod {a : Int} : cg (a % 2147483647) a := Int.emod_emod_of_dvd a (Int.dvd_refl _)
theorem cg.eq {a b : Int} (h : cg a b) (ha : 0 ≤ a ∧ a < 2147483647) (hb : 0 ≤ b ∧ b < 2147483647) : a = b := by unfold cg at h; omega
theorem cg.mod_eq {a b : Int} (h : cg a b) (hb : 0 ≤ b ∧ b < 2147483647) : a % 2147483647 = b := by unfold cg at h; omega

theorem sg_cg {f g : Nat → Int} : ∀ n, (∀ i, i < n → cg (f i) (g i)) → cg (sg f n) (sg g n)
  | 0, _ => cg.rfl
  | n + 1, h => (sg_cg n fun i hi => h i (by omega)).add (h n (by omega))
theorem sg_eq {f g : Nat → Int} : ∀ n, (∀ i, i < n → f i = g i) → sg f n = sg g n
  | 0, _ => rfl
  | n + 1, h => by simp only [sg]; rw [sg_eq n fun i hi => h i (by omega), h n (by omega)]
theorem sg_add (f g : Nat → Int) : ∀ n, sg (fun i => f i + g i) n = sg f n + sg g n
  | 0 => rfl
  | n + 1 => by simp only [sg]; rw [sg_add f g n]; omega
theorem sg_sub (f g : Nat → Int) : ∀ n, sg (fun i => f i - g i) n = sg f n - sg g n
  | 0 => rfl
  | n + 1 => by simp only [sg]; rw [sg_sub f g n]; omega
theorem sg_mul (c : Int) (f : Nat → Int) : ∀ n, sg (fun i => c * f i) n = c * sg f n
  | 0 => by simp [sg]
  | n + 1 => by simp only [sg]; rw [sg_mul c f n, Int.mul_add]
theorem sg_zero (f : Nat → Int) : ∀ n, (∀ i, i < n → f i = 0) → sg f n = 0
  | 0, _ => rfl
  | n + 1, h => by simp only [sg]; rw [sg_zero f n fun i hi => h i (by omega), h n (by omega)]; rfl
theorem sg_swap (f : Nat → Nat → Int) (n : Nat) : ∀ m, sg (fun i => sg (fun j => f i j) n) m = sg (fun j => sg (fun i => f i j) m) n
  | 0 => by simp only [sg]; exact (sg_zero _ n fun _ _ => rfl).symm
  | m + 1 => by simp only [sg]; rw [sg_swap f n m, sg_add]
theorem sg_ext (f : Nat → Int) : ∀ d n, (∀ i, n ≤ i → f i = 0) → sg f (n + d) = sg f n
  | 0, n, _ => rfl
  | d + 1, n, h => by rw [Nat.add_succ]; simp only [sg]; rw [sg_ext f d n h, h _ (by omega)]; omega
/-- All but one. -/
theorem sg_one (f g : Nat → Int) (j : Nat) : ∀ n, j < n → (∀ i, i < n → i ≠ j → f i = g i) → sg f n - f j = sg g n - g j
  | 0, h, _ => by omega
  | n + 1, h, hf => by
    simp only [sg]
    by_cases hj : j = n
    · subst hj
      rw [sg_eq (f := f) (g := g) j fun i hi => hf i (by omega) (by omega)]
      omega
    · have := sg_one f g j n (by omega) fun i hi => hf i (by omega)
      have := hf n (by omega) (by omega)
      omega
theorem getD_past (l : List Int) (i : Nat) (h : l.length ≤ i) : l.getD i 0 = 0 := by
  rw [List.getD_eq_getElem?_getD, List.getElem?_eq_none h]; rfl
theorem dot_sg : ∀ (m a : List Int) (n : Nat), a.length ≤ n → dotI m a = sg (fun i => m.getD i 0 * a.getD i 0) n
  | m, [], n, _ => by rw [dotI_nil, sg_zero _ n fun i _ => by simp]
  | [], y :: a, n, _ => by rw [sg_zero _ n fun i _ => by simp]; rfl
  | x :: m, y :: a, n, h => by
    obtain ⟨n, rfl⟩ : ∃ q, n = q + 1 := ⟨n - 1, by simp only [List.length_cons] at h; omega⟩
    have ih := dot_sg m a n (by simp only [List.length_cons] at h; omega)
    have e : ∀ n, sg (fun i => (x :: m).getD i 0 * (y :: a).getD i 0) (n + 1) = x * y + sg (fun i => m.getD i 0 * a.getD i 0) n := by
      intro n
      induction n with
      | zero => simp [sg]
      | succ n ih => rw [sg, ih]; simp only [sg, List.getD_cons_succ]; omega
    rw [e n, ← ih]
    rfl
theorem getD_set (l : List Int) (j : Nat) (x : Int) (i : Nat) (hj : j < l.length) : (l.set j x).getD i 0 = if i = j then x else l.getD i 0 := by
  rw [List.getD_eq_getElem?_getD, List.getElem?_set]
  by_cases h : j = i
  · subst h; simp [hj]
  · rw [if_neg h, if_neg (fun q => h q.symm), ← List.getD_eq_getElem?_getD]
theorem res_set {l : List Int} (h : ∀ x ∈ l, 0 ≤ x ∧ x < 2147483647) (j : Nat) (v : Int) (hv : 0 ≤ v ∧ v < 2147483647) : ∀ x ∈ l.set j v, 0 ≤ x ∧ x < 2147483647 := by
  intro x hx
  rcases List.mem_or_eq_of_mem_set hx with h' | rfl
  · exact h x h'
  · exact hv
end Go.Proofs.Ytekkjikmcnndoaa.M
