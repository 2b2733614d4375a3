/- Fermat's theorem, for the prime 2147483647: a power is an inverse. No conditions but those that each theorem states. -/
import Derived.Test.YtekkjikmcnndoaaWWords
namespace Go.Proofs.Ytekkjikmcnndoaa.Mf
set_option linter.unusedVariables false

/-- Pascal's numbers. -/
def ch : Nat → Nat → Nat
  | _, 0 => 1
  | 0, _ + 1 => 0
  | n + 1, k + 1 => ch n k + ch n (k + 1)
theorem ch_z (n : Nat) : ch n 0 = 1 := by cases n <;> rfl
theorem ch_lt : ∀ n k, n < k → ch n k = 0
  | _, 0, h => by omega
  | 0, k + 1, _ => rfl
  | n + 1, k + 1, h => by
    show ch n k + ch n (k + 1) = 0
    rw [ch_lt n k (by omega), ch_lt n (k + 1) (by omega)]
theorem ch_self : ∀ n, ch n n = 1
  | 0 => rfl
  | n + 1 => by
    show ch n n + ch n (n + 1) = 1
    rw [ch_self n, ch_lt n (n + 1) (by omega)]
theorem ch_mul : ∀ n k, (k + 1) * ch (n + 1) (k + 1) = (n + 1) * ch n k
  | 0, 0 => rfl
  | 0, k + 1 => by
    show (k + 1 + 1) * (ch 0 (k + 1) + ch 0 (k + 2)) = (0 + 1) * ch 0 (k + 1)
    simp [ch]
  | n + 1, 0 => by
    have ih := ch_mul n 0
    have e : ch (n + 1 + 1) (0 + 1) = ch (n + 1) 0 + ch (n + 1) (0 + 1) := rfl
    rw [e, Nat.mul_add, ih, ch_z, ch_z]
    omega
  | n + 1, k + 1 => by
    have i1 := ch_mul n (k + 1)
    have i0 := ch_mul n k
    have e : ch (n + 1 + 1) (k + 1 + 1) = ch (n + 1) (k + 1) + ch (n + 1) (k + 1 + 1) := rfl
    have e2 : ch (n + 1) (k + 1) = ch n k + ch n (k + 1) := rfl
    rw [e, Nat.mul_add, i1]
    have e3 : (k + 1 + 1) * ch (n + 1) (k + 1) = (k + 1) * ch (n + 1) (k + 1) + ch (n + 1) (k + 1) := by rw [Nat.add_mul]; omega
    have e4 : (n + 1 + 1) * ch (n + 1) (k + 1) = (n + 1) * ch (n + 1) (k + 1) + ch (n + 1) (k + 1) := by rw [Nat.add_mul (n + 1)]; omega
    rw [e3, e4, i0]
    have e5 : (n + 1) * ch (n + 1) (k + 1) = (n + 1) * ch n k + (n + 1) * ch n (k + 1) := by rw [e2, Nat.mul_add]
    omega

/-- A sum. -/
def sm (f : Nat → Nat) : Nat → Nat
  | 0 => 0
  | n + 1 => sm f n + f n
theorem sm_pascal (n x : Nat) : ∀ m, sm (fun k => ch (n + 1) k * x ^ k) (m + 1) = x * sm (fun k => ch n k * x ^ k) m + sm (fun k => ch n k * x ^ k) (m + 1)
  | 0 => by simp [sm, ch_z]
  | m + 1 => by
    have ih := sm_pascal n x m
    have a : sm (fun k => ch (n + 1) k * x ^ k) (m + 1 + 1) = sm (fun k => ch (n + 1) k * x ^ k) (m + 1) + ch (n + 1) (m + 1) * x ^ (m + 1) := rfl
    have b : sm (fun k => ch n k * x ^ k) (m + 1 + 1) = sm (fun k => ch n k * x ^ k) (m + 1) + ch n (m + 1) * x ^ (m + 1) := rfl
    have c : sm (fun k => ch n k * x ^ k) (m + 1) = sm (fun k => ch n k * x ^ k) m + ch n m * x ^ m := rfl
    have d : ch (n + 1) (m + 1) = ch n m + ch n (m + 1) := rfl
    rw [a, ih, b, d, Nat.add_mul]
    have e : x * sm (fun k => ch n k * x ^ k) (m + 1) = x * sm (fun k => ch n k * x ^ k) m + ch n m * x ^ (m + 1) := by
      rw [c, Nat.mul_add, Nat.pow_succ]
      congr 1
      rw [Nat.mul_comm (x ^ m) x, Nat.mul_left_comm]
    rw [e]
    omega
theorem binom (x : Nat) : ∀ n, (x + 1) ^ n = sm (fun k => ch n k * x ^ k) (n + 1)
  | 0 => by simp [sm, ch]
  | n + 1 => by
    have e : sm (fun k => ch n k * x ^ k) (n + 1 + 1) = sm (fun k => ch n k * x ^ k) (n + 1) + ch n (n + 1) * x ^ (n + 1) := rfl
    rw [sm_pascal, Nat.pow_succ, binom x n, e, ch_lt n (n + 1) (by omega), Nat.mul_comm, Nat.add_mul]
    omega

def Pr (p : Nat) : Prop := 2 ≤ p ∧ ∀ d, d ∣ p → d = 1 ∨ d = p
theorem Pr.cop {p a : Nat} (h : Pr p) (ha : ¬ p ∣ a) : Nat.Coprime p a := by
  rcases h.2 _ (Nat.gcd_dvd_left p a) with e | e
  · exact e
  · exact absurd (e ▸ Nat.gcd_dvd_right p a) ha
theorem Pr.ch {p : Nat} (h : Pr p) {k : Nat} (hk : k + 1 < p) : p ∣ ch p (k + 1) := by
  have hp := h.1
  obtain ⟨n, rfl⟩ : ∃ n, p = n + 1 := ⟨p - 1, by omega⟩
  have e := ch_mul n k
  have hd : (n + 1) ∣ (k + 1) * Mf.ch (n + 1) (k + 1) := ⟨_, e⟩
  refine (h.cop ?_).dvd_of_dvd_mul_left hd
  intro hc
  have := Nat.le_of_dvd (by omega) hc
  omega
theorem sm_mod (p : Nat) (f : Nat → Nat) (m : Nat) : (∀ k, k < m → p ∣ f (k + 1)) → sm f (m + 1) % p = f 0 % p := by
  induction m with
  | zero => intro _; simp [sm]
  | succ m ih =>
    intro h
    have e : sm f (m + 1 + 1) = sm f (m + 1) + f (m + 1) := rfl
    rw [e, Nat.add_mod, ih (fun k hk => h k (by omega)), Nat.mod_eq_zero_of_dvd (h m (by omega))]
    simp
theorem Pr.frosh {p : Nat} (h : Pr p) (x : Nat) : (x + 1) ^ p % p = (x ^ p + 1) % p := by
  have hp := h.1
  obtain ⟨n, rfl⟩ : ∃ n, p = n + 1 := ⟨p - 1, by omega⟩
  rw [binom]
  have e : sm (fun k => Mf.ch (n + 1) k * x ^ k) (n + 1 + 1) = sm (fun k => Mf.ch (n + 1) k * x ^ k) (n + 1) + Mf.ch (n + 1) (n + 1) * x ^ (n + 1) := rfl
  have s : sm (fun k => Mf.ch (n + 1) k * x ^ k) (n + 1) % (n + 1) = 1 % (n + 1) := by
    rw [sm_mod (n + 1) (fun k => Mf.ch (n + 1) k * x ^ k) n (fun k hk => Nat.dvd_trans (h.ch (by omega)) (Nat.dvd_mul_right _ _))]
    simp [ch_z]
  rw [e, ch_self, Nat.one_mul, Nat.add_mod, s, ← Nat.add_mod, Nat.add_comm]
theorem Pr.fermat {p : Nat} (h : Pr p) : ∀ x, x ^ p % p = x % p
  | 0 => by
    have := h.1
    rw [Nat.zero_pow (by omega)]
  | x + 1 => by rw [h.frosh, Nat.add_mod, h.fermat x, ← Nat.add_mod]
theorem Pr.inv {p : Nat} (h : Pr p) {a : Nat} (ha : ¬ p ∣ a) : a ^ (p - 2) * a % p = 1 := by
  have hp := h.1
  obtain ⟨n, rfl⟩ : ∃ n, p = n + 2 := ⟨p - 2, by omega⟩
  have hf := h.fermat a
  have e : a ^ (n + 2) = a * (a ^ n * a) := by rw [Nat.pow_succ, Nat.pow_succ, Nat.mul_comm]
  have ha0 : 0 < a := by
    rcases Nat.eq_zero_or_pos a with rfl | h0
    · exact absurd (Nat.dvd_zero _) ha
    · exact h0
  have hb : 0 < a ^ n * a := Nat.mul_pos (Nat.pow_pos ha0) ha0
  show a ^ n * a % (n + 2) = 1
  have hle : a ≤ a * (a ^ n * a) := Nat.le_mul_of_pos_right _ hb
  have hd : (n + 2) ∣ a * (a ^ n * a) - a := by
    rw [e] at hf
    exact Nat.dvd_of_mod_eq_zero (Nat.sub_mod_eq_zero_of_mod_eq hf)
  have e2 : a * (a ^ n * a) - a = a * (a ^ n * a - 1) := by rw [Nat.mul_sub, Nat.mul_one]
  rw [e2] at hd
  have hd2 := (h.cop ha).dvd_of_dvd_mul_left hd
  obtain ⟨c, hc⟩ := hd2
  have : a ^ n * a = (n + 2) * c + 1 := by omega
  rw [this, Nat.mul_add_mod]
  exact Nat.mod_eq_of_lt (by omega)

/-- The prime. -/
theorem prime_of (p : Nat) (hp : 2 ≤ p) (m : Nat) (hm : p < m * m) (h : ∀ d, 2 ≤ d → d < m → p % d ≠ 0) : Pr p := by
  refine ⟨hp, fun d hd => ?_⟩
  obtain ⟨c, hc⟩ := hd
  have small : ∀ x y, p = x * y → x < m → x = 1 ∨ x = p := by
    intro x y hxy hx
    have hx0 : x ≠ 0 := by rintro rfl; omega
    rcases Nat.lt_or_ge x 2 with h1 | h1
    · exact Or.inl (by omega)
    · exact absurd (by rw [hxy, Nat.mul_mod_right]) (h x h1 hx)
  by_cases h1 : d < m
  · exact small d c hc h1
  · have h2 : c < m := by
      rcases Nat.lt_or_ge c m with h2 | h2
      · exact h2
      · have := Nat.mul_le_mul (show m ≤ d by omega) h2
        omega
    rcases small c d (by rw [hc, Nat.mul_comm]) h2 with rfl | h3
    · exact Or.inr (by omega)
    · have hp0 : 0 < p := by omega
      rw [h3] at hc
      refine Or.inl ?_
      have : p * 1 = p * d := by rw [Nat.mul_one, Nat.mul_comm p d]; exact hc
      exact (Nat.eq_of_mul_eq_mul_left hp0 this).symm
def chk (p : Nat) : Bool := (List.range 216).all fun i => (List.range 216).all fun j => decide (216 * i + j < 2) || decide (p % (216 * i + j) ≠ 0)
theorem chk_p : chk 2147483647 = true := by decide +kernel
theorem prime : Pr 2147483647 := by
  refine prime_of _ (by decide) 46656 (by decide) (fun d h2 hd => ?_)
  have h := chk_p
  unfold chk at h
  rw [List.all_eq_true] at h
  have h1 := h (d / 216) (List.mem_range.mpr (by omega))
  rw [List.all_eq_true] at h1
  have h3 := h1 (d % 216) (List.mem_range.mpr (by omega))
  rw [show 216 * (d / 216) + d % 216 = d by omega] at h3
  simp only [Bool.or_eq_true, decide_eq_true_eq] at h3
  omega
end Go.Proofs.Ytekkjikmcnndoaa.Mf
