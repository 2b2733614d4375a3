/- What Verify, Answer and inverse come to, in closed form. For every list within the sizes that each theorem states. -/
import Derived.Test.YtekkjikmcnndoaaMk
namespace Go.Proofs.Ytekkjikmcnndoaa.M
open Go.RowKit Go.Proofs.YtekkjikmcnndoaaW.PrintWords Go.Proofs.YtekkjikmcnndoaaW.PrintLast Go.Proofs.Ytekkjikmcnndoaa.P
open Go.Proofs.Ytekkjikmcnndoaa.Ha (wildB)
set_option linter.unusedVariables false
set_option linter.unusedSimpArgs false

/-- A sum of numbers. -/
def sg (h : Nat → Int) : Nat → Int
  | 0 => 0
  | n + 1 => sg h n + h n
theorem sg_step (h : Nat → Int) (n : Nat) (q : Int) (hq : h n = q) : (sg h n % 2147483647 + q % 2147483647) % 2147483647 = sg h (n + 1) % 2147483647 := by
  subst hq
  simp only [sg]
  omega
/-- The sum over a challenge. -/
def askH (g : Int → Int) (q : List S60) (i : Nat) : Int := g (q.getD i z60).f0 * (q.getD i z60).f1
def askT (g : Int → Int) (q : List S60) (n : Nat) : Int := sg (askH g q) n
theorem ask_mem {q : List S60} {n : Int} (h : chalS q n = 0) (i : Nat) (hi : i < q.length) : (0 ≤ (q.getD i z60).f0 ∧ (q.getD i z60).f0 < n) ∧ (0 ≤ (q.getD i z60).f1 ∧ (q.getD i z60).f1 < 2147483647) := by
  apply chalS_zero.mp h
  rw [List.getD_eq_getElem?_getD, List.getElem?_eq_getElem hi]
  exact List.getElem_mem hi

/-! ### Verify -/
def verS (m s : List Int) (q : List S60) (a : List Int) (t : Int) : Int :=
  if a.length ≠ m.length then 1 else if wildB t = true ∨ a.any wildB = true then 3 else if chalS q s.length ≠ 0 then chalS q s.length
  else if (dotI m a + askT (fun b => s.getD b.toNat 0) q q.length) % 2147483647 = t then 0 else 23
theorem verify_l0 (m s : List Int) (q : List S60) (a : List Int) (t : Int) (hs : ∀ x ∈ s, 0 ≤ x ∧ x < 2147483647) (hq : chalS q s.length = 0) (hb : q.length < 4611686018427387904) (c : Int) : ∀ d i : Nat, i + d = q.length →
    Ev (fun k => tag_Verify.l0 k ((c + askT (fun b => s.getD b.toNat 0) q i) % 2147483647) q (q.length : Int) i m s a t) (if (c + askT (fun b => s.getD b.toNat 0) q q.length) % 2147483647 = t then 0 else 23) := by
  intro d
  induction d with
  | zero =>
    intro i hi
    apply Ev_succ
    obtain rfl : i = q.length := by omega
    simp only [tag_Verify.l0, if_neg (show ¬ (q.length : Int) < (q.length : Int) by omega)]
    by_cases h : (c + askT (fun b => s.getD b.toNat 0) q q.length) % 2147483647 = t
    · simp only [if_pos h]; exact Ev.now _
    · simp only [if_neg h]; exact Ev.now _
  | succ d ih =>
    intro i hi
    have hil : i < q.length := by omega
    obtain ⟨⟨h1, h2⟩, h3⟩ := ask_mem hq i hil
    apply Ev_succ
    have e1 : tag_residue_times.f (rd s (q.getD i z60).f0) (q.getD i z60).f1 = some (askH (fun b => s.getD b.toNat 0) q i % 2147483647) := times_f _ _ (getD_res hs _) h3
    simp only [tag_Verify.l0, if_pos (show (i : Int) < (q.length : Int) by omega), if_pos (show 0 ≤ (i : Int) by omega), rd60, if_pos h1, if_pos h2, e1, Option.bind_some, wrap_succ i q.length hil hb]
    refine Ev.bind (sum2_ev _ _ (mod_res _) (mod_res _)) ?_
    have e2 : ((c + askT (fun b => s.getD b.toNat 0) q i) % 2147483647 + askH (fun b => s.getD b.toNat 0) q i % 2147483647) % 2147483647 = (c + askT (fun b => s.getD b.toNat 0) q (i + 1)) % 2147483647 := by
      simp only [askT, sg]
      omega
    rw [e2]
    exact ih (i + 1) (by omega)
theorem verify_ev (m s : List Int) (q : List S60) (a : List Int) (t : Int) (hc : checkS m s = 0) (hq : q.length ≤ 40) : Ev (fun k => tag_Verify.f k m s q a t) (verS m s q a t) := by
  obtain ⟨h1, h2, h3, hm, hs⟩ := checkS_zero hc
  unfold tag_Verify.f
  have hck := check_ev m s
  rw [hc] at hck
  refine Ev.bind hck ?_
  unfold verS
  by_cases hl : a.length = m.length
  rotate_left
  · simp only [if_true, if_neg (show ¬ (a.length : Int) = (m.length : Int) by omega), if_pos (show a.length ≠ m.length from hl)]
    exact Ev.now _
  simp only [if_true, if_pos (show (a.length : Int) = (m.length : Int) by omega), wild_f, Option.bind_some, if_neg (show ¬ a.length ≠ m.length from fun h => h hl), contains_f a (by omega)]
  cases w1 : wildB t with
  | true =>
    simp only [if_true, true_or]
    apply Ev_succ
    simp only [tag_Verify.j0, if_true]
    exact Ev.now _
  | false =>
    simp only [Bool.false_eq_true, if_false, false_or]
    apply Ev_succ
    cases w2 : a.any wildB with
    | true =>
      simp only [tag_Verify.j0, if_true]
      exact Ev.now _
    | false =>
      simp only [tag_Verify.j0, Bool.false_eq_true, if_false]
      refine Ev.bind (chal_ev q s.length (by omega)) ?_
      by_cases hz : chalS q s.length = 0
      rotate_left
      · simp only [if_neg hz, if_pos (show chalS q s.length ≠ 0 from hz)]
        exact Ev.now _
      simp only [if_pos hz, if_neg (show ¬ chalS q s.length ≠ 0 from fun h => h hz)]
      refine Ev.bind (product_ev m a hm (res_any w2) (by omega) (by omega)) ?_
      have := verify_l0 m s q a t hs hz (by omega) (dotI m a) q.length 0 (by omega)
      simp only [askT, sg, Int.add_zero] at this
      exact this

/-! ### Answer -/
section
variable (Y : List (List Int)) (t : List Int) (q : List S60) (w : Nat)
def ysum (j : Nat) : Int → Int := fun b => (Y.getD b.toNat []).getD j 0
def tsum : Int → Int := fun b => t.getD b.toNat 0
def amid (i j : Nat) : List Int := (List.range w).map fun j' => if j' < j then askT (ysum Y j') q (i + 1) % 2147483647 else askT (ysum Y j') q i % 2147483647
theorem amid_get (i j j' : Nat) (h : j' < w) : (amid Y q w i j).getD j' 0 = if j' < j then askT (ysum Y j') q (i + 1) % 2147483647 else askT (ysum Y j') q i % 2147483647 := by
  simp [amid, List.getD, h]
theorem amid_length (i j : Nat) : (amid Y q w i j).length = w := by simp [amid]
theorem amid_set (i j : Nat) (h : j < w) : (amid Y q w i j).set j (askT (ysum Y j) q (i + 1) % 2147483647) = amid Y q w i (j + 1) := by
  apply getD_ext
  · simp [amid_length]
  · intro p hp
    rw [List.length_set, amid_length] at hp
    rw [amid_get _ _ _ _ _ _ hp]
    rw [List.getD_eq_getElem?_getD, List.getElem?_set]
    by_cases hqj : j = p
    · subst hqj
      rw [amid_length]
      simp [h]
    · rw [if_neg hqj, ← List.getD_eq_getElem?_getD, amid_get _ _ _ _ _ _ hp]
      by_cases h1 : p < j
      · rw [if_pos h1, if_pos (by omega)]
      · rw [if_neg h1, if_neg (by omega)]
theorem amid_full (i n : Nat) (hn : ∀ j, n ≤ j → ysum Y j (q.getD i z60).f0 = 0) : amid Y q w i n = amid Y q w (i + 1) 0 := by
  unfold amid
  apply List.map_congr_left
  intro j hj
  rw [if_neg (show ¬ j < 0 by omega)]
  by_cases h : j < n
  · rw [if_pos h]
  · rw [if_neg h]
    have e : askT (ysum Y j) q (i + 1) = askT (ysum Y j) q i := by
      simp only [askT, sg, askH, hn j (by omega), Int.zero_mul, Int.add_zero]
    rw [e]
/-- What is known of the symbols, the tags and the challenge. -/
structure AH : Prop where
  hw : w ≤ 64
  hq : q.length ≤ 40
  hY : ∀ i, i < Y.length → (Y.getD i []).length ≤ w ∧ ∀ x ∈ Y.getD i [], 0 ≤ x ∧ x < 2147483647
  ht : t.length = Y.length
  htr : ∀ x ∈ t, 0 ≤ x ∧ x < 2147483647
  hc : chalS q Y.length = 0
theorem ans_l2 (H : AH Y t q w) (i : Nat) (hi : i < q.length) (R : List Int × Int × Int)
    (hR : Ev (fun k => tag_Answer.l1 k t Y (amid Y q w (i + 1) 0) (askT (tsum t) q (i + 1) % 2147483647) q (q.length : Int) ((i + 1 : Nat) : Int)) R) : ∀ d j : Nat, j + d = (rd_L2 Y (q.getD i z60).f0).length →
    Ev (fun k => tag_Answer.l2 k t Y (amid Y q w i j) (askT (tsum t) q i % 2147483647) q (q.length : Int) i (rd_L2 Y (q.getD i z60).f0) ((rd_L2 Y (q.getD i z60).f0).length : Int) j (q.getD i z60).f0 (q.getD i z60).f1) R := by
  obtain ⟨hw, hq, hY, ht, htr, hc⟩ := id H
  obtain ⟨⟨h1, h2⟩, h3⟩ := ask_mem hc i hi
  have hy := hY (q.getD i z60).f0.toNat (by omega)
  have hyl : (rd_L2 Y (q.getD i z60).f0).length ≤ w := hy.1
  intro d
  induction d with
  | zero =>
    intro j hj
    apply Ev_succ
    have e1 : tag_residue_times.f (rd t (q.getD i z60).f0) (q.getD i z60).f1 = some (askH (tsum t) q i % 2147483647) := times_f _ _ (getD_res htr _) h3
    simp only [tag_Answer.l2, if_neg (show ¬ (j : Int) < ((rd_L2 Y (q.getD i z60).f0).length : Int) by omega), if_pos h1, if_pos (show (q.getD i z60).f0 < (t.length : Int) by omega), e1, Option.bind_some]
    refine Ev.bind (sum2_ev _ _ (mod_res _) (mod_res _)) ?_
    have e2 : (askT (tsum t) q i % 2147483647 + askH (tsum t) q i % 2147483647) % 2147483647 = askT (tsum t) q (i + 1) % 2147483647 := sg_step _ _ _ rfl
    simp only [wrap_succ i q.length hi (by omega), e2]
    rw [amid_full Y q w i j (fun j' h => by
      unfold ysum
      rw [List.getD_eq_getElem?_getD, List.getElem?_eq_none (by
        have : (rd_L2 Y (q.getD i z60).f0).length = (Y.getD (q.getD i z60).f0.toNat []).length := rfl
        omega)]
      rfl)]
    exact hR
  | succ d ih =>
    intro j hj
    apply Ev_succ
    have e1 : tag_residue_times.f (rd (rd_L2 Y (q.getD i z60).f0) (j : Int)) (q.getD i z60).f1 = some (askH (ysum Y j) q i % 2147483647) := by
      rw [rd_nat]
      exact times_f _ _ (getD_res hy.2 _) h3
    have e2 : rd (amid Y q w i j) (j : Int) = askT (ysum Y j) q i % 2147483647 := by
      rw [rd_nat, amid_get _ _ _ _ _ _ (by omega), if_neg (by omega)]
    simp only [tag_Answer.l2, if_pos (show (j : Int) < ((rd_L2 Y (q.getD i z60).f0).length : Int) by omega), if_pos (show 0 ≤ (j : Int) by omega), if_pos (show (j : Int) < ((amid Y q w i j).length : Int) by rw [amid_length]; omega), e1, e2, Option.bind_some]
    refine Ev.bind (sum2_ev _ _ (mod_res _) (mod_res _)) ?_
    have e3 : (askT (ysum Y j) q i % 2147483647 + askH (ysum Y j) q i % 2147483647) % 2147483647 = askT (ysum Y j) q (i + 1) % 2147483647 := sg_step _ _ _ rfl
    simp only [wrap_succ j w (by omega) (by omega), Int.toNat_natCast, e3]
    rw [amid_set Y q w i j (by omega)]
    exact ih (j + 1) (by omega)
def ansS : List Int × Int × Int := ((List.range w).map fun j => askT (ysum Y j) q q.length % 2147483647, askT (tsum t) q q.length % 2147483647, 0)
theorem ans_l1 (H : AH Y t q w) : ∀ d i : Nat, i + d = q.length →
    Ev (fun k => tag_Answer.l1 k t Y (amid Y q w i 0) (askT (tsum t) q i % 2147483647) q (q.length : Int) i) (ansS Y t q w) := by
  obtain ⟨hw, hq, hY, ht, htr, hc⟩ := id H
  intro d
  induction d with
  | zero =>
    intro i hi
    apply Ev_succ
    obtain rfl : i = q.length := by omega
    simp only [tag_Answer.l1, if_neg (show ¬ (q.length : Int) < (q.length : Int) by omega)]
    refine Ev.bind (plain_ev _ _ (by rw [amid_length]; omega)) ?_
    exact Ev_now' (by unfold ansS amid; simp)
  | succ d ih =>
    intro i hi
    have hil : i < q.length := by omega
    obtain ⟨⟨h1, h2⟩, h3⟩ := ask_mem hc i hil
    apply Ev_succ
    simp only [tag_Answer.l1, if_pos (show (i : Int) < (q.length : Int) by omega), if_pos (show 0 ≤ (i : Int) by omega), rd60, if_pos h1, if_pos h2]
    exact ans_l2 Y t q w H i hil _ (ih (i + 1) (by omega)) (rd_L2 Y (q.getD i z60).f0).length 0 (Nat.zero_add _)
end
def syms (b : List ByteArray) (n : Nat) : List (List Int) := (List.range n).map fun i => Ha.symbols (b.getD i ByteArray.empty)
theorem syms_length (b : List ByteArray) (n : Nat) : (syms b n).length = n := by simp [syms]
theorem syms_succ (b : List ByteArray) (n : Nat) : syms b (n + 1) = syms b n ++ [Ha.symbols (b.getD n ByteArray.empty)] := by
  unfold syms; rw [List.range_succ, List.map_append]; rfl
theorem syms_get (b : List ByteArray) (n i : Nat) (h : i < n) : (syms b n).getD i [] = Ha.symbols (b.getD i ByteArray.empty) := by
  simp [syms, List.getD, h]
theorem ans_l0 (b : List ByteArray) (t : List Int) (q : List S60) (w : Nat) (hl : b.length ≤ 200) (hb : ∀ s ∈ b, s.size ≤ 2000) (hw : w ≤ 64) (hq : q.length ≤ 40) (ht : t.length = b.length) (htr : ∀ x ∈ t, 0 ≤ x ∧ x < 2147483647)
    (hf : ∀ i, i < b.length → (Ha.symbols (b.getD i ByteArray.empty)).length ≤ w) : ∀ d i : Nat, i + d = b.length →
    Ev (fun k => tag_Answer.l0 k (w : Int) b t q (syms b i) b (b.length : Int) i) (if chalS q b.length = 0 then ansS (syms b b.length) t q w else ([], 0, chalS q b.length)) := by
  intro d
  induction d with
  | zero =>
    intro i hi
    apply Ev_succ
    obtain rfl : i = b.length := by omega
    simp only [tag_Answer.l0, if_neg (show ¬ (b.length : Int) < (b.length : Int) by omega), contains_f t (by omega), any_res htr, Option.bind_some, Bool.false_eq_true, if_false]
    refine Ev.bind (chal_ev q b.length (by omega)) ?_
    by_cases hz : chalS q b.length = 0
    rotate_left
    · simp only [if_neg hz]; exact Ev.now _
    simp only [if_pos hz, if_pos (show 0 ≤ (w : Int) by omega), Int.toNat_natCast, if_pos (show w ≤ 35184372088832 by omega)]
    have H : AH (syms b b.length) t q w := by
      refine ⟨hw, hq, fun i hi => ?_, by rw [syms_length]; exact ht, htr, by rw [syms_length]; exact hz⟩
      rw [syms_length] at hi
      rw [syms_get b _ i hi]
      exact ⟨hf i hi, sym_res _⟩
    have := ans_l1 _ t q w H q.length 0 (by omega)
    have e : amid (syms b b.length) q w 0 0 = List.replicate w 0 := by
      unfold amid
      apply List.ext_getElem
      · simp
      · intro n h1 h2
        simp [askT, sg]
    rw [e] at this
    exact this
  | succ d ih =>
    intro i hi
    have hil : i < b.length := by omega
    have hrd : rdOf ByteArray.empty b (i : Int) = b.getD i ByteArray.empty := by simp [rdOf]
    apply Ev_succ
    have := hf i hil
    simp only [tag_Answer.l0, if_pos (show (i : Int) < (b.length : Int) by omega), if_pos (show 0 ≤ (i : Int) by omega), hrd, sym_f _ (size_getD hb i), Option.bind_some, gt_iff_lt, if_neg (show ¬ (w : Int) < ((Ha.symbols (b.getD i ByteArray.empty)).length : Int) by omega), if_pos (show (syms b i).length < 5864062014805 by rw [syms_length]; omega), wrap_succ i b.length hil (by omega), ← syms_succ]
    exact ih (i + 1) (by omega)
theorem answer_ev (b : List ByteArray) (t : List Int) (q : List S60) (w : Nat) (hl : b.length ≤ 200) (hb : ∀ s ∈ b, s.size ≤ 2000) (hw0 : 1 ≤ w) (hw : w ≤ 64) (hq : q.length ≤ 40) (ht : t.length = b.length) (htr : ∀ x ∈ t, 0 ≤ x ∧ x < 2147483647)
    (hf : ∀ i, i < b.length → (Ha.symbols (b.getD i ByteArray.empty)).length ≤ w) :
    Ev (fun k => tag_Answer.f k (w : Int) b t q) (if chalS q b.length = 0 then ansS (syms b b.length) t q w else ([], 0, chalS q b.length)) := by
  unfold tag_Answer.f
  simp only [if_neg (show ¬ (w : Int) < 1 by omega), gt_iff_lt, if_neg (show ¬ (64 : Int) < (w : Int) by omega), decide_eq_false (show ¬ (200 : Int) < (b.length : Int) by omega)]
  apply Ev_succ
  simp only [tag_Answer.j0, Bool.false_eq_true, if_false, if_pos (show (t.length : Int) = (b.length : Int) by omega)]
  exact ans_l0 b t q w hl hb hw hq ht htr hf b.length 0 (by omega)

/-! ### inverse -/
/-- The power that inverse computes. -/
theorem inv_l0 : ∀ n : Nat, n ≤ 2147483645 → ∀ a o : Int, (0 ≤ a ∧ a < 2147483647) → (0 ≤ o ∧ o < 2147483647) → Ev (fun k => quietuslaw43_inverse.l0 k a o (n : Int)) (((a.toNat ^ n * o.toNat % 2147483647 : Nat) : Int)) := by
  intro n
  induction n using Nat.strongRecOn with
  | _ n ih =>
    intro hn a o ha ho
    apply Ev_succ
    by_cases h0 : n = 0
    · subst h0
      simp only [quietuslaw43_inverse.l0, if_neg (show ¬ ((0 : Nat) : Int) > 0 by omega)]
      exact Ev_now' (by
        rw [Nat.pow_zero, Nat.one_mul, Nat.mod_eq_of_lt (by omega)]
        omega)
    have e1 : Int.tmod (n : Int) 2 = ((n % 2 : Nat) : Int) := by rw [Int.tmod_eq_emod_of_nonneg (by omega)]; omega
    have e2 : wrap64 (Int.tdiv (n : Int) 2) = ((n / 2 : Nat) : Int) := by
      rw [Int.tdiv_eq_ediv_of_nonneg (by omega)]
      unfold wrap64
      omega
    have e3 : Int.tmod (wrap64 (a * a)) 2147483647 = a * a % 2147483647 := emod_res a a ha ha
    have e4 : Int.tmod (wrap64 (o * a)) 2147483647 = o * a % 2147483647 := emod_res o a ho ha
    have sq : (a * a % 2147483647).toNat = a.toNat * a.toNat % 2147483647 := by
      obtain ⟨x, rfl⟩ : ∃ x : Nat, a = x := ⟨a.toNat, by omega⟩
      rw [← Int.natCast_mul x x, Int.toNat_natCast]
      omega
    have om : (o * a % 2147483647).toNat = o.toNat * a.toNat % 2147483647 := by
      obtain ⟨x, rfl⟩ : ∃ x : Nat, a = x := ⟨a.toNat, by omega⟩
      obtain ⟨y, rfl⟩ : ∃ y : Nat, o = y := ⟨o.toNat, by omega⟩
      rw [← Int.natCast_mul y x, Int.toNat_natCast, Int.toNat_natCast]
      omega
    simp only [quietuslaw43_inverse.l0, if_pos (show (n : Int) > 0 by omega), e1, e2, e3, e4]
    have pw : ∀ z : Nat, (a.toNat * a.toNat % 2147483647) ^ (n / 2) * z % 2147483647 = a.toNat ^ (2 * (n / 2)) * z % 2147483647 := by
      intro z
      rw [Nat.mul_mod, ← Nat.pow_mod, ← Nat.mul_mod, Nat.pow_mul, show a.toNat ^ 2 = a.toNat * a.toNat by rw [Nat.pow_succ, Nat.pow_one]]
    by_cases hodd : n % 2 = 1
    · simp only [if_pos (show ((n % 2 : Nat) : Int) = 1 by omega)]
      have := ih (n / 2) (by omega) (by omega) (a * a % 2147483647) (o * a % 2147483647) (mod_res _) (mod_res _)
      rw [sq, om] at this
      have e : (a.toNat * a.toNat % 2147483647) ^ (n / 2) * (o.toNat * a.toNat % 2147483647) % 2147483647 = a.toNat ^ n * o.toNat % 2147483647 := by
        rw [pw, Nat.mul_mod, Nat.mod_mod, ← Nat.mul_mod]
        conv => rhs; rw [show n = 2 * (n / 2) + 1 by omega, Nat.pow_succ]
        rw [Nat.mul_comm o.toNat a.toNat, Nat.mul_assoc]
      rw [e] at this
      exact this
    · simp only [if_neg (show ¬ ((n % 2 : Nat) : Int) = 1 by omega)]
      have := ih (n / 2) (by omega) (by omega) (a * a % 2147483647) o (mod_res _) ho
      rw [sq, pw, show 2 * (n / 2) = n by omega] at this
      exact this
theorem nat_res (z : Nat) : 0 ≤ ((z % 2147483647 : Nat) : Int) ∧ ((z % 2147483647 : Nat) : Int) < 2147483647 := by omega
theorem inverse_gen (n : Nat) (hn : n + 2 = 2147483647) (a : Int) (ha : 0 < a ∧ a < 2147483647) : ∃ v : Int, (0 ≤ v ∧ v < 2147483647) ∧ a * v % 2147483647 = 1 ∧ Ev (fun k => quietuslaw43_inverse.l0 k a 1 (n : Int)) v := by
  refine ⟨((a.toNat ^ n * (1 : Int).toNat % 2147483647 : Nat) : Int), nat_res _, ?_, inv_l0 n (by omega) a 1 (by omega) (by omega)⟩
  obtain ⟨x, rfl⟩ : ∃ x : Nat, a = x := ⟨a.toNat, by omega⟩
  have hp : Mf.Pr (n + 2) := by rw [hn]; exact Mf.prime
  have hnd : ¬ (n + 2) ∣ x := fun h => by
    have := Nat.le_of_dvd (by omega) h
    omega
  have hi := hp.inv hnd
  rw [Nat.add_sub_cancel] at hi
  rw [Int.toNat_natCast, show (1 : Int).toNat = 1 from rfl, Nat.mul_one]
  generalize x ^ n = z at hi ⊢
  have h2 : x * (z % 2147483647) % 2147483647 = 1 := by rw [Nat.mul_mod, Nat.mod_mod, ← Nat.mul_mod, Nat.mul_comm, ← hn]; exact hi
  rw [← Int.natCast_mul]
  omega
theorem inverse_ev (a : Int) (ha : 0 < a ∧ a < 2147483647) : ∃ v : Int, (0 ≤ v ∧ v < 2147483647) ∧ a * v % 2147483647 = 1 ∧ Ev (fun k => quietuslaw43_inverse.f k a) v := by
  obtain ⟨v, h1, h2, h3⟩ := inverse_gen 2147483645 rfl a ha
  exact ⟨v, h1, h2, h3⟩
end Go.Proofs.Ytekkjikmcnndoaa.M
