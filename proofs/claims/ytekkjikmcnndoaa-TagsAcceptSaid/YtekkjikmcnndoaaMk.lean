/- What few, Make, tagged, Verify, Answer and inverse come to, in closed form. For every list within the sizes that each theorem states. -/
import Derived.Test.YtekkjikmcnndoaaMg
namespace Go.Proofs.Ytekkjikmcnndoaa.M
open Go.RowKit Go.Proofs.YtekkjikmcnndoaaW.PrintWords Go.Proofs.YtekkjikmcnndoaaW.PrintLast Go.Proofs.Ytekkjikmcnndoaa.P
open Go.Proofs.Ytekkjikmcnndoaa.Ha (wildB)
set_option linter.unusedVariables false
set_option linter.unusedSimpArgs false

/-! ### few -/
def szs : List ByteArray → Int
  | [] => 0
  | s :: r => (s.size : Int) + szs r
theorem szs_range : ∀ l : List ByteArray, (∀ s ∈ l, s.size ≤ 140737488351232) → 0 ≤ szs l ∧ szs l ≤ 140737488351232 * (l.length : Int)
  | [], _ => by simp [szs]
  | s :: r, h => by
    have ih := szs_range r (fun x hx => h x (by simp [hx]))
    have h1 := h s (by simp)
    simp only [szs, List.length_cons]
    omega
theorem szs_mem : ∀ l : List ByteArray, ∀ s ∈ l, (s.size : Int) ≤ szs l
  | x :: r, s, h => by
    have h0 : 0 ≤ szs r := by
      clear h
      induction r with
      | nil => simp [szs]
      | cons a r ih => simp only [szs]; omega
    rcases List.mem_cons.mp h with rfl | h
    · simp only [szs]; omega
    · have := szs_mem r s h
      simp only [szs]; omega
def fewS (m s : List Int) (b : List ByteArray) (t : List Int) (q : List S60) (a : List Int) : Bool :=
  if 70 < m.length ∨ 205 < s.length ∨ 205 < b.length ∨ 205 < t.length ∨ 40 < q.length ∨ 70 < a.length then false else decide (szs b ≤ 2000)
theorem few_l0 (b : List ByteArray) (hb : b.length ≤ 205) (hs : ∀ s ∈ b, s.size ≤ 140737488351232) : ∀ d i : Nat, i + d = b.length → ∀ a : Int, 0 ≤ a → a + szs (b.drop i) ≤ 140737488351232 * 205 →
    Ev (fun k => quietuslaw43_few.l0 k a b (b.length : Int) i) (decide (a + szs (b.drop i) ≤ 2000)) := by
  intro d
  induction d with
  | zero =>
    intro i hi a ha hle
    apply Ev_succ
    simp only [quietuslaw43_few.l0, if_neg (show ¬ (i : Int) < (b.length : Int) by omega)]
    exact Ev_now' (by rw [List.drop_of_length_le (by omega)]; simp [szs])
  | succ d ih =>
    intro i hi a ha hle
    have hil : i < b.length := by omega
    have hd : b.drop i = b.getD i ByteArray.empty :: b.drop (i + 1) := by
      rw [List.drop_eq_getElem_cons hil]
      simp [List.getD, hil]
    rw [hd] at hle ⊢
    simp only [szs] at hle ⊢
    have hr := szs_range (b.drop (i + 1)) (fun s h => hs s (List.mem_of_mem_drop h))
    have hw : wrap64 (a + ((b.getD i ByteArray.empty).size : Int)) = a + ((b.getD i ByteArray.empty).size : Int) := by unfold wrap64; omega
    have hrd : rdOf ByteArray.empty b (i : Int) = b.getD i ByteArray.empty := by simp [rdOf]
    apply Ev_succ
    simp only [quietuslaw43_few.l0, if_pos (show (i : Int) < (b.length : Int) by omega), if_pos (show 0 ≤ (i : Int) by omega), hrd, hw, wrap_succ i b.length hil (by omega)]
    have := ih (i + 1) (by omega) (a + ((b.getD i ByteArray.empty).size : Int)) (by omega) (by omega)
    rw [Int.add_assoc] at this
    exact this
theorem few_ev (m s : List Int) (b : List ByteArray) (t : List Int) (q : List S60) (a : List Int) (x : Int) (hs : ∀ s ∈ b, s.size ≤ 140737488351232) : Ev (fun k => quietuslaw43_few.f k m s b t q a x) (fewS m s b t q a) := by
  have hj : ∀ c, (c = true → fewS m s b t q a = false) → (c = false → ¬ (70 < m.length ∨ 205 < s.length ∨ 205 < b.length ∨ 205 < t.length ∨ 40 < q.length ∨ 70 < a.length)) → Ev (fun k => quietuslaw43_few.j0 k c m s b t q a x) (fewS m s b t q a) := by
    intro c h1 h0
    apply Ev_succ
    cases c with
    | true => simp only [quietuslaw43_few.j0, if_true, h1 rfl]; exact Ev.now _
    | false =>
      have hl := h0 rfl
      simp only [quietuslaw43_few.j0, Bool.false_eq_true, if_false]
      have hr := szs_range b hs
      have := few_l0 b (by omega) hs b.length 0 (by omega) 0 (by omega) (by simp only [List.drop_zero]; omega)
      simp only [List.drop_zero, Int.zero_add] at this
      unfold fewS
      rw [if_neg hl]
      exact this
  unfold quietuslaw43_few.f
  simp only [gt_iff_lt]
  by_cases h1 : 70 < m.length
  · simp only [if_pos (show (70 : Int) < (m.length : Int) by omega)]
    exact hj true (fun _ => by unfold fewS; rw [if_pos (by omega)]) (fun h => by cases h)
  simp only [if_neg (show ¬ (70 : Int) < (m.length : Int) by omega)]
  by_cases h2 : 205 < s.length
  · simp only [if_pos (show (205 : Int) < (s.length : Int) by omega)]
    exact hj true (fun _ => by unfold fewS; rw [if_pos (by omega)]) (fun h => by cases h)
  simp only [if_neg (show ¬ (205 : Int) < (s.length : Int) by omega)]
  by_cases h3 : 205 < b.length
  · simp only [if_pos (show (205 : Int) < (b.length : Int) by omega)]
    exact hj true (fun _ => by unfold fewS; rw [if_pos (by omega)]) (fun h => by cases h)
  simp only [if_neg (show ¬ (205 : Int) < (b.length : Int) by omega)]
  by_cases h4 : 205 < t.length
  · simp only [if_pos (show (205 : Int) < (t.length : Int) by omega)]
    exact hj true (fun _ => by unfold fewS; rw [if_pos (by omega)]) (fun h => by cases h)
  simp only [if_neg (show ¬ (205 : Int) < (t.length : Int) by omega)]
  by_cases h5 : 40 < q.length
  · simp only [if_pos (show (40 : Int) < (q.length : Int) by omega)]
    exact hj true (fun _ => by unfold fewS; rw [if_pos (by omega)]) (fun h => by cases h)
  simp only [if_neg (show ¬ (40 : Int) < (q.length : Int) by omega)]
  by_cases h6 : 70 < a.length
  · simp only [decide_eq_true (show (70 : Int) < (a.length : Int) by omega)]
    exact hj true (fun _ => by unfold fewS; rw [if_pos (by omega)]) (fun h => by cases h)
  · simp only [decide_eq_false (show ¬ (70 : Int) < (a.length : Int) by omega)]
    exact hj false (fun h => by cases h) (fun _ => by omega)
theorem fewS_true {m s : List Int} {b : List ByteArray} {t : List Int} {q : List S60} {a : List Int} (h : fewS m s b t q a = true) : m.length ≤ 70 ∧ s.length ≤ 205 ∧ b.length ≤ 205 ∧ q.length ≤ 40 ∧ a.length ≤ 70 ∧ ∀ s ∈ b, s.size ≤ 2000 := by
  unfold fewS at h
  split at h
  · cases h
  · rename_i hn
    refine ⟨by omega, by omega, by omega, by omega, by omega, fun s hs => ?_⟩
    have := szs_mem b s hs
    have := of_decide_eq_true h
    omega

/-! ### Make, tagged -/
theorem sym_res (c : ByteArray) : ∀ x ∈ Ha.symbols c, 0 ≤ x ∧ x < 2147483647 := by
  intro x hx
  unfold Ha.symbols at hx
  obtain ⟨j, _, rfl⟩ := List.mem_map.mp hx
  unfold Ha.symAt
  have h1 := bt_range c (3 * j : Nat)
  have h2 := bt_range c (3 * j + 1 : Nat)
  have h3 := bt_range c (3 * j + 2 : Nat)
  omega
theorem sym_length (c : ByteArray) (h : c.size ≤ 2000) : (Ha.symbols c).length ≤ 667 := by
  unfold Ha.symbols
  simp only [List.length_map, List.length_range]
  omega
theorem sym_f (c : ByteArray) (h : c.size ≤ 2000) : Ha.tag_Symbols.f c = some (Ha.symbols c) := by
  unfold Ha.tag_Symbols.f
  rw [if_pos (by omega)]
def makeS (m s : List Int) (i : Nat) (c : ByteArray) : Int × Int :=
  if s.length ≤ i then (0, 1) else if m.length < (Ha.symbols c).length then (0, 2) else ((s.getD i 0 + dotI m (Ha.symbols c)) % 2147483647, 0)
theorem make_ev (m s : List Int) (hc : checkS m s = 0) (i : Nat) (c : ByteArray) (hs : c.size ≤ 2000) : Ev (fun k => tag_Make.f k m s (i : Int) c) (makeS m s i c) := by
  obtain ⟨h1, h2, h3, hm, hsd⟩ := checkS_zero hc
  have hy := sym_length c hs
  unfold tag_Make.f
  have hck := check_ev m s
  rw [hc] at hck
  refine Ev.bind hck ?_
  simp only [if_true, if_neg (show ¬ (i : Int) < 0 by omega)]
  apply Ev_succ
  unfold makeS
  by_cases hi : s.length ≤ i
  · simp only [tag_Make.j0, decide_eq_true (show (i : Int) ≥ (s.length : Int) by omega), if_true, if_pos hi]
    exact Ev.now _
  simp only [tag_Make.j0, decide_eq_false (show ¬ (i : Int) ≥ (s.length : Int) by omega), Bool.false_eq_true, if_false, if_neg hi, sym_f c hs, Option.bind_some, gt_iff_lt]
  by_cases hl : m.length < (Ha.symbols c).length
  · simp only [if_pos (show (m.length : Int) < ((Ha.symbols c).length : Int) by omega), if_pos hl]
    exact Ev.now _
  simp only [if_neg (show ¬ (m.length : Int) < ((Ha.symbols c).length : Int) by omega), if_neg hl, if_pos (show 0 ≤ (i : Int) by omega), if_pos (show (i : Int) < (s.length : Int) by omega), rd_nat]
  refine Ev.bind (product_ev m _ hm (sym_res c) (by omega) (by omega)) ?_
  refine Ev.bind (sum2_ev _ _ (getD_res hsd i) (mod_res _)) ?_
  exact Ev_now' (by
    congr 1
    generalize dotI m (Ha.symbols c) = q
    omega)
def fits (m s : List Int) (b : List ByteArray) (i : Nat) : Prop := i < s.length ∧ (Ha.symbols (b.getD i ByteArray.empty)).length ≤ m.length
def tg (m s : List Int) (b : List ByteArray) (i : Nat) : Int := (s.getD i 0 + dotI m (Ha.symbols (b.getD i ByteArray.empty))) % 2147483647
def tgl (m s : List Int) (b : List ByteArray) (n : Nat) : List Int := (List.range n).map (tg m s b)
theorem tgl_succ (m s : List Int) (b : List ByteArray) (n : Nat) : tgl m s b (n + 1) = tgl m s b n ++ [tg m s b n] := by
  unfold tgl; rw [List.range_succ, List.map_append]; rfl
theorem tgl_length (m s : List Int) (b : List ByteArray) (n : Nat) : (tgl m s b n).length = n := by simp [tgl]
theorem tgl_get (m s : List Int) (b : List ByteArray) (n i : Nat) (h : i < n) : (tgl m s b n).getD i 0 = tg m s b i := by
  simp [tgl, List.getD, h]
theorem tg_res (m s : List Int) (b : List ByteArray) (i : Nat) : 0 ≤ tg m s b i ∧ tg m s b i < 2147483647 := mod_res _
theorem tgl_res (m s : List Int) (b : List ByteArray) (n : Nat) : ∀ x ∈ tgl m s b n, 0 ≤ x ∧ x < 2147483647 := by
  intro x hx
  obtain ⟨i, _, rfl⟩ := List.mem_map.mp hx
  exact tg_res m s b i
theorem size_getD {b : List ByteArray} (hb : ∀ s ∈ b, s.size ≤ 2000) (i : Nat) : (b.getD i ByteArray.empty).size ≤ 2000 := by
  rw [List.getD_eq_getElem?_getD]
  by_cases hi : i < b.length
  · rw [List.getElem?_eq_getElem hi]; exact hb _ (List.getElem_mem hi)
  · rw [List.getElem?_eq_none (by omega)]; exact Nat.zero_le _
theorem tagged_l0 (m s : List Int) (b : List ByteArray) (hc : checkS m s = 0) (hl : b.length ≤ 205) (hb : ∀ s ∈ b, s.size ≤ 2000) (R : List Int × Bool)
    (hR : (∀ i, i < b.length → fits m s b i) → R = (tgl m s b b.length, true)) (hR2 : ∀ i, i < b.length → ¬ fits m s b i → R = ([], false)) : ∀ d i : Nat, i + d = b.length → (∀ j, j < i → fits m s b j) →
    Ev (fun k => quietuslaw43_tagged.l0 k (tgl m s b i) b (b.length : Int) i m s) R := by
  intro d
  induction d with
  | zero =>
    intro i hi hj
    apply Ev_succ
    simp only [quietuslaw43_tagged.l0, if_neg (show ¬ (i : Int) < (b.length : Int) by omega)]
    exact Ev_now' (by rw [hR (fun j h => hj j (by omega)), show i = b.length by omega])
  | succ d ih =>
    intro i hi hj
    have hil : i < b.length := by omega
    have hrd : rdOf ByteArray.empty b (i : Int) = b.getD i ByteArray.empty := by simp [rdOf]
    apply Ev_succ
    simp only [quietuslaw43_tagged.l0, if_pos (show (i : Int) < (b.length : Int) by omega), if_pos (show 0 ≤ (i : Int) by omega), hrd, wrap_succ i b.length hil (by omega)]
    refine Ev.bind (make_ev m s hc i _ (size_getD hb i)) ?_
    unfold makeS
    by_cases h1 : s.length ≤ i
    · simp only [if_pos h1]
      exact Ev_now' (hR2 i hil (fun h => by have := h.1; omega)).symm
    simp only [if_neg h1]
    by_cases h2 : m.length < (Ha.symbols (b.getD i ByteArray.empty)).length
    · simp only [if_pos h2]
      exact Ev_now' (hR2 i hil (fun h => by have := h.2; omega)).symm
    simp only [if_neg h2, if_true, if_pos (show (tgl m s b i).length < 17592186044416 by rw [tgl_length]; omega)]
    have e : tgl m s b i ++ [(s.getD i 0 + dotI m (Ha.symbols (b.getD i ByteArray.empty))) % 2147483647] = tgl m s b (i + 1) := (tgl_succ m s b i).symm
    rw [e]
    exact ih (i + 1) (by omega) (fun j h => by
      rcases Nat.lt_or_ge j i with h3 | h3
      · exact hj j h3
      · obtain rfl : j = i := by omega
        exact ⟨by omega, by omega⟩)
theorem tagged_good (m s : List Int) (b : List ByteArray) (hc : checkS m s = 0) (hl : b.length ≤ 205) (hb : ∀ s ∈ b, s.size ≤ 2000) (hg : ∀ i, i < b.length → fits m s b i) : Ev (fun k => quietuslaw43_tagged.f k m s b) (tgl m s b b.length, true) := by
  unfold quietuslaw43_tagged.f
  exact tagged_l0 m s b hc hl hb _ (fun _ => rfl) (fun i hi h => absurd (hg i hi) h) b.length 0 (by omega) (fun j h => by omega)
theorem tagged_bad (m s : List Int) (b : List ByteArray) (hc : checkS m s = 0) (hl : b.length ≤ 205) (hb : ∀ s ∈ b, s.size ≤ 2000) (hg : ¬ ∀ i, i < b.length → fits m s b i) : Ev (fun k => quietuslaw43_tagged.f k m s b) ([], false) := by
  unfold quietuslaw43_tagged.f
  exact tagged_l0 m s b hc hl hb _ (fun h => absurd h hg) (fun i hi h => rfl) b.length 0 (by omega) (fun j h => by omega)
end Go.Proofs.Ytekkjikmcnndoaa.M
