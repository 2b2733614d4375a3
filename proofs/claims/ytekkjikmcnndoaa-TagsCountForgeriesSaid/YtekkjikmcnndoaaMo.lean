/- The plain law of TagsCountForgeries: with one value of a factor, and no other, another answer is accepted. For every key, challenge and answer within the sizes that the theorems state. -/
import Derived.Test.YtekkjikmcnndoaaMn
namespace Go.Proofs.Ytekkjikmcnndoaa.M
open Go.RowKit Go.Proofs.YtekkjikmcnndoaaW.PrintWords Go.Proofs.YtekkjikmcnndoaaW.PrintLast Go.Proofs.Ytekkjikmcnndoaa.P
open Go.Proofs.Ytekkjikmcnndoaa.Ha (wildB)
set_option linter.unusedVariables false
set_option linter.unusedSimpArgs false

theorem tmod_sub (a b : Int) (ha : 0 ≤ a ∧ a < 2147483647) (hb : 0 ≤ b ∧ b < 2147483647) : Int.tmod (wrap64 (wrap64 (a - b) + 2147483647)) 2147483647 = (a - b) % 2147483647 := by
  have e : wrap64 (wrap64 (a - b) + 2147483647) = a - b + 2147483647 := by unfold wrap64; omega
  rw [e, Int.tmod_eq_emod_of_nonneg (by omega)]; omega
theorem tmod_asb (a c b : Int) (ha : 0 ≤ a ∧ a < 2147483647) (hc : 0 ≤ c ∧ c < 2147483647) (hb : 0 ≤ b ∧ b < 2147483647) : Int.tmod (wrap64 (wrap64 (wrap64 (a + c) - b) + 2147483647)) 2147483647 = (a + c - b) % 2147483647 := by
  have e : wrap64 (wrap64 (wrap64 (a + c) - b) + 2147483647) = a + c - b + 2147483647 := by unfold wrap64; omega
  rw [e, Int.tmod_eq_emod_of_nonneg (by omega)]; omega

section
variable (m s : List Int) (b : List ByteArray) (q : List S60) (a : List Int) (x : Int) (j : Nat)
/-- What is known of the case. -/
structure CF : Prop where
  hc : checkS m s = 0
  hb : b.length ≤ 205
  hs : ∀ s ∈ b, s.size ≤ 2000
  hf : ∀ i, i < b.length → fits m s b i
  hq : q.length ≤ 40
  hqb : chalS q b.length = 0
  hqs : chalS q s.length = 0
  ha : a.length = m.length
  har : ∀ y ∈ a, 0 ≤ y ∧ y < 2147483647
  hx : 0 ≤ x ∧ x < 2147483647
  hj : j < m.length
/-- The symbols, the tags, the sums, the tag's sum. -/
def Yb : List (List Int) := syms b b.length
def Tb : List Int := tgl m s b b.length
def Sm (i : Nat) : Int := askT (ysum (Yb b) i) q q.length
def Rt : Int := askT (tsum (Tb m s b)) q q.length
def dd (i : Nat) : Int := (a.getD i 0 - Sm b q i % 2147483647) % 2147483647
def gj (i : Nat) : Int := if i = j then 0 else dd b q a i * m.getD i 0
def restS : Nat → Int
  | 0 => (x - Rt m s b q % 2147483647) % 2147483647
  | i + 1 => if i = j then restS i else (restS i - dd b q a i * m.getD i 0 % 2147483647) % 2147483647
theorem restS_res : ∀ i, 0 ≤ restS m s b q a x j i ∧ restS m s b q a x j i < 2147483647
  | 0 => mod_res _
  | i + 1 => by
    unfold restS
    by_cases h : i = j
    · rw [if_pos h]; exact restS_res i
    · rw [if_neg h]; exact mod_res _
theorem restS_cg : ∀ i, cg (restS m s b q a x j i) (x - Rt m s b q - sg (gj m b q a j) i)
  | 0 => by
    unfold restS
    refine cg.mod.trans ?_
    simp only [sg, Int.sub_zero]
    exact cg.rfl.sub cg.mod
  | i + 1 => by
    have ih := restS_cg i
    unfold restS
    by_cases h : i = j
    · rw [if_pos h]
      refine ih.trans (cg.of_eq ?_)
      simp only [sg, gj, if_pos h]; omega
    · rw [if_neg h]
      refine cg.mod.trans ((ih.sub cg.mod).trans (cg.of_eq ?_))
      simp only [sg, gj, if_neg h]; omega
def diffL (i : Nat) : List Int := (List.range m.length).map fun p => if p < i then dd b q a p else 0
theorem diffL_length (i : Nat) : (diffL m b q a i).length = m.length := by simp [diffL]
theorem diffL_get (i p : Nat) (h : p < m.length) : (diffL m b q a i).getD p 0 = if p < i then dd b q a p else 0 := by
  simp [diffL, List.getD, h]
theorem diffL_set (i : Nat) (h : i < m.length) : (diffL m b q a i).set i (dd b q a i) = diffL m b q a (i + 1) := by
  apply getD_ext
  · simp [diffL_length]
  · intro p hp
    rw [List.length_set, diffL_length] at hp
    rw [diffL_get _ _ _ _ _ _ hp, getD_set _ _ _ _ (by rw [diffL_length]; exact h)]
    by_cases h1 : p = i
    · subst h1; rw [if_pos rfl, if_pos (by omega)]
    · rw [if_neg h1, diffL_get _ _ _ _ _ _ hp]
      by_cases h2 : p < i
      · rw [if_pos h2, if_pos (by omega)]
      · rw [if_neg h2, if_neg (by omega)]
theorem diffL_zero : diffL m b q a 0 = List.replicate m.length 0 := by
  apply List.ext_getElem
  · simp [diffL]
  · intro n h1 h2
    simp [diffL]

/-! ### The key with another factor -/
variable (v : Int)
def mm : List Int := m.set j v
def ss (p : Nat) : List Int := (List.range s.length).map fun i => if i < p then (s.getD i 0 + tg m s b i - tg (mm m j v) s b i) % 2147483647 else s.getD i 0
theorem mm_length : (mm m j v).length = m.length := by simp [mm]
theorem ss_length (p : Nat) : (ss m s b j v p).length = s.length := by simp [ss]
theorem ss_get (p i : Nat) (h : i < s.length) : (ss m s b j v p).getD i 0 = if i < p then (s.getD i 0 + tg m s b i - tg (mm m j v) s b i) % 2147483647 else s.getD i 0 := by
  simp [ss, List.getD, h]
theorem ss_zero : ss m s b j v 0 = s := by
  apply getD_ext
  · simp [ss_length]
  · intro p hp
    rw [ss_length] at hp
    rw [ss_get _ _ _ _ _ _ _ hp, if_neg (by omega)]
theorem ss_set (p : Nat) (h : p < s.length) : (ss m s b j v p).set p ((s.getD p 0 + tg m s b p - tg (mm m j v) s b p) % 2147483647) = ss m s b j v (p + 1) := by
  apply getD_ext
  · simp [ss_length]
  · intro i hi
    rw [List.length_set, ss_length] at hi
    rw [getD_set _ _ _ _ (by rw [ss_length]; exact h), ss_get _ _ _ _ _ _ _ hi, ss_get _ _ _ _ _ _ _ hi]
    by_cases h1 : i = p
    · subst h1; rw [if_pos rfl, if_pos (by omega)]
    · rw [if_neg h1]
      by_cases h2 : i < p
      · rw [if_pos h2, if_pos (by omega)]
      · rw [if_neg h2, if_neg (by omega)]
theorem ss_res (H : CF m s b q a x j) (p : Nat) : ∀ y ∈ ss m s b j v p, 0 ≤ y ∧ y < 2147483647 := by
  intro y hy
  obtain ⟨i, hi, rfl⟩ := List.mem_map.mp hy
  obtain ⟨_, _, _, _, hsd⟩ := checkS_zero H.hc
  by_cases h : i < p
  · simp only [if_pos h]; exact mod_res _
  · simp only [if_neg h]; exact getD_res hsd i
theorem mm_res (H : CF m s b q a x j) (hv : 0 ≤ v ∧ v < 2147483647) : ∀ y ∈ mm m j v, 0 ≤ y ∧ y < 2147483647 := by
  obtain ⟨_, _, _, hm, _⟩ := checkS_zero H.hc
  exact res_set hm j v hv
theorem again_check (H : CF m s b q a x j) (hv : 0 ≤ v ∧ v < 2147483647) (p : Nat) : checkS (mm m j v) (ss m s b j v p) = 0 := by
  obtain ⟨h1, h2, h3, _, _⟩ := checkS_zero H.hc
  exact checkS_good (by rw [mm_length]; exact h1) (by rw [mm_length]; exact h2) (by rw [ss_length]; exact h3) (mm_res m s b q a x j v H hv) (ss_res m s b q a x j v H p)
theorem again_fits (H : CF m s b q a x j) (p i : Nat) (hi : i < b.length) : fits (mm m j v) (ss m s b j v p) b i := by
  obtain ⟨h1, h2⟩ := H.hf i hi
  exact ⟨by rw [ss_length]; exact h1, by rw [mm_length]; exact h2⟩
theorem again_make (H : CF m s b q a x j) (p : Nat) (hp : p < b.length) : makeS (mm m j v) (ss m s b j v p) p (b.getD p ByteArray.empty) = (tg (mm m j v) s b p, 0) := by
  obtain ⟨h1, h2⟩ := again_fits m s b q a x j v H p p hp
  obtain ⟨h3, _⟩ := H.hf p hp
  unfold makeS
  rw [if_neg (by omega), if_neg (by omega), ss_get _ _ _ _ _ _ _ h3, if_neg (by omega)]
  rfl
theorem ss_cg (p i : Nat) (h : i < s.length) (hp : i < p) : cg ((ss m s b j v p).getD i 0) (tg m s b i - dotI (mm m j v) (Ha.symbols (b.getD i ByteArray.empty))) := by
  rw [ss_get _ _ _ _ _ _ _ h, if_pos hp]
  refine cg.mod.trans ?_
  have : cg (tg (mm m j v) s b i) (s.getD i 0 + dotI (mm m j v) (Ha.symbols (b.getD i ByteArray.empty))) := cg.mod
  refine (cg.rfl.sub this).trans (cg.of_eq ?_)
  omega
theorem again_tags (H : CF m s b q a x j) : tgl (mm m j v) (ss m s b j v b.length) b b.length = tgl m s b b.length := by
  unfold tgl
  apply List.map_congr_left
  intro i hi
  rw [List.mem_range] at hi
  obtain ⟨h3, _⟩ := H.hf i hi
  show (_ + _) % 2147483647 = _
  refine cg.mod_eq ?_ (tg_res m s b i)
  refine ((ss_cg m s b j v b.length i h3 hi).add cg.rfl).trans (cg.of_eq ?_)
  omega
/-! ### What is accepted -/
theorem Yb_get (i : Nat) (h : i < b.length) : (Yb b).getD i [] = Ha.symbols (b.getD i ByteArray.empty) := syms_get b _ i h
theorem seeds_sum (H : CF m s b q a x j) : cg (askT (fun c => (ss m s b j v b.length).getD c.toNat 0) q q.length) (Rt m s b q - sg (fun i => (mm m j v).getD i 0 * Sm b q i) m.length) := by
  unfold Rt Sm askT
  have e : sg (fun i => (mm m j v).getD i 0 * sg (askH (ysum (Yb b) i) q) q.length) m.length = sg (fun k => sg (fun i => (mm m j v).getD i 0 * askH (ysum (Yb b) i) q k) m.length) q.length := by
    rw [← sg_swap]
    exact sg_eq _ fun i _ => (sg_mul _ _ _).symm
  rw [e, ← sg_sub]
  apply sg_cg
  intro k hk
  obtain ⟨⟨h1, h2⟩, h3⟩ := ask_mem H.hqb k hk
  have hb : (q.getD k z60).f0.toNat < b.length := by omega
  obtain ⟨h4, h5⟩ := H.hf _ hb
  unfold askH ysum tsum
  have := ss_cg m s b j v b.length _ h4 hb
  refine (this.mul cg.rfl).trans (cg.of_eq ?_)
  have e1 : (Tb m s b).getD (q.getD k z60).f0.toNat 0 = tg m s b (q.getD k z60).f0.toNat := tgl_get m s b _ _ hb
  rw [e1, Yb_get b _ hb, dot_sg _ _ m.length h5, Int.sub_mul]
  congr 1
  rw [Int.mul_comm, ← sg_mul]
  exact sg_eq _ fun i _ => by rw [Int.mul_comm, Int.mul_assoc]
theorem total (H : CF m s b q a x j) : cg (dotI (mm m j v) a + askT (fun c => (ss m s b j v b.length).getD c.toNat 0) q q.length) (Rt m s b q + v * dd b q a j + sg (gj m b q a j) m.length) := by
  refine (cg.rfl.add (seeds_sum m s b q a x j v H)).trans ?_
  rw [dot_sg _ _ m.length (by rw [H.ha]; exact Nat.le_refl _)]
  have e : sg (fun i => (mm m j v).getD i 0 * a.getD i 0) m.length + (Rt m s b q - sg (fun i => (mm m j v).getD i 0 * Sm b q i) m.length) = Rt m s b q + sg (fun i => (mm m j v).getD i 0 * a.getD i 0 - (mm m j v).getD i 0 * Sm b q i) m.length := by
    rw [sg_sub]; omega
  rw [e]
  have e2 : cg (sg (fun i => (mm m j v).getD i 0 * a.getD i 0 - (mm m j v).getD i 0 * Sm b q i) m.length) (sg (fun i => (mm m j v).getD i 0 * dd b q a i) m.length) := by
    apply sg_cg
    intro i hi
    rw [← Int.mul_sub]
    exact cg.rfl.mul ((cg.rfl.sub cg.mod.symm).trans cg.mod.symm)
  refine (cg.rfl.add e2).trans (cg.of_eq ?_)
  have e3 := sg_one (fun i => (mm m j v).getD i 0 * dd b q a i) (gj m b q a j) j m.length H.hj (fun i hi hij => by
    unfold gj mm
    rw [if_neg hij, getD_set _ _ _ _ H.hj, if_neg hij, Int.mul_comm])
  have e4 : (mm m j v).getD j 0 = v := by unfold mm; rw [getD_set _ _ _ _ H.hj, if_pos rfl]
  have e5 : gj m b q a j j = 0 := by unfold gj; rw [if_pos rfl]
  simp only [e4, e5] at e3
  omega
theorem accepted_iff (H : CF m s b q a x j) (hv : 0 ≤ v ∧ v < 2147483647) (w : Int) (hw : dd b q a j * w % 2147483647 = 1) :
    (dotI (mm m j v) a + askT (fun c => (ss m s b j v b.length).getD c.toNat 0) q q.length) % 2147483647 = x ↔ v = restS m s b q a x j m.length * w % 2147483647 := by
  have ht := total m s b q a x j v H
  have hr := restS_cg m s b q a x j m.length
  have h1 : cg (dd b q a j * w) 1 := hw
  have hx := H.hx
  generalize dotI (mm m j v) a + askT (fun c => (ss m s b j v b.length).getD c.toNat 0) q q.length = A at ht
  generalize restS m s b q a x j m.length = r at hr
  constructor
  · intro h
    have hA : cg A x := (show cg A (A % 2147483647) from cg.mod.symm).trans (cg.of_eq h)
    have : cg (v * dd b q a j) r := by
      refine cg.trans ?_ hr.symm
      refine (cg.of_eq ?_).trans ((ht.symm.trans hA).sub (cg.rfl (a := Rt m s b q + sg (gj m b q a j) m.length)) |>.trans (cg.of_eq ?_)) <;> omega
    refine cg.eq ?_ hv (mod_res _)
    refine cg.trans ?_ cg.mod.symm
    refine cg.trans ?_ (this.mul cg.rfl)
    rw [Int.mul_assoc]
    exact (cg.of_eq (Int.mul_one v).symm).trans (cg.rfl.mul h1.symm)
  · intro h
    have : cg (v * dd b q a j) r := by
      rw [h]
      refine (cg.mod.mul cg.rfl).trans ?_
      rw [Int.mul_assoc, Int.mul_comm w]
      exact (cg.rfl.mul h1).trans (cg.of_eq (Int.mul_one r))
    refine cg.mod_eq (ht.trans ?_) hx
    refine ((cg.rfl.add (this.trans hr)).add cg.rfl).trans (cg.of_eq ?_)
    omega
end
end Go.Proofs.Ytekkjikmcnndoaa.M
