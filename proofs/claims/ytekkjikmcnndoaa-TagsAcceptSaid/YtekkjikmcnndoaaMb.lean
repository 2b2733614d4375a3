/- What Blend comes to, in closed form; and the plain law of TagsAccept. For every list within the sizes that each theorem states. -/
import Derived.Test.YtekkjikmcnndoaaMn
import Derived.Test.YtekkjikmcnndoaaP14
namespace Go.Proofs.Ytekkjikmcnndoaa.M
open Go.RowKit Go.Proofs.YtekkjikmcnndoaaW.PrintWords Go.Proofs.YtekkjikmcnndoaaW.PrintLast Go.Proofs.Ytekkjikmcnndoaa.P
open Go.Proofs.Ytekkjikmcnndoaa.Ha (wildB)
set_option linter.unusedVariables false
set_option linter.unusedSimpArgs false

/-- The sum of products modulo the prime, of the first n numbers. -/
def D (f g : Nat → Int) : Nat → Int
  | 0 => 0
  | n + 1 => (D f g n + f n * g n % 2147483647) % 2147483647
theorem D_res (f g : Nat → Int) : ∀ n, 0 ≤ D f g n ∧ D f g n < 2147483647
  | 0 => by simp [D]
  | n + 1 => by unfold D; omega
theorem rd28 (l : List S28) (i : Nat) : rd_T28 l (i : Int) = l.getD i z28 := by simp [rd_T28]
theorem rd28_0 (l : List S28) : rd_T28 l 0 = l.getD 0 z28 := rfl
section
variable (l : List S28) (by_ : List Int) (n : Nat)
def col (j : Nat) (i : Nat) : Int := (l.getD i z28).f0.getD j 0
def tgs (i : Nat) : Int := (l.getD i z28).f1
def fac (i : Nat) : Int := by_.getD i 0
/-- What is known of answers and factors that can be blended. -/
structure BH : Prop where
  hm : by_.length = l.length
  hm8 : l.length ≤ 8
  hn : ∀ i, i < l.length → (l.getD i z28).f0.length = n
  hn70 : n ≤ 70
  hby : ∀ i, i < l.length → 0 ≤ fac by_ i ∧ fac by_ i < 2147483647
  htg : ∀ i, i < l.length → 0 ≤ tgs l i ∧ tgs l i < 2147483647
  hcol : ∀ i, i < l.length → ∀ j, j < n → 0 ≤ col l j i ∧ col l j i < 2147483647

def sums (j : Nat) : List Int := (List.range j).map fun j => D (col l j) (fac by_) l.length
theorem sums_succ (j : Nat) : sums l by_ (j + 1) = sums l by_ j ++ [D (col l j) (fac by_) l.length] := by
  unfold sums
  rw [List.range_succ, List.map_append]; rfl
theorem sums_length (j : Nat) : (sums l by_ j).length = j := by simp [sums]
def mid (i j : Nat) : List Int := (List.range n).map fun j' => if j' < j then D (col l j') (fac by_) (i + 1) else D (col l j') (fac by_) i
theorem mid_get (i j j' : Nat) (h : j' < n) : (mid l by_ n i j).getD j' 0 = if j' < j then D (col l j') (fac by_) (i + 1) else D (col l j') (fac by_) i := by
  simp [mid, List.getD, h]
theorem mid_length (i j : Nat) : (mid l by_ n i j).length = n := by simp [mid]
theorem mid_set (i j : Nat) (h : j < n) : (mid l by_ n i j).set j (D (col l j) (fac by_) (i + 1)) = mid l by_ n i (j + 1) := by
  apply getD_ext
  · simp [mid_length]
  · intro q hq
    rw [List.length_set, mid_length] at hq
    rw [mid_get _ _ _ _ _ _ hq]
    rw [List.getD_eq_getElem?_getD, List.getElem?_set]
    by_cases hqj : j = q
    · subst hqj
      rw [mid_length]
      simp [h]
    · rw [if_neg hqj, ← List.getD_eq_getElem?_getD, mid_get _ _ _ _ _ _ hq]
      by_cases h1 : q < j
      · rw [if_pos h1, if_pos (by omega)]
      · rw [if_neg h1, if_neg (by omega)]
theorem mid_full (i : Nat) : mid l by_ n i n = mid l by_ n (i + 1) 0 := by
  unfold mid
  apply List.map_congr_left
  intro j hj
  rw [List.mem_range] at hj
  simp [hj]
theorem prog_l2 (H : BH l by_ n) (i : Nat) (hi : i < l.length) (R : List Int × Int × Int)
    (hR : Ev (fun k => tag_Blend.l1 k by_ (mid l by_ n i n) (D (tgs l) (fac by_) (i + 1)) l (l.length : Int) ((i + 1 : Nat) : Int)) R) : ∀ d j : Nat, j + d = n →
    Ev (fun k => tag_Blend.l2 k by_ (mid l by_ n i j) (D (tgs l) (fac by_) i) i l (l.length : Int) i (l.getD i z28).f0 ((l.getD i z28).f0.length : Int) j (l.getD i z28).f0 (l.getD i z28).f1) R := by
  obtain ⟨hm, hm8, hn, hn70, hby, htg, hcol⟩ := id H
  have hl := hn i hi
  have h1 := hby i hi
  have h2 := htg i hi
  intro d
  induction d with
  | zero =>
    intro j hj
    apply Ev_succ
    have e1 : tag_residue_times.f (l.getD i z28).f1 (rd by_ (i : Int)) = some (tgs l i * fac by_ i % 2147483647) := by
      rw [rd_nat]
      exact times_f _ _ h2 h1
    simp only [tag_Blend.l2, if_neg (show ¬ (j : Int) < ((l.getD i z28).f0.length : Int) by rw [hl]; omega), if_pos (show 0 ≤ (i : Int) by omega), if_pos (show (i : Int) < (by_.length : Int) by omega), e1, Option.bind_some]
    refine Ev.bind (sum2_ev _ _ (D_res (tgs l) (fac by_) i) (mod_res _)) ?_
    simp only [wrap_succ i l.length hi (by omega)]
    rw [show j = n by omega]
    exact hR
  | succ d ih =>
    intro j hj
    apply Ev_succ
    have h3 := hcol i hi j (by omega)
    have e1 : tag_residue_times.f (rd (l.getD i z28).f0 (j : Int)) (rd by_ (i : Int)) = some (col l j i * fac by_ i % 2147483647) := by
      rw [rd_nat, rd_nat]
      exact times_f _ _ h3 h1
    have e2 : rd (mid l by_ n i j) (j : Int) = D (col l j) (fac by_) i := by
      rw [rd_nat, mid_get _ _ _ _ _ _ (by omega), if_neg (by omega)]
    simp only [tag_Blend.l2, if_pos (show (j : Int) < ((l.getD i z28).f0.length : Int) by rw [hl]; omega), if_pos (show 0 ≤ (j : Int) by omega), if_pos (show (j : Int) < ((mid l by_ n i j).length : Int) by rw [mid_length]; omega), if_pos (show 0 ≤ (i : Int) by omega), if_pos (show (i : Int) < (by_.length : Int) by omega), e1, e2, Option.bind_some]
    refine Ev.bind (sum2_ev _ _ (D_res (col l j) (fac by_) i) (mod_res _)) ?_
    simp only [wrap_succ j n (by omega) (by omega), Int.toNat_natCast]
    have := mid_set l by_ n i j (by omega)
    unfold D at this
    rw [this]
    exact ih (j + 1) (by omega)
theorem prog_l1 (H : BH l by_ n) : ∀ d i : Nat, i + d = l.length →
    Ev (fun k => tag_Blend.l1 k by_ (mid l by_ n i 0) (D (tgs l) (fac by_) i) l (l.length : Int) i) (sums l by_ n, D (tgs l) (fac by_) l.length, 0) := by
  obtain ⟨hm, hm8, hn, hn70, hby, htg, hcol⟩ := id H
  intro d
  induction d with
  | zero =>
    intro i hi
    apply Ev_succ
    simp only [tag_Blend.l1, if_neg (show ¬ (i : Int) < (l.length : Int) by omega)]
    have hs : mid l by_ n i 0 = sums l by_ n := by
      unfold mid sums
      rw [show i = l.length by omega]
      simp
    rw [hs, show i = l.length by omega]
    refine Ev.bind (plain_ev _ _ (by rw [sums_length]; omega)) ?_
    exact Ev_now' rfl
  | succ d ih =>
    intro i hi
    apply Ev_succ
    simp only [tag_Blend.l1, if_pos (show (i : Int) < (l.length : Int) by omega), if_pos (show 0 ≤ (i : Int) by omega), rd28]
    refine prog_l2 l by_ n H i (by omega) _ ?_ n 0 (by omega)
    rw [mid_full]
    exact ih (i + 1) (by omega)
end
def badA (a : S28) : Bool := wildB a.f1 || a.f0.any wildB
section
variable (l : List S28) (by_ : List Int)
/-- The lengths of all sums are at most 70. -/
def Short : Prop := ∀ i, i < l.length → (l.getD i z28).f0.length ≤ 70
theorem prog_flag (hm8 : l.length ≤ 8) (hs : Short l) (hl : ∀ q, q < l.length → (l.getD q z28).f0.length = (l.getD 0 z28).f0.length) (R : List Int × Int × Int) (B : Bool)
    (hR : Ev (fun k => tag_Blend.l0 k l by_ B l (l.length : Int) (l.length : Int)) R) : ∀ d i : Nat, i + d = l.length → ∀ b, (b || (l.drop i).any badA) = B →
    Ev (fun k => tag_Blend.l0 k l by_ b l (l.length : Int) i) R := by
  intro d
  induction d with
  | zero =>
    intro i hi b hb
    rw [List.drop_of_length_le (by omega)] at hb
    simp at hb
    subst hb
    rw [show i = l.length by omega]
    exact hR
  | succ d ih =>
    intro i hi b hb
    have hil : i < l.length := by omega
    have hd : l.drop i = l.getD i z28 :: l.drop (i + 1) := by
      rw [List.drop_eq_getElem_cons hil]
      simp [List.getD, hil]
    rw [hd, List.any_cons] at hb
    have he := hl i hil
    have hsi := hs i hil
    apply Ev_succ
    simp only [tag_Blend.l0, if_pos (show (i : Int) < (l.length : Int) by omega), if_pos (show 0 ≤ (i : Int) by omega), if_pos (show (0 : Int) < (l.length : Int) by omega), rd28, rd28_0, if_pos (show ((l.getD i z28).f0.length : Int) = ((l.getD 0 z28).f0.length : Int) by omega), wrap_succ i l.length (by omega) (by omega), wild_f, Option.bind_some, contains_f _ (show (l.getD i z28).f0.length ≤ 9223372036854775807 by omega)]
    cases b with
    | true => simp only [if_true]; exact ih (i + 1) (by omega) _ (by simpa using hb)
    | false =>
      simp only [Bool.false_eq_true, if_false]
      have hb2 : (wildB (l.getD i z28).f1 || (l.getD i z28).f0.any wildB || (l.drop (i + 1)).any badA) = B := by rw [← hb]; simp [badA]
      cases hw : wildB (l.getD i z28).f1 with
      | true => simp only [if_true]; exact ih (i + 1) (by omega) _ (by rw [hw] at hb2; simpa using hb2)
      | false => simp only [Bool.false_eq_true, if_false]; exact ih (i + 1) (by omega) _ (by rw [hw] at hb2; simpa using hb2)

theorem any_none {α : Type} (p : α → Bool) (z : α) (x : List α) (h : ∀ j, j < x.length → p (x.getD j z) = false) : x.any p = false := by
  cases hw : x.any p with
  | false => rfl
  | true =>
    obtain ⟨v, hv, hp⟩ := List.any_eq_true.mp hw
    obtain ⟨j, hj⟩ := List.getElem?_of_mem hv
    have hlt := (List.getElem?_eq_some_iff.1 hj).1
    have := h j hlt
    rw [List.getD_eq_getElem?_getD, hj] at this
    rw [show (some v).getD z = v from rfl, hp] at this
    cases this
theorem blend_good (H : BH l by_ (l.getD 0 z28).f0.length) (h0 : 0 < l.length) : Ev (fun k => tag_Blend.f k l by_) (sums l by_ (l.getD 0 z28).f0.length, D (tgs l) (fac by_) l.length, 0) := by
  obtain ⟨hm, hm8, hn, hn70, hby, htg, hcol⟩ := id H
  unfold tag_Blend.f
  simp only [if_neg (show ¬ (l.length : Int) = 0 by omega), show ((by_.length : Int) != (l.length : Int)) = false by simp; omega]
  have w1 : by_.any wildB = false := any_none wildB 0 by_ fun j hj => wild_false.2 (hby j (by omega))
  have w2 : ∀ j, j < l.length → (l.getD j z28).f0.any wildB = false := fun i hi => any_none wildB 0 _ fun j hj => wild_false.2 (hcol i hi j (by rw [hn i hi] at hj; exact hj))
  have w3 : l.any badA = false := any_none badA z28 l fun j hj => by unfold badA; rw [show wildB (l.getD j z28).f1 = false from wild_false.2 (htg j hj), w2 j hj]; rfl
  apply Ev_succ
  simp only [tag_Blend.j0, Bool.false_eq_true, if_false, contains_f _ (show by_.length ≤ 9223372036854775807 by omega), Option.bind_some, w1]
  refine prog_flag l by_ hm8 (fun i hi => by rw [hn i hi]; exact hn70) hn _ false ?_ l.length 0 (by omega) _ (by rw [List.drop_zero, w3]; rfl)
  apply Ev_succ
  have hz : List.replicate (((l.getD 0 z28).f0.length : Int)).toNat (0 : Int) = mid l by_ (l.getD 0 z28).f0.length 0 0 := by
    apply getD_ext
    · simp [mid_length]
    · intro q hq
      have hq2 : q < (l.getD 0 z28).f0.length := by simpa using hq
      rw [mid_get _ _ _ _ _ _ hq2]
      simp only [Nat.not_lt_zero, if_false]
      show _ = D _ _ 0
      rw [List.getD_eq_getElem?_getD, List.getElem?_replicate, if_pos (by simpa using hq)]
      rfl
  simp only [tag_Blend.l0, if_neg (show ¬ (l.length : Int) < (l.length : Int) by omega), Bool.false_eq_true, if_false, if_pos (show (0 : Int) < (l.length : Int) by omega), rd28_0, if_pos (show 0 ≤ ((l.getD 0 z28).f0.length : Int) by omega), if_pos (show (((l.getD 0 z28).f0.length : Int)).toNat ≤ 35184372088832 by omega), hz]
  exact prog_l1 l by_ _ H l.length 0 (by omega)
end

/-! ### Two answers, blended -/
theorem two_sums (a b : List Int) (x y u v : Int) (j : Nat) : D (col [⟨a, x⟩, ⟨b, y⟩] j) (fac [u, v]) 2 = ((0 + a.getD j 0 * u % 2147483647) % 2147483647 + b.getD j 0 * v % 2147483647) % 2147483647 := rfl
def blS (a b : List Int) (x y u v : Int) : List Int := sums [⟨a, x⟩, ⟨b, y⟩] [u, v] a.length
def blT (a b : List Int) (x y u v : Int) : Int := D (tgs [⟨a, x⟩, ⟨b, y⟩]) (fac [u, v]) 2
theorem blS_length (a b : List Int) (x y u v : Int) : (blS a b x y u v).length = a.length := sums_length _ _ _
theorem blS_get (a b : List Int) (x y u v : Int) (j : Nat) (h : j < a.length) : cg ((blS a b x y u v).getD j 0) (a.getD j 0 * u + b.getD j 0 * v) := by
  unfold blS sums
  rw [List.getD_eq_getElem?_getD]
  simp only [List.getElem?_map, List.getElem?_range h, Option.map_some, Option.getD_some, List.length_cons, List.length_nil, Nat.zero_add]
  show cg (D (col [⟨a, x⟩, ⟨b, y⟩] j) (fac [u, v]) 2) _
  rw [two_sums]
  unfold cg
  omega
theorem blS_res (a b : List Int) (x y u v : Int) : ∀ z ∈ blS a b x y u v, 0 ≤ z ∧ z < 2147483647 := by
  intro z hz
  obtain ⟨j, _, rfl⟩ := List.mem_map.mp hz
  exact D_res _ _ _
theorem blT_cg (a b : List Int) (x y u v : Int) : cg (blT a b x y u v) (x * u + y * v) := by
  show ((0 + x * u % 2147483647) % 2147483647 + y * v % 2147483647) % 2147483647 % 2147483647 = _
  omega
theorem blT_res (a b : List Int) (x y u v : Int) : 0 ≤ blT a b x y u v ∧ blT a b x y u v < 2147483647 := D_res _ _ _
theorem blend_two (a b : List Int) (x y u v : Int) (hl : a.length = b.length) (h70 : a.length ≤ 70) (ha : ∀ z ∈ a, 0 ≤ z ∧ z < 2147483647) (hb : ∀ z ∈ b, 0 ≤ z ∧ z < 2147483647) (hx : 0 ≤ x ∧ x < 2147483647) (hy : 0 ≤ y ∧ y < 2147483647) (hu : 0 ≤ u ∧ u < 2147483647) (hv : 0 ≤ v ∧ v < 2147483647) :
    Ev (fun k => tag_Blend.f k [⟨a, x⟩, ⟨b, y⟩] [u, v]) (blS a b x y u v, blT a b x y u v, 0) := by
  have two : ∀ i, i < ([⟨a, x⟩, ⟨b, y⟩] : List S28).length → i = 0 ∨ i = 1 := fun i hi => by simp only [List.length_cons, List.length_nil] at hi; omega
  refine blend_good _ _ ?_ (by simp)
  exact {
    hm := rfl
    hm8 := by simp
    hn := fun i hi => by
      rcases two i hi with rfl | rfl
      · exact rfl
      · exact hl.symm
    hn70 := h70
    hby := fun i hi => by
      rcases two i hi with rfl | rfl
      · exact hu
      · exact hv
    htg := fun i hi => by
      rcases two i hi with rfl | rfl
      · exact hx
      · exact hy
    hcol := fun i hi j hj => by
      rcases two i hi with rfl | rfl
      · exact getD_res ha j
      · exact getD_res hb j }

/-! ### What is accepted -/
section
variable (m s : List Int) (b : List ByteArray) (q : List S60)
/-- What is known of a key, the blocks and a challenge. -/
structure CA : Prop where
  hc : checkS m s = 0
  hf : ∀ i, i < b.length → fits m s b i
  hq : chalS q b.length = 0
theorem CA.seeds {m s : List Int} {b : List ByteArray} {q : List S60} (H : CA m s b q) : chalS q s.length = 0 := by
  rw [chalS_zero]
  intro z hz
  obtain ⟨g1, g2⟩ := chalS_zero.mp H.hq z hz
  refine ⟨⟨g1.1, ?_⟩, g2⟩
  have := (H.hf (z.f0.toNat) (by omega)).1
  omega
def Yc : List (List Int) := syms b b.length
def Tc : List Int := tgl m s b b.length
def Sc (i : Nat) : Int := askT (ysum (Yc b) i) q q.length
def Rc : Int := askT (tsum (Tc m s b)) q q.length
def Kc : Int := askT (fun c => s.getD c.toNat 0) q q.length
theorem right_sum (H : CA m s b q) : cg (Rc m s b q) (Kc s q + sg (fun i => m.getD i 0 * Sc b q i) m.length) := by
  unfold Rc Sc Kc askT
  have e : sg (fun i => m.getD i 0 * sg (askH (ysum (Yc b) i) q) q.length) m.length = sg (fun k => sg (fun i => m.getD i 0 * askH (ysum (Yc b) i) q k) m.length) q.length := by
    rw [← sg_swap]
    exact sg_eq _ fun i _ => (sg_mul _ _ _).symm
  rw [e, ← sg_add]
  apply sg_cg
  intro k hk
  obtain ⟨⟨h1, h2⟩, h3⟩ := ask_mem H.hq k hk
  have hb : (q.getD k z60).f0.toNat < b.length := by omega
  obtain ⟨h4, h5⟩ := H.hf _ hb
  unfold askH ysum tsum
  have e1 : (Tc m s b).getD (q.getD k z60).f0.toNat 0 = tg m s b (q.getD k z60).f0.toNat := tgl_get m s b _ _ hb
  have e2 : (Yc b).getD (q.getD k z60).f0.toNat [] = Ha.symbols (b.getD (q.getD k z60).f0.toNat ByteArray.empty) := syms_get b _ _ hb
  rw [e1, e2]
  refine ((show cg (tg m s b (q.getD k z60).f0.toNat) _ from cg.mod).mul cg.rfl).trans (cg.of_eq ?_)
  rw [dot_sg _ _ m.length h5, Int.add_mul]
  congr 1
  rw [Int.mul_comm, ← sg_mul]
  exact sg_eq _ fun i _ => by rw [Int.mul_comm, Int.mul_assoc]
def R1c : List Int := (List.range m.length).map fun i => Sc b q i % 2147483647
theorem R1c_length : (R1c m b q).length = m.length := by simp [R1c]
theorem R1c_get (i : Nat) (h : i < m.length) : (R1c m b q).getD i 0 = Sc b q i % 2147483647 := by simp [R1c, List.getD, h]
theorem R1c_res : ∀ y ∈ R1c m b q, 0 ≤ y ∧ y < 2147483647 := by
  intro y hy
  obtain ⟨i, _, rfl⟩ := List.mem_map.mp hy
  exact mod_res _
theorem dot_right : cg (dotI m (R1c m b q)) (sg (fun i => m.getD i 0 * Sc b q i) m.length) := by
  rw [dot_sg _ _ m.length (by rw [R1c_length]; exact Nat.le_refl _)]
  apply sg_cg
  intro i hi
  rw [R1c_get m b q i hi]
  exact cg.rfl.mul cg.mod
/-- An answer that is made from the blocks is accepted. -/
theorem ver_right (H : CA m s b q) : verS m s q (R1c m b q) (Rc m s b q % 2147483647) = 0 := by
  unfold verS
  rw [if_neg (show ¬ (R1c m b q).length ≠ m.length by rw [R1c_length]; exact fun h => h rfl), if_neg (show ¬ (wildB (Rc m s b q % 2147483647) = true ∨ (R1c m b q).any wildB = true) by rw [wild_false.mpr (mod_res _), any_res (R1c_res m b q)]; simp), if_neg (fun h => h H.seeds)]
  refine if_pos (cg.mod_eq ?_ (mod_res _))
  refine ((dot_right m b q).add (cg.rfl (a := Kc s q))).trans (cg.trans ?_ cg.mod.symm)
  refine (cg.of_eq ?_).trans (right_sum m s b q H).symm
  omega
/-- A challenge times a factor. -/
def sc (u : Int) : List S60 := q.map fun z => ⟨z.f0, z.f1 * u % 2147483647⟩
theorem sc_length (u : Int) : (sc q u).length = q.length := by simp [sc]
end
theorem askT_list (g : Int → Int) : ∀ q : List S60, askT g q q.length = (q.map fun z => g z.f0 * z.f1).sum := by
  intro q
  have : ∀ n, n ≤ q.length → askT g q n = ((q.take n).map fun z => g z.f0 * z.f1).sum := by
    intro n
    induction n with
    | zero => intro _; simp [askT, sg]
    | succ n ih =>
      intro hn
      have h := ih (by omega)
      unfold askT at h ⊢
      simp only [sg]
      rw [h, List.take_succ_eq_append_getElem (by omega), List.map_append, List.sum_append]
      simp [askH, List.getD, show n < q.length by omega]
  rw [this q.length (Nat.le_refl _), List.take_length]
theorem askT_append (g : Int → Int) (p q : List S60) : askT g (p ++ q) (p ++ q).length = askT g p p.length + askT g q q.length := by
  rw [askT_list, askT_list, askT_list, List.map_append, List.sum_append]
theorem askT_sc (g : Int → Int) (u : Int) : ∀ q : List S60, cg (askT g (sc q u) (sc q u).length) (askT g q q.length * u) := by
  intro q
  rw [askT_list, askT_list]
  induction q with
  | nil => exact cg.of_eq (by simp [sc])
  | cons z r ih =>
    simp only [sc, List.map_cons, List.sum_cons, List.map_map] at ih ⊢
    rw [Int.add_mul]
    refine cg.add ?_ ih
    refine (cg.rfl.mul cg.mod).trans (cg.of_eq (Int.mul_assoc _ _ _).symm)
section
variable (m s : List Int) (b : List ByteArray) (p q : List S60) (u v : Int)
def both : List S60 := sc p u ++ sc q v
def bS : List Int := blS (R1c m b p) (R1c m b q) (Rc m s b p % 2147483647) (Rc m s b q % 2147483647) u v
def bT : Int := blT (R1c m b p) (R1c m b q) (Rc m s b p % 2147483647) (Rc m s b q % 2147483647) u v
theorem sc_chal (n : Int) (h : chalS q n = 0) (u : Int) : chalS (sc q u) n = 0 := by
  rw [chalS_zero]
  intro z hz
  obtain ⟨y, hy, rfl⟩ := List.mem_map.mp hz
  exact ⟨(chalS_zero.mp h y hy).1, mod_res _⟩
theorem both_chal (n : Int) (h : chalS p n = 0) (h' : chalS q n = 0) : chalS (both p q u v) n = 0 := by
  rw [chalS_zero]
  intro z hz
  rcases List.mem_append.mp hz with h1 | h1
  · exact chalS_zero.mp (sc_chal p n h u) z h1
  · exact chalS_zero.mp (sc_chal q n h' v) z h1
theorem both_sum (H : CA m s b p) (H' : CA m s b q) : (dotI m (bS m s b p q u v) + askT (fun c => s.getD c.toNat 0) (both p q u v) (both p q u v).length) % 2147483647 = bT m s b p q u v := by
  refine cg.mod_eq ?_ (blT_res _ _ _ _ _ _)
  have hl : (bS m s b p q u v).length = m.length := by unfold bS; rw [blS_length, R1c_length]
  have h1 : cg (dotI m (bS m s b p q u v)) (sg (fun i => m.getD i 0 * Sc b p i) m.length * u + sg (fun i => m.getD i 0 * Sc b q i) m.length * v) := by
    rw [dot_sg _ _ m.length (by rw [hl]; exact Nat.le_refl _)]
    have e : sg (fun i => m.getD i 0 * Sc b p i) m.length * u + sg (fun i => m.getD i 0 * Sc b q i) m.length * v = sg (fun i => u * (m.getD i 0 * Sc b p i) + v * (m.getD i 0 * Sc b q i)) m.length := by
      rw [sg_add, sg_mul, sg_mul, Int.mul_comm u, Int.mul_comm v]
    rw [e]
    apply sg_cg
    intro i hi
    have h := blS_get (R1c m b p) (R1c m b q) (Rc m s b p % 2147483647) (Rc m s b q % 2147483647) u v i (by rw [R1c_length]; exact hi)
    rw [R1c_get m b p i hi, R1c_get m b q i hi] at h
    have h2 := h.trans ((cg.mod.mul cg.rfl).add (cg.mod.mul cg.rfl))
    refine (cg.rfl.mul h2).trans (cg.of_eq ?_)
    rw [Int.mul_add, Int.mul_comm u, Int.mul_comm v, Int.mul_assoc, Int.mul_assoc]
  have h2 : cg (askT (fun c => s.getD c.toNat 0) (both p q u v) (both p q u v).length) (Kc s p * u + Kc s q * v) := by
    unfold both
    rw [askT_append]
    exact (askT_sc _ u p).add (askT_sc _ v q)
  refine (h1.add h2).trans ?_
  refine cg.trans ?_ (blT_cg _ _ _ _ _ _).symm
  refine cg.trans ?_ (((cg.mod.mul cg.rfl).add (cg.mod.mul cg.rfl)).symm)
  refine cg.trans ?_ ((((right_sum m s b p H).mul (cg.rfl (a := u))).add ((right_sum m s b q H').mul (cg.rfl (a := v)))).symm)
  refine cg.of_eq ?_
  rw [Int.add_mul, Int.add_mul]
  omega
theorem ver_both (H : CA m s b p) (H' : CA m s b q) (t : Int) (ht : 0 ≤ t ∧ t < 2147483647) : verS m s (both p q u v) (bS m s b p q u v) t = if bT m s b p q u v = t then 0 else 23 := by
  have hl : (bS m s b p q u v).length = m.length := by unfold bS; rw [blS_length, R1c_length]
  have hr : ∀ z ∈ bS m s b p q u v, 0 ≤ z ∧ z < 2147483647 := blS_res _ _ _ _ _ _
  unfold verS
  rw [if_neg (fun h => h hl), if_neg (show ¬ (wildB t = true ∨ (bS m s b p q u v).any wildB = true) by rw [wild_false.mpr ht, any_res hr]; simp), if_neg (fun h => h (both_chal p q u v _ H.seeds H'.seeds)), both_sum m s b p q u v H H']
end
theorem chalS_vals : ∀ (l : List S60) (n : Int), chalS l n = 0 ∨ chalS l n = 1 ∨ chalS l n = 3
  | [], n => Or.inl rfl
  | x :: l, n => by
    have ih := chalS_vals l n
    unfold chalS
    split
    · exact Or.inr (Or.inl rfl)
    · split
      · exact Or.inr (Or.inr rfl)
      · exact ih
end Go.Proofs.Ytekkjikmcnndoaa.M
