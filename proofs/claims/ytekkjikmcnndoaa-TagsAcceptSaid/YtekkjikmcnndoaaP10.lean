/- The functions that the statements about package tag reach, as plain Lean functions, and that the Go functions answer as these do; for every input within the sizes that the functions state. -/
import Derived.Test.YtekkjikmcnndoaaP0
import Derived.Test.YtekkjikmcnndoaaP3
import Derived.Test.YtekkjikmcnndoaaP4
import Derived.Test.YtekkjikmcnndoaaP5
import Derived.Test.YtekkjikmcnndoaaP6
import Derived.Test.YtekkjikmcnndoaaP9
import Derived.Test.YtekkjikmcnndoaaSq
namespace Go.Proofs.Ytekkjikmcnndoaa.P
open Go.RowKit Go.Proofs.YtekkjikmcnndoaaW.PrintWords Go.Proofs.YtekkjikmcnndoaaW.PrintLast Go.Proofs.YtekkjikmcnndoaaW.PrintMore Go.Proofs.YtekkjikmcnndoaaSq
open List (setIfInBounds_toArray set_cons_zero set_cons_succ)
attribute [local go_sem] max2_int min2_int max_two min_two max_three min_three max_four min_four   -- for this text's walks alone
set_option linter.unusedVariables false
set_option linter.unusedSimpArgs false

/-! ### tag_Verify: function 11 -/
mutual
def tag_Verify.j0 : Nat → List (S60) → Bool → List Int → List Int → List Int → Int → Option (Int)
 | 0, _, _, _, _, _, _ => none
 | k + 1, x1, x25, x149000, x149001, x150000, x150001 => if x25 = true then (some 3) else ((tag_challenge.f k x1 (x149001.length : Int)).bind fun t153 => (if t153 = 0 then ((Ha.tag_product.f k x149000 x150000).bind fun t154 => (tag_Verify.l0 k t154 x1 (x1.length : Int) 0 x149000 x149001 x150000 x150001)) else (some t153)))
def tag_Verify.l0 : Nat → Int → List (S60) → Int → Int → List Int → List Int → List Int → Int → Option (Int)
 | 0, _, _, _, _, _, _, _, _ => none
 | k + 1, x9, x47, x48, x49, x149000, x149001, x150000, x150001 => if x49 < x48 then (if 0 ≤ x49 then (if x49 < (x47.length : Int) then (if 0 ≤ ((rd_T60 x47 x49).f0) then (if ((rd_T60 x47 x49).f0) < (x149001.length : Int) then ((tag_residue_times.f (rd x149001 ((rd_T60 x47 x49).f0)) ((rd_T60 x47 x49).f1)).bind fun t158 => ((tag_sum.f k (([x9, t158] : List Int))).bind fun t162 => (tag_Verify.l0 k t162 x47 x48 (wrap64 (x49 + 1)) x149000 x149001 x150000 x150001))) else (none)) else (none)) else (none)) else (none)) else (if x9 = x150001 then (some 0) else (some 23))
end
def tag_Verify.f (k : Nat) (l0_0 : List Int) (l0_1 : List Int) (l1 : List (S60)) (l2_0 : List Int) (a2_1 : Int) : Option (Int) := (tag_Check.f k l0_0 l0_1).bind fun t150 => (if t150 = 0 then (if (l2_0.length : Int) = (l0_0.length : Int) then ((tag_wild.f a2_1).bind fun t151 => (if t151 = true then (tag_Verify.j0 k l1 true l0_0 l0_1 l2_0 a2_1) else ((Ha.tag_ContainsFunc_wild.f l2_0).bind fun t152 => (tag_Verify.j0 k l1 t152 l0_0 l0_1 l2_0 a2_1)))) else (some 1)) else (some t150))
theorem tag_Verify.mono_l : ∀ k, (∀ y0 y1 y2 y3 y4 y5, LeO (tag_Verify.j0 k y0 y1 y2 y3 y4 y5) (tag_Verify.j0 (k + 1) y0 y1 y2 y3 y4 y5)) ∧ (∀ y0 y1 y2 y3 y4 y5 y6 y7, LeO (tag_Verify.l0 k y0 y1 y2 y3 y4 y5 y6 y7) (tag_Verify.l0 (k + 1) y0 y1 y2 y3 y4 y5 y6 y7))
 | 0 => ⟨fun _ _ _ _ _ _ r h => by simp [tag_Verify.j0] at h, fun _ _ _ _ _ _ _ _ r h => by simp [tag_Verify.l0] at h⟩
 | k + 1 => by
  obtain ⟨ih0, ih1⟩ := tag_Verify.mono_l k
  refine ⟨?_, ?_⟩
  all_goals
   intros
   first | unfold tag_Verify.j0 | unfold tag_Verify.l0
   repeat' first
   | (with_reducible exact ih0 ..)
   | (with_reducible exact ih1 ..)
   | (with_reducible exact Ha.tag_product.mono ..)
   | (with_reducible exact tag_Check.mono ..)
   | (with_reducible exact tag_challenge.mono ..)
   | (with_reducible exact tag_sum.mono ..)
   | (with_reducible exact LeO.refl ..)
   | (with_reducible exact LeO.none ..)
   | (with_reducible refine LeO.ite ?_ ?_)
   | (with_reducible refine LeO.bind ?_ (fun _ => ?_))
   | exact ih0 ..
   | exact ih1 ..
   | exact Ha.tag_product.mono ..
   | exact tag_Check.mono ..
   | exact tag_challenge.mono ..
   | exact tag_sum.mono ..
   | exact LeO.none ..
   | refine LeO.ite ?_ ?_
   | refine LeO.bind ?_ (fun _ => ?_)
theorem tag_Verify.mono : ∀ a0 a1 a2 a3 a4 k, LeO (tag_Verify.f k a0 a1 a2 a3 a4) (tag_Verify.f (k + 1) a0 a1 a2 a3 a4) := by
 intro a0 a1 a2 a3 a4 k
 obtain ⟨ih0, ih1⟩ := tag_Verify.mono_l k
 unfold tag_Verify.f
 repeat' first
   | (with_reducible exact ih0 _ _ _ _ _ _)
   | (with_reducible exact ih1 _ _ _ _ _ _ _ _)
   | (with_reducible exact Ha.tag_product.mono _ _ _)
   | (with_reducible exact tag_Check.mono _ _ _)
   | (with_reducible exact tag_challenge.mono _ _ _)
   | (with_reducible exact tag_sum.mono _ _)
   | (with_reducible exact LeO.refl _)
   | (with_reducible exact LeO.none _)
   | (with_reducible refine LeO.ite ?_ ?_)
   | (with_reducible refine LeO.bind ?_ (fun _ => ?_))
   | exact ih0 _ _ _ _ _ _
   | exact ih1 _ _ _ _ _ _ _ _
   | exact Ha.tag_product.mono _ _ _
   | exact tag_Check.mono _ _ _
   | exact tag_challenge.mono _ _ _
   | exact tag_sum.mono _ _
   | exact LeO.none _
   | refine LeO.ite ?_ ?_
   | refine LeO.bind ?_ (fun _ => ?_)
def tag_Verify.T15 : Bool × List (List Nat × List Nat) := (true, [([], []), ([], []), ([1], [1]), ([], []), ([3], [3]), ([2, 4], [2, 4]), ([5], [5]), ([], []), ([7], [7]), ([6, 8], [6, 8]), ([0, 9], [0, 9]), ([10, 9], [10]), ([11, 11, 0, 1, 2, 3, 4, 5, 6, 7, 8, 9, 10, 11], [0, 11])])
def tag_Verify.B15 : List Nat := [0, 0, 2, 0, 8, 30, 62, 0, 128, 510, 1023, 2047, 4095]
theorem tag_Verify.tab15 : rtab .any (opsOf Try.f11 15) = tag_Verify.T15 := by kernel_rfl
theorem tag_Verify.bits15 : waitsOk tag_Verify.T15.2 tag_Verify.B15 = true := by kernel_rfl
theorem P10_1_ {P : Prop} (h : P := by repeat (first | (with_reducible first | exact HB.out | apply below_alloc | apply pw_below_drewN | apply below_drew1 | refine below_set ?_ GE148.out | refine below_set ?_ GE149.out) | exact HB.out)) : P := h
theorem P10_2_ {P : Prop} (h : P := by repeat (first | (with_reducible first | exact HB.out | apply below_alloc | apply pw_below_drewN | apply below_drew1 | refine below_set ?_ GE148.out) | exact HB.out)) : P := h
theorem P10_3_ {P : Prop} (h : P := by (try simp only [List.map_toArray, List.map_cons, List.map_nil]); first | done | rfl | (simp only [List.length_drop, List.length_take]; rfl)) : P := h
theorem P10_4_ {P : Prop} (h : P := by repeat (first | (with_reducible first | exact HB.out | apply below_alloc | apply pw_below_drewN | apply below_drew1) | exact HB.out)) : P := h
theorem P10_5_ {P : Prop} (h : P := by repeat (first | (with_reducible first | exact HB.out | apply below_alloc | apply pw_below_drewN | apply below_drew1 | refine below_set ?_ GE148.out | refine below_set ?_ GE149.out | refine below_set ?_ GE156.out) | exact HB.out)) : P := h
theorem P10_6_ {P : Prop} (h : P := by repeat (first | exact (Kd.C_below HR0_0.out HB.out) | (with_reducible refine Kd.C_alloc ?_ _) | (with_reducible refine Kd.C_drewN ?_ _) | (with_reducible refine Kd.C_drew ?_))) : P := h
theorem P10_7_ {P : Prop} (h : P := by first | rfl | (simp [errW_none, errW_some] <;> rfl) | (simp [*, errW_none, errW_some] <;> rfl)) : P := h
theorem P10_8_ {P : Prop} (h : P := by rw [hg]; exact Nat.ne_of_lt (blk_lt (g := gb148) (o := .cells #[.slice A0_0 l0_0.length c0_0, .slice A0_1 l0_1.length c0_1] 24 (0, 0)) (pB BK148.out))) : P := h
theorem P10_9_ {P : Prop} (h : P := by rw [hg]; exact Nat.ne_of_gt (blk_lt (g := gb148) (o := .cells #[.slice A0_0 l0_0.length c0_0, .slice A0_1 l0_1.length c0_1] 24 (0, 0)) (pB BK148.out))) : P := h
theorem P10_10_ {P : Prop} (h : P := by repeat (first | exact (Kd.C_below HR0_1.out HB.out) | (with_reducible refine Kd.C_alloc ?_ _) | (with_reducible refine Kd.C_drewN ?_ _) | (with_reducible refine Kd.C_drew ?_))) : P := h
theorem P10_11_ {P : Prop} (h : P := by first | (go_simp; done) | (go_simp; rfl)) : P := h
theorem P10_12_ {P : Prop} (h : P := by kernel_rfl) : P := h
theorem P10_13_ {P : Prop} (h : P := by first | rfl | (simp; done) | (simp [*]; done)) : P := h
set_option maxHeartbeats 8000000 in
set_option maxRecDepth 100000 in
theorem tag_Verify.calls (k : Nat) (A0_0 : Option Addr) (c0_0 : Nat) (l0_0 : List Int) (A0_1 : Option Addr) (c0_1 : Nat) (l0_1 : List Int) (A1 : Option Addr) (c1 : Nat) (l1 : List (S60)) (A2_0 : Option Addr) (c2_0 : Nat) (l2_0 : List Int) (a2_1 : Int) (r : Int) (w : World) (hr0_0 : Kd.C (Kd.int .i64) w A0_0 l0_0.length l0_0) (hc0_0 : l0_0.length ≤ c0_0) (hr0_1 : Kd.C (Kd.int .i64) w A0_1 l0_1.length l0_1) (hc0_1 : l0_1.length ≤ c0_1) (hr1 : Kd.C k60 w A1 l1.length l1) (hc1 : l1.length ≤ c1) (hr2_0 : Kd.C (Kd.int .i64) w A2_0 l2_0.length l2_0) (hc2_0 : l2_0.length ≤ c2_0) (h : tag_Verify.f k l0_0 l0_1 l1 l2_0 a2_1 = some r) :
  Calls Try.prog 11 #[.agg #[.slice A0_0 l0_0.length c0_0, .slice A0_1 l0_1.length c0_1], .slice A1 l1.length c1, .agg #[.slice A2_0 l2_0.length c2_0, .int .i64 a2_1]] w fun e w' => e = .returned (.int .i64 r) ∧ Below w.heap.size w w' := by
 have hu24 := Try.underlying24
 have hu28 := Try.underlying28
 have hu60 := Try.underlying60
 have HR0_0 := Aside0.mk hr0_0
 have HC0_0 := Aside0.mk hc0_0
 clear hr0_0 hc0_0
 have HR0_1 := Aside0.mk hr0_1
 have HC0_1 := Aside0.mk hc0_1
 clear hr0_1 hc0_1
 have HR1 := Aside0.mk hr1
 have HC1 := Aside0.mk hc1
 clear hr1 hc1
 have HR2_0 := Aside0.mk hr2_0
 have HC2_0 := Aside0.mk hc2_0
 clear hr2_0 hc2_0
 have HB := Aside0.mk (Below.refl w.heap.size w)
 have H : ((tag_Check.f k l0_0 l0_1).bind fun t150 => (if t150 = 0 then (if (l2_0.length : Int) = (l0_0.length : Int) then ((tag_wild.f a2_1).bind fun t151 => (if t151 = true then (tag_Verify.j0 k l1 true l0_0 l0_1 l2_0 a2_1) else ((Ha.tag_ContainsFunc_wild.f l2_0).bind fun t152 => (tag_Verify.j0 k l1 t152 l0_0 l0_1 l2_0 a2_1)))) else (some 1)) else (some t150))) = some r := h
 clear h
 replace H := Option.bind_eq_some_iff.mp H
 obtain ⟨t150, A40, H⟩ := H
 (try dsimp only at H)
 have A4 := Aside0.mk A40
 clear A40
 by_cases c5 : t150 = 0
 rotate_left
 ·rw [if_neg c5] at H
  have c5b0 : (t150 == 0) = false := beq_eq_false_iff_ne.mpr c5
  have c5b1 : (t150 != 0) = true := bne_iff_ne.mpr c5
  obtain rfl := Option.some.inj H
  go_enter Try.func11, Try.ntmps11
  go_wp2_with (first | ((with_reducible refine gate_dst (N := 3) rfl ?_); refine box_event ?hg (N := 3) ?hd (cs := #[.slice A0_0 l0_0.length c0_0, .slice A0_1 l0_1.length c0_1]) (t := 24) ?hr ?_; (case hd => rfl); (case hg => rfl); (case hr => exact P10_11_); intro gb148 hg w63 hbox hb; have n0_ := Aside0.mk (below_step P10_4_ hb); have n1_ := Aside0.mk (hbox); have n2_ := Aside0.mk ((by rw [hg]; exact (below_size P10_4_) : w.heap.size ≤ gb148)); have n3_ := Aside0.mk ((by rw [hg]; exact (below_size P10_4_) : w.heap.size ≤ gb148)); clear HB; have HB := n0_; have BK148 := n1_; have GW148 := n2_; have GE148 := n3_; clear n0_ n1_ n2_ n3_ hb hbox hg) | ((with_reducible refine gate_dst (N := 5) rfl ?_); refine box_event ?hg (N := 5) ?hd (cs := #[.slice A2_0 l2_0.length c2_0, .int .i64 a2_1]) (t := 28) ?hr ?_; (case hd => rfl); (case hg => rfl); (case hr => exact P10_11_); intro gb149 hg w64 hbox hb; have n0_ := Aside0.mk (bb BK148.out hb); have n1_ := Aside0.mk (below_step P10_2_ hb); have n2_ := Aside0.mk (hbox); have n3_ := Aside0.mk ((by rw [hg]; exact (below_size P10_2_) : w.heap.size ≤ gb149)); have n4_ := Aside0.mk ((by rw [hg]; exact (below_size P10_2_) : w.heap.size ≤ gb149)); have n5_ := Aside0.mk ((P10_8_ : gb148 ≠ gb149)); have n6_ := Aside0.mk ((P10_9_ : gb149 ≠ gb148)); clear BK148 HB; have BK148 := n0_; have HB := n1_; have BK149 := n2_; have GW149 := n3_; have GE149 := n4_; have NB148_149 := n5_; have NB149_148 := n6_; clear n0_ n1_ n2_ n3_ n4_ n5_ n6_ hb hbox hg; have hnb65 := NB148_149.out; have hnc65 := NB149_148.out; obtain ⟨hcz66_0, hcz66_1⟩ := cz2 BK148.out; have hfz66_0 := blk_frozen BK148.out 0; have hfz66_1 := blk_frozen BK148.out 1) | ((with_reducible refine gate_callee (f := 7) rfl ?_); refine goesL_ (some 13) rfl rfl Try.func7 P10_12_ rfl #[.agg #[.slice A0_0 l0_0.length c0_0, .slice A0_1 l0_1.length c0_1]] rfl P10_3_ ?_; (with_reducible refine (tag_Check.calls k _ _ l0_0 _ _ l0_1 t150 _ ?side1 ?side2 ?side3 ?side4 A4.out).mono ?_); (case side1 => exact P10_6_); (case side2 => exact HC0_0.out); (case side3 => exact P10_10_); (case side4 => exact HC0_1.out); rintro e w67 ⟨rfl, hb⟩; refine ⟨_, rfl, ?_⟩; have n0_ := Aside0.mk (bb BK148.out hb); have n1_ := Aside0.mk (bb BK149.out hb); have n2_ := Aside0.mk (below_step P10_1_ hb); clear BK148 BK149 HB; have BK148 := n0_; have BK149 := n1_; have HB := n2_; clear n0_ n1_ n2_; (try clear hb); (try clear hb2); (try clear hk); (try clear hi)))
  go_ret
  exact ⟨P10_7_, P10_1_⟩
 rw [if_pos c5] at H
 have c5b0 : (t150 == 0) = true := beq_iff_eq.mpr c5
 have c5b1 : (t150 != 0) = false := bne_eq_false_iff_eq.mpr c5
 clear c5
 by_cases c6 : (l2_0.length : Int) = (l0_0.length : Int)
 rotate_left
 ·rw [if_neg c6] at H
  have c6b0 : ((l2_0.length : Int) == (l0_0.length : Int)) = false := beq_eq_false_iff_ne.mpr c6
  have c6b1 : ((l2_0.length : Int) != (l0_0.length : Int)) = true := bne_iff_ne.mpr c6
  have c6b2 : (l2_0.length == l0_0.length) = false := by first | simpa using c6 | (simp at c6 ⊢; omega)
  obtain rfl := Option.some.inj H
  go_enter Try.func11, Try.ntmps11
  go_wp2_with (first | ((with_reducible refine gate_dst (N := 3) rfl ?_); refine box_event ?hg (N := 3) ?hd (cs := #[.slice A0_0 l0_0.length c0_0, .slice A0_1 l0_1.length c0_1]) (t := 24) ?hr ?_; (case hd => rfl); (case hg => rfl); (case hr => exact P10_11_); intro gb148 hg w56 hbox hb; have n0_ := Aside0.mk (below_step P10_4_ hb); have n1_ := Aside0.mk (hbox); have n2_ := Aside0.mk ((by rw [hg]; exact (below_size P10_4_) : w.heap.size ≤ gb148)); have n3_ := Aside0.mk ((by rw [hg]; exact (below_size P10_4_) : w.heap.size ≤ gb148)); clear HB; have HB := n0_; have BK148 := n1_; have GW148 := n2_; have GE148 := n3_; clear n0_ n1_ n2_ n3_ hb hbox hg) | ((with_reducible refine gate_dst (N := 5) rfl ?_); refine box_event ?hg (N := 5) ?hd (cs := #[.slice A2_0 l2_0.length c2_0, .int .i64 a2_1]) (t := 28) ?hr ?_; (case hd => rfl); (case hg => rfl); (case hr => exact P10_11_); intro gb149 hg w57 hbox hb; have n0_ := Aside0.mk (bb BK148.out hb); have n1_ := Aside0.mk (below_step P10_2_ hb); have n2_ := Aside0.mk (hbox); have n3_ := Aside0.mk ((by rw [hg]; exact (below_size P10_2_) : w.heap.size ≤ gb149)); have n4_ := Aside0.mk ((by rw [hg]; exact (below_size P10_2_) : w.heap.size ≤ gb149)); have n5_ := Aside0.mk ((P10_8_ : gb148 ≠ gb149)); have n6_ := Aside0.mk ((P10_9_ : gb149 ≠ gb148)); clear BK148 HB; have BK148 := n0_; have HB := n1_; have BK149 := n2_; have GW149 := n3_; have GE149 := n4_; have NB148_149 := n5_; have NB149_148 := n6_; clear n0_ n1_ n2_ n3_ n4_ n5_ n6_ hb hbox hg; have hnb58 := NB148_149.out; have hnc58 := NB149_148.out; obtain ⟨hcz59_0, hcz59_1⟩ := cz2 BK148.out; have hfz59_0 := blk_frozen BK148.out 0; have hfz59_1 := blk_frozen BK148.out 1) | ((with_reducible refine gate_callee (f := 7) rfl ?_); refine goesL_ (some 13) rfl rfl Try.func7 P10_12_ rfl #[.agg #[.slice A0_0 l0_0.length c0_0, .slice A0_1 l0_1.length c0_1]] rfl P10_3_ ?_; (with_reducible refine (tag_Check.calls k _ _ l0_0 _ _ l0_1 t150 _ ?side1 ?side2 ?side3 ?side4 A4.out).mono ?_); (case side1 => exact P10_6_); (case side2 => exact HC0_0.out); (case side3 => exact P10_10_); (case side4 => exact HC0_1.out); rintro e w60 ⟨rfl, hb⟩; refine ⟨_, rfl, ?_⟩; have n0_ := Aside0.mk (bb BK148.out hb); have n1_ := Aside0.mk (bb BK149.out hb); have n2_ := Aside0.mk (below_step P10_1_ hb); clear BK148 BK149 HB; have BK148 := n0_; have BK149 := n1_; have HB := n2_; clear n0_ n1_ n2_; (try clear hb); (try clear hb2); (try clear hk); (try clear hi); obtain ⟨hcz61_0, hcz61_1⟩ := cz2 BK149.out; have hfz61_0 := blk_frozen BK149.out 0; have hfz61_1 := blk_frozen BK149.out 1; obtain ⟨hcz62_0, hcz62_1⟩ := cz2 BK148.out; have hfz62_0 := blk_frozen BK148.out 0; have hfz62_1 := blk_frozen BK148.out 1))
  go_ret
  exact ⟨P10_7_, P10_1_⟩
 rw [if_pos c6] at H
 have c6b0 : ((l2_0.length : Int) == (l0_0.length : Int)) = true := beq_iff_eq.mpr c6
 have c6b1 : ((l2_0.length : Int) != (l0_0.length : Int)) = false := bne_eq_false_iff_eq.mpr c6
 have c6b2 : (l2_0.length == l0_0.length) = true := by first | simpa using c6 | (simp at c6 ⊢; omega)
 clear c6
 have HC7 := Aside0.mk H
 clear H
 go_enter Try.func11, Try.ntmps11
 go_upto_region 6 with (first | ((with_reducible refine gate_dst (N := 3) rfl ?_); refine box_event ?hg (N := 3) ?hd (cs := #[.slice A0_0 l0_0.length c0_0, .slice A0_1 l0_1.length c0_1]) (t := 24) ?hr ?_; (case hd => rfl); (case hg => rfl); (case hr => exact P10_11_); intro gb148 hg w8 hbox hb; have n0_ := Aside0.mk (below_step P10_4_ hb); have n1_ := Aside0.mk (hbox); have n2_ := Aside0.mk ((by rw [hg]; exact (below_size P10_4_) : w.heap.size ≤ gb148)); have n3_ := Aside0.mk ((by rw [hg]; exact (below_size P10_4_) : w.heap.size ≤ gb148)); clear HB; have HB := n0_; have BK148 := n1_; have GW148 := n2_; have GE148 := n3_; clear n0_ n1_ n2_ n3_ hb hbox hg) | ((with_reducible refine gate_dst (N := 5) rfl ?_); refine box_event ?hg (N := 5) ?hd (cs := #[.slice A2_0 l2_0.length c2_0, .int .i64 a2_1]) (t := 28) ?hr ?_; (case hd => rfl); (case hg => rfl); (case hr => exact P10_11_); intro gb149 hg w9 hbox hb; have n0_ := Aside0.mk (bb BK148.out hb); have n1_ := Aside0.mk (below_step P10_2_ hb); have n2_ := Aside0.mk (hbox); have n3_ := Aside0.mk ((by rw [hg]; exact (below_size P10_2_) : w.heap.size ≤ gb149)); have n4_ := Aside0.mk ((by rw [hg]; exact (below_size P10_2_) : w.heap.size ≤ gb149)); have n5_ := Aside0.mk ((P10_8_ : gb148 ≠ gb149)); have n6_ := Aside0.mk ((P10_9_ : gb149 ≠ gb148)); clear BK148 HB; have BK148 := n0_; have HB := n1_; have BK149 := n2_; have GW149 := n3_; have GE149 := n4_; have NB148_149 := n5_; have NB149_148 := n6_; clear n0_ n1_ n2_ n3_ n4_ n5_ n6_ hb hbox hg; have hnb10 := NB148_149.out; have hnc10 := NB149_148.out; obtain ⟨hcz11_0, hcz11_1⟩ := cz2 BK148.out; have hfz11_0 := blk_frozen BK148.out 0; have hfz11_1 := blk_frozen BK148.out 1) | ((with_reducible refine gate_callee (f := 7) rfl ?_); refine goesL_ (some 13) rfl rfl Try.func7 P10_12_ rfl #[.agg #[.slice A0_0 l0_0.length c0_0, .slice A0_1 l0_1.length c0_1]] rfl P10_3_ ?_; (with_reducible refine (tag_Check.calls k _ _ l0_0 _ _ l0_1 t150 _ ?side1 ?side2 ?side3 ?side4 A4.out).mono ?_); (case side1 => exact P10_6_); (case side2 => exact HC0_0.out); (case side3 => exact P10_10_); (case side4 => exact HC0_1.out); rintro e w12 ⟨rfl, hb⟩; refine ⟨_, rfl, ?_⟩; have n0_ := Aside0.mk (bb BK148.out hb); have n1_ := Aside0.mk (bb BK149.out hb); have n2_ := Aside0.mk (below_step P10_1_ hb); clear BK148 BK149 HB; have BK148 := n0_; have BK149 := n1_; have HB := n2_; clear n0_ n1_ n2_; (try clear hb); (try clear hb2); (try clear hk); (try clear hi); obtain ⟨hcz13_0, hcz13_1⟩ := cz2 BK149.out; have hfz13_0 := blk_frozen BK149.out 0; have hfz13_1 := blk_frozen BK149.out 1; obtain ⟨hcz14_0, hcz14_1⟩ := cz2 BK148.out; have hfz14_0 := blk_frozen BK148.out 0; have hfz14_1 := blk_frozen BK148.out 1))
 (try simp only [Act.put, setIfInBounds_toArray, set_cons_zero, set_cons_succ])
 go_cut [25] (fun v25 wc => ∃ (kq : Nat) (x25_6 : Bool), v25 = .bool x25_6 ∧ Aside0 (tag_Verify.j0 kq l1 x25_6 l0_0 l0_1 l2_0 a2_1 = some r) ∧ Aside0 (kq ≤ k) ∧ Aside0 (wc.heap[gb148]? = some (.cells #[(.slice A0_0 l0_0.length c0_0), (.slice A0_1 l0_1.length c0_1)] 24 (0, 0))) ∧ Aside0 (wc.heap[gb149]? = some (.cells #[(.slice A2_0 l2_0.length c2_0), .int .i64 a2_1] 28 (0, 0))) ∧ Aside0 (Below w.heap.size w wc))
 case first =>
  have H := HC7.out
  clear HC7
  replace H := Option.bind_eq_some_iff.mp H
  obtain ⟨t151, A150, H⟩ := H
  (try dsimp only at H)
  have A15 := Aside0.mk A150
  clear A150
  by_cases c16 : t151 = true
  ·subst c16
   rw [if_pos rfl] at H
   have H' := Aside0.mk H
   clear H
   have hnb17 := NB149_148.out
   have hnc17 := NB148_149.out
   obtain ⟨hcz18_0, hcz18_1⟩ := cz2 BK149.out
   have hfz18_0 := blk_frozen BK149.out 0
   have hfz18_1 := blk_frozen BK149.out 1
   go_wp2_with (first | ((with_reducible refine gate_callee (f := 21) rfl ?_); refine goesL_ (some 28) rfl rfl Try.func21 P10_12_ rfl #[.int .i64 a2_1] rfl P10_3_ ?_; (with_reducible refine (tag_wild.calls a2_1 true _ A15.out).mono ?_); rintro e w' ⟨rfl, ⟨nd, rfl⟩⟩; refine ⟨_, rfl, ?_⟩))
   go_meet
   case rel => exact ⟨_, (true), P10_13_, H', ⟨by first | omega | exact Nat.le_refl _⟩, ⟨pB BK148.out⟩, ⟨pB BK149.out⟩, ⟨P10_1_⟩⟩
  replace c16 := Bool.eq_false_iff.mpr c16
  subst c16
  rw [if_neg (show ¬ (false = true) by decide)] at H
  replace H := Option.bind_eq_some_iff.mp H
  obtain ⟨t152, A190, H⟩ := H
  (try dsimp only at H)
  have A19 := Aside0.mk A190
  clear A190
  have H' := Aside0.mk H
  clear H
  have hnb20 := NB149_148.out
  have hnc20 := NB148_149.out
  obtain ⟨hcz21_0, hcz21_1⟩ := cz2 BK149.out
  have hfz21_0 := blk_frozen BK149.out 0
  have hfz21_1 := blk_frozen BK149.out 1
  go_wp2_with (first | ((with_reducible refine gate_callee (f := 21) rfl ?_); refine goesL_ (some 28) rfl rfl Try.func21 P10_12_ rfl #[.int .i64 a2_1] rfl P10_3_ ?_; (with_reducible refine (tag_wild.calls a2_1 false _ A15.out).mono ?_); rintro e w' ⟨rfl, ⟨nd, rfl⟩⟩; refine ⟨_, rfl, ?_⟩) | (go_at_call 20; (with_reducible refine (Ha.tag_ContainsFunc_wild.calls _ _ l2_0 t152 _ ?side1 ?side2 A19.out).mono ?_); (case side1 => repeat (first | exact (Kd.C_below HR2_0.out P10_1_) | (with_reducible refine Kd.C_alloc ?_ _) | (with_reducible refine Kd.C_drewN ?_ _) | (with_reducible refine Kd.C_drew ?_))); (case side2 => exact HC2_0.out); rintro e w' ⟨rfl, ⟨nd, rfl⟩⟩))
  go_meet
  case rel => exact ⟨_, (t152), P10_13_, H', ⟨by first | omega | exact Nat.le_refl _⟩, ⟨pB BK148.out⟩, ⟨pB BK149.out⟩, ⟨P10_1_⟩⟩
 clear HC7
 obtain ⟨kq, x25_6, rfl, HA, HJ6, BK148, BK149, HB⟩ := hcut
 rcases kq with _ | kj6
 ·exact absurd HA.out (by simp [tag_Verify.j0])
 have H := HA.out
 clear HA
 simp only [tag_Verify.j0] at H
 by_cases c22 : x25_6 = true
 ·subst c22
  rw [if_pos rfl] at H
  obtain rfl := Option.some.inj H
  go_wp2
  go_ret
  exact ⟨P10_7_, P10_1_⟩
 replace c22 := Bool.eq_false_iff.mpr c22
 subst c22
 rw [if_neg (show ¬ (false = true) by decide)] at H
 replace H := Option.bind_eq_some_iff.mp H
 obtain ⟨t153, A230, H⟩ := H
 (try dsimp only at H)
 have A23 := Aside0.mk A230
 clear A230
 by_cases c24 : t153 = 0
 rotate_left
 ·rw [if_neg c24] at H
  have c24b0 : (t153 == 0) = false := beq_eq_false_iff_ne.mpr c24
  have c24b1 : (t153 != 0) = true := bne_iff_ne.mpr c24
  obtain rfl := Option.some.inj H
  have hnb53 := NB148_149.out
  have hnc53 := NB149_148.out
  obtain ⟨hcz54_0, hcz54_1⟩ := cz2 BK148.out
  have hfz54_0 := blk_frozen BK148.out 0
  have hfz54_1 := blk_frozen BK148.out 1
  go_wp2_with (first | ((with_reducible refine gate_callee (f := 23) rfl ?_); refine goesL_ (some 38) rfl rfl Try.func23 P10_12_ rfl #[.slice A1 l1.length c1, .int .i64 (l0_1.length : Int)] rfl P10_3_ ?_; (with_reducible refine (tag_challenge.calls kj6 _ _ l1 (l0_1.length : Int) t153 _ ?side1 ?side2 A23.out).mono ?_); (case side1 => repeat (first | exact (Kd.C_below HR1.out HB.out) | (with_reducible refine Kd.C_alloc ?_ _) | (with_reducible refine Kd.C_drewN ?_ _) | (with_reducible refine Kd.C_drew ?_))); (case side2 => exact HC1.out); rintro e w55 ⟨rfl, hb⟩; refine ⟨_, rfl, ?_⟩; have n0_ := Aside0.mk (bb BK148.out hb); have n1_ := Aside0.mk (bb BK149.out hb); have n2_ := Aside0.mk (below_step P10_1_ hb); clear BK148 BK149 HB; have BK148 := n0_; have BK149 := n1_; have HB := n2_; clear n0_ n1_ n2_; (try clear hb); (try clear hb2); (try clear hk); (try clear hi)))
  go_ret
  exact ⟨P10_7_, P10_1_⟩
 rw [if_pos c24] at H
 have c24b0 : (t153 == 0) = true := beq_iff_eq.mpr c24
 have c24b1 : (t153 != 0) = false := bne_eq_false_iff_eq.mpr c24
 clear c24
 replace H := Option.bind_eq_some_iff.mp H
 obtain ⟨t154, A250, H⟩ := H
 (try dsimp only at H)
 have A25 := Aside0.mk A250
 clear A250
 have H' := Aside0.mk H
 clear H
 have hnb26 := NB148_149.out
 have hnc26 := NB149_148.out
 obtain ⟨hcz27_0, hcz27_1⟩ := cz2 BK148.out
 have hfz27_0 := blk_frozen BK148.out 0
 have hfz27_1 := blk_frozen BK148.out 1
 go_wp2_with (first | ((with_reducible refine gate_callee (f := 23) rfl ?_); refine goesL_ (some 38) rfl rfl Try.func23 P10_12_ rfl #[.slice A1 l1.length c1, .int .i64 (l0_1.length : Int)] rfl P10_3_ ?_; (with_reducible refine (tag_challenge.calls kj6 _ _ l1 (l0_1.length : Int) t153 _ ?side1 ?side2 A23.out).mono ?_); (case side1 => repeat (first | exact (Kd.C_below HR1.out HB.out) | (with_reducible refine Kd.C_alloc ?_ _) | (with_reducible refine Kd.C_drewN ?_ _) | (with_reducible refine Kd.C_drew ?_))); (case side2 => exact HC1.out); rintro e w28 ⟨rfl, hb⟩; refine ⟨_, rfl, ?_⟩; have n0_ := Aside0.mk (bb BK148.out hb); have n1_ := Aside0.mk (bb BK149.out hb); have n2_ := Aside0.mk (below_step P10_1_ hb); clear BK148 BK149 HB; have BK148 := n0_; have BK149 := n1_; have HB := n2_; clear n0_ n1_ n2_; (try clear hb); (try clear hb2); (try clear hk); (try clear hi); obtain ⟨hcz29_0, hcz29_1⟩ := cz2 BK148.out; have hfz29_0 := blk_frozen BK148.out 0; have hfz29_1 := blk_frozen BK148.out 1; obtain ⟨hcz30_0, hcz30_1⟩ := cz2 BK149.out; have hfz30_0 := blk_frozen BK149.out 0; have hfz30_1 := blk_frozen BK149.out 1) | ((with_reducible refine gate_callee (f := 27) rfl ?_); refine goesL_ (some 46) rfl rfl Try.func27 P10_12_ rfl #[.slice A0_0 l0_0.length c0_0, .slice A2_0 l2_0.length c2_0] rfl P10_3_ ?_; (with_reducible refine (Ha.tag_product.calls kj6 _ _ l0_0 _ _ l2_0 t154 _ ?side1 ?side2 ?side3 ?side4 A25.out).mono ?_); (case side1 => exact P10_6_); (case side2 => exact HC0_0.out); (case side3 => repeat (first | exact (Kd.C_below HR2_0.out HB.out) | (with_reducible refine Kd.C_alloc ?_ _) | (with_reducible refine Kd.C_drewN ?_ _) | (with_reducible refine Kd.C_drew ?_))); (case side4 => exact HC2_0.out); rintro e w31 ⟨rfl, hb⟩; refine ⟨_, rfl, ?_⟩; have n0_ := Aside0.mk (bb BK148.out hb); have n1_ := Aside0.mk (bb BK149.out hb); have n2_ := Aside0.mk (below_step P10_1_ hb); clear BK148 BK149 HB; have BK148 := n0_; have BK149 := n1_; have HB := n2_; clear n0_ n1_ n2_; (try clear hb); (try clear hb2); (try clear hk); (try clear hi)))
 go_loopg [9, 49] kj6 (fun kq v9 v49 w' => ∃ (x9_2 : Int) (x49_2 : Int), v9 = .int .i64 x9_2 ∧ v49 = .int .i64 x49_2 ∧ Aside0 (tag_Verify.l0 kq x9_2 l1 (l1.length : Int) x49_2 l0_0 l0_1 l2_0 a2_1 = some r) ∧ Aside0 (kq ≤ kj6) ∧ Aside0 (w'.heap[gb148]? = some (.cells #[(.slice A0_0 l0_0.length c0_0), (.slice A0_1 l0_1.length c0_1)] 24 (0, 0))) ∧ Aside0 (w'.heap[gb149]? = some (.cells #[(.slice A2_0 l2_0.length c2_0), .int .i64 a2_1] 28 (0, 0))) ∧ Aside0 (Below w.heap.size w w'))
 case atStart => exact ⟨(t154), (0), P10_13_, P10_13_, H', ⟨Nat.le_refl _⟩, ⟨pB BK148.out⟩, ⟨pB BK149.out⟩, ⟨P10_1_⟩⟩
 case round =>
  clear H'
  obtain ⟨x9_2, x49_2, rfl, rfl, HA, HK2, BK148, BK149, HB⟩ := hrel
  rcases gk with _ | k2
  ·exact absurd HA.out (by simp [tag_Verify.l0])
  have H := HA.out
  clear HA
  simp only [tag_Verify.l0] at H
  by_cases c32 : x49_2 < (l1.length : Int)
  rotate_left
  ·rw [if_neg c32] at H
   have c32b0 : decide (x49_2 < (l1.length : Int)) = false := decide_eq_false c32
   clear c32
   by_cases c48 : x9_2 = a2_1
   ·rw [if_pos c48] at H
    have c48b0 : (x9_2 == a2_1) = true := beq_iff_eq.mpr c48
    have c48b1 : (x9_2 != a2_1) = false := bne_eq_false_iff_eq.mpr c48
    clear c48
    obtain rfl := Option.some.inj H
    have hnb49 := NB149_148.out
    have hnc49 := NB148_149.out
    obtain ⟨hcz50_0, hcz50_1⟩ := cz2 BK149.out
    have hfz50_0 := blk_frozen BK149.out 0
    have hfz50_1 := blk_frozen BK149.out 1
    go_wp2
    go_ret
    exact ⟨P10_7_, P10_1_⟩
   rw [if_neg c48] at H
   have c48b0 : (x9_2 == a2_1) = false := beq_eq_false_iff_ne.mpr c48
   have c48b1 : (x9_2 != a2_1) = true := bne_iff_ne.mpr c48
   obtain rfl := Option.some.inj H
   have hnb51 := NB149_148.out
   have hnc51 := NB148_149.out
   obtain ⟨hcz52_0, hcz52_1⟩ := cz2 BK149.out
   have hfz52_0 := blk_frozen BK149.out 0
   have hfz52_1 := blk_frozen BK149.out 1
   go_wp2
   go_ret
   exact ⟨P10_7_, P10_1_⟩
  rw [if_pos c32] at H
  have c32b0 : decide (x49_2 < (l1.length : Int)) = true := decide_eq_true c32
  clear c32
  by_cases c33 : 0 ≤ x49_2
  rotate_left
  ·rw [if_neg c33] at H
   exact absurd H (by simp)
  rw [if_pos c33] at H
  have c33b0 : decide (0 ≤ x49_2) = true := decide_eq_true c33
  clear c33
  by_cases c34 : x49_2 < (l1.length : Int)
  rotate_left
  ·rw [if_neg c34] at H
   exact absurd H (by simp)
  rw [if_pos c34] at H
  have c34b0 : decide (x49_2 < (l1.length : Int)) = true := decide_eq_true c34
  clear c34
  by_cases c35 : 0 ≤ ((rd_T60 l1 x49_2).f0)
  rotate_left
  ·rw [if_neg c35] at H
   exact absurd H (by simp)
  rw [if_pos c35] at H
  have c35b0 : decide (0 ≤ ((rd_T60 l1 x49_2).f0)) = true := decide_eq_true c35
  clear c35
  by_cases c36 : ((rd_T60 l1 x49_2).f0) < (l0_1.length : Int)
  rotate_left
  ·rw [if_neg c36] at H
   exact absurd H (by simp)
  rw [if_pos c36] at H
  have c36b0 : decide (((rd_T60 l1 x49_2).f0) < (l0_1.length : Int)) = true := decide_eq_true c36
  clear c36
  replace H := Option.bind_eq_some_iff.mp H
  obtain ⟨t158, A370, H⟩ := H
  (try dsimp only at H)
  have A37 := Aside0.mk A370
  clear A370
  obtain ⟨y159, hy159⟩ : ∃ y_ : List Int, y_ = (([x9_2, t158] : List Int)) := ⟨_, rfl⟩
  replace H : ((tag_sum.f k2 y159).bind fun t162 => (tag_Verify.l0 k2 t162 l1 (l1.length : Int) (wrap64 (x49_2 + 1)) l0_0 l0_1 l2_0 a2_1)) = some r := by first | (rw [hy159]; with_reducible exact H) | (have H2_ := (Option.bind_some _ _).symm.trans H; rw [hy159]; with_reducible exact H2_) | (have H2_ := (Option.bind_some _ _).symm.trans H; with_reducible exact H2_) | with_reducible exact H | (rw [hy159]; exact H) | exact H
  have Ny159 := Aside0.mk hy159
  clear hy159
  replace H := Option.bind_eq_some_iff.mp H
  obtain ⟨t162, A380, H⟩ := H
  (try dsimp only at H)
  have A38 := Aside0.mk A380
  clear A380
  have H' := Aside0.mk H
  clear H
  have p155 : 0 ≤ (x49_2 : Int) := of_decide_eq_true (by first | (with_reducible assumption) | assumption)
  have q155 : x49_2 < (l1.length : Int) := of_decide_eq_true (by first | (with_reducible assumption) | assumption)
  obtain ⟨ad155, e155, hx155_0, hx155_1⟩ := at_T60 HR1.out x49_2 p155 q155
  cases e155
  replace hx155_0 := (HB.out.cell (World.block_lt_of_cell? w _ hx155_0)).trans hx155_0
  replace hx155_1 := (HB.out.cell (World.block_lt_of_cell? w _ hx155_1)).trans hx155_1
  replace p155 := eq_true p155
  replace q155 := eq_true q155
  try go_wp2_with (first | ((with_reducible refine gate_dst (N := 11) rfl ?_); refine box_event ?hg (N := 11) ?hd (cs := #[.int .i64 0, .int .i64 0]) (t := 60) ?hr ?_; (case hd => rfl); (case hg => rfl); (case hr => exact P10_11_); intro gb156 hg w39 hbox hb; have n0_ := Aside0.mk (bb BK148.out hb); have n1_ := Aside0.mk (bb BK149.out hb); have n2_ := Aside0.mk (below_step P10_1_ hb); have n3_ := Aside0.mk (hbox); have n4_ := Aside0.mk ((by rw [hg]; exact (below_size P10_1_) : w.heap.size ≤ gb156)); have n5_ := Aside0.mk ((by rw [hg]; exact (below_size P10_1_) : w.heap.size ≤ gb156)); have n6_ := Aside0.mk ((P10_8_ : gb148 ≠ gb156)); have n7_ := Aside0.mk ((P10_9_ : gb156 ≠ gb148)); have n8_ := Aside0.mk ((by rw [hg]; exact Nat.ne_of_lt (blk_lt (g := gb149) (o := .cells #[.slice A2_0 l2_0.length c2_0, .int .i64 a2_1] 28 (0, 0)) (pB BK149.out)) : gb149 ≠ gb156)); have n9_ := Aside0.mk ((by rw [hg]; exact Nat.ne_of_gt (blk_lt (g := gb149) (o := .cells #[.slice A2_0 l2_0.length c2_0, .int .i64 a2_1] 28 (0, 0)) (pB BK149.out)) : gb156 ≠ gb149)); clear BK148 BK149 HB; have BK148 := n0_; have BK149 := n1_; have HB := n2_; have BK156 := n3_; have GW156 := n4_; have GE156 := n5_; have NB148_156 := n6_; have NB156_148 := n7_; have NB149_156 := n8_; have NB156_149 := n9_; clear n0_ n1_ n2_ n3_ n4_ n5_ n6_ n7_ n8_ n9_ hb hbox hg; have hnb40 := NB156_148.out; have hnc40 := NB148_156.out; have hnb41 := NB156_149.out; have hnc41 := NB149_156.out; obtain ⟨hcz42_0, hcz42_1⟩ := cz2 BK156.out; have hfz42_0 := blk_frozen BK156.out 0; have hfz42_1 := blk_frozen BK156.out 1))
  have n0_ : Aside0 (((w39.setCell ⟨gb156, 0, none⟩ (.int .i64 ((rd_T60 l1 x49_2).f0))).setCell ⟨gb156, 1, none⟩ (.int .i64 ((rd_T60 l1 x49_2).f1))).heap[gb148]? = some (.cells #[.slice A0_0 l0_0.length c0_0, .slice A0_1 l0_1.length c0_1] 24 (0, 0))) := ⟨by (with_reducible repeat (first | refine blk_drewN ?_ _ | refine blk_drew ?_ | refine blk_alloc ?_ _)); refine blk_far ?_ NB148_156.out _; (with_reducible repeat (first | refine blk_drewN ?_ _ | refine blk_drew ?_ | refine blk_alloc ?_ _)); refine blk_far ?_ NB148_156.out _; (with_reducible repeat (first | refine blk_drewN ?_ _ | refine blk_drew ?_ | refine blk_alloc ?_ _)); exact BK148.out⟩
  have n1_ : Aside0 (((w39.setCell ⟨gb156, 0, none⟩ (.int .i64 ((rd_T60 l1 x49_2).f0))).setCell ⟨gb156, 1, none⟩ (.int .i64 ((rd_T60 l1 x49_2).f1))).heap[gb149]? = some (.cells #[.slice A2_0 l2_0.length c2_0, .int .i64 a2_1] 28 (0, 0))) := ⟨by (with_reducible repeat (first | refine blk_drewN ?_ _ | refine blk_drew ?_ | refine blk_alloc ?_ _)); refine blk_far ?_ NB149_156.out _; (with_reducible repeat (first | refine blk_drewN ?_ _ | refine blk_drew ?_ | refine blk_alloc ?_ _)); refine blk_far ?_ NB149_156.out _; (with_reducible repeat (first | refine blk_drewN ?_ _ | refine blk_drew ?_ | refine blk_alloc ?_ _)); exact BK149.out⟩
  have n2_ : Aside0 (((w39.setCell ⟨gb156, 0, none⟩ (.int .i64 ((rd_T60 l1 x49_2).f0))).setCell ⟨gb156, 1, none⟩ (.int .i64 ((rd_T60 l1 x49_2).f1))).heap[gb156]? = some (.cells #[.int .i64 ((rd_T60 l1 x49_2).f0), .int .i64 ((rd_T60 l1 x49_2).f1)] 60 (0, 0))) := ⟨by (with_reducible repeat (first | refine blk_drewN ?_ _ | refine blk_drew ?_ | refine blk_alloc ?_ _)); refine blk_put (cs := #[.int .i64 ((rd_T60 l1 x49_2).f0), .int .i64 0]) ?_ 1 _ rfl; (with_reducible repeat (first | refine blk_drewN ?_ _ | refine blk_drew ?_ | refine blk_alloc ?_ _)); refine blk_put (cs := #[.int .i64 0, .int .i64 0]) ?_ 0 _ rfl; (with_reducible repeat (first | refine blk_drewN ?_ _ | refine blk_drew ?_ | refine blk_alloc ?_ _)); exact BK156.out⟩
  have n3_ : Aside0 (Below w.heap.size w ((w39.setCell ⟨gb156, 0, none⟩ (.int .i64 ((rd_T60 l1 x49_2).f0))).setCell ⟨gb156, 1, none⟩ (.int .i64 ((rd_T60 l1 x49_2).f1)))) := ⟨P10_5_⟩
  (try clear BK148)
  (try clear BK149)
  (try clear BK156)
  (try clear HB)
  generalize ((w39.setCell ⟨gb156, 0, none⟩ (.int .i64 ((rd_T60 l1 x49_2).f0))).setCell ⟨gb156, 1, none⟩ (.int .i64 ((rd_T60 l1 x49_2).f1))) = w43 at n0_ n1_ n2_ n3_ ⊢
  have BK148 := n0_
  have BK149 := n1_
  have BK156 := n2_
  have HB := n3_
  clear n0_ n1_ n2_ n3_
  have n0_ := Aside0.mk (blk_drew BK148.out)
  have n1_ := Aside0.mk (blk_drew BK149.out)
  have n2_ := Aside0.mk (blk_drew BK156.out)
  have n3_ := Aside0.mk (below_drew1 HB.out)
  clear BK148
  clear BK149
  clear BK156
  clear HB
  have BK148 := n0_
  have BK149 := n1_
  have BK156 := n2_
  have HB := n3_
  clear n0_ n1_ n2_ n3_
  have p157 : 0 ≤ (((rd_T60 l1 x49_2).f0) : Int) := of_decide_eq_true (by first | (with_reducible assumption) | assumption)
  have q157 : ((rd_T60 l1 x49_2).f0) < (l0_1.length : Int) := of_decide_eq_true (by first | (with_reducible assumption) | assumption)
  obtain ⟨ad157, e157, hx157_0⟩ := Kd.at_int HR0_1.out ((rd_T60 l1 x49_2).f0) p157 q157
  have hw157_0 := hx157_0
  cases e157
  replace hx157_0 := (HB.out.cell (World.block_lt_of_cell? w _ hx157_0)).trans hx157_0
  replace p157 := eq_true p157
  replace q157 := eq_true q157
  refine start_ (n := 13) (S := fun w' => w'.cell? ⟨gb148, 0, none⟩ = some (.slice A0_0 l0_0.length c0_0) ∧ w'.cell? ⟨gb148, 1, none⟩ = some (.slice (some ad157) l0_1.length c0_1) ∧ w'.cell? ⟨gb156, 0, none⟩ = some (.int .i64 ((rd_T60 l1 x49_2).f0)) ∧ w'.cell? ⟨gb156, 1, none⟩ = some (.int .i64 ((rd_T60 l1 x49_2).f1)) ∧ w'.cell? (ad157.add (((rd_T60 l1 x49_2).f0)).toNat) = some (.int .i64 (rd l0_1 ((rd_T60 l1 x49_2).f0)))) (ds := []) #[false, false, false, false, false, false, false, false, false, false, false, false, false] P10_12_ rfl rfl ⟨(blk_cell BK148.out 0).trans rfl, (blk_cell BK148.out 1).trans rfl, (blk_cell BK156.out 0).trans rfl, (blk_cell BK156.out 1).trans rfl, ((HB.out.cell (World.block_lt_of_cell? w _ hw157_0)).trans hw157_0)⟩ (fun hHeld => ?_); refine with_tabW tag_Verify.tab15 tag_Verify.bits15 (fun HT_ HW_ => ?_)
  generalize w43.drew = w44 at BK148 BK149 BK156 HB hx157_0 hHeld ⊢
  refine pure_ (i := 0) (N := some 53) (v := ?_) (a' := ?_) #[true, false, false, false, false, false, false, false, false, false, false, false, false] rfl rfl (any_of HT_.out P10_12_) (fun _ _ _ h => h) (Or.inl ⟨by rfl, ?_⟩) ?_ ?_
  rotate_left
  ·intro w'
   go_simp
   with_reducible rfl
  rotate_left
  ·simp only [Act.put, setIfInBounds_toArray, set_cons_zero, set_cons_succ, i64_w, i32_w]
   rfl
  refine pure_ (i := 1) (N := some 54) (v := ?_) (a' := ?_) #[true, true, false, false, false, false, false, false, false, false, false, false, false] rfl rfl (any_of HT_.out P10_12_) (fun _ _ _ h => h) (Or.inl ⟨by rfl, ?_⟩) ?_ ?_
  rotate_left
  ·intro w'
   go_simp
   with_reducible rfl
  rotate_left
  ·simp only [Act.put, setIfInBounds_toArray, set_cons_zero, set_cons_succ, i64_w, i32_w]
   rfl
  refine pure_ (i := 3) (N := some 56) (v := ?_) (a' := ?_) #[true, true, false, true, false, false, false, false, false, false, false, false, false] rfl rfl (any_of HT_.out P10_12_) (fun _ _ _ h => h) (Or.inl ⟨by rfl, ?_⟩) ?_ ?_
  rotate_left
  ·intro w'
   go_simp
   with_reducible rfl
  rotate_left
  ·simp only [Act.put, setIfInBounds_toArray, set_cons_zero, set_cons_succ, i64_w, i32_w]
   rfl
  refine pure_ (i := 7) (N := some 60) (v := ?_) (a' := ?_) #[true, true, false, true, false, false, false, true, false, false, false, false, false] rfl rfl (any_of HT_.out P10_12_) (fun _ _ _ h => h) (Or.inl ⟨by rfl, ?_⟩) ?_ ?_
  rotate_left
  ·intro w'
   go_simp
   with_reducible rfl
  rotate_left
  ·simp only [Act.put, setIfInBounds_toArray, set_cons_zero, set_cons_succ, i64_w, i32_w]
   rfl
  refine take_ (i := 2) (N := some 55) (v := ?_) (a' := ?_) #[true, true, true, true, false, false, false, true, false, false, false, false, false] rfl rfl (take_ofW HT_.out HW_.out P10_12_) (fun _ _ _ h => h) (Or.inl ⟨by rfl, ?_⟩) hHeld ?_ ?_
  rotate_left
  ·rintro w' ⟨s0, s1, s2, s3, s4⟩
   go_simp
   with_reducible rfl
  rotate_left
  ·simp only [Act.put, setIfInBounds_toArray, set_cons_zero, set_cons_succ, i64_w, i32_w]
   rfl
  refine take_ (i := 4) (N := some 57) (v := ?_) (a' := ?_) #[true, true, true, true, true, false, false, true, false, false, false, false, false] rfl rfl (take_ofW HT_.out HW_.out P10_12_) (fun _ _ _ h => h) (Or.inl ⟨by rfl, ?_⟩) hHeld ?_ ?_
  rotate_left
  ·rintro w' ⟨s0, s1, s2, s3, s4⟩
   go_simp
   with_reducible rfl
  rotate_left
  ·simp only [Act.put, setIfInBounds_toArray, set_cons_zero, set_cons_succ, i64_w, i32_w]
   rfl
  refine pure_ (i := 5) (N := some 58) (v := ?_) (a' := ?_) #[true, true, true, true, true, true, false, true, false, false, false, false, false] rfl rfl (any_of HT_.out P10_12_) (fun _ _ _ h => h) (Or.inl ⟨by rfl, ?_⟩) ?_ ?_
  rotate_left
  ·intro w'
   go_simp
   with_reducible rfl
  rotate_left
  ·simp only [Act.put, setIfInBounds_toArray, set_cons_zero, set_cons_succ, i64_w, i32_w]
   rfl
  refine take_ (i := 6) (N := some 59) (v := ?_) (a' := ?_) #[true, true, true, true, true, true, true, true, false, false, false, false, false] rfl rfl (take_ofW HT_.out HW_.out P10_12_) (fun _ _ _ h => h) (Or.inl ⟨by rfl, ?_⟩) hHeld ?_ ?_
  rotate_left
  ·rintro w' ⟨s0, s1, s2, s3, s4⟩
   go_simp
   with_reducible rfl
  rotate_left
  ·simp only [Act.put, setIfInBounds_toArray, set_cons_zero, set_cons_succ, i64_w, i32_w]
   rfl
  refine take_ (i := 8) (N := some 61) (v := ?_) (a' := ?_) #[true, true, true, true, true, true, true, true, true, false, false, false, false] rfl rfl (take_ofW HT_.out HW_.out P10_12_) (fun _ _ _ h => h) (Or.inl ⟨by rfl, ?_⟩) hHeld ?_ ?_
  rotate_left
  ·rintro w' ⟨s0, s1, s2, s3, s4⟩
   go_simp
   with_reducible rfl
  rotate_left
  ·simp only [Act.put, setIfInBounds_toArray, set_cons_zero, set_cons_succ, i64_w, i32_w]
   rfl
  refine one_ (i := 9) (N := some 62) #[true, true, true, true, true, true, true, true, true, true, false, false, false] rfl rfl (one_of HT_.out P10_12_) (by decide) (fun K hK => ?_)
  refine goes_ Try.func25 P10_12_ rfl #[.int .i64 (rd l0_1 ((rd_T60 l1 x49_2).f0)), .int .i64 ((rd_T60 l1 x49_2).f1)] (by rfl) rfl rfl P10_3_ ?_
  with_reducible refine (tag_residue_times.calls (rd l0_1 ((rd_T60 l1 x49_2).f0)) ((rd_T60 l1 x49_2).f1) t158 _ A37.out).mono ?_
  rintro e w' ⟨rfl, ⟨nd, rfl⟩⟩
  refine ⟨_, rfl, ?_⟩
  refine hK.out _ _ ⟨(blk_cell BK148.out 0).trans rfl, (blk_cell BK148.out 1).trans rfl, (blk_cell BK156.out 0).trans rfl, (blk_cell BK156.out 1).trans rfl, ((HB.out.cell (World.block_lt_of_cell? w _ hw157_0)).trans hw157_0)⟩ (fun hHeld => ?_)
  clear hK K
  refine norm_ (a' := ?_) ?_ ?_
  rotate_left
  ·show Act.put _ (some 62) _ = _
   simp only [Act.put, setIfInBounds_toArray, set_cons_zero, set_cons_succ, i64_w, i32_w]
   rfl
  refine one_ (i := 10) (N := some 63) #[true, true, true, true, true, true, true, true, true, true, true, false, false] rfl rfl (one_of HT_.out P10_12_) (by decide) (fun K hK => ?_)
  refine Kd.R_lit_step (Kd.int .i64) _ 68 ?hg (N := 63) ?hd (xs := ([x9_2, t158] : List Int)) (inner := [.int .i64 x9_2, .int .i64 t158]) (ok := fun _ => True) (okp := fun _ => True) ?hr ?hp (fun _ hk => hk) trivial (Below.refl _ _) (Nat.le_refl _) (by simp) ?_; (case hd => rfl); (case hg => rfl); (case hr => exact P10_11_); (case hp => exact (Reps.one (show Kd.M (Kd.int .i64) _ _ _ x9_2 [.int .i64 x9_2] from rfl) (Reps.one (show Kd.M (Kd.int .i64) _ _ _ t158 [.int .i64 t158] from rfl) (Reps.none _ _))))
  intro v160 w45 ho46 hb hg_ hnew_
  clear hg_ hnew_
  (first | rw [← Ny159.out] at ho46 | (simp only [Int.reduceToNat] at ho46; rw [← Ny159.out] at ho46))
  have n0_ := Aside0.mk (Kd.R_lower ho46 (below_size P10_5_))
  have n1_ := Aside0.mk (bb BK148.out hb)
  have n2_ := Aside0.mk (bb BK149.out hb)
  have n3_ := Aside0.mk (blk_below (g := gb156) (o := .cells #[.int .i64 ((rd_T60 l1 x49_2).f0), .int .i64 ((rd_T60 l1 x49_2).f1)] 60 (0, 0)) (pB BK156.out) hb)
  have n4_ := Aside0.mk (below_step P10_5_ hb)
  clear BK148
  clear BK149
  clear BK156
  clear HB
  have HO161 := n0_
  have BK148 := n1_
  have BK149 := n2_
  have BK156 := n3_
  have HB := n4_
  clear n0_ n1_ n2_ n3_ n4_
  clear hb ho46
  obtain ⟨Ao47, co47, eo47⟩ := Kd.R_slice HO161.out
  (first | subst eo47 | (injection eo47 with f1_ f2_ f3_; have f4_ := f1_.symm; have f5_ := f3_.symm; clear f1_ f2_ f3_; subst f4_; subst f5_))
  refine hK.out _ _ ⟨(blk_cell BK148.out 0).trans rfl, (blk_cell BK148.out 1).trans rfl, (blk_cell BK156.out 0).trans rfl, (blk_cell BK156.out 1).trans rfl, ((HB.out.cell (World.block_lt_of_cell? w _ hw157_0)).trans hw157_0)⟩ (fun hHeld => ?_)
  clear hK K
  refine norm_ (a' := ?_) ?_ ?_
  rotate_left
  ·show Act.put _ (some 63) _ = _
   simp only [Act.put, setIfInBounds_toArray, set_cons_zero, set_cons_succ, i64_w, i32_w]
   rfl
  refine one_ (i := 11) (N := some 64) #[true, true, true, true, true, true, true, true, true, true, true, true, false] rfl rfl (one_of HT_.out P10_12_) (by decide) (fun K hK => ?_)
  refine goes_ Try.func24 P10_12_ rfl #[.slice Ao47 y159.length co47] (by rfl) rfl rfl P10_3_ ?_
  with_reducible refine (tag_sum.calls k2 _ _ y159 t162 _ ?side1 ?side2 A38.out).mono ?_
  (case side1 => repeat (first | exact (Kd.R_reads' HO161.out).2.2 | (with_reducible refine Kd.C_alloc ?_ _) | (with_reducible refine Kd.C_drewN ?_ _) | (with_reducible refine Kd.C_drew ?_)))
  (case side2 => exact (Kd.R_reads' HO161.out).2.1)
  rintro e w' ⟨rfl, ⟨nd, rfl⟩⟩
  refine ⟨_, rfl, ?_⟩
  refine hK.out _ _ ⟨(blk_cell BK148.out 0).trans rfl, (blk_cell BK148.out 1).trans rfl, (blk_cell BK156.out 0).trans rfl, (blk_cell BK156.out 1).trans rfl, ((HB.out.cell (World.block_lt_of_cell? w _ hw157_0)).trans hw157_0)⟩ (fun hHeld => ?_)
  clear hK K
  refine norm_ (a' := ?_) ?_ ?_
  rotate_left
  ·show Act.put _ (some 64) _ = _
   simp only [Act.put, setIfInBounds_toArray, set_cons_zero, set_cons_succ, i64_w, i32_w]
   rfl
  refine pure_ (i := 12) (N := some 9) (v := ?_) (a' := ?_) #[true, true, true, true, true, true, true, true, true, true, true, true, true] rfl rfl (any_of HT_.out P10_12_) (fun _ _ _ h => h) (Or.inl ⟨by rfl, ?_⟩) ?_ ?_
  rotate_left
  ·intro w'
   go_simp
   with_reducible rfl
  rotate_left
  ·simp only [Act.put, setIfInBounds_toArray, set_cons_zero, set_cons_succ, i64_w, i32_w]
   rfl
  refine done_ (done_of HT_.out P10_12_) ?_
  try go_wp2
  go_roundg k2
  case measure => have := HJ6.out; have := HK2.out; omega
  case rel => exact ⟨(t162), (wrap64 (x49_2 + 1)), P10_13_, P10_13_, H', ⟨by have := HJ6.out; have := HK2.out; omega⟩, ⟨pB BK148.out⟩, ⟨pB BK149.out⟩, ⟨P10_5_⟩⟩

end Go.Proofs.Ytekkjikmcnndoaa.P
