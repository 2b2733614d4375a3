/- The functions that the statements about package tag reach, as plain Lean functions, and that the Go functions answer as these do; for every input within the sizes that the functions state. -/
import Derived.Test.YtekkjikmcnndoaaP0
import Derived.Test.YtekkjikmcnndoaaP3
import Derived.Test.YtekkjikmcnndoaaP5
import Derived.Test.YtekkjikmcnndoaaP6
import Derived.Test.YtekkjikmcnndoaaP7
import Derived.Test.YtekkjikmcnndoaaSq
namespace Go.Proofs.Ytekkjikmcnndoaa.P
open Go.RowKit Go.Proofs.YtekkjikmcnndoaaW.PrintWords Go.Proofs.YtekkjikmcnndoaaW.PrintLast Go.Proofs.YtekkjikmcnndoaaW.PrintMore Go.Proofs.YtekkjikmcnndoaaSq
open List (setIfInBounds_toArray set_cons_zero set_cons_succ)
attribute [local go_sem] max2_int min2_int max_two min_two max_three min_three max_four min_four   -- for this text's walks alone
set_option linter.unusedVariables false
set_option linter.unusedSimpArgs false

/-! ### tag_Blend: function 16 -/
mutual
def tag_Blend.j0 : Nat → List (S28) → List Int → Bool → Option (List Int × Int × Int)
 | 0, _, _, _ => none
 | k + 1, x0, x1, x24 => if x24 = true then (some (([] : List Int), 0, 1)) else ((Ha.tag_ContainsFunc_wild.f x1).bind fun t184 => (tag_Blend.l0 k x0 x1 t184 x0 (x0.length : Int) 0))
def tag_Blend.l0 : Nat → List (S28) → List Int → Bool → List (S28) → Int → Int → Option (List Int × Int × Int)
 | 0, _, _, _, _, _, _ => none
 | k + 1, x0, x1, x6, x28, x29, x30 => if x30 < x29 then (if 0 ≤ x30 then (if x30 < (x28.length : Int) then (if 0 < (x0.length : Int) then (if (((rd_T28 x28 x30).f0).length : Int) = (((rd_T28 x0 0).f0).length : Int) then (if x6 = true then (tag_Blend.l0 k x0 x1 true x28 x29 (wrap64 (x30 + 1))) else ((tag_wild.f ((rd_T28 x28 x30).f1)).bind fun t188 => (if t188 = true then (tag_Blend.l0 k x0 x1 true x28 x29 (wrap64 (x30 + 1))) else ((Ha.tag_ContainsFunc_wild.f ((rd_T28 x28 x30).f0)).bind fun t189 => (tag_Blend.l0 k x0 x1 t189 x28 x29 (wrap64 (x30 + 1))))))) else (some (([] : List Int), 0, 1))) else (none)) else (none)) else (none)) else (if x6 = true then (some (([] : List Int), 0, 3)) else (if 0 < (x0.length : Int) then (if 0 ≤ (((rd_T28 x0 0).f0).length : Int) then (if ((((rd_T28 x0 0).f0).length : Int) : Int).toNat ≤ 35184372088832 then (tag_Blend.l1 k x1 (List.replicate ((((rd_T28 x0 0).f0).length : Int) : Int).toNat 0) 0 x0 (x0.length : Int) 0) else (none)) else (none)) else (none)))
def tag_Blend.l1 : Nat → List Int → List Int → Int → List (S28) → Int → Int → Option (List Int × Int × Int)
 | 0, _, _, _, _, _, _ => none
 | k + 1, x1, x9, x10, x64, x65, x66 => if x66 < x65 then (if 0 ≤ x66 then (if x66 < (x64.length : Int) then (tag_Blend.l2 k x1 x9 x10 x66 x64 x65 x66 ((rd_T28 x64 x66).f0) (((rd_T28 x64 x66).f0).length : Int) 0 ((rd_T28 x64 x66).f0) ((rd_T28 x64 x66).f1)) else (none)) else (none)) else ((tag_plain.f k x9 x10).bind fun bt211 => (some (bt211.1, bt211.2, 0)))
def tag_Blend.l2 : Nat → List Int → List Int → Int → Int → List (S28) → Int → Int → List Int → Int → Int → List Int → Int → Option (List Int × Int × Int)
 | 0, _, _, _, _, _, _, _, _, _, _, _, _ => none
 | k + 1, x1, x9, x10, x11, x64, x65, x66, x72, x73, x74, x196000, x196001 => if x74 < x73 then (if 0 ≤ x74 then (if x74 < (x72.length : Int) then (if x74 < (x9.length : Int) then (if 0 ≤ x11 then (if x11 < (x1.length : Int) then ((tag_residue_times.f (rd x72 x74) (rd x1 x11)).bind fun t199 => ((tag_sum.f k (([rd x9 x74, t199] : List Int))).bind fun t203 => (tag_Blend.l2 k x1 (x9.set (x74 : Int).toNat t203) x10 x11 x64 x65 x66 x72 x73 (wrap64 (x74 + 1)) x196000 x196001))) else (none)) else (none)) else (none)) else (none)) else (none)) else (if 0 ≤ x11 then (if x11 < (x1.length : Int) then ((tag_residue_times.f x196001 (rd x1 x11)).bind fun t206 => ((tag_sum.f k (([x10, t206] : List Int))).bind fun t210 => (tag_Blend.l1 k x1 x9 t210 x64 x65 (wrap64 (x66 + 1))))) else (none)) else (none))
end
def tag_Blend.f (k : Nat) (l0 : List (S28)) (l1 : List Int) : Option (List Int × Int × Int) := if (l0.length : Int) = 0 then (tag_Blend.j0 k l0 l1 true) else (tag_Blend.j0 k l0 l1 ((l1.length : Int) != (l0.length : Int)))
theorem tag_Blend.mono_l : ∀ k, (∀ y0 y1 y2, LeO (tag_Blend.j0 k y0 y1 y2) (tag_Blend.j0 (k + 1) y0 y1 y2)) ∧ (∀ y0 y1 y2 y3 y4 y5, LeO (tag_Blend.l0 k y0 y1 y2 y3 y4 y5) (tag_Blend.l0 (k + 1) y0 y1 y2 y3 y4 y5)) ∧ (∀ y0 y1 y2 y3 y4 y5, LeO (tag_Blend.l1 k y0 y1 y2 y3 y4 y5) (tag_Blend.l1 (k + 1) y0 y1 y2 y3 y4 y5)) ∧ (∀ y0 y1 y2 y3 y4 y5 y6 y7 y8 y9 y10 y11, LeO (tag_Blend.l2 k y0 y1 y2 y3 y4 y5 y6 y7 y8 y9 y10 y11) (tag_Blend.l2 (k + 1) y0 y1 y2 y3 y4 y5 y6 y7 y8 y9 y10 y11))
 | 0 => ⟨fun _ _ _ r h => by simp [tag_Blend.j0] at h, fun _ _ _ _ _ _ r h => by simp [tag_Blend.l0] at h, fun _ _ _ _ _ _ r h => by simp [tag_Blend.l1] at h, fun _ _ _ _ _ _ _ _ _ _ _ _ r h => by simp [tag_Blend.l2] at h⟩
 | k + 1 => by
  obtain ⟨ih0, ih1, ih2, ih3⟩ := tag_Blend.mono_l k
  refine ⟨?_, ?_, ?_, ?_⟩
  all_goals
   intros
   first | unfold tag_Blend.j0 | unfold tag_Blend.l0 | unfold tag_Blend.l1 | unfold tag_Blend.l2
   repeat' first
   | (with_reducible exact ih0 ..)
   | (with_reducible exact ih1 ..)
   | (with_reducible exact ih2 ..)
   | (with_reducible exact ih3 ..)
   | (with_reducible exact tag_plain.mono ..)
   | (with_reducible exact tag_sum.mono ..)
   | (with_reducible exact LeO.refl ..)
   | (with_reducible exact LeO.none ..)
   | (with_reducible refine LeO.ite ?_ ?_)
   | (with_reducible refine LeO.bind ?_ (fun _ => ?_))
   | exact ih0 ..
   | exact ih1 ..
   | exact ih2 ..
   | exact ih3 ..
   | exact tag_plain.mono ..
   | exact tag_sum.mono ..
   | exact LeO.none ..
   | refine LeO.ite ?_ ?_
   | refine LeO.bind ?_ (fun _ => ?_)
theorem tag_Blend.mono : ∀ a0 a1 k, LeO (tag_Blend.f k a0 a1) (tag_Blend.f (k + 1) a0 a1) := by
 intro a0 a1 k
 obtain ⟨ih0, ih1, ih2, ih3⟩ := tag_Blend.mono_l k
 unfold tag_Blend.f
 repeat' first
   | (with_reducible exact ih0 _ _ _)
   | (with_reducible exact ih1 _ _ _ _ _ _)
   | (with_reducible exact ih2 _ _ _ _ _ _)
   | (with_reducible exact ih3 _ _ _ _ _ _ _ _ _ _ _ _)
   | (with_reducible exact tag_plain.mono _ _ _)
   | (with_reducible exact tag_sum.mono _ _)
   | (with_reducible exact LeO.refl _)
   | (with_reducible exact LeO.none _)
   | (with_reducible refine LeO.ite ?_ ?_)
   | (with_reducible refine LeO.bind ?_ (fun _ => ?_))
   | exact ih0 _ _ _
   | exact ih1 _ _ _ _ _ _
   | exact ih2 _ _ _ _ _ _
   | exact ih3 _ _ _ _ _ _ _ _ _ _ _ _
   | exact tag_plain.mono _ _ _
   | exact tag_sum.mono _ _
   | exact LeO.none _
   | refine LeO.ite ?_ ?_
   | refine LeO.bind ?_ (fun _ => ?_)
def tag_Blend.T7 : Bool × List (List Nat × List Nat) := (true, [([], []), ([0], [0]), ([1], [1]), ([], []), ([3], [3]), ([4], [4]), ([5], [5]), ([6], [6]), ([2, 7], [2, 7])])
def tag_Blend.B7 : List Nat := [0, 1, 3, 0, 8, 24, 56, 120, 255]
theorem tag_Blend.tab7 : rtab .any (opsOf Try.f16 7) = tag_Blend.T7 := by kernel_rfl
theorem tag_Blend.bits7 : waitsOk tag_Blend.T7.2 tag_Blend.B7 = true := by kernel_rfl
def tag_Blend.T21 : Bool × List (List Nat × List Nat) := (true, [([], []), ([], []), ([], []), ([], []), ([2, 3], [2, 3]), ([4], [4]), ([], []), ([], []), ([], []), ([7, 8], [7, 8]), ([9], [9]), ([6, 10], [6, 10]), ([5, 11], [5, 11]), ([12, 11], [12]), ([0, 1, 0, 1, 2, 3, 4, 5, 6, 7, 8, 9, 10, 11, 12, 13], [0, 1]), ([14, 13, 13, 0, 1, 2, 3, 4, 5, 6, 7, 8, 9, 10, 11, 12, 13], [13, 14])])
def tag_Blend.B21 : List Nat := [0, 0, 0, 0, 12, 28, 0, 0, 0, 384, 896, 1984, 4092, 8188, 16383, 32767]
theorem tag_Blend.tab21 : rtab .any (opsOf Try.f16 21) = tag_Blend.T21 := by kernel_rfl
theorem tag_Blend.bits21 : waitsOk tag_Blend.T21.2 tag_Blend.B21 = true := by kernel_rfl
def tag_Blend.T23 : Bool × List (List Nat × List Nat) := (true, [([], []), ([], []), ([1], [1]), ([], []), ([], []), ([3, 4], [3, 4]), ([5], [5]), ([2, 6], [2, 6]), ([0, 7], [0, 7]), ([8, 7], [8]), ([9, 9, 0, 1, 2, 3, 4, 5, 6, 7, 8, 9], [0, 9])])
def tag_Blend.B23 : List Nat := [0, 0, 2, 0, 0, 24, 56, 126, 255, 511, 1023]
theorem tag_Blend.tab23 : rtab .any (opsOf Try.f16 23) = tag_Blend.T23 := by kernel_rfl
theorem tag_Blend.bits23 : waitsOk tag_Blend.T23.2 tag_Blend.B23 = true := by kernel_rfl
theorem P14_1_ {P : Prop} (h : P := by repeat (first | (with_reducible first | exact HB.out | apply below_alloc | apply pw_below_drewN | apply below_drew1 | refine below_set ?_ GE183.out) | exact HB.out)) : P := h
theorem P14_2_ {P : Prop} (h : P := by repeat (first | (with_reducible first | exact HB.out | apply below_alloc | apply pw_below_drewN | apply below_drew1 | refine below_set ?_ GE183.out | refine below_set ?_ GE186.out) | exact HB.out)) : P := h
theorem P14_3_ {P : Prop} (h : P := by (with_reducible repeat (first | refine blk_drewN ?_ _ | refine blk_drew ?_ | refine blk_alloc ?_ _)); refine blk_put (cs := #[.slice A185_0 ((rd_T28 l0 x30_2).f0).length c185_0, .int .i64 0]) ?_ 1 _ rfl; (with_reducible repeat (first | refine blk_drewN ?_ _ | refine blk_drew ?_ | refine blk_alloc ?_ _)); refine blk_put (cs := #[.slice none 0 0, .int .i64 0]) ?_ 0 _ rfl; (with_reducible repeat (first | refine blk_drewN ?_ _ | refine blk_drew ?_ | refine blk_alloc ?_ _)); exact BK186.out) : P := h
theorem P14_4_ {P : Prop} (h : P := by first | (with_reducible assumption) | assumption) : P := h
theorem P14_5_ {P : Prop} (h : P := by (with_reducible repeat (first | refine blk_drewN ?_ _ | refine blk_drew ?_ | refine blk_alloc ?_ _)); refine blk_far ?_ NB183_186.out _; (with_reducible repeat (first | refine blk_drewN ?_ _ | refine blk_drew ?_ | refine blk_alloc ?_ _)); refine blk_far ?_ NB183_186.out _; (with_reducible repeat (first | refine blk_drewN ?_ _ | refine blk_drew ?_ | refine blk_alloc ?_ _)); exact BK183.out) : P := h
theorem P14_6_ {P : Prop} (h : P := by repeat (first | (with_reducible first | exact HB.out | apply below_alloc | apply pw_below_drewN | apply below_drew1 | refine below_set ?_ GE183.out | refine below_set ?_ GE195.out) | exact HB.out)) : P := h
theorem P14_7_ {P : Prop} (h : P := by kernel_rfl) : P := h
theorem P14_8_ {P : Prop} (h : P := by (try simp only [List.map_toArray, List.map_cons, List.map_nil]); first | done | rfl | (simp only [List.length_drop, List.length_take]; rfl)) : P := h
theorem P14_9_ {P : Prop} (h : P := by first | rfl | (simp; done) | (simp [*]; done)) : P := h
theorem P14_10_ {P : Prop} (h : P := by rw [hg]; exact Nat.ne_of_lt (blk_lt (g := gb183) (o := .cells #[.slice none 0 0, .int .i64 x184001_2] 28 (0, 0)) (pB BK183.out))) : P := h
theorem P14_11_ {P : Prop} (h : P := by rw [hg]; exact Nat.ne_of_gt (blk_lt (g := gb183) (o := .cells #[.slice none 0 0, .int .i64 x184001_2] 28 (0, 0)) (pB BK183.out))) : P := h
theorem P14_12_ {P : Prop} (h : P := by (with_reducible repeat (first | refine blk_drewN ?_ _ | refine blk_drew ?_ | refine blk_alloc ?_ _)); refine blk_put (cs := #[.slice none 0 0, .int .i64 x184001_2]) ?_ 1 _ rfl; (with_reducible repeat (first | refine blk_drewN ?_ _ | refine blk_drew ?_ | refine blk_alloc ?_ _)); refine blk_put (cs := #[.slice none 0 0, .int .i64 x184001_2]) ?_ 0 _ rfl; (with_reducible repeat (first | refine blk_drewN ?_ _ | refine blk_drew ?_ | refine blk_alloc ?_ _)); exact BK183.out) : P := h
theorem P14_13_ {P : Prop} (h : P := by rw [hg]; exact (below_size P14_1_)) : P := h
theorem P14_14_ {P : Prop} (h : P := by first | rfl | (simp [errW_none, errW_some] <;> rfl) | (simp [*, errW_none, errW_some] <;> rfl)) : P := h
theorem P14_15_ {P : Prop} (h : P := by first | exact Kd.R_nil _ _ _ _ _ | exact Kd.N_nil _ _ _ _ _ | exact Kd.V_nil _ _ _ _ _ | exact Kd.Q_nil _ _ _ _ _ | exact Kd.S_nil _ _ _ _ _) : P := h
theorem P14_16_ {P : Prop} (h : P := by first | (go_simp; done) | (go_simp; rfl)) : P := h
theorem P14_17_ {P : Prop} (h : P := by repeat (first | (with_reducible first | exact HB.out | apply below_alloc | apply pw_below_drewN | apply below_drew1) | exact HB.out)) : P := h
theorem P14_18_ {P : Prop} (h : P := by rfl) : P := h
set_option maxHeartbeats 8000000 in
set_option maxRecDepth 100000 in
theorem tag_Blend.calls (k : Nat) (A0 : Option Addr) (c0 : Nat) (l0 : List (S28)) (A1 : Option Addr) (c1 : Nat) (l1 : List Int) (r1 : List Int) (r2 : Int) (r3 : Int) (w : World) (hr0 : Kd.C k28 w A0 l0.length l0) (hc0 : l0.length ≤ c0) (hr1 : Kd.C (Kd.int .i64) w A1 l1.length l1) (hc1 : l1.length ≤ c1) (h : tag_Blend.f k l0 l1 = some (r1, r2, r3)) :
  Calls Try.prog 16 #[.slice A0 l0.length c0, .slice A1 l1.length c1] w fun e w' => ∃ v0_ : Value, e = .returned (.tuple #[.agg #[v0_, .int .i64 r2], .int .i64 r3]) ∧ Kd.R (Kd.int .i64) 3 w' w.heap.size (fun _ => True) v0_ r1 ∧ Below w.heap.size w w' := by
 have hu28 := Try.underlying28
 have HR0 := Aside0.mk hr0
 have HC0 := Aside0.mk hc0
 clear hr0 hc0
 have HR1 := Aside0.mk hr1
 have HC1 := Aside0.mk hc1
 clear hr1 hc1
 have HB := Aside0.mk (Below.refl w.heap.size w)
 have H : (if (l0.length : Int) = 0 then (tag_Blend.j0 k l0 l1 true) else (tag_Blend.j0 k l0 l1 ((l1.length : Int) != (l0.length : Int)))) = some (r1, r2, r3) := h
 clear h
 have HC3 := Aside0.mk H
 clear H
 go_enter Try.func16, Try.ntmps16
 go_upto_region 1 with (first | ((with_reducible refine gate_dst (N := 4) rfl ?_); (try (refine gate_guard P14_18_ ?_; dsimp only)); refine box_event ?hg (N := 4) ?hd (cs := #[.slice none 0 0, .int .i64 0]) (t := 28) ?hr ?_; (case hd => exact P14_18_); (case hg => exact P14_18_); (case hr => exact P14_16_); intro gb183 hg w4 hbox hb; have n0_ := Aside0.mk (below_step P14_17_ hb); have n1_ := Aside0.mk (hbox); have n2_ := Aside0.mk ((by rw [hg]; exact (below_size P14_17_) : w.heap.size ≤ gb183)); have n3_ := Aside0.mk ((by rw [hg]; exact (below_size P14_17_) : w.heap.size ≤ gb183)); clear HB; have HB := n0_; have BK183 := n1_; have GW183 := n2_; have GE183 := n3_; clear n0_ n1_ n2_ n3_ hb hbox hg))
 (try simp only [Act.put, setIfInBounds_toArray, set_cons_zero, set_cons_succ])
 go_cut [24] (fun v24 wc => ∃ (kq : Nat) (x24_2 : Bool), v24 = .bool x24_2 ∧ Aside0 (tag_Blend.j0 kq l0 l1 x24_2 = some (r1, r2, r3)) ∧ Aside0 (kq ≤ k) ∧ Aside0 (wc.heap[gb183]? = some (.cells #[(.slice none 0 0), .int .i64 0] 28 (0, 0))) ∧ Aside0 (Below w.heap.size w wc))
 case first =>
  have H := HC3.out
  clear HC3
  by_cases c5 : (l0.length : Int) = 0
  ·rw [if_pos c5] at H
   have c5b0 : ((l0.length : Int) == 0) = true := beq_iff_eq.mpr c5
   have c5b1 : ((l0.length : Int) != 0) = false := bne_eq_false_iff_eq.mpr c5
   clear c5
   (first | rw [c5b0] | (simp only [i64_w, i32_w]; rw [c5b0]) | skip)
   have H' := Aside0.mk H
   clear H
   go_wp2
   go_meet
   case rel => exact ⟨_, (true), P14_9_, H', ⟨by first | omega | exact Nat.le_refl _⟩, ⟨pB BK183.out⟩, ⟨P14_1_⟩⟩
  rw [if_neg c5] at H
  have c5b0 : ((l0.length : Int) == 0) = false := beq_eq_false_iff_ne.mpr c5
  have c5b1 : ((l0.length : Int) != 0) = true := bne_iff_ne.mpr c5
  have c5b2 : ¬ (l0 = []) := fun h_ => c5 (by rw [h_]; rfl)
  (first | rw [c5b0] | (simp only [i64_w, i32_w]; rw [c5b0]) | skip)
  have H' := Aside0.mk H
  clear H
  go_wp2
  go_meet
  case rel => exact ⟨_, (((l1.length : Int) != (l0.length : Int))), P14_9_, H', ⟨by first | omega | exact Nat.le_refl _⟩, ⟨pB BK183.out⟩, ⟨P14_1_⟩⟩
 clear HC3
 obtain ⟨kq, x24_2, rfl, HA, HJ2, BK183, HB⟩ := hcut
 rcases kq with _ | kj2
 ·exact absurd HA.out (by simp [tag_Blend.j0])
 have H := HA.out
 clear HA
 simp only [tag_Blend.j0] at H
 by_cases c6 : x24_2 = true
 ·subst c6
  have H1 : (some (([] : List Int), 0, 1)) = some (r1, r2, r3) := by rw [if_pos rfl] at H; exact H
  clear H
  have H := H1
  clear H1
  simp only [Option.some.injEq, Prod.mk.injEq] at H
  obtain ⟨rfl, rfl, rfl⟩ := H
  obtain ⟨hcz7_0, hcz7_1⟩ := cz2 BK183.out
  have hfz7_0 := blk_frozen BK183.out 0
  have hfz7_1 := blk_frozen BK183.out 1
  go_wp2
  refine bodyPost_ret (results_ct rfl _ _ gb183 28 #[.slice none 0 0, .int .i64 0] (0, 0) _ rfl (by (with_reducible repeat (first | refine blk_drewN ?_ _ | refine blk_drew ?_ | refine blk_alloc ?_ _)); refine blk_put (cs := #[.slice none 0 0, .int .i64 0]) ?_ 1 _ rfl; (with_reducible repeat (first | refine blk_drewN ?_ _ | refine blk_drew ?_ | refine blk_alloc ?_ _)); refine blk_put (cs := #[.slice none 0 0, .int .i64 0]) ?_ 0 _ rfl; (with_reducible repeat (first | refine blk_drewN ?_ _ | refine blk_drew ?_ | refine blk_alloc ?_ _)); exact BK183.out) Try.underlying28 rfl P14_7_) rfl ?_
  exact ⟨_, P14_14_, P14_15_, P14_1_⟩
 replace c6 := Bool.eq_false_iff.mpr c6
 subst c6
 have H1 : ((Ha.tag_ContainsFunc_wild.f l1).bind fun t184 => (tag_Blend.l0 kj2 l0 l1 t184 l0 (l0.length : Int) 0)) = some (r1, r2, r3) := by rw [if_neg (show ¬ (false = true) by decide)] at H; exact H
 clear H
 have H := H1
 clear H1
 replace H := Option.bind_eq_some_iff.mp H
 obtain ⟨t184, A80, H⟩ := H
 replace H : (tag_Blend.l0 kj2 l0 l1 t184 l0 (l0.length : Int) 0) = some (r1, r2, r3) := H
 have A8 := Aside0.mk A80
 clear A80
 have H' := Aside0.mk H
 clear H
 go_wp2_with (first | ((with_reducible refine gate_callee (f := 20) rfl ?_); refine goesL_ (some 27) rfl rfl Try.func20 P14_7_ rfl #[.slice A1 l1.length c1, .func (.func 21) #[] #[]] rfl P14_8_ ?_; (with_reducible refine (Ha.tag_ContainsFunc_wild.calls _ _ l1 t184 _ ?side1 ?side2 A8.out).mono ?_); (case side1 => repeat (first | exact (Kd.C_below HR1.out HB.out) | (with_reducible refine Kd.C_alloc ?_ _) | (with_reducible refine Kd.C_drewN ?_ _) | (with_reducible refine Kd.C_drew ?_))); (case side2 => exact HC1.out); rintro e w' ⟨rfl, ⟨nd, rfl⟩⟩; refine ⟨_, rfl, ?_⟩))
 go_loopg [6, 30] kj2 (fun kq v6 v30 w' => ∃ (x6_2 : Bool) (x30_2 : Int) (x184001_2 : Int), v6 = .bool x6_2 ∧ v30 = .int .i64 x30_2 ∧ Aside0 (tag_Blend.l0 kq l0 l1 x6_2 l0 (l0.length : Int) x30_2 = some (r1, r2, r3)) ∧ Aside0 (kq ≤ kj2) ∧ Aside0 (w'.heap[gb183]? = some (.cells #[(.slice none 0 0), .int .i64 x184001_2] 28 (0, 0))) ∧ Aside0 (Below w.heap.size w w'))
 case atStart => exact ⟨(t184), (0), (0), P14_9_, P14_9_, H', ⟨Nat.le_refl _⟩, ⟨pB BK183.out⟩, ⟨P14_1_⟩⟩
 case round =>
  clear H'
  obtain ⟨x6_2, x30_2, x184001_2, rfl, rfl, HA, HK2, BK183, HB⟩ := hrel
  rcases gk with _ | k2
  ·exact absurd HA.out (by simp [tag_Blend.l0])
  have H := HA.out
  clear HA
  simp only [tag_Blend.l0] at H
  by_cases c9 : x30_2 < (l0.length : Int)
  ·rw [if_pos c9] at H
   have c9b0 : decide (x30_2 < (l0.length : Int)) = true := decide_eq_true c9
   clear c9
   by_cases c10 : 0 ≤ x30_2
   rotate_left
   ·rw [if_neg c10] at H
    exact absurd H (by simp)
   rw [if_pos c10] at H
   have c10b0 : decide (0 ≤ x30_2) = true := decide_eq_true c10
   clear c10
   by_cases c11 : x30_2 < (l0.length : Int)
   rotate_left
   ·rw [if_neg c11] at H
    exact absurd H (by simp)
   rw [if_pos c11] at H
   have c11b0 : decide (x30_2 < (l0.length : Int)) = true := decide_eq_true c11
   clear c11
   by_cases c12 : 0 < (l0.length : Int)
   rotate_left
   ·rw [if_neg c12] at H
    exact absurd H (by simp)
   rw [if_pos c12] at H
   have c12b0 : decide (0 < (l0.length : Int)) = true := decide_eq_true c12
   have c12b1 : decide (0 < l0.length) = true := decide_eq_true (by omega)
   clear c12
   by_cases c13 : (((rd_T28 l0 x30_2).f0).length : Int) = (((rd_T28 l0 0).f0).length : Int)
   rotate_left
   ·rw [if_neg c13] at H
    have c13b0 : ((((rd_T28 l0 x30_2).f0).length : Int) == (((rd_T28 l0 0).f0).length : Int)) = false := beq_eq_false_iff_ne.mpr c13
    have c13b1 : ((((rd_T28 l0 x30_2).f0).length : Int) != (((rd_T28 l0 0).f0).length : Int)) = true := bne_iff_ne.mpr c13
    have c13b2 : (((rd_T28 l0 x30_2).f0).length == ((rd_T28 l0 0).f0).length) = false := by first | simpa using c13 | (simp at c13 ⊢; omega)
    simp only [Option.some.injEq, Prod.mk.injEq] at H
    obtain ⟨rfl, rfl, rfl⟩ := H
    have p185 : 0 ≤ (x30_2 : Int) := of_decide_eq_true P14_4_
    have q185 : x30_2 < (l0.length : Int) := of_decide_eq_true P14_4_
    obtain ⟨ad185, A185_0, c185_0, e185, hx185_0, hx185_1, hl185_0, hi185_0⟩ := at_T28 HR0.out x30_2 p185 q185
    cases e185
    replace hx185_0 := (HB.out.cell (World.block_lt_of_cell? w _ hx185_0)).trans hx185_0
    replace hx185_1 := (HB.out.cell (World.block_lt_of_cell? w _ hx185_1)).trans hx185_1
    have HR185_0 := Aside0.mk hi185_0
    have HC185_0 := Aside0.mk hl185_0
    clear hi185_0 hl185_0
    replace p185 := eq_true p185
    replace q185 := eq_true q185
    try go_wp2_with (first | ((with_reducible refine gate_dst (N := 8) rfl ?_); (try (refine gate_guard P14_18_ ?_; dsimp only)); refine box_event ?hg (N := 8) ?hd (cs := #[.slice none 0 0, .int .i64 0]) (t := 28) ?hr ?_; (case hd => exact P14_18_); (case hg => exact P14_18_); (case hr => exact P14_16_); intro gb186 hg w35 hbox hb; have n0_ := Aside0.mk (bb BK183.out hb); have n1_ := Aside0.mk (below_step P14_1_ hb); have n2_ := Aside0.mk (hbox); have n3_ := Aside0.mk ((P14_13_ : w.heap.size ≤ gb186)); have n4_ := Aside0.mk ((P14_13_ : w.heap.size ≤ gb186)); have n5_ := Aside0.mk ((P14_10_ : gb183 ≠ gb186)); have n6_ := Aside0.mk ((P14_11_ : gb186 ≠ gb183)); clear BK183 HB; have BK183 := n0_; have HB := n1_; have BK186 := n2_; have GW186 := n3_; have GE186 := n4_; have NB183_186 := n5_; have NB186_183 := n6_; clear n0_ n1_ n2_ n3_ n4_ n5_ n6_ hb hbox hg; have hnb36 := NB186_183.out; have hnc36 := NB183_186.out; obtain ⟨hcz37_0, hcz37_1⟩ := cz2 BK186.out; have hfz37_0 := blk_frozen BK186.out 0; have hfz37_1 := blk_frozen BK186.out 1))
    have n0_ : Aside0 (((w35.setCell ⟨gb186, 0, none⟩ (.slice A185_0 ((rd_T28 l0 x30_2).f0).length c185_0)).setCell ⟨gb186, 1, none⟩ (.int .i64 ((rd_T28 l0 x30_2).f1))).heap[gb183]? = some (.cells #[.slice none 0 0, .int .i64 x184001_2] 28 (0, 0))) := ⟨P14_5_⟩
    have n1_ : Aside0 (((w35.setCell ⟨gb186, 0, none⟩ (.slice A185_0 ((rd_T28 l0 x30_2).f0).length c185_0)).setCell ⟨gb186, 1, none⟩ (.int .i64 ((rd_T28 l0 x30_2).f1))).heap[gb186]? = some (.cells #[.slice A185_0 ((rd_T28 l0 x30_2).f0).length c185_0, .int .i64 ((rd_T28 l0 x30_2).f1)] 28 (0, 0))) := ⟨P14_3_⟩
    have n2_ : Aside0 (Below w.heap.size w ((w35.setCell ⟨gb186, 0, none⟩ (.slice A185_0 ((rd_T28 l0 x30_2).f0).length c185_0)).setCell ⟨gb186, 1, none⟩ (.int .i64 ((rd_T28 l0 x30_2).f1)))) := ⟨P14_2_⟩
    (try clear BK183)
    (try clear BK186)
    (try clear HB)
    generalize ((w35.setCell ⟨gb186, 0, none⟩ (.slice A185_0 ((rd_T28 l0 x30_2).f0).length c185_0)).setCell ⟨gb186, 1, none⟩ (.int .i64 ((rd_T28 l0 x30_2).f1))) = w38 at n0_ n1_ n2_ ⊢
    have BK183 := n0_
    have BK186 := n1_
    have HB := n2_
    clear n0_ n1_ n2_
    have n0_ := Aside0.mk (blk_drew BK183.out)
    have n1_ := Aside0.mk (blk_drew BK186.out)
    have n2_ := Aside0.mk (below_drew1 HB.out)
    clear BK183
    clear BK186
    clear HB
    have BK183 := n0_
    have BK186 := n1_
    have HB := n2_
    clear n0_ n1_ n2_
    have p187 : 0 ≤ (0 : Int) := (by omega)
    have q187 : 0 < (l0.length : Int) := of_decide_eq_true P14_4_
    obtain ⟨ad187, A187_0, c187_0, e187, hx187_0, hx187_1, hl187_0, hi187_0⟩ := at_T28 HR0.out 0 p187 q187
    have hw187_1 := hx187_1
    (try rw [show ((0 : Int)).toNat = 0 from rfl] at hw187_1)
    (try rw [show 0 * 2 = 0 from rfl] at hw187_1)
    (try rw [Addr.add_zero'] at hw187_1)
    have hw187_0 := hx187_0
    (try rw [show ((0 : Int)).toNat = 0 from rfl] at hw187_0)
    (try rw [show 0 * 2 = 0 from rfl] at hw187_0)
    (try rw [Addr.add_zero'] at hw187_0)
    obtain rfl : ad185 = ad187 := (by injection e187)
    have qi187 : (0 < l0.length) = True := eq_true (by omega)
    (try rw [show ((0 : Int)).toNat = 0 from rfl] at hx187_0)
    (try rw [show 0 * 2 = 0 from rfl] at hx187_0)
    (try rw [Addr.add_zero'] at hx187_0)
    (try rw [show ((0 : Int)).toNat = 0 from rfl] at hx187_1)
    (try rw [show 0 * 2 = 0 from rfl] at hx187_1)
    (try rw [Addr.add_zero'] at hx187_1)
    replace hx187_0 := (HB.out.cell (World.block_lt_of_cell? w _ hx187_0)).trans hx187_0
    replace hx187_1 := (HB.out.cell (World.block_lt_of_cell? w _ hx187_1)).trans hx187_1
    have HR187_0 := Aside0.mk hi187_0
    have HC187_0 := Aside0.mk hl187_0
    clear hi187_0 hl187_0
    replace p187 := eq_true p187
    replace q187 := eq_true q187
    refine start_ (n := 9) (S := fun w' => w'.cell? ⟨gb186, 0, none⟩ = some (.slice A185_0 ((rd_T28 l0 x30_2).f0).length c185_0) ∧ w'.cell? ⟨gb186, 1, none⟩ = some (.int .i64 ((rd_T28 l0 x30_2).f1)) ∧ w'.cell? ad185 = some (.slice A187_0 ((rd_T28 l0 0).f0).length c187_0) ∧ w'.cell? ⟨ad185.block, ad185.off + 1, none⟩ = some (.int .i64 ((rd_T28 l0 0).f1))) (ds := []) #[false, false, false, false, false, false, false, false, false] P14_7_ rfl rfl ⟨(blk_cell BK186.out 0).trans rfl, (blk_cell BK186.out 1).trans rfl, ((HB.out.cell (World.block_lt_of_cell? w _ hw187_0)).trans hw187_0), ((HB.out.cell (World.block_lt_of_cell? w _ hw187_1)).trans hw187_1)⟩ (fun hHeld => ?_); refine with_tabW tag_Blend.tab7 tag_Blend.bits7 (fun HT_ HW_ => ?_)
    generalize w38.drew = w39 at BK183 BK186 HB HR187_0 hx187_0 hx187_1 hHeld ⊢
    refine pure_ (i := 0) (N := some 34) (v := ?_) (a' := ?_) #[true, false, false, false, false, false, false, false, false] rfl rfl (any_of HT_.out P14_7_) (fun _ _ _ h => h) (Or.inl ⟨P14_18_, ?_⟩) ?_ ?_
    rotate_left
    ·intro w'
     go_simp
     with_reducible rfl
    rotate_left
    ·simp only [Act.put, setIfInBounds_toArray, set_cons_zero, set_cons_succ, i64_w, i32_w]
     rfl
    refine pure_ (i := 3) (N := some 37) (v := ?_) (a' := ?_) #[true, false, false, true, false, false, false, false, false] rfl rfl (any_of HT_.out P14_7_) (fun _ _ _ h => h) (Or.inl ⟨P14_18_, ?_⟩) ?_ ?_
    rotate_left
    ·intro w'
     go_simp
     with_reducible rfl
    rotate_left
    ·simp only [Act.put, setIfInBounds_toArray, set_cons_zero, set_cons_succ, i64_w, i32_w]
     rfl
    refine pure_ (i := 4) (N := some 38) (v := ?_) (a' := ?_) #[true, false, false, true, true, false, false, false, false] rfl rfl (any_of HT_.out P14_7_) (fun _ _ _ h => h) (Or.inl ⟨P14_18_, ?_⟩) ?_ ?_
    rotate_left
    ·intro w'
     go_simp
     with_reducible rfl
    rotate_left
    ·simp only [Act.put, setIfInBounds_toArray, set_cons_zero, set_cons_succ, i64_w, i32_w]
     rfl
    refine pure_ (i := 5) (N := some 39) (v := ?_) (a' := ?_) #[true, false, false, true, true, true, false, false, false] rfl rfl (any_of HT_.out P14_7_) (fun _ _ _ h => h) (Or.inl ⟨P14_18_, ?_⟩) ?_ ?_
    rotate_left
    ·intro w'
     go_simp
     with_reducible rfl
    rotate_left
    ·simp only [Act.put, setIfInBounds_toArray, set_cons_zero, set_cons_succ, i64_w, i32_w]
     rfl
    refine take_ (i := 1) (N := some 35) (v := ?_) (a' := ?_) #[true, true, false, true, true, true, false, false, false] rfl rfl (take_ofW HT_.out HW_.out P14_7_) (fun _ _ _ h => h) (Or.inl ⟨P14_18_, ?_⟩) hHeld ?_ ?_
    rotate_left
    ·rintro w' ⟨s0, s1, s2, s3⟩
     go_simp
     with_reducible rfl
    rotate_left
    ·simp only [Act.put, setIfInBounds_toArray, set_cons_zero, set_cons_succ, i64_w, i32_w]
     rfl
    refine pure_ (i := 2) (N := some 36) (v := ?_) (a' := ?_) #[true, true, true, true, true, true, false, false, false] rfl rfl (any_of HT_.out P14_7_) (fun _ _ _ h => h) (Or.inl ⟨P14_18_, ?_⟩) ?_ ?_
    rotate_left
    ·intro w'
     go_simp
     with_reducible rfl
    rotate_left
    ·simp only [Act.put, setIfInBounds_toArray, set_cons_zero, set_cons_succ, i64_w, i32_w]
     rfl
    refine take_ (i := 6) (N := some 40) (v := ?_) (a' := ?_) #[true, true, true, true, true, true, true, false, false] rfl rfl (take_ofW HT_.out HW_.out P14_7_) (fun _ _ _ h => h) (Or.inl ⟨P14_18_, ?_⟩) hHeld ?_ ?_
    rotate_left
    ·rintro w' ⟨s0, s1, s2, s3⟩
     go_simp
     with_reducible rfl
    rotate_left
    ·simp only [Act.put, setIfInBounds_toArray, set_cons_zero, set_cons_succ, i64_w, i32_w]
     rfl
    refine pure_ (i := 7) (N := some 41) (v := ?_) (a' := ?_) #[true, true, true, true, true, true, true, true, false] rfl rfl (any_of HT_.out P14_7_) (fun _ _ _ h => h) (Or.inl ⟨P14_18_, ?_⟩) ?_ ?_
    rotate_left
    ·intro w'
     go_simp
     with_reducible rfl
    rotate_left
    ·simp only [Act.put, setIfInBounds_toArray, set_cons_zero, set_cons_succ, i64_w, i32_w]
     rfl
    refine pure_ (i := 8) (N := some 42) (v := ?_) (a' := ?_) #[true, true, true, true, true, true, true, true, true] rfl rfl (any_of HT_.out P14_7_) (fun _ _ _ h => h) (Or.inl ⟨P14_18_, ?_⟩) ?_ ?_
    rotate_left
    ·intro w'
     go_simp
     with_reducible rfl
    rotate_left
    ·simp only [Act.put, setIfInBounds_toArray, set_cons_zero, set_cons_succ, i64_w, i32_w]
     rfl
    refine done_ (done_of HT_.out P14_7_) ?_
    obtain ⟨hcz40_0, hcz40_1⟩ := cz2 BK183.out
    have hfz40_0 := blk_frozen BK183.out 0
    have hfz40_1 := blk_frozen BK183.out 1
    try go_wp2
    refine bodyPost_ret (results_ct rfl _ _ gb183 28 #[.slice none 0 0, .int .i64 0] (0, 0) _ rfl P14_12_ Try.underlying28 rfl P14_7_) rfl ?_
    exact ⟨_, P14_14_, P14_15_, P14_2_⟩
   rw [if_pos c13] at H
   have c13b0 : ((((rd_T28 l0 x30_2).f0).length : Int) == (((rd_T28 l0 0).f0).length : Int)) = true := beq_iff_eq.mpr c13
   have c13b1 : ((((rd_T28 l0 x30_2).f0).length : Int) != (((rd_T28 l0 0).f0).length : Int)) = false := bne_eq_false_iff_eq.mpr c13
   have c13b2 : (((rd_T28 l0 x30_2).f0).length == ((rd_T28 l0 0).f0).length) = true := by first | simpa using c13 | (simp at c13 ⊢; omega)
   clear c13
   by_cases c14 : x6_2 = true
   ·subst c14
    have H1 : (tag_Blend.l0 k2 l0 l1 true l0 (l0.length : Int) (wrap64 (x30_2 + 1))) = some (r1, r2, r3) := by rw [if_pos rfl] at H; exact H
    clear H
    have H := H1
    clear H1
    have H' := Aside0.mk H
    clear H
    have p185 : 0 ≤ (x30_2 : Int) := of_decide_eq_true P14_4_
    have q185 : x30_2 < (l0.length : Int) := of_decide_eq_true P14_4_
    obtain ⟨ad185, A185_0, c185_0, e185, hx185_0, hx185_1, hl185_0, hi185_0⟩ := at_T28 HR0.out x30_2 p185 q185
    cases e185
    replace hx185_0 := (HB.out.cell (World.block_lt_of_cell? w _ hx185_0)).trans hx185_0
    replace hx185_1 := (HB.out.cell (World.block_lt_of_cell? w _ hx185_1)).trans hx185_1
    have HR185_0 := Aside0.mk hi185_0
    have HC185_0 := Aside0.mk hl185_0
    clear hi185_0 hl185_0
    replace p185 := eq_true p185
    replace q185 := eq_true q185
    try go_wp2_with (first | ((with_reducible refine gate_dst (N := 8) rfl ?_); (try (refine gate_guard P14_18_ ?_; dsimp only)); refine box_event ?hg (N := 8) ?hd (cs := #[.slice none 0 0, .int .i64 0]) (t := 28) ?hr ?_; (case hd => exact P14_18_); (case hg => exact P14_18_); (case hr => exact P14_16_); intro gb186 hg w15 hbox hb; have n0_ := Aside0.mk (bb BK183.out hb); have n1_ := Aside0.mk (below_step P14_1_ hb); have n2_ := Aside0.mk (hbox); have n3_ := Aside0.mk ((P14_13_ : w.heap.size ≤ gb186)); have n4_ := Aside0.mk ((P14_13_ : w.heap.size ≤ gb186)); have n5_ := Aside0.mk ((P14_10_ : gb183 ≠ gb186)); have n6_ := Aside0.mk ((P14_11_ : gb186 ≠ gb183)); clear BK183 HB; have BK183 := n0_; have HB := n1_; have BK186 := n2_; have GW186 := n3_; have GE186 := n4_; have NB183_186 := n5_; have NB186_183 := n6_; clear n0_ n1_ n2_ n3_ n4_ n5_ n6_ hb hbox hg; have hnb16 := NB186_183.out; have hnc16 := NB183_186.out; obtain ⟨hcz17_0, hcz17_1⟩ := cz2 BK186.out; have hfz17_0 := blk_frozen BK186.out 0; have hfz17_1 := blk_frozen BK186.out 1))
    have n0_ : Aside0 (((w15.setCell ⟨gb186, 0, none⟩ (.slice A185_0 ((rd_T28 l0 x30_2).f0).length c185_0)).setCell ⟨gb186, 1, none⟩ (.int .i64 ((rd_T28 l0 x30_2).f1))).heap[gb183]? = some (.cells #[.slice none 0 0, .int .i64 x184001_2] 28 (0, 0))) := ⟨P14_5_⟩
    have n1_ : Aside0 (((w15.setCell ⟨gb186, 0, none⟩ (.slice A185_0 ((rd_T28 l0 x30_2).f0).length c185_0)).setCell ⟨gb186, 1, none⟩ (.int .i64 ((rd_T28 l0 x30_2).f1))).heap[gb186]? = some (.cells #[.slice A185_0 ((rd_T28 l0 x30_2).f0).length c185_0, .int .i64 ((rd_T28 l0 x30_2).f1)] 28 (0, 0))) := ⟨P14_3_⟩
    have n2_ : Aside0 (Below w.heap.size w ((w15.setCell ⟨gb186, 0, none⟩ (.slice A185_0 ((rd_T28 l0 x30_2).f0).length c185_0)).setCell ⟨gb186, 1, none⟩ (.int .i64 ((rd_T28 l0 x30_2).f1)))) := ⟨P14_2_⟩
    (try clear BK183)
    (try clear BK186)
    (try clear HB)
    generalize ((w15.setCell ⟨gb186, 0, none⟩ (.slice A185_0 ((rd_T28 l0 x30_2).f0).length c185_0)).setCell ⟨gb186, 1, none⟩ (.int .i64 ((rd_T28 l0 x30_2).f1))) = w18 at n0_ n1_ n2_ ⊢
    have BK183 := n0_
    have BK186 := n1_
    have HB := n2_
    clear n0_ n1_ n2_
    have n0_ := Aside0.mk (blk_drew BK183.out)
    have n1_ := Aside0.mk (blk_drew BK186.out)
    have n2_ := Aside0.mk (below_drew1 HB.out)
    clear BK183
    clear BK186
    clear HB
    have BK183 := n0_
    have BK186 := n1_
    have HB := n2_
    clear n0_ n1_ n2_
    have p187 : 0 ≤ (0 : Int) := (by omega)
    have q187 : 0 < (l0.length : Int) := of_decide_eq_true P14_4_
    obtain ⟨ad187, A187_0, c187_0, e187, hx187_0, hx187_1, hl187_0, hi187_0⟩ := at_T28 HR0.out 0 p187 q187
    have hw187_1 := hx187_1
    (try rw [show ((0 : Int)).toNat = 0 from rfl] at hw187_1)
    (try rw [show 0 * 2 = 0 from rfl] at hw187_1)
    (try rw [Addr.add_zero'] at hw187_1)
    have hw187_0 := hx187_0
    (try rw [show ((0 : Int)).toNat = 0 from rfl] at hw187_0)
    (try rw [show 0 * 2 = 0 from rfl] at hw187_0)
    (try rw [Addr.add_zero'] at hw187_0)
    obtain rfl : ad185 = ad187 := (by injection e187)
    have qi187 : (0 < l0.length) = True := eq_true (by omega)
    (try rw [show ((0 : Int)).toNat = 0 from rfl] at hx187_0)
    (try rw [show 0 * 2 = 0 from rfl] at hx187_0)
    (try rw [Addr.add_zero'] at hx187_0)
    (try rw [show ((0 : Int)).toNat = 0 from rfl] at hx187_1)
    (try rw [show 0 * 2 = 0 from rfl] at hx187_1)
    (try rw [Addr.add_zero'] at hx187_1)
    replace hx187_0 := (HB.out.cell (World.block_lt_of_cell? w _ hx187_0)).trans hx187_0
    replace hx187_1 := (HB.out.cell (World.block_lt_of_cell? w _ hx187_1)).trans hx187_1
    have HR187_0 := Aside0.mk hi187_0
    have HC187_0 := Aside0.mk hl187_0
    clear hi187_0 hl187_0
    replace p187 := eq_true p187
    replace q187 := eq_true q187
    refine start_ (n := 9) (S := fun w' => w'.cell? ⟨gb186, 0, none⟩ = some (.slice A185_0 ((rd_T28 l0 x30_2).f0).length c185_0) ∧ w'.cell? ⟨gb186, 1, none⟩ = some (.int .i64 ((rd_T28 l0 x30_2).f1)) ∧ w'.cell? ad185 = some (.slice A187_0 ((rd_T28 l0 0).f0).length c187_0) ∧ w'.cell? ⟨ad185.block, ad185.off + 1, none⟩ = some (.int .i64 ((rd_T28 l0 0).f1))) (ds := []) #[false, false, false, false, false, false, false, false, false] P14_7_ rfl rfl ⟨(blk_cell BK186.out 0).trans rfl, (blk_cell BK186.out 1).trans rfl, ((HB.out.cell (World.block_lt_of_cell? w _ hw187_0)).trans hw187_0), ((HB.out.cell (World.block_lt_of_cell? w _ hw187_1)).trans hw187_1)⟩ (fun hHeld => ?_); refine with_tabW tag_Blend.tab7 tag_Blend.bits7 (fun HT_ HW_ => ?_)
    generalize w18.drew = w19 at BK183 BK186 HB HR187_0 hx187_0 hx187_1 hHeld ⊢
    refine pure_ (i := 0) (N := some 34) (v := ?_) (a' := ?_) #[true, false, false, false, false, false, false, false, false] rfl rfl (any_of HT_.out P14_7_) (fun _ _ _ h => h) (Or.inl ⟨P14_18_, ?_⟩) ?_ ?_
    rotate_left
    ·intro w'
     go_simp
     with_reducible rfl
    rotate_left
    ·simp only [Act.put, setIfInBounds_toArray, set_cons_zero, set_cons_succ, i64_w, i32_w]
     rfl
    refine pure_ (i := 3) (N := some 37) (v := ?_) (a' := ?_) #[true, false, false, true, false, false, false, false, false] rfl rfl (any_of HT_.out P14_7_) (fun _ _ _ h => h) (Or.inl ⟨P14_18_, ?_⟩) ?_ ?_
    rotate_left
    ·intro w'
     go_simp
     with_reducible rfl
    rotate_left
    ·simp only [Act.put, setIfInBounds_toArray, set_cons_zero, set_cons_succ, i64_w, i32_w]
     rfl
    refine pure_ (i := 4) (N := some 38) (v := ?_) (a' := ?_) #[true, false, false, true, true, false, false, false, false] rfl rfl (any_of HT_.out P14_7_) (fun _ _ _ h => h) (Or.inl ⟨P14_18_, ?_⟩) ?_ ?_
    rotate_left
    ·intro w'
     go_simp
     with_reducible rfl
    rotate_left
    ·simp only [Act.put, setIfInBounds_toArray, set_cons_zero, set_cons_succ, i64_w, i32_w]
     rfl
    refine pure_ (i := 5) (N := some 39) (v := ?_) (a' := ?_) #[true, false, false, true, true, true, false, false, false] rfl rfl (any_of HT_.out P14_7_) (fun _ _ _ h => h) (Or.inl ⟨P14_18_, ?_⟩) ?_ ?_
    rotate_left
    ·intro w'
     go_simp
     with_reducible rfl
    rotate_left
    ·simp only [Act.put, setIfInBounds_toArray, set_cons_zero, set_cons_succ, i64_w, i32_w]
     rfl
    refine take_ (i := 1) (N := some 35) (v := ?_) (a' := ?_) #[true, true, false, true, true, true, false, false, false] rfl rfl (take_ofW HT_.out HW_.out P14_7_) (fun _ _ _ h => h) (Or.inl ⟨P14_18_, ?_⟩) hHeld ?_ ?_
    rotate_left
    ·rintro w' ⟨s0, s1, s2, s3⟩
     go_simp
     with_reducible rfl
    rotate_left
    ·simp only [Act.put, setIfInBounds_toArray, set_cons_zero, set_cons_succ, i64_w, i32_w]
     rfl
    refine pure_ (i := 2) (N := some 36) (v := ?_) (a' := ?_) #[true, true, true, true, true, true, false, false, false] rfl rfl (any_of HT_.out P14_7_) (fun _ _ _ h => h) (Or.inl ⟨P14_18_, ?_⟩) ?_ ?_
    rotate_left
    ·intro w'
     go_simp
     with_reducible rfl
    rotate_left
    ·simp only [Act.put, setIfInBounds_toArray, set_cons_zero, set_cons_succ, i64_w, i32_w]
     rfl
    refine take_ (i := 6) (N := some 40) (v := ?_) (a' := ?_) #[true, true, true, true, true, true, true, false, false] rfl rfl (take_ofW HT_.out HW_.out P14_7_) (fun _ _ _ h => h) (Or.inl ⟨P14_18_, ?_⟩) hHeld ?_ ?_
    rotate_left
    ·rintro w' ⟨s0, s1, s2, s3⟩
     go_simp
     with_reducible rfl
    rotate_left
    ·simp only [Act.put, setIfInBounds_toArray, set_cons_zero, set_cons_succ, i64_w, i32_w]
     rfl
    refine pure_ (i := 7) (N := some 41) (v := ?_) (a' := ?_) #[true, true, true, true, true, true, true, true, false] rfl rfl (any_of HT_.out P14_7_) (fun _ _ _ h => h) (Or.inl ⟨P14_18_, ?_⟩) ?_ ?_
    rotate_left
    ·intro w'
     go_simp
     with_reducible rfl
    rotate_left
    ·simp only [Act.put, setIfInBounds_toArray, set_cons_zero, set_cons_succ, i64_w, i32_w]
     rfl
    refine pure_ (i := 8) (N := some 42) (v := ?_) (a' := ?_) #[true, true, true, true, true, true, true, true, true] rfl rfl (any_of HT_.out P14_7_) (fun _ _ _ h => h) (Or.inl ⟨P14_18_, ?_⟩) ?_ ?_
    rotate_left
    ·intro w'
     go_simp
     with_reducible rfl
    rotate_left
    ·simp only [Act.put, setIfInBounds_toArray, set_cons_zero, set_cons_succ, i64_w, i32_w]
     rfl
    refine done_ (done_of HT_.out P14_7_) ?_
    try go_wp2
    go_roundg k2
    case measure => have := HJ2.out; have := HK2.out; omega
    case rel => exact ⟨(true), (wrap64 (x30_2 + 1)), (x184001_2), P14_9_, P14_9_, H', ⟨by have := HJ2.out; have := HK2.out; omega⟩, ⟨pB BK183.out⟩, ⟨P14_2_⟩⟩
   replace c14 := Bool.eq_false_iff.mpr c14
   subst c14
   have H1 : ((tag_wild.f ((rd_T28 l0 x30_2).f1)).bind fun t188 => (if t188 = true then (tag_Blend.l0 k2 l0 l1 true l0 (l0.length : Int) (wrap64 (x30_2 + 1))) else ((Ha.tag_ContainsFunc_wild.f ((rd_T28 l0 x30_2).f0)).bind fun t189 => (tag_Blend.l0 k2 l0 l1 t189 l0 (l0.length : Int) (wrap64 (x30_2 + 1)))))) = some (r1, r2, r3) := by rw [if_neg (show ¬ (false = true) by decide)] at H; exact H
   clear H
   have H := H1
   clear H1
   replace H := Option.bind_eq_some_iff.mp H
   obtain ⟨t188, A200, H⟩ := H
   replace H : (if t188 = true then (tag_Blend.l0 k2 l0 l1 true l0 (l0.length : Int) (wrap64 (x30_2 + 1))) else ((Ha.tag_ContainsFunc_wild.f ((rd_T28 l0 x30_2).f0)).bind fun t189 => (tag_Blend.l0 k2 l0 l1 t189 l0 (l0.length : Int) (wrap64 (x30_2 + 1))))) = some (r1, r2, r3) := H
   have A20 := Aside0.mk A200
   clear A200
   by_cases c21 : t188 = true
   ·subst c21
    have H1 : (tag_Blend.l0 k2 l0 l1 true l0 (l0.length : Int) (wrap64 (x30_2 + 1))) = some (r1, r2, r3) := by rw [if_pos rfl] at H; exact H
    clear H
    have H := H1
    clear H1
    have H' := Aside0.mk H
    clear H
    have p185 : 0 ≤ (x30_2 : Int) := of_decide_eq_true P14_4_
    have q185 : x30_2 < (l0.length : Int) := of_decide_eq_true P14_4_
    obtain ⟨ad185, A185_0, c185_0, e185, hx185_0, hx185_1, hl185_0, hi185_0⟩ := at_T28 HR0.out x30_2 p185 q185
    cases e185
    replace hx185_0 := (HB.out.cell (World.block_lt_of_cell? w _ hx185_0)).trans hx185_0
    replace hx185_1 := (HB.out.cell (World.block_lt_of_cell? w _ hx185_1)).trans hx185_1
    have HR185_0 := Aside0.mk hi185_0
    have HC185_0 := Aside0.mk hl185_0
    clear hi185_0 hl185_0
    replace p185 := eq_true p185
    replace q185 := eq_true q185
    try go_wp2_with (first | ((with_reducible refine gate_dst (N := 8) rfl ?_); (try (refine gate_guard P14_18_ ?_; dsimp only)); refine box_event ?hg (N := 8) ?hd (cs := #[.slice none 0 0, .int .i64 0]) (t := 28) ?hr ?_; (case hd => exact P14_18_); (case hg => exact P14_18_); (case hr => exact P14_16_); intro gb186 hg w22 hbox hb; have n0_ := Aside0.mk (bb BK183.out hb); have n1_ := Aside0.mk (below_step P14_1_ hb); have n2_ := Aside0.mk (hbox); have n3_ := Aside0.mk ((P14_13_ : w.heap.size ≤ gb186)); have n4_ := Aside0.mk ((P14_13_ : w.heap.size ≤ gb186)); have n5_ := Aside0.mk ((P14_10_ : gb183 ≠ gb186)); have n6_ := Aside0.mk ((P14_11_ : gb186 ≠ gb183)); clear BK183 HB; have BK183 := n0_; have HB := n1_; have BK186 := n2_; have GW186 := n3_; have GE186 := n4_; have NB183_186 := n5_; have NB186_183 := n6_; clear n0_ n1_ n2_ n3_ n4_ n5_ n6_ hb hbox hg; have hnb23 := NB186_183.out; have hnc23 := NB183_186.out; obtain ⟨hcz24_0, hcz24_1⟩ := cz2 BK186.out; have hfz24_0 := blk_frozen BK186.out 0; have hfz24_1 := blk_frozen BK186.out 1))
    have n0_ : Aside0 (((w22.setCell ⟨gb186, 0, none⟩ (.slice A185_0 ((rd_T28 l0 x30_2).f0).length c185_0)).setCell ⟨gb186, 1, none⟩ (.int .i64 ((rd_T28 l0 x30_2).f1))).heap[gb183]? = some (.cells #[.slice none 0 0, .int .i64 x184001_2] 28 (0, 0))) := ⟨P14_5_⟩
    have n1_ : Aside0 (((w22.setCell ⟨gb186, 0, none⟩ (.slice A185_0 ((rd_T28 l0 x30_2).f0).length c185_0)).setCell ⟨gb186, 1, none⟩ (.int .i64 ((rd_T28 l0 x30_2).f1))).heap[gb186]? = some (.cells #[.slice A185_0 ((rd_T28 l0 x30_2).f0).length c185_0, .int .i64 ((rd_T28 l0 x30_2).f1)] 28 (0, 0))) := ⟨P14_3_⟩
    have n2_ : Aside0 (Below w.heap.size w ((w22.setCell ⟨gb186, 0, none⟩ (.slice A185_0 ((rd_T28 l0 x30_2).f0).length c185_0)).setCell ⟨gb186, 1, none⟩ (.int .i64 ((rd_T28 l0 x30_2).f1)))) := ⟨P14_2_⟩
    (try clear BK183)
    (try clear BK186)
    (try clear HB)
    generalize ((w22.setCell ⟨gb186, 0, none⟩ (.slice A185_0 ((rd_T28 l0 x30_2).f0).length c185_0)).setCell ⟨gb186, 1, none⟩ (.int .i64 ((rd_T28 l0 x30_2).f1))) = w25 at n0_ n1_ n2_ ⊢
    have BK183 := n0_
    have BK186 := n1_
    have HB := n2_
    clear n0_ n1_ n2_
    have n0_ := Aside0.mk (blk_drew BK183.out)
    have n1_ := Aside0.mk (blk_drew BK186.out)
    have n2_ := Aside0.mk (below_drew1 HB.out)
    clear BK183
    clear BK186
    clear HB
    have BK183 := n0_
    have BK186 := n1_
    have HB := n2_
    clear n0_ n1_ n2_
    have p187 : 0 ≤ (0 : Int) := (by omega)
    have q187 : 0 < (l0.length : Int) := of_decide_eq_true P14_4_
    obtain ⟨ad187, A187_0, c187_0, e187, hx187_0, hx187_1, hl187_0, hi187_0⟩ := at_T28 HR0.out 0 p187 q187
    have hw187_1 := hx187_1
    (try rw [show ((0 : Int)).toNat = 0 from rfl] at hw187_1)
    (try rw [show 0 * 2 = 0 from rfl] at hw187_1)
    (try rw [Addr.add_zero'] at hw187_1)
    have hw187_0 := hx187_0
    (try rw [show ((0 : Int)).toNat = 0 from rfl] at hw187_0)
    (try rw [show 0 * 2 = 0 from rfl] at hw187_0)
    (try rw [Addr.add_zero'] at hw187_0)
    obtain rfl : ad185 = ad187 := (by injection e187)
    have qi187 : (0 < l0.length) = True := eq_true (by omega)
    (try rw [show ((0 : Int)).toNat = 0 from rfl] at hx187_0)
    (try rw [show 0 * 2 = 0 from rfl] at hx187_0)
    (try rw [Addr.add_zero'] at hx187_0)
    (try rw [show ((0 : Int)).toNat = 0 from rfl] at hx187_1)
    (try rw [show 0 * 2 = 0 from rfl] at hx187_1)
    (try rw [Addr.add_zero'] at hx187_1)
    replace hx187_0 := (HB.out.cell (World.block_lt_of_cell? w _ hx187_0)).trans hx187_0
    replace hx187_1 := (HB.out.cell (World.block_lt_of_cell? w _ hx187_1)).trans hx187_1
    have HR187_0 := Aside0.mk hi187_0
    have HC187_0 := Aside0.mk hl187_0
    clear hi187_0 hl187_0
    replace p187 := eq_true p187
    replace q187 := eq_true q187
    refine start_ (n := 9) (S := fun w' => w'.cell? ⟨gb186, 0, none⟩ = some (.slice A185_0 ((rd_T28 l0 x30_2).f0).length c185_0) ∧ w'.cell? ⟨gb186, 1, none⟩ = some (.int .i64 ((rd_T28 l0 x30_2).f1)) ∧ w'.cell? ad185 = some (.slice A187_0 ((rd_T28 l0 0).f0).length c187_0) ∧ w'.cell? ⟨ad185.block, ad185.off + 1, none⟩ = some (.int .i64 ((rd_T28 l0 0).f1))) (ds := []) #[false, false, false, false, false, false, false, false, false] P14_7_ rfl rfl ⟨(blk_cell BK186.out 0).trans rfl, (blk_cell BK186.out 1).trans rfl, ((HB.out.cell (World.block_lt_of_cell? w _ hw187_0)).trans hw187_0), ((HB.out.cell (World.block_lt_of_cell? w _ hw187_1)).trans hw187_1)⟩ (fun hHeld => ?_); refine with_tabW tag_Blend.tab7 tag_Blend.bits7 (fun HT_ HW_ => ?_)
    generalize w25.drew = w26 at BK183 BK186 HB HR187_0 hx187_0 hx187_1 hHeld ⊢
    refine pure_ (i := 0) (N := some 34) (v := ?_) (a' := ?_) #[true, false, false, false, false, false, false, false, false] rfl rfl (any_of HT_.out P14_7_) (fun _ _ _ h => h) (Or.inl ⟨P14_18_, ?_⟩) ?_ ?_
    rotate_left
    ·intro w'
     go_simp
     with_reducible rfl
    rotate_left
    ·simp only [Act.put, setIfInBounds_toArray, set_cons_zero, set_cons_succ, i64_w, i32_w]
     rfl
    refine pure_ (i := 3) (N := some 37) (v := ?_) (a' := ?_) #[true, false, false, true, false, false, false, false, false] rfl rfl (any_of HT_.out P14_7_) (fun _ _ _ h => h) (Or.inl ⟨P14_18_, ?_⟩) ?_ ?_
    rotate_left
    ·intro w'
     go_simp
     with_reducible rfl
    rotate_left
    ·simp only [Act.put, setIfInBounds_toArray, set_cons_zero, set_cons_succ, i64_w, i32_w]
     rfl
    refine pure_ (i := 4) (N := some 38) (v := ?_) (a' := ?_) #[true, false, false, true, true, false, false, false, false] rfl rfl (any_of HT_.out P14_7_) (fun _ _ _ h => h) (Or.inl ⟨P14_18_, ?_⟩) ?_ ?_
    rotate_left
    ·intro w'
     go_simp
     with_reducible rfl
    rotate_left
    ·simp only [Act.put, setIfInBounds_toArray, set_cons_zero, set_cons_succ, i64_w, i32_w]
     rfl
    refine pure_ (i := 5) (N := some 39) (v := ?_) (a' := ?_) #[true, false, false, true, true, true, false, false, false] rfl rfl (any_of HT_.out P14_7_) (fun _ _ _ h => h) (Or.inl ⟨P14_18_, ?_⟩) ?_ ?_
    rotate_left
    ·intro w'
     go_simp
     with_reducible rfl
    rotate_left
    ·simp only [Act.put, setIfInBounds_toArray, set_cons_zero, set_cons_succ, i64_w, i32_w]
     rfl
    refine take_ (i := 1) (N := some 35) (v := ?_) (a' := ?_) #[true, true, false, true, true, true, false, false, false] rfl rfl (take_ofW HT_.out HW_.out P14_7_) (fun _ _ _ h => h) (Or.inl ⟨P14_18_, ?_⟩) hHeld ?_ ?_
    rotate_left
    ·rintro w' ⟨s0, s1, s2, s3⟩
     go_simp
     with_reducible rfl
    rotate_left
    ·simp only [Act.put, setIfInBounds_toArray, set_cons_zero, set_cons_succ, i64_w, i32_w]
     rfl
    refine pure_ (i := 2) (N := some 36) (v := ?_) (a' := ?_) #[true, true, true, true, true, true, false, false, false] rfl rfl (any_of HT_.out P14_7_) (fun _ _ _ h => h) (Or.inl ⟨P14_18_, ?_⟩) ?_ ?_
    rotate_left
    ·intro w'
     go_simp
     with_reducible rfl
    rotate_left
    ·simp only [Act.put, setIfInBounds_toArray, set_cons_zero, set_cons_succ, i64_w, i32_w]
     rfl
    refine take_ (i := 6) (N := some 40) (v := ?_) (a' := ?_) #[true, true, true, true, true, true, true, false, false] rfl rfl (take_ofW HT_.out HW_.out P14_7_) (fun _ _ _ h => h) (Or.inl ⟨P14_18_, ?_⟩) hHeld ?_ ?_
    rotate_left
    ·rintro w' ⟨s0, s1, s2, s3⟩
     go_simp
     with_reducible rfl
    rotate_left
    ·simp only [Act.put, setIfInBounds_toArray, set_cons_zero, set_cons_succ, i64_w, i32_w]
     rfl
    refine pure_ (i := 7) (N := some 41) (v := ?_) (a' := ?_) #[true, true, true, true, true, true, true, true, false] rfl rfl (any_of HT_.out P14_7_) (fun _ _ _ h => h) (Or.inl ⟨P14_18_, ?_⟩) ?_ ?_
    rotate_left
    ·intro w'
     go_simp
     with_reducible rfl
    rotate_left
    ·simp only [Act.put, setIfInBounds_toArray, set_cons_zero, set_cons_succ, i64_w, i32_w]
     rfl
    refine pure_ (i := 8) (N := some 42) (v := ?_) (a' := ?_) #[true, true, true, true, true, true, true, true, true] rfl rfl (any_of HT_.out P14_7_) (fun _ _ _ h => h) (Or.inl ⟨P14_18_, ?_⟩) ?_ ?_
    rotate_left
    ·intro w'
     go_simp
     with_reducible rfl
    rotate_left
    ·simp only [Act.put, setIfInBounds_toArray, set_cons_zero, set_cons_succ, i64_w, i32_w]
     rfl
    refine done_ (done_of HT_.out P14_7_) ?_
    obtain ⟨hcz27_0, hcz27_1⟩ := cz2 BK186.out
    have hfz27_0 := blk_frozen BK186.out 0
    have hfz27_1 := blk_frozen BK186.out 1
    try go_wp2_with (first | (go_at_call 21; (with_reducible refine (tag_wild.calls ((rd_T28 l0 x30_2).f1) true _ A20.out).mono ?_); rintro e w' ⟨rfl, ⟨nd, rfl⟩⟩))
    go_roundg k2
    case measure => have := HJ2.out; have := HK2.out; omega
    case rel => exact ⟨(true), (wrap64 (x30_2 + 1)), (x184001_2), P14_9_, P14_9_, H', ⟨by have := HJ2.out; have := HK2.out; omega⟩, ⟨pB BK183.out⟩, ⟨P14_2_⟩⟩
   replace c21 := Bool.eq_false_iff.mpr c21
   subst c21
   have H1 : ((Ha.tag_ContainsFunc_wild.f ((rd_T28 l0 x30_2).f0)).bind fun t189 => (tag_Blend.l0 k2 l0 l1 t189 l0 (l0.length : Int) (wrap64 (x30_2 + 1)))) = some (r1, r2, r3) := by rw [if_neg (show ¬ (false = true) by decide)] at H; exact H
   clear H
   have H := H1
   clear H1
   replace H := Option.bind_eq_some_iff.mp H
   obtain ⟨t189, A280, H⟩ := H
   replace H : (tag_Blend.l0 k2 l0 l1 t189 l0 (l0.length : Int) (wrap64 (x30_2 + 1))) = some (r1, r2, r3) := H
   have A28 := Aside0.mk A280
   clear A280
   have H' := Aside0.mk H
   clear H
   have p185 : 0 ≤ (x30_2 : Int) := of_decide_eq_true P14_4_
   have q185 : x30_2 < (l0.length : Int) := of_decide_eq_true P14_4_
   obtain ⟨ad185, A185_0, c185_0, e185, hx185_0, hx185_1, hl185_0, hi185_0⟩ := at_T28 HR0.out x30_2 p185 q185
   cases e185
   replace hx185_0 := (HB.out.cell (World.block_lt_of_cell? w _ hx185_0)).trans hx185_0
   replace hx185_1 := (HB.out.cell (World.block_lt_of_cell? w _ hx185_1)).trans hx185_1
   have HR185_0 := Aside0.mk hi185_0
   have HC185_0 := Aside0.mk hl185_0
   clear hi185_0 hl185_0
   replace p185 := eq_true p185
   replace q185 := eq_true q185
   try go_wp2_with (first | ((with_reducible refine gate_dst (N := 8) rfl ?_); (try (refine gate_guard P14_18_ ?_; dsimp only)); refine box_event ?hg (N := 8) ?hd (cs := #[.slice none 0 0, .int .i64 0]) (t := 28) ?hr ?_; (case hd => exact P14_18_); (case hg => exact P14_18_); (case hr => exact P14_16_); intro gb186 hg w29 hbox hb; have n0_ := Aside0.mk (bb BK183.out hb); have n1_ := Aside0.mk (below_step P14_1_ hb); have n2_ := Aside0.mk (hbox); have n3_ := Aside0.mk ((P14_13_ : w.heap.size ≤ gb186)); have n4_ := Aside0.mk ((P14_13_ : w.heap.size ≤ gb186)); have n5_ := Aside0.mk ((P14_10_ : gb183 ≠ gb186)); have n6_ := Aside0.mk ((P14_11_ : gb186 ≠ gb183)); clear BK183 HB; have BK183 := n0_; have HB := n1_; have BK186 := n2_; have GW186 := n3_; have GE186 := n4_; have NB183_186 := n5_; have NB186_183 := n6_; clear n0_ n1_ n2_ n3_ n4_ n5_ n6_ hb hbox hg; have hnb30 := NB186_183.out; have hnc30 := NB183_186.out; obtain ⟨hcz31_0, hcz31_1⟩ := cz2 BK186.out; have hfz31_0 := blk_frozen BK186.out 0; have hfz31_1 := blk_frozen BK186.out 1))
   have n0_ : Aside0 (((w29.setCell ⟨gb186, 0, none⟩ (.slice A185_0 ((rd_T28 l0 x30_2).f0).length c185_0)).setCell ⟨gb186, 1, none⟩ (.int .i64 ((rd_T28 l0 x30_2).f1))).heap[gb183]? = some (.cells #[.slice none 0 0, .int .i64 x184001_2] 28 (0, 0))) := ⟨P14_5_⟩
   have n1_ : Aside0 (((w29.setCell ⟨gb186, 0, none⟩ (.slice A185_0 ((rd_T28 l0 x30_2).f0).length c185_0)).setCell ⟨gb186, 1, none⟩ (.int .i64 ((rd_T28 l0 x30_2).f1))).heap[gb186]? = some (.cells #[.slice A185_0 ((rd_T28 l0 x30_2).f0).length c185_0, .int .i64 ((rd_T28 l0 x30_2).f1)] 28 (0, 0))) := ⟨P14_3_⟩
   have n2_ : Aside0 (Below w.heap.size w ((w29.setCell ⟨gb186, 0, none⟩ (.slice A185_0 ((rd_T28 l0 x30_2).f0).length c185_0)).setCell ⟨gb186, 1, none⟩ (.int .i64 ((rd_T28 l0 x30_2).f1)))) := ⟨P14_2_⟩
   (try clear BK183)
   (try clear BK186)
   (try clear HB)
   generalize ((w29.setCell ⟨gb186, 0, none⟩ (.slice A185_0 ((rd_T28 l0 x30_2).f0).length c185_0)).setCell ⟨gb186, 1, none⟩ (.int .i64 ((rd_T28 l0 x30_2).f1))) = w32 at n0_ n1_ n2_ ⊢
   have BK183 := n0_
   have BK186 := n1_
   have HB := n2_
   clear n0_ n1_ n2_
   have n0_ := Aside0.mk (blk_drew BK183.out)
   have n1_ := Aside0.mk (blk_drew BK186.out)
   have n2_ := Aside0.mk (below_drew1 HB.out)
   clear BK183
   clear BK186
   clear HB
   have BK183 := n0_
   have BK186 := n1_
   have HB := n2_
   clear n0_ n1_ n2_
   have p187 : 0 ≤ (0 : Int) := (by omega)
   have q187 : 0 < (l0.length : Int) := of_decide_eq_true P14_4_
   obtain ⟨ad187, A187_0, c187_0, e187, hx187_0, hx187_1, hl187_0, hi187_0⟩ := at_T28 HR0.out 0 p187 q187
   have hw187_1 := hx187_1
   (try rw [show ((0 : Int)).toNat = 0 from rfl] at hw187_1)
   (try rw [show 0 * 2 = 0 from rfl] at hw187_1)
   (try rw [Addr.add_zero'] at hw187_1)
   have hw187_0 := hx187_0
   (try rw [show ((0 : Int)).toNat = 0 from rfl] at hw187_0)
   (try rw [show 0 * 2 = 0 from rfl] at hw187_0)
   (try rw [Addr.add_zero'] at hw187_0)
   obtain rfl : ad185 = ad187 := (by injection e187)
   have qi187 : (0 < l0.length) = True := eq_true (by omega)
   (try rw [show ((0 : Int)).toNat = 0 from rfl] at hx187_0)
   (try rw [show 0 * 2 = 0 from rfl] at hx187_0)
   (try rw [Addr.add_zero'] at hx187_0)
   (try rw [show ((0 : Int)).toNat = 0 from rfl] at hx187_1)
   (try rw [show 0 * 2 = 0 from rfl] at hx187_1)
   (try rw [Addr.add_zero'] at hx187_1)
   replace hx187_0 := (HB.out.cell (World.block_lt_of_cell? w _ hx187_0)).trans hx187_0
   replace hx187_1 := (HB.out.cell (World.block_lt_of_cell? w _ hx187_1)).trans hx187_1
   have HR187_0 := Aside0.mk hi187_0
   have HC187_0 := Aside0.mk hl187_0
   clear hi187_0 hl187_0
   replace p187 := eq_true p187
   replace q187 := eq_true q187
   refine start_ (n := 9) (S := fun w' => w'.cell? ⟨gb186, 0, none⟩ = some (.slice A185_0 ((rd_T28 l0 x30_2).f0).length c185_0) ∧ w'.cell? ⟨gb186, 1, none⟩ = some (.int .i64 ((rd_T28 l0 x30_2).f1)) ∧ w'.cell? ad185 = some (.slice A187_0 ((rd_T28 l0 0).f0).length c187_0) ∧ w'.cell? ⟨ad185.block, ad185.off + 1, none⟩ = some (.int .i64 ((rd_T28 l0 0).f1))) (ds := []) #[false, false, false, false, false, false, false, false, false] P14_7_ rfl rfl ⟨(blk_cell BK186.out 0).trans rfl, (blk_cell BK186.out 1).trans rfl, ((HB.out.cell (World.block_lt_of_cell? w _ hw187_0)).trans hw187_0), ((HB.out.cell (World.block_lt_of_cell? w _ hw187_1)).trans hw187_1)⟩ (fun hHeld => ?_); refine with_tabW tag_Blend.tab7 tag_Blend.bits7 (fun HT_ HW_ => ?_)
   generalize w32.drew = w33 at BK183 BK186 HB HR187_0 hx187_0 hx187_1 hHeld ⊢
   refine pure_ (i := 0) (N := some 34) (v := ?_) (a' := ?_) #[true, false, false, false, false, false, false, false, false] rfl rfl (any_of HT_.out P14_7_) (fun _ _ _ h => h) (Or.inl ⟨P14_18_, ?_⟩) ?_ ?_
   rotate_left
   ·intro w'
    go_simp
    with_reducible rfl
   rotate_left
   ·simp only [Act.put, setIfInBounds_toArray, set_cons_zero, set_cons_succ, i64_w, i32_w]
    rfl
   refine pure_ (i := 3) (N := some 37) (v := ?_) (a' := ?_) #[true, false, false, true, false, false, false, false, false] rfl rfl (any_of HT_.out P14_7_) (fun _ _ _ h => h) (Or.inl ⟨P14_18_, ?_⟩) ?_ ?_
   rotate_left
   ·intro w'
    go_simp
    with_reducible rfl
   rotate_left
   ·simp only [Act.put, setIfInBounds_toArray, set_cons_zero, set_cons_succ, i64_w, i32_w]
    rfl
   refine pure_ (i := 4) (N := some 38) (v := ?_) (a' := ?_) #[true, false, false, true, true, false, false, false, false] rfl rfl (any_of HT_.out P14_7_) (fun _ _ _ h => h) (Or.inl ⟨P14_18_, ?_⟩) ?_ ?_
   rotate_left
   ·intro w'
    go_simp
    with_reducible rfl
   rotate_left
   ·simp only [Act.put, setIfInBounds_toArray, set_cons_zero, set_cons_succ, i64_w, i32_w]
    rfl
   refine pure_ (i := 5) (N := some 39) (v := ?_) (a' := ?_) #[true, false, false, true, true, true, false, false, false] rfl rfl (any_of HT_.out P14_7_) (fun _ _ _ h => h) (Or.inl ⟨P14_18_, ?_⟩) ?_ ?_
   rotate_left
   ·intro w'
    go_simp
    with_reducible rfl
   rotate_left
   ·simp only [Act.put, setIfInBounds_toArray, set_cons_zero, set_cons_succ, i64_w, i32_w]
    rfl
   refine take_ (i := 1) (N := some 35) (v := ?_) (a' := ?_) #[true, true, false, true, true, true, false, false, false] rfl rfl (take_ofW HT_.out HW_.out P14_7_) (fun _ _ _ h => h) (Or.inl ⟨P14_18_, ?_⟩) hHeld ?_ ?_
   rotate_left
   ·rintro w' ⟨s0, s1, s2, s3⟩
    go_simp
    with_reducible rfl
   rotate_left
   ·simp only [Act.put, setIfInBounds_toArray, set_cons_zero, set_cons_succ, i64_w, i32_w]
    rfl
   refine pure_ (i := 2) (N := some 36) (v := ?_) (a' := ?_) #[true, true, true, true, true, true, false, false, false] rfl rfl (any_of HT_.out P14_7_) (fun _ _ _ h => h) (Or.inl ⟨P14_18_, ?_⟩) ?_ ?_
   rotate_left
   ·intro w'
    go_simp
    with_reducible rfl
   rotate_left
   ·simp only [Act.put, setIfInBounds_toArray, set_cons_zero, set_cons_succ, i64_w, i32_w]
    rfl
   refine take_ (i := 6) (N := some 40) (v := ?_) (a' := ?_) #[true, true, true, true, true, true, true, false, false] rfl rfl (take_ofW HT_.out HW_.out P14_7_) (fun _ _ _ h => h) (Or.inl ⟨P14_18_, ?_⟩) hHeld ?_ ?_
   rotate_left
   ·rintro w' ⟨s0, s1, s2, s3⟩
    go_simp
    with_reducible rfl
   rotate_left
   ·simp only [Act.put, setIfInBounds_toArray, set_cons_zero, set_cons_succ, i64_w, i32_w]
    rfl
   refine pure_ (i := 7) (N := some 41) (v := ?_) (a' := ?_) #[true, true, true, true, true, true, true, true, false] rfl rfl (any_of HT_.out P14_7_) (fun _ _ _ h => h) (Or.inl ⟨P14_18_, ?_⟩) ?_ ?_
   rotate_left
   ·intro w'
    go_simp
    with_reducible rfl
   rotate_left
   ·simp only [Act.put, setIfInBounds_toArray, set_cons_zero, set_cons_succ, i64_w, i32_w]
    rfl
   refine pure_ (i := 8) (N := some 42) (v := ?_) (a' := ?_) #[true, true, true, true, true, true, true, true, true] rfl rfl (any_of HT_.out P14_7_) (fun _ _ _ h => h) (Or.inl ⟨P14_18_, ?_⟩) ?_ ?_
   rotate_left
   ·intro w'
    go_simp
    with_reducible rfl
   rotate_left
   ·simp only [Act.put, setIfInBounds_toArray, set_cons_zero, set_cons_succ, i64_w, i32_w]
    rfl
   refine done_ (done_of HT_.out P14_7_) ?_
   obtain ⟨hcz34_0, hcz34_1⟩ := cz2 BK186.out
   have hfz34_0 := blk_frozen BK186.out 0
   have hfz34_1 := blk_frozen BK186.out 1
   try go_wp2_with (first | (go_at_call 21; (with_reducible refine (tag_wild.calls ((rd_T28 l0 x30_2).f1) false _ A20.out).mono ?_); rintro e w' ⟨rfl, ⟨nd, rfl⟩⟩) | (go_at_call 20; (with_reducible refine (Ha.tag_ContainsFunc_wild.calls _ _ ((rd_T28 l0 x30_2).f0) t189 _ ?side1 ?side2 A28.out).mono ?_); (case side1 => repeat (first | exact (Kd.C_below HR185_0.out P14_2_) | (with_reducible refine Kd.C_alloc ?_ _) | (with_reducible refine Kd.C_drewN ?_ _) | (with_reducible refine Kd.C_drew ?_))); (case side2 => exact HC185_0.out); rintro e w' ⟨rfl, ⟨nd, rfl⟩⟩))
   go_roundg k2
   case measure => have := HJ2.out; have := HK2.out; omega
   case rel => exact ⟨(t189), (wrap64 (x30_2 + 1)), (x184001_2), P14_9_, P14_9_, H', ⟨by have := HJ2.out; have := HK2.out; omega⟩, ⟨pB BK183.out⟩, ⟨P14_2_⟩⟩
  rw [if_neg c9] at H
  have c9b0 : decide (x30_2 < (l0.length : Int)) = false := decide_eq_false c9
  clear c9
  by_cases c41 : x6_2 = true
  ·subst c41
   have H1 : (some (([] : List Int), 0, 3)) = some (r1, r2, r3) := by rw [if_pos rfl] at H; exact H
   clear H
   have H := H1
   clear H1
   simp only [Option.some.injEq, Prod.mk.injEq] at H
   obtain ⟨rfl, rfl, rfl⟩ := H
   obtain ⟨hcz42_0, hcz42_1⟩ := cz2 BK183.out
   have hfz42_0 := blk_frozen BK183.out 0
   have hfz42_1 := blk_frozen BK183.out 1
   go_wp2
   refine bodyPost_ret (results_ct rfl _ _ gb183 28 #[.slice none 0 0, .int .i64 0] (0, 0) _ rfl P14_12_ Try.underlying28 rfl P14_7_) rfl ?_
   exact ⟨_, P14_14_, P14_15_, P14_1_⟩
  replace c41 := Bool.eq_false_iff.mpr c41
  subst c41
  have H1 : (if 0 < (l0.length : Int) then (if 0 ≤ (((rd_T28 l0 0).f0).length : Int) then (if ((((rd_T28 l0 0).f0).length : Int) : Int).toNat ≤ 35184372088832 then (tag_Blend.l1 k2 l1 (List.replicate ((((rd_T28 l0 0).f0).length : Int) : Int).toNat 0) 0 l0 (l0.length : Int) 0) else (none)) else (none)) else (none)) = some (r1, r2, r3) := by rw [if_neg (show ¬ (false = true) by decide)] at H; exact H
  clear H
  have H := H1
  clear H1
  by_cases c43 : 0 < (l0.length : Int)
  rotate_left
  ·rw [if_neg c43] at H
   exact absurd H (by simp)
  rw [if_pos c43] at H
  have c43b0 : decide (0 < (l0.length : Int)) = true := decide_eq_true c43
  have c43b1 : decide (0 < l0.length) = true := decide_eq_true (by omega)
  clear c43
  by_cases c44 : 0 ≤ (((rd_T28 l0 0).f0).length : Int)
  rotate_left
  ·rw [if_neg c44] at H
   exact absurd H (by simp)
  rw [if_pos c44] at H
  have c44b0 := eq_true c44
  have c44b1 : decide (0 ≤ (((rd_T28 l0 0).f0).length : Int)) = true := decide_eq_true c44
  clear c44
  by_cases c45 : ((((rd_T28 l0 0).f0).length : Int) : Int).toNat ≤ 35184372088832
  rotate_left
  ·rw [if_neg c45] at H
   exact absurd H (by simp)
  rw [if_pos c45] at H
  have c45b0 := eq_true c45
  have c45b1 : decide (((((rd_T28 l0 0).f0).length : Int) : Int).toNat ≤ 35184372088832) = true := decide_eq_true c45
  clear c45
  obtain ⟨y191, hy191⟩ : ∃ y_ : List Int, y_ = (List.replicate ((((rd_T28 l0 0).f0).length : Int) : Int).toNat 0) := ⟨_, rfl⟩
  replace H : (tag_Blend.l1 k2 l1 y191 0 l0 (l0.length : Int) 0) = some (r1, r2, r3) := by first | (rw [hy191]; with_reducible exact H) | (have H2_ := (Option.bind_some _ _).symm.trans H; rw [hy191]; with_reducible exact H2_) | (have H2_ := (Option.bind_some _ _).symm.trans H; with_reducible exact H2_) | with_reducible exact H | (rw [hy191]; exact H) | exact H
  have Ny191 := Aside0.mk hy191
  clear hy191
  have H' := Aside0.mk H
  clear H
  have p190 : 0 ≤ (0 : Int) := (by omega)
  have q190 : 0 < (l0.length : Int) := of_decide_eq_true P14_4_
  obtain ⟨ad190, A190_0, c190_0, e190, hx190_0, hx190_1, hl190_0, hi190_0⟩ := at_T28 HR0.out 0 p190 q190
  cases e190
  have qi190 : (0 < l0.length) = True := eq_true (by omega)
  (try rw [show ((0 : Int)).toNat = 0 from rfl] at hx190_0)
  (try rw [show 0 * 2 = 0 from rfl] at hx190_0)
  (try rw [Addr.add_zero'] at hx190_0)
  (try rw [show ((0 : Int)).toNat = 0 from rfl] at hx190_1)
  (try rw [show 0 * 2 = 0 from rfl] at hx190_1)
  (try rw [Addr.add_zero'] at hx190_1)
  replace hx190_0 := (HB.out.cell (World.block_lt_of_cell? w _ hx190_0)).trans hx190_0
  replace hx190_1 := (HB.out.cell (World.block_lt_of_cell? w _ hx190_1)).trans hx190_1
  have HR190_0 := Aside0.mk hi190_0
  have HC190_0 := Aside0.mk hl190_0
  clear hi190_0 hl190_0
  replace p190 := eq_true p190
  replace q190 := eq_true q190
  go_wp2_with (first | ((with_reducible refine gate_dst (N := 63) rfl ?_); (try (refine gate_guard P14_18_ ?_; dsimp only)); refine Kd.R_make (Kd.int .i64) _ 68 rfl (N := 63) rfl 67 _ _ rfl (((rd_T28 l0 0).f0).length : Int) rfl rfl Try.underlying67 (.int .i64 0) 8 info68 rfl (by decide) (by omega) 0 (ok := fun _ => True) (okp := fun _ => True) rfl (fun _ hk => hk) trivial (of_decide_eq_true P14_4_) (Nat.le_trans (Nat.mul_le_mul_right _ (of_decide_eq_true P14_4_ : (((rd_T28 l0 0).f0).length : Int).toNat ≤ 35184372088832)) (by omega)) (Below.refl _ _) (Nat.le_refl _) ?_; intro v192 w46 ho47 hb hg_ hnew_; clear hg_ hnew_; (first | rw [← Ny191.out] at ho47 | (simp only [Int.reduceToNat] at ho47; rw [← Ny191.out] at ho47)); have n0_ := Aside0.mk (Kd.R_lower ho47 (below_size P14_1_)); have n1_ := Aside0.mk (bb BK183.out hb); have n2_ := Aside0.mk (below_step P14_1_ hb); clear BK183 HB; have HO193 := n0_; have BK183 := n1_; have HB := n2_; clear n0_ n1_ n2_ hb ho47))
  go_loopg [10, 66] k2 (fun kq v10 v66 w' => ∃ (x9_3 : List Int) (x10_3 : Int) (x66_3 : Int), v10 = .int .i64 x10_3 ∧ v66 = .int .i64 x66_3 ∧ Aside0 (tag_Blend.l1 kq l1 x9_3 x10_3 l0 (l0.length : Int) x66_3 = some (r1, r2, r3)) ∧ Aside0 (kq ≤ k2) ∧ Aside0 (Kd.R (Kd.int .i64) 68 w' w.heap.size (fun _ => True) v192 x9_3) ∧ Aside0 (w'.heap[gb183]? = some (.cells #[(.slice none 0 0), .int .i64 x184001_2] 28 (0, 0))) ∧ Aside0 (Below w.heap.size w w'))
  case atStart => exact ⟨(y191), (0), (0), P14_9_, P14_9_, H', ⟨Nat.le_refl _⟩, ⟨pR HO193.out⟩, ⟨pB BK183.out⟩, ⟨P14_1_⟩⟩
  case round =>
   clear H'
   obtain ⟨x9_3, x10_3, x66_3, rfl, rfl, HA, HK3, HO_9, BK183, HB⟩ := hrel
   rcases gk with _ | k3
   ·exact absurd HA.out (by simp [tag_Blend.l1])
   have H := HA.out
   clear HA
   simp only [tag_Blend.l1] at H
   by_cases c48 : x66_3 < (l0.length : Int)
   rotate_left
   ·rw [if_neg c48] at H
    have c48b0 : decide (x66_3 < (l0.length : Int)) = false := decide_eq_false c48
    clear c48
    replace H := Option.bind_eq_some_iff.mp H
    obtain ⟨⟨t211, t214⟩, A770, H⟩ := H
    replace H : (some (t211, t214, 0)) = some (r1, r2, r3) := H
    have A77 := Aside0.mk A770
    clear A770
    simp only [Option.some.injEq, Prod.mk.injEq] at H
    obtain ⟨rfl, rfl, rfl⟩ := H
    obtain ⟨Ao78, co78, eo78⟩ := Kd.R_slice HO_9.out
    subst eo78
    go_wp2_with (first | ((with_reducible refine gate_callee (f := 26) rfl ?_); refine goesL_ (some 108) rfl rfl Try.func26 P14_7_ rfl #[.slice Ao78 x9_3.length co78, .int .i64 x10_3] rfl P14_8_ ?_; (with_reducible refine (tag_plain.calls k3 _ _ x9_3 x10_3 t211 t214 _ ?side1 ?side2 A77.out).mono ?_); (case side1 => repeat (first | exact (Kd.R_reads' HO_9.out).2.2 | (with_reducible refine Kd.C_alloc ?_ _) | (with_reducible refine Kd.C_drewN ?_ _) | (with_reducible refine Kd.C_drew ?_))); (case side2 => exact (Kd.R_reads' HO_9.out).2.1); rintro e w79 ⟨v212, rfl, ho0, hb⟩; refine ⟨_, rfl, ?_⟩; have n0_ := Aside0.mk (rb HO_9.out hb); have n1_ := Aside0.mk (Kd.R_lower ho0 (below_size P14_1_)); have n2_ := Aside0.mk (bb BK183.out hb); have n3_ := Aside0.mk (below_step P14_1_ hb); clear HO_9 BK183 HB; have HO_9 := n0_; have HO213 := n1_; have BK183 := n2_; have HB := n3_; clear n0_ n1_ n2_ n3_; (try clear hb); (try clear hb2); (try clear hk); (try clear hi); (try clear ho0); obtain ⟨Ao80, co80, eo80⟩ := Kd.R_slice HO213.out; subst eo80; obtain ⟨hcz81_0, hcz81_1⟩ := cz2 BK183.out; have hfz81_0 := blk_frozen BK183.out 0; have hfz81_1 := blk_frozen BK183.out 1))
    refine bodyPost_ret (results_ct rfl _ _ gb183 28 #[.slice Ao80 t211.length co80, .int .i64 t214] (0, 0) _ rfl (by (with_reducible repeat (first | refine blk_drewN ?_ _ | refine blk_drew ?_ | refine blk_alloc ?_ _)); refine blk_put (cs := #[.slice Ao80 t211.length co80, .int .i64 x184001_2]) ?_ 1 _ rfl; (with_reducible repeat (first | refine blk_drewN ?_ _ | refine blk_drew ?_ | refine blk_alloc ?_ _)); refine blk_put (cs := #[.slice none 0 0, .int .i64 x184001_2]) ?_ 0 _ rfl; (with_reducible repeat (first | refine blk_drewN ?_ _ | refine blk_drew ?_ | refine blk_alloc ?_ _)); exact BK183.out) Try.underlying28 rfl P14_7_) rfl ?_
    exact ⟨_, P14_14_, by (with_reducible repeat (first | apply Kd.R_alloc | apply Kd.R_drewN | apply Kd.R_drew)); exact Kd.R_mono (Kd.R_far (p := ⟨gb183, 1, none⟩) (Kd.R_far (p := ⟨gb183, 0, none⟩) (Kd.R_types HO213.out BK183.out (by decide)) (fun _ hk => hk.2) (.slice Ao80 t211.length co80)) (fun _ hk => hk.2) (.int .i64 t214)) (fun _ hk => trivial), P14_1_⟩
   rw [if_pos c48] at H
   have c48b0 : decide (x66_3 < (l0.length : Int)) = true := decide_eq_true c48
   clear c48
   by_cases c49 : 0 ≤ x66_3
   rotate_left
   ·rw [if_neg c49] at H
    exact absurd H (by simp)
   rw [if_pos c49] at H
   have c49b0 : decide (0 ≤ x66_3) = true := decide_eq_true c49
   clear c49
   by_cases c50 : x66_3 < (l0.length : Int)
   rotate_left
   ·rw [if_neg c50] at H
    exact absurd H (by simp)
   rw [if_pos c50] at H
   have c50b0 : decide (x66_3 < (l0.length : Int)) = true := decide_eq_true c50
   clear c50
   have H' := Aside0.mk H
   clear H
   have p194 : 0 ≤ (x66_3 : Int) := of_decide_eq_true P14_4_
   have q194 : x66_3 < (l0.length : Int) := of_decide_eq_true P14_4_
   obtain ⟨ad194, A194_0, c194_0, e194, hx194_0, hx194_1, hl194_0, hi194_0⟩ := at_T28 HR0.out x66_3 p194 q194
   obtain rfl : ad190 = ad194 := (by injection e194)
   replace hx194_0 := (HB.out.cell (World.block_lt_of_cell? w _ hx194_0)).trans hx194_0
   replace hx194_1 := (HB.out.cell (World.block_lt_of_cell? w _ hx194_1)).trans hx194_1
   have HR194_0 := Aside0.mk hi194_0
   have HC194_0 := Aside0.mk hl194_0
   clear hi194_0 hl194_0
   replace p194 := eq_true p194
   replace q194 := eq_true q194
   go_wp2_with (first | ((with_reducible refine gate_dst (N := 12) rfl ?_); (try (refine gate_guard P14_18_ ?_; dsimp only)); refine box_event ?hg (N := 12) ?hd (cs := #[.slice none 0 0, .int .i64 0]) (t := 28) ?hr ?_; (case hd => exact P14_18_); (case hg => exact P14_18_); (case hr => exact P14_16_); intro gb195 hg w51 hbox hb; have n0_ := Aside0.mk (rb HO_9.out hb); have n1_ := Aside0.mk (bb BK183.out hb); have n2_ := Aside0.mk (below_step P14_1_ hb); have n3_ := Aside0.mk (hbox); have n4_ := Aside0.mk ((P14_13_ : w.heap.size ≤ gb195)); have n5_ := Aside0.mk ((P14_13_ : w.heap.size ≤ gb195)); have n6_ := Aside0.mk ((P14_10_ : gb183 ≠ gb195)); have n7_ := Aside0.mk ((P14_11_ : gb195 ≠ gb183)); clear HO_9 BK183 HB; have HO_9 := n0_; have BK183 := n1_; have HB := n2_; have BK195 := n3_; have GW195 := n4_; have GE195 := n5_; have NB183_195 := n6_; have NB195_183 := n7_; clear n0_ n1_ n2_ n3_ n4_ n5_ n6_ n7_ hb hbox hg; have hnb52 := NB195_183.out; have hnc52 := NB183_195.out; obtain ⟨hcz53_0, hcz53_1⟩ := cz2 BK195.out; have hfz53_0 := blk_frozen BK195.out 0; have hfz53_1 := blk_frozen BK195.out 1))
   go_loopg [74] k3 (fun kq v74 w' => ∃ (x9_4 : List Int) (x74_4 : Int), v74 = .int .i64 x74_4 ∧ Aside0 (tag_Blend.l2 kq l1 x9_4 x10_3 x66_3 l0 (l0.length : Int) x66_3 ((rd_T28 l0 x66_3).f0) (((rd_T28 l0 x66_3).f0).length : Int) x74_4 ((rd_T28 l0 x66_3).f0) ((rd_T28 l0 x66_3).f1) = some (r1, r2, r3)) ∧ Aside0 (kq ≤ k3) ∧ Aside0 (Kd.R (Kd.int .i64) 68 w' w.heap.size (fun _ => True) v192 x9_4) ∧ Aside0 (w'.heap[gb183]? = some (.cells #[(.slice none 0 0), .int .i64 x184001_2] 28 (0, 0))) ∧ Aside0 (w'.heap[gb195]? = some (.cells #[(.slice A194_0 ((rd_T28 l0 x66_3).f0).length c194_0), .int .i64 ((rd_T28 l0 x66_3).f1)] 28 (0, 0))) ∧ Aside0 (Below w.heap.size w w'))
   case atStart => exact ⟨(x9_3), (0), P14_9_, H', ⟨Nat.le_refl _⟩, ⟨by (with_reducible repeat (first | apply Kd.R_alloc | apply Kd.R_drewN | apply Kd.R_drew)); exact Kd.R_mono (Kd.R_far (p := ⟨gb195, 1, none⟩) (Kd.R_far (p := ⟨gb195, 0, none⟩) (Kd.R_types HO_9.out BK195.out (by decide)) (fun _ hk => hk.2) (.slice A194_0 ((rd_T28 l0 x66_3).f0).length c194_0)) (fun _ hk => hk.2) (.int .i64 ((rd_T28 l0 x66_3).f1))) (fun _ hk => trivial)⟩, ⟨by (with_reducible repeat (first | refine blk_drewN ?_ _ | refine blk_drew ?_ | refine blk_alloc ?_ _)); refine blk_far ?_ NB183_195.out _; (with_reducible repeat (first | refine blk_drewN ?_ _ | refine blk_drew ?_ | refine blk_alloc ?_ _)); refine blk_far ?_ NB183_195.out _; (with_reducible repeat (first | refine blk_drewN ?_ _ | refine blk_drew ?_ | refine blk_alloc ?_ _)); exact BK183.out⟩, ⟨by (with_reducible repeat (first | refine blk_drewN ?_ _ | refine blk_drew ?_ | refine blk_alloc ?_ _)); refine blk_put (cs := #[.slice A194_0 ((rd_T28 l0 x66_3).f0).length c194_0, .int .i64 0]) ?_ 1 _ rfl; (with_reducible repeat (first | refine blk_drewN ?_ _ | refine blk_drew ?_ | refine blk_alloc ?_ _)); refine blk_put (cs := #[.slice none 0 0, .int .i64 0]) ?_ 0 _ rfl; (with_reducible repeat (first | refine blk_drewN ?_ _ | refine blk_drew ?_ | refine blk_alloc ?_ _)); exact BK195.out⟩, ⟨P14_6_⟩⟩
   case round =>
    clear H'
    obtain ⟨x9_4, x74_4, rfl, HA, HK4, HO_9, BK183, BK195, HB⟩ := hrel
    rcases gk with _ | k4
    ·exact absurd HA.out (by simp [tag_Blend.l2])
    have H := HA.out
    clear HA
    simp only [tag_Blend.l2] at H
    by_cases c54 : x74_4 < (((rd_T28 l0 x66_3).f0).length : Int)
    ·rw [if_pos c54] at H
     have c54b0 : decide (x74_4 < (((rd_T28 l0 x66_3).f0).length : Int)) = true := decide_eq_true c54
     clear c54
     by_cases c55 : 0 ≤ x74_4
     rotate_left
     ·rw [if_neg c55] at H
      exact absurd H (by simp)
     rw [if_pos c55] at H
     have c55b0 : decide (0 ≤ x74_4) = true := decide_eq_true c55
     clear c55
     by_cases c56 : x74_4 < (((rd_T28 l0 x66_3).f0).length : Int)
     rotate_left
     ·rw [if_neg c56] at H
      exact absurd H (by simp)
     rw [if_pos c56] at H
     have c56b0 : decide (x74_4 < (((rd_T28 l0 x66_3).f0).length : Int)) = true := decide_eq_true c56
     clear c56
     by_cases c57 : x74_4 < (x9_4.length : Int)
     rotate_left
     ·rw [if_neg c57] at H
      exact absurd H (by simp)
     rw [if_pos c57] at H
     have c57b0 : decide (x74_4 < (x9_4.length : Int)) = true := decide_eq_true c57
     clear c57
     by_cases c58 : 0 ≤ x66_3
     rotate_left
     ·rw [if_neg c58] at H
      exact absurd H (by simp)
     rw [if_pos c58] at H
     have c58b0 : decide (0 ≤ x66_3) = true := decide_eq_true c58
     clear c58
     by_cases c59 : x66_3 < (l1.length : Int)
     rotate_left
     ·rw [if_neg c59] at H
      exact absurd H (by simp)
     rw [if_pos c59] at H
     have c59b0 : decide (x66_3 < (l1.length : Int)) = true := decide_eq_true c59
     clear c59
     replace H := Option.bind_eq_some_iff.mp H
     obtain ⟨t199, A600, H⟩ := H
     replace H : ((tag_sum.f k4 (([rd x9_4 x74_4, t199] : List Int))).bind fun t203 => (tag_Blend.l2 k4 l1 (x9_4.set (x74_4 : Int).toNat t203) x10_3 x66_3 l0 (l0.length : Int) x66_3 ((rd_T28 l0 x66_3).f0) (((rd_T28 l0 x66_3).f0).length : Int) (wrap64 (x74_4 + 1)) ((rd_T28 l0 x66_3).f0) ((rd_T28 l0 x66_3).f1))) = some (r1, r2, r3) := H
     have A60 := Aside0.mk A600
     clear A600
     obtain ⟨y200, hy200⟩ : ∃ y_ : List Int, y_ = (([rd x9_4 x74_4, t199] : List Int)) := ⟨_, rfl⟩
     replace H : ((tag_sum.f k4 y200).bind fun t203 => (tag_Blend.l2 k4 l1 (x9_4.set (x74_4 : Int).toNat t203) x10_3 x66_3 l0 (l0.length : Int) x66_3 ((rd_T28 l0 x66_3).f0) (((rd_T28 l0 x66_3).f0).length : Int) (wrap64 (x74_4 + 1)) ((rd_T28 l0 x66_3).f0) ((rd_T28 l0 x66_3).f1))) = some (r1, r2, r3) := by first | (rw [hy200]; with_reducible exact H) | (have H2_ := (Option.bind_some _ _).symm.trans H; rw [hy200]; with_reducible exact H2_) | (have H2_ := (Option.bind_some _ _).symm.trans H; with_reducible exact H2_) | with_reducible exact H | (rw [hy200]; exact H) | exact H
     have Ny200 := Aside0.mk hy200
     clear hy200
     replace H := Option.bind_eq_some_iff.mp H
     obtain ⟨t203, A610, H⟩ := H
     replace H : (tag_Blend.l2 k4 l1 (x9_4.set (x74_4 : Int).toNat t203) x10_3 x66_3 l0 (l0.length : Int) x66_3 ((rd_T28 l0 x66_3).f0) (((rd_T28 l0 x66_3).f0).length : Int) (wrap64 (x74_4 + 1)) ((rd_T28 l0 x66_3).f0) ((rd_T28 l0 x66_3).f1)) = some (r1, r2, r3) := H
     have A61 := Aside0.mk A610
     clear A610
     obtain ⟨y204, hy204⟩ : ∃ y_ : List Int, y_ = (x9_4.set (x74_4 : Int).toNat t203) := ⟨_, rfl⟩
     replace H : (tag_Blend.l2 k4 l1 y204 x10_3 x66_3 l0 (l0.length : Int) x66_3 ((rd_T28 l0 x66_3).f0) (((rd_T28 l0 x66_3).f0).length : Int) (wrap64 (x74_4 + 1)) ((rd_T28 l0 x66_3).f0) ((rd_T28 l0 x66_3).f1)) = some (r1, r2, r3) := by first | (rw [hy204]; with_reducible exact H) | (have H2_ := (Option.bind_some _ _).symm.trans H; rw [hy204]; with_reducible exact H2_) | (have H2_ := (Option.bind_some _ _).symm.trans H; with_reducible exact H2_) | with_reducible exact H | (rw [hy204]; exact H) | exact H
     have Ny204 := Aside0.mk hy204
     clear hy204
     have H' := Aside0.mk H
     clear H
     have p196 : 0 ≤ (x74_4 : Int) := of_decide_eq_true P14_4_
     have q196 : x74_4 < (((rd_T28 l0 x66_3).f0).length : Int) := of_decide_eq_true P14_4_
     obtain ⟨ad196, e196, hx196_0⟩ := Kd.at_int HR194_0.out x74_4 p196 q196
     cases e196
     replace hx196_0 := (HB.out.cell (World.block_lt_of_cell? w _ hx196_0)).trans hx196_0
     replace p196 := eq_true p196
     replace q196 := eq_true q196
     try go_wp2
     have n0_ := Aside0.mk (Kd.R_drew HO_9.out)
     have n1_ := Aside0.mk (blk_drew BK183.out)
     have n2_ := Aside0.mk (blk_drew BK195.out)
     have n3_ := Aside0.mk (below_drew1 HB.out)
     clear HO_9
     clear BK183
     clear BK195
     clear HB
     have HO_9 := n0_
     have BK183 := n1_
     have BK195 := n2_
     have HB := n3_
     clear n0_ n1_ n2_ n3_
     obtain ⟨Ao64, co64, eo64⟩ := Kd.R_slice HO_9.out
     (first | subst eo64 | (injection eo64 with f1_ f2_ f3_; have f4_ := f1_.symm; have f5_ := f3_.symm; clear f1_ f2_ f3_; subst f4_; subst f5_))
     have p197 : 0 ≤ (x74_4 : Int) := of_decide_eq_true P14_4_
     have q197 : x74_4 < (x9_4.length : Int) := of_decide_eq_true P14_4_
     obtain ⟨ad197, e197, hx197_0⟩ := Kd.at_int (Kd.R_reads' HO_9.out).2.2 x74_4 p197 q197
     cases e197
     replace p197 := eq_true p197
     replace q197 := eq_true q197
     have p198 : 0 ≤ (x66_3 : Int) := of_decide_eq_true P14_4_
     have q198 : x66_3 < (l1.length : Int) := of_decide_eq_true P14_4_
     obtain ⟨ad198, e198, hx198_0⟩ := Kd.at_int HR1.out x66_3 p198 q198
     have hw198_0 := hx198_0
     cases e198
     replace hx198_0 := (HB.out.cell (World.block_lt_of_cell? w _ hx198_0)).trans hx198_0
     replace p198 := eq_true p198
     replace q198 := eq_true q198
     refine start_ (n := 16) (S := fun w' => w'.cell? (ad197.add (x74_4).toNat) = some (.int .i64 (rd x9_4 x74_4)) ∧ w'.cell? (ad198.add (x66_3).toNat) = some (.int .i64 (rd l1 x66_3))) (ds := [15]) #[false, false, false, false, false, false, false, false, false, false, false, false, false, false, false, false] P14_7_ rfl rfl ⟨hx197_0, ((HB.out.cell (World.block_lt_of_cell? w _ hw198_0)).trans hw198_0)⟩ (fun hHeld => ?_); refine with_tabW tag_Blend.tab21 tag_Blend.bits21 (fun HT_ HW_ => ?_)
     generalize wr.drew = w63 at HO_9 BK183 BK195 HB hx197_0 hx198_0 hHeld ⊢
     refine pure_ (i := 0) (N := some 79) (v := ?_) (a' := ?_) #[true, false, false, false, false, false, false, false, false, false, false, false, false, false, false, false] rfl rfl (any_of HT_.out P14_7_) (fun _ _ _ h => h) (Or.inl ⟨P14_18_, ?_⟩) ?_ ?_
     rotate_left
     ·intro w'
      go_simp
      with_reducible rfl
     rotate_left
     ·simp only [Act.put, setIfInBounds_toArray, set_cons_zero, set_cons_succ, i64_w, i32_w]
      rfl
     refine pure_ (i := 1) (N := some 80) (v := ?_) (a' := ?_) #[true, true, false, false, false, false, false, false, false, false, false, false, false, false, false, false] rfl rfl (any_of HT_.out P14_7_) (fun _ _ _ h => h) (Or.inl ⟨P14_18_, ?_⟩) ?_ ?_
     rotate_left
     ·intro w'
      go_simp
      with_reducible rfl
     rotate_left
     ·simp only [Act.put, setIfInBounds_toArray, set_cons_zero, set_cons_succ, i64_w, i32_w]
      rfl
     refine pure_ (i := 2) (N := some 81) (v := ?_) (a' := ?_) #[true, true, true, false, false, false, false, false, false, false, false, false, false, false, false, false] rfl rfl (any_of HT_.out P14_7_) (fun _ _ _ h => h) (Or.inl ⟨P14_18_, ?_⟩) ?_ ?_
     rotate_left
     ·intro w'
      go_simp
      with_reducible rfl
     rotate_left
     ·simp only [Act.put, setIfInBounds_toArray, set_cons_zero, set_cons_succ, i64_w, i32_w]
      rfl
     refine pure_ (i := 3) (N := some 82) (v := ?_) (a' := ?_) #[true, true, true, true, false, false, false, false, false, false, false, false, false, false, false, false] rfl rfl (any_of HT_.out P14_7_) (fun _ _ _ h => h) (Or.inl ⟨P14_18_, ?_⟩) ?_ ?_
     rotate_left
     ·intro w'
      go_simp
      with_reducible rfl
     rotate_left
     ·simp only [Act.put, setIfInBounds_toArray, set_cons_zero, set_cons_succ, i64_w, i32_w]
      rfl
     refine pure_ (i := 4) (N := some 83) (v := ?_) (a' := ?_) #[true, true, true, true, true, false, false, false, false, false, false, false, false, false, false, false] rfl rfl (any_of HT_.out P14_7_) (fun _ _ _ h => h) (Or.inl ⟨P14_18_, ?_⟩) ?_ ?_
     rotate_left
     ·intro w'
      go_simp
      with_reducible rfl
     rotate_left
     ·simp only [Act.put, setIfInBounds_toArray, set_cons_zero, set_cons_succ, i64_w, i32_w]
      rfl
     refine pure_ (i := 6) (N := some 85) (v := ?_) (a' := ?_) #[true, true, true, true, true, false, true, false, false, false, false, false, false, false, false, false] rfl rfl (any_of HT_.out P14_7_) (fun _ _ _ h => h) (Or.inl ⟨P14_18_, ?_⟩) ?_ ?_
     rotate_left
     ·intro w'
      go_simp
      with_reducible rfl
     rotate_left
     ·simp only [Act.put, setIfInBounds_toArray, set_cons_zero, set_cons_succ, i64_w, i32_w]
      rfl
     refine pure_ (i := 7) (N := some 86) (v := ?_) (a' := ?_) #[true, true, true, true, true, false, true, true, false, false, false, false, false, false, false, false] rfl rfl (any_of HT_.out P14_7_) (fun _ _ _ h => h) (Or.inl ⟨P14_18_, ?_⟩) ?_ ?_
     rotate_left
     ·intro w'
      go_simp
      with_reducible rfl
     rotate_left
     ·simp only [Act.put, setIfInBounds_toArray, set_cons_zero, set_cons_succ, i64_w, i32_w]
      rfl
     refine pure_ (i := 8) (N := some 87) (v := ?_) (a' := ?_) #[true, true, true, true, true, false, true, true, true, false, false, false, false, false, false, false] rfl rfl (any_of HT_.out P14_7_) (fun _ _ _ h => h) (Or.inl ⟨P14_18_, ?_⟩) ?_ ?_
     rotate_left
     ·intro w'
      go_simp
      with_reducible rfl
     rotate_left
     ·simp only [Act.put, setIfInBounds_toArray, set_cons_zero, set_cons_succ, i64_w, i32_w]
      rfl
     refine pure_ (i := 9) (N := some 88) (v := ?_) (a' := ?_) #[true, true, true, true, true, false, true, true, true, true, false, false, false, false, false, false] rfl rfl (any_of HT_.out P14_7_) (fun _ _ _ h => h) (Or.inl ⟨P14_18_, ?_⟩) ?_ ?_
     rotate_left
     ·intro w'
      go_simp
      with_reducible rfl
     rotate_left
     ·simp only [Act.put, setIfInBounds_toArray, set_cons_zero, set_cons_succ, i64_w, i32_w]
      rfl
     refine take_ (i := 5) (N := some 84) (v := ?_) (a' := ?_) #[true, true, true, true, true, true, true, true, true, true, false, false, false, false, false, false] rfl rfl (take_ofW HT_.out HW_.out P14_7_) (fun _ _ _ h => h) (Or.inl ⟨P14_18_, ?_⟩) hHeld ?_ ?_
     rotate_left
     ·rintro w' ⟨s0, s1⟩
      go_simp
      with_reducible rfl
     rotate_left
     ·simp only [Act.put, setIfInBounds_toArray, set_cons_zero, set_cons_succ, i64_w, i32_w]
      rfl
     refine take_ (i := 10) (N := some 89) (v := ?_) (a' := ?_) #[true, true, true, true, true, true, true, true, true, true, true, false, false, false, false, false] rfl rfl (take_ofW HT_.out HW_.out P14_7_) (fun _ _ _ h => h) (Or.inl ⟨P14_18_, ?_⟩) hHeld ?_ ?_
     rotate_left
     ·rintro w' ⟨s0, s1⟩
      go_simp
      with_reducible rfl
     rotate_left
     ·simp only [Act.put, setIfInBounds_toArray, set_cons_zero, set_cons_succ, i64_w, i32_w]
      rfl
     refine one_ (i := 11) (N := some 90) #[true, true, true, true, true, true, true, true, true, true, true, true, false, false, false, false] rfl rfl (one_of HT_.out P14_7_) (by decide) (fun K hK => ?_)
     refine goes_ Try.func25 P14_7_ rfl #[.int .i64 (rd ((rd_T28 l0 x66_3).f0) x74_4), .int .i64 (rd l1 x66_3)] P14_18_ rfl rfl P14_8_ ?_
     with_reducible refine (tag_residue_times.calls (rd ((rd_T28 l0 x66_3).f0) x74_4) (rd l1 x66_3) t199 _ A60.out).mono ?_
     rintro e w' ⟨rfl, ⟨nd, rfl⟩⟩
     refine ⟨_, rfl, ?_⟩
     refine hK.out _ _ ⟨hHeld.1, ((HB.out.cell (World.block_lt_of_cell? w _ hw198_0)).trans hw198_0)⟩ (fun hHeld => ?_)
     clear hK K
     refine norm_ (a' := ?_) ?_ ?_
     rotate_left
     ·show Act.put _ (some 90) _ = _
      simp only [Act.put, setIfInBounds_toArray, set_cons_zero, set_cons_succ, i64_w, i32_w]
      rfl
     refine one_ (i := 12) (N := some 91) #[true, true, true, true, true, true, true, true, true, true, true, true, true, false, false, false] rfl rfl (one_of HT_.out P14_7_) (by decide) (fun K hK => ?_)
     refine Kd.R_lit_step (Kd.int .i64) _ 68 ?hg (N := 91) ?hd (xs := ([rd x9_4 x74_4, t199] : List Int)) (inner := [.int .i64 (rd x9_4 x74_4), .int .i64 t199]) (ok := fun _ => True) (okp := fun _ => True) ?hr ?hp (fun _ hk => hk) trivial (Below.refl _ _) (Nat.le_refl _) (by simp) ?_; (case hd => exact P14_18_); (case hg => exact P14_18_); (case hr => exact P14_16_); (case hp => exact (Reps.one (show Kd.M (Kd.int .i64) _ _ _ (rd x9_4 x74_4) [.int .i64 (rd x9_4 x74_4)] from rfl) (Reps.one (show Kd.M (Kd.int .i64) _ _ _ t199 [.int .i64 t199] from rfl) (Reps.none _ _))))
     intro v201 w65 ho66 hb hg_ hnew_
     have HS0_ := (hb.cell (World.block_lt_of_cell? _ _ (hHeld.1))).trans (hHeld.1)
     clear hg_ hnew_
     (first | rw [← Ny200.out] at ho66 | (simp only [Int.reduceToNat] at ho66; rw [← Ny200.out] at ho66))
     have n0_ := Aside0.mk (Kd.R_elder' (pR HO_9.out) (Kd.R_base ho66) hb)
     have n1_ := Aside0.mk (Kd.R_lower (Kd.R_new' ho66 (Kd.R_lt (pR HO_9.out))) (below_size P14_6_))
     have n2_ := Aside0.mk (bb BK183.out hb)
     have n3_ := Aside0.mk (blk_below (g := gb195) (o := .cells #[.slice (some ad196) ((rd_T28 l0 x66_3).f0).length c194_0, .int .i64 ((rd_T28 l0 x66_3).f1)] 28 (0, 0)) (pB BK195.out) hb)
     have n4_ := Aside0.mk (below_step P14_6_ hb)
     clear HO_9
     clear BK183
     clear BK195
     clear HB
     have HO_9 := n0_
     have HO202 := n1_
     have BK183 := n2_
     have BK195 := n3_
     have HB := n4_
     clear n0_ n1_ n2_ n3_ n4_
     clear hb ho66
     obtain ⟨Ao67, co67, eo67⟩ := Kd.R_slice HO202.out
     (first | subst eo67 | (injection eo67 with f1_ f2_ f3_; have f4_ := f1_.symm; have f5_ := f3_.symm; clear f1_ f2_ f3_; subst f4_; subst f5_))
     refine hK.out _ _ ⟨HS0_, ((HB.out.cell (World.block_lt_of_cell? w _ hw198_0)).trans hw198_0)⟩ (fun hHeld => ?_)
     clear hK K
     refine norm_ (a' := ?_) ?_ ?_
     rotate_left
     ·show Act.put _ (some 91) _ = _
      simp only [Act.put, setIfInBounds_toArray, set_cons_zero, set_cons_succ, i64_w, i32_w]
      rfl
     refine one_ (i := 13) (N := some 92) #[true, true, true, true, true, true, true, true, true, true, true, true, true, true, false, false] rfl rfl (one_of HT_.out P14_7_) (by decide) (fun K hK => ?_)
     refine goes_ Try.func24 P14_7_ rfl #[.slice Ao67 y200.length co67] P14_18_ rfl rfl P14_8_ ?_
     with_reducible refine (tag_sum.calls k4 _ _ y200 t203 _ ?side1 ?side2 A61.out).mono ?_
     (case side1 => repeat (first | exact (Kd.R_reads' HO202.out).2.2 | (with_reducible refine Kd.C_alloc ?_ _) | (with_reducible refine Kd.C_drewN ?_ _) | (with_reducible refine Kd.C_drew ?_)))
     (case side2 => exact (Kd.R_reads' HO202.out).2.1)
     rintro e w' ⟨rfl, ⟨nd, rfl⟩⟩
     refine ⟨_, rfl, ?_⟩
     have p62 : 0 ≤ (x74_4 : Int) := of_decide_eq_true P14_4_
     have q62 : (x74_4 : Int) < ((x9_4.length : Int) : Int) := of_decide_eq_true P14_4_
     obtain ⟨go62, co62, eo62, gb62, gl62, cl62, HG62⟩ := Kd.R_form HO_9.out (by omega)
     (first | cases eo62 | (injection eo62 with ea_ en_ ec_; (first | subst ea_ | (injection ea_ with ea_; subst ea_)); subst ec_; clear en_))
     have GB62 := Aside0.mk gb62
     have GG62 := Aside0.mk HG62
     clear gb62 gl62 HG62
     (first | simp only [add_plain] at hx197_0 | skip)
     obtain ⟨hx62_0, hf62_0⟩ := Kd.R_celln 0 HO_9.out (x74_4 : Int) p62 q62
     replace p62 := eq_true p62
     replace q62 := eq_true q62
     have HP68 := Kd.R_putn HO_9.out (x74_4 : Int) t203
     rw [← Ny204.out] at HP68
     have HQ68 := Aside0.mk HP68
     clear HP68
     refine hK.out _ _ ⟨hHeld.1, ((HB.out.cell (World.block_lt_of_cell? w _ hw198_0)).trans hw198_0)⟩ (fun hHeld => ?_)
     clear hK K
     refine norm_ (a' := ?_) ?_ ?_
     rotate_left
     ·show Act.put _ (some 92) _ = _
      simp only [Act.put, setIfInBounds_toArray, set_cons_zero, set_cons_succ, i64_w, i32_w]
      rfl
     refine pure_ (i := 14) (N := some 93) (v := ?_) (a' := ?_) #[true, true, true, true, true, true, true, true, true, true, true, true, true, true, true, false] rfl rfl (any_of HT_.out P14_7_) (fun _ _ _ h => h) (Or.inl ⟨P14_18_, ?_⟩) ?_ ?_
     rotate_left
     ·intro w'
      go_simp
      with_reducible rfl
     rotate_left
     ·simp only [Act.put, setIfInBounds_toArray, set_cons_zero, set_cons_succ, i64_w, i32_w]
      rfl
     refine last_ (i := 15) (N := none) #[true, true, true, true, true, true, true, true, true, true, true, true, true, true, true, true] rfl rfl (one_of HT_.out P14_7_) (by decide) (fun K hK => ?_)
     refine skip_ (w1 := ?_) P14_18_ rfl ?_ ?_
     rotate_left
     ·go_simp
      rfl
     refine hK.out _ _ ?_
     clear hK K
     refine done_ (done_of HT_.out P14_7_) ?_
     try go_wp2
     go_roundg k4
     case measure => have := HJ2.out; have := HK2.out; have := HK3.out; have := HK4.out; omega
     case rel => exact ⟨(y204), (wrap64 (x74_4 + 1)), P14_9_, H', ⟨by have := HJ2.out; have := HK2.out; have := HK3.out; have := HK4.out; omega⟩, ⟨rm HQ68.out (fun _ hk => trivial)⟩, ⟨by (with_reducible repeat (first | refine blk_drewN ?_ _ | refine blk_drew ?_ | refine blk_alloc ?_ _)); refine blk_far ?_ (by have h_ := Kd.R_ne HO_9.out BK183.out (by decide); intro e_; exact h_ (by rw [e_]; rfl)) _; (with_reducible repeat (first | refine blk_drewN ?_ _ | refine blk_drew ?_ | refine blk_alloc ?_ _)); exact BK183.out⟩, ⟨by (with_reducible repeat (first | refine blk_drewN ?_ _ | refine blk_drew ?_ | refine blk_alloc ?_ _)); refine blk_far ?_ (by have h_ := Kd.R_ne HO_9.out BK195.out (by decide); intro e_; exact h_ (by rw [e_]; rfl)) _; (with_reducible repeat (first | refine blk_drewN ?_ _ | refine blk_drew ?_ | refine blk_alloc ?_ _)); exact BK195.out⟩, ⟨by repeat (first | (with_reducible first | exact HB.out | apply below_alloc | apply pw_below_drewN | apply below_drew1 | refine below_set ?_ GB62.out | refine below_set ?_ GE183.out | refine below_set ?_ GE195.out) | exact HB.out)⟩⟩
    rw [if_neg c54] at H
    have c54b0 : decide (x74_4 < (((rd_T28 l0 x66_3).f0).length : Int)) = false := decide_eq_false c54
    clear c54
    by_cases c69 : 0 ≤ x66_3
    rotate_left
    ·rw [if_neg c69] at H
     exact absurd H (by simp)
    rw [if_pos c69] at H
    have c69b0 : decide (0 ≤ x66_3) = true := decide_eq_true c69
    clear c69
    by_cases c70 : x66_3 < (l1.length : Int)
    rotate_left
    ·rw [if_neg c70] at H
     exact absurd H (by simp)
    rw [if_pos c70] at H
    have c70b0 : decide (x66_3 < (l1.length : Int)) = true := decide_eq_true c70
    clear c70
    replace H := Option.bind_eq_some_iff.mp H
    obtain ⟨t206, A710, H⟩ := H
    replace H : ((tag_sum.f k4 (([x10_3, t206] : List Int))).bind fun t210 => (tag_Blend.l1 k4 l1 x9_4 t210 l0 (l0.length : Int) (wrap64 (x66_3 + 1)))) = some (r1, r2, r3) := H
    have A71 := Aside0.mk A710
    clear A710
    obtain ⟨y207, hy207⟩ : ∃ y_ : List Int, y_ = (([x10_3, t206] : List Int)) := ⟨_, rfl⟩
    replace H : ((tag_sum.f k4 y207).bind fun t210 => (tag_Blend.l1 k4 l1 x9_4 t210 l0 (l0.length : Int) (wrap64 (x66_3 + 1)))) = some (r1, r2, r3) := by first | (rw [hy207]; with_reducible exact H) | (have H2_ := (Option.bind_some _ _).symm.trans H; rw [hy207]; with_reducible exact H2_) | (have H2_ := (Option.bind_some _ _).symm.trans H; with_reducible exact H2_) | with_reducible exact H | (rw [hy207]; exact H) | exact H
    have Ny207 := Aside0.mk hy207
    clear hy207
    replace H := Option.bind_eq_some_iff.mp H
    obtain ⟨t210, A720, H⟩ := H
    replace H : (tag_Blend.l1 k4 l1 x9_4 t210 l0 (l0.length : Int) (wrap64 (x66_3 + 1))) = some (r1, r2, r3) := H
    have A72 := Aside0.mk A720
    clear A720
    have H' := Aside0.mk H
    clear H
    try go_wp2
    have n0_ := Aside0.mk (Kd.R_drew HO_9.out)
    have n1_ := Aside0.mk (blk_drew BK183.out)
    have n2_ := Aside0.mk (blk_drew BK195.out)
    have n3_ := Aside0.mk (below_drew1 HB.out)
    clear HO_9
    clear BK183
    clear BK195
    clear HB
    have HO_9 := n0_
    have BK183 := n1_
    have BK195 := n2_
    have HB := n3_
    clear n0_ n1_ n2_ n3_
    have p205 : 0 ≤ (x66_3 : Int) := of_decide_eq_true P14_4_
    have q205 : x66_3 < (l1.length : Int) := of_decide_eq_true P14_4_
    obtain ⟨ad205, e205, hx205_0⟩ := Kd.at_int HR1.out x66_3 p205 q205
    have hw205_0 := hx205_0
    cases e205
    replace hx205_0 := (HB.out.cell (World.block_lt_of_cell? w _ hx205_0)).trans hx205_0
    replace p205 := eq_true p205
    replace q205 := eq_true q205
    refine start_ (n := 11) (S := fun w' => w'.cell? ⟨gb195, 0, none⟩ = some (.slice A194_0 ((rd_T28 l0 x66_3).f0).length c194_0) ∧ w'.cell? ⟨gb195, 1, none⟩ = some (.int .i64 ((rd_T28 l0 x66_3).f1)) ∧ w'.cell? (ad205.add (x66_3).toNat) = some (.int .i64 (rd l1 x66_3))) (ds := []) #[false, false, false, false, false, false, false, false, false, false, false] P14_7_ rfl rfl ⟨(blk_cell BK195.out 0).trans rfl, (blk_cell BK195.out 1).trans rfl, ((HB.out.cell (World.block_lt_of_cell? w _ hw205_0)).trans hw205_0)⟩ (fun hHeld => ?_); refine with_tabW tag_Blend.tab23 tag_Blend.bits23 (fun HT_ HW_ => ?_)
    generalize wr.drew = w73 at HO_9 BK183 BK195 HB hx205_0 hHeld ⊢
    refine pure_ (i := 0) (N := some 95) (v := ?_) (a' := ?_) #[true, false, false, false, false, false, false, false, false, false, false] rfl rfl (any_of HT_.out P14_7_) (fun _ _ _ h => h) (Or.inl ⟨P14_18_, ?_⟩) ?_ ?_
    rotate_left
    ·intro w'
     go_simp
     with_reducible rfl
    rotate_left
    ·simp only [Act.put, setIfInBounds_toArray, set_cons_zero, set_cons_succ, i64_w, i32_w]
     rfl
    refine pure_ (i := 1) (N := some 96) (v := ?_) (a' := ?_) #[true, true, false, false, false, false, false, false, false, false, false] rfl rfl (any_of HT_.out P14_7_) (fun _ _ _ h => h) (Or.inl ⟨P14_18_, ?_⟩) ?_ ?_
    rotate_left
    ·intro w'
     go_simp
     with_reducible rfl
    rotate_left
    ·simp only [Act.put, setIfInBounds_toArray, set_cons_zero, set_cons_succ, i64_w, i32_w]
     rfl
    refine pure_ (i := 3) (N := some 98) (v := ?_) (a' := ?_) #[true, true, false, true, false, false, false, false, false, false, false] rfl rfl (any_of HT_.out P14_7_) (fun _ _ _ h => h) (Or.inl ⟨P14_18_, ?_⟩) ?_ ?_
    rotate_left
    ·intro w'
     go_simp
     with_reducible rfl
    rotate_left
    ·simp only [Act.put, setIfInBounds_toArray, set_cons_zero, set_cons_succ, i64_w, i32_w]
     rfl
    refine pure_ (i := 4) (N := some 99) (v := ?_) (a' := ?_) #[true, true, false, true, true, false, false, false, false, false, false] rfl rfl (any_of HT_.out P14_7_) (fun _ _ _ h => h) (Or.inl ⟨P14_18_, ?_⟩) ?_ ?_
    rotate_left
    ·intro w'
     go_simp
     with_reducible rfl
    rotate_left
    ·simp only [Act.put, setIfInBounds_toArray, set_cons_zero, set_cons_succ, i64_w, i32_w]
     rfl
    refine pure_ (i := 5) (N := some 100) (v := ?_) (a' := ?_) #[true, true, false, true, true, true, false, false, false, false, false] rfl rfl (any_of HT_.out P14_7_) (fun _ _ _ h => h) (Or.inl ⟨P14_18_, ?_⟩) ?_ ?_
    rotate_left
    ·intro w'
     go_simp
     with_reducible rfl
    rotate_left
    ·simp only [Act.put, setIfInBounds_toArray, set_cons_zero, set_cons_succ, i64_w, i32_w]
     rfl
    refine take_ (i := 2) (N := some 97) (v := ?_) (a' := ?_) #[true, true, true, true, true, true, false, false, false, false, false] rfl rfl (take_ofW HT_.out HW_.out P14_7_) (fun _ _ _ h => h) (Or.inl ⟨P14_18_, ?_⟩) hHeld ?_ ?_
    rotate_left
    ·rintro w' ⟨s0, s1, s2⟩
     go_simp
     with_reducible rfl
    rotate_left
    ·simp only [Act.put, setIfInBounds_toArray, set_cons_zero, set_cons_succ, i64_w, i32_w]
     rfl
    refine take_ (i := 6) (N := some 101) (v := ?_) (a' := ?_) #[true, true, true, true, true, true, true, false, false, false, false] rfl rfl (take_ofW HT_.out HW_.out P14_7_) (fun _ _ _ h => h) (Or.inl ⟨P14_18_, ?_⟩) hHeld ?_ ?_
    rotate_left
    ·rintro w' ⟨s0, s1, s2⟩
     go_simp
     with_reducible rfl
    rotate_left
    ·simp only [Act.put, setIfInBounds_toArray, set_cons_zero, set_cons_succ, i64_w, i32_w]
     rfl
    refine one_ (i := 7) (N := some 102) #[true, true, true, true, true, true, true, true, false, false, false] rfl rfl (one_of HT_.out P14_7_) (by decide) (fun K hK => ?_)
    refine goes_ Try.func25 P14_7_ rfl #[.int .i64 ((rd_T28 l0 x66_3).f1), .int .i64 (rd l1 x66_3)] P14_18_ rfl rfl P14_8_ ?_
    with_reducible refine (tag_residue_times.calls ((rd_T28 l0 x66_3).f1) (rd l1 x66_3) t206 _ A71.out).mono ?_
    rintro e w' ⟨rfl, ⟨nd, rfl⟩⟩
    refine ⟨_, rfl, ?_⟩
    refine hK.out _ _ ⟨(blk_cell BK195.out 0).trans rfl, (blk_cell BK195.out 1).trans rfl, ((HB.out.cell (World.block_lt_of_cell? w _ hw205_0)).trans hw205_0)⟩ (fun hHeld => ?_)
    clear hK K
    refine norm_ (a' := ?_) ?_ ?_
    rotate_left
    ·show Act.put _ (some 102) _ = _
     simp only [Act.put, setIfInBounds_toArray, set_cons_zero, set_cons_succ, i64_w, i32_w]
     rfl
    refine one_ (i := 8) (N := some 103) #[true, true, true, true, true, true, true, true, true, false, false] rfl rfl (one_of HT_.out P14_7_) (by decide) (fun K hK => ?_)
    refine Kd.R_lit_step (Kd.int .i64) _ 68 ?hg (N := 103) ?hd (xs := ([x10_3, t206] : List Int)) (inner := [.int .i64 x10_3, .int .i64 t206]) (ok := fun _ => True) (okp := fun _ => True) ?hr ?hp (fun _ hk => hk) trivial (Below.refl _ _) (Nat.le_refl _) (by simp) ?_; (case hd => exact P14_18_); (case hg => exact P14_18_); (case hr => exact P14_16_); (case hp => exact (Reps.one (show Kd.M (Kd.int .i64) _ _ _ x10_3 [.int .i64 x10_3] from rfl) (Reps.one (show Kd.M (Kd.int .i64) _ _ _ t206 [.int .i64 t206] from rfl) (Reps.none _ _))))
    intro v208 w74 ho75 hb hg_ hnew_
    clear hg_ hnew_
    (first | rw [← Ny207.out] at ho75 | (simp only [Int.reduceToNat] at ho75; rw [← Ny207.out] at ho75))
    have n0_ := Aside0.mk (Kd.R_elder' (pR HO_9.out) (Kd.R_base ho75) hb)
    have n1_ := Aside0.mk (Kd.R_lower (Kd.R_new' ho75 (Kd.R_lt (pR HO_9.out))) (below_size P14_6_))
    have n2_ := Aside0.mk (bb BK183.out hb)
    have n3_ := Aside0.mk (blk_below (g := gb195) (o := .cells #[.slice A194_0 ((rd_T28 l0 x66_3).f0).length c194_0, .int .i64 ((rd_T28 l0 x66_3).f1)] 28 (0, 0)) (pB BK195.out) hb)
    have n4_ := Aside0.mk (below_step P14_6_ hb)
    clear HO_9
    clear BK183
    clear BK195
    clear HB
    have HO_9 := n0_
    have HO209 := n1_
    have BK183 := n2_
    have BK195 := n3_
    have HB := n4_
    clear n0_ n1_ n2_ n3_ n4_
    clear hb ho75
    obtain ⟨Ao76, co76, eo76⟩ := Kd.R_slice HO209.out
    (first | subst eo76 | (injection eo76 with f1_ f2_ f3_; have f4_ := f1_.symm; have f5_ := f3_.symm; clear f1_ f2_ f3_; subst f4_; subst f5_))
    refine hK.out _ _ ⟨(blk_cell BK195.out 0).trans rfl, (blk_cell BK195.out 1).trans rfl, ((HB.out.cell (World.block_lt_of_cell? w _ hw205_0)).trans hw205_0)⟩ (fun hHeld => ?_)
    clear hK K
    refine norm_ (a' := ?_) ?_ ?_
    rotate_left
    ·show Act.put _ (some 103) _ = _
     simp only [Act.put, setIfInBounds_toArray, set_cons_zero, set_cons_succ, i64_w, i32_w]
     rfl
    refine one_ (i := 9) (N := some 104) #[true, true, true, true, true, true, true, true, true, true, false] rfl rfl (one_of HT_.out P14_7_) (by decide) (fun K hK => ?_)
    refine goes_ Try.func24 P14_7_ rfl #[.slice Ao76 y207.length co76] P14_18_ rfl rfl P14_8_ ?_
    with_reducible refine (tag_sum.calls k4 _ _ y207 t210 _ ?side1 ?side2 A72.out).mono ?_
    (case side1 => repeat (first | exact (Kd.R_reads' HO209.out).2.2 | (with_reducible refine Kd.C_alloc ?_ _) | (with_reducible refine Kd.C_drewN ?_ _) | (with_reducible refine Kd.C_drew ?_)))
    (case side2 => exact (Kd.R_reads' HO209.out).2.1)
    rintro e w' ⟨rfl, ⟨nd, rfl⟩⟩
    refine ⟨_, rfl, ?_⟩
    refine hK.out _ _ ⟨(blk_cell BK195.out 0).trans rfl, (blk_cell BK195.out 1).trans rfl, ((HB.out.cell (World.block_lt_of_cell? w _ hw205_0)).trans hw205_0)⟩ (fun hHeld => ?_)
    clear hK K
    refine norm_ (a' := ?_) ?_ ?_
    rotate_left
    ·show Act.put _ (some 104) _ = _
     simp only [Act.put, setIfInBounds_toArray, set_cons_zero, set_cons_succ, i64_w, i32_w]
     rfl
    refine pure_ (i := 10) (N := some 10) (v := ?_) (a' := ?_) #[true, true, true, true, true, true, true, true, true, true, true] rfl rfl (any_of HT_.out P14_7_) (fun _ _ _ h => h) (Or.inl ⟨P14_18_, ?_⟩) ?_ ?_
    rotate_left
    ·intro w'
     go_simp
     with_reducible rfl
    rotate_left
    ·simp only [Act.put, setIfInBounds_toArray, set_cons_zero, set_cons_succ, i64_w, i32_w]
     rfl
    refine done_ (done_of HT_.out P14_7_) ?_
    try go_wp2
    go_roundg k4
    case measure => have := HJ2.out; have := HK2.out; have := HK3.out; have := HK4.out; omega
    case rel => exact ⟨(x9_4), (t210), (wrap64 (x66_3 + 1)), P14_9_, P14_9_, H', ⟨by have := HJ2.out; have := HK2.out; have := HK3.out; have := HK4.out; omega⟩, ⟨rm HO_9.out (fun _ hk => trivial)⟩, ⟨pB BK183.out⟩, ⟨P14_6_⟩⟩

end Go.Proofs.Ytekkjikmcnndoaa.P
