/- The functions that the statements about package tag reach, as plain Lean functions, and that the Go functions answer as these do; for every input within the sizes that the functions state. -/
import Derived.Test.YtekkjikmcnndoaaP0
import Derived.Test.YtekkjikmcnndoaaP4
import Derived.Test.YtekkjikmcnndoaaP5
import Derived.Test.YtekkjikmcnndoaaP6
import Derived.Test.YtekkjikmcnndoaaP7
import Derived.Test.YtekkjikmcnndoaaSq
namespace Go.Proofs.Ytekkjikmcnndoaa.P
open Go.RowKit Go.Proofs.YtekkjikmcnndoaaW.PrintWords Go.Proofs.YtekkjikmcnndoaaW.PrintLast Go.Proofs.YtekkjikmcnndoaaW.PrintMore Go.Proofs.YtekkjikmcnndoaaSq
open List (setIfInBounds_toArray set_cons_zero set_cons_succ)
attribute [local go_sem] max2_int min2_int max_two min_two max_three min_three max_four min_four   -- for this text's walks alone
set_option linter.unusedVariables false
set_option linter.unusedSimpArgs false

/-! ### tag_Answer: function 10 -/
mutual
def tag_Answer.j0 : Nat → Int → List ByteArray → List Int → List (S60) → Bool → Option (List Int × Int × Int)
 | 0, _, _, _, _, _ => none
 | k + 1, x0, x1, x2, x3, x31 => if x31 = true then (some (([] : List Int), 0, 2)) else (if (x2.length : Int) = (x1.length : Int) then (tag_Answer.l0 k x0 x1 x2 x3 ([] : List (List Int)) x1 (x1.length : Int) 0) else (some (([] : List Int), 0, 1)))
def tag_Answer.l0 : Nat → Int → List ByteArray → List Int → List (S60) → List (List Int) → List ByteArray → Int → Int → Option (List Int × Int × Int)
 | 0, _, _, _, _, _, _, _, _ => none
 | k + 1, x0, x1, x2, x3, x10, x39, x40, x41 => if x41 < x40 then (if 0 ≤ x41 then (if x41 < (x39.length : Int) then ((Ha.tag_Symbols.f (rdOf ByteArray.empty x39 x41)).bind fun t113 => (if (t113.length : Int) > x0 then (some (([] : List Int), 0, 2)) else (if x10.length < 5864062014805 then (tag_Answer.l0 k x0 x1 x2 x3 (x10 ++ [t113]) x39 x40 (wrap64 (x41 + 1))) else (none)))) else (none)) else (none)) else ((Ha.tag_ContainsFunc_wild.f x2).bind fun t119 => (if t119 = true then (some (([] : List Int), 0, 3)) else ((tag_challenge.f k x3 (x1.length : Int)).bind fun t120 => (if t120 = 0 then (if 0 ≤ x0 then (if (x0 : Int).toNat ≤ 35184372088832 then (tag_Answer.l1 k x2 x10 (List.replicate (x0 : Int).toNat 0) 0 x3 (x3.length : Int) 0) else (none)) else (none)) else (some (([] : List Int), 0, t120))))))
def tag_Answer.l1 : Nat → List Int → List (List Int) → List Int → Int → List (S60) → Int → Int → Option (List Int × Int × Int)
 | 0, _, _, _, _, _, _, _ => none
 | k + 1, x2, x10, x15, x16, x70, x71, x72 => if x72 < x71 then (if 0 ≤ x72 then (if x72 < (x70.length : Int) then (if 0 ≤ ((rd_T60 x70 x72).f0) then (if ((rd_T60 x70 x72).f0) < (x10.length : Int) then (tag_Answer.l2 k x2 x10 x15 x16 x70 x71 x72 (rd_L2 x10 ((rd_T60 x70 x72).f0)) ((rd_L2 x10 ((rd_T60 x70 x72).f0)).length : Int) 0 ((rd_T60 x70 x72).f0) ((rd_T60 x70 x72).f1)) else (none)) else (none)) else (none)) else (none)) else ((tag_plain.f k x15 x16).bind fun bt141 => (some (bt141.1, bt141.2, 0)))
def tag_Answer.l2 : Nat → List Int → List (List Int) → List Int → Int → List (S60) → Int → Int → List Int → Int → Int → Int → Int → Option (List Int × Int × Int)
 | 0, _, _, _, _, _, _, _, _, _, _, _, _ => none
 | k + 1, x2, x10, x15, x16, x70, x71, x72, x80, x81, x82, x126000, x126001 => if x82 < x81 then (if 0 ≤ x82 then (if x82 < (x80.length : Int) then (if x82 < (x15.length : Int) then ((tag_residue_times.f (rd x80 x82) x126001).bind fun t129 => ((tag_sum.f k (([rd x15 x82, t129] : List Int))).bind fun t133 => (tag_Answer.l2 k x2 x10 (x15.set (x82 : Int).toNat t133) x16 x70 x71 x72 x80 x81 (wrap64 (x82 + 1)) x126000 x126001))) else (none)) else (none)) else (none)) else (if 0 ≤ x126000 then (if x126000 < (x2.length : Int) then ((tag_residue_times.f (rd x2 x126000) x126001).bind fun t136 => ((tag_sum.f k (([x16, t136] : List Int))).bind fun t140 => (tag_Answer.l1 k x2 x10 x15 t140 x70 x71 (wrap64 (x72 + 1))))) else (none)) else (none))
end
def tag_Answer.f (k : Nat) (a0 : Int) (l1 : List ByteArray) (l2 : List Int) (l3 : List (S60)) : Option (List Int × Int × Int) := if a0 < 1 then (tag_Answer.j0 k a0 l1 l2 l3 true) else (if a0 > 64 then (tag_Answer.j0 k a0 l1 l2 l3 true) else (tag_Answer.j0 k a0 l1 l2 l3 (decide ((l1.length : Int) > 200))))
theorem tag_Answer.mono_l : ∀ k, (∀ y0 y1 y2 y3 y4, LeO (tag_Answer.j0 k y0 y1 y2 y3 y4) (tag_Answer.j0 (k + 1) y0 y1 y2 y3 y4)) ∧ (∀ y0 y1 y2 y3 y4 y5 y6 y7, LeO (tag_Answer.l0 k y0 y1 y2 y3 y4 y5 y6 y7) (tag_Answer.l0 (k + 1) y0 y1 y2 y3 y4 y5 y6 y7)) ∧ (∀ y0 y1 y2 y3 y4 y5 y6, LeO (tag_Answer.l1 k y0 y1 y2 y3 y4 y5 y6) (tag_Answer.l1 (k + 1) y0 y1 y2 y3 y4 y5 y6)) ∧ (∀ y0 y1 y2 y3 y4 y5 y6 y7 y8 y9 y10 y11, LeO (tag_Answer.l2 k y0 y1 y2 y3 y4 y5 y6 y7 y8 y9 y10 y11) (tag_Answer.l2 (k + 1) y0 y1 y2 y3 y4 y5 y6 y7 y8 y9 y10 y11))
 | 0 => ⟨fun _ _ _ _ _ r h => by simp [tag_Answer.j0] at h, fun _ _ _ _ _ _ _ _ r h => by simp [tag_Answer.l0] at h, fun _ _ _ _ _ _ _ r h => by simp [tag_Answer.l1] at h, fun _ _ _ _ _ _ _ _ _ _ _ _ r h => by simp [tag_Answer.l2] at h⟩
 | k + 1 => by
  obtain ⟨ih0, ih1, ih2, ih3⟩ := tag_Answer.mono_l k
  refine ⟨?_, ?_, ?_, ?_⟩
  all_goals
   intros
   first | unfold tag_Answer.j0 | unfold tag_Answer.l0 | unfold tag_Answer.l1 | unfold tag_Answer.l2
   repeat' first
   | (with_reducible exact ih0 ..)
   | (with_reducible exact ih1 ..)
   | (with_reducible exact ih2 ..)
   | (with_reducible exact ih3 ..)
   | (with_reducible exact tag_challenge.mono ..)
   | (with_reducible exact tag_plain.mono ..)
   | (with_reducible exact tag_sum.mono ..)
   | (with_reducible exact LeO.refl ..)
   | (with_reducible exact LeO.none ..)
   | (with_reducible refine LeO.ite ?_ ?_)
   | (with_reducible refine LeO.bind ?_ (fun _ => ?_))
   | exact ih0 ..
   | exact ih1 ..
   | exact ih2 ..
   | exact ih3 ..
   | exact tag_challenge.mono ..
   | exact tag_plain.mono ..
   | exact tag_sum.mono ..
   | exact LeO.none ..
   | refine LeO.ite ?_ ?_
   | refine LeO.bind ?_ (fun _ => ?_)
theorem tag_Answer.mono : ∀ a0 a1 a2 a3 k, LeO (tag_Answer.f k a0 a1 a2 a3) (tag_Answer.f (k + 1) a0 a1 a2 a3) := by
 intro a0 a1 a2 a3 k
 obtain ⟨ih0, ih1, ih2, ih3⟩ := tag_Answer.mono_l k
 unfold tag_Answer.f
 repeat' first
   | (with_reducible exact ih0 _ _ _ _ _)
   | (with_reducible exact ih1 _ _ _ _ _ _ _ _)
   | (with_reducible exact ih2 _ _ _ _ _ _ _)
   | (with_reducible exact ih3 _ _ _ _ _ _ _ _ _ _ _ _)
   | (with_reducible exact tag_challenge.mono _ _ _)
   | (with_reducible exact tag_plain.mono _ _ _)
   | (with_reducible exact tag_sum.mono _ _)
   | (with_reducible exact LeO.refl _)
   | (with_reducible exact LeO.none _)
   | (with_reducible refine LeO.ite ?_ ?_)
   | (with_reducible refine LeO.bind ?_ (fun _ => ?_))
   | exact ih0 _ _ _ _ _
   | exact ih1 _ _ _ _ _ _ _ _
   | exact ih2 _ _ _ _ _ _ _
   | exact ih3 _ _ _ _ _ _ _ _ _ _ _ _
   | exact tag_challenge.mono _ _ _
   | exact tag_plain.mono _ _ _
   | exact tag_sum.mono _ _
   | exact LeO.none _
   | refine LeO.ite ?_ ?_
   | refine LeO.bind ?_ (fun _ => ?_)
def tag_Answer.T27 : Bool × List (List Nat × List Nat) := (true, [([], []), ([], []), ([], []), ([], []), ([2, 3], [2, 3]), ([4], [4]), ([], []), ([], []), ([7], [7]), ([6, 8], [6, 8]), ([5, 9], [5, 9]), ([10, 9], [10]), ([0, 1, 0, 1, 2, 3, 4, 5, 6, 7, 8, 9, 10, 11], [0, 1]), ([12, 11, 11, 0, 1, 2, 3, 4, 5, 6, 7, 8, 9, 10, 11], [11, 12])])
def tag_Answer.B27 : List Nat := [0, 0, 0, 0, 12, 28, 0, 0, 128, 448, 1020, 2044, 4095, 8191]
theorem tag_Answer.tab27 : rtab .any (opsOf Try.f10 27) = tag_Answer.T27 := by kernel_rfl
theorem tag_Answer.bits27 : waitsOk tag_Answer.T27.2 tag_Answer.B27 = true := by kernel_rfl
def tag_Answer.T29 : Bool × List (List Nat × List Nat) := (true, [([], []), ([], []), ([], []), ([2], [2]), ([1, 3], [1, 3]), ([4], [4]), ([], []), ([6], [6]), ([5, 7], [5, 7]), ([0, 8], [0, 8]), ([9, 8], [9]), ([10, 10, 0, 1, 2, 3, 4, 5, 6, 7, 8, 9, 10], [0, 10])])
def tag_Answer.B29 : List Nat := [0, 0, 0, 4, 14, 30, 0, 64, 254, 511, 1023, 2047]
theorem tag_Answer.tab29 : rtab .any (opsOf Try.f10 29) = tag_Answer.T29 := by kernel_rfl
theorem tag_Answer.bits29 : waitsOk tag_Answer.T29.2 tag_Answer.B29 = true := by kernel_rfl
theorem P8_1_ {P : Prop} (h : P := by repeat (first | (with_reducible first | exact HB.out | apply below_alloc | apply pw_below_drewN | apply below_drew1 | refine below_set ?_ GE111.out) | exact HB.out)) : P := h
theorem P8_2_ {P : Prop} (h : P := by (try simp only [List.map_toArray, List.map_cons, List.map_nil]); first | done | rfl | (simp only [List.length_drop, List.length_take]; rfl)) : P := h
theorem P8_3_ {P : Prop} (h : P := by (with_reducible repeat (first | apply Kd.S_alloc | apply Kd.S_drewN | apply Kd.S_drew)); exact HO_10.out) : P := h
theorem P8_4_ {P : Prop} (h : P := by repeat (first | (with_reducible first | exact HB.out | apply below_alloc | apply pw_below_drewN | apply below_drew1 | refine below_set ?_ GE111.out | refine below_set ?_ GE125.out) | exact HB.out)) : P := h
theorem P8_5_ {P : Prop} (h : P := by (with_reducible repeat (first | refine blk_drewN ?_ _ | refine blk_drew ?_ | refine blk_alloc ?_ _)); refine blk_put (cs := #[.slice none 0 0, .int .i64 x112001_2]) ?_ 1 _ rfl; (with_reducible repeat (first | refine blk_drewN ?_ _ | refine blk_drew ?_ | refine blk_alloc ?_ _)); refine blk_put (cs := #[.slice none 0 0, .int .i64 x112001_2]) ?_ 0 _ rfl; (with_reducible repeat (first | refine blk_drewN ?_ _ | refine blk_drew ?_ | refine blk_alloc ?_ _)); exact BK111.out) : P := h
theorem P8_6_ {P : Prop} (h : P := by first | (with_reducible assumption) | assumption) : P := h
theorem P8_7_ {P : Prop} (h : P := by first | exact Kd.R_nil _ _ _ _ _ | exact Kd.N_nil _ _ _ _ _ | exact Kd.V_nil _ _ _ _ _ | exact Kd.Q_nil _ _ _ _ _ | exact Kd.S_nil _ _ _ _ _) : P := h
theorem P8_8_ {P : Prop} (h : P := by kernel_rfl) : P := h
theorem P8_9_ {P : Prop} (h : P := by first | rfl | (simp [errW_none, errW_some] <;> rfl) | (simp [*, errW_none, errW_some] <;> rfl)) : P := h
theorem P8_10_ {P : Prop} (h : P := by (with_reducible repeat (first | refine blk_drewN ?_ _ | refine blk_drew ?_ | refine blk_alloc ?_ _)); refine blk_put (cs := #[.slice none 0 0, .int .i64 0]) ?_ 1 _ rfl; (with_reducible repeat (first | refine blk_drewN ?_ _ | refine blk_drew ?_ | refine blk_alloc ?_ _)); refine blk_put (cs := #[.slice none 0 0, .int .i64 0]) ?_ 0 _ rfl; (with_reducible repeat (first | refine blk_drewN ?_ _ | refine blk_drew ?_ | refine blk_alloc ?_ _)); exact BK111.out) : P := h
theorem P8_11_ {P : Prop} (h : P := by first | rfl | (simp; done) | (simp [*]; done)) : P := h
theorem P8_12_ {P : Prop} (h : P := by repeat (first | (with_reducible exact HR126_0.out) | (with_reducible refine Kd.C_alloc ?_ _) | (with_reducible refine Kd.C_drewN ?_ _) | (with_reducible refine Kd.C_drew ?_) | exact HR126_0.out)) : P := h
theorem P8_13_ {P : Prop} (h : P := by repeat (first | exact (Kd.C_below HR2.out HB.out) | (with_reducible refine Kd.C_alloc ?_ _) | (with_reducible refine Kd.C_drewN ?_ _) | (with_reducible refine Kd.C_drew ?_))) : P := h
theorem P8_14_ {P : Prop} (h : P := by repeat (first | (with_reducible first | exact HB.out | apply below_alloc | apply pw_below_drewN | apply below_drew1) | exact HB.out)) : P := h
set_option maxHeartbeats 8000000 in
set_option maxRecDepth 100000 in
theorem tag_Answer.calls (k : Nat) (a0 : Int) (A1 : Option Addr) (c1 : Nat) (l1 : List ByteArray) (A2 : Option Addr) (c2 : Nat) (l2 : List Int) (A3 : Option Addr) (c3 : Nat) (l3 : List (S60)) (r1 : List Int) (r2 : Int) (r3 : Int) (w : World) (hr1 : Kd.C Kd.string w A1 l1.length l1) (hc1 : l1.length ≤ c1) (hr2 : Kd.C (Kd.int .i64) w A2 l2.length l2) (hc2 : l2.length ≤ c2) (hr3 : Kd.C k60 w A3 l3.length l3) (hc3 : l3.length ≤ c3) (h : tag_Answer.f k a0 l1 l2 l3 = some (r1, r2, r3)) :
  Calls Try.prog 10 #[.int .i64 a0, .slice A1 l1.length c1, .slice A2 l2.length c2, .slice A3 l3.length c3] w fun e w' => ∃ v0_ : Value, e = .returned (.tuple #[.agg #[v0_, .int .i64 r2], .int .i64 r3]) ∧ Kd.R (Kd.int .i64) 3 w' w.heap.size (fun _ => True) v0_ r1 ∧ Below w.heap.size w w' := by
 have hu28 := Try.underlying28
 have hu60 := Try.underlying60
 have HR1 := Aside0.mk hr1
 have HC1 := Aside0.mk hc1
 clear hr1 hc1
 have HR2 := Aside0.mk hr2
 have HC2 := Aside0.mk hc2
 clear hr2 hc2
 have HR3 := Aside0.mk hr3
 have HC3 := Aside0.mk hc3
 clear hr3 hc3
 have HB := Aside0.mk (Below.refl w.heap.size w)
 have H : (if a0 < 1 then (tag_Answer.j0 k a0 l1 l2 l3 true) else (if a0 > 64 then (tag_Answer.j0 k a0 l1 l2 l3 true) else (tag_Answer.j0 k a0 l1 l2 l3 (decide ((l1.length : Int) > 200))))) = some (r1, r2, r3) := h
 clear h
 have HC5 := Aside0.mk H
 clear H
 go_enter Try.func10, Try.ntmps10
 go_upto_region 1 with (first | ((with_reducible refine gate_dst (N := 8) rfl ?_); (try (refine gate_guard (by rfl) ?_; dsimp only)); refine box_event ?hg (N := 8) ?hd (cs := #[.slice none 0 0, .int .i64 0]) (t := 28) ?hr ?_; (case hd => rfl); (case hg => rfl); (case hr => first | (go_simp; done) | (go_simp; rfl)); intro gb111 hg w6 hbox hb; have n0_ := Aside0.mk (below_step P8_14_ hb); have n1_ := Aside0.mk (hbox); have n2_ := Aside0.mk ((by rw [hg]; exact (below_size P8_14_) : w.heap.size ≤ gb111)); have n3_ := Aside0.mk ((by rw [hg]; exact (below_size P8_14_) : w.heap.size ≤ gb111)); clear HB; have HB := n0_; have BK111 := n1_; have GW111 := n2_; have GE111 := n3_; clear n0_ n1_ n2_ n3_ hb hbox hg))
 (try simp only [Act.put, setIfInBounds_toArray, set_cons_zero, set_cons_succ])
 go_cut [31] (fun v31 wc => ∃ (kq : Nat) (x31_4 : Bool), v31 = .bool x31_4 ∧ Aside0 (tag_Answer.j0 kq a0 l1 l2 l3 x31_4 = some (r1, r2, r3)) ∧ Aside0 (kq ≤ k) ∧ Aside0 (wc.heap[gb111]? = some (.cells #[(.slice none 0 0), .int .i64 0] 28 (0, 0))) ∧ Aside0 (Below w.heap.size w wc))
 case first =>
  have H := HC5.out
  clear HC5
  by_cases c7 : a0 < 1
  ·rw [if_pos c7] at H
   have c7b0 : decide (a0 < 1) = true := decide_eq_true c7
   clear c7
   (first | rw [c7b0] | (simp only [i64_w, i32_w]; rw [c7b0]) | skip)
   have H' := Aside0.mk H
   clear H
   go_wp2
   go_meet
   case rel => exact ⟨_, (true), P8_11_, H', ⟨by first | omega | exact Nat.le_refl _⟩, ⟨pB BK111.out⟩, ⟨P8_1_⟩⟩
  rw [if_neg c7] at H
  have c7b0 : decide (a0 < 1) = false := decide_eq_false c7
  clear c7
  (first | rw [c7b0] | (simp only [i64_w, i32_w]; rw [c7b0]) | skip)
  by_cases c8 : a0 > 64
  ·rw [if_pos c8] at H
   have c8b0 : decide (64 < a0) = true := decide_eq_true c8
   clear c8
   have H' := Aside0.mk H
   clear H
   go_wp2
   go_meet
   case rel => exact ⟨_, (true), P8_11_, H', ⟨by first | omega | exact Nat.le_refl _⟩, ⟨pB BK111.out⟩, ⟨P8_1_⟩⟩
  rw [if_neg c8] at H
  have c8b0 : decide (64 < a0) = false := decide_eq_false c8
  clear c8
  have H' := Aside0.mk H
  clear H
  go_wp2
  go_meet
  case rel => exact ⟨_, (decide ((l1.length : Int) > 200)), P8_11_, H', ⟨by first | omega | exact Nat.le_refl _⟩, ⟨pB BK111.out⟩, ⟨P8_1_⟩⟩
 clear HC5
 obtain ⟨kq, x31_4, rfl, HA, HJ4, BK111, HB⟩ := hcut
 rcases kq with _ | kj4
 ·exact absurd HA.out (by simp [tag_Answer.j0])
 have H := HA.out
 clear HA
 simp only [tag_Answer.j0] at H
 by_cases c9 : x31_4 = true
 ·subst c9
  have H1 : (some (([] : List Int), 0, 2)) = some (r1, r2, r3) := by rw [if_pos rfl] at H; exact H
  clear H
  have H := H1
  clear H1
  simp only [Option.some.injEq, Prod.mk.injEq] at H
  obtain ⟨rfl, rfl, rfl⟩ := H
  obtain ⟨hcz10_0, hcz10_1⟩ := cz2 BK111.out
  have hfz10_0 := blk_frozen BK111.out 0
  have hfz10_1 := blk_frozen BK111.out 1
  go_wp2
  refine bodyPost_ret (results_ct rfl _ _ gb111 28 #[.slice none 0 0, .int .i64 0] (0, 0) _ rfl P8_10_ Try.underlying28 rfl P8_8_) rfl ?_
  exact ⟨_, P8_9_, P8_7_, P8_1_⟩
 replace c9 := Bool.eq_false_iff.mpr c9
 subst c9
 have H1 : (if (l2.length : Int) = (l1.length : Int) then (tag_Answer.l0 kj4 a0 l1 l2 l3 ([] : List (List Int)) l1 (l1.length : Int) 0) else (some (([] : List Int), 0, 1))) = some (r1, r2, r3) := by rw [if_neg (show ¬ (false = true) by decide)] at H; exact H
 clear H
 have H := H1
 clear H1
 by_cases c11 : (l2.length : Int) = (l1.length : Int)
 rotate_left
 ·rw [if_neg c11] at H
  have c11b0 : ((l2.length : Int) == (l1.length : Int)) = false := beq_eq_false_iff_ne.mpr c11
  have c11b1 : ((l2.length : Int) != (l1.length : Int)) = true := bne_iff_ne.mpr c11
  have c11b2 : (l2.length == l1.length) = false := by first | simpa using c11 | (simp at c11 ⊢; omega)
  simp only [Option.some.injEq, Prod.mk.injEq] at H
  obtain ⟨rfl, rfl, rfl⟩ := H
  obtain ⟨hcz73_0, hcz73_1⟩ := cz2 BK111.out
  have hfz73_0 := blk_frozen BK111.out 0
  have hfz73_1 := blk_frozen BK111.out 1
  go_wp2
  refine bodyPost_ret (results_ct rfl _ _ gb111 28 #[.slice none 0 0, .int .i64 0] (0, 0) _ rfl P8_10_ Try.underlying28 rfl P8_8_) rfl ?_
  exact ⟨_, P8_9_, P8_7_, P8_1_⟩
 rw [if_pos c11] at H
 have c11b0 : ((l2.length : Int) == (l1.length : Int)) = true := beq_iff_eq.mpr c11
 have c11b1 : ((l2.length : Int) != (l1.length : Int)) = false := bne_eq_false_iff_eq.mpr c11
 have c11b2 : (l2.length == l1.length) = true := by first | simpa using c11 | (simp at c11 ⊢; omega)
 clear c11
 have H' := Aside0.mk H
 clear H
 go_wp2
 go_loopg [10, 41] kj4 (fun kq v10 v41 w' => ∃ (x10_2 : List (List Int)) (x41_2 : Int) (x112001_2 : Int), v41 = .int .i64 x41_2 ∧ Aside0 (tag_Answer.l0 kq a0 l1 l2 l3 x10_2 l1 (l1.length : Int) x41_2 = some (r1, r2, r3)) ∧ Aside0 (kq ≤ kj4) ∧ Aside0 (Kd.S (Kd.slice 3 (Kd.int .i64)) 22 w' w.heap.size (fun _ => True) v10 x10_2) ∧ Aside0 (w'.heap[gb111]? = some (.cells #[(.slice none 0 0), .int .i64 x112001_2] 28 (0, 0))) ∧ Aside0 (Below w.heap.size w w'))
 case atStart => exact ⟨(([] : List (List Int))), (0), (0), P8_11_, H', ⟨Nat.le_refl _⟩, ⟨by first | exact Kd.S_nil _ _ _ _ _ | exact Kd.N_nil _ _ _ _ _ | exact Kd.V_nil _ _ _ _ _ | exact Kd.Q_nil _ _ _ _ _ | exact Kd.R_nil _ _ _ _ _⟩, ⟨pB BK111.out⟩, ⟨P8_1_⟩⟩
 case round =>
  clear H'
  obtain ⟨x10_2, x41_2, x112001_2, rfl, HA, HK2, HO_10, BK111, HB⟩ := hrel
  rcases gk with _ | k2
  ·exact absurd HA.out (by simp [tag_Answer.l0])
  have H := HA.out
  clear HA
  simp only [tag_Answer.l0] at H
  by_cases c12 : x41_2 < (l1.length : Int)
  ·rw [if_pos c12] at H
   have c12b0 : decide (x41_2 < (l1.length : Int)) = true := decide_eq_true c12
   clear c12
   by_cases c13 : 0 ≤ x41_2
   rotate_left
   ·rw [if_neg c13] at H
    exact absurd H (by simp)
   rw [if_pos c13] at H
   have c13b0 : decide (0 ≤ x41_2) = true := decide_eq_true c13
   clear c13
   by_cases c14 : x41_2 < (l1.length : Int)
   rotate_left
   ·rw [if_neg c14] at H
    exact absurd H (by simp)
   rw [if_pos c14] at H
   have c14b0 : decide (x41_2 < (l1.length : Int)) = true := decide_eq_true c14
   clear c14
   replace H := Option.bind_eq_some_iff.mp H
   obtain ⟨t113, A150, H⟩ := H
   replace H : (if (t113.length : Int) > a0 then (some (([] : List Int), 0, 2)) else (if x10_2.length < 5864062014805 then (tag_Answer.l0 k2 a0 l1 l2 l3 (x10_2 ++ [t113]) l1 (l1.length : Int) (wrap64 (x41_2 + 1))) else (none))) = some (r1, r2, r3) := H
   have A15 := Aside0.mk A150
   clear A150
   by_cases c16 : (t113.length : Int) > a0
   ·rw [if_pos c16] at H
    have c16b0 : decide (a0 < (t113.length : Int)) = true := decide_eq_true c16
    clear c16
    simp only [Option.some.injEq, Prod.mk.injEq] at H
    obtain ⟨rfl, rfl, rfl⟩ := H
    have p112 : 0 ≤ (x41_2 : Int) := of_decide_eq_true P8_6_
    have q112 : x41_2 < (l1.length : Int) := of_decide_eq_true P8_6_
    obtain ⟨ad112, e112, hx112_0⟩ := Kd.at_string HR1.out x41_2 p112 q112
    cases e112
    (try replace hx112_0 := (HB.out.cell (World.block_lt_of_cell? w _ hx112_0)).trans hx112_0)
    replace p112 := eq_true p112
    replace q112 := eq_true q112
    go_wp2_with (first | ((with_reducible refine gate_callee (f := 22) rfl ?_); refine goesL_ (some 46) rfl rfl Try.func22 P8_8_ rfl #[.string (rdOf ByteArray.empty l1 x41_2)] rfl P8_2_ ?_; (with_reducible refine (Ha.tag_Symbols.calls (rdOf ByteArray.empty l1 x41_2) t113 _ A15.out).mono ?_); rintro e w17 ⟨v114, rfl, ho0, hb⟩; refine ⟨_, rfl, ?_⟩; have n0_ := Aside0.mk (Kd.S_elder' P8_3_ (Kd.R_base ho0) hb); have n1_ := Aside0.mk (Kd.R_lower ho0 (below_size P8_1_)); have n2_ := Aside0.mk (bb BK111.out hb); have n3_ := Aside0.mk (below_step P8_1_ hb); clear HO_10 BK111 HB; have HO_10 := n0_; have HO115 := n1_; have BK111 := n2_; have HB := n3_; clear n0_ n1_ n2_ n3_; (try clear hb); (try clear hb2); (try clear hk); (try clear hi); (try clear ho0); obtain ⟨Ao18, co18, eo18⟩ := Kd.R_slice HO115.out; subst eo18; obtain ⟨hcz19_0, hcz19_1⟩ := cz2 BK111.out; have hfz19_0 := blk_frozen BK111.out 0; have hfz19_1 := blk_frozen BK111.out 1))
    refine bodyPost_ret (results_ct rfl _ _ gb111 28 #[.slice none 0 0, .int .i64 0] (0, 0) _ rfl P8_5_ Try.underlying28 rfl P8_8_) rfl ?_
    exact ⟨_, P8_9_, P8_7_, P8_1_⟩
   rw [if_neg c16] at H
   have c16b0 : decide (a0 < (t113.length : Int)) = false := decide_eq_false c16
   clear c16
   by_cases c20 : x10_2.length < 5864062014805
   rotate_left
   ·rw [if_neg c20] at H
    exact absurd H (by simp)
   rw [if_pos c20] at H
   have LMc20 := Aside0.mk c20
   clear c20
   obtain ⟨y116, hy116⟩ : ∃ y_ : List (List Int), y_ = (x10_2 ++ [t113]) := ⟨_, rfl⟩
   replace H : (tag_Answer.l0 k2 a0 l1 l2 l3 y116 l1 (l1.length : Int) (wrap64 (x41_2 + 1))) = some (r1, r2, r3) := by first | (rw [hy116]; with_reducible exact H) | (have H2_ := (Option.bind_some _ _).symm.trans H; rw [hy116]; with_reducible exact H2_) | (have H2_ := (Option.bind_some _ _).symm.trans H; with_reducible exact H2_) | with_reducible exact H | (rw [hy116]; exact H) | exact H
   have Ny116 := Aside0.mk hy116
   clear hy116
   have H' := Aside0.mk H
   clear H
   have p112 : 0 ≤ (x41_2 : Int) := of_decide_eq_true P8_6_
   have q112 : x41_2 < (l1.length : Int) := of_decide_eq_true P8_6_
   obtain ⟨ad112, e112, hx112_0⟩ := Kd.at_string HR1.out x41_2 p112 q112
   cases e112
   (try replace hx112_0 := (HB.out.cell (World.block_lt_of_cell? w _ hx112_0)).trans hx112_0)
   replace p112 := eq_true p112
   replace q112 := eq_true q112
   go_wp2_with (first | ((with_reducible refine gate_callee (f := 22) rfl ?_); refine goesL_ (some 46) rfl rfl Try.func22 P8_8_ rfl #[.string (rdOf ByteArray.empty l1 x41_2)] rfl P8_2_ ?_; (with_reducible refine (Ha.tag_Symbols.calls (rdOf ByteArray.empty l1 x41_2) t113 _ A15.out).mono ?_); rintro e w21 ⟨v114, rfl, ho0, hb⟩; refine ⟨_, rfl, ?_⟩; have n0_ := Aside0.mk (Kd.S_elder' P8_3_ (Kd.R_base ho0) hb); have n1_ := Aside0.mk (Kd.R_lower ho0 (below_size P8_1_)); have n2_ := Aside0.mk (bb BK111.out hb); have n3_ := Aside0.mk (below_step P8_1_ hb); clear HO_10 BK111 HB; have HO_10 := n0_; have HO115 := n1_; have BK111 := n2_; have HB := n3_; clear n0_ n1_ n2_ n3_; (try clear hb); (try clear hb2); (try clear hk); (try clear hi); (try clear ho0); obtain ⟨Ao22, co22, eo22⟩ := Kd.R_slice HO115.out; subst eo22) | ((with_reducible refine gate_builtin (b := .append) (xs := #[.tmp 52, .tmp 54]) rfl ?_); (try (refine gate_guard (by rfl) ?_; dsimp only)); at_builtin; refine Kd.S_append (Kd.slice 3 (Kd.int .i64)) (w0 := w) w.heap.size rfl (.tmp 52) (.tmp 54) 65 22 (.slice none 0 0) 24 rfl Try.underlying65 info22 rfl (by decide) (by omega) u10 x10_2 t113 [.slice Ao22 t113.length co22] (fun _ => True) (fun k_ => some k_ = (.slice Ao22 t113.length co22 : Value).ownBlock) rfl rfl ?aP (fun k_ hk_ => ((Kd.R_mono (ok' := fun k_ => ((fun _ => True)) k_ ∧ some k_ ≠ (u10 : Value).ownBlock) (Kd.R_apart' (HO115.out) (Kd.S_typed HO_10.out) (by decide)) (fun k_ hk => ⟨trivial, hk.2⟩))).1 k_ hk_.symm) ?aF ?aO ?aB ?aS ?aL ?_; (case aP => exact Kd.M_row (Kd.R_mono (Kd.R_tight rfl (Kd.R_mono (ok' := fun k_ => ((fun _ => True)) k_ ∧ some k_ ≠ (u10 : Value).ownBlock) (Kd.R_apart' (HO115.out) (Kd.S_typed HO_10.out) (by decide)) (fun k_ hk => ⟨trivial, hk.2⟩))) (fun _ h_ => h_))); (case aB => exact P8_1_); (case aF => exact (fun _ _ => trivial)); (case aO => exact (by (with_reducible repeat (first | apply Kd.S_alloc | apply Kd.S_drewN | apply Kd.S_drew)); exact Kd.S_mono HO_10.out (fun k_ hk => ⟨trivial, fun e_ => hk.2 e_⟩))); (case aS => exact (below_size P8_1_)); (case aL => have := LMc20.out; omega); intro v117 w23 ho hb hg hat; rw [← Ny116.out] at ho; have n0_ := Aside0.mk (blk_grown (g := gb111) (o := .cells #[.slice none 0 0, .int .i64 x112001_2] 28 (0, 0)) (pB BK111.out) hg (Kd.S_ne HO_10.out BK111.out (by decide))); have n1_ := Aside0.mk (hb); have n2_ := Aside0.mk (ho); clear BK111 HB HO_10 HO115; have BK111 := n0_; have HB := n1_; have HO118 := n2_; clear n0_ n1_ n2_ ho hb hg hat))
   go_roundg k2
   case measure => have := HJ4.out; have := HK2.out; omega
   case rel => exact ⟨(y116), (wrap64 (x41_2 + 1)), (x112001_2), P8_11_, H', ⟨by have := HJ4.out; have := HK2.out; omega⟩, ⟨by (with_reducible repeat (first | apply Kd.S_alloc | apply Kd.S_drewN | apply Kd.S_drew)); exact HO118.out⟩, ⟨pB BK111.out⟩, ⟨P8_1_⟩⟩
  rw [if_neg c12] at H
  have c12b0 : decide (x41_2 < (l1.length : Int)) = false := decide_eq_false c12
  clear c12
  replace H := Option.bind_eq_some_iff.mp H
  obtain ⟨t119, A240, H⟩ := H
  replace H : (if t119 = true then (some (([] : List Int), 0, 3)) else ((tag_challenge.f k2 l3 (l1.length : Int)).bind fun t120 => (if t120 = 0 then (if 0 ≤ a0 then (if (a0 : Int).toNat ≤ 35184372088832 then (tag_Answer.l1 k2 l2 x10_2 (List.replicate (a0 : Int).toNat 0) 0 l3 (l3.length : Int) 0) else (none)) else (none)) else (some (([] : List Int), 0, t120))))) = some (r1, r2, r3) := H
  have A24 := Aside0.mk A240
  clear A240
  by_cases c25 : t119 = true
  ·subst c25
   have H1 : (some (([] : List Int), 0, 3)) = some (r1, r2, r3) := by rw [if_pos rfl] at H; exact H
   clear H
   have H := H1
   clear H1
   simp only [Option.some.injEq, Prod.mk.injEq] at H
   obtain ⟨rfl, rfl, rfl⟩ := H
   go_wp2_with (first | ((with_reducible refine gate_callee (f := 20) rfl ?_); refine goesL_ (some 58) rfl rfl Try.func20 P8_8_ rfl #[.slice A2 l2.length c2, .func (.func 21) #[] #[]] rfl P8_2_ ?_; (with_reducible refine (Ha.tag_ContainsFunc_wild.calls _ _ l2 true _ ?side1 ?side2 A24.out).mono ?_); (case side1 => exact P8_13_); (case side2 => exact HC2.out); rintro e w' ⟨rfl, ⟨nd, rfl⟩⟩; refine ⟨_, rfl, ?_⟩; (try (rw [drewN_self wr]; generalize hq_ : World.drewN wr _ = wr; have n0_ : Aside0 (Kd.S (Kd.slice 3 (Kd.int .i64)) 22 wr w.heap.size (fun _ => True) u10 x10_2) := ⟨by rw [← hq_]; exact P8_3_⟩; have n1_ : Aside0 (wr.heap[gb111]? = some (.cells #[.slice none 0 0, .int .i64 x112001_2] 28 (0, 0))) := ⟨by rw [← hq_]; exact (pB BK111.out)⟩; have n2_ : Aside0 (Below w.heap.size w wr) := ⟨by rw [← hq_]; exact P8_1_⟩; clear HO_10 BK111 HB hq_; have HO_10 := n0_; have BK111 := n1_; have HB := n2_; clear n0_ n1_ n2_)); obtain ⟨hcz26_0, hcz26_1⟩ := cz2 BK111.out; have hfz26_0 := blk_frozen BK111.out 0; have hfz26_1 := blk_frozen BK111.out 1))
   refine bodyPost_ret (results_ct rfl _ _ gb111 28 #[.slice none 0 0, .int .i64 0] (0, 0) _ rfl P8_5_ Try.underlying28 rfl P8_8_) rfl ?_
   exact ⟨_, P8_9_, P8_7_, P8_1_⟩
  replace c25 := Bool.eq_false_iff.mpr c25
  subst c25
  have H1 : ((tag_challenge.f k2 l3 (l1.length : Int)).bind fun t120 => (if t120 = 0 then (if 0 ≤ a0 then (if (a0 : Int).toNat ≤ 35184372088832 then (tag_Answer.l1 k2 l2 x10_2 (List.replicate (a0 : Int).toNat 0) 0 l3 (l3.length : Int) 0) else (none)) else (none)) else (some (([] : List Int), 0, t120)))) = some (r1, r2, r3) := by rw [if_neg (show ¬ (false = true) by decide)] at H; exact H
  clear H
  have H := H1
  clear H1
  replace H := Option.bind_eq_some_iff.mp H
  obtain ⟨t120, A270, H⟩ := H
  replace H : (if t120 = 0 then (if 0 ≤ a0 then (if (a0 : Int).toNat ≤ 35184372088832 then (tag_Answer.l1 k2 l2 x10_2 (List.replicate (a0 : Int).toNat 0) 0 l3 (l3.length : Int) 0) else (none)) else (none)) else (some (([] : List Int), 0, t120))) = some (r1, r2, r3) := H
  have A27 := Aside0.mk A270
  clear A270
  by_cases c28 : t120 = 0
  rotate_left
  ·rw [if_neg c28] at H
   have c28b0 : (t120 == 0) = false := beq_eq_false_iff_ne.mpr c28
   have c28b1 : (t120 != 0) = true := bne_iff_ne.mpr c28
   simp only [Option.some.injEq, Prod.mk.injEq] at H
   obtain ⟨rfl, rfl, rfl⟩ := H
   go_wp2_with (first | ((with_reducible refine gate_callee (f := 20) rfl ?_); refine goesL_ (some 58) rfl rfl Try.func20 P8_8_ rfl #[.slice A2 l2.length c2, .func (.func 21) #[] #[]] rfl P8_2_ ?_; (with_reducible refine (Ha.tag_ContainsFunc_wild.calls _ _ l2 false _ ?side1 ?side2 A24.out).mono ?_); (case side1 => exact P8_13_); (case side2 => exact HC2.out); rintro e w' ⟨rfl, ⟨nd, rfl⟩⟩; refine ⟨_, rfl, ?_⟩; (try (rw [drewN_self wr]; generalize hq_ : World.drewN wr _ = wr; have n0_ : Aside0 (Kd.S (Kd.slice 3 (Kd.int .i64)) 22 wr w.heap.size (fun _ => True) u10 x10_2) := ⟨by rw [← hq_]; exact P8_3_⟩; have n1_ : Aside0 (wr.heap[gb111]? = some (.cells #[.slice none 0 0, .int .i64 x112001_2] 28 (0, 0))) := ⟨by rw [← hq_]; exact (pB BK111.out)⟩; have n2_ : Aside0 (Below w.heap.size w wr) := ⟨by rw [← hq_]; exact P8_1_⟩; clear HO_10 BK111 HB hq_; have HO_10 := n0_; have BK111 := n1_; have HB := n2_; clear n0_ n1_ n2_))) | ((with_reducible refine gate_callee (f := 23) rfl ?_); refine goesL_ (some 63) rfl rfl Try.func23 P8_8_ rfl #[.slice A3 l3.length c3, .int .i64 (l1.length : Int)] rfl P8_2_ ?_; (with_reducible refine (tag_challenge.calls k2 _ _ l3 (l1.length : Int) t120 _ ?side1 ?side2 A27.out).mono ?_); (case side1 => repeat (first | exact (Kd.C_below HR3.out HB.out) | (with_reducible refine Kd.C_alloc ?_ _) | (with_reducible refine Kd.C_drewN ?_ _) | (with_reducible refine Kd.C_drew ?_))); (case side2 => exact HC3.out); rintro e w71 ⟨rfl, hb⟩; refine ⟨_, rfl, ?_⟩; have n0_ := Aside0.mk (Kd.S_below P8_3_ hb); have n1_ := Aside0.mk (bb BK111.out hb); have n2_ := Aside0.mk (below_step P8_1_ hb); clear HO_10 BK111 HB; have HO_10 := n0_; have BK111 := n1_; have HB := n2_; clear n0_ n1_ n2_; (try clear hb); (try clear hb2); (try clear hk); (try clear hi); obtain ⟨hcz72_0, hcz72_1⟩ := cz2 BK111.out; have hfz72_0 := blk_frozen BK111.out 0; have hfz72_1 := blk_frozen BK111.out 1))
   refine bodyPost_ret (results_ct rfl _ _ gb111 28 #[.slice none 0 0, .int .i64 0] (0, 0) _ rfl P8_5_ Try.underlying28 rfl P8_8_) rfl ?_
   exact ⟨_, P8_9_, P8_7_, P8_1_⟩
  rw [if_pos c28] at H
  have c28b0 : (t120 == 0) = true := beq_iff_eq.mpr c28
  have c28b1 : (t120 != 0) = false := bne_eq_false_iff_eq.mpr c28
  clear c28
  by_cases c29 : 0 ≤ a0
  rotate_left
  ·rw [if_neg c29] at H
   exact absurd H (by simp)
  rw [if_pos c29] at H
  have c29b0 := eq_true c29
  have c29b1 : decide (0 ≤ a0) = true := decide_eq_true c29
  clear c29
  by_cases c30 : (a0 : Int).toNat ≤ 35184372088832
  rotate_left
  ·rw [if_neg c30] at H
   exact absurd H (by simp)
  rw [if_pos c30] at H
  have c30b0 := eq_true c30
  have c30b1 : decide ((a0 : Int).toNat ≤ 35184372088832) = true := decide_eq_true c30
  clear c30
  obtain ⟨y121, hy121⟩ : ∃ y_ : List Int, y_ = (List.replicate (a0 : Int).toNat 0) := ⟨_, rfl⟩
  replace H : (tag_Answer.l1 k2 l2 x10_2 y121 0 l3 (l3.length : Int) 0) = some (r1, r2, r3) := by first | (rw [hy121]; with_reducible exact H) | (have H2_ := (Option.bind_some _ _).symm.trans H; rw [hy121]; with_reducible exact H2_) | (have H2_ := (Option.bind_some _ _).symm.trans H; with_reducible exact H2_) | with_reducible exact H | (rw [hy121]; exact H) | exact H
  have Ny121 := Aside0.mk hy121
  clear hy121
  have H' := Aside0.mk H
  clear H
  go_wp2_with (first | ((with_reducible refine gate_callee (f := 20) rfl ?_); refine goesL_ (some 58) rfl rfl Try.func20 P8_8_ rfl #[.slice A2 l2.length c2, .func (.func 21) #[] #[]] rfl P8_2_ ?_; (with_reducible refine (Ha.tag_ContainsFunc_wild.calls _ _ l2 false _ ?side1 ?side2 A24.out).mono ?_); (case side1 => exact P8_13_); (case side2 => exact HC2.out); rintro e w' ⟨rfl, ⟨nd, rfl⟩⟩; refine ⟨_, rfl, ?_⟩) | ((with_reducible refine gate_callee (f := 23) rfl ?_); refine goesL_ (some 63) rfl rfl Try.func23 P8_8_ rfl #[.slice A3 l3.length c3, .int .i64 (l1.length : Int)] rfl P8_2_ ?_; (with_reducible refine (tag_challenge.calls k2 _ _ l3 (l1.length : Int) t120 _ ?side1 ?side2 A27.out).mono ?_); (case side1 => repeat (first | exact (Kd.C_below HR3.out P8_1_) | (with_reducible refine Kd.C_alloc ?_ _) | (with_reducible refine Kd.C_drewN ?_ _) | (with_reducible refine Kd.C_drew ?_))); (case side2 => exact HC3.out); rintro e w31 ⟨rfl, hb⟩; refine ⟨_, rfl, ?_⟩; have n0_ := Aside0.mk (Kd.S_below P8_3_ hb); have n1_ := Aside0.mk (bb BK111.out hb); have n2_ := Aside0.mk (below_step P8_1_ hb); clear HO_10 BK111 HB; have HO_10 := n0_; have BK111 := n1_; have HB := n2_; clear n0_ n1_ n2_; (try clear hb); (try clear hb2); (try clear hk); (try clear hi)) | ((with_reducible refine gate_dst (N := 69) rfl ?_); (try (refine gate_guard (by rfl) ?_; dsimp only)); refine Kd.R_make (Kd.int .i64) _ 68 rfl (N := 69) rfl 67 _ _ rfl a0 rfl rfl Try.underlying67 (.int .i64 0) 8 info68 rfl (by decide) (by omega) 0 (ok := fun _ => True) (okp := fun _ => True) rfl (fun _ hk => hk) trivial (of_decide_eq_true P8_6_) (Nat.le_trans (Nat.mul_le_mul_right _ (of_decide_eq_true P8_6_ : a0.toNat ≤ 35184372088832)) (by omega)) (Below.refl _ _) (Nat.le_refl _) ?_; intro v122 w32 ho33 hb hg_ hnew_; clear hg_ hnew_; (first | rw [← Ny121.out] at ho33 | (simp only [Int.reduceToNat] at ho33; rw [← Ny121.out] at ho33)); have n0_ := Aside0.mk (Kd.S_below P8_3_ hb); have n1_ := Aside0.mk (Kd.R_lower ho33 (below_size P8_1_)); have n2_ := Aside0.mk (bb BK111.out hb); have n3_ := Aside0.mk (below_step P8_1_ hb); clear HO_10 BK111 HB; have HO_10 := n0_; have HO123 := n1_; have BK111 := n2_; have HB := n3_; clear n0_ n1_ n2_ n3_ hb ho33))
  go_loopg [16, 72] k2 (fun kq v16 v72 w' => ∃ (x15_3 : List Int) (x16_3 : Int) (x72_3 : Int), v16 = .int .i64 x16_3 ∧ v72 = .int .i64 x72_3 ∧ Aside0 (tag_Answer.l1 kq l2 x10_2 x15_3 x16_3 l3 (l3.length : Int) x72_3 = some (r1, r2, r3)) ∧ Aside0 (kq ≤ k2) ∧ Aside0 (Kd.S (Kd.slice 3 (Kd.int .i64)) 22 w' w.heap.size (fun _ => True) u10 x10_2) ∧ Aside0 (Kd.R (Kd.int .i64) 68 w' w.heap.size (fun _ => True) v122 x15_3) ∧ Aside0 (w'.heap[gb111]? = some (.cells #[(.slice none 0 0), .int .i64 x112001_2] 28 (0, 0))) ∧ Aside0 (Below w.heap.size w w'))
  case atStart => exact ⟨(y121), (0), (0), P8_11_, P8_11_, H', ⟨Nat.le_refl _⟩, ⟨P8_3_⟩, ⟨pR HO123.out⟩, ⟨pB BK111.out⟩, ⟨P8_1_⟩⟩
  case round =>
   clear H'
   obtain ⟨x15_3, x16_3, x72_3, rfl, rfl, HA, HK3, HO_10, HO_15, BK111, HB⟩ := hrel
   rcases gk with _ | k3
   ·exact absurd HA.out (by simp [tag_Answer.l1])
   have H := HA.out
   clear HA
   simp only [tag_Answer.l1] at H
   by_cases c34 : x72_3 < (l3.length : Int)
   rotate_left
   ·rw [if_neg c34] at H
    have c34b0 : decide (x72_3 < (l3.length : Int)) = false := decide_eq_false c34
    clear c34
    replace H := Option.bind_eq_some_iff.mp H
    obtain ⟨⟨t141, t144⟩, A660, H⟩ := H
    replace H : (some (t141, t144, 0)) = some (r1, r2, r3) := H
    have A66 := Aside0.mk A660
    clear A660
    simp only [Option.some.injEq, Prod.mk.injEq] at H
    obtain ⟨rfl, rfl, rfl⟩ := H
    obtain ⟨Ao67, co67, eo67⟩ := Kd.R_slice HO_15.out
    subst eo67
    go_wp2_with (first | ((with_reducible refine gate_callee (f := 26) rfl ?_); refine goesL_ (some 115) rfl rfl Try.func26 P8_8_ rfl #[.slice Ao67 x15_3.length co67, .int .i64 x16_3] rfl P8_2_ ?_; (with_reducible refine (tag_plain.calls k3 _ _ x15_3 x16_3 t141 t144 _ ?side1 ?side2 A66.out).mono ?_); (case side1 => repeat (first | exact (Kd.R_reads' HO_15.out).2.2 | (with_reducible refine Kd.C_alloc ?_ _) | (with_reducible refine Kd.C_drewN ?_ _) | (with_reducible refine Kd.C_drew ?_))); (case side2 => exact (Kd.R_reads' HO_15.out).2.1); rintro e w68 ⟨v142, rfl, ho0, hb⟩; refine ⟨_, rfl, ?_⟩; have n0_ := Aside0.mk (Kd.S_elder' P8_3_ (Kd.R_base ho0) hb); have n1_ := Aside0.mk (rb HO_15.out hb); have n2_ := Aside0.mk (Kd.R_lower ho0 (below_size P8_1_)); have n3_ := Aside0.mk (bb BK111.out hb); have n4_ := Aside0.mk (below_step P8_1_ hb); clear HO_10 HO_15 BK111 HB; have HO_10 := n0_; have HO_15 := n1_; have HO143 := n2_; have BK111 := n3_; have HB := n4_; clear n0_ n1_ n2_ n3_ n4_; (try clear hb); (try clear hb2); (try clear hk); (try clear hi); (try clear ho0); obtain ⟨Ao69, co69, eo69⟩ := Kd.R_slice HO143.out; subst eo69; obtain ⟨hcz70_0, hcz70_1⟩ := cz2 BK111.out; have hfz70_0 := blk_frozen BK111.out 0; have hfz70_1 := blk_frozen BK111.out 1))
    refine bodyPost_ret (results_ct rfl _ _ gb111 28 #[.slice Ao69 t141.length co69, .int .i64 t144] (0, 0) _ rfl (by (with_reducible repeat (first | refine blk_drewN ?_ _ | refine blk_drew ?_ | refine blk_alloc ?_ _)); refine blk_put (cs := #[.slice Ao69 t141.length co69, .int .i64 x112001_2]) ?_ 1 _ rfl; (with_reducible repeat (first | refine blk_drewN ?_ _ | refine blk_drew ?_ | refine blk_alloc ?_ _)); refine blk_put (cs := #[.slice none 0 0, .int .i64 x112001_2]) ?_ 0 _ rfl; (with_reducible repeat (first | refine blk_drewN ?_ _ | refine blk_drew ?_ | refine blk_alloc ?_ _)); exact BK111.out) Try.underlying28 rfl P8_8_) rfl ?_
    exact ⟨_, P8_9_, by (with_reducible repeat (first | apply Kd.R_alloc | apply Kd.R_drewN | apply Kd.R_drew)); exact Kd.R_mono (Kd.R_far (p := ⟨gb111, 1, none⟩) (Kd.R_far (p := ⟨gb111, 0, none⟩) (Kd.R_types HO143.out BK111.out (by decide)) (fun _ hk => hk.2) (.slice Ao69 t141.length co69)) (fun _ hk => hk.2) (.int .i64 t144)) (fun _ hk => trivial), P8_1_⟩
   rw [if_pos c34] at H
   have c34b0 : decide (x72_3 < (l3.length : Int)) = true := decide_eq_true c34
   clear c34
   by_cases c35 : 0 ≤ x72_3
   rotate_left
   ·rw [if_neg c35] at H
    exact absurd H (by simp)
   rw [if_pos c35] at H
   have c35b0 : decide (0 ≤ x72_3) = true := decide_eq_true c35
   clear c35
   by_cases c36 : x72_3 < (l3.length : Int)
   rotate_left
   ·rw [if_neg c36] at H
    exact absurd H (by simp)
   rw [if_pos c36] at H
   have c36b0 : decide (x72_3 < (l3.length : Int)) = true := decide_eq_true c36
   clear c36
   by_cases c37 : 0 ≤ ((rd_T60 l3 x72_3).f0)
   rotate_left
   ·rw [if_neg c37] at H
    exact absurd H (by simp)
   rw [if_pos c37] at H
   have c37b0 : decide (0 ≤ ((rd_T60 l3 x72_3).f0)) = true := decide_eq_true c37
   clear c37
   by_cases c38 : ((rd_T60 l3 x72_3).f0) < (x10_2.length : Int)
   rotate_left
   ·rw [if_neg c38] at H
    exact absurd H (by simp)
   rw [if_pos c38] at H
   have c38b0 : decide (((rd_T60 l3 x72_3).f0) < (x10_2.length : Int)) = true := decide_eq_true c38
   clear c38
   have H' := Aside0.mk H
   clear H
   have p124 : 0 ≤ (x72_3 : Int) := of_decide_eq_true P8_6_
   have q124 : x72_3 < (l3.length : Int) := of_decide_eq_true P8_6_
   obtain ⟨ad124, e124, hx124_0, hx124_1⟩ := at_T60 HR3.out x72_3 p124 q124
   cases e124
   (try replace hx124_0 := (HB.out.cell (World.block_lt_of_cell? w _ hx124_0)).trans hx124_0)
   (try replace hx124_1 := (HB.out.cell (World.block_lt_of_cell? w _ hx124_1)).trans hx124_1)
   replace p124 := eq_true p124
   replace q124 := eq_true q124
   go_wp2_with (first | ((with_reducible refine gate_dst (N := 18) rfl ?_); (try (refine gate_guard (by rfl) ?_; dsimp only)); refine box_event ?hg (N := 18) ?hd (cs := #[.int .i64 0, .int .i64 0]) (t := 60) ?hr ?_; (case hd => rfl); (case hg => rfl); (case hr => first | (go_simp; done) | (go_simp; rfl)); intro gb125 hg w39 hbox hb; have n0_ := Aside0.mk (Kd.S_below P8_3_ hb); have n1_ := Aside0.mk (rb HO_15.out hb); have n2_ := Aside0.mk (bb BK111.out hb); have n3_ := Aside0.mk (below_step P8_1_ hb); have n4_ := Aside0.mk (hbox); have n5_ := Aside0.mk ((by rw [hg]; exact (below_size P8_1_) : w.heap.size ≤ gb125)); have n6_ := Aside0.mk ((by rw [hg]; exact (below_size P8_1_) : w.heap.size ≤ gb125)); have n7_ := Aside0.mk ((by rw [hg]; exact Nat.ne_of_lt (blk_lt (g := gb111) (o := .cells #[.slice none 0 0, .int .i64 x112001_2] 28 (0, 0)) (pB BK111.out)) : gb111 ≠ gb125)); have n8_ := Aside0.mk ((by rw [hg]; exact Nat.ne_of_gt (blk_lt (g := gb111) (o := .cells #[.slice none 0 0, .int .i64 x112001_2] 28 (0, 0)) (pB BK111.out)) : gb125 ≠ gb111)); clear HO_10 HO_15 BK111 HB; have HO_10 := n0_; have HO_15 := n1_; have BK111 := n2_; have HB := n3_; have BK125 := n4_; have GW125 := n5_; have GE125 := n6_; have NB111_125 := n7_; have NB125_111 := n8_; clear n0_ n1_ n2_ n3_ n4_ n5_ n6_ n7_ n8_ hb hbox hg; have hnb40 := NB125_111.out; have hnc40 := NB111_125.out; obtain ⟨hcz41_0, hcz41_1⟩ := cz2 BK125.out; have hfz41_0 := blk_frozen BK125.out 0; have hfz41_1 := blk_frozen BK125.out 1) | ((with_reducible refine gate_store (t := 60) (p := 18) rfl ?_); refine store_event (t := 60) (p := 18) (v := ?vo_w42) (w1 := ((w39.setCell ⟨gb125, 0, none⟩ (.int .i64 ((rd_T60 l3 x72_3).f0))).setCell ⟨gb125, 1, none⟩ (.int .i64 ((rd_T60 l3 x72_3).f1)))) ?hg ?ho ?hn ?hr ?_; (case ho => rfl); (case hg => rfl); (case hn => rfl); (case hr => first | (go_simp; done) | (go_simp; rfl)); intro w42 hw; have n0_ : Aside0 (Kd.S (Kd.slice 3 (Kd.int .i64)) 22 w42 w.heap.size (fun _ => True) u10 x10_2) := ⟨(by rw [hw]; exact (by (with_reducible repeat (first | apply Kd.S_alloc | apply Kd.S_drewN | apply Kd.S_drew)); exact Kd.S_mono (Kd.S_far (p := ⟨gb125, 1, none⟩) (Kd.S_far (p := ⟨gb125, 0, none⟩) (Kd.S_types HO_10.out BK125.out (by decide)) (fun _ hk => hk.2) (.int .i64 ((rd_T60 l3 x72_3).f0))) (fun _ hk => hk.2) (.int .i64 ((rd_T60 l3 x72_3).f1))) (fun _ hk => trivial)))⟩; have n1_ : Aside0 (Kd.R (Kd.int .i64) 68 w42 w.heap.size (fun _ => True) v122 x15_3) := ⟨(by rw [hw]; exact (by (with_reducible repeat (first | apply Kd.R_alloc | apply Kd.R_drewN | apply Kd.R_drew)); exact Kd.R_mono (Kd.R_far (p := ⟨gb125, 1, none⟩) (Kd.R_far (p := ⟨gb125, 0, none⟩) (Kd.R_types HO_15.out BK125.out (by decide)) (fun _ hk => hk.2) (.int .i64 ((rd_T60 l3 x72_3).f0))) (fun _ hk => hk.2) (.int .i64 ((rd_T60 l3 x72_3).f1))) (fun _ hk => trivial)))⟩; have n2_ : Aside0 (w42.heap[gb111]? = some (.cells #[.slice none 0 0, .int .i64 x112001_2] 28 (0, 0))) := ⟨(by rw [hw]; exact (by (with_reducible repeat (first | refine blk_drewN ?_ _ | refine blk_drew ?_ | refine blk_alloc ?_ _)); refine blk_far ?_ NB111_125.out _; (with_reducible repeat (first | refine blk_drewN ?_ _ | refine blk_drew ?_ | refine blk_alloc ?_ _)); refine blk_far ?_ NB111_125.out _; (with_reducible repeat (first | refine blk_drewN ?_ _ | refine blk_drew ?_ | refine blk_alloc ?_ _)); exact BK111.out))⟩; have n3_ : Aside0 (w42.heap[gb125]? = some (.cells #[.int .i64 ((rd_T60 l3 x72_3).f0), .int .i64 ((rd_T60 l3 x72_3).f1)] 60 (0, 0))) := ⟨(by rw [hw]; exact (by (with_reducible repeat (first | refine blk_drewN ?_ _ | refine blk_drew ?_ | refine blk_alloc ?_ _)); refine blk_put (cs := #[.int .i64 ((rd_T60 l3 x72_3).f0), .int .i64 0]) ?_ 1 _ rfl; (with_reducible repeat (first | refine blk_drewN ?_ _ | refine blk_drew ?_ | refine blk_alloc ?_ _)); refine blk_put (cs := #[.int .i64 0, .int .i64 0]) ?_ 0 _ rfl; (with_reducible repeat (first | refine blk_drewN ?_ _ | refine blk_drew ?_ | refine blk_alloc ?_ _)); exact BK125.out))⟩; have n4_ : Aside0 (Below w.heap.size w w42) := ⟨(by rw [hw]; exact P8_4_)⟩; clear hw HO_10 HO_15 BK111 BK125 HB; have HO_10 := n0_; have HO_15 := n1_; have BK111 := n2_; have BK125 := n3_; have HB := n4_; clear n0_ n1_ n2_ n3_ n4_; obtain ⟨hcz43_0, hcz43_1⟩ := cz2 BK125.out; have hfz43_0 := blk_frozen BK125.out 0; have hfz43_1 := blk_frozen BK125.out 1; obtain ⟨Ao44, co44, eo44⟩ := Kd.S_slice HO_10.out; subst eo44; have p126 : 0 ≤ (((rd_T60 l3 x72_3).f0) : Int) := of_decide_eq_true P8_6_; have q126 : ((rd_T60 l3 x72_3).f0) < (x10_2.length : Int) := of_decide_eq_true P8_6_; obtain ⟨ad126, A126_0, c126_0, e126, hx126_0, hl126_0, hi126_0⟩ := at_L2 (Kd.S_reads' HO_10.out).2.2 ((rd_T60 l3 x72_3).f0) p126 q126; cases e126; obtain ⟨ce126, hce126, hMe126, hcc126⟩ := Kd.S_get HO_10.out [] ((rd_T60 l3 x72_3).f0) p126 (by first | exact q126 | exact of_decide_eq_true P8_6_ | (have e_ := (Kd.S_reads' HO_10.out).1; omega)); obtain ⟨ve126_0, rfl, ge126_0⟩ := hMe126; have hv126_0 := hcc126 0 _ rfl; rw [Nat.add_zero, show ((Kd.slice 3 (Kd.int .i64))).sz = 1 from rfl, Nat.mul_one] at hv126_0; replace hv126_0 := Option.some.inj (hv126_0.symm.trans hx126_0); rw [hv126_0] at ge126_0; have HL126_0 := Aside0.mk (show Kd.R (Kd.int .i64) 3 _ _ _ _ (rd_L2 x10_2 ((rd_T60 l3 x72_3).f0)) from ge126_0); clear hv126_0 ge126_0 hcc126 hce126; have HR126_0 := Aside0.mk hi126_0; have HC126_0 := Aside0.mk hl126_0; clear hi126_0 hl126_0; replace p126 := eq_true p126; replace q126 := eq_true q126))
   have NE126_0_ := Aside0.mk (Ha.ne_rows HL126_0.out HO_15.out (by decide))
   go_loopg [82] k3 (fun kq v82 w' => ∃ (x15_4 : List Int) (x82_4 : Int), v82 = .int .i64 x82_4 ∧ Aside0 (tag_Answer.l2 kq l2 x10_2 x15_4 x16_3 l3 (l3.length : Int) x72_3 (rd_L2 x10_2 ((rd_T60 l3 x72_3).f0)) ((rd_L2 x10_2 ((rd_T60 l3 x72_3).f0)).length : Int) x82_4 ((rd_T60 l3 x72_3).f0) ((rd_T60 l3 x72_3).f1) = some (r1, r2, r3)) ∧ Aside0 (kq ≤ k3) ∧ Aside0 (Kd.S (Kd.slice 3 (Kd.int .i64)) 22 w' w.heap.size (fun _ => True) (.slice (some ad126) x10_2.length co44) x10_2) ∧ Aside0 (Kd.R (Kd.int .i64) 68 w' w.heap.size (fun _ => True) v122 x15_4) ∧ Aside0 (w'.heap[gb111]? = some (.cells #[(.slice none 0 0), .int .i64 x112001_2] 28 (0, 0))) ∧ Aside0 (w'.heap[gb125]? = some (.cells #[.int .i64 ((rd_T60 l3 x72_3).f0), .int .i64 ((rd_T60 l3 x72_3).f1)] 60 (0, 0))) ∧ Aside0 (Kd.C (Kd.int .i64) w' A126_0 (rd_L2 x10_2 ((rd_T60 l3 x72_3).f0)).length (rd_L2 x10_2 ((rd_T60 l3 x72_3).f0))) ∧ Aside0 (Below w.heap.size w w'))
   case atStart => exact ⟨(x15_3), (0), P8_11_, H', ⟨Nat.le_refl _⟩, ⟨P8_3_⟩, ⟨pR HO_15.out⟩, ⟨pB BK111.out⟩, ⟨pB BK125.out⟩, ⟨P8_12_⟩, ⟨P8_4_⟩⟩
   case round =>
    clear H'
    obtain ⟨x15_4, x82_4, rfl, HA, HK4, HO_10, HO_15, BK111, BK125, HR126_0, HB⟩ := hrel
    rcases gk with _ | k4
    ·exact absurd HA.out (by simp [tag_Answer.l2])
    have H := HA.out
    clear HA
    simp only [tag_Answer.l2] at H
    by_cases c45 : x82_4 < ((rd_L2 x10_2 ((rd_T60 l3 x72_3).f0)).length : Int)
    ·rw [if_pos c45] at H
     have c45b0 : decide (x82_4 < ((rd_L2 x10_2 ((rd_T60 l3 x72_3).f0)).length : Int)) = true := decide_eq_true c45
     clear c45
     by_cases c46 : 0 ≤ x82_4
     rotate_left
     ·rw [if_neg c46] at H
      exact absurd H (by simp)
     rw [if_pos c46] at H
     have c46b0 : decide (0 ≤ x82_4) = true := decide_eq_true c46
     clear c46
     by_cases c47 : x82_4 < ((rd_L2 x10_2 ((rd_T60 l3 x72_3).f0)).length : Int)
     rotate_left
     ·rw [if_neg c47] at H
      exact absurd H (by simp)
     rw [if_pos c47] at H
     have c47b0 : decide (x82_4 < ((rd_L2 x10_2 ((rd_T60 l3 x72_3).f0)).length : Int)) = true := decide_eq_true c47
     clear c47
     by_cases c48 : x82_4 < (x15_4.length : Int)
     rotate_left
     ·rw [if_neg c48] at H
      exact absurd H (by simp)
     rw [if_pos c48] at H
     have c48b0 : decide (x82_4 < (x15_4.length : Int)) = true := decide_eq_true c48
     clear c48
     replace H := Option.bind_eq_some_iff.mp H
     obtain ⟨t129, A490, H⟩ := H
     replace H : ((tag_sum.f k4 (([rd x15_4 x82_4, t129] : List Int))).bind fun t133 => (tag_Answer.l2 k4 l2 x10_2 (x15_4.set (x82_4 : Int).toNat t133) x16_3 l3 (l3.length : Int) x72_3 (rd_L2 x10_2 ((rd_T60 l3 x72_3).f0)) ((rd_L2 x10_2 ((rd_T60 l3 x72_3).f0)).length : Int) (wrap64 (x82_4 + 1)) ((rd_T60 l3 x72_3).f0) ((rd_T60 l3 x72_3).f1))) = some (r1, r2, r3) := H
     have A49 := Aside0.mk A490
     clear A490
     obtain ⟨y130, hy130⟩ : ∃ y_ : List Int, y_ = (([rd x15_4 x82_4, t129] : List Int)) := ⟨_, rfl⟩
     replace H : ((tag_sum.f k4 y130).bind fun t133 => (tag_Answer.l2 k4 l2 x10_2 (x15_4.set (x82_4 : Int).toNat t133) x16_3 l3 (l3.length : Int) x72_3 (rd_L2 x10_2 ((rd_T60 l3 x72_3).f0)) ((rd_L2 x10_2 ((rd_T60 l3 x72_3).f0)).length : Int) (wrap64 (x82_4 + 1)) ((rd_T60 l3 x72_3).f0) ((rd_T60 l3 x72_3).f1))) = some (r1, r2, r3) := by first | (rw [hy130]; with_reducible exact H) | (have H2_ := (Option.bind_some _ _).symm.trans H; rw [hy130]; with_reducible exact H2_) | (have H2_ := (Option.bind_some _ _).symm.trans H; with_reducible exact H2_) | with_reducible exact H | (rw [hy130]; exact H) | exact H
     have Ny130 := Aside0.mk hy130
     clear hy130
     replace H := Option.bind_eq_some_iff.mp H
     obtain ⟨t133, A500, H⟩ := H
     replace H : (tag_Answer.l2 k4 l2 x10_2 (x15_4.set (x82_4 : Int).toNat t133) x16_3 l3 (l3.length : Int) x72_3 (rd_L2 x10_2 ((rd_T60 l3 x72_3).f0)) ((rd_L2 x10_2 ((rd_T60 l3 x72_3).f0)).length : Int) (wrap64 (x82_4 + 1)) ((rd_T60 l3 x72_3).f0) ((rd_T60 l3 x72_3).f1)) = some (r1, r2, r3) := H
     have A50 := Aside0.mk A500
     clear A500
     obtain ⟨y134, hy134⟩ : ∃ y_ : List Int, y_ = (x15_4.set (x82_4 : Int).toNat t133) := ⟨_, rfl⟩
     replace H : (tag_Answer.l2 k4 l2 x10_2 y134 x16_3 l3 (l3.length : Int) x72_3 (rd_L2 x10_2 ((rd_T60 l3 x72_3).f0)) ((rd_L2 x10_2 ((rd_T60 l3 x72_3).f0)).length : Int) (wrap64 (x82_4 + 1)) ((rd_T60 l3 x72_3).f0) ((rd_T60 l3 x72_3).f1)) = some (r1, r2, r3) := by first | (rw [hy134]; with_reducible exact H) | (have H2_ := (Option.bind_some _ _).symm.trans H; rw [hy134]; with_reducible exact H2_) | (have H2_ := (Option.bind_some _ _).symm.trans H; with_reducible exact H2_) | with_reducible exact H | (rw [hy134]; exact H) | exact H
     have Ny134 := Aside0.mk hy134
     clear hy134
     have H' := Aside0.mk H
     clear H
     have p127 : 0 ≤ (x82_4 : Int) := of_decide_eq_true P8_6_
     have q127 : x82_4 < ((rd_L2 x10_2 ((rd_T60 l3 x72_3).f0)).length : Int) := of_decide_eq_true P8_6_
     obtain ⟨ad127, e127, hx127_0⟩ := Kd.at_int HR126_0.out x82_4 p127 q127
     cases e127
     (try replace hx127_0 := (HB.out.cell (World.block_lt_of_cell? w _ hx127_0)).trans hx127_0)
     replace p127 := eq_true p127
     replace q127 := eq_true q127
     try go_wp2
     have n0_ := Aside0.mk (Kd.S_drew HO_10.out)
     have n1_ := Aside0.mk (Kd.R_drew HO_15.out)
     have n2_ := Aside0.mk (blk_drew BK111.out)
     have n3_ := Aside0.mk (blk_drew BK125.out)
     have n4_ := Aside0.mk (Kd.C_drew HR126_0.out)
     have n5_ := Aside0.mk (below_drew1 HB.out)
     clear HO_10
     clear HO_15
     clear BK111
     clear BK125
     clear HR126_0
     clear HB
     have HO_10 := n0_
     have HO_15 := n1_
     have BK111 := n2_
     have BK125 := n3_
     have HR126_0 := n4_
     have HB := n5_
     clear n0_ n1_ n2_ n3_ n4_ n5_
     obtain ⟨Ao53, co53, eo53⟩ := Kd.R_slice HO_15.out
     (first | subst eo53 | (injection eo53 with f1_ f2_ f3_; have f4_ := f1_.symm; have f5_ := f3_.symm; clear f1_ f2_ f3_; subst f4_; subst f5_))
     have p128 : 0 ≤ (x82_4 : Int) := of_decide_eq_true P8_6_
     have q128 : x82_4 < (x15_4.length : Int) := of_decide_eq_true P8_6_
     obtain ⟨ad128, e128, hx128_0⟩ := Kd.at_int (Kd.R_reads' HO_15.out).2.2 x82_4 p128 q128
     cases e128
     replace p128 := eq_true p128
     replace q128 := eq_true q128
     refine start_ (n := 14) (S := fun w' => w'.cell? ⟨gb125, 0, none⟩ = some (.int .i64 ((rd_T60 l3 x72_3).f0)) ∧ w'.cell? ⟨gb125, 1, none⟩ = some (.int .i64 ((rd_T60 l3 x72_3).f1)) ∧ w'.cell? (ad128.add (x82_4).toNat) = some (.int .i64 (rd x15_4 x82_4))) (ds := [13]) #[false, false, false, false, false, false, false, false, false, false, false, false, false, false] P8_8_ rfl rfl ⟨(blk_cell BK125.out 0).trans rfl, (blk_cell BK125.out 1).trans rfl, hx128_0⟩ (fun hHeld => ?_); refine with_tabW tag_Answer.tab27 tag_Answer.bits27 (fun HT_ HW_ => ?_)
     generalize wr.drew = w52 at HO_10 HO_15 BK111 BK125 HR126_0 HB hx128_0 hHeld ⊢
     refine pure_ (i := 0) (N := some 87) (v := ?_) (a' := ?_) #[true, false, false, false, false, false, false, false, false, false, false, false, false, false] rfl rfl (any_of HT_.out P8_8_) (fun _ _ _ h => h) (Or.inl ⟨by rfl, ?_⟩) ?_ ?_
     rotate_left
     ·intro w'
      go_simp
      with_reducible rfl
     rotate_left
     ·simp only [Act.put, setIfInBounds_toArray, set_cons_zero, set_cons_succ, i64_w, i32_w]
      rfl
     refine pure_ (i := 1) (N := some 88) (v := ?_) (a' := ?_) #[true, true, false, false, false, false, false, false, false, false, false, false, false, false] rfl rfl (any_of HT_.out P8_8_) (fun _ _ _ h => h) (Or.inl ⟨by rfl, ?_⟩) ?_ ?_
     rotate_left
     ·intro w'
      go_simp
      with_reducible rfl
     rotate_left
     ·simp only [Act.put, setIfInBounds_toArray, set_cons_zero, set_cons_succ, i64_w, i32_w]
      rfl
     refine pure_ (i := 2) (N := some 89) (v := ?_) (a' := ?_) #[true, true, true, false, false, false, false, false, false, false, false, false, false, false] rfl rfl (any_of HT_.out P8_8_) (fun _ _ _ h => h) (Or.inl ⟨by rfl, ?_⟩) ?_ ?_
     rotate_left
     ·intro w'
      go_simp
      with_reducible rfl
     rotate_left
     ·simp only [Act.put, setIfInBounds_toArray, set_cons_zero, set_cons_succ, i64_w, i32_w]
      rfl
     refine pure_ (i := 3) (N := some 90) (v := ?_) (a' := ?_) #[true, true, true, true, false, false, false, false, false, false, false, false, false, false] rfl rfl (any_of HT_.out P8_8_) (fun _ _ _ h => h) (Or.inl ⟨by rfl, ?_⟩) ?_ ?_
     rotate_left
     ·intro w'
      go_simp
      with_reducible rfl
     rotate_left
     ·simp only [Act.put, setIfInBounds_toArray, set_cons_zero, set_cons_succ, i64_w, i32_w]
      rfl
     refine pure_ (i := 4) (N := some 91) (v := ?_) (a' := ?_) #[true, true, true, true, true, false, false, false, false, false, false, false, false, false] rfl rfl (any_of HT_.out P8_8_) (fun _ _ _ h => h) (Or.inl ⟨by rfl, ?_⟩) ?_ ?_
     rotate_left
     ·intro w'
      go_simp
      with_reducible rfl
     rotate_left
     ·simp only [Act.put, setIfInBounds_toArray, set_cons_zero, set_cons_succ, i64_w, i32_w]
      rfl
     refine pure_ (i := 6) (N := some 93) (v := ?_) (a' := ?_) #[true, true, true, true, true, false, true, false, false, false, false, false, false, false] rfl rfl (any_of HT_.out P8_8_) (fun _ _ _ h => h) (Or.inl ⟨by rfl, ?_⟩) ?_ ?_
     rotate_left
     ·intro w'
      go_simp
      with_reducible rfl
     rotate_left
     ·simp only [Act.put, setIfInBounds_toArray, set_cons_zero, set_cons_succ, i64_w, i32_w]
      rfl
     refine pure_ (i := 7) (N := some 94) (v := ?_) (a' := ?_) #[true, true, true, true, true, false, true, true, false, false, false, false, false, false] rfl rfl (any_of HT_.out P8_8_) (fun _ _ _ h => h) (Or.inl ⟨by rfl, ?_⟩) ?_ ?_
     rotate_left
     ·intro w'
      go_simp
      with_reducible rfl
     rotate_left
     ·simp only [Act.put, setIfInBounds_toArray, set_cons_zero, set_cons_succ, i64_w, i32_w]
      rfl
     refine take_ (i := 5) (N := some 92) (v := ?_) (a' := ?_) #[true, true, true, true, true, true, true, true, false, false, false, false, false, false] rfl rfl (take_ofW HT_.out HW_.out P8_8_) (fun _ _ _ h => h) (Or.inl ⟨by rfl, ?_⟩) hHeld ?_ ?_
     rotate_left
     ·rintro w' ⟨s0, s1, s2⟩
      go_simp
      with_reducible rfl
     rotate_left
     ·simp only [Act.put, setIfInBounds_toArray, set_cons_zero, set_cons_succ, i64_w, i32_w]
      rfl
     refine take_ (i := 8) (N := some 95) (v := ?_) (a' := ?_) #[true, true, true, true, true, true, true, true, true, false, false, false, false, false] rfl rfl (take_ofW HT_.out HW_.out P8_8_) (fun _ _ _ h => h) (Or.inl ⟨by rfl, ?_⟩) hHeld ?_ ?_
     rotate_left
     ·rintro w' ⟨s0, s1, s2⟩
      go_simp
      with_reducible rfl
     rotate_left
     ·simp only [Act.put, setIfInBounds_toArray, set_cons_zero, set_cons_succ, i64_w, i32_w]
      rfl
     refine one_ (i := 9) (N := some 96) #[true, true, true, true, true, true, true, true, true, true, false, false, false, false] rfl rfl (one_of HT_.out P8_8_) (by decide) (fun K hK => ?_)
     refine goes_ Try.func25 P8_8_ rfl #[.int .i64 (rd (rd_L2 x10_2 ((rd_T60 l3 x72_3).f0)) x82_4), .int .i64 ((rd_T60 l3 x72_3).f1)] (by rfl) rfl rfl P8_2_ ?_
     with_reducible refine (tag_residue_times.calls (rd (rd_L2 x10_2 ((rd_T60 l3 x72_3).f0)) x82_4) ((rd_T60 l3 x72_3).f1) t129 _ A49.out).mono ?_
     rintro e w' ⟨rfl, ⟨nd, rfl⟩⟩
     refine ⟨_, rfl, ?_⟩
     refine hK.out _ _ ⟨(blk_cell BK125.out 0).trans rfl, (blk_cell BK125.out 1).trans rfl, hHeld.2.2⟩ (fun hHeld => ?_)
     clear hK K
     refine norm_ (a' := ?_) ?_ ?_
     rotate_left
     ·show Act.put _ (some 96) _ = _
      simp only [Act.put, setIfInBounds_toArray, set_cons_zero, set_cons_succ, i64_w, i32_w]
      rfl
     refine one_ (i := 10) (N := some 97) #[true, true, true, true, true, true, true, true, true, true, true, false, false, false] rfl rfl (one_of HT_.out P8_8_) (by decide) (fun K hK => ?_)
     refine Kd.R_lit_step (Kd.int .i64) _ 68 ?hg (N := 97) ?hd (xs := ([rd x15_4 x82_4, t129] : List Int)) (inner := [.int .i64 (rd x15_4 x82_4), .int .i64 t129]) (ok := fun _ => True) (okp := fun _ => True) ?hr ?hp (fun _ hk => hk) trivial (Below.refl _ _) (Nat.le_refl _) (by simp) ?_; (case hd => rfl); (case hg => rfl); (case hr => first | (go_simp; done) | (go_simp; rfl)); (case hp => exact (Reps.one (show Kd.M (Kd.int .i64) _ _ _ (rd x15_4 x82_4) [.int .i64 (rd x15_4 x82_4)] from rfl) (Reps.one (show Kd.M (Kd.int .i64) _ _ _ t129 [.int .i64 t129] from rfl) (Reps.none _ _))))
     intro v131 w54 ho55 hb hg_ hnew_
     have HS2_ := (hb.cell (World.block_lt_of_cell? _ _ (hHeld.2.2))).trans (hHeld.2.2)
     clear hg_ hnew_
     (first | rw [← Ny130.out] at ho55 | (simp only [Int.reduceToNat] at ho55; rw [← Ny130.out] at ho55))
     have n0_ := Aside0.mk (Kd.S_below P8_3_ hb)
     have n1_ := Aside0.mk (Kd.R_elder' (pR HO_15.out) (Kd.R_base ho55) hb)
     have n2_ := Aside0.mk (Kd.R_lower (Kd.R_new' ho55 (Kd.R_lt (pR HO_15.out))) (below_size P8_4_))
     have n3_ := Aside0.mk (bb BK111.out hb)
     have n4_ := Aside0.mk (blk_below (g := gb125) (o := .cells #[.int .i64 ((rd_T60 l3 x72_3).f0), .int .i64 ((rd_T60 l3 x72_3).f1)] 60 (0, 0)) (pB BK125.out) hb)
     have n5_ := Aside0.mk (Kd.C_below P8_12_ hb)
     have n6_ := Aside0.mk (below_step P8_4_ hb)
     clear HO_10
     clear HO_15
     clear BK111
     clear BK125
     clear HR126_0
     clear HB
     have HO_10 := n0_
     have HO_15 := n1_
     have HO132 := n2_
     have BK111 := n3_
     have BK125 := n4_
     have HR126_0 := n5_
     have HB := n6_
     clear n0_ n1_ n2_ n3_ n4_ n5_ n6_
     clear hb ho55
     obtain ⟨Ao56, co56, eo56⟩ := Kd.R_slice HO132.out
     (first | subst eo56 | (injection eo56 with f1_ f2_ f3_; have f4_ := f1_.symm; have f5_ := f3_.symm; clear f1_ f2_ f3_; subst f4_; subst f5_))
     refine hK.out _ _ ⟨(blk_cell BK125.out 0).trans rfl, (blk_cell BK125.out 1).trans rfl, HS2_⟩ (fun hHeld => ?_)
     clear hK K
     refine norm_ (a' := ?_) ?_ ?_
     rotate_left
     ·show Act.put _ (some 97) _ = _
      simp only [Act.put, setIfInBounds_toArray, set_cons_zero, set_cons_succ, i64_w, i32_w]
      rfl
     refine one_ (i := 11) (N := some 98) #[true, true, true, true, true, true, true, true, true, true, true, true, false, false] rfl rfl (one_of HT_.out P8_8_) (by decide) (fun K hK => ?_)
     refine goes_ Try.func24 P8_8_ rfl #[.slice Ao56 y130.length co56] (by rfl) rfl rfl P8_2_ ?_
     with_reducible refine (tag_sum.calls k4 _ _ y130 t133 _ ?side1 ?side2 A50.out).mono ?_
     (case side1 => repeat (first | exact (Kd.R_reads' HO132.out).2.2 | (with_reducible refine Kd.C_alloc ?_ _) | (with_reducible refine Kd.C_drewN ?_ _) | (with_reducible refine Kd.C_drew ?_)))
     (case side2 => exact (Kd.R_reads' HO132.out).2.1)
     rintro e w' ⟨rfl, ⟨nd, rfl⟩⟩
     refine ⟨_, rfl, ?_⟩
     have p51 : 0 ≤ (x82_4 : Int) := of_decide_eq_true P8_6_
     have q51 : (x82_4 : Int) < ((x15_4.length : Int) : Int) := of_decide_eq_true P8_6_
     obtain ⟨go51, co51, eo51, gb51, gl51, cl51, HG51⟩ := Kd.R_form HO_15.out (by omega)
     (first | cases eo51 | (injection eo51 with ea_ en_ ec_; (first | subst ea_ | (injection ea_ with ea_; subst ea_)); subst ec_; clear en_))
     have GB51 := Aside0.mk gb51
     have GG51 := Aside0.mk HG51
     clear gb51 gl51 HG51
     (first | simp only [add_plain] at hx128_0 | skip)
     obtain ⟨hx51_0, hf51_0⟩ := Kd.R_celln 0 HO_15.out (x82_4 : Int) p51 q51
     replace p51 := eq_true p51
     replace q51 := eq_true q51
     have HP57 := Kd.R_putn HO_15.out (x82_4 : Int) t133
     rw [← Ny134.out] at HP57
     have HQ57 := Aside0.mk HP57
     clear HP57
     refine hK.out _ _ ⟨(blk_cell BK125.out 0).trans rfl, (blk_cell BK125.out 1).trans rfl, hHeld.2.2⟩ (fun hHeld => ?_)
     clear hK K
     refine norm_ (a' := ?_) ?_ ?_
     rotate_left
     ·show Act.put _ (some 98) _ = _
      simp only [Act.put, setIfInBounds_toArray, set_cons_zero, set_cons_succ, i64_w, i32_w]
      rfl
     refine pure_ (i := 12) (N := some 99) (v := ?_) (a' := ?_) #[true, true, true, true, true, true, true, true, true, true, true, true, true, false] rfl rfl (any_of HT_.out P8_8_) (fun _ _ _ h => h) (Or.inl ⟨by rfl, ?_⟩) ?_ ?_
     rotate_left
     ·intro w'
      go_simp
      with_reducible rfl
     rotate_left
     ·simp only [Act.put, setIfInBounds_toArray, set_cons_zero, set_cons_succ, i64_w, i32_w]
      rfl
     refine last_ (i := 13) (N := none) #[true, true, true, true, true, true, true, true, true, true, true, true, true, true] rfl rfl (one_of HT_.out P8_8_) (by decide) (fun K hK => ?_)
     refine skip_ (w1 := ?_) (by rfl) rfl ?_ ?_
     rotate_left
     ·go_simp
      rfl
     refine hK.out _ _ ?_
     clear hK K
     refine done_ (done_of HT_.out P8_8_) ?_
     try go_wp2
     go_roundg k4
     case measure => have := HJ4.out; have := HK2.out; have := HK3.out; have := HK4.out; omega
     case rel => exact ⟨(y134), (wrap64 (x82_4 + 1)), P8_11_, H', ⟨by have := HJ4.out; have := HK2.out; have := HK3.out; have := HK4.out; omega⟩, ⟨by (with_reducible repeat (first | apply Kd.S_alloc | apply Kd.S_drewN | apply Kd.S_drew)); exact Kd.S_mono (Kd.S_far (p := ⟨go51, (x82_4 : Int).toNat, none⟩) (Kd.S_types HO_10.out GG51.out (by decide)) (fun _ hk => hk.2) (.int .i64 t133)) (fun _ hk => trivial)⟩, ⟨rm HQ57.out (fun _ hk => trivial)⟩, ⟨by (with_reducible repeat (first | refine blk_drewN ?_ _ | refine blk_drew ?_ | refine blk_alloc ?_ _)); refine blk_far ?_ (by have h_ := Kd.R_ne HO_15.out BK111.out (by decide); intro e_; exact h_ (by rw [e_]; rfl)) _; (with_reducible repeat (first | refine blk_drewN ?_ _ | refine blk_drew ?_ | refine blk_alloc ?_ _)); exact BK111.out⟩, ⟨by (with_reducible repeat (first | refine blk_drewN ?_ _ | refine blk_drew ?_ | refine blk_alloc ?_ _)); refine blk_far ?_ (by have h_ := Kd.R_ne HO_15.out BK125.out (by decide); intro e_; exact h_ (by rw [e_]; rfl)) _; (with_reducible repeat (first | refine blk_drewN ?_ _ | refine blk_drew ?_ | refine blk_alloc ?_ _)); exact BK125.out⟩, ⟨by exact Ha.C_far HR126_0.out _ _ (fun ad_ e_ h_ => NE126_0_.out ad_ e_ (by rw [h_]; rfl))⟩, ⟨by repeat (first | (with_reducible first | exact HB.out | apply below_alloc | apply pw_below_drewN | apply below_drew1 | refine below_set ?_ GB51.out | refine below_set ?_ GE111.out | refine below_set ?_ GE125.out) | exact HB.out)⟩⟩
    rw [if_neg c45] at H
    have c45b0 : decide (x82_4 < ((rd_L2 x10_2 ((rd_T60 l3 x72_3).f0)).length : Int)) = false := decide_eq_false c45
    clear c45
    by_cases c58 : 0 ≤ ((rd_T60 l3 x72_3).f0)
    rotate_left
    ·rw [if_neg c58] at H
     exact absurd H (by simp)
    rw [if_pos c58] at H
    have c58b0 : decide (0 ≤ ((rd_T60 l3 x72_3).f0)) = true := decide_eq_true c58
    clear c58
    by_cases c59 : ((rd_T60 l3 x72_3).f0) < (l2.length : Int)
    rotate_left
    ·rw [if_neg c59] at H
     exact absurd H (by simp)
    rw [if_pos c59] at H
    have c59b0 : decide (((rd_T60 l3 x72_3).f0) < (l2.length : Int)) = true := decide_eq_true c59
    clear c59
    replace H := Option.bind_eq_some_iff.mp H
    obtain ⟨t136, A600, H⟩ := H
    replace H : ((tag_sum.f k4 (([x16_3, t136] : List Int))).bind fun t140 => (tag_Answer.l1 k4 l2 x10_2 x15_4 t140 l3 (l3.length : Int) (wrap64 (x72_3 + 1)))) = some (r1, r2, r3) := H
    have A60 := Aside0.mk A600
    clear A600
    obtain ⟨y137, hy137⟩ : ∃ y_ : List Int, y_ = (([x16_3, t136] : List Int)) := ⟨_, rfl⟩
    replace H : ((tag_sum.f k4 y137).bind fun t140 => (tag_Answer.l1 k4 l2 x10_2 x15_4 t140 l3 (l3.length : Int) (wrap64 (x72_3 + 1)))) = some (r1, r2, r3) := by first | (rw [hy137]; with_reducible exact H) | (have H2_ := (Option.bind_some _ _).symm.trans H; rw [hy137]; with_reducible exact H2_) | (have H2_ := (Option.bind_some _ _).symm.trans H; with_reducible exact H2_) | with_reducible exact H | (rw [hy137]; exact H) | exact H
    have Ny137 := Aside0.mk hy137
    clear hy137
    replace H := Option.bind_eq_some_iff.mp H
    obtain ⟨t140, A610, H⟩ := H
    replace H : (tag_Answer.l1 k4 l2 x10_2 x15_4 t140 l3 (l3.length : Int) (wrap64 (x72_3 + 1))) = some (r1, r2, r3) := H
    have A61 := Aside0.mk A610
    clear A610
    have H' := Aside0.mk H
    clear H
    try go_wp2
    have n0_ := Aside0.mk (Kd.S_drew HO_10.out)
    have n1_ := Aside0.mk (Kd.R_drew HO_15.out)
    have n2_ := Aside0.mk (blk_drew BK111.out)
    have n3_ := Aside0.mk (blk_drew BK125.out)
    have n4_ := Aside0.mk (Kd.C_drew HR126_0.out)
    have n5_ := Aside0.mk (below_drew1 HB.out)
    clear HO_10
    clear HO_15
    clear BK111
    clear BK125
    clear HR126_0
    clear HB
    have HO_10 := n0_
    have HO_15 := n1_
    have BK111 := n2_
    have BK125 := n3_
    have HR126_0 := n4_
    have HB := n5_
    clear n0_ n1_ n2_ n3_ n4_ n5_
    have p135 : 0 ≤ (((rd_T60 l3 x72_3).f0) : Int) := of_decide_eq_true P8_6_
    have q135 : ((rd_T60 l3 x72_3).f0) < (l2.length : Int) := of_decide_eq_true P8_6_
    obtain ⟨ad135, e135, hx135_0⟩ := Kd.at_int HR2.out ((rd_T60 l3 x72_3).f0) p135 q135
    have hw135_0 := hx135_0
    cases e135
    (try replace hx135_0 := (HB.out.cell (World.block_lt_of_cell? w _ hx135_0)).trans hx135_0)
    replace p135 := eq_true p135
    replace q135 := eq_true q135
    refine start_ (n := 12) (S := fun w' => w'.cell? ⟨gb125, 0, none⟩ = some (.int .i64 ((rd_T60 l3 x72_3).f0)) ∧ w'.cell? ⟨gb125, 1, none⟩ = some (.int .i64 ((rd_T60 l3 x72_3).f1)) ∧ w'.cell? (ad135.add (((rd_T60 l3 x72_3).f0)).toNat) = some (.int .i64 (rd l2 ((rd_T60 l3 x72_3).f0)))) (ds := []) #[false, false, false, false, false, false, false, false, false, false, false, false] P8_8_ rfl rfl ⟨(blk_cell BK125.out 0).trans rfl, (blk_cell BK125.out 1).trans rfl, ((HB.out.cell (World.block_lt_of_cell? w _ hw135_0)).trans hw135_0)⟩ (fun hHeld => ?_); refine with_tabW tag_Answer.tab29 tag_Answer.bits29 (fun HT_ HW_ => ?_)
    generalize wr.drew = w62 at HO_10 HO_15 BK111 BK125 HR126_0 HB hx135_0 hHeld ⊢
    refine pure_ (i := 0) (N := some 101) (v := ?_) (a' := ?_) #[true, false, false, false, false, false, false, false, false, false, false, false] rfl rfl (any_of HT_.out P8_8_) (fun _ _ _ h => h) (Or.inl ⟨by rfl, ?_⟩) ?_ ?_
    rotate_left
    ·intro w'
     go_simp
     with_reducible rfl
    rotate_left
    ·simp only [Act.put, setIfInBounds_toArray, set_cons_zero, set_cons_succ, i64_w, i32_w]
     rfl
    refine pure_ (i := 1) (N := some 102) (v := ?_) (a' := ?_) #[true, true, false, false, false, false, false, false, false, false, false, false] rfl rfl (any_of HT_.out P8_8_) (fun _ _ _ h => h) (Or.inl ⟨by rfl, ?_⟩) ?_ ?_
    rotate_left
    ·intro w'
     go_simp
     with_reducible rfl
    rotate_left
    ·simp only [Act.put, setIfInBounds_toArray, set_cons_zero, set_cons_succ, i64_w, i32_w]
     rfl
    refine pure_ (i := 2) (N := some 103) (v := ?_) (a' := ?_) #[true, true, true, false, false, false, false, false, false, false, false, false] rfl rfl (any_of HT_.out P8_8_) (fun _ _ _ h => h) (Or.inl ⟨by rfl, ?_⟩) ?_ ?_
    rotate_left
    ·intro w'
     go_simp
     with_reducible rfl
    rotate_left
    ·simp only [Act.put, setIfInBounds_toArray, set_cons_zero, set_cons_succ, i64_w, i32_w]
     rfl
    refine pure_ (i := 6) (N := some 107) (v := ?_) (a' := ?_) #[true, true, true, false, false, false, true, false, false, false, false, false] rfl rfl (any_of HT_.out P8_8_) (fun _ _ _ h => h) (Or.inl ⟨by rfl, ?_⟩) ?_ ?_
    rotate_left
    ·intro w'
     go_simp
     with_reducible rfl
    rotate_left
    ·simp only [Act.put, setIfInBounds_toArray, set_cons_zero, set_cons_succ, i64_w, i32_w]
     rfl
    refine take_ (i := 3) (N := some 104) (v := ?_) (a' := ?_) #[true, true, true, true, false, false, true, false, false, false, false, false] rfl rfl (take_ofW HT_.out HW_.out P8_8_) (fun _ _ _ h => h) (Or.inl ⟨by rfl, ?_⟩) hHeld ?_ ?_
    rotate_left
    ·rintro w' ⟨s0, s1, s2⟩
     go_simp
     with_reducible rfl
    rotate_left
    ·simp only [Act.put, setIfInBounds_toArray, set_cons_zero, set_cons_succ, i64_w, i32_w]
     rfl
    refine pure_ (i := 4) (N := some 105) (v := ?_) (a' := ?_) #[true, true, true, true, true, false, true, false, false, false, false, false] rfl rfl (any_of HT_.out P8_8_) (fun _ _ _ h => h) (Or.inl ⟨by rfl, ?_⟩) ?_ ?_
    rotate_left
    ·intro w'
     go_simp
     with_reducible rfl
    rotate_left
    ·simp only [Act.put, setIfInBounds_toArray, set_cons_zero, set_cons_succ, i64_w, i32_w]
     rfl
    refine take_ (i := 5) (N := some 106) (v := ?_) (a' := ?_) #[true, true, true, true, true, true, true, false, false, false, false, false] rfl rfl (take_ofW HT_.out HW_.out P8_8_) (fun _ _ _ h => h) (Or.inl ⟨by rfl, ?_⟩) hHeld ?_ ?_
    rotate_left
    ·rintro w' ⟨s0, s1, s2⟩
     go_simp
     with_reducible rfl
    rotate_left
    ·simp only [Act.put, setIfInBounds_toArray, set_cons_zero, set_cons_succ, i64_w, i32_w]
     rfl
    refine take_ (i := 7) (N := some 108) (v := ?_) (a' := ?_) #[true, true, true, true, true, true, true, true, false, false, false, false] rfl rfl (take_ofW HT_.out HW_.out P8_8_) (fun _ _ _ h => h) (Or.inl ⟨by rfl, ?_⟩) hHeld ?_ ?_
    rotate_left
    ·rintro w' ⟨s0, s1, s2⟩
     go_simp
     with_reducible rfl
    rotate_left
    ·simp only [Act.put, setIfInBounds_toArray, set_cons_zero, set_cons_succ, i64_w, i32_w]
     rfl
    refine one_ (i := 8) (N := some 109) #[true, true, true, true, true, true, true, true, true, false, false, false] rfl rfl (one_of HT_.out P8_8_) (by decide) (fun K hK => ?_)
    refine goes_ Try.func25 P8_8_ rfl #[.int .i64 (rd l2 ((rd_T60 l3 x72_3).f0)), .int .i64 ((rd_T60 l3 x72_3).f1)] (by rfl) rfl rfl P8_2_ ?_
    with_reducible refine (tag_residue_times.calls (rd l2 ((rd_T60 l3 x72_3).f0)) ((rd_T60 l3 x72_3).f1) t136 _ A60.out).mono ?_
    rintro e w' ⟨rfl, ⟨nd, rfl⟩⟩
    refine ⟨_, rfl, ?_⟩
    refine hK.out _ _ ⟨(blk_cell BK125.out 0).trans rfl, (blk_cell BK125.out 1).trans rfl, ((HB.out.cell (World.block_lt_of_cell? w _ hw135_0)).trans hw135_0)⟩ (fun hHeld => ?_)
    clear hK K
    refine norm_ (a' := ?_) ?_ ?_
    rotate_left
    ·show Act.put _ (some 109) _ = _
     simp only [Act.put, setIfInBounds_toArray, set_cons_zero, set_cons_succ, i64_w, i32_w]
     rfl
    refine one_ (i := 9) (N := some 110) #[true, true, true, true, true, true, true, true, true, true, false, false] rfl rfl (one_of HT_.out P8_8_) (by decide) (fun K hK => ?_)
    refine Kd.R_lit_step (Kd.int .i64) _ 68 ?hg (N := 110) ?hd (xs := ([x16_3, t136] : List Int)) (inner := [.int .i64 x16_3, .int .i64 t136]) (ok := fun _ => True) (okp := fun _ => True) ?hr ?hp (fun _ hk => hk) trivial (Below.refl _ _) (Nat.le_refl _) (by simp) ?_; (case hd => rfl); (case hg => rfl); (case hr => first | (go_simp; done) | (go_simp; rfl)); (case hp => exact (Reps.one (show Kd.M (Kd.int .i64) _ _ _ x16_3 [.int .i64 x16_3] from rfl) (Reps.one (show Kd.M (Kd.int .i64) _ _ _ t136 [.int .i64 t136] from rfl) (Reps.none _ _))))
    intro v138 w63 ho64 hb hg_ hnew_
    clear hg_ hnew_
    (first | rw [← Ny137.out] at ho64 | (simp only [Int.reduceToNat] at ho64; rw [← Ny137.out] at ho64))
    have n0_ := Aside0.mk (Kd.S_below P8_3_ hb)
    have n1_ := Aside0.mk (Kd.R_elder' (pR HO_15.out) (Kd.R_base ho64) hb)
    have n2_ := Aside0.mk (Kd.R_lower (Kd.R_new' ho64 (Kd.R_lt (pR HO_15.out))) (below_size P8_4_))
    have n3_ := Aside0.mk (bb BK111.out hb)
    have n4_ := Aside0.mk (blk_below (g := gb125) (o := .cells #[.int .i64 ((rd_T60 l3 x72_3).f0), .int .i64 ((rd_T60 l3 x72_3).f1)] 60 (0, 0)) (pB BK125.out) hb)
    have n5_ := Aside0.mk (Kd.C_below P8_12_ hb)
    have n6_ := Aside0.mk (below_step P8_4_ hb)
    clear HO_10
    clear HO_15
    clear BK111
    clear BK125
    clear HR126_0
    clear HB
    have HO_10 := n0_
    have HO_15 := n1_
    have HO139 := n2_
    have BK111 := n3_
    have BK125 := n4_
    have HR126_0 := n5_
    have HB := n6_
    clear n0_ n1_ n2_ n3_ n4_ n5_ n6_
    clear hb ho64
    obtain ⟨Ao65, co65, eo65⟩ := Kd.R_slice HO139.out
    (first | subst eo65 | (injection eo65 with f1_ f2_ f3_; have f4_ := f1_.symm; have f5_ := f3_.symm; clear f1_ f2_ f3_; subst f4_; subst f5_))
    refine hK.out _ _ ⟨(blk_cell BK125.out 0).trans rfl, (blk_cell BK125.out 1).trans rfl, ((HB.out.cell (World.block_lt_of_cell? w _ hw135_0)).trans hw135_0)⟩ (fun hHeld => ?_)
    clear hK K
    refine norm_ (a' := ?_) ?_ ?_
    rotate_left
    ·show Act.put _ (some 110) _ = _
     simp only [Act.put, setIfInBounds_toArray, set_cons_zero, set_cons_succ, i64_w, i32_w]
     rfl
    refine one_ (i := 10) (N := some 111) #[true, true, true, true, true, true, true, true, true, true, true, false] rfl rfl (one_of HT_.out P8_8_) (by decide) (fun K hK => ?_)
    refine goes_ Try.func24 P8_8_ rfl #[.slice Ao65 y137.length co65] (by rfl) rfl rfl P8_2_ ?_
    with_reducible refine (tag_sum.calls k4 _ _ y137 t140 _ ?side1 ?side2 A61.out).mono ?_
    (case side1 => repeat (first | exact (Kd.R_reads' HO139.out).2.2 | (with_reducible refine Kd.C_alloc ?_ _) | (with_reducible refine Kd.C_drewN ?_ _) | (with_reducible refine Kd.C_drew ?_)))
    (case side2 => exact (Kd.R_reads' HO139.out).2.1)
    rintro e w' ⟨rfl, ⟨nd, rfl⟩⟩
    refine ⟨_, rfl, ?_⟩
    refine hK.out _ _ ⟨(blk_cell BK125.out 0).trans rfl, (blk_cell BK125.out 1).trans rfl, ((HB.out.cell (World.block_lt_of_cell? w _ hw135_0)).trans hw135_0)⟩ (fun hHeld => ?_)
    clear hK K
    refine norm_ (a' := ?_) ?_ ?_
    rotate_left
    ·show Act.put _ (some 111) _ = _
     simp only [Act.put, setIfInBounds_toArray, set_cons_zero, set_cons_succ, i64_w, i32_w]
     rfl
    refine pure_ (i := 11) (N := some 16) (v := ?_) (a' := ?_) #[true, true, true, true, true, true, true, true, true, true, true, true] rfl rfl (any_of HT_.out P8_8_) (fun _ _ _ h => h) (Or.inl ⟨by rfl, ?_⟩) ?_ ?_
    rotate_left
    ·intro w'
     go_simp
     with_reducible rfl
    rotate_left
    ·simp only [Act.put, setIfInBounds_toArray, set_cons_zero, set_cons_succ, i64_w, i32_w]
     rfl
    refine done_ (done_of HT_.out P8_8_) ?_
    try go_wp2
    go_roundg k4
    case measure => have := HJ4.out; have := HK2.out; have := HK3.out; have := HK4.out; omega
    case rel => exact ⟨(x15_4), (t140), (wrap64 (x72_3 + 1)), P8_11_, P8_11_, H', ⟨by have := HJ4.out; have := HK2.out; have := HK3.out; have := HK4.out; omega⟩, ⟨P8_3_⟩, ⟨rm HO_15.out (fun _ hk => trivial)⟩, ⟨pB BK111.out⟩, ⟨P8_4_⟩⟩

end Go.Proofs.Ytekkjikmcnndoaa.P
