/- The functions that the statements about package tag reach, as plain Lean functions, and that the Go functions answer as these do; for every input within the sizes that the functions state. -/
import Derived.Test.YtekkjikmcnndoaaP0
import Derived.Test.YtekkjikmcnndoaaP3
import Derived.Test.YtekkjikmcnndoaaP12
import Derived.Test.YtekkjikmcnndoaaSq
namespace Go.Proofs.Ytekkjikmcnndoaa.P
open Go.RowKit Go.Proofs.YtekkjikmcnndoaaW.PrintWords Go.Proofs.YtekkjikmcnndoaaW.PrintLast Go.Proofs.YtekkjikmcnndoaaW.PrintMore Go.Proofs.YtekkjikmcnndoaaSq
open List (setIfInBounds_toArray set_cons_zero set_cons_succ)
attribute [local go_sem] max2_int min2_int max_two min_two max_three min_three max_four min_four   -- for this text's walks alone
set_option linter.unusedVariables false
set_option linter.unusedSimpArgs false

/-! ### tag_Forged: function 15 -/
def tag_Forged.j0 : Nat → Int → Bool → List Int → Int → List Int → Int → Option (Int × Bool)
 | 0, _, _, _, _, _, _ => none
 | k + 1, x6, x38, x177000, x177001, x178000, x178001 => if x38 = true then (some (0, false)) else ((slices_Equal_int_int.f k x177000 x178000).bind fun t182 => (if t182 = true then (if x177001 = x178001 then (some (x6, true)) else (some (0, false))) else (some (wrap64 (x6 - 1), true))))
def tag_Forged.f (k : Nat) (l0_0 : List Int) (a0_1 : Int) (l1_0 : List Int) (a1_1 : Int) : Option (Int × Bool) := if (l0_0.length : Int) = 0 then (tag_Forged.j0 k (l0_0.length : Int) true l0_0 a0_1 l1_0 a1_1) else (if (l0_0.length : Int) = (l1_0.length : Int) then ((tag_wild.f a0_1).bind fun t178 => (if t178 = true then (tag_Forged.j0 k (l0_0.length : Int) true l0_0 a0_1 l1_0 a1_1) else ((tag_wild.f a1_1).bind fun t179 => (if t179 = true then (tag_Forged.j0 k (l0_0.length : Int) true l0_0 a0_1 l1_0 a1_1) else ((Ha.tag_ContainsFunc_wild.f l0_0).bind fun t180 => (if t180 = true then (tag_Forged.j0 k (l0_0.length : Int) true l0_0 a0_1 l1_0 a1_1) else ((Ha.tag_ContainsFunc_wild.f l1_0).bind fun t181 => (tag_Forged.j0 k (l0_0.length : Int) t181 l0_0 a0_1 l1_0 a1_1)))))))) else (tag_Forged.j0 k (l0_0.length : Int) true l0_0 a0_1 l1_0 a1_1))
theorem tag_Forged.mono_l : ∀ k, (∀ y0 y1 y2 y3 y4 y5, LeO (tag_Forged.j0 k y0 y1 y2 y3 y4 y5) (tag_Forged.j0 (k + 1) y0 y1 y2 y3 y4 y5))
 | 0 => fun _ _ _ _ _ _ r h => by simp [tag_Forged.j0] at h
 | k + 1 => by
  have ih0 := tag_Forged.mono_l k
  ·intro y0 y1 y2 y3 y4 y5
   unfold tag_Forged.j0
   repeat' first
   | (with_reducible exact ih0 _ _ _ _ _ _)
   | (with_reducible exact slices_Equal_int_int.mono _ _ _)
   | (with_reducible exact LeO.refl _)
   | (with_reducible exact LeO.none _)
   | (with_reducible refine LeO.ite ?_ ?_)
   | (with_reducible refine LeO.bind ?_ (fun _ => ?_))
   | exact ih0 _ _ _ _ _ _
   | exact slices_Equal_int_int.mono _ _ _
   | exact LeO.none _
   | refine LeO.ite ?_ ?_
   | refine LeO.bind ?_ (fun _ => ?_)
theorem tag_Forged.mono : ∀ a0 a1 a2 a3 k, LeO (tag_Forged.f k a0 a1 a2 a3) (tag_Forged.f (k + 1) a0 a1 a2 a3) := by
 intro a0 a1 a2 a3 k
 have ih0 := tag_Forged.mono_l k
 unfold tag_Forged.f
 repeat' first
   | (with_reducible exact ih0 _ _ _ _ _ _)
   | (with_reducible exact slices_Equal_int_int.mono _ _ _)
   | (with_reducible exact LeO.refl _)
   | (with_reducible exact LeO.none _)
   | (with_reducible refine LeO.ite ?_ ?_)
   | (with_reducible refine LeO.bind ?_ (fun _ => ?_))
   | exact ih0 _ _ _ _ _ _
   | exact slices_Equal_int_int.mono _ _ _
   | exact LeO.none _
   | refine LeO.ite ?_ ?_
   | refine LeO.bind ?_ (fun _ => ?_)
theorem P13_1_ {P : Prop} (h : P := by repeat (first | (with_reducible first | exact HB.out | apply below_alloc | apply pw_below_drewN | apply below_drew1 | refine below_set ?_ GE176.out | refine below_set ?_ GE177.out) | exact HB.out)) : P := h
theorem P13_2_ {P : Prop} (h : P := by repeat (first | exact (Kd.C_below HR0_0.out HB.out) | (with_reducible refine Kd.C_alloc ?_ _) | (with_reducible refine Kd.C_drewN ?_ _) | (with_reducible refine Kd.C_drew ?_))) : P := h
theorem P13_3_ {P : Prop} (h : P := by repeat (first | exact (Kd.C_below HR1_0.out HB.out) | (with_reducible refine Kd.C_alloc ?_ _) | (with_reducible refine Kd.C_drewN ?_ _) | (with_reducible refine Kd.C_drew ?_))) : P := h
theorem P13_4_ {P : Prop} (h : P := by repeat (first | (with_reducible first | exact HB.out | apply below_alloc | apply pw_below_drewN | apply below_drew1 | refine below_set ?_ GE176.out) | exact HB.out)) : P := h
theorem P13_5_ {P : Prop} (h : P := by first | rfl | (simp [errW_none, errW_some] <;> rfl) | (simp [*, errW_none, errW_some] <;> rfl)) : P := h
theorem P13_6_ {P : Prop} (h : P := by (try simp only [List.map_toArray, List.map_cons, List.map_nil]); first | done | rfl | (simp only [List.length_drop, List.length_take]; rfl)) : P := h
theorem P13_7_ {P : Prop} (h : P := by repeat (first | (with_reducible first | exact HB.out | apply below_alloc | apply pw_below_drewN | apply below_drew1) | exact HB.out)) : P := h
theorem P13_8_ {P : Prop} (h : P := by first | rfl | (simp; done) | (simp [*]; done)) : P := h
set_option maxHeartbeats 8000000 in
set_option maxRecDepth 100000 in
theorem tag_Forged.calls (k : Nat) (A0_0 : Option Addr) (c0_0 : Nat) (l0_0 : List Int) (a0_1 : Int) (A1_0 : Option Addr) (c1_0 : Nat) (l1_0 : List Int) (a1_1 : Int) (r1 : Int) (r2 : Bool) (w : World) (hr0_0 : Kd.C (Kd.int .i64) w A0_0 l0_0.length l0_0) (hc0_0 : l0_0.length ≤ c0_0) (hr1_0 : Kd.C (Kd.int .i64) w A1_0 l1_0.length l1_0) (hc1_0 : l1_0.length ≤ c1_0) (h : tag_Forged.f k l0_0 a0_1 l1_0 a1_1 = some (r1, r2)) :
  Calls Try.prog 15 #[.agg #[.slice A0_0 l0_0.length c0_0, .int .i64 a0_1], .agg #[.slice A1_0 l1_0.length c1_0, .int .i64 a1_1]] w fun e w' => e = .returned (.tuple #[.int .i64 r1, .bool r2]) ∧ Below w.heap.size w w' := by
 have hu28 := Try.underlying28
 have HR0_0 := Aside0.mk hr0_0
 have HC0_0 := Aside0.mk hc0_0
 clear hr0_0 hc0_0
 have HR1_0 := Aside0.mk hr1_0
 have HC1_0 := Aside0.mk hc1_0
 clear hr1_0 hc1_0
 have HB := Aside0.mk (Below.refl w.heap.size w)
 have H : (if (l0_0.length : Int) = 0 then (tag_Forged.j0 k (l0_0.length : Int) true l0_0 a0_1 l1_0 a1_1) else (if (l0_0.length : Int) = (l1_0.length : Int) then ((tag_wild.f a0_1).bind fun t178 => (if t178 = true then (tag_Forged.j0 k (l0_0.length : Int) true l0_0 a0_1 l1_0 a1_1) else ((tag_wild.f a1_1).bind fun t179 => (if t179 = true then (tag_Forged.j0 k (l0_0.length : Int) true l0_0 a0_1 l1_0 a1_1) else ((Ha.tag_ContainsFunc_wild.f l0_0).bind fun t180 => (if t180 = true then (tag_Forged.j0 k (l0_0.length : Int) true l0_0 a0_1 l1_0 a1_1) else ((Ha.tag_ContainsFunc_wild.f l1_0).bind fun t181 => (tag_Forged.j0 k (l0_0.length : Int) t181 l0_0 a0_1 l1_0 a1_1)))))))) else (tag_Forged.j0 k (l0_0.length : Int) true l0_0 a0_1 l1_0 a1_1))) = some (r1, r2) := h
 clear h
 have HC3 := Aside0.mk H
 clear H
 go_enter Try.func15, Try.ntmps15
 go_upto_region 2 with (first | ((with_reducible refine gate_dst (N := 2) rfl ?_); (try (refine gate_guard (by rfl) ?_; dsimp only)); refine box_event ?hg (N := 2) ?hd (cs := #[.slice A0_0 l0_0.length c0_0, .int .i64 a0_1]) (t := 28) ?hr ?_; (case hd => rfl); (case hg => rfl); (case hr => first | (go_simp; done) | (go_simp; rfl)); intro gb176 hg w4 hbox hb; have n0_ := Aside0.mk (below_step P13_7_ hb); have n1_ := Aside0.mk (hbox); have n2_ := Aside0.mk ((by rw [hg]; exact (below_size P13_7_) : w.heap.size ≤ gb176)); have n3_ := Aside0.mk ((by rw [hg]; exact (below_size P13_7_) : w.heap.size ≤ gb176)); clear HB; have HB := n0_; have BK176 := n1_; have GW176 := n2_; have GE176 := n3_; clear n0_ n1_ n2_ n3_ hb hbox hg) | ((with_reducible refine gate_dst (N := 3) rfl ?_); (try (refine gate_guard (by rfl) ?_; dsimp only)); refine box_event ?hg (N := 3) ?hd (cs := #[.slice A1_0 l1_0.length c1_0, .int .i64 a1_1]) (t := 28) ?hr ?_; (case hd => rfl); (case hg => rfl); (case hr => first | (go_simp; done) | (go_simp; rfl)); intro gb177 hg w5 hbox hb; have n0_ := Aside0.mk (bb BK176.out hb); have n1_ := Aside0.mk (below_step P13_4_ hb); have n2_ := Aside0.mk (hbox); have n3_ := Aside0.mk ((by rw [hg]; exact (below_size P13_4_) : w.heap.size ≤ gb177)); have n4_ := Aside0.mk ((by rw [hg]; exact (below_size P13_4_) : w.heap.size ≤ gb177)); have n5_ := Aside0.mk ((by rw [hg]; exact Nat.ne_of_lt (blk_lt (g := gb176) (o := .cells #[.slice A0_0 l0_0.length c0_0, .int .i64 a0_1] 28 (0, 0)) (pB BK176.out)) : gb176 ≠ gb177)); have n6_ := Aside0.mk ((by rw [hg]; exact Nat.ne_of_gt (blk_lt (g := gb176) (o := .cells #[.slice A0_0 l0_0.length c0_0, .int .i64 a0_1] 28 (0, 0)) (pB BK176.out)) : gb177 ≠ gb176)); clear BK176 HB; have BK176 := n0_; have HB := n1_; have BK177 := n2_; have GW177 := n3_; have GE177 := n4_; have NB176_177 := n5_; have NB177_176 := n6_; clear n0_ n1_ n2_ n3_ n4_ n5_ n6_ hb hbox hg; have hnb6 := NB176_177.out; have hnc6 := NB177_176.out; obtain ⟨hcz7_0, hcz7_1⟩ := cz2 BK176.out; have hfz7_0 := blk_frozen BK176.out 0; have hfz7_1 := blk_frozen BK176.out 1))
 (try simp only [Act.put, setIfInBounds_toArray, set_cons_zero, set_cons_succ])
 go_cut [38] (fun v38 wc => ∃ (kq : Nat) (x38_2 : Bool), v38 = .bool x38_2 ∧ Aside0 (tag_Forged.j0 kq (l0_0.length : Int) x38_2 l0_0 a0_1 l1_0 a1_1 = some (r1, r2)) ∧ Aside0 (kq ≤ k) ∧ Aside0 (wc.heap[gb176]? = some (.cells #[(.slice A0_0 l0_0.length c0_0), .int .i64 a0_1] 28 (0, 0))) ∧ Aside0 (wc.heap[gb177]? = some (.cells #[(.slice A1_0 l1_0.length c1_0), .int .i64 a1_1] 28 (0, 0))) ∧ Aside0 (Below w.heap.size w wc))
 case first =>
  have H := HC3.out
  clear HC3
  by_cases c8 : (l0_0.length : Int) = 0
  ·rw [if_pos c8] at H
   have c8b0 : ((l0_0.length : Int) == 0) = true := beq_iff_eq.mpr c8
   have c8b1 : ((l0_0.length : Int) != 0) = false := bne_eq_false_iff_eq.mpr c8
   clear c8
   (first | rw [c8b0] | (simp only [i64_w, i32_w]; rw [c8b0]) | skip)
   have H' := Aside0.mk H
   clear H
   go_wp2
   go_meet
   case rel => exact ⟨_, (true), P13_8_, H', ⟨by first | omega | exact Nat.le_refl _⟩, ⟨pB BK176.out⟩, ⟨pB BK177.out⟩, ⟨P13_1_⟩⟩
  rw [if_neg c8] at H
  have c8b0 : ((l0_0.length : Int) == 0) = false := beq_eq_false_iff_ne.mpr c8
  have c8b1 : ((l0_0.length : Int) != 0) = true := bne_iff_ne.mpr c8
  have c8b2 : ¬ (l0_0 = []) := fun h_ => c8 (by rw [h_]; rfl)
  (first | rw [c8b0] | (simp only [i64_w, i32_w]; rw [c8b0]) | skip)
  by_cases c9 : (l0_0.length : Int) = (l1_0.length : Int)
  rotate_left
  ·rw [if_neg c9] at H
   have c9b0 : ((l0_0.length : Int) == (l1_0.length : Int)) = false := beq_eq_false_iff_ne.mpr c9
   have c9b1 : ((l0_0.length : Int) != (l1_0.length : Int)) = true := bne_iff_ne.mpr c9
   have c9b2 : (l0_0.length == l1_0.length) = false := by first | simpa using c9 | (simp at c9 ⊢; omega)
   have H' := Aside0.mk H
   clear H
   have hnb29 := NB177_176.out
   have hnc29 := NB176_177.out
   obtain ⟨hcz30_0, hcz30_1⟩ := cz2 BK177.out
   have hfz30_0 := blk_frozen BK177.out 0
   have hfz30_1 := blk_frozen BK177.out 1
   go_wp2
   go_meet
   case rel => exact ⟨_, (true), P13_8_, H', ⟨by first | omega | exact Nat.le_refl _⟩, ⟨pB BK176.out⟩, ⟨pB BK177.out⟩, ⟨P13_1_⟩⟩
  rw [if_pos c9] at H
  have c9b0 : ((l0_0.length : Int) == (l1_0.length : Int)) = true := beq_iff_eq.mpr c9
  have c9b1 : ((l0_0.length : Int) != (l1_0.length : Int)) = false := bne_eq_false_iff_eq.mpr c9
  have c9b2 : (l0_0.length == l1_0.length) = true := by first | simpa using c9 | (simp at c9 ⊢; omega)
  clear c9
  replace H := Option.bind_eq_some_iff.mp H
  obtain ⟨t178, A100, H⟩ := H
  replace H : (if t178 = true then (tag_Forged.j0 k (l0_0.length : Int) true l0_0 a0_1 l1_0 a1_1) else ((tag_wild.f a1_1).bind fun t179 => (if t179 = true then (tag_Forged.j0 k (l0_0.length : Int) true l0_0 a0_1 l1_0 a1_1) else ((Ha.tag_ContainsFunc_wild.f l0_0).bind fun t180 => (if t180 = true then (tag_Forged.j0 k (l0_0.length : Int) true l0_0 a0_1 l1_0 a1_1) else ((Ha.tag_ContainsFunc_wild.f l1_0).bind fun t181 => (tag_Forged.j0 k (l0_0.length : Int) t181 l0_0 a0_1 l1_0 a1_1))))))) = some (r1, r2) := H
  have A10 := Aside0.mk A100
  clear A100
  by_cases c11 : t178 = true
  ·subst c11
   have H1 : (tag_Forged.j0 k (l0_0.length : Int) true l0_0 a0_1 l1_0 a1_1) = some (r1, r2) := by rw [if_pos rfl] at H; exact H
   clear H
   have H := H1
   clear H1
   have H' := Aside0.mk H
   clear H
   have hnb12 := NB177_176.out
   have hnc12 := NB176_177.out
   obtain ⟨hcz13_0, hcz13_1⟩ := cz2 BK177.out
   have hfz13_0 := blk_frozen BK177.out 0
   have hfz13_1 := blk_frozen BK177.out 1
   obtain ⟨hcz14_0, hcz14_1⟩ := cz2 BK176.out
   have hfz14_0 := blk_frozen BK176.out 0
   have hfz14_1 := blk_frozen BK176.out 1
   go_wp2_with (first | (go_at_call 21; (with_reducible refine (tag_wild.calls a0_1 true _ A10.out).mono ?_); rintro e w' ⟨rfl, ⟨nd, rfl⟩⟩))
   go_meet
   case rel => exact ⟨_, (true), P13_8_, H', ⟨by first | omega | exact Nat.le_refl _⟩, ⟨pB BK176.out⟩, ⟨pB BK177.out⟩, ⟨P13_1_⟩⟩
  replace c11 := Bool.eq_false_iff.mpr c11
  subst c11
  have H1 : ((tag_wild.f a1_1).bind fun t179 => (if t179 = true then (tag_Forged.j0 k (l0_0.length : Int) true l0_0 a0_1 l1_0 a1_1) else ((Ha.tag_ContainsFunc_wild.f l0_0).bind fun t180 => (if t180 = true then (tag_Forged.j0 k (l0_0.length : Int) true l0_0 a0_1 l1_0 a1_1) else ((Ha.tag_ContainsFunc_wild.f l1_0).bind fun t181 => (tag_Forged.j0 k (l0_0.length : Int) t181 l0_0 a0_1 l1_0 a1_1)))))) = some (r1, r2) := by rw [if_neg (show ¬ (false = true) by decide)] at H; exact H
  clear H
  have H := H1
  clear H1
  replace H := Option.bind_eq_some_iff.mp H
  obtain ⟨t179, A150, H⟩ := H
  replace H : (if t179 = true then (tag_Forged.j0 k (l0_0.length : Int) true l0_0 a0_1 l1_0 a1_1) else ((Ha.tag_ContainsFunc_wild.f l0_0).bind fun t180 => (if t180 = true then (tag_Forged.j0 k (l0_0.length : Int) true l0_0 a0_1 l1_0 a1_1) else ((Ha.tag_ContainsFunc_wild.f l1_0).bind fun t181 => (tag_Forged.j0 k (l0_0.length : Int) t181 l0_0 a0_1 l1_0 a1_1))))) = some (r1, r2) := H
  have A15 := Aside0.mk A150
  clear A150
  by_cases c16 : t179 = true
  ·subst c16
   have H1 : (tag_Forged.j0 k (l0_0.length : Int) true l0_0 a0_1 l1_0 a1_1) = some (r1, r2) := by rw [if_pos rfl] at H; exact H
   clear H
   have H := H1
   clear H1
   have H' := Aside0.mk H
   clear H
   have hnb17 := NB177_176.out
   have hnc17 := NB176_177.out
   obtain ⟨hcz18_0, hcz18_1⟩ := cz2 BK177.out
   have hfz18_0 := blk_frozen BK177.out 0
   have hfz18_1 := blk_frozen BK177.out 1
   obtain ⟨hcz19_0, hcz19_1⟩ := cz2 BK176.out
   have hfz19_0 := blk_frozen BK176.out 0
   have hfz19_1 := blk_frozen BK176.out 1
   go_wp2_with (first | (go_at_call 21; (with_reducible refine (tag_wild.calls a0_1 false _ A10.out).mono ?_); rintro e w' ⟨rfl, ⟨nd, rfl⟩⟩) | (go_at_call 21; (with_reducible refine (tag_wild.calls a1_1 true _ A15.out).mono ?_); rintro e w' ⟨rfl, ⟨nd, rfl⟩⟩))
   go_meet
   case rel => exact ⟨_, (true), P13_8_, H', ⟨by first | omega | exact Nat.le_refl _⟩, ⟨pB BK176.out⟩, ⟨pB BK177.out⟩, ⟨P13_1_⟩⟩
  replace c16 := Bool.eq_false_iff.mpr c16
  subst c16
  have H1 : ((Ha.tag_ContainsFunc_wild.f l0_0).bind fun t180 => (if t180 = true then (tag_Forged.j0 k (l0_0.length : Int) true l0_0 a0_1 l1_0 a1_1) else ((Ha.tag_ContainsFunc_wild.f l1_0).bind fun t181 => (tag_Forged.j0 k (l0_0.length : Int) t181 l0_0 a0_1 l1_0 a1_1)))) = some (r1, r2) := by rw [if_neg (show ¬ (false = true) by decide)] at H; exact H
  clear H
  have H := H1
  clear H1
  replace H := Option.bind_eq_some_iff.mp H
  obtain ⟨t180, A200, H⟩ := H
  replace H : (if t180 = true then (tag_Forged.j0 k (l0_0.length : Int) true l0_0 a0_1 l1_0 a1_1) else ((Ha.tag_ContainsFunc_wild.f l1_0).bind fun t181 => (tag_Forged.j0 k (l0_0.length : Int) t181 l0_0 a0_1 l1_0 a1_1))) = some (r1, r2) := H
  have A20 := Aside0.mk A200
  clear A200
  by_cases c21 : t180 = true
  ·subst c21
   have H1 : (tag_Forged.j0 k (l0_0.length : Int) true l0_0 a0_1 l1_0 a1_1) = some (r1, r2) := by rw [if_pos rfl] at H; exact H
   clear H
   have H := H1
   clear H1
   have H' := Aside0.mk H
   clear H
   have hnb22 := NB177_176.out
   have hnc22 := NB176_177.out
   obtain ⟨hcz23_0, hcz23_1⟩ := cz2 BK177.out
   have hfz23_0 := blk_frozen BK177.out 0
   have hfz23_1 := blk_frozen BK177.out 1
   obtain ⟨hcz24_0, hcz24_1⟩ := cz2 BK176.out
   have hfz24_0 := blk_frozen BK176.out 0
   have hfz24_1 := blk_frozen BK176.out 1
   go_wp2_with (first | (go_at_call 21; (with_reducible refine (tag_wild.calls a0_1 false _ A10.out).mono ?_); rintro e w' ⟨rfl, ⟨nd, rfl⟩⟩) | (go_at_call 21; (with_reducible refine (tag_wild.calls a1_1 false _ A15.out).mono ?_); rintro e w' ⟨rfl, ⟨nd, rfl⟩⟩) | (go_at_call 20; (with_reducible refine (Ha.tag_ContainsFunc_wild.calls _ _ l0_0 true _ ?side1 ?side2 A20.out).mono ?_); (case side1 => repeat (first | exact (Kd.C_below HR0_0.out P13_1_) | (with_reducible refine Kd.C_alloc ?_ _) | (with_reducible refine Kd.C_drewN ?_ _) | (with_reducible refine Kd.C_drew ?_))); (case side2 => exact HC0_0.out); rintro e w' ⟨rfl, ⟨nd, rfl⟩⟩))
   go_meet
   case rel => exact ⟨_, (true), P13_8_, H', ⟨by first | omega | exact Nat.le_refl _⟩, ⟨pB BK176.out⟩, ⟨pB BK177.out⟩, ⟨P13_1_⟩⟩
  replace c21 := Bool.eq_false_iff.mpr c21
  subst c21
  have H1 : ((Ha.tag_ContainsFunc_wild.f l1_0).bind fun t181 => (tag_Forged.j0 k (l0_0.length : Int) t181 l0_0 a0_1 l1_0 a1_1)) = some (r1, r2) := by rw [if_neg (show ¬ (false = true) by decide)] at H; exact H
  clear H
  have H := H1
  clear H1
  replace H := Option.bind_eq_some_iff.mp H
  obtain ⟨t181, A250, H⟩ := H
  replace H : (tag_Forged.j0 k (l0_0.length : Int) t181 l0_0 a0_1 l1_0 a1_1) = some (r1, r2) := H
  have A25 := Aside0.mk A250
  clear A250
  have H' := Aside0.mk H
  clear H
  have hnb26 := NB177_176.out
  have hnc26 := NB176_177.out
  obtain ⟨hcz27_0, hcz27_1⟩ := cz2 BK177.out
  have hfz27_0 := blk_frozen BK177.out 0
  have hfz27_1 := blk_frozen BK177.out 1
  obtain ⟨hcz28_0, hcz28_1⟩ := cz2 BK176.out
  have hfz28_0 := blk_frozen BK176.out 0
  have hfz28_1 := blk_frozen BK176.out 1
  go_wp2_with (first | (go_at_call 21; (with_reducible refine (tag_wild.calls a0_1 false _ A10.out).mono ?_); rintro e w' ⟨rfl, ⟨nd, rfl⟩⟩) | (go_at_call 21; (with_reducible refine (tag_wild.calls a1_1 false _ A15.out).mono ?_); rintro e w' ⟨rfl, ⟨nd, rfl⟩⟩) | (go_at_call 20; (with_reducible refine (Ha.tag_ContainsFunc_wild.calls _ _ l0_0 false _ ?side1 ?side2 A20.out).mono ?_); (case side1 => repeat (first | exact (Kd.C_below HR0_0.out P13_1_) | (with_reducible refine Kd.C_alloc ?_ _) | (with_reducible refine Kd.C_drewN ?_ _) | (with_reducible refine Kd.C_drew ?_))); (case side2 => exact HC0_0.out); rintro e w' ⟨rfl, ⟨nd, rfl⟩⟩) | (go_at_call 20; (with_reducible refine (Ha.tag_ContainsFunc_wild.calls _ _ l1_0 t181 _ ?side1 ?side2 A25.out).mono ?_); (case side1 => repeat (first | exact (Kd.C_below HR1_0.out P13_1_) | (with_reducible refine Kd.C_alloc ?_ _) | (with_reducible refine Kd.C_drewN ?_ _) | (with_reducible refine Kd.C_drew ?_))); (case side2 => exact HC1_0.out); rintro e w' ⟨rfl, ⟨nd, rfl⟩⟩))
  go_meet
  case rel => exact ⟨_, (t181), P13_8_, H', ⟨by first | omega | exact Nat.le_refl _⟩, ⟨pB BK176.out⟩, ⟨pB BK177.out⟩, ⟨P13_1_⟩⟩
 clear HC3
 obtain ⟨kq, x38_2, rfl, HA, HJ2, BK176, BK177, HB⟩ := hcut
 rcases kq with _ | kj2
 ·exact absurd HA.out (by simp [tag_Forged.j0])
 have H := HA.out
 clear HA
 simp only [tag_Forged.j0] at H
 by_cases c31 : x38_2 = true
 ·subst c31
  have H1 : (some (0, false)) = some (r1, r2) := by rw [if_pos rfl] at H; exact H
  clear H
  have H := H1
  clear H1
  simp only [Option.some.injEq, Prod.mk.injEq] at H
  obtain ⟨rfl, rfl⟩ := H
  go_wp2
  go_ret2
  exact ⟨P13_5_, P13_1_⟩
 replace c31 := Bool.eq_false_iff.mpr c31
 subst c31
 have H1 : ((slices_Equal_int_int.f kj2 l0_0 l1_0).bind fun t182 => (if t182 = true then (if a0_1 = a1_1 then (some ((l0_0.length : Int), true)) else (some (0, false))) else (some (wrap64 ((l0_0.length : Int) - 1), true)))) = some (r1, r2) := by rw [if_neg (show ¬ (false = true) by decide)] at H; exact H
 clear H
 have H := H1
 clear H1
 replace H := Option.bind_eq_some_iff.mp H
 obtain ⟨t182, A320, H⟩ := H
 replace H : (if t182 = true then (if a0_1 = a1_1 then (some ((l0_0.length : Int), true)) else (some (0, false))) else (some (wrap64 ((l0_0.length : Int) - 1), true))) = some (r1, r2) := H
 have A32 := Aside0.mk A320
 clear A320
 by_cases c33 : t182 = true
 ·subst c33
  have H1 : (if a0_1 = a1_1 then (some ((l0_0.length : Int), true)) else (some (0, false))) = some (r1, r2) := by rw [if_pos rfl] at H; exact H
  clear H
  have H := H1
  clear H1
  by_cases c34 : a0_1 = a1_1
  ·rw [if_pos c34] at H
   have c34b0 : (a0_1 == a1_1) = true := beq_iff_eq.mpr c34
   have c34b1 : (a0_1 != a1_1) = false := bne_eq_false_iff_eq.mpr c34
   clear c34
   simp only [Option.some.injEq, Prod.mk.injEq] at H
   obtain ⟨rfl, rfl⟩ := H
   have hnb35 := NB176_177.out
   have hnc35 := NB177_176.out
   obtain ⟨hcz36_0, hcz36_1⟩ := cz2 BK176.out
   have hfz36_0 := blk_frozen BK176.out 0
   have hfz36_1 := blk_frozen BK176.out 1
   obtain ⟨hcz37_0, hcz37_1⟩ := cz2 BK177.out
   have hfz37_0 := blk_frozen BK177.out 0
   have hfz37_1 := blk_frozen BK177.out 1
   go_wp2_with (first | ((with_reducible refine gate_callee (f := 28) rfl ?_); refine goesL_ (some 44) rfl rfl Try.func28 (by kernel_rfl) rfl #[.slice A0_0 l0_0.length c0_0, .slice A1_0 l1_0.length c1_0] rfl P13_6_ ?_; (with_reducible refine (slices_Equal_int_int.calls kj2 _ _ l0_0 _ _ l1_0 true _ ?side1 ?side2 ?side3 ?side4 A32.out).mono ?_); (case side1 => exact P13_2_); (case side2 => exact HC0_0.out); (case side3 => exact P13_3_); (case side4 => exact HC1_0.out); rintro e w' ⟨rfl, ⟨nd, rfl⟩⟩; refine ⟨_, rfl, ?_⟩))
   go_ret2
   exact ⟨P13_5_, P13_1_⟩
  rw [if_neg c34] at H
  have c34b0 : (a0_1 == a1_1) = false := beq_eq_false_iff_ne.mpr c34
  have c34b1 : (a0_1 != a1_1) = true := bne_iff_ne.mpr c34
  simp only [Option.some.injEq, Prod.mk.injEq] at H
  obtain ⟨rfl, rfl⟩ := H
  have hnb38 := NB176_177.out
  have hnc38 := NB177_176.out
  obtain ⟨hcz39_0, hcz39_1⟩ := cz2 BK176.out
  have hfz39_0 := blk_frozen BK176.out 0
  have hfz39_1 := blk_frozen BK176.out 1
  obtain ⟨hcz40_0, hcz40_1⟩ := cz2 BK177.out
  have hfz40_0 := blk_frozen BK177.out 0
  have hfz40_1 := blk_frozen BK177.out 1
  go_wp2_with (first | ((with_reducible refine gate_callee (f := 28) rfl ?_); refine goesL_ (some 44) rfl rfl Try.func28 (by kernel_rfl) rfl #[.slice A0_0 l0_0.length c0_0, .slice A1_0 l1_0.length c1_0] rfl P13_6_ ?_; (with_reducible refine (slices_Equal_int_int.calls kj2 _ _ l0_0 _ _ l1_0 true _ ?side1 ?side2 ?side3 ?side4 A32.out).mono ?_); (case side1 => exact P13_2_); (case side2 => exact HC0_0.out); (case side3 => exact P13_3_); (case side4 => exact HC1_0.out); rintro e w' ⟨rfl, ⟨nd, rfl⟩⟩; refine ⟨_, rfl, ?_⟩))
  go_ret2
  exact ⟨P13_5_, P13_1_⟩
 replace c33 := Bool.eq_false_iff.mpr c33
 subst c33
 have H1 : (some (wrap64 ((l0_0.length : Int) - 1), true)) = some (r1, r2) := by rw [if_neg (show ¬ (false = true) by decide)] at H; exact H
 clear H
 have H := H1
 clear H1
 simp only [Option.some.injEq, Prod.mk.injEq] at H
 obtain ⟨rfl, rfl⟩ := H
 have hnb41 := NB176_177.out
 have hnc41 := NB177_176.out
 obtain ⟨hcz42_0, hcz42_1⟩ := cz2 BK176.out
 have hfz42_0 := blk_frozen BK176.out 0
 have hfz42_1 := blk_frozen BK176.out 1
 obtain ⟨hcz43_0, hcz43_1⟩ := cz2 BK177.out
 have hfz43_0 := blk_frozen BK177.out 0
 have hfz43_1 := blk_frozen BK177.out 1
 go_wp2_with (first | ((with_reducible refine gate_callee (f := 28) rfl ?_); refine goesL_ (some 44) rfl rfl Try.func28 (by kernel_rfl) rfl #[.slice A0_0 l0_0.length c0_0, .slice A1_0 l1_0.length c1_0] rfl P13_6_ ?_; (with_reducible refine (slices_Equal_int_int.calls kj2 _ _ l0_0 _ _ l1_0 false _ ?side1 ?side2 ?side3 ?side4 A32.out).mono ?_); (case side1 => exact P13_2_); (case side2 => exact HC0_0.out); (case side3 => exact P13_3_); (case side4 => exact HC1_0.out); rintro e w' ⟨rfl, ⟨nd, rfl⟩⟩; refine ⟨_, rfl, ?_⟩))
 go_ret2
 exact ⟨P13_5_, P13_1_⟩

end Go.Proofs.Ytekkjikmcnndoaa.P
