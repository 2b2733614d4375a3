/- The functions that the statements about package tag reach, as plain Lean functions, and that the Go functions answer as these do; for every input within the sizes that the functions state. -/
import Derived.Test.YtekkjikmcnndoaaP0
import Derived.Test.YtekkjikmcnndoaaSq
namespace Go.Proofs.Ytekkjikmcnndoaa.P
open Go.RowKit Go.Proofs.YtekkjikmcnndoaaW.PrintWords Go.Proofs.YtekkjikmcnndoaaW.PrintLast Go.Proofs.YtekkjikmcnndoaaW.PrintMore Go.Proofs.YtekkjikmcnndoaaSq
open List (setIfInBounds_toArray set_cons_zero set_cons_succ)
attribute [local go_sem] max2_int min2_int max_two min_two max_three min_three max_four min_four   -- for this text's walks alone
set_option linter.unusedVariables false
set_option linter.unusedSimpArgs false

/-! ### quietuslaw43_few: function 6 -/
mutual
def quietuslaw43_few.j0 : Nat → Bool → List Int → List Int → List ByteArray → List Int → List (S60) → List Int → Int → Option (Bool)
 | 0, _, _, _, _, _, _, _, _ => none
 | k + 1, x42, x258000, x258001, x258002, x258003, x258004, x258005, x258006 => if x42 = true then (some false) else (quietuslaw43_few.l0 k 0 x258002 (x258002.length : Int) 0)
def quietuslaw43_few.l0 : Nat → Int → List ByteArray → Int → Int → Option (Bool)
 | 0, _, _, _, _ => none
 | k + 1, x3, x44, x45, x46 => if x46 < x45 then (if 0 ≤ x46 then (if x46 < (x44.length : Int) then (quietuslaw43_few.l0 k (wrap64 (x3 + ((rdOf ByteArray.empty x44 x46).size : Int))) x44 x45 (wrap64 (x46 + 1))) else (none)) else (none)) else (some (decide (x3 ≤ 2000)))
end
def quietuslaw43_few.f (k : Nat) (l0_0 : List Int) (l0_1 : List Int) (l0_2 : List ByteArray) (l0_3 : List Int) (l0_4 : List (S60)) (l0_5 : List Int) (a0_6 : Int) : Option (Bool) := if (l0_0.length : Int) > 70 then (quietuslaw43_few.j0 k true l0_0 l0_1 l0_2 l0_3 l0_4 l0_5 a0_6) else (if (l0_1.length : Int) > 205 then (quietuslaw43_few.j0 k true l0_0 l0_1 l0_2 l0_3 l0_4 l0_5 a0_6) else (if (l0_2.length : Int) > 205 then (quietuslaw43_few.j0 k true l0_0 l0_1 l0_2 l0_3 l0_4 l0_5 a0_6) else (if (l0_3.length : Int) > 205 then (quietuslaw43_few.j0 k true l0_0 l0_1 l0_2 l0_3 l0_4 l0_5 a0_6) else (if (l0_4.length : Int) > 40 then (quietuslaw43_few.j0 k true l0_0 l0_1 l0_2 l0_3 l0_4 l0_5 a0_6) else (quietuslaw43_few.j0 k (decide ((l0_5.length : Int) > 70)) l0_0 l0_1 l0_2 l0_3 l0_4 l0_5 a0_6)))))
theorem quietuslaw43_few.mono_l : ∀ k, (∀ y0 y1 y2 y3 y4 y5 y6 y7, LeO (quietuslaw43_few.j0 k y0 y1 y2 y3 y4 y5 y6 y7) (quietuslaw43_few.j0 (k + 1) y0 y1 y2 y3 y4 y5 y6 y7)) ∧ (∀ y0 y1 y2 y3, LeO (quietuslaw43_few.l0 k y0 y1 y2 y3) (quietuslaw43_few.l0 (k + 1) y0 y1 y2 y3))
 | 0 => ⟨fun _ _ _ _ _ _ _ _ r h => by simp [quietuslaw43_few.j0] at h, fun _ _ _ _ r h => by simp [quietuslaw43_few.l0] at h⟩
 | k + 1 => by
  obtain ⟨ih0, ih1⟩ := quietuslaw43_few.mono_l k
  refine ⟨?_, ?_⟩
  all_goals
   intros
   first | unfold quietuslaw43_few.j0 | unfold quietuslaw43_few.l0
   repeat' first
   | (with_reducible exact ih0 ..)
   | (with_reducible exact ih1 ..)
   | (with_reducible exact LeO.refl ..)
   | (with_reducible exact LeO.none ..)
   | (with_reducible refine LeO.ite ?_ ?_)
   | (with_reducible refine LeO.bind ?_ (fun _ => ?_))
   | exact ih0 ..
   | exact ih1 ..
   | exact LeO.none ..
   | refine LeO.ite ?_ ?_
   | refine LeO.bind ?_ (fun _ => ?_)
theorem quietuslaw43_few.mono : ∀ a0 a1 a2 a3 a4 a5 a6 k, LeO (quietuslaw43_few.f k a0 a1 a2 a3 a4 a5 a6) (quietuslaw43_few.f (k + 1) a0 a1 a2 a3 a4 a5 a6) := by
 intro a0 a1 a2 a3 a4 a5 a6 k
 obtain ⟨ih0, ih1⟩ := quietuslaw43_few.mono_l k
 unfold quietuslaw43_few.f
 repeat' first
   | (with_reducible exact ih0 _ _ _ _ _ _ _ _)
   | (with_reducible exact ih1 _ _ _ _)
   | (with_reducible exact LeO.refl _)
   | (with_reducible exact LeO.none _)
   | (with_reducible refine LeO.ite ?_ ?_)
   | (with_reducible refine LeO.bind ?_ (fun _ => ?_))
   | exact ih0 _ _ _ _ _ _ _ _
   | exact ih1 _ _ _ _
   | exact LeO.none _
   | refine LeO.ite ?_ ?_
   | refine LeO.bind ?_ (fun _ => ?_)
theorem P21_1_ {P : Prop} (h : P := by repeat (first | (with_reducible first | exact HB.out | apply below_alloc | apply pw_below_drewN | apply below_drew1 | refine below_set ?_ GE257.out) | exact HB.out)) : P := h
theorem P21_2_ {P : Prop} (h : P := by first | rfl | (simp; done) | (simp [*]; done)) : P := h
theorem P21_3_ {P : Prop} (h : P := by repeat (first | (with_reducible first | exact HB.out | apply below_alloc | apply pw_below_drewN | apply below_drew1) | exact HB.out)) : P := h
set_option maxHeartbeats 8000000 in
set_option maxRecDepth 100000 in
theorem quietuslaw43_few.calls (k : Nat) (A0_0 : Option Addr) (c0_0 : Nat) (l0_0 : List Int) (A0_1 : Option Addr) (c0_1 : Nat) (l0_1 : List Int) (A0_2 : Option Addr) (c0_2 : Nat) (l0_2 : List ByteArray) (A0_3 : Option Addr) (c0_3 : Nat) (l0_3 : List Int) (A0_4 : Option Addr) (c0_4 : Nat) (l0_4 : List (S60)) (A0_5 : Option Addr) (c0_5 : Nat) (l0_5 : List Int) (a0_6 : Int) (r : Bool) (w : World) (hr0_0 : Kd.C (Kd.int .i64) w A0_0 l0_0.length l0_0) (hc0_0 : l0_0.length ≤ c0_0) (hr0_1 : Kd.C (Kd.int .i64) w A0_1 l0_1.length l0_1) (hc0_1 : l0_1.length ≤ c0_1) (hr0_2 : Kd.C Kd.string w A0_2 l0_2.length l0_2) (hc0_2 : l0_2.length ≤ c0_2) (hr0_3 : Kd.C (Kd.int .i64) w A0_3 l0_3.length l0_3) (hc0_3 : l0_3.length ≤ c0_3) (hr0_4 : Kd.C k60 w A0_4 l0_4.length l0_4) (hc0_4 : l0_4.length ≤ c0_4) (hr0_5 : Kd.C (Kd.int .i64) w A0_5 l0_5.length l0_5) (hc0_5 : l0_5.length ≤ c0_5) (h : quietuslaw43_few.f k l0_0 l0_1 l0_2 l0_3 l0_4 l0_5 a0_6 = some r) :
  Calls Try.prog 6 #[.agg #[.slice A0_0 l0_0.length c0_0, .slice A0_1 l0_1.length c0_1, .slice A0_2 l0_2.length c0_2, .slice A0_3 l0_3.length c0_3, .slice A0_4 l0_4.length c0_4, .slice A0_5 l0_5.length c0_5, .int .i64 a0_6]] w fun e w' => e = .returned (.bool r) ∧ Below w.heap.size w w' := by
 have hu30 := Try.underlying30
 have HR0_0 := Aside0.mk hr0_0
 have HC0_0 := Aside0.mk hc0_0
 clear hr0_0 hc0_0
 have HR0_1 := Aside0.mk hr0_1
 have HC0_1 := Aside0.mk hc0_1
 clear hr0_1 hc0_1
 have HR0_2 := Aside0.mk hr0_2
 have HC0_2 := Aside0.mk hc0_2
 clear hr0_2 hc0_2
 have HR0_3 := Aside0.mk hr0_3
 have HC0_3 := Aside0.mk hc0_3
 clear hr0_3 hc0_3
 have HR0_4 := Aside0.mk hr0_4
 have HC0_4 := Aside0.mk hc0_4
 clear hr0_4 hc0_4
 have HR0_5 := Aside0.mk hr0_5
 have HC0_5 := Aside0.mk hc0_5
 clear hr0_5 hc0_5
 have HB := Aside0.mk (Below.refl w.heap.size w)
 have H : (if (l0_0.length : Int) > 70 then (quietuslaw43_few.j0 k true l0_0 l0_1 l0_2 l0_3 l0_4 l0_5 a0_6) else (if (l0_1.length : Int) > 205 then (quietuslaw43_few.j0 k true l0_0 l0_1 l0_2 l0_3 l0_4 l0_5 a0_6) else (if (l0_2.length : Int) > 205 then (quietuslaw43_few.j0 k true l0_0 l0_1 l0_2 l0_3 l0_4 l0_5 a0_6) else (if (l0_3.length : Int) > 205 then (quietuslaw43_few.j0 k true l0_0 l0_1 l0_2 l0_3 l0_4 l0_5 a0_6) else (if (l0_4.length : Int) > 40 then (quietuslaw43_few.j0 k true l0_0 l0_1 l0_2 l0_3 l0_4 l0_5 a0_6) else (quietuslaw43_few.j0 k (decide ((l0_5.length : Int) > 70)) l0_0 l0_1 l0_2 l0_3 l0_4 l0_5 a0_6)))))) = some r := h
 clear h
 have HC2 := Aside0.mk H
 clear H
 go_enter Try.func6, Try.ntmps6
 go_upto_region 1 with (first | ((with_reducible refine gate_dst (N := 1) rfl ?_); (try (refine gate_guard (by rfl) ?_; dsimp only)); refine box_event ?hg (N := 1) ?hd (cs := #[.slice A0_0 l0_0.length c0_0, .slice A0_1 l0_1.length c0_1, .slice A0_2 l0_2.length c0_2, .slice A0_3 l0_3.length c0_3, .slice A0_4 l0_4.length c0_4, .slice A0_5 l0_5.length c0_5, .int .i64 a0_6]) (t := 30) ?hr ?_; (case hd => rfl); (case hg => rfl); (case hr => first | (go_simp; done) | (go_simp; rfl)); intro gb257 hg w3 hbox hb; have n0_ := Aside0.mk (below_step P21_3_ hb); have n1_ := Aside0.mk (hbox); have n2_ := Aside0.mk ((by rw [hg]; exact (below_size P21_3_) : w.heap.size ≤ gb257)); have n3_ := Aside0.mk ((by rw [hg]; exact (below_size P21_3_) : w.heap.size ≤ gb257)); clear HB; have HB := n0_; have BK257 := n1_; have GW257 := n2_; have GE257 := n3_; clear n0_ n1_ n2_ n3_ hb hbox hg))
 (try simp only [Act.put, setIfInBounds_toArray, set_cons_zero, set_cons_succ])
 go_cut [42] (fun v42 wc => ∃ (kq : Nat) (x42_1 : Bool), v42 = .bool x42_1 ∧ Aside0 (quietuslaw43_few.j0 kq x42_1 l0_0 l0_1 l0_2 l0_3 l0_4 l0_5 a0_6 = some r) ∧ Aside0 (kq ≤ k) ∧ Aside0 (wc.heap[gb257]? = some (.cells #[(.slice A0_0 l0_0.length c0_0), (.slice A0_1 l0_1.length c0_1), (.slice A0_2 l0_2.length c0_2), (.slice A0_3 l0_3.length c0_3), (.slice A0_4 l0_4.length c0_4), (.slice A0_5 l0_5.length c0_5), .int .i64 a0_6] 30 (0, 0))) ∧ Aside0 (Below w.heap.size w wc))
 case first =>
  have H := HC2.out
  clear HC2
  by_cases c4 : (l0_0.length : Int) > 70
  ·rw [if_pos c4] at H
   have c4b0 : decide (70 < (l0_0.length : Int)) = true := decide_eq_true c4
   have c4b1 : decide (70 < l0_0.length) = true := decide_eq_true (by omega)
   clear c4
   (first | rw [c4b0] | (simp only [i64_w, i32_w]; rw [c4b0]) | skip)
   have H' := Aside0.mk H
   clear H
   obtain ⟨hcz5_0, hcz5_1, hcz5_2, hcz5_3, hcz5_4, hcz5_5, hcz5_6⟩ := cz7 BK257.out
   have hfz5_0 := blk_frozen BK257.out 0
   have hfz5_1 := blk_frozen BK257.out 1
   have hfz5_2 := blk_frozen BK257.out 2
   have hfz5_3 := blk_frozen BK257.out 3
   have hfz5_4 := blk_frozen BK257.out 4
   have hfz5_5 := blk_frozen BK257.out 5
   have hfz5_6 := blk_frozen BK257.out 6
   go_wp2
   go_meet
   case rel => exact ⟨_, (true), P21_2_, H', ⟨by first | omega | exact Nat.le_refl _⟩, ⟨pB BK257.out⟩, ⟨P21_1_⟩⟩
  rw [if_neg c4] at H
  have c4b0 : decide (70 < (l0_0.length : Int)) = false := decide_eq_false c4
  have c4b1 : decide (70 < l0_0.length) = false := decide_eq_false (by omega)
  clear c4
  (first | rw [c4b0] | (simp only [i64_w, i32_w]; rw [c4b0]) | skip)
  by_cases c6 : (l0_1.length : Int) > 205
  ·rw [if_pos c6] at H
   have c6b0 : decide (205 < (l0_1.length : Int)) = true := decide_eq_true c6
   have c6b1 : decide (205 < l0_1.length) = true := decide_eq_true (by omega)
   clear c6
   have H' := Aside0.mk H
   clear H
   obtain ⟨hcz7_0, hcz7_1, hcz7_2, hcz7_3, hcz7_4, hcz7_5, hcz7_6⟩ := cz7 BK257.out
   have hfz7_0 := blk_frozen BK257.out 0
   have hfz7_1 := blk_frozen BK257.out 1
   have hfz7_2 := blk_frozen BK257.out 2
   have hfz7_3 := blk_frozen BK257.out 3
   have hfz7_4 := blk_frozen BK257.out 4
   have hfz7_5 := blk_frozen BK257.out 5
   have hfz7_6 := blk_frozen BK257.out 6
   go_wp2
   go_meet
   case rel => exact ⟨_, (true), P21_2_, H', ⟨by first | omega | exact Nat.le_refl _⟩, ⟨pB BK257.out⟩, ⟨P21_1_⟩⟩
  rw [if_neg c6] at H
  have c6b0 : decide (205 < (l0_1.length : Int)) = false := decide_eq_false c6
  have c6b1 : decide (205 < l0_1.length) = false := decide_eq_false (by omega)
  clear c6
  by_cases c8 : (l0_2.length : Int) > 205
  ·rw [if_pos c8] at H
   have c8b0 : decide (205 < (l0_2.length : Int)) = true := decide_eq_true c8
   have c8b1 : decide (205 < l0_2.length) = true := decide_eq_true (by omega)
   clear c8
   have H' := Aside0.mk H
   clear H
   obtain ⟨hcz9_0, hcz9_1, hcz9_2, hcz9_3, hcz9_4, hcz9_5, hcz9_6⟩ := cz7 BK257.out
   have hfz9_0 := blk_frozen BK257.out 0
   have hfz9_1 := blk_frozen BK257.out 1
   have hfz9_2 := blk_frozen BK257.out 2
   have hfz9_3 := blk_frozen BK257.out 3
   have hfz9_4 := blk_frozen BK257.out 4
   have hfz9_5 := blk_frozen BK257.out 5
   have hfz9_6 := blk_frozen BK257.out 6
   go_wp2
   go_meet
   case rel => exact ⟨_, (true), P21_2_, H', ⟨by first | omega | exact Nat.le_refl _⟩, ⟨pB BK257.out⟩, ⟨P21_1_⟩⟩
  rw [if_neg c8] at H
  have c8b0 : decide (205 < (l0_2.length : Int)) = false := decide_eq_false c8
  have c8b1 : decide (205 < l0_2.length) = false := decide_eq_false (by omega)
  clear c8
  by_cases c10 : (l0_3.length : Int) > 205
  ·rw [if_pos c10] at H
   have c10b0 : decide (205 < (l0_3.length : Int)) = true := decide_eq_true c10
   have c10b1 : decide (205 < l0_3.length) = true := decide_eq_true (by omega)
   clear c10
   have H' := Aside0.mk H
   clear H
   obtain ⟨hcz11_0, hcz11_1, hcz11_2, hcz11_3, hcz11_4, hcz11_5, hcz11_6⟩ := cz7 BK257.out
   have hfz11_0 := blk_frozen BK257.out 0
   have hfz11_1 := blk_frozen BK257.out 1
   have hfz11_2 := blk_frozen BK257.out 2
   have hfz11_3 := blk_frozen BK257.out 3
   have hfz11_4 := blk_frozen BK257.out 4
   have hfz11_5 := blk_frozen BK257.out 5
   have hfz11_6 := blk_frozen BK257.out 6
   go_wp2
   go_meet
   case rel => exact ⟨_, (true), P21_2_, H', ⟨by first | omega | exact Nat.le_refl _⟩, ⟨pB BK257.out⟩, ⟨P21_1_⟩⟩
  rw [if_neg c10] at H
  have c10b0 : decide (205 < (l0_3.length : Int)) = false := decide_eq_false c10
  have c10b1 : decide (205 < l0_3.length) = false := decide_eq_false (by omega)
  clear c10
  by_cases c12 : (l0_4.length : Int) > 40
  ·rw [if_pos c12] at H
   have c12b0 : decide (40 < (l0_4.length : Int)) = true := decide_eq_true c12
   have c12b1 : decide (40 < l0_4.length) = true := decide_eq_true (by omega)
   clear c12
   have H' := Aside0.mk H
   clear H
   obtain ⟨hcz13_0, hcz13_1, hcz13_2, hcz13_3, hcz13_4, hcz13_5, hcz13_6⟩ := cz7 BK257.out
   have hfz13_0 := blk_frozen BK257.out 0
   have hfz13_1 := blk_frozen BK257.out 1
   have hfz13_2 := blk_frozen BK257.out 2
   have hfz13_3 := blk_frozen BK257.out 3
   have hfz13_4 := blk_frozen BK257.out 4
   have hfz13_5 := blk_frozen BK257.out 5
   have hfz13_6 := blk_frozen BK257.out 6
   go_wp2
   go_meet
   case rel => exact ⟨_, (true), P21_2_, H', ⟨by first | omega | exact Nat.le_refl _⟩, ⟨pB BK257.out⟩, ⟨P21_1_⟩⟩
  rw [if_neg c12] at H
  have c12b0 : decide (40 < (l0_4.length : Int)) = false := decide_eq_false c12
  have c12b1 : decide (40 < l0_4.length) = false := decide_eq_false (by omega)
  clear c12
  have H' := Aside0.mk H
  clear H
  obtain ⟨hcz14_0, hcz14_1, hcz14_2, hcz14_3, hcz14_4, hcz14_5, hcz14_6⟩ := cz7 BK257.out
  have hfz14_0 := blk_frozen BK257.out 0
  have hfz14_1 := blk_frozen BK257.out 1
  have hfz14_2 := blk_frozen BK257.out 2
  have hfz14_3 := blk_frozen BK257.out 3
  have hfz14_4 := blk_frozen BK257.out 4
  have hfz14_5 := blk_frozen BK257.out 5
  have hfz14_6 := blk_frozen BK257.out 6
  go_wp2
  go_meet
  case rel => exact ⟨_, (decide ((l0_5.length : Int) > 70)), P21_2_, H', ⟨by first | omega | exact Nat.le_refl _⟩, ⟨pB BK257.out⟩, ⟨P21_1_⟩⟩
 clear HC2
 obtain ⟨kq, x42_1, rfl, HA, HJ1, BK257, HB⟩ := hcut
 rcases kq with _ | kj1
 ·exact absurd HA.out (by simp [quietuslaw43_few.j0])
 have H := HA.out
 clear HA
 simp only [quietuslaw43_few.j0] at H
 by_cases c15 : x42_1 = true
 ·subst c15
  rw [if_pos rfl] at H
  obtain rfl := Option.some.inj H
  go_wp2
  go_ret
  exact ⟨by first | rfl | (simp [errW_none, errW_some] <;> rfl) | (simp [*, errW_none, errW_some] <;> rfl), P21_1_⟩
 replace c15 := Bool.eq_false_iff.mpr c15
 subst c15
 rw [if_neg (show ¬ (false = true) by decide)] at H
 have H' := Aside0.mk H
 clear H
 obtain ⟨hcz16_0, hcz16_1, hcz16_2, hcz16_3, hcz16_4, hcz16_5, hcz16_6⟩ := cz7 BK257.out
 have hfz16_0 := blk_frozen BK257.out 0
 have hfz16_1 := blk_frozen BK257.out 1
 have hfz16_2 := blk_frozen BK257.out 2
 have hfz16_3 := blk_frozen BK257.out 3
 have hfz16_4 := blk_frozen BK257.out 4
 have hfz16_5 := blk_frozen BK257.out 5
 have hfz16_6 := blk_frozen BK257.out 6
 go_wp2
 go_loopg [3, 46] kj1 (fun kq v3 v46 w' => ∃ (x3_2 : Int) (x46_2 : Int), v3 = .int .i64 x3_2 ∧ v46 = .int .i64 x46_2 ∧ Aside0 (quietuslaw43_few.l0 kq x3_2 l0_2 (l0_2.length : Int) x46_2 = some r) ∧ Aside0 (kq ≤ kj1) ∧ Aside0 (w'.heap[gb257]? = some (.cells #[(.slice A0_0 l0_0.length c0_0), (.slice A0_1 l0_1.length c0_1), (.slice A0_2 l0_2.length c0_2), (.slice A0_3 l0_3.length c0_3), (.slice A0_4 l0_4.length c0_4), (.slice A0_5 l0_5.length c0_5), .int .i64 a0_6] 30 (0, 0))) ∧ Aside0 (Below w.heap.size w w'))
 case atStart => exact ⟨(0), (0), P21_2_, P21_2_, H', ⟨Nat.le_refl _⟩, ⟨pB BK257.out⟩, ⟨P21_1_⟩⟩
 case round =>
  clear H'
  obtain ⟨x3_2, x46_2, rfl, rfl, HA, HK2, BK257, HB⟩ := hrel
  rcases gk with _ | k2
  ·exact absurd HA.out (by simp [quietuslaw43_few.l0])
  have H := HA.out
  clear HA
  simp only [quietuslaw43_few.l0] at H
  by_cases c17 : x46_2 < (l0_2.length : Int)
  rotate_left
  ·rw [if_neg c17] at H
   have c17b0 : decide (x46_2 < (l0_2.length : Int)) = false := decide_eq_false c17
   clear c17
   obtain rfl := Option.some.inj H
   go_wp2
   go_ret
   exact ⟨by first | rfl | (simp [errW_none, errW_some] <;> rfl) | (simp [*, errW_none, errW_some] <;> rfl), P21_1_⟩
  rw [if_pos c17] at H
  have c17b0 : decide (x46_2 < (l0_2.length : Int)) = true := decide_eq_true c17
  clear c17
  by_cases c18 : 0 ≤ x46_2
  rotate_left
  ·rw [if_neg c18] at H
   exact absurd H (by simp)
  rw [if_pos c18] at H
  have c18b0 : decide (0 ≤ x46_2) = true := decide_eq_true c18
  clear c18
  by_cases c19 : x46_2 < (l0_2.length : Int)
  rotate_left
  ·rw [if_neg c19] at H
   exact absurd H (by simp)
  rw [if_pos c19] at H
  have c19b0 : decide (x46_2 < (l0_2.length : Int)) = true := decide_eq_true c19
  clear c19
  have H' := Aside0.mk H
  clear H
  have p258 : 0 ≤ (x46_2 : Int) := of_decide_eq_true (by first | (with_reducible assumption) | assumption)
  have q258 : x46_2 < (l0_2.length : Int) := of_decide_eq_true (by first | (with_reducible assumption) | assumption)
  obtain ⟨ad258, e258, hx258_0⟩ := Kd.at_string HR0_2.out x46_2 p258 q258
  cases e258
  replace hx258_0 := (HB.out.cell (World.block_lt_of_cell? w _ hx258_0)).trans hx258_0
  replace p258 := eq_true p258
  replace q258 := eq_true q258
  go_wp2
  go_roundg k2
  case measure => have := HJ1.out; have := HK2.out; omega
  case rel => exact ⟨(wrap64 (x3_2 + ((rdOf ByteArray.empty l0_2 x46_2).size : Int))), (wrap64 (x46_2 + 1)), P21_2_, P21_2_, H', ⟨by have := HJ1.out; have := HK2.out; omega⟩, ⟨pB BK257.out⟩, ⟨P21_1_⟩⟩

end Go.Proofs.Ytekkjikmcnndoaa.P
