/- The law TagsCountForgeries: that the Go function answers as the plain one; its first half (the loop over both values: the text before). No conditions beyond its sizes. -/
import Derived.Test.YtekkjikmcnndoaaLc4
namespace Go.Proofs.Ytekkjikmcnndoaa.Lc
open Go.RowKit Go.Proofs.YtekkjikmcnndoaaW.PrintWords Go.Proofs.YtekkjikmcnndoaaW.PrintLast Go.Proofs.YtekkjikmcnndoaaW.PrintMore Go.Proofs.Ytekkjikmcnndoaa.P Go.Proofs.YtekkjikmcnndoaaSq
open List (setIfInBounds_toArray set_cons_zero set_cons_succ)
attribute [local go_sem] max2_int min2_int max_two min_two max_three min_three max_four min_four   -- for this text's walks alone
set_option linter.unusedVariables false
set_option linter.unusedSimpArgs false
theorem code_eq {P : Program} {C C' : Code} {Q : Exit → Act → World → Prop} {a : Act} {w : World} (h : C = C') (k : Code.wp P C' Q a w) : Code.wp P C Q a w := h ▸ k
theorem cont_eq {P : Program} {C C' : Code} {Q : Exit → Act → World → Prop} {K : Act → World → Prop} (k : ∀ a w, Code.wp P C Q a w → K a w) (h : C = C') : ∀ a w, Code.wp P C' Q a w → K a w := h ▸ k
set_option maxHeartbeats 8000000 in
set_option maxRecDepth 100000 in
theorem quietuslaw43_TagsCountForgeries.calls (k : Nat) (A0_0 : Option Addr) (c0_0 : Nat) (l0_0 : List Int) (A0_1 : Option Addr) (c0_1 : Nat) (l0_1 : List Int) (A0_2 : Option Addr) (c0_2 : Nat) (l0_2 : List ByteArray) (A0_3 : Option Addr) (c0_3 : Nat) (l0_3 : List Int) (A0_4 : Option Addr) (c0_4 : Nat) (l0_4 : List (S60)) (A0_5 : Option Addr) (c0_5 : Nat) (l0_5 : List Int) (a0_6 : Int) (a1 : Int) (a2 : Int) (r : Bool) (w : World) (hr0_0 : Kd.C (Kd.int .i64) w A0_0 l0_0.length l0_0) (hc0_0 : l0_0.length ≤ c0_0) (hr0_1 : Kd.C (Kd.int .i64) w A0_1 l0_1.length l0_1) (hc0_1 : l0_1.length ≤ c0_1) (hr0_2 : Kd.C Kd.string w A0_2 l0_2.length l0_2) (hc0_2 : l0_2.length ≤ c0_2) (hr0_3 : Kd.C (Kd.int .i64) w A0_3 l0_3.length l0_3) (hc0_3 : l0_3.length ≤ c0_3) (hr0_4 : Kd.C k60 w A0_4 l0_4.length l0_4) (hc0_4 : l0_4.length ≤ c0_4) (hr0_5 : Kd.C (Kd.int .i64) w A0_5 l0_5.length l0_5) (hc0_5 : l0_5.length ≤ c0_5) (h : quietuslaw43_TagsCountForgeries.f k l0_0 l0_1 l0_2 l0_3 l0_4 l0_5 a0_6 a1 a2 = some r) :
  Calls Try.prog 3 #[.agg #[.slice A0_0 l0_0.length c0_0, .slice A0_1 l0_1.length c0_1, .slice A0_2 l0_2.length c0_2, .slice A0_3 l0_3.length c0_3, .slice A0_4 l0_4.length c0_4, .slice A0_5 l0_5.length c0_5, .int .i64 a0_6], .int .u8 a1, .int .u32 a2] w fun e w' => e = .returned (.bool r) ∧ Below w.heap.size w w' := by
 have hu30 := Try.underlying30
 have hu24 := Try.underlying24
 have hu28 := Try.underlying28
 have HR0_0 := Aside0.mk hr0_0
 have HC0_0 := Aside0.mk hc0_0
 clear hr0_0 hc0_0
 have HR0_1 := Aside0.mk hr0_1
 have HC0_1 := Aside0.mk hc0_1
 clear hr0_1 hc0_1
 have HR0_2 := Aside0.mk hr0_2
 have HC0_2 := Aside0.mk hc0_2
 clear hr0_2 hc0_2
 have HR0_3 := Aside0.mk hr0_3
 have HC0_3 := Aside0.mk hc0_3
 clear hr0_3 hc0_3
 have HR0_4 := Aside0.mk hr0_4
 have HC0_4 := Aside0.mk hc0_4
 clear hr0_4 hc0_4
 have HR0_5 := Aside0.mk hr0_5
 have HC0_5 := Aside0.mk hc0_5
 clear hr0_5 hc0_5
 have HB := Aside0.mk (Below.refl w.heap.size w)
 have H : ((P.quietuslaw43_few.f k l0_0 l0_1 l0_2 l0_3 l0_4 l0_5 a0_6).bind fun t102 => (if t102 = true then (if (l0_4.length : Int) > 20 then (quietuslaw43_TagsCountForgeries.j0 k a1 a2 true l0_0 l0_1 l0_2 l0_3 l0_4 l0_5 a0_6) else ((P.tag_Check.f k l0_0 l0_1).bind fun t103 => (quietuslaw43_TagsCountForgeries.j0 k a1 a2 (t103 != 0) l0_0 l0_1 l0_2 l0_3 l0_4 l0_5 a0_6))) else (quietuslaw43_TagsCountForgeries.j0 k a1 a2 true l0_0 l0_1 l0_2 l0_3 l0_4 l0_5 a0_6))) = some r := h
 clear h
 have HC4 := Aside0.mk H
 clear H
 go_enter Try.func3, Try.ntmps3
 go_upto_region 1 with (first | ((with_reducible refine gate_dst (N := 3) rfl ?_); (try (refine gate_guard lc_34_ ?_; dsimp only)); refine box_event ?hg (N := 3) ?hd (cs := #[.slice A0_0 l0_0.length c0_0, .slice A0_1 l0_1.length c0_1, .slice A0_2 l0_2.length c0_2, .slice A0_3 l0_3.length c0_3, .slice A0_4 l0_4.length c0_4, .slice A0_5 l0_5.length c0_5, .int .i64 a0_6]) (t := 30) ?hr ?_; (case hd => exact lc_34_); (case hg => exact lc_34_); (case hr => exact lc_18_); intro gb101 hg w5 hbox hb; have n0_ := Aside0.mk (below_step lc_42_ hb); have n1_ := Aside0.mk (hbox); have n2_ := Aside0.mk ((by rw [hg]; exact (below_size lc_42_) : w.heap.size ≤ gb101)); have n3_ := Aside0.mk ((by rw [hg]; exact (below_size lc_42_) : w.heap.size ≤ gb101)); clear HB; have HB := n0_; have BK101 := n1_; have GW101 := n2_; have GE101 := n3_; clear n0_ n1_ n2_ n3_ hb hbox hg))
 (try simp only [Act.put, setIfInBounds_toArray, set_cons_zero, set_cons_succ])
 go_cut [42] (fun v42 wc => ∃ (kq : Nat) (x42_3 : Bool), v42 = .bool x42_3 ∧ Aside0 (quietuslaw43_TagsCountForgeries.j0 kq a1 a2 x42_3 l0_0 l0_1 l0_2 l0_3 l0_4 l0_5 a0_6 = some r) ∧ Aside0 (kq ≤ k) ∧ Aside0 (wc.heap[gb101]? = some (.cells #[(.slice A0_0 l0_0.length c0_0), (.slice A0_1 l0_1.length c0_1), (.slice A0_2 l0_2.length c0_2), (.slice A0_3 l0_3.length c0_3), (.slice A0_4 l0_4.length c0_4), (.slice A0_5 l0_5.length c0_5), .int .i64 a0_6] 30 (0, 0))) ∧ Aside0 (Below w.heap.size w wc))
 case first => as_aux_lemma =>
  have H := HC4.out
  clear HC4
  replace H := Option.bind_eq_some_iff.mp H
  obtain ⟨t102, A60, H⟩ := H
  (try dsimp only at H)
  have A6 := Aside0.mk A60
  clear A60
  by_cases c7 : t102 = true
  ·subst c7
   rw [if_pos rfl] at H
   by_cases c8 : (l0_4.length : Int) > 20
   ·rw [if_pos c8] at H
    have c8b0 : decide (20 < (l0_4.length : Int)) = true := decide_eq_true c8
    have c8b1 : decide (20 < l0_4.length) = true := decide_eq_true (by omega)
    clear c8
    (first | rw [c8b0] | (simp only [i64_w, i32_w]; rw [c8b0]) | skip)
    have H' := Aside0.mk H
    clear H
    obtain ⟨hcz9_0, hcz9_1, hcz9_2, hcz9_3, hcz9_4, hcz9_5, hcz9_6⟩ := cz7 BK101.out
    have hfz9_0 := blk_frozen BK101.out 0
    have hfz9_1 := blk_frozen BK101.out 1
    have hfz9_2 := blk_frozen BK101.out 2
    have hfz9_3 := blk_frozen BK101.out 3
    have hfz9_4 := blk_frozen BK101.out 4
    have hfz9_5 := blk_frozen BK101.out 5
    have hfz9_6 := blk_frozen BK101.out 6
    go_wp2_with (first | ((with_reducible refine gate_callee (f := 6) rfl ?_); refine goesL_ (some 29) rfl rfl Try.func6 lc_12_ rfl #[.agg #[.slice A0_0 l0_0.length c0_0, .slice A0_1 l0_1.length c0_1, .slice A0_2 l0_2.length c0_2, .slice A0_3 l0_3.length c0_3, .slice A0_4 l0_4.length c0_4, .slice A0_5 l0_5.length c0_5, .int .i64 a0_6]] rfl lc_5_ ?_; (with_reducible refine (P.quietuslaw43_few.calls k _ _ l0_0 _ _ l0_1 _ _ l0_2 _ _ l0_3 _ _ l0_4 _ _ l0_5 a0_6 true _ ?side1 ?side2 ?side3 ?side4 ?side5 ?side6 ?side7 ?side8 ?side9 ?side10 ?side11 ?side12 A6.out).mono ?_); (case side1 => exact lc_9_); (case side2 => exact HC0_0.out); (case side3 => exact lc_11_); (case side4 => exact HC0_1.out); (case side5 => exact lc_14_); (case side6 => exact HC0_2.out); (case side7 => exact lc_36_); (case side8 => exact HC0_3.out); (case side9 => exact lc_21_); (case side10 => exact HC0_4.out); (case side11 => exact lc_15_); (case side12 => exact HC0_5.out); rintro e w10 ⟨rfl, hb⟩; refine ⟨_, rfl, ?_⟩; have n0_ := Aside0.mk (bb BK101.out hb); have n1_ := Aside0.mk (below_step lc_4_ hb); clear BK101 HB; have BK101 := n0_; have HB := n1_; clear n0_ n1_; (try clear hb); (try clear hb2); (try clear hk); (try clear hi); obtain ⟨hcz11_0, hcz11_1, hcz11_2, hcz11_3, hcz11_4, hcz11_5, hcz11_6⟩ := cz7 BK101.out; have hfz11_0 := blk_frozen BK101.out 0; have hfz11_1 := blk_frozen BK101.out 1; have hfz11_2 := blk_frozen BK101.out 2; have hfz11_3 := blk_frozen BK101.out 3; have hfz11_4 := blk_frozen BK101.out 4; have hfz11_5 := blk_frozen BK101.out 5; have hfz11_6 := blk_frozen BK101.out 6))
    go_meet
    case rel => exact ⟨_, (true), lc_16_, H', ⟨by first | omega | exact Nat.le_refl _⟩, ⟨pB BK101.out⟩, ⟨lc_4_⟩⟩
   rw [if_neg c8] at H
   have c8b0 : decide (20 < (l0_4.length : Int)) = false := decide_eq_false c8
   have c8b1 : decide (20 < l0_4.length) = false := decide_eq_false (by omega)
   clear c8
   (first | rw [c8b0] | (simp only [i64_w, i32_w]; rw [c8b0]) | skip)
   replace H := Option.bind_eq_some_iff.mp H
   obtain ⟨t103, A120, H⟩ := H
   (try dsimp only at H)
   have A12 := Aside0.mk A120
   clear A120
   have H' := Aside0.mk H
   clear H
   obtain ⟨hcz13_0, hcz13_1, hcz13_2, hcz13_3, hcz13_4, hcz13_5, hcz13_6⟩ := cz7 BK101.out
   have hfz13_0 := blk_frozen BK101.out 0
   have hfz13_1 := blk_frozen BK101.out 1
   have hfz13_2 := blk_frozen BK101.out 2
   have hfz13_3 := blk_frozen BK101.out 3
   have hfz13_4 := blk_frozen BK101.out 4
   have hfz13_5 := blk_frozen BK101.out 5
   have hfz13_6 := blk_frozen BK101.out 6
   go_wp2_with (first | ((with_reducible refine gate_callee (f := 6) rfl ?_); refine goesL_ (some 29) rfl rfl Try.func6 lc_12_ rfl #[.agg #[.slice A0_0 l0_0.length c0_0, .slice A0_1 l0_1.length c0_1, .slice A0_2 l0_2.length c0_2, .slice A0_3 l0_3.length c0_3, .slice A0_4 l0_4.length c0_4, .slice A0_5 l0_5.length c0_5, .int .i64 a0_6]] rfl lc_5_ ?_; (with_reducible refine (P.quietuslaw43_few.calls k _ _ l0_0 _ _ l0_1 _ _ l0_2 _ _ l0_3 _ _ l0_4 _ _ l0_5 a0_6 true _ ?side1 ?side2 ?side3 ?side4 ?side5 ?side6 ?side7 ?side8 ?side9 ?side10 ?side11 ?side12 A6.out).mono ?_); (case side1 => exact lc_9_); (case side2 => exact HC0_0.out); (case side3 => exact lc_11_); (case side4 => exact HC0_1.out); (case side5 => exact lc_14_); (case side6 => exact HC0_2.out); (case side7 => exact lc_36_); (case side8 => exact HC0_3.out); (case side9 => exact lc_21_); (case side10 => exact HC0_4.out); (case side11 => exact lc_15_); (case side12 => exact HC0_5.out); rintro e w14 ⟨rfl, hb⟩; refine ⟨_, rfl, ?_⟩; have n0_ := Aside0.mk (bb BK101.out hb); have n1_ := Aside0.mk (below_step lc_4_ hb); clear BK101 HB; have BK101 := n0_; have HB := n1_; clear n0_ n1_; (try clear hb); (try clear hb2); (try clear hk); (try clear hi); obtain ⟨hcz15_0, hcz15_1, hcz15_2, hcz15_3, hcz15_4, hcz15_5, hcz15_6⟩ := cz7 BK101.out; have hfz15_0 := blk_frozen BK101.out 0; have hfz15_1 := blk_frozen BK101.out 1; have hfz15_2 := blk_frozen BK101.out 2; have hfz15_3 := blk_frozen BK101.out 3; have hfz15_4 := blk_frozen BK101.out 4; have hfz15_5 := blk_frozen BK101.out 5; have hfz15_6 := blk_frozen BK101.out 6) | (go_at_call 7; (with_reducible refine (P.tag_Check.calls k _ _ l0_0 _ _ l0_1 t103 _ ?side1 ?side2 ?side3 ?side4 A12.out).mono ?_); (case side1 => exact lc_9_); (case side2 => exact HC0_0.out); (case side3 => exact lc_11_); (case side4 => exact HC0_1.out); rintro e w16 ⟨rfl, hb⟩; have n0_ := Aside0.mk (bb BK101.out hb); have n1_ := Aside0.mk (below_step lc_4_ hb); clear BK101 HB; have BK101 := n0_; have HB := n1_; clear n0_ n1_; (try clear hb); (try clear hb2); (try clear hk); (try clear hi)))
   go_meet
   case rel => exact ⟨_, ((t103 != 0)), lc_16_, H', ⟨by first | omega | exact Nat.le_refl _⟩, ⟨pB BK101.out⟩, ⟨lc_4_⟩⟩
  replace c7 := Bool.eq_false_iff.mpr c7
  subst c7
  rw [if_neg (show ¬ (false = true) by decide)] at H
  have H' := Aside0.mk H
  clear H
  obtain ⟨hcz17_0, hcz17_1, hcz17_2, hcz17_3, hcz17_4, hcz17_5, hcz17_6⟩ := cz7 BK101.out
  have hfz17_0 := blk_frozen BK101.out 0
  have hfz17_1 := blk_frozen BK101.out 1
  have hfz17_2 := blk_frozen BK101.out 2
  have hfz17_3 := blk_frozen BK101.out 3
  have hfz17_4 := blk_frozen BK101.out 4
  have hfz17_5 := blk_frozen BK101.out 5
  have hfz17_6 := blk_frozen BK101.out 6
  go_wp2_with (first | ((with_reducible refine gate_callee (f := 6) rfl ?_); refine goesL_ (some 29) rfl rfl Try.func6 lc_12_ rfl #[.agg #[.slice A0_0 l0_0.length c0_0, .slice A0_1 l0_1.length c0_1, .slice A0_2 l0_2.length c0_2, .slice A0_3 l0_3.length c0_3, .slice A0_4 l0_4.length c0_4, .slice A0_5 l0_5.length c0_5, .int .i64 a0_6]] rfl lc_5_ ?_; (with_reducible refine (P.quietuslaw43_few.calls k _ _ l0_0 _ _ l0_1 _ _ l0_2 _ _ l0_3 _ _ l0_4 _ _ l0_5 a0_6 false _ ?side1 ?side2 ?side3 ?side4 ?side5 ?side6 ?side7 ?side8 ?side9 ?side10 ?side11 ?side12 A6.out).mono ?_); (case side1 => exact lc_9_); (case side2 => exact HC0_0.out); (case side3 => exact lc_11_); (case side4 => exact HC0_1.out); (case side5 => exact lc_14_); (case side6 => exact HC0_2.out); (case side7 => exact lc_36_); (case side8 => exact HC0_3.out); (case side9 => exact lc_21_); (case side10 => exact HC0_4.out); (case side11 => exact lc_15_); (case side12 => exact HC0_5.out); rintro e w18 ⟨rfl, hb⟩; refine ⟨_, rfl, ?_⟩; have n0_ := Aside0.mk (bb BK101.out hb); have n1_ := Aside0.mk (below_step lc_4_ hb); clear BK101 HB; have BK101 := n0_; have HB := n1_; clear n0_ n1_; (try clear hb); (try clear hb2); (try clear hk); (try clear hi)))
  go_meet
  case rel => exact ⟨_, (true), lc_16_, H', ⟨by first | omega | exact Nat.le_refl _⟩, ⟨pB BK101.out⟩, ⟨lc_4_⟩⟩
 clear HC4
 obtain ⟨kq, x42_3, rfl, HA, HJ3, BK101, HB⟩ := hcut
 rcases kq with _ | kj3
 ·exact absurd HA.out (by simp [quietuslaw43_TagsCountForgeries.j0])
 have H := HA.out
 clear HA
 simp only [quietuslaw43_TagsCountForgeries.j0] at H
 by_cases c19 : x42_3 = true
 ·subst c19
  rw [if_pos rfl] at H
  replace H := Option.bind_eq_some_iff.mp H
  obtain ⟨t104, A200, H⟩ := H
  (try dsimp only at H)
  have A20 := Aside0.mk A200
  clear A200
  obtain rfl := Option.some.inj H
  go_wp2_with (first | ((with_reducible refine gate_callee (f := 8) rfl ?_); refine goesL_ (some 43) rfl rfl Try.func8 lc_12_ rfl #[] rfl lc_5_ ?_; (with_reducible refine (Sa.sanity.calls  t104 _ A20.out).mono ?_); rintro e w21 ⟨rfl, hb⟩; refine ⟨_, rfl, ?_⟩; have n0_ := Aside0.mk (bb BK101.out hb); have n1_ := Aside0.mk (below_step lc_4_ hb); clear BK101 HB; have BK101 := n0_; have HB := n1_; clear n0_ n1_; (try clear hb); (try clear hb2); (try clear hk); (try clear hi)))
  go_ret
  exact ⟨lc_41_, lc_4_⟩
 replace c19 := Bool.eq_false_iff.mpr c19
 subst c19
 rw [if_neg (show ¬ (false = true) by decide)] at H
 replace H := Option.bind_eq_some_iff.mp H
 obtain ⟨⟨t105, t108⟩, A220, H⟩ := H
 (try dsimp only at H)
 have A22 := Aside0.mk A220
 clear A220
 by_cases c23 : t108 = true
 rotate_left
 ·replace c23 := Bool.eq_false_iff.mpr c23
  subst c23
  rw [if_neg (show ¬ (false = true) by decide)] at H
  replace H := Option.bind_eq_some_iff.mp H
  obtain ⟨t109, A1880, H⟩ := H
  (try dsimp only at H)
  have A188 := Aside0.mk A1880
  clear A1880
  obtain rfl := Option.some.inj H
  obtain ⟨hcz189_0, hcz189_1, hcz189_2, hcz189_3, hcz189_4, hcz189_5, hcz189_6⟩ := cz7 BK101.out
  have hfz189_0 := blk_frozen BK101.out 0
  have hfz189_1 := blk_frozen BK101.out 1
  have hfz189_2 := blk_frozen BK101.out 2
  have hfz189_3 := blk_frozen BK101.out 3
  have hfz189_4 := blk_frozen BK101.out 4
  have hfz189_5 := blk_frozen BK101.out 5
  have hfz189_6 := blk_frozen BK101.out 6
  go_wp2_with (first | ((with_reducible refine gate_callee (f := 9) rfl ?_); refine goesL_ (some 49) rfl rfl Try.func9 lc_12_ rfl #[.agg #[.slice A0_0 l0_0.length c0_0, .slice A0_1 l0_1.length c0_1], .slice A0_2 l0_2.length c0_2] rfl lc_5_ ?_; (with_reducible refine (P.quietuslaw43_tagged.calls kj3 _ _ l0_0 _ _ l0_1 _ _ l0_2 t105 false _ ?side1 ?side2 ?side3 ?side4 ?side5 ?side6 A22.out).mono ?_); (case side1 => exact lc_9_); (case side2 => exact HC0_0.out); (case side3 => exact lc_11_); (case side4 => exact HC0_1.out); (case side5 => exact lc_14_); (case side6 => exact HC0_2.out); rintro e w190 ⟨v106, rfl, ho0, hb⟩; refine ⟨_, rfl, ?_⟩; have n0_ := Aside0.mk (Kd.R_lower ho0 (below_size lc_4_)); have n1_ := Aside0.mk (bb BK101.out hb); have n2_ := Aside0.mk (below_step lc_4_ hb); clear BK101 HB; have HO107 := n0_; have BK101 := n1_; have HB := n2_; clear n0_ n1_ n2_; (try clear hb); (try clear hb2); (try clear hk); (try clear hi); (try clear ho0)) | ((with_reducible refine gate_callee (f := 8) rfl ?_); refine goesL_ (some 54) rfl rfl Try.func8 lc_12_ rfl #[] rfl lc_5_ ?_; (with_reducible refine (Sa.sanity.calls  t109 _ A188.out).mono ?_); rintro e w191 ⟨rfl, hb⟩; refine ⟨_, rfl, ?_⟩; have n0_ := Aside0.mk (rb HO107.out hb); have n1_ := Aside0.mk (bb BK101.out hb); have n2_ := Aside0.mk (below_step lc_4_ hb); clear HO107 BK101 HB; have HO107 := n0_; have BK101 := n1_; have HB := n2_; clear n0_ n1_ n2_; (try clear hb); (try clear hb2); (try clear hk); (try clear hi)))
  go_ret
  exact ⟨lc_41_, lc_4_⟩
 subst c23
 rw [if_pos rfl] at H
 replace H := Option.bind_eq_some_iff.mp H
 obtain ⟨⟨t110, t113, t114⟩, A240, H⟩ := H
 (try dsimp only at H)
 have A24 := Aside0.mk A240
 clear A240
 by_cases c25 : (l0_0.length : Int) = 0
 ·rw [if_pos c25] at H
  exact absurd H (by simp)
 rw [if_neg c25] at H
 have c25b0 : ((l0_0.length : Int) == 0) = false := beq_eq_false_iff_ne.mpr c25
 have c25b1 : ((l0_0.length : Int) != 0) = true := bne_iff_ne.mpr c25
 have c25b2 : ¬ (l0_0 = []) := fun h_ => c25 (by rw [h_]; rfl)
 have HC26 := Aside0.mk H
 clear H
 obtain ⟨hcz27_0, hcz27_1, hcz27_2, hcz27_3, hcz27_4, hcz27_5, hcz27_6⟩ := cz7 BK101.out
 have hfz27_0 := blk_frozen BK101.out 0
 have hfz27_1 := blk_frozen BK101.out 1
 have hfz27_2 := blk_frozen BK101.out 2
 have hfz27_3 := blk_frozen BK101.out 3
 have hfz27_4 := blk_frozen BK101.out 4
 have hfz27_5 := blk_frozen BK101.out 5
 have hfz27_6 := blk_frozen BK101.out 6
 go_upto_region 9 with (first | ((with_reducible refine gate_callee (f := 9) rfl ?_); refine goesL_ (some 49) rfl rfl Try.func9 lc_12_ rfl #[.agg #[.slice A0_0 l0_0.length c0_0, .slice A0_1 l0_1.length c0_1], .slice A0_2 l0_2.length c0_2] rfl lc_5_ ?_; (with_reducible refine (P.quietuslaw43_tagged.calls kj3 _ _ l0_0 _ _ l0_1 _ _ l0_2 t105 true _ ?side1 ?side2 ?side3 ?side4 ?side5 ?side6 A22.out).mono ?_); (case side1 => exact lc_9_); (case side2 => exact HC0_0.out); (case side3 => exact lc_11_); (case side4 => exact HC0_1.out); (case side5 => exact lc_14_); (case side6 => exact HC0_2.out); rintro e w28 ⟨v106, rfl, ho0, hb⟩; refine ⟨_, rfl, ?_⟩; have n0_ := Aside0.mk (Kd.R_lower ho0 (below_size lc_4_)); have n1_ := Aside0.mk (bb BK101.out hb); have n2_ := Aside0.mk (below_step lc_4_ hb); clear BK101 HB; have HO107 := n0_; have BK101 := n1_; have HB := n2_; clear n0_ n1_ n2_; (try clear hb); (try clear hb2); (try clear hk); (try clear hi); (try clear ho0); obtain ⟨hcz29_0, hcz29_1, hcz29_2, hcz29_3, hcz29_4, hcz29_5, hcz29_6⟩ := cz7 BK101.out; have hfz29_0 := blk_frozen BK101.out 0; have hfz29_1 := blk_frozen BK101.out 1; have hfz29_2 := blk_frozen BK101.out 2; have hfz29_3 := blk_frozen BK101.out 3; have hfz29_4 := blk_frozen BK101.out 4; have hfz29_5 := blk_frozen BK101.out 5; have hfz29_6 := blk_frozen BK101.out 6; obtain ⟨Ao30, co30, eo30⟩ := Kd.R_slice HO107.out; subst eo30) | ((with_reducible refine gate_callee (f := 10) rfl ?_); refine goesL_ (some 66) rfl rfl Try.func10 lc_12_ rfl #[.int .i64 (l0_0.length : Int), .slice A0_2 l0_2.length c0_2, .slice Ao30 t105.length co30, .slice A0_4 l0_4.length c0_4] rfl lc_5_ ?_; (with_reducible refine (P.tag_Answer.calls kj3 (l0_0.length : Int) _ _ l0_2 _ _ t105 _ _ l0_4 t110 t113 t114 _ ?side1 ?side2 ?side3 ?side4 ?side5 ?side6 A24.out).mono ?_); (case side1 => exact lc_14_); (case side2 => exact HC0_2.out); (case side3 => repeat (first | exact (Kd.R_reads' HO107.out).2.2 | (with_reducible refine Kd.C_alloc ?_ _) | (with_reducible refine Kd.C_drewN ?_ _) | (with_reducible refine Kd.C_drew ?_))); (case side4 => exact (Kd.R_reads' HO107.out).2.1); (case side5 => exact lc_21_); (case side6 => exact HC0_4.out); rintro e w31 ⟨v111, rfl, ho0, hb⟩; refine ⟨_, rfl, ?_⟩; have n0_ := Aside0.mk (Kd.R_elder' (pR HO107.out) (Kd.R_base ho0) hb); have n1_ := Aside0.mk (Kd.R_lower (Kd.R_new' ho0 (Kd.R_lt (pR HO107.out))) (below_size lc_4_)); have n2_ := Aside0.mk (bb BK101.out hb); have n3_ := Aside0.mk (below_step lc_4_ hb); clear HO107 BK101 HB; have HO107 := n0_; have HO112 := n1_; have BK101 := n2_; have HB := n3_; clear n0_ n1_ n2_ n3_; (try clear hb); (try clear hb2); (try clear hk); (try clear hi); (try clear ho0)) | ((with_reducible refine gate_dst (N := 10) rfl ?_); (try (refine gate_guard lc_34_ ?_; dsimp only)); refine box_event ?hg (N := 10) ?hd (cs := #[.slice none 0 0, .int .i64 0]) (t := 28) ?hr ?_; (case hd => exact lc_34_); (case hg => exact lc_34_); (case hr => exact lc_18_); intro gb115 hg w32 hbox hb; have n0_ := Aside0.mk (rb HO107.out hb); have n1_ := Aside0.mk (rb HO112.out hb); have n2_ := Aside0.mk (bb BK101.out hb); have n3_ := Aside0.mk (below_step lc_4_ hb); have n4_ := Aside0.mk (hbox); have n5_ := Aside0.mk ((by rw [hg]; exact (below_size lc_4_) : w.heap.size ≤ gb115)); have n6_ := Aside0.mk ((by rw [hg]; exact (below_size lc_4_) : w.heap.size ≤ gb115)); have n7_ := Aside0.mk ((lc_6_ : gb101 ≠ gb115)); have n8_ := Aside0.mk ((lc_7_ : gb115 ≠ gb101)); clear HO107 HO112 BK101 HB; have HO107 := n0_; have HO112 := n1_; have BK101 := n2_; have HB := n3_; have BK115 := n4_; have GW115 := n5_; have GE115 := n6_; have NB101_115 := n7_; have NB115_101 := n8_; clear n0_ n1_ n2_ n3_ n4_ n5_ n6_ n7_ n8_ hb hbox hg; obtain ⟨Ao33, co33, eo33⟩ := Kd.R_slice HO112.out; subst eo33; have hnb34 := NB115_101.out; have hnc34 := NB101_115.out; obtain ⟨hcz35_0, hcz35_1⟩ := cz2 BK115.out; have hfz35_0 := blk_frozen BK115.out 0; have hfz35_1 := blk_frozen BK115.out 1))
 (try simp only [Act.put, setIfInBounds_toArray, set_cons_zero, set_cons_succ])
 go_cut [102] (fun v102 wc => ∃ (kq : Nat) (x102_25 : Bool), v102 = .bool x102_25 ∧ Aside0 (quietuslaw43_TagsCountForgeries.j1 kq a2 t105 (l0_0.length : Int) (Int.tmod (wrap64 (a1)) (l0_0.length : Int)) x102_25 l0_0 l0_1 l0_2 l0_3 l0_4 l0_5 a0_6 t110 t113 = some r) ∧ Aside0 (kq ≤ kj3) ∧ Aside0 (Kd.R (Kd.int .i64) 3 wc w.heap.size (fun k_ => some k_ ≠ ((.slice Ao33 t110.length co33) : Value).ownBlock) (.slice Ao30 t105.length co30) t105) ∧ Aside0 (Kd.R (Kd.int .i64) 3 wc w.heap.size (fun k_ => some k_ ≠ ((.slice Ao30 t105.length co30) : Value).ownBlock) (.slice Ao33 t110.length co33) t110) ∧ Aside0 (wc.heap[gb101]? = some (.cells #[(.slice A0_0 l0_0.length c0_0), (.slice A0_1 l0_1.length c0_1), (.slice A0_2 l0_2.length c0_2), (.slice A0_3 l0_3.length c0_3), (.slice A0_4 l0_4.length c0_4), (.slice A0_5 l0_5.length c0_5), .int .i64 a0_6] 30 (0, 0))) ∧ Aside0 (wc.heap[gb115]? = some (.cells #[(.slice Ao33 t110.length co33), .int .i64 t113] 28 (0, 0))) ∧ Aside0 (Below w.heap.size w wc))
 case first => as_aux_lemma =>
  have H := HC26.out
  clear HC26
  by_cases c36 : t114 = 0
  rotate_left
  ·rw [if_neg c36] at H
   have c36b0 : (t114 == 0) = false := beq_eq_false_iff_ne.mpr c36
   have c36b1 : (t114 != 0) = true := bne_iff_ne.mpr c36
   (first | rw [c36b0] | (simp only [i64_w, i32_w]; rw [c36b0]) | skip)
   have H' := Aside0.mk H
   clear H
   go_wp2
   go_meet
   case rel => exact ⟨_, (true), lc_16_, H', ⟨by have := HJ3.out; first | omega | exact Nat.le_refl _⟩, ⟨lc_37_⟩, ⟨lc_38_⟩, ⟨lc_13_⟩, ⟨lc_10_⟩, ⟨lc_1_⟩⟩
  rw [if_pos c36] at H
  have c36b0 : (t114 == 0) = true := beq_iff_eq.mpr c36
  have c36b1 : (t114 != 0) = false := bne_eq_false_iff_eq.mpr c36
  clear c36
  (first | rw [c36b0] | (simp only [i64_w, i32_w]; rw [c36b0]) | skip)
  by_cases c37 : (l0_5.length : Int) = (l0_0.length : Int)
  ·rw [if_pos c37] at H
   have c37b0 : ((l0_5.length : Int) == (l0_0.length : Int)) = true := beq_iff_eq.mpr c37
   have c37b1 : ((l0_5.length : Int) != (l0_0.length : Int)) = false := bne_eq_false_iff_eq.mpr c37
   have c37b2 : (l0_5.length == l0_0.length) = true := by first | simpa using c37 | (simp at c37 ⊢; omega)
   clear c37
   replace H := Option.bind_eq_some_iff.mp H
   obtain ⟨t116, A380, H⟩ := H
   (try dsimp only at H)
   have A38 := Aside0.mk A380
   clear A380
   by_cases c39 : t116 = 0
   ·rw [if_pos c39] at H
    have c39b0 : (t116 == 0) = true := beq_iff_eq.mpr c39
    have c39b1 : (t116 != 0) = false := bne_eq_false_iff_eq.mpr c39
    clear c39
    have H' := Aside0.mk H
    clear H
    have hnb40 := NB101_115.out
    have hnc40 := NB115_101.out
    obtain ⟨hcz41_0, hcz41_1, hcz41_2, hcz41_3, hcz41_4, hcz41_5, hcz41_6⟩ := cz7 BK101.out
    have hfz41_0 := blk_frozen BK101.out 0
    have hfz41_1 := blk_frozen BK101.out 1
    have hfz41_2 := blk_frozen BK101.out 2
    have hfz41_3 := blk_frozen BK101.out 3
    have hfz41_4 := blk_frozen BK101.out 4
    have hfz41_5 := blk_frozen BK101.out 5
    have hfz41_6 := blk_frozen BK101.out 6
    go_wp2_with (first | (go_at_call 11; (with_reducible refine (P.tag_Verify.calls kj3 _ _ l0_0 _ _ l0_1 _ _ l0_4 _ _ l0_5 a0_6 t116 _ ?side1 ?side2 ?side3 ?side4 ?side5 ?side6 ?side7 ?side8 A38.out).mono ?_); (case side1 => exact Kd.C_below HR0_0.out lc_1_); (case side2 => exact HC0_0.out); (case side3 => exact Kd.C_below HR0_1.out lc_1_); (case side4 => exact HC0_1.out); (case side5 => exact Kd.C_below HR0_4.out lc_1_); (case side6 => exact HC0_4.out); (case side7 => exact Kd.C_below HR0_5.out lc_1_); (case side8 => exact HC0_5.out); rintro e w42 ⟨rfl, hb⟩; have n0_ := Aside0.mk (Kd.R_below lc_39_ hb); have n1_ := Aside0.mk (Kd.R_below lc_40_ hb); have n2_ := Aside0.mk (blk_below (g := gb101) (o := .cells #[.slice A0_0 l0_0.length c0_0, .slice A0_1 l0_1.length c0_1, .slice A0_2 l0_2.length c0_2, .slice A0_3 l0_3.length c0_3, .slice A0_4 l0_4.length c0_4, .slice A0_5 l0_5.length c0_5, .int .i64 a0_6] 30 (0, 0)) lc_13_ hb); have n3_ := Aside0.mk (blk_below (g := gb115) (o := .cells #[.slice Ao33 t110.length co33, .int .i64 t113] 28 (0, 0)) lc_10_ hb); have n4_ := Aside0.mk (below_step lc_1_ hb); clear HO107 HO112 BK101 BK115 HB; have HO107 := n0_; have HO112 := n1_; have BK101 := n2_; have BK115 := n3_; have HB := n4_; clear n0_ n1_ n2_ n3_ n4_; (try clear hb); (try clear hb2); (try clear hk); (try clear hi)))
    go_meet
    case rel => exact ⟨_, (false), lc_16_, H', ⟨by have := HJ3.out; first | omega | exact Nat.le_refl _⟩, ⟨rm HO107.out (fun _ hk => hk.2)⟩, ⟨rm HO112.out (fun _ hk => hk.2)⟩, ⟨pB BK101.out⟩, ⟨pB BK115.out⟩, ⟨lc_1_⟩⟩
   rw [if_neg c39] at H
   have c39b0 : (t116 == 0) = false := beq_eq_false_iff_ne.mpr c39
   have c39b1 : (t116 != 0) = true := bne_iff_ne.mpr c39
   replace H := Option.bind_eq_some_iff.mp H
   obtain ⟨t117, A430, H⟩ := H
   (try dsimp only at H)
   have A43 := Aside0.mk A430
   clear A430
   have H' := Aside0.mk H
   clear H
   have hnb44 := NB101_115.out
   have hnc44 := NB115_101.out
   obtain ⟨hcz45_0, hcz45_1, hcz45_2, hcz45_3, hcz45_4, hcz45_5, hcz45_6⟩ := cz7 BK101.out
   have hfz45_0 := blk_frozen BK101.out 0
   have hfz45_1 := blk_frozen BK101.out 1
   have hfz45_2 := blk_frozen BK101.out 2
   have hfz45_3 := blk_frozen BK101.out 3
   have hfz45_4 := blk_frozen BK101.out 4
   have hfz45_5 := blk_frozen BK101.out 5
   have hfz45_6 := blk_frozen BK101.out 6
   go_wp2_with (first | (go_at_call 11; (with_reducible refine (P.tag_Verify.calls kj3 _ _ l0_0 _ _ l0_1 _ _ l0_4 _ _ l0_5 a0_6 t116 _ ?side1 ?side2 ?side3 ?side4 ?side5 ?side6 ?side7 ?side8 A38.out).mono ?_); (case side1 => exact Kd.C_below HR0_0.out lc_1_); (case side2 => exact HC0_0.out); (case side3 => exact Kd.C_below HR0_1.out lc_1_); (case side4 => exact HC0_1.out); (case side5 => exact Kd.C_below HR0_4.out lc_1_); (case side6 => exact HC0_4.out); (case side7 => exact Kd.C_below HR0_5.out lc_1_); (case side8 => exact HC0_5.out); rintro e w46 ⟨rfl, hb⟩; have n0_ := Aside0.mk (Kd.R_below lc_39_ hb); have n1_ := Aside0.mk (Kd.R_below lc_40_ hb); have n2_ := Aside0.mk (blk_below (g := gb101) (o := .cells #[.slice A0_0 l0_0.length c0_0, .slice A0_1 l0_1.length c0_1, .slice A0_2 l0_2.length c0_2, .slice A0_3 l0_3.length c0_3, .slice A0_4 l0_4.length c0_4, .slice A0_5 l0_5.length c0_5, .int .i64 a0_6] 30 (0, 0)) lc_13_ hb); have n3_ := Aside0.mk (blk_below (g := gb115) (o := .cells #[.slice Ao33 t110.length co33, .int .i64 t113] 28 (0, 0)) lc_10_ hb); have n4_ := Aside0.mk (below_step lc_1_ hb); clear HO107 HO112 BK101 BK115 HB; have HO107 := n0_; have HO112 := n1_; have BK101 := n2_; have BK115 := n3_; have HB := n4_; clear n0_ n1_ n2_ n3_ n4_; (try clear hb); (try clear hb2); (try clear hk); (try clear hi); obtain ⟨hcz47_0, hcz47_1, hcz47_2, hcz47_3, hcz47_4, hcz47_5, hcz47_6⟩ := cz7 BK101.out; have hfz47_0 := blk_frozen BK101.out 0; have hfz47_1 := blk_frozen BK101.out 1; have hfz47_2 := blk_frozen BK101.out 2; have hfz47_3 := blk_frozen BK101.out 3; have hfz47_4 := blk_frozen BK101.out 4; have hfz47_5 := blk_frozen BK101.out 5; have hfz47_6 := blk_frozen BK101.out 6) | (go_at_call 11; (with_reducible refine (P.tag_Verify.calls kj3 _ _ l0_0 _ _ l0_1 _ _ l0_4 _ _ l0_5 a0_6 t117 _ ?side1 ?side2 ?side3 ?side4 ?side5 ?side6 ?side7 ?side8 A43.out).mono ?_); (case side1 => exact lc_9_); (case side2 => exact HC0_0.out); (case side3 => exact lc_11_); (case side4 => exact HC0_1.out); (case side5 => exact lc_21_); (case side6 => exact HC0_4.out); (case side7 => exact lc_15_); (case side8 => exact HC0_5.out); rintro e w48 ⟨rfl, hb⟩; have n0_ := Aside0.mk (rb HO107.out hb); have n1_ := Aside0.mk (rb HO112.out hb); have n2_ := Aside0.mk (bb BK101.out hb); have n3_ := Aside0.mk (bb BK115.out hb); have n4_ := Aside0.mk (below_step lc_1_ hb); clear HO107 HO112 BK101 BK115 HB; have HO107 := n0_; have HO112 := n1_; have BK101 := n2_; have BK115 := n3_; have HB := n4_; clear n0_ n1_ n2_ n3_ n4_; (try clear hb); (try clear hb2); (try clear hk); (try clear hi)))
   go_meet
   case rel => exact ⟨_, ((t117 != 23)), lc_16_, H', ⟨by have := HJ3.out; first | omega | exact Nat.le_refl _⟩, ⟨rm HO107.out (fun _ hk => hk.2)⟩, ⟨rm HO112.out (fun _ hk => hk.2)⟩, ⟨pB BK101.out⟩, ⟨pB BK115.out⟩, ⟨lc_1_⟩⟩
  rw [if_neg c37] at H
  have c37b0 : ((l0_5.length : Int) == (l0_0.length : Int)) = false := beq_eq_false_iff_ne.mpr c37
  have c37b1 : ((l0_5.length : Int) != (l0_0.length : Int)) = true := bne_iff_ne.mpr c37
  have c37b2 : (l0_5.length == l0_0.length) = false := by first | simpa using c37 | (simp at c37 ⊢; omega)
  have H' := Aside0.mk H
  clear H
  have hnb49 := NB101_115.out
  have hnc49 := NB115_101.out
  obtain ⟨hcz50_0, hcz50_1, hcz50_2, hcz50_3, hcz50_4, hcz50_5, hcz50_6⟩ := cz7 BK101.out
  have hfz50_0 := blk_frozen BK101.out 0
  have hfz50_1 := blk_frozen BK101.out 1
  have hfz50_2 := blk_frozen BK101.out 2
  have hfz50_3 := blk_frozen BK101.out 3
  have hfz50_4 := blk_frozen BK101.out 4
  have hfz50_5 := blk_frozen BK101.out 5
  have hfz50_6 := blk_frozen BK101.out 6
  go_wp2
  go_meet
  case rel => exact ⟨_, (true), lc_16_, H', ⟨by have := HJ3.out; first | omega | exact Nat.le_refl _⟩, ⟨lc_37_⟩, ⟨lc_38_⟩, ⟨lc_13_⟩, ⟨lc_10_⟩, ⟨lc_1_⟩⟩
 clear HC26
 obtain ⟨kq, x102_25, rfl, HA, HJ25, HO_7, HO_116000, BK101, BK115, HB⟩ := hcut
 rcases kq with _ | kj25
 ·exact absurd HA.out (by simp [quietuslaw43_TagsCountForgeries.j1])
 have H := HA.out
 clear HA
 simp only [quietuslaw43_TagsCountForgeries.j1] at H
 by_cases c51 : x102_25 = true
 ·subst c51
  rw [if_pos rfl] at H
  replace H := Option.bind_eq_some_iff.mp H
  obtain ⟨t118, A520, H⟩ := H
  (try dsimp only at H)
  have A52 := Aside0.mk A520
  clear A520
  obtain rfl := Option.some.inj H
  go_wp2_with (first | ((with_reducible refine gate_callee (f := 8) rfl ?_); refine goesL_ (some 103) rfl rfl Try.func8 lc_12_ rfl #[] rfl lc_5_ ?_; (with_reducible refine (Sa.sanity.calls  t118 _ A52.out).mono ?_); rintro e w53 ⟨rfl, hb⟩; refine ⟨_, rfl, ?_⟩; have n0_ := Aside0.mk (rb HO_7.out hb); have n1_ := Aside0.mk (rb HO_116000.out hb); have n2_ := Aside0.mk (bb BK101.out hb); have n3_ := Aside0.mk (bb BK115.out hb); have n4_ := Aside0.mk (below_step lc_1_ hb); clear HO_7 HO_116000 BK101 BK115 HB; have HO_7 := n0_; have HO_116000 := n1_; have BK101 := n2_; have BK115 := n3_; have HB := n4_; clear n0_ n1_ n2_ n3_ n4_; (try clear hb); (try clear hb2); (try clear hk); (try clear hi)))
  go_ret
  exact ⟨lc_41_, lc_1_⟩
 replace c51 := Bool.eq_false_iff.mpr c51
 subst c51
 rw [if_neg (show ¬ (false = true) by decide)] at H
 by_cases c54 : (t110.length : Int) = (l0_0.length : Int)
 rotate_left
 ·rw [if_neg c54] at H
  have c54b0 : ((t110.length : Int) == (l0_0.length : Int)) = false := beq_eq_false_iff_ne.mpr c54
  have c54b1 : ((t110.length : Int) != (l0_0.length : Int)) = true := bne_iff_ne.mpr c54
  have c54b2 : (t110.length == l0_0.length) = false := by first | simpa using c54 | (simp at c54 ⊢; omega)
  obtain rfl := Option.some.inj H
  have hnb186 := NB115_101.out
  have hnc186 := NB101_115.out
  obtain ⟨hcz187_0, hcz187_1⟩ := cz2 BK115.out
  have hfz187_0 := blk_frozen BK115.out 0
  have hfz187_1 := blk_frozen BK115.out 1
  go_wp2
  go_ret
  exact ⟨lc_41_, lc_1_⟩
 rw [if_pos c54] at H
 have c54b0 : ((t110.length : Int) == (l0_0.length : Int)) = true := beq_iff_eq.mpr c54
 have c54b1 : ((t110.length : Int) != (l0_0.length : Int)) = false := bne_eq_false_iff_eq.mpr c54
 have c54b2 : (t110.length == l0_0.length) = true := by first | simpa using c54 | (simp at c54 ⊢; omega)
 clear c54
 by_cases c55 : 0 ≤ (l0_0.length : Int)
 rotate_left
 ·rw [if_neg c55] at H
  exact absurd H (by simp)
 rw [if_pos c55] at H
 have c55b0 := eq_true c55
 have c55b1 : decide (0 ≤ (l0_0.length : Int)) = true := decide_eq_true c55
 clear c55
 by_cases c56 : ((l0_0.length : Int) : Int).toNat ≤ 35184372088832
 rotate_left
 ·rw [if_neg c56] at H
  exact absurd H (by simp)
 rw [if_pos c56] at H
 have c56b0 := eq_true c56
 have c56b1 : decide (((l0_0.length : Int) : Int).toNat ≤ 35184372088832) = true := decide_eq_true c56
 clear c56
 obtain ⟨y119, hy119⟩ : ∃ y_ : List Int, y_ = (List.replicate ((l0_0.length : Int) : Int).toNat 0) := ⟨_, rfl⟩
 replace H : (quietuslaw43_TagsCountForgeries.l0 kj25 a2 t105 (l0_0.length : Int) (Int.tmod (wrap64 (a1)) (l0_0.length : Int)) y119 (Int.tmod (wrap64 ((wrap64 (a0_6 - t113)) + 2147483647)) 2147483647) (y119.length : Int) 0 l0_0 l0_1 l0_2 l0_3 l0_4 l0_5 a0_6 t110 t113) = some r := by first | (rw [hy119]; with_reducible exact H) | (have H2_ := (Option.bind_some _ _).symm.trans H; rw [hy119]; with_reducible exact H2_) | (have H2_ := (Option.bind_some _ _).symm.trans H; with_reducible exact H2_) | with_reducible exact H | (rw [hy119]; exact H) | exact H
 have Ny119 := Aside0.mk hy119
 clear hy119
 have H' := Aside0.mk H
 clear H
 have hnb57 := NB115_101.out
 have hnc57 := NB101_115.out
 obtain ⟨hcz58_0, hcz58_1⟩ := cz2 BK115.out
 have hfz58_0 := blk_frozen BK115.out 0
 have hfz58_1 := blk_frozen BK115.out 1
 go_wp2_with (first | ((with_reducible refine gate_dst (N := 110) rfl ?_); (try (refine gate_guard lc_34_ ?_; dsimp only)); refine Kd.R_make (Kd.int .i64) _ 3 rfl (N := 110) rfl 22 _ _ rfl (l0_0.length : Int) rfl rfl Try.underlying22 (.int .i64 0) 8 info3 rfl lc_33_ (by omega) 0 (ok := fun _ => True) (okp := fun _ => True) rfl (fun _ hk => hk) trivial (of_decide_eq_true lc_8_) (Nat.le_trans (Nat.mul_le_mul_right _ (of_decide_eq_true lc_8_ : (l0_0.length : Int).toNat ≤ 35184372088832)) (by omega)) (Below.refl _ _) (Nat.le_refl _) ?_; intro v120 w59 ho60 hb hg_ hnew_; clear hg_ hnew_; (first | rw [← Ny119.out] at ho60 | (simp only [Int.reduceToNat] at ho60; rw [← Ny119.out] at ho60)); have n0_ := Aside0.mk (Kd.R_elder' (pR HO_7.out) (Kd.R_base ho60) hb); have n1_ := Aside0.mk (Kd.R_elder' (pR HO_116000.out) (Kd.R_base ho60) hb); have n2_ := Aside0.mk (Kd.R_lower (Kd.R_new' (Kd.R_new' ho60 (Kd.R_lt (pR HO_7.out))) (Kd.R_lt (pR HO_116000.out))) (below_size lc_1_)); have n3_ := Aside0.mk (bb BK101.out hb); have n4_ := Aside0.mk (bb BK115.out hb); have n5_ := Aside0.mk (below_step lc_1_ hb); clear HO_7 HO_116000 BK101 BK115 HB; have HO_7 := n0_; have HO_116000 := n1_; have HO121 := n2_; have BK101 := n3_; have BK115 := n4_; have HB := n5_; clear n0_ n1_ n2_ n3_ n4_ n5_ hb ho60; obtain ⟨hcz61_0, hcz61_1, hcz61_2, hcz61_3, hcz61_4, hcz61_5, hcz61_6⟩ := cz7 BK101.out; have hfz61_0 := blk_frozen BK101.out 0; have hfz61_1 := blk_frozen BK101.out 1; have hfz61_2 := blk_frozen BK101.out 2; have hfz61_3 := blk_frozen BK101.out 3; have hfz61_4 := blk_frozen BK101.out 4; have hfz61_5 := blk_frozen BK101.out 5; have hfz61_6 := blk_frozen BK101.out 6; obtain ⟨hcz62_0, hcz62_1⟩ := cz2 BK115.out; have hfz62_0 := blk_frozen BK115.out 0; have hfz62_1 := blk_frozen BK115.out 1; obtain ⟨Ao63, co63, eo63⟩ := Kd.R_slice HO121.out; subst eo63))
 go_loopg [14, 121] kj25 (fun kq v14 v121 w' => ∃ (x13_3 : List Int) (x14_3 : Int) (x121_3 : Int), v14 = .int .i64 x14_3 ∧ v121 = .int .i64 x121_3 ∧ Aside0 (quietuslaw43_TagsCountForgeries.l0 kq a2 t105 (l0_0.length : Int) (Int.tmod (wrap64 (a1)) (l0_0.length : Int)) x13_3 x14_3 (y119.length : Int) x121_3 l0_0 l0_1 l0_2 l0_3 l0_4 l0_5 a0_6 t110 t113 = some r) ∧ Aside0 (kq ≤ kj25) ∧ Aside0 (Kd.R (Kd.int .i64) 3 w' w.heap.size (fun k_ => some k_ ≠ ((.slice Ao63 y119.length co63) : Value).ownBlock ∧ some k_ ≠ ((.slice Ao33 t110.length co33) : Value).ownBlock) (.slice Ao30 t105.length co30) t105) ∧ Aside0 (Kd.R (Kd.int .i64) 3 w' w.heap.size (fun k_ => some k_ ≠ ((.slice Ao30 t105.length co30) : Value).ownBlock ∧ some k_ ≠ ((.slice Ao33 t110.length co33) : Value).ownBlock) (.slice Ao63 y119.length co63) x13_3) ∧ Aside0 (Kd.R (Kd.int .i64) 3 w' w.heap.size (fun k_ => some k_ ≠ ((.slice Ao30 t105.length co30) : Value).ownBlock ∧ some k_ ≠ ((.slice Ao63 y119.length co63) : Value).ownBlock) (.slice Ao33 t110.length co33) t110) ∧ Aside0 (w'.heap[gb101]? = some (.cells #[(.slice A0_0 l0_0.length c0_0), (.slice A0_1 l0_1.length c0_1), (.slice A0_2 l0_2.length c0_2), (.slice A0_3 l0_3.length c0_3), (.slice A0_4 l0_4.length c0_4), (.slice A0_5 l0_5.length c0_5), .int .i64 a0_6] 30 (0, 0))) ∧ Aside0 (w'.heap[gb115]? = some (.cells #[(.slice Ao33 t110.length co33), .int .i64 t113] 28 (0, 0))) ∧ Aside0 (Below w.heap.size w w'))
 case atStart => exact ⟨(y119), (Int.tmod (wrap64 ((wrap64 (a0_6 - t113)) + 2147483647)) 2147483647), (0), lc_16_, lc_16_, H', ⟨Nat.le_refl _⟩, ⟨rm HO_7.out (fun _ hk => ⟨hk.2, hk.1⟩)⟩, ⟨rm HO121.out (fun _ hk => ⟨hk.1.2, hk.2⟩)⟩, ⟨pR HO_116000.out⟩, ⟨pB BK101.out⟩, ⟨pB BK115.out⟩, ⟨lc_1_⟩⟩
 case round => as_aux_lemma =>
  clear H'
  obtain ⟨x13_3, x14_3, x121_3, rfl, rfl, HA, HK3, HO_7, HO_13, HO_116000, BK101, BK115, HB⟩ := hrel
  have hl13_3 := (Kd.R_reads' HO_13.out).1
  rw [hl13_3] at HO_13
  (try simp only [hl13_3])
  (try simp only [hl13_3] at BK101)
  (try simp only [hl13_3] at BK115)
  (try simp only [hl13_3] at HO_7)
  (try simp only [hl13_3] at HO_116000)
  rcases gk with _ | k3
  ·exact absurd HA.out (by simp [quietuslaw43_TagsCountForgeries.l0])
  have H := HA.out
  clear HA
  simp only [quietuslaw43_TagsCountForgeries.l0] at H
  by_cases c64 : x121_3 < (y119.length : Int)
  ·rw [if_pos c64] at H
   have c64b0 : decide (x121_3 < (y119.length : Int)) = true := decide_eq_true c64
   clear c64
   by_cases c65 : 0 ≤ x121_3
   rotate_left
   ·rw [if_neg c65] at H
    exact absurd H (by simp)
   rw [if_pos c65] at H
   have c65b0 : decide (0 ≤ x121_3) = true := decide_eq_true c65
   clear c65
   by_cases c66 : x121_3 < (l0_5.length : Int)
   rotate_left
   ·rw [if_neg c66] at H
    exact absurd H (by simp)
   rw [if_pos c66] at H
   have c66b0 : decide (x121_3 < (l0_5.length : Int)) = true := decide_eq_true c66
   clear c66
   by_cases c67 : x121_3 < (t110.length : Int)
   rotate_left
   ·rw [if_neg c67] at H
    exact absurd H (by simp)
   rw [if_pos c67] at H
   have c67b0 : decide (x121_3 < (t110.length : Int)) = true := decide_eq_true c67
   clear c67
   by_cases c68 : x121_3 < (x13_3.length : Int)
   rotate_left
   ·rw [if_neg c68] at H
    exact absurd H (by simp)
   rw [if_pos c68] at H
   have c68b0 : decide (x121_3 < (x13_3.length : Int)) = true := decide_eq_true c68
   clear c68
   obtain ⟨y124, hy124⟩ : ∃ y_ : List Int, y_ = (x13_3.set (x121_3 : Int).toNat (Int.tmod (wrap64 ((wrap64 ((rd l0_5 x121_3) - (rd t110 x121_3))) + 2147483647)) 2147483647)) := ⟨_, rfl⟩
   replace H : (if x121_3 = (Int.tmod (wrap64 (a1)) (l0_0.length : Int)) then (quietuslaw43_TagsCountForgeries.l0 k3 a2 t105 (l0_0.length : Int) (Int.tmod (wrap64 (a1)) (l0_0.length : Int)) y124 x14_3 (y119.length : Int) (wrap64 (x121_3 + 1)) l0_0 l0_1 l0_2 l0_3 l0_4 l0_5 a0_6 t110 t113) else (if x121_3 < (l0_0.length : Int) then (quietuslaw43_TagsCountForgeries.l0 k3 a2 t105 (l0_0.length : Int) (Int.tmod (wrap64 (a1)) (l0_0.length : Int)) y124 (Int.tmod (wrap64 ((wrap64 (x14_3 - (Int.tmod (wrap64 ((rd y124 x121_3) * (rd l0_0 x121_3))) 2147483647))) + 2147483647)) 2147483647) (y119.length : Int) (wrap64 (x121_3 + 1)) l0_0 l0_1 l0_2 l0_3 l0_4 l0_5 a0_6 t110 t113) else (none))) = some r := by first | (rw [hy124]; with_reducible exact H) | (have H2_ := (Option.bind_some _ _).symm.trans H; rw [hy124]; with_reducible exact H2_) | (have H2_ := (Option.bind_some _ _).symm.trans H; with_reducible exact H2_) | with_reducible exact H | (rw [hy124]; exact H) | exact H
   have Ny124 := Aside0.mk hy124
   clear hy124
   by_cases c70 : x121_3 = (Int.tmod (wrap64 (a1)) (l0_0.length : Int))
   ·rw [if_pos c70] at H
    have c70b0 : (x121_3 == (Int.tmod (wrap64 (a1)) (l0_0.length : Int))) = true := beq_iff_eq.mpr c70
    have c70b1 : (x121_3 != (Int.tmod (wrap64 (a1)) (l0_0.length : Int))) = false := bne_eq_false_iff_eq.mpr c70
    clear c70
    have H' := Aside0.mk H
    clear H
    try go_wp2
    have n0_ := Aside0.mk (Kd.R_drew HO_7.out)
    have n1_ := Aside0.mk (Kd.R_drew HO_13.out)
    have n2_ := Aside0.mk (Kd.R_drew HO_116000.out)
    have n3_ := Aside0.mk (blk_drew BK101.out)
    have n4_ := Aside0.mk (blk_drew BK115.out)
    have n5_ := Aside0.mk (below_drew1 HB.out)
    clear HO_7
    clear HO_13
    clear HO_116000
    clear BK101
    clear BK115
    clear HB
    have HO_7 := n0_
    have HO_13 := n1_
    have HO_116000 := n2_
    have BK101 := n3_
    have BK115 := n4_
    have HB := n5_
    clear n0_ n1_ n2_ n3_ n4_ n5_
    have p122 : 0 ≤ (x121_3 : Int) := of_decide_eq_true lc_8_
    have q122 : x121_3 < (l0_5.length : Int) := of_decide_eq_true lc_8_
    obtain ⟨ad122, e122, hx122_0⟩ := Kd.at_int HR0_5.out x121_3 p122 q122
    have hw122_0 := hx122_0
    cases e122
    replace hx122_0 := (HB.out.cell (World.block_lt_of_cell? w _ hx122_0)).trans hx122_0
    replace p122 := eq_true p122
    replace q122 := eq_true q122
    have p123 : 0 ≤ (x121_3 : Int) := of_decide_eq_true lc_8_
    have q123 : x121_3 < (t110.length : Int) := of_decide_eq_true lc_8_
    obtain ⟨ad123, e123, hx123_0⟩ := Kd.at_int (Kd.R_reads' HO_116000.out).2.2 x121_3 p123 q123
    cases e123
    replace p123 := eq_true p123
    replace q123 := eq_true q123
    have p69 : 0 ≤ (x121_3 : Int) := of_decide_eq_true lc_8_
    have q69 : (x121_3 : Int) < ((x13_3.length : Int) : Int) := of_decide_eq_true lc_8_
    obtain ⟨go69, co69, eo69, gb69, gl69, cl69, HG69⟩ := Kd.R_form HO_13.out (by omega)
    (first | cases eo69 | (injection eo69 with ea_ en_ ec_; (first | subst ea_ | (injection ea_ with ea_; subst ea_)); subst ec_; clear en_))
    have GB69 := Aside0.mk gb69
    have GG69 := Aside0.mk HG69
    clear gb69 gl69 HG69
    obtain ⟨hx69_0, hf69_0⟩ := Kd.R_celln 0 HO_13.out (x121_3 : Int) p69 q69
    replace p69 := eq_true p69
    replace q69 := eq_true q69
    have HP72 := Kd.R_putn HO_13.out (x121_3 : Int) (Int.tmod (wrap64 ((wrap64 ((rd l0_5 x121_3) - (rd t110 x121_3))) + 2147483647)) 2147483647)
    rw [← Ny124.out] at HP72
    have HQ72 := Aside0.mk HP72
    clear HP72
    refine start_ (n := 18) (S := fun w' => w'.cell? ⟨gb101, 0, none⟩ = some (.slice A0_0 l0_0.length c0_0) ∧ w'.cell? ⟨gb101, 1, none⟩ = some (.slice A0_1 l0_1.length c0_1) ∧ w'.cell? ⟨gb101, 2, none⟩ = some (.slice A0_2 l0_2.length c0_2) ∧ w'.cell? ⟨gb101, 3, none⟩ = some (.slice A0_3 l0_3.length c0_3) ∧ w'.cell? ⟨gb101, 4, none⟩ = some (.slice A0_4 l0_4.length c0_4) ∧ w'.cell? ⟨gb101, 5, none⟩ = some (.slice (some ad122) l0_5.length c0_5) ∧ w'.cell? ⟨gb101, 6, none⟩ = some (.int .i64 a0_6) ∧ w'.cell? ⟨gb115, 0, none⟩ = some (.slice (some ad123) t110.length co33) ∧ w'.cell? ⟨gb115, 1, none⟩ = some (.int .i64 t113) ∧ w'.cell? (ad122.add (x121_3).toNat) = some (.int .i64 (rd l0_5 x121_3)) ∧ w'.cell? (ad123.add (x121_3).toNat) = some (.int .i64 (rd t110 x121_3))) (ds := [17]) #[false, false, false, false, false, false, false, false, false, false, false, false, false, false, false, false, false, false] lc_12_ rfl rfl ⟨(blk_cell BK101.out 0).trans rfl, (blk_cell BK101.out 1).trans rfl, (blk_cell BK101.out 2).trans rfl, (blk_cell BK101.out 3).trans rfl, (blk_cell BK101.out 4).trans rfl, (blk_cell BK101.out 5).trans rfl, (blk_cell BK101.out 6).trans rfl, (blk_cell BK115.out 0).trans rfl, (blk_cell BK115.out 1).trans rfl, ((HB.out.cell (World.block_lt_of_cell? w _ hw122_0)).trans hw122_0), hx123_0⟩ (fun hHeld => ?_); refine with_tabW quietuslaw43_TagsCountForgeries.tab18 quietuslaw43_TagsCountForgeries.bits18 (fun HT_ HW_ => ?_)
    generalize wr.drew = w71 at HO_7 HO_13 HO_116000 BK101 BK115 HB GG69 HQ72 hf69_0 hx122_0 hx123_0 hx69_0 hHeld ⊢
    refine pure_ (i := 0) (N := some 124) (v := ?_) (a' := ?_) #[true, false, false, false, false, false, false, false, false, false, false, false, false, false, false, false, false, false] rfl rfl (any_of HT_.out lc_12_) (fun _ _ _ h => h) (Or.inl ⟨lc_34_, ?_⟩) ?_ ?_
    rotate_left
    ·intro w'
     go_simp
     with_reducible rfl
    rotate_left
    ·simp only [Act.put, setIfInBounds_toArray, set_cons_zero, set_cons_succ, i64_w, i32_w]
     rfl
    refine pure_ (i := 1) (N := some 125) (v := ?_) (a' := ?_) #[true, true, false, false, false, false, false, false, false, false, false, false, false, false, false, false, false, false] rfl rfl (any_of HT_.out lc_12_) (fun _ _ _ h => h) (Or.inl ⟨lc_34_, ?_⟩) ?_ ?_
    rotate_left
    ·intro w'
     go_simp
     with_reducible rfl
    rotate_left
    ·simp only [Act.put, setIfInBounds_toArray, set_cons_zero, set_cons_succ, i64_w, i32_w]
     rfl
    refine pure_ (i := 2) (N := some 126) (v := ?_) (a' := ?_) #[true, true, true, false, false, false, false, false, false, false, false, false, false, false, false, false, false, false] rfl rfl (any_of HT_.out lc_12_) (fun _ _ _ h => h) (Or.inl ⟨lc_34_, ?_⟩) ?_ ?_
    rotate_left
    ·intro w'
     go_simp
     with_reducible rfl
    rotate_left
    ·simp only [Act.put, setIfInBounds_toArray, set_cons_zero, set_cons_succ, i64_w, i32_w]
     rfl
    refine pure_ (i := 3) (N := some 127) (v := ?_) (a' := ?_) #[true, true, true, true, false, false, false, false, false, false, false, false, false, false, false, false, false, false] rfl rfl (any_of HT_.out lc_12_) (fun _ _ _ h => h) (Or.inl ⟨lc_34_, ?_⟩) ?_ ?_
    rotate_left
    ·intro w'
     go_simp
     with_reducible rfl
    rotate_left
    ·simp only [Act.put, setIfInBounds_toArray, set_cons_zero, set_cons_succ, i64_w, i32_w]
     rfl
    refine pure_ (i := 5) (N := some 129) (v := ?_) (a' := ?_) #[true, true, true, true, false, true, false, false, false, false, false, false, false, false, false, false, false, false] rfl rfl (any_of HT_.out lc_12_) (fun _ _ _ h => h) (Or.inl ⟨lc_34_, ?_⟩) ?_ ?_
    rotate_left
    ·intro w'
     go_simp
     with_reducible rfl
    rotate_left
    ·simp only [Act.put, setIfInBounds_toArray, set_cons_zero, set_cons_succ, i64_w, i32_w]
     rfl
    refine pure_ (i := 8) (N := some 132) (v := ?_) (a' := ?_) #[true, true, true, true, false, true, false, false, true, false, false, false, false, false, false, false, false, false] rfl rfl (any_of HT_.out lc_12_) (fun _ _ _ h => h) (Or.inl ⟨lc_34_, ?_⟩) ?_ ?_
    rotate_left
    ·intro w'
     go_simp
     with_reducible rfl
    rotate_left
    ·simp only [Act.put, setIfInBounds_toArray, set_cons_zero, set_cons_succ, i64_w, i32_w]
     rfl
    refine pure_ (i := 10) (N := some 134) (v := ?_) (a' := ?_) #[true, true, true, true, false, true, false, false, true, false, true, false, false, false, false, false, false, false] rfl rfl (any_of HT_.out lc_12_) (fun _ _ _ h => h) (Or.inl ⟨lc_34_, ?_⟩) ?_ ?_
    rotate_left
    ·intro w'
     go_simp
     with_reducible rfl
    rotate_left
    ·simp only [Act.put, setIfInBounds_toArray, set_cons_zero, set_cons_succ, i64_w, i32_w]
     rfl
    refine take_ (i := 4) (N := some 128) (v := ?_) (a' := ?_) #[true, true, true, true, true, true, false, false, true, false, true, false, false, false, false, false, false, false] rfl rfl (take_ofW HT_.out HW_.out lc_12_) (fun _ _ _ h => h) (Or.inl ⟨lc_34_, ?_⟩) hHeld ?_ ?_
    rotate_left
    ·rintro w' ⟨s0, s1, s2, s3, s4, s5, s6, s7, s8, s9, s10⟩
     go_simp
     with_reducible rfl
    rotate_left
    ·simp only [Act.put, setIfInBounds_toArray, set_cons_zero, set_cons_succ, i64_w, i32_w]
     rfl
    refine pure_ (i := 6) (N := some 130) (v := ?_) (a' := ?_) #[true, true, true, true, true, true, true, false, true, false, true, false, false, false, false, false, false, false] rfl rfl (any_of HT_.out lc_12_) (fun _ _ _ h => h) (Or.inl ⟨lc_34_, ?_⟩) ?_ ?_
    rotate_left
    ·intro w'
     go_simp
     with_reducible rfl
    rotate_left
    ·simp only [Act.put, setIfInBounds_toArray, set_cons_zero, set_cons_succ, i64_w, i32_w]
     rfl
    refine take_ (i := 7) (N := some 131) (v := ?_) (a' := ?_) #[true, true, true, true, true, true, true, true, true, false, true, false, false, false, false, false, false, false] rfl rfl (take_ofW HT_.out HW_.out lc_12_) (fun _ _ _ h => h) (Or.inl ⟨lc_34_, ?_⟩) hHeld ?_ ?_
    rotate_left
    ·rintro w' ⟨s0, s1, s2, s3, s4, s5, s6, s7, s8, s9, s10⟩
     go_simp
     with_reducible rfl
    rotate_left
    ·simp only [Act.put, setIfInBounds_toArray, set_cons_zero, set_cons_succ, i64_w, i32_w]
     rfl
    refine take_ (i := 9) (N := some 133) (v := ?_) (a' := ?_) #[true, true, true, true, true, true, true, true, true, true, true, false, false, false, false, false, false, false] rfl rfl (take_ofW HT_.out HW_.out lc_12_) (fun _ _ _ h => h) (Or.inl ⟨lc_34_, ?_⟩) hHeld ?_ ?_
    rotate_left
    ·rintro w' ⟨s0, s1, s2, s3, s4, s5, s6, s7, s8, s9, s10⟩
     go_simp
     with_reducible rfl
    rotate_left
    ·simp only [Act.put, setIfInBounds_toArray, set_cons_zero, set_cons_succ, i64_w, i32_w]
     rfl
    refine pure_ (i := 11) (N := some 135) (v := ?_) (a' := ?_) #[true, true, true, true, true, true, true, true, true, true, true, true, false, false, false, false, false, false] rfl rfl (any_of HT_.out lc_12_) (fun _ _ _ h => h) (Or.inl ⟨lc_34_, ?_⟩) ?_ ?_
    rotate_left
    ·intro w'
     go_simp
     with_reducible rfl
    rotate_left
    ·simp only [Act.put, setIfInBounds_toArray, set_cons_zero, set_cons_succ, i64_w, i32_w]
     rfl
    refine take_ (i := 12) (N := some 136) (v := ?_) (a' := ?_) #[true, true, true, true, true, true, true, true, true, true, true, true, true, false, false, false, false, false] rfl rfl (take_ofW HT_.out HW_.out lc_12_) (fun _ _ _ h => h) (Or.inl ⟨lc_34_, ?_⟩) hHeld ?_ ?_
    rotate_left
    ·rintro w' ⟨s0, s1, s2, s3, s4, s5, s6, s7, s8, s9, s10⟩
     go_simp
     with_reducible rfl
    rotate_left
    ·simp only [Act.put, setIfInBounds_toArray, set_cons_zero, set_cons_succ, i64_w, i32_w]
     rfl
    refine pure_ (i := 13) (N := some 137) (v := ?_) (a' := ?_) #[true, true, true, true, true, true, true, true, true, true, true, true, true, true, false, false, false, false] rfl rfl (any_of HT_.out lc_12_) (fun _ _ _ h => h) (Or.inl ⟨lc_34_, ?_⟩) ?_ ?_
    rotate_left
    ·intro w'
     go_simp
     with_reducible rfl
    rotate_left
    ·simp only [Act.put, setIfInBounds_toArray, set_cons_zero, set_cons_succ, i64_w, i32_w]
     rfl
    refine pure_ (i := 14) (N := some 138) (v := ?_) (a' := ?_) #[true, true, true, true, true, true, true, true, true, true, true, true, true, true, true, false, false, false] rfl rfl (any_of HT_.out lc_12_) (fun _ _ _ h => h) (Or.inl ⟨lc_34_, ?_⟩) ?_ ?_
    rotate_left
    ·intro w'
     go_simp
     with_reducible rfl
    rotate_left
    ·simp only [Act.put, setIfInBounds_toArray, set_cons_zero, set_cons_succ, i64_w, i32_w]
     rfl
    refine pure_ (i := 15) (N := some 139) (v := ?_) (a' := ?_) #[true, true, true, true, true, true, true, true, true, true, true, true, true, true, true, true, false, false] rfl rfl (any_of HT_.out lc_12_) (fun _ _ _ h => h) (Or.inl ⟨lc_34_, ?_⟩) ?_ ?_
    rotate_left
    ·intro w'
     go_simp
     with_reducible rfl
    rotate_left
    ·simp only [Act.put, setIfInBounds_toArray, set_cons_zero, set_cons_succ, i64_w, i32_w]
     rfl
    refine pure_ (i := 16) (N := some 140) (v := ?_) (a' := ?_) #[true, true, true, true, true, true, true, true, true, true, true, true, true, true, true, true, true, false] rfl rfl (any_of HT_.out lc_12_) (fun _ _ _ h => h) (Or.inl ⟨lc_34_, ?_⟩) ?_ ?_
    rotate_left
    ·intro w'
     go_simp
     with_reducible rfl
    rotate_left
    ·simp only [Act.put, setIfInBounds_toArray, set_cons_zero, set_cons_succ, i64_w, i32_w]
     rfl
    refine last_ (i := 17) (N := none) #[true, true, true, true, true, true, true, true, true, true, true, true, true, true, true, true, true, true] rfl rfl (one_of HT_.out lc_12_) lc_33_ (fun K hK => ?_)
    refine skip_ (w1 := ?_) lc_34_ rfl ?_ ?_
    rotate_left
    ·go_simp
     rfl
    refine hK.out _ _ ?_
    clear hK K
    refine done_ (done_of HT_.out lc_12_) ?_
    try go_wp2
    (try simp only [← hl13_3])
    go_roundg k3
    case measure => have := HJ3.out; have := HJ25.out; have := HK3.out; omega
    case rel => exact ⟨(y124), (x14_3), (wrap64 (x121_3 + 1)), lc_16_, lc_16_, H', ⟨by have := HJ3.out; have := HJ25.out; have := HK3.out; omega⟩, ⟨by (try simp only [hl13_3]); (with_reducible repeat (first | apply Kd.R_alloc | apply Kd.R_drewN | apply Kd.R_drew)); exact Kd.R_mono (Kd.R_far (p := ⟨go69, (x121_3 : Int).toNat, none⟩) (Kd.R_mono HO_7.out (fun k_ hk => (⟨hk, fun e_ => hk.1 (by rw [e_]; rfl)⟩ : _ ∧ k_ ≠ go69))) (fun _ hk => hk.2) (.int .i64 (Int.tmod (wrap64 ((wrap64 ((rd l0_5 x121_3) - (rd t110 x121_3))) + 2147483647)) 2147483647))) (fun _ hk => ⟨hk.1.1, hk.1.2⟩)⟩, ⟨by (try simp only [hl13_3]); (with_reducible repeat (first | apply Kd.R_alloc | apply Kd.R_drewN | apply Kd.R_drew)); exact HQ72.out⟩, ⟨by (try simp only [hl13_3]); (with_reducible repeat (first | apply Kd.R_alloc | apply Kd.R_drewN | apply Kd.R_drew)); exact Kd.R_mono (Kd.R_far (p := ⟨go69, (x121_3 : Int).toNat, none⟩) (Kd.R_mono HO_116000.out (fun k_ hk => (⟨hk, fun e_ => hk.2 (by rw [e_]; rfl)⟩ : _ ∧ k_ ≠ go69))) (fun _ hk => hk.2) (.int .i64 (Int.tmod (wrap64 ((wrap64 ((rd l0_5 x121_3) - (rd t110 x121_3))) + 2147483647)) 2147483647))) (fun _ hk => ⟨hk.1.1, hk.1.2⟩)⟩, ⟨by (try simp only [hl13_3]); (with_reducible repeat (first | refine blk_drewN ?_ _ | refine blk_drew ?_ | refine blk_alloc ?_ _)); refine blk_far ?_ (by have h_ := Kd.R_ne HO_13.out BK101.out lc_33_; intro e_; exact h_ (by rw [e_]; rfl)) _; (with_reducible repeat (first | refine blk_drewN ?_ _ | refine blk_drew ?_ | refine blk_alloc ?_ _)); exact BK101.out⟩, ⟨by (try simp only [hl13_3]); (with_reducible repeat (first | refine blk_drewN ?_ _ | refine blk_drew ?_ | refine blk_alloc ?_ _)); refine blk_far ?_ (by have h_ := Kd.R_ne HO_13.out BK115.out lc_33_; intro e_; exact h_ (by rw [e_]; rfl)) _; (with_reducible repeat (first | refine blk_drewN ?_ _ | refine blk_drew ?_ | refine blk_alloc ?_ _)); exact BK115.out⟩, ⟨lc_44_⟩⟩
   rw [if_neg c70] at H
   have c70b0 : (x121_3 == (Int.tmod (wrap64 (a1)) (l0_0.length : Int))) = false := beq_eq_false_iff_ne.mpr c70
   have c70b1 : (x121_3 != (Int.tmod (wrap64 (a1)) (l0_0.length : Int))) = true := bne_iff_ne.mpr c70
   by_cases c73 : x121_3 < (l0_0.length : Int)
   rotate_left
   ·rw [if_neg c73] at H
    exact absurd H (by simp)
   rw [if_pos c73] at H
   have c73b0 : decide (x121_3 < (l0_0.length : Int)) = true := decide_eq_true c73
   clear c73
   have H' := Aside0.mk H
   clear H
   try go_wp2
   have n0_ := Aside0.mk (Kd.R_drew HO_7.out)
   have n1_ := Aside0.mk (Kd.R_drew HO_13.out)
   have n2_ := Aside0.mk (Kd.R_drew HO_116000.out)
   have n3_ := Aside0.mk (blk_drew BK101.out)
   have n4_ := Aside0.mk (blk_drew BK115.out)
   have n5_ := Aside0.mk (below_drew1 HB.out)
   clear HO_7
   clear HO_13
   clear HO_116000
   clear BK101
   clear BK115
   clear HB
   have HO_7 := n0_
   have HO_13 := n1_
   have HO_116000 := n2_
   have BK101 := n3_
   have BK115 := n4_
   have HB := n5_
   clear n0_ n1_ n2_ n3_ n4_ n5_
   have p122 : 0 ≤ (x121_3 : Int) := of_decide_eq_true lc_8_
   have q122 : x121_3 < (l0_5.length : Int) := of_decide_eq_true lc_8_
   obtain ⟨ad122, e122, hx122_0⟩ := Kd.at_int HR0_5.out x121_3 p122 q122
   have hw122_0 := hx122_0
   cases e122
   replace hx122_0 := (HB.out.cell (World.block_lt_of_cell? w _ hx122_0)).trans hx122_0
   replace p122 := eq_true p122
   replace q122 := eq_true q122
   have p123 : 0 ≤ (x121_3 : Int) := of_decide_eq_true lc_8_
   have q123 : x121_3 < (t110.length : Int) := of_decide_eq_true lc_8_
   obtain ⟨ad123, e123, hx123_0⟩ := Kd.at_int (Kd.R_reads' HO_116000.out).2.2 x121_3 p123 q123
   cases e123
   replace p123 := eq_true p123
   replace q123 := eq_true q123
   have p69 : 0 ≤ (x121_3 : Int) := of_decide_eq_true lc_8_
   have q69 : (x121_3 : Int) < ((x13_3.length : Int) : Int) := of_decide_eq_true lc_8_
   obtain ⟨go69, co69, eo69, gb69, gl69, cl69, HG69⟩ := Kd.R_form HO_13.out (by omega)
   (first | cases eo69 | (injection eo69 with ea_ en_ ec_; (first | subst ea_ | (injection ea_ with ea_; subst ea_)); subst ec_; clear en_))
   have GB69 := Aside0.mk gb69
   have GG69 := Aside0.mk HG69
   clear gb69 gl69 HG69
   obtain ⟨hx69_0, hf69_0⟩ := Kd.R_celln 0 HO_13.out (x121_3 : Int) p69 q69
   replace p69 := eq_true p69
   replace q69 := eq_true q69
   have HP75 := Kd.R_putn HO_13.out (x121_3 : Int) (Int.tmod (wrap64 ((wrap64 ((rd l0_5 x121_3) - (rd t110 x121_3))) + 2147483647)) 2147483647)
   rw [← Ny124.out] at HP75
   have HQ75 := Aside0.mk HP75
   clear HP75
   refine start_ (n := 18) (S := fun w' => w'.cell? ⟨gb101, 0, none⟩ = some (.slice A0_0 l0_0.length c0_0) ∧ w'.cell? ⟨gb101, 1, none⟩ = some (.slice A0_1 l0_1.length c0_1) ∧ w'.cell? ⟨gb101, 2, none⟩ = some (.slice A0_2 l0_2.length c0_2) ∧ w'.cell? ⟨gb101, 3, none⟩ = some (.slice A0_3 l0_3.length c0_3) ∧ w'.cell? ⟨gb101, 4, none⟩ = some (.slice A0_4 l0_4.length c0_4) ∧ w'.cell? ⟨gb101, 5, none⟩ = some (.slice (some ad122) l0_5.length c0_5) ∧ w'.cell? ⟨gb101, 6, none⟩ = some (.int .i64 a0_6) ∧ w'.cell? ⟨gb115, 0, none⟩ = some (.slice (some ad123) t110.length co33) ∧ w'.cell? ⟨gb115, 1, none⟩ = some (.int .i64 t113) ∧ w'.cell? (ad122.add (x121_3).toNat) = some (.int .i64 (rd l0_5 x121_3)) ∧ w'.cell? (ad123.add (x121_3).toNat) = some (.int .i64 (rd t110 x121_3))) (ds := [17]) #[false, false, false, false, false, false, false, false, false, false, false, false, false, false, false, false, false, false] lc_12_ rfl rfl ⟨(blk_cell BK101.out 0).trans rfl, (blk_cell BK101.out 1).trans rfl, (blk_cell BK101.out 2).trans rfl, (blk_cell BK101.out 3).trans rfl, (blk_cell BK101.out 4).trans rfl, (blk_cell BK101.out 5).trans rfl, (blk_cell BK101.out 6).trans rfl, (blk_cell BK115.out 0).trans rfl, (blk_cell BK115.out 1).trans rfl, ((HB.out.cell (World.block_lt_of_cell? w _ hw122_0)).trans hw122_0), hx123_0⟩ (fun hHeld => ?_); refine with_tabW quietuslaw43_TagsCountForgeries.tab18 quietuslaw43_TagsCountForgeries.bits18 (fun HT_ HW_ => ?_)
   generalize wr.drew = w74 at HO_7 HO_13 HO_116000 BK101 BK115 HB GG69 HQ75 hf69_0 hx122_0 hx123_0 hx69_0 hHeld ⊢
   refine pure_ (i := 0) (N := some 124) (v := ?_) (a' := ?_) #[true, false, false, false, false, false, false, false, false, false, false, false, false, false, false, false, false, false] rfl rfl (any_of HT_.out lc_12_) (fun _ _ _ h => h) (Or.inl ⟨lc_34_, ?_⟩) ?_ ?_
   rotate_left
   ·intro w'
    go_simp
    with_reducible rfl
   rotate_left
   ·simp only [Act.put, setIfInBounds_toArray, set_cons_zero, set_cons_succ, i64_w, i32_w]
    rfl
   refine pure_ (i := 1) (N := some 125) (v := ?_) (a' := ?_) #[true, true, false, false, false, false, false, false, false, false, false, false, false, false, false, false, false, false] rfl rfl (any_of HT_.out lc_12_) (fun _ _ _ h => h) (Or.inl ⟨lc_34_, ?_⟩) ?_ ?_
   rotate_left
   ·intro w'
    go_simp
    with_reducible rfl
   rotate_left
   ·simp only [Act.put, setIfInBounds_toArray, set_cons_zero, set_cons_succ, i64_w, i32_w]
    rfl
   refine pure_ (i := 2) (N := some 126) (v := ?_) (a' := ?_) #[true, true, true, false, false, false, false, false, false, false, false, false, false, false, false, false, false, false] rfl rfl (any_of HT_.out lc_12_) (fun _ _ _ h => h) (Or.inl ⟨lc_34_, ?_⟩) ?_ ?_
   rotate_left
   ·intro w'
    go_simp
    with_reducible rfl
   rotate_left
   ·simp only [Act.put, setIfInBounds_toArray, set_cons_zero, set_cons_succ, i64_w, i32_w]
    rfl
   refine pure_ (i := 3) (N := some 127) (v := ?_) (a' := ?_) #[true, true, true, true, false, false, false, false, false, false, false, false, false, false, false, false, false, false] rfl rfl (any_of HT_.out lc_12_) (fun _ _ _ h => h) (Or.inl ⟨lc_34_, ?_⟩) ?_ ?_
   rotate_left
   ·intro w'
    go_simp
    with_reducible rfl
   rotate_left
   ·simp only [Act.put, setIfInBounds_toArray, set_cons_zero, set_cons_succ, i64_w, i32_w]
    rfl
   refine pure_ (i := 5) (N := some 129) (v := ?_) (a' := ?_) #[true, true, true, true, false, true, false, false, false, false, false, false, false, false, false, false, false, false] rfl rfl (any_of HT_.out lc_12_) (fun _ _ _ h => h) (Or.inl ⟨lc_34_, ?_⟩) ?_ ?_
   rotate_left
   ·intro w'
    go_simp
    with_reducible rfl
   rotate_left
   ·simp only [Act.put, setIfInBounds_toArray, set_cons_zero, set_cons_succ, i64_w, i32_w]
    rfl
   refine pure_ (i := 8) (N := some 132) (v := ?_) (a' := ?_) #[true, true, true, true, false, true, false, false, true, false, false, false, false, false, false, false, false, false] rfl rfl (any_of HT_.out lc_12_) (fun _ _ _ h => h) (Or.inl ⟨lc_34_, ?_⟩) ?_ ?_
   rotate_left
   ·intro w'
    go_simp
    with_reducible rfl
   rotate_left
   ·simp only [Act.put, setIfInBounds_toArray, set_cons_zero, set_cons_succ, i64_w, i32_w]
    rfl
   refine pure_ (i := 10) (N := some 134) (v := ?_) (a' := ?_) #[true, true, true, true, false, true, false, false, true, false, true, false, false, false, false, false, false, false] rfl rfl (any_of HT_.out lc_12_) (fun _ _ _ h => h) (Or.inl ⟨lc_34_, ?_⟩) ?_ ?_
   rotate_left
   ·intro w'
    go_simp
    with_reducible rfl
   rotate_left
   ·simp only [Act.put, setIfInBounds_toArray, set_cons_zero, set_cons_succ, i64_w, i32_w]
    rfl
   refine take_ (i := 4) (N := some 128) (v := ?_) (a' := ?_) #[true, true, true, true, true, true, false, false, true, false, true, false, false, false, false, false, false, false] rfl rfl (take_ofW HT_.out HW_.out lc_12_) (fun _ _ _ h => h) (Or.inl ⟨lc_34_, ?_⟩) hHeld ?_ ?_
   rotate_left
   ·rintro w' ⟨s0, s1, s2, s3, s4, s5, s6, s7, s8, s9, s10⟩
    go_simp
    with_reducible rfl
   rotate_left
   ·simp only [Act.put, setIfInBounds_toArray, set_cons_zero, set_cons_succ, i64_w, i32_w]
    rfl
   refine pure_ (i := 6) (N := some 130) (v := ?_) (a' := ?_) #[true, true, true, true, true, true, true, false, true, false, true, false, false, false, false, false, false, false] rfl rfl (any_of HT_.out lc_12_) (fun _ _ _ h => h) (Or.inl ⟨lc_34_, ?_⟩) ?_ ?_
   rotate_left
   ·intro w'
    go_simp
    with_reducible rfl
   rotate_left
   ·simp only [Act.put, setIfInBounds_toArray, set_cons_zero, set_cons_succ, i64_w, i32_w]
    rfl
   refine take_ (i := 7) (N := some 131) (v := ?_) (a' := ?_) #[true, true, true, true, true, true, true, true, true, false, true, false, false, false, false, false, false, false] rfl rfl (take_ofW HT_.out HW_.out lc_12_) (fun _ _ _ h => h) (Or.inl ⟨lc_34_, ?_⟩) hHeld ?_ ?_
   rotate_left
   ·rintro w' ⟨s0, s1, s2, s3, s4, s5, s6, s7, s8, s9, s10⟩
    go_simp
    with_reducible rfl
   rotate_left
   ·simp only [Act.put, setIfInBounds_toArray, set_cons_zero, set_cons_succ, i64_w, i32_w]
    rfl
   refine take_ (i := 9) (N := some 133) (v := ?_) (a' := ?_) #[true, true, true, true, true, true, true, true, true, true, true, false, false, false, false, false, false, false] rfl rfl (take_ofW HT_.out HW_.out lc_12_) (fun _ _ _ h => h) (Or.inl ⟨lc_34_, ?_⟩) hHeld ?_ ?_
   rotate_left
   ·rintro w' ⟨s0, s1, s2, s3, s4, s5, s6, s7, s8, s9, s10⟩
    go_simp
    with_reducible rfl
   rotate_left
   ·simp only [Act.put, setIfInBounds_toArray, set_cons_zero, set_cons_succ, i64_w, i32_w]
    rfl
   refine pure_ (i := 11) (N := some 135) (v := ?_) (a' := ?_) #[true, true, true, true, true, true, true, true, true, true, true, true, false, false, false, false, false, false] rfl rfl (any_of HT_.out lc_12_) (fun _ _ _ h => h) (Or.inl ⟨lc_34_, ?_⟩) ?_ ?_
   rotate_left
   ·intro w'
    go_simp
    with_reducible rfl
   rotate_left
   ·simp only [Act.put, setIfInBounds_toArray, set_cons_zero, set_cons_succ, i64_w, i32_w]
    rfl
   refine take_ (i := 12) (N := some 136) (v := ?_) (a' := ?_) #[true, true, true, true, true, true, true, true, true, true, true, true, true, false, false, false, false, false] rfl rfl (take_ofW HT_.out HW_.out lc_12_) (fun _ _ _ h => h) (Or.inl ⟨lc_34_, ?_⟩) hHeld ?_ ?_
   rotate_left
   ·rintro w' ⟨s0, s1, s2, s3, s4, s5, s6, s7, s8, s9, s10⟩
    go_simp
    with_reducible rfl
   rotate_left
   ·simp only [Act.put, setIfInBounds_toArray, set_cons_zero, set_cons_succ, i64_w, i32_w]
    rfl
   refine pure_ (i := 13) (N := some 137) (v := ?_) (a' := ?_) #[true, true, true, true, true, true, true, true, true, true, true, true, true, true, false, false, false, false] rfl rfl (any_of HT_.out lc_12_) (fun _ _ _ h => h) (Or.inl ⟨lc_34_, ?_⟩) ?_ ?_
   rotate_left
   ·intro w'
    go_simp
    with_reducible rfl
   rotate_left
   ·simp only [Act.put, setIfInBounds_toArray, set_cons_zero, set_cons_succ, i64_w, i32_w]
    rfl
   refine pure_ (i := 14) (N := some 138) (v := ?_) (a' := ?_) #[true, true, true, true, true, true, true, true, true, true, true, true, true, true, true, false, false, false] rfl rfl (any_of HT_.out lc_12_) (fun _ _ _ h => h) (Or.inl ⟨lc_34_, ?_⟩) ?_ ?_
   rotate_left
   ·intro w'
    go_simp
    with_reducible rfl
   rotate_left
   ·simp only [Act.put, setIfInBounds_toArray, set_cons_zero, set_cons_succ, i64_w, i32_w]
    rfl
   refine pure_ (i := 15) (N := some 139) (v := ?_) (a' := ?_) #[true, true, true, true, true, true, true, true, true, true, true, true, true, true, true, true, false, false] rfl rfl (any_of HT_.out lc_12_) (fun _ _ _ h => h) (Or.inl ⟨lc_34_, ?_⟩) ?_ ?_
   rotate_left
   ·intro w'
    go_simp
    with_reducible rfl
   rotate_left
   ·simp only [Act.put, setIfInBounds_toArray, set_cons_zero, set_cons_succ, i64_w, i32_w]
    rfl
   refine pure_ (i := 16) (N := some 140) (v := ?_) (a' := ?_) #[true, true, true, true, true, true, true, true, true, true, true, true, true, true, true, true, true, false] rfl rfl (any_of HT_.out lc_12_) (fun _ _ _ h => h) (Or.inl ⟨lc_34_, ?_⟩) ?_ ?_
   rotate_left
   ·intro w'
    go_simp
    with_reducible rfl
   rotate_left
   ·simp only [Act.put, setIfInBounds_toArray, set_cons_zero, set_cons_succ, i64_w, i32_w]
    rfl
   refine last_ (i := 17) (N := none) #[true, true, true, true, true, true, true, true, true, true, true, true, true, true, true, true, true, true] rfl rfl (one_of HT_.out lc_12_) lc_33_ (fun K hK => ?_)
   refine skip_ (w1 := ?_) lc_34_ rfl ?_ ?_
   rotate_left
   ·go_simp
    rfl
   refine hK.out _ _ ?_
   clear hK K
   refine done_ (done_of HT_.out lc_12_) ?_
   try go_wp2
   have n0_ : Aside0 (Kd.R (Kd.int .i64) 3 (w74.setCell ⟨go69, (x121_3 : Int).toNat, none⟩ (.int .i64 (Int.tmod (wrap64 ((wrap64 ((rd l0_5 x121_3) - (rd t110 x121_3))) + 2147483647)) 2147483647))) w.heap.size (fun k_ => some k_ ≠ (.slice (some ⟨go69, 0, none⟩) x13_3.length co63 : Value).ownBlock ∧ some k_ ≠ (.slice (some ad123) t110.length co33 : Value).ownBlock) (.slice Ao30 t105.length co30) t105) := ⟨by (with_reducible repeat (first | apply Kd.R_alloc | apply Kd.R_drewN | apply Kd.R_drew)); exact Kd.R_mono (Kd.R_far (p := ⟨go69, (x121_3 : Int).toNat, none⟩) (Kd.R_mono HO_7.out (fun k_ hk => (⟨hk, fun e_ => hk.1 (by rw [e_]; rfl)⟩ : _ ∧ k_ ≠ go69))) (fun _ hk => hk.2) (.int .i64 (Int.tmod (wrap64 ((wrap64 ((rd l0_5 x121_3) - (rd t110 x121_3))) + 2147483647)) 2147483647))) (fun _ hk => ⟨hk.1.1, hk.1.2⟩)⟩
   have n1_ : Aside0 (Kd.R (Kd.int .i64) 3 (w74.setCell ⟨go69, (x121_3 : Int).toNat, none⟩ (.int .i64 (Int.tmod (wrap64 ((wrap64 ((rd l0_5 x121_3) - (rd t110 x121_3))) + 2147483647)) 2147483647))) w.heap.size (fun k_ => some k_ ≠ (.slice Ao30 t105.length co30 : Value).ownBlock ∧ some k_ ≠ (.slice (some ad123) t110.length co33 : Value).ownBlock) (.slice (some ⟨go69, 0, none⟩) x13_3.length co63) y124) := ⟨pR HQ75.out⟩
   have n2_ : Aside0 (Kd.R (Kd.int .i64) 3 (w74.setCell ⟨go69, (x121_3 : Int).toNat, none⟩ (.int .i64 (Int.tmod (wrap64 ((wrap64 ((rd l0_5 x121_3) - (rd t110 x121_3))) + 2147483647)) 2147483647))) w.heap.size (fun k_ => some k_ ≠ (.slice Ao30 t105.length co30 : Value).ownBlock ∧ some k_ ≠ (.slice (some ⟨go69, 0, none⟩) x13_3.length co63 : Value).ownBlock) (.slice (some ad123) t110.length co33) t110) := ⟨by (with_reducible repeat (first | apply Kd.R_alloc | apply Kd.R_drewN | apply Kd.R_drew)); exact Kd.R_mono (Kd.R_far (p := ⟨go69, (x121_3 : Int).toNat, none⟩) (Kd.R_mono HO_116000.out (fun k_ hk => (⟨hk, fun e_ => hk.2 (by rw [e_]; rfl)⟩ : _ ∧ k_ ≠ go69))) (fun _ hk => hk.2) (.int .i64 (Int.tmod (wrap64 ((wrap64 ((rd l0_5 x121_3) - (rd t110 x121_3))) + 2147483647)) 2147483647))) (fun _ hk => ⟨hk.1.1, hk.1.2⟩)⟩
   have n3_ : Aside0 ((w74.setCell ⟨go69, (x121_3 : Int).toNat, none⟩ (.int .i64 (Int.tmod (wrap64 ((wrap64 ((rd l0_5 x121_3) - (rd t110 x121_3))) + 2147483647)) 2147483647))).heap[gb101]? = some (.cells #[.slice A0_0 l0_0.length c0_0, .slice A0_1 l0_1.length c0_1, .slice A0_2 l0_2.length c0_2, .slice A0_3 l0_3.length c0_3, .slice A0_4 l0_4.length c0_4, .slice (some ad122) l0_5.length c0_5, .int .i64 a0_6] 30 (0, 0))) := ⟨by (with_reducible repeat (first | refine blk_drewN ?_ _ | refine blk_drew ?_ | refine blk_alloc ?_ _)); refine blk_far ?_ (by have h_ := Kd.R_ne HO_13.out BK101.out lc_33_; intro e_; exact h_ (by rw [e_]; rfl)) _; (with_reducible repeat (first | refine blk_drewN ?_ _ | refine blk_drew ?_ | refine blk_alloc ?_ _)); exact BK101.out⟩
   have n4_ : Aside0 ((w74.setCell ⟨go69, (x121_3 : Int).toNat, none⟩ (.int .i64 (Int.tmod (wrap64 ((wrap64 ((rd l0_5 x121_3) - (rd t110 x121_3))) + 2147483647)) 2147483647))).heap[gb115]? = some (.cells #[.slice (some ad123) t110.length co33, .int .i64 t113] 28 (0, 0))) := ⟨by (with_reducible repeat (first | refine blk_drewN ?_ _ | refine blk_drew ?_ | refine blk_alloc ?_ _)); refine blk_far ?_ (by have h_ := Kd.R_ne HO_13.out BK115.out lc_33_; intro e_; exact h_ (by rw [e_]; rfl)) _; (with_reducible repeat (first | refine blk_drewN ?_ _ | refine blk_drew ?_ | refine blk_alloc ?_ _)); exact BK115.out⟩
   have n5_ : Aside0 (Below w.heap.size w (w74.setCell ⟨go69, (x121_3 : Int).toNat, none⟩ (.int .i64 (Int.tmod (wrap64 ((wrap64 ((rd l0_5 x121_3) - (rd t110 x121_3))) + 2147483647)) 2147483647)))) := ⟨lc_44_⟩
   (try clear HO_7)
   (try clear HO_13)
   (try clear HO_116000)
   (try clear BK101)
   (try clear BK115)
   (try clear HB)
   generalize (w74.setCell ⟨go69, (x121_3 : Int).toNat, none⟩ (.int .i64 (Int.tmod (wrap64 ((wrap64 ((rd l0_5 x121_3) - (rd t110 x121_3))) + 2147483647)) 2147483647))) = w76 at n0_ n1_ n2_ n3_ n4_ n5_ ⊢
   have HO_7 := n0_
   have HO_13 := n1_
   have HO_116000 := n2_
   have BK101 := n3_
   have BK115 := n4_
   have HB := n5_
   clear n0_ n1_ n2_ n3_ n4_ n5_
   have n0_ := Aside0.mk (Kd.R_drew HO_7.out)
   have n1_ := Aside0.mk (Kd.R_drew HO_13.out)
   have n2_ := Aside0.mk (Kd.R_drew HO_116000.out)
   have n3_ := Aside0.mk (blk_drew BK101.out)
   have n4_ := Aside0.mk (blk_drew BK115.out)
   have n5_ := Aside0.mk (below_drew1 HB.out)
   clear HO_7
   clear HO_13
   clear HO_116000
   clear BK101
   clear BK115
   clear HB
   have HO_7 := n0_
   have HO_13 := n1_
   have HO_116000 := n2_
   have BK101 := n3_
   have BK115 := n4_
   have HB := n5_
   clear n0_ n1_ n2_ n3_ n4_ n5_
   have p125 : 0 ≤ (x121_3 : Int) := of_decide_eq_true lc_8_
   have q125 : x121_3 < (y124.length : Int) := (by have h_ : (x121_3 : Int) < ((x13_3.length : Int) : Int) := of_decide_eq_true lc_8_; first | (have e_ := (Kd.R_reads' HO_13.out).1; omega) | simpa only [Ny124.out, List.length_set] using h_)
   have ql125 : ((x121_3 : Int) < ((x13_3.length : Int) : Int)) = True := eq_true (of_decide_eq_true lc_8_)
   obtain ⟨ad125, e125, hx125_0⟩ := Kd.at_int (Kd.R_reads' HO_13.out).2.2 x121_3 p125 q125
   obtain rfl : (⟨go69, 0, none⟩ : Addr) = ad125 := (by injection e125)
   (first | simp only [add_plain] at hx125_0 | simp only [add_at] at hx125_0 | simp only [Addr.add, Nat.zero_add] at hx125_0 | skip)
   replace p125 := eq_true p125
   replace q125 := eq_true q125
   have p126 : 0 ≤ (x121_3 : Int) := of_decide_eq_true lc_8_
   have q126 : x121_3 < (l0_0.length : Int) := of_decide_eq_true lc_8_
   obtain ⟨ad126, e126, hx126_0⟩ := Kd.at_int HR0_0.out x121_3 p126 q126
   have hw126_0 := hx126_0
   cases e126
   replace hx126_0 := (HB.out.cell (World.block_lt_of_cell? w _ hx126_0)).trans hx126_0
   replace p126 := eq_true p126
   replace q126 := eq_true q126
   refine start_ (n := 17) (S := fun w' => w'.cell? ⟨gb101, 0, none⟩ = some (.slice (some ad126) l0_0.length c0_0) ∧ w'.cell? ⟨gb101, 1, none⟩ = some (.slice A0_1 l0_1.length c0_1) ∧ w'.cell? ⟨gb101, 2, none⟩ = some (.slice A0_2 l0_2.length c0_2) ∧ w'.cell? ⟨gb101, 3, none⟩ = some (.slice A0_3 l0_3.length c0_3) ∧ w'.cell? ⟨gb101, 4, none⟩ = some (.slice A0_4 l0_4.length c0_4) ∧ w'.cell? ⟨gb101, 5, none⟩ = some (.slice (some ad122) l0_5.length c0_5) ∧ w'.cell? ⟨gb101, 6, none⟩ = some (.int .i64 a0_6) ∧ w'.cell? ⟨go69, (x121_3).toNat, none⟩ = some (.int .i64 (rd y124 x121_3)) ∧ w'.cell? (ad126.add (x121_3).toNat) = some (.int .i64 (rd l0_0 x121_3))) (ds := []) #[false, false, false, false, false, false, false, false, false, false, false, false, false, false, false, false, false] lc_12_ rfl rfl ⟨(blk_cell BK101.out 0).trans rfl, (blk_cell BK101.out 1).trans rfl, (blk_cell BK101.out 2).trans rfl, (blk_cell BK101.out 3).trans rfl, (blk_cell BK101.out 4).trans rfl, (blk_cell BK101.out 5).trans rfl, (blk_cell BK101.out 6).trans rfl, hx125_0, ((HB.out.cell (World.block_lt_of_cell? w _ hw126_0)).trans hw126_0)⟩ (fun hHeld => ?_); refine with_tabW quietuslaw43_TagsCountForgeries.tab20 quietuslaw43_TagsCountForgeries.bits20 (fun HT_ HW_ => ?_)
   generalize w76.drew = w77 at HO_7 HO_13 HO_116000 BK101 BK115 HB HQ75 hx125_0 hx126_0 hHeld ⊢
   refine pure_ (i := 0) (N := some 144) (v := ?_) (a' := ?_) #[true, false, false, false, false, false, false, false, false, false, false, false, false, false, false, false, false] rfl rfl (any_of HT_.out lc_12_) (fun _ _ _ h => h) (Or.inl ⟨lc_34_, ?_⟩) ?_ ?_
   rotate_left
   ·intro w'
    go_simp
    with_reducible rfl
   rotate_left
   ·simp only [Act.put, setIfInBounds_toArray, set_cons_zero, set_cons_succ, i64_w, i32_w]
    rfl
   refine pure_ (i := 1) (N := some 145) (v := ?_) (a' := ?_) #[true, true, false, false, false, false, false, false, false, false, false, false, false, false, false, false, false] rfl rfl (any_of HT_.out lc_12_) (fun _ _ _ h => h) (Or.inl ⟨lc_34_, ?_⟩) ?_ ?_
   rotate_left
   ·intro w'
    go_simp
    with_reducible rfl
   rotate_left
   ·simp only [Act.put, setIfInBounds_toArray, set_cons_zero, set_cons_succ, i64_w, i32_w]
    rfl
   refine pure_ (i := 2) (N := some 146) (v := ?_) (a' := ?_) #[true, true, true, false, false, false, false, false, false, false, false, false, false, false, false, false, false] rfl rfl (any_of HT_.out lc_12_) (fun _ _ _ h => h) (Or.inl ⟨lc_34_, ?_⟩) ?_ ?_
   rotate_left
   ·intro w'
    go_simp
    with_reducible rfl
   rotate_left
   ·simp only [Act.put, setIfInBounds_toArray, set_cons_zero, set_cons_succ, i64_w, i32_w]
    rfl
   refine pure_ (i := 3) (N := some 147) (v := ?_) (a' := ?_) #[true, true, true, true, false, false, false, false, false, false, false, false, false, false, false, false, false] rfl rfl (any_of HT_.out lc_12_) (fun _ _ _ h => h) (Or.inl ⟨lc_34_, ?_⟩) ?_ ?_
   rotate_left
   ·intro w'
    go_simp
    with_reducible rfl
   rotate_left
   ·simp only [Act.put, setIfInBounds_toArray, set_cons_zero, set_cons_succ, i64_w, i32_w]
    rfl
   refine pure_ (i := 5) (N := some 149) (v := ?_) (a' := ?_) #[true, true, true, true, false, true, false, false, false, false, false, false, false, false, false, false, false] rfl rfl (any_of HT_.out lc_12_) (fun _ _ _ h => h) (Or.inl ⟨lc_34_, ?_⟩) ?_ ?_
   rotate_left
   ·intro w'
    go_simp
    with_reducible rfl
   rotate_left
   ·simp only [Act.put, setIfInBounds_toArray, set_cons_zero, set_cons_succ, i64_w, i32_w]
    rfl
   refine pure_ (i := 6) (N := some 150) (v := ?_) (a' := ?_) #[true, true, true, true, false, true, true, false, false, false, false, false, false, false, false, false, false] rfl rfl (any_of HT_.out lc_12_) (fun _ _ _ h => h) (Or.inl ⟨lc_34_, ?_⟩) ?_ ?_
   rotate_left
   ·intro w'
    go_simp
    with_reducible rfl
   rotate_left
   ·simp only [Act.put, setIfInBounds_toArray, set_cons_zero, set_cons_succ, i64_w, i32_w]
    rfl
   refine pure_ (i := 8) (N := some 152) (v := ?_) (a' := ?_) #[true, true, true, true, false, true, true, false, true, false, false, false, false, false, false, false, false] rfl rfl (any_of HT_.out lc_12_) (fun _ _ _ h => h) (Or.inl ⟨lc_34_, ?_⟩) ?_ ?_
   rotate_left
   ·intro w'
    go_simp
    with_reducible rfl
   rotate_left
   ·simp only [Act.put, setIfInBounds_toArray, set_cons_zero, set_cons_succ, i64_w, i32_w]
    rfl
   refine take_ (i := 4) (N := some 148) (v := ?_) (a' := ?_) #[true, true, true, true, true, true, true, false, true, false, false, false, false, false, false, false, false] rfl rfl (take_ofW HT_.out HW_.out lc_12_) (fun _ _ _ h => h) (Or.inl ⟨lc_34_, ?_⟩) hHeld ?_ ?_
   rotate_left
   ·rintro w' ⟨s0, s1, s2, s3, s4, s5, s6, s7, s8⟩
    go_simp
    with_reducible rfl
   rotate_left
   ·simp only [Act.put, setIfInBounds_toArray, set_cons_zero, set_cons_succ, i64_w, i32_w]
    rfl
   refine take_ (i := 7) (N := some 151) (v := ?_) (a' := ?_) #[true, true, true, true, true, true, true, true, true, false, false, false, false, false, false, false, false] rfl rfl (take_ofW HT_.out HW_.out lc_12_) (fun _ _ _ h => h) (Or.inl ⟨lc_34_, ?_⟩) hHeld ?_ ?_
   rotate_left
   ·rintro w' ⟨s0, s1, s2, s3, s4, s5, s6, s7, s8⟩
    go_simp
    with_reducible rfl
   rotate_left
   ·simp only [Act.put, setIfInBounds_toArray, set_cons_zero, set_cons_succ, i64_w, i32_w]
    rfl
   refine pure_ (i := 9) (N := some 153) (v := ?_) (a' := ?_) #[true, true, true, true, true, true, true, true, true, true, false, false, false, false, false, false, false] rfl rfl (any_of HT_.out lc_12_) (fun _ _ _ h => h) (Or.inl ⟨lc_34_, ?_⟩) ?_ ?_
   rotate_left
   ·intro w'
    go_simp
    with_reducible rfl
   rotate_left
   ·simp only [Act.put, setIfInBounds_toArray, set_cons_zero, set_cons_succ, i64_w, i32_w]
    rfl
   refine take_ (i := 10) (N := some 154) (v := ?_) (a' := ?_) #[true, true, true, true, true, true, true, true, true, true, true, false, false, false, false, false, false] rfl rfl (take_ofW HT_.out HW_.out lc_12_) (fun _ _ _ h => h) (Or.inl ⟨lc_34_, ?_⟩) hHeld ?_ ?_
   rotate_left
   ·rintro w' ⟨s0, s1, s2, s3, s4, s5, s6, s7, s8⟩
    go_simp
    with_reducible rfl
   rotate_left
   ·simp only [Act.put, setIfInBounds_toArray, set_cons_zero, set_cons_succ, i64_w, i32_w]
    rfl
   refine pure_ (i := 11) (N := some 155) (v := ?_) (a' := ?_) #[true, true, true, true, true, true, true, true, true, true, true, true, false, false, false, false, false] rfl rfl (any_of HT_.out lc_12_) (fun _ _ _ h => h) (Or.inl ⟨lc_34_, ?_⟩) ?_ ?_
   rotate_left
   ·intro w'
    go_simp
    with_reducible rfl
   rotate_left
   ·simp only [Act.put, setIfInBounds_toArray, set_cons_zero, set_cons_succ, i64_w, i32_w]
    rfl
   refine pure_ (i := 12) (N := some 156) (v := ?_) (a' := ?_) #[true, true, true, true, true, true, true, true, true, true, true, true, true, false, false, false, false] rfl rfl (any_of HT_.out lc_12_) (fun _ _ _ h => h) (Or.inl ⟨lc_34_, ?_⟩) ?_ ?_
   rotate_left
   ·intro w'
    go_simp
    with_reducible rfl
   rotate_left
   ·simp only [Act.put, setIfInBounds_toArray, set_cons_zero, set_cons_succ, i64_w, i32_w]
    rfl
   refine pure_ (i := 13) (N := some 157) (v := ?_) (a' := ?_) #[true, true, true, true, true, true, true, true, true, true, true, true, true, true, false, false, false] rfl rfl (any_of HT_.out lc_12_) (fun _ _ _ h => h) (Or.inl ⟨lc_34_, ?_⟩) ?_ ?_
   rotate_left
   ·intro w'
    go_simp
    with_reducible rfl
   rotate_left
   ·simp only [Act.put, setIfInBounds_toArray, set_cons_zero, set_cons_succ, i64_w, i32_w]
    rfl
   refine pure_ (i := 14) (N := some 158) (v := ?_) (a' := ?_) #[true, true, true, true, true, true, true, true, true, true, true, true, true, true, true, false, false] rfl rfl (any_of HT_.out lc_12_) (fun _ _ _ h => h) (Or.inl ⟨lc_34_, ?_⟩) ?_ ?_
   rotate_left
   ·intro w'
    go_simp
    with_reducible rfl
   rotate_left
   ·simp only [Act.put, setIfInBounds_toArray, set_cons_zero, set_cons_succ, i64_w, i32_w]
    rfl
   refine pure_ (i := 15) (N := some 159) (v := ?_) (a' := ?_) #[true, true, true, true, true, true, true, true, true, true, true, true, true, true, true, true, false] rfl rfl (any_of HT_.out lc_12_) (fun _ _ _ h => h) (Or.inl ⟨lc_34_, ?_⟩) ?_ ?_
   rotate_left
   ·intro w'
    go_simp
    with_reducible rfl
   rotate_left
   ·simp only [Act.put, setIfInBounds_toArray, set_cons_zero, set_cons_succ, i64_w, i32_w]
    rfl
   refine pure_ (i := 16) (N := some 14) (v := ?_) (a' := ?_) #[true, true, true, true, true, true, true, true, true, true, true, true, true, true, true, true, true] rfl rfl (any_of HT_.out lc_12_) (fun _ _ _ h => h) (Or.inl ⟨lc_34_, ?_⟩) ?_ ?_
   rotate_left
   ·intro w'
    go_simp
    with_reducible rfl
   rotate_left
   ·simp only [Act.put, setIfInBounds_toArray, set_cons_zero, set_cons_succ, i64_w, i32_w]
    rfl
   refine done_ (done_of HT_.out lc_12_) ?_
   try go_wp2
   (try simp only [← hl13_3])
   go_roundg k3
   case measure => have := HJ3.out; have := HJ25.out; have := HK3.out; omega
   case rel => exact ⟨(y124), (Int.tmod (wrap64 ((wrap64 (x14_3 - (Int.tmod (wrap64 ((rd y124 x121_3) * (rd l0_0 x121_3))) 2147483647))) + 2147483647)) 2147483647), (wrap64 (x121_3 + 1)), lc_16_, lc_16_, H', ⟨by have := HJ3.out; have := HJ25.out; have := HK3.out; omega⟩, ⟨by (try simp only [hl13_3]); (with_reducible repeat (first | apply Kd.R_alloc | apply Kd.R_drewN | apply Kd.R_drew)); exact HO_7.out⟩, ⟨by (try simp only [hl13_3]); (with_reducible repeat (first | apply Kd.R_alloc | apply Kd.R_drewN | apply Kd.R_drew)); exact HO_13.out⟩, ⟨by (try simp only [hl13_3]); (with_reducible repeat (first | apply Kd.R_alloc | apply Kd.R_drewN | apply Kd.R_drew)); exact HO_116000.out⟩, ⟨by (try simp only [hl13_3]); (with_reducible repeat (first | refine blk_drewN ?_ _ | refine blk_drew ?_ | refine blk_alloc ?_ _)); exact BK101.out⟩, ⟨by (try simp only [hl13_3]); (with_reducible repeat (first | refine blk_drewN ?_ _ | refine blk_drew ?_ | refine blk_alloc ?_ _)); exact BK115.out⟩, ⟨lc_1_⟩⟩
  rw [if_neg c64] at H
  have c64b0 : decide (x121_3 < (y119.length : Int)) = false := decide_eq_false c64
  (try simp only [hl13_3] at c64b0)
  clear c64
  obtain ⟨ji78, hji78⟩ : ∃ j_ : Int, (Int.tmod (wrap64 (a1)) (l0_0.length : Int)) = j_ := ⟨_, rfl⟩
  replace H : (if 0 ≤ (ji78) then (if (ji78) < (x13_3.length : Int) then (if (rd x13_3 (ji78)) = 0 then ((Sa.sanity.f).bind fun t128 => (some t128)) else ((P.quietuslaw43_inverse.f k3 (rd x13_3 (ji78))).bind fun t130 => ((some (([Int.tmod (wrap64 (x14_3 * t130)) 2147483647, Int.tmod (wrap64 (a2)) 2147483647] : List Int) : List Int)).bind fun y131 => (quietuslaw43_TagsCountForgeries.l1 k3 t105 (l0_0.length : Int) (ji78) (Int.tmod (wrap64 (x14_3 * t130)) 2147483647) y131 (y131.length : Int) 0 l0_0 l0_1 l0_2 l0_3 l0_4 l0_5 a0_6 t110 t113)))) else (none)) else (none)) = some r := by first | (rw [hji78] at H; exact H) | (simp only [hji78] at H ⊢; exact H)
  (try simp only [hji78])
  by_cases c79 : 0 ≤ (ji78)
  rotate_left
  ·rw [if_neg c79] at H
   exact absurd H (by simp)
  rw [if_pos c79] at H
  have c79b0 : decide (0 ≤ (ji78)) = true := decide_eq_true c79
  clear c79
  by_cases c80 : (ji78) < (x13_3.length : Int)
  rotate_left
  ·rw [if_neg c80] at H
   exact absurd H (by simp)
  rw [if_pos c80] at H
  have c80b0 : decide ((ji78) < (x13_3.length : Int)) = true := decide_eq_true c80
  clear c80
  by_cases c81 : (rd x13_3 (ji78)) = 0
  ·rw [if_pos c81] at H
   have c81b0 : ((rd x13_3 (ji78)) == 0) = true := beq_iff_eq.mpr c81
   have c81b1 : ((rd x13_3 (ji78)) != 0) = false := bne_eq_false_iff_eq.mpr c81
   replace H := Option.bind_eq_some_iff.mp H
   obtain ⟨t128, A820, H⟩ := H
   (try dsimp only at H)
   have A82 := Aside0.mk A820
   clear A820
   obtain rfl := Option.some.inj H
   have p127 : 0 ≤ ((ji78) : Int) := of_decide_eq_true lc_8_
   have q127 : (ji78) < (x13_3.length : Int) := of_decide_eq_true lc_8_
   obtain ⟨ad127, e127, hx127_0⟩ := Kd.at_int (Kd.R_reads' HO_13.out).2.2 (ji78) p127 q127
   cases e127
   replace p127 := eq_true p127
   replace q127 := eq_true q127
   go_wp2_with (first | ((with_reducible refine gate_callee (f := 8) rfl ?_); refine goesL_ (some 166) rfl rfl Try.func8 lc_12_ rfl #[] rfl lc_5_ ?_; (with_reducible refine (Sa.sanity.calls  t128 _ A82.out).mono ?_); rintro e w83 ⟨rfl, hb⟩; refine ⟨_, rfl, ?_⟩; have n0_ := Aside0.mk (rb HO_7.out hb); have n1_ := Aside0.mk (rb HO_13.out hb); have n2_ := Aside0.mk (rb HO_116000.out hb); have n3_ := Aside0.mk (bb BK101.out hb); have n4_ := Aside0.mk (bb BK115.out hb); have n5_ := Aside0.mk (below_step lc_1_ hb); clear HO_7 HO_13 HO_116000 BK101 BK115 HB; have HO_7 := n0_; have HO_13 := n1_; have HO_116000 := n2_; have BK101 := n3_; have BK115 := n4_; have HB := n5_; clear n0_ n1_ n2_ n3_ n4_ n5_; (try clear hb); (try clear hb2); (try clear hk); (try clear hi)))
   go_ret
   exact ⟨lc_17_, lc_1_⟩
  rw [if_neg c81] at H
  have c81b0 : ((rd x13_3 (ji78)) == 0) = false := beq_eq_false_iff_ne.mpr c81
  have c81b1 : ((rd x13_3 (ji78)) != 0) = true := bne_iff_ne.mpr c81
  replace H := Option.bind_eq_some_iff.mp H
  obtain ⟨t130, A840, H⟩ := H
  (try dsimp only at H)
  have A84 := Aside0.mk A840
  clear A840
  obtain ⟨y131, hy131⟩ : ∃ y_ : List Int, y_ = (([Int.tmod (wrap64 (x14_3 * t130)) 2147483647, Int.tmod (wrap64 (a2)) 2147483647] : List Int)) := ⟨_, rfl⟩
  replace H : (quietuslaw43_TagsCountForgeries.l1 k3 t105 (l0_0.length : Int) (ji78) (Int.tmod (wrap64 (x14_3 * t130)) 2147483647) y131 (y131.length : Int) 0 l0_0 l0_1 l0_2 l0_3 l0_4 l0_5 a0_6 t110 t113) = some r := by first | (rw [hy131]; with_reducible exact H) | (have H2_ := (Option.bind_some _ _).symm.trans H; rw [hy131]; with_reducible exact H2_) | (have H2_ := (Option.bind_some _ _).symm.trans H; with_reducible exact H2_) | with_reducible exact H | (rw [hy131]; exact H) | exact H
  have Ny131 := Aside0.mk hy131
  clear hy131
  have H' := Aside0.mk H
  clear H
  have p127 : 0 ≤ ((ji78) : Int) := of_decide_eq_true lc_8_
  have q127 : (ji78) < (x13_3.length : Int) := of_decide_eq_true lc_8_
  obtain ⟨ad127, e127, hx127_0⟩ := Kd.at_int (Kd.R_reads' HO_13.out).2.2 (ji78) p127 q127
  cases e127
  replace p127 := eq_true p127
  replace q127 := eq_true q127
  have p129 : 0 ≤ ((ji78) : Int) := of_decide_eq_true lc_8_
  have q129 : (ji78) < (x13_3.length : Int) := of_decide_eq_true lc_8_
  obtain ⟨ad129, e129, hx129_0⟩ := Kd.at_int (Kd.R_reads' HO_13.out).2.2 (ji78) p129 q129
  obtain rfl : ad127 = ad129 := (by injection e129)
  replace p129 := eq_true p129
  replace q129 := eq_true q129
  go_wp2_with (first | ((with_reducible refine gate_callee (f := 12) rfl ?_); refine goesL_ (some 172) rfl rfl Try.func12 lc_12_ rfl #[.int .i64 (rd x13_3 (ji78))] rfl (by (try simp only [List.map_toArray, List.map_cons, List.map_nil]); first | done | (simp only [hji78]; rfl) | rfl | (simp only [List.length_drop, List.length_take]; rfl)) ?_; (with_reducible refine (P.quietuslaw43_inverse.calls k3 (rd x13_3 (ji78)) t130 _ A84.out).mono ?_); rintro e w' ⟨rfl, ⟨nd, rfl⟩⟩; refine ⟨_, rfl, ?_⟩) | ((with_reducible refine gate_dst (N := 179) rfl ?_); (try (refine gate_guard lc_34_ ?_; dsimp only)); refine Kd.R_lit (Kd.int .i64) _ 3 ?hg (N := 179) ?hd (xs := ([Int.tmod (wrap64 (x14_3 * t130)) 2147483647, Int.tmod (wrap64 (a2)) 2147483647] : List Int)) (inner := [.int .i64 (Int.tmod (wrap64 (x14_3 * t130)) 2147483647), .int .i64 (Int.tmod (wrap64 (a2)) 2147483647)]) (ok := fun _ => True) (okp := fun _ => True) ?hr ?hp (fun _ hk => hk) trivial (Below.refl _ _) (Nat.le_refl _) (by simp) ?_; (case hd => exact lc_34_); (case hg => exact lc_34_); (case hr => exact lc_18_); (case hp => exact (Reps.one (show Kd.M (Kd.int .i64) _ _ _ (Int.tmod (wrap64 (x14_3 * t130)) 2147483647) [.int .i64 (Int.tmod (wrap64 (x14_3 * t130)) 2147483647)] from rfl) (Reps.one (show Kd.M (Kd.int .i64) _ _ _ (Int.tmod (wrap64 (a2)) 2147483647) [.int .i64 (Int.tmod (wrap64 (a2)) 2147483647)] from rfl) (Reps.none _ _)))); intro v132 w85 ho86 hb hg_ hnew_; clear hg_ hnew_; (first | rw [← Ny131.out] at ho86 | (simp only [Int.reduceToNat] at ho86; rw [← Ny131.out] at ho86)); have n0_ := Aside0.mk (Kd.R_elder' (pR HO_7.out) (Kd.R_base ho86) hb); have n1_ := Aside0.mk (Kd.R_elder' (pR HO_13.out) (Kd.R_base ho86) hb); have n2_ := Aside0.mk (Kd.R_elder' (pR HO_116000.out) (Kd.R_base ho86) hb); have n3_ := Aside0.mk (Kd.R_lower (Kd.R_new' (Kd.R_new' (Kd.R_new' ho86 (Kd.R_lt (pR HO_7.out))) (Kd.R_lt (pR HO_13.out))) (Kd.R_lt (pR HO_116000.out))) (below_size lc_1_)); have n4_ := Aside0.mk (bb BK101.out hb); have n5_ := Aside0.mk (bb BK115.out hb); have n6_ := Aside0.mk (below_step lc_1_ hb); clear HO_7 HO_13 HO_116000 BK101 BK115 HB; have HO_7 := n0_; have HO_13 := n1_; have HO_116000 := n2_; have HO133 := n3_; have BK101 := n4_; have BK115 := n5_; have HB := n6_; clear n0_ n1_ n2_ n3_ n4_ n5_ n6_ hb ho86; obtain ⟨Ao87, co87, eo87⟩ := Kd.R_slice HO133.out; subst eo87))
  refine code_eq (C' := loopB) (by kernel_rfl) ?_
  have hKq := cont_eq (P := Try.prog) (C' := contB) (by assumption) (by kernel_rfl)
  show Code.wp Try.prog loopB (Exit.inBlock 2 (Exit.then _ (bodyPost Try.prog Try.f3 fun e w' => e = .returned (.bool r) ∧ Below w.heap.size w w'))) _ _
  with_reducible refine quietuslaw43_TagsCountForgeries.loop k3 A0_0 c0_0 l0_0 A0_1 c0_1 l0_1 A0_2 c0_2 l0_2 A0_3 c0_3 l0_3 A0_4 c0_4 l0_4 A0_5 c0_5 l0_5 a0_6 a1 a2 r w w85 gb101 gb115 Ao30 Ao33 Ao87 co30 co33 co87 t105 t110 y131 t113 ji78 x14_3 t130 _ _ _ _ _ _ _ _ _ _ _ _ _ _ _ _ _ _ _ _ _ _ _ _ _ _ _ _ _ _ _ _ _ _ _ _ _ _ _ _ _ _ _ _ _ _ _ _ _ _ _ _ _ _ _ _ _ _ _ _ _ _ _ _ _ _ _ _ _ _ _ _ _ _ _ _ _ _ _ _ _ _ _ _ _ _ _ _ _ _ _ _ _ _ _ _ _ _ _ _ _ _ _ _ _ _ _ _ _ _ _ _ _ _ _ _ _ _ _ _ _ _ _ _ _ _ _ _ _ _ _ _ _ _ _ _ _ _ _ _ _ _ _ _ _ _ _ _ _ _ _ _ _ _ _ _ _ _ _ _ _ _ _ _ _ _ _ _ _ _ _ _ _ _ _ _ _ _ _ _ _ _ _ _ _ _ _ _ _ _ _ _ _ _ _ _ _ _ _ _ _ _ _ _ _ _ _ _ _ _ _ _ _ _ _ _ _ _ _ _ _ _ _ _ _ _ _ _ _ _ _ _ _ _ _ _ _ _ _ _ _ _ _ _ _ _ _ _ _ _ _ _ _ _ _ _ _ _ _ _ _ _ _ _ _ _ _ _ _ _ _ _ _ _ ?_ ?_ ?_ ?_ ?_ ?_ ?_ ?_ ?_ ?_ ?_ ?_ ?_ ?_ ?_ ?_ ?_ ?_ ?_ ?_ ?_ ?_ ?_ ?_ ?_ ?_ ?_ ?_ _ ?_
  ·exact HR0_0
  ·exact HC0_0
  ·exact HR0_1
  ·exact HC0_1
  ·exact HR0_2
  ·exact HC0_2
  ·exact HR0_3
  ·exact HC0_3
  ·exact HR0_4
  ·exact HC0_4
  ·exact HR0_5
  ·exact HC0_5
  ·exact GW101
  ·exact GE101
  ·exact GW115
  ·exact GE115
  ·exact NB101_115
  ·exact NB115_101
  ·exact ⟨trivial⟩
  ·exact ⟨trivial⟩
  ·exact ⟨trivial⟩
  ·exact H'
  ·exact (⟨by (try simp only [hl13_3]); (with_reducible repeat (first | apply Kd.R_alloc | apply Kd.R_drewN | apply Kd.R_drew)); exact Kd.R_mono HO_7.out (fun _ hk => ⟨hk.2, hk.1.2⟩)⟩)
  ·exact (⟨by (try simp only [hl13_3]); (with_reducible repeat (first | apply Kd.R_alloc | apply Kd.R_drewN | apply Kd.R_drew)); exact Kd.R_mono HO133.out (fun _ hk => ⟨hk.1.1.2, hk.2⟩)⟩)
  ·exact (⟨by (try simp only [hl13_3]); (with_reducible repeat (first | apply Kd.R_alloc | apply Kd.R_drewN | apply Kd.R_drew)); exact Kd.R_mono HO_116000.out (fun _ hk => ⟨hk.1.1, hk.2⟩)⟩)
  ·exact (⟨by (try simp only [hl13_3]); (with_reducible repeat (first | refine blk_drewN ?_ _ | refine blk_drew ?_ | refine blk_alloc ?_ _)); exact BK101.out⟩)
  ·exact (⟨by (try simp only [hl13_3]); (with_reducible repeat (first | refine blk_drewN ?_ _ | refine blk_drew ?_ | refine blk_alloc ?_ _)); exact BK115.out⟩)
  ·exact ⟨lc_1_⟩
  ·exact hKq
end Go.Proofs.Ytekkjikmcnndoaa.Lc
