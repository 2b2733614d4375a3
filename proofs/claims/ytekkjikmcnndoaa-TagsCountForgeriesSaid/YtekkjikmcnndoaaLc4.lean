/- The law TagsCountForgeries as a plain Lean function, and that the Go function answers as this does; for every input within the sizes that the functions state. -/
import Derived.Test.YtekkjikmcnndoaaLc0
import Derived.Test.YtekkjikmcnndoaaP23
import Derived.Test.YtekkjikmcnndoaaSq
namespace Go.Proofs.Ytekkjikmcnndoaa.Lc
open Go.RowKit Go.Proofs.YtekkjikmcnndoaaW.PrintWords Go.Proofs.YtekkjikmcnndoaaW.PrintLast Go.Proofs.YtekkjikmcnndoaaW.PrintMore Go.Proofs.Ytekkjikmcnndoaa.P Go.Proofs.YtekkjikmcnndoaaSq
open List (setIfInBounds_toArray set_cons_zero set_cons_succ)
attribute [local go_sem] max2_int min2_int max_two min_two max_three min_three max_four min_four   -- for this text's walks alone
set_option linter.unusedVariables false
set_option linter.unusedSimpArgs false

/-! ### quietuslaw43_TagsCountForgeries: function 3 -/
mutual
def quietuslaw43_TagsCountForgeries.j0 : Nat → Int → Int → Bool → List Int → List Int → List ByteArray → List Int → List (S60) → List Int → Int → Option (Bool)
 | 0, _, _, _, _, _, _, _, _, _, _ => none
 | k + 1, x1, x2, x42, x102000, x102001, x102002, x102003, x102004, x102005, x102006 => if x42 = true then ((Sa.sanity.f).bind fun t104 => (some t104)) else ((P.quietuslaw43_tagged.f k x102000 x102001 x102002).bind fun bt105 => (if bt105.2 = true then ((P.tag_Answer.f k (x102000.length : Int) x102002 bt105.1 x102004).bind fun bt110 => (if (x102000.length : Int) = 0 then (none) else (if bt110.2.2 = 0 then (if (x102005.length : Int) = (x102000.length : Int) then ((P.tag_Verify.f k x102000 x102001 x102004 x102005 x102006).bind fun t116 => (if t116 = 0 then (quietuslaw43_TagsCountForgeries.j1 k x2 bt105.1 (x102000.length : Int) (Int.tmod (wrap64 (x1)) (x102000.length : Int)) false x102000 x102001 x102002 x102003 x102004 x102005 x102006 bt110.1 bt110.2.1) else ((P.tag_Verify.f k x102000 x102001 x102004 x102005 x102006).bind fun t117 => (quietuslaw43_TagsCountForgeries.j1 k x2 bt105.1 (x102000.length : Int) (Int.tmod (wrap64 (x1)) (x102000.length : Int)) (t117 != 23) x102000 x102001 x102002 x102003 x102004 x102005 x102006 bt110.1 bt110.2.1)))) else (quietuslaw43_TagsCountForgeries.j1 k x2 bt105.1 (x102000.length : Int) (Int.tmod (wrap64 (x1)) (x102000.length : Int)) true x102000 x102001 x102002 x102003 x102004 x102005 x102006 bt110.1 bt110.2.1)) else (quietuslaw43_TagsCountForgeries.j1 k x2 bt105.1 (x102000.length : Int) (Int.tmod (wrap64 (x1)) (x102000.length : Int)) true x102000 x102001 x102002 x102003 x102004 x102005 x102006 bt110.1 bt110.2.1)))) else ((Sa.sanity.f).bind fun t109 => (some t109))))
def quietuslaw43_TagsCountForgeries.j1 : Nat → Int → List Int → Int → Int → Bool → List Int → List Int → List ByteArray → List Int → List (S60) → List Int → Int → List Int → Int → Option (Bool)
 | 0, _, _, _, _, _, _, _, _, _, _, _, _, _, _ => none
 | k + 1, x2, x7, x9, x12, x102, x102000, x102001, x102002, x102003, x102004, x102005, x102006, x116000, x116001 => if x102 = true then ((Sa.sanity.f).bind fun t118 => (some t118)) else (if (x116000.length : Int) = x9 then (if 0 ≤ x9 then (if (x9 : Int).toNat ≤ 35184372088832 then ((some (List.replicate (x9 : Int).toNat 0 : List Int)).bind fun y119 => (quietuslaw43_TagsCountForgeries.l0 k x2 x7 x9 x12 y119 (Int.tmod (wrap64 ((wrap64 (x102006 - x116001)) + 2147483647)) 2147483647) (y119.length : Int) 0 x102000 x102001 x102002 x102003 x102004 x102005 x102006 x116000 x116001)) else (none)) else (none)) else (some false))
def quietuslaw43_TagsCountForgeries.l0 : Nat → Int → List Int → Int → Int → List Int → Int → Int → Int → List Int → List Int → List ByteArray → List Int → List (S60) → List Int → Int → List Int → Int → Option (Bool)
 | 0, _, _, _, _, _, _, _, _, _, _, _, _, _, _, _, _, _ => none
 | k + 1, x2, x7, x9, x12, x13, x14, x120, x121, x102000, x102001, x102002, x102003, x102004, x102005, x102006, x116000, x116001 => if x121 < x120 then (if 0 ≤ x121 then (if x121 < (x102005.length : Int) then (if x121 < (x116000.length : Int) then (if x121 < (x13.length : Int) then ((some (x13.set (x121 : Int).toNat (Int.tmod (wrap64 ((wrap64 ((rd x102005 x121) - (rd x116000 x121))) + 2147483647)) 2147483647) : List Int)).bind fun y124 => (if x121 = x12 then (quietuslaw43_TagsCountForgeries.l0 k x2 x7 x9 x12 y124 x14 x120 (wrap64 (x121 + 1)) x102000 x102001 x102002 x102003 x102004 x102005 x102006 x116000 x116001) else (if x121 < (x102000.length : Int) then (quietuslaw43_TagsCountForgeries.l0 k x2 x7 x9 x12 y124 (Int.tmod (wrap64 ((wrap64 (x14 - (Int.tmod (wrap64 ((rd y124 x121) * (rd x102000 x121))) 2147483647))) + 2147483647)) 2147483647) x120 (wrap64 (x121 + 1)) x102000 x102001 x102002 x102003 x102004 x102005 x102006 x116000 x116001) else (none)))) else (none)) else (none)) else (none)) else (none)) else (if 0 ≤ x12 then (if x12 < (x13.length : Int) then (if (rd x13 x12) = 0 then ((Sa.sanity.f).bind fun t128 => (some t128)) else ((P.quietuslaw43_inverse.f k (rd x13 x12)).bind fun t130 => ((some (([Int.tmod (wrap64 (x14 * t130)) 2147483647, Int.tmod (wrap64 (x2)) 2147483647] : List Int) : List Int)).bind fun y131 => (quietuslaw43_TagsCountForgeries.l1 k x7 x9 x12 (Int.tmod (wrap64 (x14 * t130)) 2147483647) y131 (y131.length : Int) 0 x102000 x102001 x102002 x102003 x102004 x102005 x102006 x116000 x116001)))) else (none)) else (none))
def quietuslaw43_TagsCountForgeries.l1 : Nat → List Int → Int → Int → Int → List Int → Int → Int → List Int → List Int → List ByteArray → List Int → List (S60) → List Int → Int → List Int → Int → Option (Bool)
 | 0, _, _, _, _, _, _, _, _, _, _, _, _, _, _, _, _ => none
 | k + 1, x7, x9, x12, x16, x179, x180, x181, x102000, x102001, x102002, x102003, x102004, x102005, x102006, x116000, x116001 => if x181 < x180 then (if 0 ≤ x181 then (if x181 < (x179.length : Int) then ((some (([] : List Int) : List Int)).bind fun y135 => (if y135.length + x102000.length < 17592186044416 then ((some (y135 ++ x102000 : List Int)).bind fun y138 => ((some (([] : List Int) : List Int)).bind fun y141 => (if y141.length + x102001.length < 17592186044416 then (if 0 ≤ x12 then (if x12 < (y138.length : Int) then (quietuslaw43_TagsCountForgeries.l2 k x7 x9 x12 x16 (rd x179 x181) x179 x180 x181 x102002 (x102002.length : Int) 0 x102000 x102001 x102002 x102003 x102004 x102005 x102006 x116000 x116001 (y138.set (x12 : Int).toNat (rd x179 x181)) (y141 ++ x102001)) else (none)) else (none)) else (none)))) else (none))) else (none)) else (none)) else ((P.tag_Forged.f k x116000 x116001 x102005 x102006).bind fun bt161 => ((Sa.sanity.f).bind fun t163 => (if t163 = true then (if bt161.1 = (wrap64 (x9 - 1)) then (some bt161.2) else (some false)) else (some false))))
def quietuslaw43_TagsCountForgeries.l2 : Nat → List Int → Int → Int → Int → Int → List Int → Int → Int → List ByteArray → Int → Int → List Int → List Int → List ByteArray → List Int → List (S60) → List Int → Int → List Int → Int → List Int → List Int → Option (Bool)
 | 0, _, _, _, _, _, _, _, _, _, _, _, _, _, _, _, _, _, _, _, _, _, _ => none
 | k + 1, x7, x9, x12, x16, x18, x179, x180, x181, x202, x203, x204, x102000, x102001, x102002, x102003, x102004, x102005, x102006, x116000, x116001, x148000, x148001 => if x204 < x203 then (if 0 ≤ x204 then (if x204 < (x202.length : Int) then ((P.tag_Make.f k x148000 x148001 x204 (rdOf ByteArray.empty x202 x204)).bind fun bt150 => (if bt150.2 = 0 then (if x204 < (x148001.length : Int) then (if x204 < (x7.length : Int) then (quietuslaw43_TagsCountForgeries.l2 k x7 x9 x12 x16 x18 x179 x180 x181 x202 x203 (wrap64 (x204 + 1)) x102000 x102001 x102002 x102003 x102004 x102005 x102006 x116000 x116001 x148000 (x148001.set (x204 : Int).toNat (Int.tmod (wrap64 ((wrap64 ((wrap64 ((rd x148001 x204) + (rd x7 x204))) - bt150.1)) + 2147483647)) 2147483647))) else (none)) else (none)) else (some false))) else (none)) else (none)) else ((P.quietuslaw43_tagged.f k x148000 x148001 x102002).bind fun bt155 => (if bt155.2 = true then ((P.quietusref43_SameList.f k bt155.1 x7).bind fun t159 => (if t159 = true then ((P.tag_Verify.f k x148000 x148001 x102004 x102005 x102006).bind fun t160 => (quietuslaw43_TagsCountForgeries.j5 k x7 x9 x12 x16 x179 x180 x181 ((t160 == 0) != (x18 == x16)) x102000 x102001 x102002 x102003 x102004 x102005 x102006 x116000 x116001)) else (quietuslaw43_TagsCountForgeries.j5 k x7 x9 x12 x16 x179 x180 x181 true x102000 x102001 x102002 x102003 x102004 x102005 x102006 x116000 x116001))) else (quietuslaw43_TagsCountForgeries.j5 k x7 x9 x12 x16 x179 x180 x181 true x102000 x102001 x102002 x102003 x102004 x102005 x102006 x116000 x116001)))
def quietuslaw43_TagsCountForgeries.j5 : Nat → List Int → Int → Int → Int → List Int → Int → Int → Bool → List Int → List Int → List ByteArray → List Int → List (S60) → List Int → Int → List Int → Int → Option (Bool)
 | 0, _, _, _, _, _, _, _, _, _, _, _, _, _, _, _, _, _ => none
 | k + 1, x7, x9, x12, x16, x179, x180, x181, x264, x102000, x102001, x102002, x102003, x102004, x102005, x102006, x116000, x116001 => if x264 = true then (some false) else (quietuslaw43_TagsCountForgeries.l1 k x7 x9 x12 x16 x179 x180 (wrap64 (x181 + 1)) x102000 x102001 x102002 x102003 x102004 x102005 x102006 x116000 x116001)
end
def quietuslaw43_TagsCountForgeries.f (k : Nat) (l0_0 : List Int) (l0_1 : List Int) (l0_2 : List ByteArray) (l0_3 : List Int) (l0_4 : List (S60)) (l0_5 : List Int) (a0_6 : Int) (a1 : Int) (a2 : Int) : Option (Bool) := (P.quietuslaw43_few.f k l0_0 l0_1 l0_2 l0_3 l0_4 l0_5 a0_6).bind fun t102 => (if t102 = true then (if (l0_4.length : Int) > 20 then (quietuslaw43_TagsCountForgeries.j0 k a1 a2 true l0_0 l0_1 l0_2 l0_3 l0_4 l0_5 a0_6) else ((P.tag_Check.f k l0_0 l0_1).bind fun t103 => (quietuslaw43_TagsCountForgeries.j0 k a1 a2 (t103 != 0) l0_0 l0_1 l0_2 l0_3 l0_4 l0_5 a0_6))) else (quietuslaw43_TagsCountForgeries.j0 k a1 a2 true l0_0 l0_1 l0_2 l0_3 l0_4 l0_5 a0_6))
theorem quietuslaw43_TagsCountForgeries.mono_l : ∀ k, (∀ y0 y1 y2 y3 y4 y5 y6 y7 y8 y9, LeO (quietuslaw43_TagsCountForgeries.j0 k y0 y1 y2 y3 y4 y5 y6 y7 y8 y9) (quietuslaw43_TagsCountForgeries.j0 (k + 1) y0 y1 y2 y3 y4 y5 y6 y7 y8 y9)) ∧ (∀ y0 y1 y2 y3 y4 y5 y6 y7 y8 y9 y10 y11 y12 y13, LeO (quietuslaw43_TagsCountForgeries.j1 k y0 y1 y2 y3 y4 y5 y6 y7 y8 y9 y10 y11 y12 y13) (quietuslaw43_TagsCountForgeries.j1 (k + 1) y0 y1 y2 y3 y4 y5 y6 y7 y8 y9 y10 y11 y12 y13)) ∧ (∀ y0 y1 y2 y3 y4 y5 y6 y7 y8 y9 y10 y11 y12 y13 y14 y15 y16, LeO (quietuslaw43_TagsCountForgeries.l0 k y0 y1 y2 y3 y4 y5 y6 y7 y8 y9 y10 y11 y12 y13 y14 y15 y16) (quietuslaw43_TagsCountForgeries.l0 (k + 1) y0 y1 y2 y3 y4 y5 y6 y7 y8 y9 y10 y11 y12 y13 y14 y15 y16)) ∧ (∀ y0 y1 y2 y3 y4 y5 y6 y7 y8 y9 y10 y11 y12 y13 y14 y15, LeO (quietuslaw43_TagsCountForgeries.l1 k y0 y1 y2 y3 y4 y5 y6 y7 y8 y9 y10 y11 y12 y13 y14 y15) (quietuslaw43_TagsCountForgeries.l1 (k + 1) y0 y1 y2 y3 y4 y5 y6 y7 y8 y9 y10 y11 y12 y13 y14 y15)) ∧ (∀ y0 y1 y2 y3 y4 y5 y6 y7 y8 y9 y10 y11 y12 y13 y14 y15 y16 y17 y18 y19 y20 y21, LeO (quietuslaw43_TagsCountForgeries.l2 k y0 y1 y2 y3 y4 y5 y6 y7 y8 y9 y10 y11 y12 y13 y14 y15 y16 y17 y18 y19 y20 y21) (quietuslaw43_TagsCountForgeries.l2 (k + 1) y0 y1 y2 y3 y4 y5 y6 y7 y8 y9 y10 y11 y12 y13 y14 y15 y16 y17 y18 y19 y20 y21)) ∧ (∀ y0 y1 y2 y3 y4 y5 y6 y7 y8 y9 y10 y11 y12 y13 y14 y15 y16, LeO (quietuslaw43_TagsCountForgeries.j5 k y0 y1 y2 y3 y4 y5 y6 y7 y8 y9 y10 y11 y12 y13 y14 y15 y16) (quietuslaw43_TagsCountForgeries.j5 (k + 1) y0 y1 y2 y3 y4 y5 y6 y7 y8 y9 y10 y11 y12 y13 y14 y15 y16))
 | 0 => ⟨fun _ _ _ _ _ _ _ _ _ _ r h => by simp [quietuslaw43_TagsCountForgeries.j0] at h, fun _ _ _ _ _ _ _ _ _ _ _ _ _ _ r h => by simp [quietuslaw43_TagsCountForgeries.j1] at h, fun _ _ _ _ _ _ _ _ _ _ _ _ _ _ _ _ _ r h => by simp [quietuslaw43_TagsCountForgeries.l0] at h, fun _ _ _ _ _ _ _ _ _ _ _ _ _ _ _ _ r h => by simp [quietuslaw43_TagsCountForgeries.l1] at h, fun _ _ _ _ _ _ _ _ _ _ _ _ _ _ _ _ _ _ _ _ _ _ r h => by simp [quietuslaw43_TagsCountForgeries.l2] at h, fun _ _ _ _ _ _ _ _ _ _ _ _ _ _ _ _ _ r h => by simp [quietuslaw43_TagsCountForgeries.j5] at h⟩
 | k + 1 => by
  obtain ⟨ih0, ih1, ih2, ih3, ih4, ih5⟩ := quietuslaw43_TagsCountForgeries.mono_l k
  refine ⟨?_, ?_, ?_, ?_, ?_, ?_⟩
  all_goals
   intros
   first | unfold quietuslaw43_TagsCountForgeries.j0 | unfold quietuslaw43_TagsCountForgeries.j1 | unfold quietuslaw43_TagsCountForgeries.l0 | unfold quietuslaw43_TagsCountForgeries.l1 | unfold quietuslaw43_TagsCountForgeries.l2 | unfold quietuslaw43_TagsCountForgeries.j5
   repeat' first
   | (with_reducible exact ih0 ..)
   | (with_reducible exact ih1 ..)
   | (with_reducible exact ih2 ..)
   | (with_reducible exact ih3 ..)
   | (with_reducible exact ih4 ..)
   | (with_reducible exact ih5 ..)
   | (with_reducible exact P.quietuslaw43_few.mono ..)
   | (with_reducible exact P.quietuslaw43_inverse.mono ..)
   | (with_reducible exact P.quietuslaw43_tagged.mono ..)
   | (with_reducible exact P.quietusref43_SameList.mono ..)
   | (with_reducible exact P.tag_Answer.mono ..)
   | (with_reducible exact P.tag_Check.mono ..)
   | (with_reducible exact P.tag_Forged.mono ..)
   | (with_reducible exact P.tag_Make.mono ..)
   | (with_reducible exact P.tag_Verify.mono ..)
   | (with_reducible exact LeO.refl ..)
   | (with_reducible exact LeO.none ..)
   | (with_reducible refine LeO.ite ?_ ?_)
   | (with_reducible refine LeO.bind ?_ (fun _ => ?_))
   | exact ih0 ..
   | exact ih1 ..
   | exact ih2 ..
   | exact ih3 ..
   | exact ih4 ..
   | exact ih5 ..
   | exact P.quietuslaw43_few.mono ..
   | exact P.quietuslaw43_inverse.mono ..
   | exact P.quietuslaw43_tagged.mono ..
   | exact P.quietusref43_SameList.mono ..
   | exact P.tag_Answer.mono ..
   | exact P.tag_Check.mono ..
   | exact P.tag_Forged.mono ..
   | exact P.tag_Make.mono ..
   | exact P.tag_Verify.mono ..
   | exact LeO.none ..
   | refine LeO.ite ?_ ?_
   | refine LeO.bind ?_ (fun _ => ?_)
theorem quietuslaw43_TagsCountForgeries.mono : ∀ a0 a1 a2 a3 a4 a5 a6 a7 a8 k, LeO (quietuslaw43_TagsCountForgeries.f k a0 a1 a2 a3 a4 a5 a6 a7 a8) (quietuslaw43_TagsCountForgeries.f (k + 1) a0 a1 a2 a3 a4 a5 a6 a7 a8) := by
 intro a0 a1 a2 a3 a4 a5 a6 a7 a8 k
 obtain ⟨ih0, ih1, ih2, ih3, ih4, ih5⟩ := quietuslaw43_TagsCountForgeries.mono_l k
 unfold quietuslaw43_TagsCountForgeries.f
 repeat' first
   | (with_reducible exact ih0 _ _ _ _ _ _ _ _ _ _)
   | (with_reducible exact ih1 _ _ _ _ _ _ _ _ _ _ _ _ _ _)
   | (with_reducible exact ih2 _ _ _ _ _ _ _ _ _ _ _ _ _ _ _ _ _)
   | (with_reducible exact ih3 _ _ _ _ _ _ _ _ _ _ _ _ _ _ _ _)
   | (with_reducible exact ih4 _ _ _ _ _ _ _ _ _ _ _ _ _ _ _ _ _ _ _ _ _ _)
   | (with_reducible exact ih5 _ _ _ _ _ _ _ _ _ _ _ _ _ _ _ _ _)
   | (with_reducible exact P.quietuslaw43_few.mono _ _ _ _ _ _ _ _)
   | (with_reducible exact P.quietuslaw43_inverse.mono _ _)
   | (with_reducible exact P.quietuslaw43_tagged.mono _ _ _ _)
   | (with_reducible exact P.quietusref43_SameList.mono _ _ _)
   | (with_reducible exact P.tag_Answer.mono _ _ _ _ _)
   | (with_reducible exact P.tag_Check.mono _ _ _)
   | (with_reducible exact P.tag_Forged.mono _ _ _ _ _)
   | (with_reducible exact P.tag_Make.mono _ _ _ _ _)
   | (with_reducible exact P.tag_Verify.mono _ _ _ _ _ _)
   | (with_reducible exact LeO.refl _)
   | (with_reducible exact LeO.none _)
   | (with_reducible refine LeO.ite ?_ ?_)
   | (with_reducible refine LeO.bind ?_ (fun _ => ?_))
   | exact ih0 _ _ _ _ _ _ _ _ _ _
   | exact ih1 _ _ _ _ _ _ _ _ _ _ _ _ _ _
   | exact ih2 _ _ _ _ _ _ _ _ _ _ _ _ _ _ _ _ _
   | exact ih3 _ _ _ _ _ _ _ _ _ _ _ _ _ _ _ _
   | exact ih4 _ _ _ _ _ _ _ _ _ _ _ _ _ _ _ _ _ _ _ _ _ _
   | exact ih5 _ _ _ _ _ _ _ _ _ _ _ _ _ _ _ _ _
   | exact P.quietuslaw43_few.mono _ _ _ _ _ _ _ _
   | exact P.quietuslaw43_inverse.mono _ _
   | exact P.quietuslaw43_tagged.mono _ _ _ _
   | exact P.quietusref43_SameList.mono _ _ _
   | exact P.tag_Answer.mono _ _ _ _ _
   | exact P.tag_Check.mono _ _ _
   | exact P.tag_Forged.mono _ _ _ _ _
   | exact P.tag_Make.mono _ _ _ _ _
   | exact P.tag_Verify.mono _ _ _ _ _ _
   | exact LeO.none _
   | refine LeO.ite ?_ ?_
   | refine LeO.bind ?_ (fun _ => ?_)
def quietuslaw43_TagsCountForgeries.T18 : Bool × List (List Nat × List Nat) := (true, [([], []), ([], []), ([], []), ([2], [2]), ([3], [3]), ([], []), ([4, 5], [4, 5]), ([6], [6]), ([], []), ([8], [8]), ([], []), ([9, 10], [9, 10]), ([11], [11]), ([7, 12], [7, 12]), ([13], [13]), ([14], [14]), ([0, 1, 0, 1, 2, 3, 4, 5, 6, 7, 8, 9, 10, 11, 12, 13, 14, 15], [0, 1]), ([16, 15, 0, 1, 2, 3, 4, 5, 6, 7, 8, 9, 10, 11, 12, 13, 14, 15], [15, 16])])
def quietuslaw43_TagsCountForgeries.B18 : List Nat := [0, 0, 0, 4, 12, 0, 60, 124, 0, 256, 0, 1792, 3840, 8188, 16380, 32764, 65535, 131071]
theorem quietuslaw43_TagsCountForgeries.tab18 : rtab .any (opsOf Try.f3 18) = quietuslaw43_TagsCountForgeries.T18 := by kernel_rfl
theorem quietuslaw43_TagsCountForgeries.bits18 : waitsOk quietuslaw43_TagsCountForgeries.T18.2 quietuslaw43_TagsCountForgeries.B18 = true := by kernel_rfl
def quietuslaw43_TagsCountForgeries.T20 : Bool × List (List Nat × List Nat) := (true, [([], []), ([], []), ([], []), ([1, 2], [1, 2]), ([3], [3]), ([], []), ([5], [5]), ([6], [6]), ([], []), ([7, 8], [7, 8]), ([9], [9]), ([4, 10], [4, 10]), ([11], [11]), ([0, 12], [0, 12]), ([13], [13]), ([14], [14]), ([15, 0, 1, 2, 3, 4, 5, 6, 7, 8, 9, 10, 11, 12, 13, 14, 15], [0, 15])])
def quietuslaw43_TagsCountForgeries.B20 : List Nat := [0, 0, 0, 6, 14, 0, 32, 96, 0, 480, 992, 2046, 4094, 8191, 16383, 32767, 65535]
theorem quietuslaw43_TagsCountForgeries.tab20 : rtab .any (opsOf Try.f3 20) = quietuslaw43_TagsCountForgeries.T20 := by kernel_rfl
theorem quietuslaw43_TagsCountForgeries.bits20 : waitsOk quietuslaw43_TagsCountForgeries.T20.2 quietuslaw43_TagsCountForgeries.B20 = true := by kernel_rfl
def quietuslaw43_TagsCountForgeries.T28 : Bool × List (List Nat × List Nat) := (true, [([], []), ([], []), ([1], [1]), ([2], [2]), ([0, 3], [0, 3]), ([], []), ([], []), ([6], [6]), ([7], [7]), ([5, 8, 4], [5, 8]), ([4, 9], [4, 9]), ([], []), ([11, 10, 9, 0, 1, 2, 3, 4, 5, 6, 7, 8, 9, 10, 11], [10, 11])])
def quietuslaw43_TagsCountForgeries.B28 : List Nat := [0, 0, 2, 6, 15, 0, 0, 64, 192, 511, 1023, 0, 4095]
theorem quietuslaw43_TagsCountForgeries.tab28 : rtab .any (opsOf Try.f3 28) = quietuslaw43_TagsCountForgeries.T28 := by kernel_rfl
theorem quietuslaw43_TagsCountForgeries.bits28 : waitsOk quietuslaw43_TagsCountForgeries.T28.2 quietuslaw43_TagsCountForgeries.B28 = true := by kernel_rfl
def quietuslaw43_TagsCountForgeries.T36 : Bool × List (List Nat × List Nat) := (true, [([], []), ([0], [0]), ([], []), ([], []), ([3], [3]), ([], []), ([4, 5], [4, 5]), ([6], [6]), ([], []), ([], []), ([8, 9], [8, 9]), ([10], [10]), ([7, 11], [7, 11]), ([], []), ([12, 13], [12, 13]), ([14], [14]), ([15], [15]), ([1, 2, 0, 1, 2, 3, 4, 5, 6, 7, 8, 9, 10, 11, 12, 13, 14, 15, 16], [1, 2]), ([17, 16, 0, 1, 2, 3, 4, 5, 6, 7, 8, 9, 10, 11, 12, 13, 14, 15, 16], [16, 17])])
def quietuslaw43_TagsCountForgeries.B36 : List Nat := [0, 1, 0, 0, 8, 0, 56, 120, 0, 0, 768, 1792, 4088, 0, 16376, 32760, 65528, 131071, 262143]
theorem quietuslaw43_TagsCountForgeries.tab36 : rtab .any (opsOf Try.f3 36) = quietuslaw43_TagsCountForgeries.T36 := by kernel_rfl
theorem quietuslaw43_TagsCountForgeries.bits36 : waitsOk quietuslaw43_TagsCountForgeries.T36.2 quietuslaw43_TagsCountForgeries.B36 = true := by kernel_rfl
theorem lc_1_ {P : Prop} (h : P := by repeat (first | (with_reducible first | exact HB.out | apply below_alloc | apply pw_below_drewN | apply below_drew1 | refine below_set ?_ GE101.out | refine below_set ?_ GE115.out) | exact HB.out)) : P := h
theorem lc_2_ {P : Prop} (h : P := by repeat (first | (with_reducible first | exact HB.out | apply below_alloc | apply pw_below_drewN | apply below_drew1 | refine below_set ?_ GE101.out | refine below_set ?_ GE115.out | refine below_set ?_ GE147.out) | exact HB.out)) : P := h
theorem lc_3_ {P : Prop} (h : P := by first | (simp only [putAll, Act.put, setIfInBounds_toArray, set_cons_zero, set_cons_succ]; done) | (simp only [putAll, Act.put, setIfInBounds_toArray, set_cons_zero, set_cons_succ]; rfl)) : P := h
theorem lc_4_ {P : Prop} (h : P := by repeat (first | (with_reducible first | exact HB.out | apply below_alloc | apply pw_below_drewN | apply below_drew1 | refine below_set ?_ GE101.out) | exact HB.out)) : P := h
theorem lc_5_ {P : Prop} (h : P := by (try simp only [List.map_toArray, List.map_cons, List.map_nil]); first | done | rfl | (simp only [List.length_drop, List.length_take]; rfl)) : P := h
theorem lc_6_ {P : Prop} (h : P := by rw [hg]; exact Nat.ne_of_lt (blk_lt (g := gb101) (o := .cells #[.slice A0_0 l0_0.length c0_0, .slice A0_1 l0_1.length c0_1, .slice A0_2 l0_2.length c0_2, .slice A0_3 l0_3.length c0_3, .slice A0_4 l0_4.length c0_4, .slice A0_5 l0_5.length c0_5, .int .i64 a0_6] 30 (0, 0)) (pB BK101.out))) : P := h
theorem lc_7_ {P : Prop} (h : P := by rw [hg]; exact Nat.ne_of_gt (blk_lt (g := gb101) (o := .cells #[.slice A0_0 l0_0.length c0_0, .slice A0_1 l0_1.length c0_1, .slice A0_2 l0_2.length c0_2, .slice A0_3 l0_3.length c0_3, .slice A0_4 l0_4.length c0_4, .slice A0_5 l0_5.length c0_5, .int .i64 a0_6] 30 (0, 0)) (pB BK101.out))) : P := h
theorem lc_8_ {P : Prop} (h : P := by first | (with_reducible assumption) | assumption) : P := h
theorem lc_9_ {P : Prop} (h : P := by repeat (first | exact (Kd.C_below HR0_0.out HB.out) | (with_reducible refine Kd.C_alloc ?_ _) | (with_reducible refine Kd.C_drewN ?_ _) | (with_reducible refine Kd.C_drew ?_))) : P := h
theorem lc_10_ {P : Prop} (h : P := by (with_reducible repeat (first | refine blk_drewN ?_ _ | refine blk_drew ?_ | refine blk_alloc ?_ _)); refine blk_put (cs := #[.slice Ao33 t110.length co33, .int .i64 0]) ?_ 1 _ rfl; (with_reducible repeat (first | refine blk_drewN ?_ _ | refine blk_drew ?_ | refine blk_alloc ?_ _)); refine blk_put (cs := #[.slice none 0 0, .int .i64 0]) ?_ 0 _ rfl; (with_reducible repeat (first | refine blk_drewN ?_ _ | refine blk_drew ?_ | refine blk_alloc ?_ _)); exact BK115.out) : P := h
theorem lc_11_ {P : Prop} (h : P := by repeat (first | exact (Kd.C_below HR0_1.out HB.out) | (with_reducible refine Kd.C_alloc ?_ _) | (with_reducible refine Kd.C_drewN ?_ _) | (with_reducible refine Kd.C_drew ?_))) : P := h
theorem lc_12_ {P : Prop} (h : P := by kernel_rfl) : P := h
theorem lc_13_ {P : Prop} (h : P := by (with_reducible repeat (first | refine blk_drewN ?_ _ | refine blk_drew ?_ | refine blk_alloc ?_ _)); refine blk_far ?_ NB101_115.out _; (with_reducible repeat (first | refine blk_drewN ?_ _ | refine blk_drew ?_ | refine blk_alloc ?_ _)); refine blk_far ?_ NB101_115.out _; (with_reducible repeat (first | refine blk_drewN ?_ _ | refine blk_drew ?_ | refine blk_alloc ?_ _)); exact BK101.out) : P := h
theorem lc_14_ {P : Prop} (h : P := by repeat (first | exact (Kd.C_below HR0_2.out HB.out) | (with_reducible refine Kd.C_alloc ?_ _) | (with_reducible refine Kd.C_drewN ?_ _) | (with_reducible refine Kd.C_drew ?_))) : P := h
theorem lc_15_ {P : Prop} (h : P := by repeat (first | exact (Kd.C_below HR0_5.out HB.out) | (with_reducible refine Kd.C_alloc ?_ _) | (with_reducible refine Kd.C_drewN ?_ _) | (with_reducible refine Kd.C_drew ?_))) : P := h
theorem lc_16_ {P : Prop} (h : P := by first | rfl | (simp; done) | (simp [*]; done)) : P := h
theorem lc_17_ {P : Prop} (h : P := by first | rfl | (simp [errW_none, errW_some] <;> rfl) | (simp only [← hji78]; first | rfl | (simp [errW_none, errW_some] <;> rfl)) | (simp [*, errW_none, errW_some] <;> rfl)) : P := h
theorem lc_18_ {P : Prop} (h : P := by first | (go_simp; done) | (go_simp; rfl)) : P := h
theorem lc_19_ {P : Prop} (h : P := by (try simp only [hl13_3]); (try simp only [hl7_4]); (try simp only [hl179_4]); (try simp only [hl7_5]); (try simp only [hl179_5]); (with_reducible repeat (first | refine blk_drewN ?_ _ | refine blk_drew ?_ | refine blk_alloc ?_ _)); exact BK101.out) : P := h
theorem lc_20_ {P : Prop} (h : P := by (try simp only [hl13_3]); (try simp only [hl7_4]); (try simp only [hl179_4]); (try simp only [hl7_5]); (try simp only [hl179_5]); (with_reducible repeat (first | refine blk_drewN ?_ _ | refine blk_drew ?_ | refine blk_alloc ?_ _)); exact BK115.out) : P := h
theorem lc_21_ {P : Prop} (h : P := by repeat (first | exact (Kd.C_below HR0_4.out HB.out) | (with_reducible refine Kd.C_alloc ?_ _) | (with_reducible refine Kd.C_drewN ?_ _) | (with_reducible refine Kd.C_drew ?_))) : P := h
theorem lc_22_ {P : Prop} (h : P := by rw [hg]; exact Nat.ne_of_lt (blk_lt (g := gb115) (o := .cells #[u116000, .int .i64 t113] 28 (0, 0)) (pB BK115.out))) : P := h
theorem lc_23_ {P : Prop} (h : P := by rw [hg]; exact Nat.ne_of_gt (blk_lt (g := gb115) (o := .cells #[u116000, .int .i64 t113] 28 (0, 0)) (pB BK115.out))) : P := h
theorem lc_24_ {P : Prop} (h : P := by (try simp only [hl13_3]); (try simp only [hl7_4]); (try simp only [hl179_4]); (try simp only [hl7_5]); (try simp only [hl179_5]); (with_reducible repeat (first | apply Kd.R_alloc | apply Kd.R_drewN | apply Kd.R_drew)); exact Kd.R_mono HO_116000.out (fun _ hk => ⟨hk.1.1, ⟨hk.1.2.1, ⟨hk.1.2.2.1, hk.1.2.2.2⟩⟩⟩)) : P := h
theorem lc_25_ {P : Prop} (h : P := by (try simp only [hl13_3]); (try simp only [hl7_4]); (try simp only [hl179_4]); (try simp only [hl7_5]); (try simp only [hl179_5]); (with_reducible repeat (first | apply Kd.R_alloc | apply Kd.R_drewN | apply Kd.R_drew)); exact Kd.R_mono HO_148000.out (fun _ hk => ⟨hk.1.1, ⟨hk.1.2.1, ⟨hk.1.2.2.1, hk.1.2.2.2⟩⟩⟩)) : P := h
theorem lc_26_ {P : Prop} (h : P := by (try simp only [hl13_3]); (try simp only [hl7_4]); (try simp only [hl179_4]); (try simp only [hl7_5]); (try simp only [hl179_5]); (with_reducible repeat (first | apply Kd.R_alloc | apply Kd.R_drewN | apply Kd.R_drew)); exact Kd.R_mono HO_148001.out (fun _ hk => ⟨hk.1.1, ⟨hk.1.2.1, ⟨hk.1.2.2.1, hk.1.2.2.2⟩⟩⟩)) : P := h
theorem lc_27_ {P : Prop} (h : P := by (try simp only [hl13_3]); (try simp only [hl7_4]); (try simp only [hl179_4]); (try simp only [hl7_5]); (try simp only [hl179_5]); (with_reducible repeat (first | apply Kd.R_alloc | apply Kd.R_drewN | apply Kd.R_drew)); exact Kd.R_mono HO_179.out (fun _ hk => ⟨hk.1.1, ⟨hk.1.2.1, ⟨hk.1.2.2.1, hk.1.2.2.2⟩⟩⟩)) : P := h
theorem lc_28_ {P : Prop} (h : P := by (try simp only [hl13_3]); (try simp only [hl7_4]); (try simp only [hl179_4]); (try simp only [hl7_5]); (try simp only [hl179_5]); (with_reducible repeat (first | apply Kd.R_alloc | apply Kd.R_drewN | apply Kd.R_drew)); exact Kd.R_mono HO_7.out (fun _ hk => ⟨hk.1.1, ⟨hk.1.2.1, ⟨hk.1.2.2.1, hk.1.2.2.2⟩⟩⟩)) : P := h
theorem lc_29_ {P : Prop} (h : P := by repeat (first | exact (Kd.R_reads' HO_148000.out).2.2 | (with_reducible refine Kd.C_alloc ?_ _) | (with_reducible refine Kd.C_drewN ?_ _) | (with_reducible refine Kd.C_drew ?_))) : P := h
theorem lc_30_ {P : Prop} (h : P := by repeat (first | exact (Kd.R_reads' HO_148001.out).2.2 | (with_reducible refine Kd.C_alloc ?_ _) | (with_reducible refine Kd.C_drewN ?_ _) | (with_reducible refine Kd.C_drew ?_))) : P := h
theorem lc_31_ {P : Prop} (h : P := by (try simp only [hl13_3]); (try simp only [hl7_4]); (try simp only [hl179_4]); (try simp only [hl7_5]); (try simp only [hl179_5]); (with_reducible repeat (first | refine blk_drewN ?_ _ | refine blk_drew ?_ | refine blk_alloc ?_ _)); exact BK147.out) : P := h
theorem lc_32_ {P : Prop} (h : P := by rw [hg]; exact (below_size lc_1_)) : P := h
theorem lc_33_ {P : Prop} (h : P := by decide) : P := h
theorem lc_34_ {P : Prop} (h : P := by rfl) : P := h
theorem lc_35_ {P : Prop} (h : P := by repeat (first | exact (Kd.R_reads' HO_116000.out).2.2 | (with_reducible refine Kd.C_alloc ?_ _) | (with_reducible refine Kd.C_drewN ?_ _) | (with_reducible refine Kd.C_drew ?_))) : P := h
theorem lc_36_ {P : Prop} (h : P := by repeat (first | exact (Kd.C_below HR0_3.out HB.out) | (with_reducible refine Kd.C_alloc ?_ _) | (with_reducible refine Kd.C_drewN ?_ _) | (with_reducible refine Kd.C_drew ?_))) : P := h
theorem lc_37_ {P : Prop} (h : P := by (with_reducible repeat (first | apply Kd.R_alloc | apply Kd.R_drewN | apply Kd.R_drew)); exact Kd.R_mono (Kd.R_far (p := ⟨gb115, 1, none⟩) (Kd.R_far (p := ⟨gb115, 0, none⟩) (Kd.R_types HO107.out BK115.out lc_33_) (fun _ hk => hk.2) (.slice Ao33 t110.length co33)) (fun _ hk => hk.2) (.int .i64 t113)) (fun _ hk => hk.1.2)) : P := h
theorem lc_38_ {P : Prop} (h : P := by (with_reducible repeat (first | apply Kd.R_alloc | apply Kd.R_drewN | apply Kd.R_drew)); exact Kd.R_mono (Kd.R_far (p := ⟨gb115, 1, none⟩) (Kd.R_far (p := ⟨gb115, 0, none⟩) (Kd.R_types HO112.out BK115.out lc_33_) (fun _ hk => hk.2) (.slice Ao33 t110.length co33)) (fun _ hk => hk.2) (.int .i64 t113)) (fun _ hk => hk.1.2)) : P := h
theorem lc_39_ {P : Prop} (h : P := by (with_reducible repeat (first | apply Kd.R_alloc | apply Kd.R_drewN | apply Kd.R_drew)); exact (Kd.R_mono (Kd.R_far (p := ⟨gb115, 1, none⟩) (Kd.R_far (p := ⟨gb115, 0, none⟩) (Kd.R_types HO107.out BK115.out lc_33_) (fun _ hk => hk.2) (.slice Ao33 t110.length co33)) (fun _ hk => hk.2) (.int .i64 t113)) (fun _ h_ => h_.1))) : P := h
theorem lc_40_ {P : Prop} (h : P := by (with_reducible repeat (first | apply Kd.R_alloc | apply Kd.R_drewN | apply Kd.R_drew)); exact (Kd.R_mono (Kd.R_far (p := ⟨gb115, 1, none⟩) (Kd.R_far (p := ⟨gb115, 0, none⟩) (Kd.R_types HO112.out BK115.out lc_33_) (fun _ hk => hk.2) (.slice Ao33 t110.length co33)) (fun _ hk => hk.2) (.int .i64 t113)) (fun _ h_ => h_.1))) : P := h
theorem lc_41_ {P : Prop} (h : P := by first | rfl | (simp [errW_none, errW_some] <;> rfl) | (simp [*, errW_none, errW_some] <;> rfl)) : P := h
theorem lc_42_ {P : Prop} (h : P := by repeat (first | (with_reducible first | exact HB.out | apply below_alloc | apply pw_below_drewN | apply below_drew1) | exact HB.out)) : P := h
theorem lc_43_ {P : Prop} (h : P := by have := HJ3.out; have := HJ25.out; have := HK3.out; have := HK4.out; have := HK5.out; first | omega | exact Nat.le_refl _) : P := h
theorem lc_44_ {P : Prop} (h : P := by repeat (first | (with_reducible first | exact HB.out | apply below_alloc | apply pw_below_drewN | apply below_drew1 | refine below_set ?_ GB69.out | refine below_set ?_ GE101.out | refine below_set ?_ GE115.out) | exact HB.out)) : P := h
theorem lc_45_ {P : Prop} (h : P := by exact (fun k_ hk => ⟨Kd.fresh' (Kd.R_lt (pR HO_7.out)) k_ hk, Kd.fresh' (Kd.R_lt (pR HO_179.out)) k_ hk, Kd.fresh' (Kd.R_lt (pR HO_116000.out)) k_ hk, Kd.fresh' (Kd.R_lt (pR HO143.out)) k_ hk⟩)) : P := h
theorem lc_46_ {P : Prop} (h : P := by exact (fun k_ hk => ⟨Kd.fresh' (Kd.R_lt (pR HO_7.out)) k_ hk, Kd.fresh' (Kd.R_lt (pR HO_179.out)) k_ hk, Kd.fresh' (Kd.R_lt (pR HO_116000.out)) k_ hk, Kd.fresh' (Kd.R_lt (pR HO140.out)) k_ hk⟩)) : P := h
/-- A block of the code, and what stands behind it. -/
def atBlock (n : Nat) : Code → Code → Option (Code × Code)
  | .block i x, k => if i = n then some (x, k) else atBlock n x .skip
  | .seq a b, k => (atBlock n a b).or (atBlock n b k)
  | .cond _ a b, k => (atBlock n a k).or (atBlock n b k)
  | .loop x, _ => atBlock n x .skip
  | _, _ => none
noncomputable def loopB : Code := ((Try.f3.body.bind fun c => atBlock 2 c .skip).getD (.skip, .skip)).1
noncomputable def contB : Code := ((Try.f3.body.bind fun c => atBlock 2 c .skip).getD (.skip, .skip)).2
set_option maxHeartbeats 8000000 in
set_option maxRecDepth 100000 in
theorem quietuslaw43_TagsCountForgeries.loop (k3 : Nat) (A0_0 : Option Addr) (c0_0 : Nat) (l0_0 : List Int) (A0_1 : Option Addr) (c0_1 : Nat) (l0_1 : List Int) (A0_2 : Option Addr) (c0_2 : Nat) (l0_2 : List ByteArray) (A0_3 : Option Addr) (c0_3 : Nat) (l0_3 : List Int) (A0_4 : Option Addr) (c0_4 : Nat) (l0_4 : List (S60)) (A0_5 : Option Addr) (c0_5 : Nat) (l0_5 : List Int) (a0_6 : Int) (a1 : Int) (a2 : Int) (r : Bool) (w W : World) (gb101 gb115 : Nat) (Ao30 Ao33 Ao87 : Option Addr) (co30 co33 co87 : Nat) (t105 t110 y131 : List Int) (t113 ji78 x14_3 t130 : Int) (v0 v1 v2 v4 v5 v6 v8 v11 v13 v14 v15 v17 v18 v19 v20 v21 v22 v23 v24 v25 v26 v27 v28 v29 v30 v31 v32 v33 v34 v35 v36 v37 v38 v39 v40 v41 v42 v43 v44 v45 v46 v47 v48 v49 v50 v51 v52 v53 v54 v55 v56 v57 v58 v59 v60 v61 v62 v63 v64 v65 v66 v67 v68 v69 v70 v71 v72 v73 v74 v75 v76 v77 v78 v79 v80 v81 v82 v83 v84 v85 v86 v87 v88 v89 v90 v91 v92 v93 v94 v95 v96 v97 v98 v99 v100 v101 v102 v103 v104 v105 v106 v107 v108 v109 v110 v111 v112 v113 v114 v115 v116 v117 v118 v119 v120 v121 v122 v123 v124 v125 v126 v127 v128 v129 v130 v131 v132 v133 v134 v135 v136 v137 v138 v139 v140 v141 v142 v143 v144 v145 v146 v147 v148 v149 v150 v151 v152 v153 v154 v155 v156 v157 v158 v159 v160 v161 v162 v163 v164 v165 v166 v167 v168 v169 v170 v171 v172 v173 v174 v175 v176 v177 v178 v182 v183 v184 v185 v186 v187 v188 v189 v190 v191 v192 v193 v194 v195 v196 v197 v198 v199 v200 v201 v202 v203 v204 v205 v206 v207 v208 v209 v210 v211 v212 v213 v214 v215 v216 v217 v218 v219 v220 v221 v222 v223 v224 v225 v226 v227 v228 v229 v230 v231 v232 v233 v234 v235 v236 v237 v238 v239 v240 v241 v242 v243 v244 v245 v246 v247 v248 v249 v250 v251 v252 v253 v254 v255 v256 v257 v258 v259 v260 v261 v262 v263 v264 v265 v266 v267 v268 v269 v270 v271 v272 v273 v274 v275 v276 v277 v278 v279 v280 v281 v282 : Value) (HR0_0 : Aside0 (Kd.C (Kd.int .i64) w A0_0 l0_0.length l0_0)) (HC0_0 : Aside0 (l0_0.length ≤ c0_0)) (HR0_1 : Aside0 (Kd.C (Kd.int .i64) w A0_1 l0_1.length l0_1)) (HC0_1 : Aside0 (l0_1.length ≤ c0_1)) (HR0_2 : Aside0 (Kd.C Kd.string w A0_2 l0_2.length l0_2)) (HC0_2 : Aside0 (l0_2.length ≤ c0_2)) (HR0_3 : Aside0 (Kd.C (Kd.int .i64) w A0_3 l0_3.length l0_3)) (HC0_3 : Aside0 (l0_3.length ≤ c0_3)) (HR0_4 : Aside0 (Kd.C k60 w A0_4 l0_4.length l0_4)) (HC0_4 : Aside0 (l0_4.length ≤ c0_4)) (HR0_5 : Aside0 (Kd.C (Kd.int .i64) w A0_5 l0_5.length l0_5)) (HC0_5 : Aside0 (l0_5.length ≤ c0_5)) (GW101 GE101 : Aside0 (w.heap.size ≤ gb101)) (GW115 GE115 : Aside0 (w.heap.size ≤ gb115)) (NB101_115 : Aside0 (gb101 ≠ gb115)) (NB115_101 : Aside0 (gb115 ≠ gb101)) (HJ3 HJ25 HK3 : Aside0 True) (H' : Aside0 (quietuslaw43_TagsCountForgeries.l1 k3 t105 (l0_0.length : Int) ji78 (Int.tmod (wrap64 (x14_3 * t130)) 2147483647) y131 (y131.length : Int) 0 l0_0 l0_1 l0_2 l0_3 l0_4 l0_5 a0_6 t110 t113 = some r)) (H7 : Aside0 (Kd.R (Kd.int .i64) 3 W w.heap.size (fun k_ => some k_ ≠ (.slice Ao87 y131.length co87 : Value).ownBlock ∧ some k_ ≠ (.slice Ao33 t110.length co33 : Value).ownBlock) (.slice Ao30 t105.length co30 : Value) t105)) (H179 : Aside0 (Kd.R (Kd.int .i64) 3 W w.heap.size (fun k_ => some k_ ≠ (.slice Ao30 t105.length co30 : Value).ownBlock ∧ some k_ ≠ (.slice Ao33 t110.length co33 : Value).ownBlock) (.slice Ao87 y131.length co87 : Value) y131)) (H116 : Aside0 (Kd.R (Kd.int .i64) 3 W w.heap.size (fun k_ => some k_ ≠ (.slice Ao30 t105.length co30 : Value).ownBlock ∧ some k_ ≠ (.slice Ao87 y131.length co87 : Value).ownBlock) (.slice Ao33 t110.length co33 : Value) t110)) (BK101 : Aside0 (W.heap[gb101]? = some (.cells #[.slice A0_0 l0_0.length c0_0, .slice A0_1 l0_1.length c0_1, .slice A0_2 l0_2.length c0_2, .slice A0_3 l0_3.length c0_3, .slice A0_4 l0_4.length c0_4, .slice A0_5 l0_5.length c0_5, .int .i64 a0_6] 30 (0, 0)))) (BK115 : Aside0 (W.heap[gb115]? = some (.cells #[.slice Ao33 t110.length co33, .int .i64 t113] 28 (0, 0)))) (HB : Aside0 (Below w.heap.size w W)) (K : Act → World → Prop) (hK : ∀ a w', Code.wp Try.prog contB (bodyPost Try.prog Try.f3 fun e w' => e = .returned (.bool r) ∧ Below w.heap.size w w') a w' → K a w') :
  Code.wp Try.prog loopB (Exit.inBlock 2 (Exit.then K (bodyPost Try.prog Try.f3 fun e w' => e = .returned (.bool r) ∧ Below w.heap.size w w'))) { tmps := List.toArray (v0 :: v1 :: v2 :: .pointer (some ⟨gb101, 0, none⟩) :: v4 :: v5 :: v6 :: .slice Ao30 t105.length co30 :: v8 :: .int .i64 (l0_0.length : Int) :: .pointer (some ⟨gb115, 0, none⟩) :: v11 :: .int .i64 ji78 :: v13 :: v14 :: v15 :: .int .i64 (Int.tmod (wrap64 (x14_3 * t130)) 2147483647) :: v17 :: v18 :: v19 :: v20 :: v21 :: v22 :: v23 :: v24 :: v25 :: v26 :: v27 :: v28 :: v29 :: v30 :: v31 :: v32 :: v33 :: v34 :: v35 :: v36 :: v37 :: v38 :: v39 :: v40 :: v41 :: v42 :: v43 :: v44 :: v45 :: v46 :: v47 :: v48 :: v49 :: v50 :: v51 :: v52 :: v53 :: v54 :: v55 :: v56 :: v57 :: v58 :: v59 :: v60 :: v61 :: v62 :: v63 :: v64 :: v65 :: v66 :: v67 :: v68 :: v69 :: v70 :: v71 :: v72 :: v73 :: v74 :: v75 :: v76 :: v77 :: v78 :: v79 :: v80 :: v81 :: v82 :: v83 :: v84 :: v85 :: v86 :: v87 :: v88 :: v89 :: v90 :: v91 :: v92 :: v93 :: v94 :: v95 :: v96 :: v97 :: v98 :: v99 :: v100 :: v101 :: v102 :: v103 :: v104 :: v105 :: v106 :: v107 :: v108 :: v109 :: v110 :: v111 :: v112 :: v113 :: v114 :: v115 :: v116 :: v117 :: v118 :: v119 :: v120 :: v121 :: v122 :: v123 :: v124 :: v125 :: v126 :: v127 :: v128 :: v129 :: v130 :: v131 :: v132 :: v133 :: v134 :: v135 :: v136 :: v137 :: v138 :: v139 :: v140 :: v141 :: v142 :: v143 :: v144 :: v145 :: v146 :: v147 :: v148 :: v149 :: v150 :: v151 :: v152 :: v153 :: v154 :: v155 :: v156 :: v157 :: v158 :: v159 :: v160 :: v161 :: v162 :: v163 :: v164 :: v165 :: v166 :: v167 :: v168 :: v169 :: v170 :: v171 :: v172 :: v173 :: v174 :: v175 :: v176 :: v177 :: v178 :: .slice Ao87 y131.length co87 :: .int .i64 (y131.length : Int) :: .int .i64 0 :: v182 :: v183 :: v184 :: v185 :: v186 :: v187 :: v188 :: v189 :: v190 :: v191 :: v192 :: v193 :: v194 :: v195 :: v196 :: v197 :: v198 :: v199 :: v200 :: v201 :: v202 :: v203 :: v204 :: v205 :: v206 :: v207 :: v208 :: v209 :: v210 :: v211 :: v212 :: v213 :: v214 :: v215 :: v216 :: v217 :: v218 :: v219 :: v220 :: v221 :: v222 :: v223 :: v224 :: v225 :: v226 :: v227 :: v228 :: v229 :: v230 :: v231 :: v232 :: v233 :: v234 :: v235 :: v236 :: v237 :: v238 :: v239 :: v240 :: v241 :: v242 :: v243 :: v244 :: v245 :: v246 :: v247 :: v248 :: v249 :: v250 :: v251 :: v252 :: v253 :: v254 :: v255 :: v256 :: v257 :: v258 :: v259 :: v260 :: v261 :: v262 :: v263 :: v264 :: v265 :: v266 :: v267 :: v268 :: v269 :: v270 :: v271 :: v272 :: v273 :: v274 :: v275 :: v276 :: v277 :: v278 :: v279 :: v280 :: v281 :: v282 :: []), defers := [] } W := by
 have hu30 := Try.underlying30
 have hu24 := Try.underlying24
 have hu28 := Try.underlying28
 conv at hK in contB => whnf
 conv in loopB => whnf
 try dsimp only
 go_loopg [181] k3 (fun kq v181 w' => ∃ (x7_4 : List Int) (x179_4 : List Int) (x181_4 : Int) (x116000_4 : List Int) (u116000 : Value), v181 = .int .i64 x181_4 ∧ Aside0 (quietuslaw43_TagsCountForgeries.l1 kq x7_4 (l0_0.length : Int) (ji78) (Int.tmod (wrap64 (x14_3 * t130)) 2147483647) x179_4 (y131.length : Int) x181_4 l0_0 l0_1 l0_2 l0_3 l0_4 l0_5 a0_6 x116000_4 t113 = some r) ∧ Aside0 (kq ≤ k3) ∧ Aside0 (Kd.R (Kd.int .i64) 3 w' w.heap.size (fun k_ => some k_ ≠ ((.slice Ao87 y131.length co87) : Value).ownBlock ∧ some k_ ≠ (u116000 : Value).ownBlock) (.slice Ao30 t105.length co30) x7_4) ∧ Aside0 (Kd.R (Kd.int .i64) 3 w' w.heap.size (fun k_ => some k_ ≠ ((.slice Ao30 t105.length co30) : Value).ownBlock ∧ some k_ ≠ (u116000 : Value).ownBlock) (.slice Ao87 y131.length co87) x179_4) ∧ Aside0 (Kd.R (Kd.int .i64) 3 w' w.heap.size (fun k_ => some k_ ≠ ((.slice Ao30 t105.length co30) : Value).ownBlock ∧ some k_ ≠ ((.slice Ao87 y131.length co87) : Value).ownBlock) u116000 x116000_4) ∧ Aside0 (w'.heap[gb101]? = some (.cells #[(.slice A0_0 l0_0.length c0_0), (.slice A0_1 l0_1.length c0_1), (.slice A0_2 l0_2.length c0_2), (.slice A0_3 l0_3.length c0_3), (.slice A0_4 l0_4.length c0_4), (.slice A0_5 l0_5.length c0_5), .int .i64 a0_6] 30 (0, 0))) ∧ Aside0 (w'.heap[gb115]? = some (.cells #[u116000, .int .i64 t113] 28 (0, 0))) ∧ Aside0 (Below w.heap.size w w'))
 case atStart => exact ⟨(t105), (y131), (0), (t110), (.slice Ao33 t110.length co33), rfl, H', ⟨Nat.le_refl _⟩, H7, H179, H116, BK101, BK115, HB⟩
 case round => as_aux_lemma =>
  clear H'
  obtain ⟨x7_4, x179_4, x181_4, x116000_4, u116000, rfl, HA, HK4, HO_7, HO_179, HO_116000, BK101, BK115, HB⟩ := hrel
  have hl7_4 := (Kd.R_reads' HO_7.out).1
  rw [hl7_4] at HO_7
  (try simp only [hl7_4])
  (try simp only [hl7_4] at BK101)
  (try simp only [hl7_4] at BK115)
  (try simp only [hl7_4] at HO_179)
  (try simp only [hl7_4] at HO_116000)
  have hl179_4 := (Kd.R_reads' HO_179.out).1
  rw [hl179_4] at HO_179
  (try simp only [hl179_4])
  (try simp only [hl179_4] at BK101)
  (try simp only [hl179_4] at BK115)
  (try simp only [hl179_4] at HO_7)
  (try simp only [hl179_4] at HO_116000)
  rcases gk with _ | k4
  ·exact absurd HA.out (by simp [quietuslaw43_TagsCountForgeries.l1])
  have H := HA.out
  clear HA
  simp only [quietuslaw43_TagsCountForgeries.l1] at H
  by_cases c88 : x181_4 < (y131.length : Int)
  rotate_left
  ·rw [if_neg c88] at H
   have c88b0 : decide (x181_4 < (y131.length : Int)) = false := decide_eq_false c88
   (try simp only [hl13_3] at c88b0)
   (try simp only [hl7_4] at c88b0)
   (try simp only [hl179_4] at c88b0)
   clear c88
   replace H := Option.bind_eq_some_iff.mp H
   obtain ⟨⟨t161, t162⟩, A1640, H⟩ := H
   (try dsimp only at H)
   have A164 := Aside0.mk A1640
   clear A1640
   replace H := Option.bind_eq_some_iff.mp H
   obtain ⟨t163, A1650, H⟩ := H
   (try dsimp only at H)
   have A165 := Aside0.mk A1650
   clear A1650
   by_cases c166 : t163 = true
   ·subst c166
    rw [if_pos rfl] at H
    by_cases c167 : t161 = (wrap64 ((l0_0.length : Int) - 1))
    ·rw [if_pos c167] at H
     have c167b0 : (t161 == (wrap64 ((l0_0.length : Int) - 1))) = true := beq_iff_eq.mpr c167
     have c167b1 : (t161 != (wrap64 ((l0_0.length : Int) - 1))) = false := bne_eq_false_iff_eq.mpr c167
     clear c167
     obtain rfl := Option.some.inj H
     have hnb168 := NB115_101.out
     have hnc168 := NB101_115.out
     obtain ⟨hcz169_0, hcz169_1⟩ := cz2 BK115.out
     have hfz169_0 := blk_frozen BK115.out 0
     have hfz169_1 := blk_frozen BK115.out 1
     obtain ⟨hcz170_0, hcz170_1, hcz170_2, hcz170_3, hcz170_4, hcz170_5, hcz170_6⟩ := cz7 BK101.out
     have hfz170_0 := blk_frozen BK101.out 0
     have hfz170_1 := blk_frozen BK101.out 1
     have hfz170_2 := blk_frozen BK101.out 2
     have hfz170_3 := blk_frozen BK101.out 3
     have hfz170_4 := blk_frozen BK101.out 4
     have hfz170_5 := blk_frozen BK101.out 5
     have hfz170_6 := blk_frozen BK101.out 6
     obtain ⟨Ao171, co171, eo171⟩ := Kd.R_slice HO_116000.out
     subst eo171
     go_wp2_with (first | ((with_reducible refine gate_callee (f := 15) rfl ?_); refine goesL_ (some 270) rfl rfl Try.func15 lc_12_ rfl #[.agg #[.slice Ao171 x116000_4.length co171, .int .i64 t113], .agg #[.slice A0_5 l0_5.length c0_5, .int .i64 a0_6]] rfl lc_5_ ?_; (with_reducible refine (P.tag_Forged.calls k4 _ _ x116000_4 t113 _ _ l0_5 a0_6 t161 t162 _ ?side1 ?side2 ?side3 ?side4 A164.out).mono ?_); (case side1 => exact lc_35_); (case side2 => exact (Kd.R_reads' HO_116000.out).2.1); (case side3 => exact lc_15_); (case side4 => exact HC0_5.out); rintro e w172 ⟨rfl, hb⟩; refine ⟨_, rfl, ?_⟩; have n0_ := Aside0.mk (rb HO_7.out hb); have n1_ := Aside0.mk (rb HO_179.out hb); have n2_ := Aside0.mk (rb HO_116000.out hb); have n3_ := Aside0.mk (bb BK101.out hb); have n4_ := Aside0.mk (bb BK115.out hb); have n5_ := Aside0.mk (below_step lc_1_ hb); clear HO_7 HO_179 HO_116000 BK101 BK115 HB; have HO_7 := n0_; have HO_179 := n1_; have HO_116000 := n2_; have BK101 := n3_; have BK115 := n4_; have HB := n5_; clear n0_ n1_ n2_ n3_ n4_ n5_; (try clear hb); (try clear hb2); (try clear hk); (try clear hi)) | ((with_reducible refine gate_callee (f := 8) rfl ?_); refine goesL_ (some 273) rfl rfl Try.func8 lc_12_ rfl #[] rfl lc_5_ ?_; (with_reducible refine (Sa.sanity.calls  true _ A165.out).mono ?_); rintro e w173 ⟨rfl, hb⟩; refine ⟨_, rfl, ?_⟩; have n0_ := Aside0.mk (rb HO_7.out hb); have n1_ := Aside0.mk (rb HO_179.out hb); have n2_ := Aside0.mk (rb HO_116000.out hb); have n3_ := Aside0.mk (bb BK101.out hb); have n4_ := Aside0.mk (bb BK115.out hb); have n5_ := Aside0.mk (below_step lc_1_ hb); clear HO_7 HO_179 HO_116000 BK101 BK115 HB; have HO_7 := n0_; have HO_179 := n1_; have HO_116000 := n2_; have BK101 := n3_; have BK115 := n4_; have HB := n5_; clear n0_ n1_ n2_ n3_ n4_ n5_; (try clear hb); (try clear hb2); (try clear hk); (try clear hi)))
     go_ret
     exact ⟨lc_17_, lc_1_⟩
    rw [if_neg c167] at H
    have c167b0 : (t161 == (wrap64 ((l0_0.length : Int) - 1))) = false := beq_eq_false_iff_ne.mpr c167
    have c167b1 : (t161 != (wrap64 ((l0_0.length : Int) - 1))) = true := bne_iff_ne.mpr c167
    obtain rfl := Option.some.inj H
    have hnb174 := NB115_101.out
    have hnc174 := NB101_115.out
    obtain ⟨hcz175_0, hcz175_1⟩ := cz2 BK115.out
    have hfz175_0 := blk_frozen BK115.out 0
    have hfz175_1 := blk_frozen BK115.out 1
    obtain ⟨hcz176_0, hcz176_1, hcz176_2, hcz176_3, hcz176_4, hcz176_5, hcz176_6⟩ := cz7 BK101.out
    have hfz176_0 := blk_frozen BK101.out 0
    have hfz176_1 := blk_frozen BK101.out 1
    have hfz176_2 := blk_frozen BK101.out 2
    have hfz176_3 := blk_frozen BK101.out 3
    have hfz176_4 := blk_frozen BK101.out 4
    have hfz176_5 := blk_frozen BK101.out 5
    have hfz176_6 := blk_frozen BK101.out 6
    obtain ⟨Ao177, co177, eo177⟩ := Kd.R_slice HO_116000.out
    subst eo177
    go_wp2_with (first | ((with_reducible refine gate_callee (f := 15) rfl ?_); refine goesL_ (some 270) rfl rfl Try.func15 lc_12_ rfl #[.agg #[.slice Ao177 x116000_4.length co177, .int .i64 t113], .agg #[.slice A0_5 l0_5.length c0_5, .int .i64 a0_6]] rfl lc_5_ ?_; (with_reducible refine (P.tag_Forged.calls k4 _ _ x116000_4 t113 _ _ l0_5 a0_6 t161 t162 _ ?side1 ?side2 ?side3 ?side4 A164.out).mono ?_); (case side1 => exact lc_35_); (case side2 => exact (Kd.R_reads' HO_116000.out).2.1); (case side3 => exact lc_15_); (case side4 => exact HC0_5.out); rintro e w178 ⟨rfl, hb⟩; refine ⟨_, rfl, ?_⟩; have n0_ := Aside0.mk (rb HO_7.out hb); have n1_ := Aside0.mk (rb HO_179.out hb); have n2_ := Aside0.mk (rb HO_116000.out hb); have n3_ := Aside0.mk (bb BK101.out hb); have n4_ := Aside0.mk (bb BK115.out hb); have n5_ := Aside0.mk (below_step lc_1_ hb); clear HO_7 HO_179 HO_116000 BK101 BK115 HB; have HO_7 := n0_; have HO_179 := n1_; have HO_116000 := n2_; have BK101 := n3_; have BK115 := n4_; have HB := n5_; clear n0_ n1_ n2_ n3_ n4_ n5_; (try clear hb); (try clear hb2); (try clear hk); (try clear hi)) | ((with_reducible refine gate_callee (f := 8) rfl ?_); refine goesL_ (some 273) rfl rfl Try.func8 lc_12_ rfl #[] rfl lc_5_ ?_; (with_reducible refine (Sa.sanity.calls  true _ A165.out).mono ?_); rintro e w179 ⟨rfl, hb⟩; refine ⟨_, rfl, ?_⟩; have n0_ := Aside0.mk (rb HO_7.out hb); have n1_ := Aside0.mk (rb HO_179.out hb); have n2_ := Aside0.mk (rb HO_116000.out hb); have n3_ := Aside0.mk (bb BK101.out hb); have n4_ := Aside0.mk (bb BK115.out hb); have n5_ := Aside0.mk (below_step lc_1_ hb); clear HO_7 HO_179 HO_116000 BK101 BK115 HB; have HO_7 := n0_; have HO_179 := n1_; have HO_116000 := n2_; have BK101 := n3_; have BK115 := n4_; have HB := n5_; clear n0_ n1_ n2_ n3_ n4_ n5_; (try clear hb); (try clear hb2); (try clear hk); (try clear hi)))
    go_ret
    exact ⟨lc_17_, lc_1_⟩
   replace c166 := Bool.eq_false_iff.mpr c166
   subst c166
   rw [if_neg (show ¬ (false = true) by decide)] at H
   obtain rfl := Option.some.inj H
   have hnb180 := NB115_101.out
   have hnc180 := NB101_115.out
   obtain ⟨hcz181_0, hcz181_1⟩ := cz2 BK115.out
   have hfz181_0 := blk_frozen BK115.out 0
   have hfz181_1 := blk_frozen BK115.out 1
   obtain ⟨hcz182_0, hcz182_1, hcz182_2, hcz182_3, hcz182_4, hcz182_5, hcz182_6⟩ := cz7 BK101.out
   have hfz182_0 := blk_frozen BK101.out 0
   have hfz182_1 := blk_frozen BK101.out 1
   have hfz182_2 := blk_frozen BK101.out 2
   have hfz182_3 := blk_frozen BK101.out 3
   have hfz182_4 := blk_frozen BK101.out 4
   have hfz182_5 := blk_frozen BK101.out 5
   have hfz182_6 := blk_frozen BK101.out 6
   obtain ⟨Ao183, co183, eo183⟩ := Kd.R_slice HO_116000.out
   subst eo183
   go_wp2_with (first | ((with_reducible refine gate_callee (f := 15) rfl ?_); refine goesL_ (some 270) rfl rfl Try.func15 lc_12_ rfl #[.agg #[.slice Ao183 x116000_4.length co183, .int .i64 t113], .agg #[.slice A0_5 l0_5.length c0_5, .int .i64 a0_6]] rfl lc_5_ ?_; (with_reducible refine (P.tag_Forged.calls k4 _ _ x116000_4 t113 _ _ l0_5 a0_6 t161 t162 _ ?side1 ?side2 ?side3 ?side4 A164.out).mono ?_); (case side1 => exact lc_35_); (case side2 => exact (Kd.R_reads' HO_116000.out).2.1); (case side3 => exact lc_15_); (case side4 => exact HC0_5.out); rintro e w184 ⟨rfl, hb⟩; refine ⟨_, rfl, ?_⟩; have n0_ := Aside0.mk (rb HO_7.out hb); have n1_ := Aside0.mk (rb HO_179.out hb); have n2_ := Aside0.mk (rb HO_116000.out hb); have n3_ := Aside0.mk (bb BK101.out hb); have n4_ := Aside0.mk (bb BK115.out hb); have n5_ := Aside0.mk (below_step lc_1_ hb); clear HO_7 HO_179 HO_116000 BK101 BK115 HB; have HO_7 := n0_; have HO_179 := n1_; have HO_116000 := n2_; have BK101 := n3_; have BK115 := n4_; have HB := n5_; clear n0_ n1_ n2_ n3_ n4_ n5_; (try clear hb); (try clear hb2); (try clear hk); (try clear hi)) | ((with_reducible refine gate_callee (f := 8) rfl ?_); refine goesL_ (some 273) rfl rfl Try.func8 lc_12_ rfl #[] rfl lc_5_ ?_; (with_reducible refine (Sa.sanity.calls  false _ A165.out).mono ?_); rintro e w185 ⟨rfl, hb⟩; refine ⟨_, rfl, ?_⟩; have n0_ := Aside0.mk (rb HO_7.out hb); have n1_ := Aside0.mk (rb HO_179.out hb); have n2_ := Aside0.mk (rb HO_116000.out hb); have n3_ := Aside0.mk (bb BK101.out hb); have n4_ := Aside0.mk (bb BK115.out hb); have n5_ := Aside0.mk (below_step lc_1_ hb); clear HO_7 HO_179 HO_116000 BK101 BK115 HB; have HO_7 := n0_; have HO_179 := n1_; have HO_116000 := n2_; have BK101 := n3_; have BK115 := n4_; have HB := n5_; clear n0_ n1_ n2_ n3_ n4_ n5_; (try clear hb); (try clear hb2); (try clear hk); (try clear hi)))
   go_ret
   exact ⟨lc_17_, lc_1_⟩
  rw [if_pos c88] at H
  have c88b0 : decide (x181_4 < (y131.length : Int)) = true := decide_eq_true c88
  clear c88
  by_cases c89 : 0 ≤ x181_4
  rotate_left
  ·rw [if_neg c89] at H
   exact absurd H (by simp)
  rw [if_pos c89] at H
  have c89b0 : decide (0 ≤ x181_4) = true := decide_eq_true c89
  clear c89
  by_cases c90 : x181_4 < (x179_4.length : Int)
  rotate_left
  ·rw [if_neg c90] at H
   exact absurd H (by simp)
  rw [if_pos c90] at H
  have c90b0 : decide (x181_4 < (x179_4.length : Int)) = true := decide_eq_true c90
  clear c90
  obtain ⟨y135, hy135⟩ : ∃ y_ : List Int, y_ = (([] : List Int)) := ⟨_, rfl⟩
  replace H : (if y135.length + l0_0.length < 17592186044416 then ((some (y135 ++ l0_0 : List Int)).bind fun y138 => ((some (([] : List Int) : List Int)).bind fun y141 => (if y141.length + l0_1.length < 17592186044416 then (if 0 ≤ (ji78) then (if (ji78) < (y138.length : Int) then (quietuslaw43_TagsCountForgeries.l2 k4 x7_4 (l0_0.length : Int) (ji78) (Int.tmod (wrap64 (x14_3 * t130)) 2147483647) (rd x179_4 x181_4) x179_4 (y131.length : Int) x181_4 l0_2 (l0_2.length : Int) 0 l0_0 l0_1 l0_2 l0_3 l0_4 l0_5 a0_6 x116000_4 t113 (y138.set ((ji78) : Int).toNat (rd x179_4 x181_4)) (y141 ++ l0_1)) else (none)) else (none)) else (none)))) else (none)) = some r := by first | (rw [hy135]; with_reducible exact H) | (have H2_ := (Option.bind_some _ _).symm.trans H; rw [hy135]; with_reducible exact H2_) | (have H2_ := (Option.bind_some _ _).symm.trans H; with_reducible exact H2_) | with_reducible exact H | (rw [hy135]; exact H) | exact H
  have Ny135 := Aside0.mk hy135
  clear hy135
  by_cases c91 : y135.length + l0_0.length < 17592186044416
  rotate_left
  ·rw [if_neg c91] at H
   exact absurd H (by simp)
  rw [if_pos c91] at H
  have LMc91 := Aside0.mk c91
  clear c91
  obtain ⟨y138, hy138⟩ : ∃ y_ : List Int, y_ = (y135 ++ l0_0) := ⟨_, rfl⟩
  replace H : ((some (([] : List Int) : List Int)).bind fun y141 => (if y141.length + l0_1.length < 17592186044416 then (if 0 ≤ (ji78) then (if (ji78) < (y138.length : Int) then (quietuslaw43_TagsCountForgeries.l2 k4 x7_4 (l0_0.length : Int) (ji78) (Int.tmod (wrap64 (x14_3 * t130)) 2147483647) (rd x179_4 x181_4) x179_4 (y131.length : Int) x181_4 l0_2 (l0_2.length : Int) 0 l0_0 l0_1 l0_2 l0_3 l0_4 l0_5 a0_6 x116000_4 t113 (y138.set ((ji78) : Int).toNat (rd x179_4 x181_4)) (y141 ++ l0_1)) else (none)) else (none)) else (none))) = some r := by first | (rw [hy138]; with_reducible exact H) | (have H2_ := (Option.bind_some _ _).symm.trans H; rw [hy138]; with_reducible exact H2_) | (have H2_ := (Option.bind_some _ _).symm.trans H; with_reducible exact H2_) | with_reducible exact H | (rw [hy138]; exact H) | exact H
  have Ny138 := Aside0.mk hy138
  clear hy138
  obtain ⟨y141, hy141⟩ : ∃ y_ : List Int, y_ = (([] : List Int)) := ⟨_, rfl⟩
  replace H : (if y141.length + l0_1.length < 17592186044416 then (if 0 ≤ (ji78) then (if (ji78) < (y138.length : Int) then (quietuslaw43_TagsCountForgeries.l2 k4 x7_4 (l0_0.length : Int) (ji78) (Int.tmod (wrap64 (x14_3 * t130)) 2147483647) (rd x179_4 x181_4) x179_4 (y131.length : Int) x181_4 l0_2 (l0_2.length : Int) 0 l0_0 l0_1 l0_2 l0_3 l0_4 l0_5 a0_6 x116000_4 t113 (y138.set ((ji78) : Int).toNat (rd x179_4 x181_4)) (y141 ++ l0_1)) else (none)) else (none)) else (none)) = some r := by first | (rw [hy141]; with_reducible exact H) | (have H2_ := (Option.bind_some _ _).symm.trans H; rw [hy141]; with_reducible exact H2_) | (have H2_ := (Option.bind_some _ _).symm.trans H; with_reducible exact H2_) | with_reducible exact H | (rw [hy141]; exact H) | exact H
  have Ny141 := Aside0.mk hy141
  clear hy141
  by_cases c92 : y141.length + l0_1.length < 17592186044416
  rotate_left
  ·rw [if_neg c92] at H
   exact absurd H (by simp)
  rw [if_pos c92] at H
  have LMc92 := Aside0.mk c92
  clear c92
  obtain ⟨y144, hy144⟩ : ∃ y_ : List Int, y_ = (y141 ++ l0_1) := ⟨_, rfl⟩
  replace H : (if 0 ≤ (ji78) then (if (ji78) < (y138.length : Int) then (quietuslaw43_TagsCountForgeries.l2 k4 x7_4 (l0_0.length : Int) (ji78) (Int.tmod (wrap64 (x14_3 * t130)) 2147483647) (rd x179_4 x181_4) x179_4 (y131.length : Int) x181_4 l0_2 (l0_2.length : Int) 0 l0_0 l0_1 l0_2 l0_3 l0_4 l0_5 a0_6 x116000_4 t113 (y138.set ((ji78) : Int).toNat (rd x179_4 x181_4)) y144) else (none)) else (none)) = some r := by first | (rw [hy144]; with_reducible exact H) | (have H2_ := (Option.bind_some _ _).symm.trans H; rw [hy144]; with_reducible exact H2_) | (have H2_ := (Option.bind_some _ _).symm.trans H; with_reducible exact H2_) | with_reducible exact H | (rw [hy144]; exact H) | exact H
  have Ny144 := Aside0.mk hy144
  clear hy144
  by_cases c93 : 0 ≤ (ji78)
  rotate_left
  ·rw [if_neg c93] at H
   exact absurd H (by simp)
  rw [if_pos c93] at H
  have c93b0 : decide (0 ≤ (ji78)) = true := decide_eq_true c93
  clear c93
  by_cases c94 : (ji78) < (y138.length : Int)
  rotate_left
  ·rw [if_neg c94] at H
   exact absurd H (by simp)
  rw [if_pos c94] at H
  have c94b0 : decide ((ji78) < (y138.length : Int)) = true := decide_eq_true c94
  clear c94
  obtain ⟨y148, hy148⟩ : ∃ y_ : List Int, y_ = (y138.set ((ji78) : Int).toNat (rd x179_4 x181_4)) := ⟨_, rfl⟩
  replace H : (quietuslaw43_TagsCountForgeries.l2 k4 x7_4 (l0_0.length : Int) (ji78) (Int.tmod (wrap64 (x14_3 * t130)) 2147483647) (rd x179_4 x181_4) x179_4 (y131.length : Int) x181_4 l0_2 (l0_2.length : Int) 0 l0_0 l0_1 l0_2 l0_3 l0_4 l0_5 a0_6 x116000_4 t113 y148 y144) = some r := by first | (rw [hy148]; with_reducible exact H) | (have H2_ := (Option.bind_some _ _).symm.trans H; rw [hy148]; with_reducible exact H2_) | (have H2_ := (Option.bind_some _ _).symm.trans H; with_reducible exact H2_) | with_reducible exact H | (rw [hy148]; exact H) | exact H
  have Ny148 := Aside0.mk hy148
  clear hy148
  have H' := Aside0.mk H
  clear H
  have p134 : 0 ≤ (x181_4 : Int) := of_decide_eq_true lc_8_
  have q134 : x181_4 < (x179_4.length : Int) := of_decide_eq_true lc_8_
  obtain ⟨ad134, e134, hx134_0⟩ := Kd.at_int (Kd.R_reads' HO_179.out).2.2 x181_4 p134 q134
  cases e134
  replace p134 := eq_true p134
  replace q134 := eq_true q134
  try go_wp2
  have n0_ := Aside0.mk (Kd.R_drew HO_7.out)
  have n1_ := Aside0.mk (Kd.R_drew HO_179.out)
  have n2_ := Aside0.mk (Kd.R_drew HO_116000.out)
  have n3_ := Aside0.mk (blk_drew BK101.out)
  have n4_ := Aside0.mk (blk_drew BK115.out)
  have n5_ := Aside0.mk (below_drew1 HB.out)
  clear HO_7
  clear HO_179
  clear HO_116000
  clear BK101
  clear BK115
  clear HB
  have HO_7 := n0_
  have HO_179 := n1_
  have HO_116000 := n2_
  have BK101 := n3_
  have BK115 := n4_
  have HB := n5_
  clear n0_ n1_ n2_ n3_ n4_ n5_
  refine start_ (n := 13) (S := fun w' => w'.cell? ⟨gb101, 0, none⟩ = some (.slice A0_0 l0_0.length c0_0) ∧ w'.cell? ⟨gb101, 1, none⟩ = some (.slice A0_1 l0_1.length c0_1) ∧ w'.cell? ⟨gb101, 2, none⟩ = some (.slice A0_2 l0_2.length c0_2) ∧ w'.cell? ⟨gb101, 3, none⟩ = some (.slice A0_3 l0_3.length c0_3) ∧ w'.cell? ⟨gb101, 4, none⟩ = some (.slice A0_4 l0_4.length c0_4) ∧ w'.cell? ⟨gb101, 5, none⟩ = some (.slice A0_5 l0_5.length c0_5) ∧ w'.cell? ⟨gb101, 6, none⟩ = some (.int .i64 a0_6)) (ds := []) #[false, false, false, false, false, false, false, false, false, false, false, false, false] lc_12_ rfl rfl (cz7 BK101.out) (fun hHeld => ?_); refine with_tabW quietuslaw43_TagsCountForgeries.tab28 quietuslaw43_TagsCountForgeries.bits28 (fun HT_ HW_ => ?_)
  generalize wr.drew = w96 at HO_7 HO_179 HO_116000 BK101 BK115 HB hHeld ⊢
  refine pure_ (i := 1) (N := some 186) (v := ?_) (a' := ?_) #[false, true, false, false, false, false, false, false, false, false, false, false, false] rfl rfl (any_of HT_.out lc_12_) (fun _ _ _ h => h) (Or.inl ⟨lc_34_, ?_⟩) ?_ ?_
  rotate_left
  ·intro w'
   go_simp
   with_reducible rfl
  rotate_left
  ·simp only [Act.put, setIfInBounds_toArray, set_cons_zero, set_cons_succ, i64_w, i32_w]
   rfl
  refine pure_ (i := 2) (N := some 187) (v := ?_) (a' := ?_) #[false, true, true, false, false, false, false, false, false, false, false, false, false] rfl rfl (any_of HT_.out lc_12_) (fun _ _ _ h => h) (Or.inl ⟨lc_34_, ?_⟩) ?_ ?_
  rotate_left
  ·intro w'
   go_simp
   with_reducible rfl
  rotate_left
  ·simp only [Act.put, setIfInBounds_toArray, set_cons_zero, set_cons_succ, i64_w, i32_w]
   rfl
  refine pure_ (i := 6) (N := some 191) (v := ?_) (a' := ?_) #[false, true, true, false, false, false, true, false, false, false, false, false, false] rfl rfl (any_of HT_.out lc_12_) (fun _ _ _ h => h) (Or.inl ⟨lc_34_, ?_⟩) ?_ ?_
  rotate_left
  ·intro w'
   go_simp
   with_reducible rfl
  rotate_left
  ·simp only [Act.put, setIfInBounds_toArray, set_cons_zero, set_cons_succ, i64_w, i32_w]
   rfl
  refine pure_ (i := 7) (N := some 192) (v := ?_) (a' := ?_) #[false, true, true, false, false, false, true, true, false, false, false, false, false] rfl rfl (any_of HT_.out lc_12_) (fun _ _ _ h => h) (Or.inl ⟨lc_34_, ?_⟩) ?_ ?_
  rotate_left
  ·intro w'
   go_simp
   with_reducible rfl
  rotate_left
  ·simp only [Act.put, setIfInBounds_toArray, set_cons_zero, set_cons_succ, i64_w, i32_w]
   rfl
  refine take_ (i := 3) (N := some 188) (v := ?_) (a' := ?_) #[false, true, true, true, false, false, true, true, false, false, false, false, false] rfl rfl (take_ofW HT_.out HW_.out lc_12_) (fun _ _ _ h => h) (Or.inl ⟨lc_34_, ?_⟩) hHeld ?_ ?_
  rotate_left
  ·rintro w' ⟨s0, s1, s2, s3, s4, s5, s6⟩
   go_simp
   with_reducible rfl
  rotate_left
  ·simp only [Act.put, setIfInBounds_toArray, set_cons_zero, set_cons_succ, i64_w, i32_w]
   rfl
  refine take_ (i := 8) (N := some 193) (v := ?_) (a' := ?_) #[false, true, true, true, false, false, true, true, true, false, false, false, false] rfl rfl (take_ofW HT_.out HW_.out lc_12_) (fun _ _ _ h => h) (Or.inl ⟨lc_34_, ?_⟩) hHeld ?_ ?_
  rotate_left
  ·rintro w' ⟨s0, s1, s2, s3, s4, s5, s6⟩
   go_simp
   with_reducible rfl
  rotate_left
  ·simp only [Act.put, setIfInBounds_toArray, set_cons_zero, set_cons_succ, i64_w, i32_w]
   rfl
  refine join_ (σ := Value × Value × Value × Value × Nat) 1 #[true, true, true, true, true, true, true, true, true, true, true, true, false] (fun s_ => [(185, s_.1), (189, s_.2.1), (190, s_.2.2.1), (194, s_.2.2.2.1), (19, .pointer (some ⟨s_.2.2.2.2, 0, none⟩)), (195, .agg #[s_.2.1, s_.2.2.2.1])]) (fun s_ w' => (w'.cell? ⟨gb101, 0, none⟩ = some (.slice A0_0 l0_0.length c0_0) ∧ w'.cell? ⟨gb101, 1, none⟩ = some (.slice A0_1 l0_1.length c0_1) ∧ w'.cell? ⟨gb101, 2, none⟩ = some (.slice A0_2 l0_2.length c0_2) ∧ w'.cell? ⟨gb101, 3, none⟩ = some (.slice A0_3 l0_3.length c0_3) ∧ w'.cell? ⟨gb101, 4, none⟩ = some (.slice A0_4 l0_4.length c0_4) ∧ w'.cell? ⟨gb101, 5, none⟩ = some (.slice A0_5 l0_5.length c0_5) ∧ w'.cell? ⟨gb101, 6, none⟩ = some (.int .i64 a0_6)) ∧ (Kd.R (Kd.int .i64) 3 w' w.heap.size (fun k_ => some k_ ≠ (s_.2.2.2.1 : Value).ownBlock ∧ some k_ ≠ (u116000 : Value).ownBlock ∧ some k_ ≠ (.slice (some ad134) x179_4.length co87 : Value).ownBlock ∧ some k_ ≠ (.slice Ao30 x7_4.length co30 : Value).ownBlock) s_.2.1 y138) ∧ (Kd.R (Kd.int .i64) 3 w' w.heap.size (fun k_ => some k_ ≠ (s_.2.1 : Value).ownBlock ∧ some k_ ≠ (u116000 : Value).ownBlock ∧ some k_ ≠ (.slice (some ad134) x179_4.length co87 : Value).ownBlock ∧ some k_ ≠ (.slice Ao30 x7_4.length co30 : Value).ownBlock) s_.2.2.2.1 y144) ∧ (Kd.R (Kd.int .i64) 3 w' w.heap.size (fun k_ => some k_ ≠ (s_.2.1 : Value).ownBlock ∧ some k_ ≠ (s_.2.2.2.1 : Value).ownBlock ∧ some k_ ≠ (.slice (some ad134) x179_4.length co87 : Value).ownBlock ∧ some k_ ≠ (.slice Ao30 x7_4.length co30 : Value).ownBlock) u116000 x116000_4) ∧ (Kd.R (Kd.int .i64) 3 w' w.heap.size (fun k_ => some k_ ≠ (s_.2.1 : Value).ownBlock ∧ some k_ ≠ (s_.2.2.2.1 : Value).ownBlock ∧ some k_ ≠ (u116000 : Value).ownBlock ∧ some k_ ≠ (.slice Ao30 x7_4.length co30 : Value).ownBlock) (.slice (some ad134) x179_4.length co87) x179_4) ∧ (Kd.R (Kd.int .i64) 3 w' w.heap.size (fun k_ => some k_ ≠ (s_.2.1 : Value).ownBlock ∧ some k_ ≠ (s_.2.2.2.1 : Value).ownBlock ∧ some k_ ≠ (u116000 : Value).ownBlock ∧ some k_ ≠ (.slice (some ad134) x179_4.length co87 : Value).ownBlock) (.slice Ao30 x7_4.length co30) x7_4) ∧ (w'.heap[gb101]? = some (.cells #[.slice A0_0 l0_0.length c0_0, .slice A0_1 l0_1.length c0_1, .slice A0_2 l0_2.length c0_2, .slice A0_3 l0_3.length c0_3, .slice A0_4 l0_4.length c0_4, .slice A0_5 l0_5.length c0_5, .int .i64 a0_6] 30 (0, 0))) ∧ (w'.heap[gb115]? = some (.cells #[u116000, .int .i64 t113] 28 (0, 0))) ∧ (w'.heap[s_.2.2.2.2]? = some (.cells #[.slice none 0 0, .slice none 0 0] 24 (0, 0))) ∧ (w.heap.size ≤ s_.2.2.2.2) ∧ (w.heap.size ≤ s_.2.2.2.2) ∧ (gb101 ≠ s_.2.2.2.2) ∧ (s_.2.2.2.2 ≠ gb101) ∧ (gb115 ≠ s_.2.2.2.2) ∧ (s_.2.2.2.2 ≠ gb115) ∧ (Below w.heap.size w w')) ?_ ?_
  rotate_left
  ·intro hJ0_4_5_9_11
   refine join_ (σ := Value × Value × Value × Value) 2 #[true, true, true, true, true, true, true, true, true, true, true, false, false] (fun s_ => [(185, s_.1), (189, s_.2.1), (190, s_.2.2.1), (194, s_.2.2.2), (195, .agg #[s_.2.1, s_.2.2.2])]) (fun s_ w' => (w'.cell? ⟨gb101, 0, none⟩ = some (.slice A0_0 l0_0.length c0_0) ∧ w'.cell? ⟨gb101, 1, none⟩ = some (.slice A0_1 l0_1.length c0_1) ∧ w'.cell? ⟨gb101, 2, none⟩ = some (.slice A0_2 l0_2.length c0_2) ∧ w'.cell? ⟨gb101, 3, none⟩ = some (.slice A0_3 l0_3.length c0_3) ∧ w'.cell? ⟨gb101, 4, none⟩ = some (.slice A0_4 l0_4.length c0_4) ∧ w'.cell? ⟨gb101, 5, none⟩ = some (.slice A0_5 l0_5.length c0_5) ∧ w'.cell? ⟨gb101, 6, none⟩ = some (.int .i64 a0_6)) ∧ (Kd.R (Kd.int .i64) 3 w' w.heap.size (fun k_ => some k_ ≠ (s_.2.2.2 : Value).ownBlock ∧ some k_ ≠ (u116000 : Value).ownBlock ∧ some k_ ≠ (.slice (some ad134) x179_4.length co87 : Value).ownBlock ∧ some k_ ≠ (.slice Ao30 x7_4.length co30 : Value).ownBlock) s_.2.1 y138) ∧ (Kd.R (Kd.int .i64) 3 w' w.heap.size (fun k_ => some k_ ≠ (s_.2.1 : Value).ownBlock ∧ some k_ ≠ (u116000 : Value).ownBlock ∧ some k_ ≠ (.slice (some ad134) x179_4.length co87 : Value).ownBlock ∧ some k_ ≠ (.slice Ao30 x7_4.length co30 : Value).ownBlock) s_.2.2.2 y144) ∧ (Kd.R (Kd.int .i64) 3 w' w.heap.size (fun k_ => some k_ ≠ (s_.2.1 : Value).ownBlock ∧ some k_ ≠ (s_.2.2.2 : Value).ownBlock ∧ some k_ ≠ (.slice (some ad134) x179_4.length co87 : Value).ownBlock ∧ some k_ ≠ (.slice Ao30 x7_4.length co30 : Value).ownBlock) u116000 x116000_4) ∧ (Kd.R (Kd.int .i64) 3 w' w.heap.size (fun k_ => some k_ ≠ (s_.2.1 : Value).ownBlock ∧ some k_ ≠ (s_.2.2.2 : Value).ownBlock ∧ some k_ ≠ (u116000 : Value).ownBlock ∧ some k_ ≠ (.slice Ao30 x7_4.length co30 : Value).ownBlock) (.slice (some ad134) x179_4.length co87) x179_4) ∧ (Kd.R (Kd.int .i64) 3 w' w.heap.size (fun k_ => some k_ ≠ (s_.2.1 : Value).ownBlock ∧ some k_ ≠ (s_.2.2.2 : Value).ownBlock ∧ some k_ ≠ (u116000 : Value).ownBlock ∧ some k_ ≠ (.slice (some ad134) x179_4.length co87 : Value).ownBlock) (.slice Ao30 x7_4.length co30) x7_4) ∧ (w'.heap[gb101]? = some (.cells #[.slice A0_0 l0_0.length c0_0, .slice A0_1 l0_1.length c0_1, .slice A0_2 l0_2.length c0_2, .slice A0_3 l0_3.length c0_3, .slice A0_4 l0_4.length c0_4, .slice A0_5 l0_5.length c0_5, .int .i64 a0_6] 30 (0, 0))) ∧ (w'.heap[gb115]? = some (.cells #[u116000, .int .i64 t113] 28 (0, 0))) ∧ (Below w.heap.size w w')) ?_ ?_
   rotate_left
   ·intro hJ0_4_5_9
    refine join_ (σ := Value × Value × Value × Nat) 3 #[true, true, true, true, true, true, true, true, true, false, false, true, false] (fun s_ => [(185, s_.1), (189, s_.2.1), (190, s_.2.2.1), (19, .pointer (some ⟨s_.2.2.2, 0, none⟩))]) (fun s_ w' => (w'.cell? ⟨gb101, 0, none⟩ = some (.slice A0_0 l0_0.length c0_0) ∧ w'.cell? ⟨gb101, 1, none⟩ = some (.slice A0_1 l0_1.length c0_1) ∧ w'.cell? ⟨gb101, 2, none⟩ = some (.slice A0_2 l0_2.length c0_2) ∧ w'.cell? ⟨gb101, 3, none⟩ = some (.slice A0_3 l0_3.length c0_3) ∧ w'.cell? ⟨gb101, 4, none⟩ = some (.slice A0_4 l0_4.length c0_4) ∧ w'.cell? ⟨gb101, 5, none⟩ = some (.slice A0_5 l0_5.length c0_5) ∧ w'.cell? ⟨gb101, 6, none⟩ = some (.int .i64 a0_6)) ∧ (Kd.R (Kd.int .i64) 3 w' w.heap.size (fun k_ => some k_ ≠ (s_.2.2.1 : Value).ownBlock ∧ some k_ ≠ (u116000 : Value).ownBlock ∧ some k_ ≠ (.slice (some ad134) x179_4.length co87 : Value).ownBlock ∧ some k_ ≠ (.slice Ao30 x7_4.length co30 : Value).ownBlock) s_.2.1 y138) ∧ (Kd.R (Kd.int .i64) 3 w' w.heap.size (fun k_ => some k_ ≠ (s_.2.1 : Value).ownBlock ∧ some k_ ≠ (u116000 : Value).ownBlock ∧ some k_ ≠ (.slice (some ad134) x179_4.length co87 : Value).ownBlock ∧ some k_ ≠ (.slice Ao30 x7_4.length co30 : Value).ownBlock) s_.2.2.1 y141) ∧ (Kd.R (Kd.int .i64) 3 w' w.heap.size (fun k_ => some k_ ≠ (s_.2.1 : Value).ownBlock ∧ some k_ ≠ (s_.2.2.1 : Value).ownBlock ∧ some k_ ≠ (.slice (some ad134) x179_4.length co87 : Value).ownBlock ∧ some k_ ≠ (.slice Ao30 x7_4.length co30 : Value).ownBlock) u116000 x116000_4) ∧ (Kd.R (Kd.int .i64) 3 w' w.heap.size (fun k_ => some k_ ≠ (s_.2.1 : Value).ownBlock ∧ some k_ ≠ (s_.2.2.1 : Value).ownBlock ∧ some k_ ≠ (u116000 : Value).ownBlock ∧ some k_ ≠ (.slice Ao30 x7_4.length co30 : Value).ownBlock) (.slice (some ad134) x179_4.length co87) x179_4) ∧ (Kd.R (Kd.int .i64) 3 w' w.heap.size (fun k_ => some k_ ≠ (s_.2.1 : Value).ownBlock ∧ some k_ ≠ (s_.2.2.1 : Value).ownBlock ∧ some k_ ≠ (u116000 : Value).ownBlock ∧ some k_ ≠ (.slice (some ad134) x179_4.length co87 : Value).ownBlock) (.slice Ao30 x7_4.length co30) x7_4) ∧ (w'.heap[gb101]? = some (.cells #[.slice A0_0 l0_0.length c0_0, .slice A0_1 l0_1.length c0_1, .slice A0_2 l0_2.length c0_2, .slice A0_3 l0_3.length c0_3, .slice A0_4 l0_4.length c0_4, .slice A0_5 l0_5.length c0_5, .int .i64 a0_6] 30 (0, 0))) ∧ (w'.heap[gb115]? = some (.cells #[u116000, .int .i64 t113] 28 (0, 0))) ∧ (w'.heap[s_.2.2.2]? = some (.cells #[.slice none 0 0, .slice none 0 0] 24 (0, 0))) ∧ (w.heap.size ≤ s_.2.2.2) ∧ (w.heap.size ≤ s_.2.2.2) ∧ (gb101 ≠ s_.2.2.2) ∧ (s_.2.2.2 ≠ gb101) ∧ (gb115 ≠ s_.2.2.2) ∧ (s_.2.2.2 ≠ gb115) ∧ (Below w.heap.size w w')) ?_ ?_
    rotate_left
    ·intro hJ0_4_5_11
     refine join_ (σ := Value × Value × Value) 4 #[true, true, true, true, true, true, true, true, true, false, false, false, false] (fun s_ => [(185, s_.1), (189, s_.2.1), (190, s_.2.2)]) (fun s_ w' => (w'.cell? ⟨gb101, 0, none⟩ = some (.slice A0_0 l0_0.length c0_0) ∧ w'.cell? ⟨gb101, 1, none⟩ = some (.slice A0_1 l0_1.length c0_1) ∧ w'.cell? ⟨gb101, 2, none⟩ = some (.slice A0_2 l0_2.length c0_2) ∧ w'.cell? ⟨gb101, 3, none⟩ = some (.slice A0_3 l0_3.length c0_3) ∧ w'.cell? ⟨gb101, 4, none⟩ = some (.slice A0_4 l0_4.length c0_4) ∧ w'.cell? ⟨gb101, 5, none⟩ = some (.slice A0_5 l0_5.length c0_5) ∧ w'.cell? ⟨gb101, 6, none⟩ = some (.int .i64 a0_6)) ∧ (Kd.R (Kd.int .i64) 3 w' w.heap.size (fun k_ => some k_ ≠ (s_.2.2 : Value).ownBlock ∧ some k_ ≠ (u116000 : Value).ownBlock ∧ some k_ ≠ (.slice (some ad134) x179_4.length co87 : Value).ownBlock ∧ some k_ ≠ (.slice Ao30 x7_4.length co30 : Value).ownBlock) s_.2.1 y138) ∧ (Kd.R (Kd.int .i64) 3 w' w.heap.size (fun k_ => some k_ ≠ (s_.2.1 : Value).ownBlock ∧ some k_ ≠ (u116000 : Value).ownBlock ∧ some k_ ≠ (.slice (some ad134) x179_4.length co87 : Value).ownBlock ∧ some k_ ≠ (.slice Ao30 x7_4.length co30 : Value).ownBlock) s_.2.2 y141) ∧ (Kd.R (Kd.int .i64) 3 w' w.heap.size (fun k_ => some k_ ≠ (s_.2.1 : Value).ownBlock ∧ some k_ ≠ (s_.2.2 : Value).ownBlock ∧ some k_ ≠ (.slice (some ad134) x179_4.length co87 : Value).ownBlock ∧ some k_ ≠ (.slice Ao30 x7_4.length co30 : Value).ownBlock) u116000 x116000_4) ∧ (Kd.R (Kd.int .i64) 3 w' w.heap.size (fun k_ => some k_ ≠ (s_.2.1 : Value).ownBlock ∧ some k_ ≠ (s_.2.2 : Value).ownBlock ∧ some k_ ≠ (u116000 : Value).ownBlock ∧ some k_ ≠ (.slice Ao30 x7_4.length co30 : Value).ownBlock) (.slice (some ad134) x179_4.length co87) x179_4) ∧ (Kd.R (Kd.int .i64) 3 w' w.heap.size (fun k_ => some k_ ≠ (s_.2.1 : Value).ownBlock ∧ some k_ ≠ (s_.2.2 : Value).ownBlock ∧ some k_ ≠ (u116000 : Value).ownBlock ∧ some k_ ≠ (.slice (some ad134) x179_4.length co87 : Value).ownBlock) (.slice Ao30 x7_4.length co30) x7_4) ∧ (w'.heap[gb101]? = some (.cells #[.slice A0_0 l0_0.length c0_0, .slice A0_1 l0_1.length c0_1, .slice A0_2 l0_2.length c0_2, .slice A0_3 l0_3.length c0_3, .slice A0_4 l0_4.length c0_4, .slice A0_5 l0_5.length c0_5, .int .i64 a0_6] 30 (0, 0))) ∧ (w'.heap[gb115]? = some (.cells #[u116000, .int .i64 t113] 28 (0, 0))) ∧ (Below w.heap.size w w')) ?_ ?_
     rotate_left
     ·intro hJ0_4_5
      refine join_ (σ := Value × Value × Nat) 4 #[true, true, true, true, true, false, true, true, true, false, false, true, false] (fun s_ => [(185, s_.1), (189, s_.2.1), (19, .pointer (some ⟨s_.2.2, 0, none⟩))]) (fun s_ w' => (w'.cell? ⟨gb101, 0, none⟩ = some (.slice A0_0 l0_0.length c0_0) ∧ w'.cell? ⟨gb101, 1, none⟩ = some (.slice A0_1 l0_1.length c0_1) ∧ w'.cell? ⟨gb101, 2, none⟩ = some (.slice A0_2 l0_2.length c0_2) ∧ w'.cell? ⟨gb101, 3, none⟩ = some (.slice A0_3 l0_3.length c0_3) ∧ w'.cell? ⟨gb101, 4, none⟩ = some (.slice A0_4 l0_4.length c0_4) ∧ w'.cell? ⟨gb101, 5, none⟩ = some (.slice A0_5 l0_5.length c0_5) ∧ w'.cell? ⟨gb101, 6, none⟩ = some (.int .i64 a0_6)) ∧ (Kd.R (Kd.int .i64) 3 w' w.heap.size (fun k_ => some k_ ≠ (u116000 : Value).ownBlock ∧ some k_ ≠ (.slice (some ad134) x179_4.length co87 : Value).ownBlock ∧ some k_ ≠ (.slice Ao30 x7_4.length co30 : Value).ownBlock) s_.2.1 y138) ∧ (Kd.R (Kd.int .i64) 3 w' w.heap.size (fun k_ => some k_ ≠ (s_.2.1 : Value).ownBlock ∧ some k_ ≠ (.slice (some ad134) x179_4.length co87 : Value).ownBlock ∧ some k_ ≠ (.slice Ao30 x7_4.length co30 : Value).ownBlock) u116000 x116000_4) ∧ (Kd.R (Kd.int .i64) 3 w' w.heap.size (fun k_ => some k_ ≠ (s_.2.1 : Value).ownBlock ∧ some k_ ≠ (u116000 : Value).ownBlock ∧ some k_ ≠ (.slice Ao30 x7_4.length co30 : Value).ownBlock) (.slice (some ad134) x179_4.length co87) x179_4) ∧ (Kd.R (Kd.int .i64) 3 w' w.heap.size (fun k_ => some k_ ≠ (s_.2.1 : Value).ownBlock ∧ some k_ ≠ (u116000 : Value).ownBlock ∧ some k_ ≠ (.slice (some ad134) x179_4.length co87 : Value).ownBlock) (.slice Ao30 x7_4.length co30) x7_4) ∧ (w'.heap[gb101]? = some (.cells #[.slice A0_0 l0_0.length c0_0, .slice A0_1 l0_1.length c0_1, .slice A0_2 l0_2.length c0_2, .slice A0_3 l0_3.length c0_3, .slice A0_4 l0_4.length c0_4, .slice A0_5 l0_5.length c0_5, .int .i64 a0_6] 30 (0, 0))) ∧ (w'.heap[gb115]? = some (.cells #[u116000, .int .i64 t113] 28 (0, 0))) ∧ (w'.heap[s_.2.2]? = some (.cells #[.slice none 0 0, .slice none 0 0] 24 (0, 0))) ∧ (w.heap.size ≤ s_.2.2) ∧ (w.heap.size ≤ s_.2.2) ∧ (gb101 ≠ s_.2.2) ∧ (s_.2.2 ≠ gb101) ∧ (gb115 ≠ s_.2.2) ∧ (s_.2.2 ≠ gb115) ∧ (Below w.heap.size w w')) ?_ ?_
      rotate_left
      ·intro hJ0_4_11
       refine join_ (σ := Value × Value × Nat) 4 #[true, true, true, true, false, true, true, true, true, false, false, true, false] (fun s_ => [(185, s_.1), (190, s_.2.1), (19, .pointer (some ⟨s_.2.2, 0, none⟩))]) (fun s_ w' => (w'.cell? ⟨gb101, 0, none⟩ = some (.slice A0_0 l0_0.length c0_0) ∧ w'.cell? ⟨gb101, 1, none⟩ = some (.slice A0_1 l0_1.length c0_1) ∧ w'.cell? ⟨gb101, 2, none⟩ = some (.slice A0_2 l0_2.length c0_2) ∧ w'.cell? ⟨gb101, 3, none⟩ = some (.slice A0_3 l0_3.length c0_3) ∧ w'.cell? ⟨gb101, 4, none⟩ = some (.slice A0_4 l0_4.length c0_4) ∧ w'.cell? ⟨gb101, 5, none⟩ = some (.slice A0_5 l0_5.length c0_5) ∧ w'.cell? ⟨gb101, 6, none⟩ = some (.int .i64 a0_6)) ∧ (Kd.R (Kd.int .i64) 3 w' w.heap.size (fun k_ => some k_ ≠ (s_.2.1 : Value).ownBlock ∧ some k_ ≠ (u116000 : Value).ownBlock ∧ some k_ ≠ (.slice (some ad134) x179_4.length co87 : Value).ownBlock ∧ some k_ ≠ (.slice Ao30 x7_4.length co30 : Value).ownBlock) s_.1 y135) ∧ (Kd.R (Kd.int .i64) 3 w' w.heap.size (fun k_ => some k_ ≠ (s_.1 : Value).ownBlock ∧ some k_ ≠ (u116000 : Value).ownBlock ∧ some k_ ≠ (.slice (some ad134) x179_4.length co87 : Value).ownBlock ∧ some k_ ≠ (.slice Ao30 x7_4.length co30 : Value).ownBlock) s_.2.1 y141) ∧ (Kd.R (Kd.int .i64) 3 w' w.heap.size (fun k_ => some k_ ≠ (s_.1 : Value).ownBlock ∧ some k_ ≠ (s_.2.1 : Value).ownBlock ∧ some k_ ≠ (.slice (some ad134) x179_4.length co87 : Value).ownBlock ∧ some k_ ≠ (.slice Ao30 x7_4.length co30 : Value).ownBlock) u116000 x116000_4) ∧ (Kd.R (Kd.int .i64) 3 w' w.heap.size (fun k_ => some k_ ≠ (s_.1 : Value).ownBlock ∧ some k_ ≠ (s_.2.1 : Value).ownBlock ∧ some k_ ≠ (u116000 : Value).ownBlock ∧ some k_ ≠ (.slice Ao30 x7_4.length co30 : Value).ownBlock) (.slice (some ad134) x179_4.length co87) x179_4) ∧ (Kd.R (Kd.int .i64) 3 w' w.heap.size (fun k_ => some k_ ≠ (s_.1 : Value).ownBlock ∧ some k_ ≠ (s_.2.1 : Value).ownBlock ∧ some k_ ≠ (u116000 : Value).ownBlock ∧ some k_ ≠ (.slice (some ad134) x179_4.length co87 : Value).ownBlock) (.slice Ao30 x7_4.length co30) x7_4) ∧ (w'.heap[gb101]? = some (.cells #[.slice A0_0 l0_0.length c0_0, .slice A0_1 l0_1.length c0_1, .slice A0_2 l0_2.length c0_2, .slice A0_3 l0_3.length c0_3, .slice A0_4 l0_4.length c0_4, .slice A0_5 l0_5.length c0_5, .int .i64 a0_6] 30 (0, 0))) ∧ (w'.heap[gb115]? = some (.cells #[u116000, .int .i64 t113] 28 (0, 0))) ∧ (w'.heap[s_.2.2]? = some (.cells #[.slice none 0 0, .slice none 0 0] 24 (0, 0))) ∧ (w.heap.size ≤ s_.2.2) ∧ (w.heap.size ≤ s_.2.2) ∧ (gb101 ≠ s_.2.2) ∧ (s_.2.2 ≠ gb101) ∧ (gb115 ≠ s_.2.2) ∧ (s_.2.2 ≠ gb115) ∧ (Below w.heap.size w w')) ?_ ?_
       rotate_left
       ·intro hJ0_5_11
        refine join_ (σ := Value × Value) 5 #[true, true, true, true, true, false, true, true, true, false, false, false, false] (fun s_ => [(185, s_.1), (189, s_.2)]) (fun s_ w' => (w'.cell? ⟨gb101, 0, none⟩ = some (.slice A0_0 l0_0.length c0_0) ∧ w'.cell? ⟨gb101, 1, none⟩ = some (.slice A0_1 l0_1.length c0_1) ∧ w'.cell? ⟨gb101, 2, none⟩ = some (.slice A0_2 l0_2.length c0_2) ∧ w'.cell? ⟨gb101, 3, none⟩ = some (.slice A0_3 l0_3.length c0_3) ∧ w'.cell? ⟨gb101, 4, none⟩ = some (.slice A0_4 l0_4.length c0_4) ∧ w'.cell? ⟨gb101, 5, none⟩ = some (.slice A0_5 l0_5.length c0_5) ∧ w'.cell? ⟨gb101, 6, none⟩ = some (.int .i64 a0_6)) ∧ (Kd.R (Kd.int .i64) 3 w' w.heap.size (fun k_ => some k_ ≠ (u116000 : Value).ownBlock ∧ some k_ ≠ (.slice (some ad134) x179_4.length co87 : Value).ownBlock ∧ some k_ ≠ (.slice Ao30 x7_4.length co30 : Value).ownBlock) s_.2 y138) ∧ (Kd.R (Kd.int .i64) 3 w' w.heap.size (fun k_ => some k_ ≠ (s_.2 : Value).ownBlock ∧ some k_ ≠ (.slice (some ad134) x179_4.length co87 : Value).ownBlock ∧ some k_ ≠ (.slice Ao30 x7_4.length co30 : Value).ownBlock) u116000 x116000_4) ∧ (Kd.R (Kd.int .i64) 3 w' w.heap.size (fun k_ => some k_ ≠ (s_.2 : Value).ownBlock ∧ some k_ ≠ (u116000 : Value).ownBlock ∧ some k_ ≠ (.slice Ao30 x7_4.length co30 : Value).ownBlock) (.slice (some ad134) x179_4.length co87) x179_4) ∧ (Kd.R (Kd.int .i64) 3 w' w.heap.size (fun k_ => some k_ ≠ (s_.2 : Value).ownBlock ∧ some k_ ≠ (u116000 : Value).ownBlock ∧ some k_ ≠ (.slice (some ad134) x179_4.length co87 : Value).ownBlock) (.slice Ao30 x7_4.length co30) x7_4) ∧ (w'.heap[gb101]? = some (.cells #[.slice A0_0 l0_0.length c0_0, .slice A0_1 l0_1.length c0_1, .slice A0_2 l0_2.length c0_2, .slice A0_3 l0_3.length c0_3, .slice A0_4 l0_4.length c0_4, .slice A0_5 l0_5.length c0_5, .int .i64 a0_6] 30 (0, 0))) ∧ (w'.heap[gb115]? = some (.cells #[u116000, .int .i64 t113] 28 (0, 0))) ∧ (Below w.heap.size w w')) ?_ ?_
        rotate_left
        ·intro hJ0_4
         refine join_ (σ := Value × Value) 5 #[true, true, true, true, false, true, true, true, true, false, false, false, false] (fun s_ => [(185, s_.1), (190, s_.2)]) (fun s_ w' => (w'.cell? ⟨gb101, 0, none⟩ = some (.slice A0_0 l0_0.length c0_0) ∧ w'.cell? ⟨gb101, 1, none⟩ = some (.slice A0_1 l0_1.length c0_1) ∧ w'.cell? ⟨gb101, 2, none⟩ = some (.slice A0_2 l0_2.length c0_2) ∧ w'.cell? ⟨gb101, 3, none⟩ = some (.slice A0_3 l0_3.length c0_3) ∧ w'.cell? ⟨gb101, 4, none⟩ = some (.slice A0_4 l0_4.length c0_4) ∧ w'.cell? ⟨gb101, 5, none⟩ = some (.slice A0_5 l0_5.length c0_5) ∧ w'.cell? ⟨gb101, 6, none⟩ = some (.int .i64 a0_6)) ∧ (Kd.R (Kd.int .i64) 3 w' w.heap.size (fun k_ => some k_ ≠ (s_.2 : Value).ownBlock ∧ some k_ ≠ (u116000 : Value).ownBlock ∧ some k_ ≠ (.slice (some ad134) x179_4.length co87 : Value).ownBlock ∧ some k_ ≠ (.slice Ao30 x7_4.length co30 : Value).ownBlock) s_.1 y135) ∧ (Kd.R (Kd.int .i64) 3 w' w.heap.size (fun k_ => some k_ ≠ (s_.1 : Value).ownBlock ∧ some k_ ≠ (u116000 : Value).ownBlock ∧ some k_ ≠ (.slice (some ad134) x179_4.length co87 : Value).ownBlock ∧ some k_ ≠ (.slice Ao30 x7_4.length co30 : Value).ownBlock) s_.2 y141) ∧ (Kd.R (Kd.int .i64) 3 w' w.heap.size (fun k_ => some k_ ≠ (s_.1 : Value).ownBlock ∧ some k_ ≠ (s_.2 : Value).ownBlock ∧ some k_ ≠ (.slice (some ad134) x179_4.length co87 : Value).ownBlock ∧ some k_ ≠ (.slice Ao30 x7_4.length co30 : Value).ownBlock) u116000 x116000_4) ∧ (Kd.R (Kd.int .i64) 3 w' w.heap.size (fun k_ => some k_ ≠ (s_.1 : Value).ownBlock ∧ some k_ ≠ (s_.2 : Value).ownBlock ∧ some k_ ≠ (u116000 : Value).ownBlock ∧ some k_ ≠ (.slice Ao30 x7_4.length co30 : Value).ownBlock) (.slice (some ad134) x179_4.length co87) x179_4) ∧ (Kd.R (Kd.int .i64) 3 w' w.heap.size (fun k_ => some k_ ≠ (s_.1 : Value).ownBlock ∧ some k_ ≠ (s_.2 : Value).ownBlock ∧ some k_ ≠ (u116000 : Value).ownBlock ∧ some k_ ≠ (.slice (some ad134) x179_4.length co87 : Value).ownBlock) (.slice Ao30 x7_4.length co30) x7_4) ∧ (w'.heap[gb101]? = some (.cells #[.slice A0_0 l0_0.length c0_0, .slice A0_1 l0_1.length c0_1, .slice A0_2 l0_2.length c0_2, .slice A0_3 l0_3.length c0_3, .slice A0_4 l0_4.length c0_4, .slice A0_5 l0_5.length c0_5, .int .i64 a0_6] 30 (0, 0))) ∧ (w'.heap[gb115]? = some (.cells #[u116000, .int .i64 t113] 28 (0, 0))) ∧ (Below w.heap.size w w')) ?_ ?_
         rotate_left
         ·intro hJ0_5
          refine join_ (σ := Value × Nat) 5 #[true, true, true, true, false, false, true, true, true, false, false, true, false] (fun s_ => [(185, s_.1), (19, .pointer (some ⟨s_.2, 0, none⟩))]) (fun s_ w' => (w'.cell? ⟨gb101, 0, none⟩ = some (.slice A0_0 l0_0.length c0_0) ∧ w'.cell? ⟨gb101, 1, none⟩ = some (.slice A0_1 l0_1.length c0_1) ∧ w'.cell? ⟨gb101, 2, none⟩ = some (.slice A0_2 l0_2.length c0_2) ∧ w'.cell? ⟨gb101, 3, none⟩ = some (.slice A0_3 l0_3.length c0_3) ∧ w'.cell? ⟨gb101, 4, none⟩ = some (.slice A0_4 l0_4.length c0_4) ∧ w'.cell? ⟨gb101, 5, none⟩ = some (.slice A0_5 l0_5.length c0_5) ∧ w'.cell? ⟨gb101, 6, none⟩ = some (.int .i64 a0_6)) ∧ (Kd.R (Kd.int .i64) 3 w' w.heap.size (fun k_ => some k_ ≠ (u116000 : Value).ownBlock ∧ some k_ ≠ (.slice (some ad134) x179_4.length co87 : Value).ownBlock ∧ some k_ ≠ (.slice Ao30 x7_4.length co30 : Value).ownBlock) s_.1 y135) ∧ (Kd.R (Kd.int .i64) 3 w' w.heap.size (fun k_ => some k_ ≠ (s_.1 : Value).ownBlock ∧ some k_ ≠ (.slice (some ad134) x179_4.length co87 : Value).ownBlock ∧ some k_ ≠ (.slice Ao30 x7_4.length co30 : Value).ownBlock) u116000 x116000_4) ∧ (Kd.R (Kd.int .i64) 3 w' w.heap.size (fun k_ => some k_ ≠ (s_.1 : Value).ownBlock ∧ some k_ ≠ (u116000 : Value).ownBlock ∧ some k_ ≠ (.slice Ao30 x7_4.length co30 : Value).ownBlock) (.slice (some ad134) x179_4.length co87) x179_4) ∧ (Kd.R (Kd.int .i64) 3 w' w.heap.size (fun k_ => some k_ ≠ (s_.1 : Value).ownBlock ∧ some k_ ≠ (u116000 : Value).ownBlock ∧ some k_ ≠ (.slice (some ad134) x179_4.length co87 : Value).ownBlock) (.slice Ao30 x7_4.length co30) x7_4) ∧ (w'.heap[gb101]? = some (.cells #[.slice A0_0 l0_0.length c0_0, .slice A0_1 l0_1.length c0_1, .slice A0_2 l0_2.length c0_2, .slice A0_3 l0_3.length c0_3, .slice A0_4 l0_4.length c0_4, .slice A0_5 l0_5.length c0_5, .int .i64 a0_6] 30 (0, 0))) ∧ (w'.heap[gb115]? = some (.cells #[u116000, .int .i64 t113] 28 (0, 0))) ∧ (w'.heap[s_.2]? = some (.cells #[.slice none 0 0, .slice none 0 0] 24 (0, 0))) ∧ (w.heap.size ≤ s_.2) ∧ (w.heap.size ≤ s_.2) ∧ (gb101 ≠ s_.2) ∧ (s_.2 ≠ gb101) ∧ (gb115 ≠ s_.2) ∧ (s_.2 ≠ gb115) ∧ (Below w.heap.size w w')) ?_ ?_
          rotate_left
          ·intro hJ0_11
           refine join_ (σ := Value × Nat) 5 #[false, true, true, true, false, true, true, true, true, false, false, true, false] (fun s_ => [(190, s_.1), (19, .pointer (some ⟨s_.2, 0, none⟩))]) (fun s_ w' => (w'.cell? ⟨gb101, 0, none⟩ = some (.slice A0_0 l0_0.length c0_0) ∧ w'.cell? ⟨gb101, 1, none⟩ = some (.slice A0_1 l0_1.length c0_1) ∧ w'.cell? ⟨gb101, 2, none⟩ = some (.slice A0_2 l0_2.length c0_2) ∧ w'.cell? ⟨gb101, 3, none⟩ = some (.slice A0_3 l0_3.length c0_3) ∧ w'.cell? ⟨gb101, 4, none⟩ = some (.slice A0_4 l0_4.length c0_4) ∧ w'.cell? ⟨gb101, 5, none⟩ = some (.slice A0_5 l0_5.length c0_5) ∧ w'.cell? ⟨gb101, 6, none⟩ = some (.int .i64 a0_6)) ∧ (Kd.R (Kd.int .i64) 3 w' w.heap.size (fun k_ => some k_ ≠ (u116000 : Value).ownBlock ∧ some k_ ≠ (.slice (some ad134) x179_4.length co87 : Value).ownBlock ∧ some k_ ≠ (.slice Ao30 x7_4.length co30 : Value).ownBlock) s_.1 y141) ∧ (Kd.R (Kd.int .i64) 3 w' w.heap.size (fun k_ => some k_ ≠ (s_.1 : Value).ownBlock ∧ some k_ ≠ (.slice (some ad134) x179_4.length co87 : Value).ownBlock ∧ some k_ ≠ (.slice Ao30 x7_4.length co30 : Value).ownBlock) u116000 x116000_4) ∧ (Kd.R (Kd.int .i64) 3 w' w.heap.size (fun k_ => some k_ ≠ (s_.1 : Value).ownBlock ∧ some k_ ≠ (u116000 : Value).ownBlock ∧ some k_ ≠ (.slice Ao30 x7_4.length co30 : Value).ownBlock) (.slice (some ad134) x179_4.length co87) x179_4) ∧ (Kd.R (Kd.int .i64) 3 w' w.heap.size (fun k_ => some k_ ≠ (s_.1 : Value).ownBlock ∧ some k_ ≠ (u116000 : Value).ownBlock ∧ some k_ ≠ (.slice (some ad134) x179_4.length co87 : Value).ownBlock) (.slice Ao30 x7_4.length co30) x7_4) ∧ (w'.heap[gb101]? = some (.cells #[.slice A0_0 l0_0.length c0_0, .slice A0_1 l0_1.length c0_1, .slice A0_2 l0_2.length c0_2, .slice A0_3 l0_3.length c0_3, .slice A0_4 l0_4.length c0_4, .slice A0_5 l0_5.length c0_5, .int .i64 a0_6] 30 (0, 0))) ∧ (w'.heap[gb115]? = some (.cells #[u116000, .int .i64 t113] 28 (0, 0))) ∧ (w'.heap[s_.2]? = some (.cells #[.slice none 0 0, .slice none 0 0] 24 (0, 0))) ∧ (w.heap.size ≤ s_.2) ∧ (w.heap.size ≤ s_.2) ∧ (gb101 ≠ s_.2) ∧ (s_.2 ≠ gb101) ∧ (gb115 ≠ s_.2) ∧ (s_.2 ≠ gb115) ∧ (Below w.heap.size w w')) ?_ ?_
           rotate_left
           ·intro hJ5_11
            refine join_ (σ := Value) 6 #[true, true, true, true, false, false, true, true, true, false, false, false, false] (fun s_ => [(185, s_)]) (fun s_ w' => (w'.cell? ⟨gb101, 0, none⟩ = some (.slice A0_0 l0_0.length c0_0) ∧ w'.cell? ⟨gb101, 1, none⟩ = some (.slice A0_1 l0_1.length c0_1) ∧ w'.cell? ⟨gb101, 2, none⟩ = some (.slice A0_2 l0_2.length c0_2) ∧ w'.cell? ⟨gb101, 3, none⟩ = some (.slice A0_3 l0_3.length c0_3) ∧ w'.cell? ⟨gb101, 4, none⟩ = some (.slice A0_4 l0_4.length c0_4) ∧ w'.cell? ⟨gb101, 5, none⟩ = some (.slice A0_5 l0_5.length c0_5) ∧ w'.cell? ⟨gb101, 6, none⟩ = some (.int .i64 a0_6)) ∧ (Kd.R (Kd.int .i64) 3 w' w.heap.size (fun k_ => some k_ ≠ (u116000 : Value).ownBlock ∧ some k_ ≠ (.slice (some ad134) x179_4.length co87 : Value).ownBlock ∧ some k_ ≠ (.slice Ao30 x7_4.length co30 : Value).ownBlock) s_ y135) ∧ (Kd.R (Kd.int .i64) 3 w' w.heap.size (fun k_ => some k_ ≠ (s_ : Value).ownBlock ∧ some k_ ≠ (.slice (some ad134) x179_4.length co87 : Value).ownBlock ∧ some k_ ≠ (.slice Ao30 x7_4.length co30 : Value).ownBlock) u116000 x116000_4) ∧ (Kd.R (Kd.int .i64) 3 w' w.heap.size (fun k_ => some k_ ≠ (s_ : Value).ownBlock ∧ some k_ ≠ (u116000 : Value).ownBlock ∧ some k_ ≠ (.slice Ao30 x7_4.length co30 : Value).ownBlock) (.slice (some ad134) x179_4.length co87) x179_4) ∧ (Kd.R (Kd.int .i64) 3 w' w.heap.size (fun k_ => some k_ ≠ (s_ : Value).ownBlock ∧ some k_ ≠ (u116000 : Value).ownBlock ∧ some k_ ≠ (.slice (some ad134) x179_4.length co87 : Value).ownBlock) (.slice Ao30 x7_4.length co30) x7_4) ∧ (w'.heap[gb101]? = some (.cells #[.slice A0_0 l0_0.length c0_0, .slice A0_1 l0_1.length c0_1, .slice A0_2 l0_2.length c0_2, .slice A0_3 l0_3.length c0_3, .slice A0_4 l0_4.length c0_4, .slice A0_5 l0_5.length c0_5, .int .i64 a0_6] 30 (0, 0))) ∧ (w'.heap[gb115]? = some (.cells #[u116000, .int .i64 t113] 28 (0, 0))) ∧ (Below w.heap.size w w')) ?_ ?_
            rotate_left
            ·intro hJ0
             refine join_ (σ := Value) 6 #[false, true, true, true, false, true, true, true, true, false, false, false, false] (fun s_ => [(190, s_)]) (fun s_ w' => (w'.cell? ⟨gb101, 0, none⟩ = some (.slice A0_0 l0_0.length c0_0) ∧ w'.cell? ⟨gb101, 1, none⟩ = some (.slice A0_1 l0_1.length c0_1) ∧ w'.cell? ⟨gb101, 2, none⟩ = some (.slice A0_2 l0_2.length c0_2) ∧ w'.cell? ⟨gb101, 3, none⟩ = some (.slice A0_3 l0_3.length c0_3) ∧ w'.cell? ⟨gb101, 4, none⟩ = some (.slice A0_4 l0_4.length c0_4) ∧ w'.cell? ⟨gb101, 5, none⟩ = some (.slice A0_5 l0_5.length c0_5) ∧ w'.cell? ⟨gb101, 6, none⟩ = some (.int .i64 a0_6)) ∧ (Kd.R (Kd.int .i64) 3 w' w.heap.size (fun k_ => some k_ ≠ (u116000 : Value).ownBlock ∧ some k_ ≠ (.slice (some ad134) x179_4.length co87 : Value).ownBlock ∧ some k_ ≠ (.slice Ao30 x7_4.length co30 : Value).ownBlock) s_ y141) ∧ (Kd.R (Kd.int .i64) 3 w' w.heap.size (fun k_ => some k_ ≠ (s_ : Value).ownBlock ∧ some k_ ≠ (.slice (some ad134) x179_4.length co87 : Value).ownBlock ∧ some k_ ≠ (.slice Ao30 x7_4.length co30 : Value).ownBlock) u116000 x116000_4) ∧ (Kd.R (Kd.int .i64) 3 w' w.heap.size (fun k_ => some k_ ≠ (s_ : Value).ownBlock ∧ some k_ ≠ (u116000 : Value).ownBlock ∧ some k_ ≠ (.slice Ao30 x7_4.length co30 : Value).ownBlock) (.slice (some ad134) x179_4.length co87) x179_4) ∧ (Kd.R (Kd.int .i64) 3 w' w.heap.size (fun k_ => some k_ ≠ (s_ : Value).ownBlock ∧ some k_ ≠ (u116000 : Value).ownBlock ∧ some k_ ≠ (.slice (some ad134) x179_4.length co87 : Value).ownBlock) (.slice Ao30 x7_4.length co30) x7_4) ∧ (w'.heap[gb101]? = some (.cells #[.slice A0_0 l0_0.length c0_0, .slice A0_1 l0_1.length c0_1, .slice A0_2 l0_2.length c0_2, .slice A0_3 l0_3.length c0_3, .slice A0_4 l0_4.length c0_4, .slice A0_5 l0_5.length c0_5, .int .i64 a0_6] 30 (0, 0))) ∧ (w'.heap[gb115]? = some (.cells #[u116000, .int .i64 t113] 28 (0, 0))) ∧ (Below w.heap.size w w')) ?_ ?_
             rotate_left
             ·intro hJ5
              refine join_ (σ := Nat) 6 #[false, true, true, true, false, false, true, true, true, false, false, true, false] (fun s_ => [(19, .pointer (some ⟨s_, 0, none⟩))]) (fun s_ w' => (w'.cell? ⟨gb101, 0, none⟩ = some (.slice A0_0 l0_0.length c0_0) ∧ w'.cell? ⟨gb101, 1, none⟩ = some (.slice A0_1 l0_1.length c0_1) ∧ w'.cell? ⟨gb101, 2, none⟩ = some (.slice A0_2 l0_2.length c0_2) ∧ w'.cell? ⟨gb101, 3, none⟩ = some (.slice A0_3 l0_3.length c0_3) ∧ w'.cell? ⟨gb101, 4, none⟩ = some (.slice A0_4 l0_4.length c0_4) ∧ w'.cell? ⟨gb101, 5, none⟩ = some (.slice A0_5 l0_5.length c0_5) ∧ w'.cell? ⟨gb101, 6, none⟩ = some (.int .i64 a0_6)) ∧ (Kd.R (Kd.int .i64) 3 w' w.heap.size (fun k_ => some k_ ≠ (.slice (some ad134) x179_4.length co87 : Value).ownBlock ∧ some k_ ≠ (.slice Ao30 x7_4.length co30 : Value).ownBlock) u116000 x116000_4) ∧ (Kd.R (Kd.int .i64) 3 w' w.heap.size (fun k_ => some k_ ≠ (u116000 : Value).ownBlock ∧ some k_ ≠ (.slice Ao30 x7_4.length co30 : Value).ownBlock) (.slice (some ad134) x179_4.length co87) x179_4) ∧ (Kd.R (Kd.int .i64) 3 w' w.heap.size (fun k_ => some k_ ≠ (u116000 : Value).ownBlock ∧ some k_ ≠ (.slice (some ad134) x179_4.length co87 : Value).ownBlock) (.slice Ao30 x7_4.length co30) x7_4) ∧ (w'.heap[gb101]? = some (.cells #[.slice A0_0 l0_0.length c0_0, .slice A0_1 l0_1.length c0_1, .slice A0_2 l0_2.length c0_2, .slice A0_3 l0_3.length c0_3, .slice A0_4 l0_4.length c0_4, .slice A0_5 l0_5.length c0_5, .int .i64 a0_6] 30 (0, 0))) ∧ (w'.heap[gb115]? = some (.cells #[u116000, .int .i64 t113] 28 (0, 0))) ∧ (w'.heap[s_]? = some (.cells #[.slice none 0 0, .slice none 0 0] 24 (0, 0))) ∧ (w.heap.size ≤ s_) ∧ (w.heap.size ≤ s_) ∧ (gb101 ≠ s_) ∧ (s_ ≠ gb101) ∧ (gb115 ≠ s_) ∧ (s_ ≠ gb115) ∧ (Below w.heap.size w w')) ?_ ?_
              rotate_left
              ·intro hJ11
               refine three_ (i := 0) (j := 5) (k := 11) (Ni := some 185) (Nj := some 190) (Nk := some 19) #[true, true, true, true, false, false, true, true, true, false, false, false, false] #[false, true, true, true, false, true, true, true, true, false, false, false, false] #[false, true, true, true, false, false, true, true, true, false, false, true, false] rfl rfl rfl rfl rfl rfl (three_of HT_.out lc_12_) lc_33_ lc_33_ lc_33_ (fun K hK => ?_) (fun K hK => ?_) (fun K hK => ?_)
               ·skip
                refine Kd.R_lit_step (Kd.int .i64) _ 3 ?hg (N := 185) ?hd (xs := ([] : List Int)) (inner := []) (ok := fun _ => True) (okp := fun _ => True) ?hr ?hp (fun _ hk => hk) trivial (Below.refl _ _) (Nat.le_refl _) (by simp) ?_; (case hd => exact lc_34_); (case hg => exact lc_34_); (case hr => exact lc_18_); (case hp => exact (Reps.none _ _))
                intro v136 w97 ho98 hb hg_ hnew_
                clear hg_ hnew_
                (first | rw [← Ny135.out] at ho98 | (simp only [Int.reduceToNat] at ho98; rw [← Ny135.out] at ho98))
                have n0_ := Aside0.mk (Kd.R_elder' (pR HO_7.out) (Kd.R_base ho98) hb)
                have n1_ := Aside0.mk (Kd.R_elder' (pR HO_179.out) (Kd.R_base ho98) hb)
                have n2_ := Aside0.mk (Kd.R_elder' (pR HO_116000.out) (Kd.R_base ho98) hb)
                have n3_ := Aside0.mk (Kd.R_lower (Kd.R_new' (Kd.R_new' (Kd.R_new' ho98 (Kd.R_lt (pR HO_7.out))) (Kd.R_lt (pR HO_179.out))) (Kd.R_lt (pR HO_116000.out))) (below_size lc_1_))
                have n4_ := Aside0.mk (bb BK101.out hb)
                have n5_ := Aside0.mk (bb BK115.out hb)
                have n6_ := Aside0.mk (below_step lc_1_ hb)
                clear HO_7
                clear HO_179
                clear HO_116000
                clear BK101
                clear BK115
                clear HB
                have HO_7 := n0_
                have HO_179 := n1_
                have HO_116000 := n2_
                have HO137 := n3_
                have BK101 := n4_
                have BK115 := n5_
                have HB := n6_
                clear n0_ n1_ n2_ n3_ n4_ n5_ n6_
                clear hb ho98
                refine hK.out _ _ (cz7 BK101.out) (fun hHeld => ?_)
                clear hK K
                refine norm_ (a' := ?_) ?_ ?_
                rotate_left
                ·show Act.put _ (some 185) _ = _
                 simp only [Act.put, setIfInBounds_toArray, set_cons_zero, set_cons_succ, i64_w, i32_w]
                 rfl
                exact norm_ lc_3_ (hJ0 (v136) _ ⟨hHeld, (rm HO137.out (fun _ hk => ⟨hk.2, ⟨hk.1.2, hk.1.1.2⟩⟩)), (rm HO_116000.out (fun _ hk => ⟨hk.2, ⟨hk.1.2, hk.1.1⟩⟩)), (rm HO_179.out (fun _ hk => ⟨hk.2, ⟨hk.1.2, hk.1.1⟩⟩)), (rm HO_7.out (fun _ hk => ⟨hk.2, ⟨hk.1.2, hk.1.1⟩⟩)), (pB BK101.out), (pB BK115.out), lc_1_⟩)
               ·skip
                refine Kd.R_lit_step (Kd.int .i64) _ 3 ?hg (N := 190) ?hd (xs := ([] : List Int)) (inner := []) (ok := fun _ => True) (okp := fun _ => True) ?hr ?hp (fun _ hk => hk) trivial (Below.refl _ _) (Nat.le_refl _) (by simp) ?_; (case hd => exact lc_34_); (case hg => exact lc_34_); (case hr => exact lc_18_); (case hp => exact (Reps.none _ _))
                intro v142 w97 ho98 hb hg_ hnew_
                clear hg_ hnew_
                (first | rw [← Ny141.out] at ho98 | (simp only [Int.reduceToNat] at ho98; rw [← Ny141.out] at ho98))
                have n0_ := Aside0.mk (Kd.R_elder' (pR HO_7.out) (Kd.R_base ho98) hb)
                have n1_ := Aside0.mk (Kd.R_elder' (pR HO_179.out) (Kd.R_base ho98) hb)
                have n2_ := Aside0.mk (Kd.R_elder' (pR HO_116000.out) (Kd.R_base ho98) hb)
                have n3_ := Aside0.mk (Kd.R_lower (Kd.R_new' (Kd.R_new' (Kd.R_new' ho98 (Kd.R_lt (pR HO_7.out))) (Kd.R_lt (pR HO_179.out))) (Kd.R_lt (pR HO_116000.out))) (below_size lc_1_))
                have n4_ := Aside0.mk (bb BK101.out hb)
                have n5_ := Aside0.mk (bb BK115.out hb)
                have n6_ := Aside0.mk (below_step lc_1_ hb)
                clear HO_7
                clear HO_179
                clear HO_116000
                clear BK101
                clear BK115
                clear HB
                have HO_7 := n0_
                have HO_179 := n1_
                have HO_116000 := n2_
                have HO143 := n3_
                have BK101 := n4_
                have BK115 := n5_
                have HB := n6_
                clear n0_ n1_ n2_ n3_ n4_ n5_ n6_
                clear hb ho98
                refine hK.out _ _ (cz7 BK101.out) (fun hHeld => ?_)
                clear hK K
                refine norm_ (a' := ?_) ?_ ?_
                rotate_left
                ·show Act.put _ (some 190) _ = _
                 simp only [Act.put, setIfInBounds_toArray, set_cons_zero, set_cons_succ, i64_w, i32_w]
                 rfl
                exact norm_ lc_3_ (hJ5 (v142) _ ⟨hHeld, (rm HO143.out (fun _ hk => ⟨hk.2, ⟨hk.1.2, hk.1.1.2⟩⟩)), (rm HO_116000.out (fun _ hk => ⟨hk.2, ⟨hk.1.2, hk.1.1⟩⟩)), (rm HO_179.out (fun _ hk => ⟨hk.2, ⟨hk.1.2, hk.1.1⟩⟩)), (rm HO_7.out (fun _ hk => ⟨hk.2, ⟨hk.1.2, hk.1.1⟩⟩)), (pB BK101.out), (pB BK115.out), lc_1_⟩)
               skip
               refine box_step ?hg (N := 19) ?hd (cs := #[.slice none 0 0, .slice none 0 0]) (t := 24) ?hr ?_; (case hd => exact lc_34_); (case hg => exact lc_34_); (case hr => exact lc_18_)
               intro gb147 hg w97 hbox hb
               have n0_ := Aside0.mk (rb HO_7.out hb)
               have n1_ := Aside0.mk (rb HO_179.out hb)
               have n2_ := Aside0.mk (rb HO_116000.out hb)
               have n3_ := Aside0.mk (bb BK101.out hb)
               have n4_ := Aside0.mk (bb BK115.out hb)
               have n5_ := Aside0.mk (below_step lc_1_ hb)
               have n6_ := Aside0.mk (hbox)
               have n7_ := Aside0.mk ((lc_32_ : w.heap.size ≤ gb147))
               have n8_ := Aside0.mk ((lc_32_ : w.heap.size ≤ gb147))
               have n9_ := Aside0.mk ((lc_6_ : gb101 ≠ gb147))
               have n10_ := Aside0.mk ((lc_7_ : gb147 ≠ gb101))
               have n11_ := Aside0.mk ((lc_22_ : gb115 ≠ gb147))
               have n12_ := Aside0.mk ((lc_23_ : gb147 ≠ gb115))
               clear HO_7
               clear HO_179
               clear HO_116000
               clear BK101
               clear BK115
               clear HB
               have HO_7 := n0_
               have HO_179 := n1_
               have HO_116000 := n2_
               have BK101 := n3_
               have BK115 := n4_
               have HB := n5_
               have BK147 := n6_
               have GW147 := n7_
               have GE147 := n8_
               have NB101_147 := n9_
               have NB147_101 := n10_
               have NB115_147 := n11_
               have NB147_115 := n12_
               clear n0_ n1_ n2_ n3_ n4_ n5_ n6_ n7_ n8_ n9_ n10_ n11_ n12_
               clear hb hbox hg
               refine hK.out _ _ (cz7 BK101.out) (fun hHeld => ?_)
               clear hK K
               refine norm_ (a' := ?_) ?_ ?_
               rotate_left
               ·show Act.put _ (some 19) _ = _
                simp only [Act.put, setIfInBounds_toArray, set_cons_zero, set_cons_succ, i64_w, i32_w]
                rfl
               exact norm_ lc_3_ (hJ11 (gb147) _ ⟨hHeld, (rm HO_116000.out (fun _ hk => ⟨hk.2, hk.1⟩)), (rm HO_179.out (fun _ hk => ⟨hk.2, hk.1⟩)), (rm HO_7.out (fun _ hk => ⟨hk.2, hk.1⟩)), (pB BK101.out), (pB BK115.out), (pB BK147.out), GW147.out, GE147.out, NB101_147.out, NB147_101.out, NB115_147.out, NB147_115.out, lc_2_⟩)
              skip
              rintro gb147 w98 ⟨hS_, h0_, h1_, h2_, h3_, h4_, h5_, h6_, h7_, h8_, h9_, h10_, h11_, h12_⟩
              have n0_ : Aside0 (Kd.R (Kd.int .i64) 3 w98 w.heap.size (fun k_ => some k_ ≠ (.slice (some ad134) x179_4.length co87 : Value).ownBlock ∧ some k_ ≠ (.slice Ao30 x7_4.length co30 : Value).ownBlock) u116000 x116000_4) := ⟨h0_⟩
              have n1_ : Aside0 (Kd.R (Kd.int .i64) 3 w98 w.heap.size (fun k_ => some k_ ≠ (u116000 : Value).ownBlock ∧ some k_ ≠ (.slice Ao30 x7_4.length co30 : Value).ownBlock) (.slice (some ad134) x179_4.length co87) x179_4) := ⟨h1_⟩
              have n2_ : Aside0 (Kd.R (Kd.int .i64) 3 w98 w.heap.size (fun k_ => some k_ ≠ (u116000 : Value).ownBlock ∧ some k_ ≠ (.slice (some ad134) x179_4.length co87 : Value).ownBlock) (.slice Ao30 x7_4.length co30) x7_4) := ⟨h2_⟩
              have n3_ : Aside0 (w98.heap[gb101]? = some (.cells #[.slice A0_0 l0_0.length c0_0, .slice A0_1 l0_1.length c0_1, .slice A0_2 l0_2.length c0_2, .slice A0_3 l0_3.length c0_3, .slice A0_4 l0_4.length c0_4, .slice A0_5 l0_5.length c0_5, .int .i64 a0_6] 30 (0, 0))) := ⟨h3_⟩
              have n4_ : Aside0 (w98.heap[gb115]? = some (.cells #[u116000, .int .i64 t113] 28 (0, 0))) := ⟨h4_⟩
              have n5_ : Aside0 (w98.heap[gb147]? = some (.cells #[.slice none 0 0, .slice none 0 0] 24 (0, 0))) := ⟨h5_⟩
              have n6_ : Aside0 (w.heap.size ≤ gb147) := ⟨h6_⟩
              have n7_ : Aside0 (w.heap.size ≤ gb147) := ⟨h7_⟩
              have n8_ : Aside0 (gb101 ≠ gb147) := ⟨h8_⟩
              have n9_ : Aside0 (gb147 ≠ gb101) := ⟨h9_⟩
              have n10_ : Aside0 (gb115 ≠ gb147) := ⟨h10_⟩
              have n11_ : Aside0 (gb147 ≠ gb115) := ⟨h11_⟩
              have n12_ : Aside0 (Below w.heap.size w w98) := ⟨h12_⟩
              clear HO_7
              clear HO_179
              clear HO_116000
              clear BK101
              clear BK115
              clear HB
              clear h0_ h1_ h2_ h3_ h4_ h5_ h6_ h7_ h8_ h9_ h10_ h11_ h12_
              have HO_116000 := n0_
              have HO_179 := n1_
              have HO_7 := n2_
              have BK101 := n3_
              have BK115 := n4_
              have BK147 := n5_
              have GW147 := n6_
              have GE147 := n7_
              have NB101_147 := n8_
              have NB147_101 := n9_
              have NB115_147 := n10_
              have NB147_115 := n11_
              have HB := n12_
              clear n0_ n1_ n2_ n3_ n4_ n5_ n6_ n7_ n8_ n9_ n10_ n11_ n12_
              have hHeld : w98.cell? ⟨gb101, 0, none⟩ = some (.slice A0_0 l0_0.length c0_0) ∧ w98.cell? ⟨gb101, 1, none⟩ = some (.slice A0_1 l0_1.length c0_1) ∧ w98.cell? ⟨gb101, 2, none⟩ = some (.slice A0_2 l0_2.length c0_2) ∧ w98.cell? ⟨gb101, 3, none⟩ = some (.slice A0_3 l0_3.length c0_3) ∧ w98.cell? ⟨gb101, 4, none⟩ = some (.slice A0_4 l0_4.length c0_4) ∧ w98.cell? ⟨gb101, 5, none⟩ = some (.slice A0_5 l0_5.length c0_5) ∧ w98.cell? ⟨gb101, 6, none⟩ = some (.int .i64 a0_6) := hS_
              refine norm_ (a' := ?_) ?_ ?_
              rotate_left
              ·simp only [putAll, Act.put, setIfInBounds_toArray, set_cons_zero, set_cons_succ]
               rfl
              refine two_ (i := 0) (j := 5) (Ni := some 185) (Nj := some 190) #[true, true, true, true, false, false, true, true, true, false, false, true, false] #[false, true, true, true, false, true, true, true, true, false, false, true, false] rfl rfl rfl rfl (two_of HT_.out lc_12_) lc_33_ lc_33_ (fun K hK => ?_) (fun K hK => ?_)
              ·skip
               refine Kd.R_lit_step (Kd.int .i64) _ 3 ?hg (N := 185) ?hd (xs := ([] : List Int)) (inner := []) (ok := fun _ => True) (okp := fun _ => True) ?hr ?hp (fun _ hk => hk) trivial (Below.refl _ _) (Nat.le_refl _) (by simp) ?_; (case hd => exact lc_34_); (case hg => exact lc_34_); (case hr => exact lc_18_); (case hp => exact (Reps.none _ _))
               intro v136 w99 ho100 hb hg_ hnew_
               clear hg_ hnew_
               (first | rw [← Ny135.out] at ho100 | (simp only [Int.reduceToNat] at ho100; rw [← Ny135.out] at ho100))
               have n0_ := Aside0.mk (Kd.R_elder' (pR HO_7.out) (Kd.R_base ho100) hb)
               have n1_ := Aside0.mk (Kd.R_elder' (pR HO_179.out) (Kd.R_base ho100) hb)
               have n2_ := Aside0.mk (Kd.R_elder' (pR HO_116000.out) (Kd.R_base ho100) hb)
               have n3_ := Aside0.mk (Kd.R_lower (Kd.R_new' (Kd.R_new' (Kd.R_new' ho100 (Kd.R_lt (pR HO_7.out))) (Kd.R_lt (pR HO_179.out))) (Kd.R_lt (pR HO_116000.out))) (below_size lc_2_))
               have n4_ := Aside0.mk (bb BK101.out hb)
               have n5_ := Aside0.mk (bb BK115.out hb)
               have n6_ := Aside0.mk (bb BK147.out hb)
               have n7_ := Aside0.mk (below_step lc_2_ hb)
               clear HO_7
               clear HO_179
               clear HO_116000
               clear BK101
               clear BK115
               clear BK147
               clear HB
               have HO_7 := n0_
               have HO_179 := n1_
               have HO_116000 := n2_
               have HO137 := n3_
               have BK101 := n4_
               have BK115 := n5_
               have BK147 := n6_
               have HB := n7_
               clear n0_ n1_ n2_ n3_ n4_ n5_ n6_ n7_
               clear hb ho100
               refine hK.out _ _ (cz7 BK101.out) (fun hHeld => ?_)
               clear hK K
               refine norm_ (a' := ?_) ?_ ?_
               rotate_left
               ·show Act.put _ (some 185) _ = _
                simp only [Act.put, setIfInBounds_toArray, set_cons_zero, set_cons_succ, i64_w, i32_w]
                rfl
               exact norm_ lc_3_ (hJ0_11 (v136, gb147) _ ⟨hHeld, (rm HO137.out (fun _ hk => ⟨hk.2, ⟨hk.1.2, hk.1.1.2⟩⟩)), (rm HO_116000.out (fun _ hk => ⟨hk.2, ⟨hk.1.1, hk.1.2⟩⟩)), (rm HO_179.out (fun _ hk => ⟨hk.2, ⟨hk.1.1, hk.1.2⟩⟩)), (rm HO_7.out (fun _ hk => ⟨hk.2, ⟨hk.1.1, hk.1.2⟩⟩)), (pB BK101.out), (pB BK115.out), (pB BK147.out), GW147.out, GE147.out, NB101_147.out, NB147_101.out, NB115_147.out, NB147_115.out, lc_2_⟩)
              skip
              refine Kd.R_lit_step (Kd.int .i64) _ 3 ?hg (N := 190) ?hd (xs := ([] : List Int)) (inner := []) (ok := fun _ => True) (okp := fun _ => True) ?hr ?hp (fun _ hk => hk) trivial (Below.refl _ _) (Nat.le_refl _) (by simp) ?_; (case hd => exact lc_34_); (case hg => exact lc_34_); (case hr => exact lc_18_); (case hp => exact (Reps.none _ _))
              intro v142 w99 ho100 hb hg_ hnew_
              clear hg_ hnew_
              (first | rw [← Ny141.out] at ho100 | (simp only [Int.reduceToNat] at ho100; rw [← Ny141.out] at ho100))
              have n0_ := Aside0.mk (Kd.R_elder' (pR HO_7.out) (Kd.R_base ho100) hb)
              have n1_ := Aside0.mk (Kd.R_elder' (pR HO_179.out) (Kd.R_base ho100) hb)
              have n2_ := Aside0.mk (Kd.R_elder' (pR HO_116000.out) (Kd.R_base ho100) hb)
              have n3_ := Aside0.mk (Kd.R_lower (Kd.R_new' (Kd.R_new' (Kd.R_new' ho100 (Kd.R_lt (pR HO_7.out))) (Kd.R_lt (pR HO_179.out))) (Kd.R_lt (pR HO_116000.out))) (below_size lc_2_))
              have n4_ := Aside0.mk (bb BK101.out hb)
              have n5_ := Aside0.mk (bb BK115.out hb)
              have n6_ := Aside0.mk (bb BK147.out hb)
              have n7_ := Aside0.mk (below_step lc_2_ hb)
              clear HO_7
              clear HO_179
              clear HO_116000
              clear BK101
              clear BK115
              clear BK147
              clear HB
              have HO_7 := n0_
              have HO_179 := n1_
              have HO_116000 := n2_
              have HO143 := n3_
              have BK101 := n4_
              have BK115 := n5_
              have BK147 := n6_
              have HB := n7_
              clear n0_ n1_ n2_ n3_ n4_ n5_ n6_ n7_
              clear hb ho100
              refine hK.out _ _ (cz7 BK101.out) (fun hHeld => ?_)
              clear hK K
              refine norm_ (a' := ?_) ?_ ?_
              rotate_left
              ·show Act.put _ (some 190) _ = _
               simp only [Act.put, setIfInBounds_toArray, set_cons_zero, set_cons_succ, i64_w, i32_w]
               rfl
              exact norm_ lc_3_ (hJ5_11 (v142, gb147) _ ⟨hHeld, (rm HO143.out (fun _ hk => ⟨hk.2, ⟨hk.1.2, hk.1.1.2⟩⟩)), (rm HO_116000.out (fun _ hk => ⟨hk.2, ⟨hk.1.1, hk.1.2⟩⟩)), (rm HO_179.out (fun _ hk => ⟨hk.2, ⟨hk.1.1, hk.1.2⟩⟩)), (rm HO_7.out (fun _ hk => ⟨hk.2, ⟨hk.1.1, hk.1.2⟩⟩)), (pB BK101.out), (pB BK115.out), (pB BK147.out), GW147.out, GE147.out, NB101_147.out, NB147_101.out, NB115_147.out, NB147_115.out, lc_2_⟩)
             skip
             rintro v142 w99 ⟨hS_, h0_, h1_, h2_, h3_, h4_, h5_, h6_⟩
             have n0_ : Aside0 (Kd.R (Kd.int .i64) 3 w99 w.heap.size (fun k_ => some k_ ≠ (u116000 : Value).ownBlock ∧ some k_ ≠ (.slice (some ad134) x179_4.length co87 : Value).ownBlock ∧ some k_ ≠ (.slice Ao30 x7_4.length co30 : Value).ownBlock) v142 y141) := ⟨h0_⟩
             have n1_ : Aside0 (Kd.R (Kd.int .i64) 3 w99 w.heap.size (fun k_ => some k_ ≠ (v142 : Value).ownBlock ∧ some k_ ≠ (.slice (some ad134) x179_4.length co87 : Value).ownBlock ∧ some k_ ≠ (.slice Ao30 x7_4.length co30 : Value).ownBlock) u116000 x116000_4) := ⟨h1_⟩
             have n2_ : Aside0 (Kd.R (Kd.int .i64) 3 w99 w.heap.size (fun k_ => some k_ ≠ (v142 : Value).ownBlock ∧ some k_ ≠ (u116000 : Value).ownBlock ∧ some k_ ≠ (.slice Ao30 x7_4.length co30 : Value).ownBlock) (.slice (some ad134) x179_4.length co87) x179_4) := ⟨h2_⟩
             have n3_ : Aside0 (Kd.R (Kd.int .i64) 3 w99 w.heap.size (fun k_ => some k_ ≠ (v142 : Value).ownBlock ∧ some k_ ≠ (u116000 : Value).ownBlock ∧ some k_ ≠ (.slice (some ad134) x179_4.length co87 : Value).ownBlock) (.slice Ao30 x7_4.length co30) x7_4) := ⟨h3_⟩
             have n4_ : Aside0 (w99.heap[gb101]? = some (.cells #[.slice A0_0 l0_0.length c0_0, .slice A0_1 l0_1.length c0_1, .slice A0_2 l0_2.length c0_2, .slice A0_3 l0_3.length c0_3, .slice A0_4 l0_4.length c0_4, .slice A0_5 l0_5.length c0_5, .int .i64 a0_6] 30 (0, 0))) := ⟨h4_⟩
             have n5_ : Aside0 (w99.heap[gb115]? = some (.cells #[u116000, .int .i64 t113] 28 (0, 0))) := ⟨h5_⟩
             have n6_ : Aside0 (Below w.heap.size w w99) := ⟨h6_⟩
             clear HO_7
             clear HO_179
             clear HO_116000
             clear BK101
             clear BK115
             clear HB
             clear h0_ h1_ h2_ h3_ h4_ h5_ h6_
             have HO143 := n0_
             have HO_116000 := n1_
             have HO_179 := n2_
             have HO_7 := n3_
             have BK101 := n4_
             have BK115 := n5_
             have HB := n6_
             clear n0_ n1_ n2_ n3_ n4_ n5_ n6_
             have hHeld : w99.cell? ⟨gb101, 0, none⟩ = some (.slice A0_0 l0_0.length c0_0) ∧ w99.cell? ⟨gb101, 1, none⟩ = some (.slice A0_1 l0_1.length c0_1) ∧ w99.cell? ⟨gb101, 2, none⟩ = some (.slice A0_2 l0_2.length c0_2) ∧ w99.cell? ⟨gb101, 3, none⟩ = some (.slice A0_3 l0_3.length c0_3) ∧ w99.cell? ⟨gb101, 4, none⟩ = some (.slice A0_4 l0_4.length c0_4) ∧ w99.cell? ⟨gb101, 5, none⟩ = some (.slice A0_5 l0_5.length c0_5) ∧ w99.cell? ⟨gb101, 6, none⟩ = some (.int .i64 a0_6) := hS_
             refine norm_ (a' := ?_) ?_ ?_
             rotate_left
             ·simp only [putAll, Act.put, setIfInBounds_toArray, set_cons_zero, set_cons_succ]
              rfl
             refine two_ (i := 0) (j := 11) (Ni := some 185) (Nj := some 19) #[true, true, true, true, false, true, true, true, true, false, false, false, false] #[false, true, true, true, false, true, true, true, true, false, false, true, false] rfl rfl rfl rfl (two_of HT_.out lc_12_) lc_33_ lc_33_ (fun K hK => ?_) (fun K hK => ?_)
             ·skip
              refine Kd.R_lit_step (Kd.int .i64) _ 3 ?hg (N := 185) ?hd (xs := ([] : List Int)) (inner := []) (ok := fun _ => True) (okp := fun _ => True) ?hr ?hp (fun _ hk => hk) trivial (Below.refl _ _) (Nat.le_refl _) (by simp) ?_; (case hd => exact lc_34_); (case hg => exact lc_34_); (case hr => exact lc_18_); (case hp => exact (Reps.none _ _))
              intro v136 w100 ho101 hb hg_ hnew_
              clear hg_ hnew_
              (first | rw [← Ny135.out] at ho101 | (simp only [Int.reduceToNat] at ho101; rw [← Ny135.out] at ho101))
              have n0_ := Aside0.mk (Kd.R_elder' (pR HO_7.out) (Kd.R_base ho101) hb)
              have n1_ := Aside0.mk (Kd.R_elder' (pR HO_179.out) (Kd.R_base ho101) hb)
              have n2_ := Aside0.mk (Kd.R_elder' (pR HO_116000.out) (Kd.R_base ho101) hb)
              have n3_ := Aside0.mk (Kd.R_elder' (pR HO143.out) (Kd.R_base ho101) hb)
              have n4_ := Aside0.mk (Kd.R_lower (Kd.R_new' (Kd.R_new' (Kd.R_new' (Kd.R_new' ho101 (Kd.R_lt (pR HO_7.out))) (Kd.R_lt (pR HO_179.out))) (Kd.R_lt (pR HO_116000.out))) (Kd.R_lt (pR HO143.out))) (below_size lc_1_))
              have n5_ := Aside0.mk (bb BK101.out hb)
              have n6_ := Aside0.mk (bb BK115.out hb)
              have n7_ := Aside0.mk (below_step lc_1_ hb)
              clear HO_7
              clear HO_179
              clear HO_116000
              clear HO143
              clear BK101
              clear BK115
              clear HB
              have HO_7 := n0_
              have HO_179 := n1_
              have HO_116000 := n2_
              have HO143 := n3_
              have HO137 := n4_
              have BK101 := n5_
              have BK115 := n6_
              have HB := n7_
              clear n0_ n1_ n2_ n3_ n4_ n5_ n6_ n7_
              clear hb ho101
              refine hK.out _ _ (cz7 BK101.out) (fun hHeld => ?_)
              clear hK K
              refine norm_ (a' := ?_) ?_ ?_
              rotate_left
              ·show Act.put _ (some 185) _ = _
               simp only [Act.put, setIfInBounds_toArray, set_cons_zero, set_cons_succ, i64_w, i32_w]
               rfl
              exact norm_ lc_3_ (hJ0_5 (v136, v142) _ ⟨hHeld, (rm HO137.out (fun _ hk => ⟨hk.2, ⟨hk.1.2, ⟨hk.1.1.2, hk.1.1.1.2⟩⟩⟩)), (rm HO143.out (fun _ hk => ⟨hk.2, ⟨hk.1.1, ⟨hk.1.2.1, hk.1.2.2⟩⟩⟩)), (rm HO_116000.out (fun _ hk => ⟨hk.2, ⟨hk.1.1, ⟨hk.1.2.1, hk.1.2.2⟩⟩⟩)), (rm HO_179.out (fun _ hk => ⟨hk.2, ⟨hk.1.1, ⟨hk.1.2.1, hk.1.2.2⟩⟩⟩)), (rm HO_7.out (fun _ hk => ⟨hk.2, ⟨hk.1.1, ⟨hk.1.2.1, hk.1.2.2⟩⟩⟩)), (pB BK101.out), (pB BK115.out), lc_1_⟩)
             skip
             refine box_step ?hg (N := 19) ?hd (cs := #[.slice none 0 0, .slice none 0 0]) (t := 24) ?hr ?_; (case hd => exact lc_34_); (case hg => exact lc_34_); (case hr => exact lc_18_)
             intro gb147 hg w100 hbox hb
             have n0_ := Aside0.mk (rb HO_7.out hb)
             have n1_ := Aside0.mk (rb HO_179.out hb)
             have n2_ := Aside0.mk (rb HO_116000.out hb)
             have n3_ := Aside0.mk (rb HO143.out hb)
             have n4_ := Aside0.mk (bb BK101.out hb)
             have n5_ := Aside0.mk (bb BK115.out hb)
             have n6_ := Aside0.mk (below_step lc_1_ hb)
             have n7_ := Aside0.mk (hbox)
             have n8_ := Aside0.mk ((lc_32_ : w.heap.size ≤ gb147))
             have n9_ := Aside0.mk ((lc_32_ : w.heap.size ≤ gb147))
             have n10_ := Aside0.mk ((lc_6_ : gb101 ≠ gb147))
             have n11_ := Aside0.mk ((lc_7_ : gb147 ≠ gb101))
             have n12_ := Aside0.mk ((lc_22_ : gb115 ≠ gb147))
             have n13_ := Aside0.mk ((lc_23_ : gb147 ≠ gb115))
             clear HO_7
             clear HO_179
             clear HO_116000
             clear HO143
             clear BK101
             clear BK115
             clear HB
             have HO_7 := n0_
             have HO_179 := n1_
             have HO_116000 := n2_
             have HO143 := n3_
             have BK101 := n4_
             have BK115 := n5_
             have HB := n6_
             have BK147 := n7_
             have GW147 := n8_
             have GE147 := n9_
             have NB101_147 := n10_
             have NB147_101 := n11_
             have NB115_147 := n12_
             have NB147_115 := n13_
             clear n0_ n1_ n2_ n3_ n4_ n5_ n6_ n7_ n8_ n9_ n10_ n11_ n12_ n13_
             clear hb hbox hg
             refine hK.out _ _ (cz7 BK101.out) (fun hHeld => ?_)
             clear hK K
             refine norm_ (a' := ?_) ?_ ?_
             rotate_left
             ·show Act.put _ (some 19) _ = _
              simp only [Act.put, setIfInBounds_toArray, set_cons_zero, set_cons_succ, i64_w, i32_w]
              rfl
             exact norm_ lc_3_ (hJ5_11 (v142, gb147) _ ⟨hHeld, (pR HO143.out), (pR HO_116000.out), (pR HO_179.out), (pR HO_7.out), (pB BK101.out), (pB BK115.out), (pB BK147.out), GW147.out, GE147.out, NB101_147.out, NB147_101.out, NB115_147.out, NB147_115.out, lc_2_⟩)
            skip
            rintro v136 w99 ⟨hS_, h0_, h1_, h2_, h3_, h4_, h5_, h6_⟩
            have n0_ : Aside0 (Kd.R (Kd.int .i64) 3 w99 w.heap.size (fun k_ => some k_ ≠ (u116000 : Value).ownBlock ∧ some k_ ≠ (.slice (some ad134) x179_4.length co87 : Value).ownBlock ∧ some k_ ≠ (.slice Ao30 x7_4.length co30 : Value).ownBlock) v136 y135) := ⟨h0_⟩
            have n1_ : Aside0 (Kd.R (Kd.int .i64) 3 w99 w.heap.size (fun k_ => some k_ ≠ (v136 : Value).ownBlock ∧ some k_ ≠ (.slice (some ad134) x179_4.length co87 : Value).ownBlock ∧ some k_ ≠ (.slice Ao30 x7_4.length co30 : Value).ownBlock) u116000 x116000_4) := ⟨h1_⟩
            have n2_ : Aside0 (Kd.R (Kd.int .i64) 3 w99 w.heap.size (fun k_ => some k_ ≠ (v136 : Value).ownBlock ∧ some k_ ≠ (u116000 : Value).ownBlock ∧ some k_ ≠ (.slice Ao30 x7_4.length co30 : Value).ownBlock) (.slice (some ad134) x179_4.length co87) x179_4) := ⟨h2_⟩
            have n3_ : Aside0 (Kd.R (Kd.int .i64) 3 w99 w.heap.size (fun k_ => some k_ ≠ (v136 : Value).ownBlock ∧ some k_ ≠ (u116000 : Value).ownBlock ∧ some k_ ≠ (.slice (some ad134) x179_4.length co87 : Value).ownBlock) (.slice Ao30 x7_4.length co30) x7_4) := ⟨h3_⟩
            have n4_ : Aside0 (w99.heap[gb101]? = some (.cells #[.slice A0_0 l0_0.length c0_0, .slice A0_1 l0_1.length c0_1, .slice A0_2 l0_2.length c0_2, .slice A0_3 l0_3.length c0_3, .slice A0_4 l0_4.length c0_4, .slice A0_5 l0_5.length c0_5, .int .i64 a0_6] 30 (0, 0))) := ⟨h4_⟩
            have n5_ : Aside0 (w99.heap[gb115]? = some (.cells #[u116000, .int .i64 t113] 28 (0, 0))) := ⟨h5_⟩
            have n6_ : Aside0 (Below w.heap.size w w99) := ⟨h6_⟩
            clear HO_7
            clear HO_179
            clear HO_116000
            clear BK101
            clear BK115
            clear HB
            clear h0_ h1_ h2_ h3_ h4_ h5_ h6_
            have HO137 := n0_
            have HO_116000 := n1_
            have HO_179 := n2_
            have HO_7 := n3_
            have BK101 := n4_
            have BK115 := n5_
            have HB := n6_
            clear n0_ n1_ n2_ n3_ n4_ n5_ n6_
            have hHeld : w99.cell? ⟨gb101, 0, none⟩ = some (.slice A0_0 l0_0.length c0_0) ∧ w99.cell? ⟨gb101, 1, none⟩ = some (.slice A0_1 l0_1.length c0_1) ∧ w99.cell? ⟨gb101, 2, none⟩ = some (.slice A0_2 l0_2.length c0_2) ∧ w99.cell? ⟨gb101, 3, none⟩ = some (.slice A0_3 l0_3.length c0_3) ∧ w99.cell? ⟨gb101, 4, none⟩ = some (.slice A0_4 l0_4.length c0_4) ∧ w99.cell? ⟨gb101, 5, none⟩ = some (.slice A0_5 l0_5.length c0_5) ∧ w99.cell? ⟨gb101, 6, none⟩ = some (.int .i64 a0_6) := hS_
            refine norm_ (a' := ?_) ?_ ?_
            rotate_left
            ·simp only [putAll, Act.put, setIfInBounds_toArray, set_cons_zero, set_cons_succ]
             rfl
            refine three_ (i := 4) (j := 5) (k := 11) (Ni := some 189) (Nj := some 190) (Nk := some 19) #[true, true, true, true, true, false, true, true, true, false, false, false, false] #[true, true, true, true, false, true, true, true, true, false, false, false, false] #[true, true, true, true, false, false, true, true, true, false, false, true, false] rfl rfl rfl rfl rfl rfl (three_of HT_.out lc_12_) lc_33_ lc_33_ lc_33_ (fun K hK => ?_) (fun K hK => ?_) (fun K hK => ?_)
            ·skip
             refine Kd.R_append_rows_step (Kd.int .i64) (w0 := w) w.heap.size lc_34_ (.tmp 185) (.tmp 188) 22 3 (.int .i64 0) 8 rfl Try.underlying22 info3 rfl lc_33_ (by omega) v136 y135 l0_0 _ _ _ (fun k_ => some k_ ≠ (.slice Ao30 x7_4.length co30 : Value).ownBlock ∧ some k_ ≠ (.slice (some ad134) x179_4.length co87 : Value).ownBlock ∧ some k_ ≠ (u116000 : Value).ownBlock) (fun _ => False) rfl rfl ?aO ?aR (fun _ _ h => h) (fun _ h => h.elim) ?aF ?aB ?aS ?aL ?_
             (case aR => exact lc_9_)
             (case aB => exact lc_1_)
             (case aF => exact (fun k_ hk => ⟨Kd.fresh' (Kd.R_lt (pR HO_7.out)) k_ hk, Kd.fresh' (Kd.R_lt (pR HO_179.out)) k_ hk, Kd.fresh' (Kd.R_lt (pR HO_116000.out)) k_ hk⟩))
             (case aO => exact (rm HO137.out (fun _ hk => ⟨hk.2.2, ⟨hk.2.1, hk.1⟩⟩)))
             (case aS => exact (below_size lc_1_))
             (case aL => have := LMc91.out; omega)
             intro v139 w100 ho hb hg hat
             rw [← Ny138.out] at ho
             have n0_ := Aside0.mk (Kd.R_after (ok := (fun k_ => some k_ ≠ (.slice (some ad134) x179_4.length co87 : Value).ownBlock ∧ some k_ ≠ (u116000 : Value).ownBlock)) (rm HO_7.out (fun _ hk => ⟨⟨hk.2.2, hk.2.1⟩, hk.1⟩)) hg hat)
             have n1_ := Aside0.mk (Kd.R_after (ok := (fun k_ => some k_ ≠ (.slice Ao30 x7_4.length co30 : Value).ownBlock ∧ some k_ ≠ (u116000 : Value).ownBlock)) (rm HO_179.out (fun _ hk => ⟨⟨hk.2.2, hk.2.1⟩, hk.1⟩)) hg hat)
             have n2_ := Aside0.mk (Kd.R_after (ok := (fun k_ => some k_ ≠ (.slice Ao30 x7_4.length co30 : Value).ownBlock ∧ some k_ ≠ (.slice (some ad134) x179_4.length co87 : Value).ownBlock)) (rm HO_116000.out (fun _ hk => ⟨⟨hk.2.2, hk.2.1⟩, hk.1⟩)) hg hat)
             have n3_ := Aside0.mk (blk_grown (g := gb101) (o := .cells #[.slice A0_0 l0_0.length c0_0, .slice A0_1 l0_1.length c0_1, .slice A0_2 l0_2.length c0_2, .slice A0_3 l0_3.length c0_3, .slice A0_4 l0_4.length c0_4, .slice A0_5 l0_5.length c0_5, .int .i64 a0_6] 30 (0, 0)) (pB BK101.out) hg (Kd.R_ne HO137.out BK101.out lc_33_))
             have n4_ := Aside0.mk (blk_grown (g := gb115) (o := .cells #[u116000, .int .i64 t113] 28 (0, 0)) (pB BK115.out) hg (Kd.R_ne HO137.out BK115.out lc_33_))
             have n5_ := Aside0.mk (hb)
             have n6_ := Aside0.mk (ho)
             clear HO_7
             clear HO_179
             clear HO_116000
             clear BK101
             clear BK115
             clear HB
             clear HO137
             have HO_7 := n0_
             have HO_179 := n1_
             have HO_116000 := n2_
             have BK101 := n3_
             have BK115 := n4_
             have HB := n5_
             have HO140 := n6_
             clear n0_ n1_ n2_ n3_ n4_ n5_ n6_
             clear ho hb hg hat
             refine hK.out _ _ (cz7 BK101.out) (fun hHeld => ?_)
             clear hK K
             refine norm_ (a' := ?_) ?_ ?_
             rotate_left
             ·show Act.put _ (some 189) _ = _
              simp only [Act.put, setIfInBounds_toArray, set_cons_zero, set_cons_succ, i64_w, i32_w]
              rfl
             exact norm_ lc_3_ (hJ0_4 (v136, v139) _ ⟨hHeld, (rm HO140.out (fun _ hk => ⟨hk.2.2, ⟨hk.2.1, hk.1⟩⟩)), (rm HO_116000.out (fun _ hk => ⟨hk.2, ⟨hk.1.2, hk.1.1⟩⟩)), (rm HO_179.out (fun _ hk => ⟨hk.2, ⟨hk.1.2, hk.1.1⟩⟩)), (rm HO_7.out (fun _ hk => ⟨hk.2, ⟨hk.1.2, hk.1.1⟩⟩)), (pB BK101.out), (pB BK115.out), lc_1_⟩)
            ·skip
             refine Kd.R_lit_step (Kd.int .i64) _ 3 ?hg (N := 190) ?hd (xs := ([] : List Int)) (inner := []) (ok := fun _ => True) (okp := fun _ => True) ?hr ?hp (fun _ hk => hk) trivial (Below.refl _ _) (Nat.le_refl _) (by simp) ?_; (case hd => exact lc_34_); (case hg => exact lc_34_); (case hr => exact lc_18_); (case hp => exact (Reps.none _ _))
             intro v142 w100 ho101 hb hg_ hnew_
             clear hg_ hnew_
             (first | rw [← Ny141.out] at ho101 | (simp only [Int.reduceToNat] at ho101; rw [← Ny141.out] at ho101))
             have n0_ := Aside0.mk (Kd.R_elder' (pR HO_7.out) (Kd.R_base ho101) hb)
             have n1_ := Aside0.mk (Kd.R_elder' (pR HO_179.out) (Kd.R_base ho101) hb)
             have n2_ := Aside0.mk (Kd.R_elder' (pR HO_116000.out) (Kd.R_base ho101) hb)
             have n3_ := Aside0.mk (Kd.R_elder' (pR HO137.out) (Kd.R_base ho101) hb)
             have n4_ := Aside0.mk (Kd.R_lower (Kd.R_new' (Kd.R_new' (Kd.R_new' (Kd.R_new' ho101 (Kd.R_lt (pR HO_7.out))) (Kd.R_lt (pR HO_179.out))) (Kd.R_lt (pR HO_116000.out))) (Kd.R_lt (pR HO137.out))) (below_size lc_1_))
             have n5_ := Aside0.mk (bb BK101.out hb)
             have n6_ := Aside0.mk (bb BK115.out hb)
             have n7_ := Aside0.mk (below_step lc_1_ hb)
             clear HO_7
             clear HO_179
             clear HO_116000
             clear HO137
             clear BK101
             clear BK115
             clear HB
             have HO_7 := n0_
             have HO_179 := n1_
             have HO_116000 := n2_
             have HO137 := n3_
             have HO143 := n4_
             have BK101 := n5_
             have BK115 := n6_
             have HB := n7_
             clear n0_ n1_ n2_ n3_ n4_ n5_ n6_ n7_
             clear hb ho101
             refine hK.out _ _ (cz7 BK101.out) (fun hHeld => ?_)
             clear hK K
             refine norm_ (a' := ?_) ?_ ?_
             rotate_left
             ·show Act.put _ (some 190) _ = _
              simp only [Act.put, setIfInBounds_toArray, set_cons_zero, set_cons_succ, i64_w, i32_w]
              rfl
             exact norm_ lc_3_ (hJ0_5 (v136, v142) _ ⟨hHeld, (rm HO137.out (fun _ hk => ⟨hk.2, ⟨hk.1.1, ⟨hk.1.2.1, hk.1.2.2⟩⟩⟩)), (rm HO143.out (fun _ hk => ⟨hk.2, ⟨hk.1.2, ⟨hk.1.1.2, hk.1.1.1.2⟩⟩⟩)), (rm HO_116000.out (fun _ hk => ⟨hk.1.1, ⟨hk.2, ⟨hk.1.2.1, hk.1.2.2⟩⟩⟩)), (rm HO_179.out (fun _ hk => ⟨hk.1.1, ⟨hk.2, ⟨hk.1.2.1, hk.1.2.2⟩⟩⟩)), (rm HO_7.out (fun _ hk => ⟨hk.1.1, ⟨hk.2, ⟨hk.1.2.1, hk.1.2.2⟩⟩⟩)), (pB BK101.out), (pB BK115.out), lc_1_⟩)
            skip
            refine box_step ?hg (N := 19) ?hd (cs := #[.slice none 0 0, .slice none 0 0]) (t := 24) ?hr ?_; (case hd => exact lc_34_); (case hg => exact lc_34_); (case hr => exact lc_18_)
            intro gb147 hg w100 hbox hb
            have n0_ := Aside0.mk (rb HO_7.out hb)
            have n1_ := Aside0.mk (rb HO_179.out hb)
            have n2_ := Aside0.mk (rb HO_116000.out hb)
            have n3_ := Aside0.mk (rb HO137.out hb)
            have n4_ := Aside0.mk (bb BK101.out hb)
            have n5_ := Aside0.mk (bb BK115.out hb)
            have n6_ := Aside0.mk (below_step lc_1_ hb)
            have n7_ := Aside0.mk (hbox)
            have n8_ := Aside0.mk ((lc_32_ : w.heap.size ≤ gb147))
            have n9_ := Aside0.mk ((lc_32_ : w.heap.size ≤ gb147))
            have n10_ := Aside0.mk ((lc_6_ : gb101 ≠ gb147))
            have n11_ := Aside0.mk ((lc_7_ : gb147 ≠ gb101))
            have n12_ := Aside0.mk ((lc_22_ : gb115 ≠ gb147))
            have n13_ := Aside0.mk ((lc_23_ : gb147 ≠ gb115))
            clear HO_7
            clear HO_179
            clear HO_116000
            clear HO137
            clear BK101
            clear BK115
            clear HB
            have HO_7 := n0_
            have HO_179 := n1_
            have HO_116000 := n2_
            have HO137 := n3_
            have BK101 := n4_
            have BK115 := n5_
            have HB := n6_
            have BK147 := n7_
            have GW147 := n8_
            have GE147 := n9_
            have NB101_147 := n10_
            have NB147_101 := n11_
            have NB115_147 := n12_
            have NB147_115 := n13_
            clear n0_ n1_ n2_ n3_ n4_ n5_ n6_ n7_ n8_ n9_ n10_ n11_ n12_ n13_
            clear hb hbox hg
            refine hK.out _ _ (cz7 BK101.out) (fun hHeld => ?_)
            clear hK K
            refine norm_ (a' := ?_) ?_ ?_
            rotate_left
            ·show Act.put _ (some 19) _ = _
             simp only [Act.put, setIfInBounds_toArray, set_cons_zero, set_cons_succ, i64_w, i32_w]
             rfl
            exact norm_ lc_3_ (hJ0_11 (v136, gb147) _ ⟨hHeld, (pR HO137.out), (pR HO_116000.out), (pR HO_179.out), (pR HO_7.out), (pB BK101.out), (pB BK115.out), (pB BK147.out), GW147.out, GE147.out, NB101_147.out, NB147_101.out, NB115_147.out, NB147_115.out, lc_2_⟩)
           skip
           rintro ⟨v142, gb147⟩ w100 ⟨hS_, h0_, h1_, h2_, h3_, h4_, h5_, h6_, h7_, h8_, h9_, h10_, h11_, h12_, h13_⟩
           have n0_ : Aside0 (Kd.R (Kd.int .i64) 3 w100 w.heap.size (fun k_ => some k_ ≠ (u116000 : Value).ownBlock ∧ some k_ ≠ (.slice (some ad134) x179_4.length co87 : Value).ownBlock ∧ some k_ ≠ (.slice Ao30 x7_4.length co30 : Value).ownBlock) v142 y141) := ⟨h0_⟩
           have n1_ : Aside0 (Kd.R (Kd.int .i64) 3 w100 w.heap.size (fun k_ => some k_ ≠ (v142 : Value).ownBlock ∧ some k_ ≠ (.slice (some ad134) x179_4.length co87 : Value).ownBlock ∧ some k_ ≠ (.slice Ao30 x7_4.length co30 : Value).ownBlock) u116000 x116000_4) := ⟨h1_⟩
           have n2_ : Aside0 (Kd.R (Kd.int .i64) 3 w100 w.heap.size (fun k_ => some k_ ≠ (v142 : Value).ownBlock ∧ some k_ ≠ (u116000 : Value).ownBlock ∧ some k_ ≠ (.slice Ao30 x7_4.length co30 : Value).ownBlock) (.slice (some ad134) x179_4.length co87) x179_4) := ⟨h2_⟩
           have n3_ : Aside0 (Kd.R (Kd.int .i64) 3 w100 w.heap.size (fun k_ => some k_ ≠ (v142 : Value).ownBlock ∧ some k_ ≠ (u116000 : Value).ownBlock ∧ some k_ ≠ (.slice (some ad134) x179_4.length co87 : Value).ownBlock) (.slice Ao30 x7_4.length co30) x7_4) := ⟨h3_⟩
           have n4_ : Aside0 (w100.heap[gb101]? = some (.cells #[.slice A0_0 l0_0.length c0_0, .slice A0_1 l0_1.length c0_1, .slice A0_2 l0_2.length c0_2, .slice A0_3 l0_3.length c0_3, .slice A0_4 l0_4.length c0_4, .slice A0_5 l0_5.length c0_5, .int .i64 a0_6] 30 (0, 0))) := ⟨h4_⟩
           have n5_ : Aside0 (w100.heap[gb115]? = some (.cells #[u116000, .int .i64 t113] 28 (0, 0))) := ⟨h5_⟩
           have n6_ : Aside0 (w100.heap[gb147]? = some (.cells #[.slice none 0 0, .slice none 0 0] 24 (0, 0))) := ⟨h6_⟩
           have n7_ : Aside0 (w.heap.size ≤ gb147) := ⟨h7_⟩
           have n8_ : Aside0 (w.heap.size ≤ gb147) := ⟨h8_⟩
           have n9_ : Aside0 (gb101 ≠ gb147) := ⟨h9_⟩
           have n10_ : Aside0 (gb147 ≠ gb101) := ⟨h10_⟩
           have n11_ : Aside0 (gb115 ≠ gb147) := ⟨h11_⟩
           have n12_ : Aside0 (gb147 ≠ gb115) := ⟨h12_⟩
           have n13_ : Aside0 (Below w.heap.size w w100) := ⟨h13_⟩
           clear HO_7
           clear HO_179
           clear HO_116000
           clear BK101
           clear BK115
           clear HB
           clear h0_ h1_ h2_ h3_ h4_ h5_ h6_ h7_ h8_ h9_ h10_ h11_ h12_ h13_
           have HO143 := n0_
           have HO_116000 := n1_
           have HO_179 := n2_
           have HO_7 := n3_
           have BK101 := n4_
           have BK115 := n5_
           have BK147 := n6_
           have GW147 := n7_
           have GE147 := n8_
           have NB101_147 := n9_
           have NB147_101 := n10_
           have NB115_147 := n11_
           have NB147_115 := n12_
           have HB := n13_
           clear n0_ n1_ n2_ n3_ n4_ n5_ n6_ n7_ n8_ n9_ n10_ n11_ n12_ n13_
           have hHeld : w100.cell? ⟨gb101, 0, none⟩ = some (.slice A0_0 l0_0.length c0_0) ∧ w100.cell? ⟨gb101, 1, none⟩ = some (.slice A0_1 l0_1.length c0_1) ∧ w100.cell? ⟨gb101, 2, none⟩ = some (.slice A0_2 l0_2.length c0_2) ∧ w100.cell? ⟨gb101, 3, none⟩ = some (.slice A0_3 l0_3.length c0_3) ∧ w100.cell? ⟨gb101, 4, none⟩ = some (.slice A0_4 l0_4.length c0_4) ∧ w100.cell? ⟨gb101, 5, none⟩ = some (.slice A0_5 l0_5.length c0_5) ∧ w100.cell? ⟨gb101, 6, none⟩ = some (.int .i64 a0_6) := hS_
           refine norm_ (a' := ?_) ?_ ?_
           rotate_left
           ·simp only [putAll, Act.put, setIfInBounds_toArray, set_cons_zero, set_cons_succ]
            rfl
           refine one_ (i := 0) (N := some 185) #[true, true, true, true, false, true, true, true, true, false, false, true, false] rfl rfl (one_of HT_.out lc_12_) lc_33_ (fun K hK => ?_)
           refine Kd.R_lit_step (Kd.int .i64) _ 3 ?hg (N := 185) ?hd (xs := ([] : List Int)) (inner := []) (ok := fun _ => True) (okp := fun _ => True) ?hr ?hp (fun _ hk => hk) trivial (Below.refl _ _) (Nat.le_refl _) (by simp) ?_; (case hd => exact lc_34_); (case hg => exact lc_34_); (case hr => exact lc_18_); (case hp => exact (Reps.none _ _))
           intro v136 w101 ho102 hb hg_ hnew_
           clear hg_ hnew_
           (first | rw [← Ny135.out] at ho102 | (simp only [Int.reduceToNat] at ho102; rw [← Ny135.out] at ho102))
           have n0_ := Aside0.mk (Kd.R_elder' (pR HO_7.out) (Kd.R_base ho102) hb)
           have n1_ := Aside0.mk (Kd.R_elder' (pR HO_179.out) (Kd.R_base ho102) hb)
           have n2_ := Aside0.mk (Kd.R_elder' (pR HO_116000.out) (Kd.R_base ho102) hb)
           have n3_ := Aside0.mk (Kd.R_elder' (pR HO143.out) (Kd.R_base ho102) hb)
           have n4_ := Aside0.mk (Kd.R_lower (Kd.R_new' (Kd.R_new' (Kd.R_new' (Kd.R_new' ho102 (Kd.R_lt (pR HO_7.out))) (Kd.R_lt (pR HO_179.out))) (Kd.R_lt (pR HO_116000.out))) (Kd.R_lt (pR HO143.out))) (below_size lc_2_))
           have n5_ := Aside0.mk (bb BK101.out hb)
           have n6_ := Aside0.mk (bb BK115.out hb)
           have n7_ := Aside0.mk (bb BK147.out hb)
           have n8_ := Aside0.mk (below_step lc_2_ hb)
           clear HO_7
           clear HO_179
           clear HO_116000
           clear HO143
           clear BK101
           clear BK115
           clear BK147
           clear HB
           have HO_7 := n0_
           have HO_179 := n1_
           have HO_116000 := n2_
           have HO143 := n3_
           have HO137 := n4_
           have BK101 := n5_
           have BK115 := n6_
           have BK147 := n7_
           have HB := n8_
           clear n0_ n1_ n2_ n3_ n4_ n5_ n6_ n7_ n8_
           clear hb ho102
           refine hK.out _ _ (cz7 BK101.out) (fun hHeld => ?_)
           clear hK K
           refine norm_ (a' := ?_) ?_ ?_
           rotate_left
           ·show Act.put _ (some 185) _ = _
            simp only [Act.put, setIfInBounds_toArray, set_cons_zero, set_cons_succ, i64_w, i32_w]
            rfl
           exact norm_ lc_3_ (hJ0_5_11 (v136, v142, gb147) _ ⟨hHeld, (rm HO137.out (fun _ hk => ⟨hk.2, ⟨hk.1.2, ⟨hk.1.1.2, hk.1.1.1.2⟩⟩⟩)), (rm HO143.out (fun _ hk => ⟨hk.2, ⟨hk.1.1, ⟨hk.1.2.1, hk.1.2.2⟩⟩⟩)), (rm HO_116000.out (fun _ hk => ⟨hk.2, ⟨hk.1.1, ⟨hk.1.2.1, hk.1.2.2⟩⟩⟩)), (rm HO_179.out (fun _ hk => ⟨hk.2, ⟨hk.1.1, ⟨hk.1.2.1, hk.1.2.2⟩⟩⟩)), (rm HO_7.out (fun _ hk => ⟨hk.2, ⟨hk.1.1, ⟨hk.1.2.1, hk.1.2.2⟩⟩⟩)), (pB BK101.out), (pB BK115.out), (pB BK147.out), GW147.out, GE147.out, NB101_147.out, NB147_101.out, NB115_147.out, NB147_115.out, lc_2_⟩)
          skip
          rintro ⟨v136, gb147⟩ w100 ⟨hS_, h0_, h1_, h2_, h3_, h4_, h5_, h6_, h7_, h8_, h9_, h10_, h11_, h12_, h13_⟩
          have n0_ : Aside0 (Kd.R (Kd.int .i64) 3 w100 w.heap.size (fun k_ => some k_ ≠ (u116000 : Value).ownBlock ∧ some k_ ≠ (.slice (some ad134) x179_4.length co87 : Value).ownBlock ∧ some k_ ≠ (.slice Ao30 x7_4.length co30 : Value).ownBlock) v136 y135) := ⟨h0_⟩
          have n1_ : Aside0 (Kd.R (Kd.int .i64) 3 w100 w.heap.size (fun k_ => some k_ ≠ (v136 : Value).ownBlock ∧ some k_ ≠ (.slice (some ad134) x179_4.length co87 : Value).ownBlock ∧ some k_ ≠ (.slice Ao30 x7_4.length co30 : Value).ownBlock) u116000 x116000_4) := ⟨h1_⟩
          have n2_ : Aside0 (Kd.R (Kd.int .i64) 3 w100 w.heap.size (fun k_ => some k_ ≠ (v136 : Value).ownBlock ∧ some k_ ≠ (u116000 : Value).ownBlock ∧ some k_ ≠ (.slice Ao30 x7_4.length co30 : Value).ownBlock) (.slice (some ad134) x179_4.length co87) x179_4) := ⟨h2_⟩
          have n3_ : Aside0 (Kd.R (Kd.int .i64) 3 w100 w.heap.size (fun k_ => some k_ ≠ (v136 : Value).ownBlock ∧ some k_ ≠ (u116000 : Value).ownBlock ∧ some k_ ≠ (.slice (some ad134) x179_4.length co87 : Value).ownBlock) (.slice Ao30 x7_4.length co30) x7_4) := ⟨h3_⟩
          have n4_ : Aside0 (w100.heap[gb101]? = some (.cells #[.slice A0_0 l0_0.length c0_0, .slice A0_1 l0_1.length c0_1, .slice A0_2 l0_2.length c0_2, .slice A0_3 l0_3.length c0_3, .slice A0_4 l0_4.length c0_4, .slice A0_5 l0_5.length c0_5, .int .i64 a0_6] 30 (0, 0))) := ⟨h4_⟩
          have n5_ : Aside0 (w100.heap[gb115]? = some (.cells #[u116000, .int .i64 t113] 28 (0, 0))) := ⟨h5_⟩
          have n6_ : Aside0 (w100.heap[gb147]? = some (.cells #[.slice none 0 0, .slice none 0 0] 24 (0, 0))) := ⟨h6_⟩
          have n7_ : Aside0 (w.heap.size ≤ gb147) := ⟨h7_⟩
          have n8_ : Aside0 (w.heap.size ≤ gb147) := ⟨h8_⟩
          have n9_ : Aside0 (gb101 ≠ gb147) := ⟨h9_⟩
          have n10_ : Aside0 (gb147 ≠ gb101) := ⟨h10_⟩
          have n11_ : Aside0 (gb115 ≠ gb147) := ⟨h11_⟩
          have n12_ : Aside0 (gb147 ≠ gb115) := ⟨h12_⟩
          have n13_ : Aside0 (Below w.heap.size w w100) := ⟨h13_⟩
          clear HO_7
          clear HO_179
          clear HO_116000
          clear BK101
          clear BK115
          clear HB
          clear h0_ h1_ h2_ h3_ h4_ h5_ h6_ h7_ h8_ h9_ h10_ h11_ h12_ h13_
          have HO137 := n0_
          have HO_116000 := n1_
          have HO_179 := n2_
          have HO_7 := n3_
          have BK101 := n4_
          have BK115 := n5_
          have BK147 := n6_
          have GW147 := n7_
          have GE147 := n8_
          have NB101_147 := n9_
          have NB147_101 := n10_
          have NB115_147 := n11_
          have NB147_115 := n12_
          have HB := n13_
          clear n0_ n1_ n2_ n3_ n4_ n5_ n6_ n7_ n8_ n9_ n10_ n11_ n12_ n13_
          have hHeld : w100.cell? ⟨gb101, 0, none⟩ = some (.slice A0_0 l0_0.length c0_0) ∧ w100.cell? ⟨gb101, 1, none⟩ = some (.slice A0_1 l0_1.length c0_1) ∧ w100.cell? ⟨gb101, 2, none⟩ = some (.slice A0_2 l0_2.length c0_2) ∧ w100.cell? ⟨gb101, 3, none⟩ = some (.slice A0_3 l0_3.length c0_3) ∧ w100.cell? ⟨gb101, 4, none⟩ = some (.slice A0_4 l0_4.length c0_4) ∧ w100.cell? ⟨gb101, 5, none⟩ = some (.slice A0_5 l0_5.length c0_5) ∧ w100.cell? ⟨gb101, 6, none⟩ = some (.int .i64 a0_6) := hS_
          refine norm_ (a' := ?_) ?_ ?_
          rotate_left
          ·simp only [putAll, Act.put, setIfInBounds_toArray, set_cons_zero, set_cons_succ]
           rfl
          refine two_ (i := 4) (j := 5) (Ni := some 189) (Nj := some 190) #[true, true, true, true, true, false, true, true, true, false, false, true, false] #[true, true, true, true, false, true, true, true, true, false, false, true, false] rfl rfl rfl rfl (two_of HT_.out lc_12_) lc_33_ lc_33_ (fun K hK => ?_) (fun K hK => ?_)
          ·skip
           refine Kd.R_append_rows_step (Kd.int .i64) (w0 := w) w.heap.size lc_34_ (.tmp 185) (.tmp 188) 22 3 (.int .i64 0) 8 rfl Try.underlying22 info3 rfl lc_33_ (by omega) v136 y135 l0_0 _ _ _ (fun k_ => some k_ ≠ (.slice Ao30 x7_4.length co30 : Value).ownBlock ∧ some k_ ≠ (.slice (some ad134) x179_4.length co87 : Value).ownBlock ∧ some k_ ≠ (u116000 : Value).ownBlock) (fun _ => False) rfl rfl ?aO ?aR (fun _ _ h => h) (fun _ h => h.elim) ?aF ?aB ?aS ?aL ?_
           (case aR => exact lc_9_)
           (case aB => exact lc_2_)
           (case aF => exact (fun k_ hk => ⟨Kd.fresh' (Kd.R_lt (pR HO_7.out)) k_ hk, Kd.fresh' (Kd.R_lt (pR HO_179.out)) k_ hk, Kd.fresh' (Kd.R_lt (pR HO_116000.out)) k_ hk⟩))
           (case aO => exact (rm HO137.out (fun _ hk => ⟨hk.2.2, ⟨hk.2.1, hk.1⟩⟩)))
           (case aS => exact (below_size lc_2_))
           (case aL => have := LMc91.out; omega)
           intro v139 w101 ho hb hg hat
           rw [← Ny138.out] at ho
           have n0_ := Aside0.mk (Kd.R_after (ok := (fun k_ => some k_ ≠ (.slice (some ad134) x179_4.length co87 : Value).ownBlock ∧ some k_ ≠ (u116000 : Value).ownBlock)) (rm HO_7.out (fun _ hk => ⟨⟨hk.2.2, hk.2.1⟩, hk.1⟩)) hg hat)
           have n1_ := Aside0.mk (Kd.R_after (ok := (fun k_ => some k_ ≠ (.slice Ao30 x7_4.length co30 : Value).ownBlock ∧ some k_ ≠ (u116000 : Value).ownBlock)) (rm HO_179.out (fun _ hk => ⟨⟨hk.2.2, hk.2.1⟩, hk.1⟩)) hg hat)
           have n2_ := Aside0.mk (Kd.R_after (ok := (fun k_ => some k_ ≠ (.slice Ao30 x7_4.length co30 : Value).ownBlock ∧ some k_ ≠ (.slice (some ad134) x179_4.length co87 : Value).ownBlock)) (rm HO_116000.out (fun _ hk => ⟨⟨hk.2.2, hk.2.1⟩, hk.1⟩)) hg hat)
           have n3_ := Aside0.mk (blk_grown (g := gb101) (o := .cells #[.slice A0_0 l0_0.length c0_0, .slice A0_1 l0_1.length c0_1, .slice A0_2 l0_2.length c0_2, .slice A0_3 l0_3.length c0_3, .slice A0_4 l0_4.length c0_4, .slice A0_5 l0_5.length c0_5, .int .i64 a0_6] 30 (0, 0)) (pB BK101.out) hg (Kd.R_ne HO137.out BK101.out lc_33_))
           have n4_ := Aside0.mk (blk_grown (g := gb115) (o := .cells #[u116000, .int .i64 t113] 28 (0, 0)) (pB BK115.out) hg (Kd.R_ne HO137.out BK115.out lc_33_))
           have n5_ := Aside0.mk (blk_grown (g := gb147) (o := .cells #[.slice none 0 0, .slice none 0 0] 24 (0, 0)) (pB BK147.out) hg (Kd.R_ne HO137.out BK147.out lc_33_))
           have n6_ := Aside0.mk (hb)
           have n7_ := Aside0.mk (ho)
           clear HO_7
           clear HO_179
           clear HO_116000
           clear BK101
           clear BK115
           clear BK147
           clear HB
           clear HO137
           have HO_7 := n0_
           have HO_179 := n1_
           have HO_116000 := n2_
           have BK101 := n3_
           have BK115 := n4_
           have BK147 := n5_
           have HB := n6_
           have HO140 := n7_
           clear n0_ n1_ n2_ n3_ n4_ n5_ n6_ n7_
           clear ho hb hg hat
           refine hK.out _ _ (cz7 BK101.out) (fun hHeld => ?_)
           clear hK K
           refine norm_ (a' := ?_) ?_ ?_
           rotate_left
           ·show Act.put _ (some 189) _ = _
            simp only [Act.put, setIfInBounds_toArray, set_cons_zero, set_cons_succ, i64_w, i32_w]
            rfl
           exact norm_ lc_3_ (hJ0_4_11 (v136, v139, gb147) _ ⟨hHeld, (rm HO140.out (fun _ hk => ⟨hk.2.2, ⟨hk.2.1, hk.1⟩⟩)), (rm HO_116000.out (fun _ hk => ⟨hk.2, ⟨hk.1.2, hk.1.1⟩⟩)), (rm HO_179.out (fun _ hk => ⟨hk.2, ⟨hk.1.2, hk.1.1⟩⟩)), (rm HO_7.out (fun _ hk => ⟨hk.2, ⟨hk.1.2, hk.1.1⟩⟩)), (pB BK101.out), (pB BK115.out), (pB BK147.out), GW147.out, GE147.out, NB101_147.out, NB147_101.out, NB115_147.out, NB147_115.out, lc_2_⟩)
          skip
          refine Kd.R_lit_step (Kd.int .i64) _ 3 ?hg (N := 190) ?hd (xs := ([] : List Int)) (inner := []) (ok := fun _ => True) (okp := fun _ => True) ?hr ?hp (fun _ hk => hk) trivial (Below.refl _ _) (Nat.le_refl _) (by simp) ?_; (case hd => exact lc_34_); (case hg => exact lc_34_); (case hr => exact lc_18_); (case hp => exact (Reps.none _ _))
          intro v142 w101 ho102 hb hg_ hnew_
          clear hg_ hnew_
          (first | rw [← Ny141.out] at ho102 | (simp only [Int.reduceToNat] at ho102; rw [← Ny141.out] at ho102))
          have n0_ := Aside0.mk (Kd.R_elder' (pR HO_7.out) (Kd.R_base ho102) hb)
          have n1_ := Aside0.mk (Kd.R_elder' (pR HO_179.out) (Kd.R_base ho102) hb)
          have n2_ := Aside0.mk (Kd.R_elder' (pR HO_116000.out) (Kd.R_base ho102) hb)
          have n3_ := Aside0.mk (Kd.R_elder' (pR HO137.out) (Kd.R_base ho102) hb)
          have n4_ := Aside0.mk (Kd.R_lower (Kd.R_new' (Kd.R_new' (Kd.R_new' (Kd.R_new' ho102 (Kd.R_lt (pR HO_7.out))) (Kd.R_lt (pR HO_179.out))) (Kd.R_lt (pR HO_116000.out))) (Kd.R_lt (pR HO137.out))) (below_size lc_2_))
          have n5_ := Aside0.mk (bb BK101.out hb)
          have n6_ := Aside0.mk (bb BK115.out hb)
          have n7_ := Aside0.mk (bb BK147.out hb)
          have n8_ := Aside0.mk (below_step lc_2_ hb)
          clear HO_7
          clear HO_179
          clear HO_116000
          clear HO137
          clear BK101
          clear BK115
          clear BK147
          clear HB
          have HO_7 := n0_
          have HO_179 := n1_
          have HO_116000 := n2_
          have HO137 := n3_
          have HO143 := n4_
          have BK101 := n5_
          have BK115 := n6_
          have BK147 := n7_
          have HB := n8_
          clear n0_ n1_ n2_ n3_ n4_ n5_ n6_ n7_ n8_
          clear hb ho102
          refine hK.out _ _ (cz7 BK101.out) (fun hHeld => ?_)
          clear hK K
          refine norm_ (a' := ?_) ?_ ?_
          rotate_left
          ·show Act.put _ (some 190) _ = _
           simp only [Act.put, setIfInBounds_toArray, set_cons_zero, set_cons_succ, i64_w, i32_w]
           rfl
          exact norm_ lc_3_ (hJ0_5_11 (v136, v142, gb147) _ ⟨hHeld, (rm HO137.out (fun _ hk => ⟨hk.2, ⟨hk.1.1, ⟨hk.1.2.1, hk.1.2.2⟩⟩⟩)), (rm HO143.out (fun _ hk => ⟨hk.2, ⟨hk.1.2, ⟨hk.1.1.2, hk.1.1.1.2⟩⟩⟩)), (rm HO_116000.out (fun _ hk => ⟨hk.1.1, ⟨hk.2, ⟨hk.1.2.1, hk.1.2.2⟩⟩⟩)), (rm HO_179.out (fun _ hk => ⟨hk.1.1, ⟨hk.2, ⟨hk.1.2.1, hk.1.2.2⟩⟩⟩)), (rm HO_7.out (fun _ hk => ⟨hk.1.1, ⟨hk.2, ⟨hk.1.2.1, hk.1.2.2⟩⟩⟩)), (pB BK101.out), (pB BK115.out), (pB BK147.out), GW147.out, GE147.out, NB101_147.out, NB147_101.out, NB115_147.out, NB147_115.out, lc_2_⟩)
         skip
         rintro ⟨v136, v142⟩ w101 ⟨hS_, h0_, h1_, h2_, h3_, h4_, h5_, h6_, h7_⟩
         have n0_ : Aside0 (Kd.R (Kd.int .i64) 3 w101 w.heap.size (fun k_ => some k_ ≠ (v142 : Value).ownBlock ∧ some k_ ≠ (u116000 : Value).ownBlock ∧ some k_ ≠ (.slice (some ad134) x179_4.length co87 : Value).ownBlock ∧ some k_ ≠ (.slice Ao30 x7_4.length co30 : Value).ownBlock) v136 y135) := ⟨h0_⟩
         have n1_ : Aside0 (Kd.R (Kd.int .i64) 3 w101 w.heap.size (fun k_ => some k_ ≠ (v136 : Value).ownBlock ∧ some k_ ≠ (u116000 : Value).ownBlock ∧ some k_ ≠ (.slice (some ad134) x179_4.length co87 : Value).ownBlock ∧ some k_ ≠ (.slice Ao30 x7_4.length co30 : Value).ownBlock) v142 y141) := ⟨h1_⟩
         have n2_ : Aside0 (Kd.R (Kd.int .i64) 3 w101 w.heap.size (fun k_ => some k_ ≠ (v136 : Value).ownBlock ∧ some k_ ≠ (v142 : Value).ownBlock ∧ some k_ ≠ (.slice (some ad134) x179_4.length co87 : Value).ownBlock ∧ some k_ ≠ (.slice Ao30 x7_4.length co30 : Value).ownBlock) u116000 x116000_4) := ⟨h2_⟩
         have n3_ : Aside0 (Kd.R (Kd.int .i64) 3 w101 w.heap.size (fun k_ => some k_ ≠ (v136 : Value).ownBlock ∧ some k_ ≠ (v142 : Value).ownBlock ∧ some k_ ≠ (u116000 : Value).ownBlock ∧ some k_ ≠ (.slice Ao30 x7_4.length co30 : Value).ownBlock) (.slice (some ad134) x179_4.length co87) x179_4) := ⟨h3_⟩
         have n4_ : Aside0 (Kd.R (Kd.int .i64) 3 w101 w.heap.size (fun k_ => some k_ ≠ (v136 : Value).ownBlock ∧ some k_ ≠ (v142 : Value).ownBlock ∧ some k_ ≠ (u116000 : Value).ownBlock ∧ some k_ ≠ (.slice (some ad134) x179_4.length co87 : Value).ownBlock) (.slice Ao30 x7_4.length co30) x7_4) := ⟨h4_⟩
         have n5_ : Aside0 (w101.heap[gb101]? = some (.cells #[.slice A0_0 l0_0.length c0_0, .slice A0_1 l0_1.length c0_1, .slice A0_2 l0_2.length c0_2, .slice A0_3 l0_3.length c0_3, .slice A0_4 l0_4.length c0_4, .slice A0_5 l0_5.length c0_5, .int .i64 a0_6] 30 (0, 0))) := ⟨h5_⟩
         have n6_ : Aside0 (w101.heap[gb115]? = some (.cells #[u116000, .int .i64 t113] 28 (0, 0))) := ⟨h6_⟩
         have n7_ : Aside0 (Below w.heap.size w w101) := ⟨h7_⟩
         clear HO_7
         clear HO_179
         clear HO_116000
         clear BK101
         clear BK115
         clear HB
         clear h0_ h1_ h2_ h3_ h4_ h5_ h6_ h7_
         have HO137 := n0_
         have HO143 := n1_
         have HO_116000 := n2_
         have HO_179 := n3_
         have HO_7 := n4_
         have BK101 := n5_
         have BK115 := n6_
         have HB := n7_
         clear n0_ n1_ n2_ n3_ n4_ n5_ n6_ n7_
         have hHeld : w101.cell? ⟨gb101, 0, none⟩ = some (.slice A0_0 l0_0.length c0_0) ∧ w101.cell? ⟨gb101, 1, none⟩ = some (.slice A0_1 l0_1.length c0_1) ∧ w101.cell? ⟨gb101, 2, none⟩ = some (.slice A0_2 l0_2.length c0_2) ∧ w101.cell? ⟨gb101, 3, none⟩ = some (.slice A0_3 l0_3.length c0_3) ∧ w101.cell? ⟨gb101, 4, none⟩ = some (.slice A0_4 l0_4.length c0_4) ∧ w101.cell? ⟨gb101, 5, none⟩ = some (.slice A0_5 l0_5.length c0_5) ∧ w101.cell? ⟨gb101, 6, none⟩ = some (.int .i64 a0_6) := hS_
         refine norm_ (a' := ?_) ?_ ?_
         rotate_left
         ·simp only [putAll, Act.put, setIfInBounds_toArray, set_cons_zero, set_cons_succ]
          rfl
         refine two_ (i := 4) (j := 11) (Ni := some 189) (Nj := some 19) #[true, true, true, true, true, true, true, true, true, false, false, false, false] #[true, true, true, true, false, true, true, true, true, false, false, true, false] rfl rfl rfl rfl (two_of HT_.out lc_12_) lc_33_ lc_33_ (fun K hK => ?_) (fun K hK => ?_)
         ·skip
          refine Kd.R_append_rows_step (Kd.int .i64) (w0 := w) w.heap.size lc_34_ (.tmp 185) (.tmp 188) 22 3 (.int .i64 0) 8 rfl Try.underlying22 info3 rfl lc_33_ (by omega) v136 y135 l0_0 _ _ _ (fun k_ => some k_ ≠ (.slice Ao30 x7_4.length co30 : Value).ownBlock ∧ some k_ ≠ (.slice (some ad134) x179_4.length co87 : Value).ownBlock ∧ some k_ ≠ (u116000 : Value).ownBlock ∧ some k_ ≠ (v142 : Value).ownBlock) (fun _ => False) rfl rfl ?aO ?aR (fun _ _ h => h) (fun _ h => h.elim) ?aF ?aB ?aS ?aL ?_
          (case aR => exact lc_9_)
          (case aB => exact lc_1_)
          (case aF => exact lc_45_)
          (case aO => exact (rm HO137.out (fun _ hk => ⟨hk.2.2.2, ⟨hk.2.2.1, ⟨hk.2.1, hk.1⟩⟩⟩)))
          (case aS => exact (below_size lc_1_))
          (case aL => have := LMc91.out; omega)
          intro v139 w102 ho hb hg hat
          rw [← Ny138.out] at ho
          have n0_ := Aside0.mk (Kd.R_after (ok := (fun k_ => some k_ ≠ (.slice (some ad134) x179_4.length co87 : Value).ownBlock ∧ some k_ ≠ (u116000 : Value).ownBlock ∧ some k_ ≠ (v142 : Value).ownBlock)) (rm HO_7.out (fun _ hk => ⟨⟨hk.2.2.2, ⟨hk.2.2.1, hk.2.1⟩⟩, hk.1⟩)) hg hat)
          have n1_ := Aside0.mk (Kd.R_after (ok := (fun k_ => some k_ ≠ (.slice Ao30 x7_4.length co30 : Value).ownBlock ∧ some k_ ≠ (u116000 : Value).ownBlock ∧ some k_ ≠ (v142 : Value).ownBlock)) (rm HO_179.out (fun _ hk => ⟨⟨hk.2.2.2, ⟨hk.2.2.1, hk.2.1⟩⟩, hk.1⟩)) hg hat)
          have n2_ := Aside0.mk (Kd.R_after (ok := (fun k_ => some k_ ≠ (.slice Ao30 x7_4.length co30 : Value).ownBlock ∧ some k_ ≠ (.slice (some ad134) x179_4.length co87 : Value).ownBlock ∧ some k_ ≠ (v142 : Value).ownBlock)) (rm HO_116000.out (fun _ hk => ⟨⟨hk.2.2.2, ⟨hk.2.2.1, hk.2.1⟩⟩, hk.1⟩)) hg hat)
          have n3_ := Aside0.mk (blk_grown (g := gb101) (o := .cells #[.slice A0_0 l0_0.length c0_0, .slice A0_1 l0_1.length c0_1, .slice A0_2 l0_2.length c0_2, .slice A0_3 l0_3.length c0_3, .slice A0_4 l0_4.length c0_4, .slice A0_5 l0_5.length c0_5, .int .i64 a0_6] 30 (0, 0)) (pB BK101.out) hg (Kd.R_ne HO137.out BK101.out lc_33_))
          have n4_ := Aside0.mk (blk_grown (g := gb115) (o := .cells #[u116000, .int .i64 t113] 28 (0, 0)) (pB BK115.out) hg (Kd.R_ne HO137.out BK115.out lc_33_))
          have n5_ := Aside0.mk (Kd.R_after (ok := (fun k_ => some k_ ≠ (.slice Ao30 x7_4.length co30 : Value).ownBlock ∧ some k_ ≠ (.slice (some ad134) x179_4.length co87 : Value).ownBlock ∧ some k_ ≠ (u116000 : Value).ownBlock)) (rm HO143.out (fun _ hk => ⟨⟨hk.2.2.2, ⟨hk.2.2.1, hk.2.1⟩⟩, hk.1⟩)) hg hat)
          have n6_ := Aside0.mk (hb)
          have n7_ := Aside0.mk (ho)
          clear HO_7
          clear HO_179
          clear HO_116000
          clear BK101
          clear BK115
          clear HO143
          clear HB
          clear HO137
          have HO_7 := n0_
          have HO_179 := n1_
          have HO_116000 := n2_
          have BK101 := n3_
          have BK115 := n4_
          have HO143 := n5_
          have HB := n6_
          have HO140 := n7_
          clear n0_ n1_ n2_ n3_ n4_ n5_ n6_ n7_
          clear ho hb hg hat
          refine hK.out _ _ (cz7 BK101.out) (fun hHeld => ?_)
          clear hK K
          refine norm_ (a' := ?_) ?_ ?_
          rotate_left
          ·show Act.put _ (some 189) _ = _
           simp only [Act.put, setIfInBounds_toArray, set_cons_zero, set_cons_succ, i64_w, i32_w]
           rfl
          exact norm_ lc_3_ (hJ0_4_5 (v136, v139, v142) _ ⟨hHeld, (rm HO140.out (fun _ hk => ⟨hk.2.2.2, ⟨hk.2.2.1, ⟨hk.2.1, hk.1⟩⟩⟩)), (rm HO143.out (fun _ hk => ⟨hk.2, ⟨hk.1.2.2, ⟨hk.1.2.1, hk.1.1⟩⟩⟩)), (rm HO_116000.out (fun _ hk => ⟨hk.2, ⟨hk.1.2.2, ⟨hk.1.2.1, hk.1.1⟩⟩⟩)), (rm HO_179.out (fun _ hk => ⟨hk.2, ⟨hk.1.2.2, ⟨hk.1.2.1, hk.1.1⟩⟩⟩)), (rm HO_7.out (fun _ hk => ⟨hk.2, ⟨hk.1.2.2, ⟨hk.1.2.1, hk.1.1⟩⟩⟩)), (pB BK101.out), (pB BK115.out), lc_1_⟩)
         skip
         refine box_step ?hg (N := 19) ?hd (cs := #[.slice none 0 0, .slice none 0 0]) (t := 24) ?hr ?_; (case hd => exact lc_34_); (case hg => exact lc_34_); (case hr => exact lc_18_)
         intro gb147 hg w102 hbox hb
         have n0_ := Aside0.mk (rb HO_7.out hb)
         have n1_ := Aside0.mk (rb HO_179.out hb)
         have n2_ := Aside0.mk (rb HO_116000.out hb)
         have n3_ := Aside0.mk (rb HO137.out hb)
         have n4_ := Aside0.mk (rb HO143.out hb)
         have n5_ := Aside0.mk (bb BK101.out hb)
         have n6_ := Aside0.mk (bb BK115.out hb)
         have n7_ := Aside0.mk (below_step lc_1_ hb)
         have n8_ := Aside0.mk (hbox)
         have n9_ := Aside0.mk ((lc_32_ : w.heap.size ≤ gb147))
         have n10_ := Aside0.mk ((lc_32_ : w.heap.size ≤ gb147))
         have n11_ := Aside0.mk ((lc_6_ : gb101 ≠ gb147))
         have n12_ := Aside0.mk ((lc_7_ : gb147 ≠ gb101))
         have n13_ := Aside0.mk ((lc_22_ : gb115 ≠ gb147))
         have n14_ := Aside0.mk ((lc_23_ : gb147 ≠ gb115))
         clear HO_7
         clear HO_179
         clear HO_116000
         clear HO137
         clear HO143
         clear BK101
         clear BK115
         clear HB
         have HO_7 := n0_
         have HO_179 := n1_
         have HO_116000 := n2_
         have HO137 := n3_
         have HO143 := n4_
         have BK101 := n5_
         have BK115 := n6_
         have HB := n7_
         have BK147 := n8_
         have GW147 := n9_
         have GE147 := n10_
         have NB101_147 := n11_
         have NB147_101 := n12_
         have NB115_147 := n13_
         have NB147_115 := n14_
         clear n0_ n1_ n2_ n3_ n4_ n5_ n6_ n7_ n8_ n9_ n10_ n11_ n12_ n13_ n14_
         clear hb hbox hg
         refine hK.out _ _ (cz7 BK101.out) (fun hHeld => ?_)
         clear hK K
         refine norm_ (a' := ?_) ?_ ?_
         rotate_left
         ·show Act.put _ (some 19) _ = _
          simp only [Act.put, setIfInBounds_toArray, set_cons_zero, set_cons_succ, i64_w, i32_w]
          rfl
         exact norm_ lc_3_ (hJ0_5_11 (v136, v142, gb147) _ ⟨hHeld, (pR HO137.out), (pR HO143.out), (pR HO_116000.out), (pR HO_179.out), (pR HO_7.out), (pB BK101.out), (pB BK115.out), (pB BK147.out), GW147.out, GE147.out, NB101_147.out, NB147_101.out, NB115_147.out, NB147_115.out, lc_2_⟩)
        skip
        rintro ⟨v136, v139⟩ w100 ⟨hS_, h0_, h1_, h2_, h3_, h4_, h5_, h6_⟩
        have n0_ : Aside0 (Kd.R (Kd.int .i64) 3 w100 w.heap.size (fun k_ => some k_ ≠ (u116000 : Value).ownBlock ∧ some k_ ≠ (.slice (some ad134) x179_4.length co87 : Value).ownBlock ∧ some k_ ≠ (.slice Ao30 x7_4.length co30 : Value).ownBlock) v139 y138) := ⟨h0_⟩
        have n1_ : Aside0 (Kd.R (Kd.int .i64) 3 w100 w.heap.size (fun k_ => some k_ ≠ (v139 : Value).ownBlock ∧ some k_ ≠ (.slice (some ad134) x179_4.length co87 : Value).ownBlock ∧ some k_ ≠ (.slice Ao30 x7_4.length co30 : Value).ownBlock) u116000 x116000_4) := ⟨h1_⟩
        have n2_ : Aside0 (Kd.R (Kd.int .i64) 3 w100 w.heap.size (fun k_ => some k_ ≠ (v139 : Value).ownBlock ∧ some k_ ≠ (u116000 : Value).ownBlock ∧ some k_ ≠ (.slice Ao30 x7_4.length co30 : Value).ownBlock) (.slice (some ad134) x179_4.length co87) x179_4) := ⟨h2_⟩
        have n3_ : Aside0 (Kd.R (Kd.int .i64) 3 w100 w.heap.size (fun k_ => some k_ ≠ (v139 : Value).ownBlock ∧ some k_ ≠ (u116000 : Value).ownBlock ∧ some k_ ≠ (.slice (some ad134) x179_4.length co87 : Value).ownBlock) (.slice Ao30 x7_4.length co30) x7_4) := ⟨h3_⟩
        have n4_ : Aside0 (w100.heap[gb101]? = some (.cells #[.slice A0_0 l0_0.length c0_0, .slice A0_1 l0_1.length c0_1, .slice A0_2 l0_2.length c0_2, .slice A0_3 l0_3.length c0_3, .slice A0_4 l0_4.length c0_4, .slice A0_5 l0_5.length c0_5, .int .i64 a0_6] 30 (0, 0))) := ⟨h4_⟩
        have n5_ : Aside0 (w100.heap[gb115]? = some (.cells #[u116000, .int .i64 t113] 28 (0, 0))) := ⟨h5_⟩
        have n6_ : Aside0 (Below w.heap.size w w100) := ⟨h6_⟩
        clear HO_7
        clear HO_179
        clear HO_116000
        clear BK101
        clear BK115
        clear HB
        clear h0_ h1_ h2_ h3_ h4_ h5_ h6_
        have HO140 := n0_
        have HO_116000 := n1_
        have HO_179 := n2_
        have HO_7 := n3_
        have BK101 := n4_
        have BK115 := n5_
        have HB := n6_
        clear n0_ n1_ n2_ n3_ n4_ n5_ n6_
        have hHeld : w100.cell? ⟨gb101, 0, none⟩ = some (.slice A0_0 l0_0.length c0_0) ∧ w100.cell? ⟨gb101, 1, none⟩ = some (.slice A0_1 l0_1.length c0_1) ∧ w100.cell? ⟨gb101, 2, none⟩ = some (.slice A0_2 l0_2.length c0_2) ∧ w100.cell? ⟨gb101, 3, none⟩ = some (.slice A0_3 l0_3.length c0_3) ∧ w100.cell? ⟨gb101, 4, none⟩ = some (.slice A0_4 l0_4.length c0_4) ∧ w100.cell? ⟨gb101, 5, none⟩ = some (.slice A0_5 l0_5.length c0_5) ∧ w100.cell? ⟨gb101, 6, none⟩ = some (.int .i64 a0_6) := hS_
        refine norm_ (a' := ?_) ?_ ?_
        rotate_left
        ·simp only [putAll, Act.put, setIfInBounds_toArray, set_cons_zero, set_cons_succ]
         rfl
        refine two_ (i := 5) (j := 11) (Ni := some 190) (Nj := some 19) #[true, true, true, true, true, true, true, true, true, false, false, false, false] #[true, true, true, true, true, false, true, true, true, false, false, true, false] rfl rfl rfl rfl (two_of HT_.out lc_12_) lc_33_ lc_33_ (fun K hK => ?_) (fun K hK => ?_)
        ·skip
         refine Kd.R_lit_step (Kd.int .i64) _ 3 ?hg (N := 190) ?hd (xs := ([] : List Int)) (inner := []) (ok := fun _ => True) (okp := fun _ => True) ?hr ?hp (fun _ hk => hk) trivial (Below.refl _ _) (Nat.le_refl _) (by simp) ?_; (case hd => exact lc_34_); (case hg => exact lc_34_); (case hr => exact lc_18_); (case hp => exact (Reps.none _ _))
         intro v142 w101 ho102 hb hg_ hnew_
         clear hg_ hnew_
         (first | rw [← Ny141.out] at ho102 | (simp only [Int.reduceToNat] at ho102; rw [← Ny141.out] at ho102))
         have n0_ := Aside0.mk (Kd.R_elder' (pR HO_7.out) (Kd.R_base ho102) hb)
         have n1_ := Aside0.mk (Kd.R_elder' (pR HO_179.out) (Kd.R_base ho102) hb)
         have n2_ := Aside0.mk (Kd.R_elder' (pR HO_116000.out) (Kd.R_base ho102) hb)
         have n3_ := Aside0.mk (Kd.R_elder' (pR HO140.out) (Kd.R_base ho102) hb)
         have n4_ := Aside0.mk (Kd.R_lower (Kd.R_new' (Kd.R_new' (Kd.R_new' (Kd.R_new' ho102 (Kd.R_lt (pR HO_7.out))) (Kd.R_lt (pR HO_179.out))) (Kd.R_lt (pR HO_116000.out))) (Kd.R_lt (pR HO140.out))) (below_size lc_1_))
         have n5_ := Aside0.mk (bb BK101.out hb)
         have n6_ := Aside0.mk (bb BK115.out hb)
         have n7_ := Aside0.mk (below_step lc_1_ hb)
         clear HO_7
         clear HO_179
         clear HO_116000
         clear HO140
         clear BK101
         clear BK115
         clear HB
         have HO_7 := n0_
         have HO_179 := n1_
         have HO_116000 := n2_
         have HO140 := n3_
         have HO143 := n4_
         have BK101 := n5_
         have BK115 := n6_
         have HB := n7_
         clear n0_ n1_ n2_ n3_ n4_ n5_ n6_ n7_
         clear hb ho102
         refine hK.out _ _ (cz7 BK101.out) (fun hHeld => ?_)
         clear hK K
         refine norm_ (a' := ?_) ?_ ?_
         rotate_left
         ·show Act.put _ (some 190) _ = _
          simp only [Act.put, setIfInBounds_toArray, set_cons_zero, set_cons_succ, i64_w, i32_w]
          rfl
         exact norm_ lc_3_ (hJ0_4_5 (v136, v139, v142) _ ⟨hHeld, (rm HO140.out (fun _ hk => ⟨hk.2, ⟨hk.1.1, ⟨hk.1.2.1, hk.1.2.2⟩⟩⟩)), (rm HO143.out (fun _ hk => ⟨hk.2, ⟨hk.1.2, ⟨hk.1.1.2, hk.1.1.1.2⟩⟩⟩)), (rm HO_116000.out (fun _ hk => ⟨hk.1.1, ⟨hk.2, ⟨hk.1.2.1, hk.1.2.2⟩⟩⟩)), (rm HO_179.out (fun _ hk => ⟨hk.1.1, ⟨hk.2, ⟨hk.1.2.1, hk.1.2.2⟩⟩⟩)), (rm HO_7.out (fun _ hk => ⟨hk.1.1, ⟨hk.2, ⟨hk.1.2.1, hk.1.2.2⟩⟩⟩)), (pB BK101.out), (pB BK115.out), lc_1_⟩)
        skip
        refine box_step ?hg (N := 19) ?hd (cs := #[.slice none 0 0, .slice none 0 0]) (t := 24) ?hr ?_; (case hd => exact lc_34_); (case hg => exact lc_34_); (case hr => exact lc_18_)
        intro gb147 hg w101 hbox hb
        have n0_ := Aside0.mk (rb HO_7.out hb)
        have n1_ := Aside0.mk (rb HO_179.out hb)
        have n2_ := Aside0.mk (rb HO_116000.out hb)
        have n3_ := Aside0.mk (rb HO140.out hb)
        have n4_ := Aside0.mk (bb BK101.out hb)
        have n5_ := Aside0.mk (bb BK115.out hb)
        have n6_ := Aside0.mk (below_step lc_1_ hb)
        have n7_ := Aside0.mk (hbox)
        have n8_ := Aside0.mk ((lc_32_ : w.heap.size ≤ gb147))
        have n9_ := Aside0.mk ((lc_32_ : w.heap.size ≤ gb147))
        have n10_ := Aside0.mk ((lc_6_ : gb101 ≠ gb147))
        have n11_ := Aside0.mk ((lc_7_ : gb147 ≠ gb101))
        have n12_ := Aside0.mk ((lc_22_ : gb115 ≠ gb147))
        have n13_ := Aside0.mk ((lc_23_ : gb147 ≠ gb115))
        clear HO_7
        clear HO_179
        clear HO_116000
        clear HO140
        clear BK101
        clear BK115
        clear HB
        have HO_7 := n0_
        have HO_179 := n1_
        have HO_116000 := n2_
        have HO140 := n3_
        have BK101 := n4_
        have BK115 := n5_
        have HB := n6_
        have BK147 := n7_
        have GW147 := n8_
        have GE147 := n9_
        have NB101_147 := n10_
        have NB147_101 := n11_
        have NB115_147 := n12_
        have NB147_115 := n13_
        clear n0_ n1_ n2_ n3_ n4_ n5_ n6_ n7_ n8_ n9_ n10_ n11_ n12_ n13_
        clear hb hbox hg
        refine hK.out _ _ (cz7 BK101.out) (fun hHeld => ?_)
        clear hK K
        refine norm_ (a' := ?_) ?_ ?_
        rotate_left
        ·show Act.put _ (some 19) _ = _
         simp only [Act.put, setIfInBounds_toArray, set_cons_zero, set_cons_succ, i64_w, i32_w]
         rfl
        exact norm_ lc_3_ (hJ0_4_11 (v136, v139, gb147) _ ⟨hHeld, (pR HO140.out), (pR HO_116000.out), (pR HO_179.out), (pR HO_7.out), (pB BK101.out), (pB BK115.out), (pB BK147.out), GW147.out, GE147.out, NB101_147.out, NB147_101.out, NB115_147.out, NB147_115.out, lc_2_⟩)
       skip
       rintro ⟨v136, v142, gb147⟩ w102 ⟨hS_, h0_, h1_, h2_, h3_, h4_, h5_, h6_, h7_, h8_, h9_, h10_, h11_, h12_, h13_, h14_⟩
       have n0_ : Aside0 (Kd.R (Kd.int .i64) 3 w102 w.heap.size (fun k_ => some k_ ≠ (v142 : Value).ownBlock ∧ some k_ ≠ (u116000 : Value).ownBlock ∧ some k_ ≠ (.slice (some ad134) x179_4.length co87 : Value).ownBlock ∧ some k_ ≠ (.slice Ao30 x7_4.length co30 : Value).ownBlock) v136 y135) := ⟨h0_⟩
       have n1_ : Aside0 (Kd.R (Kd.int .i64) 3 w102 w.heap.size (fun k_ => some k_ ≠ (v136 : Value).ownBlock ∧ some k_ ≠ (u116000 : Value).ownBlock ∧ some k_ ≠ (.slice (some ad134) x179_4.length co87 : Value).ownBlock ∧ some k_ ≠ (.slice Ao30 x7_4.length co30 : Value).ownBlock) v142 y141) := ⟨h1_⟩
       have n2_ : Aside0 (Kd.R (Kd.int .i64) 3 w102 w.heap.size (fun k_ => some k_ ≠ (v136 : Value).ownBlock ∧ some k_ ≠ (v142 : Value).ownBlock ∧ some k_ ≠ (.slice (some ad134) x179_4.length co87 : Value).ownBlock ∧ some k_ ≠ (.slice Ao30 x7_4.length co30 : Value).ownBlock) u116000 x116000_4) := ⟨h2_⟩
       have n3_ : Aside0 (Kd.R (Kd.int .i64) 3 w102 w.heap.size (fun k_ => some k_ ≠ (v136 : Value).ownBlock ∧ some k_ ≠ (v142 : Value).ownBlock ∧ some k_ ≠ (u116000 : Value).ownBlock ∧ some k_ ≠ (.slice Ao30 x7_4.length co30 : Value).ownBlock) (.slice (some ad134) x179_4.length co87) x179_4) := ⟨h3_⟩
       have n4_ : Aside0 (Kd.R (Kd.int .i64) 3 w102 w.heap.size (fun k_ => some k_ ≠ (v136 : Value).ownBlock ∧ some k_ ≠ (v142 : Value).ownBlock ∧ some k_ ≠ (u116000 : Value).ownBlock ∧ some k_ ≠ (.slice (some ad134) x179_4.length co87 : Value).ownBlock) (.slice Ao30 x7_4.length co30) x7_4) := ⟨h4_⟩
       have n5_ : Aside0 (w102.heap[gb101]? = some (.cells #[.slice A0_0 l0_0.length c0_0, .slice A0_1 l0_1.length c0_1, .slice A0_2 l0_2.length c0_2, .slice A0_3 l0_3.length c0_3, .slice A0_4 l0_4.length c0_4, .slice A0_5 l0_5.length c0_5, .int .i64 a0_6] 30 (0, 0))) := ⟨h5_⟩
       have n6_ : Aside0 (w102.heap[gb115]? = some (.cells #[u116000, .int .i64 t113] 28 (0, 0))) := ⟨h6_⟩
       have n7_ : Aside0 (w102.heap[gb147]? = some (.cells #[.slice none 0 0, .slice none 0 0] 24 (0, 0))) := ⟨h7_⟩
       have n8_ : Aside0 (w.heap.size ≤ gb147) := ⟨h8_⟩
       have n9_ : Aside0 (w.heap.size ≤ gb147) := ⟨h9_⟩
       have n10_ : Aside0 (gb101 ≠ gb147) := ⟨h10_⟩
       have n11_ : Aside0 (gb147 ≠ gb101) := ⟨h11_⟩
       have n12_ : Aside0 (gb115 ≠ gb147) := ⟨h12_⟩
       have n13_ : Aside0 (gb147 ≠ gb115) := ⟨h13_⟩
       have n14_ : Aside0 (Below w.heap.size w w102) := ⟨h14_⟩
       clear HO_7
       clear HO_179
       clear HO_116000
       clear BK101
       clear BK115
       clear HB
       clear h0_ h1_ h2_ h3_ h4_ h5_ h6_ h7_ h8_ h9_ h10_ h11_ h12_ h13_ h14_
       have HO137 := n0_
       have HO143 := n1_
       have HO_116000 := n2_
       have HO_179 := n3_
       have HO_7 := n4_
       have BK101 := n5_
       have BK115 := n6_
       have BK147 := n7_
       have GW147 := n8_
       have GE147 := n9_
       have NB101_147 := n10_
       have NB147_101 := n11_
       have NB115_147 := n12_
       have NB147_115 := n13_
       have HB := n14_
       clear n0_ n1_ n2_ n3_ n4_ n5_ n6_ n7_ n8_ n9_ n10_ n11_ n12_ n13_ n14_
       have hHeld : w102.cell? ⟨gb101, 0, none⟩ = some (.slice A0_0 l0_0.length c0_0) ∧ w102.cell? ⟨gb101, 1, none⟩ = some (.slice A0_1 l0_1.length c0_1) ∧ w102.cell? ⟨gb101, 2, none⟩ = some (.slice A0_2 l0_2.length c0_2) ∧ w102.cell? ⟨gb101, 3, none⟩ = some (.slice A0_3 l0_3.length c0_3) ∧ w102.cell? ⟨gb101, 4, none⟩ = some (.slice A0_4 l0_4.length c0_4) ∧ w102.cell? ⟨gb101, 5, none⟩ = some (.slice A0_5 l0_5.length c0_5) ∧ w102.cell? ⟨gb101, 6, none⟩ = some (.int .i64 a0_6) := hS_
       refine norm_ (a' := ?_) ?_ ?_
       rotate_left
       ·simp only [putAll, Act.put, setIfInBounds_toArray, set_cons_zero, set_cons_succ]
        rfl
       refine one_ (i := 4) (N := some 189) #[true, true, true, true, true, true, true, true, true, false, false, true, false] rfl rfl (one_of HT_.out lc_12_) lc_33_ (fun K hK => ?_)
       refine Kd.R_append_rows_step (Kd.int .i64) (w0 := w) w.heap.size lc_34_ (.tmp 185) (.tmp 188) 22 3 (.int .i64 0) 8 rfl Try.underlying22 info3 rfl lc_33_ (by omega) v136 y135 l0_0 _ _ _ (fun k_ => some k_ ≠ (.slice Ao30 x7_4.length co30 : Value).ownBlock ∧ some k_ ≠ (.slice (some ad134) x179_4.length co87 : Value).ownBlock ∧ some k_ ≠ (u116000 : Value).ownBlock ∧ some k_ ≠ (v142 : Value).ownBlock) (fun _ => False) rfl rfl ?aO ?aR (fun _ _ h => h) (fun _ h => h.elim) ?aF ?aB ?aS ?aL ?_
       (case aR => exact lc_9_)
       (case aB => exact lc_2_)
       (case aF => exact lc_45_)
       (case aO => exact (rm HO137.out (fun _ hk => ⟨hk.2.2.2, ⟨hk.2.2.1, ⟨hk.2.1, hk.1⟩⟩⟩)))
       (case aS => exact (below_size lc_2_))
       (case aL => have := LMc91.out; omega)
       intro v139 w103 ho hb hg hat
       rw [← Ny138.out] at ho
       have n0_ := Aside0.mk (Kd.R_after (ok := (fun k_ => some k_ ≠ (.slice (some ad134) x179_4.length co87 : Value).ownBlock ∧ some k_ ≠ (u116000 : Value).ownBlock ∧ some k_ ≠ (v142 : Value).ownBlock)) (rm HO_7.out (fun _ hk => ⟨⟨hk.2.2.2, ⟨hk.2.2.1, hk.2.1⟩⟩, hk.1⟩)) hg hat)
       have n1_ := Aside0.mk (Kd.R_after (ok := (fun k_ => some k_ ≠ (.slice Ao30 x7_4.length co30 : Value).ownBlock ∧ some k_ ≠ (u116000 : Value).ownBlock ∧ some k_ ≠ (v142 : Value).ownBlock)) (rm HO_179.out (fun _ hk => ⟨⟨hk.2.2.2, ⟨hk.2.2.1, hk.2.1⟩⟩, hk.1⟩)) hg hat)
       have n2_ := Aside0.mk (Kd.R_after (ok := (fun k_ => some k_ ≠ (.slice Ao30 x7_4.length co30 : Value).ownBlock ∧ some k_ ≠ (.slice (some ad134) x179_4.length co87 : Value).ownBlock ∧ some k_ ≠ (v142 : Value).ownBlock)) (rm HO_116000.out (fun _ hk => ⟨⟨hk.2.2.2, ⟨hk.2.2.1, hk.2.1⟩⟩, hk.1⟩)) hg hat)
       have n3_ := Aside0.mk (blk_grown (g := gb101) (o := .cells #[.slice A0_0 l0_0.length c0_0, .slice A0_1 l0_1.length c0_1, .slice A0_2 l0_2.length c0_2, .slice A0_3 l0_3.length c0_3, .slice A0_4 l0_4.length c0_4, .slice A0_5 l0_5.length c0_5, .int .i64 a0_6] 30 (0, 0)) (pB BK101.out) hg (Kd.R_ne HO137.out BK101.out lc_33_))
       have n4_ := Aside0.mk (blk_grown (g := gb115) (o := .cells #[u116000, .int .i64 t113] 28 (0, 0)) (pB BK115.out) hg (Kd.R_ne HO137.out BK115.out lc_33_))
       have n5_ := Aside0.mk (Kd.R_after (ok := (fun k_ => some k_ ≠ (.slice Ao30 x7_4.length co30 : Value).ownBlock ∧ some k_ ≠ (.slice (some ad134) x179_4.length co87 : Value).ownBlock ∧ some k_ ≠ (u116000 : Value).ownBlock)) (rm HO143.out (fun _ hk => ⟨⟨hk.2.2.2, ⟨hk.2.2.1, hk.2.1⟩⟩, hk.1⟩)) hg hat)
       have n6_ := Aside0.mk (blk_grown (g := gb147) (o := .cells #[.slice none 0 0, .slice none 0 0] 24 (0, 0)) (pB BK147.out) hg (Kd.R_ne HO137.out BK147.out lc_33_))
       have n7_ := Aside0.mk (hb)
       have n8_ := Aside0.mk (ho)
       clear HO_7
       clear HO_179
       clear HO_116000
       clear BK101
       clear BK115
       clear HO143
       clear BK147
       clear HB
       clear HO137
       have HO_7 := n0_
       have HO_179 := n1_
       have HO_116000 := n2_
       have BK101 := n3_
       have BK115 := n4_
       have HO143 := n5_
       have BK147 := n6_
       have HB := n7_
       have HO140 := n8_
       clear n0_ n1_ n2_ n3_ n4_ n5_ n6_ n7_ n8_
       clear ho hb hg hat
       refine hK.out _ _ (cz7 BK101.out) (fun hHeld => ?_)
       clear hK K
       refine norm_ (a' := ?_) ?_ ?_
       rotate_left
       ·show Act.put _ (some 189) _ = _
        simp only [Act.put, setIfInBounds_toArray, set_cons_zero, set_cons_succ, i64_w, i32_w]
        rfl
       exact norm_ lc_3_ (hJ0_4_5_11 (v136, v139, v142, gb147) _ ⟨hHeld, (rm HO140.out (fun _ hk => ⟨hk.2.2.2, ⟨hk.2.2.1, ⟨hk.2.1, hk.1⟩⟩⟩)), (rm HO143.out (fun _ hk => ⟨hk.2, ⟨hk.1.2.2, ⟨hk.1.2.1, hk.1.1⟩⟩⟩)), (rm HO_116000.out (fun _ hk => ⟨hk.2, ⟨hk.1.2.2, ⟨hk.1.2.1, hk.1.1⟩⟩⟩)), (rm HO_179.out (fun _ hk => ⟨hk.2, ⟨hk.1.2.2, ⟨hk.1.2.1, hk.1.1⟩⟩⟩)), (rm HO_7.out (fun _ hk => ⟨hk.2, ⟨hk.1.2.2, ⟨hk.1.2.1, hk.1.1⟩⟩⟩)), (pB BK101.out), (pB BK115.out), (pB BK147.out), GW147.out, GE147.out, NB101_147.out, NB147_101.out, NB115_147.out, NB147_115.out, lc_2_⟩)
      skip
      rintro ⟨v136, v139, gb147⟩ w101 ⟨hS_, h0_, h1_, h2_, h3_, h4_, h5_, h6_, h7_, h8_, h9_, h10_, h11_, h12_, h13_⟩
      have n0_ : Aside0 (Kd.R (Kd.int .i64) 3 w101 w.heap.size (fun k_ => some k_ ≠ (u116000 : Value).ownBlock ∧ some k_ ≠ (.slice (some ad134) x179_4.length co87 : Value).ownBlock ∧ some k_ ≠ (.slice Ao30 x7_4.length co30 : Value).ownBlock) v139 y138) := ⟨h0_⟩
      have n1_ : Aside0 (Kd.R (Kd.int .i64) 3 w101 w.heap.size (fun k_ => some k_ ≠ (v139 : Value).ownBlock ∧ some k_ ≠ (.slice (some ad134) x179_4.length co87 : Value).ownBlock ∧ some k_ ≠ (.slice Ao30 x7_4.length co30 : Value).ownBlock) u116000 x116000_4) := ⟨h1_⟩
      have n2_ : Aside0 (Kd.R (Kd.int .i64) 3 w101 w.heap.size (fun k_ => some k_ ≠ (v139 : Value).ownBlock ∧ some k_ ≠ (u116000 : Value).ownBlock ∧ some k_ ≠ (.slice Ao30 x7_4.length co30 : Value).ownBlock) (.slice (some ad134) x179_4.length co87) x179_4) := ⟨h2_⟩
      have n3_ : Aside0 (Kd.R (Kd.int .i64) 3 w101 w.heap.size (fun k_ => some k_ ≠ (v139 : Value).ownBlock ∧ some k_ ≠ (u116000 : Value).ownBlock ∧ some k_ ≠ (.slice (some ad134) x179_4.length co87 : Value).ownBlock) (.slice Ao30 x7_4.length co30) x7_4) := ⟨h3_⟩
      have n4_ : Aside0 (w101.heap[gb101]? = some (.cells #[.slice A0_0 l0_0.length c0_0, .slice A0_1 l0_1.length c0_1, .slice A0_2 l0_2.length c0_2, .slice A0_3 l0_3.length c0_3, .slice A0_4 l0_4.length c0_4, .slice A0_5 l0_5.length c0_5, .int .i64 a0_6] 30 (0, 0))) := ⟨h4_⟩
      have n5_ : Aside0 (w101.heap[gb115]? = some (.cells #[u116000, .int .i64 t113] 28 (0, 0))) := ⟨h5_⟩
      have n6_ : Aside0 (w101.heap[gb147]? = some (.cells #[.slice none 0 0, .slice none 0 0] 24 (0, 0))) := ⟨h6_⟩
      have n7_ : Aside0 (w.heap.size ≤ gb147) := ⟨h7_⟩
      have n8_ : Aside0 (w.heap.size ≤ gb147) := ⟨h8_⟩
      have n9_ : Aside0 (gb101 ≠ gb147) := ⟨h9_⟩
      have n10_ : Aside0 (gb147 ≠ gb101) := ⟨h10_⟩
      have n11_ : Aside0 (gb115 ≠ gb147) := ⟨h11_⟩
      have n12_ : Aside0 (gb147 ≠ gb115) := ⟨h12_⟩
      have n13_ : Aside0 (Below w.heap.size w w101) := ⟨h13_⟩
      clear HO_7
      clear HO_179
      clear HO_116000
      clear BK101
      clear BK115
      clear HB
      clear h0_ h1_ h2_ h3_ h4_ h5_ h6_ h7_ h8_ h9_ h10_ h11_ h12_ h13_
      have HO140 := n0_
      have HO_116000 := n1_
      have HO_179 := n2_
      have HO_7 := n3_
      have BK101 := n4_
      have BK115 := n5_
      have BK147 := n6_
      have GW147 := n7_
      have GE147 := n8_
      have NB101_147 := n9_
      have NB147_101 := n10_
      have NB115_147 := n11_
      have NB147_115 := n12_
      have HB := n13_
      clear n0_ n1_ n2_ n3_ n4_ n5_ n6_ n7_ n8_ n9_ n10_ n11_ n12_ n13_
      have hHeld : w101.cell? ⟨gb101, 0, none⟩ = some (.slice A0_0 l0_0.length c0_0) ∧ w101.cell? ⟨gb101, 1, none⟩ = some (.slice A0_1 l0_1.length c0_1) ∧ w101.cell? ⟨gb101, 2, none⟩ = some (.slice A0_2 l0_2.length c0_2) ∧ w101.cell? ⟨gb101, 3, none⟩ = some (.slice A0_3 l0_3.length c0_3) ∧ w101.cell? ⟨gb101, 4, none⟩ = some (.slice A0_4 l0_4.length c0_4) ∧ w101.cell? ⟨gb101, 5, none⟩ = some (.slice A0_5 l0_5.length c0_5) ∧ w101.cell? ⟨gb101, 6, none⟩ = some (.int .i64 a0_6) := hS_
      refine norm_ (a' := ?_) ?_ ?_
      rotate_left
      ·simp only [putAll, Act.put, setIfInBounds_toArray, set_cons_zero, set_cons_succ]
       rfl
      refine one_ (i := 5) (N := some 190) #[true, true, true, true, true, true, true, true, true, false, false, true, false] rfl rfl (one_of HT_.out lc_12_) lc_33_ (fun K hK => ?_)
      refine Kd.R_lit_step (Kd.int .i64) _ 3 ?hg (N := 190) ?hd (xs := ([] : List Int)) (inner := []) (ok := fun _ => True) (okp := fun _ => True) ?hr ?hp (fun _ hk => hk) trivial (Below.refl _ _) (Nat.le_refl _) (by simp) ?_; (case hd => exact lc_34_); (case hg => exact lc_34_); (case hr => exact lc_18_); (case hp => exact (Reps.none _ _))
      intro v142 w102 ho103 hb hg_ hnew_
      clear hg_ hnew_
      (first | rw [← Ny141.out] at ho103 | (simp only [Int.reduceToNat] at ho103; rw [← Ny141.out] at ho103))
      have n0_ := Aside0.mk (Kd.R_elder' (pR HO_7.out) (Kd.R_base ho103) hb)
      have n1_ := Aside0.mk (Kd.R_elder' (pR HO_179.out) (Kd.R_base ho103) hb)
      have n2_ := Aside0.mk (Kd.R_elder' (pR HO_116000.out) (Kd.R_base ho103) hb)
      have n3_ := Aside0.mk (Kd.R_elder' (pR HO140.out) (Kd.R_base ho103) hb)
      have n4_ := Aside0.mk (Kd.R_lower (Kd.R_new' (Kd.R_new' (Kd.R_new' (Kd.R_new' ho103 (Kd.R_lt (pR HO_7.out))) (Kd.R_lt (pR HO_179.out))) (Kd.R_lt (pR HO_116000.out))) (Kd.R_lt (pR HO140.out))) (below_size lc_2_))
      have n5_ := Aside0.mk (bb BK101.out hb)
      have n6_ := Aside0.mk (bb BK115.out hb)
      have n7_ := Aside0.mk (bb BK147.out hb)
      have n8_ := Aside0.mk (below_step lc_2_ hb)
      clear HO_7
      clear HO_179
      clear HO_116000
      clear HO140
      clear BK101
      clear BK115
      clear BK147
      clear HB
      have HO_7 := n0_
      have HO_179 := n1_
      have HO_116000 := n2_
      have HO140 := n3_
      have HO143 := n4_
      have BK101 := n5_
      have BK115 := n6_
      have BK147 := n7_
      have HB := n8_
      clear n0_ n1_ n2_ n3_ n4_ n5_ n6_ n7_ n8_
      clear hb ho103
      refine hK.out _ _ (cz7 BK101.out) (fun hHeld => ?_)
      clear hK K
      refine norm_ (a' := ?_) ?_ ?_
      rotate_left
      ·show Act.put _ (some 190) _ = _
       simp only [Act.put, setIfInBounds_toArray, set_cons_zero, set_cons_succ, i64_w, i32_w]
       rfl
      exact norm_ lc_3_ (hJ0_4_5_11 (v136, v139, v142, gb147) _ ⟨hHeld, (rm HO140.out (fun _ hk => ⟨hk.2, ⟨hk.1.1, ⟨hk.1.2.1, hk.1.2.2⟩⟩⟩)), (rm HO143.out (fun _ hk => ⟨hk.2, ⟨hk.1.2, ⟨hk.1.1.2, hk.1.1.1.2⟩⟩⟩)), (rm HO_116000.out (fun _ hk => ⟨hk.1.1, ⟨hk.2, ⟨hk.1.2.1, hk.1.2.2⟩⟩⟩)), (rm HO_179.out (fun _ hk => ⟨hk.1.1, ⟨hk.2, ⟨hk.1.2.1, hk.1.2.2⟩⟩⟩)), (rm HO_7.out (fun _ hk => ⟨hk.1.1, ⟨hk.2, ⟨hk.1.2.1, hk.1.2.2⟩⟩⟩)), (pB BK101.out), (pB BK115.out), (pB BK147.out), GW147.out, GE147.out, NB101_147.out, NB147_101.out, NB115_147.out, NB147_115.out, lc_2_⟩)
     skip
     rintro ⟨v136, v139, v142⟩ w102 ⟨hS_, h0_, h1_, h2_, h3_, h4_, h5_, h6_, h7_⟩
     have n0_ : Aside0 (Kd.R (Kd.int .i64) 3 w102 w.heap.size (fun k_ => some k_ ≠ (v142 : Value).ownBlock ∧ some k_ ≠ (u116000 : Value).ownBlock ∧ some k_ ≠ (.slice (some ad134) x179_4.length co87 : Value).ownBlock ∧ some k_ ≠ (.slice Ao30 x7_4.length co30 : Value).ownBlock) v139 y138) := ⟨h0_⟩
     have n1_ : Aside0 (Kd.R (Kd.int .i64) 3 w102 w.heap.size (fun k_ => some k_ ≠ (v139 : Value).ownBlock ∧ some k_ ≠ (u116000 : Value).ownBlock ∧ some k_ ≠ (.slice (some ad134) x179_4.length co87 : Value).ownBlock ∧ some k_ ≠ (.slice Ao30 x7_4.length co30 : Value).ownBlock) v142 y141) := ⟨h1_⟩
     have n2_ : Aside0 (Kd.R (Kd.int .i64) 3 w102 w.heap.size (fun k_ => some k_ ≠ (v139 : Value).ownBlock ∧ some k_ ≠ (v142 : Value).ownBlock ∧ some k_ ≠ (.slice (some ad134) x179_4.length co87 : Value).ownBlock ∧ some k_ ≠ (.slice Ao30 x7_4.length co30 : Value).ownBlock) u116000 x116000_4) := ⟨h2_⟩
     have n3_ : Aside0 (Kd.R (Kd.int .i64) 3 w102 w.heap.size (fun k_ => some k_ ≠ (v139 : Value).ownBlock ∧ some k_ ≠ (v142 : Value).ownBlock ∧ some k_ ≠ (u116000 : Value).ownBlock ∧ some k_ ≠ (.slice Ao30 x7_4.length co30 : Value).ownBlock) (.slice (some ad134) x179_4.length co87) x179_4) := ⟨h3_⟩
     have n4_ : Aside0 (Kd.R (Kd.int .i64) 3 w102 w.heap.size (fun k_ => some k_ ≠ (v139 : Value).ownBlock ∧ some k_ ≠ (v142 : Value).ownBlock ∧ some k_ ≠ (u116000 : Value).ownBlock ∧ some k_ ≠ (.slice (some ad134) x179_4.length co87 : Value).ownBlock) (.slice Ao30 x7_4.length co30) x7_4) := ⟨h4_⟩
     have n5_ : Aside0 (w102.heap[gb101]? = some (.cells #[.slice A0_0 l0_0.length c0_0, .slice A0_1 l0_1.length c0_1, .slice A0_2 l0_2.length c0_2, .slice A0_3 l0_3.length c0_3, .slice A0_4 l0_4.length c0_4, .slice A0_5 l0_5.length c0_5, .int .i64 a0_6] 30 (0, 0))) := ⟨h5_⟩
     have n6_ : Aside0 (w102.heap[gb115]? = some (.cells #[u116000, .int .i64 t113] 28 (0, 0))) := ⟨h6_⟩
     have n7_ : Aside0 (Below w.heap.size w w102) := ⟨h7_⟩
     clear HO_7
     clear HO_179
     clear HO_116000
     clear BK101
     clear BK115
     clear HB
     clear h0_ h1_ h2_ h3_ h4_ h5_ h6_ h7_
     have HO140 := n0_
     have HO143 := n1_
     have HO_116000 := n2_
     have HO_179 := n3_
     have HO_7 := n4_
     have BK101 := n5_
     have BK115 := n6_
     have HB := n7_
     clear n0_ n1_ n2_ n3_ n4_ n5_ n6_ n7_
     have hHeld : w102.cell? ⟨gb101, 0, none⟩ = some (.slice A0_0 l0_0.length c0_0) ∧ w102.cell? ⟨gb101, 1, none⟩ = some (.slice A0_1 l0_1.length c0_1) ∧ w102.cell? ⟨gb101, 2, none⟩ = some (.slice A0_2 l0_2.length c0_2) ∧ w102.cell? ⟨gb101, 3, none⟩ = some (.slice A0_3 l0_3.length c0_3) ∧ w102.cell? ⟨gb101, 4, none⟩ = some (.slice A0_4 l0_4.length c0_4) ∧ w102.cell? ⟨gb101, 5, none⟩ = some (.slice A0_5 l0_5.length c0_5) ∧ w102.cell? ⟨gb101, 6, none⟩ = some (.int .i64 a0_6) := hS_
     refine norm_ (a' := ?_) ?_ ?_
     rotate_left
     ·simp only [putAll, Act.put, setIfInBounds_toArray, set_cons_zero, set_cons_succ]
      rfl
     refine two_ (i := 9) (j := 11) (Ni := some 194) (Nj := some 19) #[true, true, true, true, true, true, true, true, true, true, false, false, false] #[true, true, true, true, true, true, true, true, true, false, false, true, false] rfl rfl rfl rfl (two_of HT_.out lc_12_) lc_33_ lc_33_ (fun K hK => ?_) (fun K hK => ?_)
     ·skip
      refine Kd.R_append_rows_step (Kd.int .i64) (w0 := w) w.heap.size lc_34_ (.tmp 190) (.tmp 193) 22 3 (.int .i64 0) 8 rfl Try.underlying22 info3 rfl lc_33_ (by omega) v142 y141 l0_1 _ _ _ (fun k_ => some k_ ≠ (.slice Ao30 x7_4.length co30 : Value).ownBlock ∧ some k_ ≠ (.slice (some ad134) x179_4.length co87 : Value).ownBlock ∧ some k_ ≠ (u116000 : Value).ownBlock ∧ some k_ ≠ (v139 : Value).ownBlock) (fun _ => False) rfl rfl ?aO ?aR (fun _ _ h => h) (fun _ h => h.elim) ?aF ?aB ?aS ?aL ?_
      (case aR => exact lc_11_)
      (case aB => exact lc_1_)
      (case aF => exact lc_46_)
      (case aO => exact (rm HO143.out (fun _ hk => ⟨hk.2.2.2, ⟨hk.2.2.1, ⟨hk.2.1, hk.1⟩⟩⟩)))
      (case aS => exact (below_size lc_1_))
      (case aL => have := LMc92.out; omega)
      intro v145 w103 ho hb hg hat
      rw [← Ny144.out] at ho
      have n0_ := Aside0.mk (Kd.R_after (ok := (fun k_ => some k_ ≠ (.slice (some ad134) x179_4.length co87 : Value).ownBlock ∧ some k_ ≠ (u116000 : Value).ownBlock ∧ some k_ ≠ (v139 : Value).ownBlock)) (rm HO_7.out (fun _ hk => ⟨⟨hk.2.2.2, ⟨hk.2.2.1, hk.1⟩⟩, hk.2.1⟩)) hg hat)
      have n1_ := Aside0.mk (Kd.R_after (ok := (fun k_ => some k_ ≠ (.slice Ao30 x7_4.length co30 : Value).ownBlock ∧ some k_ ≠ (u116000 : Value).ownBlock ∧ some k_ ≠ (v139 : Value).ownBlock)) (rm HO_179.out (fun _ hk => ⟨⟨hk.2.2.2, ⟨hk.2.2.1, hk.1⟩⟩, hk.2.1⟩)) hg hat)
      have n2_ := Aside0.mk (Kd.R_after (ok := (fun k_ => some k_ ≠ (.slice Ao30 x7_4.length co30 : Value).ownBlock ∧ some k_ ≠ (.slice (some ad134) x179_4.length co87 : Value).ownBlock ∧ some k_ ≠ (v139 : Value).ownBlock)) (rm HO_116000.out (fun _ hk => ⟨⟨hk.2.2.2, ⟨hk.2.2.1, hk.1⟩⟩, hk.2.1⟩)) hg hat)
      have n3_ := Aside0.mk (blk_grown (g := gb101) (o := .cells #[.slice A0_0 l0_0.length c0_0, .slice A0_1 l0_1.length c0_1, .slice A0_2 l0_2.length c0_2, .slice A0_3 l0_3.length c0_3, .slice A0_4 l0_4.length c0_4, .slice A0_5 l0_5.length c0_5, .int .i64 a0_6] 30 (0, 0)) (pB BK101.out) hg (Kd.R_ne HO143.out BK101.out lc_33_))
      have n4_ := Aside0.mk (blk_grown (g := gb115) (o := .cells #[u116000, .int .i64 t113] 28 (0, 0)) (pB BK115.out) hg (Kd.R_ne HO143.out BK115.out lc_33_))
      have n5_ := Aside0.mk (Kd.R_after (ok := (fun k_ => some k_ ≠ (.slice Ao30 x7_4.length co30 : Value).ownBlock ∧ some k_ ≠ (.slice (some ad134) x179_4.length co87 : Value).ownBlock ∧ some k_ ≠ (u116000 : Value).ownBlock)) (rm HO140.out (fun _ hk => ⟨⟨hk.2.2.2, ⟨hk.2.2.1, hk.2.1⟩⟩, hk.1⟩)) hg hat)
      have n6_ := Aside0.mk (hb)
      have n7_ := Aside0.mk (ho)
      clear HO_7
      clear HO_179
      clear HO_116000
      clear BK101
      clear BK115
      clear HO140
      clear HB
      clear HO143
      have HO_7 := n0_
      have HO_179 := n1_
      have HO_116000 := n2_
      have BK101 := n3_
      have BK115 := n4_
      have HO140 := n5_
      have HB := n6_
      have HO146 := n7_
      clear n0_ n1_ n2_ n3_ n4_ n5_ n6_ n7_
      clear ho hb hg hat
      obtain ⟨Ao104, co104, eo104⟩ := Kd.R_slice HO146.out
      (first | subst eo104 | (injection eo104 with f1_ f2_ f3_; have f4_ := f1_.symm; have f5_ := f3_.symm; clear f1_ f2_ f3_; subst f4_; subst f5_))
      obtain ⟨Ao105, co105, eo105⟩ := Kd.R_slice HO140.out
      (first | subst eo105 | (injection eo105 with f1_ f2_ f3_; have f4_ := f1_.symm; have f5_ := f3_.symm; clear f1_ f2_ f3_; subst f4_; subst f5_))
      refine hK.out _ _ (cz7 BK101.out) (fun hHeld => ?_)
      clear hK K
      refine norm_ (a' := ?_) ?_ ?_
      rotate_left
      ·show Act.put _ (some 194) _ = _
       simp only [Act.put, setIfInBounds_toArray, set_cons_zero, set_cons_succ, i64_w, i32_w]
       rfl
      refine pure_ (i := 10) (N := some 195) (v := ?_) (a' := ?_) #[true, true, true, true, true, true, true, true, true, true, true, false, false] rfl rfl (any_of HT_.out lc_12_) (fun _ _ _ h => h) (Or.inl ⟨lc_34_, ?_⟩) ?_ ?_
      rotate_left
      ·intro w'
       go_simp
       with_reducible rfl
      rotate_left
      ·simp only [Act.put, setIfInBounds_toArray, set_cons_zero, set_cons_succ, i64_w, i32_w]
       rfl
      exact norm_ lc_3_ (hJ0_4_5_9 (v136, .slice Ao105 y138.length co105, v142, .slice Ao104 y144.length co104) _ ⟨hHeld, (rm HO140.out (fun _ hk => ⟨hk.2, ⟨hk.1.2.2, ⟨hk.1.2.1, hk.1.1⟩⟩⟩)), (rm HO146.out (fun _ hk => ⟨hk.2.2.2, ⟨hk.2.2.1, ⟨hk.2.1, hk.1⟩⟩⟩)), (rm HO_116000.out (fun _ hk => ⟨hk.1.2.2, ⟨hk.2, ⟨hk.1.2.1, hk.1.1⟩⟩⟩)), (rm HO_179.out (fun _ hk => ⟨hk.1.2.2, ⟨hk.2, ⟨hk.1.2.1, hk.1.1⟩⟩⟩)), (rm HO_7.out (fun _ hk => ⟨hk.1.2.2, ⟨hk.2, ⟨hk.1.2.1, hk.1.1⟩⟩⟩)), (pB BK101.out), (pB BK115.out), lc_1_⟩)
     skip
     refine box_step ?hg (N := 19) ?hd (cs := #[.slice none 0 0, .slice none 0 0]) (t := 24) ?hr ?_; (case hd => exact lc_34_); (case hg => exact lc_34_); (case hr => exact lc_18_)
     intro gb147 hg w103 hbox hb
     have n0_ := Aside0.mk (rb HO_7.out hb)
     have n1_ := Aside0.mk (rb HO_179.out hb)
     have n2_ := Aside0.mk (rb HO_116000.out hb)
     have n3_ := Aside0.mk (rb HO140.out hb)
     have n4_ := Aside0.mk (rb HO143.out hb)
     have n5_ := Aside0.mk (bb BK101.out hb)
     have n6_ := Aside0.mk (bb BK115.out hb)
     have n7_ := Aside0.mk (below_step lc_1_ hb)
     have n8_ := Aside0.mk (hbox)
     have n9_ := Aside0.mk ((lc_32_ : w.heap.size ≤ gb147))
     have n10_ := Aside0.mk ((lc_32_ : w.heap.size ≤ gb147))
     have n11_ := Aside0.mk ((lc_6_ : gb101 ≠ gb147))
     have n12_ := Aside0.mk ((lc_7_ : gb147 ≠ gb101))
     have n13_ := Aside0.mk ((lc_22_ : gb115 ≠ gb147))
     have n14_ := Aside0.mk ((lc_23_ : gb147 ≠ gb115))
     clear HO_7
     clear HO_179
     clear HO_116000
     clear HO140
     clear HO143
     clear BK101
     clear BK115
     clear HB
     have HO_7 := n0_
     have HO_179 := n1_
     have HO_116000 := n2_
     have HO140 := n3_
     have HO143 := n4_
     have BK101 := n5_
     have BK115 := n6_
     have HB := n7_
     have BK147 := n8_
     have GW147 := n9_
     have GE147 := n10_
     have NB101_147 := n11_
     have NB147_101 := n12_
     have NB115_147 := n13_
     have NB147_115 := n14_
     clear n0_ n1_ n2_ n3_ n4_ n5_ n6_ n7_ n8_ n9_ n10_ n11_ n12_ n13_ n14_
     clear hb hbox hg
     refine hK.out _ _ (cz7 BK101.out) (fun hHeld => ?_)
     clear hK K
     refine norm_ (a' := ?_) ?_ ?_
     rotate_left
     ·show Act.put _ (some 19) _ = _
      simp only [Act.put, setIfInBounds_toArray, set_cons_zero, set_cons_succ, i64_w, i32_w]
      rfl
     exact norm_ lc_3_ (hJ0_4_5_11 (v136, v139, v142, gb147) _ ⟨hHeld, (pR HO140.out), (pR HO143.out), (pR HO_116000.out), (pR HO_179.out), (pR HO_7.out), (pB BK101.out), (pB BK115.out), (pB BK147.out), GW147.out, GE147.out, NB101_147.out, NB147_101.out, NB115_147.out, NB147_115.out, lc_2_⟩)
    skip
    rintro ⟨v136, v139, v142, gb147⟩ w103 ⟨hS_, h0_, h1_, h2_, h3_, h4_, h5_, h6_, h7_, h8_, h9_, h10_, h11_, h12_, h13_, h14_⟩
    have n0_ : Aside0 (Kd.R (Kd.int .i64) 3 w103 w.heap.size (fun k_ => some k_ ≠ (v142 : Value).ownBlock ∧ some k_ ≠ (u116000 : Value).ownBlock ∧ some k_ ≠ (.slice (some ad134) x179_4.length co87 : Value).ownBlock ∧ some k_ ≠ (.slice Ao30 x7_4.length co30 : Value).ownBlock) v139 y138) := ⟨h0_⟩
    have n1_ : Aside0 (Kd.R (Kd.int .i64) 3 w103 w.heap.size (fun k_ => some k_ ≠ (v139 : Value).ownBlock ∧ some k_ ≠ (u116000 : Value).ownBlock ∧ some k_ ≠ (.slice (some ad134) x179_4.length co87 : Value).ownBlock ∧ some k_ ≠ (.slice Ao30 x7_4.length co30 : Value).ownBlock) v142 y141) := ⟨h1_⟩
    have n2_ : Aside0 (Kd.R (Kd.int .i64) 3 w103 w.heap.size (fun k_ => some k_ ≠ (v139 : Value).ownBlock ∧ some k_ ≠ (v142 : Value).ownBlock ∧ some k_ ≠ (.slice (some ad134) x179_4.length co87 : Value).ownBlock ∧ some k_ ≠ (.slice Ao30 x7_4.length co30 : Value).ownBlock) u116000 x116000_4) := ⟨h2_⟩
    have n3_ : Aside0 (Kd.R (Kd.int .i64) 3 w103 w.heap.size (fun k_ => some k_ ≠ (v139 : Value).ownBlock ∧ some k_ ≠ (v142 : Value).ownBlock ∧ some k_ ≠ (u116000 : Value).ownBlock ∧ some k_ ≠ (.slice Ao30 x7_4.length co30 : Value).ownBlock) (.slice (some ad134) x179_4.length co87) x179_4) := ⟨h3_⟩
    have n4_ : Aside0 (Kd.R (Kd.int .i64) 3 w103 w.heap.size (fun k_ => some k_ ≠ (v139 : Value).ownBlock ∧ some k_ ≠ (v142 : Value).ownBlock ∧ some k_ ≠ (u116000 : Value).ownBlock ∧ some k_ ≠ (.slice (some ad134) x179_4.length co87 : Value).ownBlock) (.slice Ao30 x7_4.length co30) x7_4) := ⟨h4_⟩
    have n5_ : Aside0 (w103.heap[gb101]? = some (.cells #[.slice A0_0 l0_0.length c0_0, .slice A0_1 l0_1.length c0_1, .slice A0_2 l0_2.length c0_2, .slice A0_3 l0_3.length c0_3, .slice A0_4 l0_4.length c0_4, .slice A0_5 l0_5.length c0_5, .int .i64 a0_6] 30 (0, 0))) := ⟨h5_⟩
    have n6_ : Aside0 (w103.heap[gb115]? = some (.cells #[u116000, .int .i64 t113] 28 (0, 0))) := ⟨h6_⟩
    have n7_ : Aside0 (w103.heap[gb147]? = some (.cells #[.slice none 0 0, .slice none 0 0] 24 (0, 0))) := ⟨h7_⟩
    have n8_ : Aside0 (w.heap.size ≤ gb147) := ⟨h8_⟩
    have n9_ : Aside0 (w.heap.size ≤ gb147) := ⟨h9_⟩
    have n10_ : Aside0 (gb101 ≠ gb147) := ⟨h10_⟩
    have n11_ : Aside0 (gb147 ≠ gb101) := ⟨h11_⟩
    have n12_ : Aside0 (gb115 ≠ gb147) := ⟨h12_⟩
    have n13_ : Aside0 (gb147 ≠ gb115) := ⟨h13_⟩
    have n14_ : Aside0 (Below w.heap.size w w103) := ⟨h14_⟩
    clear HO_7
    clear HO_179
    clear HO_116000
    clear BK101
    clear BK115
    clear HB
    clear h0_ h1_ h2_ h3_ h4_ h5_ h6_ h7_ h8_ h9_ h10_ h11_ h12_ h13_ h14_
    have HO140 := n0_
    have HO143 := n1_
    have HO_116000 := n2_
    have HO_179 := n3_
    have HO_7 := n4_
    have BK101 := n5_
    have BK115 := n6_
    have BK147 := n7_
    have GW147 := n8_
    have GE147 := n9_
    have NB101_147 := n10_
    have NB147_101 := n11_
    have NB115_147 := n12_
    have NB147_115 := n13_
    have HB := n14_
    clear n0_ n1_ n2_ n3_ n4_ n5_ n6_ n7_ n8_ n9_ n10_ n11_ n12_ n13_ n14_
    have hHeld : w103.cell? ⟨gb101, 0, none⟩ = some (.slice A0_0 l0_0.length c0_0) ∧ w103.cell? ⟨gb101, 1, none⟩ = some (.slice A0_1 l0_1.length c0_1) ∧ w103.cell? ⟨gb101, 2, none⟩ = some (.slice A0_2 l0_2.length c0_2) ∧ w103.cell? ⟨gb101, 3, none⟩ = some (.slice A0_3 l0_3.length c0_3) ∧ w103.cell? ⟨gb101, 4, none⟩ = some (.slice A0_4 l0_4.length c0_4) ∧ w103.cell? ⟨gb101, 5, none⟩ = some (.slice A0_5 l0_5.length c0_5) ∧ w103.cell? ⟨gb101, 6, none⟩ = some (.int .i64 a0_6) := hS_
    refine norm_ (a' := ?_) ?_ ?_
    rotate_left
    ·simp only [putAll, Act.put, setIfInBounds_toArray, set_cons_zero, set_cons_succ]
     rfl
    refine one_ (i := 9) (N := some 194) #[true, true, true, true, true, true, true, true, true, true, false, true, false] rfl rfl (one_of HT_.out lc_12_) lc_33_ (fun K hK => ?_)
    refine Kd.R_append_rows_step (Kd.int .i64) (w0 := w) w.heap.size lc_34_ (.tmp 190) (.tmp 193) 22 3 (.int .i64 0) 8 rfl Try.underlying22 info3 rfl lc_33_ (by omega) v142 y141 l0_1 _ _ _ (fun k_ => some k_ ≠ (.slice Ao30 x7_4.length co30 : Value).ownBlock ∧ some k_ ≠ (.slice (some ad134) x179_4.length co87 : Value).ownBlock ∧ some k_ ≠ (u116000 : Value).ownBlock ∧ some k_ ≠ (v139 : Value).ownBlock) (fun _ => False) rfl rfl ?aO ?aR (fun _ _ h => h) (fun _ h => h.elim) ?aF ?aB ?aS ?aL ?_
    (case aR => exact lc_11_)
    (case aB => exact lc_2_)
    (case aF => exact lc_46_)
    (case aO => exact (rm HO143.out (fun _ hk => ⟨hk.2.2.2, ⟨hk.2.2.1, ⟨hk.2.1, hk.1⟩⟩⟩)))
    (case aS => exact (below_size lc_2_))
    (case aL => have := LMc92.out; omega)
    intro v145 w104 ho hb hg hat
    rw [← Ny144.out] at ho
    have n0_ := Aside0.mk (Kd.R_after (ok := (fun k_ => some k_ ≠ (.slice (some ad134) x179_4.length co87 : Value).ownBlock ∧ some k_ ≠ (u116000 : Value).ownBlock ∧ some k_ ≠ (v139 : Value).ownBlock)) (rm HO_7.out (fun _ hk => ⟨⟨hk.2.2.2, ⟨hk.2.2.1, hk.1⟩⟩, hk.2.1⟩)) hg hat)
    have n1_ := Aside0.mk (Kd.R_after (ok := (fun k_ => some k_ ≠ (.slice Ao30 x7_4.length co30 : Value).ownBlock ∧ some k_ ≠ (u116000 : Value).ownBlock ∧ some k_ ≠ (v139 : Value).ownBlock)) (rm HO_179.out (fun _ hk => ⟨⟨hk.2.2.2, ⟨hk.2.2.1, hk.1⟩⟩, hk.2.1⟩)) hg hat)
    have n2_ := Aside0.mk (Kd.R_after (ok := (fun k_ => some k_ ≠ (.slice Ao30 x7_4.length co30 : Value).ownBlock ∧ some k_ ≠ (.slice (some ad134) x179_4.length co87 : Value).ownBlock ∧ some k_ ≠ (v139 : Value).ownBlock)) (rm HO_116000.out (fun _ hk => ⟨⟨hk.2.2.2, ⟨hk.2.2.1, hk.1⟩⟩, hk.2.1⟩)) hg hat)
    have n3_ := Aside0.mk (blk_grown (g := gb101) (o := .cells #[.slice A0_0 l0_0.length c0_0, .slice A0_1 l0_1.length c0_1, .slice A0_2 l0_2.length c0_2, .slice A0_3 l0_3.length c0_3, .slice A0_4 l0_4.length c0_4, .slice A0_5 l0_5.length c0_5, .int .i64 a0_6] 30 (0, 0)) (pB BK101.out) hg (Kd.R_ne HO143.out BK101.out lc_33_))
    have n4_ := Aside0.mk (blk_grown (g := gb115) (o := .cells #[u116000, .int .i64 t113] 28 (0, 0)) (pB BK115.out) hg (Kd.R_ne HO143.out BK115.out lc_33_))
    have n5_ := Aside0.mk (Kd.R_after (ok := (fun k_ => some k_ ≠ (.slice Ao30 x7_4.length co30 : Value).ownBlock ∧ some k_ ≠ (.slice (some ad134) x179_4.length co87 : Value).ownBlock ∧ some k_ ≠ (u116000 : Value).ownBlock)) (rm HO140.out (fun _ hk => ⟨⟨hk.2.2.2, ⟨hk.2.2.1, hk.2.1⟩⟩, hk.1⟩)) hg hat)
    have n6_ := Aside0.mk (blk_grown (g := gb147) (o := .cells #[.slice none 0 0, .slice none 0 0] 24 (0, 0)) (pB BK147.out) hg (Kd.R_ne HO143.out BK147.out lc_33_))
    have n7_ := Aside0.mk (hb)
    have n8_ := Aside0.mk (ho)
    clear HO_7
    clear HO_179
    clear HO_116000
    clear BK101
    clear BK115
    clear HO140
    clear BK147
    clear HB
    clear HO143
    have HO_7 := n0_
    have HO_179 := n1_
    have HO_116000 := n2_
    have BK101 := n3_
    have BK115 := n4_
    have HO140 := n5_
    have BK147 := n6_
    have HB := n7_
    have HO146 := n8_
    clear n0_ n1_ n2_ n3_ n4_ n5_ n6_ n7_ n8_
    clear ho hb hg hat
    obtain ⟨Ao105, co105, eo105⟩ := Kd.R_slice HO146.out
    (first | subst eo105 | (injection eo105 with f1_ f2_ f3_; have f4_ := f1_.symm; have f5_ := f3_.symm; clear f1_ f2_ f3_; subst f4_; subst f5_))
    obtain ⟨Ao106, co106, eo106⟩ := Kd.R_slice HO140.out
    (first | subst eo106 | (injection eo106 with f1_ f2_ f3_; have f4_ := f1_.symm; have f5_ := f3_.symm; clear f1_ f2_ f3_; subst f4_; subst f5_))
    refine hK.out _ _ (cz7 BK101.out) (fun hHeld => ?_)
    clear hK K
    refine norm_ (a' := ?_) ?_ ?_
    rotate_left
    ·show Act.put _ (some 194) _ = _
     simp only [Act.put, setIfInBounds_toArray, set_cons_zero, set_cons_succ, i64_w, i32_w]
     rfl
    refine pure_ (i := 10) (N := some 195) (v := ?_) (a' := ?_) #[true, true, true, true, true, true, true, true, true, true, true, true, false] rfl rfl (any_of HT_.out lc_12_) (fun _ _ _ h => h) (Or.inl ⟨lc_34_, ?_⟩) ?_ ?_
    rotate_left
    ·intro w'
     go_simp
     with_reducible rfl
    rotate_left
    ·simp only [Act.put, setIfInBounds_toArray, set_cons_zero, set_cons_succ, i64_w, i32_w]
     rfl
    exact norm_ lc_3_ (hJ0_4_5_9_11 (v136, .slice Ao106 y138.length co106, v142, .slice Ao105 y144.length co105, gb147) _ ⟨hHeld, (rm HO140.out (fun _ hk => ⟨hk.2, ⟨hk.1.2.2, ⟨hk.1.2.1, hk.1.1⟩⟩⟩)), (rm HO146.out (fun _ hk => ⟨hk.2.2.2, ⟨hk.2.2.1, ⟨hk.2.1, hk.1⟩⟩⟩)), (rm HO_116000.out (fun _ hk => ⟨hk.1.2.2, ⟨hk.2, ⟨hk.1.2.1, hk.1.1⟩⟩⟩)), (rm HO_179.out (fun _ hk => ⟨hk.1.2.2, ⟨hk.2, ⟨hk.1.2.1, hk.1.1⟩⟩⟩)), (rm HO_7.out (fun _ hk => ⟨hk.1.2.2, ⟨hk.2, ⟨hk.1.2.1, hk.1.1⟩⟩⟩)), (pB BK101.out), (pB BK115.out), (pB BK147.out), GW147.out, GE147.out, NB101_147.out, NB147_101.out, NB115_147.out, NB147_115.out, lc_2_⟩)
   skip
   rintro ⟨v136, v139, v142, v145⟩ w105 ⟨hS_, h0_, h1_, h2_, h3_, h4_, h5_, h6_, h7_⟩
   have n0_ : Aside0 (Kd.R (Kd.int .i64) 3 w105 w.heap.size (fun k_ => some k_ ≠ (v145 : Value).ownBlock ∧ some k_ ≠ (u116000 : Value).ownBlock ∧ some k_ ≠ (.slice (some ad134) x179_4.length co87 : Value).ownBlock ∧ some k_ ≠ (.slice Ao30 x7_4.length co30 : Value).ownBlock) v139 y138) := ⟨h0_⟩
   have n1_ : Aside0 (Kd.R (Kd.int .i64) 3 w105 w.heap.size (fun k_ => some k_ ≠ (v139 : Value).ownBlock ∧ some k_ ≠ (u116000 : Value).ownBlock ∧ some k_ ≠ (.slice (some ad134) x179_4.length co87 : Value).ownBlock ∧ some k_ ≠ (.slice Ao30 x7_4.length co30 : Value).ownBlock) v145 y144) := ⟨h1_⟩
   have n2_ : Aside0 (Kd.R (Kd.int .i64) 3 w105 w.heap.size (fun k_ => some k_ ≠ (v139 : Value).ownBlock ∧ some k_ ≠ (v145 : Value).ownBlock ∧ some k_ ≠ (.slice (some ad134) x179_4.length co87 : Value).ownBlock ∧ some k_ ≠ (.slice Ao30 x7_4.length co30 : Value).ownBlock) u116000 x116000_4) := ⟨h2_⟩
   have n3_ : Aside0 (Kd.R (Kd.int .i64) 3 w105 w.heap.size (fun k_ => some k_ ≠ (v139 : Value).ownBlock ∧ some k_ ≠ (v145 : Value).ownBlock ∧ some k_ ≠ (u116000 : Value).ownBlock ∧ some k_ ≠ (.slice Ao30 x7_4.length co30 : Value).ownBlock) (.slice (some ad134) x179_4.length co87) x179_4) := ⟨h3_⟩
   have n4_ : Aside0 (Kd.R (Kd.int .i64) 3 w105 w.heap.size (fun k_ => some k_ ≠ (v139 : Value).ownBlock ∧ some k_ ≠ (v145 : Value).ownBlock ∧ some k_ ≠ (u116000 : Value).ownBlock ∧ some k_ ≠ (.slice (some ad134) x179_4.length co87 : Value).ownBlock) (.slice Ao30 x7_4.length co30) x7_4) := ⟨h4_⟩
   have n5_ : Aside0 (w105.heap[gb101]? = some (.cells #[.slice A0_0 l0_0.length c0_0, .slice A0_1 l0_1.length c0_1, .slice A0_2 l0_2.length c0_2, .slice A0_3 l0_3.length c0_3, .slice A0_4 l0_4.length c0_4, .slice A0_5 l0_5.length c0_5, .int .i64 a0_6] 30 (0, 0))) := ⟨h5_⟩
   have n6_ : Aside0 (w105.heap[gb115]? = some (.cells #[u116000, .int .i64 t113] 28 (0, 0))) := ⟨h6_⟩
   have n7_ : Aside0 (Below w.heap.size w w105) := ⟨h7_⟩
   clear HO_7
   clear HO_179
   clear HO_116000
   clear BK101
   clear BK115
   clear HB
   clear h0_ h1_ h2_ h3_ h4_ h5_ h6_ h7_
   have HO140 := n0_
   have HO146 := n1_
   have HO_116000 := n2_
   have HO_179 := n3_
   have HO_7 := n4_
   have BK101 := n5_
   have BK115 := n6_
   have HB := n7_
   clear n0_ n1_ n2_ n3_ n4_ n5_ n6_ n7_
   have hHeld : w105.cell? ⟨gb101, 0, none⟩ = some (.slice A0_0 l0_0.length c0_0) ∧ w105.cell? ⟨gb101, 1, none⟩ = some (.slice A0_1 l0_1.length c0_1) ∧ w105.cell? ⟨gb101, 2, none⟩ = some (.slice A0_2 l0_2.length c0_2) ∧ w105.cell? ⟨gb101, 3, none⟩ = some (.slice A0_3 l0_3.length c0_3) ∧ w105.cell? ⟨gb101, 4, none⟩ = some (.slice A0_4 l0_4.length c0_4) ∧ w105.cell? ⟨gb101, 5, none⟩ = some (.slice A0_5 l0_5.length c0_5) ∧ w105.cell? ⟨gb101, 6, none⟩ = some (.int .i64 a0_6) := hS_
   obtain ⟨Ao106, co106, eo106⟩ := Kd.R_slice HO146.out
   (first | subst eo106 | (injection eo106 with f1_ f2_ f3_; have f4_ := f1_.symm; have f5_ := f3_.symm; clear f1_ f2_ f3_; subst f4_; subst f5_))
   obtain ⟨Ao107, co107, eo107⟩ := Kd.R_slice HO140.out
   (first | subst eo107 | (injection eo107 with f1_ f2_ f3_; have f4_ := f1_.symm; have f5_ := f3_.symm; clear f1_ f2_ f3_; subst f4_; subst f5_))
   refine norm_ (a' := ?_) ?_ ?_
   rotate_left
   ·simp only [putAll, Act.put, setIfInBounds_toArray, set_cons_zero, set_cons_succ]
    rfl
   refine one_ (i := 11) (N := some 19) #[true, true, true, true, true, true, true, true, true, true, true, true, false] rfl rfl (one_of HT_.out lc_12_) lc_33_ (fun K hK => ?_)
   refine box_step ?hg (N := 19) ?hd (cs := #[.slice none 0 0, .slice none 0 0]) (t := 24) ?hr ?_; (case hd => exact lc_34_); (case hg => exact lc_34_); (case hr => exact lc_18_)
   intro gb147 hg w108 hbox hb
   have n0_ := Aside0.mk (rb HO_7.out hb)
   have n1_ := Aside0.mk (rb HO_179.out hb)
   have n2_ := Aside0.mk (rb HO_116000.out hb)
   have n3_ := Aside0.mk (rb HO140.out hb)
   have n4_ := Aside0.mk (rb HO146.out hb)
   have n5_ := Aside0.mk (bb BK101.out hb)
   have n6_ := Aside0.mk (bb BK115.out hb)
   have n7_ := Aside0.mk (below_step lc_1_ hb)
   have n8_ := Aside0.mk (hbox)
   have n9_ := Aside0.mk ((lc_32_ : w.heap.size ≤ gb147))
   have n10_ := Aside0.mk ((lc_32_ : w.heap.size ≤ gb147))
   have n11_ := Aside0.mk ((lc_6_ : gb101 ≠ gb147))
   have n12_ := Aside0.mk ((lc_7_ : gb147 ≠ gb101))
   have n13_ := Aside0.mk ((lc_22_ : gb115 ≠ gb147))
   have n14_ := Aside0.mk ((lc_23_ : gb147 ≠ gb115))
   clear HO_7
   clear HO_179
   clear HO_116000
   clear HO140
   clear HO146
   clear BK101
   clear BK115
   clear HB
   have HO_7 := n0_
   have HO_179 := n1_
   have HO_116000 := n2_
   have HO140 := n3_
   have HO146 := n4_
   have BK101 := n5_
   have BK115 := n6_
   have HB := n7_
   have BK147 := n8_
   have GW147 := n9_
   have GE147 := n10_
   have NB101_147 := n11_
   have NB147_101 := n12_
   have NB115_147 := n13_
   have NB147_115 := n14_
   clear n0_ n1_ n2_ n3_ n4_ n5_ n6_ n7_ n8_ n9_ n10_ n11_ n12_ n13_ n14_
   clear hb hbox hg
   refine hK.out _ _ (cz7 BK101.out) (fun hHeld => ?_)
   clear hK K
   refine norm_ (a' := ?_) ?_ ?_
   rotate_left
   ·show Act.put _ (some 19) _ = _
    simp only [Act.put, setIfInBounds_toArray, set_cons_zero, set_cons_succ, i64_w, i32_w]
    rfl
   exact norm_ lc_3_ (hJ0_4_5_9_11 (v136, .slice Ao107 y138.length co107, v142, .slice Ao106 y144.length co106, gb147) _ ⟨hHeld, (pR HO140.out), (pR HO146.out), (pR HO_116000.out), (pR HO_179.out), (pR HO_7.out), (pB BK101.out), (pB BK115.out), (pB BK147.out), GW147.out, GE147.out, NB101_147.out, NB147_101.out, NB115_147.out, NB147_115.out, lc_2_⟩)
  rintro ⟨v136, v139, v142, v145, gb147⟩ w106 ⟨hS_, h0_, h1_, h2_, h3_, h4_, h5_, h6_, h7_, h8_, h9_, h10_, h11_, h12_, h13_, h14_⟩
  have n0_ : Aside0 (Kd.R (Kd.int .i64) 3 w106 w.heap.size (fun k_ => some k_ ≠ (v145 : Value).ownBlock ∧ some k_ ≠ (u116000 : Value).ownBlock ∧ some k_ ≠ (.slice (some ad134) x179_4.length co87 : Value).ownBlock ∧ some k_ ≠ (.slice Ao30 x7_4.length co30 : Value).ownBlock) v139 y138) := ⟨h0_⟩
  have n1_ : Aside0 (Kd.R (Kd.int .i64) 3 w106 w.heap.size (fun k_ => some k_ ≠ (v139 : Value).ownBlock ∧ some k_ ≠ (u116000 : Value).ownBlock ∧ some k_ ≠ (.slice (some ad134) x179_4.length co87 : Value).ownBlock ∧ some k_ ≠ (.slice Ao30 x7_4.length co30 : Value).ownBlock) v145 y144) := ⟨h1_⟩
  have n2_ : Aside0 (Kd.R (Kd.int .i64) 3 w106 w.heap.size (fun k_ => some k_ ≠ (v139 : Value).ownBlock ∧ some k_ ≠ (v145 : Value).ownBlock ∧ some k_ ≠ (.slice (some ad134) x179_4.length co87 : Value).ownBlock ∧ some k_ ≠ (.slice Ao30 x7_4.length co30 : Value).ownBlock) u116000 x116000_4) := ⟨h2_⟩
  have n3_ : Aside0 (Kd.R (Kd.int .i64) 3 w106 w.heap.size (fun k_ => some k_ ≠ (v139 : Value).ownBlock ∧ some k_ ≠ (v145 : Value).ownBlock ∧ some k_ ≠ (u116000 : Value).ownBlock ∧ some k_ ≠ (.slice Ao30 x7_4.length co30 : Value).ownBlock) (.slice (some ad134) x179_4.length co87) x179_4) := ⟨h3_⟩
  have n4_ : Aside0 (Kd.R (Kd.int .i64) 3 w106 w.heap.size (fun k_ => some k_ ≠ (v139 : Value).ownBlock ∧ some k_ ≠ (v145 : Value).ownBlock ∧ some k_ ≠ (u116000 : Value).ownBlock ∧ some k_ ≠ (.slice (some ad134) x179_4.length co87 : Value).ownBlock) (.slice Ao30 x7_4.length co30) x7_4) := ⟨h4_⟩
  have n5_ : Aside0 (w106.heap[gb101]? = some (.cells #[.slice A0_0 l0_0.length c0_0, .slice A0_1 l0_1.length c0_1, .slice A0_2 l0_2.length c0_2, .slice A0_3 l0_3.length c0_3, .slice A0_4 l0_4.length c0_4, .slice A0_5 l0_5.length c0_5, .int .i64 a0_6] 30 (0, 0))) := ⟨h5_⟩
  have n6_ : Aside0 (w106.heap[gb115]? = some (.cells #[u116000, .int .i64 t113] 28 (0, 0))) := ⟨h6_⟩
  have n7_ : Aside0 (w106.heap[gb147]? = some (.cells #[.slice none 0 0, .slice none 0 0] 24 (0, 0))) := ⟨h7_⟩
  have n8_ : Aside0 (w.heap.size ≤ gb147) := ⟨h8_⟩
  have n9_ : Aside0 (w.heap.size ≤ gb147) := ⟨h9_⟩
  have n10_ : Aside0 (gb101 ≠ gb147) := ⟨h10_⟩
  have n11_ : Aside0 (gb147 ≠ gb101) := ⟨h11_⟩
  have n12_ : Aside0 (gb115 ≠ gb147) := ⟨h12_⟩
  have n13_ : Aside0 (gb147 ≠ gb115) := ⟨h13_⟩
  have n14_ : Aside0 (Below w.heap.size w w106) := ⟨h14_⟩
  clear HO_7
  clear HO_179
  clear HO_116000
  clear BK101
  clear BK115
  clear HB
  clear h0_ h1_ h2_ h3_ h4_ h5_ h6_ h7_ h8_ h9_ h10_ h11_ h12_ h13_ h14_
  have HO140 := n0_
  have HO146 := n1_
  have HO_116000 := n2_
  have HO_179 := n3_
  have HO_7 := n4_
  have BK101 := n5_
  have BK115 := n6_
  have BK147 := n7_
  have GW147 := n8_
  have GE147 := n9_
  have NB101_147 := n10_
  have NB147_101 := n11_
  have NB115_147 := n12_
  have NB147_115 := n13_
  have HB := n14_
  clear n0_ n1_ n2_ n3_ n4_ n5_ n6_ n7_ n8_ n9_ n10_ n11_ n12_ n13_ n14_
  have hHeld : w106.cell? ⟨gb101, 0, none⟩ = some (.slice A0_0 l0_0.length c0_0) ∧ w106.cell? ⟨gb101, 1, none⟩ = some (.slice A0_1 l0_1.length c0_1) ∧ w106.cell? ⟨gb101, 2, none⟩ = some (.slice A0_2 l0_2.length c0_2) ∧ w106.cell? ⟨gb101, 3, none⟩ = some (.slice A0_3 l0_3.length c0_3) ∧ w106.cell? ⟨gb101, 4, none⟩ = some (.slice A0_4 l0_4.length c0_4) ∧ w106.cell? ⟨gb101, 5, none⟩ = some (.slice A0_5 l0_5.length c0_5) ∧ w106.cell? ⟨gb101, 6, none⟩ = some (.int .i64 a0_6) := hS_
  obtain ⟨Ao107, co107, eo107⟩ := Kd.R_slice HO146.out
  (first | subst eo107 | (injection eo107 with f1_ f2_ f3_; have f4_ := f1_.symm; have f5_ := f3_.symm; clear f1_ f2_ f3_; subst f4_; subst f5_))
  obtain ⟨Ao108, co108, eo108⟩ := Kd.R_slice HO140.out
  (first | subst eo108 | (injection eo108 with f1_ f2_ f3_; have f4_ := f1_.symm; have f5_ := f3_.symm; clear f1_ f2_ f3_; subst f4_; subst f5_))
  refine norm_ (a' := ?_) ?_ ?_
  rotate_left
  ·simp only [putAll, Act.put, setIfInBounds_toArray, set_cons_zero, set_cons_succ]
   rfl
  refine one_ (i := 12) (N := none) #[true, true, true, true, true, true, true, true, true, true, true, true, true] rfl rfl (one_of HT_.out lc_12_) lc_33_ (fun K hK => ?_)
  have hs109 : w106.cell? ⟨gb147, 0, none⟩ = some (.slice none 0 0) := (blk_cell BK147.out 0).trans rfl
  have hfs109 := blk_frozen BK147.out 0
  have hns109_0 := NB101_147.out
  have hns109_1 := NB115_147.out
  have hms109_0 := NB147_101.out
  have hms109_1 := NB147_115.out
  have hs110 : w106.cell? ⟨gb147, 1, none⟩ = some (.slice none 0 0) := (blk_cell BK147.out 1).trans rfl
  have hfs110 := blk_frozen BK147.out 1
  have hns110_0 := NB101_147.out
  have hns110_1 := NB115_147.out
  have hms110_0 := NB147_101.out
  have hms110_1 := NB147_115.out
  refine skip_ (w1 := ?_) lc_34_ rfl ?_ ?_
  rotate_left
  ·go_simp
   rfl
  refine hK.out _ _ ⟨((cell_far (p := ⟨gb147, _, none⟩) NB101_147.out _).trans (((cell_far (p := ⟨gb147, _, none⟩) NB101_147.out _).trans (hHeld.1)))), ((cell_far (p := ⟨gb147, _, none⟩) NB101_147.out _).trans (((cell_far (p := ⟨gb147, _, none⟩) NB101_147.out _).trans (hHeld.2.1)))), ((cell_far (p := ⟨gb147, _, none⟩) NB101_147.out _).trans (((cell_far (p := ⟨gb147, _, none⟩) NB101_147.out _).trans (hHeld.2.2.1)))), ((cell_far (p := ⟨gb147, _, none⟩) NB101_147.out _).trans (((cell_far (p := ⟨gb147, _, none⟩) NB101_147.out _).trans (hHeld.2.2.2.1)))), ((cell_far (p := ⟨gb147, _, none⟩) NB101_147.out _).trans (((cell_far (p := ⟨gb147, _, none⟩) NB101_147.out _).trans (hHeld.2.2.2.2.1)))), ((cell_far (p := ⟨gb147, _, none⟩) NB101_147.out _).trans (((cell_far (p := ⟨gb147, _, none⟩) NB101_147.out _).trans (hHeld.2.2.2.2.2.1)))), ((cell_far (p := ⟨gb147, _, none⟩) NB101_147.out _).trans (((cell_far (p := ⟨gb147, _, none⟩) NB101_147.out _).trans (hHeld.2.2.2.2.2.2))))⟩ (fun hHeld => ?_)
  clear hK K
  refine done_ (done_of HT_.out lc_12_) ?_
  have n0_ : Aside0 (Kd.R (Kd.int .i64) 3 ((w106.setCell ⟨gb147, 0, none⟩ (.slice Ao108 y138.length co108)).setCell ⟨gb147, 1, none⟩ (.slice Ao107 y144.length co107)) w.heap.size (fun k_ => some k_ ≠ (.slice (some ad134) x179_4.length co87 : Value).ownBlock ∧ some k_ ≠ (u116000 : Value).ownBlock ∧ some k_ ≠ (.slice Ao108 y138.length co108 : Value).ownBlock ∧ some k_ ≠ (.slice Ao107 y144.length co107 : Value).ownBlock) (.slice Ao30 x7_4.length co30) x7_4) := ⟨by (with_reducible repeat (first | apply Kd.R_alloc | apply Kd.R_drewN | apply Kd.R_drew)); exact Kd.R_mono (Kd.R_far (p := ⟨gb147, 1, none⟩) (Kd.R_far (p := ⟨gb147, 0, none⟩) (Kd.R_types HO_7.out BK147.out lc_33_) (fun _ hk => hk.2) (.slice Ao108 y138.length co108)) (fun _ hk => hk.2) (.slice Ao107 y144.length co107)) (fun _ hk => ⟨hk.1.2.2.2, ⟨hk.1.2.2.1, ⟨hk.1.1, hk.1.2.1⟩⟩⟩)⟩
  have n1_ : Aside0 (Kd.R (Kd.int .i64) 3 ((w106.setCell ⟨gb147, 0, none⟩ (.slice Ao108 y138.length co108)).setCell ⟨gb147, 1, none⟩ (.slice Ao107 y144.length co107)) w.heap.size (fun k_ => some k_ ≠ (.slice Ao30 x7_4.length co30 : Value).ownBlock ∧ some k_ ≠ (u116000 : Value).ownBlock ∧ some k_ ≠ (.slice Ao108 y138.length co108 : Value).ownBlock ∧ some k_ ≠ (.slice Ao107 y144.length co107 : Value).ownBlock) (.slice (some ad134) x179_4.length co87) x179_4) := ⟨by (with_reducible repeat (first | apply Kd.R_alloc | apply Kd.R_drewN | apply Kd.R_drew)); exact Kd.R_mono (Kd.R_far (p := ⟨gb147, 1, none⟩) (Kd.R_far (p := ⟨gb147, 0, none⟩) (Kd.R_types HO_179.out BK147.out lc_33_) (fun _ hk => hk.2) (.slice Ao108 y138.length co108)) (fun _ hk => hk.2) (.slice Ao107 y144.length co107)) (fun _ hk => ⟨hk.1.2.2.2, ⟨hk.1.2.2.1, ⟨hk.1.1, hk.1.2.1⟩⟩⟩)⟩
  have n2_ : Aside0 (Kd.R (Kd.int .i64) 3 ((w106.setCell ⟨gb147, 0, none⟩ (.slice Ao108 y138.length co108)).setCell ⟨gb147, 1, none⟩ (.slice Ao107 y144.length co107)) w.heap.size (fun k_ => some k_ ≠ (.slice Ao30 x7_4.length co30 : Value).ownBlock ∧ some k_ ≠ (.slice (some ad134) x179_4.length co87 : Value).ownBlock ∧ some k_ ≠ (.slice Ao108 y138.length co108 : Value).ownBlock ∧ some k_ ≠ (.slice Ao107 y144.length co107 : Value).ownBlock) u116000 x116000_4) := ⟨by (with_reducible repeat (first | apply Kd.R_alloc | apply Kd.R_drewN | apply Kd.R_drew)); exact Kd.R_mono (Kd.R_far (p := ⟨gb147, 1, none⟩) (Kd.R_far (p := ⟨gb147, 0, none⟩) (Kd.R_types HO_116000.out BK147.out lc_33_) (fun _ hk => hk.2) (.slice Ao108 y138.length co108)) (fun _ hk => hk.2) (.slice Ao107 y144.length co107)) (fun _ hk => ⟨hk.1.2.2.2, ⟨hk.1.2.2.1, ⟨hk.1.1, hk.1.2.1⟩⟩⟩)⟩
  have n3_ : Aside0 (Kd.R (Kd.int .i64) 3 ((w106.setCell ⟨gb147, 0, none⟩ (.slice Ao108 y138.length co108)).setCell ⟨gb147, 1, none⟩ (.slice Ao107 y144.length co107)) w.heap.size (fun k_ => some k_ ≠ (.slice Ao30 x7_4.length co30 : Value).ownBlock ∧ some k_ ≠ (.slice (some ad134) x179_4.length co87 : Value).ownBlock ∧ some k_ ≠ (u116000 : Value).ownBlock ∧ some k_ ≠ (.slice Ao107 y144.length co107 : Value).ownBlock) (.slice Ao108 y138.length co108) y138) := ⟨by (with_reducible repeat (first | apply Kd.R_alloc | apply Kd.R_drewN | apply Kd.R_drew)); exact Kd.R_mono (Kd.R_far (p := ⟨gb147, 1, none⟩) (Kd.R_far (p := ⟨gb147, 0, none⟩) (Kd.R_types HO140.out BK147.out lc_33_) (fun _ hk => hk.2) (.slice Ao108 y138.length co108)) (fun _ hk => hk.2) (.slice Ao107 y144.length co107)) (fun _ hk => ⟨hk.1.2.2.2, ⟨hk.1.2.2.1, ⟨hk.1.2.1, hk.1.1⟩⟩⟩)⟩
  have n4_ : Aside0 (Kd.R (Kd.int .i64) 3 ((w106.setCell ⟨gb147, 0, none⟩ (.slice Ao108 y138.length co108)).setCell ⟨gb147, 1, none⟩ (.slice Ao107 y144.length co107)) w.heap.size (fun k_ => some k_ ≠ (.slice Ao30 x7_4.length co30 : Value).ownBlock ∧ some k_ ≠ (.slice (some ad134) x179_4.length co87 : Value).ownBlock ∧ some k_ ≠ (u116000 : Value).ownBlock ∧ some k_ ≠ (.slice Ao108 y138.length co108 : Value).ownBlock) (.slice Ao107 y144.length co107) y144) := ⟨by (with_reducible repeat (first | apply Kd.R_alloc | apply Kd.R_drewN | apply Kd.R_drew)); exact Kd.R_mono (Kd.R_far (p := ⟨gb147, 1, none⟩) (Kd.R_far (p := ⟨gb147, 0, none⟩) (Kd.R_types HO146.out BK147.out lc_33_) (fun _ hk => hk.2) (.slice Ao108 y138.length co108)) (fun _ hk => hk.2) (.slice Ao107 y144.length co107)) (fun _ hk => ⟨hk.1.2.2.2, ⟨hk.1.2.2.1, ⟨hk.1.2.1, hk.1.1⟩⟩⟩)⟩
  have n5_ : Aside0 (((w106.setCell ⟨gb147, 0, none⟩ (.slice Ao108 y138.length co108)).setCell ⟨gb147, 1, none⟩ (.slice Ao107 y144.length co107)).heap[gb101]? = some (.cells #[.slice A0_0 l0_0.length c0_0, .slice A0_1 l0_1.length c0_1, .slice A0_2 l0_2.length c0_2, .slice A0_3 l0_3.length c0_3, .slice A0_4 l0_4.length c0_4, .slice A0_5 l0_5.length c0_5, .int .i64 a0_6] 30 (0, 0))) := ⟨by (with_reducible repeat (first | refine blk_drewN ?_ _ | refine blk_drew ?_ | refine blk_alloc ?_ _)); refine blk_far ?_ NB101_147.out _; (with_reducible repeat (first | refine blk_drewN ?_ _ | refine blk_drew ?_ | refine blk_alloc ?_ _)); refine blk_far ?_ NB101_147.out _; (with_reducible repeat (first | refine blk_drewN ?_ _ | refine blk_drew ?_ | refine blk_alloc ?_ _)); exact BK101.out⟩
  have n6_ : Aside0 (((w106.setCell ⟨gb147, 0, none⟩ (.slice Ao108 y138.length co108)).setCell ⟨gb147, 1, none⟩ (.slice Ao107 y144.length co107)).heap[gb115]? = some (.cells #[u116000, .int .i64 t113] 28 (0, 0))) := ⟨by (with_reducible repeat (first | refine blk_drewN ?_ _ | refine blk_drew ?_ | refine blk_alloc ?_ _)); refine blk_far ?_ NB115_147.out _; (with_reducible repeat (first | refine blk_drewN ?_ _ | refine blk_drew ?_ | refine blk_alloc ?_ _)); refine blk_far ?_ NB115_147.out _; (with_reducible repeat (first | refine blk_drewN ?_ _ | refine blk_drew ?_ | refine blk_alloc ?_ _)); exact BK115.out⟩
  have n7_ : Aside0 (((w106.setCell ⟨gb147, 0, none⟩ (.slice Ao108 y138.length co108)).setCell ⟨gb147, 1, none⟩ (.slice Ao107 y144.length co107)).heap[gb147]? = some (.cells #[.slice Ao108 y138.length co108, .slice Ao107 y144.length co107] 24 (0, 0))) := ⟨by (with_reducible repeat (first | refine blk_drewN ?_ _ | refine blk_drew ?_ | refine blk_alloc ?_ _)); refine blk_put (cs := #[.slice Ao108 y138.length co108, .slice none 0 0]) ?_ 1 _ rfl; (with_reducible repeat (first | refine blk_drewN ?_ _ | refine blk_drew ?_ | refine blk_alloc ?_ _)); refine blk_put (cs := #[.slice none 0 0, .slice none 0 0]) ?_ 0 _ rfl; (with_reducible repeat (first | refine blk_drewN ?_ _ | refine blk_drew ?_ | refine blk_alloc ?_ _)); exact BK147.out⟩
  have n8_ : Aside0 (Below w.heap.size w ((w106.setCell ⟨gb147, 0, none⟩ (.slice Ao108 y138.length co108)).setCell ⟨gb147, 1, none⟩ (.slice Ao107 y144.length co107))) := ⟨lc_2_⟩
  (try clear HO_7)
  (try clear HO_179)
  (try clear HO_116000)
  (try clear HO140)
  (try clear HO146)
  (try clear BK101)
  (try clear BK115)
  (try clear BK147)
  (try clear HB)
  generalize ((w106.setCell ⟨gb147, 0, none⟩ (.slice Ao108 y138.length co108)).setCell ⟨gb147, 1, none⟩ (.slice Ao107 y144.length co107)) = w111 at n0_ n1_ n2_ n3_ n4_ n5_ n6_ n7_ n8_ ⊢
  have HO_7 := n0_
  have HO_179 := n1_
  have HO_116000 := n2_
  have HO140 := n3_
  have HO146 := n4_
  have BK101 := n5_
  have BK115 := n6_
  have BK147 := n7_
  have HB := n8_
  clear n0_ n1_ n2_ n3_ n4_ n5_ n6_ n7_ n8_
  have hnb112 := NB147_101.out
  have hnc112 := NB101_147.out
  have hnb113 := NB147_115.out
  have hnc113 := NB115_147.out
  obtain ⟨hcz114_0, hcz114_1⟩ := cz2 BK147.out
  have hfz114_0 := blk_frozen BK147.out 0
  have hfz114_1 := blk_frozen BK147.out 1
  have p95 : 0 ≤ ((ji78) : Int) := of_decide_eq_true lc_8_
  have q95 : ((ji78) : Int) < ((y138.length : Int) : Int) := of_decide_eq_true lc_8_
  obtain ⟨go95, co95, eo95, gb95, gl95, cl95, HG95⟩ := Kd.R_form HO140.out (by omega)
  (first | cases eo95 | (injection eo95 with ea_ en_ ec_; (first | subst ea_ | (injection ea_ with ea_; subst ea_)); subst ec_; clear en_))
  have GB95 := Aside0.mk gb95
  have GG95 := Aside0.mk HG95
  clear gb95 gl95 HG95
  obtain ⟨hx95_0, hf95_0⟩ := Kd.R_celln 0 HO140.out ((ji78) : Int) p95 q95
  replace p95 := eq_true p95
  replace q95 := eq_true q95
  obtain ⟨hy115_, hz115_⟩ := Kd.R_celln 0 HO140.out ((ji78) : Int) (of_decide_eq_true lc_8_) (of_decide_eq_true lc_8_)
  have HP115 := Kd.R_putg HO140.out ((ji78) : Int) (rd x179_4 x181_4)
  try go_wp2_with (first | ((with_reducible refine gate_store (t := 3) (p := 200) rfl ?_); refine store_event (t := 3) (p := 200) (v := ?vo_w116) (w1 := (w111.setCell ⟨go95, ((ji78) : Int).toNat, none⟩ (.int .i64 (rd x179_4 x181_4)))) ?hg ?ho ?hn ?hr ?_; (case ho => exact lc_34_); (case hg => exact lc_34_); (case hn => exact lc_34_); (case hr => exact lc_18_); intro w116 hw; have hg : w111.grownBy w116 (some go95) := (by rw [hw]; exact HP115.2); have hp_ : Kd.R (Kd.int .i64) 3 w116 w.heap.size (fun k_ => some k_ ≠ (.slice Ao30 x7_4.length co30 : Value).ownBlock ∧ some k_ ≠ (.slice (some ad134) x179_4.length co87 : Value).ownBlock ∧ some k_ ≠ (u116000 : Value).ownBlock ∧ some k_ ≠ (.slice Ao107 y144.length co107 : Value).ownBlock) (.slice (some ⟨go95, 0, none⟩) y138.length co108) y148 := (by rw [hw, Ny148.out]; exact HP115.1); clear HP115; have n0_ := Aside0.mk (Kd.R_after (v := (.slice (some ⟨go95, 0, none⟩) y138.length co108)) (v1 := (.slice (some ⟨go95, 0, none⟩) y138.length co108)) (ok := (fun k_ => some k_ ≠ (.slice (some ad134) x179_4.length co87 : Value).ownBlock ∧ some k_ ≠ (u116000 : Value).ownBlock ∧ some k_ ≠ (.slice Ao107 y144.length co107 : Value).ownBlock)) (rm HO_7.out (fun _ hk => ⟨⟨hk.1, ⟨hk.2.1, hk.2.2.2⟩⟩, hk.2.2.1⟩)) hg (.inl rfl)); have n1_ := Aside0.mk (Kd.R_after (v := (.slice (some ⟨go95, 0, none⟩) y138.length co108)) (v1 := (.slice (some ⟨go95, 0, none⟩) y138.length co108)) (ok := (fun k_ => some k_ ≠ (.slice Ao30 x7_4.length co30 : Value).ownBlock ∧ some k_ ≠ (u116000 : Value).ownBlock ∧ some k_ ≠ (.slice Ao107 y144.length co107 : Value).ownBlock)) (rm HO_179.out (fun _ hk => ⟨⟨hk.1, ⟨hk.2.1, hk.2.2.2⟩⟩, hk.2.2.1⟩)) hg (.inl rfl)); have n2_ := Aside0.mk (Kd.R_after (v := (.slice (some ⟨go95, 0, none⟩) y138.length co108)) (v1 := (.slice (some ⟨go95, 0, none⟩) y138.length co108)) (ok := (fun k_ => some k_ ≠ (.slice Ao30 x7_4.length co30 : Value).ownBlock ∧ some k_ ≠ (.slice (some ad134) x179_4.length co87 : Value).ownBlock ∧ some k_ ≠ (.slice Ao107 y144.length co107 : Value).ownBlock)) (rm HO_116000.out (fun _ hk => ⟨⟨hk.1, ⟨hk.2.1, hk.2.2.2⟩⟩, hk.2.2.1⟩)) hg (.inl rfl)); have n3_ := Aside0.mk (blk_grown (g := gb101) (o := .cells #[.slice A0_0 l0_0.length c0_0, .slice A0_1 l0_1.length c0_1, .slice A0_2 l0_2.length c0_2, .slice A0_3 l0_3.length c0_3, .slice A0_4 l0_4.length c0_4, .slice A0_5 l0_5.length c0_5, .int .i64 a0_6] 30 (0, 0)) (pB BK101.out) hg (Kd.R_ne HO140.out BK101.out lc_33_)); have n4_ := Aside0.mk (blk_grown (g := gb115) (o := .cells #[u116000, .int .i64 t113] 28 (0, 0)) (pB BK115.out) hg (Kd.R_ne HO140.out BK115.out lc_33_)); have n5_ := Aside0.mk (hp_); have n6_ := Aside0.mk (Kd.R_after (v := (.slice (some ⟨go95, 0, none⟩) y138.length co108)) (v1 := (.slice (some ⟨go95, 0, none⟩) y138.length co108)) (ok := (fun k_ => some k_ ≠ (.slice Ao30 x7_4.length co30 : Value).ownBlock ∧ some k_ ≠ (.slice (some ad134) x179_4.length co87 : Value).ownBlock ∧ some k_ ≠ (u116000 : Value).ownBlock)) (rm HO146.out (fun _ hk => ⟨⟨hk.1, ⟨hk.2.1, hk.2.2.1⟩⟩, hk.2.2.2⟩)) hg (.inl rfl)); have n7_ := Aside0.mk (blk_grown (g := gb147) (o := .cells #[.slice (some ⟨go95, 0, none⟩) y138.length co108, .slice Ao107 y144.length co107] 24 (0, 0)) (pB BK147.out) hg (Kd.R_ne HO140.out BK147.out lc_33_)); have n8_ := Aside0.mk ((by rw [hw]; exact below_set (HB.out) GB95.out : Below w.heap.size w w116)); clear HO_7 HO_179 HO_116000 BK101 BK115 HO140 HO146 BK147 HB; have HO_7 := n0_; have HO_179 := n1_; have HO_116000 := n2_; have BK101 := n3_; have BK115 := n4_; have HO140 := n5_; have HO146 := n6_; have BK147 := n7_; have HB := n8_; clear n0_ n1_ n2_ n3_ n4_ n5_ n6_ n7_ n8_ hg hw hp_; have hnb117 := NB101_115.out; have hnc117 := NB115_101.out; obtain ⟨hcz118_0, hcz118_1, hcz118_2, hcz118_3, hcz118_4, hcz118_5, hcz118_6⟩ := cz7 BK101.out; have hfz118_0 := blk_frozen BK101.out 0; have hfz118_1 := blk_frozen BK101.out 1; have hfz118_2 := blk_frozen BK101.out 2; have hfz118_3 := blk_frozen BK101.out 3; have hfz118_4 := blk_frozen BK101.out 4; have hfz118_5 := blk_frozen BK101.out 5; have hfz118_6 := blk_frozen BK101.out 6))
  go_loopg [204] k4 (fun kq v204 w' => ∃ (x7_5 : List Int) (x179_5 : List Int) (x204_5 : Int) (x116000_5 : List Int) (x148000_5 : List Int) (x148001_5 : List Int) (u116000 : Value) (u148000 : Value) (u148001 : Value), v204 = .int .i64 x204_5 ∧ Aside0 (quietuslaw43_TagsCountForgeries.l2 kq x7_5 (l0_0.length : Int) (ji78) (Int.tmod (wrap64 (x14_3 * t130)) 2147483647) (rd x179_4 x181_4) x179_5 (y131.length : Int) x181_4 l0_2 (l0_2.length : Int) x204_5 l0_0 l0_1 l0_2 l0_3 l0_4 l0_5 a0_6 x116000_5 t113 x148000_5 x148001_5 = some r) ∧ Aside0 (kq ≤ k4) ∧ Aside0 (Kd.R (Kd.int .i64) 3 w' w.heap.size (fun k_ => some k_ ≠ ((.slice (some ad134) x179_4.length co87) : Value).ownBlock ∧ some k_ ≠ (u116000 : Value).ownBlock ∧ some k_ ≠ (u148000 : Value).ownBlock ∧ some k_ ≠ (u148001 : Value).ownBlock) (.slice Ao30 x7_4.length co30) x7_5) ∧ Aside0 (Kd.R (Kd.int .i64) 3 w' w.heap.size (fun k_ => some k_ ≠ ((.slice Ao30 x7_4.length co30) : Value).ownBlock ∧ some k_ ≠ (u116000 : Value).ownBlock ∧ some k_ ≠ (u148000 : Value).ownBlock ∧ some k_ ≠ (u148001 : Value).ownBlock) (.slice (some ad134) x179_4.length co87) x179_5) ∧ Aside0 (Kd.R (Kd.int .i64) 3 w' w.heap.size (fun k_ => some k_ ≠ ((.slice Ao30 x7_4.length co30) : Value).ownBlock ∧ some k_ ≠ ((.slice (some ad134) x179_4.length co87) : Value).ownBlock ∧ some k_ ≠ (u148000 : Value).ownBlock ∧ some k_ ≠ (u148001 : Value).ownBlock) u116000 x116000_5) ∧ Aside0 (Kd.R (Kd.int .i64) 3 w' w.heap.size (fun k_ => some k_ ≠ ((.slice Ao30 x7_4.length co30) : Value).ownBlock ∧ some k_ ≠ ((.slice (some ad134) x179_4.length co87) : Value).ownBlock ∧ some k_ ≠ (u116000 : Value).ownBlock ∧ some k_ ≠ (u148001 : Value).ownBlock) u148000 x148000_5) ∧ Aside0 (Kd.R (Kd.int .i64) 3 w' w.heap.size (fun k_ => some k_ ≠ ((.slice Ao30 x7_4.length co30) : Value).ownBlock ∧ some k_ ≠ ((.slice (some ad134) x179_4.length co87) : Value).ownBlock ∧ some k_ ≠ (u116000 : Value).ownBlock ∧ some k_ ≠ (u148000 : Value).ownBlock) u148001 x148001_5) ∧ Aside0 (w'.heap[gb101]? = some (.cells #[(.slice A0_0 l0_0.length c0_0), (.slice A0_1 l0_1.length c0_1), (.slice A0_2 l0_2.length c0_2), (.slice A0_3 l0_3.length c0_3), (.slice A0_4 l0_4.length c0_4), (.slice A0_5 l0_5.length c0_5), .int .i64 a0_6] 30 (0, 0))) ∧ Aside0 (w'.heap[gb115]? = some (.cells #[u116000, .int .i64 t113] 28 (0, 0))) ∧ Aside0 (w'.heap[gb147]? = some (.cells #[u148000, u148001] 24 (0, 0))) ∧ Aside0 (Below w.heap.size w w'))
  case atStart => exact ⟨(x7_4), (x179_4), (0), (x116000_4), (y148), (y144), (u116000), (.slice (some ⟨go95, 0, none⟩) y138.length co108), (.slice Ao107 y144.length co107), lc_16_, H', ⟨Nat.le_refl _⟩, ⟨by (try simp only [hl13_3]); (try simp only [hl7_4]); (try simp only [hl179_4]); (with_reducible repeat (first | apply Kd.R_alloc | apply Kd.R_drewN | apply Kd.R_drew)); exact Kd.R_mono HO_7.out (fun _ hk => ⟨hk.1.1, ⟨hk.1.2.1, ⟨hk.2, hk.1.2.2⟩⟩⟩)⟩, ⟨by (try simp only [hl13_3]); (try simp only [hl7_4]); (try simp only [hl179_4]); (with_reducible repeat (first | apply Kd.R_alloc | apply Kd.R_drewN | apply Kd.R_drew)); exact Kd.R_mono HO_179.out (fun _ hk => ⟨hk.1.1, ⟨hk.1.2.1, ⟨hk.2, hk.1.2.2⟩⟩⟩)⟩, ⟨by (try simp only [hl13_3]); (try simp only [hl7_4]); (try simp only [hl179_4]); (with_reducible repeat (first | apply Kd.R_alloc | apply Kd.R_drewN | apply Kd.R_drew)); exact Kd.R_mono HO_116000.out (fun _ hk => ⟨hk.1.1, ⟨hk.1.2.1, ⟨hk.2, hk.1.2.2⟩⟩⟩)⟩, ⟨by (try simp only [hl13_3]); (try simp only [hl7_4]); (try simp only [hl179_4]); (with_reducible repeat (first | apply Kd.R_alloc | apply Kd.R_drewN | apply Kd.R_drew)); exact HO140.out⟩, ⟨by (try simp only [hl13_3]); (try simp only [hl7_4]); (try simp only [hl179_4]); (with_reducible repeat (first | apply Kd.R_alloc | apply Kd.R_drewN | apply Kd.R_drew)); exact Kd.R_mono HO146.out (fun _ hk => ⟨hk.1.1, ⟨hk.1.2.1, ⟨hk.1.2.2, hk.2⟩⟩⟩)⟩, ⟨by (try simp only [hl13_3]); (try simp only [hl7_4]); (try simp only [hl179_4]); (with_reducible repeat (first | refine blk_drewN ?_ _ | refine blk_drew ?_ | refine blk_alloc ?_ _)); exact BK101.out⟩, ⟨by (try simp only [hl13_3]); (try simp only [hl7_4]); (try simp only [hl179_4]); (with_reducible repeat (first | refine blk_drewN ?_ _ | refine blk_drew ?_ | refine blk_alloc ?_ _)); exact BK115.out⟩, ⟨by (try simp only [hl13_3]); (try simp only [hl7_4]); (try simp only [hl179_4]); (with_reducible repeat (first | refine blk_drewN ?_ _ | refine blk_drew ?_ | refine blk_alloc ?_ _)); exact BK147.out⟩, ⟨lc_2_⟩⟩
  case round => as_aux_lemma =>
   clear H'
   obtain ⟨x7_5, x179_5, x204_5, x116000_5, x148000_5, x148001_5, u116000, u148000, u148001, rfl, HA, HK5, HO_7, HO_179, HO_116000, HO_148000, HO_148001, BK101, BK115, BK147, HB⟩ := hrel
   have hl7_5 := (Kd.R_reads' HO_7.out).1
   rw [hl7_5] at HO_7
   (try simp only [hl7_5])
   (try simp only [hl7_5] at BK101)
   (try simp only [hl7_5] at BK115)
   (try simp only [hl7_5] at BK147)
   (try simp only [hl7_5] at HO_179)
   (try simp only [hl7_5] at HO_116000)
   (try simp only [hl7_5] at HO_148000)
   (try simp only [hl7_5] at HO_148001)
   have hl179_5 := (Kd.R_reads' HO_179.out).1
   rw [hl179_5] at HO_179
   (try simp only [hl179_5])
   (try simp only [hl179_5] at BK101)
   (try simp only [hl179_5] at BK115)
   (try simp only [hl179_5] at BK147)
   (try simp only [hl179_5] at HO_7)
   (try simp only [hl179_5] at HO_116000)
   (try simp only [hl179_5] at HO_148000)
   (try simp only [hl179_5] at HO_148001)
   rcases gk with _ | k5
   ·exact absurd HA.out (by simp [quietuslaw43_TagsCountForgeries.l2])
   have H := HA.out
   clear HA
   simp only [quietuslaw43_TagsCountForgeries.l2] at H
   by_cases c119 : x204_5 < (l0_2.length : Int)
   ·rw [if_pos c119] at H
    have c119b0 : decide (x204_5 < (l0_2.length : Int)) = true := decide_eq_true c119
    clear c119
    by_cases c120 : 0 ≤ x204_5
    rotate_left
    ·rw [if_neg c120] at H
     exact absurd H (by simp)
    rw [if_pos c120] at H
    have c120b0 : decide (0 ≤ x204_5) = true := decide_eq_true c120
    clear c120
    by_cases c121 : x204_5 < (l0_2.length : Int)
    rotate_left
    ·rw [if_neg c121] at H
     exact absurd H (by simp)
    rw [if_pos c121] at H
    have c121b0 : decide (x204_5 < (l0_2.length : Int)) = true := decide_eq_true c121
    clear c121
    replace H := Option.bind_eq_some_iff.mp H
    obtain ⟨⟨t150, t151⟩, A1220, H⟩ := H
    (try dsimp only at H)
    have A122 := Aside0.mk A1220
    clear A1220
    by_cases c123 : t151 = 0
    rotate_left
    ·rw [if_neg c123] at H
     have c123b0 : (t151 == 0) = false := beq_eq_false_iff_ne.mpr c123
     have c123b1 : (t151 != 0) = true := bne_iff_ne.mpr c123
     obtain rfl := Option.some.inj H
     have p149 : 0 ≤ (x204_5 : Int) := of_decide_eq_true lc_8_
     have q149 : x204_5 < (l0_2.length : Int) := of_decide_eq_true lc_8_
     obtain ⟨ad149, e149, hx149_0⟩ := Kd.at_string HR0_2.out x204_5 p149 q149
     cases e149
     replace hx149_0 := (HB.out.cell (World.block_lt_of_cell? w _ hx149_0)).trans hx149_0
     replace p149 := eq_true p149
     replace q149 := eq_true q149
     have hnb135 := NB147_101.out
     have hnc135 := NB101_147.out
     have hnb136 := NB147_115.out
     have hnc136 := NB115_147.out
     obtain ⟨hcz137_0, hcz137_1⟩ := cz2 BK147.out
     have hfz137_0 := blk_frozen BK147.out 0
     have hfz137_1 := blk_frozen BK147.out 1
     obtain ⟨Ao138, co138, eo138⟩ := Kd.R_slice HO_148000.out
     subst eo138
     obtain ⟨Ao139, co139, eo139⟩ := Kd.R_slice HO_148001.out
     subst eo139
     go_wp2_with (first | ((with_reducible refine gate_callee (f := 13) rfl ?_); refine goesL_ (some 213) rfl rfl Try.func13 lc_12_ rfl #[.agg #[.slice Ao138 x148000_5.length co138, .slice Ao139 x148001_5.length co139], .int .i64 x204_5, .string (rdOf ByteArray.empty l0_2 x204_5)] rfl lc_5_ ?_; (with_reducible refine (P.tag_Make.calls k5 _ _ x148000_5 _ _ x148001_5 x204_5 (rdOf ByteArray.empty l0_2 x204_5) t150 t151 _ ?side1 ?side2 ?side3 ?side4 A122.out).mono ?_); (case side1 => exact lc_29_); (case side2 => exact (Kd.R_reads' HO_148000.out).2.1); (case side3 => exact lc_30_); (case side4 => exact (Kd.R_reads' HO_148001.out).2.1); rintro e w140 ⟨rfl, hb⟩; refine ⟨_, rfl, ?_⟩; have n0_ := Aside0.mk (rb HO_7.out hb); have n1_ := Aside0.mk (rb HO_179.out hb); have n2_ := Aside0.mk (rb HO_116000.out hb); have n3_ := Aside0.mk (rb HO_148000.out hb); have n4_ := Aside0.mk (rb HO_148001.out hb); have n5_ := Aside0.mk (bb BK101.out hb); have n6_ := Aside0.mk (bb BK115.out hb); have n7_ := Aside0.mk (bb BK147.out hb); have n8_ := Aside0.mk (below_step lc_2_ hb); clear HO_7 HO_179 HO_116000 HO_148000 HO_148001 BK101 BK115 BK147 HB; have HO_7 := n0_; have HO_179 := n1_; have HO_116000 := n2_; have HO_148000 := n3_; have HO_148001 := n4_; have BK101 := n5_; have BK115 := n6_; have BK147 := n7_; have HB := n8_; clear n0_ n1_ n2_ n3_ n4_ n5_ n6_ n7_ n8_; (try clear hb); (try clear hb2); (try clear hk); (try clear hi)))
     go_ret
     exact ⟨lc_17_, lc_2_⟩
    rw [if_pos c123] at H
    have c123b0 : (t151 == 0) = true := beq_iff_eq.mpr c123
    have c123b1 : (t151 != 0) = false := bne_eq_false_iff_eq.mpr c123
    clear c123
    by_cases c124 : x204_5 < (x148001_5.length : Int)
    rotate_left
    ·rw [if_neg c124] at H
     exact absurd H (by simp)
    rw [if_pos c124] at H
    have c124b0 : decide (x204_5 < (x148001_5.length : Int)) = true := decide_eq_true c124
    clear c124
    by_cases c125 : x204_5 < (x7_5.length : Int)
    rotate_left
    ·rw [if_neg c125] at H
     exact absurd H (by simp)
    rw [if_pos c125] at H
    have c125b0 : decide (x204_5 < (x7_5.length : Int)) = true := decide_eq_true c125
    clear c125
    obtain ⟨y154, hy154⟩ : ∃ y_ : List Int, y_ = (x148001_5.set (x204_5 : Int).toNat (Int.tmod (wrap64 ((wrap64 ((wrap64 ((rd x148001_5 x204_5) + (rd x7_5 x204_5))) - t150)) + 2147483647)) 2147483647)) := ⟨_, rfl⟩
    replace H : (quietuslaw43_TagsCountForgeries.l2 k5 x7_5 (l0_0.length : Int) (ji78) (Int.tmod (wrap64 (x14_3 * t130)) 2147483647) (rd x179_4 x181_4) x179_5 (y131.length : Int) x181_4 l0_2 (l0_2.length : Int) (wrap64 (x204_5 + 1)) l0_0 l0_1 l0_2 l0_3 l0_4 l0_5 a0_6 x116000_5 t113 x148000_5 y154) = some r := by first | (rw [hy154]; with_reducible exact H) | (have H2_ := (Option.bind_some _ _).symm.trans H; rw [hy154]; with_reducible exact H2_) | (have H2_ := (Option.bind_some _ _).symm.trans H; with_reducible exact H2_) | with_reducible exact H | (rw [hy154]; exact H) | exact H
    have Ny154 := Aside0.mk hy154
    clear hy154
    have H' := Aside0.mk H
    clear H
    have p149 : 0 ≤ (x204_5 : Int) := of_decide_eq_true lc_8_
    have q149 : x204_5 < (l0_2.length : Int) := of_decide_eq_true lc_8_
    obtain ⟨ad149, e149, hx149_0⟩ := Kd.at_string HR0_2.out x204_5 p149 q149
    cases e149
    replace hx149_0 := (HB.out.cell (World.block_lt_of_cell? w _ hx149_0)).trans hx149_0
    replace p149 := eq_true p149
    replace q149 := eq_true q149
    have hnb127 := NB147_101.out
    have hnc127 := NB101_147.out
    have hnb128 := NB147_115.out
    have hnc128 := NB115_147.out
    obtain ⟨hcz129_0, hcz129_1⟩ := cz2 BK147.out
    have hfz129_0 := blk_frozen BK147.out 0
    have hfz129_1 := blk_frozen BK147.out 1
    obtain ⟨Ao130, co130, eo130⟩ := Kd.R_slice HO_148000.out
    subst eo130
    obtain ⟨Ao131, co131, eo131⟩ := Kd.R_slice HO_148001.out
    subst eo131
    try go_wp2_with (first | ((with_reducible refine gate_callee (f := 13) rfl ?_); refine goesL_ (some 213) rfl rfl Try.func13 lc_12_ rfl #[.agg #[.slice Ao130 x148000_5.length co130, .slice Ao131 x148001_5.length co131], .int .i64 x204_5, .string (rdOf ByteArray.empty l0_2 x204_5)] rfl lc_5_ ?_; (with_reducible refine (P.tag_Make.calls k5 _ _ x148000_5 _ _ x148001_5 x204_5 (rdOf ByteArray.empty l0_2 x204_5) t150 t151 _ ?side1 ?side2 ?side3 ?side4 A122.out).mono ?_); (case side1 => exact lc_29_); (case side2 => exact (Kd.R_reads' HO_148000.out).2.1); (case side3 => exact lc_30_); (case side4 => exact (Kd.R_reads' HO_148001.out).2.1); rintro e w132 ⟨rfl, hb⟩; refine ⟨_, rfl, ?_⟩; have n0_ := Aside0.mk (rb HO_7.out hb); have n1_ := Aside0.mk (rb HO_179.out hb); have n2_ := Aside0.mk (rb HO_116000.out hb); have n3_ := Aside0.mk (rb HO_148000.out hb); have n4_ := Aside0.mk (rb HO_148001.out hb); have n5_ := Aside0.mk (bb BK101.out hb); have n6_ := Aside0.mk (bb BK115.out hb); have n7_ := Aside0.mk (bb BK147.out hb); have n8_ := Aside0.mk (below_step lc_2_ hb); clear HO_7 HO_179 HO_116000 HO_148000 HO_148001 BK101 BK115 BK147 HB; have HO_7 := n0_; have HO_179 := n1_; have HO_116000 := n2_; have HO_148000 := n3_; have HO_148001 := n4_; have BK101 := n5_; have BK115 := n6_; have BK147 := n7_; have HB := n8_; clear n0_ n1_ n2_ n3_ n4_ n5_ n6_ n7_ n8_; (try clear hb); (try clear hb2); (try clear hk); (try clear hi)))
    have n0_ := Aside0.mk (Kd.R_drew HO_7.out)
    have n1_ := Aside0.mk (Kd.R_drew HO_179.out)
    have n2_ := Aside0.mk (Kd.R_drew HO_116000.out)
    have n3_ := Aside0.mk (Kd.R_drew HO_148000.out)
    have n4_ := Aside0.mk (Kd.R_drew HO_148001.out)
    have n5_ := Aside0.mk (blk_drew BK101.out)
    have n6_ := Aside0.mk (blk_drew BK115.out)
    have n7_ := Aside0.mk (blk_drew BK147.out)
    have n8_ := Aside0.mk (below_drew1 HB.out)
    clear HO_7
    clear HO_179
    clear HO_116000
    clear HO_148000
    clear HO_148001
    clear BK101
    clear BK115
    clear BK147
    clear HB
    have HO_7 := n0_
    have HO_179 := n1_
    have HO_116000 := n2_
    have HO_148000 := n3_
    have HO_148001 := n4_
    have BK101 := n5_
    have BK115 := n6_
    have BK147 := n7_
    have HB := n8_
    clear n0_ n1_ n2_ n3_ n4_ n5_ n6_ n7_ n8_
    have p152 : 0 ≤ (x204_5 : Int) := of_decide_eq_true lc_8_
    have q152 : x204_5 < (x148001_5.length : Int) := of_decide_eq_true lc_8_
    obtain ⟨ad152, e152, hx152_0⟩ := Kd.at_int (Kd.R_reads' HO_148001.out).2.2 x204_5 p152 q152
    cases e152
    replace p152 := eq_true p152
    replace q152 := eq_true q152
    have p153 : 0 ≤ (x204_5 : Int) := of_decide_eq_true lc_8_
    have q153 : x204_5 < (x7_5.length : Int) := of_decide_eq_true lc_8_
    obtain ⟨ad153, e153, hx153_0⟩ := Kd.at_int (Kd.R_reads' HO_7.out).2.2 x204_5 p153 q153
    cases e153
    replace p153 := eq_true p153
    replace q153 := eq_true q153
    have p126 : 0 ≤ (x204_5 : Int) := of_decide_eq_true lc_8_
    have q126 : (x204_5 : Int) < ((x148001_5.length : Int) : Int) := of_decide_eq_true lc_8_
    obtain ⟨go126, co126, eo126, gb126, gl126, cl126, HG126⟩ := Kd.R_form HO_148001.out (by omega)
    (first | cases eo126 | (injection eo126 with ea_ en_ ec_; (first | subst ea_ | (injection ea_ with ea_; subst ea_)); subst ec_; clear en_))
    have GB126 := Aside0.mk gb126
    have GG126 := Aside0.mk HG126
    clear gb126 gl126 HG126
    (first | simp only [add_plain] at hx152_0 | skip)
    obtain ⟨hx126_0, hf126_0⟩ := Kd.R_celln 0 HO_148001.out (x204_5 : Int) p126 q126
    replace p126 := eq_true p126
    replace q126 := eq_true q126
    have HP134 := Kd.R_putn HO_148001.out (x204_5 : Int) (Int.tmod (wrap64 ((wrap64 ((wrap64 ((rd x148001_5 x204_5) + (rd x7_5 x204_5))) - t150)) + 2147483647)) 2147483647)
    rw [← Ny154.out] at HP134
    have HQ134 := Aside0.mk HP134
    clear HP134
    refine start_ (n := 19) (S := fun w' => w'.cell? ⟨gb147, 0, none⟩ = some (.slice Ao130 x148000_5.length co130) ∧ w'.cell? ⟨gb147, 1, none⟩ = some (.slice (some ⟨go126, 0, none⟩) x148001_5.length co131) ∧ w'.cell? ⟨go126, (x204_5).toNat, none⟩ = some (.int .i64 (rd x148001_5 x204_5)) ∧ w'.cell? (ad153.add (x204_5).toNat) = some (.int .i64 (rd x7_5 x204_5))) (ds := [18]) #[false, false, false, false, false, false, false, false, false, false, false, false, false, false, false, false, false, false, false] lc_12_ rfl rfl ⟨(blk_cell BK147.out 0).trans rfl, (blk_cell BK147.out 1).trans rfl, hx152_0, hx153_0⟩ (fun hHeld => ?_); refine with_tabW quietuslaw43_TagsCountForgeries.tab36 quietuslaw43_TagsCountForgeries.bits36 (fun HT_ HW_ => ?_)
    generalize w132.drew = w133 at HO_7 HO_179 HO_116000 HO_148000 HO_148001 BK101 BK115 BK147 HB GG126 HQ134 hf126_0 hx126_0 hx152_0 hx153_0 hHeld ⊢
    refine pure_ (i := 0) (N := some 218) (v := ?_) (a' := ?_) #[true, false, false, false, false, false, false, false, false, false, false, false, false, false, false, false, false, false, false] rfl rfl (any_of HT_.out lc_12_) (fun _ _ _ h => h) (Or.inl ⟨lc_34_, ?_⟩) ?_ ?_
    rotate_left
    ·intro w'
     go_simp
     with_reducible rfl
    rotate_left
    ·simp only [Act.put, setIfInBounds_toArray, set_cons_zero, set_cons_succ, i64_w, i32_w]
     rfl
    refine pure_ (i := 2) (N := some 220) (v := ?_) (a' := ?_) #[true, false, true, false, false, false, false, false, false, false, false, false, false, false, false, false, false, false, false] rfl rfl (any_of HT_.out lc_12_) (fun _ _ _ h => h) (Or.inl ⟨lc_34_, ?_⟩) ?_ ?_
    rotate_left
    ·intro w'
     go_simp
     with_reducible rfl
    rotate_left
    ·simp only [Act.put, setIfInBounds_toArray, set_cons_zero, set_cons_succ, i64_w, i32_w]
     rfl
    refine pure_ (i := 3) (N := some 221) (v := ?_) (a' := ?_) #[true, false, true, true, false, false, false, false, false, false, false, false, false, false, false, false, false, false, false] rfl rfl (any_of HT_.out lc_12_) (fun _ _ _ h => h) (Or.inl ⟨lc_34_, ?_⟩) ?_ ?_
    rotate_left
    ·intro w'
     go_simp
     with_reducible rfl
    rotate_left
    ·simp only [Act.put, setIfInBounds_toArray, set_cons_zero, set_cons_succ, i64_w, i32_w]
     rfl
    refine pure_ (i := 5) (N := some 223) (v := ?_) (a' := ?_) #[true, false, true, true, false, true, false, false, false, false, false, false, false, false, false, false, false, false, false] rfl rfl (any_of HT_.out lc_12_) (fun _ _ _ h => h) (Or.inl ⟨lc_34_, ?_⟩) ?_ ?_
    rotate_left
    ·intro w'
     go_simp
     with_reducible rfl
    rotate_left
    ·simp only [Act.put, setIfInBounds_toArray, set_cons_zero, set_cons_succ, i64_w, i32_w]
     rfl
    refine pure_ (i := 8) (N := some 226) (v := ?_) (a' := ?_) #[true, false, true, true, false, true, false, false, true, false, false, false, false, false, false, false, false, false, false] rfl rfl (any_of HT_.out lc_12_) (fun _ _ _ h => h) (Or.inl ⟨lc_34_, ?_⟩) ?_ ?_
    rotate_left
    ·intro w'
     go_simp
     with_reducible rfl
    rotate_left
    ·simp only [Act.put, setIfInBounds_toArray, set_cons_zero, set_cons_succ, i64_w, i32_w]
     rfl
    refine pure_ (i := 9) (N := some 227) (v := ?_) (a' := ?_) #[true, false, true, true, false, true, false, false, true, true, false, false, false, false, false, false, false, false, false] rfl rfl (any_of HT_.out lc_12_) (fun _ _ _ h => h) (Or.inl ⟨lc_34_, ?_⟩) ?_ ?_
    rotate_left
    ·intro w'
     go_simp
     with_reducible rfl
    rotate_left
    ·simp only [Act.put, setIfInBounds_toArray, set_cons_zero, set_cons_succ, i64_w, i32_w]
     rfl
    refine pure_ (i := 10) (N := some 228) (v := ?_) (a' := ?_) #[true, false, true, true, false, true, false, false, true, true, true, false, false, false, false, false, false, false, false] rfl rfl (any_of HT_.out lc_12_) (fun _ _ _ h => h) (Or.inl ⟨lc_34_, ?_⟩) ?_ ?_
    rotate_left
    ·intro w'
     go_simp
     with_reducible rfl
    rotate_left
    ·simp only [Act.put, setIfInBounds_toArray, set_cons_zero, set_cons_succ, i64_w, i32_w]
     rfl
    refine pure_ (i := 13) (N := some 231) (v := ?_) (a' := ?_) #[true, false, true, true, false, true, false, false, true, true, true, false, false, true, false, false, false, false, false] rfl rfl (any_of HT_.out lc_12_) (fun _ _ _ h => h) (Or.inl ⟨lc_34_, ?_⟩) ?_ ?_
    rotate_left
    ·intro w'
     go_simp
     with_reducible rfl
    rotate_left
    ·simp only [Act.put, setIfInBounds_toArray, set_cons_zero, set_cons_succ, i64_w, i32_w]
     rfl
    refine take_ (i := 1) (N := some 219) (v := ?_) (a' := ?_) #[true, true, true, true, false, true, false, false, true, true, true, false, false, true, false, false, false, false, false] rfl rfl (take_ofW HT_.out HW_.out lc_12_) (fun _ _ _ h => h) (Or.inl ⟨lc_34_, ?_⟩) hHeld ?_ ?_
    rotate_left
    ·rintro w' ⟨s0, s1, s2, s3⟩
     go_simp
     with_reducible rfl
    rotate_left
    ·simp only [Act.put, setIfInBounds_toArray, set_cons_zero, set_cons_succ, i64_w, i32_w]
     rfl
    refine take_ (i := 4) (N := some 222) (v := ?_) (a' := ?_) #[true, true, true, true, true, true, false, false, true, true, true, false, false, true, false, false, false, false, false] rfl rfl (take_ofW HT_.out HW_.out lc_12_) (fun _ _ _ h => h) (Or.inl ⟨lc_34_, ?_⟩) hHeld ?_ ?_
    rotate_left
    ·rintro w' ⟨s0, s1, s2, s3⟩
     go_simp
     with_reducible rfl
    rotate_left
    ·simp only [Act.put, setIfInBounds_toArray, set_cons_zero, set_cons_succ, i64_w, i32_w]
     rfl
    refine pure_ (i := 6) (N := some 224) (v := ?_) (a' := ?_) #[true, true, true, true, true, true, true, false, true, true, true, false, false, true, false, false, false, false, false] rfl rfl (any_of HT_.out lc_12_) (fun _ _ _ h => h) (Or.inl ⟨lc_34_, ?_⟩) ?_ ?_
    rotate_left
    ·intro w'
     go_simp
     with_reducible rfl
    rotate_left
    ·simp only [Act.put, setIfInBounds_toArray, set_cons_zero, set_cons_succ, i64_w, i32_w]
     rfl
    refine take_ (i := 7) (N := some 225) (v := ?_) (a' := ?_) #[true, true, true, true, true, true, true, true, true, true, true, false, false, true, false, false, false, false, false] rfl rfl (take_ofW HT_.out HW_.out lc_12_) (fun _ _ _ h => h) (Or.inl ⟨lc_34_, ?_⟩) hHeld ?_ ?_
    rotate_left
    ·rintro w' ⟨s0, s1, s2, s3⟩
     go_simp
     with_reducible rfl
    rotate_left
    ·simp only [Act.put, setIfInBounds_toArray, set_cons_zero, set_cons_succ, i64_w, i32_w]
     rfl
    refine take_ (i := 11) (N := some 229) (v := ?_) (a' := ?_) #[true, true, true, true, true, true, true, true, true, true, true, true, false, true, false, false, false, false, false] rfl rfl (take_ofW HT_.out HW_.out lc_12_) (fun _ _ _ h => h) (Or.inl ⟨lc_34_, ?_⟩) hHeld ?_ ?_
    rotate_left
    ·rintro w' ⟨s0, s1, s2, s3⟩
     go_simp
     with_reducible rfl
    rotate_left
    ·simp only [Act.put, setIfInBounds_toArray, set_cons_zero, set_cons_succ, i64_w, i32_w]
     rfl
    refine pure_ (i := 12) (N := some 230) (v := ?_) (a' := ?_) #[true, true, true, true, true, true, true, true, true, true, true, true, true, true, false, false, false, false, false] rfl rfl (any_of HT_.out lc_12_) (fun _ _ _ h => h) (Or.inl ⟨lc_34_, ?_⟩) ?_ ?_
    rotate_left
    ·intro w'
     go_simp
     with_reducible rfl
    rotate_left
    ·simp only [Act.put, setIfInBounds_toArray, set_cons_zero, set_cons_succ, i64_w, i32_w]
     rfl
    refine pure_ (i := 14) (N := some 232) (v := ?_) (a' := ?_) #[true, true, true, true, true, true, true, true, true, true, true, true, true, true, true, false, false, false, false] rfl rfl (any_of HT_.out lc_12_) (fun _ _ _ h => h) (Or.inl ⟨lc_34_, ?_⟩) ?_ ?_
    rotate_left
    ·intro w'
     go_simp
     with_reducible rfl
    rotate_left
    ·simp only [Act.put, setIfInBounds_toArray, set_cons_zero, set_cons_succ, i64_w, i32_w]
     rfl
    refine pure_ (i := 15) (N := some 233) (v := ?_) (a' := ?_) #[true, true, true, true, true, true, true, true, true, true, true, true, true, true, true, true, false, false, false] rfl rfl (any_of HT_.out lc_12_) (fun _ _ _ h => h) (Or.inl ⟨lc_34_, ?_⟩) ?_ ?_
    rotate_left
    ·intro w'
     go_simp
     with_reducible rfl
    rotate_left
    ·simp only [Act.put, setIfInBounds_toArray, set_cons_zero, set_cons_succ, i64_w, i32_w]
     rfl
    refine pure_ (i := 16) (N := some 234) (v := ?_) (a' := ?_) #[true, true, true, true, true, true, true, true, true, true, true, true, true, true, true, true, true, false, false] rfl rfl (any_of HT_.out lc_12_) (fun _ _ _ h => h) (Or.inl ⟨lc_34_, ?_⟩) ?_ ?_
    rotate_left
    ·intro w'
     go_simp
     with_reducible rfl
    rotate_left
    ·simp only [Act.put, setIfInBounds_toArray, set_cons_zero, set_cons_succ, i64_w, i32_w]
     rfl
    refine pure_ (i := 17) (N := some 235) (v := ?_) (a' := ?_) #[true, true, true, true, true, true, true, true, true, true, true, true, true, true, true, true, true, true, false] rfl rfl (any_of HT_.out lc_12_) (fun _ _ _ h => h) (Or.inl ⟨lc_34_, ?_⟩) ?_ ?_
    rotate_left
    ·intro w'
     go_simp
     with_reducible rfl
    rotate_left
    ·simp only [Act.put, setIfInBounds_toArray, set_cons_zero, set_cons_succ, i64_w, i32_w]
     rfl
    refine last_ (i := 18) (N := none) #[true, true, true, true, true, true, true, true, true, true, true, true, true, true, true, true, true, true, true] rfl rfl (one_of HT_.out lc_12_) lc_33_ (fun K hK => ?_)
    refine skip_ (w1 := ?_) lc_34_ rfl ?_ ?_
    rotate_left
    ·go_simp
     rfl
    refine hK.out _ _ ?_
    clear hK K
    refine done_ (done_of HT_.out lc_12_) ?_
    try go_wp2
    (try simp only [← hl7_5, ← hl179_5])
    go_roundg k5
    case measure => have := HJ3.out; have := HJ25.out; have := HK3.out; have := HK4.out; have := HK5.out; omega
    case rel => exact ⟨(x7_5), (x179_5), (wrap64 (x204_5 + 1)), (x116000_5), (x148000_5), (y154), (u116000), (.slice Ao130 x148000_5.length co130), (.slice (some ⟨go126, 0, none⟩) x148001_5.length co131), lc_16_, H', ⟨by have := HJ3.out; have := HJ25.out; have := HK3.out; have := HK4.out; have := HK5.out; omega⟩, ⟨by (try simp only [hl13_3]); (try simp only [hl7_4]); (try simp only [hl179_4]); (try simp only [hl7_5]); (try simp only [hl179_5]); (with_reducible repeat (first | apply Kd.R_alloc | apply Kd.R_drewN | apply Kd.R_drew)); exact Kd.R_mono (Kd.R_far (p := ⟨go126, (x204_5 : Int).toNat, none⟩) (Kd.R_mono HO_7.out (fun k_ hk => (⟨hk, fun e_ => hk.2.2.2 (by rw [e_]; rfl)⟩ : _ ∧ k_ ≠ go126))) (fun _ hk => hk.2) (.int .i64 (Int.tmod (wrap64 ((wrap64 ((wrap64 ((rd x148001_5 x204_5) + (rd x7_5 x204_5))) - t150)) + 2147483647)) 2147483647))) (fun _ hk => ⟨hk.1.1, ⟨hk.1.2.1, ⟨hk.1.2.2.1, hk.1.2.2.2⟩⟩⟩)⟩, ⟨by (try simp only [hl13_3]); (try simp only [hl7_4]); (try simp only [hl179_4]); (try simp only [hl7_5]); (try simp only [hl179_5]); (with_reducible repeat (first | apply Kd.R_alloc | apply Kd.R_drewN | apply Kd.R_drew)); exact Kd.R_mono (Kd.R_far (p := ⟨go126, (x204_5 : Int).toNat, none⟩) (Kd.R_mono HO_179.out (fun k_ hk => (⟨hk, fun e_ => hk.2.2.2 (by rw [e_]; rfl)⟩ : _ ∧ k_ ≠ go126))) (fun _ hk => hk.2) (.int .i64 (Int.tmod (wrap64 ((wrap64 ((wrap64 ((rd x148001_5 x204_5) + (rd x7_5 x204_5))) - t150)) + 2147483647)) 2147483647))) (fun _ hk => ⟨hk.1.1, ⟨hk.1.2.1, ⟨hk.1.2.2.1, hk.1.2.2.2⟩⟩⟩)⟩, ⟨by (try simp only [hl13_3]); (try simp only [hl7_4]); (try simp only [hl179_4]); (try simp only [hl7_5]); (try simp only [hl179_5]); (with_reducible repeat (first | apply Kd.R_alloc | apply Kd.R_drewN | apply Kd.R_drew)); exact Kd.R_mono (Kd.R_far (p := ⟨go126, (x204_5 : Int).toNat, none⟩) (Kd.R_mono HO_116000.out (fun k_ hk => (⟨hk, fun e_ => hk.2.2.2 (by rw [e_]; rfl)⟩ : _ ∧ k_ ≠ go126))) (fun _ hk => hk.2) (.int .i64 (Int.tmod (wrap64 ((wrap64 ((wrap64 ((rd x148001_5 x204_5) + (rd x7_5 x204_5))) - t150)) + 2147483647)) 2147483647))) (fun _ hk => ⟨hk.1.1, ⟨hk.1.2.1, ⟨hk.1.2.2.1, hk.1.2.2.2⟩⟩⟩)⟩, ⟨by (try simp only [hl13_3]); (try simp only [hl7_4]); (try simp only [hl179_4]); (try simp only [hl7_5]); (try simp only [hl179_5]); (with_reducible repeat (first | apply Kd.R_alloc | apply Kd.R_drewN | apply Kd.R_drew)); exact Kd.R_mono (Kd.R_far (p := ⟨go126, (x204_5 : Int).toNat, none⟩) (Kd.R_mono HO_148000.out (fun k_ hk => (⟨hk, fun e_ => hk.2.2.2 (by rw [e_]; rfl)⟩ : _ ∧ k_ ≠ go126))) (fun _ hk => hk.2) (.int .i64 (Int.tmod (wrap64 ((wrap64 ((wrap64 ((rd x148001_5 x204_5) + (rd x7_5 x204_5))) - t150)) + 2147483647)) 2147483647))) (fun _ hk => ⟨hk.1.1, ⟨hk.1.2.1, ⟨hk.1.2.2.1, hk.1.2.2.2⟩⟩⟩)⟩, ⟨by (try simp only [hl13_3]); (try simp only [hl7_4]); (try simp only [hl179_4]); (try simp only [hl7_5]); (try simp only [hl179_5]); (with_reducible repeat (first | apply Kd.R_alloc | apply Kd.R_drewN | apply Kd.R_drew)); exact HQ134.out⟩, ⟨by (try simp only [hl13_3]); (try simp only [hl7_4]); (try simp only [hl179_4]); (try simp only [hl7_5]); (try simp only [hl179_5]); (with_reducible repeat (first | refine blk_drewN ?_ _ | refine blk_drew ?_ | refine blk_alloc ?_ _)); refine blk_far ?_ (by have h_ := Kd.R_ne HO_148001.out BK101.out lc_33_; intro e_; exact h_ (by rw [e_]; rfl)) _; (with_reducible repeat (first | refine blk_drewN ?_ _ | refine blk_drew ?_ | refine blk_alloc ?_ _)); exact BK101.out⟩, ⟨by (try simp only [hl13_3]); (try simp only [hl7_4]); (try simp only [hl179_4]); (try simp only [hl7_5]); (try simp only [hl179_5]); (with_reducible repeat (first | refine blk_drewN ?_ _ | refine blk_drew ?_ | refine blk_alloc ?_ _)); refine blk_far ?_ (by have h_ := Kd.R_ne HO_148001.out BK115.out lc_33_; intro e_; exact h_ (by rw [e_]; rfl)) _; (with_reducible repeat (first | refine blk_drewN ?_ _ | refine blk_drew ?_ | refine blk_alloc ?_ _)); exact BK115.out⟩, ⟨by (try simp only [hl13_3]); (try simp only [hl7_4]); (try simp only [hl179_4]); (try simp only [hl7_5]); (try simp only [hl179_5]); (with_reducible repeat (first | refine blk_drewN ?_ _ | refine blk_drew ?_ | refine blk_alloc ?_ _)); refine blk_far ?_ (by have h_ := Kd.R_ne HO_148001.out BK147.out lc_33_; intro e_; exact h_ (by rw [e_]; rfl)) _; (with_reducible repeat (first | refine blk_drewN ?_ _ | refine blk_drew ?_ | refine blk_alloc ?_ _)); exact BK147.out⟩, ⟨by repeat (first | (with_reducible first | exact HB.out | apply below_alloc | apply pw_below_drewN | apply below_drew1 | refine below_set ?_ GB126.out | refine below_set ?_ GE101.out | refine below_set ?_ GE115.out | refine below_set ?_ GE147.out) | exact HB.out)⟩⟩
   rw [if_neg c119] at H
   have c119b0 : decide (x204_5 < (l0_2.length : Int)) = false := decide_eq_false c119
   (try simp only [hl7_4] at c119b0)
   (try simp only [hl179_4] at c119b0)
   (try simp only [hl7_5] at c119b0)
   (try simp only [hl179_5] at c119b0)
   clear c119
   replace H := Option.bind_eq_some_iff.mp H
   obtain ⟨⟨t155, t158⟩, A1410, H⟩ := H
   (try dsimp only at H)
   have A141 := Aside0.mk A1410
   clear A1410
   have HC142 := Aside0.mk H
   clear H
   have hnb143 := NB147_101.out
   have hnc143 := NB101_147.out
   have hnb144 := NB147_115.out
   have hnc144 := NB115_147.out
   obtain ⟨hcz145_0, hcz145_1⟩ := cz2 BK147.out
   have hfz145_0 := blk_frozen BK147.out 0
   have hfz145_1 := blk_frozen BK147.out 1
   have hnb146 := NB101_115.out
   have hnc146 := NB115_101.out
   obtain ⟨hcz147_0, hcz147_1, hcz147_2, hcz147_3, hcz147_4, hcz147_5, hcz147_6⟩ := cz7 BK101.out
   have hfz147_0 := blk_frozen BK101.out 0
   have hfz147_1 := blk_frozen BK101.out 1
   have hfz147_2 := blk_frozen BK101.out 2
   have hfz147_3 := blk_frozen BK101.out 3
   have hfz147_4 := blk_frozen BK101.out 4
   have hfz147_5 := blk_frozen BK101.out 5
   have hfz147_6 := blk_frozen BK101.out 6
   obtain ⟨Ao148, co148, eo148⟩ := Kd.R_slice HO_148000.out
   subst eo148
   obtain ⟨Ao149, co149, eo149⟩ := Kd.R_slice HO_148001.out
   subst eo149
   go_upto_region 39 with (first | ((with_reducible refine gate_callee (f := 9) rfl ?_); refine goesL_ (some 241) rfl rfl Try.func9 lc_12_ rfl #[.agg #[.slice Ao148 x148000_5.length co148, .slice Ao149 x148001_5.length co149], .slice A0_2 l0_2.length c0_2] rfl lc_5_ ?_; (with_reducible refine (P.quietuslaw43_tagged.calls k5 _ _ x148000_5 _ _ x148001_5 _ _ l0_2 t155 t158 _ ?side1 ?side2 ?side3 ?side4 ?side5 ?side6 A141.out).mono ?_); (case side1 => exact lc_29_); (case side2 => exact (Kd.R_reads' HO_148000.out).2.1); (case side3 => exact lc_30_); (case side4 => exact (Kd.R_reads' HO_148001.out).2.1); (case side5 => exact lc_14_); (case side6 => exact HC0_2.out); rintro e w150 ⟨v156, rfl, ho0, hb⟩; refine ⟨_, rfl, ?_⟩; have n0_ := Aside0.mk (Kd.R_elder' (pR HO_7.out) (Kd.R_base ho0) hb); have n1_ := Aside0.mk (Kd.R_elder' (pR HO_179.out) (Kd.R_base ho0) hb); have n2_ := Aside0.mk (Kd.R_elder' (pR HO_116000.out) (Kd.R_base ho0) hb); have n3_ := Aside0.mk (Kd.R_elder' (pR HO_148000.out) (Kd.R_base ho0) hb); have n4_ := Aside0.mk (Kd.R_elder' (pR HO_148001.out) (Kd.R_base ho0) hb); have n5_ := Aside0.mk (Kd.R_lower (Kd.R_new' (Kd.R_new' (Kd.R_new' (Kd.R_new' (Kd.R_new' ho0 (Kd.R_lt (pR HO_7.out))) (Kd.R_lt (pR HO_179.out))) (Kd.R_lt (pR HO_116000.out))) (Kd.R_lt (pR HO_148000.out))) (Kd.R_lt (pR HO_148001.out))) (below_size lc_2_)); have n6_ := Aside0.mk (bb BK101.out hb); have n7_ := Aside0.mk (bb BK115.out hb); have n8_ := Aside0.mk (bb BK147.out hb); have n9_ := Aside0.mk (below_step lc_2_ hb); clear HO_7 HO_179 HO_116000 HO_148000 HO_148001 BK101 BK115 BK147 HB; have HO_7 := n0_; have HO_179 := n1_; have HO_116000 := n2_; have HO_148000 := n3_; have HO_148001 := n4_; have HO157 := n5_; have BK101 := n6_; have BK115 := n7_; have BK147 := n8_; have HB := n9_; clear n0_ n1_ n2_ n3_ n4_ n5_ n6_ n7_ n8_ n9_; (try clear hb); (try clear hb2); (try clear hk); (try clear hi); (try clear ho0)))
   (try simp only [Act.put, setIfInBounds_toArray, set_cons_zero, set_cons_succ])
   go_cut [264] (fun v264 wc => ∃ (kq : Nat) (x264_141 : Bool), v264 = .bool x264_141 ∧ Aside0 (quietuslaw43_TagsCountForgeries.j5 kq x7_5 (l0_0.length : Int) (ji78) (Int.tmod (wrap64 (x14_3 * t130)) 2147483647) x179_5 (y131.length : Int) x181_4 x264_141 l0_0 l0_1 l0_2 l0_3 l0_4 l0_5 a0_6 x116000_5 t113 = some r) ∧ Aside0 (kq ≤ k5) ∧ Aside0 (Kd.R (Kd.int .i64) 3 wc w.heap.size (fun k_ => some k_ ≠ ((.slice (some ad134) x179_5.length co87) : Value).ownBlock ∧ some k_ ≠ (u116000 : Value).ownBlock ∧ some k_ ≠ ((.slice Ao148 x148000_5.length co148) : Value).ownBlock ∧ some k_ ≠ ((.slice Ao149 x148001_5.length co149) : Value).ownBlock) (.slice Ao30 x7_5.length co30) x7_5) ∧ Aside0 (Kd.R (Kd.int .i64) 3 wc w.heap.size (fun k_ => some k_ ≠ ((.slice Ao30 x7_5.length co30) : Value).ownBlock ∧ some k_ ≠ (u116000 : Value).ownBlock ∧ some k_ ≠ ((.slice Ao148 x148000_5.length co148) : Value).ownBlock ∧ some k_ ≠ ((.slice Ao149 x148001_5.length co149) : Value).ownBlock) (.slice (some ad134) x179_5.length co87) x179_5) ∧ Aside0 (Kd.R (Kd.int .i64) 3 wc w.heap.size (fun k_ => some k_ ≠ ((.slice Ao30 x7_5.length co30) : Value).ownBlock ∧ some k_ ≠ ((.slice (some ad134) x179_5.length co87) : Value).ownBlock ∧ some k_ ≠ ((.slice Ao148 x148000_5.length co148) : Value).ownBlock ∧ some k_ ≠ ((.slice Ao149 x148001_5.length co149) : Value).ownBlock) u116000 x116000_5) ∧ Aside0 (Kd.R (Kd.int .i64) 3 wc w.heap.size (fun k_ => some k_ ≠ ((.slice Ao30 x7_5.length co30) : Value).ownBlock ∧ some k_ ≠ ((.slice (some ad134) x179_5.length co87) : Value).ownBlock ∧ some k_ ≠ (u116000 : Value).ownBlock ∧ some k_ ≠ ((.slice Ao149 x148001_5.length co149) : Value).ownBlock) (.slice Ao148 x148000_5.length co148) x148000_5) ∧ Aside0 (Kd.R (Kd.int .i64) 3 wc w.heap.size (fun k_ => some k_ ≠ ((.slice Ao30 x7_5.length co30) : Value).ownBlock ∧ some k_ ≠ ((.slice (some ad134) x179_5.length co87) : Value).ownBlock ∧ some k_ ≠ (u116000 : Value).ownBlock ∧ some k_ ≠ ((.slice Ao148 x148000_5.length co148) : Value).ownBlock) (.slice Ao149 x148001_5.length co149) x148001_5) ∧ Aside0 (wc.heap[gb101]? = some (.cells #[(.slice A0_0 l0_0.length c0_0), (.slice A0_1 l0_1.length c0_1), (.slice A0_2 l0_2.length c0_2), (.slice A0_3 l0_3.length c0_3), (.slice A0_4 l0_4.length c0_4), (.slice A0_5 l0_5.length c0_5), .int .i64 a0_6] 30 (0, 0))) ∧ Aside0 (wc.heap[gb115]? = some (.cells #[u116000, .int .i64 t113] 28 (0, 0))) ∧ Aside0 (wc.heap[gb147]? = some (.cells #[(.slice Ao148 x148000_5.length co148), (.slice Ao149 x148001_5.length co149)] 24 (0, 0))) ∧ Aside0 (Below w.heap.size w wc))
   case first => as_aux_lemma =>
    have H := HC142.out
    clear HC142
    by_cases c151 : t158 = true
    rotate_left
    ·replace c151 := Bool.eq_false_iff.mpr c151
     subst c151
     rw [if_neg (show ¬ (false = true) by decide)] at H
     have H' := Aside0.mk H
     clear H
     go_wp2
     go_meet
     case rel => exact ⟨_, (true), lc_16_, H', ⟨lc_43_⟩, ⟨lc_28_⟩, ⟨lc_27_⟩, ⟨lc_24_⟩, ⟨lc_25_⟩, ⟨lc_26_⟩, ⟨lc_19_⟩, ⟨lc_20_⟩, ⟨lc_31_⟩, ⟨lc_2_⟩⟩
    subst c151
    rw [if_pos rfl] at H
    replace H := Option.bind_eq_some_iff.mp H
    obtain ⟨t159, A1520, H⟩ := H
    (try dsimp only at H)
    have A152 := Aside0.mk A1520
    clear A1520
    by_cases c153 : t159 = true
    ·subst c153
     rw [if_pos rfl] at H
     replace H := Option.bind_eq_some_iff.mp H
     obtain ⟨t160, A1540, H⟩ := H
     (try dsimp only at H)
     have A154 := Aside0.mk A1540
     clear A1540
     have H' := Aside0.mk H
     clear H
     obtain ⟨Ao155, co155, eo155⟩ := Kd.R_slice HO157.out
     subst eo155
     go_wp2_with (first | (go_at_call 14; (with_reducible refine (P.quietusref43_SameList.calls k5 _ _ t155 _ _ x7_5 true _ ?side1 ?side2 ?side3 ?side4 A152.out).mono ?_); (case side1 => repeat (first | exact (Kd.R_reads' HO157.out).2.2 | (with_reducible refine Kd.C_alloc ?_ _) | (with_reducible refine Kd.C_drewN ?_ _) | (with_reducible refine Kd.C_drew ?_))); (case side2 => exact (Kd.R_reads' HO157.out).2.1); (case side3 => repeat (first | exact (Kd.R_reads' HO_7.out).2.2 | (with_reducible refine Kd.C_alloc ?_ _) | (with_reducible refine Kd.C_drewN ?_ _) | (with_reducible refine Kd.C_drew ?_))); (case side4 => exact (Kd.R_reads' HO_7.out).2.1); rintro e w' ⟨rfl, ⟨nd, rfl⟩⟩; have hnb156 := NB147_101.out; have hnc156 := NB101_147.out; have hnb157 := NB147_115.out; have hnc157 := NB115_147.out; obtain ⟨hcz158_0, hcz158_1⟩ := cz2 BK147.out; have hfz158_0 := blk_frozen BK147.out 0; have hfz158_1 := blk_frozen BK147.out 1; have hnb159 := NB101_115.out; have hnc159 := NB115_101.out; obtain ⟨hcz160_0, hcz160_1, hcz160_2, hcz160_3, hcz160_4, hcz160_5, hcz160_6⟩ := cz7 BK101.out; have hfz160_0 := blk_frozen BK101.out 0; have hfz160_1 := blk_frozen BK101.out 1; have hfz160_2 := blk_frozen BK101.out 2; have hfz160_3 := blk_frozen BK101.out 3; have hfz160_4 := blk_frozen BK101.out 4; have hfz160_5 := blk_frozen BK101.out 5; have hfz160_6 := blk_frozen BK101.out 6) | (go_at_call 11; (with_reducible refine (P.tag_Verify.calls k5 _ _ x148000_5 _ _ x148001_5 _ _ l0_4 _ _ l0_5 a0_6 t160 _ ?side1 ?side2 ?side3 ?side4 ?side5 ?side6 ?side7 ?side8 A154.out).mono ?_); (case side1 => exact lc_29_); (case side2 => exact (Kd.R_reads' HO_148000.out).2.1); (case side3 => exact lc_30_); (case side4 => exact (Kd.R_reads' HO_148001.out).2.1); (case side5 => repeat (first | exact (Kd.C_below HR0_4.out lc_2_) | (with_reducible refine Kd.C_alloc ?_ _) | (with_reducible refine Kd.C_drewN ?_ _) | (with_reducible refine Kd.C_drew ?_))); (case side6 => exact HC0_4.out); (case side7 => repeat (first | exact (Kd.C_below HR0_5.out lc_2_) | (with_reducible refine Kd.C_alloc ?_ _) | (with_reducible refine Kd.C_drewN ?_ _) | (with_reducible refine Kd.C_drew ?_))); (case side8 => exact HC0_5.out); rintro e w161 ⟨rfl, hb⟩; have n0_ := Aside0.mk (rb HO_7.out hb); have n1_ := Aside0.mk (rb HO_179.out hb); have n2_ := Aside0.mk (rb HO_116000.out hb); have n3_ := Aside0.mk (rb HO_148000.out hb); have n4_ := Aside0.mk (rb HO_148001.out hb); have n5_ := Aside0.mk (rb HO157.out hb); have n6_ := Aside0.mk (bb BK101.out hb); have n7_ := Aside0.mk (bb BK115.out hb); have n8_ := Aside0.mk (bb BK147.out hb); have n9_ := Aside0.mk (below_step lc_2_ hb); clear HO_7 HO_179 HO_116000 HO_148000 HO_148001 HO157 BK101 BK115 BK147 HB; have HO_7 := n0_; have HO_179 := n1_; have HO_116000 := n2_; have HO_148000 := n3_; have HO_148001 := n4_; have HO157 := n5_; have BK101 := n6_; have BK115 := n7_; have BK147 := n8_; have HB := n9_; clear n0_ n1_ n2_ n3_ n4_ n5_ n6_ n7_ n8_ n9_; (try clear hb); (try clear hb2); (try clear hk); (try clear hi)))
     go_meet
     case rel => exact ⟨_, (((t160 == 0) != ((rd x179_4 x181_4) == (Int.tmod (wrap64 (x14_3 * t130)) 2147483647)))), lc_16_, H', ⟨lc_43_⟩, ⟨lc_28_⟩, ⟨lc_27_⟩, ⟨lc_24_⟩, ⟨lc_25_⟩, ⟨lc_26_⟩, ⟨lc_19_⟩, ⟨lc_20_⟩, ⟨lc_31_⟩, ⟨lc_2_⟩⟩
    replace c153 := Bool.eq_false_iff.mpr c153
    subst c153
    rw [if_neg (show ¬ (false = true) by decide)] at H
    have H' := Aside0.mk H
    clear H
    obtain ⟨Ao162, co162, eo162⟩ := Kd.R_slice HO157.out
    subst eo162
    go_wp2_with (first | (go_at_call 14; (with_reducible refine (P.quietusref43_SameList.calls k5 _ _ t155 _ _ x7_5 false _ ?side1 ?side2 ?side3 ?side4 A152.out).mono ?_); (case side1 => repeat (first | exact (Kd.R_reads' HO157.out).2.2 | (with_reducible refine Kd.C_alloc ?_ _) | (with_reducible refine Kd.C_drewN ?_ _) | (with_reducible refine Kd.C_drew ?_))); (case side2 => exact (Kd.R_reads' HO157.out).2.1); (case side3 => repeat (first | exact (Kd.R_reads' HO_7.out).2.2 | (with_reducible refine Kd.C_alloc ?_ _) | (with_reducible refine Kd.C_drewN ?_ _) | (with_reducible refine Kd.C_drew ?_))); (case side4 => exact (Kd.R_reads' HO_7.out).2.1); rintro e w' ⟨rfl, ⟨nd, rfl⟩⟩))
    go_meet
    case rel => exact ⟨_, (true), lc_16_, H', ⟨lc_43_⟩, ⟨lc_28_⟩, ⟨lc_27_⟩, ⟨lc_24_⟩, ⟨lc_25_⟩, ⟨lc_26_⟩, ⟨lc_19_⟩, ⟨lc_20_⟩, ⟨lc_31_⟩, ⟨lc_2_⟩⟩
   clear HC142
   obtain ⟨kq, x264_141, rfl, HA, HJ141, HO_7, HO_179, HO_116000, HO_148000, HO_148001, BK101, BK115, BK147, HB⟩ := hcut
   rcases kq with _ | kj141
   ·exact absurd HA.out (by simp [quietuslaw43_TagsCountForgeries.j5])
   have H := HA.out
   clear HA
   simp only [quietuslaw43_TagsCountForgeries.j5] at H
   by_cases c163 : x264_141 = true
   ·subst c163
    rw [if_pos rfl] at H
    obtain rfl := Option.some.inj H
    go_wp2
    go_ret
    exact ⟨lc_17_, lc_2_⟩
   replace c163 := Bool.eq_false_iff.mpr c163
   subst c163
   rw [if_neg (show ¬ (false = true) by decide)] at H
   have H' := Aside0.mk H
   clear H
   go_wp2
   (try simp only [← hl7_4, ← hl179_4, ← hl7_5, ← hl179_5])
   go_roundg kj141
   case measure => have := HJ3.out; have := HJ25.out; have := HK3.out; have := HK4.out; have := HK5.out; have := HJ141.out; omega
   case rel => exact ⟨(x7_5), (x179_5), (wrap64 (x181_4 + 1)), (x116000_5), (u116000), lc_16_, H', ⟨by have := HJ3.out; have := HJ25.out; have := HK3.out; have := HK4.out; have := HK5.out; have := HJ141.out; omega⟩, ⟨by (try simp only [hl13_3]); (try simp only [hl7_4]); (try simp only [hl179_4]); (try simp only [hl7_5]); (try simp only [hl179_5]); (with_reducible repeat (first | apply Kd.R_alloc | apply Kd.R_drewN | apply Kd.R_drew)); exact Kd.R_mono HO_7.out (fun _ hk => ⟨hk.1, hk.2.1⟩)⟩, ⟨by (try simp only [hl13_3]); (try simp only [hl7_4]); (try simp only [hl179_4]); (try simp only [hl7_5]); (try simp only [hl179_5]); (with_reducible repeat (first | apply Kd.R_alloc | apply Kd.R_drewN | apply Kd.R_drew)); exact Kd.R_mono HO_179.out (fun _ hk => ⟨hk.1, hk.2.1⟩)⟩, ⟨by (try simp only [hl13_3]); (try simp only [hl7_4]); (try simp only [hl179_4]); (try simp only [hl7_5]); (try simp only [hl179_5]); (with_reducible repeat (first | apply Kd.R_alloc | apply Kd.R_drewN | apply Kd.R_drew)); exact Kd.R_mono HO_116000.out (fun _ hk => ⟨hk.1, hk.2.1⟩)⟩, ⟨lc_19_⟩, ⟨lc_20_⟩, ⟨lc_2_⟩⟩

end Go.Proofs.Ytekkjikmcnndoaa.Lc
