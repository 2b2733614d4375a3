/- The law TagsAccept as a plain Lean function, and that the Go function answers as this does; for every input within the sizes that the functions state. -/
import Derived.Test.YtekkjikmcnndoaaLa0
import Derived.Test.YtekkjikmcnndoaaSq
namespace Go.Proofs.Ytekkjikmcnndoaa.La
open Go.RowKit Go.Proofs.YtekkjikmcnndoaaW.PrintWords Go.Proofs.YtekkjikmcnndoaaW.PrintLast Go.Proofs.YtekkjikmcnndoaaW.PrintMore Go.Proofs.Ytekkjikmcnndoaa.P Go.Proofs.YtekkjikmcnndoaaSq
open List (setIfInBounds_toArray set_cons_zero set_cons_succ)
attribute [local go_sem] max2_int min2_int max_two min_two max_three min_three max_four min_four   -- for this text's walks alone
set_option linter.unusedVariables false
set_option linter.unusedSimpArgs false

/-! ### quietuslaw43_TagsAccept: function 5 -/
theorem k28_mkF (W : World) (ok : Nat → Prop) (x : S28) {A0 : Option Addr} {c0 : Nat} (l0 : x.f0.length ≤ c0) (g0 : Kd.F (Kd.int .i64) W ok A0 x.f0.length x.f0) : Kd.FK k28 W ok x [.slice A0 x.f0.length c0, .int .i64 x.f1] := fun W2 hW => k28_mk W2 x l0 (g0 W2 hW)
mutual
def quietuslaw43_TagsAccept.j0 : Nat → List (S60) → Bool → List Int → List Int → List ByteArray → List Int → List (S60) → List Int → Int → Int → Int → Option (Bool)
 | 0, _, _, _, _, _, _, _, _, _, _, _ => none
 | k + 1, x1, x42, x102000, x102001, x102002, x102003, x102004, x102005, x102006, x103000, x103001 => if x42 = true then ((Sa.sanity.f).bind fun t105 => (some t105)) else ((P.quietuslaw43_tagged.f k x102000 x102001 x102002).bind fun bt106 => (if bt106.2 = true then ((P.tag_Answer.f k (x102000.length : Int) x102002 bt106.1 x102004).bind fun bt111 => ((P.tag_Answer.f k (x102000.length : Int) x102002 bt106.1 x1).bind fun bt117 => (if bt111.2.2 = 0 then (quietuslaw43_TagsAccept.j1 k x1 bt111.2.2 (bt117.2.2 != 0) x102000 x102001 x102002 x102003 x102004 x102005 x102006 x103000 x103001 bt111.1 bt111.2.1 bt117.1 bt117.2.1) else (quietuslaw43_TagsAccept.j1 k x1 bt111.2.2 true x102000 x102001 x102002 x102003 x102004 x102005 x102006 x103000 x103001 bt111.1 bt111.2.1 bt117.1 bt117.2.1)))) else ((Sa.sanity.f).bind fun t110 => (some t110))))
def quietuslaw43_TagsAccept.j1 : Nat → List (S60) → Int → Bool → List Int → List Int → List ByteArray → List Int → List (S60) → List Int → Int → Int → Int → List Int → Int → List Int → Int → Option (Bool)
 | 0, _, _, _, _, _, _, _, _, _, _, _, _, _, _, _, _ => none
 | k + 1, x1, x10, x85, x102000, x102001, x102002, x102003, x102004, x102005, x102006, x103000, x103001, x117000, x117001, x123000, x123001 => if x85 = true then ((Sa.sanity.f).bind fun t123 => (if t123 = true then (if x10 = 0 then (some true) else (if x10 = 1 then (some true) else (some (x10 == 3)))) else (some false))) else ((P.tag_Blend.f k (([(⟨x117000, x117001⟩ : S28), (⟨x123000, x123001⟩ : S28)] : List (S28))) (([Int.tmod (wrap64 (x103000)) 2147483647, Int.tmod (wrap64 (x103001)) 2147483647] : List Int))).bind fun bt130 => (quietuslaw43_TagsAccept.l0 k x1 (Int.tmod (wrap64 (x103000)) 2147483647) (Int.tmod (wrap64 (x103001)) 2147483647) bt130.2.2 ([] : List (S60)) x102004 (x102004.length : Int) 0 x102000 x102001 x102002 x102003 x102004 x102005 x102006 x117000 x117001 x123000 x123001 bt130.1 bt130.2.1))
def quietuslaw43_TagsAccept.l0 : Nat → List (S60) → Int → Int → Int → List (S60) → List (S60) → Int → Int → List Int → List Int → List ByteArray → List Int → List (S60) → List Int → Int → List Int → Int → List Int → Int → List Int → Int → Option (Bool)
 | 0, _, _, _, _, _, _, _, _, _, _, _, _, _, _, _, _, _, _, _, _, _ => none
 | k + 1, x1, x13, x14, x16, x17, x118, x119, x120, x102000, x102001, x102002, x102003, x102004, x102005, x102006, x117000, x117001, x123000, x123001, x136000, x136001 => if x120 < x119 then (if 0 ≤ x120 then (if x120 < (x118.length : Int) then (if x17.length < 8796093022208 then (quietuslaw43_TagsAccept.l0 k x1 x13 x14 x16 (x17 ++ [(⟨(rd_T60 x118 x120).f0, Int.tmod (wrap64 (((rd_T60 x118 x120).f1) * x13)) 2147483647⟩ : S60)]) x118 x119 (wrap64 (x120 + 1)) x102000 x102001 x102002 x102003 x102004 x102005 x102006 x117000 x117001 x123000 x123001 x136000 x136001) else (none)) else (none)) else (none)) else (quietuslaw43_TagsAccept.l1 k x1 x14 x16 x17 x1 (x1.length : Int) 0 x102000 x102001 x102002 x102003 x102004 x102005 x102006 x117000 x117001 x123000 x123001 x136000 x136001)
def quietuslaw43_TagsAccept.l1 : Nat → List (S60) → Int → Int → List (S60) → List (S60) → Int → Int → List Int → List Int → List ByteArray → List Int → List (S60) → List Int → Int → List Int → Int → List Int → Int → List Int → Int → Option (Bool)
 | 0, _, _, _, _, _, _, _, _, _, _, _, _, _, _, _, _, _, _, _, _ => none
 | k + 1, x1, x14, x16, x17, x136, x137, x138, x102000, x102001, x102002, x102003, x102004, x102005, x102006, x117000, x117001, x123000, x123001, x136000, x136001 => if x138 < x137 then (if 0 ≤ x138 then (if x138 < (x136.length : Int) then (if x17.length < 8796093022208 then (quietuslaw43_TagsAccept.l1 k x1 x14 x16 (x17 ++ [(⟨(rd_T60 x136 x138).f0, Int.tmod (wrap64 (((rd_T60 x136 x138).f1) * x14)) 2147483647⟩ : S60)]) x136 x137 (wrap64 (x138 + 1)) x102000 x102001 x102002 x102003 x102004 x102005 x102006 x117000 x117001 x123000 x123001 x136000 x136001) else (none)) else (none)) else (none)) else ((Sa.sanity.f).bind fun t148 => (if t148 = true then (if x16 = 0 then ((P.tag_Verify.f k x102000 x102001 x102004 x117000 x117001).bind fun t149 => (if t149 = 0 then ((P.tag_Verify.f k x102000 x102001 x1 x123000 x123001).bind fun t150 => (if t150 = 0 then ((P.tag_Verify.f k x102000 x102001 x17 x136000 x136001).bind fun t151 => (if t151 = 0 then ((P.tag_Verify.f k x102000 x102001 x17 x136000 (Int.tmod (wrap64 (x136001 + 1)) 2147483647)).bind fun t152 => (some (t152 == 23))) else (some false))) else (some false))) else (some false))) else (some false)) else (some false)))
end
def quietuslaw43_TagsAccept.f (k : Nat) (l0_0 : List Int) (l0_1 : List Int) (l0_2 : List ByteArray) (l0_3 : List Int) (l0_4 : List (S60)) (l0_5 : List Int) (a0_6 : Int) (l1 : List (S60)) (a2_0 : Int) (a2_1 : Int) : Option (Bool) := (P.quietuslaw43_few.f k l0_0 l0_1 l0_2 l0_3 l0_4 l0_5 a0_6).bind fun t103 => (if t103 = true then (if (l0_4.length : Int) > 20 then (quietuslaw43_TagsAccept.j0 k l1 true l0_0 l0_1 l0_2 l0_3 l0_4 l0_5 a0_6 a2_0 a2_1) else (if (l1.length : Int) > 20 then (quietuslaw43_TagsAccept.j0 k l1 true l0_0 l0_1 l0_2 l0_3 l0_4 l0_5 a0_6 a2_0 a2_1) else ((P.tag_Check.f k l0_0 l0_1).bind fun t104 => (quietuslaw43_TagsAccept.j0 k l1 (t104 != 0) l0_0 l0_1 l0_2 l0_3 l0_4 l0_5 a0_6 a2_0 a2_1)))) else (quietuslaw43_TagsAccept.j0 k l1 true l0_0 l0_1 l0_2 l0_3 l0_4 l0_5 a0_6 a2_0 a2_1))
theorem quietuslaw43_TagsAccept.mono_l : ∀ k, (∀ y0 y1 y2 y3 y4 y5 y6 y7 y8 y9 y10, LeO (quietuslaw43_TagsAccept.j0 k y0 y1 y2 y3 y4 y5 y6 y7 y8 y9 y10) (quietuslaw43_TagsAccept.j0 (k + 1) y0 y1 y2 y3 y4 y5 y6 y7 y8 y9 y10)) ∧ (∀ y0 y1 y2 y3 y4 y5 y6 y7 y8 y9 y10 y11 y12 y13 y14 y15, LeO (quietuslaw43_TagsAccept.j1 k y0 y1 y2 y3 y4 y5 y6 y7 y8 y9 y10 y11 y12 y13 y14 y15) (quietuslaw43_TagsAccept.j1 (k + 1) y0 y1 y2 y3 y4 y5 y6 y7 y8 y9 y10 y11 y12 y13 y14 y15)) ∧ (∀ y0 y1 y2 y3 y4 y5 y6 y7 y8 y9 y10 y11 y12 y13 y14 y15 y16 y17 y18 y19 y20, LeO (quietuslaw43_TagsAccept.l0 k y0 y1 y2 y3 y4 y5 y6 y7 y8 y9 y10 y11 y12 y13 y14 y15 y16 y17 y18 y19 y20) (quietuslaw43_TagsAccept.l0 (k + 1) y0 y1 y2 y3 y4 y5 y6 y7 y8 y9 y10 y11 y12 y13 y14 y15 y16 y17 y18 y19 y20)) ∧ (∀ y0 y1 y2 y3 y4 y5 y6 y7 y8 y9 y10 y11 y12 y13 y14 y15 y16 y17 y18 y19, LeO (quietuslaw43_TagsAccept.l1 k y0 y1 y2 y3 y4 y5 y6 y7 y8 y9 y10 y11 y12 y13 y14 y15 y16 y17 y18 y19) (quietuslaw43_TagsAccept.l1 (k + 1) y0 y1 y2 y3 y4 y5 y6 y7 y8 y9 y10 y11 y12 y13 y14 y15 y16 y17 y18 y19))
 | 0 => ⟨fun _ _ _ _ _ _ _ _ _ _ _ r h => by simp [quietuslaw43_TagsAccept.j0] at h, fun _ _ _ _ _ _ _ _ _ _ _ _ _ _ _ _ r h => by simp [quietuslaw43_TagsAccept.j1] at h, fun _ _ _ _ _ _ _ _ _ _ _ _ _ _ _ _ _ _ _ _ _ r h => by simp [quietuslaw43_TagsAccept.l0] at h, fun _ _ _ _ _ _ _ _ _ _ _ _ _ _ _ _ _ _ _ _ r h => by simp [quietuslaw43_TagsAccept.l1] at h⟩
 | k + 1 => by
  obtain ⟨ih0, ih1, ih2, ih3⟩ := quietuslaw43_TagsAccept.mono_l k
  refine ⟨?_, ?_, ?_, ?_⟩
  all_goals
   intros
   first | unfold quietuslaw43_TagsAccept.j0 | unfold quietuslaw43_TagsAccept.j1 | unfold quietuslaw43_TagsAccept.l0 | unfold quietuslaw43_TagsAccept.l1
   repeat' first
   | (with_reducible exact ih0 ..)
   | (with_reducible exact ih1 ..)
   | (with_reducible exact ih2 ..)
   | (with_reducible exact ih3 ..)
   | (with_reducible exact P.quietuslaw43_few.mono ..)
   | (with_reducible exact P.quietuslaw43_tagged.mono ..)
   | (with_reducible exact P.tag_Answer.mono ..)
   | (with_reducible exact P.tag_Blend.mono ..)
   | (with_reducible exact P.tag_Check.mono ..)
   | (with_reducible exact P.tag_Verify.mono ..)
   | (with_reducible exact LeO.refl ..)
   | (with_reducible exact LeO.none ..)
   | (with_reducible refine LeO.ite ?_ ?_)
   | (with_reducible refine LeO.bind ?_ (fun _ => ?_))
   | exact ih0 ..
   | exact ih1 ..
   | exact ih2 ..
   | exact ih3 ..
   | exact P.quietuslaw43_few.mono ..
   | exact P.quietuslaw43_tagged.mono ..
   | exact P.tag_Answer.mono ..
   | exact P.tag_Blend.mono ..
   | exact P.tag_Check.mono ..
   | exact P.tag_Verify.mono ..
   | exact LeO.none ..
   | refine LeO.ite ?_ ?_
   | refine LeO.bind ?_ (fun _ => ?_)
theorem quietuslaw43_TagsAccept.mono : ∀ a0 a1 a2 a3 a4 a5 a6 a7 a8 a9 k, LeO (quietuslaw43_TagsAccept.f k a0 a1 a2 a3 a4 a5 a6 a7 a8 a9) (quietuslaw43_TagsAccept.f (k + 1) a0 a1 a2 a3 a4 a5 a6 a7 a8 a9) := by
 intro a0 a1 a2 a3 a4 a5 a6 a7 a8 a9 k
 obtain ⟨ih0, ih1, ih2, ih3⟩ := quietuslaw43_TagsAccept.mono_l k
 unfold quietuslaw43_TagsAccept.f
 repeat' first
   | (with_reducible exact ih0 _ _ _ _ _ _ _ _ _ _ _)
   | (with_reducible exact ih1 _ _ _ _ _ _ _ _ _ _ _ _ _ _ _ _)
   | (with_reducible exact ih2 _ _ _ _ _ _ _ _ _ _ _ _ _ _ _ _ _ _ _ _ _)
   | (with_reducible exact ih3 _ _ _ _ _ _ _ _ _ _ _ _ _ _ _ _ _ _ _ _)
   | (with_reducible exact P.quietuslaw43_few.mono _ _ _ _ _ _ _ _)
   | (with_reducible exact P.quietuslaw43_tagged.mono _ _ _ _)
   | (with_reducible exact P.tag_Answer.mono _ _ _ _ _)
   | (with_reducible exact P.tag_Blend.mono _ _ _)
   | (with_reducible exact P.tag_Check.mono _ _ _)
   | (with_reducible exact P.tag_Verify.mono _ _ _ _ _ _)
   | (with_reducible exact LeO.refl _)
   | (with_reducible exact LeO.none _)
   | (with_reducible refine LeO.ite ?_ ?_)
   | (with_reducible refine LeO.bind ?_ (fun _ => ?_))
   | exact ih0 _ _ _ _ _ _ _ _ _ _ _
   | exact ih1 _ _ _ _ _ _ _ _ _ _ _ _ _ _ _ _
   | exact ih2 _ _ _ _ _ _ _ _ _ _ _ _ _ _ _ _ _ _ _ _ _
   | exact ih3 _ _ _ _ _ _ _ _ _ _ _ _ _ _ _ _ _ _ _ _
   | exact P.quietuslaw43_few.mono _ _ _ _ _ _ _ _
   | exact P.quietuslaw43_tagged.mono _ _ _ _
   | exact P.tag_Answer.mono _ _ _ _ _
   | exact P.tag_Blend.mono _ _ _
   | exact P.tag_Check.mono _ _ _
   | exact P.tag_Verify.mono _ _ _ _ _ _
   | exact LeO.none _
   | refine LeO.ite ?_ ?_
   | refine LeO.bind ?_ (fun _ => ?_)
end Go.Proofs.Ytekkjikmcnndoaa.La
