/- What the arguments of quietus/quietuslaw43.TagsBlendAsSpecified hold, by their types: for every reading. -/
import Derived.Test.YtekkjikmcnndoaaLb3
import Derived.Test.YtekkjikmcnndoaaOp
namespace Go.Proofs.Ytekkjikmcnndoaa.TagsBlendAsSpecifiedOpen
open Go.RowKit Go.Proofs.YtekkjikmcnndoaaW.PrintWords Go.Proofs.YtekkjikmcnndoaaO Go.Proofs.Ytekkjikmcnndoaa.P Go.Proofs.Ytekkjikmcnndoaa.Lb
set_option linter.unusedVariables false
set_option linter.unusedSimpArgs false
def V3 (n : Int) : Prop := (-9223372036854775808) ≤ n ∧ n ≤ 9223372036854775807
theorem o3 : Opens Try.prog 3 (Kd.int .i64) V3 := opens_imp (opens_int Try.underlying3) (fun n h => by simp only [Lit.wf, Bool.and_eq_true, decide_eq_true_eq] at h; exact h)
def V22 (l : List (Int)) : Prop := l.length * 8 ≤ 140737488351232 ∧ ∀ x ∈ l, V3 x
theorem o22 : Opens Try.prog 22 (Kd.slice 3 (Kd.int .i64)) V22 := opens_slice Try.underlying22 o3 (by kernel_rfl) (by kernel_rfl)
def V28 (x : S28) : Prop := V22 x.f0 ∧ V3 x.f1
theorem o28 : Opens Try.prog 28 k28 V28 :=
  opens_imp (opens_iso (K := (Kd.pair (Kd.slice 3 (Kd.int .i64)) (Kd.int .i64))) (f := fun x : S28 => (x.f0, x.f1)) (opens_struct Try.underlying28 (by kernel_rfl) (opensF_cons o22 (by kernel_rfl) (opensF_one o3 (by kernel_rfl)) (by kernel_rfl))) (fun a => ⟨⟨a.1, a.2⟩, rfl⟩)) (fun _ h => h)
def V48 (l : List (S28)) : Prop := l.length * 32 ≤ 140737488351232 ∧ ∀ x ∈ l, V28 x
theorem o48 : Opens Try.prog 48 (Kd.slice 28 k28) V48 := opens_slice Try.underlying48 o28 (by kernel_rfl) (by kernel_rfl)
/-- The plain statement of the law. -/
def Pure : Prop := ∀ (x0 : List (S28)) (x1 : List (Int)), V48 x0 → V22 x1 → ∃ k, quietuslaw43_TagsBlendAsSpecified.f k x0 x1 = some true
end Go.Proofs.Ytekkjikmcnndoaa.TagsBlendAsSpecifiedOpen
