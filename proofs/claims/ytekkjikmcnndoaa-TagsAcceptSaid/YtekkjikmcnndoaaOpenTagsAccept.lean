/- What the arguments of quietus/quietuslaw43.TagsAccept hold, by their types: for every reading. -/
import Derived.Test.YtekkjikmcnndoaaLe3
import Derived.Test.YtekkjikmcnndoaaOp
import Derived.Test.YtekkjikmcnndoaaKs
namespace Go.Proofs.Ytekkjikmcnndoaa.TagsAcceptOpen
open Go.RowKit Go.Proofs.YtekkjikmcnndoaaW.PrintWords Go.Proofs.YtekkjikmcnndoaaO Go.Proofs.Ytekkjikmcnndoaa.P Go.Proofs.Ytekkjikmcnndoaa.La
set_option linter.unusedVariables false
set_option linter.unusedSimpArgs false
def V3 (n : Int) : Prop := (-9223372036854775808) ≤ n ∧ n ≤ 9223372036854775807
theorem o3 : Opens Try.prog 3 (Kd.int .i64) V3 := opens_imp (opens_int Try.underlying3) (fun n h => by simp only [Lit.wf, Bool.and_eq_true, decide_eq_true_eq] at h; exact h)
def V22 (l : List (Int)) : Prop := l.length * 8 ≤ 140737488351232 ∧ ∀ x ∈ l, V3 x
theorem o22 : Opens Try.prog 22 (Kd.slice 3 (Kd.int .i64)) V22 := opens_slice Try.underlying22 o3 (by kernel_rfl) (by kernel_rfl)
def V24 (x : S24) : Prop := V22 x.f0 ∧ V22 x.f1
theorem o24 : Opens Try.prog 24 k24 V24 :=
  opens_imp (opens_iso (K := (Kd.pair (Kd.slice 3 (Kd.int .i64)) (Kd.slice 3 (Kd.int .i64)))) (f := fun x : S24 => (x.f0, x.f1)) (opens_struct Try.underlying24 (by kernel_rfl) (opensF_cons o22 (by kernel_rfl) (opensF_one o22 (by kernel_rfl)) (by kernel_rfl))) (fun a => ⟨⟨a.1, a.2⟩, rfl⟩)) (fun _ h => h)
def V9 (s : ByteArray) : Prop := s.size ≤ 140737488351232
theorem o9 : Opens Try.prog 9 Kd.string V9 := opens_string Try.underlying9
def V25 (l : List (ByteArray)) : Prop := l.length * 16 ≤ 140737488351232 ∧ ∀ x ∈ l, V9 x
theorem o25 : Opens Try.prog 25 (Kd.slice 9 Kd.string) V25 := opens_slice Try.underlying25 o9 (by kernel_rfl) (by kernel_rfl)
def V60 (x : S60) : Prop := V3 x.f0 ∧ V3 x.f1
theorem o60 : Opens Try.prog 60 k60 V60 :=
  opens_imp (opens_iso (K := (Kd.pair (Kd.int .i64) (Kd.int .i64))) (f := fun x : S60 => (x.f0, x.f1)) (opens_struct Try.underlying60 (by kernel_rfl) (opensF_cons o3 (by kernel_rfl) (opensF_one o3 (by kernel_rfl)) (by kernel_rfl))) (fun a => ⟨⟨a.1, a.2⟩, rfl⟩)) (fun _ h => h)
def V26 (l : List (S60)) : Prop := l.length * 16 ≤ 140737488351232 ∧ ∀ x ∈ l, V60 x
theorem o26 : Opens Try.prog 26 (Kd.slice 60 k60) V26 := opens_slice Try.underlying26 o60 (by kernel_rfl) (by kernel_rfl)
def V28 (x : S28) : Prop := V22 x.f0 ∧ V3 x.f1
theorem o28 : Opens Try.prog 28 k28 V28 :=
  opens_imp (opens_iso (K := (Kd.pair (Kd.slice 3 (Kd.int .i64)) (Kd.int .i64))) (f := fun x : S28 => (x.f0, x.f1)) (opens_struct Try.underlying28 (by kernel_rfl) (opensF_cons o22 (by kernel_rfl) (opensF_one o3 (by kernel_rfl)) (by kernel_rfl))) (fun a => ⟨⟨a.1, a.2⟩, rfl⟩)) (fun _ h => h)
def V30 (x : S30) : Prop := V24 x.f0 ∧ V25 x.f1 ∧ V22 x.f2 ∧ V26 x.f3 ∧ V28 x.f4
theorem o30 : Opens Try.prog 30 k30 V30 :=
  opens_imp (opens_iso (K := (Kd.pair k24 (Kd.pair (Kd.slice 9 Kd.string) (Kd.pair (Kd.slice 3 (Kd.int .i64)) (Kd.pair (Kd.slice 60 k60) k28))))) (f := fun x : S30 => (x.f0, x.f1, x.f2, x.f3, x.f4)) (opens_struct Try.underlying30 (by kernel_rfl) (opensF_cons o24 (by kernel_rfl) (opensF_cons o25 (by kernel_rfl) (opensF_cons o22 (by kernel_rfl) (opensF_cons o26 (by kernel_rfl) (opensF_one o28 (by kernel_rfl)) (by kernel_rfl)) (by kernel_rfl)) (by kernel_rfl)) (by kernel_rfl))) (fun a => ⟨⟨a.1, a.2.1, a.2.2.1, a.2.2.2.1, a.2.2.2.2⟩, rfl⟩)) (fun _ h => h)
def V31 (n : Int) : Prop := 0 ≤ n ∧ n ≤ 4294967295
theorem o31 : Opens Try.prog 31 (Kd.int .u32) V31 := opens_imp (opens_int Try.underlying31) (fun n h => by simp only [Lit.wf, Bool.and_eq_true, decide_eq_true_eq] at h; exact h)
def V58 (x : S58) : Prop := V31 x.f0 ∧ V31 x.f1
theorem o58 : Opens Try.prog 58 k58 V58 :=
  opens_imp (opens_iso (K := (Kd.pair (Kd.int .u32) (Kd.int .u32))) (f := fun x : S58 => (x.f0, x.f1)) (opens_array Try.underlying58 (by kernel_rfl) (opensF_cons o31 (by kernel_rfl) (opensF_one o31 (by kernel_rfl)) (by kernel_rfl))) (fun a => ⟨⟨a.1, a.2⟩, rfl⟩)) (fun _ h => h)
/-- The plain statement of the law. -/
def Pure : Prop := ∀ (x0 : S30) (x1 : List (S60)) (x2 : S58), V30 x0 → V26 x1 → V58 x2 → ∃ k, quietuslaw43_TagsAccept.f k (x0.f0.f0) (x0.f0.f1) (x0.f1) (x0.f2) (x0.f3) (x0.f4.f0) (x0.f4.f1) x1 (x2.f0) (x2.f1) = some true
end Go.Proofs.Ytekkjikmcnndoaa.TagsAcceptOpen
