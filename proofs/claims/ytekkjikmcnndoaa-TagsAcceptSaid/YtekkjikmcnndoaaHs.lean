/- Literal slices and variables in memory, as one step each; rows that are known as a block read as lists. No conditions beyond those that each theorem states. -/
import Derived.Test.YtekkjikmcnndoaaWMore
import Derived.Test.YtekkjikmcnndoaaWGuard
namespace Go.Proofs.YtekkjikmcnndoaaS
open Go.RowKit Go.Proofs.YtekkjikmcnndoaaW.PrintWords
set_option linter.unusedVariables false
set_option linter.unusedSimpArgs false

section
variable {P : Program} {ops : Array Oper} {rest : List Oper} {o : Oper} {a : Act} {Q : Exit → Act → World → Prop}
/-- A literal slice: a new block. -/
theorem lit_event {W : World} (hgd : o.guard = none) {N : Tmp} (_hd : o.dst = some N) {cs : Array Value} {e : TypeId} {n : Nat}
    (hrun : (execOp a.eval o).run P W = .ok (.value (.slice (some ⟨W.heap.size, 0, none⟩) n n)) (W.alloc (.cells cs e (0, 0))))
    (h : ∀ g, g = W.heap.size → ∀ w1, w1.heap[g]? = some (.cells cs e (0, 0)) → Below W.heap.size W w1 → wpList P ops Q rest (a.put o.dst (.slice (some ⟨g, 0, none⟩) n n)) w1) : wpList P ops Q (o :: rest) a W :=
  Kd.event_run hgd hrun (h _ rfl _ (blk_new W _) (below_alloc (Below.refl _ _) _))
end
/-- A world under a new name, with what is known of it. -/
theorem gen (P G : World → Prop) {W : World} (h : P W) (k : ∀ W2, P W2 → G W2) : G W := k W h
theorem flat_get {α : Type} (enc : α → List Value) (sz : Nat) (hs : ∀ x, (enc x).length = sz) : ∀ (l : List α) (j : Nat) (x : α), l[j]? = some x → ∀ i u, (enc x)[i]? = some u → (l.flatMap enc)[j * sz + i]? = some u
  | [], j, x, h, i, u, hu => by simp at h
  | y :: r, 0, x, h, i, u, hu => by
    have h1 : y = x := by simpa using h
    subst h1
    have hi := (List.getElem?_eq_some_iff.1 hu).1
    rw [List.flatMap_cons, Nat.zero_mul, Nat.zero_add, List.getElem?_append_left hi]
    exact hu
  | y :: r, j + 1, x, h, i, u, hu => by
    have h1 : r[j]? = some x := by simpa using h
    rw [List.flatMap_cons, List.getElem?_append_right (by rw [hs y, Nat.succ_mul]; omega), hs y, show (j + 1) * sz + i - sz = j * sz + i by rw [Nat.succ_mul]; omega]
    exact flat_get enc sz hs r j x h1 i u hu
/-- A block that is known whole reads as a list. -/
theorem C_rows {α : Type} {d : Kd α} {W : World} {g : Nat} {e : TypeId} (enc : α → List Value) (hs : ∀ x, (enc x).length = d.sz) (l : List α) (hK : ∀ x, d.K W x (enc x)) (h : W.heap[g]? = some (.cells (l.flatMap enc).toArray e (0, 0))) (hl : l.length ≤ 9223372036854775807) :
    Kd.C d W (some ⟨g, 0, none⟩) l.length l := by
  refine ⟨rfl, hl, fun _ => ⟨_, rfl, fun j x hj => ⟨enc x, hs x, hK x, fun i u hu => ?_⟩⟩⟩
  rw [add_plain, blk_cell h]
  have := flat_get enc d.sz hs l j x hj i u hu
  simpa using this
theorem flat_one {α : Type} (f : α → Value) : ∀ l : List α, l.flatMap (fun x => [f x]) = l.map f
  | [] => rfl
  | x :: r => by rw [List.flatMap_cons, flat_one f r]; rfl
theorem C_ints {k : IntKind} {W : World} {g : Nat} {e : TypeId} (l : List Int) (h : W.heap[g]? = some (.cells (l.map (Value.int k)).toArray e (0, 0))) (hl : l.length ≤ 9223372036854775807) : Kd.C (Kd.int k) W (some ⟨g, 0, none⟩) l.length l :=
  C_rows (d := Kd.int k) (fun x => [Value.int k x]) (fun _ => rfl) l (fun _ => rfl) (by rw [flat_one]; exact h) hl
theorem C_strings {W : World} {g : Nat} {e : TypeId} (l : List ByteArray) (h : W.heap[g]? = some (.cells (l.map Value.string).toArray e (0, 0))) (hl : l.length ≤ 9223372036854775807) : Kd.C Kd.string W (some ⟨g, 0, none⟩) l.length l :=
  C_rows (d := Kd.string) (fun x => [Value.string x]) (fun _ => rfl) l (fun _ => rfl) (by rw [flat_one]; exact h) hl
end Go.Proofs.YtekkjikmcnndoaaS
