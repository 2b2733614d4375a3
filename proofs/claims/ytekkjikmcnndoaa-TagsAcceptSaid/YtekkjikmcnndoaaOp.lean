/- Typed data that came in, told as kinds: a value of a type that reads as a datum holds a Lean value of the type's kind, within the bounds of its numbers and lengths. For every program and world; the premises of each theorem say what the type must be. -/
import Derived.Test.YtekkjikmcnndoaaWMore
import Derived.SizedLaws
import Derived.ChangeSlices
import Derived.ChangeArms
import Derived.DataElems
namespace Go.Proofs.YtekkjikmcnndoaaO
set_option linter.unusedVariables false
set_option linter.unusedSimpArgs false
open Go.RowKit Go.Proofs.YtekkjikmcnndoaaW.PrintWords Go.ChangeShapes Go.WideShapes

/-- Whatever reads as a datum of type t, its parts no longer than the reach, is a value of kind K, and V holds of it. -/
def Opens {α : Type} (P : Program) (t : TypeId) (K : Kd α) (V : α → Prop) : Prop :=
  ∀ {H : Type} (enc : TypeId × Value → H) (W : World) (base : Nat) (spare : Nat → Bool) (held : Bool) (fuel : Nat) (cs : List Value) (x : DataW H × List MemPlace),
    DataW.trod enc P W base spare held fuel t cs = some x → (x.1.weights P t).all (· ≤ reachBytes) = true → ∃ a, K.K W a cs ∧ V a

theorem opens_int {P : Program} {t : TypeId} {k : IntKind} (ht : P.underlying t = some (.int k)) : Opens P t (Kd.int k) (fun n => (Lit.int k n).wf = true) := by
  intro H enc W base spare held fuel cs x h hw
  obtain ⟨n, rfl, _, hn⟩ := DataW.trod_int ht h
  exact ⟨n, rfl, hn⟩
theorem opens_bool {P : Program} {t : TypeId} (ht : P.underlying t = some .bool) : Opens P t Kd.bool (fun _ => True) := by
  intro H enc W base spare held fuel cs x h hw
  obtain ⟨n, rfl, _⟩ := DataW.trod_bool ht h
  exact ⟨n, rfl, trivial⟩
theorem opens_string {P : Program} {t : TypeId} (ht : P.underlying t = some .string) : Opens P t Kd.string (fun s => s.size ≤ 140737488351232) := by
  intro H enc W base spare held fuel cs x h hw
  obtain ⟨s, rfl, rfl, _⟩ := DataW.trod_string ht h
  refine ⟨s, rfl, ?_⟩
  simp only [DataW.weights, List.all_cons, List.all_nil, Bool.and_true] at hw
  have h1 := of_decide_eq_true hw
  rw [Array.length_toList] at h1
  exact h1

theorem cells_get {W : World} {base : Nat} {a : Addr} {n : Nat} {cs : List Value} (h : W.cells? base a n = some cs) : cs.length = n ∧ ∀ i u, cs[i]? = some u → W.cell? (a.add i) = some u := by
  unfold World.cells? at h
  split at h
  · have hl := mapM_some_length h
    refine ⟨by simpa using hl, fun i u hu => ?_⟩
    have hi : i < n := by
      have := (List.getElem?_eq_some_iff.1 hu).1
      simpa [hl] using this
    have := mapM_some_get h i i (by simp [hi])
    rw [this, hu]
  · cases h

theorem weights_all {H : Type} {P : Program} {e : TypeId} : ∀ {l : List (DataW H)} {d : DataW H}, d ∈ l → (DataW.weightsAll P e l).all (· ≤ reachBytes) = true → (d.weights P e).all (· ≤ reachBytes) = true
  | d0 :: r, d, hd, h => by
    rw [DataW.weightsAll, List.all_append, Bool.and_eq_true] at h
    rcases List.mem_cons.1 hd with rfl | hd
    · exact h.1
    · exact weights_all hd h.2

/-- A list of witnesses out of one for each index. -/
theorem choose_list {α : Type} (n : Nat) (p : Nat → α → Prop) (h : ∀ i, i < n → ∃ a, p i a) : ∃ l : List α, l.length = n ∧ ∀ i a, l[i]? = some a → p i a := by
  induction n with
  | zero => exact ⟨[], rfl, fun i a h => by simp at h⟩
  | succ n ih =>
    obtain ⟨l, hl, hp⟩ := ih (fun i hi => h i (by omega))
    obtain ⟨a, ha⟩ := h n (by omega)
    refine ⟨l ++ [a], by simp [hl], fun i b hb => ?_⟩
    by_cases hi : i < n
    · rw [List.getElem?_append_left (by omega)] at hb
      exact hp i b hb
    · have hlt := (List.getElem?_eq_some_iff.1 hb).1
      simp [hl] at hlt
      obtain rfl : i = n := by omega
      have : (l ++ [a])[i]? = some a := by rw [← hl]; simp
      rw [this] at hb
      obtain rfl := Option.some.inj hb
      exact ha

theorem opens_slice {α : Type} {P : Program} {t e : TypeId} {K : Kd α} {V : α → Prop} {B : Nat} (ht : P.underlying t = some (.slice e)) (he : Opens P e K V) (hc : P.cellsOf e = K.sz) (hB : P.bytesOf e = B) :
    Opens P t (Kd.slice e K) (fun l => l.length * B ≤ 140737488351232 ∧ ∀ x ∈ l, V x) := by
  intro H enc W base spare held fuel cs x h hw
  rcases DataW.trod_slice ht h with ⟨rfl, rfl⟩ | ⟨a, len, cap, elems, rest, n, rfl, rfl, rfl, hb, hl, hm, hlen, hel, hsp, hns⟩
  · exact ⟨[], ⟨none, 0, rfl, Nat.le_refl _, by refine ⟨rfl, by simp, fun h => by simp at h⟩⟩, by simp, by simp⟩
  · simp only [DataW.weights, ht] at hw
    rw [List.all_cons, Bool.and_eq_true, List.all_append, Bool.and_eq_true] at hw
    obtain ⟨hw0, hw1, hw2⟩ := hw
    have hw0' : (elems.length + rest.length) * P.bytesOf e ≤ 140737488351232 := by simpa [reachBytes] using hw0
    have each : ∀ i, i < len → ∃ v, ∃ c, c.length = K.sz ∧ K.K W v c ∧ (∀ j u, c[j]? = some u → W.cell? ((a.add (i * P.cellsOf e)).add j) = some u) ∧ V v := by
      intro i hi
      have h1 := hel i hi
      have hi2 : i < elems.length := by omega
      rw [List.getElem?_eq_getElem hi2, Option.bind_eq_some_iff] at h1
      obtain ⟨c, hcs, htr⟩ := h1
      obtain ⟨hcl, hcg⟩ := cells_get hcs
      obtain ⟨v, hv, hV⟩ := he enc W base spare held n c _ htr (weights_all (List.mem_map_of_mem (List.getElem_mem hi2)) hw1)
      exact ⟨v, c, by rw [hcl, hc], hv, hcg, hV⟩
    obtain ⟨l, hll, hp⟩ := choose_list len _ each
    refine ⟨l, ⟨some a, cap, by rw [hll], by omega, ?_⟩, ?_, ?_⟩
    · refine ⟨hll ▸ rfl, ?_, fun _ => ⟨a, rfl, fun j v hj => ?_⟩⟩
      · have : maxLen = 9223372036854775807 := rfl
        omega
      · obtain ⟨c, hcl, hv, hcg, _⟩ := hp j v hj
        refine ⟨c, hcl, hv, fun i u hu => ?_⟩
        have := hcg i u hu
        rw [hc, Addr.add_add] at this
        exact this
    · rw [hll, ← hB]
      refine Nat.le_trans (Nat.mul_le_mul_right _ ?_) hw0'
      omega
    · intro v hv
      obtain ⟨j, hj⟩ := List.getElem?_of_mem hv
      obtain ⟨_, _, _, _, hV⟩ := hp j v hj
      exact hV

/-- Fields in line: what stands at these offsets, with these types, is of kind K, from offset off to the end. -/
def OpensF {α : Type} (P : Program) (fs : List (Nat × TypeId)) (off : Nat) (K : Kd α) (V : α → Prop) : Prop :=
  ∀ {H : Type} (enc : TypeId × Value → H) (W : World) (base : Nat) (spare : Nat → Bool) (held : Bool) (n : Nat) (full : List Value),
    full.length = off + K.sz →
    (∀ (i o : Nat) (u : TypeId), fs[i]? = some (o, u) → ∃ x : DataW H × List MemPlace, DataW.trod enc P W base spare held n u ((full.drop o).take (P.cellsOf u)) = some x ∧ (x.1.weights P u).all (· ≤ reachBytes) = true) →
    ∃ a, K.K W a (full.drop off) ∧ V a
theorem opensF_one {α : Type} {P : Program} {u : TypeId} {off : Nat} {K : Kd α} {V : α → Prop} (h : Opens P u K V) (hc : P.cellsOf u = K.sz) : OpensF P [(off, u)] off K V := by
  intro H enc W base spare held n full hl hf
  obtain ⟨x, hx, hw⟩ := hf 0 off u rfl
  rw [List.take_of_length_le (by rw [List.length_drop, hc]; omega)] at hx
  exact h enc W base spare held n _ x hx hw
theorem opensF_cons {α β : Type} {P : Program} {u : TypeId} {fs : List (Nat × TypeId)} {off off' : Nat} {K : Kd α} {K' : Kd β} {V : α → Prop} {V' : β → Prop} (h : Opens P u K V) (hc : P.cellsOf u = K.sz) (hs : OpensF P fs off' K' V') (ho : off' = off + K.sz) :
    OpensF P ((off, u) :: fs) off (Kd.pair K K') (fun x => V x.1 ∧ V' x.2) := by
  intro H enc W base spare held n full hl hf
  have hl' : full.length = off + (K.sz + K'.sz) := hl
  obtain ⟨x, hx, hw⟩ := hf 0 off u rfl
  obtain ⟨a, ha, hV⟩ := h enc W base spare held n _ x hx hw
  obtain ⟨b, hb, hV'⟩ := hs enc W base spare held n full (by omega) (fun i o v hi => hf (i + 1) o v hi)
  refine ⟨(a, b), ⟨_, _, ?_, ha, hb⟩, hV, hV'⟩
  rw [hc, ho, ← List.drop_drop, List.take_append_drop]
theorem opens_struct {α : Type} {P : Program} {t : TypeId} {fs : Array Field} {K : Kd α} {V : α → Prop} (ht : P.underlying t = some (.struct fs)) (hc : P.cellsOf t = K.sz) (h : OpensF P (fs.toList.map fun f => (f.offset, f.type)) 0 K V) : Opens P t K V := by
  intro H enc W base spare held fuel cs x hx hw
  obtain ⟨xs, n, rfl, rfl, hl, hxl, hg⟩ := DataW.trod_struct ht hx
  have hw' : (DataW.weightsEach P (fs.toList.map (·.type)) (xs.map (·.1))).all (· ≤ reachBytes) = true := by simpa [DataW.weights, ht] using hw
  obtain ⟨a, ha, hV⟩ := h enc W base spare held n cs (by omega) (fun i o u hi => by
    rw [List.getElem?_map, Option.map_eq_some_iff] at hi
    obtain ⟨f, hf, hfe⟩ := hi
    have h1 : f.offset = o := (Prod.mk.inj hfe).1
    have h2 : f.type = u := (Prod.mk.inj hfe).2
    subst h1 h2
    have hif : i < fs.size := by
      have := (List.getElem?_eq_some_iff.1 hf).1
      simpa using this
    have hix : i < xs.length := by omega
    refine ⟨xs[i], by rw [hg i f (by simpa using hf), List.getElem?_eq_getElem hix], ?_⟩
    have hm := DataW.weights_mem_each (P := P) (ts := fs.toList.map (·.type)) (ds := xs.map (·.1)) (j := i) (t := f.type) (d := xs[i].1) (by rw [List.getElem?_map, hf]; rfl) (by rw [List.getElem?_map, List.getElem?_eq_getElem hix]; rfl)
    rw [List.all_eq_true] at hw' ⊢
    exact fun m hmm => hw' m (hm m hmm))
  exact ⟨a, by simpa using ha, hV⟩
theorem opens_iso {α β : Type} {P : Program} {t : TypeId} {K : Kd α} {V : α → Prop} {f : β → α} (h : Opens P t K V) (hf : ∀ a, ∃ b, f b = a) : Opens P t (Kd.iso K f) (fun b => V (f b)) := by
  intro H enc W base spare held fuel cs x hx hw
  obtain ⟨a, ha, hV⟩ := h enc W base spare held fuel cs x hx hw
  obtain ⟨b, rfl⟩ := hf a
  exact ⟨b, ha, hV⟩
theorem opens_imp {α : Type} {P : Program} {t : TypeId} {K : Kd α} {V V' : α → Prop} (h : Opens P t K V) (hV : ∀ a, V a → V' a) : Opens P t K V' := by
  intro H enc W base spare held fuel cs x hx hw
  obtain ⟨a, ha, hv⟩ := h enc W base spare held fuel cs x hx hw
  exact ⟨a, ha, hV a hv⟩
theorem trod_array {H : Type} {enc : TypeId × Value → H} {P : Program} {w : World} {base : Nat} {spare : Nat → Bool} {held : Bool} {fuel : Nat} {t : TypeId} {cs : List Value} {x : DataW H × List MemPlace} {m : Nat} {e : TypeId} (ht : P.underlying t = some (.array m e)) (h : DataW.trod enc P w base spare held fuel t cs = some x) :
    ∃ (xs : List (DataW H × List MemPlace)) (n : Nat), fuel = n + 1 ∧ x = (.agg (xs.map (·.1)), xs.flatMap (·.2)) ∧ cs.length = P.cellsOf t ∧ xs.length = m ∧
      ∀ i, i < m → DataW.trod enc P w base spare held n e ((cs.drop (i * P.cellsOf e)).take (P.cellsOf e)) = xs[i]? := by
  cases fuel with
  | zero => simp [DataW.trod] at h
  | succ n =>
    unfold DataW.trod at h
    rw [ht] at h
    split at h <;> simp_all
    obtain ⟨hl, xs, hp, hd⟩ := h
    exact ⟨xs, hd.symm, by simpa using mapM_some_length hp, fun i hi => mapM_some_get hp i i (by simp [hi])⟩
theorem opens_array {α : Type} {P : Program} {t : TypeId} {m : Nat} {e : TypeId} {K : Kd α} {V : α → Prop} (ht : P.underlying t = some (.array m e)) (hc : P.cellsOf t = K.sz) (h : OpensF P ((List.range m).map fun i => (i * P.cellsOf e, e)) 0 K V) : Opens P t K V := by
  intro H enc W base spare held fuel cs x hx hw
  obtain ⟨xs, n, rfl, rfl, hl, hxl, hg⟩ := trod_array ht hx
  have hw' : (DataW.weightsAll P e (xs.map (·.1))).all (· ≤ reachBytes) = true := by simpa [DataW.weights, ht] using hw
  obtain ⟨a, ha, hV⟩ := h enc W base spare held n cs (by omega) (fun i o u hi => by
    rw [List.getElem?_map, Option.map_eq_some_iff] at hi
    obtain ⟨j, hj, hje⟩ := hi
    obtain ⟨hjm, rfl⟩ : i < m ∧ j = i := by
      have := List.getElem?_eq_some_iff.1 hj
      obtain ⟨h1, h2⟩ := this
      simp at h1 h2
      exact ⟨h1, h2.symm⟩
    have h1 : j * P.cellsOf e = o := (Prod.mk.inj hje).1
    have h2 : e = u := (Prod.mk.inj hje).2
    subst h1 h2
    have hix : j < xs.length := by omega
    refine ⟨xs[j], by rw [hg j hjm, List.getElem?_eq_getElem hix], ?_⟩
    exact weights_all (List.mem_map_of_mem (List.getElem_mem hix)) hw')
  exact ⟨a, by simpa using ha, hV⟩
end Go.Proofs.YtekkjikmcnndoaaO
