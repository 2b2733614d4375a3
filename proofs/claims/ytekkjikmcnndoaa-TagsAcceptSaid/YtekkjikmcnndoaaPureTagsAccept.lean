/- The plain statement of TagsAccept: the printed law answers true after some rounds; for every case, other challenge and two factors within the sizes of typed data. -/
import Derived.Test.YtekkjikmcnndoaaOpenTagsAccept
import Derived.Test.YtekkjikmcnndoaaMb
namespace Go.Proofs.Ytekkjikmcnndoaa.Pure
open Go.RowKit Go.Proofs.YtekkjikmcnndoaaW.PrintWords Go.Proofs.YtekkjikmcnndoaaW.PrintLast Go.Proofs.Ytekkjikmcnndoaa.P Go.Proofs.Ytekkjikmcnndoaa.La Go.Proofs.Ytekkjikmcnndoaa.M
open Go.Proofs.Ytekkjikmcnndoaa.Ha (wildB)
set_option linter.unusedVariables false
set_option linter.unusedSimpArgs false

section
variable {m s : List Int} {b : List ByteArray} {t : List Int} {p q : List S60} {a : List Int} {x u v : Int}
theorem sc_step (p : List S60) (u : Int) (hu : 0 ≤ u ∧ u < 2147483647) (n : Int) (hp : chalS p n = 0) (i : Nat) (hi : i < p.length) (o : List S60) :
    (o ++ sc (p.take i) u) ++ [(⟨(rd_T60 p (i : Int)).f0, Int.tmod (wrap64 ((rd_T60 p (i : Int)).f1 * u)) 2147483647⟩ : S60)] = o ++ sc (p.take (i + 1)) u := by
  obtain ⟨_, h3⟩ := ask_mem hp i hi
  rw [rd60, emod_res _ _ h3 hu, List.append_assoc]
  congr 1
  unfold sc
  rw [List.take_succ_eq_append_getElem hi, List.map_append]
  congr 1
  simp [List.getD, hi]
theorem acc_l1 (H : CA m s b p) (H' : CA m s b q) (hl : p.length ≤ 20) (hl' : q.length ≤ 20) (hv : 0 ≤ v ∧ v < 2147483647) : ∀ d i : Nat, i + d = q.length →
    Ev (fun k => quietuslaw43_TagsAccept.l1 k q v 0 (sc p u ++ sc (q.take i) v) q (q.length : Int) (i : Int) m s b t p a x (R1c m b p) (Rc m s b p % 2147483647) (R1c m b q) (Rc m s b q % 2147483647) (bS m s b p q u v) (bT m s b p q u v)) true := by
  intro d
  induction d with
  | zero =>
    intro i hi
    apply Ev_succ
    obtain rfl : i = q.length := by omega
    simp only [quietuslaw43_TagsAccept.l1, if_neg (show ¬ (q.length : Int) < (q.length : Int) by omega), List.take_length]
    refine Ev.bind sanity_ev ?_
    simp only [if_true]
    refine Ev.bind (verify_ev m s p _ _ H.hc (by omega)) ?_
    simp only [ver_right m s b p H, if_true]
    refine Ev.bind (verify_ev m s q _ _ H.hc (by omega)) ?_
    simp only [ver_right m s b q H', if_true]
    have hlen : (both p q u v).length ≤ 40 := by unfold both; rw [List.length_append, sc_length, sc_length]; omega
    have hr : 0 ≤ bT m s b p q u v ∧ bT m s b p q u v < 2147483647 := blT_res _ _ _ _ _ _
    refine Ev.bind (verify_ev m s (both p q u v) _ _ H.hc hlen) ?_
    rw [ver_both m s b p q u v H H' _ hr]
    simp only [if_true]
    have e : Int.tmod (wrap64 (bT m s b p q u v + 1)) 2147483647 = (bT m s b p q u v + 1) % 2147483647 := emod_add _ 1 hr (by omega)
    rw [e]
    refine Ev.bind (verify_ev m s (both p q u v) _ _ H.hc hlen) ?_
    rw [ver_both m s b p q u v H H' _ (mod_res _), if_neg (by omega)]
    exact Ev.now _
  | succ d ih =>
    intro i hi
    have hil : i < q.length := by omega
    apply Ev_succ
    have hlen : (sc p u ++ sc (q.take i) v).length < 8796093022208 := by rw [List.length_append, sc_length, sc_length, List.length_take]; omega
    simp only [quietuslaw43_TagsAccept.l1, if_pos (show (i : Int) < (q.length : Int) by omega), if_pos (show 0 ≤ (i : Int) by omega), if_pos hlen, sc_step q v hv _ H'.hq i hil (sc p u), wrap_succ i q.length hil (by omega)]
    exact ih (i + 1) (by omega)
theorem acc_l0 (H : CA m s b p) (H' : CA m s b q) (hl : p.length ≤ 20) (hl' : q.length ≤ 20) (hu : 0 ≤ u ∧ u < 2147483647) (hv : 0 ≤ v ∧ v < 2147483647) : ∀ d i : Nat, i + d = p.length →
    Ev (fun k => quietuslaw43_TagsAccept.l0 k q u v 0 ([] ++ sc (p.take i) u) p (p.length : Int) (i : Int) m s b t p a x (R1c m b p) (Rc m s b p % 2147483647) (R1c m b q) (Rc m s b q % 2147483647) (bS m s b p q u v) (bT m s b p q u v)) true := by
  intro d
  induction d with
  | zero =>
    intro i hi
    apply Ev_succ
    obtain rfl : i = p.length := by omega
    simp only [quietuslaw43_TagsAccept.l0, if_neg (show ¬ (p.length : Int) < (p.length : Int) by omega), List.take_length, List.nil_append]
    have := acc_l1 (u := u) (t := t) (a := a) (x := x) H H' hl hl' hv q.length 0 (by omega)
    simp only [List.take_zero, sc, List.map_nil, List.append_nil] at this
    exact this
  | succ d ih =>
    intro i hi
    have hil : i < p.length := by omega
    apply Ev_succ
    have hlen : ([] ++ sc (p.take i) u).length < 8796093022208 := by rw [List.length_append, sc_length, List.length_take, List.length_nil]; omega
    simp only [quietuslaw43_TagsAccept.l0, if_pos (show (i : Int) < (p.length : Int) by omega), if_pos (show 0 ≤ (i : Int) by omega), if_pos hlen, sc_step p u hu _ H.hq i hil [], wrap_succ i p.length hil (by omega)]
    exact ih (i + 1) (by omega)
end

theorem TagsAccept : TagsAcceptOpen.Pure := by
  rintro ⟨⟨m, s⟩, b, t, q, ⟨a, x⟩⟩ o ⟨y0, y1⟩ hl _ hy
  have hy0 : 0 ≤ y0 ∧ y0 ≤ 4294967295 := by
    simp only [TagsAcceptOpen.V58, TagsAcceptOpen.V31] at hy
    exact hy.1
  have hy1 : 0 ≤ y1 ∧ y1 ≤ 4294967295 := by
    simp only [TagsAcceptOpen.V58, TagsAcceptOpen.V31] at hy
    exact hy.2
  have hbs : ∀ z ∈ b, z.size ≤ 140737488351232 := by
    simp only [TagsAcceptOpen.V30, TagsAcceptOpen.V25, TagsAcceptOpen.V9] at hl
    exact hl.2.1.2
  clear hl hy
  apply Ev.rounds
  unfold quietuslaw43_TagsAccept.f
  refine Ev.bind (few_ev m s b t q a x hbs) ?_
  have out : Ev (fun k => quietuslaw43_TagsAccept.j0 k o true m s b t q a x y0 y1) true := by
    apply Ev_succ
    simp only [quietuslaw43_TagsAccept.j0, if_true]
    exact Ev.bind sanity_ev (Ev.now _)
  cases hfew : fewS m s b t q a with
  | false => simp only [Bool.false_eq_true, if_false]; exact out
  | true =>
    obtain ⟨l1, l2, l3, l4, l5, l6⟩ := fewS_true hfew
    simp only [if_true, gt_iff_lt]
    by_cases hq : q.length ≤ 20
    rotate_left
    · simp only [if_pos (show (20 : Int) < (q.length : Int) by omega)]; exact out
    simp only [if_neg (show ¬ (20 : Int) < (q.length : Int) by omega)]
    by_cases ho : o.length ≤ 20
    rotate_left
    · simp only [if_pos (show (20 : Int) < (o.length : Int) by omega)]; exact out
    simp only [if_neg (show ¬ (20 : Int) < (o.length : Int) by omega)]
    refine Ev.bind (check_ev m s) ?_
    by_cases hck : checkS m s = 0
    rotate_left
    · rw [show (checkS m s != 0) = true by simpa using hck]; exact out
    rw [show (checkS m s != 0) = false by simpa using hck]
    obtain ⟨c1, c2, c3, hm, hsd⟩ := checkS_zero hck
    apply Ev_succ
    simp only [quietuslaw43_TagsAccept.j0, Bool.false_eq_true, if_false]
    by_cases hg : ∀ i, i < b.length → fits m s b i
    rotate_left
    · refine Ev.bind (tagged_bad m s b hck l3 l6 hg) ?_
      simp only [Bool.false_eq_true, if_false]
      exact Ev.bind sanity_ev (Ev.now _)
    refine Ev.bind (tagged_good m s b hck l3 l6 hg) ?_
    have hbl : b.length ≤ 200 := by
      rcases Nat.eq_zero_or_pos b.length with h | h
      · omega
      · have := (hg (b.length - 1) (by omega)).1; omega
    simp only [if_true]
    refine Ev.bind (answer_ev b (tgl m s b b.length) q m.length hbl l6 c1 c2 (by omega) (tgl_length _ _ _ _) (tgl_res _ _ _ _) (fun i hi => (hg i hi).2)) ?_
    refine Ev.bind (answer_ev b (tgl m s b b.length) o m.length hbl l6 c1 c2 (by omega) (tgl_length _ _ _ _) (tgl_res _ _ _ _) (fun i hi => (hg i hi).2)) ?_
    have bad : ∀ (e : Int) (r1 : List Int) (r2 : Int) (r3 : List Int) (r4 : Int), (e = 0 ∨ e = 1 ∨ e = 3) → Ev (fun k => quietuslaw43_TagsAccept.j1 k o e true m s b t q a x y0 y1 r1 r2 r3 r4) true := by
      intro e r1 r2 r3 r4 he
      apply Ev_succ
      simp only [quietuslaw43_TagsAccept.j1, if_true]
      refine Ev.bind sanity_ev ?_
      simp only [if_true]
      rcases he with rfl | rfl | rfl
      · simp only [if_true]; exact Ev.now _
      · simp only [if_neg (show ¬ (1 : Int) = 0 by omega), if_true]; exact Ev.now _
      · simp only [if_neg (show ¬ (3 : Int) = 0 by omega), if_neg (show ¬ (3 : Int) = 1 by omega)]; exact Ev.now _
    by_cases hqb : chalS q b.length = 0
    rotate_left
    · simp only [if_neg hqb]
      exact bad _ _ _ _ _ (chalS_vals q _)
    simp only [if_pos hqb, ansS, if_true]
    by_cases hob : chalS o b.length = 0
    rotate_left
    · simp only [if_neg hob]
      rw [show (chalS o b.length != 0) = true by simpa using hob]
      exact bad _ _ _ _ _ (Or.inl rfl)
    simp only [if_pos hob]
    apply Ev_succ
    have H : CA m s b q := ⟨hck, hg, hqb⟩
    have H' : CA m s b o := ⟨hck, hg, hob⟩
    have e0 : Int.tmod (wrap64 y0) 2147483647 = y0 % 2147483647 := by
      rw [show wrap64 y0 = y0 by unfold wrap64; omega, Int.tmod_eq_emod_of_nonneg (by omega)]
    have e1 : Int.tmod (wrap64 y1) 2147483647 = y1 % 2147483647 := by
      rw [show wrap64 y1 = y1 by unfold wrap64; omega, Int.tmod_eq_emod_of_nonneg (by omega)]
    have eb : ((0 : Int) != 0) = false := rfl
    simp only [quietuslaw43_TagsAccept.j1, eb, Bool.false_eq_true, if_false, e0, e1]
    have hb := blend_two (R1c m b q) (R1c m b o) (Rc m s b q % 2147483647) (Rc m s b o % 2147483647) (y0 % 2147483647) (y1 % 2147483647) (by rw [R1c_length, R1c_length]) (by rw [R1c_length]; omega) (R1c_res m b q) (R1c_res m b o) (mod_res _) (mod_res _) (mod_res _) (mod_res _)
    refine Ev.bind hb ?_
    have := acc_l0 (t := t) (a := a) (x := x) H H' hq ho (mod_res y0) (mod_res y1) q.length 0 (by omega)
    simp only [List.take_zero, sc, List.map_nil, List.append_nil] at this
    exact this
end Go.Proofs.Ytekkjikmcnndoaa.Pure
