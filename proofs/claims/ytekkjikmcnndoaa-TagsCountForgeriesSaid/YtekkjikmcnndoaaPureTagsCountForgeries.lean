/- The plain statement of TagsCountForgeries: the printed law answers true after some rounds; for every case, symbol and value within the sizes of typed data. -/
import Derived.Test.YtekkjikmcnndoaaOpenTagsCountForgeries
import Derived.Test.YtekkjikmcnndoaaMo
namespace Go.Proofs.Ytekkjikmcnndoaa.Pure
open Go.RowKit Go.Proofs.YtekkjikmcnndoaaW.PrintWords Go.Proofs.YtekkjikmcnndoaaW.PrintLast Go.Proofs.Ytekkjikmcnndoaa.P Go.Proofs.Ytekkjikmcnndoaa.Lc Go.Proofs.Ytekkjikmcnndoaa.M
open Go.Proofs.Ytekkjikmcnndoaa.Ha (wildB)
set_option linter.unusedVariables false
set_option linter.unusedSimpArgs false

section
variable {m s : List Int} {b : List ByteArray} {t : List Int} {q : List S60} {a : List Int} {x : Int} {j : Nat}
def R1 (m : List Int) (b : List ByteArray) (q : List S60) : List Int := (List.range m.length).map fun i => Sm b q i % 2147483647
theorem R1_length : (R1 m b q).length = m.length := by simp [R1]
theorem R1_get (i : Nat) (h : i < m.length) : (R1 m b q).getD i 0 = Sm b q i % 2147483647 := by simp [R1, List.getD, h]
theorem R1_res : ∀ y ∈ R1 m b q, 0 ≤ y ∧ y < 2147483647 := by
  intro y hy
  obtain ⟨i, _, rfl⟩ := List.mem_map.mp hy
  exact mod_res _
theorem res_wild {y : Int} (h : 0 ≤ y ∧ y < 2147483647) : wildB y = false := wild_false.mpr h
theorem l1_end (H : CF m s b q a x j) (hd : dd b q a j ≠ 0) (T : List Int) (o : Int) (L : List Int) :
    Ev (fun k => quietuslaw43_TagsCountForgeries.l1 k T (m.length : Int) (j : Int) o L 2 2 m s b t q a x (R1 m b q) (Rt m s b q % 2147483647)) true := by
  obtain ⟨h1, h2, h3, hm, hsd⟩ := checkS_zero H.hc
  apply Ev_succ
  simp only [quietuslaw43_TagsCountForgeries.l1, if_neg (show ¬ (2 : Int) < 2 by omega)]
  refine Ev.bind (forged_prog (R1 m b q) a (Rt m s b q % 2147483647) x (by rw [R1_length]; omega) (by rw [H.ha]; omega)) ?_
  rw [forgedS_good _ _ _ _ (by rw [R1_length]; omega) (by rw [R1_length, H.ha]) (res_wild (mod_res _)) (res_wild H.hx) (any_res R1_res) (any_res H.har)]
  have hne : ¬ R1 m b q = a := by
    intro h
    apply hd
    unfold dd
    rw [← h, R1_get j H.hj]
    omega
  rw [if_neg hne]
  refine Ev.bind sanity_ev ?_
  simp only [if_true, R1_length]
  exact Ev.now _
theorem j5_ev (T : List Int) (w : Int) (jj o : Int) (L : List Int) (n i : Int) (i' : Int) (hi : wrap64 (i + 1) = i') (r1 : List Int) (r2 : Int)
    (h : Ev (fun k => quietuslaw43_TagsCountForgeries.l1 k T w jj o L n i' m s b t q a x r1 r2) true) :
    Ev (fun k => quietuslaw43_TagsCountForgeries.j5 k T w jj o L n i false m s b t q a x r1 r2) true := by
  apply Ev_succ
  simp only [quietuslaw43_TagsCountForgeries.j5, Bool.false_eq_true, if_false, hi]
  exact h
theorem l2_ev (H : CF m s b q a x j) (v : Int) (hv : 0 ≤ v ∧ v < 2147483647) (w : Int) (hw : dd b q a j * w % 2147483647 = 1) (o : Int) (ho : o = restS m s b q a x j m.length * w % 2147483647) (L : List Int) (n i i' : Int) (hi : wrap64 (i + 1) = i') (r1 : List Int) (r2 : Int)
    (h : Ev (fun k => quietuslaw43_TagsCountForgeries.l1 k (Tb m s b) (m.length : Int) (j : Int) o L n i' m s b t q a x r1 r2) true) : ∀ d p : Nat, p + d = b.length →
    Ev (fun k => quietuslaw43_TagsCountForgeries.l2 k (Tb m s b) (m.length : Int) (j : Int) o v L n i b (b.length : Int) (p : Int) m s b t q a x r1 r2 (mm m j v) (ss m s b j v p)) true := by
  obtain ⟨c1, c2, c3, hm, hsd⟩ := checkS_zero H.hc
  have hbl := H.hb
  intro d
  induction d with
  | zero =>
    intro p hp
    apply Ev_succ
    obtain rfl : p = b.length := by omega
    simp only [quietuslaw43_TagsCountForgeries.l2, if_neg (show ¬ (b.length : Int) < (b.length : Int) by omega)]
    refine Ev.bind (tagged_good (mm m j v) (ss m s b j v b.length) b (again_check m s b q a x j v H hv _) H.hb H.hs (again_fits m s b q a x j v H _)) ?_
    rw [again_tags m s b q a x j v H]
    simp only [if_true]
    refine Ev.bind (sameList_ev _ _ (by rw [tgl_length]; omega)) ?_
    rw [decide_eq_true (show tgl m s b b.length = Tb m s b from rfl)]
    simp only [if_true]
    refine Ev.bind (verify_ev (mm m j v) (ss m s b j v b.length) q a x (again_check m s b q a x j v H hv _) H.hq) ?_
    have hver : verS (mm m j v) (ss m s b j v b.length) q a x = if v = o then 0 else 23 := by
      unfold verS
      rw [if_neg (show ¬ a.length ≠ (mm m j v).length by rw [mm_length, H.ha]; exact fun h => h rfl), if_neg (show ¬ (wildB x = true ∨ a.any wildB = true) by rw [res_wild H.hx, any_res H.har]; simp), ss_length, if_neg (show ¬ chalS q s.length ≠ 0 from fun h => h H.hqs)]
      have := accepted_iff m s b q a x j v H hv w hw
      rw [← ho] at this
      by_cases hvo : v = o
      · rw [if_pos hvo, if_pos (this.mpr hvo)]
      · rw [if_neg hvo, if_neg (fun h => hvo (this.mp h))]
    have hb : ((verS (mm m j v) (ss m s b j v b.length) q a x == 0) != (v == o)) = false := by
      rw [hver]
      by_cases hvo : v = o
      · rw [if_pos hvo, hvo]; simp
      · rw [if_neg hvo, show (v == o) = false from by simpa using hvo]; rfl
    rw [hb]
    exact j5_ev _ _ _ _ _ _ _ _ hi _ _ h
  | succ d ih =>
    intro p hp
    have hpl : p < b.length := by omega
    obtain ⟨f1, f2⟩ := H.hf p hpl
    have hrd : rdOf ByteArray.empty b (p : Int) = b.getD p ByteArray.empty := by simp [rdOf]
    apply Ev_succ
    simp only [quietuslaw43_TagsCountForgeries.l2, if_pos (show (p : Int) < (b.length : Int) by omega), if_pos (show 0 ≤ (p : Int) by omega), hrd, wrap_succ p b.length hpl (by omega)]
    refine Ev.bind (make_ev (mm m j v) (ss m s b j v p) (again_check m s b q a x j v H hv _) p _ (size_getD H.hs p)) ?_
    rw [again_make m s b q a x j v H p hpl]
    have e1 : rd (ss m s b j v p) (p : Int) = s.getD p 0 := by rw [rd_nat, ss_get _ _ _ _ _ _ _ f1, if_neg (by omega)]
    have e2 : rd (Tb m s b) (p : Int) = tg m s b p := by rw [rd_nat]; exact tgl_get m s b _ _ hpl
    have e3 : (Tb m s b).length = b.length := tgl_length m s b _
    simp only [if_true, ss_length, e1, e2, e3, if_pos (show (p : Int) < (s.length : Int) by omega), if_pos (show (p : Int) < (b.length : Int) by omega), Int.toNat_natCast, tmod_asb _ _ _ (getD_res hsd p) (tg_res m s b p) (tg_res (mm m j v) s b p), ss_set m s b j v p f1]
    exact ih (p + 1) (by omega)
theorem l1_step (H : CF m s b q a x j) (v : Int) (hv : 0 ≤ v ∧ v < 2147483647) (w : Int) (hw : dd b q a j * w % 2147483647 = 1) (o : Int) (ho : o = restS m s b q a x j m.length * w % 2147483647) (L : List Int) (hL : L.length = 2) (i : Nat) (hi : i < 2) (hLv : L.getD i 0 = v) (r1 : List Int) (r2 : Int)
    (h : Ev (fun k => quietuslaw43_TagsCountForgeries.l1 k (Tb m s b) (m.length : Int) (j : Int) o L 2 ((i + 1 : Nat) : Int) m s b t q a x r1 r2) true) :
    Ev (fun k => quietuslaw43_TagsCountForgeries.l1 k (Tb m s b) (m.length : Int) (j : Int) o L 2 (i : Int) m s b t q a x r1 r2) true := by
  obtain ⟨c1, c2, c3, hm, hsd⟩ := checkS_zero H.hc
  have hjl := H.hj
  apply Ev_succ
  simp only [quietuslaw43_TagsCountForgeries.l1, if_pos (show (i : Int) < 2 by omega), if_pos (show 0 ≤ (i : Int) by omega), if_pos (show (i : Int) < (L.length : Int) by omega), Option.bind_some, List.nil_append, List.length_nil, Nat.zero_add, if_pos (show m.length < 17592186044416 by omega), if_pos (show s.length < 17592186044416 by omega), if_pos (show 0 ≤ (j : Int) by omega), if_pos (show (j : Int) < (m.length : Int) by omega), rd_nat, hLv, Int.toNat_natCast]
  have := l2_ev (t := t) H v hv w hw o ho L 2 (i : Int) ((i + 1 : Nat) : Int) (by unfold wrap64; omega) r1 r2 h b.length 0 (by omega)
  rw [ss_zero] at this
  exact this
theorem l0_ev (H : CF m s b q a x j) (c : Int) (hc : 0 ≤ c ∧ c ≤ 4294967295) : ∀ d i : Nat, i + d = m.length →
    Ev (fun k => quietuslaw43_TagsCountForgeries.l0 k c (Tb m s b) (m.length : Int) (j : Int) (diffL m b q a i) (restS m s b q a x j i) (m.length : Int) (i : Int) m s b t q a x (R1 m b q) (Rt m s b q % 2147483647)) true := by
  obtain ⟨c1, c2, c3, hm, hsd⟩ := checkS_zero H.hc
  have hjl := H.hj
  have hal := H.ha
  intro d
  induction d with
  | zero =>
    intro i hi
    apply Ev_succ
    obtain rfl : i = m.length := by omega
    have e1 : rd (diffL m b q a m.length) (j : Int) = dd b q a j := by rw [rd_nat, diffL_get _ _ _ _ _ _ hjl, if_pos hjl]
    simp only [quietuslaw43_TagsCountForgeries.l0, if_neg (show ¬ (m.length : Int) < (m.length : Int) by omega), if_pos (show 0 ≤ (j : Int) by omega), diffL_length, if_pos (show (j : Int) < (m.length : Int) by omega), e1]
    by_cases hd : dd b q a j = 0
    · simp only [if_pos hd]
      exact Ev.bind sanity_ev (Ev.now _)
    simp only [if_neg hd]
    have hdr : 0 ≤ dd b q a j ∧ dd b q a j < 2147483647 := mod_res _
    obtain ⟨w, hwr, hw, hev⟩ := inverse_ev (dd b q a j) (by omega)
    refine Ev.bind hev ?_
    have e2 : Int.tmod (wrap64 (restS m s b q a x j m.length * w)) 2147483647 = restS m s b q a x j m.length * w % 2147483647 := emod_res _ _ (restS_res m s b q a x j _) hwr
    have e3 : Int.tmod (wrap64 c) 2147483647 = c % 2147483647 := by
      rw [show wrap64 c = c by unfold wrap64; omega, Int.tmod_eq_emod_of_nonneg (by omega)]
    simp only [Option.bind_some, e2, e3]
    have h2 := l1_end (t := t) H hd (Tb m s b) (restS m s b q a x j m.length * w % 2147483647) [restS m s b q a x j m.length * w % 2147483647, c % 2147483647]
    have h1 := l1_step (t := t) H (c % 2147483647) (mod_res _) w hw _ rfl [restS m s b q a x j m.length * w % 2147483647, c % 2147483647] rfl 1 (by omega) rfl _ _ h2
    exact l1_step (t := t) H (restS m s b q a x j m.length * w % 2147483647) (mod_res _) w hw _ rfl [restS m s b q a x j m.length * w % 2147483647, c % 2147483647] rfl 0 (by omega) rfl _ _ h1
  | succ d ih =>
    intro i hi
    have hil : i < m.length := by omega
    apply Ev_succ
    have e1 : rd a (i : Int) = a.getD i 0 := rd_nat _ _
    have e2 : rd (R1 m b q) (i : Int) = Sm b q i % 2147483647 := by rw [rd_nat, R1_get i hil]
    have e3 : Int.tmod (wrap64 (wrap64 (a.getD i 0 - Sm b q i % 2147483647) + 2147483647)) 2147483647 = dd b q a i := tmod_sub _ _ (getD_res H.har i) (mod_res _)
    have e4 : rd (diffL m b q a (i + 1)) (i : Int) = dd b q a i := by rw [rd_nat, diffL_get _ _ _ _ _ _ hil, if_pos (by omega)]
    have e5 : Int.tmod (wrap64 (dd b q a i * m.getD i 0)) 2147483647 = dd b q a i * m.getD i 0 % 2147483647 := emod_res _ _ (mod_res _) (getD_res hm i)
    have e6 := tmod_sub (restS m s b q a x j i) (dd b q a i * m.getD i 0 % 2147483647) (restS_res m s b q a x j i) (mod_res _)
    simp only [quietuslaw43_TagsCountForgeries.l0, if_pos (show (i : Int) < (m.length : Int) by omega), if_pos (show 0 ≤ (i : Int) by omega), if_pos (show (i : Int) < (a.length : Int) by omega), R1_length, diffL_length, e1, e2, e3, Int.toNat_natCast, diffL_set m b q a i hil, Option.bind_some, wrap_succ i m.length hil (by omega)]
    by_cases hij : i = j
    · simp only [if_pos (show (i : Int) = (j : Int) by omega)]
      have := ih (i + 1) (by omega)
      rw [show restS m s b q a x j (i + 1) = restS m s b q a x j i by unfold restS; rw [if_pos hij]; exact (by cases i <;> rfl)] at this
      exact this
    · simp only [if_neg (show ¬ (i : Int) = (j : Int) by omega), e4, rd_nat m i, e5, e6]
      have := ih (i + 1) (by omega)
      rw [show restS m s b q a x j (i + 1) = (restS m s b q a x j i - dd b q a i * m.getD i 0 % 2147483647) % 2147483647 by conv => lhs; unfold restS; rw [if_neg hij]] at this
      exact this
end

theorem TagsCountForgeries : TagsCountForgeriesOpen.Pure := by
  rintro ⟨⟨m, s⟩, b, t, q, ⟨a, x⟩⟩ y c hl hy hc
  simp only [TagsCountForgeriesOpen.V5, TagsCountForgeriesOpen.V31] at hy hc
  have hbs : ∀ z ∈ b, z.size ≤ 140737488351232 := by
    simp only [TagsCountForgeriesOpen.V30, TagsCountForgeriesOpen.V25, TagsCountForgeriesOpen.V9] at hl
    exact hl.2.1.2
  clear hl
  apply Ev.rounds
  unfold quietuslaw43_TagsCountForgeries.f
  refine Ev.bind (few_ev m s b t q a x hbs) ?_
  have out : ∀ c y, Ev (fun k => quietuslaw43_TagsCountForgeries.j0 k y c true m s b t q a x) true := by
    intro c y
    apply Ev_succ
    simp only [quietuslaw43_TagsCountForgeries.j0, if_true]
    exact Ev.bind sanity_ev (Ev.now _)
  cases hfew : fewS m s b t q a with
  | false => simp only [Bool.false_eq_true, if_false]; exact out _ _
  | true =>
    obtain ⟨l1, l2, l3, l4, l5, l6⟩ := fewS_true hfew
    simp only [if_true, gt_iff_lt]
    by_cases hq : q.length ≤ 20
    rotate_left
    · simp only [if_pos (show (20 : Int) < (q.length : Int) by omega)]; exact out _ _
    simp only [if_neg (show ¬ (20 : Int) < (q.length : Int) by omega)]
    refine Ev.bind (check_ev m s) ?_
    by_cases hck : checkS m s = 0
    rotate_left
    · rw [show (checkS m s != 0) = true by simpa using hck]; exact out _ _
    rw [show (checkS m s != 0) = false by simpa using hck]
    obtain ⟨c1, c2, c3, hm, hsd⟩ := checkS_zero hck
    apply Ev_succ
    simp only [quietuslaw43_TagsCountForgeries.j0, Bool.false_eq_true, if_false]
    have hout : ∀ {T w j R1 R2}, Ev (fun k => quietuslaw43_TagsCountForgeries.j1 k c T w j true m s b t q a x R1 R2) true := by
      intro T w j R1 R2
      apply Ev_succ
      simp only [quietuslaw43_TagsCountForgeries.j1, if_true]
      exact Ev.bind sanity_ev (Ev.now _)
    by_cases hg : ∀ i, i < b.length → fits m s b i
    rotate_left
    · refine Ev.bind (tagged_bad m s b hck l3 l6 hg) ?_
      simp only [Bool.false_eq_true, if_false]
      exact Ev.bind sanity_ev (Ev.now _)
    refine Ev.bind (tagged_good m s b hck l3 l6 hg) ?_
    have hbl : b.length ≤ 200 := by
      rcases Nat.eq_zero_or_pos b.length with h | h
      · omega
      · have := (hg (b.length - 1) (by omega)).1; omega
    simp only [if_true, if_neg (show ¬ (m.length : Int) = 0 by omega)]
    refine Ev.bind (answer_ev b (tgl m s b b.length) q m.length hbl l6 c1 c2 (by omega) (tgl_length _ _ _ _) (tgl_res _ _ _ _) (fun i hi => (hg i hi).2)) ?_
    by_cases hqb : chalS q b.length = 0
    rotate_left
    · simp only [if_neg hqb]; exact hout
    simp only [if_pos hqb, ansS, if_true]
    by_cases ha : a.length = m.length
    rotate_left
    · simp only [if_neg (show ¬ (a.length : Int) = (m.length : Int) by omega)]; exact hout
    simp only [if_pos (show (a.length : Int) = (m.length : Int) by omega)]
    have hver := verify_ev m s q a x hck (by omega)
    have hgood : (verS m s q a x = 0 ∨ verS m s q a x = 23) → CF m s b q a x (y.toNat % m.length) := by
      intro h
      unfold verS at h
      rw [if_neg (show ¬ a.length ≠ m.length from fun h => h ha)] at h
      by_cases hw : wildB x = true ∨ a.any wildB = true
      · rw [if_pos hw] at h; omega
      rw [if_neg hw] at h
      have hqs : chalS q s.length = 0 := by
        rw [chalS_zero]
        intro z hz
        obtain ⟨g1, g2⟩ := chalS_zero.mp hqb z hz
        refine ⟨⟨g1.1, ?_⟩, g2⟩
        have := (hg (z.f0.toNat) (by omega)).1
        omega
      have hx : wildB x = false := by cases e : wildB x with | false => rfl | true => exact absurd (Or.inl e) hw
      have haw : a.any wildB = false := by cases e : a.any wildB with | false => rfl | true => exact absurd (Or.inr e) hw
      exact ⟨hck, l3, l6, hg, by omega, hqb, hqs, ha, res_any haw, wild_false.mp hx, Nat.mod_lt _ (by omega)⟩
    have hin : CF m s b q a x (y.toNat % m.length) → Ev (fun k => quietuslaw43_TagsCountForgeries.j1 k c (tgl m s b b.length) (m.length : Int) (Int.tmod (wrap64 y) (m.length : Int)) false m s b t q a x (R1 m b q) (Rt m s b q % 2147483647)) true := by
      intro H
      have ej : Int.tmod (wrap64 y) (m.length : Int) = ((y.toNat % m.length : Nat) : Int) := by
        rw [show wrap64 y = y by unfold wrap64; omega, Int.tmod_eq_emod_of_nonneg (by omega), Int.natCast_emod, Int.toNat_of_nonneg (by omega)]
      apply Ev_succ
      rw [ej]
      have e6 := tmod_sub x (Rt m s b q % 2147483647) H.hx (mod_res _)
      simp only [quietuslaw43_TagsCountForgeries.j1, Bool.false_eq_true, if_false, R1_length, if_true, if_pos (show 0 ≤ (m.length : Int) by omega), Int.toNat_natCast, if_pos (show m.length ≤ 35184372088832 by omega), Option.bind_some, List.length_replicate, e6]
      have := l0_ev (t := t) H c hc m.length 0 (by omega)
      rw [diffL_zero] at this
      exact this
    refine Ev.bind hver ?_
    by_cases h0 : verS m s q a x = 0
    · simp only [if_pos h0]
      exact hin (hgood (Or.inl h0))
    simp only [if_neg h0]
    refine Ev.bind hver ?_
    by_cases h23 : verS m s q a x = 23
    · rw [show (verS m s q a x != 23) = false by simpa using h23]
      exact hin (hgood (Or.inr h23))
    · rw [show (verS m s q a x != 23) = true by simpa using h23]
      exact hout
end Go.Proofs.Ytekkjikmcnndoaa.Pure
