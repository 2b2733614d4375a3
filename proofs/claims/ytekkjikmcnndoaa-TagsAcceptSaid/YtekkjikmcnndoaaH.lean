/- What the pieces of package tag that use function values return: slices.ContainsFunc with wild, Symbols, product; and two small facts on rows. For every input within the sizes that each theorem states. -/
import Derived.Test.YtekkjikmcnndoaaPa1
namespace Go.Proofs.Ytekkjikmcnndoaa.Ha
open Go.RowKit Go.Proofs.YtekkjikmcnndoaaW.PrintWords Go.Proofs.YtekkjikmcnndoaaW.PrintLast Go.Proofs.YtekkjikmcnndoaaW.PrintMore
set_option linter.unusedVariables false
set_option linter.unusedSimpArgs false

/-- Is a number no residue? -/
def wildB (n : Int) : Bool := decide (n < 0) || decide (2147483647 ≤ n)
theorem wild_f (n : Int) : Pa.tag_wild.f n = some (wildB n) := by
  unfold Pa.tag_wild.f wildB
  by_cases h : n < 0
  · simp [h]
  · simp [h]
theorem wild_calls (n : Int) (w : World) : Calls Try.prog 21 #[.int .i64 n] w fun e w' => e = .returned (.bool (wildB n)) ∧ Drawn0 w w' :=
  Pa.tag_wild.calls n _ w (wild_f n)

/-- What IndexFunc returns: the first place of a number that is no residue, or -1. -/
def idxW : List Int → Int
  | [] => -1
  | x :: r => if wildB x then 0 else if idxW r < 0 then -1 else idxW r + 1
theorem idxW_ge (l : List Int) : -1 ≤ idxW l := by
  induction l with
  | nil => simp [idxW]
  | cons x r ih => unfold idxW; split <;> (try split) <;> omega
theorem idxW_any (l : List Int) : decide (0 ≤ idxW l) = l.any wildB := by
  induction l with
  | nil => simp [idxW]
  | cons x r ih =>
    have := idxW_ge r
    unfold idxW
    rw [List.any_cons]
    cases hx : wildB x with
    | true => simp
    | false =>
      simp only [Bool.false_or, Bool.false_eq_true, if_false]
      rw [← ih]
      by_cases h : idxW r < 0
      · rw [if_pos h]; simp; omega
      · rw [if_neg h]; simp; omega
theorem idxW_drop (l : List Int) : ∀ k : Nat, (∀ j, j < k → j < l.length → wildB (l.getD j 0) = false) → k ≤ l.length →
    idxW l = if idxW (l.drop k) < 0 then -1 else idxW (l.drop k) + k := by
  induction l with
  | nil => intro k _ hk; simp at hk; subst hk; simp [idxW]
  | cons x r ih =>
    intro k h hk
    cases k with
    | zero => have := idxW_ge (x :: r); simp only [List.drop_zero]; split <;> (try simp) <;> omega
    | succ k =>
      have h0 : wildB x = false := by simpa using h 0 (by omega) (by simp)
      have h1 := ih k (fun j hj hl => by simpa using h (j + 1) (by omega) (by simpa using hl)) (by simpa using hk)
      have := idxW_ge r
      have := idxW_ge (r.drop k)
      show (if wildB x then (0 : Int) else if idxW r < 0 then -1 else idxW r + 1) = _
      rw [h0, List.drop_succ_cons]
      simp only [Bool.false_eq_true, if_false]
      rw [h1]
      by_cases h2 : idxW (r.drop k) < 0
      · simp [h2]
      · rw [if_neg h2, if_neg h2, if_neg (by omega)]; omega
theorem idxW_none (l : List Int) (k : Nat) (h : ∀ j, j < k → wildB (l.getD j 0) = false) (hk : k = l.length) : idxW l = -1 := by
  subst hk
  rw [idxW_drop l l.length (fun j hj _ => h j hj) (Nat.le_refl _)]
  simp [idxW]
theorem idxW_at (l : List Int) (k : Nat) (h : ∀ j, j < k → wildB (l.getD j 0) = false) (hk : k < l.length) (hw : wildB (l.getD k 0) = true) : idxW l = k := by
  rw [idxW_drop l k (fun j hj _ => h j hj) (Nat.le_of_lt hk), List.drop_eq_getElem_cons hk]
  have : l.getD k 0 = l[k] := by simp [List.getD, hk]
  rw [this] at hw
  simp [idxW, hw]

set_option maxHeartbeats 800000 in
theorem IndexFunc_wild (A0 : Option Addr) (c0 : Nat) (l0 : List Int) (w : World) (hr0 : Kd.C (Kd.int .i64) w A0 l0.length l0) (hc0 : l0.length ≤ c0) (hl : l0.length ≤ 9223372036854775807) :
    Calls Try.prog 31 #[.slice A0 l0.length c0, .func (.func 21) #[] #[]] w fun e w' => e = .returned (.int .i64 (idxW l0)) ∧ Drawn0 w w' := by
  have HR0 := Aside0.mk hr0
  have HC0 := Aside0.mk hc0
  have HL := Aside0.mk hl
  clear hr0 hc0 hl
  go_enter Try.func31, Try.ntmps31
  go_wp2
  go_loopg [8] l0.length (fun kq v8 w' => ∃ (k : Nat) (i : Int), v8 = .int .i64 i ∧ Aside0 (i = k) ∧ Aside0 (k + kq = l0.length) ∧ Aside0 (∀ j, j < k → wildB (l0.getD j 0) = false) ∧ Drawn0 w w')
  case atStart => exact ⟨0, 0, rfl, ⟨rfl⟩, ⟨by omega⟩, ⟨fun j hj => by omega⟩, by repeat (first | exact Drawn0.refl _ | apply Drawn0.step)⟩
  case round =>
    obtain ⟨k, i, rfl, HI, HK, HA, ⟨m1, rfl⟩⟩ := hrel
    by_cases c2 : k < l0.length
    · have p1 : 0 ≤ i := by have := HI.out; omega
      have q1 : i < (l0.length : Int) := by have := HI.out; omega
      have C2 := Aside0.mk c2
      clear c2
      obtain ⟨ad, e1, hx⟩ := Kd.at_int HR0.out i p1 q1
      cases e1
      replace p1 := eq_true p1
      have d1 := decide_eq_true q1
      replace q1 := eq_true q1
      cases hw : wildB (rd l0 i) with
      | false =>
        have HW := Aside0.mk hw
        clear hw
        go_wp2_with (go_at_call 21; refine (wild_calls _ _).mono ?_; rintro e w' ⟨rfl, ⟨nd, rfl⟩⟩; rw [HW.out])
        go_roundg (gk - 1)
        case measure => have := HK.out; have := C2.out; omega
        case rel =>
          refine ⟨k + 1, wrap64 (i + 1), rfl, ⟨by have := HI.out; have := C2.out; have := HL.out; unfold wrap64; omega⟩, ⟨by have := HK.out; have := C2.out; omega⟩, ⟨fun j hj => ?_⟩, by repeat (first | exact Drawn0.refl _ | apply Drawn0.step)⟩
          by_cases hjk : j < k
          · exact HA.out j hjk
          · obtain rfl : j = k := by omega
            have := HW.out
            rw [HI.out] at this
            simpa [rd] using this
      | true =>
        have HW := Aside0.mk hw
        clear hw
        go_wp2_with (go_at_call 21; refine (wild_calls _ _).mono ?_; rintro e w' ⟨rfl, ⟨nd, rfl⟩⟩; rw [HW.out])
        go_ret
        exact ⟨by rw [idxW_at l0 k HA.out C2.out (by have := HW.out; rw [HI.out] at this; simpa [rd] using this), ← HI.out]; rfl, by repeat (first | exact Drawn0.refl _ | apply Drawn0.step)⟩
    · have hk : k = l0.length := by have := HK.out; omega
      have q1 : decide (i < (l0.length : Int)) = false := decide_eq_false (by have := HI.out; omega)
      have HE := Aside0.mk hk
      clear hk c2
      go_wp2
      go_ret
      exact ⟨by rw [idxW_none l0 k HA.out HE.out]; rfl, by repeat (first | exact Drawn0.refl _ | apply Drawn0.step)⟩

def tag_ContainsFunc_wild.f (l0 : List Int) : Option Bool := if l0.length ≤ 9223372036854775807 then some (l0.any wildB) else none
set_option maxHeartbeats 800000 in
theorem tag_ContainsFunc_wild.calls (A0 : Option Addr) (c0 : Nat) (l0 : List Int) (r : Bool) (w : World) (hr0 : Kd.C (Kd.int .i64) w A0 l0.length l0) (hc0 : l0.length ≤ c0) (h : tag_ContainsFunc_wild.f l0 = some r) :
    Calls Try.prog 20 #[.slice A0 l0.length c0, .func (.func 21) #[] #[]] w fun e w' => e = .returned (.bool r) ∧ Drawn0 w w' := by
  have hl : l0.length ≤ 9223372036854775807 := by
    unfold tag_ContainsFunc_wild.f at h
    split at h
    · assumption
    · cases h
  have hr : decide (0 ≤ idxW l0) = r := by
    unfold tag_ContainsFunc_wild.f at h
    rw [if_pos hl] at h
    rw [idxW_any, Option.some.inj h]
  have HR0 := Aside0.mk hr0
  have HC0 := Aside0.mk hc0
  have HL := Aside0.mk hl
  have HR := Aside0.mk hr
  clear hr0 hc0 hl hr h
  generalize hix : idxW l0 = ix at *
  have HX := Aside0.mk hix
  clear hix
  go_enter Try.func20, Try.ntmps20
  go_wp2_with (go_at_call 31; refine (IndexFunc_wild _ _ l0 _ HR0.out HC0.out HL.out).mono ?_; rintro e w' ⟨rfl, ⟨nd, rfl⟩⟩; rw [HX.out])
  go_ret
  exact ⟨by rw [← HR.out]; first | rfl | simp, by repeat (first | exact Drawn0.refl _ | apply Drawn0.step)⟩

/-! Symbols -/
def symAt (s : ByteArray) (j : Nat) : Int := bt s (3 * j : Nat) * 65536 + bt s (3 * j + 1 : Nat) * 256 + bt s (3 * j + 2 : Nat)
def symbols (s : ByteArray) : List Int := (List.range ((s.size + 2) / 3)).map (symAt s)
def tag_Symbols.f (s : ByteArray) : Option (List Int) := if s.size ≤ 52776558133000 then some (symbols s) else none
theorem bt_out (s : ByteArray) (n : Int) (h : ¬ n < (s.size : Int)) : bt s n = 0 := by
  unfold bt
  rw [dif_neg (by omega)]

theorem wrap_bt (s : ByteArray) (n : Int) : wrap64 (bt s n) = bt s n := by
  have := bt_range s n
  unfold wrap64
  omega

set_option maxHeartbeats 800000 in
theorem Symbols_at (g : Nat) (s : ByteArray) (n : Int) (w : World) (hb : w.heap[g]? = some (.cells #[.string s] 9 (0, 0))) (h0 : 0 ≤ n) :
    Calls Try.prog 32 #[.int .i64 n, .pointer (some ⟨g, 0, none⟩)] w fun e w' => e = .returned (.int .i64 (bt s n)) ∧ Drawn0 w w' := by
  have hc : w.cell? ⟨g, 0, none⟩ = some (.string s) := (blk_cell hb 0).trans rfl
  clear hb
  by_cases c : n < (s.size : Int)
  · have hx := bt_at s n
    have p := eq_true h0
    have q := eq_true c
    have q1 : decide (n < (s.size : Int)) = true := decide_eq_true c
    clear h0 c
    go_enter Try.func32, Try.ntmps32
    go_wp2
    go_ret
    exact ⟨by simp [wrap_bt], by repeat (first | exact Drawn0.refl _ | apply Drawn0.step)⟩
  · have HB := Aside0.mk (bt_out s n c)
    have q1 : decide (n < (s.size : Int)) = false := decide_eq_false c
    clear h0 c
    go_enter Try.func32, Try.ntmps32
    go_wp2
    go_ret
    exact ⟨by rw [HB.out]; rfl, by repeat (first | exact Drawn0.refl _ | apply Drawn0.step)⟩
end Go.Proofs.Ytekkjikmcnndoaa.Ha

namespace Go.Proofs.Ytekkjikmcnndoaa.Ha
open Go.RowKit Go.Proofs.YtekkjikmcnndoaaW.PrintWords Go.Proofs.YtekkjikmcnndoaaW.PrintLast Go.Proofs.YtekkjikmcnndoaaW.PrintMore
set_option linter.unusedVariables false
set_option linter.unusedSimpArgs false

theorem info3 : (Try.prog.info? 3).map (fun i => (i.zero, i.size, i.bytes)) = some (some (.int .i64 0), 1, 8) := by kernel_rfl
theorem info68 : (Try.prog.info? 68).map (fun i => (i.zero, i.size, i.bytes)) = some (some (.int .i64 0), 1, 8) := by kernel_rfl

theorem or_bytes (x y z : Int) (hx : 0 ≤ x ∧ x ≤ 255) (hy : 0 ≤ y ∧ y ≤ 255) (hz : 0 ≤ z ∧ z ≤ 255) :
    Go.bits .or .i64 (Go.bits .or .i64 (wrap64 (x * 65536)) (wrap64 (y * 256))) z = x * 65536 + y * 256 + z := by
  have hk : ∀ n : Int, 0 ≤ n → n < 2 ^ 62 → IntKind.i64.wrap n = n := fun n h0 h1 => by rw [IntKind.wrap_i64]; omega
  rw [show wrap64 (x * 65536) = x * 65536 by unfold wrap64; omega, show wrap64 (y * 256) = y * 256 by unfold wrap64; omega]
  rw [bits_join .i64 62 (by decide) hk 16 (x * 65536) (y * 256) (by omega) (by omega) (by omega) (by omega) (by omega) (by omega)]
  rw [bits_join .i64 62 (by decide) hk 8 (x * 65536 + y * 256) z (by omega) (by omega) (by omega) (by omega) (by omega) (by omega)]

theorem range_succ_map (f : Nat → Int) (k : Nat) : (List.range (k + 1)).map f = (List.range k).map f ++ [f k] := by
  rw [List.range_succ, List.map_append]; rfl

set_option maxHeartbeats 800000 in
theorem tag_Symbols.calls (a0 : ByteArray) (r : List Int) (w : World) (h : tag_Symbols.f a0 = some r) :
    Calls Try.prog 22 #[.string a0] w fun e w' => ∃ v0_ : Value, e = .returned v0_ ∧ Kd.R (Kd.int .i64) 3 w' w.heap.size (fun _ => True) v0_ r ∧ Below w.heap.size w w' := by
  have hl : a0.size ≤ 52776558133000 := by
    unfold tag_Symbols.f at h
    split at h
    · assumption
    · cases h
  have hr : symbols a0 = r := by
    unfold tag_Symbols.f at h
    rw [if_pos hl] at h
    exact Option.some.inj h
  have HS := Aside0.mk hl
  have HR := Aside0.mk hr
  clear hl hr h
  have HB := Aside0.mk (Below.refl w.heap.size w)
  have hmf : ∀ (fn : Fn) (first cap : Array Value) (w : World), (Instr.makeFunc fn first cap).run Try.prog w = .ok (.func fn first cap) w := fun _ _ _ _ => rfl
  go_enter Try.func22, Try.ntmps22
  go_wp2_with (first | ((with_reducible refine gate_dst (N := 1) rfl ?_); refine box_event ?hg (N := 1) ?hd (cs := #[.string a0]) (t := 9) ?hr ?_; (case hd => rfl); (case hg => rfl); (case hr => first | (go_simp; done) | (go_simp; rfl)); intro gb hg w3 hbox hb; have n0_ := Aside0.mk (below_step (by repeat (first | (with_reducible first | exact HB.out | apply below_alloc | apply pw_below_drewN | apply below_drew1) | exact HB.out)) hb); have n1_ := Aside0.mk (hbox); have n2_ := Aside0.mk ((by rw [hg]; exact (below_size (by repeat (first | (with_reducible first | exact HB.out | apply below_alloc | apply pw_below_drewN | apply below_drew1) | exact HB.out))) : w.heap.size ≤ gb)); clear HB; have HB := n0_; have BK := n1_; have GW := n2_; clear n0_ n1_ n2_; clear hb hbox hg; have hcz : w3.cell? ⟨gb, 0, none⟩ = some (.string a0) := (blk_cell BK.out 0).trans rfl))
  go_loopg [4, 5] ((a0.size + 2) / 3) (fun kq v4 v5 w' => ∃ (k : Nat) (i : Int), v5 = .int .i64 i ∧ Aside0 (i = 3 * k) ∧ Aside0 (k + kq = (a0.size + 2) / 3) ∧ Aside0 (Kd.R (Kd.int .i64) 3 w' w.heap.size (fun _ => True) v4 ((List.range k).map (symAt a0))) ∧ Aside0 (w'.heap[gb]? = some (.cells #[.string a0] 9 (0, 0))) ∧ Aside0 (Below w.heap.size w w'))
  case atStart => exact ⟨0, 0, rfl, ⟨by simp⟩, ⟨by omega⟩, ⟨Kd.R_nil _ _ _ _ _⟩, ⟨BK.out⟩, ⟨HB.out⟩⟩
  case round =>
    clear hcz BK HB
    obtain ⟨k, i, rfl, HI, HK, HO, BK, HB⟩ := hrel
    have hcz : wr.cell? ⟨gb, 0, none⟩ = some (.string a0) := (blk_cell BK.out 0).trans rfl
    by_cases c2 : k < (a0.size + 2) / 3
    · have q1 : decide (i < (a0.size : Int)) = true := decide_eq_true (by have := HI.out; omega)
      have HC := Aside0.mk c2
      clear c2
      have n1 : 0 ≤ i := by have := HI.out; omega
      have e1 : wrap64 (i + 1) = i + 1 := by have := HI.out; have := HC.out; have := HS.out; unfold wrap64; omega
      have e2 : wrap64 (i + 2) = i + 2 := by have := HI.out; have := HC.out; have := HS.out; unfold wrap64; omega
      have e3 : wrap64 (i + 3) = i + 3 := by have := HI.out; have := HC.out; have := HS.out; unfold wrap64; omega
      have N1 := Aside0.mk n1
      have E1 := Aside0.mk e1
      have E2 := Aside0.mk e2
      have E3 := Aside0.mk e3
      clear n1 e1 e2 e3
      have HV : Aside0 (Go.bits .or .i64 (Go.bits .or .i64 (wrap64 (bt a0 i * 65536)) (wrap64 (bt a0 (wrap64 (i + 1)) * 256))) (bt a0 (wrap64 (i + 2))) = symAt a0 k) := ⟨by
        rw [or_bytes _ _ _ (bt_range _ _) (bt_range _ _) (bt_range _ _), E1.out, E2.out, HI.out]
        unfold symAt
        rfl⟩
      have LM : Aside0 (((List.range k).map (symAt a0)).length < 17592186044416) := ⟨by have := HC.out; have := HS.out; simp; omega⟩
      generalize hxs : (List.range k).map (symAt a0) = xs at HO LM
      have HX := Aside0.mk hxs
      clear hxs
      go_wp2_with (first | (go_at_call 32; refine (Symbols_at gb a0 _ _ ?cb ?cn).mono ?_; (case cb => (with_reducible repeat (first | refine blk_drewN ?_ _ | refine blk_drew ?_ | refine blk_alloc ?_ _)); exact BK.out); (case cn => first | exact N1.out | (rw [E1.out]; have := N1.out; omega) | (rw [E2.out]; have := N1.out; omega)); rintro e w' ⟨rfl, ⟨nd, rfl⟩⟩) | ((with_reducible refine gate_builtin (b := .append) (xs := #[.tmp 13, .tmp 29]) rfl ?_); at_builtin; refine Kd.R_append (Kd.int .i64) (w0 := w) w.heap.size rfl (.tmp 13) (.tmp 29) 22 3 (.int .i64 0) 8 rfl Try.underlying22 info3 rfl (by decide) (by omega) u4 xs (Go.bits .or .i64 (Go.bits .or .i64 (wrap64 (bt a0 i * 65536)) (wrap64 (bt a0 (wrap64 (i + 1)) * 256))) (bt a0 (wrap64 (i + 2)))) [.int .i64 (Go.bits .or .i64 (Go.bits .or .i64 (wrap64 (bt a0 i * 65536)) (wrap64 (bt a0 (wrap64 (i + 1)) * 256))) (bt a0 (wrap64 (i + 2))))] (fun _ => True) (fun _ => False) rfl rfl ?aP (fun _ hk => hk.elim) ?aF ?aO ?aB ?aS ?aL ?_; (case aP => exact rfl); (case aB => exact (by repeat (first | (with_reducible first | exact HB.out | apply below_alloc | apply pw_below_drewN | apply below_drew1) | exact HB.out))); (case aF => exact (fun _ _ => trivial)); (case aO => exact (by (with_reducible repeat (first | apply Kd.R_alloc | apply Kd.R_drewN | apply Kd.R_drew)); exact HO.out)); (case aS => exact (below_size (by repeat (first | (with_reducible first | exact HB.out | apply below_alloc | apply pw_below_drewN | apply below_drew1) | exact HB.out)))); (case aL => have := LM.out; omega); intro v112 w13 ho hb hg hat; rw [HV.out] at ho; have n0_ := Aside0.mk (blk_grown (g := gb) (o := .cells #[.string a0] 9 (0, 0)) (by (with_reducible repeat (first | refine blk_drewN ?_ _ | refine blk_drew ?_ | refine blk_alloc ?_ _)); exact BK.out) hg (Kd.R_ne HO.out BK.out (by decide))); have n2_ := Aside0.mk (hb); have n3_ := Aside0.mk (ho); clear BK; clear HB; clear HO; have BK := n0_; have HB := n2_; have HO := n3_; clear n0_ n2_ n3_; clear ho hb hg hat; have hcz : w13.cell? ⟨gb, 0, none⟩ = some (.string a0) := (blk_cell BK.out 0).trans rfl))
      go_roundg (gk - 1)
      case measure => have := HK.out; have := HC.out; omega
      case rel => exact ⟨k + 1, wrap64 (i + 3), rfl, ⟨by rw [E3.out, HI.out]; omega⟩, ⟨by have := HK.out; have := HC.out; omega⟩, ⟨by rw [range_succ_map, HX.out]; exact HO.out⟩, ⟨BK.out⟩, ⟨HB.out⟩⟩
    · have q1 : decide (i < (a0.size : Int)) = false := decide_eq_false (by have := HI.out; omega)
      have hk : k = (a0.size + 2) / 3 := by have := HK.out; omega
      clear c2
      have HK2 := Aside0.mk hk
      clear hk
      obtain ⟨Ao, co, eo⟩ := Kd.R_slice HO.out
      subst eo
      go_wp2
      go_ret
      exact ⟨_, rfl, by rw [← HR.out]; unfold symbols; rw [← HK2.out]; exact HO.out, HB.out⟩
end Go.Proofs.Ytekkjikmcnndoaa.Ha

namespace Go.Proofs.Ytekkjikmcnndoaa.Ha
open Go.RowKit Go.Proofs.YtekkjikmcnndoaaW.PrintWords Go.Proofs.YtekkjikmcnndoaaW.PrintLast Go.Proofs.YtekkjikmcnndoaaW.PrintMore
set_option linter.unusedVariables false
set_option linter.unusedSimpArgs false

def timesI (x y : Int) : Int := Int.tmod (wrap64 (x * y)) 2147483647
theorem times_calls (x y : Int) (w : World) : Calls Try.prog 25 #[.int .i64 x, .int .i64 y] w fun e w' => e = .returned (.int .i64 (timesI x y)) ∧ Drawn0 w w' :=
  Pa.tag_residue_times.calls x y _ w rfl
def prods (a b : List Int) : List Int := List.zipWith timesI a b
def tag_product.f (k : Nat) (a b : List Int) : Option Int :=
  if b.length ≤ a.length then if b.length < 17592186044416 then Pa.tag_sum.f k (prods a b) else none else none
theorem tag_product.mono : ∀ a0 a1 k, LeO (tag_product.f k a0 a1) (tag_product.f (k + 1) a0 a1) := by
  intro a0 a1 k
  unfold tag_product.f
  exact LeO.ite (LeO.ite (Pa.tag_sum.mono _ _) (LeO.refl _)) (LeO.refl _)
theorem prods_length (a b : List Int) (h : b.length ≤ a.length) : (prods a b).length = b.length := by
  unfold prods; rw [List.length_zipWith]; omega
theorem prods_take (a b : List Int) (h : b.length ≤ a.length) (k : Nat) (hk : k < b.length) : (prods a b).take (k + 1) = (prods a b).take k ++ [timesI (a.getD k 0) (b.getD k 0)] := by
  have hk2 : k < (prods a b).length := by rw [prods_length a b h]; exact hk
  rw [List.take_succ_eq_append_getElem hk2]
  have e : (prods a b)[k]'hk2 = timesI (a.getD k 0) (b.getD k 0) := by
    simp only [prods, List.getElem_zipWith]
    simp [List.getD, hk, Nat.lt_of_lt_of_le hk h]
  rw [e]

set_option maxHeartbeats 800000 in
theorem tag_product.calls (k : Nat) (A0 : Option Addr) (c0 : Nat) (l0 : List Int) (A1 : Option Addr) (c1 : Nat) (l1 : List Int) (r : Int) (w : World) (hr0 : Kd.C (Kd.int .i64) w A0 l0.length l0) (hc0 : l0.length ≤ c0) (hr1 : Kd.C (Kd.int .i64) w A1 l1.length l1) (hc1 : l1.length ≤ c1) (h : tag_product.f k l0 l1 = some r) :
    Calls Try.prog 27 #[.slice A0 l0.length c0, .slice A1 l1.length c1] w fun e w' => e = .returned (.int .i64 r) ∧ Below w.heap.size w w' := by
  have hle : l1.length ≤ l0.length := by
    unfold tag_product.f at h
    split at h
    · assumption
    · cases h
  have hlt : l1.length < 17592186044416 := by
    unfold tag_product.f at h
    rw [if_pos hle] at h
    split at h
    · assumption
    · cases h
  have hs : Pa.tag_sum.f k (prods l0 l1) = some r := by
    unfold tag_product.f at h
    rwa [if_pos hle, if_pos hlt] at h
  have HR0 := Aside0.mk hr0
  have HC0 := Aside0.mk hc0
  have HR1 := Aside0.mk hr1
  have HC1 := Aside0.mk hc1
  have HLE := Aside0.mk hle
  have HLT := Aside0.mk hlt
  have HS := Aside0.mk hs
  clear hr0 hc0 hr1 hc1 hle hlt hs h
  have HB := Aside0.mk (Below.refl w.heap.size w)
  have hmf : ∀ (fn : Fn) (first cap : Array Value) (w : World), (Instr.makeFunc fn first cap).run Try.prog w = .ok (.func fn first cap) w := fun _ _ _ _ => rfl
  go_enter Try.func27, Try.ntmps27
  go_wp2
  go_loopg [5, 11] l1.length (fun kq v5 v11 w' => ∃ (j : Nat) (i : Int), v11 = .int .i64 i ∧ Aside0 (i = j) ∧ Aside0 (j + kq = l1.length) ∧ Aside0 (Kd.R (Kd.int .i64) 68 w' w.heap.size (fun _ => True) v5 ((prods l0 l1).take j)) ∧ Aside0 (Below w.heap.size w w'))
  case atStart => exact ⟨0, 0, rfl, ⟨rfl⟩, ⟨by omega⟩, ⟨Kd.R_nil _ _ _ _ _⟩, ⟨HB.out⟩⟩
  case round =>
    clear HB
    obtain ⟨j, i, rfl, HI, HK, HO, HB⟩ := hrel
    by_cases c2 : j < l1.length
    · have HC := Aside0.mk c2
      clear c2
      have p1 : 0 ≤ i := by have := HI.out; omega
      have q1 : i < (l1.length : Int) := by have := HI.out; have := HC.out; omega
      have q0 : i < (l0.length : Int) := by have := HI.out; have := HC.out; have := HLE.out; omega
      obtain ⟨ad1, e1, hx1⟩ := Kd.at_int HR1.out i p1 q1
      obtain ⟨ad0, e0, hx0⟩ := Kd.at_int HR0.out i p1 q0
      cases e1
      cases e0
      replace hx1 := (HB.out.cell (World.block_lt_of_cell? w _ hx1)).trans hx1
      replace hx0 := (HB.out.cell (World.block_lt_of_cell? w _ hx0)).trans hx0
      have d1 := decide_eq_true q1
      replace p1 := eq_true p1
      replace q1 := eq_true q1
      replace q0 := eq_true q0
      have LM : Aside0 (((prods l0 l1).take j).length < 17592186044416) := ⟨by have := HC.out; have := HLT.out; simp; omega⟩
      have HV : Aside0 ((prods l0 l1).take j ++ [timesI (rd l0 i) (rd l1 i)] = (prods l0 l1).take (j + 1)) := ⟨by
        rw [prods_take l0 l1 HLE.out j HC.out, HI.out]; rfl⟩
      generalize hxs : (prods l0 l1).take j = xs at HO LM HV
      clear hxs
      go_wp2_with (first | (go_at_call 25; refine (times_calls _ _ _).mono ?_; rintro e w' ⟨rfl, ⟨nd, rfl⟩⟩) | ((with_reducible refine gate_builtin (b := .append) (xs := #[.tmp 21, .tmp 25]) rfl ?_); at_builtin; refine Kd.R_append (Kd.int .i64) (w0 := w) w.heap.size rfl (.tmp 21) (.tmp 25) 67 68 (.int .i64 0) 8 rfl Try.underlying67 info68 rfl (by decide) (by omega) u5 xs (timesI (rd l0 i) (rd l1 i)) [.int .i64 (timesI (rd l0 i) (rd l1 i))] (fun _ => True) (fun _ => False) rfl rfl ?aP (fun _ hk => hk.elim) ?aF ?aO ?aB ?aS ?aL ?_; (case aP => exact rfl); (case aB => exact (by repeat (first | (with_reducible first | exact HB.out | apply below_alloc | apply pw_below_drewN | apply below_drew1) | exact HB.out))); (case aF => exact (fun _ _ => trivial)); (case aO => exact (by (with_reducible repeat (first | apply Kd.R_alloc | apply Kd.R_drewN | apply Kd.R_drew)); exact HO.out)); (case aS => exact (below_size (by repeat (first | (with_reducible first | exact HB.out | apply below_alloc | apply pw_below_drewN | apply below_drew1) | exact HB.out)))); (case aL => have := LM.out; omega); intro v112 w13 ho hb hg hat; rw [HV.out] at ho; have n2_ := Aside0.mk (hb); have n3_ := Aside0.mk (ho); clear HB; clear HO; have HB := n2_; have HO := n3_; clear n2_ n3_; clear ho hb hg hat))
      go_roundg (gk - 1)
      case measure => have := HK.out; have := HC.out; omega
      case rel => exact ⟨j + 1, wrap64 (i + 1), rfl, ⟨by have := HI.out; have := HC.out; have := HLT.out; unfold wrap64; omega⟩, ⟨by have := HK.out; have := HC.out; omega⟩, ⟨HO.out⟩, ⟨HB.out⟩⟩
    · have q1 : decide (i < (l1.length : Int)) = false := decide_eq_false (by have := HI.out; omega)
      have hk : (prods l0 l1).take j = prods l0 l1 := by rw [List.take_of_length_le (by rw [prods_length _ _ HLE.out]; omega)]
      clear c2
      rw [hk] at HO
      clear hk
      obtain ⟨Ao, co, eo, hlo, hro⟩ := Kd.R_reads HO.out
      subst eo
      have HRO := Aside0.mk hro
      have HLO := Aside0.mk hlo
      clear hro hlo
      go_wp2_with (go_at_call 24; refine (Pa.tag_sum.calls k _ _ (prods l0 l1) _ _ HRO.out HLO.out HS.out).mono ?_; rintro e w' ⟨rfl, ⟨nd, rfl⟩⟩)
      go_ret
      exact ⟨rfl, by repeat (first | (with_reducible first | exact HB.out | apply below_alloc | apply pw_below_drewN | apply below_drew1) | exact HB.out)⟩
end Go.Proofs.Ytekkjikmcnndoaa.Ha

namespace Go.Proofs.Ytekkjikmcnndoaa.Ha
open Go.RowKit Go.Proofs.YtekkjikmcnndoaaW.PrintWords Go.Proofs.YtekkjikmcnndoaaW.PrintLast Go.Proofs.YtekkjikmcnndoaaW.PrintMore
set_option linter.unusedVariables false
set_option linter.unusedSimpArgs false

theorem ne_rows {α β : Type} {d : Kd α} {d' : Kd β} {e e' b b' n c : Nat} {ok ok' : Nat → Prop} {W : World} {A : Option Addr} {v : Value} {xs : List α} {ys : List β}
    (h : Kd.R d e W b ok (.slice A n c) xs) (h' : Kd.R d' e' W b' ok' v ys) (hne : e' ≠ e) : ∀ ad, A = some ad → some ad.block ≠ v.ownBlock := by
  intro ad he h2
  obtain ⟨inner, ho⟩ := Kd.R_own h
  obtain ⟨cells, hc⟩ := own_typed ho ad.block (by rw [he]; rfl)
  exact Kd.R_ne h' hc hne h2
theorem C_far {k : IntKind} {W : World} {A : Option Addr} {n : Nat} {xs : List Int} (h : Kd.C (Kd.int k) W A n xs) (p : Addr) (u : Value) (hne : ∀ ad, A = some ad → ad.block ≠ p.block) :
    Kd.C (Kd.int k) (W.setCell p u) A n xs := by
  obtain ⟨h1, h2, h3⟩ := h
  refine ⟨h1, h2, fun hn => ?_⟩
  obtain ⟨ad, e, hc⟩ := h3 hn
  refine ⟨ad, e, fun j q hq => ?_⟩
  obtain ⟨c, hl, hr, hcell⟩ := hc j q hq
  refine ⟨c, hl, hr, fun i v hv => ?_⟩
  rw [cell_far (by rw [add_block]; exact hne ad e)]
  exact hcell i v hv
end Go.Proofs.Ytekkjikmcnndoaa.Ha
