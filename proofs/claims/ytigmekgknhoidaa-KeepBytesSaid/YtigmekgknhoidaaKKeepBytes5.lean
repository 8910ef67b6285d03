/- The law KeepBytes: printed functions, their contracts, the plain laws and the row, part 5. -/
import Derived.Test.YtigmekgknhoidaaKKeepBytes4
import Derived.Test.YtigmekgknhoidaaKKeepBytes2
-- written by a program of the proving session, out of the translation; Lean checks it
namespace Go.Proofs.Ytigmekgknhoidaa.P
open Go.RowKit Go.Proofs.Ytigmekgknhoidaa.Sq Go.Proofs.YtigmekgknhoidaaW.PrintWords Go.Proofs.YtigmekgknhoidaaW.PrintLast Go.Proofs.YtigmekgknhoidaaW.PrintMore
attribute [local go_sem] max2_int min2_int max_two min_two max_three min_three max_four min_four   -- for this text's walks alone
set_option linter.unusedVariables false
set_option linter.unusedSimpArgs false

/-! ### keep_Rules: function 21 -/
mutual
def keep_Rules.j0 : Nat → Bool → Int → Int → Int → Bool → Int → Option (Int)
 | 0, _, _, _, _, _, _ => none
 | k + 1, x3, x129000, x129001, x129002, x129003, x129004 => if x3 = true then (keep_Rules.j1 k x3 x129000 x129001 x129002 x129003 x129004) else (if x129001 < (-1) then (keep_Rules.j1 k true x129000 x129001 x129002 x129003 x129004) else (keep_Rules.j1 k (decide (x129001 > 1073741824)) x129000 x129001 x129002 x129003 x129004))
def keep_Rules.j1 : Nat → Bool → Int → Int → Int → Bool → Int → Option (Int)
 | 0, _, _, _, _, _, _ => none
 | k + 1, x3, x129000, x129001, x129002, x129003, x129004 => if x3 = true then (some 1) else (if x129002 < (-1) then (keep_Rules.j2 k true x129000 x129001 x129002 x129003 x129004) else (keep_Rules.j2 k (decide (x129002 > 1073741824)) x129000 x129001 x129002 x129003 x129004))
def keep_Rules.j2 : Nat → Bool → Int → Int → Int → Bool → Int → Option (Int)
 | 0, _, _, _, _, _, _ => none
 | k + 1, x20, x129000, x129001, x129002, x129003, x129004 => if x20 = true then (some 1) else (if x129004 < 0 then (some 1) else (if x129004 > 1073741824 then (some 1) else (some 0)))
end
def keep_Rules.f (k : Nat) (a0_0 : Int) (a0_1 : Int) (a0_2 : Int) (a0_3 : Bool) (a0_4 : Int) : Option (Int) := if a0_0 < 1 then (keep_Rules.j0 k true a0_0 a0_1 a0_2 a0_3 a0_4) else (keep_Rules.j0 k (decide (a0_0 > 32768)) a0_0 a0_1 a0_2 a0_3 a0_4)
theorem keep_Rules.mono_l : ∀ k, (∀ y0 y1 y2 y3 y4 y5, LeO (keep_Rules.j0 k y0 y1 y2 y3 y4 y5) (keep_Rules.j0 (k + 1) y0 y1 y2 y3 y4 y5)) ∧ (∀ y0 y1 y2 y3 y4 y5, LeO (keep_Rules.j1 k y0 y1 y2 y3 y4 y5) (keep_Rules.j1 (k + 1) y0 y1 y2 y3 y4 y5)) ∧ (∀ y0 y1 y2 y3 y4 y5, LeO (keep_Rules.j2 k y0 y1 y2 y3 y4 y5) (keep_Rules.j2 (k + 1) y0 y1 y2 y3 y4 y5))
 | 0 => ⟨fun _ _ _ _ _ _ r h => by simp [keep_Rules.j0] at h, fun _ _ _ _ _ _ r h => by simp [keep_Rules.j1] at h, fun _ _ _ _ _ _ r h => by simp [keep_Rules.j2] at h⟩
 | k + 1 => by
  obtain ⟨ih0, ih1, ih2⟩ := keep_Rules.mono_l k
  refine ⟨?_, ?_, ?_⟩
  ·intro y0 y1 y2 y3 y4 y5
   unfold keep_Rules.j0
   repeat' first
   | (with_reducible exact ih0 _ _ _ _ _ _)
   | (with_reducible exact ih1 _ _ _ _ _ _)
   | (with_reducible exact ih2 _ _ _ _ _ _)
   | (with_reducible exact LeO.refl _)
   | (with_reducible exact LeO.none _)
   | (with_reducible refine LeO.ite ?_ ?_)
   | (with_reducible refine LeO.bind ?_ (fun _ => ?_))
   | exact ih0 _ _ _ _ _ _
   | exact ih1 _ _ _ _ _ _
   | exact ih2 _ _ _ _ _ _
   | exact LeO.none _
   | refine LeO.ite ?_ ?_
   | refine LeO.bind ?_ (fun _ => ?_)
  ·intro y0 y1 y2 y3 y4 y5
   unfold keep_Rules.j1
   repeat' first
   | (with_reducible exact ih0 _ _ _ _ _ _)
   | (with_reducible exact ih1 _ _ _ _ _ _)
   | (with_reducible exact ih2 _ _ _ _ _ _)
   | (with_reducible exact LeO.refl _)
   | (with_reducible exact LeO.none _)
   | (with_reducible refine LeO.ite ?_ ?_)
   | (with_reducible refine LeO.bind ?_ (fun _ => ?_))
   | exact ih0 _ _ _ _ _ _
   | exact ih1 _ _ _ _ _ _
   | exact ih2 _ _ _ _ _ _
   | exact LeO.none _
   | refine LeO.ite ?_ ?_
   | refine LeO.bind ?_ (fun _ => ?_)
  ·intro y0 y1 y2 y3 y4 y5
   unfold keep_Rules.j2
   repeat' first
   | (with_reducible exact ih0 _ _ _ _ _ _)
   | (with_reducible exact ih1 _ _ _ _ _ _)
   | (with_reducible exact ih2 _ _ _ _ _ _)
   | (with_reducible exact LeO.refl _)
   | (with_reducible exact LeO.none _)
   | (with_reducible refine LeO.ite ?_ ?_)
   | (with_reducible refine LeO.bind ?_ (fun _ => ?_))
   | exact ih0 _ _ _ _ _ _
   | exact ih1 _ _ _ _ _ _
   | exact ih2 _ _ _ _ _ _
   | exact LeO.none _
   | refine LeO.ite ?_ ?_
   | refine LeO.bind ?_ (fun _ => ?_)
theorem keep_Rules.mono : ∀ a0 a1 a2 a3 a4 k, LeO (keep_Rules.f k a0 a1 a2 a3 a4) (keep_Rules.f (k + 1) a0 a1 a2 a3 a4) := by
 intro a0 a1 a2 a3 a4 k
 obtain ⟨ih0, ih1, ih2⟩ := keep_Rules.mono_l k
 unfold keep_Rules.f
 repeat' first
  | (with_reducible exact ih0 _ _ _ _ _ _)
  | (with_reducible exact ih1 _ _ _ _ _ _)
  | (with_reducible exact ih2 _ _ _ _ _ _)
  | (with_reducible exact LeO.refl _)
  | (with_reducible exact LeO.none _)
  | (with_reducible refine LeO.ite ?_ ?_)
  | (with_reducible refine LeO.bind ?_ (fun _ => ?_))
  | exact ih0 _ _ _ _ _ _
  | exact ih1 _ _ _ _ _ _
  | exact ih2 _ _ _ _ _ _
  | exact LeO.none _
  | refine LeO.ite ?_ ?_
  | refine LeO.bind ?_ (fun _ => ?_)
set_option maxHeartbeats 8000000 in
set_option maxRecDepth 100000 in
theorem keep_Rules.calls (k : Nat) (a0_0 : Int) (a0_1 : Int) (a0_2 : Int) (a0_3 : Bool) (a0_4 : Int) (r : Int) (w : World) (h : keep_Rules.f k a0_0 a0_1 a0_2 a0_3 a0_4 = some r) :
 Calls Try.prog 21 #[.agg #[.int .i64 a0_0, .int .i64 a0_1, .int .i64 a0_2, .bool a0_3, .int .i64 a0_4]] w fun e w' => e = .returned (.int .i64 r) ∧ Below w.heap.size w w' := by
 have hu35 := Try.underlying35
 have HB := Aside0.mk (Below.refl w.heap.size w)
 have H : (if a0_0 < 1 then (keep_Rules.j0 k true a0_0 a0_1 a0_2 a0_3 a0_4) else (keep_Rules.j0 k (decide (a0_0 > 32768)) a0_0 a0_1 a0_2 a0_3 a0_4)) = some r := h
 clear h
 have HC2 := Aside0.mk H
 clear H
 go_enter Try.func21, Try.ntmps21
 go_upto_region 1 with (first | ((with_reducible refine gate_dst (N := 1) rfl ?_); refine box_event ?hg (N := 1) ?hd (cs := #[.int .i64 a0_0, .int .i64 a0_1, .int .i64 a0_2, .bool a0_3, .int .i64 a0_4]) (t := 35) ?hr ?_; (case hd => rfl); (case hg => rfl); (case hr => first | (go_simp; done) | (go_simp; rfl)); intro gb128 hg w3 hbox hb; have BK128 := Aside0.mk (hbox); have GW128 := Aside0.mk ((by rw [hg]; exact (below_size bo) : w.heap.size ≤ gb128)); have GE128 := Aside0.mk ((by rw [hg]; exact (below_size bo) : w.heap.size ≤ gb128)); replace HB := Aside0.mk (below_step bo hb); clear hb hbox hg))
 (try simp only [Act.put, List.setIfInBounds_toArray, List.set_cons_zero, List.set_cons_succ])
 go_cut [3] (fun v3 wc => ∃ (kq : Nat) (x3_1 : Bool), v3 = .bool x3_1 ∧ Aside0 (keep_Rules.j0 kq x3_1 a0_0 a0_1 a0_2 a0_3 a0_4 = some r) ∧ Aside0 (kq ≤ k) ∧ Aside0 (wc.heap[gb128]? = some (.cells #[.int .i64 a0_0, .int .i64 a0_1, .int .i64 a0_2, .bool a0_3, .int .i64 a0_4] 35 (0, 0))) ∧ Aside0 (Below w.heap.size w wc))
 case first =>
  have H := HC2.out
  clear HC2
  by_cases c4 : a0_0 < 1
  ·rw [if_pos c4] at H
   have c4b0 : decide (a0_0 < 1) = true := decide_eq_true c4
   clear c4
   (first | rw [c4b0] | (simp only [i64_w, i32_w]; rw [c4b0]) | skip)
   have H' := Aside0.mk H
   clear H
   have hcz5_0 : w3.cell? ⟨gb128, 0, none⟩ = some (.int .i64 a0_0) := (blk_cell BK128.out 0).trans rfl
   have hcz5_1 : w3.cell? ⟨gb128, 1, none⟩ = some (.int .i64 a0_1) := (blk_cell BK128.out 1).trans rfl
   have hcz5_2 : w3.cell? ⟨gb128, 2, none⟩ = some (.int .i64 a0_2) := (blk_cell BK128.out 2).trans rfl
   have hcz5_3 : w3.cell? ⟨gb128, 3, none⟩ = some (.bool a0_3) := (blk_cell BK128.out 3).trans rfl
   have hcz5_4 : w3.cell? ⟨gb128, 4, none⟩ = some (.int .i64 a0_4) := (blk_cell BK128.out 4).trans rfl
   have hfz5_0 := blk_frozen BK128.out 0
   have hfz5_1 := blk_frozen BK128.out 1
   have hfz5_2 := blk_frozen BK128.out 2
   have hfz5_3 := blk_frozen BK128.out 3
   have hfz5_4 := blk_frozen BK128.out 4
   go_wp2
   go_meet
   case rel => exact ⟨_, (true), ap, H', ⟨by first | omega | exact Nat.le_refl _⟩, ⟨by (with_reducible repeat (first | refine blk_drewN ?_ _ | refine blk_drew ?_ | refine blk_alloc ?_ _)); exact BK128.out⟩, ⟨bo⟩⟩
  ·rw [if_neg c4] at H
   have c4b0 : decide (a0_0 < 1) = false := decide_eq_false c4
   clear c4
   (first | rw [c4b0] | (simp only [i64_w, i32_w]; rw [c4b0]) | skip)
   have H' := Aside0.mk H
   clear H
   have hcz6_0 : w3.cell? ⟨gb128, 0, none⟩ = some (.int .i64 a0_0) := (blk_cell BK128.out 0).trans rfl
   have hcz6_1 : w3.cell? ⟨gb128, 1, none⟩ = some (.int .i64 a0_1) := (blk_cell BK128.out 1).trans rfl
   have hcz6_2 : w3.cell? ⟨gb128, 2, none⟩ = some (.int .i64 a0_2) := (blk_cell BK128.out 2).trans rfl
   have hcz6_3 : w3.cell? ⟨gb128, 3, none⟩ = some (.bool a0_3) := (blk_cell BK128.out 3).trans rfl
   have hcz6_4 : w3.cell? ⟨gb128, 4, none⟩ = some (.int .i64 a0_4) := (blk_cell BK128.out 4).trans rfl
   have hfz6_0 := blk_frozen BK128.out 0
   have hfz6_1 := blk_frozen BK128.out 1
   have hfz6_2 := blk_frozen BK128.out 2
   have hfz6_3 := blk_frozen BK128.out 3
   have hfz6_4 := blk_frozen BK128.out 4
   go_wp2
   go_meet
   case rel => exact ⟨_, (decide (a0_0 > 32768)), ap, H', ⟨by first | omega | exact Nat.le_refl _⟩, ⟨by (with_reducible repeat (first | refine blk_drewN ?_ _ | refine blk_drew ?_ | refine blk_alloc ?_ _)); exact BK128.out⟩, ⟨bo⟩⟩
 case rest =>
  clear HC2
  try clear c2
  try clear p2
  try clear c4
  try clear c4b0
  try clear hcz5_0
  try clear hcz5_1
  try clear hcz5_2
  try clear hcz5_3
  try clear hcz5_4
  try clear hcz6_0
  try clear hcz6_1
  try clear hcz6_2
  try clear hcz6_3
  try clear hcz6_4
  try clear hfz5_0
  try clear hfz5_1
  try clear hfz5_2
  try clear hfz5_3
  try clear hfz5_4
  try clear hfz6_0
  try clear hfz6_1
  try clear hfz6_2
  try clear hfz6_3
  try clear hfz6_4
  obtain ⟨kq, x3_1, rfl, HA, HJ1, BK128, HB⟩ := hcut
  cases kq with
  | zero => exact absurd HA.out (by simp [keep_Rules.j0])
  | succ kj1 =>
   have H := HA.out
   clear HA
   simp only [keep_Rules.j0] at H
   have HC7 := Aside0.mk H
   clear H
   go_upto_if 3 with (fail)
   go_cut [3] (fun v3 wc => ∃ (kq : Nat) (x3_6 : Bool), v3 = .bool x3_6 ∧ Aside0 (keep_Rules.j1 kq x3_6 a0_0 a0_1 a0_2 a0_3 a0_4 = some r) ∧ Aside0 (kq ≤ kj1) ∧ Aside0 (wc.heap[gb128]? = some (.cells #[.int .i64 a0_0, .int .i64 a0_1, .int .i64 a0_2, .bool a0_3, .int .i64 a0_4] 35 (0, 0))) ∧ Aside0 (Below w.heap.size w wc))
   case first =>
    have H := HC7.out
    clear HC7
    by_cases c8 : x3_1 = true
    ·subst c8
     have H1 : (keep_Rules.j1 kj1 true a0_0 a0_1 a0_2 a0_3 a0_4) = some r := by rw [if_pos rfl] at H; exact H
     clear H
     have H := H1
     clear H1
     have H' := Aside0.mk H
     clear H
     go_wp2
     go_meet
     case rel => exact ⟨_, (true), ap, H', ⟨by have := HJ1.out; first | omega | exact Nat.le_refl _⟩, ⟨by (with_reducible repeat (first | refine blk_drewN ?_ _ | refine blk_drew ?_ | refine blk_alloc ?_ _)); exact BK128.out⟩, ⟨bo⟩⟩
    ·replace c8 := Bool.eq_false_iff.mpr c8
     subst c8
     have H1 : (if a0_1 < (-1) then (keep_Rules.j1 kj1 true a0_0 a0_1 a0_2 a0_3 a0_4) else (keep_Rules.j1 kj1 (decide (a0_1 > 1073741824)) a0_0 a0_1 a0_2 a0_3 a0_4)) = some r := by rw [if_neg (show ¬ (false = true) by decide)] at H; exact H
     clear H
     have H := H1
     clear H1
     by_cases c9 : a0_1 < (-1)
     ·rw [if_pos c9] at H
      have c9b0 : decide (a0_1 < (-1)) = true := decide_eq_true c9
      clear c9
      (first | rw [c9b0] | (simp only [i64_w, i32_w]; rw [c9b0]) | skip)
      have H' := Aside0.mk H
      clear H
      have hcz10_0 : wc.cell? ⟨gb128, 0, none⟩ = some (.int .i64 a0_0) := (blk_cell BK128.out 0).trans rfl
      have hcz10_1 : wc.cell? ⟨gb128, 1, none⟩ = some (.int .i64 a0_1) := (blk_cell BK128.out 1).trans rfl
      have hcz10_2 : wc.cell? ⟨gb128, 2, none⟩ = some (.int .i64 a0_2) := (blk_cell BK128.out 2).trans rfl
      have hcz10_3 : wc.cell? ⟨gb128, 3, none⟩ = some (.bool a0_3) := (blk_cell BK128.out 3).trans rfl
      have hcz10_4 : wc.cell? ⟨gb128, 4, none⟩ = some (.int .i64 a0_4) := (blk_cell BK128.out 4).trans rfl
      have hfz10_0 := blk_frozen BK128.out 0
      have hfz10_1 := blk_frozen BK128.out 1
      have hfz10_2 := blk_frozen BK128.out 2
      have hfz10_3 := blk_frozen BK128.out 3
      have hfz10_4 := blk_frozen BK128.out 4
      go_wp2
      go_meet
      case rel => exact ⟨_, (true), ap, H', ⟨by have := HJ1.out; first | omega | exact Nat.le_refl _⟩, ⟨by (with_reducible repeat (first | refine blk_drewN ?_ _ | refine blk_drew ?_ | refine blk_alloc ?_ _)); exact BK128.out⟩, ⟨bo⟩⟩
     ·rw [if_neg c9] at H
      have c9b0 : decide (a0_1 < (-1)) = false := decide_eq_false c9
      clear c9
      (first | rw [c9b0] | (simp only [i64_w, i32_w]; rw [c9b0]) | skip)
      have H' := Aside0.mk H
      clear H
      have hcz11_0 : wc.cell? ⟨gb128, 0, none⟩ = some (.int .i64 a0_0) := (blk_cell BK128.out 0).trans rfl
      have hcz11_1 : wc.cell? ⟨gb128, 1, none⟩ = some (.int .i64 a0_1) := (blk_cell BK128.out 1).trans rfl
      have hcz11_2 : wc.cell? ⟨gb128, 2, none⟩ = some (.int .i64 a0_2) := (blk_cell BK128.out 2).trans rfl
      have hcz11_3 : wc.cell? ⟨gb128, 3, none⟩ = some (.bool a0_3) := (blk_cell BK128.out 3).trans rfl
      have hcz11_4 : wc.cell? ⟨gb128, 4, none⟩ = some (.int .i64 a0_4) := (blk_cell BK128.out 4).trans rfl
      have hfz11_0 := blk_frozen BK128.out 0
      have hfz11_1 := blk_frozen BK128.out 1
      have hfz11_2 := blk_frozen BK128.out 2
      have hfz11_3 := blk_frozen BK128.out 3
      have hfz11_4 := blk_frozen BK128.out 4
      go_wp2
      go_meet
      case rel => exact ⟨_, (decide (a0_1 > 1073741824)), ap, H', ⟨by have := HJ1.out; first | omega | exact Nat.le_refl _⟩, ⟨by (with_reducible repeat (first | refine blk_drewN ?_ _ | refine blk_drew ?_ | refine blk_alloc ?_ _)); exact BK128.out⟩, ⟨bo⟩⟩
   case rest =>
    clear HC7
    try clear c2
    try clear p2
    try clear c4
    try clear c4b0
    try clear c8
    try clear c9
    try clear c9b0
    try clear hcz10_0
    try clear hcz10_1
    try clear hcz10_2
    try clear hcz10_3
    try clear hcz10_4
    try clear hcz11_0
    try clear hcz11_1
    try clear hcz11_2
    try clear hcz11_3
    try clear hcz11_4
    try clear hcz5_0
    try clear hcz5_1
    try clear hcz5_2
    try clear hcz5_3
    try clear hcz5_4
    try clear hcz6_0
    try clear hcz6_1
    try clear hcz6_2
    try clear hcz6_3
    try clear hcz6_4
    try clear hfz10_0
    try clear hfz10_1
    try clear hfz10_2
    try clear hfz10_3
    try clear hfz10_4
    try clear hfz11_0
    try clear hfz11_1
    try clear hfz11_2
    try clear hfz11_3
    try clear hfz11_4
    try clear hfz5_0
    try clear hfz5_1
    try clear hfz5_2
    try clear hfz5_3
    try clear hfz5_4
    try clear hfz6_0
    try clear hfz6_1
    try clear hfz6_2
    try clear hfz6_3
    try clear hfz6_4
    try clear p2
    obtain ⟨kq, x3_6, rfl, HA, HJ6, BK128, HB⟩ := hcut
    cases kq with
    | zero => exact absurd HA.out (by simp [keep_Rules.j1])
    | succ kj6 =>
     have H := HA.out
     clear HA
     simp only [keep_Rules.j1] at H
     by_cases c12 : x3_6 = true
     ·subst c12
      have H1 : (some 1) = some r := by rw [if_pos rfl] at H; exact H
      clear H
      have H := H1
      clear H1
      obtain rfl := Option.some.inj H
      go_wp2
      go_ret
      exact ⟨er, bo⟩
     ·replace c12 := Bool.eq_false_iff.mpr c12
      subst c12
      have H1 : (if a0_2 < (-1) then (keep_Rules.j2 kj6 true a0_0 a0_1 a0_2 a0_3 a0_4) else (keep_Rules.j2 kj6 (decide (a0_2 > 1073741824)) a0_0 a0_1 a0_2 a0_3 a0_4)) = some r := by rw [if_neg (show ¬ (false = true) by decide)] at H; exact H
      clear H
      have H := H1
      clear H1
      have HC13 := Aside0.mk H
      clear H
      go_upto_region 4 with (fail)
      go_cut [20] (fun v20 wc => ∃ (kq : Nat) (x20_12 : Bool), v20 = .bool x20_12 ∧ Aside0 (keep_Rules.j2 kq x20_12 a0_0 a0_1 a0_2 a0_3 a0_4 = some r) ∧ Aside0 (kq ≤ kj6) ∧ Aside0 (wc.heap[gb128]? = some (.cells #[.int .i64 a0_0, .int .i64 a0_1, .int .i64 a0_2, .bool a0_3, .int .i64 a0_4] 35 (0, 0))) ∧ Aside0 (Below w.heap.size w wc))
      case first =>
       have H := HC13.out
       clear HC13
       by_cases c14 : a0_2 < (-1)
       ·rw [if_pos c14] at H
        have c14b0 : decide (a0_2 < (-1)) = true := decide_eq_true c14
        clear c14
        (first | rw [c14b0] | (simp only [i64_w, i32_w]; rw [c14b0]) | skip)
        have H' := Aside0.mk H
        clear H
        have hcz15_0 : wc.cell? ⟨gb128, 0, none⟩ = some (.int .i64 a0_0) := (blk_cell BK128.out 0).trans rfl
        have hcz15_1 : wc.cell? ⟨gb128, 1, none⟩ = some (.int .i64 a0_1) := (blk_cell BK128.out 1).trans rfl
        have hcz15_2 : wc.cell? ⟨gb128, 2, none⟩ = some (.int .i64 a0_2) := (blk_cell BK128.out 2).trans rfl
        have hcz15_3 : wc.cell? ⟨gb128, 3, none⟩ = some (.bool a0_3) := (blk_cell BK128.out 3).trans rfl
        have hcz15_4 : wc.cell? ⟨gb128, 4, none⟩ = some (.int .i64 a0_4) := (blk_cell BK128.out 4).trans rfl
        have hfz15_0 := blk_frozen BK128.out 0
        have hfz15_1 := blk_frozen BK128.out 1
        have hfz15_2 := blk_frozen BK128.out 2
        have hfz15_3 := blk_frozen BK128.out 3
        have hfz15_4 := blk_frozen BK128.out 4
        go_wp2
        go_meet
        case rel => exact ⟨_, (true), ap, H', ⟨by have := HJ1.out; have := HJ6.out; first | omega | exact Nat.le_refl _⟩, ⟨by (with_reducible repeat (first | refine blk_drewN ?_ _ | refine blk_drew ?_ | refine blk_alloc ?_ _)); exact BK128.out⟩, ⟨bo⟩⟩
       ·rw [if_neg c14] at H
        have c14b0 : decide (a0_2 < (-1)) = false := decide_eq_false c14
        clear c14
        (first | rw [c14b0] | (simp only [i64_w, i32_w]; rw [c14b0]) | skip)
        have H' := Aside0.mk H
        clear H
        have hcz16_0 : wc.cell? ⟨gb128, 0, none⟩ = some (.int .i64 a0_0) := (blk_cell BK128.out 0).trans rfl
        have hcz16_1 : wc.cell? ⟨gb128, 1, none⟩ = some (.int .i64 a0_1) := (blk_cell BK128.out 1).trans rfl
        have hcz16_2 : wc.cell? ⟨gb128, 2, none⟩ = some (.int .i64 a0_2) := (blk_cell BK128.out 2).trans rfl
        have hcz16_3 : wc.cell? ⟨gb128, 3, none⟩ = some (.bool a0_3) := (blk_cell BK128.out 3).trans rfl
        have hcz16_4 : wc.cell? ⟨gb128, 4, none⟩ = some (.int .i64 a0_4) := (blk_cell BK128.out 4).trans rfl
        have hfz16_0 := blk_frozen BK128.out 0
        have hfz16_1 := blk_frozen BK128.out 1
        have hfz16_2 := blk_frozen BK128.out 2
        have hfz16_3 := blk_frozen BK128.out 3
        have hfz16_4 := blk_frozen BK128.out 4
        go_wp2
        go_meet
        case rel => exact ⟨_, (decide (a0_2 > 1073741824)), ap, H', ⟨by have := HJ1.out; have := HJ6.out; first | omega | exact Nat.le_refl _⟩, ⟨by (with_reducible repeat (first | refine blk_drewN ?_ _ | refine blk_drew ?_ | refine blk_alloc ?_ _)); exact BK128.out⟩, ⟨bo⟩⟩
      case rest =>
       clear HC13
       try clear c1
       try clear c2
       try clear p2
       try clear c4
       try clear c4b0
       try clear c8
       try clear c9
       try clear c9b0
       try clear c12
       try clear c14
       try clear c14b0
       try clear hcz10_0
       try clear hcz10_1
       try clear hcz10_2
       try clear hcz10_3
       try clear hcz10_4
       try clear hcz11_0
       try clear hcz11_1
       try clear hcz11_2
       try clear hcz11_3
       try clear hcz11_4
       try clear hcz15_0
       try clear hcz15_1
       try clear hcz15_2
       try clear hcz15_3
       try clear hcz15_4
       try clear hcz16_0
       try clear hcz16_1
       try clear hcz16_2
       try clear hcz16_3
       try clear hcz16_4
       try clear hcz5_0
       try clear hcz5_1
       try clear hcz5_2
       try clear hcz5_3
       try clear hcz5_4
       try clear hcz6_0
       try clear hcz6_1
       try clear hcz6_2
       try clear hcz6_3
       try clear hcz6_4
       try clear hfz10_0
       try clear hfz10_1
       try clear hfz10_2
       try clear hfz10_3
       try clear hfz10_4
       try clear hfz11_0
       try clear hfz11_1
       try clear hfz11_2
       try clear hfz11_3
       try clear hfz11_4
       try clear hfz15_0
       try clear hfz15_1
       try clear hfz15_2
       try clear hfz15_3
       try clear hfz15_4
       try clear hfz16_0
       try clear hfz16_1
       try clear hfz16_2
       try clear hfz16_3
       try clear hfz16_4
       try clear hfz5_0
       try clear hfz5_1
       try clear hfz5_2
       try clear hfz5_3
       try clear hfz5_4
       try clear hfz6_0
       try clear hfz6_1
       try clear hfz6_2
       try clear hfz6_3
       try clear hfz6_4
       try clear p2
       obtain ⟨kq, x20_12, rfl, HA, HJ12, BK128, HB⟩ := hcut
       cases kq with
       | zero => exact absurd HA.out (by simp [keep_Rules.j2])
       | succ kj12 =>
        have H := HA.out
        clear HA
        simp only [keep_Rules.j2] at H
        by_cases c17 : x20_12 = true
        ·subst c17
         have H1 : (some 1) = some r := by rw [if_pos rfl] at H; exact H
         clear H
         have H := H1
         clear H1
         obtain rfl := Option.some.inj H
         go_wp2
         go_ret
         exact ⟨er, bo⟩
        ·replace c17 := Bool.eq_false_iff.mpr c17
         subst c17
         have H1 : (if a0_4 < 0 then (some 1) else (if a0_4 > 1073741824 then (some 1) else (some 0))) = some r := by rw [if_neg (show ¬ (false = true) by decide)] at H; exact H
         clear H
         have H := H1
         clear H1
         by_cases c18 : a0_4 < 0
         ·rw [if_pos c18] at H
          have c18b0 : decide (a0_4 < 0) = true := decide_eq_true c18
          clear c18
          obtain rfl := Option.some.inj H
          have hcz19_0 : wc.cell? ⟨gb128, 0, none⟩ = some (.int .i64 a0_0) := (blk_cell BK128.out 0).trans rfl
          have hcz19_1 : wc.cell? ⟨gb128, 1, none⟩ = some (.int .i64 a0_1) := (blk_cell BK128.out 1).trans rfl
          have hcz19_2 : wc.cell? ⟨gb128, 2, none⟩ = some (.int .i64 a0_2) := (blk_cell BK128.out 2).trans rfl
          have hcz19_3 : wc.cell? ⟨gb128, 3, none⟩ = some (.bool a0_3) := (blk_cell BK128.out 3).trans rfl
          have hcz19_4 : wc.cell? ⟨gb128, 4, none⟩ = some (.int .i64 a0_4) := (blk_cell BK128.out 4).trans rfl
          have hfz19_0 := blk_frozen BK128.out 0
          have hfz19_1 := blk_frozen BK128.out 1
          have hfz19_2 := blk_frozen BK128.out 2
          have hfz19_3 := blk_frozen BK128.out 3
          have hfz19_4 := blk_frozen BK128.out 4
          go_wp2
          go_ret
          exact ⟨er, bo⟩
         ·rw [if_neg c18] at H
          have c18b0 : decide (a0_4 < 0) = false := decide_eq_false c18
          clear c18
          by_cases c20 : a0_4 > 1073741824
          ·rw [if_pos c20] at H
           have c20b0 : decide (1073741824 < a0_4) = true := decide_eq_true c20
           clear c20
           obtain rfl := Option.some.inj H
           have hcz21_0 : wc.cell? ⟨gb128, 0, none⟩ = some (.int .i64 a0_0) := (blk_cell BK128.out 0).trans rfl
           have hcz21_1 : wc.cell? ⟨gb128, 1, none⟩ = some (.int .i64 a0_1) := (blk_cell BK128.out 1).trans rfl
           have hcz21_2 : wc.cell? ⟨gb128, 2, none⟩ = some (.int .i64 a0_2) := (blk_cell BK128.out 2).trans rfl
           have hcz21_3 : wc.cell? ⟨gb128, 3, none⟩ = some (.bool a0_3) := (blk_cell BK128.out 3).trans rfl
           have hcz21_4 : wc.cell? ⟨gb128, 4, none⟩ = some (.int .i64 a0_4) := (blk_cell BK128.out 4).trans rfl
           have hfz21_0 := blk_frozen BK128.out 0
           have hfz21_1 := blk_frozen BK128.out 1
           have hfz21_2 := blk_frozen BK128.out 2
           have hfz21_3 := blk_frozen BK128.out 3
           have hfz21_4 := blk_frozen BK128.out 4
           go_wp2
           go_ret
           exact ⟨er, bo⟩
          ·rw [if_neg c20] at H
           have c20b0 : decide (1073741824 < a0_4) = false := decide_eq_false c20
           clear c20
           obtain rfl := Option.some.inj H
           have hcz22_0 : wc.cell? ⟨gb128, 0, none⟩ = some (.int .i64 a0_0) := (blk_cell BK128.out 0).trans rfl
           have hcz22_1 : wc.cell? ⟨gb128, 1, none⟩ = some (.int .i64 a0_1) := (blk_cell BK128.out 1).trans rfl
           have hcz22_2 : wc.cell? ⟨gb128, 2, none⟩ = some (.int .i64 a0_2) := (blk_cell BK128.out 2).trans rfl
           have hcz22_3 : wc.cell? ⟨gb128, 3, none⟩ = some (.bool a0_3) := (blk_cell BK128.out 3).trans rfl
           have hcz22_4 : wc.cell? ⟨gb128, 4, none⟩ = some (.int .i64 a0_4) := (blk_cell BK128.out 4).trans rfl
           have hfz22_0 := blk_frozen BK128.out 0
           have hfz22_1 := blk_frozen BK128.out 1
           have hfz22_2 := blk_frozen BK128.out 2
           have hfz22_3 := blk_frozen BK128.out 3
           have hfz22_4 := blk_frozen BK128.out 4
           go_wp2
           go_ret
           exact ⟨er, bo⟩

end Go.Proofs.Ytigmekgknhoidaa.P

-- written by a program of the proving session, out of the translation; Lean checks it
namespace Go.Proofs.Ytigmekgknhoidaa.P
open Go.RowKit Go.Proofs.Ytigmekgknhoidaa.Sq Go.Proofs.YtigmekgknhoidaaW.PrintWords Go.Proofs.YtigmekgknhoidaaW.PrintLast Go.Proofs.YtigmekgknhoidaaW.PrintMore
attribute [local go_sem] max2_int min2_int max_two min_two max_three min_three max_four min_four   -- for this text's walks alone
set_option linter.unusedVariables false
set_option linter.unusedSimpArgs false

/-! ### keep_Time: function 42 -/
def keep_Time.f (a0 : Int) : Option (Bool) := if a0 ≥ 0 then (some (decide (a0 ≤ 1099511627776))) else (some false)
set_option maxHeartbeats 8000000 in
set_option maxRecDepth 100000 in
theorem keep_Time.calls (a0 : Int) (r : Bool) (w : World) (h : keep_Time.f a0 = some r) :
 Calls Try.prog 42 #[.int .i64 a0] w fun e w' => e = .returned (.bool r) ∧ Drawn0 w w' := by
 have H : (if a0 ≥ 0 then (some (decide (a0 ≤ 1099511627776))) else (some false)) = some r := h
 clear h
 by_cases c2 : a0 ≥ 0
 ·rw [if_pos c2] at H
  have c2b0 : decide (0 ≤ a0) = true := decide_eq_true c2
  clear c2
  obtain rfl := Option.some.inj H
  go_enter Try.func42, Try.ntmps42
  go_wp2
  go_ret
  exact ⟨ap, dr⟩
 ·rw [if_neg c2] at H
  have c2b0 : decide (0 ≤ a0) = false := decide_eq_false c2
  clear c2
  obtain rfl := Option.some.inj H
  go_enter Try.func42, Try.ntmps42
  go_wp2
  go_ret
  exact ⟨ap, dr⟩

end Go.Proofs.Ytigmekgknhoidaa.P

-- written by a program of the proving session, out of the translation; Lean checks it
namespace Go.Proofs.Ytigmekgknhoidaa.P
open Go.RowKit Go.Proofs.Ytigmekgknhoidaa.Sq Go.Proofs.YtigmekgknhoidaaW.PrintWords Go.Proofs.YtigmekgknhoidaaW.PrintLast Go.Proofs.YtigmekgknhoidaaW.PrintMore
attribute [local go_sem] max2_int min2_int max_two min_two max_three min_three max_four min_four   -- for this text's walks alone
set_option linter.unusedVariables false
set_option linter.unusedSimpArgs false

/-! ### rec_Size: function 60 -/
def rec_Size.f (k : Nat) (a0_0 : Int) (a0_1 : Int) (a0_2 : ByteArray) (a0_3 : ByteArray) (a0_4 : Int) (a0_5 : Bool) : Option (Int × Int) := (rec_Check.f k a0_0 a0_1 a0_2 a0_3 a0_4 a0_5).bind fun t130 => (if t130 = 0 then (some (wrap64 ((wrap64 (25 + (a0_2.size : Int))) + (a0_3.size : Int)), 0)) else (some (0, t130)))
theorem rec_Size.mono : ∀ a0 a1 a2 a3 a4 a5 k, LeO (rec_Size.f k a0 a1 a2 a3 a4 a5) (rec_Size.f (k + 1) a0 a1 a2 a3 a4 a5) := by
 intro a0 a1 a2 a3 a4 a5 k
 unfold rec_Size.f
 repeat' first
  | (with_reducible exact rec_Check.mono _ _ _ _ _ _ _)
  | (with_reducible exact LeO.refl _)
  | (with_reducible exact LeO.none _)
  | (with_reducible refine LeO.ite ?_ ?_)
  | (with_reducible refine LeO.bind ?_ (fun _ => ?_))
  | exact rec_Check.mono _ _ _ _ _ _ _
  | exact LeO.none _
  | refine LeO.ite ?_ ?_
  | refine LeO.bind ?_ (fun _ => ?_)
set_option maxHeartbeats 8000000 in
set_option maxRecDepth 100000 in
theorem rec_Size.calls (k : Nat) (a0_0 : Int) (a0_1 : Int) (a0_2 : ByteArray) (a0_3 : ByteArray) (a0_4 : Int) (a0_5 : Bool) (r1 : Int) (r2 : Int) (w : World) (h : rec_Size.f k a0_0 a0_1 a0_2 a0_3 a0_4 a0_5 = some (r1, r2)) :
 Calls Try.prog 60 #[.agg #[.int .i64 a0_0, .int .i64 a0_1, .string a0_2, .string a0_3, .int .i64 a0_4, .bool a0_5]] w fun e w' => e = .returned (.tuple #[.int .i64 r1, .int .i64 r2]) ∧ Below w.heap.size w w' := by
 have hu25 := Try.underlying25
 have HB := Aside0.mk (Below.refl w.heap.size w)
 have H : ((rec_Check.f k a0_0 a0_1 a0_2 a0_3 a0_4 a0_5).bind fun t130 => (if t130 = 0 then (some (wrap64 ((wrap64 (25 + (a0_2.size : Int))) + (a0_3.size : Int)), 0)) else (some (0, t130)))) = some (r1, r2) := h
 clear h
 replace H := Option.bind_eq_some_iff.mp H
 obtain ⟨t130, A20, H⟩ := H
 replace H : (if t130 = 0 then (some (wrap64 ((wrap64 (25 + (a0_2.size : Int))) + (a0_3.size : Int)), 0)) else (some (0, t130))) = some (r1, r2) := H
 have A2 := Aside0.mk A20
 clear A20
 by_cases c3 : t130 = 0
 ·rw [if_pos c3] at H
  have c3b0 : (t130 == 0) = true := beq_iff_eq.mpr c3
  have c3b1 : (t130 != 0) = false := bne_eq_false_iff_eq.mpr c3
  clear c3
  simp only [Option.some.injEq, Prod.mk.injEq] at H
  obtain ⟨rfl, rfl⟩ := H
  go_enter Try.func60, Try.ntmps60
  go_wp2_with (first | ((with_reducible refine gate_dst (N := 1) rfl ?_); refine box_event ?hg (N := 1) ?hd (cs := #[.int .i64 a0_0, .int .i64 a0_1, .string a0_2, .string a0_3, .int .i64 a0_4, .bool a0_5]) (t := 25) ?hr ?_; (case hd => rfl); (case hg => rfl); (case hr => first | (go_simp; done) | (go_simp; rfl)); intro gb129 hg w4 hbox hb; have BK129 := Aside0.mk (hbox); have GW129 := Aside0.mk ((by rw [hg]; exact (below_size bo) : w.heap.size ≤ gb129)); have GE129 := Aside0.mk ((by rw [hg]; exact (below_size bo) : w.heap.size ≤ gb129)); replace HB := Aside0.mk (below_step bo hb); clear hb hbox hg; obtain ⟨hcz5_0, hcz5_1, hcz5_2, hcz5_3, hcz5_4, hcz5_5⟩ := cl6 BK129.out; obtain ⟨hfz5_0, hfz5_1, hfz5_2, hfz5_3, hfz5_4, hfz5_5⟩ := fz6 BK129.out) | ((with_reducible refine gate_callee (f := 71) rfl ?_); refine goesL_ (some 6) rfl rfl Try.func71 (by kernel_rfl) rfl #[.agg #[.int .i64 a0_0, .int .i64 a0_1, .string a0_2, .string a0_3, .int .i64 a0_4, .bool a0_5]] rfl aa ?_; (with_reducible refine (rec_Check.calls k a0_0 a0_1 a0_2 a0_3 a0_4 a0_5 t130 _ A2.out).mono ?_); rintro e w6 ⟨rfl, hb⟩; refine ⟨_, rfl, ?_⟩; replace BK129 := Aside0.mk (bb BK129.out hb); replace HB := Aside0.mk (below_step bo hb); (try clear hb); (try clear hb2); (try clear hk); (try clear hi); obtain ⟨hcz7_0, hcz7_1, hcz7_2, hcz7_3, hcz7_4, hcz7_5⟩ := cl6 BK129.out; obtain ⟨hfz7_0, hfz7_1, hfz7_2, hfz7_3, hfz7_4, hfz7_5⟩ := fz6 BK129.out))
  go_ret2
  exact ⟨er, bo⟩
 ·rw [if_neg c3] at H
  have c3b0 : (t130 == 0) = false := beq_eq_false_iff_ne.mpr c3
  have c3b1 : (t130 != 0) = true := bne_iff_ne.mpr c3
  simp only [Option.some.injEq, Prod.mk.injEq] at H
  obtain ⟨rfl, rfl⟩ := H
  go_enter Try.func60, Try.ntmps60
  go_wp2_with (first | ((with_reducible refine gate_dst (N := 1) rfl ?_); refine box_event ?hg (N := 1) ?hd (cs := #[.int .i64 a0_0, .int .i64 a0_1, .string a0_2, .string a0_3, .int .i64 a0_4, .bool a0_5]) (t := 25) ?hr ?_; (case hd => rfl); (case hg => rfl); (case hr => first | (go_simp; done) | (go_simp; rfl)); intro gb129 hg w8 hbox hb; have BK129 := Aside0.mk (hbox); have GW129 := Aside0.mk ((by rw [hg]; exact (below_size bo) : w.heap.size ≤ gb129)); have GE129 := Aside0.mk ((by rw [hg]; exact (below_size bo) : w.heap.size ≤ gb129)); replace HB := Aside0.mk (below_step bo hb); clear hb hbox hg; obtain ⟨hcz9_0, hcz9_1, hcz9_2, hcz9_3, hcz9_4, hcz9_5⟩ := cl6 BK129.out; obtain ⟨hfz9_0, hfz9_1, hfz9_2, hfz9_3, hfz9_4, hfz9_5⟩ := fz6 BK129.out) | ((with_reducible refine gate_callee (f := 71) rfl ?_); refine goesL_ (some 6) rfl rfl Try.func71 (by kernel_rfl) rfl #[.agg #[.int .i64 a0_0, .int .i64 a0_1, .string a0_2, .string a0_3, .int .i64 a0_4, .bool a0_5]] rfl aa ?_; (with_reducible refine (rec_Check.calls k a0_0 a0_1 a0_2 a0_3 a0_4 a0_5 t130 _ A2.out).mono ?_); rintro e w10 ⟨rfl, hb⟩; refine ⟨_, rfl, ?_⟩; replace BK129 := Aside0.mk (bb BK129.out hb); replace HB := Aside0.mk (below_step bo hb); (try clear hb); (try clear hb2); (try clear hk); (try clear hi)))
  go_ret2
  exact ⟨er, bo⟩

end Go.Proofs.Ytigmekgknhoidaa.P

-- written by a program of the proving session, out of the translation; Lean checks it
namespace Go.Proofs.Ytigmekgknhoidaa.P
open Go.RowKit Go.Proofs.Ytigmekgknhoidaa.Sq Go.Proofs.YtigmekgknhoidaaW.PrintWords Go.Proofs.YtigmekgknhoidaaW.PrintLast Go.Proofs.YtigmekgknhoidaaW.PrintMore
attribute [local go_sem] max2_int min2_int max_two min_two max_three min_three max_four min_four   -- for this text's walks alone
set_option linter.unusedVariables false
set_option linter.unusedSimpArgs false

/-! ### seg_Size: function 43 -/
def seg_Size.l0 : Nat → Int → List (S25) → Int → Int → Option (Int × Int)
 | 0, _, _, _, _ => none
 | k + 1, x5, x16, x17, x18 => if x18 < x17 then (if 0 ≤ x18 then (if x18 < (x16.length : Int) then ((rec_Size.f k ((rd_T25 x16 x18).f0) ((rd_T25 x16 x18).f1) ((rd_T25 x16 x18).f2) ((rd_T25 x16 x18).f3) ((rd_T25 x16 x18).f4) ((rd_T25 x16 x18).f5)).bind fun bt135 => (seg_Size.l0 k (wrap64 (x5 + bt135.1)) x16 x17 (wrap64 (x18 + 1)))) else (none)) else (none)) else (some (x5, 0))
def seg_Size.f (k : Nat) (a0_0 : Int) (l0_1 : List (S25)) : Option (Int × Int) := (seg_Check.f k a0_0 l0_1).bind fun t132 => (if t132 = 0 then (seg_Size.l0 k 0 l0_1 (l0_1.length : Int) 0) else (some (0, t132)))
theorem seg_Size.mono_l : ∀ k, (∀ y0 y1 y2 y3, LeO (seg_Size.l0 k y0 y1 y2 y3) (seg_Size.l0 (k + 1) y0 y1 y2 y3))
 | 0 => fun _ _ _ _ r h => by simp [seg_Size.l0] at h
 | k + 1 => by
  have ih0 := seg_Size.mono_l k
  ·intro y0 y1 y2 y3
   unfold seg_Size.l0
   repeat' first
   | (with_reducible exact ih0 _ _ _ _)
   | (with_reducible exact rec_Size.mono _ _ _ _ _ _ _)
   | (with_reducible exact seg_Check.mono _ _ _)
   | (with_reducible exact LeO.refl _)
   | (with_reducible exact LeO.none _)
   | (with_reducible refine LeO.ite ?_ ?_)
   | (with_reducible refine LeO.bind ?_ (fun _ => ?_))
   | exact ih0 _ _ _ _
   | exact rec_Size.mono _ _ _ _ _ _ _
   | exact seg_Check.mono _ _ _
   | exact LeO.none _
   | refine LeO.ite ?_ ?_
   | refine LeO.bind ?_ (fun _ => ?_)
theorem seg_Size.mono : ∀ a0 a1 k, LeO (seg_Size.f k a0 a1) (seg_Size.f (k + 1) a0 a1) := by
 intro a0 a1 k
 have ih0 := seg_Size.mono_l k
 unfold seg_Size.f
 repeat' first
  | (with_reducible exact ih0 _ _ _ _)
  | (with_reducible exact rec_Size.mono _ _ _ _ _ _ _)
  | (with_reducible exact seg_Check.mono _ _ _)
  | (with_reducible exact LeO.refl _)
  | (with_reducible exact LeO.none _)
  | (with_reducible refine LeO.ite ?_ ?_)
  | (with_reducible refine LeO.bind ?_ (fun _ => ?_))
  | exact ih0 _ _ _ _
  | exact rec_Size.mono _ _ _ _ _ _ _
  | exact seg_Check.mono _ _ _
  | exact LeO.none _
  | refine LeO.ite ?_ ?_
  | refine LeO.bind ?_ (fun _ => ?_)
set_option maxHeartbeats 8000000 in
set_option maxRecDepth 100000 in
theorem seg_Size.calls (k : Nat) (a0_0 : Int) (A0_1 : Option Addr) (c0_1 : Nat) (l0_1 : List (S25)) (r1 : Int) (r2 : Int) (w : World) (hr0_1 : Kd.C k25 w A0_1 l0_1.length l0_1) (hc0_1 : l0_1.length ≤ c0_1) (h : seg_Size.f k a0_0 l0_1 = some (r1, r2)) :
 Calls Try.prog 43 #[.agg #[.int .i64 a0_0, .slice A0_1 l0_1.length c0_1]] w fun e w' => e = .returned (.tuple #[.int .i64 r1, .int .i64 r2]) ∧ Below w.heap.size w w' := by
 have hu29 := Try.underlying29
 have hu25 := Try.underlying25
 have HR0_1 := Aside0.mk hr0_1
 have HC0_1 := Aside0.mk hc0_1
 clear hr0_1 hc0_1
 have HB := Aside0.mk (Below.refl w.heap.size w)
 have H : ((seg_Check.f k a0_0 l0_1).bind fun t132 => (if t132 = 0 then (seg_Size.l0 k 0 l0_1 (l0_1.length : Int) 0) else (some (0, t132)))) = some (r1, r2) := h
 clear h
 replace H := Option.bind_eq_some_iff.mp H
 obtain ⟨t132, A20, H⟩ := H
 replace H : (if t132 = 0 then (seg_Size.l0 k 0 l0_1 (l0_1.length : Int) 0) else (some (0, t132))) = some (r1, r2) := H
 have A2 := Aside0.mk A20
 clear A20
 by_cases c3 : t132 = 0
 ·rw [if_pos c3] at H
  have c3b0 : (t132 == 0) = true := beq_iff_eq.mpr c3
  have c3b1 : (t132 != 0) = false := bne_eq_false_iff_eq.mpr c3
  clear c3
  have H' := Aside0.mk H
  clear H
  go_enter Try.func43, Try.ntmps43
  go_wp2_with (first | ((with_reducible refine gate_dst (N := 1) rfl ?_); refine box_event ?hg (N := 1) ?hd (cs := #[.int .i64 a0_0, .slice A0_1 l0_1.length c0_1]) (t := 29) ?hr ?_; (case hd => rfl); (case hg => rfl); (case hr => first | (go_simp; done) | (go_simp; rfl)); intro gb131 hg w4 hbox hb; have BK131 := Aside0.mk (hbox); have GW131 := Aside0.mk ((by rw [hg]; exact (below_size bo) : w.heap.size ≤ gb131)); have GE131 := Aside0.mk ((by rw [hg]; exact (below_size bo) : w.heap.size ≤ gb131)); replace HB := Aside0.mk (below_step bo hb); clear hb hbox hg; obtain ⟨hcz5_0, hcz5_1⟩ := cl2 BK131.out; obtain ⟨hfz5_0, hfz5_1⟩ := fz2 BK131.out) | ((with_reducible refine gate_callee (f := 51) rfl ?_); refine goesL_ (some 11) rfl rfl Try.func51 (by kernel_rfl) rfl #[.agg #[.int .i64 a0_0, .slice A0_1 l0_1.length c0_1]] rfl aa ?_; (with_reducible refine (seg_Check.calls k a0_0 _ _ l0_1 t132 _ ?side1 ?side2 A2.out).mono ?_); (case side1 => repeat (first | exact (Kd.C_below HR0_1.out HB.out) | (with_reducible refine Kd.C_alloc ?_ _) | (with_reducible refine Kd.C_drewN ?_ _) | (with_reducible refine Kd.C_drew ?_))); (case side2 => exact HC0_1.out); rintro e w6 ⟨rfl, hb⟩; refine ⟨_, rfl, ?_⟩; replace BK131 := Aside0.mk (bb BK131.out hb); replace HB := Aside0.mk (below_step bo hb); (try clear hb); (try clear hb2); (try clear hk); (try clear hi); obtain ⟨hcz7_0, hcz7_1⟩ := cl2 BK131.out; obtain ⟨hfz7_0, hfz7_1⟩ := fz2 BK131.out))
  go_loopg [5, 18] k (fun kq v5 v18 w' => ∃ (x5_1 : Int) (x18_1 : Int), v5 = .int .i64 x5_1 ∧ v18 = .int .i64 x18_1 ∧ Aside0 (seg_Size.l0 kq x5_1 l0_1 (l0_1.length : Int) x18_1 = some (r1, r2)) ∧ Aside0 (kq ≤ k) ∧ Aside0 (w'.heap[gb131]? = some (.cells #[.int .i64 a0_0, (.slice A0_1 l0_1.length c0_1)] 29 (0, 0))) ∧ Aside0 (Below w.heap.size w w'))
  case atStart => exact ⟨(0), (0), ap, ap, H', ⟨Nat.le_refl _⟩, ⟨by (with_reducible repeat (first | refine blk_drewN ?_ _ | refine blk_drew ?_ | refine blk_alloc ?_ _)); exact BK131.out⟩, ⟨bo⟩⟩
  case round =>
   clear H'
   try clear p2
   try clear c3
   try clear c3b0
   try clear c3b1
   try clear c4
   try clear c5
   try clear hcz5_0
   try clear hcz5_1
   try clear hcz7_0
   try clear hcz7_1
   try clear hfz5_0
   try clear hfz5_1
   try clear hfz7_0
   try clear hfz7_1
   obtain ⟨x5_1, x18_1, rfl, rfl, HA, HK1, BK131, HB⟩ := hrel
   cases gk with
   | zero => exact absurd HA.out (by simp [seg_Size.l0])
   | succ k1 =>
    have H := HA.out
    clear HA
    simp only [seg_Size.l0] at H
    by_cases c8 : x18_1 < (l0_1.length : Int)
    ·rw [if_pos c8] at H
     have c8b0 : decide (x18_1 < (l0_1.length : Int)) = true := decide_eq_true c8
     clear c8
     by_cases c9 : 0 ≤ x18_1
     ·rw [if_pos c9] at H
      have c9b0 : decide (0 ≤ x18_1) = true := decide_eq_true c9
      clear c9
      by_cases c10 : x18_1 < (l0_1.length : Int)
      ·rw [if_pos c10] at H
       have c10b0 : decide (x18_1 < (l0_1.length : Int)) = true := decide_eq_true c10
       clear c10
       replace H := Option.bind_eq_some_iff.mp H
       obtain ⟨⟨t135, t136⟩, A110, H⟩ := H
       replace H : (seg_Size.l0 k1 (wrap64 (x5_1 + t135)) l0_1 (l0_1.length : Int) (wrap64 (x18_1 + 1))) = some (r1, r2) := H
       have A11 := Aside0.mk A110
       clear A110
       have H' := Aside0.mk H
       clear H
       have p133 : 0 ≤ (x18_1 : Int) := od
       have q133 : x18_1 < (l0_1.length : Int) := od
       obtain ⟨ad133, e133, hx133_0, hx133_1, hx133_2, hx133_3, hx133_4, hx133_5⟩ := at_T25 HR0_1.out x18_1 p133 q133
       cases e133
       replace hx133_0 := cx HB.out hx133_0
       replace hx133_1 := cx HB.out hx133_1
       replace hx133_2 := cx HB.out hx133_2
       replace hx133_3 := cx HB.out hx133_3
       replace hx133_4 := cx HB.out hx133_4
       replace hx133_5 := cx HB.out hx133_5
       replace p133 := eq_true p133
       replace q133 := eq_true q133
       go_wp2_with (first | ((with_reducible refine gate_dst (N := 7) rfl ?_); refine box_event ?hg (N := 7) ?hd (cs := #[.int .i64 0, .int .i64 0, .string (⟨#[]⟩ : ByteArray), .string (⟨#[]⟩ : ByteArray), .int .i64 0, .bool false]) (t := 25) ?hr ?_; (case hd => rfl); (case hg => rfl); (case hr => first | (go_simp; done) | (go_simp; rfl)); intro gb134 hg w12 hbox hb; have BK134 := Aside0.mk (hbox); have GW134 := Aside0.mk ((by rw [hg]; exact (below_size bo) : w.heap.size ≤ gb134)); have GE134 := Aside0.mk ((by rw [hg]; exact (below_size bo) : w.heap.size ≤ gb134)); replace HB := Aside0.mk (below_step bo hb); have NB131_134 := Aside0.mk (nl BK131.out hg); have NB134_131 := Aside0.mk (ng BK131.out hg); replace BK131 := Aside0.mk (bb BK131.out hb); clear hb hbox hg; have hnb13 := NB134_131.out; have hnc13 := NB131_134.out; obtain ⟨hcz14_0, hcz14_1, hcz14_2, hcz14_3, hcz14_4, hcz14_5⟩ := cl6 BK134.out; obtain ⟨hfz14_0, hfz14_1, hfz14_2, hfz14_3, hfz14_4, hfz14_5⟩ := fz6 BK134.out) | ((with_reducible refine gate_callee (f := 60) rfl ?_); refine goesL_ (some 24) rfl rfl Try.func60 (by kernel_rfl) rfl #[.agg #[.int .i64 ((rd_T25 l0_1 x18_1).f0), .int .i64 ((rd_T25 l0_1 x18_1).f1), .string ((rd_T25 l0_1 x18_1).f2), .string ((rd_T25 l0_1 x18_1).f3), .int .i64 ((rd_T25 l0_1 x18_1).f4), .bool ((rd_T25 l0_1 x18_1).f5)]] rfl aa ?_; (with_reducible refine (rec_Size.calls k1 ((rd_T25 l0_1 x18_1).f0) ((rd_T25 l0_1 x18_1).f1) ((rd_T25 l0_1 x18_1).f2) ((rd_T25 l0_1 x18_1).f3) ((rd_T25 l0_1 x18_1).f4) ((rd_T25 l0_1 x18_1).f5) t135 t136 _ A11.out).mono ?_); rintro e w15 ⟨rfl, hb⟩; refine ⟨_, rfl, ?_⟩; replace BK131 := Aside0.mk (bB BK131.out hb); replace BK134 := Aside0.mk (blk_below (g := gb134) (o := .cells #[.int .i64 ((rd_T25 l0_1 x18_1).f0), .int .i64 ((rd_T25 l0_1 x18_1).f1), .string ((rd_T25 l0_1 x18_1).f2), .string ((rd_T25 l0_1 x18_1).f3), .int .i64 ((rd_T25 l0_1 x18_1).f4), .bool ((rd_T25 l0_1 x18_1).f5)] 25 (0, 0)) (by (with_reducible repeat (first | refine blk_drewN ?_ _ | refine blk_drew ?_ | refine blk_alloc ?_ _)); refine blk_put (cs := #[.int .i64 ((rd_T25 l0_1 x18_1).f0), .int .i64 ((rd_T25 l0_1 x18_1).f1), .string ((rd_T25 l0_1 x18_1).f2), .string ((rd_T25 l0_1 x18_1).f3), .int .i64 ((rd_T25 l0_1 x18_1).f4), .bool false]) ?_ 5 _ rfl; (with_reducible repeat (first | refine blk_drewN ?_ _ | refine blk_drew ?_ | refine blk_alloc ?_ _)); refine blk_put (cs := #[.int .i64 ((rd_T25 l0_1 x18_1).f0), .int .i64 ((rd_T25 l0_1 x18_1).f1), .string ((rd_T25 l0_1 x18_1).f2), .string ((rd_T25 l0_1 x18_1).f3), .int .i64 0, .bool false]) ?_ 4 _ rfl; (with_reducible repeat (first | refine blk_drewN ?_ _ | refine blk_drew ?_ | refine blk_alloc ?_ _)); refine blk_put (cs := #[.int .i64 ((rd_T25 l0_1 x18_1).f0), .int .i64 ((rd_T25 l0_1 x18_1).f1), .string ((rd_T25 l0_1 x18_1).f2), .string (⟨#[]⟩ : ByteArray), .int .i64 0, .bool false]) ?_ 3 _ rfl; (with_reducible repeat (first | refine blk_drewN ?_ _ | refine blk_drew ?_ | refine blk_alloc ?_ _)); refine blk_put (cs := #[.int .i64 ((rd_T25 l0_1 x18_1).f0), .int .i64 ((rd_T25 l0_1 x18_1).f1), .string (⟨#[]⟩ : ByteArray), .string (⟨#[]⟩ : ByteArray), .int .i64 0, .bool false]) ?_ 2 _ rfl; (with_reducible repeat (first | refine blk_drewN ?_ _ | refine blk_drew ?_ | refine blk_alloc ?_ _)); refine blk_put (cs := #[.int .i64 ((rd_T25 l0_1 x18_1).f0), .int .i64 0, .string (⟨#[]⟩ : ByteArray), .string (⟨#[]⟩ : ByteArray), .int .i64 0, .bool false]) ?_ 1 _ rfl; (with_reducible repeat (first | refine blk_drewN ?_ _ | refine blk_drew ?_ | refine blk_alloc ?_ _)); refine blk_put (cs := #[.int .i64 0, .int .i64 0, .string (⟨#[]⟩ : ByteArray), .string (⟨#[]⟩ : ByteArray), .int .i64 0, .bool false]) ?_ 0 _ rfl; (with_reducible repeat (first | refine blk_drewN ?_ _ | refine blk_drew ?_ | refine blk_alloc ?_ _)); exact BK134.out) hb); replace HB := Aside0.mk (below_step bo hb); (try clear hb); (try clear hb2); (try clear hk); (try clear hi)))
       go_roundg k1
       case measure => have := HK1.out; omega
       case rel => exact ⟨(wrap64 (x5_1 + t135)), (wrap64 (x18_1 + 1)), ap, ap, H', ⟨by have := HK1.out; omega⟩, ⟨by (with_reducible repeat (first | refine blk_drewN ?_ _ | refine blk_drew ?_ | refine blk_alloc ?_ _)); exact BK131.out⟩, ⟨bo⟩⟩
      ·rw [if_neg c10] at H
       exact absurd H (by simp)
     ·rw [if_neg c9] at H
      exact absurd H (by simp)
    ·rw [if_neg c8] at H
     have c8b0 : decide (x18_1 < (l0_1.length : Int)) = false := decide_eq_false c8
     clear c8
     simp only [Option.some.injEq, Prod.mk.injEq] at H
     obtain ⟨rfl, rfl⟩ := H
     go_wp2
     go_ret2
     exact ⟨er, bo⟩
 ·rw [if_neg c3] at H
  have c3b0 : (t132 == 0) = false := beq_eq_false_iff_ne.mpr c3
  have c3b1 : (t132 != 0) = true := bne_iff_ne.mpr c3
  simp only [Option.some.injEq, Prod.mk.injEq] at H
  obtain ⟨rfl, rfl⟩ := H
  go_enter Try.func43, Try.ntmps43
  go_wp2_with (first | ((with_reducible refine gate_dst (N := 1) rfl ?_); refine box_event ?hg (N := 1) ?hd (cs := #[.int .i64 a0_0, .slice A0_1 l0_1.length c0_1]) (t := 29) ?hr ?_; (case hd => rfl); (case hg => rfl); (case hr => first | (go_simp; done) | (go_simp; rfl)); intro gb131 hg w16 hbox hb; have BK131 := Aside0.mk (hbox); have GW131 := Aside0.mk ((by rw [hg]; exact (below_size bo) : w.heap.size ≤ gb131)); have GE131 := Aside0.mk ((by rw [hg]; exact (below_size bo) : w.heap.size ≤ gb131)); replace HB := Aside0.mk (below_step bo hb); clear hb hbox hg; obtain ⟨hcz17_0, hcz17_1⟩ := cl2 BK131.out; obtain ⟨hfz17_0, hfz17_1⟩ := fz2 BK131.out) | ((with_reducible refine gate_callee (f := 51) rfl ?_); refine goesL_ (some 11) rfl rfl Try.func51 (by kernel_rfl) rfl #[.agg #[.int .i64 a0_0, .slice A0_1 l0_1.length c0_1]] rfl aa ?_; (with_reducible refine (seg_Check.calls k a0_0 _ _ l0_1 t132 _ ?side1 ?side2 A2.out).mono ?_); (case side1 => repeat (first | exact (Kd.C_below HR0_1.out HB.out) | (with_reducible refine Kd.C_alloc ?_ _) | (with_reducible refine Kd.C_drewN ?_ _) | (with_reducible refine Kd.C_drew ?_))); (case side2 => exact HC0_1.out); rintro e w18 ⟨rfl, hb⟩; refine ⟨_, rfl, ?_⟩; replace BK131 := Aside0.mk (bb BK131.out hb); replace HB := Aside0.mk (below_step bo hb); (try clear hb); (try clear hb2); (try clear hk); (try clear hi)))
  go_ret2
  exact ⟨er, bo⟩

end Go.Proofs.Ytigmekgknhoidaa.P

-- written by a program of the proving session, out of the translation; Lean checks it
namespace Go.Proofs.Ytigmekgknhoidaa.P
open Go.RowKit Go.Proofs.Ytigmekgknhoidaa.Sq Go.Proofs.YtigmekgknhoidaaW.PrintWords Go.Proofs.YtigmekgknhoidaaW.PrintLast Go.Proofs.YtigmekgknhoidaaW.PrintMore
attribute [local go_sem] max2_int min2_int max_two min_two max_three min_three max_four min_four   -- for this text's walks alone
set_option linter.unusedVariables false
set_option linter.unusedSimpArgs false

/-! ### keep_Old: function 11 -/
mutual
def keep_Old.j0 : Nat → List (S29) → Int → Bool → Int → Int → Int → Bool → Int → Option (Int × Int)
 | 0, _, _, _, _, _, _, _, _ => none
 | k + 1, x0, x2, x32, x138000, x138001, x138002, x138003, x138004 => if x32 = true then (some (0, 1)) else (if 0 ≤ (wrap64 ((x0.length : Int) - 1)) then (if (wrap64 ((x0.length : Int) - 1)) ≤ (x0.length : Int) then ((some (x0.take ((wrap64 ((x0.length : Int) - 1)) : Int).toNat : List (S29))).bind fun y141 => (keep_Old.l0 k x2 y141 0 y141 (y141.length : Int) 0 x138000 x138001 x138002 x138003 x138004)) else (none)) else (none))
def keep_Old.l0 : Nat → Int → List (S29) → Int → List (S29) → Int → Int → Int → Int → Int → Bool → Int → Option (Int × Int)
 | 0, _, _, _, _, _, _, _, _, _, _, _ => none
 | k + 1, x2, x8, x9, x38, x39, x40, x138000, x138001, x138002, x138003, x138004 => if x40 < x39 then (if 0 ≤ x40 then (if x40 < (x38.length : Int) then ((seg_Size.f k ((rd_T29 x38 x40).f0) ((rd_T29 x38 x40).f1)).bind fun bt147 => (keep_Old.l0 k x2 x8 (wrap64 (x9 + bt147.1)) x38 x39 (wrap64 (x40 + 1)) x138000 x138001 x138002 x138003 x138004)) else (none)) else (none)) else (keep_Old.l1 k x2 x8 x9 x8 (x8.length : Int) 0 x138000 x138001 x138002 x138003 x138004)
def keep_Old.l1 : Nat → Int → List (S29) → Int → List (S29) → Int → Int → Int → Int → Int → Bool → Int → Option (Int × Int)
 | 0, _, _, _, _, _, _, _, _, _, _, _ => none
 | k + 1, x2, x8, x9, x53, x54, x55, x138000, x138001, x138002, x138003, x138004 => if x55 < x54 then (if 0 ≤ x55 then (if x55 < (x53.length : Int) then (if x138002 ≥ 0 then (if (((rd_T29 x53 x55).f1).length : Int) = 0 then ((seg_Size.f k ((rd_T29 x53 x55).f0) ((rd_T29 x53 x55).f1)).bind fun bt151 => (keep_Old.l1 k x2 x8 (wrap64 (x9 - bt151.1)) x53 x54 (wrap64 (x55 + 1)) x138000 x138001 x138002 x138003 x138004)) else (if 0 ≤ (wrap64 ((((rd_T29 x53 x55).f1).length : Int) - 1)) then (if (wrap64 ((((rd_T29 x53 x55).f1).length : Int) - 1)) < (((rd_T29 x53 x55).f1).length : Int) then (if ((wrap64 (((rd_T25 ((rd_T29 x53 x55).f1) (wrap64 ((((rd_T29 x53 x55).f1).length : Int) - 1))).f1) + x138002)) < x2) then ((seg_Size.f k ((rd_T29 x53 x55).f0) ((rd_T29 x53 x55).f1)).bind fun bt154 => (keep_Old.l1 k x2 x8 (wrap64 (x9 - bt154.1)) x53 x54 (wrap64 (x55 + 1)) x138000 x138001 x138002 x138003 x138004)) else (if x138001 < 0 then (some (x55, 0)) else (if x9 ≤ x138001 then (some (x55, 0)) else ((seg_Size.f k ((rd_T29 x53 x55).f0) ((rd_T29 x53 x55).f1)).bind fun bt156 => (keep_Old.l1 k x2 x8 (wrap64 (x9 - bt156.1)) x53 x54 (wrap64 (x55 + 1)) x138000 x138001 x138002 x138003 x138004))))) else (none)) else (none))) else (if x138001 < 0 then (some (x55, 0)) else (if x9 ≤ x138001 then (some (x55, 0)) else ((seg_Size.f k ((rd_T29 x53 x55).f0) ((rd_T29 x53 x55).f1)).bind fun bt158 => (keep_Old.l1 k x2 x8 (wrap64 (x9 - bt158.1)) x53 x54 (wrap64 (x55 + 1)) x138000 x138001 x138002 x138003 x138004))))) else (none)) else (none)) else (some ((x8.length : Int), 0))
end
def keep_Old.f (k : Nat) (l0 : List (S29)) (a1_0 : Int) (a1_1 : Int) (a1_2 : Int) (a1_3 : Bool) (a1_4 : Int) (a2 : Int) : Option (Int × Int) := (keep_Row.f k l0).bind fun t138 => (if t138 = 0 then ((keep_Rules.f k a1_0 a1_1 a1_2 a1_3 a1_4).bind fun t139 => (if t139 = 0 then ((keep_Time.f a2).bind fun t140 => (keep_Old.j0 k l0 a2 (!t140) a1_0 a1_1 a1_2 a1_3 a1_4)) else (keep_Old.j0 k l0 a2 true a1_0 a1_1 a1_2 a1_3 a1_4))) else (keep_Old.j0 k l0 a2 true a1_0 a1_1 a1_2 a1_3 a1_4))
theorem keep_Old.mono_l : ∀ k, (∀ y0 y1 y2 y3 y4 y5 y6 y7, LeO (keep_Old.j0 k y0 y1 y2 y3 y4 y5 y6 y7) (keep_Old.j0 (k + 1) y0 y1 y2 y3 y4 y5 y6 y7)) ∧ (∀ y0 y1 y2 y3 y4 y5 y6 y7 y8 y9 y10, LeO (keep_Old.l0 k y0 y1 y2 y3 y4 y5 y6 y7 y8 y9 y10) (keep_Old.l0 (k + 1) y0 y1 y2 y3 y4 y5 y6 y7 y8 y9 y10)) ∧ (∀ y0 y1 y2 y3 y4 y5 y6 y7 y8 y9 y10, LeO (keep_Old.l1 k y0 y1 y2 y3 y4 y5 y6 y7 y8 y9 y10) (keep_Old.l1 (k + 1) y0 y1 y2 y3 y4 y5 y6 y7 y8 y9 y10))
 | 0 => ⟨fun _ _ _ _ _ _ _ _ r h => by simp [keep_Old.j0] at h, fun _ _ _ _ _ _ _ _ _ _ _ r h => by simp [keep_Old.l0] at h, fun _ _ _ _ _ _ _ _ _ _ _ r h => by simp [keep_Old.l1] at h⟩
 | k + 1 => by
  obtain ⟨ih0, ih1, ih2⟩ := keep_Old.mono_l k
  refine ⟨?_, ?_, ?_⟩
  ·intro y0 y1 y2 y3 y4 y5 y6 y7
   unfold keep_Old.j0
   repeat' first
   | (with_reducible exact ih0 _ _ _ _ _ _ _ _)
   | (with_reducible exact ih1 _ _ _ _ _ _ _ _ _ _ _)
   | (with_reducible exact ih2 _ _ _ _ _ _ _ _ _ _ _)
   | (with_reducible exact keep_Row.mono _ _)
   | (with_reducible exact keep_Rules.mono _ _ _ _ _ _)
   | (with_reducible exact seg_Size.mono _ _ _)
   | (with_reducible exact LeO.refl _)
   | (with_reducible exact LeO.none _)
   | (with_reducible refine LeO.ite ?_ ?_)
   | (with_reducible refine LeO.bind ?_ (fun _ => ?_))
   | exact ih0 _ _ _ _ _ _ _ _
   | exact ih1 _ _ _ _ _ _ _ _ _ _ _
   | exact ih2 _ _ _ _ _ _ _ _ _ _ _
   | exact keep_Row.mono _ _
   | exact keep_Rules.mono _ _ _ _ _ _
   | exact seg_Size.mono _ _ _
   | exact LeO.none _
   | refine LeO.ite ?_ ?_
   | refine LeO.bind ?_ (fun _ => ?_)
  ·intro y0 y1 y2 y3 y4 y5 y6 y7 y8 y9 y10
   unfold keep_Old.l0
   repeat' first
   | (with_reducible exact ih0 _ _ _ _ _ _ _ _)
   | (with_reducible exact ih1 _ _ _ _ _ _ _ _ _ _ _)
   | (with_reducible exact ih2 _ _ _ _ _ _ _ _ _ _ _)
   | (with_reducible exact keep_Row.mono _ _)
   | (with_reducible exact keep_Rules.mono _ _ _ _ _ _)
   | (with_reducible exact seg_Size.mono _ _ _)
   | (with_reducible exact LeO.refl _)
   | (with_reducible exact LeO.none _)
   | (with_reducible refine LeO.ite ?_ ?_)
   | (with_reducible refine LeO.bind ?_ (fun _ => ?_))
   | exact ih0 _ _ _ _ _ _ _ _
   | exact ih1 _ _ _ _ _ _ _ _ _ _ _
   | exact ih2 _ _ _ _ _ _ _ _ _ _ _
   | exact keep_Row.mono _ _
   | exact keep_Rules.mono _ _ _ _ _ _
   | exact seg_Size.mono _ _ _
   | exact LeO.none _
   | refine LeO.ite ?_ ?_
   | refine LeO.bind ?_ (fun _ => ?_)
  ·intro y0 y1 y2 y3 y4 y5 y6 y7 y8 y9 y10
   unfold keep_Old.l1
   repeat' first
   | (with_reducible exact ih0 _ _ _ _ _ _ _ _)
   | (with_reducible exact ih1 _ _ _ _ _ _ _ _ _ _ _)
   | (with_reducible exact ih2 _ _ _ _ _ _ _ _ _ _ _)
   | (with_reducible exact keep_Row.mono _ _)
   | (with_reducible exact keep_Rules.mono _ _ _ _ _ _)
   | (with_reducible exact seg_Size.mono _ _ _)
   | (with_reducible exact LeO.refl _)
   | (with_reducible exact LeO.none _)
   | (with_reducible refine LeO.ite ?_ ?_)
   | (with_reducible refine LeO.bind ?_ (fun _ => ?_))
   | exact ih0 _ _ _ _ _ _ _ _
   | exact ih1 _ _ _ _ _ _ _ _ _ _ _
   | exact ih2 _ _ _ _ _ _ _ _ _ _ _
   | exact keep_Row.mono _ _
   | exact keep_Rules.mono _ _ _ _ _ _
   | exact seg_Size.mono _ _ _
   | exact LeO.none _
   | refine LeO.ite ?_ ?_
   | refine LeO.bind ?_ (fun _ => ?_)
theorem keep_Old.mono : ∀ a0 a1 a2 a3 a4 a5 a6 k, LeO (keep_Old.f k a0 a1 a2 a3 a4 a5 a6) (keep_Old.f (k + 1) a0 a1 a2 a3 a4 a5 a6) := by
 intro a0 a1 a2 a3 a4 a5 a6 k
 obtain ⟨ih0, ih1, ih2⟩ := keep_Old.mono_l k
 unfold keep_Old.f
 repeat' first
  | (with_reducible exact ih0 _ _ _ _ _ _ _ _)
  | (with_reducible exact ih1 _ _ _ _ _ _ _ _ _ _ _)
  | (with_reducible exact ih2 _ _ _ _ _ _ _ _ _ _ _)
  | (with_reducible exact keep_Row.mono _ _)
  | (with_reducible exact keep_Rules.mono _ _ _ _ _ _)
  | (with_reducible exact seg_Size.mono _ _ _)
  | (with_reducible exact LeO.refl _)
  | (with_reducible exact LeO.none _)
  | (with_reducible refine LeO.ite ?_ ?_)
  | (with_reducible refine LeO.bind ?_ (fun _ => ?_))
  | exact ih0 _ _ _ _ _ _ _ _
  | exact ih1 _ _ _ _ _ _ _ _ _ _ _
  | exact ih2 _ _ _ _ _ _ _ _ _ _ _
  | exact keep_Row.mono _ _
  | exact keep_Rules.mono _ _ _ _ _ _
  | exact seg_Size.mono _ _ _
  | exact LeO.none _
  | refine LeO.ite ?_ ?_
  | refine LeO.bind ?_ (fun _ => ?_)
set_option maxHeartbeats 8000000 in
set_option maxRecDepth 100000 in
theorem keep_Old.calls (k : Nat) (A0 : Option Addr) (c0 : Nat) (l0 : List (S29)) (a1_0 : Int) (a1_1 : Int) (a1_2 : Int) (a1_3 : Bool) (a1_4 : Int) (a2 : Int) (r1 : Int) (r2 : Int) (w : World) (hr0 : Kd.C k29 w A0 l0.length l0) (hc0 : l0.length ≤ c0) (h : keep_Old.f k l0 a1_0 a1_1 a1_2 a1_3 a1_4 a2 = some (r1, r2)) :
 Calls Try.prog 11 #[.slice A0 l0.length c0, .agg #[.int .i64 a1_0, .int .i64 a1_1, .int .i64 a1_2, .bool a1_3, .int .i64 a1_4], .int .i64 a2] w fun e w' => e = .returned (.tuple #[.int .i64 r1, .int .i64 r2]) ∧ Below w.heap.size w w' := by
 have hu35 := Try.underlying35
 have hu29 := Try.underlying29
 have HR0 := Aside0.mk hr0
 have HC0 := Aside0.mk hc0
 clear hr0 hc0
 have HB := Aside0.mk (Below.refl w.heap.size w)
 have H : ((keep_Row.f k l0).bind fun t138 => (if t138 = 0 then ((keep_Rules.f k a1_0 a1_1 a1_2 a1_3 a1_4).bind fun t139 => (if t139 = 0 then ((keep_Time.f a2).bind fun t140 => (keep_Old.j0 k l0 a2 (!t140) a1_0 a1_1 a1_2 a1_3 a1_4)) else (keep_Old.j0 k l0 a2 true a1_0 a1_1 a1_2 a1_3 a1_4))) else (keep_Old.j0 k l0 a2 true a1_0 a1_1 a1_2 a1_3 a1_4))) = some (r1, r2) := h
 clear h
 have HC4 := Aside0.mk H
 clear H
 go_enter Try.func11, Try.ntmps11
 go_upto_region 1 with (first | ((with_reducible refine gate_dst (N := 4) rfl ?_); refine box_event ?hg (N := 4) ?hd (cs := #[.int .i64 a1_0, .int .i64 a1_1, .int .i64 a1_2, .bool a1_3, .int .i64 a1_4]) (t := 35) ?hr ?_; (case hd => rfl); (case hg => rfl); (case hr => first | (go_simp; done) | (go_simp; rfl)); intro gb137 hg w5 hbox hb; have BK137 := Aside0.mk (hbox); have GW137 := Aside0.mk ((by rw [hg]; exact (below_size bo) : w.heap.size ≤ gb137)); have GE137 := Aside0.mk ((by rw [hg]; exact (below_size bo) : w.heap.size ≤ gb137)); replace HB := Aside0.mk (below_step bo hb); clear hb hbox hg))
 repeat (go_quiet (first | ((with_reducible refine gate_dst (N := 4) rfl ?_); refine box_event ?hg (N := 4) ?hd (cs := #[.int .i64 a1_0, .int .i64 a1_1, .int .i64 a1_2, .bool a1_3, .int .i64 a1_4]) (t := 35) ?hr ?_; (case hd => rfl); (case hg => rfl); (case hr => first | (go_simp; done) | (go_simp; rfl)); intro gb137 hg w5 hbox hb; have BK137 := Aside0.mk (hbox); have GW137 := Aside0.mk ((by rw [hg]; exact (below_size bo) : w.heap.size ≤ gb137)); have GE137 := Aside0.mk ((by rw [hg]; exact (below_size bo) : w.heap.size ≤ gb137)); replace HB := Aside0.mk (below_step bo hb); clear hb hbox hg)); go_upto_region 1 with (first | ((with_reducible refine gate_dst (N := 4) rfl ?_); refine box_event ?hg (N := 4) ?hd (cs := #[.int .i64 a1_0, .int .i64 a1_1, .int .i64 a1_2, .bool a1_3, .int .i64 a1_4]) (t := 35) ?hr ?_; (case hd => rfl); (case hg => rfl); (case hr => first | (go_simp; done) | (go_simp; rfl)); intro gb137 hg w5 hbox hb; have BK137 := Aside0.mk (hbox); have GW137 := Aside0.mk ((by rw [hg]; exact (below_size bo) : w.heap.size ≤ gb137)); have GE137 := Aside0.mk ((by rw [hg]; exact (below_size bo) : w.heap.size ≤ gb137)); replace HB := Aside0.mk (below_step bo hb); clear hb hbox hg)))
 (try simp only [Act.put, List.setIfInBounds_toArray, List.set_cons_zero, List.set_cons_succ])
 go_cut [32] (fun v32 wc => ∃ (kq : Nat) (x32_3 : Bool), v32 = .bool x32_3 ∧ Aside0 (keep_Old.j0 kq l0 a2 x32_3 a1_0 a1_1 a1_2 a1_3 a1_4 = some (r1, r2)) ∧ Aside0 (kq ≤ k) ∧ Aside0 (wc.heap[gb137]? = some (.cells #[.int .i64 a1_0, .int .i64 a1_1, .int .i64 a1_2, .bool a1_3, .int .i64 a1_4] 35 (0, 0))) ∧ Aside0 (Below w.heap.size w wc))
 case first =>
  have H := HC4.out
  clear HC4
  replace H := Option.bind_eq_some_iff.mp H
  obtain ⟨t138, A60, H⟩ := H
  replace H : (if t138 = 0 then ((keep_Rules.f k a1_0 a1_1 a1_2 a1_3 a1_4).bind fun t139 => (if t139 = 0 then ((keep_Time.f a2).bind fun t140 => (keep_Old.j0 k l0 a2 (!t140) a1_0 a1_1 a1_2 a1_3 a1_4)) else (keep_Old.j0 k l0 a2 true a1_0 a1_1 a1_2 a1_3 a1_4))) else (keep_Old.j0 k l0 a2 true a1_0 a1_1 a1_2 a1_3 a1_4)) = some (r1, r2) := H
  have A6 := Aside0.mk A60
  clear A60
  by_cases c7 : t138 = 0
  ·rw [if_pos c7] at H
   have c7b0 : (t138 == 0) = true := beq_iff_eq.mpr c7
   have c7b1 : (t138 != 0) = false := bne_eq_false_iff_eq.mpr c7
   clear c7
   (first | rw [c7b0] | (simp only [i64_w, i32_w]; rw [c7b0]) | skip)
   replace H := Option.bind_eq_some_iff.mp H
   obtain ⟨t139, A80, H⟩ := H
   replace H : (if t139 = 0 then ((keep_Time.f a2).bind fun t140 => (keep_Old.j0 k l0 a2 (!t140) a1_0 a1_1 a1_2 a1_3 a1_4)) else (keep_Old.j0 k l0 a2 true a1_0 a1_1 a1_2 a1_3 a1_4)) = some (r1, r2) := H
   have A8 := Aside0.mk A80
   clear A80
   by_cases c9 : t139 = 0
   ·rw [if_pos c9] at H
    have c9b0 : (t139 == 0) = true := beq_iff_eq.mpr c9
    have c9b1 : (t139 != 0) = false := bne_eq_false_iff_eq.mpr c9
    clear c9
    replace H := Option.bind_eq_some_iff.mp H
    obtain ⟨t140, A100, H⟩ := H
    replace H : (keep_Old.j0 k l0 a2 (!t140) a1_0 a1_1 a1_2 a1_3 a1_4) = some (r1, r2) := H
    have A10 := Aside0.mk A100
    clear A100
    have H' := Aside0.mk H
    clear H
    go_wp2_with (first | (go_at_call 20; (with_reducible refine (keep_Row.calls k _ _ l0 t138 _ ?side1 ?side2 A6.out).mono ?_); (case side1 => repeat (first | exact (Kd.C_below HR0.out HB.out) | (with_reducible refine Kd.C_alloc ?_ _) | (with_reducible refine Kd.C_drewN ?_ _) | (with_reducible refine Kd.C_drew ?_))); (case side2 => exact HC0.out); rintro e w11 ⟨rfl, hb⟩; replace BK137 := Aside0.mk (bb BK137.out hb); replace HB := Aside0.mk (below_step bo hb); (try clear hb); (try clear hb2); (try clear hk); (try clear hi); obtain ⟨hcz12_0, hcz12_1, hcz12_2, hcz12_3, hcz12_4⟩ := cl5 BK137.out; obtain ⟨hfz12_0, hfz12_1, hfz12_2, hfz12_3, hfz12_4⟩ := fz5 BK137.out) | (go_at_call 21; (with_reducible refine (keep_Rules.calls k a1_0 a1_1 a1_2 a1_3 a1_4 t139 _ A8.out).mono ?_); rintro e w13 ⟨rfl, hb⟩; replace BK137 := Aside0.mk (bb BK137.out hb); replace HB := Aside0.mk (below_step bo hb); (try clear hb); (try clear hb2); (try clear hk); (try clear hi)) | (go_at_call 42; (with_reducible refine (keep_Time.calls a2 t140 _ A10.out).mono ?_); rintro e w' ⟨rfl, ⟨nd, rfl⟩⟩; (try first | exact ⟨rfl, _, World.drewN_drewN _ _ _⟩ | exact ⟨rfl, _, Eq.trans (World.drewN_drewN _ _ _) (congrArg (World.drewN _) (Nat.add_assoc _ _ _))⟩)))
    repeat (go_quiet (first | (go_at_call 20; (with_reducible refine (keep_Row.calls k _ _ l0 t138 _ ?side1 ?side2 A6.out).mono ?_); (case side1 => repeat (first | exact (Kd.C_below HR0.out HB.out) | (with_reducible refine Kd.C_alloc ?_ _) | (with_reducible refine Kd.C_drewN ?_ _) | (with_reducible refine Kd.C_drew ?_))); (case side2 => exact HC0.out); rintro e w11 ⟨rfl, hb⟩; replace BK137 := Aside0.mk (bb BK137.out hb); replace HB := Aside0.mk (below_step bo hb); (try clear hb); (try clear hb2); (try clear hk); (try clear hi); obtain ⟨hcz12_0, hcz12_1, hcz12_2, hcz12_3, hcz12_4⟩ := cl5 BK137.out; obtain ⟨hfz12_0, hfz12_1, hfz12_2, hfz12_3, hfz12_4⟩ := fz5 BK137.out) | (go_at_call 21; (with_reducible refine (keep_Rules.calls k a1_0 a1_1 a1_2 a1_3 a1_4 t139 _ A8.out).mono ?_); rintro e w13 ⟨rfl, hb⟩; replace BK137 := Aside0.mk (bb BK137.out hb); replace HB := Aside0.mk (below_step bo hb); (try clear hb); (try clear hb2); (try clear hk); (try clear hi)) | (go_at_call 42; (with_reducible refine (keep_Time.calls a2 t140 _ A10.out).mono ?_); rintro e w' ⟨rfl, ⟨nd, rfl⟩⟩; (try first | exact ⟨rfl, _, World.drewN_drewN _ _ _⟩ | exact ⟨rfl, _, Eq.trans (World.drewN_drewN _ _ _) (congrArg (World.drewN _) (Nat.add_assoc _ _ _))⟩))); try go_wp2_with (first | (go_at_call 20; (with_reducible refine (keep_Row.calls k _ _ l0 t138 _ ?side1 ?side2 A6.out).mono ?_); (case side1 => repeat (first | exact (Kd.C_below HR0.out HB.out) | (with_reducible refine Kd.C_alloc ?_ _) | (with_reducible refine Kd.C_drewN ?_ _) | (with_reducible refine Kd.C_drew ?_))); (case side2 => exact HC0.out); rintro e w11 ⟨rfl, hb⟩; replace BK137 := Aside0.mk (bb BK137.out hb); replace HB := Aside0.mk (below_step bo hb); (try clear hb); (try clear hb2); (try clear hk); (try clear hi); obtain ⟨hcz12_0, hcz12_1, hcz12_2, hcz12_3, hcz12_4⟩ := cl5 BK137.out; obtain ⟨hfz12_0, hfz12_1, hfz12_2, hfz12_3, hfz12_4⟩ := fz5 BK137.out) | (go_at_call 21; (with_reducible refine (keep_Rules.calls k a1_0 a1_1 a1_2 a1_3 a1_4 t139 _ A8.out).mono ?_); rintro e w13 ⟨rfl, hb⟩; replace BK137 := Aside0.mk (bb BK137.out hb); replace HB := Aside0.mk (below_step bo hb); (try clear hb); (try clear hb2); (try clear hk); (try clear hi)) | (go_at_call 42; (with_reducible refine (keep_Time.calls a2 t140 _ A10.out).mono ?_); rintro e w' ⟨rfl, ⟨nd, rfl⟩⟩; (try first | exact ⟨rfl, _, World.drewN_drewN _ _ _⟩ | exact ⟨rfl, _, Eq.trans (World.drewN_drewN _ _ _) (congrArg (World.drewN _) (Nat.add_assoc _ _ _))⟩))))
    go_meet
    case rel => exact ⟨_, (!t140), ap, H', ⟨by first | omega | exact Nat.le_refl _⟩, ⟨by (with_reducible repeat (first | refine blk_drewN ?_ _ | refine blk_drew ?_ | refine blk_alloc ?_ _)); exact BK137.out⟩, ⟨bo⟩⟩
   ·rw [if_neg c9] at H
    have c9b0 : (t139 == 0) = false := beq_eq_false_iff_ne.mpr c9
    have c9b1 : (t139 != 0) = true := bne_iff_ne.mpr c9
    have H' := Aside0.mk H
    clear H
    go_wp2_with (first | (go_at_call 20; (with_reducible refine (keep_Row.calls k _ _ l0 t138 _ ?side1 ?side2 A6.out).mono ?_); (case side1 => repeat (first | exact (Kd.C_below HR0.out HB.out) | (with_reducible refine Kd.C_alloc ?_ _) | (with_reducible refine Kd.C_drewN ?_ _) | (with_reducible refine Kd.C_drew ?_))); (case side2 => exact HC0.out); rintro e w14 ⟨rfl, hb⟩; replace BK137 := Aside0.mk (bb BK137.out hb); replace HB := Aside0.mk (below_step bo hb); (try clear hb); (try clear hb2); (try clear hk); (try clear hi); obtain ⟨hcz15_0, hcz15_1, hcz15_2, hcz15_3, hcz15_4⟩ := cl5 BK137.out; obtain ⟨hfz15_0, hfz15_1, hfz15_2, hfz15_3, hfz15_4⟩ := fz5 BK137.out) | (go_at_call 21; (with_reducible refine (keep_Rules.calls k a1_0 a1_1 a1_2 a1_3 a1_4 t139 _ A8.out).mono ?_); rintro e w16 ⟨rfl, hb⟩; replace BK137 := Aside0.mk (bb BK137.out hb); replace HB := Aside0.mk (below_step bo hb); (try clear hb); (try clear hb2); (try clear hk); (try clear hi)))
    repeat (go_quiet (first | (go_at_call 20; (with_reducible refine (keep_Row.calls k _ _ l0 t138 _ ?side1 ?side2 A6.out).mono ?_); (case side1 => repeat (first | exact (Kd.C_below HR0.out HB.out) | (with_reducible refine Kd.C_alloc ?_ _) | (with_reducible refine Kd.C_drewN ?_ _) | (with_reducible refine Kd.C_drew ?_))); (case side2 => exact HC0.out); rintro e w14 ⟨rfl, hb⟩; replace BK137 := Aside0.mk (bb BK137.out hb); replace HB := Aside0.mk (below_step bo hb); (try clear hb); (try clear hb2); (try clear hk); (try clear hi); obtain ⟨hcz15_0, hcz15_1, hcz15_2, hcz15_3, hcz15_4⟩ := cl5 BK137.out; obtain ⟨hfz15_0, hfz15_1, hfz15_2, hfz15_3, hfz15_4⟩ := fz5 BK137.out) | (go_at_call 21; (with_reducible refine (keep_Rules.calls k a1_0 a1_1 a1_2 a1_3 a1_4 t139 _ A8.out).mono ?_); rintro e w16 ⟨rfl, hb⟩; replace BK137 := Aside0.mk (bb BK137.out hb); replace HB := Aside0.mk (below_step bo hb); (try clear hb); (try clear hb2); (try clear hk); (try clear hi))); try go_wp2_with (first | (go_at_call 20; (with_reducible refine (keep_Row.calls k _ _ l0 t138 _ ?side1 ?side2 A6.out).mono ?_); (case side1 => repeat (first | exact (Kd.C_below HR0.out HB.out) | (with_reducible refine Kd.C_alloc ?_ _) | (with_reducible refine Kd.C_drewN ?_ _) | (with_reducible refine Kd.C_drew ?_))); (case side2 => exact HC0.out); rintro e w14 ⟨rfl, hb⟩; replace BK137 := Aside0.mk (bb BK137.out hb); replace HB := Aside0.mk (below_step bo hb); (try clear hb); (try clear hb2); (try clear hk); (try clear hi); obtain ⟨hcz15_0, hcz15_1, hcz15_2, hcz15_3, hcz15_4⟩ := cl5 BK137.out; obtain ⟨hfz15_0, hfz15_1, hfz15_2, hfz15_3, hfz15_4⟩ := fz5 BK137.out) | (go_at_call 21; (with_reducible refine (keep_Rules.calls k a1_0 a1_1 a1_2 a1_3 a1_4 t139 _ A8.out).mono ?_); rintro e w16 ⟨rfl, hb⟩; replace BK137 := Aside0.mk (bb BK137.out hb); replace HB := Aside0.mk (below_step bo hb); (try clear hb); (try clear hb2); (try clear hk); (try clear hi))))
    go_meet
    case rel => exact ⟨_, (true), ap, H', ⟨by first | omega | exact Nat.le_refl _⟩, ⟨by (with_reducible repeat (first | refine blk_drewN ?_ _ | refine blk_drew ?_ | refine blk_alloc ?_ _)); exact BK137.out⟩, ⟨bo⟩⟩
  ·rw [if_neg c7] at H
   have c7b0 : (t138 == 0) = false := beq_eq_false_iff_ne.mpr c7
   have c7b1 : (t138 != 0) = true := bne_iff_ne.mpr c7
   (first | rw [c7b0] | (simp only [i64_w, i32_w]; rw [c7b0]) | skip)
   have H' := Aside0.mk H
   clear H
   go_wp2_with (first | (go_at_call 20; (with_reducible refine (keep_Row.calls k _ _ l0 t138 _ ?side1 ?side2 A6.out).mono ?_); (case side1 => repeat (first | exact (Kd.C_below HR0.out HB.out) | (with_reducible refine Kd.C_alloc ?_ _) | (with_reducible refine Kd.C_drewN ?_ _) | (with_reducible refine Kd.C_drew ?_))); (case side2 => exact HC0.out); rintro e w17 ⟨rfl, hb⟩; replace BK137 := Aside0.mk (bb BK137.out hb); replace HB := Aside0.mk (below_step bo hb); (try clear hb); (try clear hb2); (try clear hk); (try clear hi)))
   repeat (go_quiet (first | (go_at_call 20; (with_reducible refine (keep_Row.calls k _ _ l0 t138 _ ?side1 ?side2 A6.out).mono ?_); (case side1 => repeat (first | exact (Kd.C_below HR0.out HB.out) | (with_reducible refine Kd.C_alloc ?_ _) | (with_reducible refine Kd.C_drewN ?_ _) | (with_reducible refine Kd.C_drew ?_))); (case side2 => exact HC0.out); rintro e w17 ⟨rfl, hb⟩; replace BK137 := Aside0.mk (bb BK137.out hb); replace HB := Aside0.mk (below_step bo hb); (try clear hb); (try clear hb2); (try clear hk); (try clear hi))); try go_wp2_with (first | (go_at_call 20; (with_reducible refine (keep_Row.calls k _ _ l0 t138 _ ?side1 ?side2 A6.out).mono ?_); (case side1 => repeat (first | exact (Kd.C_below HR0.out HB.out) | (with_reducible refine Kd.C_alloc ?_ _) | (with_reducible refine Kd.C_drewN ?_ _) | (with_reducible refine Kd.C_drew ?_))); (case side2 => exact HC0.out); rintro e w17 ⟨rfl, hb⟩; replace BK137 := Aside0.mk (bb BK137.out hb); replace HB := Aside0.mk (below_step bo hb); (try clear hb); (try clear hb2); (try clear hk); (try clear hi))))
   go_meet
   case rel => exact ⟨_, (true), ap, H', ⟨by first | omega | exact Nat.le_refl _⟩, ⟨by (with_reducible repeat (first | refine blk_drewN ?_ _ | refine blk_drew ?_ | refine blk_alloc ?_ _)); exact BK137.out⟩, ⟨bo⟩⟩
 case rest =>
  clear HC4
  try clear c1
  try clear p2
  try clear c7
  try clear c7b0
  try clear c7b1
  try clear c9
  try clear c9b0
  try clear c9b1
  try clear c11
  try clear hcz12_0
  try clear hcz12_1
  try clear hcz12_2
  try clear hcz12_3
  try clear hcz12_4
  try clear hcz15_0
  try clear hcz15_1
  try clear hcz15_2
  try clear hcz15_3
  try clear hcz15_4
  try clear hfz12_0
  try clear hfz12_1
  try clear hfz12_2
  try clear hfz12_3
  try clear hfz12_4
  try clear hfz15_0
  try clear hfz15_1
  try clear hfz15_2
  try clear hfz15_3
  try clear hfz15_4
  obtain ⟨kq, x32_3, rfl, HA, HJ3, BK137, HB⟩ := hcut
  cases kq with
  | zero => exact absurd HA.out (by simp [keep_Old.j0])
  | succ kj3 =>
   have H := HA.out
   clear HA
   simp only [keep_Old.j0] at H
   by_cases c18 : x32_3 = true
   ·subst c18
    have H1 : (some (0, 1)) = some (r1, r2) := by rw [if_pos rfl] at H; exact H
    clear H
    have H := H1
    clear H1
    simp only [Option.some.injEq, Prod.mk.injEq] at H
    obtain ⟨rfl, rfl⟩ := H
    go_wp2
    repeat (go_quiet (fail); try go_wp2)
    go_ret2
    exact ⟨er, bo⟩
   ·replace c18 := Bool.eq_false_iff.mpr c18
    subst c18
    have H1 : (if 0 ≤ (wrap64 ((l0.length : Int) - 1)) then (if (wrap64 ((l0.length : Int) - 1)) ≤ (l0.length : Int) then ((some (l0.take ((wrap64 ((l0.length : Int) - 1)) : Int).toNat : List (S29))).bind fun y141 => (keep_Old.l0 kj3 a2 y141 0 y141 (y141.length : Int) 0 a1_0 a1_1 a1_2 a1_3 a1_4)) else (none)) else (none)) = some (r1, r2) := by rw [if_neg (show ¬ (false = true) by decide)] at H; exact H
    clear H
    have H := H1
    clear H1
    obtain ⟨ji19, hji19⟩ : ∃ j_ : Int, (wrap64 ((l0.length : Int) - 1)) = j_ := ⟨_, rfl⟩
    replace H : (if 0 ≤ (ji19) then (if (ji19) ≤ (l0.length : Int) then ((some (l0.take ((ji19) : Int).toNat : List (S29))).bind fun y141 => (keep_Old.l0 kj3 a2 y141 0 y141 (y141.length : Int) 0 a1_0 a1_1 a1_2 a1_3 a1_4)) else (none)) else (none)) = some (r1, r2) := by first | (rw [hji19] at H; exact H) | (simp only [hji19] at H ⊢; exact H)
    have hji19w : (IntKind.i64.wrap ((l0.length : Int) - 1)) = ji19 := (i64_w _).trans hji19
    by_cases c20 : 0 ≤ (ji19)
    ·rw [if_pos c20] at H
     have c20b0 := eq_true c20
     have c20b1 : decide (0 ≤ (ji19)) = true := decide_eq_true c20
     clear c20
     by_cases c21 : (ji19) ≤ (l0.length : Int)
     ·rw [if_pos c21] at H
      have c21b0 := eq_true c21
      have c21b1 : decide ((ji19) ≤ (l0.length : Int)) = true := decide_eq_true c21
      clear c21
      obtain ⟨y141, hy141⟩ : ∃ y_ : List (S29), y_ = (l0.take ((ji19) : Int).toNat) := ⟨_, rfl⟩
      replace H : (keep_Old.l0 kj3 a2 y141 0 y141 (y141.length : Int) 0 a1_0 a1_1 a1_2 a1_3 a1_4) = some (r1, r2) := by first | (rw [hy141]; with_reducible exact H) | (have H2_ := (Option.bind_some _ _).symm.trans H; rw [hy141]; with_reducible exact H2_) | (have H2_ := (Option.bind_some _ _).symm.trans H; with_reducible exact H2_) | with_reducible exact H | (rw [hy141]; exact H) | exact H
      have Ny141 := Aside0.mk hy141
      clear hy141
      have H' := Aside0.mk H
      clear H
      have q22 : ((ji19) : Int) ≤ ((l0.length : Int) : Int) := od
      obtain ⟨i022, hi022, _, hsz22, _⟩ := info_parts info29
      have hroom22 : l0.length ≤ c0 := HC0.out
      have hC22 : Kd.C k29 _ A0 l0.length l0 := HR0.out
      have hcut22 := cut_to (P := Try.prog) 23 29 .i64 Try.underlying23 hi022 A0 l0.length c0 (ji19) (od) q22 hroom22
      have hr22 := Kd.C_take (m := ((ji19) : Int).toNat) hC22 (by omega)
      have hy22 : y141.length = ((ji19) : Int).toNat := (by rw [Ny141.out, List.length_take]; omega)
      rw [← Ny141.out] at hr22
      rw [← hy22] at hcut22
      have HR144 := Aside0.mk hr22
      have HC144 := Aside0.mk (show y141.length ≤ c0 from by omega)
      clear hr22 hC22 hroom22 hi022 hsz22
      have KY22 := Aside0.mk hy22
      clear hy22
      replace q22 := eq_true q22
      go_wp2
      repeat (go_quiet (fail); try go_wp2)
      go_loopg [9, 40] kj3 (fun kq v9 v40 w' => ∃ (x9_2 : Int) (x40_2 : Int), v9 = .int .i64 x9_2 ∧ v40 = .int .i64 x40_2 ∧ Aside0 (keep_Old.l0 kq a2 y141 x9_2 y141 (y141.length : Int) x40_2 a1_0 a1_1 a1_2 a1_3 a1_4 = some (r1, r2)) ∧ Aside0 (kq ≤ kj3) ∧ Aside0 (w'.heap[gb137]? = some (.cells #[.int .i64 a1_0, .int .i64 a1_1, .int .i64 a1_2, .bool a1_3, .int .i64 a1_4] 35 (0, 0))) ∧ Aside0 (Below w.heap.size w w'))
      case atStart => exact ⟨(0), (0), ap, ap, H', ⟨Nat.le_refl _⟩, ⟨by (with_reducible repeat (first | refine blk_drewN ?_ _ | refine blk_drew ?_ | refine blk_alloc ?_ _)); exact BK137.out⟩, ⟨bo⟩⟩
      case round =>
       clear H'
       try clear c1
       try clear c2
       try clear p2
       try clear q2
       try clear p6
       try clear c7
       try clear c7b0
       try clear c7b1
       try clear c9
       try clear c9b0
       try clear c9b1
       try clear c11
       try clear c18
       try clear c20
       try clear c20b0
       try clear c20b1
       try clear c21
       try clear c21b0
       try clear c21b1
       try clear q22
       try clear hcz12_0
       try clear hcz12_1
       try clear hcz12_2
       try clear hcz12_3
       try clear hcz12_4
       try clear hcz15_0
       try clear hcz15_1
       try clear hcz15_2
       try clear hcz15_3
       try clear hcz15_4
       try clear hfz12_0
       try clear hfz12_1
       try clear hfz12_2
       try clear hfz12_3
       try clear hfz12_4
       try clear hfz15_0
       try clear hfz15_1
       try clear hfz15_2
       try clear hfz15_3
       try clear hfz15_4
       try clear p2
       try clear q22
       obtain ⟨x9_2, x40_2, rfl, rfl, HA, HK2, BK137, HB⟩ := hrel
       cases gk with
       | zero => exact absurd HA.out (by simp [keep_Old.l0])
       | succ k2 =>
        have H := HA.out
        clear HA
        simp only [keep_Old.l0] at H
        by_cases c23 : x40_2 < (y141.length : Int)
        ·rw [if_pos c23] at H
         have c23b0 : decide (x40_2 < (y141.length : Int)) = true := decide_eq_true c23
         clear c23
         by_cases c24 : 0 ≤ x40_2
         ·rw [if_pos c24] at H
          have c24b0 : decide (0 ≤ x40_2) = true := decide_eq_true c24
          clear c24
          by_cases c25 : x40_2 < (y141.length : Int)
          ·rw [if_pos c25] at H
           have c25b0 : decide (x40_2 < (y141.length : Int)) = true := decide_eq_true c25
           clear c25
           replace H := Option.bind_eq_some_iff.mp H
           obtain ⟨⟨t147, t148⟩, A260, H⟩ := H
           replace H : (keep_Old.l0 k2 a2 y141 (wrap64 (x9_2 + t147)) y141 (y141.length : Int) (wrap64 (x40_2 + 1)) a1_0 a1_1 a1_2 a1_3 a1_4) = some (r1, r2) := H
           have A26 := Aside0.mk A260
           clear A260
           have H' := Aside0.mk H
           clear H
           have p145 : 0 ≤ (x40_2 : Int) := od
           have q145 : x40_2 < (y141.length : Int) := od
           obtain ⟨ad145, A145_1, c145_1, e145, hx145_0, hx145_1, hl145_1, hi145_1⟩ := at_T29 HR144.out x40_2 p145 q145
           cases e145
           replace hx145_0 := cx HB.out hx145_0
           replace hx145_1 := cx HB.out hx145_1
           have HR145_1 := Aside0.mk hi145_1
           have HC145_1 := Aside0.mk hl145_1
           clear hi145_1 hl145_1
           replace p145 := eq_true p145
           replace q145 := eq_true q145
           go_wp2_with (first | ((with_reducible refine gate_dst (N := 11) rfl ?_); refine box_event ?hg (N := 11) ?hd (cs := #[.int .i64 0, .slice none 0 0]) (t := 29) ?hr ?_; (case hd => rfl); (case hg => rfl); (case hr => first | (go_simp; done) | (go_simp; rfl)); intro gb146 hg w27 hbox hb; have BK146 := Aside0.mk (hbox); have GW146 := Aside0.mk ((by rw [hg]; exact (below_size bo) : w.heap.size ≤ gb146)); have GE146 := Aside0.mk ((by rw [hg]; exact (below_size bo) : w.heap.size ≤ gb146)); replace HB := Aside0.mk (below_step bo hb); have NB137_146 := Aside0.mk (nl BK137.out hg); have NB146_137 := Aside0.mk (ng BK137.out hg); replace BK137 := Aside0.mk (bb BK137.out hb); clear hb hbox hg; have hnb28 := NB146_137.out; have hnc28 := NB137_146.out; obtain ⟨hcz29_0, hcz29_1⟩ := cl2 BK146.out; obtain ⟨hfz29_0, hfz29_1⟩ := fz2 BK146.out) | (go_at_call 43; (with_reducible refine (seg_Size.calls k2 ((rd_T29 y141 x40_2).f0) _ _ ((rd_T29 y141 x40_2).f1) t147 t148 _ ?side1 ?side2 A26.out).mono ?_); (case side1 => exact Kd.C_below HR145_1.out bo); (case side2 => exact HC145_1.out); rintro e w30 ⟨rfl, hb⟩; replace BK137 := Aside0.mk (bB BK137.out hb); replace BK146 := Aside0.mk (blk_below (g := gb146) (o := .cells #[.int .i64 ((rd_T29 y141 x40_2).f0), .slice A145_1 ((rd_T29 y141 x40_2).f1).length c145_1] 29 (0, 0)) (by (with_reducible repeat (first | refine blk_drewN ?_ _ | refine blk_drew ?_ | refine blk_alloc ?_ _)); refine blk_put (cs := #[.int .i64 ((rd_T29 y141 x40_2).f0), .slice none 0 0]) ?_ 1 _ rfl; (with_reducible repeat (first | refine blk_drewN ?_ _ | refine blk_drew ?_ | refine blk_alloc ?_ _)); refine blk_put (cs := #[.int .i64 0, .slice none 0 0]) ?_ 0 _ rfl; (with_reducible repeat (first | refine blk_drewN ?_ _ | refine blk_drew ?_ | refine blk_alloc ?_ _)); exact BK146.out) hb); replace HB := Aside0.mk (below_step bo hb); (try clear hb); (try clear hb2); (try clear hk); (try clear hi)))
           repeat (go_quiet (first | ((with_reducible refine gate_dst (N := 11) rfl ?_); refine box_event ?hg (N := 11) ?hd (cs := #[.int .i64 0, .slice none 0 0]) (t := 29) ?hr ?_; (case hd => rfl); (case hg => rfl); (case hr => first | (go_simp; done) | (go_simp; rfl)); intro gb146 hg w27 hbox hb; have BK146 := Aside0.mk (hbox); have GW146 := Aside0.mk ((by rw [hg]; exact (below_size bo) : w.heap.size ≤ gb146)); have GE146 := Aside0.mk ((by rw [hg]; exact (below_size bo) : w.heap.size ≤ gb146)); replace HB := Aside0.mk (below_step bo hb); have NB137_146 := Aside0.mk (nl BK137.out hg); have NB146_137 := Aside0.mk (ng BK137.out hg); replace BK137 := Aside0.mk (bb BK137.out hb); clear hb hbox hg; have hnb28 := NB146_137.out; have hnc28 := NB137_146.out; obtain ⟨hcz29_0, hcz29_1⟩ := cl2 BK146.out; obtain ⟨hfz29_0, hfz29_1⟩ := fz2 BK146.out) | (go_at_call 43; (with_reducible refine (seg_Size.calls k2 ((rd_T29 y141 x40_2).f0) _ _ ((rd_T29 y141 x40_2).f1) t147 t148 _ ?side1 ?side2 A26.out).mono ?_); (case side1 => exact Kd.C_below HR145_1.out bo); (case side2 => exact HC145_1.out); rintro e w30 ⟨rfl, hb⟩; replace BK137 := Aside0.mk (bB BK137.out hb); replace BK146 := Aside0.mk (blk_below (g := gb146) (o := .cells #[.int .i64 ((rd_T29 y141 x40_2).f0), .slice A145_1 ((rd_T29 y141 x40_2).f1).length c145_1] 29 (0, 0)) (by (with_reducible repeat (first | refine blk_drewN ?_ _ | refine blk_drew ?_ | refine blk_alloc ?_ _)); refine blk_put (cs := #[.int .i64 ((rd_T29 y141 x40_2).f0), .slice none 0 0]) ?_ 1 _ rfl; (with_reducible repeat (first | refine blk_drewN ?_ _ | refine blk_drew ?_ | refine blk_alloc ?_ _)); refine blk_put (cs := #[.int .i64 0, .slice none 0 0]) ?_ 0 _ rfl; (with_reducible repeat (first | refine blk_drewN ?_ _ | refine blk_drew ?_ | refine blk_alloc ?_ _)); exact BK146.out) hb); replace HB := Aside0.mk (below_step bo hb); (try clear hb); (try clear hb2); (try clear hk); (try clear hi))); try go_wp2_with (first | ((with_reducible refine gate_dst (N := 11) rfl ?_); refine box_event ?hg (N := 11) ?hd (cs := #[.int .i64 0, .slice none 0 0]) (t := 29) ?hr ?_; (case hd => rfl); (case hg => rfl); (case hr => first | (go_simp; done) | (go_simp; rfl)); intro gb146 hg w27 hbox hb; have BK146 := Aside0.mk (hbox); have GW146 := Aside0.mk ((by rw [hg]; exact (below_size bo) : w.heap.size ≤ gb146)); have GE146 := Aside0.mk ((by rw [hg]; exact (below_size bo) : w.heap.size ≤ gb146)); replace HB := Aside0.mk (below_step bo hb); have NB137_146 := Aside0.mk (nl BK137.out hg); have NB146_137 := Aside0.mk (ng BK137.out hg); replace BK137 := Aside0.mk (bb BK137.out hb); clear hb hbox hg; have hnb28 := NB146_137.out; have hnc28 := NB137_146.out; obtain ⟨hcz29_0, hcz29_1⟩ := cl2 BK146.out; obtain ⟨hfz29_0, hfz29_1⟩ := fz2 BK146.out) | (go_at_call 43; (with_reducible refine (seg_Size.calls k2 ((rd_T29 y141 x40_2).f0) _ _ ((rd_T29 y141 x40_2).f1) t147 t148 _ ?side1 ?side2 A26.out).mono ?_); (case side1 => exact Kd.C_below HR145_1.out bo); (case side2 => exact HC145_1.out); rintro e w30 ⟨rfl, hb⟩; replace BK137 := Aside0.mk (bB BK137.out hb); replace BK146 := Aside0.mk (blk_below (g := gb146) (o := .cells #[.int .i64 ((rd_T29 y141 x40_2).f0), .slice A145_1 ((rd_T29 y141 x40_2).f1).length c145_1] 29 (0, 0)) (by (with_reducible repeat (first | refine blk_drewN ?_ _ | refine blk_drew ?_ | refine blk_alloc ?_ _)); refine blk_put (cs := #[.int .i64 ((rd_T29 y141 x40_2).f0), .slice none 0 0]) ?_ 1 _ rfl; (with_reducible repeat (first | refine blk_drewN ?_ _ | refine blk_drew ?_ | refine blk_alloc ?_ _)); refine blk_put (cs := #[.int .i64 0, .slice none 0 0]) ?_ 0 _ rfl; (with_reducible repeat (first | refine blk_drewN ?_ _ | refine blk_drew ?_ | refine blk_alloc ?_ _)); exact BK146.out) hb); replace HB := Aside0.mk (below_step bo hb); (try clear hb); (try clear hb2); (try clear hk); (try clear hi))))
           go_roundg k2
           case measure => have := HJ3.out; have := HK2.out; omega
           case rel => exact ⟨(wrap64 (x9_2 + t147)), (wrap64 (x40_2 + 1)), ap, ap, H', ⟨by have := HJ3.out; have := HK2.out; omega⟩, ⟨by (with_reducible repeat (first | refine blk_drewN ?_ _ | refine blk_drew ?_ | refine blk_alloc ?_ _)); exact BK137.out⟩, ⟨bo⟩⟩
          ·rw [if_neg c25] at H
           exact absurd H (by simp)
         ·rw [if_neg c24] at H
          exact absurd H (by simp)
        ·rw [if_neg c23] at H
         have c23b0 : decide (x40_2 < (y141.length : Int)) = false := decide_eq_false c23
         clear c23
         have H' := Aside0.mk H
         clear H
         go_wp2
         repeat (go_quiet (fail); try go_wp2)
         go_loopg [9, 55] k2 (fun kq v9 v55 w' => ∃ (x9_3 : Int) (x55_3 : Int), v9 = .int .i64 x9_3 ∧ v55 = .int .i64 x55_3 ∧ Aside0 (keep_Old.l1 kq a2 y141 x9_3 y141 (y141.length : Int) x55_3 a1_0 a1_1 a1_2 a1_3 a1_4 = some (r1, r2)) ∧ Aside0 (kq ≤ k2) ∧ Aside0 (w'.heap[gb137]? = some (.cells #[.int .i64 a1_0, .int .i64 a1_1, .int .i64 a1_2, .bool a1_3, .int .i64 a1_4] 35 (0, 0))) ∧ Aside0 (Below w.heap.size w w'))
         case atStart => exact ⟨(x9_2), (0), ap, ap, H', ⟨Nat.le_refl _⟩, ⟨by (with_reducible repeat (first | refine blk_drewN ?_ _ | refine blk_drew ?_ | refine blk_alloc ?_ _)); exact BK137.out⟩, ⟨bo⟩⟩
         case round =>
          clear H'
          try clear c1
          try clear p1
          try clear q1
          try clear hx1
          try clear c2
          try clear p2
          try clear q2
          try clear p6
          try clear c7
          try clear c7b0
          try clear c7b1
          try clear c9
          try clear c9b0
          try clear c9b1
          try clear c11
          try clear c14
          try clear p14
          try clear q14
          try clear hx14
          try clear c18
          try clear c20
          try clear c20b0
          try clear c20b1
          try clear c21
          try clear c21b0
          try clear c21b1
          try clear q22
          try clear c23
          try clear c23b0
          try clear c24
          try clear c24b0
          try clear c25
          try clear c25b0
          try clear c28
          try clear hcz12_0
          try clear hcz12_1
          try clear hcz12_2
          try clear hcz12_3
          try clear hcz12_4
          try clear hcz15_0
          try clear hcz15_1
          try clear hcz15_2
          try clear hcz15_3
          try clear hcz15_4
          try clear hcz29_0
          try clear hcz29_1
          try clear hfz12_0
          try clear hfz12_1
          try clear hfz12_2
          try clear hfz12_3
          try clear hfz12_4
          try clear hfz15_0
          try clear hfz15_1
          try clear hfz15_2
          try clear hfz15_3
          try clear hfz15_4
          try clear hfz29_0
          try clear hfz29_1
          try clear hx145_0
          try clear hx145_1
          try clear p145
          try clear p2
          try clear p6
          try clear q145
          try clear q2
          try clear q22
          obtain ⟨x9_3, x55_3, rfl, rfl, HA, HK3, BK137, HB⟩ := hrel
          cases gk with
          | zero => exact absurd HA.out (by simp [keep_Old.l1])
          | succ k3 =>
           have H := HA.out
           clear HA
           simp only [keep_Old.l1] at H
           by_cases c31 : x55_3 < (y141.length : Int)
           ·rw [if_pos c31] at H
            have c31b0 : decide (x55_3 < (y141.length : Int)) = true := decide_eq_true c31
            clear c31
            by_cases c32 : 0 ≤ x55_3
            ·rw [if_pos c32] at H
             have c32b0 : decide (0 ≤ x55_3) = true := decide_eq_true c32
             clear c32
             by_cases c33 : x55_3 < (y141.length : Int)
             ·rw [if_pos c33] at H
              have c33b0 : decide (x55_3 < (y141.length : Int)) = true := decide_eq_true c33
              clear c33
              by_cases c34 : a1_2 ≥ 0
              ·rw [if_pos c34] at H
               have c34b0 : decide (0 ≤ a1_2) = true := decide_eq_true c34
               clear c34
               by_cases c35 : (((rd_T29 y141 x55_3).f1).length : Int) = 0
               ·rw [if_pos c35] at H
                have c35b0 : ((((rd_T29 y141 x55_3).f1).length : Int) == 0) = true := beq_iff_eq.mpr c35
                have c35b1 : ((((rd_T29 y141 x55_3).f1).length : Int) != 0) = false := bne_eq_false_iff_eq.mpr c35
                clear c35
                replace H := Option.bind_eq_some_iff.mp H
                obtain ⟨⟨t151, t152⟩, A360, H⟩ := H
                replace H : (keep_Old.l1 k3 a2 y141 (wrap64 (x9_3 - t151)) y141 (y141.length : Int) (wrap64 (x55_3 + 1)) a1_0 a1_1 a1_2 a1_3 a1_4) = some (r1, r2) := H
                have A36 := Aside0.mk A360
                clear A360
                have H' := Aside0.mk H
                clear H
                have p149 : 0 ≤ (x55_3 : Int) := od
                have q149 : x55_3 < (y141.length : Int) := od
                obtain ⟨ad149, A149_1, c149_1, e149, hx149_0, hx149_1, hl149_1, hi149_1⟩ := at_T29 HR144.out x55_3 p149 q149
                cases e149
                replace hx149_0 := cx HB.out hx149_0
                replace hx149_1 := cx HB.out hx149_1
                have HR149_1 := Aside0.mk hi149_1
                have HC149_1 := Aside0.mk hl149_1
                clear hi149_1 hl149_1
                replace p149 := eq_true p149
                replace q149 := eq_true q149
                go_wp2_with (first | ((with_reducible refine gate_dst (N := 15) rfl ?_); refine box_event ?hg (N := 15) ?hd (cs := #[.int .i64 0, .slice none 0 0]) (t := 29) ?hr ?_; (case hd => rfl); (case hg => rfl); (case hr => first | (go_simp; done) | (go_simp; rfl)); intro gb150 hg w37 hbox hb; have BK150 := Aside0.mk (hbox); have GW150 := Aside0.mk ((by rw [hg]; exact (below_size bo) : w.heap.size ≤ gb150)); have GE150 := Aside0.mk ((by rw [hg]; exact (below_size bo) : w.heap.size ≤ gb150)); replace HB := Aside0.mk (below_step bo hb); have NB137_150 := Aside0.mk (nl BK137.out hg); have NB150_137 := Aside0.mk (ng BK137.out hg); replace BK137 := Aside0.mk (bb BK137.out hb); clear hb hbox hg; have hnb38 := NB150_137.out; have hnc38 := NB137_150.out; obtain ⟨hcz39_0, hcz39_1⟩ := cl2 BK150.out; obtain ⟨hfz39_0, hfz39_1⟩ := fz2 BK150.out; obtain ⟨hcz40_0, hcz40_1, hcz40_2, hcz40_3, hcz40_4⟩ := cl5 BK137.out; obtain ⟨hfz40_0, hfz40_1, hfz40_2, hfz40_3, hfz40_4⟩ := fz5 BK137.out) | (go_at_call 43; (with_reducible refine (seg_Size.calls k3 ((rd_T29 y141 x55_3).f0) _ _ ((rd_T29 y141 x55_3).f1) t151 t152 _ ?side1 ?side2 A36.out).mono ?_); (case side1 => exact Kd.C_below HR149_1.out bo); (case side2 => exact HC149_1.out); rintro e w41 ⟨rfl, hb⟩; replace BK137 := Aside0.mk (bB BK137.out hb); replace BK150 := Aside0.mk (blk_below (g := gb150) (o := .cells #[.int .i64 ((rd_T29 y141 x55_3).f0), .slice A149_1 ((rd_T29 y141 x55_3).f1).length c149_1] 29 (0, 0)) (by (with_reducible repeat (first | refine blk_drewN ?_ _ | refine blk_drew ?_ | refine blk_alloc ?_ _)); refine blk_put (cs := #[.int .i64 ((rd_T29 y141 x55_3).f0), .slice none 0 0]) ?_ 1 _ rfl; (with_reducible repeat (first | refine blk_drewN ?_ _ | refine blk_drew ?_ | refine blk_alloc ?_ _)); refine blk_put (cs := #[.int .i64 0, .slice none 0 0]) ?_ 0 _ rfl; (with_reducible repeat (first | refine blk_drewN ?_ _ | refine blk_drew ?_ | refine blk_alloc ?_ _)); exact BK150.out) hb); replace HB := Aside0.mk (below_step bo hb); (try clear hb); (try clear hb2); (try clear hk); (try clear hi)))
                repeat (go_quiet (first | ((with_reducible refine gate_dst (N := 15) rfl ?_); refine box_event ?hg (N := 15) ?hd (cs := #[.int .i64 0, .slice none 0 0]) (t := 29) ?hr ?_; (case hd => rfl); (case hg => rfl); (case hr => first | (go_simp; done) | (go_simp; rfl)); intro gb150 hg w37 hbox hb; have BK150 := Aside0.mk (hbox); have GW150 := Aside0.mk ((by rw [hg]; exact (below_size bo) : w.heap.size ≤ gb150)); have GE150 := Aside0.mk ((by rw [hg]; exact (below_size bo) : w.heap.size ≤ gb150)); replace HB := Aside0.mk (below_step bo hb); have NB137_150 := Aside0.mk (nl BK137.out hg); have NB150_137 := Aside0.mk (ng BK137.out hg); replace BK137 := Aside0.mk (bb BK137.out hb); clear hb hbox hg; have hnb38 := NB150_137.out; have hnc38 := NB137_150.out; obtain ⟨hcz39_0, hcz39_1⟩ := cl2 BK150.out; obtain ⟨hfz39_0, hfz39_1⟩ := fz2 BK150.out; obtain ⟨hcz40_0, hcz40_1, hcz40_2, hcz40_3, hcz40_4⟩ := cl5 BK137.out; obtain ⟨hfz40_0, hfz40_1, hfz40_2, hfz40_3, hfz40_4⟩ := fz5 BK137.out) | (go_at_call 43; (with_reducible refine (seg_Size.calls k3 ((rd_T29 y141 x55_3).f0) _ _ ((rd_T29 y141 x55_3).f1) t151 t152 _ ?side1 ?side2 A36.out).mono ?_); (case side1 => exact Kd.C_below HR149_1.out bo); (case side2 => exact HC149_1.out); rintro e w41 ⟨rfl, hb⟩; replace BK137 := Aside0.mk (bB BK137.out hb); replace BK150 := Aside0.mk (blk_below (g := gb150) (o := .cells #[.int .i64 ((rd_T29 y141 x55_3).f0), .slice A149_1 ((rd_T29 y141 x55_3).f1).length c149_1] 29 (0, 0)) (by (with_reducible repeat (first | refine blk_drewN ?_ _ | refine blk_drew ?_ | refine blk_alloc ?_ _)); refine blk_put (cs := #[.int .i64 ((rd_T29 y141 x55_3).f0), .slice none 0 0]) ?_ 1 _ rfl; (with_reducible repeat (first | refine blk_drewN ?_ _ | refine blk_drew ?_ | refine blk_alloc ?_ _)); refine blk_put (cs := #[.int .i64 0, .slice none 0 0]) ?_ 0 _ rfl; (with_reducible repeat (first | refine blk_drewN ?_ _ | refine blk_drew ?_ | refine blk_alloc ?_ _)); exact BK150.out) hb); replace HB := Aside0.mk (below_step bo hb); (try clear hb); (try clear hb2); (try clear hk); (try clear hi))); try go_wp2_with (first | ((with_reducible refine gate_dst (N := 15) rfl ?_); refine box_event ?hg (N := 15) ?hd (cs := #[.int .i64 0, .slice none 0 0]) (t := 29) ?hr ?_; (case hd => rfl); (case hg => rfl); (case hr => first | (go_simp; done) | (go_simp; rfl)); intro gb150 hg w37 hbox hb; have BK150 := Aside0.mk (hbox); have GW150 := Aside0.mk ((by rw [hg]; exact (below_size bo) : w.heap.size ≤ gb150)); have GE150 := Aside0.mk ((by rw [hg]; exact (below_size bo) : w.heap.size ≤ gb150)); replace HB := Aside0.mk (below_step bo hb); have NB137_150 := Aside0.mk (nl BK137.out hg); have NB150_137 := Aside0.mk (ng BK137.out hg); replace BK137 := Aside0.mk (bb BK137.out hb); clear hb hbox hg; have hnb38 := NB150_137.out; have hnc38 := NB137_150.out; obtain ⟨hcz39_0, hcz39_1⟩ := cl2 BK150.out; obtain ⟨hfz39_0, hfz39_1⟩ := fz2 BK150.out; obtain ⟨hcz40_0, hcz40_1, hcz40_2, hcz40_3, hcz40_4⟩ := cl5 BK137.out; obtain ⟨hfz40_0, hfz40_1, hfz40_2, hfz40_3, hfz40_4⟩ := fz5 BK137.out) | (go_at_call 43; (with_reducible refine (seg_Size.calls k3 ((rd_T29 y141 x55_3).f0) _ _ ((rd_T29 y141 x55_3).f1) t151 t152 _ ?side1 ?side2 A36.out).mono ?_); (case side1 => exact Kd.C_below HR149_1.out bo); (case side2 => exact HC149_1.out); rintro e w41 ⟨rfl, hb⟩; replace BK137 := Aside0.mk (bB BK137.out hb); replace BK150 := Aside0.mk (blk_below (g := gb150) (o := .cells #[.int .i64 ((rd_T29 y141 x55_3).f0), .slice A149_1 ((rd_T29 y141 x55_3).f1).length c149_1] 29 (0, 0)) (by (with_reducible repeat (first | refine blk_drewN ?_ _ | refine blk_drew ?_ | refine blk_alloc ?_ _)); refine blk_put (cs := #[.int .i64 ((rd_T29 y141 x55_3).f0), .slice none 0 0]) ?_ 1 _ rfl; (with_reducible repeat (first | refine blk_drewN ?_ _ | refine blk_drew ?_ | refine blk_alloc ?_ _)); refine blk_put (cs := #[.int .i64 0, .slice none 0 0]) ?_ 0 _ rfl; (with_reducible repeat (first | refine blk_drewN ?_ _ | refine blk_drew ?_ | refine blk_alloc ?_ _)); exact BK150.out) hb); replace HB := Aside0.mk (below_step bo hb); (try clear hb); (try clear hb2); (try clear hk); (try clear hi))))
                go_roundg k3
                case measure => have := HJ3.out; have := HK2.out; have := HK3.out; omega
                case rel => exact ⟨(wrap64 (x9_3 - t151)), (wrap64 (x55_3 + 1)), ap, ap, H', ⟨by have := HJ3.out; have := HK2.out; have := HK3.out; omega⟩, ⟨by (with_reducible repeat (first | refine blk_drewN ?_ _ | refine blk_drew ?_ | refine blk_alloc ?_ _)); exact BK137.out⟩, ⟨bo⟩⟩
               ·rw [if_neg c35] at H
                have c35b0 : ((((rd_T29 y141 x55_3).f1).length : Int) == 0) = false := beq_eq_false_iff_ne.mpr c35
                have c35b1 : ((((rd_T29 y141 x55_3).f1).length : Int) != 0) = true := bne_iff_ne.mpr c35
                have c35b2 : ¬ (((rd_T29 y141 x55_3).f1) = []) := fun h_ => c35 (by rw [h_]; rfl)
                obtain ⟨ji42, hji42⟩ : ∃ j_ : Int, (wrap64 ((((rd_T29 y141 x55_3).f1).length : Int) - 1)) = j_ := ⟨_, rfl⟩
                replace H : (if 0 ≤ (ji42) then (if (ji42) < (((rd_T29 y141 x55_3).f1).length : Int) then (if ((wrap64 (((rd_T25 ((rd_T29 y141 x55_3).f1) (ji42)).f1) + a1_2)) < a2) then ((seg_Size.f k3 ((rd_T29 y141 x55_3).f0) ((rd_T29 y141 x55_3).f1)).bind fun bt154 => (keep_Old.l1 k3 a2 y141 (wrap64 (x9_3 - bt154.1)) y141 (y141.length : Int) (wrap64 (x55_3 + 1)) a1_0 a1_1 a1_2 a1_3 a1_4)) else (if a1_1 < 0 then (some (x55_3, 0)) else (if x9_3 ≤ a1_1 then (some (x55_3, 0)) else ((seg_Size.f k3 ((rd_T29 y141 x55_3).f0) ((rd_T29 y141 x55_3).f1)).bind fun bt156 => (keep_Old.l1 k3 a2 y141 (wrap64 (x9_3 - bt156.1)) y141 (y141.length : Int) (wrap64 (x55_3 + 1)) a1_0 a1_1 a1_2 a1_3 a1_4))))) else (none)) else (none)) = some (r1, r2) := by first | (rw [hji42] at H; exact H) | (simp only [hji42] at H ⊢; exact H)
                have hji42w : (IntKind.i64.wrap ((((rd_T29 y141 x55_3).f1).length : Int) - 1)) = ji42 := (i64_w _).trans hji42
                by_cases c43 : 0 ≤ (ji42)
                ·rw [if_pos c43] at H
                 have c43b0 : decide (0 ≤ (ji42)) = true := decide_eq_true c43
                 clear c43
                 by_cases c44 : (ji42) < (((rd_T29 y141 x55_3).f1).length : Int)
                 ·rw [if_pos c44] at H
                  have c44b0 : decide ((ji42) < (((rd_T29 y141 x55_3).f1).length : Int)) = true := decide_eq_true c44
                  clear c44
                  by_cases c45 : ((wrap64 (((rd_T25 ((rd_T29 y141 x55_3).f1) (ji42)).f1) + a1_2)) < a2)
                  ·rw [if_pos c45] at H
                   have c45b0 : decide ((wrap64 (((rd_T25 ((rd_T29 y141 x55_3).f1) (ji42)).f1) + a1_2)) < a2) = true := decide_eq_true c45
                   clear c45
                   replace H := Option.bind_eq_some_iff.mp H
                   obtain ⟨⟨t154, t155⟩, A460, H⟩ := H
                   replace H : (keep_Old.l1 k3 a2 y141 (wrap64 (x9_3 - t154)) y141 (y141.length : Int) (wrap64 (x55_3 + 1)) a1_0 a1_1 a1_2 a1_3 a1_4) = some (r1, r2) := H
                   have A46 := Aside0.mk A460
                   clear A460
                   have H' := Aside0.mk H
                   clear H
                   have p149 : 0 ≤ (x55_3 : Int) := od
                   have q149 : x55_3 < (y141.length : Int) := od
                   obtain ⟨ad149, A149_1, c149_1, e149, hx149_0, hx149_1, hl149_1, hi149_1⟩ := at_T29 HR144.out x55_3 p149 q149
                   cases e149
                   replace hx149_0 := cx HB.out hx149_0
                   replace hx149_1 := cx HB.out hx149_1
                   have HR149_1 := Aside0.mk hi149_1
                   have HC149_1 := Aside0.mk hl149_1
                   clear hi149_1 hl149_1
                   replace p149 := eq_true p149
                   replace q149 := eq_true q149
                   go_wp2_with (first | ((with_reducible refine gate_dst (N := 15) rfl ?_); refine box_event ?hg (N := 15) ?hd (cs := #[.int .i64 0, .slice none 0 0]) (t := 29) ?hr ?_; (case hd => rfl); (case hg => rfl); (case hr => first | (go_simp; done) | (go_simp; rfl)); intro gb150 hg w47 hbox hb; have BK150 := Aside0.mk (hbox); have GW150 := Aside0.mk ((by rw [hg]; exact (below_size bo) : w.heap.size ≤ gb150)); have GE150 := Aside0.mk ((by rw [hg]; exact (below_size bo) : w.heap.size ≤ gb150)); replace HB := Aside0.mk (below_step bo hb); have NB137_150 := Aside0.mk (nl BK137.out hg); have NB150_137 := Aside0.mk (ng BK137.out hg); replace BK137 := Aside0.mk (bb BK137.out hb); clear hb hbox hg; have hnb48 := NB150_137.out; have hnc48 := NB137_150.out; obtain ⟨hcz49_0, hcz49_1⟩ := cl2 BK150.out; obtain ⟨hfz49_0, hfz49_1⟩ := fz2 BK150.out; obtain ⟨hcz50_0, hcz50_1, hcz50_2, hcz50_3, hcz50_4⟩ := cl5 BK137.out; obtain ⟨hfz50_0, hfz50_1, hfz50_2, hfz50_3, hfz50_4⟩ := fz5 BK137.out; have p153 : 0 ≤ ((ji42) : Int) := od; have q153 : (ji42) < (((rd_T29 y141 x55_3).f1).length : Int) := od; obtain ⟨ad153, e153, hx153_0, hx153_1, hx153_2, hx153_3, hx153_4, hx153_5⟩ := at_T25 HR149_1.out (ji42) p153 q153; cases e153; have hn153_0 : ad153.block ≠ gb150 := Nat.ne_of_lt (Nat.lt_of_lt_of_le (by have := World.block_lt_of_cell? _ _ hx153_0; first | rwa [add_block] at this | exact this) GW150.out); have hn153_1 : ad153.block ≠ gb150 := Nat.ne_of_lt (Nat.lt_of_lt_of_le (by have := World.block_lt_of_cell? _ _ hx153_0; first | rwa [add_block] at this | exact this) GW150.out); replace hx153_0 := cx HB.out hx153_0; replace hx153_1 := cx HB.out hx153_1; replace hx153_2 := cx HB.out hx153_2; replace hx153_3 := cx HB.out hx153_3; replace hx153_4 := cx HB.out hx153_4; replace hx153_5 := cx HB.out hx153_5; replace hx153_0 := (cell_far (p := ⟨gb150, 0, none⟩) (by first | (rw [add_block]; exact hn153_0) | (show (Addr.add _ _).block ≠ _; rw [add_block]; exact hn153_0) | exact hn153_0) (.int .i64 ((rd_T29 y141 x55_3).f0))).trans hx153_0; replace hx153_1 := (cell_far (p := ⟨gb150, 0, none⟩) (by first | (rw [add_block]; exact hn153_0) | (show (Addr.add _ _).block ≠ _; rw [add_block]; exact hn153_0) | exact hn153_0) (.int .i64 ((rd_T29 y141 x55_3).f0))).trans hx153_1; replace hx153_2 := (cell_far (p := ⟨gb150, 0, none⟩) (by first | (rw [add_block]; exact hn153_0) | (show (Addr.add _ _).block ≠ _; rw [add_block]; exact hn153_0) | exact hn153_0) (.int .i64 ((rd_T29 y141 x55_3).f0))).trans hx153_2; replace hx153_3 := (cell_far (p := ⟨gb150, 0, none⟩) (by first | (rw [add_block]; exact hn153_0) | (show (Addr.add _ _).block ≠ _; rw [add_block]; exact hn153_0) | exact hn153_0) (.int .i64 ((rd_T29 y141 x55_3).f0))).trans hx153_3; replace hx153_4 := (cell_far (p := ⟨gb150, 0, none⟩) (by first | (rw [add_block]; exact hn153_0) | (show (Addr.add _ _).block ≠ _; rw [add_block]; exact hn153_0) | exact hn153_0) (.int .i64 ((rd_T29 y141 x55_3).f0))).trans hx153_4; replace hx153_5 := (cell_far (p := ⟨gb150, 0, none⟩) (by first | (rw [add_block]; exact hn153_0) | (show (Addr.add _ _).block ≠ _; rw [add_block]; exact hn153_0) | exact hn153_0) (.int .i64 ((rd_T29 y141 x55_3).f0))).trans hx153_5; replace hx153_0 := (cell_far (p := ⟨gb150, 1, none⟩) (by first | (rw [add_block]; exact hn153_1) | (show (Addr.add _ _).block ≠ _; rw [add_block]; exact hn153_1) | exact hn153_1) (.slice (some ad153) ((rd_T29 y141 x55_3).f1).length c149_1)).trans hx153_0; replace hx153_1 := (cell_far (p := ⟨gb150, 1, none⟩) (by first | (rw [add_block]; exact hn153_1) | (show (Addr.add _ _).block ≠ _; rw [add_block]; exact hn153_1) | exact hn153_1) (.slice (some ad153) ((rd_T29 y141 x55_3).f1).length c149_1)).trans hx153_1; replace hx153_2 := (cell_far (p := ⟨gb150, 1, none⟩) (by first | (rw [add_block]; exact hn153_1) | (show (Addr.add _ _).block ≠ _; rw [add_block]; exact hn153_1) | exact hn153_1) (.slice (some ad153) ((rd_T29 y141 x55_3).f1).length c149_1)).trans hx153_2; replace hx153_3 := (cell_far (p := ⟨gb150, 1, none⟩) (by first | (rw [add_block]; exact hn153_1) | (show (Addr.add _ _).block ≠ _; rw [add_block]; exact hn153_1) | exact hn153_1) (.slice (some ad153) ((rd_T29 y141 x55_3).f1).length c149_1)).trans hx153_3; replace hx153_4 := (cell_far (p := ⟨gb150, 1, none⟩) (by first | (rw [add_block]; exact hn153_1) | (show (Addr.add _ _).block ≠ _; rw [add_block]; exact hn153_1) | exact hn153_1) (.slice (some ad153) ((rd_T29 y141 x55_3).f1).length c149_1)).trans hx153_4; replace hx153_5 := (cell_far (p := ⟨gb150, 1, none⟩) (by first | (rw [add_block]; exact hn153_1) | (show (Addr.add _ _).block ≠ _; rw [add_block]; exact hn153_1) | exact hn153_1) (.slice (some ad153) ((rd_T29 y141 x55_3).f1).length c149_1)).trans hx153_5; (try have hy153_0 := fun (n_ : Nat) => (show ((((w47.drewN n_).setCell ⟨gb150, 0, none⟩ (.int .i64 ((rd_T29 y141 x55_3).f0))).setCell ⟨gb150, 1, none⟩ (.slice (some ad153) ((rd_T29 y141 x55_3).f1).length c149_1))).cell? _ = some _ from hx153_0)); (try have hy153_1 := fun (n_ : Nat) => (show ((((w47.drewN n_).setCell ⟨gb150, 0, none⟩ (.int .i64 ((rd_T29 y141 x55_3).f0))).setCell ⟨gb150, 1, none⟩ (.slice (some ad153) ((rd_T29 y141 x55_3).f1).length c149_1))).cell? _ = some _ from hx153_1)); (try have hy153_2 := fun (n_ : Nat) => (show ((((w47.drewN n_).setCell ⟨gb150, 0, none⟩ (.int .i64 ((rd_T29 y141 x55_3).f0))).setCell ⟨gb150, 1, none⟩ (.slice (some ad153) ((rd_T29 y141 x55_3).f1).length c149_1))).cell? _ = some _ from hx153_2)); (try have hy153_3 := fun (n_ : Nat) => (show ((((w47.drewN n_).setCell ⟨gb150, 0, none⟩ (.int .i64 ((rd_T29 y141 x55_3).f0))).setCell ⟨gb150, 1, none⟩ (.slice (some ad153) ((rd_T29 y141 x55_3).f1).length c149_1))).cell? _ = some _ from hx153_3)); (try have hy153_4 := fun (n_ : Nat) => (show ((((w47.drewN n_).setCell ⟨gb150, 0, none⟩ (.int .i64 ((rd_T29 y141 x55_3).f0))).setCell ⟨gb150, 1, none⟩ (.slice (some ad153) ((rd_T29 y141 x55_3).f1).length c149_1))).cell? _ = some _ from hx153_4)); (try have hy153_5 := fun (n_ : Nat) => (show ((((w47.drewN n_).setCell ⟨gb150, 0, none⟩ (.int .i64 ((rd_T29 y141 x55_3).f0))).setCell ⟨gb150, 1, none⟩ (.slice (some ad153) ((rd_T29 y141 x55_3).f1).length c149_1))).cell? _ = some _ from hx153_5)); clear hn153_0; clear hn153_1; replace p153 := eq_true p153; replace q153 := eq_true q153) | (go_at_call 43; (with_reducible refine (seg_Size.calls k3 ((rd_T29 y141 x55_3).f0) _ _ ((rd_T29 y141 x55_3).f1) t154 t155 _ ?side1 ?side2 A46.out).mono ?_); (case side1 => exact Kd.C_below HR149_1.out bo); (case side2 => exact HC149_1.out); rintro e w51 ⟨rfl, hb⟩; replace BK137 := Aside0.mk (bB BK137.out hb); replace BK150 := Aside0.mk (blk_below (g := gb150) (o := .cells #[.int .i64 ((rd_T29 y141 x55_3).f0), .slice (some ad153) ((rd_T29 y141 x55_3).f1).length c149_1] 29 (0, 0)) (by (with_reducible repeat (first | refine blk_drewN ?_ _ | refine blk_drew ?_ | refine blk_alloc ?_ _)); refine blk_put (cs := #[.int .i64 ((rd_T29 y141 x55_3).f0), .slice none 0 0]) ?_ 1 _ rfl; (with_reducible repeat (first | refine blk_drewN ?_ _ | refine blk_drew ?_ | refine blk_alloc ?_ _)); refine blk_put (cs := #[.int .i64 0, .slice none 0 0]) ?_ 0 _ rfl; (with_reducible repeat (first | refine blk_drewN ?_ _ | refine blk_drew ?_ | refine blk_alloc ?_ _)); exact BK150.out) hb); replace HB := Aside0.mk (below_step bo hb); (try clear hb); (try clear hb2); (try clear hk); (try clear hi)))
                   repeat (go_quiet (first | ((with_reducible refine gate_dst (N := 15) rfl ?_); refine box_event ?hg (N := 15) ?hd (cs := #[.int .i64 0, .slice none 0 0]) (t := 29) ?hr ?_; (case hd => rfl); (case hg => rfl); (case hr => first | (go_simp; done) | (go_simp; rfl)); intro gb150 hg w47 hbox hb; have BK150 := Aside0.mk (hbox); have GW150 := Aside0.mk ((by rw [hg]; exact (below_size bo) : w.heap.size ≤ gb150)); have GE150 := Aside0.mk ((by rw [hg]; exact (below_size bo) : w.heap.size ≤ gb150)); replace HB := Aside0.mk (below_step bo hb); have NB137_150 := Aside0.mk (nl BK137.out hg); have NB150_137 := Aside0.mk (ng BK137.out hg); replace BK137 := Aside0.mk (bb BK137.out hb); clear hb hbox hg; have hnb48 := NB150_137.out; have hnc48 := NB137_150.out; obtain ⟨hcz49_0, hcz49_1⟩ := cl2 BK150.out; obtain ⟨hfz49_0, hfz49_1⟩ := fz2 BK150.out; obtain ⟨hcz50_0, hcz50_1, hcz50_2, hcz50_3, hcz50_4⟩ := cl5 BK137.out; obtain ⟨hfz50_0, hfz50_1, hfz50_2, hfz50_3, hfz50_4⟩ := fz5 BK137.out; have p153 : 0 ≤ ((ji42) : Int) := od; have q153 : (ji42) < (((rd_T29 y141 x55_3).f1).length : Int) := od; obtain ⟨ad153, e153, hx153_0, hx153_1, hx153_2, hx153_3, hx153_4, hx153_5⟩ := at_T25 HR149_1.out (ji42) p153 q153; cases e153; have hn153_0 : ad153.block ≠ gb150 := Nat.ne_of_lt (Nat.lt_of_lt_of_le (by have := World.block_lt_of_cell? _ _ hx153_0; first | rwa [add_block] at this | exact this) GW150.out); have hn153_1 : ad153.block ≠ gb150 := Nat.ne_of_lt (Nat.lt_of_lt_of_le (by have := World.block_lt_of_cell? _ _ hx153_0; first | rwa [add_block] at this | exact this) GW150.out); replace hx153_0 := cx HB.out hx153_0; replace hx153_1 := cx HB.out hx153_1; replace hx153_2 := cx HB.out hx153_2; replace hx153_3 := cx HB.out hx153_3; replace hx153_4 := cx HB.out hx153_4; replace hx153_5 := cx HB.out hx153_5; replace hx153_0 := (cell_far (p := ⟨gb150, 0, none⟩) (by first | (rw [add_block]; exact hn153_0) | (show (Addr.add _ _).block ≠ _; rw [add_block]; exact hn153_0) | exact hn153_0) (.int .i64 ((rd_T29 y141 x55_3).f0))).trans hx153_0; replace hx153_1 := (cell_far (p := ⟨gb150, 0, none⟩) (by first | (rw [add_block]; exact hn153_0) | (show (Addr.add _ _).block ≠ _; rw [add_block]; exact hn153_0) | exact hn153_0) (.int .i64 ((rd_T29 y141 x55_3).f0))).trans hx153_1; replace hx153_2 := (cell_far (p := ⟨gb150, 0, none⟩) (by first | (rw [add_block]; exact hn153_0) | (show (Addr.add _ _).block ≠ _; rw [add_block]; exact hn153_0) | exact hn153_0) (.int .i64 ((rd_T29 y141 x55_3).f0))).trans hx153_2; replace hx153_3 := (cell_far (p := ⟨gb150, 0, none⟩) (by first | (rw [add_block]; exact hn153_0) | (show (Addr.add _ _).block ≠ _; rw [add_block]; exact hn153_0) | exact hn153_0) (.int .i64 ((rd_T29 y141 x55_3).f0))).trans hx153_3; replace hx153_4 := (cell_far (p := ⟨gb150, 0, none⟩) (by first | (rw [add_block]; exact hn153_0) | (show (Addr.add _ _).block ≠ _; rw [add_block]; exact hn153_0) | exact hn153_0) (.int .i64 ((rd_T29 y141 x55_3).f0))).trans hx153_4; replace hx153_5 := (cell_far (p := ⟨gb150, 0, none⟩) (by first | (rw [add_block]; exact hn153_0) | (show (Addr.add _ _).block ≠ _; rw [add_block]; exact hn153_0) | exact hn153_0) (.int .i64 ((rd_T29 y141 x55_3).f0))).trans hx153_5; replace hx153_0 := (cell_far (p := ⟨gb150, 1, none⟩) (by first | (rw [add_block]; exact hn153_1) | (show (Addr.add _ _).block ≠ _; rw [add_block]; exact hn153_1) | exact hn153_1) (.slice (some ad153) ((rd_T29 y141 x55_3).f1).length c149_1)).trans hx153_0; replace hx153_1 := (cell_far (p := ⟨gb150, 1, none⟩) (by first | (rw [add_block]; exact hn153_1) | (show (Addr.add _ _).block ≠ _; rw [add_block]; exact hn153_1) | exact hn153_1) (.slice (some ad153) ((rd_T29 y141 x55_3).f1).length c149_1)).trans hx153_1; replace hx153_2 := (cell_far (p := ⟨gb150, 1, none⟩) (by first | (rw [add_block]; exact hn153_1) | (show (Addr.add _ _).block ≠ _; rw [add_block]; exact hn153_1) | exact hn153_1) (.slice (some ad153) ((rd_T29 y141 x55_3).f1).length c149_1)).trans hx153_2; replace hx153_3 := (cell_far (p := ⟨gb150, 1, none⟩) (by first | (rw [add_block]; exact hn153_1) | (show (Addr.add _ _).block ≠ _; rw [add_block]; exact hn153_1) | exact hn153_1) (.slice (some ad153) ((rd_T29 y141 x55_3).f1).length c149_1)).trans hx153_3; replace hx153_4 := (cell_far (p := ⟨gb150, 1, none⟩) (by first | (rw [add_block]; exact hn153_1) | (show (Addr.add _ _).block ≠ _; rw [add_block]; exact hn153_1) | exact hn153_1) (.slice (some ad153) ((rd_T29 y141 x55_3).f1).length c149_1)).trans hx153_4; replace hx153_5 := (cell_far (p := ⟨gb150, 1, none⟩) (by first | (rw [add_block]; exact hn153_1) | (show (Addr.add _ _).block ≠ _; rw [add_block]; exact hn153_1) | exact hn153_1) (.slice (some ad153) ((rd_T29 y141 x55_3).f1).length c149_1)).trans hx153_5; (try have hy153_0 := fun (n_ : Nat) => (show ((((w47.drewN n_).setCell ⟨gb150, 0, none⟩ (.int .i64 ((rd_T29 y141 x55_3).f0))).setCell ⟨gb150, 1, none⟩ (.slice (some ad153) ((rd_T29 y141 x55_3).f1).length c149_1))).cell? _ = some _ from hx153_0)); (try have hy153_1 := fun (n_ : Nat) => (show ((((w47.drewN n_).setCell ⟨gb150, 0, none⟩ (.int .i64 ((rd_T29 y141 x55_3).f0))).setCell ⟨gb150, 1, none⟩ (.slice (some ad153) ((rd_T29 y141 x55_3).f1).length c149_1))).cell? _ = some _ from hx153_1)); (try have hy153_2 := fun (n_ : Nat) => (show ((((w47.drewN n_).setCell ⟨gb150, 0, none⟩ (.int .i64 ((rd_T29 y141 x55_3).f0))).setCell ⟨gb150, 1, none⟩ (.slice (some ad153) ((rd_T29 y141 x55_3).f1).length c149_1))).cell? _ = some _ from hx153_2)); (try have hy153_3 := fun (n_ : Nat) => (show ((((w47.drewN n_).setCell ⟨gb150, 0, none⟩ (.int .i64 ((rd_T29 y141 x55_3).f0))).setCell ⟨gb150, 1, none⟩ (.slice (some ad153) ((rd_T29 y141 x55_3).f1).length c149_1))).cell? _ = some _ from hx153_3)); (try have hy153_4 := fun (n_ : Nat) => (show ((((w47.drewN n_).setCell ⟨gb150, 0, none⟩ (.int .i64 ((rd_T29 y141 x55_3).f0))).setCell ⟨gb150, 1, none⟩ (.slice (some ad153) ((rd_T29 y141 x55_3).f1).length c149_1))).cell? _ = some _ from hx153_4)); (try have hy153_5 := fun (n_ : Nat) => (show ((((w47.drewN n_).setCell ⟨gb150, 0, none⟩ (.int .i64 ((rd_T29 y141 x55_3).f0))).setCell ⟨gb150, 1, none⟩ (.slice (some ad153) ((rd_T29 y141 x55_3).f1).length c149_1))).cell? _ = some _ from hx153_5)); clear hn153_0; clear hn153_1; replace p153 := eq_true p153; replace q153 := eq_true q153) | (go_at_call 43; (with_reducible refine (seg_Size.calls k3 ((rd_T29 y141 x55_3).f0) _ _ ((rd_T29 y141 x55_3).f1) t154 t155 _ ?side1 ?side2 A46.out).mono ?_); (case side1 => exact Kd.C_below HR149_1.out bo); (case side2 => exact HC149_1.out); rintro e w51 ⟨rfl, hb⟩; replace BK137 := Aside0.mk (bB BK137.out hb); replace BK150 := Aside0.mk (blk_below (g := gb150) (o := .cells #[.int .i64 ((rd_T29 y141 x55_3).f0), .slice (some ad153) ((rd_T29 y141 x55_3).f1).length c149_1] 29 (0, 0)) (by (with_reducible repeat (first | refine blk_drewN ?_ _ | refine blk_drew ?_ | refine blk_alloc ?_ _)); refine blk_put (cs := #[.int .i64 ((rd_T29 y141 x55_3).f0), .slice none 0 0]) ?_ 1 _ rfl; (with_reducible repeat (first | refine blk_drewN ?_ _ | refine blk_drew ?_ | refine blk_alloc ?_ _)); refine blk_put (cs := #[.int .i64 0, .slice none 0 0]) ?_ 0 _ rfl; (with_reducible repeat (first | refine blk_drewN ?_ _ | refine blk_drew ?_ | refine blk_alloc ?_ _)); exact BK150.out) hb); replace HB := Aside0.mk (below_step bo hb); (try clear hb); (try clear hb2); (try clear hk); (try clear hi))); try go_wp2_with (first | ((with_reducible refine gate_dst (N := 15) rfl ?_); refine box_event ?hg (N := 15) ?hd (cs := #[.int .i64 0, .slice none 0 0]) (t := 29) ?hr ?_; (case hd => rfl); (case hg => rfl); (case hr => first | (go_simp; done) | (go_simp; rfl)); intro gb150 hg w47 hbox hb; have BK150 := Aside0.mk (hbox); have GW150 := Aside0.mk ((by rw [hg]; exact (below_size bo) : w.heap.size ≤ gb150)); have GE150 := Aside0.mk ((by rw [hg]; exact (below_size bo) : w.heap.size ≤ gb150)); replace HB := Aside0.mk (below_step bo hb); have NB137_150 := Aside0.mk (nl BK137.out hg); have NB150_137 := Aside0.mk (ng BK137.out hg); replace BK137 := Aside0.mk (bb BK137.out hb); clear hb hbox hg; have hnb48 := NB150_137.out; have hnc48 := NB137_150.out; obtain ⟨hcz49_0, hcz49_1⟩ := cl2 BK150.out; obtain ⟨hfz49_0, hfz49_1⟩ := fz2 BK150.out; obtain ⟨hcz50_0, hcz50_1, hcz50_2, hcz50_3, hcz50_4⟩ := cl5 BK137.out; obtain ⟨hfz50_0, hfz50_1, hfz50_2, hfz50_3, hfz50_4⟩ := fz5 BK137.out; have p153 : 0 ≤ ((ji42) : Int) := od; have q153 : (ji42) < (((rd_T29 y141 x55_3).f1).length : Int) := od; obtain ⟨ad153, e153, hx153_0, hx153_1, hx153_2, hx153_3, hx153_4, hx153_5⟩ := at_T25 HR149_1.out (ji42) p153 q153; cases e153; have hn153_0 : ad153.block ≠ gb150 := Nat.ne_of_lt (Nat.lt_of_lt_of_le (by have := World.block_lt_of_cell? _ _ hx153_0; first | rwa [add_block] at this | exact this) GW150.out); have hn153_1 : ad153.block ≠ gb150 := Nat.ne_of_lt (Nat.lt_of_lt_of_le (by have := World.block_lt_of_cell? _ _ hx153_0; first | rwa [add_block] at this | exact this) GW150.out); replace hx153_0 := cx HB.out hx153_0; replace hx153_1 := cx HB.out hx153_1; replace hx153_2 := cx HB.out hx153_2; replace hx153_3 := cx HB.out hx153_3; replace hx153_4 := cx HB.out hx153_4; replace hx153_5 := cx HB.out hx153_5; replace hx153_0 := (cell_far (p := ⟨gb150, 0, none⟩) (by first | (rw [add_block]; exact hn153_0) | (show (Addr.add _ _).block ≠ _; rw [add_block]; exact hn153_0) | exact hn153_0) (.int .i64 ((rd_T29 y141 x55_3).f0))).trans hx153_0; replace hx153_1 := (cell_far (p := ⟨gb150, 0, none⟩) (by first | (rw [add_block]; exact hn153_0) | (show (Addr.add _ _).block ≠ _; rw [add_block]; exact hn153_0) | exact hn153_0) (.int .i64 ((rd_T29 y141 x55_3).f0))).trans hx153_1; replace hx153_2 := (cell_far (p := ⟨gb150, 0, none⟩) (by first | (rw [add_block]; exact hn153_0) | (show (Addr.add _ _).block ≠ _; rw [add_block]; exact hn153_0) | exact hn153_0) (.int .i64 ((rd_T29 y141 x55_3).f0))).trans hx153_2; replace hx153_3 := (cell_far (p := ⟨gb150, 0, none⟩) (by first | (rw [add_block]; exact hn153_0) | (show (Addr.add _ _).block ≠ _; rw [add_block]; exact hn153_0) | exact hn153_0) (.int .i64 ((rd_T29 y141 x55_3).f0))).trans hx153_3; replace hx153_4 := (cell_far (p := ⟨gb150, 0, none⟩) (by first | (rw [add_block]; exact hn153_0) | (show (Addr.add _ _).block ≠ _; rw [add_block]; exact hn153_0) | exact hn153_0) (.int .i64 ((rd_T29 y141 x55_3).f0))).trans hx153_4; replace hx153_5 := (cell_far (p := ⟨gb150, 0, none⟩) (by first | (rw [add_block]; exact hn153_0) | (show (Addr.add _ _).block ≠ _; rw [add_block]; exact hn153_0) | exact hn153_0) (.int .i64 ((rd_T29 y141 x55_3).f0))).trans hx153_5; replace hx153_0 := (cell_far (p := ⟨gb150, 1, none⟩) (by first | (rw [add_block]; exact hn153_1) | (show (Addr.add _ _).block ≠ _; rw [add_block]; exact hn153_1) | exact hn153_1) (.slice (some ad153) ((rd_T29 y141 x55_3).f1).length c149_1)).trans hx153_0; replace hx153_1 := (cell_far (p := ⟨gb150, 1, none⟩) (by first | (rw [add_block]; exact hn153_1) | (show (Addr.add _ _).block ≠ _; rw [add_block]; exact hn153_1) | exact hn153_1) (.slice (some ad153) ((rd_T29 y141 x55_3).f1).length c149_1)).trans hx153_1; replace hx153_2 := (cell_far (p := ⟨gb150, 1, none⟩) (by first | (rw [add_block]; exact hn153_1) | (show (Addr.add _ _).block ≠ _; rw [add_block]; exact hn153_1) | exact hn153_1) (.slice (some ad153) ((rd_T29 y141 x55_3).f1).length c149_1)).trans hx153_2; replace hx153_3 := (cell_far (p := ⟨gb150, 1, none⟩) (by first | (rw [add_block]; exact hn153_1) | (show (Addr.add _ _).block ≠ _; rw [add_block]; exact hn153_1) | exact hn153_1) (.slice (some ad153) ((rd_T29 y141 x55_3).f1).length c149_1)).trans hx153_3; replace hx153_4 := (cell_far (p := ⟨gb150, 1, none⟩) (by first | (rw [add_block]; exact hn153_1) | (show (Addr.add _ _).block ≠ _; rw [add_block]; exact hn153_1) | exact hn153_1) (.slice (some ad153) ((rd_T29 y141 x55_3).f1).length c149_1)).trans hx153_4; replace hx153_5 := (cell_far (p := ⟨gb150, 1, none⟩) (by first | (rw [add_block]; exact hn153_1) | (show (Addr.add _ _).block ≠ _; rw [add_block]; exact hn153_1) | exact hn153_1) (.slice (some ad153) ((rd_T29 y141 x55_3).f1).length c149_1)).trans hx153_5; (try have hy153_0 := fun (n_ : Nat) => (show ((((w47.drewN n_).setCell ⟨gb150, 0, none⟩ (.int .i64 ((rd_T29 y141 x55_3).f0))).setCell ⟨gb150, 1, none⟩ (.slice (some ad153) ((rd_T29 y141 x55_3).f1).length c149_1))).cell? _ = some _ from hx153_0)); (try have hy153_1 := fun (n_ : Nat) => (show ((((w47.drewN n_).setCell ⟨gb150, 0, none⟩ (.int .i64 ((rd_T29 y141 x55_3).f0))).setCell ⟨gb150, 1, none⟩ (.slice (some ad153) ((rd_T29 y141 x55_3).f1).length c149_1))).cell? _ = some _ from hx153_1)); (try have hy153_2 := fun (n_ : Nat) => (show ((((w47.drewN n_).setCell ⟨gb150, 0, none⟩ (.int .i64 ((rd_T29 y141 x55_3).f0))).setCell ⟨gb150, 1, none⟩ (.slice (some ad153) ((rd_T29 y141 x55_3).f1).length c149_1))).cell? _ = some _ from hx153_2)); (try have hy153_3 := fun (n_ : Nat) => (show ((((w47.drewN n_).setCell ⟨gb150, 0, none⟩ (.int .i64 ((rd_T29 y141 x55_3).f0))).setCell ⟨gb150, 1, none⟩ (.slice (some ad153) ((rd_T29 y141 x55_3).f1).length c149_1))).cell? _ = some _ from hx153_3)); (try have hy153_4 := fun (n_ : Nat) => (show ((((w47.drewN n_).setCell ⟨gb150, 0, none⟩ (.int .i64 ((rd_T29 y141 x55_3).f0))).setCell ⟨gb150, 1, none⟩ (.slice (some ad153) ((rd_T29 y141 x55_3).f1).length c149_1))).cell? _ = some _ from hx153_4)); (try have hy153_5 := fun (n_ : Nat) => (show ((((w47.drewN n_).setCell ⟨gb150, 0, none⟩ (.int .i64 ((rd_T29 y141 x55_3).f0))).setCell ⟨gb150, 1, none⟩ (.slice (some ad153) ((rd_T29 y141 x55_3).f1).length c149_1))).cell? _ = some _ from hx153_5)); clear hn153_0; clear hn153_1; replace p153 := eq_true p153; replace q153 := eq_true q153) | (go_at_call 43; (with_reducible refine (seg_Size.calls k3 ((rd_T29 y141 x55_3).f0) _ _ ((rd_T29 y141 x55_3).f1) t154 t155 _ ?side1 ?side2 A46.out).mono ?_); (case side1 => exact Kd.C_below HR149_1.out bo); (case side2 => exact HC149_1.out); rintro e w51 ⟨rfl, hb⟩; replace BK137 := Aside0.mk (bB BK137.out hb); replace BK150 := Aside0.mk (blk_below (g := gb150) (o := .cells #[.int .i64 ((rd_T29 y141 x55_3).f0), .slice (some ad153) ((rd_T29 y141 x55_3).f1).length c149_1] 29 (0, 0)) (by (with_reducible repeat (first | refine blk_drewN ?_ _ | refine blk_drew ?_ | refine blk_alloc ?_ _)); refine blk_put (cs := #[.int .i64 ((rd_T29 y141 x55_3).f0), .slice none 0 0]) ?_ 1 _ rfl; (with_reducible repeat (first | refine blk_drewN ?_ _ | refine blk_drew ?_ | refine blk_alloc ?_ _)); refine blk_put (cs := #[.int .i64 0, .slice none 0 0]) ?_ 0 _ rfl; (with_reducible repeat (first | refine blk_drewN ?_ _ | refine blk_drew ?_ | refine blk_alloc ?_ _)); exact BK150.out) hb); replace HB := Aside0.mk (below_step bo hb); (try clear hb); (try clear hb2); (try clear hk); (try clear hi))))
                   go_roundg k3
                   case measure => have := HJ3.out; have := HK2.out; have := HK3.out; omega
                   case rel => exact ⟨(wrap64 (x9_3 - t154)), (wrap64 (x55_3 + 1)), ap, ap, H', ⟨by have := HJ3.out; have := HK2.out; have := HK3.out; omega⟩, ⟨by (with_reducible repeat (first | refine blk_drewN ?_ _ | refine blk_drew ?_ | refine blk_alloc ?_ _)); exact BK137.out⟩, ⟨bo⟩⟩
                  ·rw [if_neg c45] at H
                   have c45b0 : decide ((wrap64 (((rd_T25 ((rd_T29 y141 x55_3).f1) (ji42)).f1) + a1_2)) < a2) = false := decide_eq_false c45
                   clear c45
                   by_cases c52 : a1_1 < 0
                   ·rw [if_pos c52] at H
                    have c52b0 : decide (a1_1 < 0) = true := decide_eq_true c52
                    clear c52
                    simp only [Option.some.injEq, Prod.mk.injEq] at H
                    obtain ⟨rfl, rfl⟩ := H
                    have p149 : 0 ≤ (x55_3 : Int) := od
                    have q149 : x55_3 < (y141.length : Int) := od
                    obtain ⟨ad149, A149_1, c149_1, e149, hx149_0, hx149_1, hl149_1, hi149_1⟩ := at_T29 HR144.out x55_3 p149 q149
                    cases e149
                    replace hx149_0 := cx HB.out hx149_0
                    replace hx149_1 := cx HB.out hx149_1
                    have HR149_1 := Aside0.mk hi149_1
                    have HC149_1 := Aside0.mk hl149_1
                    clear hi149_1 hl149_1
                    replace p149 := eq_true p149
                    replace q149 := eq_true q149
                    go_wp2_with (first | ((with_reducible refine gate_dst (N := 15) rfl ?_); refine box_event ?hg (N := 15) ?hd (cs := #[.int .i64 0, .slice none 0 0]) (t := 29) ?hr ?_; (case hd => rfl); (case hg => rfl); (case hr => first | (go_simp; done) | (go_simp; rfl)); intro gb150 hg w53 hbox hb; have BK150 := Aside0.mk (hbox); have GW150 := Aside0.mk ((by rw [hg]; exact (below_size bo) : w.heap.size ≤ gb150)); have GE150 := Aside0.mk ((by rw [hg]; exact (below_size bo) : w.heap.size ≤ gb150)); replace HB := Aside0.mk (below_step bo hb); have NB137_150 := Aside0.mk (nl BK137.out hg); have NB150_137 := Aside0.mk (ng BK137.out hg); replace BK137 := Aside0.mk (bb BK137.out hb); clear hb hbox hg; have hnb54 := NB150_137.out; have hnc54 := NB137_150.out; obtain ⟨hcz55_0, hcz55_1⟩ := cl2 BK150.out; obtain ⟨hfz55_0, hfz55_1⟩ := fz2 BK150.out; obtain ⟨hcz56_0, hcz56_1, hcz56_2, hcz56_3, hcz56_4⟩ := cl5 BK137.out; obtain ⟨hfz56_0, hfz56_1, hfz56_2, hfz56_3, hfz56_4⟩ := fz5 BK137.out; have p153 : 0 ≤ ((ji42) : Int) := od; have q153 : (ji42) < (((rd_T29 y141 x55_3).f1).length : Int) := od; obtain ⟨ad153, e153, hx153_0, hx153_1, hx153_2, hx153_3, hx153_4, hx153_5⟩ := at_T25 HR149_1.out (ji42) p153 q153; cases e153; have hn153_0 : ad153.block ≠ gb150 := Nat.ne_of_lt (Nat.lt_of_lt_of_le (by have := World.block_lt_of_cell? _ _ hx153_0; first | rwa [add_block] at this | exact this) GW150.out); have hn153_1 : ad153.block ≠ gb150 := Nat.ne_of_lt (Nat.lt_of_lt_of_le (by have := World.block_lt_of_cell? _ _ hx153_0; first | rwa [add_block] at this | exact this) GW150.out); replace hx153_0 := cx HB.out hx153_0; replace hx153_1 := cx HB.out hx153_1; replace hx153_2 := cx HB.out hx153_2; replace hx153_3 := cx HB.out hx153_3; replace hx153_4 := cx HB.out hx153_4; replace hx153_5 := cx HB.out hx153_5; replace hx153_0 := (cell_far (p := ⟨gb150, 0, none⟩) (by first | (rw [add_block]; exact hn153_0) | (show (Addr.add _ _).block ≠ _; rw [add_block]; exact hn153_0) | exact hn153_0) (.int .i64 ((rd_T29 y141 x55_3).f0))).trans hx153_0; replace hx153_1 := (cell_far (p := ⟨gb150, 0, none⟩) (by first | (rw [add_block]; exact hn153_0) | (show (Addr.add _ _).block ≠ _; rw [add_block]; exact hn153_0) | exact hn153_0) (.int .i64 ((rd_T29 y141 x55_3).f0))).trans hx153_1; replace hx153_2 := (cell_far (p := ⟨gb150, 0, none⟩) (by first | (rw [add_block]; exact hn153_0) | (show (Addr.add _ _).block ≠ _; rw [add_block]; exact hn153_0) | exact hn153_0) (.int .i64 ((rd_T29 y141 x55_3).f0))).trans hx153_2; replace hx153_3 := (cell_far (p := ⟨gb150, 0, none⟩) (by first | (rw [add_block]; exact hn153_0) | (show (Addr.add _ _).block ≠ _; rw [add_block]; exact hn153_0) | exact hn153_0) (.int .i64 ((rd_T29 y141 x55_3).f0))).trans hx153_3; replace hx153_4 := (cell_far (p := ⟨gb150, 0, none⟩) (by first | (rw [add_block]; exact hn153_0) | (show (Addr.add _ _).block ≠ _; rw [add_block]; exact hn153_0) | exact hn153_0) (.int .i64 ((rd_T29 y141 x55_3).f0))).trans hx153_4; replace hx153_5 := (cell_far (p := ⟨gb150, 0, none⟩) (by first | (rw [add_block]; exact hn153_0) | (show (Addr.add _ _).block ≠ _; rw [add_block]; exact hn153_0) | exact hn153_0) (.int .i64 ((rd_T29 y141 x55_3).f0))).trans hx153_5; replace hx153_0 := (cell_far (p := ⟨gb150, 1, none⟩) (by first | (rw [add_block]; exact hn153_1) | (show (Addr.add _ _).block ≠ _; rw [add_block]; exact hn153_1) | exact hn153_1) (.slice (some ad153) ((rd_T29 y141 x55_3).f1).length c149_1)).trans hx153_0; replace hx153_1 := (cell_far (p := ⟨gb150, 1, none⟩) (by first | (rw [add_block]; exact hn153_1) | (show (Addr.add _ _).block ≠ _; rw [add_block]; exact hn153_1) | exact hn153_1) (.slice (some ad153) ((rd_T29 y141 x55_3).f1).length c149_1)).trans hx153_1; replace hx153_2 := (cell_far (p := ⟨gb150, 1, none⟩) (by first | (rw [add_block]; exact hn153_1) | (show (Addr.add _ _).block ≠ _; rw [add_block]; exact hn153_1) | exact hn153_1) (.slice (some ad153) ((rd_T29 y141 x55_3).f1).length c149_1)).trans hx153_2; replace hx153_3 := (cell_far (p := ⟨gb150, 1, none⟩) (by first | (rw [add_block]; exact hn153_1) | (show (Addr.add _ _).block ≠ _; rw [add_block]; exact hn153_1) | exact hn153_1) (.slice (some ad153) ((rd_T29 y141 x55_3).f1).length c149_1)).trans hx153_3; replace hx153_4 := (cell_far (p := ⟨gb150, 1, none⟩) (by first | (rw [add_block]; exact hn153_1) | (show (Addr.add _ _).block ≠ _; rw [add_block]; exact hn153_1) | exact hn153_1) (.slice (some ad153) ((rd_T29 y141 x55_3).f1).length c149_1)).trans hx153_4; replace hx153_5 := (cell_far (p := ⟨gb150, 1, none⟩) (by first | (rw [add_block]; exact hn153_1) | (show (Addr.add _ _).block ≠ _; rw [add_block]; exact hn153_1) | exact hn153_1) (.slice (some ad153) ((rd_T29 y141 x55_3).f1).length c149_1)).trans hx153_5; (try have hy153_0 := fun (n_ : Nat) => (show ((((w53.drewN n_).setCell ⟨gb150, 0, none⟩ (.int .i64 ((rd_T29 y141 x55_3).f0))).setCell ⟨gb150, 1, none⟩ (.slice (some ad153) ((rd_T29 y141 x55_3).f1).length c149_1))).cell? _ = some _ from hx153_0)); (try have hy153_1 := fun (n_ : Nat) => (show ((((w53.drewN n_).setCell ⟨gb150, 0, none⟩ (.int .i64 ((rd_T29 y141 x55_3).f0))).setCell ⟨gb150, 1, none⟩ (.slice (some ad153) ((rd_T29 y141 x55_3).f1).length c149_1))).cell? _ = some _ from hx153_1)); (try have hy153_2 := fun (n_ : Nat) => (show ((((w53.drewN n_).setCell ⟨gb150, 0, none⟩ (.int .i64 ((rd_T29 y141 x55_3).f0))).setCell ⟨gb150, 1, none⟩ (.slice (some ad153) ((rd_T29 y141 x55_3).f1).length c149_1))).cell? _ = some _ from hx153_2)); (try have hy153_3 := fun (n_ : Nat) => (show ((((w53.drewN n_).setCell ⟨gb150, 0, none⟩ (.int .i64 ((rd_T29 y141 x55_3).f0))).setCell ⟨gb150, 1, none⟩ (.slice (some ad153) ((rd_T29 y141 x55_3).f1).length c149_1))).cell? _ = some _ from hx153_3)); (try have hy153_4 := fun (n_ : Nat) => (show ((((w53.drewN n_).setCell ⟨gb150, 0, none⟩ (.int .i64 ((rd_T29 y141 x55_3).f0))).setCell ⟨gb150, 1, none⟩ (.slice (some ad153) ((rd_T29 y141 x55_3).f1).length c149_1))).cell? _ = some _ from hx153_4)); (try have hy153_5 := fun (n_ : Nat) => (show ((((w53.drewN n_).setCell ⟨gb150, 0, none⟩ (.int .i64 ((rd_T29 y141 x55_3).f0))).setCell ⟨gb150, 1, none⟩ (.slice (some ad153) ((rd_T29 y141 x55_3).f1).length c149_1))).cell? _ = some _ from hx153_5)); clear hn153_0; clear hn153_1; replace p153 := eq_true p153; replace q153 := eq_true q153))
                    repeat (go_quiet (first | ((with_reducible refine gate_dst (N := 15) rfl ?_); refine box_event ?hg (N := 15) ?hd (cs := #[.int .i64 0, .slice none 0 0]) (t := 29) ?hr ?_; (case hd => rfl); (case hg => rfl); (case hr => first | (go_simp; done) | (go_simp; rfl)); intro gb150 hg w53 hbox hb; have BK150 := Aside0.mk (hbox); have GW150 := Aside0.mk ((by rw [hg]; exact (below_size bo) : w.heap.size ≤ gb150)); have GE150 := Aside0.mk ((by rw [hg]; exact (below_size bo) : w.heap.size ≤ gb150)); replace HB := Aside0.mk (below_step bo hb); have NB137_150 := Aside0.mk (nl BK137.out hg); have NB150_137 := Aside0.mk (ng BK137.out hg); replace BK137 := Aside0.mk (bb BK137.out hb); clear hb hbox hg; have hnb54 := NB150_137.out; have hnc54 := NB137_150.out; obtain ⟨hcz55_0, hcz55_1⟩ := cl2 BK150.out; obtain ⟨hfz55_0, hfz55_1⟩ := fz2 BK150.out; obtain ⟨hcz56_0, hcz56_1, hcz56_2, hcz56_3, hcz56_4⟩ := cl5 BK137.out; obtain ⟨hfz56_0, hfz56_1, hfz56_2, hfz56_3, hfz56_4⟩ := fz5 BK137.out; have p153 : 0 ≤ ((ji42) : Int) := od; have q153 : (ji42) < (((rd_T29 y141 x55_3).f1).length : Int) := od; obtain ⟨ad153, e153, hx153_0, hx153_1, hx153_2, hx153_3, hx153_4, hx153_5⟩ := at_T25 HR149_1.out (ji42) p153 q153; cases e153; have hn153_0 : ad153.block ≠ gb150 := Nat.ne_of_lt (Nat.lt_of_lt_of_le (by have := World.block_lt_of_cell? _ _ hx153_0; first | rwa [add_block] at this | exact this) GW150.out); have hn153_1 : ad153.block ≠ gb150 := Nat.ne_of_lt (Nat.lt_of_lt_of_le (by have := World.block_lt_of_cell? _ _ hx153_0; first | rwa [add_block] at this | exact this) GW150.out); replace hx153_0 := cx HB.out hx153_0; replace hx153_1 := cx HB.out hx153_1; replace hx153_2 := cx HB.out hx153_2; replace hx153_3 := cx HB.out hx153_3; replace hx153_4 := cx HB.out hx153_4; replace hx153_5 := cx HB.out hx153_5; replace hx153_0 := (cell_far (p := ⟨gb150, 0, none⟩) (by first | (rw [add_block]; exact hn153_0) | (show (Addr.add _ _).block ≠ _; rw [add_block]; exact hn153_0) | exact hn153_0) (.int .i64 ((rd_T29 y141 x55_3).f0))).trans hx153_0; replace hx153_1 := (cell_far (p := ⟨gb150, 0, none⟩) (by first | (rw [add_block]; exact hn153_0) | (show (Addr.add _ _).block ≠ _; rw [add_block]; exact hn153_0) | exact hn153_0) (.int .i64 ((rd_T29 y141 x55_3).f0))).trans hx153_1; replace hx153_2 := (cell_far (p := ⟨gb150, 0, none⟩) (by first | (rw [add_block]; exact hn153_0) | (show (Addr.add _ _).block ≠ _; rw [add_block]; exact hn153_0) | exact hn153_0) (.int .i64 ((rd_T29 y141 x55_3).f0))).trans hx153_2; replace hx153_3 := (cell_far (p := ⟨gb150, 0, none⟩) (by first | (rw [add_block]; exact hn153_0) | (show (Addr.add _ _).block ≠ _; rw [add_block]; exact hn153_0) | exact hn153_0) (.int .i64 ((rd_T29 y141 x55_3).f0))).trans hx153_3; replace hx153_4 := (cell_far (p := ⟨gb150, 0, none⟩) (by first | (rw [add_block]; exact hn153_0) | (show (Addr.add _ _).block ≠ _; rw [add_block]; exact hn153_0) | exact hn153_0) (.int .i64 ((rd_T29 y141 x55_3).f0))).trans hx153_4; replace hx153_5 := (cell_far (p := ⟨gb150, 0, none⟩) (by first | (rw [add_block]; exact hn153_0) | (show (Addr.add _ _).block ≠ _; rw [add_block]; exact hn153_0) | exact hn153_0) (.int .i64 ((rd_T29 y141 x55_3).f0))).trans hx153_5; replace hx153_0 := (cell_far (p := ⟨gb150, 1, none⟩) (by first | (rw [add_block]; exact hn153_1) | (show (Addr.add _ _).block ≠ _; rw [add_block]; exact hn153_1) | exact hn153_1) (.slice (some ad153) ((rd_T29 y141 x55_3).f1).length c149_1)).trans hx153_0; replace hx153_1 := (cell_far (p := ⟨gb150, 1, none⟩) (by first | (rw [add_block]; exact hn153_1) | (show (Addr.add _ _).block ≠ _; rw [add_block]; exact hn153_1) | exact hn153_1) (.slice (some ad153) ((rd_T29 y141 x55_3).f1).length c149_1)).trans hx153_1; replace hx153_2 := (cell_far (p := ⟨gb150, 1, none⟩) (by first | (rw [add_block]; exact hn153_1) | (show (Addr.add _ _).block ≠ _; rw [add_block]; exact hn153_1) | exact hn153_1) (.slice (some ad153) ((rd_T29 y141 x55_3).f1).length c149_1)).trans hx153_2; replace hx153_3 := (cell_far (p := ⟨gb150, 1, none⟩) (by first | (rw [add_block]; exact hn153_1) | (show (Addr.add _ _).block ≠ _; rw [add_block]; exact hn153_1) | exact hn153_1) (.slice (some ad153) ((rd_T29 y141 x55_3).f1).length c149_1)).trans hx153_3; replace hx153_4 := (cell_far (p := ⟨gb150, 1, none⟩) (by first | (rw [add_block]; exact hn153_1) | (show (Addr.add _ _).block ≠ _; rw [add_block]; exact hn153_1) | exact hn153_1) (.slice (some ad153) ((rd_T29 y141 x55_3).f1).length c149_1)).trans hx153_4; replace hx153_5 := (cell_far (p := ⟨gb150, 1, none⟩) (by first | (rw [add_block]; exact hn153_1) | (show (Addr.add _ _).block ≠ _; rw [add_block]; exact hn153_1) | exact hn153_1) (.slice (some ad153) ((rd_T29 y141 x55_3).f1).length c149_1)).trans hx153_5; (try have hy153_0 := fun (n_ : Nat) => (show ((((w53.drewN n_).setCell ⟨gb150, 0, none⟩ (.int .i64 ((rd_T29 y141 x55_3).f0))).setCell ⟨gb150, 1, none⟩ (.slice (some ad153) ((rd_T29 y141 x55_3).f1).length c149_1))).cell? _ = some _ from hx153_0)); (try have hy153_1 := fun (n_ : Nat) => (show ((((w53.drewN n_).setCell ⟨gb150, 0, none⟩ (.int .i64 ((rd_T29 y141 x55_3).f0))).setCell ⟨gb150, 1, none⟩ (.slice (some ad153) ((rd_T29 y141 x55_3).f1).length c149_1))).cell? _ = some _ from hx153_1)); (try have hy153_2 := fun (n_ : Nat) => (show ((((w53.drewN n_).setCell ⟨gb150, 0, none⟩ (.int .i64 ((rd_T29 y141 x55_3).f0))).setCell ⟨gb150, 1, none⟩ (.slice (some ad153) ((rd_T29 y141 x55_3).f1).length c149_1))).cell? _ = some _ from hx153_2)); (try have hy153_3 := fun (n_ : Nat) => (show ((((w53.drewN n_).setCell ⟨gb150, 0, none⟩ (.int .i64 ((rd_T29 y141 x55_3).f0))).setCell ⟨gb150, 1, none⟩ (.slice (some ad153) ((rd_T29 y141 x55_3).f1).length c149_1))).cell? _ = some _ from hx153_3)); (try have hy153_4 := fun (n_ : Nat) => (show ((((w53.drewN n_).setCell ⟨gb150, 0, none⟩ (.int .i64 ((rd_T29 y141 x55_3).f0))).setCell ⟨gb150, 1, none⟩ (.slice (some ad153) ((rd_T29 y141 x55_3).f1).length c149_1))).cell? _ = some _ from hx153_4)); (try have hy153_5 := fun (n_ : Nat) => (show ((((w53.drewN n_).setCell ⟨gb150, 0, none⟩ (.int .i64 ((rd_T29 y141 x55_3).f0))).setCell ⟨gb150, 1, none⟩ (.slice (some ad153) ((rd_T29 y141 x55_3).f1).length c149_1))).cell? _ = some _ from hx153_5)); clear hn153_0; clear hn153_1; replace p153 := eq_true p153; replace q153 := eq_true q153)); try go_wp2_with (first | ((with_reducible refine gate_dst (N := 15) rfl ?_); refine box_event ?hg (N := 15) ?hd (cs := #[.int .i64 0, .slice none 0 0]) (t := 29) ?hr ?_; (case hd => rfl); (case hg => rfl); (case hr => first | (go_simp; done) | (go_simp; rfl)); intro gb150 hg w53 hbox hb; have BK150 := Aside0.mk (hbox); have GW150 := Aside0.mk ((by rw [hg]; exact (below_size bo) : w.heap.size ≤ gb150)); have GE150 := Aside0.mk ((by rw [hg]; exact (below_size bo) : w.heap.size ≤ gb150)); replace HB := Aside0.mk (below_step bo hb); have NB137_150 := Aside0.mk (nl BK137.out hg); have NB150_137 := Aside0.mk (ng BK137.out hg); replace BK137 := Aside0.mk (bb BK137.out hb); clear hb hbox hg; have hnb54 := NB150_137.out; have hnc54 := NB137_150.out; obtain ⟨hcz55_0, hcz55_1⟩ := cl2 BK150.out; obtain ⟨hfz55_0, hfz55_1⟩ := fz2 BK150.out; obtain ⟨hcz56_0, hcz56_1, hcz56_2, hcz56_3, hcz56_4⟩ := cl5 BK137.out; obtain ⟨hfz56_0, hfz56_1, hfz56_2, hfz56_3, hfz56_4⟩ := fz5 BK137.out; have p153 : 0 ≤ ((ji42) : Int) := od; have q153 : (ji42) < (((rd_T29 y141 x55_3).f1).length : Int) := od; obtain ⟨ad153, e153, hx153_0, hx153_1, hx153_2, hx153_3, hx153_4, hx153_5⟩ := at_T25 HR149_1.out (ji42) p153 q153; cases e153; have hn153_0 : ad153.block ≠ gb150 := Nat.ne_of_lt (Nat.lt_of_lt_of_le (by have := World.block_lt_of_cell? _ _ hx153_0; first | rwa [add_block] at this | exact this) GW150.out); have hn153_1 : ad153.block ≠ gb150 := Nat.ne_of_lt (Nat.lt_of_lt_of_le (by have := World.block_lt_of_cell? _ _ hx153_0; first | rwa [add_block] at this | exact this) GW150.out); replace hx153_0 := cx HB.out hx153_0; replace hx153_1 := cx HB.out hx153_1; replace hx153_2 := cx HB.out hx153_2; replace hx153_3 := cx HB.out hx153_3; replace hx153_4 := cx HB.out hx153_4; replace hx153_5 := cx HB.out hx153_5; replace hx153_0 := (cell_far (p := ⟨gb150, 0, none⟩) (by first | (rw [add_block]; exact hn153_0) | (show (Addr.add _ _).block ≠ _; rw [add_block]; exact hn153_0) | exact hn153_0) (.int .i64 ((rd_T29 y141 x55_3).f0))).trans hx153_0; replace hx153_1 := (cell_far (p := ⟨gb150, 0, none⟩) (by first | (rw [add_block]; exact hn153_0) | (show (Addr.add _ _).block ≠ _; rw [add_block]; exact hn153_0) | exact hn153_0) (.int .i64 ((rd_T29 y141 x55_3).f0))).trans hx153_1; replace hx153_2 := (cell_far (p := ⟨gb150, 0, none⟩) (by first | (rw [add_block]; exact hn153_0) | (show (Addr.add _ _).block ≠ _; rw [add_block]; exact hn153_0) | exact hn153_0) (.int .i64 ((rd_T29 y141 x55_3).f0))).trans hx153_2; replace hx153_3 := (cell_far (p := ⟨gb150, 0, none⟩) (by first | (rw [add_block]; exact hn153_0) | (show (Addr.add _ _).block ≠ _; rw [add_block]; exact hn153_0) | exact hn153_0) (.int .i64 ((rd_T29 y141 x55_3).f0))).trans hx153_3; replace hx153_4 := (cell_far (p := ⟨gb150, 0, none⟩) (by first | (rw [add_block]; exact hn153_0) | (show (Addr.add _ _).block ≠ _; rw [add_block]; exact hn153_0) | exact hn153_0) (.int .i64 ((rd_T29 y141 x55_3).f0))).trans hx153_4; replace hx153_5 := (cell_far (p := ⟨gb150, 0, none⟩) (by first | (rw [add_block]; exact hn153_0) | (show (Addr.add _ _).block ≠ _; rw [add_block]; exact hn153_0) | exact hn153_0) (.int .i64 ((rd_T29 y141 x55_3).f0))).trans hx153_5; replace hx153_0 := (cell_far (p := ⟨gb150, 1, none⟩) (by first | (rw [add_block]; exact hn153_1) | (show (Addr.add _ _).block ≠ _; rw [add_block]; exact hn153_1) | exact hn153_1) (.slice (some ad153) ((rd_T29 y141 x55_3).f1).length c149_1)).trans hx153_0; replace hx153_1 := (cell_far (p := ⟨gb150, 1, none⟩) (by first | (rw [add_block]; exact hn153_1) | (show (Addr.add _ _).block ≠ _; rw [add_block]; exact hn153_1) | exact hn153_1) (.slice (some ad153) ((rd_T29 y141 x55_3).f1).length c149_1)).trans hx153_1; replace hx153_2 := (cell_far (p := ⟨gb150, 1, none⟩) (by first | (rw [add_block]; exact hn153_1) | (show (Addr.add _ _).block ≠ _; rw [add_block]; exact hn153_1) | exact hn153_1) (.slice (some ad153) ((rd_T29 y141 x55_3).f1).length c149_1)).trans hx153_2; replace hx153_3 := (cell_far (p := ⟨gb150, 1, none⟩) (by first | (rw [add_block]; exact hn153_1) | (show (Addr.add _ _).block ≠ _; rw [add_block]; exact hn153_1) | exact hn153_1) (.slice (some ad153) ((rd_T29 y141 x55_3).f1).length c149_1)).trans hx153_3; replace hx153_4 := (cell_far (p := ⟨gb150, 1, none⟩) (by first | (rw [add_block]; exact hn153_1) | (show (Addr.add _ _).block ≠ _; rw [add_block]; exact hn153_1) | exact hn153_1) (.slice (some ad153) ((rd_T29 y141 x55_3).f1).length c149_1)).trans hx153_4; replace hx153_5 := (cell_far (p := ⟨gb150, 1, none⟩) (by first | (rw [add_block]; exact hn153_1) | (show (Addr.add _ _).block ≠ _; rw [add_block]; exact hn153_1) | exact hn153_1) (.slice (some ad153) ((rd_T29 y141 x55_3).f1).length c149_1)).trans hx153_5; (try have hy153_0 := fun (n_ : Nat) => (show ((((w53.drewN n_).setCell ⟨gb150, 0, none⟩ (.int .i64 ((rd_T29 y141 x55_3).f0))).setCell ⟨gb150, 1, none⟩ (.slice (some ad153) ((rd_T29 y141 x55_3).f1).length c149_1))).cell? _ = some _ from hx153_0)); (try have hy153_1 := fun (n_ : Nat) => (show ((((w53.drewN n_).setCell ⟨gb150, 0, none⟩ (.int .i64 ((rd_T29 y141 x55_3).f0))).setCell ⟨gb150, 1, none⟩ (.slice (some ad153) ((rd_T29 y141 x55_3).f1).length c149_1))).cell? _ = some _ from hx153_1)); (try have hy153_2 := fun (n_ : Nat) => (show ((((w53.drewN n_).setCell ⟨gb150, 0, none⟩ (.int .i64 ((rd_T29 y141 x55_3).f0))).setCell ⟨gb150, 1, none⟩ (.slice (some ad153) ((rd_T29 y141 x55_3).f1).length c149_1))).cell? _ = some _ from hx153_2)); (try have hy153_3 := fun (n_ : Nat) => (show ((((w53.drewN n_).setCell ⟨gb150, 0, none⟩ (.int .i64 ((rd_T29 y141 x55_3).f0))).setCell ⟨gb150, 1, none⟩ (.slice (some ad153) ((rd_T29 y141 x55_3).f1).length c149_1))).cell? _ = some _ from hx153_3)); (try have hy153_4 := fun (n_ : Nat) => (show ((((w53.drewN n_).setCell ⟨gb150, 0, none⟩ (.int .i64 ((rd_T29 y141 x55_3).f0))).setCell ⟨gb150, 1, none⟩ (.slice (some ad153) ((rd_T29 y141 x55_3).f1).length c149_1))).cell? _ = some _ from hx153_4)); (try have hy153_5 := fun (n_ : Nat) => (show ((((w53.drewN n_).setCell ⟨gb150, 0, none⟩ (.int .i64 ((rd_T29 y141 x55_3).f0))).setCell ⟨gb150, 1, none⟩ (.slice (some ad153) ((rd_T29 y141 x55_3).f1).length c149_1))).cell? _ = some _ from hx153_5)); clear hn153_0; clear hn153_1; replace p153 := eq_true p153; replace q153 := eq_true q153)))
                    go_ret2
                    exact ⟨by first | rfl | (simp [errW_none, errW_some] <;> rfl) | (simp only [← hji19, ← hji42]; first | rfl | (simp [errW_none, errW_some] <;> rfl)) | (simp [*, errW_none, errW_some] <;> rfl), bo⟩
                   ·rw [if_neg c52] at H
                    have c52b0 : decide (a1_1 < 0) = false := decide_eq_false c52
                    clear c52
                    by_cases c57 : x9_3 ≤ a1_1
                    ·rw [if_pos c57] at H
                     have c57b0 : decide (x9_3 ≤ a1_1) = true := decide_eq_true c57
                     clear c57
                     simp only [Option.some.injEq, Prod.mk.injEq] at H
                     obtain ⟨rfl, rfl⟩ := H
                     have p149 : 0 ≤ (x55_3 : Int) := od
                     have q149 : x55_3 < (y141.length : Int) := od
                     obtain ⟨ad149, A149_1, c149_1, e149, hx149_0, hx149_1, hl149_1, hi149_1⟩ := at_T29 HR144.out x55_3 p149 q149
                     cases e149
                     replace hx149_0 := cx HB.out hx149_0
                     replace hx149_1 := cx HB.out hx149_1
                     have HR149_1 := Aside0.mk hi149_1
                     have HC149_1 := Aside0.mk hl149_1
                     clear hi149_1 hl149_1
                     replace p149 := eq_true p149
                     replace q149 := eq_true q149
                     go_wp2_with (first | ((with_reducible refine gate_dst (N := 15) rfl ?_); refine box_event ?hg (N := 15) ?hd (cs := #[.int .i64 0, .slice none 0 0]) (t := 29) ?hr ?_; (case hd => rfl); (case hg => rfl); (case hr => first | (go_simp; done) | (go_simp; rfl)); intro gb150 hg w58 hbox hb; have BK150 := Aside0.mk (hbox); have GW150 := Aside0.mk ((by rw [hg]; exact (below_size bo) : w.heap.size ≤ gb150)); have GE150 := Aside0.mk ((by rw [hg]; exact (below_size bo) : w.heap.size ≤ gb150)); replace HB := Aside0.mk (below_step bo hb); have NB137_150 := Aside0.mk (nl BK137.out hg); have NB150_137 := Aside0.mk (ng BK137.out hg); replace BK137 := Aside0.mk (bb BK137.out hb); clear hb hbox hg; have hnb59 := NB150_137.out; have hnc59 := NB137_150.out; obtain ⟨hcz60_0, hcz60_1⟩ := cl2 BK150.out; obtain ⟨hfz60_0, hfz60_1⟩ := fz2 BK150.out; obtain ⟨hcz61_0, hcz61_1, hcz61_2, hcz61_3, hcz61_4⟩ := cl5 BK137.out; obtain ⟨hfz61_0, hfz61_1, hfz61_2, hfz61_3, hfz61_4⟩ := fz5 BK137.out; have p153 : 0 ≤ ((ji42) : Int) := od; have q153 : (ji42) < (((rd_T29 y141 x55_3).f1).length : Int) := od; obtain ⟨ad153, e153, hx153_0, hx153_1, hx153_2, hx153_3, hx153_4, hx153_5⟩ := at_T25 HR149_1.out (ji42) p153 q153; cases e153; have hn153_0 : ad153.block ≠ gb150 := Nat.ne_of_lt (Nat.lt_of_lt_of_le (by have := World.block_lt_of_cell? _ _ hx153_0; first | rwa [add_block] at this | exact this) GW150.out); have hn153_1 : ad153.block ≠ gb150 := Nat.ne_of_lt (Nat.lt_of_lt_of_le (by have := World.block_lt_of_cell? _ _ hx153_0; first | rwa [add_block] at this | exact this) GW150.out); replace hx153_0 := cx HB.out hx153_0; replace hx153_1 := cx HB.out hx153_1; replace hx153_2 := cx HB.out hx153_2; replace hx153_3 := cx HB.out hx153_3; replace hx153_4 := cx HB.out hx153_4; replace hx153_5 := cx HB.out hx153_5; replace hx153_0 := (cell_far (p := ⟨gb150, 0, none⟩) (by first | (rw [add_block]; exact hn153_0) | (show (Addr.add _ _).block ≠ _; rw [add_block]; exact hn153_0) | exact hn153_0) (.int .i64 ((rd_T29 y141 x55_3).f0))).trans hx153_0; replace hx153_1 := (cell_far (p := ⟨gb150, 0, none⟩) (by first | (rw [add_block]; exact hn153_0) | (show (Addr.add _ _).block ≠ _; rw [add_block]; exact hn153_0) | exact hn153_0) (.int .i64 ((rd_T29 y141 x55_3).f0))).trans hx153_1; replace hx153_2 := (cell_far (p := ⟨gb150, 0, none⟩) (by first | (rw [add_block]; exact hn153_0) | (show (Addr.add _ _).block ≠ _; rw [add_block]; exact hn153_0) | exact hn153_0) (.int .i64 ((rd_T29 y141 x55_3).f0))).trans hx153_2; replace hx153_3 := (cell_far (p := ⟨gb150, 0, none⟩) (by first | (rw [add_block]; exact hn153_0) | (show (Addr.add _ _).block ≠ _; rw [add_block]; exact hn153_0) | exact hn153_0) (.int .i64 ((rd_T29 y141 x55_3).f0))).trans hx153_3; replace hx153_4 := (cell_far (p := ⟨gb150, 0, none⟩) (by first | (rw [add_block]; exact hn153_0) | (show (Addr.add _ _).block ≠ _; rw [add_block]; exact hn153_0) | exact hn153_0) (.int .i64 ((rd_T29 y141 x55_3).f0))).trans hx153_4; replace hx153_5 := (cell_far (p := ⟨gb150, 0, none⟩) (by first | (rw [add_block]; exact hn153_0) | (show (Addr.add _ _).block ≠ _; rw [add_block]; exact hn153_0) | exact hn153_0) (.int .i64 ((rd_T29 y141 x55_3).f0))).trans hx153_5; replace hx153_0 := (cell_far (p := ⟨gb150, 1, none⟩) (by first | (rw [add_block]; exact hn153_1) | (show (Addr.add _ _).block ≠ _; rw [add_block]; exact hn153_1) | exact hn153_1) (.slice (some ad153) ((rd_T29 y141 x55_3).f1).length c149_1)).trans hx153_0; replace hx153_1 := (cell_far (p := ⟨gb150, 1, none⟩) (by first | (rw [add_block]; exact hn153_1) | (show (Addr.add _ _).block ≠ _; rw [add_block]; exact hn153_1) | exact hn153_1) (.slice (some ad153) ((rd_T29 y141 x55_3).f1).length c149_1)).trans hx153_1; replace hx153_2 := (cell_far (p := ⟨gb150, 1, none⟩) (by first | (rw [add_block]; exact hn153_1) | (show (Addr.add _ _).block ≠ _; rw [add_block]; exact hn153_1) | exact hn153_1) (.slice (some ad153) ((rd_T29 y141 x55_3).f1).length c149_1)).trans hx153_2; replace hx153_3 := (cell_far (p := ⟨gb150, 1, none⟩) (by first | (rw [add_block]; exact hn153_1) | (show (Addr.add _ _).block ≠ _; rw [add_block]; exact hn153_1) | exact hn153_1) (.slice (some ad153) ((rd_T29 y141 x55_3).f1).length c149_1)).trans hx153_3; replace hx153_4 := (cell_far (p := ⟨gb150, 1, none⟩) (by first | (rw [add_block]; exact hn153_1) | (show (Addr.add _ _).block ≠ _; rw [add_block]; exact hn153_1) | exact hn153_1) (.slice (some ad153) ((rd_T29 y141 x55_3).f1).length c149_1)).trans hx153_4; replace hx153_5 := (cell_far (p := ⟨gb150, 1, none⟩) (by first | (rw [add_block]; exact hn153_1) | (show (Addr.add _ _).block ≠ _; rw [add_block]; exact hn153_1) | exact hn153_1) (.slice (some ad153) ((rd_T29 y141 x55_3).f1).length c149_1)).trans hx153_5; (try have hy153_0 := fun (n_ : Nat) => (show ((((w58.drewN n_).setCell ⟨gb150, 0, none⟩ (.int .i64 ((rd_T29 y141 x55_3).f0))).setCell ⟨gb150, 1, none⟩ (.slice (some ad153) ((rd_T29 y141 x55_3).f1).length c149_1))).cell? _ = some _ from hx153_0)); (try have hy153_1 := fun (n_ : Nat) => (show ((((w58.drewN n_).setCell ⟨gb150, 0, none⟩ (.int .i64 ((rd_T29 y141 x55_3).f0))).setCell ⟨gb150, 1, none⟩ (.slice (some ad153) ((rd_T29 y141 x55_3).f1).length c149_1))).cell? _ = some _ from hx153_1)); (try have hy153_2 := fun (n_ : Nat) => (show ((((w58.drewN n_).setCell ⟨gb150, 0, none⟩ (.int .i64 ((rd_T29 y141 x55_3).f0))).setCell ⟨gb150, 1, none⟩ (.slice (some ad153) ((rd_T29 y141 x55_3).f1).length c149_1))).cell? _ = some _ from hx153_2)); (try have hy153_3 := fun (n_ : Nat) => (show ((((w58.drewN n_).setCell ⟨gb150, 0, none⟩ (.int .i64 ((rd_T29 y141 x55_3).f0))).setCell ⟨gb150, 1, none⟩ (.slice (some ad153) ((rd_T29 y141 x55_3).f1).length c149_1))).cell? _ = some _ from hx153_3)); (try have hy153_4 := fun (n_ : Nat) => (show ((((w58.drewN n_).setCell ⟨gb150, 0, none⟩ (.int .i64 ((rd_T29 y141 x55_3).f0))).setCell ⟨gb150, 1, none⟩ (.slice (some ad153) ((rd_T29 y141 x55_3).f1).length c149_1))).cell? _ = some _ from hx153_4)); (try have hy153_5 := fun (n_ : Nat) => (show ((((w58.drewN n_).setCell ⟨gb150, 0, none⟩ (.int .i64 ((rd_T29 y141 x55_3).f0))).setCell ⟨gb150, 1, none⟩ (.slice (some ad153) ((rd_T29 y141 x55_3).f1).length c149_1))).cell? _ = some _ from hx153_5)); clear hn153_0; clear hn153_1; replace p153 := eq_true p153; replace q153 := eq_true q153))
                     repeat (go_quiet (first | ((with_reducible refine gate_dst (N := 15) rfl ?_); refine box_event ?hg (N := 15) ?hd (cs := #[.int .i64 0, .slice none 0 0]) (t := 29) ?hr ?_; (case hd => rfl); (case hg => rfl); (case hr => first | (go_simp; done) | (go_simp; rfl)); intro gb150 hg w58 hbox hb; have BK150 := Aside0.mk (hbox); have GW150 := Aside0.mk ((by rw [hg]; exact (below_size bo) : w.heap.size ≤ gb150)); have GE150 := Aside0.mk ((by rw [hg]; exact (below_size bo) : w.heap.size ≤ gb150)); replace HB := Aside0.mk (below_step bo hb); have NB137_150 := Aside0.mk (nl BK137.out hg); have NB150_137 := Aside0.mk (ng BK137.out hg); replace BK137 := Aside0.mk (bb BK137.out hb); clear hb hbox hg; have hnb59 := NB150_137.out; have hnc59 := NB137_150.out; obtain ⟨hcz60_0, hcz60_1⟩ := cl2 BK150.out; obtain ⟨hfz60_0, hfz60_1⟩ := fz2 BK150.out; obtain ⟨hcz61_0, hcz61_1, hcz61_2, hcz61_3, hcz61_4⟩ := cl5 BK137.out; obtain ⟨hfz61_0, hfz61_1, hfz61_2, hfz61_3, hfz61_4⟩ := fz5 BK137.out; have p153 : 0 ≤ ((ji42) : Int) := od; have q153 : (ji42) < (((rd_T29 y141 x55_3).f1).length : Int) := od; obtain ⟨ad153, e153, hx153_0, hx153_1, hx153_2, hx153_3, hx153_4, hx153_5⟩ := at_T25 HR149_1.out (ji42) p153 q153; cases e153; have hn153_0 : ad153.block ≠ gb150 := Nat.ne_of_lt (Nat.lt_of_lt_of_le (by have := World.block_lt_of_cell? _ _ hx153_0; first | rwa [add_block] at this | exact this) GW150.out); have hn153_1 : ad153.block ≠ gb150 := Nat.ne_of_lt (Nat.lt_of_lt_of_le (by have := World.block_lt_of_cell? _ _ hx153_0; first | rwa [add_block] at this | exact this) GW150.out); replace hx153_0 := cx HB.out hx153_0; replace hx153_1 := cx HB.out hx153_1; replace hx153_2 := cx HB.out hx153_2; replace hx153_3 := cx HB.out hx153_3; replace hx153_4 := cx HB.out hx153_4; replace hx153_5 := cx HB.out hx153_5; replace hx153_0 := (cell_far (p := ⟨gb150, 0, none⟩) (by first | (rw [add_block]; exact hn153_0) | (show (Addr.add _ _).block ≠ _; rw [add_block]; exact hn153_0) | exact hn153_0) (.int .i64 ((rd_T29 y141 x55_3).f0))).trans hx153_0; replace hx153_1 := (cell_far (p := ⟨gb150, 0, none⟩) (by first | (rw [add_block]; exact hn153_0) | (show (Addr.add _ _).block ≠ _; rw [add_block]; exact hn153_0) | exact hn153_0) (.int .i64 ((rd_T29 y141 x55_3).f0))).trans hx153_1; replace hx153_2 := (cell_far (p := ⟨gb150, 0, none⟩) (by first | (rw [add_block]; exact hn153_0) | (show (Addr.add _ _).block ≠ _; rw [add_block]; exact hn153_0) | exact hn153_0) (.int .i64 ((rd_T29 y141 x55_3).f0))).trans hx153_2; replace hx153_3 := (cell_far (p := ⟨gb150, 0, none⟩) (by first | (rw [add_block]; exact hn153_0) | (show (Addr.add _ _).block ≠ _; rw [add_block]; exact hn153_0) | exact hn153_0) (.int .i64 ((rd_T29 y141 x55_3).f0))).trans hx153_3; replace hx153_4 := (cell_far (p := ⟨gb150, 0, none⟩) (by first | (rw [add_block]; exact hn153_0) | (show (Addr.add _ _).block ≠ _; rw [add_block]; exact hn153_0) | exact hn153_0) (.int .i64 ((rd_T29 y141 x55_3).f0))).trans hx153_4; replace hx153_5 := (cell_far (p := ⟨gb150, 0, none⟩) (by first | (rw [add_block]; exact hn153_0) | (show (Addr.add _ _).block ≠ _; rw [add_block]; exact hn153_0) | exact hn153_0) (.int .i64 ((rd_T29 y141 x55_3).f0))).trans hx153_5; replace hx153_0 := (cell_far (p := ⟨gb150, 1, none⟩) (by first | (rw [add_block]; exact hn153_1) | (show (Addr.add _ _).block ≠ _; rw [add_block]; exact hn153_1) | exact hn153_1) (.slice (some ad153) ((rd_T29 y141 x55_3).f1).length c149_1)).trans hx153_0; replace hx153_1 := (cell_far (p := ⟨gb150, 1, none⟩) (by first | (rw [add_block]; exact hn153_1) | (show (Addr.add _ _).block ≠ _; rw [add_block]; exact hn153_1) | exact hn153_1) (.slice (some ad153) ((rd_T29 y141 x55_3).f1).length c149_1)).trans hx153_1; replace hx153_2 := (cell_far (p := ⟨gb150, 1, none⟩) (by first | (rw [add_block]; exact hn153_1) | (show (Addr.add _ _).block ≠ _; rw [add_block]; exact hn153_1) | exact hn153_1) (.slice (some ad153) ((rd_T29 y141 x55_3).f1).length c149_1)).trans hx153_2; replace hx153_3 := (cell_far (p := ⟨gb150, 1, none⟩) (by first | (rw [add_block]; exact hn153_1) | (show (Addr.add _ _).block ≠ _; rw [add_block]; exact hn153_1) | exact hn153_1) (.slice (some ad153) ((rd_T29 y141 x55_3).f1).length c149_1)).trans hx153_3; replace hx153_4 := (cell_far (p := ⟨gb150, 1, none⟩) (by first | (rw [add_block]; exact hn153_1) | (show (Addr.add _ _).block ≠ _; rw [add_block]; exact hn153_1) | exact hn153_1) (.slice (some ad153) ((rd_T29 y141 x55_3).f1).length c149_1)).trans hx153_4; replace hx153_5 := (cell_far (p := ⟨gb150, 1, none⟩) (by first | (rw [add_block]; exact hn153_1) | (show (Addr.add _ _).block ≠ _; rw [add_block]; exact hn153_1) | exact hn153_1) (.slice (some ad153) ((rd_T29 y141 x55_3).f1).length c149_1)).trans hx153_5; (try have hy153_0 := fun (n_ : Nat) => (show ((((w58.drewN n_).setCell ⟨gb150, 0, none⟩ (.int .i64 ((rd_T29 y141 x55_3).f0))).setCell ⟨gb150, 1, none⟩ (.slice (some ad153) ((rd_T29 y141 x55_3).f1).length c149_1))).cell? _ = some _ from hx153_0)); (try have hy153_1 := fun (n_ : Nat) => (show ((((w58.drewN n_).setCell ⟨gb150, 0, none⟩ (.int .i64 ((rd_T29 y141 x55_3).f0))).setCell ⟨gb150, 1, none⟩ (.slice (some ad153) ((rd_T29 y141 x55_3).f1).length c149_1))).cell? _ = some _ from hx153_1)); (try have hy153_2 := fun (n_ : Nat) => (show ((((w58.drewN n_).setCell ⟨gb150, 0, none⟩ (.int .i64 ((rd_T29 y141 x55_3).f0))).setCell ⟨gb150, 1, none⟩ (.slice (some ad153) ((rd_T29 y141 x55_3).f1).length c149_1))).cell? _ = some _ from hx153_2)); (try have hy153_3 := fun (n_ : Nat) => (show ((((w58.drewN n_).setCell ⟨gb150, 0, none⟩ (.int .i64 ((rd_T29 y141 x55_3).f0))).setCell ⟨gb150, 1, none⟩ (.slice (some ad153) ((rd_T29 y141 x55_3).f1).length c149_1))).cell? _ = some _ from hx153_3)); (try have hy153_4 := fun (n_ : Nat) => (show ((((w58.drewN n_).setCell ⟨gb150, 0, none⟩ (.int .i64 ((rd_T29 y141 x55_3).f0))).setCell ⟨gb150, 1, none⟩ (.slice (some ad153) ((rd_T29 y141 x55_3).f1).length c149_1))).cell? _ = some _ from hx153_4)); (try have hy153_5 := fun (n_ : Nat) => (show ((((w58.drewN n_).setCell ⟨gb150, 0, none⟩ (.int .i64 ((rd_T29 y141 x55_3).f0))).setCell ⟨gb150, 1, none⟩ (.slice (some ad153) ((rd_T29 y141 x55_3).f1).length c149_1))).cell? _ = some _ from hx153_5)); clear hn153_0; clear hn153_1; replace p153 := eq_true p153; replace q153 := eq_true q153)); try go_wp2_with (first | ((with_reducible refine gate_dst (N := 15) rfl ?_); refine box_event ?hg (N := 15) ?hd (cs := #[.int .i64 0, .slice none 0 0]) (t := 29) ?hr ?_; (case hd => rfl); (case hg => rfl); (case hr => first | (go_simp; done) | (go_simp; rfl)); intro gb150 hg w58 hbox hb; have BK150 := Aside0.mk (hbox); have GW150 := Aside0.mk ((by rw [hg]; exact (below_size bo) : w.heap.size ≤ gb150)); have GE150 := Aside0.mk ((by rw [hg]; exact (below_size bo) : w.heap.size ≤ gb150)); replace HB := Aside0.mk (below_step bo hb); have NB137_150 := Aside0.mk (nl BK137.out hg); have NB150_137 := Aside0.mk (ng BK137.out hg); replace BK137 := Aside0.mk (bb BK137.out hb); clear hb hbox hg; have hnb59 := NB150_137.out; have hnc59 := NB137_150.out; obtain ⟨hcz60_0, hcz60_1⟩ := cl2 BK150.out; obtain ⟨hfz60_0, hfz60_1⟩ := fz2 BK150.out; obtain ⟨hcz61_0, hcz61_1, hcz61_2, hcz61_3, hcz61_4⟩ := cl5 BK137.out; obtain ⟨hfz61_0, hfz61_1, hfz61_2, hfz61_3, hfz61_4⟩ := fz5 BK137.out; have p153 : 0 ≤ ((ji42) : Int) := od; have q153 : (ji42) < (((rd_T29 y141 x55_3).f1).length : Int) := od; obtain ⟨ad153, e153, hx153_0, hx153_1, hx153_2, hx153_3, hx153_4, hx153_5⟩ := at_T25 HR149_1.out (ji42) p153 q153; cases e153; have hn153_0 : ad153.block ≠ gb150 := Nat.ne_of_lt (Nat.lt_of_lt_of_le (by have := World.block_lt_of_cell? _ _ hx153_0; first | rwa [add_block] at this | exact this) GW150.out); have hn153_1 : ad153.block ≠ gb150 := Nat.ne_of_lt (Nat.lt_of_lt_of_le (by have := World.block_lt_of_cell? _ _ hx153_0; first | rwa [add_block] at this | exact this) GW150.out); replace hx153_0 := cx HB.out hx153_0; replace hx153_1 := cx HB.out hx153_1; replace hx153_2 := cx HB.out hx153_2; replace hx153_3 := cx HB.out hx153_3; replace hx153_4 := cx HB.out hx153_4; replace hx153_5 := cx HB.out hx153_5; replace hx153_0 := (cell_far (p := ⟨gb150, 0, none⟩) (by first | (rw [add_block]; exact hn153_0) | (show (Addr.add _ _).block ≠ _; rw [add_block]; exact hn153_0) | exact hn153_0) (.int .i64 ((rd_T29 y141 x55_3).f0))).trans hx153_0; replace hx153_1 := (cell_far (p := ⟨gb150, 0, none⟩) (by first | (rw [add_block]; exact hn153_0) | (show (Addr.add _ _).block ≠ _; rw [add_block]; exact hn153_0) | exact hn153_0) (.int .i64 ((rd_T29 y141 x55_3).f0))).trans hx153_1; replace hx153_2 := (cell_far (p := ⟨gb150, 0, none⟩) (by first | (rw [add_block]; exact hn153_0) | (show (Addr.add _ _).block ≠ _; rw [add_block]; exact hn153_0) | exact hn153_0) (.int .i64 ((rd_T29 y141 x55_3).f0))).trans hx153_2; replace hx153_3 := (cell_far (p := ⟨gb150, 0, none⟩) (by first | (rw [add_block]; exact hn153_0) | (show (Addr.add _ _).block ≠ _; rw [add_block]; exact hn153_0) | exact hn153_0) (.int .i64 ((rd_T29 y141 x55_3).f0))).trans hx153_3; replace hx153_4 := (cell_far (p := ⟨gb150, 0, none⟩) (by first | (rw [add_block]; exact hn153_0) | (show (Addr.add _ _).block ≠ _; rw [add_block]; exact hn153_0) | exact hn153_0) (.int .i64 ((rd_T29 y141 x55_3).f0))).trans hx153_4; replace hx153_5 := (cell_far (p := ⟨gb150, 0, none⟩) (by first | (rw [add_block]; exact hn153_0) | (show (Addr.add _ _).block ≠ _; rw [add_block]; exact hn153_0) | exact hn153_0) (.int .i64 ((rd_T29 y141 x55_3).f0))).trans hx153_5; replace hx153_0 := (cell_far (p := ⟨gb150, 1, none⟩) (by first | (rw [add_block]; exact hn153_1) | (show (Addr.add _ _).block ≠ _; rw [add_block]; exact hn153_1) | exact hn153_1) (.slice (some ad153) ((rd_T29 y141 x55_3).f1).length c149_1)).trans hx153_0; replace hx153_1 := (cell_far (p := ⟨gb150, 1, none⟩) (by first | (rw [add_block]; exact hn153_1) | (show (Addr.add _ _).block ≠ _; rw [add_block]; exact hn153_1) | exact hn153_1) (.slice (some ad153) ((rd_T29 y141 x55_3).f1).length c149_1)).trans hx153_1; replace hx153_2 := (cell_far (p := ⟨gb150, 1, none⟩) (by first | (rw [add_block]; exact hn153_1) | (show (Addr.add _ _).block ≠ _; rw [add_block]; exact hn153_1) | exact hn153_1) (.slice (some ad153) ((rd_T29 y141 x55_3).f1).length c149_1)).trans hx153_2; replace hx153_3 := (cell_far (p := ⟨gb150, 1, none⟩) (by first | (rw [add_block]; exact hn153_1) | (show (Addr.add _ _).block ≠ _; rw [add_block]; exact hn153_1) | exact hn153_1) (.slice (some ad153) ((rd_T29 y141 x55_3).f1).length c149_1)).trans hx153_3; replace hx153_4 := (cell_far (p := ⟨gb150, 1, none⟩) (by first | (rw [add_block]; exact hn153_1) | (show (Addr.add _ _).block ≠ _; rw [add_block]; exact hn153_1) | exact hn153_1) (.slice (some ad153) ((rd_T29 y141 x55_3).f1).length c149_1)).trans hx153_4; replace hx153_5 := (cell_far (p := ⟨gb150, 1, none⟩) (by first | (rw [add_block]; exact hn153_1) | (show (Addr.add _ _).block ≠ _; rw [add_block]; exact hn153_1) | exact hn153_1) (.slice (some ad153) ((rd_T29 y141 x55_3).f1).length c149_1)).trans hx153_5; (try have hy153_0 := fun (n_ : Nat) => (show ((((w58.drewN n_).setCell ⟨gb150, 0, none⟩ (.int .i64 ((rd_T29 y141 x55_3).f0))).setCell ⟨gb150, 1, none⟩ (.slice (some ad153) ((rd_T29 y141 x55_3).f1).length c149_1))).cell? _ = some _ from hx153_0)); (try have hy153_1 := fun (n_ : Nat) => (show ((((w58.drewN n_).setCell ⟨gb150, 0, none⟩ (.int .i64 ((rd_T29 y141 x55_3).f0))).setCell ⟨gb150, 1, none⟩ (.slice (some ad153) ((rd_T29 y141 x55_3).f1).length c149_1))).cell? _ = some _ from hx153_1)); (try have hy153_2 := fun (n_ : Nat) => (show ((((w58.drewN n_).setCell ⟨gb150, 0, none⟩ (.int .i64 ((rd_T29 y141 x55_3).f0))).setCell ⟨gb150, 1, none⟩ (.slice (some ad153) ((rd_T29 y141 x55_3).f1).length c149_1))).cell? _ = some _ from hx153_2)); (try have hy153_3 := fun (n_ : Nat) => (show ((((w58.drewN n_).setCell ⟨gb150, 0, none⟩ (.int .i64 ((rd_T29 y141 x55_3).f0))).setCell ⟨gb150, 1, none⟩ (.slice (some ad153) ((rd_T29 y141 x55_3).f1).length c149_1))).cell? _ = some _ from hx153_3)); (try have hy153_4 := fun (n_ : Nat) => (show ((((w58.drewN n_).setCell ⟨gb150, 0, none⟩ (.int .i64 ((rd_T29 y141 x55_3).f0))).setCell ⟨gb150, 1, none⟩ (.slice (some ad153) ((rd_T29 y141 x55_3).f1).length c149_1))).cell? _ = some _ from hx153_4)); (try have hy153_5 := fun (n_ : Nat) => (show ((((w58.drewN n_).setCell ⟨gb150, 0, none⟩ (.int .i64 ((rd_T29 y141 x55_3).f0))).setCell ⟨gb150, 1, none⟩ (.slice (some ad153) ((rd_T29 y141 x55_3).f1).length c149_1))).cell? _ = some _ from hx153_5)); clear hn153_0; clear hn153_1; replace p153 := eq_true p153; replace q153 := eq_true q153)))
                     go_ret2
                     exact ⟨by first | rfl | (simp [errW_none, errW_some] <;> rfl) | (simp only [← hji19, ← hji42]; first | rfl | (simp [errW_none, errW_some] <;> rfl)) | (simp [*, errW_none, errW_some] <;> rfl), bo⟩
                    ·rw [if_neg c57] at H
                     have c57b0 : decide (x9_3 ≤ a1_1) = false := decide_eq_false c57
                     clear c57
                     replace H := Option.bind_eq_some_iff.mp H
                     obtain ⟨⟨t156, t157⟩, A620, H⟩ := H
                     replace H : (keep_Old.l1 k3 a2 y141 (wrap64 (x9_3 - t156)) y141 (y141.length : Int) (wrap64 (x55_3 + 1)) a1_0 a1_1 a1_2 a1_3 a1_4) = some (r1, r2) := H
                     have A62 := Aside0.mk A620
                     clear A620
                     have H' := Aside0.mk H
                     clear H
                     have p149 : 0 ≤ (x55_3 : Int) := od
                     have q149 : x55_3 < (y141.length : Int) := od
                     obtain ⟨ad149, A149_1, c149_1, e149, hx149_0, hx149_1, hl149_1, hi149_1⟩ := at_T29 HR144.out x55_3 p149 q149
                     cases e149
                     replace hx149_0 := cx HB.out hx149_0
                     replace hx149_1 := cx HB.out hx149_1
                     have HR149_1 := Aside0.mk hi149_1
                     have HC149_1 := Aside0.mk hl149_1
                     clear hi149_1 hl149_1
                     replace p149 := eq_true p149
                     replace q149 := eq_true q149
                     go_wp2_with (first | ((with_reducible refine gate_dst (N := 15) rfl ?_); refine box_event ?hg (N := 15) ?hd (cs := #[.int .i64 0, .slice none 0 0]) (t := 29) ?hr ?_; (case hd => rfl); (case hg => rfl); (case hr => first | (go_simp; done) | (go_simp; rfl)); intro gb150 hg w63 hbox hb; have BK150 := Aside0.mk (hbox); have GW150 := Aside0.mk ((by rw [hg]; exact (below_size bo) : w.heap.size ≤ gb150)); have GE150 := Aside0.mk ((by rw [hg]; exact (below_size bo) : w.heap.size ≤ gb150)); replace HB := Aside0.mk (below_step bo hb); have NB137_150 := Aside0.mk (nl BK137.out hg); have NB150_137 := Aside0.mk (ng BK137.out hg); replace BK137 := Aside0.mk (bb BK137.out hb); clear hb hbox hg; have hnb64 := NB150_137.out; have hnc64 := NB137_150.out; obtain ⟨hcz65_0, hcz65_1⟩ := cl2 BK150.out; obtain ⟨hfz65_0, hfz65_1⟩ := fz2 BK150.out; obtain ⟨hcz66_0, hcz66_1, hcz66_2, hcz66_3, hcz66_4⟩ := cl5 BK137.out; obtain ⟨hfz66_0, hfz66_1, hfz66_2, hfz66_3, hfz66_4⟩ := fz5 BK137.out; have p153 : 0 ≤ ((ji42) : Int) := od; have q153 : (ji42) < (((rd_T29 y141 x55_3).f1).length : Int) := od; obtain ⟨ad153, e153, hx153_0, hx153_1, hx153_2, hx153_3, hx153_4, hx153_5⟩ := at_T25 HR149_1.out (ji42) p153 q153; cases e153; have hn153_0 : ad153.block ≠ gb150 := Nat.ne_of_lt (Nat.lt_of_lt_of_le (by have := World.block_lt_of_cell? _ _ hx153_0; first | rwa [add_block] at this | exact this) GW150.out); have hn153_1 : ad153.block ≠ gb150 := Nat.ne_of_lt (Nat.lt_of_lt_of_le (by have := World.block_lt_of_cell? _ _ hx153_0; first | rwa [add_block] at this | exact this) GW150.out); replace hx153_0 := cx HB.out hx153_0; replace hx153_1 := cx HB.out hx153_1; replace hx153_2 := cx HB.out hx153_2; replace hx153_3 := cx HB.out hx153_3; replace hx153_4 := cx HB.out hx153_4; replace hx153_5 := cx HB.out hx153_5; replace hx153_0 := (cell_far (p := ⟨gb150, 0, none⟩) (by first | (rw [add_block]; exact hn153_0) | (show (Addr.add _ _).block ≠ _; rw [add_block]; exact hn153_0) | exact hn153_0) (.int .i64 ((rd_T29 y141 x55_3).f0))).trans hx153_0; replace hx153_1 := (cell_far (p := ⟨gb150, 0, none⟩) (by first | (rw [add_block]; exact hn153_0) | (show (Addr.add _ _).block ≠ _; rw [add_block]; exact hn153_0) | exact hn153_0) (.int .i64 ((rd_T29 y141 x55_3).f0))).trans hx153_1; replace hx153_2 := (cell_far (p := ⟨gb150, 0, none⟩) (by first | (rw [add_block]; exact hn153_0) | (show (Addr.add _ _).block ≠ _; rw [add_block]; exact hn153_0) | exact hn153_0) (.int .i64 ((rd_T29 y141 x55_3).f0))).trans hx153_2; replace hx153_3 := (cell_far (p := ⟨gb150, 0, none⟩) (by first | (rw [add_block]; exact hn153_0) | (show (Addr.add _ _).block ≠ _; rw [add_block]; exact hn153_0) | exact hn153_0) (.int .i64 ((rd_T29 y141 x55_3).f0))).trans hx153_3; replace hx153_4 := (cell_far (p := ⟨gb150, 0, none⟩) (by first | (rw [add_block]; exact hn153_0) | (show (Addr.add _ _).block ≠ _; rw [add_block]; exact hn153_0) | exact hn153_0) (.int .i64 ((rd_T29 y141 x55_3).f0))).trans hx153_4; replace hx153_5 := (cell_far (p := ⟨gb150, 0, none⟩) (by first | (rw [add_block]; exact hn153_0) | (show (Addr.add _ _).block ≠ _; rw [add_block]; exact hn153_0) | exact hn153_0) (.int .i64 ((rd_T29 y141 x55_3).f0))).trans hx153_5; replace hx153_0 := (cell_far (p := ⟨gb150, 1, none⟩) (by first | (rw [add_block]; exact hn153_1) | (show (Addr.add _ _).block ≠ _; rw [add_block]; exact hn153_1) | exact hn153_1) (.slice (some ad153) ((rd_T29 y141 x55_3).f1).length c149_1)).trans hx153_0; replace hx153_1 := (cell_far (p := ⟨gb150, 1, none⟩) (by first | (rw [add_block]; exact hn153_1) | (show (Addr.add _ _).block ≠ _; rw [add_block]; exact hn153_1) | exact hn153_1) (.slice (some ad153) ((rd_T29 y141 x55_3).f1).length c149_1)).trans hx153_1; replace hx153_2 := (cell_far (p := ⟨gb150, 1, none⟩) (by first | (rw [add_block]; exact hn153_1) | (show (Addr.add _ _).block ≠ _; rw [add_block]; exact hn153_1) | exact hn153_1) (.slice (some ad153) ((rd_T29 y141 x55_3).f1).length c149_1)).trans hx153_2; replace hx153_3 := (cell_far (p := ⟨gb150, 1, none⟩) (by first | (rw [add_block]; exact hn153_1) | (show (Addr.add _ _).block ≠ _; rw [add_block]; exact hn153_1) | exact hn153_1) (.slice (some ad153) ((rd_T29 y141 x55_3).f1).length c149_1)).trans hx153_3; replace hx153_4 := (cell_far (p := ⟨gb150, 1, none⟩) (by first | (rw [add_block]; exact hn153_1) | (show (Addr.add _ _).block ≠ _; rw [add_block]; exact hn153_1) | exact hn153_1) (.slice (some ad153) ((rd_T29 y141 x55_3).f1).length c149_1)).trans hx153_4; replace hx153_5 := (cell_far (p := ⟨gb150, 1, none⟩) (by first | (rw [add_block]; exact hn153_1) | (show (Addr.add _ _).block ≠ _; rw [add_block]; exact hn153_1) | exact hn153_1) (.slice (some ad153) ((rd_T29 y141 x55_3).f1).length c149_1)).trans hx153_5; (try have hy153_0 := fun (n_ : Nat) => (show ((((w63.drewN n_).setCell ⟨gb150, 0, none⟩ (.int .i64 ((rd_T29 y141 x55_3).f0))).setCell ⟨gb150, 1, none⟩ (.slice (some ad153) ((rd_T29 y141 x55_3).f1).length c149_1))).cell? _ = some _ from hx153_0)); (try have hy153_1 := fun (n_ : Nat) => (show ((((w63.drewN n_).setCell ⟨gb150, 0, none⟩ (.int .i64 ((rd_T29 y141 x55_3).f0))).setCell ⟨gb150, 1, none⟩ (.slice (some ad153) ((rd_T29 y141 x55_3).f1).length c149_1))).cell? _ = some _ from hx153_1)); (try have hy153_2 := fun (n_ : Nat) => (show ((((w63.drewN n_).setCell ⟨gb150, 0, none⟩ (.int .i64 ((rd_T29 y141 x55_3).f0))).setCell ⟨gb150, 1, none⟩ (.slice (some ad153) ((rd_T29 y141 x55_3).f1).length c149_1))).cell? _ = some _ from hx153_2)); (try have hy153_3 := fun (n_ : Nat) => (show ((((w63.drewN n_).setCell ⟨gb150, 0, none⟩ (.int .i64 ((rd_T29 y141 x55_3).f0))).setCell ⟨gb150, 1, none⟩ (.slice (some ad153) ((rd_T29 y141 x55_3).f1).length c149_1))).cell? _ = some _ from hx153_3)); (try have hy153_4 := fun (n_ : Nat) => (show ((((w63.drewN n_).setCell ⟨gb150, 0, none⟩ (.int .i64 ((rd_T29 y141 x55_3).f0))).setCell ⟨gb150, 1, none⟩ (.slice (some ad153) ((rd_T29 y141 x55_3).f1).length c149_1))).cell? _ = some _ from hx153_4)); (try have hy153_5 := fun (n_ : Nat) => (show ((((w63.drewN n_).setCell ⟨gb150, 0, none⟩ (.int .i64 ((rd_T29 y141 x55_3).f0))).setCell ⟨gb150, 1, none⟩ (.slice (some ad153) ((rd_T29 y141 x55_3).f1).length c149_1))).cell? _ = some _ from hx153_5)); clear hn153_0; clear hn153_1; replace p153 := eq_true p153; replace q153 := eq_true q153) | (go_at_call 43; (with_reducible refine (seg_Size.calls k3 ((rd_T29 y141 x55_3).f0) _ _ ((rd_T29 y141 x55_3).f1) t156 t157 _ ?side1 ?side2 A62.out).mono ?_); (case side1 => exact Kd.C_below HR149_1.out bo); (case side2 => exact HC149_1.out); rintro e w67 ⟨rfl, hb⟩; replace BK137 := Aside0.mk (bB BK137.out hb); replace BK150 := Aside0.mk (blk_below (g := gb150) (o := .cells #[.int .i64 ((rd_T29 y141 x55_3).f0), .slice (some ad153) ((rd_T29 y141 x55_3).f1).length c149_1] 29 (0, 0)) (by (with_reducible repeat (first | refine blk_drewN ?_ _ | refine blk_drew ?_ | refine blk_alloc ?_ _)); refine blk_put (cs := #[.int .i64 ((rd_T29 y141 x55_3).f0), .slice none 0 0]) ?_ 1 _ rfl; (with_reducible repeat (first | refine blk_drewN ?_ _ | refine blk_drew ?_ | refine blk_alloc ?_ _)); refine blk_put (cs := #[.int .i64 0, .slice none 0 0]) ?_ 0 _ rfl; (with_reducible repeat (first | refine blk_drewN ?_ _ | refine blk_drew ?_ | refine blk_alloc ?_ _)); exact BK150.out) hb); replace HB := Aside0.mk (below_step bo hb); (try clear hb); (try clear hb2); (try clear hk); (try clear hi)))
                     repeat (go_quiet (first | ((with_reducible refine gate_dst (N := 15) rfl ?_); refine box_event ?hg (N := 15) ?hd (cs := #[.int .i64 0, .slice none 0 0]) (t := 29) ?hr ?_; (case hd => rfl); (case hg => rfl); (case hr => first | (go_simp; done) | (go_simp; rfl)); intro gb150 hg w63 hbox hb; have BK150 := Aside0.mk (hbox); have GW150 := Aside0.mk ((by rw [hg]; exact (below_size bo) : w.heap.size ≤ gb150)); have GE150 := Aside0.mk ((by rw [hg]; exact (below_size bo) : w.heap.size ≤ gb150)); replace HB := Aside0.mk (below_step bo hb); have NB137_150 := Aside0.mk (nl BK137.out hg); have NB150_137 := Aside0.mk (ng BK137.out hg); replace BK137 := Aside0.mk (bb BK137.out hb); clear hb hbox hg; have hnb64 := NB150_137.out; have hnc64 := NB137_150.out; obtain ⟨hcz65_0, hcz65_1⟩ := cl2 BK150.out; obtain ⟨hfz65_0, hfz65_1⟩ := fz2 BK150.out; obtain ⟨hcz66_0, hcz66_1, hcz66_2, hcz66_3, hcz66_4⟩ := cl5 BK137.out; obtain ⟨hfz66_0, hfz66_1, hfz66_2, hfz66_3, hfz66_4⟩ := fz5 BK137.out; have p153 : 0 ≤ ((ji42) : Int) := od; have q153 : (ji42) < (((rd_T29 y141 x55_3).f1).length : Int) := od; obtain ⟨ad153, e153, hx153_0, hx153_1, hx153_2, hx153_3, hx153_4, hx153_5⟩ := at_T25 HR149_1.out (ji42) p153 q153; cases e153; have hn153_0 : ad153.block ≠ gb150 := Nat.ne_of_lt (Nat.lt_of_lt_of_le (by have := World.block_lt_of_cell? _ _ hx153_0; first | rwa [add_block] at this | exact this) GW150.out); have hn153_1 : ad153.block ≠ gb150 := Nat.ne_of_lt (Nat.lt_of_lt_of_le (by have := World.block_lt_of_cell? _ _ hx153_0; first | rwa [add_block] at this | exact this) GW150.out); replace hx153_0 := cx HB.out hx153_0; replace hx153_1 := cx HB.out hx153_1; replace hx153_2 := cx HB.out hx153_2; replace hx153_3 := cx HB.out hx153_3; replace hx153_4 := cx HB.out hx153_4; replace hx153_5 := cx HB.out hx153_5; replace hx153_0 := (cell_far (p := ⟨gb150, 0, none⟩) (by first | (rw [add_block]; exact hn153_0) | (show (Addr.add _ _).block ≠ _; rw [add_block]; exact hn153_0) | exact hn153_0) (.int .i64 ((rd_T29 y141 x55_3).f0))).trans hx153_0; replace hx153_1 := (cell_far (p := ⟨gb150, 0, none⟩) (by first | (rw [add_block]; exact hn153_0) | (show (Addr.add _ _).block ≠ _; rw [add_block]; exact hn153_0) | exact hn153_0) (.int .i64 ((rd_T29 y141 x55_3).f0))).trans hx153_1; replace hx153_2 := (cell_far (p := ⟨gb150, 0, none⟩) (by first | (rw [add_block]; exact hn153_0) | (show (Addr.add _ _).block ≠ _; rw [add_block]; exact hn153_0) | exact hn153_0) (.int .i64 ((rd_T29 y141 x55_3).f0))).trans hx153_2; replace hx153_3 := (cell_far (p := ⟨gb150, 0, none⟩) (by first | (rw [add_block]; exact hn153_0) | (show (Addr.add _ _).block ≠ _; rw [add_block]; exact hn153_0) | exact hn153_0) (.int .i64 ((rd_T29 y141 x55_3).f0))).trans hx153_3; replace hx153_4 := (cell_far (p := ⟨gb150, 0, none⟩) (by first | (rw [add_block]; exact hn153_0) | (show (Addr.add _ _).block ≠ _; rw [add_block]; exact hn153_0) | exact hn153_0) (.int .i64 ((rd_T29 y141 x55_3).f0))).trans hx153_4; replace hx153_5 := (cell_far (p := ⟨gb150, 0, none⟩) (by first | (rw [add_block]; exact hn153_0) | (show (Addr.add _ _).block ≠ _; rw [add_block]; exact hn153_0) | exact hn153_0) (.int .i64 ((rd_T29 y141 x55_3).f0))).trans hx153_5; replace hx153_0 := (cell_far (p := ⟨gb150, 1, none⟩) (by first | (rw [add_block]; exact hn153_1) | (show (Addr.add _ _).block ≠ _; rw [add_block]; exact hn153_1) | exact hn153_1) (.slice (some ad153) ((rd_T29 y141 x55_3).f1).length c149_1)).trans hx153_0; replace hx153_1 := (cell_far (p := ⟨gb150, 1, none⟩) (by first | (rw [add_block]; exact hn153_1) | (show (Addr.add _ _).block ≠ _; rw [add_block]; exact hn153_1) | exact hn153_1) (.slice (some ad153) ((rd_T29 y141 x55_3).f1).length c149_1)).trans hx153_1; replace hx153_2 := (cell_far (p := ⟨gb150, 1, none⟩) (by first | (rw [add_block]; exact hn153_1) | (show (Addr.add _ _).block ≠ _; rw [add_block]; exact hn153_1) | exact hn153_1) (.slice (some ad153) ((rd_T29 y141 x55_3).f1).length c149_1)).trans hx153_2; replace hx153_3 := (cell_far (p := ⟨gb150, 1, none⟩) (by first | (rw [add_block]; exact hn153_1) | (show (Addr.add _ _).block ≠ _; rw [add_block]; exact hn153_1) | exact hn153_1) (.slice (some ad153) ((rd_T29 y141 x55_3).f1).length c149_1)).trans hx153_3; replace hx153_4 := (cell_far (p := ⟨gb150, 1, none⟩) (by first | (rw [add_block]; exact hn153_1) | (show (Addr.add _ _).block ≠ _; rw [add_block]; exact hn153_1) | exact hn153_1) (.slice (some ad153) ((rd_T29 y141 x55_3).f1).length c149_1)).trans hx153_4; replace hx153_5 := (cell_far (p := ⟨gb150, 1, none⟩) (by first | (rw [add_block]; exact hn153_1) | (show (Addr.add _ _).block ≠ _; rw [add_block]; exact hn153_1) | exact hn153_1) (.slice (some ad153) ((rd_T29 y141 x55_3).f1).length c149_1)).trans hx153_5; (try have hy153_0 := fun (n_ : Nat) => (show ((((w63.drewN n_).setCell ⟨gb150, 0, none⟩ (.int .i64 ((rd_T29 y141 x55_3).f0))).setCell ⟨gb150, 1, none⟩ (.slice (some ad153) ((rd_T29 y141 x55_3).f1).length c149_1))).cell? _ = some _ from hx153_0)); (try have hy153_1 := fun (n_ : Nat) => (show ((((w63.drewN n_).setCell ⟨gb150, 0, none⟩ (.int .i64 ((rd_T29 y141 x55_3).f0))).setCell ⟨gb150, 1, none⟩ (.slice (some ad153) ((rd_T29 y141 x55_3).f1).length c149_1))).cell? _ = some _ from hx153_1)); (try have hy153_2 := fun (n_ : Nat) => (show ((((w63.drewN n_).setCell ⟨gb150, 0, none⟩ (.int .i64 ((rd_T29 y141 x55_3).f0))).setCell ⟨gb150, 1, none⟩ (.slice (some ad153) ((rd_T29 y141 x55_3).f1).length c149_1))).cell? _ = some _ from hx153_2)); (try have hy153_3 := fun (n_ : Nat) => (show ((((w63.drewN n_).setCell ⟨gb150, 0, none⟩ (.int .i64 ((rd_T29 y141 x55_3).f0))).setCell ⟨gb150, 1, none⟩ (.slice (some ad153) ((rd_T29 y141 x55_3).f1).length c149_1))).cell? _ = some _ from hx153_3)); (try have hy153_4 := fun (n_ : Nat) => (show ((((w63.drewN n_).setCell ⟨gb150, 0, none⟩ (.int .i64 ((rd_T29 y141 x55_3).f0))).setCell ⟨gb150, 1, none⟩ (.slice (some ad153) ((rd_T29 y141 x55_3).f1).length c149_1))).cell? _ = some _ from hx153_4)); (try have hy153_5 := fun (n_ : Nat) => (show ((((w63.drewN n_).setCell ⟨gb150, 0, none⟩ (.int .i64 ((rd_T29 y141 x55_3).f0))).setCell ⟨gb150, 1, none⟩ (.slice (some ad153) ((rd_T29 y141 x55_3).f1).length c149_1))).cell? _ = some _ from hx153_5)); clear hn153_0; clear hn153_1; replace p153 := eq_true p153; replace q153 := eq_true q153) | (go_at_call 43; (with_reducible refine (seg_Size.calls k3 ((rd_T29 y141 x55_3).f0) _ _ ((rd_T29 y141 x55_3).f1) t156 t157 _ ?side1 ?side2 A62.out).mono ?_); (case side1 => exact Kd.C_below HR149_1.out bo); (case side2 => exact HC149_1.out); rintro e w67 ⟨rfl, hb⟩; replace BK137 := Aside0.mk (bB BK137.out hb); replace BK150 := Aside0.mk (blk_below (g := gb150) (o := .cells #[.int .i64 ((rd_T29 y141 x55_3).f0), .slice (some ad153) ((rd_T29 y141 x55_3).f1).length c149_1] 29 (0, 0)) (by (with_reducible repeat (first | refine blk_drewN ?_ _ | refine blk_drew ?_ | refine blk_alloc ?_ _)); refine blk_put (cs := #[.int .i64 ((rd_T29 y141 x55_3).f0), .slice none 0 0]) ?_ 1 _ rfl; (with_reducible repeat (first | refine blk_drewN ?_ _ | refine blk_drew ?_ | refine blk_alloc ?_ _)); refine blk_put (cs := #[.int .i64 0, .slice none 0 0]) ?_ 0 _ rfl; (with_reducible repeat (first | refine blk_drewN ?_ _ | refine blk_drew ?_ | refine blk_alloc ?_ _)); exact BK150.out) hb); replace HB := Aside0.mk (below_step bo hb); (try clear hb); (try clear hb2); (try clear hk); (try clear hi))); try go_wp2_with (first | ((with_reducible refine gate_dst (N := 15) rfl ?_); refine box_event ?hg (N := 15) ?hd (cs := #[.int .i64 0, .slice none 0 0]) (t := 29) ?hr ?_; (case hd => rfl); (case hg => rfl); (case hr => first | (go_simp; done) | (go_simp; rfl)); intro gb150 hg w63 hbox hb; have BK150 := Aside0.mk (hbox); have GW150 := Aside0.mk ((by rw [hg]; exact (below_size bo) : w.heap.size ≤ gb150)); have GE150 := Aside0.mk ((by rw [hg]; exact (below_size bo) : w.heap.size ≤ gb150)); replace HB := Aside0.mk (below_step bo hb); have NB137_150 := Aside0.mk (nl BK137.out hg); have NB150_137 := Aside0.mk (ng BK137.out hg); replace BK137 := Aside0.mk (bb BK137.out hb); clear hb hbox hg; have hnb64 := NB150_137.out; have hnc64 := NB137_150.out; obtain ⟨hcz65_0, hcz65_1⟩ := cl2 BK150.out; obtain ⟨hfz65_0, hfz65_1⟩ := fz2 BK150.out; obtain ⟨hcz66_0, hcz66_1, hcz66_2, hcz66_3, hcz66_4⟩ := cl5 BK137.out; obtain ⟨hfz66_0, hfz66_1, hfz66_2, hfz66_3, hfz66_4⟩ := fz5 BK137.out; have p153 : 0 ≤ ((ji42) : Int) := od; have q153 : (ji42) < (((rd_T29 y141 x55_3).f1).length : Int) := od; obtain ⟨ad153, e153, hx153_0, hx153_1, hx153_2, hx153_3, hx153_4, hx153_5⟩ := at_T25 HR149_1.out (ji42) p153 q153; cases e153; have hn153_0 : ad153.block ≠ gb150 := Nat.ne_of_lt (Nat.lt_of_lt_of_le (by have := World.block_lt_of_cell? _ _ hx153_0; first | rwa [add_block] at this | exact this) GW150.out); have hn153_1 : ad153.block ≠ gb150 := Nat.ne_of_lt (Nat.lt_of_lt_of_le (by have := World.block_lt_of_cell? _ _ hx153_0; first | rwa [add_block] at this | exact this) GW150.out); replace hx153_0 := cx HB.out hx153_0; replace hx153_1 := cx HB.out hx153_1; replace hx153_2 := cx HB.out hx153_2; replace hx153_3 := cx HB.out hx153_3; replace hx153_4 := cx HB.out hx153_4; replace hx153_5 := cx HB.out hx153_5; replace hx153_0 := (cell_far (p := ⟨gb150, 0, none⟩) (by first | (rw [add_block]; exact hn153_0) | (show (Addr.add _ _).block ≠ _; rw [add_block]; exact hn153_0) | exact hn153_0) (.int .i64 ((rd_T29 y141 x55_3).f0))).trans hx153_0; replace hx153_1 := (cell_far (p := ⟨gb150, 0, none⟩) (by first | (rw [add_block]; exact hn153_0) | (show (Addr.add _ _).block ≠ _; rw [add_block]; exact hn153_0) | exact hn153_0) (.int .i64 ((rd_T29 y141 x55_3).f0))).trans hx153_1; replace hx153_2 := (cell_far (p := ⟨gb150, 0, none⟩) (by first | (rw [add_block]; exact hn153_0) | (show (Addr.add _ _).block ≠ _; rw [add_block]; exact hn153_0) | exact hn153_0) (.int .i64 ((rd_T29 y141 x55_3).f0))).trans hx153_2; replace hx153_3 := (cell_far (p := ⟨gb150, 0, none⟩) (by first | (rw [add_block]; exact hn153_0) | (show (Addr.add _ _).block ≠ _; rw [add_block]; exact hn153_0) | exact hn153_0) (.int .i64 ((rd_T29 y141 x55_3).f0))).trans hx153_3; replace hx153_4 := (cell_far (p := ⟨gb150, 0, none⟩) (by first | (rw [add_block]; exact hn153_0) | (show (Addr.add _ _).block ≠ _; rw [add_block]; exact hn153_0) | exact hn153_0) (.int .i64 ((rd_T29 y141 x55_3).f0))).trans hx153_4; replace hx153_5 := (cell_far (p := ⟨gb150, 0, none⟩) (by first | (rw [add_block]; exact hn153_0) | (show (Addr.add _ _).block ≠ _; rw [add_block]; exact hn153_0) | exact hn153_0) (.int .i64 ((rd_T29 y141 x55_3).f0))).trans hx153_5; replace hx153_0 := (cell_far (p := ⟨gb150, 1, none⟩) (by first | (rw [add_block]; exact hn153_1) | (show (Addr.add _ _).block ≠ _; rw [add_block]; exact hn153_1) | exact hn153_1) (.slice (some ad153) ((rd_T29 y141 x55_3).f1).length c149_1)).trans hx153_0; replace hx153_1 := (cell_far (p := ⟨gb150, 1, none⟩) (by first | (rw [add_block]; exact hn153_1) | (show (Addr.add _ _).block ≠ _; rw [add_block]; exact hn153_1) | exact hn153_1) (.slice (some ad153) ((rd_T29 y141 x55_3).f1).length c149_1)).trans hx153_1; replace hx153_2 := (cell_far (p := ⟨gb150, 1, none⟩) (by first | (rw [add_block]; exact hn153_1) | (show (Addr.add _ _).block ≠ _; rw [add_block]; exact hn153_1) | exact hn153_1) (.slice (some ad153) ((rd_T29 y141 x55_3).f1).length c149_1)).trans hx153_2; replace hx153_3 := (cell_far (p := ⟨gb150, 1, none⟩) (by first | (rw [add_block]; exact hn153_1) | (show (Addr.add _ _).block ≠ _; rw [add_block]; exact hn153_1) | exact hn153_1) (.slice (some ad153) ((rd_T29 y141 x55_3).f1).length c149_1)).trans hx153_3; replace hx153_4 := (cell_far (p := ⟨gb150, 1, none⟩) (by first | (rw [add_block]; exact hn153_1) | (show (Addr.add _ _).block ≠ _; rw [add_block]; exact hn153_1) | exact hn153_1) (.slice (some ad153) ((rd_T29 y141 x55_3).f1).length c149_1)).trans hx153_4; replace hx153_5 := (cell_far (p := ⟨gb150, 1, none⟩) (by first | (rw [add_block]; exact hn153_1) | (show (Addr.add _ _).block ≠ _; rw [add_block]; exact hn153_1) | exact hn153_1) (.slice (some ad153) ((rd_T29 y141 x55_3).f1).length c149_1)).trans hx153_5; (try have hy153_0 := fun (n_ : Nat) => (show ((((w63.drewN n_).setCell ⟨gb150, 0, none⟩ (.int .i64 ((rd_T29 y141 x55_3).f0))).setCell ⟨gb150, 1, none⟩ (.slice (some ad153) ((rd_T29 y141 x55_3).f1).length c149_1))).cell? _ = some _ from hx153_0)); (try have hy153_1 := fun (n_ : Nat) => (show ((((w63.drewN n_).setCell ⟨gb150, 0, none⟩ (.int .i64 ((rd_T29 y141 x55_3).f0))).setCell ⟨gb150, 1, none⟩ (.slice (some ad153) ((rd_T29 y141 x55_3).f1).length c149_1))).cell? _ = some _ from hx153_1)); (try have hy153_2 := fun (n_ : Nat) => (show ((((w63.drewN n_).setCell ⟨gb150, 0, none⟩ (.int .i64 ((rd_T29 y141 x55_3).f0))).setCell ⟨gb150, 1, none⟩ (.slice (some ad153) ((rd_T29 y141 x55_3).f1).length c149_1))).cell? _ = some _ from hx153_2)); (try have hy153_3 := fun (n_ : Nat) => (show ((((w63.drewN n_).setCell ⟨gb150, 0, none⟩ (.int .i64 ((rd_T29 y141 x55_3).f0))).setCell ⟨gb150, 1, none⟩ (.slice (some ad153) ((rd_T29 y141 x55_3).f1).length c149_1))).cell? _ = some _ from hx153_3)); (try have hy153_4 := fun (n_ : Nat) => (show ((((w63.drewN n_).setCell ⟨gb150, 0, none⟩ (.int .i64 ((rd_T29 y141 x55_3).f0))).setCell ⟨gb150, 1, none⟩ (.slice (some ad153) ((rd_T29 y141 x55_3).f1).length c149_1))).cell? _ = some _ from hx153_4)); (try have hy153_5 := fun (n_ : Nat) => (show ((((w63.drewN n_).setCell ⟨gb150, 0, none⟩ (.int .i64 ((rd_T29 y141 x55_3).f0))).setCell ⟨gb150, 1, none⟩ (.slice (some ad153) ((rd_T29 y141 x55_3).f1).length c149_1))).cell? _ = some _ from hx153_5)); clear hn153_0; clear hn153_1; replace p153 := eq_true p153; replace q153 := eq_true q153) | (go_at_call 43; (with_reducible refine (seg_Size.calls k3 ((rd_T29 y141 x55_3).f0) _ _ ((rd_T29 y141 x55_3).f1) t156 t157 _ ?side1 ?side2 A62.out).mono ?_); (case side1 => exact Kd.C_below HR149_1.out bo); (case side2 => exact HC149_1.out); rintro e w67 ⟨rfl, hb⟩; replace BK137 := Aside0.mk (bB BK137.out hb); replace BK150 := Aside0.mk (blk_below (g := gb150) (o := .cells #[.int .i64 ((rd_T29 y141 x55_3).f0), .slice (some ad153) ((rd_T29 y141 x55_3).f1).length c149_1] 29 (0, 0)) (by (with_reducible repeat (first | refine blk_drewN ?_ _ | refine blk_drew ?_ | refine blk_alloc ?_ _)); refine blk_put (cs := #[.int .i64 ((rd_T29 y141 x55_3).f0), .slice none 0 0]) ?_ 1 _ rfl; (with_reducible repeat (first | refine blk_drewN ?_ _ | refine blk_drew ?_ | refine blk_alloc ?_ _)); refine blk_put (cs := #[.int .i64 0, .slice none 0 0]) ?_ 0 _ rfl; (with_reducible repeat (first | refine blk_drewN ?_ _ | refine blk_drew ?_ | refine blk_alloc ?_ _)); exact BK150.out) hb); replace HB := Aside0.mk (below_step bo hb); (try clear hb); (try clear hb2); (try clear hk); (try clear hi))))
                     go_roundg k3
                     case measure => have := HJ3.out; have := HK2.out; have := HK3.out; omega
                     case rel => exact ⟨(wrap64 (x9_3 - t156)), (wrap64 (x55_3 + 1)), ap, ap, H', ⟨by have := HJ3.out; have := HK2.out; have := HK3.out; omega⟩, ⟨by (with_reducible repeat (first | refine blk_drewN ?_ _ | refine blk_drew ?_ | refine blk_alloc ?_ _)); exact BK137.out⟩, ⟨bo⟩⟩
                 ·rw [if_neg c44] at H
                  exact absurd H (by simp)
                ·rw [if_neg c43] at H
                 exact absurd H (by simp)
              ·rw [if_neg c34] at H
               have c34b0 : decide (0 ≤ a1_2) = false := decide_eq_false c34
               clear c34
               by_cases c68 : a1_1 < 0
               ·rw [if_pos c68] at H
                have c68b0 : decide (a1_1 < 0) = true := decide_eq_true c68
                clear c68
                simp only [Option.some.injEq, Prod.mk.injEq] at H
                obtain ⟨rfl, rfl⟩ := H
                have p149 : 0 ≤ (x55_3 : Int) := od
                have q149 : x55_3 < (y141.length : Int) := od
                obtain ⟨ad149, A149_1, c149_1, e149, hx149_0, hx149_1, hl149_1, hi149_1⟩ := at_T29 HR144.out x55_3 p149 q149
                cases e149
                replace hx149_0 := cx HB.out hx149_0
                replace hx149_1 := cx HB.out hx149_1
                have HR149_1 := Aside0.mk hi149_1
                have HC149_1 := Aside0.mk hl149_1
                clear hi149_1 hl149_1
                replace p149 := eq_true p149
                replace q149 := eq_true q149
                go_wp2_with (first | ((with_reducible refine gate_dst (N := 15) rfl ?_); refine box_event ?hg (N := 15) ?hd (cs := #[.int .i64 0, .slice none 0 0]) (t := 29) ?hr ?_; (case hd => rfl); (case hg => rfl); (case hr => first | (go_simp; done) | (go_simp; rfl)); intro gb150 hg w69 hbox hb; have BK150 := Aside0.mk (hbox); have GW150 := Aside0.mk ((by rw [hg]; exact (below_size bo) : w.heap.size ≤ gb150)); have GE150 := Aside0.mk ((by rw [hg]; exact (below_size bo) : w.heap.size ≤ gb150)); replace HB := Aside0.mk (below_step bo hb); have NB137_150 := Aside0.mk (nl BK137.out hg); have NB150_137 := Aside0.mk (ng BK137.out hg); replace BK137 := Aside0.mk (bb BK137.out hb); clear hb hbox hg; have hnb70 := NB150_137.out; have hnc70 := NB137_150.out; obtain ⟨hcz71_0, hcz71_1⟩ := cl2 BK150.out; obtain ⟨hfz71_0, hfz71_1⟩ := fz2 BK150.out; obtain ⟨hcz72_0, hcz72_1, hcz72_2, hcz72_3, hcz72_4⟩ := cl5 BK137.out; obtain ⟨hfz72_0, hfz72_1, hfz72_2, hfz72_3, hfz72_4⟩ := fz5 BK137.out))
                repeat (go_quiet (first | ((with_reducible refine gate_dst (N := 15) rfl ?_); refine box_event ?hg (N := 15) ?hd (cs := #[.int .i64 0, .slice none 0 0]) (t := 29) ?hr ?_; (case hd => rfl); (case hg => rfl); (case hr => first | (go_simp; done) | (go_simp; rfl)); intro gb150 hg w69 hbox hb; have BK150 := Aside0.mk (hbox); have GW150 := Aside0.mk ((by rw [hg]; exact (below_size bo) : w.heap.size ≤ gb150)); have GE150 := Aside0.mk ((by rw [hg]; exact (below_size bo) : w.heap.size ≤ gb150)); replace HB := Aside0.mk (below_step bo hb); have NB137_150 := Aside0.mk (nl BK137.out hg); have NB150_137 := Aside0.mk (ng BK137.out hg); replace BK137 := Aside0.mk (bb BK137.out hb); clear hb hbox hg; have hnb70 := NB150_137.out; have hnc70 := NB137_150.out; obtain ⟨hcz71_0, hcz71_1⟩ := cl2 BK150.out; obtain ⟨hfz71_0, hfz71_1⟩ := fz2 BK150.out; obtain ⟨hcz72_0, hcz72_1, hcz72_2, hcz72_3, hcz72_4⟩ := cl5 BK137.out; obtain ⟨hfz72_0, hfz72_1, hfz72_2, hfz72_3, hfz72_4⟩ := fz5 BK137.out)); try go_wp2_with (first | ((with_reducible refine gate_dst (N := 15) rfl ?_); refine box_event ?hg (N := 15) ?hd (cs := #[.int .i64 0, .slice none 0 0]) (t := 29) ?hr ?_; (case hd => rfl); (case hg => rfl); (case hr => first | (go_simp; done) | (go_simp; rfl)); intro gb150 hg w69 hbox hb; have BK150 := Aside0.mk (hbox); have GW150 := Aside0.mk ((by rw [hg]; exact (below_size bo) : w.heap.size ≤ gb150)); have GE150 := Aside0.mk ((by rw [hg]; exact (below_size bo) : w.heap.size ≤ gb150)); replace HB := Aside0.mk (below_step bo hb); have NB137_150 := Aside0.mk (nl BK137.out hg); have NB150_137 := Aside0.mk (ng BK137.out hg); replace BK137 := Aside0.mk (bb BK137.out hb); clear hb hbox hg; have hnb70 := NB150_137.out; have hnc70 := NB137_150.out; obtain ⟨hcz71_0, hcz71_1⟩ := cl2 BK150.out; obtain ⟨hfz71_0, hfz71_1⟩ := fz2 BK150.out; obtain ⟨hcz72_0, hcz72_1, hcz72_2, hcz72_3, hcz72_4⟩ := cl5 BK137.out; obtain ⟨hfz72_0, hfz72_1, hfz72_2, hfz72_3, hfz72_4⟩ := fz5 BK137.out)))
                go_ret2
                exact ⟨by first | rfl | (simp [errW_none, errW_some] <;> rfl) | (simp only [← hji19]; first | rfl | (simp [errW_none, errW_some] <;> rfl)) | (simp [*, errW_none, errW_some] <;> rfl), bo⟩
               ·rw [if_neg c68] at H
                have c68b0 : decide (a1_1 < 0) = false := decide_eq_false c68
                clear c68
                by_cases c73 : x9_3 ≤ a1_1
                ·rw [if_pos c73] at H
                 have c73b0 : decide (x9_3 ≤ a1_1) = true := decide_eq_true c73
                 clear c73
                 simp only [Option.some.injEq, Prod.mk.injEq] at H
                 obtain ⟨rfl, rfl⟩ := H
                 have p149 : 0 ≤ (x55_3 : Int) := od
                 have q149 : x55_3 < (y141.length : Int) := od
                 obtain ⟨ad149, A149_1, c149_1, e149, hx149_0, hx149_1, hl149_1, hi149_1⟩ := at_T29 HR144.out x55_3 p149 q149
                 cases e149
                 replace hx149_0 := cx HB.out hx149_0
                 replace hx149_1 := cx HB.out hx149_1
                 have HR149_1 := Aside0.mk hi149_1
                 have HC149_1 := Aside0.mk hl149_1
                 clear hi149_1 hl149_1
                 replace p149 := eq_true p149
                 replace q149 := eq_true q149
                 go_wp2_with (first | ((with_reducible refine gate_dst (N := 15) rfl ?_); refine box_event ?hg (N := 15) ?hd (cs := #[.int .i64 0, .slice none 0 0]) (t := 29) ?hr ?_; (case hd => rfl); (case hg => rfl); (case hr => first | (go_simp; done) | (go_simp; rfl)); intro gb150 hg w74 hbox hb; have BK150 := Aside0.mk (hbox); have GW150 := Aside0.mk ((by rw [hg]; exact (below_size bo) : w.heap.size ≤ gb150)); have GE150 := Aside0.mk ((by rw [hg]; exact (below_size bo) : w.heap.size ≤ gb150)); replace HB := Aside0.mk (below_step bo hb); have NB137_150 := Aside0.mk (nl BK137.out hg); have NB150_137 := Aside0.mk (ng BK137.out hg); replace BK137 := Aside0.mk (bb BK137.out hb); clear hb hbox hg; have hnb75 := NB150_137.out; have hnc75 := NB137_150.out; obtain ⟨hcz76_0, hcz76_1⟩ := cl2 BK150.out; obtain ⟨hfz76_0, hfz76_1⟩ := fz2 BK150.out; obtain ⟨hcz77_0, hcz77_1, hcz77_2, hcz77_3, hcz77_4⟩ := cl5 BK137.out; obtain ⟨hfz77_0, hfz77_1, hfz77_2, hfz77_3, hfz77_4⟩ := fz5 BK137.out))
                 repeat (go_quiet (first | ((with_reducible refine gate_dst (N := 15) rfl ?_); refine box_event ?hg (N := 15) ?hd (cs := #[.int .i64 0, .slice none 0 0]) (t := 29) ?hr ?_; (case hd => rfl); (case hg => rfl); (case hr => first | (go_simp; done) | (go_simp; rfl)); intro gb150 hg w74 hbox hb; have BK150 := Aside0.mk (hbox); have GW150 := Aside0.mk ((by rw [hg]; exact (below_size bo) : w.heap.size ≤ gb150)); have GE150 := Aside0.mk ((by rw [hg]; exact (below_size bo) : w.heap.size ≤ gb150)); replace HB := Aside0.mk (below_step bo hb); have NB137_150 := Aside0.mk (nl BK137.out hg); have NB150_137 := Aside0.mk (ng BK137.out hg); replace BK137 := Aside0.mk (bb BK137.out hb); clear hb hbox hg; have hnb75 := NB150_137.out; have hnc75 := NB137_150.out; obtain ⟨hcz76_0, hcz76_1⟩ := cl2 BK150.out; obtain ⟨hfz76_0, hfz76_1⟩ := fz2 BK150.out; obtain ⟨hcz77_0, hcz77_1, hcz77_2, hcz77_3, hcz77_4⟩ := cl5 BK137.out; obtain ⟨hfz77_0, hfz77_1, hfz77_2, hfz77_3, hfz77_4⟩ := fz5 BK137.out)); try go_wp2_with (first | ((with_reducible refine gate_dst (N := 15) rfl ?_); refine box_event ?hg (N := 15) ?hd (cs := #[.int .i64 0, .slice none 0 0]) (t := 29) ?hr ?_; (case hd => rfl); (case hg => rfl); (case hr => first | (go_simp; done) | (go_simp; rfl)); intro gb150 hg w74 hbox hb; have BK150 := Aside0.mk (hbox); have GW150 := Aside0.mk ((by rw [hg]; exact (below_size bo) : w.heap.size ≤ gb150)); have GE150 := Aside0.mk ((by rw [hg]; exact (below_size bo) : w.heap.size ≤ gb150)); replace HB := Aside0.mk (below_step bo hb); have NB137_150 := Aside0.mk (nl BK137.out hg); have NB150_137 := Aside0.mk (ng BK137.out hg); replace BK137 := Aside0.mk (bb BK137.out hb); clear hb hbox hg; have hnb75 := NB150_137.out; have hnc75 := NB137_150.out; obtain ⟨hcz76_0, hcz76_1⟩ := cl2 BK150.out; obtain ⟨hfz76_0, hfz76_1⟩ := fz2 BK150.out; obtain ⟨hcz77_0, hcz77_1, hcz77_2, hcz77_3, hcz77_4⟩ := cl5 BK137.out; obtain ⟨hfz77_0, hfz77_1, hfz77_2, hfz77_3, hfz77_4⟩ := fz5 BK137.out)))
                 go_ret2
                 exact ⟨by first | rfl | (simp [errW_none, errW_some] <;> rfl) | (simp only [← hji19]; first | rfl | (simp [errW_none, errW_some] <;> rfl)) | (simp [*, errW_none, errW_some] <;> rfl), bo⟩
                ·rw [if_neg c73] at H
                 have c73b0 : decide (x9_3 ≤ a1_1) = false := decide_eq_false c73
                 clear c73
                 replace H := Option.bind_eq_some_iff.mp H
                 obtain ⟨⟨t158, t159⟩, A780, H⟩ := H
                 replace H : (keep_Old.l1 k3 a2 y141 (wrap64 (x9_3 - t158)) y141 (y141.length : Int) (wrap64 (x55_3 + 1)) a1_0 a1_1 a1_2 a1_3 a1_4) = some (r1, r2) := H
                 have A78 := Aside0.mk A780
                 clear A780
                 have H' := Aside0.mk H
                 clear H
                 have p149 : 0 ≤ (x55_3 : Int) := od
                 have q149 : x55_3 < (y141.length : Int) := od
                 obtain ⟨ad149, A149_1, c149_1, e149, hx149_0, hx149_1, hl149_1, hi149_1⟩ := at_T29 HR144.out x55_3 p149 q149
                 cases e149
                 replace hx149_0 := cx HB.out hx149_0
                 replace hx149_1 := cx HB.out hx149_1
                 have HR149_1 := Aside0.mk hi149_1
                 have HC149_1 := Aside0.mk hl149_1
                 clear hi149_1 hl149_1
                 replace p149 := eq_true p149
                 replace q149 := eq_true q149
                 go_wp2_with (first | ((with_reducible refine gate_dst (N := 15) rfl ?_); refine box_event ?hg (N := 15) ?hd (cs := #[.int .i64 0, .slice none 0 0]) (t := 29) ?hr ?_; (case hd => rfl); (case hg => rfl); (case hr => first | (go_simp; done) | (go_simp; rfl)); intro gb150 hg w79 hbox hb; have BK150 := Aside0.mk (hbox); have GW150 := Aside0.mk ((by rw [hg]; exact (below_size bo) : w.heap.size ≤ gb150)); have GE150 := Aside0.mk ((by rw [hg]; exact (below_size bo) : w.heap.size ≤ gb150)); replace HB := Aside0.mk (below_step bo hb); have NB137_150 := Aside0.mk (nl BK137.out hg); have NB150_137 := Aside0.mk (ng BK137.out hg); replace BK137 := Aside0.mk (bb BK137.out hb); clear hb hbox hg; have hnb80 := NB150_137.out; have hnc80 := NB137_150.out; obtain ⟨hcz81_0, hcz81_1⟩ := cl2 BK150.out; obtain ⟨hfz81_0, hfz81_1⟩ := fz2 BK150.out; obtain ⟨hcz82_0, hcz82_1, hcz82_2, hcz82_3, hcz82_4⟩ := cl5 BK137.out; obtain ⟨hfz82_0, hfz82_1, hfz82_2, hfz82_3, hfz82_4⟩ := fz5 BK137.out) | (go_at_call 43; (with_reducible refine (seg_Size.calls k3 ((rd_T29 y141 x55_3).f0) _ _ ((rd_T29 y141 x55_3).f1) t158 t159 _ ?side1 ?side2 A78.out).mono ?_); (case side1 => exact Kd.C_below HR149_1.out bo); (case side2 => exact HC149_1.out); rintro e w83 ⟨rfl, hb⟩; replace BK137 := Aside0.mk (bB BK137.out hb); replace BK150 := Aside0.mk (blk_below (g := gb150) (o := .cells #[.int .i64 ((rd_T29 y141 x55_3).f0), .slice A149_1 ((rd_T29 y141 x55_3).f1).length c149_1] 29 (0, 0)) (by (with_reducible repeat (first | refine blk_drewN ?_ _ | refine blk_drew ?_ | refine blk_alloc ?_ _)); refine blk_put (cs := #[.int .i64 ((rd_T29 y141 x55_3).f0), .slice none 0 0]) ?_ 1 _ rfl; (with_reducible repeat (first | refine blk_drewN ?_ _ | refine blk_drew ?_ | refine blk_alloc ?_ _)); refine blk_put (cs := #[.int .i64 0, .slice none 0 0]) ?_ 0 _ rfl; (with_reducible repeat (first | refine blk_drewN ?_ _ | refine blk_drew ?_ | refine blk_alloc ?_ _)); exact BK150.out) hb); replace HB := Aside0.mk (below_step bo hb); (try clear hb); (try clear hb2); (try clear hk); (try clear hi)))
                 repeat (go_quiet (first | ((with_reducible refine gate_dst (N := 15) rfl ?_); refine box_event ?hg (N := 15) ?hd (cs := #[.int .i64 0, .slice none 0 0]) (t := 29) ?hr ?_; (case hd => rfl); (case hg => rfl); (case hr => first | (go_simp; done) | (go_simp; rfl)); intro gb150 hg w79 hbox hb; have BK150 := Aside0.mk (hbox); have GW150 := Aside0.mk ((by rw [hg]; exact (below_size bo) : w.heap.size ≤ gb150)); have GE150 := Aside0.mk ((by rw [hg]; exact (below_size bo) : w.heap.size ≤ gb150)); replace HB := Aside0.mk (below_step bo hb); have NB137_150 := Aside0.mk (nl BK137.out hg); have NB150_137 := Aside0.mk (ng BK137.out hg); replace BK137 := Aside0.mk (bb BK137.out hb); clear hb hbox hg; have hnb80 := NB150_137.out; have hnc80 := NB137_150.out; obtain ⟨hcz81_0, hcz81_1⟩ := cl2 BK150.out; obtain ⟨hfz81_0, hfz81_1⟩ := fz2 BK150.out; obtain ⟨hcz82_0, hcz82_1, hcz82_2, hcz82_3, hcz82_4⟩ := cl5 BK137.out; obtain ⟨hfz82_0, hfz82_1, hfz82_2, hfz82_3, hfz82_4⟩ := fz5 BK137.out) | (go_at_call 43; (with_reducible refine (seg_Size.calls k3 ((rd_T29 y141 x55_3).f0) _ _ ((rd_T29 y141 x55_3).f1) t158 t159 _ ?side1 ?side2 A78.out).mono ?_); (case side1 => exact Kd.C_below HR149_1.out bo); (case side2 => exact HC149_1.out); rintro e w83 ⟨rfl, hb⟩; replace BK137 := Aside0.mk (bB BK137.out hb); replace BK150 := Aside0.mk (blk_below (g := gb150) (o := .cells #[.int .i64 ((rd_T29 y141 x55_3).f0), .slice A149_1 ((rd_T29 y141 x55_3).f1).length c149_1] 29 (0, 0)) (by (with_reducible repeat (first | refine blk_drewN ?_ _ | refine blk_drew ?_ | refine blk_alloc ?_ _)); refine blk_put (cs := #[.int .i64 ((rd_T29 y141 x55_3).f0), .slice none 0 0]) ?_ 1 _ rfl; (with_reducible repeat (first | refine blk_drewN ?_ _ | refine blk_drew ?_ | refine blk_alloc ?_ _)); refine blk_put (cs := #[.int .i64 0, .slice none 0 0]) ?_ 0 _ rfl; (with_reducible repeat (first | refine blk_drewN ?_ _ | refine blk_drew ?_ | refine blk_alloc ?_ _)); exact BK150.out) hb); replace HB := Aside0.mk (below_step bo hb); (try clear hb); (try clear hb2); (try clear hk); (try clear hi))); try go_wp2_with (first | ((with_reducible refine gate_dst (N := 15) rfl ?_); refine box_event ?hg (N := 15) ?hd (cs := #[.int .i64 0, .slice none 0 0]) (t := 29) ?hr ?_; (case hd => rfl); (case hg => rfl); (case hr => first | (go_simp; done) | (go_simp; rfl)); intro gb150 hg w79 hbox hb; have BK150 := Aside0.mk (hbox); have GW150 := Aside0.mk ((by rw [hg]; exact (below_size bo) : w.heap.size ≤ gb150)); have GE150 := Aside0.mk ((by rw [hg]; exact (below_size bo) : w.heap.size ≤ gb150)); replace HB := Aside0.mk (below_step bo hb); have NB137_150 := Aside0.mk (nl BK137.out hg); have NB150_137 := Aside0.mk (ng BK137.out hg); replace BK137 := Aside0.mk (bb BK137.out hb); clear hb hbox hg; have hnb80 := NB150_137.out; have hnc80 := NB137_150.out; obtain ⟨hcz81_0, hcz81_1⟩ := cl2 BK150.out; obtain ⟨hfz81_0, hfz81_1⟩ := fz2 BK150.out; obtain ⟨hcz82_0, hcz82_1, hcz82_2, hcz82_3, hcz82_4⟩ := cl5 BK137.out; obtain ⟨hfz82_0, hfz82_1, hfz82_2, hfz82_3, hfz82_4⟩ := fz5 BK137.out) | (go_at_call 43; (with_reducible refine (seg_Size.calls k3 ((rd_T29 y141 x55_3).f0) _ _ ((rd_T29 y141 x55_3).f1) t158 t159 _ ?side1 ?side2 A78.out).mono ?_); (case side1 => exact Kd.C_below HR149_1.out bo); (case side2 => exact HC149_1.out); rintro e w83 ⟨rfl, hb⟩; replace BK137 := Aside0.mk (bB BK137.out hb); replace BK150 := Aside0.mk (blk_below (g := gb150) (o := .cells #[.int .i64 ((rd_T29 y141 x55_3).f0), .slice A149_1 ((rd_T29 y141 x55_3).f1).length c149_1] 29 (0, 0)) (by (with_reducible repeat (first | refine blk_drewN ?_ _ | refine blk_drew ?_ | refine blk_alloc ?_ _)); refine blk_put (cs := #[.int .i64 ((rd_T29 y141 x55_3).f0), .slice none 0 0]) ?_ 1 _ rfl; (with_reducible repeat (first | refine blk_drewN ?_ _ | refine blk_drew ?_ | refine blk_alloc ?_ _)); refine blk_put (cs := #[.int .i64 0, .slice none 0 0]) ?_ 0 _ rfl; (with_reducible repeat (first | refine blk_drewN ?_ _ | refine blk_drew ?_ | refine blk_alloc ?_ _)); exact BK150.out) hb); replace HB := Aside0.mk (below_step bo hb); (try clear hb); (try clear hb2); (try clear hk); (try clear hi))))
                 go_roundg k3
                 case measure => have := HJ3.out; have := HK2.out; have := HK3.out; omega
                 case rel => exact ⟨(wrap64 (x9_3 - t158)), (wrap64 (x55_3 + 1)), ap, ap, H', ⟨by have := HJ3.out; have := HK2.out; have := HK3.out; omega⟩, ⟨by (with_reducible repeat (first | refine blk_drewN ?_ _ | refine blk_drew ?_ | refine blk_alloc ?_ _)); exact BK137.out⟩, ⟨bo⟩⟩
             ·rw [if_neg c33] at H
              exact absurd H (by simp)
            ·rw [if_neg c32] at H
             exact absurd H (by simp)
           ·rw [if_neg c31] at H
            have c31b0 : decide (x55_3 < (y141.length : Int)) = false := decide_eq_false c31
            clear c31
            simp only [Option.some.injEq, Prod.mk.injEq] at H
            obtain ⟨rfl, rfl⟩ := H
            go_wp2
            repeat (go_quiet (fail); try go_wp2)
            go_ret2
            exact ⟨by first | rfl | (simp [errW_none, errW_some] <;> rfl) | (simp only [← hji19]; first | rfl | (simp [errW_none, errW_some] <;> rfl)) | (simp [*, errW_none, errW_some] <;> rfl), bo⟩
     ·rw [if_neg c21] at H
      exact absurd H (by simp)
    ·rw [if_neg c20] at H
     exact absurd H (by simp)

end Go.Proofs.Ytigmekgknhoidaa.P

-- written by a program of the proving session, out of the translation; Lean checks it
namespace Go.Proofs.Ytigmekgknhoidaa.P
open Go.RowKit Go.Proofs.Ytigmekgknhoidaa.Sq Go.Proofs.YtigmekgknhoidaaW.PrintWords Go.Proofs.YtigmekgknhoidaaW.PrintLast Go.Proofs.YtigmekgknhoidaaW.PrintMore
attribute [local go_sem] max2_int min2_int max_two min_two max_three min_three max_four min_four   -- for this text's walks alone
set_option linter.unusedVariables false
set_option linter.unusedSimpArgs false

/-! ### fairwaylaw13_num: function 12 -/
def fairwaylaw13_num.f (a0 : Int) : Option (Int) := some a0
set_option maxHeartbeats 8000000 in
set_option maxRecDepth 100000 in
theorem fairwaylaw13_num.calls (a0 : Int) (r : Int) (w : World) (h : fairwaylaw13_num.f a0 = some r) :
 Calls Try.prog 12 #[.int .i64 a0] w fun e w' => e = .returned (.int .i64 r) ∧ Drawn0 w w' := by
 have H : (some a0) = some r := h
 clear h
 obtain rfl := Option.some.inj H
 go_enter Try.func12, Try.ntmps12
 go_wp2
 go_ret
 exact ⟨ap, dr⟩

end Go.Proofs.Ytigmekgknhoidaa.P

-- written by a program of the proving session, out of the translation; Lean checks it
namespace Go.Proofs.Ytigmekgknhoidaa.P
open Go.RowKit Go.Proofs.Ytigmekgknhoidaa.Sq Go.Proofs.YtigmekgknhoidaaW.PrintWords Go.Proofs.YtigmekgknhoidaaW.PrintLast Go.Proofs.YtigmekgknhoidaaW.PrintMore
attribute [local go_sem] max2_int min2_int max_two min_two max_three min_three max_four min_four   -- for this text's walks alone
set_option linter.unusedVariables false
set_option linter.unusedSimpArgs false

/-! ### fairwaylaw13_wakes: function 13 -/
def fairwaylaw13_wakes.f (k : Nat)  : Option (Bool) := (keep_Old.f k (([(⟨0, ([] : List (S25))⟩ : S29), (⟨0, ([] : List (S25))⟩ : S29)] : List (S29))) 1 (-1) (-1) false 0 9).bind fun bt163 => ((keep_Old.f k (([(⟨0, ([] : List (S25))⟩ : S29), (⟨0, ([] : List (S25))⟩ : S29)] : List (S29))) 1 (-1) 0 false 0 9).bind fun bt168 => ((fairwaylaw13_num.f bt163.2).bind fun t170 => (if t170 = 0 then (if bt163.1 = 0 then ((fairwaylaw13_num.f bt168.2).bind fun t171 => (if t171 = 0 then (some (bt168.1 == 1)) else (some false))) else (some false)) else (some false))))
theorem fairwaylaw13_wakes.mono : ∀ k, LeO (fairwaylaw13_wakes.f k ) (fairwaylaw13_wakes.f (k + 1) ) := by
 intro  k
 unfold fairwaylaw13_wakes.f
 repeat' first
  | (with_reducible exact keep_Old.mono _ _ _ _ _ _ _ _)
  | (with_reducible exact LeO.refl _)
  | (with_reducible exact LeO.none _)
  | (with_reducible refine LeO.ite ?_ ?_)
  | (with_reducible refine LeO.bind ?_ (fun _ => ?_))
  | exact keep_Old.mono _ _ _ _ _ _ _ _
  | exact LeO.none _
  | refine LeO.ite ?_ ?_
  | refine LeO.bind ?_ (fun _ => ?_)
set_option maxHeartbeats 8000000 in
set_option maxRecDepth 100000 in
theorem fairwaylaw13_wakes.calls (k : Nat)  (r : Bool) (w : World) (h : fairwaylaw13_wakes.f k  = some r) :
 Calls Try.prog 13 #[] w fun e w' => e = .returned (.bool r) ∧ Below w.heap.size w w' := by
 have hu29 := Try.underlying29
 have hu35 := Try.underlying35
 have HB := Aside0.mk (Below.refl w.heap.size w)
 have H : ((keep_Old.f k (([(⟨0, ([] : List (S25))⟩ : S29), (⟨0, ([] : List (S25))⟩ : S29)] : List (S29))) 1 (-1) (-1) false 0 9).bind fun bt163 => ((keep_Old.f k (([(⟨0, ([] : List (S25))⟩ : S29), (⟨0, ([] : List (S25))⟩ : S29)] : List (S29))) 1 (-1) 0 false 0 9).bind fun bt168 => ((fairwaylaw13_num.f bt163.2).bind fun t170 => (if t170 = 0 then (if bt163.1 = 0 then ((fairwaylaw13_num.f bt168.2).bind fun t171 => (if t171 = 0 then (some (bt168.1 == 1)) else (some false))) else (some false)) else (some false))))) = some r := h
 clear h
 obtain ⟨y160, hy160⟩ : ∃ y_ : List (S29), y_ = (([(⟨0, ([] : List (S25))⟩ : S29), (⟨0, ([] : List (S25))⟩ : S29)] : List (S29))) := ⟨_, rfl⟩
 replace H : ((keep_Old.f k y160 1 (-1) (-1) false 0 9).bind fun bt163 => ((keep_Old.f k (([(⟨0, ([] : List (S25))⟩ : S29), (⟨0, ([] : List (S25))⟩ : S29)] : List (S29))) 1 (-1) 0 false 0 9).bind fun bt168 => ((fairwaylaw13_num.f bt163.2).bind fun t170 => (if t170 = 0 then (if bt163.1 = 0 then ((fairwaylaw13_num.f bt168.2).bind fun t171 => (if t171 = 0 then (some (bt168.1 == 1)) else (some false))) else (some false)) else (some false))))) = some r := by first | (rw [hy160]; with_reducible exact H) | (have H2_ := (Option.bind_some _ _).symm.trans H; rw [hy160]; with_reducible exact H2_) | (have H2_ := (Option.bind_some _ _).symm.trans H; with_reducible exact H2_) | with_reducible exact H | (rw [hy160]; exact H) | exact H
 have Ny160 := Aside0.mk hy160
 clear hy160
 replace H := Option.bind_eq_some_iff.mp H
 obtain ⟨⟨t163, t164⟩, A10, H⟩ := H
 replace H : ((keep_Old.f k (([(⟨0, ([] : List (S25))⟩ : S29), (⟨0, ([] : List (S25))⟩ : S29)] : List (S29))) 1 (-1) 0 false 0 9).bind fun bt168 => ((fairwaylaw13_num.f t164).bind fun t170 => (if t170 = 0 then (if t163 = 0 then ((fairwaylaw13_num.f bt168.2).bind fun t171 => (if t171 = 0 then (some (bt168.1 == 1)) else (some false))) else (some false)) else (some false)))) = some r := H
 have A1 := Aside0.mk A10
 clear A10
 obtain ⟨y165, hy165⟩ : ∃ y_ : List (S29), y_ = (([(⟨0, ([] : List (S25))⟩ : S29), (⟨0, ([] : List (S25))⟩ : S29)] : List (S29))) := ⟨_, rfl⟩
 replace H : ((keep_Old.f k y165 1 (-1) 0 false 0 9).bind fun bt168 => ((fairwaylaw13_num.f t164).bind fun t170 => (if t170 = 0 then (if t163 = 0 then ((fairwaylaw13_num.f bt168.2).bind fun t171 => (if t171 = 0 then (some (bt168.1 == 1)) else (some false))) else (some false)) else (some false)))) = some r := by first | (rw [hy165]; with_reducible exact H) | (have H2_ := (Option.bind_some _ _).symm.trans H; rw [hy165]; with_reducible exact H2_) | (have H2_ := (Option.bind_some _ _).symm.trans H; with_reducible exact H2_) | with_reducible exact H | (rw [hy165]; exact H) | exact H
 have Ny165 := Aside0.mk hy165
 clear hy165
 replace H := Option.bind_eq_some_iff.mp H
 obtain ⟨⟨t168, t169⟩, A20, H⟩ := H
 replace H : ((fairwaylaw13_num.f t164).bind fun t170 => (if t170 = 0 then (if t163 = 0 then ((fairwaylaw13_num.f t169).bind fun t171 => (if t171 = 0 then (some (t168 == 1)) else (some false))) else (some false)) else (some false))) = some r := H
 have A2 := Aside0.mk A20
 clear A20
 replace H := Option.bind_eq_some_iff.mp H
 obtain ⟨t170, A30, H⟩ := H
 replace H : (if t170 = 0 then (if t163 = 0 then ((fairwaylaw13_num.f t169).bind fun t171 => (if t171 = 0 then (some (t168 == 1)) else (some false))) else (some false)) else (some false)) = some r := H
 have A3 := Aside0.mk A30
 clear A30
 by_cases c4 : t170 = 0
 ·rw [if_pos c4] at H
  have c4b0 : (t170 == 0) = true := beq_iff_eq.mpr c4
  have c4b1 : (t170 != 0) = false := bne_eq_false_iff_eq.mpr c4
  clear c4
  by_cases c5 : t163 = 0
  ·rw [if_pos c5] at H
   have c5b0 : (t163 == 0) = true := beq_iff_eq.mpr c5
   have c5b1 : (t163 != 0) = false := bne_eq_false_iff_eq.mpr c5
   clear c5
   replace H := Option.bind_eq_some_iff.mp H
   obtain ⟨t171, A60, H⟩ := H
   replace H : (if t171 = 0 then (some (t168 == 1)) else (some false)) = some r := H
   have A6 := Aside0.mk A60
   clear A60
   by_cases c7 : t171 = 0
   ·rw [if_pos c7] at H
    have c7b0 : (t171 == 0) = true := beq_iff_eq.mpr c7
    have c7b1 : (t171 != 0) = false := bne_eq_false_iff_eq.mpr c7
    clear c7
    obtain rfl := Option.some.inj H
    go_enter Try.func13, Try.ntmps13
    go_wp2_with (first | ((with_reducible refine gate_dst (N := 8) rfl ?_); refine Kd.S_lit k29 _ 29 ?hg (N := 8) ?hd (xs := ([(⟨0, ([] : List (S25))⟩ : S29), (⟨0, ([] : List (S25))⟩ : S29)] : List (S29))) (inner := [.int .i64 0, .slice none 0 0, .int .i64 0, .slice none 0 0]) (ok := fun _ => True) (okp := fun _ => True) ?hr ?hp (fun _ hk => hk) trivial (Below.refl _ _) (Nat.le_refl _) (by simp) ?_; (case hd => rfl); (case hg => rfl); (case hr => first | (go_simp; done) | (go_simp; rfl)); (case hp => exact (Reps.c2 (show Kd.M k29 _ _ _ (⟨0, ([] : List (S25))⟩ : S29) [.int .i64 0, .slice none 0 0] from (k29_mkM _ _ _ (⟨0, ([] : List (S25))⟩ : S29) (Kd.R_nil _ _ _ _ _))) (Reps.c2 (show Kd.M k29 _ _ _ (⟨0, ([] : List (S25))⟩ : S29) [.int .i64 0, .slice none 0 0] from (k29_mkM _ _ _ (⟨0, ([] : List (S25))⟩ : S29) (Kd.R_nil _ _ _ _ _))) (Reps.none _ _)))); intro v161 w8 ho9 hb hg_ hnew_; clear hg_ hnew_; (first | rw [← Ny160.out] at ho9 | (simp only [Int.reduceToNat] at ho9; rw [← Ny160.out] at ho9)); have HO162 := Aside0.mk (Kd.S_lower ho9 (below_size bo)); replace HB := Aside0.mk (below_step bo hb); clear hb ho9; obtain ⟨Ao10, co10, eo10⟩ := Kd.S_slice HO162.out; subst eo10) | ((with_reducible refine gate_callee (f := 11) rfl ?_); refine goesL_ (some 10) rfl rfl Try.func11 (by kernel_rfl) rfl #[.slice Ao10 y160.length co10, .agg #[.int .i64 1, .int .i64 (-1), .int .i64 (-1), .bool false, .int .i64 0], .int .i64 9] rfl aa ?_; (with_reducible refine (keep_Old.calls k _ _ y160 1 (-1) (-1) false 0 9 t163 t164 _ ?side1 ?side2 A1.out).mono ?_); (case side1 => repeat (first | exact (Kd.S_reads' HO162.out).2.2 | (with_reducible refine Kd.C_alloc ?_ _) | (with_reducible refine Kd.C_drewN ?_ _) | (with_reducible refine Kd.C_drew ?_))); (case side2 => exact (Kd.S_reads' HO162.out).2.1); rintro e w11 ⟨rfl, hb⟩; refine ⟨_, rfl, ?_⟩; replace HO162 := Aside0.mk (Kd.S_below (by (with_reducible repeat (first | apply Kd.S_alloc | apply Kd.S_drewN | apply Kd.S_drew)); exact HO162.out) hb); replace HB := Aside0.mk (below_step bo hb); (try clear hb); (try clear hb2); (try clear hk); (try clear hi)) | ((with_reducible refine gate_dst (N := 16) rfl ?_); refine Kd.S_lit k29 _ 29 ?hg (N := 16) ?hd (xs := ([(⟨0, ([] : List (S25))⟩ : S29), (⟨0, ([] : List (S25))⟩ : S29)] : List (S29))) (inner := [.int .i64 0, .slice none 0 0, .int .i64 0, .slice none 0 0]) (ok := fun _ => True) (okp := fun _ => True) ?hr ?hp (fun _ hk => hk) trivial (Below.refl _ _) (Nat.le_refl _) (by simp) ?_; (case hd => rfl); (case hg => rfl); (case hr => first | (go_simp; done) | (go_simp; rfl)); (case hp => exact (Reps.c2 (show Kd.M k29 _ _ _ (⟨0, ([] : List (S25))⟩ : S29) [.int .i64 0, .slice none 0 0] from (k29_mkM _ _ _ (⟨0, ([] : List (S25))⟩ : S29) (Kd.R_nil _ _ _ _ _))) (Reps.c2 (show Kd.M k29 _ _ _ (⟨0, ([] : List (S25))⟩ : S29) [.int .i64 0, .slice none 0 0] from (k29_mkM _ _ _ (⟨0, ([] : List (S25))⟩ : S29) (Kd.R_nil _ _ _ _ _))) (Reps.none _ _)))); intro v166 w12 ho13 hb hg_ hnew_; clear hg_ hnew_; (first | rw [← Ny165.out] at ho13 | (simp only [Int.reduceToNat] at ho13; rw [← Ny165.out] at ho13)); have HO167 := Aside0.mk (Kd.S_lower (Kd.S_new' ho13 (Kd.S_lt (by (with_reducible repeat (first | apply Kd.S_alloc | apply Kd.S_drewN | apply Kd.S_drew)); exact HO162.out))) (below_size bo)); replace HO162 := Aside0.mk (Kd.S_elder' (by (with_reducible repeat (first | apply Kd.S_alloc | apply Kd.S_drewN | apply Kd.S_drew)); exact HO162.out) (Kd.S_base ho13) hb); replace HB := Aside0.mk (below_step bo hb); clear hb ho13; obtain ⟨Ao14, co14, eo14⟩ := Kd.S_slice HO167.out; subst eo14) | ((with_reducible refine gate_callee (f := 11) rfl ?_); refine goesL_ (some 18) rfl rfl Try.func11 (by kernel_rfl) rfl #[.slice Ao14 y165.length co14, .agg #[.int .i64 1, .int .i64 (-1), .int .i64 0, .bool false, .int .i64 0], .int .i64 9] rfl aa ?_; (with_reducible refine (keep_Old.calls k _ _ y165 1 (-1) 0 false 0 9 t168 t169 _ ?side1 ?side2 A2.out).mono ?_); (case side1 => repeat (first | exact (Kd.S_reads' HO167.out).2.2 | (with_reducible refine Kd.C_alloc ?_ _) | (with_reducible refine Kd.C_drewN ?_ _) | (with_reducible refine Kd.C_drew ?_))); (case side2 => exact (Kd.S_reads' HO167.out).2.1); rintro e w15 ⟨rfl, hb⟩; refine ⟨_, rfl, ?_⟩; replace HO162 := Aside0.mk (Kd.S_below (by (with_reducible repeat (first | apply Kd.S_alloc | apply Kd.S_drewN | apply Kd.S_drew)); exact HO162.out) hb); replace HO167 := Aside0.mk (Kd.S_below (by (with_reducible repeat (first | apply Kd.S_alloc | apply Kd.S_drewN | apply Kd.S_drew)); exact HO167.out) hb); replace HB := Aside0.mk (below_step bo hb); (try clear hb); (try clear hb2); (try clear hk); (try clear hi)) | ((with_reducible refine gate_callee (f := 12) rfl ?_); refine goesL_ (some 22) rfl rfl Try.func12 (by kernel_rfl) rfl #[.int .i64 t164] rfl aa ?_; (with_reducible refine (fairwaylaw13_num.calls t164 t170 _ A3.out).mono ?_); rintro e w' ⟨rfl, ⟨nd, rfl⟩⟩; refine ⟨_, rfl, ?_⟩) | (go_at_call 12; (with_reducible refine (fairwaylaw13_num.calls t169 t171 _ A6.out).mono ?_); rintro e w' ⟨rfl, ⟨nd, rfl⟩⟩))
    go_ret
    exact ⟨er, bo⟩
   ·rw [if_neg c7] at H
    have c7b0 : (t171 == 0) = false := beq_eq_false_iff_ne.mpr c7
    have c7b1 : (t171 != 0) = true := bne_iff_ne.mpr c7
    obtain rfl := Option.some.inj H
    go_enter Try.func13, Try.ntmps13
    go_wp2_with (first | ((with_reducible refine gate_dst (N := 8) rfl ?_); refine Kd.S_lit k29 _ 29 ?hg (N := 8) ?hd (xs := ([(⟨0, ([] : List (S25))⟩ : S29), (⟨0, ([] : List (S25))⟩ : S29)] : List (S29))) (inner := [.int .i64 0, .slice none 0 0, .int .i64 0, .slice none 0 0]) (ok := fun _ => True) (okp := fun _ => True) ?hr ?hp (fun _ hk => hk) trivial (Below.refl _ _) (Nat.le_refl _) (by simp) ?_; (case hd => rfl); (case hg => rfl); (case hr => first | (go_simp; done) | (go_simp; rfl)); (case hp => exact (Reps.c2 (show Kd.M k29 _ _ _ (⟨0, ([] : List (S25))⟩ : S29) [.int .i64 0, .slice none 0 0] from (k29_mkM _ _ _ (⟨0, ([] : List (S25))⟩ : S29) (Kd.R_nil _ _ _ _ _))) (Reps.c2 (show Kd.M k29 _ _ _ (⟨0, ([] : List (S25))⟩ : S29) [.int .i64 0, .slice none 0 0] from (k29_mkM _ _ _ (⟨0, ([] : List (S25))⟩ : S29) (Kd.R_nil _ _ _ _ _))) (Reps.none _ _)))); intro v161 w16 ho17 hb hg_ hnew_; clear hg_ hnew_; (first | rw [← Ny160.out] at ho17 | (simp only [Int.reduceToNat] at ho17; rw [← Ny160.out] at ho17)); have HO162 := Aside0.mk (Kd.S_lower ho17 (below_size bo)); replace HB := Aside0.mk (below_step bo hb); clear hb ho17; obtain ⟨Ao18, co18, eo18⟩ := Kd.S_slice HO162.out; subst eo18) | ((with_reducible refine gate_callee (f := 11) rfl ?_); refine goesL_ (some 10) rfl rfl Try.func11 (by kernel_rfl) rfl #[.slice Ao18 y160.length co18, .agg #[.int .i64 1, .int .i64 (-1), .int .i64 (-1), .bool false, .int .i64 0], .int .i64 9] rfl aa ?_; (with_reducible refine (keep_Old.calls k _ _ y160 1 (-1) (-1) false 0 9 t163 t164 _ ?side1 ?side2 A1.out).mono ?_); (case side1 => repeat (first | exact (Kd.S_reads' HO162.out).2.2 | (with_reducible refine Kd.C_alloc ?_ _) | (with_reducible refine Kd.C_drewN ?_ _) | (with_reducible refine Kd.C_drew ?_))); (case side2 => exact (Kd.S_reads' HO162.out).2.1); rintro e w19 ⟨rfl, hb⟩; refine ⟨_, rfl, ?_⟩; replace HO162 := Aside0.mk (Kd.S_below (by (with_reducible repeat (first | apply Kd.S_alloc | apply Kd.S_drewN | apply Kd.S_drew)); exact HO162.out) hb); replace HB := Aside0.mk (below_step bo hb); (try clear hb); (try clear hb2); (try clear hk); (try clear hi)) | ((with_reducible refine gate_dst (N := 16) rfl ?_); refine Kd.S_lit k29 _ 29 ?hg (N := 16) ?hd (xs := ([(⟨0, ([] : List (S25))⟩ : S29), (⟨0, ([] : List (S25))⟩ : S29)] : List (S29))) (inner := [.int .i64 0, .slice none 0 0, .int .i64 0, .slice none 0 0]) (ok := fun _ => True) (okp := fun _ => True) ?hr ?hp (fun _ hk => hk) trivial (Below.refl _ _) (Nat.le_refl _) (by simp) ?_; (case hd => rfl); (case hg => rfl); (case hr => first | (go_simp; done) | (go_simp; rfl)); (case hp => exact (Reps.c2 (show Kd.M k29 _ _ _ (⟨0, ([] : List (S25))⟩ : S29) [.int .i64 0, .slice none 0 0] from (k29_mkM _ _ _ (⟨0, ([] : List (S25))⟩ : S29) (Kd.R_nil _ _ _ _ _))) (Reps.c2 (show Kd.M k29 _ _ _ (⟨0, ([] : List (S25))⟩ : S29) [.int .i64 0, .slice none 0 0] from (k29_mkM _ _ _ (⟨0, ([] : List (S25))⟩ : S29) (Kd.R_nil _ _ _ _ _))) (Reps.none _ _)))); intro v166 w20 ho21 hb hg_ hnew_; clear hg_ hnew_; (first | rw [← Ny165.out] at ho21 | (simp only [Int.reduceToNat] at ho21; rw [← Ny165.out] at ho21)); have HO167 := Aside0.mk (Kd.S_lower (Kd.S_new' ho21 (Kd.S_lt (by (with_reducible repeat (first | apply Kd.S_alloc | apply Kd.S_drewN | apply Kd.S_drew)); exact HO162.out))) (below_size bo)); replace HO162 := Aside0.mk (Kd.S_elder' (by (with_reducible repeat (first | apply Kd.S_alloc | apply Kd.S_drewN | apply Kd.S_drew)); exact HO162.out) (Kd.S_base ho21) hb); replace HB := Aside0.mk (below_step bo hb); clear hb ho21; obtain ⟨Ao22, co22, eo22⟩ := Kd.S_slice HO167.out; subst eo22) | ((with_reducible refine gate_callee (f := 11) rfl ?_); refine goesL_ (some 18) rfl rfl Try.func11 (by kernel_rfl) rfl #[.slice Ao22 y165.length co22, .agg #[.int .i64 1, .int .i64 (-1), .int .i64 0, .bool false, .int .i64 0], .int .i64 9] rfl aa ?_; (with_reducible refine (keep_Old.calls k _ _ y165 1 (-1) 0 false 0 9 t168 t169 _ ?side1 ?side2 A2.out).mono ?_); (case side1 => repeat (first | exact (Kd.S_reads' HO167.out).2.2 | (with_reducible refine Kd.C_alloc ?_ _) | (with_reducible refine Kd.C_drewN ?_ _) | (with_reducible refine Kd.C_drew ?_))); (case side2 => exact (Kd.S_reads' HO167.out).2.1); rintro e w23 ⟨rfl, hb⟩; refine ⟨_, rfl, ?_⟩; replace HO162 := Aside0.mk (Kd.S_below (by (with_reducible repeat (first | apply Kd.S_alloc | apply Kd.S_drewN | apply Kd.S_drew)); exact HO162.out) hb); replace HO167 := Aside0.mk (Kd.S_below (by (with_reducible repeat (first | apply Kd.S_alloc | apply Kd.S_drewN | apply Kd.S_drew)); exact HO167.out) hb); replace HB := Aside0.mk (below_step bo hb); (try clear hb); (try clear hb2); (try clear hk); (try clear hi)) | ((with_reducible refine gate_callee (f := 12) rfl ?_); refine goesL_ (some 22) rfl rfl Try.func12 (by kernel_rfl) rfl #[.int .i64 t164] rfl aa ?_; (with_reducible refine (fairwaylaw13_num.calls t164 t170 _ A3.out).mono ?_); rintro e w' ⟨rfl, ⟨nd, rfl⟩⟩; refine ⟨_, rfl, ?_⟩) | (go_at_call 12; (with_reducible refine (fairwaylaw13_num.calls t169 t171 _ A6.out).mono ?_); rintro e w' ⟨rfl, ⟨nd, rfl⟩⟩))
    go_ret
    exact ⟨er, bo⟩
  ·rw [if_neg c5] at H
   have c5b0 : (t163 == 0) = false := beq_eq_false_iff_ne.mpr c5
   have c5b1 : (t163 != 0) = true := bne_iff_ne.mpr c5
   obtain rfl := Option.some.inj H
   go_enter Try.func13, Try.ntmps13
   go_wp2_with (first | ((with_reducible refine gate_dst (N := 8) rfl ?_); refine Kd.S_lit k29 _ 29 ?hg (N := 8) ?hd (xs := ([(⟨0, ([] : List (S25))⟩ : S29), (⟨0, ([] : List (S25))⟩ : S29)] : List (S29))) (inner := [.int .i64 0, .slice none 0 0, .int .i64 0, .slice none 0 0]) (ok := fun _ => True) (okp := fun _ => True) ?hr ?hp (fun _ hk => hk) trivial (Below.refl _ _) (Nat.le_refl _) (by simp) ?_; (case hd => rfl); (case hg => rfl); (case hr => first | (go_simp; done) | (go_simp; rfl)); (case hp => exact (Reps.c2 (show Kd.M k29 _ _ _ (⟨0, ([] : List (S25))⟩ : S29) [.int .i64 0, .slice none 0 0] from (k29_mkM _ _ _ (⟨0, ([] : List (S25))⟩ : S29) (Kd.R_nil _ _ _ _ _))) (Reps.c2 (show Kd.M k29 _ _ _ (⟨0, ([] : List (S25))⟩ : S29) [.int .i64 0, .slice none 0 0] from (k29_mkM _ _ _ (⟨0, ([] : List (S25))⟩ : S29) (Kd.R_nil _ _ _ _ _))) (Reps.none _ _)))); intro v161 w24 ho25 hb hg_ hnew_; clear hg_ hnew_; (first | rw [← Ny160.out] at ho25 | (simp only [Int.reduceToNat] at ho25; rw [← Ny160.out] at ho25)); have HO162 := Aside0.mk (Kd.S_lower ho25 (below_size bo)); replace HB := Aside0.mk (below_step bo hb); clear hb ho25; obtain ⟨Ao26, co26, eo26⟩ := Kd.S_slice HO162.out; subst eo26) | ((with_reducible refine gate_callee (f := 11) rfl ?_); refine goesL_ (some 10) rfl rfl Try.func11 (by kernel_rfl) rfl #[.slice Ao26 y160.length co26, .agg #[.int .i64 1, .int .i64 (-1), .int .i64 (-1), .bool false, .int .i64 0], .int .i64 9] rfl aa ?_; (with_reducible refine (keep_Old.calls k _ _ y160 1 (-1) (-1) false 0 9 t163 t164 _ ?side1 ?side2 A1.out).mono ?_); (case side1 => repeat (first | exact (Kd.S_reads' HO162.out).2.2 | (with_reducible refine Kd.C_alloc ?_ _) | (with_reducible refine Kd.C_drewN ?_ _) | (with_reducible refine Kd.C_drew ?_))); (case side2 => exact (Kd.S_reads' HO162.out).2.1); rintro e w27 ⟨rfl, hb⟩; refine ⟨_, rfl, ?_⟩; replace HO162 := Aside0.mk (Kd.S_below (by (with_reducible repeat (first | apply Kd.S_alloc | apply Kd.S_drewN | apply Kd.S_drew)); exact HO162.out) hb); replace HB := Aside0.mk (below_step bo hb); (try clear hb); (try clear hb2); (try clear hk); (try clear hi)) | ((with_reducible refine gate_dst (N := 16) rfl ?_); refine Kd.S_lit k29 _ 29 ?hg (N := 16) ?hd (xs := ([(⟨0, ([] : List (S25))⟩ : S29), (⟨0, ([] : List (S25))⟩ : S29)] : List (S29))) (inner := [.int .i64 0, .slice none 0 0, .int .i64 0, .slice none 0 0]) (ok := fun _ => True) (okp := fun _ => True) ?hr ?hp (fun _ hk => hk) trivial (Below.refl _ _) (Nat.le_refl _) (by simp) ?_; (case hd => rfl); (case hg => rfl); (case hr => first | (go_simp; done) | (go_simp; rfl)); (case hp => exact (Reps.c2 (show Kd.M k29 _ _ _ (⟨0, ([] : List (S25))⟩ : S29) [.int .i64 0, .slice none 0 0] from (k29_mkM _ _ _ (⟨0, ([] : List (S25))⟩ : S29) (Kd.R_nil _ _ _ _ _))) (Reps.c2 (show Kd.M k29 _ _ _ (⟨0, ([] : List (S25))⟩ : S29) [.int .i64 0, .slice none 0 0] from (k29_mkM _ _ _ (⟨0, ([] : List (S25))⟩ : S29) (Kd.R_nil _ _ _ _ _))) (Reps.none _ _)))); intro v166 w28 ho29 hb hg_ hnew_; clear hg_ hnew_; (first | rw [← Ny165.out] at ho29 | (simp only [Int.reduceToNat] at ho29; rw [← Ny165.out] at ho29)); have HO167 := Aside0.mk (Kd.S_lower (Kd.S_new' ho29 (Kd.S_lt (by (with_reducible repeat (first | apply Kd.S_alloc | apply Kd.S_drewN | apply Kd.S_drew)); exact HO162.out))) (below_size bo)); replace HO162 := Aside0.mk (Kd.S_elder' (by (with_reducible repeat (first | apply Kd.S_alloc | apply Kd.S_drewN | apply Kd.S_drew)); exact HO162.out) (Kd.S_base ho29) hb); replace HB := Aside0.mk (below_step bo hb); clear hb ho29; obtain ⟨Ao30, co30, eo30⟩ := Kd.S_slice HO167.out; subst eo30) | ((with_reducible refine gate_callee (f := 11) rfl ?_); refine goesL_ (some 18) rfl rfl Try.func11 (by kernel_rfl) rfl #[.slice Ao30 y165.length co30, .agg #[.int .i64 1, .int .i64 (-1), .int .i64 0, .bool false, .int .i64 0], .int .i64 9] rfl aa ?_; (with_reducible refine (keep_Old.calls k _ _ y165 1 (-1) 0 false 0 9 t168 t169 _ ?side1 ?side2 A2.out).mono ?_); (case side1 => repeat (first | exact (Kd.S_reads' HO167.out).2.2 | (with_reducible refine Kd.C_alloc ?_ _) | (with_reducible refine Kd.C_drewN ?_ _) | (with_reducible refine Kd.C_drew ?_))); (case side2 => exact (Kd.S_reads' HO167.out).2.1); rintro e w31 ⟨rfl, hb⟩; refine ⟨_, rfl, ?_⟩; replace HO162 := Aside0.mk (Kd.S_below (by (with_reducible repeat (first | apply Kd.S_alloc | apply Kd.S_drewN | apply Kd.S_drew)); exact HO162.out) hb); replace HO167 := Aside0.mk (Kd.S_below (by (with_reducible repeat (first | apply Kd.S_alloc | apply Kd.S_drewN | apply Kd.S_drew)); exact HO167.out) hb); replace HB := Aside0.mk (below_step bo hb); (try clear hb); (try clear hb2); (try clear hk); (try clear hi)) | ((with_reducible refine gate_callee (f := 12) rfl ?_); refine goesL_ (some 22) rfl rfl Try.func12 (by kernel_rfl) rfl #[.int .i64 t164] rfl aa ?_; (with_reducible refine (fairwaylaw13_num.calls t164 t170 _ A3.out).mono ?_); rintro e w' ⟨rfl, ⟨nd, rfl⟩⟩; refine ⟨_, rfl, ?_⟩))
   go_ret
   exact ⟨er, bo⟩
 ·rw [if_neg c4] at H
  have c4b0 : (t170 == 0) = false := beq_eq_false_iff_ne.mpr c4
  have c4b1 : (t170 != 0) = true := bne_iff_ne.mpr c4
  obtain rfl := Option.some.inj H
  go_enter Try.func13, Try.ntmps13
  go_wp2_with (first | ((with_reducible refine gate_dst (N := 8) rfl ?_); refine Kd.S_lit k29 _ 29 ?hg (N := 8) ?hd (xs := ([(⟨0, ([] : List (S25))⟩ : S29), (⟨0, ([] : List (S25))⟩ : S29)] : List (S29))) (inner := [.int .i64 0, .slice none 0 0, .int .i64 0, .slice none 0 0]) (ok := fun _ => True) (okp := fun _ => True) ?hr ?hp (fun _ hk => hk) trivial (Below.refl _ _) (Nat.le_refl _) (by simp) ?_; (case hd => rfl); (case hg => rfl); (case hr => first | (go_simp; done) | (go_simp; rfl)); (case hp => exact (Reps.c2 (show Kd.M k29 _ _ _ (⟨0, ([] : List (S25))⟩ : S29) [.int .i64 0, .slice none 0 0] from (k29_mkM _ _ _ (⟨0, ([] : List (S25))⟩ : S29) (Kd.R_nil _ _ _ _ _))) (Reps.c2 (show Kd.M k29 _ _ _ (⟨0, ([] : List (S25))⟩ : S29) [.int .i64 0, .slice none 0 0] from (k29_mkM _ _ _ (⟨0, ([] : List (S25))⟩ : S29) (Kd.R_nil _ _ _ _ _))) (Reps.none _ _)))); intro v161 w32 ho33 hb hg_ hnew_; clear hg_ hnew_; (first | rw [← Ny160.out] at ho33 | (simp only [Int.reduceToNat] at ho33; rw [← Ny160.out] at ho33)); have HO162 := Aside0.mk (Kd.S_lower ho33 (below_size bo)); replace HB := Aside0.mk (below_step bo hb); clear hb ho33; obtain ⟨Ao34, co34, eo34⟩ := Kd.S_slice HO162.out; subst eo34) | ((with_reducible refine gate_callee (f := 11) rfl ?_); refine goesL_ (some 10) rfl rfl Try.func11 (by kernel_rfl) rfl #[.slice Ao34 y160.length co34, .agg #[.int .i64 1, .int .i64 (-1), .int .i64 (-1), .bool false, .int .i64 0], .int .i64 9] rfl aa ?_; (with_reducible refine (keep_Old.calls k _ _ y160 1 (-1) (-1) false 0 9 t163 t164 _ ?side1 ?side2 A1.out).mono ?_); (case side1 => repeat (first | exact (Kd.S_reads' HO162.out).2.2 | (with_reducible refine Kd.C_alloc ?_ _) | (with_reducible refine Kd.C_drewN ?_ _) | (with_reducible refine Kd.C_drew ?_))); (case side2 => exact (Kd.S_reads' HO162.out).2.1); rintro e w35 ⟨rfl, hb⟩; refine ⟨_, rfl, ?_⟩; replace HO162 := Aside0.mk (Kd.S_below (by (with_reducible repeat (first | apply Kd.S_alloc | apply Kd.S_drewN | apply Kd.S_drew)); exact HO162.out) hb); replace HB := Aside0.mk (below_step bo hb); (try clear hb); (try clear hb2); (try clear hk); (try clear hi)) | ((with_reducible refine gate_dst (N := 16) rfl ?_); refine Kd.S_lit k29 _ 29 ?hg (N := 16) ?hd (xs := ([(⟨0, ([] : List (S25))⟩ : S29), (⟨0, ([] : List (S25))⟩ : S29)] : List (S29))) (inner := [.int .i64 0, .slice none 0 0, .int .i64 0, .slice none 0 0]) (ok := fun _ => True) (okp := fun _ => True) ?hr ?hp (fun _ hk => hk) trivial (Below.refl _ _) (Nat.le_refl _) (by simp) ?_; (case hd => rfl); (case hg => rfl); (case hr => first | (go_simp; done) | (go_simp; rfl)); (case hp => exact (Reps.c2 (show Kd.M k29 _ _ _ (⟨0, ([] : List (S25))⟩ : S29) [.int .i64 0, .slice none 0 0] from (k29_mkM _ _ _ (⟨0, ([] : List (S25))⟩ : S29) (Kd.R_nil _ _ _ _ _))) (Reps.c2 (show Kd.M k29 _ _ _ (⟨0, ([] : List (S25))⟩ : S29) [.int .i64 0, .slice none 0 0] from (k29_mkM _ _ _ (⟨0, ([] : List (S25))⟩ : S29) (Kd.R_nil _ _ _ _ _))) (Reps.none _ _)))); intro v166 w36 ho37 hb hg_ hnew_; clear hg_ hnew_; (first | rw [← Ny165.out] at ho37 | (simp only [Int.reduceToNat] at ho37; rw [← Ny165.out] at ho37)); have HO167 := Aside0.mk (Kd.S_lower (Kd.S_new' ho37 (Kd.S_lt (by (with_reducible repeat (first | apply Kd.S_alloc | apply Kd.S_drewN | apply Kd.S_drew)); exact HO162.out))) (below_size bo)); replace HO162 := Aside0.mk (Kd.S_elder' (by (with_reducible repeat (first | apply Kd.S_alloc | apply Kd.S_drewN | apply Kd.S_drew)); exact HO162.out) (Kd.S_base ho37) hb); replace HB := Aside0.mk (below_step bo hb); clear hb ho37; obtain ⟨Ao38, co38, eo38⟩ := Kd.S_slice HO167.out; subst eo38) | ((with_reducible refine gate_callee (f := 11) rfl ?_); refine goesL_ (some 18) rfl rfl Try.func11 (by kernel_rfl) rfl #[.slice Ao38 y165.length co38, .agg #[.int .i64 1, .int .i64 (-1), .int .i64 0, .bool false, .int .i64 0], .int .i64 9] rfl aa ?_; (with_reducible refine (keep_Old.calls k _ _ y165 1 (-1) 0 false 0 9 t168 t169 _ ?side1 ?side2 A2.out).mono ?_); (case side1 => repeat (first | exact (Kd.S_reads' HO167.out).2.2 | (with_reducible refine Kd.C_alloc ?_ _) | (with_reducible refine Kd.C_drewN ?_ _) | (with_reducible refine Kd.C_drew ?_))); (case side2 => exact (Kd.S_reads' HO167.out).2.1); rintro e w39 ⟨rfl, hb⟩; refine ⟨_, rfl, ?_⟩; replace HO162 := Aside0.mk (Kd.S_below (by (with_reducible repeat (first | apply Kd.S_alloc | apply Kd.S_drewN | apply Kd.S_drew)); exact HO162.out) hb); replace HO167 := Aside0.mk (Kd.S_below (by (with_reducible repeat (first | apply Kd.S_alloc | apply Kd.S_drewN | apply Kd.S_drew)); exact HO167.out) hb); replace HB := Aside0.mk (below_step bo hb); (try clear hb); (try clear hb2); (try clear hk); (try clear hi)) | ((with_reducible refine gate_callee (f := 12) rfl ?_); refine goesL_ (some 22) rfl rfl Try.func12 (by kernel_rfl) rfl #[.int .i64 t164] rfl aa ?_; (with_reducible refine (fairwaylaw13_num.calls t164 t170 _ A3.out).mono ?_); rintro e w' ⟨rfl, ⟨nd, rfl⟩⟩; refine ⟨_, rfl, ?_⟩))
  go_ret
  exact ⟨er, bo⟩

end Go.Proofs.Ytigmekgknhoidaa.P

-- written by a program of the proving session, out of the translation; Lean checks it
namespace Go.Proofs.Ytigmekgknhoidaa.P
open Go.RowKit Go.Proofs.Ytigmekgknhoidaa.Sq Go.Proofs.YtigmekgknhoidaaW.PrintWords Go.Proofs.YtigmekgknhoidaaW.PrintLast Go.Proofs.YtigmekgknhoidaaW.PrintMore
attribute [local go_sem] max2_int min2_int max_two min_two max_three min_three max_four min_four   -- for this text's walks alone
set_option linter.unusedVariables false
set_option linter.unusedSimpArgs false

/-! ### fairwaylaw13_KeepBytes: function 3 -/
mutual
def fairwaylaw13_KeepBytes.l0 : Nat → List (S41) → List (S29) → Int → Int → Option (Bool)
 | 0, _, _, _, _ => none
 | k + 1, x0, x3, x4, x5 => if x5 < 10 then ((fairwaylaw10_R.f x5 (wrap64 (10 * x5)) (⟨#[107]⟩ : ByteArray) (⟨#[98, 111, 100, 121]⟩ : ByteArray)).bind fun bt172 => (if x3.length < 4398046511104 then ((fairwayref10_Bytes.f k bt172.1 bt172.2.1 bt172.2.2.1 bt172.2.2.2.1 bt172.2.2.2.2.1 bt172.2.2.2.2.2).bind fun t185 => (fairwaylaw13_KeepBytes.l0 k x0 (x3 ++ [(⟨x5, (([(⟨bt172.1, bt172.2.1, bt172.2.2.1, bt172.2.2.2.1, bt172.2.2.2.2.1, bt172.2.2.2.2.2⟩ : S25)] : List (S25)))⟩ : S29)]) (t185.size : Int) (wrap64 (x5 + 1)))) else (none))) else (fairwaylaw13_KeepBytes.l1 k x0 x3 x4 0)
def fairwaylaw13_KeepBytes.l1 : Nat → List (S41) → List (S29) → Int → Int → Option (Bool)
 | 0, _, _, _, _ => none
 | k + 1, x0, x3, x4, x7 => if x7 ≤ 10 then ((keep_Old.f k x3 1 (wrap64 (x7 * x4)) (-1) false 0 0).bind fun bt187 => ((keep_Old.f k x3 1 (-1) 5 false 0 (wrap64 (10 * x7))).bind fun bt189 => ((fairwaylaw13_num.f bt187.2).bind fun t191 => (if t191 = 0 then (if bt187.1 = (wrap64 (9 - (mn x7 9))) then ((fairwaylaw13_num.f bt189.2).bind fun t192 => (if t192 = 0 then (if bt189.1 = (mn x7 9) then (fairwaylaw13_KeepBytes.l1 k x0 x3 x4 (wrap64 (x7 + 1))) else (some false)) else (some false))) else (some false)) else (some false))))) else (if (x0.length : Int) ≥ 0 then ((fairwaylaw13_wakes.f k).bind fun t186 => (some t186)) else (some false))
end
def fairwaylaw13_KeepBytes.f (k : Nat) (l0 : List (S41)) : Option (Bool) := fairwaylaw13_KeepBytes.l0 k l0 ([] : List (S29)) 0 0
theorem fairwaylaw13_KeepBytes.mono_l : ∀ k, (∀ y0 y1 y2 y3, LeO (fairwaylaw13_KeepBytes.l0 k y0 y1 y2 y3) (fairwaylaw13_KeepBytes.l0 (k + 1) y0 y1 y2 y3)) ∧ (∀ y0 y1 y2 y3, LeO (fairwaylaw13_KeepBytes.l1 k y0 y1 y2 y3) (fairwaylaw13_KeepBytes.l1 (k + 1) y0 y1 y2 y3))
 | 0 => ⟨fun _ _ _ _ r h => by simp [fairwaylaw13_KeepBytes.l0] at h, fun _ _ _ _ r h => by simp [fairwaylaw13_KeepBytes.l1] at h⟩
 | k + 1 => by
  obtain ⟨ih0, ih1⟩ := fairwaylaw13_KeepBytes.mono_l k
  refine ⟨?_, ?_⟩
  ·intro y0 y1 y2 y3
   unfold fairwaylaw13_KeepBytes.l0
   repeat' first
   | (with_reducible exact ih0 _ _ _ _)
   | (with_reducible exact ih1 _ _ _ _)
   | (with_reducible exact fairwaylaw13_wakes.mono _)
   | (with_reducible exact fairwayref10_Bytes.mono _ _ _ _ _ _ _)
   | (with_reducible exact keep_Old.mono _ _ _ _ _ _ _ _)
   | (with_reducible exact LeO.refl _)
   | (with_reducible exact LeO.none _)
   | (with_reducible refine LeO.ite ?_ ?_)
   | (with_reducible refine LeO.bind ?_ (fun _ => ?_))
   | exact ih0 _ _ _ _
   | exact ih1 _ _ _ _
   | exact fairwaylaw13_wakes.mono _
   | exact fairwayref10_Bytes.mono _ _ _ _ _ _ _
   | exact keep_Old.mono _ _ _ _ _ _ _ _
   | exact LeO.none _
   | refine LeO.ite ?_ ?_
   | refine LeO.bind ?_ (fun _ => ?_)
  ·intro y0 y1 y2 y3
   unfold fairwaylaw13_KeepBytes.l1
   repeat' first
   | (with_reducible exact ih0 _ _ _ _)
   | (with_reducible exact ih1 _ _ _ _)
   | (with_reducible exact fairwaylaw13_wakes.mono _)
   | (with_reducible exact fairwayref10_Bytes.mono _ _ _ _ _ _ _)
   | (with_reducible exact keep_Old.mono _ _ _ _ _ _ _ _)
   | (with_reducible exact LeO.refl _)
   | (with_reducible exact LeO.none _)
   | (with_reducible refine LeO.ite ?_ ?_)
   | (with_reducible refine LeO.bind ?_ (fun _ => ?_))
   | exact ih0 _ _ _ _
   | exact ih1 _ _ _ _
   | exact fairwaylaw13_wakes.mono _
   | exact fairwayref10_Bytes.mono _ _ _ _ _ _ _
   | exact keep_Old.mono _ _ _ _ _ _ _ _
   | exact LeO.none _
   | refine LeO.ite ?_ ?_
   | refine LeO.bind ?_ (fun _ => ?_)
theorem fairwaylaw13_KeepBytes.mono : ∀ a0 k, LeO (fairwaylaw13_KeepBytes.f k a0) (fairwaylaw13_KeepBytes.f (k + 1) a0) := by
 intro a0 k
 obtain ⟨ih0, ih1⟩ := fairwaylaw13_KeepBytes.mono_l k
 unfold fairwaylaw13_KeepBytes.f
 repeat' first
  | (with_reducible exact ih0 _ _ _ _)
  | (with_reducible exact ih1 _ _ _ _)
  | (with_reducible exact fairwaylaw13_wakes.mono _)
  | (with_reducible exact fairwayref10_Bytes.mono _ _ _ _ _ _ _)
  | (with_reducible exact keep_Old.mono _ _ _ _ _ _ _ _)
  | (with_reducible exact LeO.refl _)
  | (with_reducible exact LeO.none _)
  | (with_reducible refine LeO.ite ?_ ?_)
  | (with_reducible refine LeO.bind ?_ (fun _ => ?_))
  | exact ih0 _ _ _ _
  | exact ih1 _ _ _ _
  | exact fairwaylaw13_wakes.mono _
  | exact fairwayref10_Bytes.mono _ _ _ _ _ _ _
  | exact keep_Old.mono _ _ _ _ _ _ _ _
  | exact LeO.none _
  | refine LeO.ite ?_ ?_
  | refine LeO.bind ?_ (fun _ => ?_)
set_option maxHeartbeats 8000000 in
set_option maxRecDepth 100000 in
theorem fairwaylaw13_KeepBytes.calls (k : Nat) (A0 : Option Addr) (c0 : Nat) (l0 : List (S41)) (r : Bool) (w : World) (hr0 : Kd.C k41 w A0 l0.length l0) (hc0 : l0.length ≤ c0) (h : fairwaylaw13_KeepBytes.f k l0 = some r) :
 Calls Try.prog 3 #[.slice A0 l0.length c0] w fun e w' => e = .returned (.bool r) ∧ Below w.heap.size w w' := by
 have hu25 := Try.underlying25
 have hu29 := Try.underlying29
 have hu35 := Try.underlying35
 have HR0 := Aside0.mk hr0
 have HC0 := Aside0.mk hc0
 clear hr0 hc0
 have HB := Aside0.mk (Below.refl w.heap.size w)
 have H : (fairwaylaw13_KeepBytes.l0 k l0 ([] : List (S29)) 0 0) = some r := h
 clear h
 have H' := Aside0.mk H
 clear H
 go_enter Try.func3, Try.ntmps3
 go_wp2
 go_loopg [3, 4, 5] k (fun kq v3 v4 v5 w' => ∃ (x3_1 : List (S29)) (x4_1 : Int) (x5_1 : Int), v4 = .int .i64 x4_1 ∧ v5 = .int .i64 x5_1 ∧ Aside0 (fairwaylaw13_KeepBytes.l0 kq l0 x3_1 x4_1 x5_1 = some r) ∧ Aside0 (kq ≤ k) ∧ Aside0 (Kd.S k29 29 w' w.heap.size (fun _ => True) v3 x3_1) ∧ Aside0 (Below w.heap.size w w'))
 case atStart => exact ⟨(([] : List (S29))), (0), (0), ap, ap, H', ⟨Nat.le_refl _⟩, ⟨by first | exact Kd.S_nil _ _ _ _ _ | exact Kd.N_nil _ _ _ _ _ | exact Kd.V_nil _ _ _ _ _ | exact Kd.Q_nil _ _ _ _ _ | exact Kd.R_nil _ _ _ _ _⟩, ⟨bo⟩⟩
 case round =>
  clear H'
  obtain ⟨x3_1, x4_1, x5_1, rfl, rfl, HA, HK1, HO_3, HB⟩ := hrel
  cases gk with
  | zero => exact absurd HA.out (by simp [fairwaylaw13_KeepBytes.l0])
  | succ k1 =>
   have H := HA.out
   clear HA
   simp only [fairwaylaw13_KeepBytes.l0] at H
   by_cases c2 : x5_1 < 10
   ·rw [if_pos c2] at H
    have c2b0 : decide (x5_1 < 10) = true := decide_eq_true c2
    clear c2
    replace H := Option.bind_eq_some_iff.mp H
    obtain ⟨⟨t172, t173, t174, t175, t176, t177⟩, A30, H⟩ := H
    replace H : (if x3_1.length < 4398046511104 then ((fairwayref10_Bytes.f k1 t172 t173 t174 t175 t176 t177).bind fun t185 => (fairwaylaw13_KeepBytes.l0 k1 l0 (x3_1 ++ [(⟨x5_1, (([(⟨t172, t173, t174, t175, t176, t177⟩ : S25)] : List (S25)))⟩ : S29)]) (t185.size : Int) (wrap64 (x5_1 + 1)))) else (none)) = some r := H
    have A3 := Aside0.mk A30
    clear A30
    obtain ⟨y179, hy179⟩ : ∃ y_ : List (S25), y_ = (([(⟨t172, t173, t174, t175, t176, t177⟩ : S25)] : List (S25))) := ⟨_, rfl⟩
    replace H : (if x3_1.length < 4398046511104 then ((fairwayref10_Bytes.f k1 t172 t173 t174 t175 t176 t177).bind fun t185 => (fairwaylaw13_KeepBytes.l0 k1 l0 (x3_1 ++ [(⟨x5_1, y179⟩ : S29)]) (t185.size : Int) (wrap64 (x5_1 + 1)))) else (none)) = some r := by first | (rw [hy179]; with_reducible exact H) | (have H2_ := (Option.bind_some _ _).symm.trans H; rw [hy179]; with_reducible exact H2_) | (have H2_ := (Option.bind_some _ _).symm.trans H; with_reducible exact H2_) | with_reducible exact H | (rw [hy179]; exact H) | exact H
    have Ny179 := Aside0.mk hy179
    clear hy179
    by_cases c4 : x3_1.length < 4398046511104
    ·rw [if_pos c4] at H
     have LMc4 := Aside0.mk c4
     clear c4
     obtain ⟨y182, hy182⟩ : ∃ y_ : List (S29), y_ = (x3_1 ++ [(⟨x5_1, y179⟩ : S29)]) := ⟨_, rfl⟩
     replace H : ((fairwayref10_Bytes.f k1 t172 t173 t174 t175 t176 t177).bind fun t185 => (fairwaylaw13_KeepBytes.l0 k1 l0 y182 (t185.size : Int) (wrap64 (x5_1 + 1)))) = some r := by first | (rw [hy182]; with_reducible exact H) | (have H2_ := (Option.bind_some _ _).symm.trans H; rw [hy182]; with_reducible exact H2_) | (have H2_ := (Option.bind_some _ _).symm.trans H; with_reducible exact H2_) | with_reducible exact H | (rw [hy182]; exact H) | exact H
     have Ny182 := Aside0.mk hy182
     clear hy182
     replace H := Option.bind_eq_some_iff.mp H
     obtain ⟨t185, A50, H⟩ := H
     replace H : (fairwaylaw13_KeepBytes.l0 k1 l0 y182 (t185.size : Int) (wrap64 (x5_1 + 1))) = some r := H
     have A5 := Aside0.mk A50
     clear A50
     have H' := Aside0.mk H
     clear H
     go_wp2_with (first | ((with_reducible refine gate_callee (f := 9) rfl ?_); refine goesL_ (some 19) rfl rfl Try.func9 (by kernel_rfl) rfl #[.int .i64 x5_1, .int .i64 (wrap64 (10 * x5_1)), .string (⟨#[107]⟩ : ByteArray), .string (⟨#[98, 111, 100, 121]⟩ : ByteArray)] rfl aa ?_; (with_reducible refine (fairwaylaw10_R.calls x5_1 (wrap64 (10 * x5_1)) (⟨#[107]⟩ : ByteArray) (⟨#[98, 111, 100, 121]⟩ : ByteArray) t172 t173 t174 t175 t176 t177 _ A3.out).mono ?_); rintro e w6 ⟨rfl, hb⟩; refine ⟨_, rfl, ?_⟩; replace HO_3 := Aside0.mk (Kd.S_below (by (with_reducible repeat (first | apply Kd.S_alloc | apply Kd.S_drewN | apply Kd.S_drew)); exact HO_3.out) hb); replace HB := Aside0.mk (below_step bo hb); (try clear hb); (try clear hb2); (try clear hk); (try clear hi)) | ((with_reducible refine gate_dst (N := 6) rfl ?_); (try (refine gate_guard (by rfl) ?_; dsimp only)); refine box_event ?hg (N := 6) ?hd (cs := #[.int .i64 0, .int .i64 0, .string (⟨#[]⟩ : ByteArray), .string (⟨#[]⟩ : ByteArray), .int .i64 0, .bool false]) (t := 25) ?hr ?_; (case hd => rfl); (case hg => rfl); (case hr => first | (go_simp; done) | (go_simp; rfl)); intro gb178 hg w7 hbox hb; replace HO_3 := Aside0.mk (Kd.S_below (Kd.S_elderB (by (with_reducible repeat (first | apply Kd.S_alloc | apply Kd.S_drewN | apply Kd.S_drew)); exact HO_3.out) gb178 (Nat.le_of_eq hg.symm)) hb); have BK178 := Aside0.mk (hbox); have GW178 := Aside0.mk ((by rw [hg]; exact (below_size bo) : w.heap.size ≤ gb178)); have GE178 := Aside0.mk ((by rw [hg]; exact (below_size bo) : w.heap.size ≤ gb178)); replace HB := Aside0.mk (below_step bo hb); clear hb hbox hg; obtain ⟨hcz8_0, hcz8_1, hcz8_2, hcz8_3, hcz8_4, hcz8_5⟩ := cl6 BK178.out; obtain ⟨hfz8_0, hfz8_1, hfz8_2, hfz8_3, hfz8_4, hfz8_5⟩ := fz6 BK178.out) | ((with_reducible refine gate_dst (N := 23) rfl ?_); (try (refine gate_guard (by rfl) ?_; dsimp only)); refine Kd.R_lit k25 _ 25 ?hg (N := 23) ?hd (xs := ([(⟨t172, t173, t174, t175, t176, t177⟩ : S25)] : List (S25))) (inner := [.int .i64 t172, .int .i64 t173, .string t174, .string t175, .int .i64 t176, .bool t177]) (ok := fun _ => True) (okp := fun _ => True) ?hr ?hp (fun _ hk => hk) trivial (Below.refl _ _) (Nat.le_refl _) (by simp) ?_; (case hd => rfl); (case hg => rfl); (case hr => first | (go_simp; done) | (go_simp; rfl)); (case hp => exact (Reps.c6 (show Kd.M k25 _ _ _ (⟨t172, t173, t174, t175, t176, t177⟩ : S25) [.int .i64 t172, .int .i64 t173, .string t174, .string t175, .int .i64 t176, .bool t177] from (k25_mkM _ _ _ (⟨t172, t173, t174, t175, t176, t177⟩ : S25) )) (Reps.none _ _))); intro v180 w9 ho10 hb hg_ hnew_; clear hg_ hnew_; (first | rw [← Ny179.out] at ho10 | (simp only [Int.reduceToNat] at ho10; rw [← Ny179.out] at ho10)); replace HO_3 := Aside0.mk (Kd.S_elder' (by (with_reducible repeat (first | apply Kd.S_alloc | apply Kd.S_drewN | apply Kd.S_drew)); exact (Kd.S_mono (Kd.S_far (p := ⟨gb178, 5, none⟩) (Kd.S_far (p := ⟨gb178, 4, none⟩) (Kd.S_far (p := ⟨gb178, 3, none⟩) (Kd.S_far (p := ⟨gb178, 2, none⟩) (Kd.S_far (p := ⟨gb178, 1, none⟩) (Kd.S_far (p := ⟨gb178, 0, none⟩) (Kd.S_mono HO_3.out (fun k_ hk => (⟨hk, hk.2⟩ : _ ∧ k_ ≠ gb178))) (fun _ hk => hk.2) (.int .i64 t172)) (fun _ hk => hk.2) (.int .i64 t173)) (fun _ hk => hk.2) (.string t174)) (fun _ hk => hk.2) (.string t175)) (fun _ hk => hk.2) (.int .i64 t176)) (fun _ hk => hk.2) (.bool t177)) (fun _ h_ => h_.1))) (Kd.R_base ho10) hb); have HO181 := Aside0.mk (Kd.R_lower (Kd.R_newB ho10 (g := gb178) (o := .cells #[.int .i64 t172, .int .i64 t173, .string t174, .string t175, .int .i64 t176, .bool t177] 25 (0, 0)) (by (with_reducible repeat (first | refine blk_drewN ?_ _ | refine blk_drew ?_ | refine blk_alloc ?_ _)); refine blk_put (cs := #[.int .i64 t172, .int .i64 t173, .string t174, .string t175, .int .i64 t176, .bool false]) ?_ 5 _ rfl; (with_reducible repeat (first | refine blk_drewN ?_ _ | refine blk_drew ?_ | refine blk_alloc ?_ _)); refine blk_put (cs := #[.int .i64 t172, .int .i64 t173, .string t174, .string t175, .int .i64 0, .bool false]) ?_ 4 _ rfl; (with_reducible repeat (first | refine blk_drewN ?_ _ | refine blk_drew ?_ | refine blk_alloc ?_ _)); refine blk_put (cs := #[.int .i64 t172, .int .i64 t173, .string t174, .string (⟨#[]⟩ : ByteArray), .int .i64 0, .bool false]) ?_ 3 _ rfl; (with_reducible repeat (first | refine blk_drewN ?_ _ | refine blk_drew ?_ | refine blk_alloc ?_ _)); refine blk_put (cs := #[.int .i64 t172, .int .i64 t173, .string (⟨#[]⟩ : ByteArray), .string (⟨#[]⟩ : ByteArray), .int .i64 0, .bool false]) ?_ 2 _ rfl; (with_reducible repeat (first | refine blk_drewN ?_ _ | refine blk_drew ?_ | refine blk_alloc ?_ _)); refine blk_put (cs := #[.int .i64 t172, .int .i64 0, .string (⟨#[]⟩ : ByteArray), .string (⟨#[]⟩ : ByteArray), .int .i64 0, .bool false]) ?_ 1 _ rfl; (with_reducible repeat (first | refine blk_drewN ?_ _ | refine blk_drew ?_ | refine blk_alloc ?_ _)); refine blk_put (cs := #[.int .i64 0, .int .i64 0, .string (⟨#[]⟩ : ByteArray), .string (⟨#[]⟩ : ByteArray), .int .i64 0, .bool false]) ?_ 0 _ rfl; (with_reducible repeat (first | refine blk_drewN ?_ _ | refine blk_drew ?_ | refine blk_alloc ?_ _)); exact BK178.out)) (below_size bo)); replace BK178 := Aside0.mk (blk_below (g := gb178) (o := .cells #[.int .i64 t172, .int .i64 t173, .string t174, .string t175, .int .i64 t176, .bool t177] 25 (0, 0)) (by (with_reducible repeat (first | refine blk_drewN ?_ _ | refine blk_drew ?_ | refine blk_alloc ?_ _)); refine blk_put (cs := #[.int .i64 t172, .int .i64 t173, .string t174, .string t175, .int .i64 t176, .bool false]) ?_ 5 _ rfl; (with_reducible repeat (first | refine blk_drewN ?_ _ | refine blk_drew ?_ | refine blk_alloc ?_ _)); refine blk_put (cs := #[.int .i64 t172, .int .i64 t173, .string t174, .string t175, .int .i64 0, .bool false]) ?_ 4 _ rfl; (with_reducible repeat (first | refine blk_drewN ?_ _ | refine blk_drew ?_ | refine blk_alloc ?_ _)); refine blk_put (cs := #[.int .i64 t172, .int .i64 t173, .string t174, .string (⟨#[]⟩ : ByteArray), .int .i64 0, .bool false]) ?_ 3 _ rfl; (with_reducible repeat (first | refine blk_drewN ?_ _ | refine blk_drew ?_ | refine blk_alloc ?_ _)); refine blk_put (cs := #[.int .i64 t172, .int .i64 t173, .string (⟨#[]⟩ : ByteArray), .string (⟨#[]⟩ : ByteArray), .int .i64 0, .bool false]) ?_ 2 _ rfl; (with_reducible repeat (first | refine blk_drewN ?_ _ | refine blk_drew ?_ | refine blk_alloc ?_ _)); refine blk_put (cs := #[.int .i64 t172, .int .i64 0, .string (⟨#[]⟩ : ByteArray), .string (⟨#[]⟩ : ByteArray), .int .i64 0, .bool false]) ?_ 1 _ rfl; (with_reducible repeat (first | refine blk_drewN ?_ _ | refine blk_drew ?_ | refine blk_alloc ?_ _)); refine blk_put (cs := #[.int .i64 0, .int .i64 0, .string (⟨#[]⟩ : ByteArray), .string (⟨#[]⟩ : ByteArray), .int .i64 0, .bool false]) ?_ 0 _ rfl; (with_reducible repeat (first | refine blk_drewN ?_ _ | refine blk_drew ?_ | refine blk_alloc ?_ _)); exact BK178.out) hb); replace HB := Aside0.mk (below_step bo hb); clear hb ho10; obtain ⟨Ao11, co11, eo11⟩ := Kd.R_slice HO181.out; subst eo11) | ((with_reducible refine gate_builtin (b := .append) (xs := #[.tmp 20, .tmp 25]) rfl ?_); (try (refine gate_guard (by rfl) ?_; dsimp only)); at_builtin; refine Kd.S_append k29 (w0 := w) w.heap.size rfl (.tmp 20) (.tmp 25) 23 29 (.agg #[(.int .i64 0), (.slice none 0 0)]) 32 rfl Try.underlying23 info29 rfl (by decide) (by omega) u3 x3_1 (⟨x5_1, y179⟩ : S29) [.int .i64 x5_1, .slice Ao11 y179.length co11] (fun k_ => k_ ≠ gb178) (fun k_ => some k_ = (.slice Ao11 y179.length co11 : Value).ownBlock) rfl rfl ?aP (fun k_ hk_ => ((Kd.R_mono (ok' := fun k_ => ((fun k_ => k_ ≠ gb178)) k_ ∧ some k_ ≠ (u3 : Value).ownBlock) (Kd.R_apart' (HO181.out) (Kd.S_typed HO_3.out) (by decide)) (fun k_ hk => ⟨hk.1.2, hk.2⟩))).1 k_ hk_.symm) ?aF ?aO ?aB ?aS ?aL ?_; (case aP => exact k29_mkM _ _ _ (⟨x5_1, y179⟩ : S29) (Kd.R_mono (Kd.R_tight rfl (Kd.R_mono (ok' := fun k_ => ((fun k_ => k_ ≠ gb178)) k_ ∧ some k_ ≠ (u3 : Value).ownBlock) (Kd.R_apart' (HO181.out) (Kd.S_typed HO_3.out) (by decide)) (fun k_ hk => ⟨hk.1.2, hk.2⟩))) (fun _ h_ => h_))); (case aB => exact bo); (case aF => exact (fun k_ hk => Kd.freshB (g := gb178) (o := .cells #[.int .i64 t172, .int .i64 t173, .string t174, .string t175, .int .i64 t176, .bool t177] 25 (0, 0)) (bk BK178.out) k_ hk)); (case aO => exact (by (with_reducible repeat (first | apply Kd.S_alloc | apply Kd.S_drewN | apply Kd.S_drew)); exact Kd.S_mono HO_3.out (fun k_ hk => ⟨hk.1.2, fun e_ => hk.2 e_⟩))); (case aS => exact (below_size bo)); (case aL => have := LMc4.out; omega); intro v183 w12 ho hb hg hat; rw [← Ny182.out] at ho; have n0_ := Aside0.mk (blk_grown (g := gb178) (o := .cells #[.int .i64 t172, .int .i64 t173, .string t174, .string t175, .int .i64 t176, .bool t177] 25 (0, 0)) (bk BK178.out) hg (Kd.S_ne HO_3.out BK178.out (by decide))); have n1_ := Aside0.mk (hb); have n2_ := Aside0.mk (ho); clear BK178; clear HB; clear HO_3; clear HO181; have BK178 := n0_; have HB := n1_; have HO184 := n2_; clear n0_ n1_ n2_; clear ho hb hg hat; obtain ⟨hcz13_0, hcz13_1, hcz13_2, hcz13_3, hcz13_4, hcz13_5⟩ := cl6 BK178.out; obtain ⟨hfz13_0, hfz13_1, hfz13_2, hfz13_3, hfz13_4, hfz13_5⟩ := fz6 BK178.out) | ((with_reducible refine gate_callee (f := 10) rfl ?_); refine goesL_ (some 28) rfl rfl Try.func10 (by kernel_rfl) rfl #[.agg #[.int .i64 t172, .int .i64 t173, .string t174, .string t175, .int .i64 t176, .bool t177]] rfl aa ?_; (with_reducible refine (fairwayref10_Bytes.calls k1 t172 t173 t174 t175 t176 t177 t185 _ A5.out).mono ?_); rintro e w14 ⟨rfl, hb⟩; refine ⟨_, rfl, ?_⟩; replace HO184 := Aside0.mk (Kd.S_below (by (with_reducible repeat (first | apply Kd.S_alloc | apply Kd.S_drewN | apply Kd.S_drew)); exact HO184.out) hb); replace BK178 := Aside0.mk (bb BK178.out hb); replace HB := Aside0.mk (below_step bo hb); (try clear hb); (try clear hb2); (try clear hk); (try clear hi)))
     go_roundg k1
     case measure => have := HK1.out; omega
     case rel => exact ⟨(y182), ((t185.size : Int)), (wrap64 (x5_1 + 1)), ap, ap, H', ⟨by have := HK1.out; omega⟩, ⟨by (with_reducible repeat (first | apply Kd.S_alloc | apply Kd.S_drewN | apply Kd.S_drew)); exact Kd.S_mono HO184.out (fun _ hk => trivial)⟩, ⟨bo⟩⟩
    ·rw [if_neg c4] at H
     exact absurd H (by simp)
   ·rw [if_neg c2] at H
    have c2b0 : decide (x5_1 < 10) = false := decide_eq_false c2
    clear c2
    have H' := Aside0.mk H
    clear H
    go_wp2
    go_loopg [7] k1 (fun kq v7 w' => ∃ (x7_2 : Int), v7 = .int .i64 x7_2 ∧ Aside0 (fairwaylaw13_KeepBytes.l1 kq l0 x3_1 x4_1 x7_2 = some r) ∧ Aside0 (kq ≤ k1) ∧ Aside0 (Kd.S k29 29 w' w.heap.size (fun _ => True) u3 x3_1) ∧ Aside0 (Below w.heap.size w w'))
    case atStart => exact ⟨(0), ap, H', ⟨Nat.le_refl _⟩, ⟨by (with_reducible repeat (first | apply Kd.S_alloc | apply Kd.S_drewN | apply Kd.S_drew)); exact HO_3.out⟩, ⟨bo⟩⟩
    case round =>
     clear H'
     try clear c1
     try clear c2
     try clear c2b0
     try clear p2
     try clear c3
     try clear c4
     try clear c6
     try clear p6
     try clear c9
     try clear c10
     try clear hcz13_0
     try clear hcz13_1
     try clear hcz13_2
     try clear hcz13_3
     try clear hcz13_4
     try clear hcz13_5
     try clear hcz8_0
     try clear hcz8_1
     try clear hcz8_2
     try clear hcz8_3
     try clear hcz8_4
     try clear hcz8_5
     try clear hfz13_0
     try clear hfz13_1
     try clear hfz13_2
     try clear hfz13_3
     try clear hfz13_4
     try clear hfz13_5
     try clear hfz8_0
     try clear hfz8_1
     try clear hfz8_2
     try clear hfz8_3
     try clear hfz8_4
     try clear hfz8_5
     obtain ⟨x7_2, rfl, HA, HK2, HO_3, HB⟩ := hrel
     cases gk with
     | zero => exact absurd HA.out (by simp [fairwaylaw13_KeepBytes.l1])
     | succ k2 =>
      have H := HA.out
      clear HA
      simp only [fairwaylaw13_KeepBytes.l1] at H
      by_cases c15 : x7_2 ≤ 10
      ·rw [if_pos c15] at H
       have c15b0 : decide (x7_2 ≤ 10) = true := decide_eq_true c15
       clear c15
       replace H := Option.bind_eq_some_iff.mp H
       obtain ⟨⟨t187, t188⟩, A160, H⟩ := H
       replace H : ((keep_Old.f k2 x3_1 1 (-1) 5 false 0 (wrap64 (10 * x7_2))).bind fun bt189 => ((fairwaylaw13_num.f t188).bind fun t191 => (if t191 = 0 then (if t187 = (wrap64 (9 - (mn x7_2 9))) then ((fairwaylaw13_num.f bt189.2).bind fun t192 => (if t192 = 0 then (if bt189.1 = (mn x7_2 9) then (fairwaylaw13_KeepBytes.l1 k2 l0 x3_1 x4_1 (wrap64 (x7_2 + 1))) else (some false)) else (some false))) else (some false)) else (some false)))) = some r := H
       have A16 := Aside0.mk A160
       clear A160
       replace H := Option.bind_eq_some_iff.mp H
       obtain ⟨⟨t189, t190⟩, A170, H⟩ := H
       replace H : ((fairwaylaw13_num.f t188).bind fun t191 => (if t191 = 0 then (if t187 = (wrap64 (9 - (mn x7_2 9))) then ((fairwaylaw13_num.f t190).bind fun t192 => (if t192 = 0 then (if t189 = (mn x7_2 9) then (fairwaylaw13_KeepBytes.l1 k2 l0 x3_1 x4_1 (wrap64 (x7_2 + 1))) else (some false)) else (some false))) else (some false)) else (some false))) = some r := H
       have A17 := Aside0.mk A170
       clear A170
       replace H := Option.bind_eq_some_iff.mp H
       obtain ⟨t191, A180, H⟩ := H
       replace H : (if t191 = 0 then (if t187 = (wrap64 (9 - (mn x7_2 9))) then ((fairwaylaw13_num.f t190).bind fun t192 => (if t192 = 0 then (if t189 = (mn x7_2 9) then (fairwaylaw13_KeepBytes.l1 k2 l0 x3_1 x4_1 (wrap64 (x7_2 + 1))) else (some false)) else (some false))) else (some false)) else (some false)) = some r := H
       have A18 := Aside0.mk A180
       clear A180
       by_cases c19 : t191 = 0
       ·rw [if_pos c19] at H
        have c19b0 : (t191 == 0) = true := beq_iff_eq.mpr c19
        have c19b1 : (t191 != 0) = false := bne_eq_false_iff_eq.mpr c19
        clear c19
        obtain ⟨ji20, hji20⟩ : ∃ j_ : Int, (mn x7_2 9) = j_ := ⟨_, rfl⟩
        replace H : (if t187 = (wrap64 (9 - (ji20))) then ((fairwaylaw13_num.f t190).bind fun t192 => (if t192 = 0 then (if t189 = (ji20) then (fairwaylaw13_KeepBytes.l1 k2 l0 x3_1 x4_1 (wrap64 (x7_2 + 1))) else (some false)) else (some false))) else (some false)) = some r := by first | (rw [hji20] at H; exact H) | (simp only [hji20] at H ⊢; exact H)
        (try rw [hji20] at A16)
        (try rw [hji20] at A17)
        (try rw [hji20] at A18)
        have hji20_ : (if 9 < x7_2 then 9 else x7_2) = ji20 := hji20
        by_cases c21 : t187 = (wrap64 (9 - (ji20)))
        ·rw [if_pos c21] at H
         have c21b0 : (t187 == (wrap64 (9 - (ji20)))) = true := beq_iff_eq.mpr c21
         have c21b1 : (t187 != (wrap64 (9 - (ji20)))) = false := bne_eq_false_iff_eq.mpr c21
         clear c21
         replace H := Option.bind_eq_some_iff.mp H
         obtain ⟨t192, A220, H⟩ := H
         replace H : (if t192 = 0 then (if t189 = (ji20) then (fairwaylaw13_KeepBytes.l1 k2 l0 x3_1 x4_1 (wrap64 (x7_2 + 1))) else (some false)) else (some false)) = some r := H
         have A22 := Aside0.mk A220
         clear A220
         by_cases c23 : t192 = 0
         ·rw [if_pos c23] at H
          have c23b0 : (t192 == 0) = true := beq_iff_eq.mpr c23
          have c23b1 : (t192 != 0) = false := bne_eq_false_iff_eq.mpr c23
          clear c23
          by_cases c25 : t189 = (ji20)
          ·rw [if_pos c25] at H
           have c25b0 : (t189 == (ji20)) = true := beq_iff_eq.mpr c25
           have c25b1 : (t189 != (ji20)) = false := bne_eq_false_iff_eq.mpr c25
           clear c25
           have H' := Aside0.mk H
           clear H
           obtain ⟨Ao26, co26, eo26⟩ := Kd.S_slice HO_3.out
           subst eo26
           go_wp2_with (first | ((with_reducible refine gate_callee (f := 11) rfl ?_); refine goesL_ (some 40) rfl rfl Try.func11 (by kernel_rfl) rfl #[.slice Ao26 x3_1.length co26, .agg #[.int .i64 1, .int .i64 (wrap64 (x7_2 * x4_1)), .int .i64 (-1), .bool false, .int .i64 0], .int .i64 0] rfl aa ?_; (with_reducible refine (keep_Old.calls k2 _ _ x3_1 1 (wrap64 (x7_2 * x4_1)) (-1) false 0 0 t187 t188 _ ?side1 ?side2 A16.out).mono ?_); (case side1 => repeat (first | exact (Kd.S_reads' HO_3.out).2.2 | (with_reducible refine Kd.C_alloc ?_ _) | (with_reducible refine Kd.C_drewN ?_ _) | (with_reducible refine Kd.C_drew ?_))); (case side2 => exact (Kd.S_reads' HO_3.out).2.1); rintro e w27 ⟨rfl, hb⟩; refine ⟨_, rfl, ?_⟩; replace HO_3 := Aside0.mk (Kd.S_below (by (with_reducible repeat (first | apply Kd.S_alloc | apply Kd.S_drewN | apply Kd.S_drew)); exact HO_3.out) hb); replace HB := Aside0.mk (below_step bo hb); (try clear hb); (try clear hb2); (try clear hk); (try clear hi)) | ((with_reducible refine gate_callee (f := 11) rfl ?_); refine goesL_ (some 48) rfl rfl Try.func11 (by kernel_rfl) rfl #[.slice Ao26 x3_1.length co26, .agg #[.int .i64 1, .int .i64 (-1), .int .i64 5, .bool false, .int .i64 0], .int .i64 (wrap64 (10 * x7_2))] rfl aa ?_; (with_reducible refine (keep_Old.calls k2 _ _ x3_1 1 (-1) 5 false 0 (wrap64 (10 * x7_2)) t189 t190 _ ?side1 ?side2 A17.out).mono ?_); (case side1 => repeat (first | exact (Kd.S_reads' HO_3.out).2.2 | (with_reducible refine Kd.C_alloc ?_ _) | (with_reducible refine Kd.C_drewN ?_ _) | (with_reducible refine Kd.C_drew ?_))); (case side2 => exact (Kd.S_reads' HO_3.out).2.1); rintro e w28 ⟨rfl, hb⟩; refine ⟨_, rfl, ?_⟩; replace HO_3 := Aside0.mk (Kd.S_below (by (with_reducible repeat (first | apply Kd.S_alloc | apply Kd.S_drewN | apply Kd.S_drew)); exact HO_3.out) hb); replace HB := Aside0.mk (below_step bo hb); (try clear hb); (try clear hb2); (try clear hk); (try clear hi)) | ((with_reducible refine gate_callee (f := 12) rfl ?_); refine goesL_ (some 52) rfl rfl Try.func12 (by kernel_rfl) rfl #[.int .i64 t188] rfl aa ?_; (with_reducible refine (fairwaylaw13_num.calls t188 t191 _ A18.out).mono ?_); rintro e w' ⟨rfl, ⟨nd, rfl⟩⟩; refine ⟨_, rfl, ?_⟩) | (go_at_call 12; (with_reducible refine (fairwaylaw13_num.calls t190 t192 _ A22.out).mono ?_); rintro e w' ⟨rfl, ⟨nd, rfl⟩⟩))
           go_roundg k2
           case measure => have := HK1.out; have := HK2.out; omega
           case rel => exact ⟨(wrap64 (x7_2 + 1)), ap, H', ⟨by have := HK1.out; have := HK2.out; omega⟩, ⟨by (with_reducible repeat (first | apply Kd.S_alloc | apply Kd.S_drewN | apply Kd.S_drew)); exact HO_3.out⟩, ⟨bo⟩⟩
          ·rw [if_neg c25] at H
           have c25b0 : (t189 == (ji20)) = false := beq_eq_false_iff_ne.mpr c25
           have c25b1 : (t189 != (ji20)) = true := bne_iff_ne.mpr c25
           obtain rfl := Option.some.inj H
           obtain ⟨Ao29, co29, eo29⟩ := Kd.S_slice HO_3.out
           subst eo29
           go_wp2_with (first | ((with_reducible refine gate_callee (f := 11) rfl ?_); refine goesL_ (some 40) rfl rfl Try.func11 (by kernel_rfl) rfl #[.slice Ao29 x3_1.length co29, .agg #[.int .i64 1, .int .i64 (wrap64 (x7_2 * x4_1)), .int .i64 (-1), .bool false, .int .i64 0], .int .i64 0] rfl aa ?_; (with_reducible refine (keep_Old.calls k2 _ _ x3_1 1 (wrap64 (x7_2 * x4_1)) (-1) false 0 0 t187 t188 _ ?side1 ?side2 A16.out).mono ?_); (case side1 => repeat (first | exact (Kd.S_reads' HO_3.out).2.2 | (with_reducible refine Kd.C_alloc ?_ _) | (with_reducible refine Kd.C_drewN ?_ _) | (with_reducible refine Kd.C_drew ?_))); (case side2 => exact (Kd.S_reads' HO_3.out).2.1); rintro e w30 ⟨rfl, hb⟩; refine ⟨_, rfl, ?_⟩; replace HO_3 := Aside0.mk (Kd.S_below (by (with_reducible repeat (first | apply Kd.S_alloc | apply Kd.S_drewN | apply Kd.S_drew)); exact HO_3.out) hb); replace HB := Aside0.mk (below_step bo hb); (try clear hb); (try clear hb2); (try clear hk); (try clear hi)) | ((with_reducible refine gate_callee (f := 11) rfl ?_); refine goesL_ (some 48) rfl rfl Try.func11 (by kernel_rfl) rfl #[.slice Ao29 x3_1.length co29, .agg #[.int .i64 1, .int .i64 (-1), .int .i64 5, .bool false, .int .i64 0], .int .i64 (wrap64 (10 * x7_2))] rfl aa ?_; (with_reducible refine (keep_Old.calls k2 _ _ x3_1 1 (-1) 5 false 0 (wrap64 (10 * x7_2)) t189 t190 _ ?side1 ?side2 A17.out).mono ?_); (case side1 => repeat (first | exact (Kd.S_reads' HO_3.out).2.2 | (with_reducible refine Kd.C_alloc ?_ _) | (with_reducible refine Kd.C_drewN ?_ _) | (with_reducible refine Kd.C_drew ?_))); (case side2 => exact (Kd.S_reads' HO_3.out).2.1); rintro e w31 ⟨rfl, hb⟩; refine ⟨_, rfl, ?_⟩; replace HO_3 := Aside0.mk (Kd.S_below (by (with_reducible repeat (first | apply Kd.S_alloc | apply Kd.S_drewN | apply Kd.S_drew)); exact HO_3.out) hb); replace HB := Aside0.mk (below_step bo hb); (try clear hb); (try clear hb2); (try clear hk); (try clear hi)) | ((with_reducible refine gate_callee (f := 12) rfl ?_); refine goesL_ (some 52) rfl rfl Try.func12 (by kernel_rfl) rfl #[.int .i64 t188] rfl aa ?_; (with_reducible refine (fairwaylaw13_num.calls t188 t191 _ A18.out).mono ?_); rintro e w' ⟨rfl, ⟨nd, rfl⟩⟩; refine ⟨_, rfl, ?_⟩) | (go_at_call 12; (with_reducible refine (fairwaylaw13_num.calls t190 t192 _ A22.out).mono ?_); rintro e w' ⟨rfl, ⟨nd, rfl⟩⟩))
           go_ret
           exact ⟨by first | rfl | (simp [errW_none, errW_some] <;> rfl) | (simp only [← hji20]; first | rfl | (simp [errW_none, errW_some] <;> rfl)) | (simp [*, errW_none, errW_some] <;> rfl), bo⟩
         ·rw [if_neg c23] at H
          have c23b0 : (t192 == 0) = false := beq_eq_false_iff_ne.mpr c23
          have c23b1 : (t192 != 0) = true := bne_iff_ne.mpr c23
          obtain rfl := Option.some.inj H
          obtain ⟨Ao32, co32, eo32⟩ := Kd.S_slice HO_3.out
          subst eo32
          go_wp2_with (first | ((with_reducible refine gate_callee (f := 11) rfl ?_); refine goesL_ (some 40) rfl rfl Try.func11 (by kernel_rfl) rfl #[.slice Ao32 x3_1.length co32, .agg #[.int .i64 1, .int .i64 (wrap64 (x7_2 * x4_1)), .int .i64 (-1), .bool false, .int .i64 0], .int .i64 0] rfl aa ?_; (with_reducible refine (keep_Old.calls k2 _ _ x3_1 1 (wrap64 (x7_2 * x4_1)) (-1) false 0 0 t187 t188 _ ?side1 ?side2 A16.out).mono ?_); (case side1 => repeat (first | exact (Kd.S_reads' HO_3.out).2.2 | (with_reducible refine Kd.C_alloc ?_ _) | (with_reducible refine Kd.C_drewN ?_ _) | (with_reducible refine Kd.C_drew ?_))); (case side2 => exact (Kd.S_reads' HO_3.out).2.1); rintro e w33 ⟨rfl, hb⟩; refine ⟨_, rfl, ?_⟩; replace HO_3 := Aside0.mk (Kd.S_below (by (with_reducible repeat (first | apply Kd.S_alloc | apply Kd.S_drewN | apply Kd.S_drew)); exact HO_3.out) hb); replace HB := Aside0.mk (below_step bo hb); (try clear hb); (try clear hb2); (try clear hk); (try clear hi)) | ((with_reducible refine gate_callee (f := 11) rfl ?_); refine goesL_ (some 48) rfl rfl Try.func11 (by kernel_rfl) rfl #[.slice Ao32 x3_1.length co32, .agg #[.int .i64 1, .int .i64 (-1), .int .i64 5, .bool false, .int .i64 0], .int .i64 (wrap64 (10 * x7_2))] rfl aa ?_; (with_reducible refine (keep_Old.calls k2 _ _ x3_1 1 (-1) 5 false 0 (wrap64 (10 * x7_2)) t189 t190 _ ?side1 ?side2 A17.out).mono ?_); (case side1 => repeat (first | exact (Kd.S_reads' HO_3.out).2.2 | (with_reducible refine Kd.C_alloc ?_ _) | (with_reducible refine Kd.C_drewN ?_ _) | (with_reducible refine Kd.C_drew ?_))); (case side2 => exact (Kd.S_reads' HO_3.out).2.1); rintro e w34 ⟨rfl, hb⟩; refine ⟨_, rfl, ?_⟩; replace HO_3 := Aside0.mk (Kd.S_below (by (with_reducible repeat (first | apply Kd.S_alloc | apply Kd.S_drewN | apply Kd.S_drew)); exact HO_3.out) hb); replace HB := Aside0.mk (below_step bo hb); (try clear hb); (try clear hb2); (try clear hk); (try clear hi)) | ((with_reducible refine gate_callee (f := 12) rfl ?_); refine goesL_ (some 52) rfl rfl Try.func12 (by kernel_rfl) rfl #[.int .i64 t188] rfl aa ?_; (with_reducible refine (fairwaylaw13_num.calls t188 t191 _ A18.out).mono ?_); rintro e w' ⟨rfl, ⟨nd, rfl⟩⟩; refine ⟨_, rfl, ?_⟩) | (go_at_call 12; (with_reducible refine (fairwaylaw13_num.calls t190 t192 _ A22.out).mono ?_); rintro e w' ⟨rfl, ⟨nd, rfl⟩⟩))
          go_ret
          exact ⟨by first | rfl | (simp [errW_none, errW_some] <;> rfl) | (simp only [← hji20]; first | rfl | (simp [errW_none, errW_some] <;> rfl)) | (simp [*, errW_none, errW_some] <;> rfl), bo⟩
        ·rw [if_neg c21] at H
         have c21b0 : (t187 == (wrap64 (9 - (ji20)))) = false := beq_eq_false_iff_ne.mpr c21
         have c21b1 : (t187 != (wrap64 (9 - (ji20)))) = true := bne_iff_ne.mpr c21
         obtain rfl := Option.some.inj H
         obtain ⟨Ao35, co35, eo35⟩ := Kd.S_slice HO_3.out
         subst eo35
         go_wp2_with (first | ((with_reducible refine gate_callee (f := 11) rfl ?_); refine goesL_ (some 40) rfl rfl Try.func11 (by kernel_rfl) rfl #[.slice Ao35 x3_1.length co35, .agg #[.int .i64 1, .int .i64 (wrap64 (x7_2 * x4_1)), .int .i64 (-1), .bool false, .int .i64 0], .int .i64 0] rfl aa ?_; (with_reducible refine (keep_Old.calls k2 _ _ x3_1 1 (wrap64 (x7_2 * x4_1)) (-1) false 0 0 t187 t188 _ ?side1 ?side2 A16.out).mono ?_); (case side1 => repeat (first | exact (Kd.S_reads' HO_3.out).2.2 | (with_reducible refine Kd.C_alloc ?_ _) | (with_reducible refine Kd.C_drewN ?_ _) | (with_reducible refine Kd.C_drew ?_))); (case side2 => exact (Kd.S_reads' HO_3.out).2.1); rintro e w36 ⟨rfl, hb⟩; refine ⟨_, rfl, ?_⟩; replace HO_3 := Aside0.mk (Kd.S_below (by (with_reducible repeat (first | apply Kd.S_alloc | apply Kd.S_drewN | apply Kd.S_drew)); exact HO_3.out) hb); replace HB := Aside0.mk (below_step bo hb); (try clear hb); (try clear hb2); (try clear hk); (try clear hi)) | ((with_reducible refine gate_callee (f := 11) rfl ?_); refine goesL_ (some 48) rfl rfl Try.func11 (by kernel_rfl) rfl #[.slice Ao35 x3_1.length co35, .agg #[.int .i64 1, .int .i64 (-1), .int .i64 5, .bool false, .int .i64 0], .int .i64 (wrap64 (10 * x7_2))] rfl aa ?_; (with_reducible refine (keep_Old.calls k2 _ _ x3_1 1 (-1) 5 false 0 (wrap64 (10 * x7_2)) t189 t190 _ ?side1 ?side2 A17.out).mono ?_); (case side1 => repeat (first | exact (Kd.S_reads' HO_3.out).2.2 | (with_reducible refine Kd.C_alloc ?_ _) | (with_reducible refine Kd.C_drewN ?_ _) | (with_reducible refine Kd.C_drew ?_))); (case side2 => exact (Kd.S_reads' HO_3.out).2.1); rintro e w37 ⟨rfl, hb⟩; refine ⟨_, rfl, ?_⟩; replace HO_3 := Aside0.mk (Kd.S_below (by (with_reducible repeat (first | apply Kd.S_alloc | apply Kd.S_drewN | apply Kd.S_drew)); exact HO_3.out) hb); replace HB := Aside0.mk (below_step bo hb); (try clear hb); (try clear hb2); (try clear hk); (try clear hi)) | ((with_reducible refine gate_callee (f := 12) rfl ?_); refine goesL_ (some 52) rfl rfl Try.func12 (by kernel_rfl) rfl #[.int .i64 t188] rfl aa ?_; (with_reducible refine (fairwaylaw13_num.calls t188 t191 _ A18.out).mono ?_); rintro e w' ⟨rfl, ⟨nd, rfl⟩⟩; refine ⟨_, rfl, ?_⟩))
         go_ret
         exact ⟨by first | rfl | (simp [errW_none, errW_some] <;> rfl) | (simp only [← hji20]; first | rfl | (simp [errW_none, errW_some] <;> rfl)) | (simp [*, errW_none, errW_some] <;> rfl), bo⟩
       ·rw [if_neg c19] at H
        have c19b0 : (t191 == 0) = false := beq_eq_false_iff_ne.mpr c19
        have c19b1 : (t191 != 0) = true := bne_iff_ne.mpr c19
        obtain rfl := Option.some.inj H
        obtain ⟨Ao38, co38, eo38⟩ := Kd.S_slice HO_3.out
        subst eo38
        go_wp2_with (first | ((with_reducible refine gate_callee (f := 11) rfl ?_); refine goesL_ (some 40) rfl rfl Try.func11 (by kernel_rfl) rfl #[.slice Ao38 x3_1.length co38, .agg #[.int .i64 1, .int .i64 (wrap64 (x7_2 * x4_1)), .int .i64 (-1), .bool false, .int .i64 0], .int .i64 0] rfl aa ?_; (with_reducible refine (keep_Old.calls k2 _ _ x3_1 1 (wrap64 (x7_2 * x4_1)) (-1) false 0 0 t187 t188 _ ?side1 ?side2 A16.out).mono ?_); (case side1 => repeat (first | exact (Kd.S_reads' HO_3.out).2.2 | (with_reducible refine Kd.C_alloc ?_ _) | (with_reducible refine Kd.C_drewN ?_ _) | (with_reducible refine Kd.C_drew ?_))); (case side2 => exact (Kd.S_reads' HO_3.out).2.1); rintro e w39 ⟨rfl, hb⟩; refine ⟨_, rfl, ?_⟩; replace HO_3 := Aside0.mk (Kd.S_below (by (with_reducible repeat (first | apply Kd.S_alloc | apply Kd.S_drewN | apply Kd.S_drew)); exact HO_3.out) hb); replace HB := Aside0.mk (below_step bo hb); (try clear hb); (try clear hb2); (try clear hk); (try clear hi)) | ((with_reducible refine gate_callee (f := 11) rfl ?_); refine goesL_ (some 48) rfl rfl Try.func11 (by kernel_rfl) rfl #[.slice Ao38 x3_1.length co38, .agg #[.int .i64 1, .int .i64 (-1), .int .i64 5, .bool false, .int .i64 0], .int .i64 (wrap64 (10 * x7_2))] rfl aa ?_; (with_reducible refine (keep_Old.calls k2 _ _ x3_1 1 (-1) 5 false 0 (wrap64 (10 * x7_2)) t189 t190 _ ?side1 ?side2 A17.out).mono ?_); (case side1 => repeat (first | exact (Kd.S_reads' HO_3.out).2.2 | (with_reducible refine Kd.C_alloc ?_ _) | (with_reducible refine Kd.C_drewN ?_ _) | (with_reducible refine Kd.C_drew ?_))); (case side2 => exact (Kd.S_reads' HO_3.out).2.1); rintro e w40 ⟨rfl, hb⟩; refine ⟨_, rfl, ?_⟩; replace HO_3 := Aside0.mk (Kd.S_below (by (with_reducible repeat (first | apply Kd.S_alloc | apply Kd.S_drewN | apply Kd.S_drew)); exact HO_3.out) hb); replace HB := Aside0.mk (below_step bo hb); (try clear hb); (try clear hb2); (try clear hk); (try clear hi)) | ((with_reducible refine gate_callee (f := 12) rfl ?_); refine goesL_ (some 52) rfl rfl Try.func12 (by kernel_rfl) rfl #[.int .i64 t188] rfl aa ?_; (with_reducible refine (fairwaylaw13_num.calls t188 t191 _ A18.out).mono ?_); rintro e w' ⟨rfl, ⟨nd, rfl⟩⟩; refine ⟨_, rfl, ?_⟩))
        go_ret
        exact ⟨er, bo⟩
      ·rw [if_neg c15] at H
       have c15b0 : decide (x7_2 ≤ 10) = false := decide_eq_false c15
       clear c15
       by_cases c41 : (l0.length : Int) ≥ 0
       ·rw [if_pos c41] at H
        have c41b0 : decide (0 ≤ (l0.length : Int)) = true := decide_eq_true c41
        have c41b1 : decide (0 ≤ l0.length) = true := decide_eq_true (by omega)
        clear c41
        replace H := Option.bind_eq_some_iff.mp H
        obtain ⟨t186, A420, H⟩ := H
        replace H : (some t186) = some r := H
        have A42 := Aside0.mk A420
        clear A420
        obtain rfl := Option.some.inj H
        go_wp2_with (first | (go_at_call 13; (with_reducible refine (fairwaylaw13_wakes.calls k2  t186 _ A42.out).mono ?_); rintro e w43 ⟨rfl, hb⟩; replace HO_3 := Aside0.mk (Kd.S_below (by (with_reducible repeat (first | apply Kd.S_alloc | apply Kd.S_drewN | apply Kd.S_drew)); exact HO_3.out) hb); replace HB := Aside0.mk (below_step bo hb); (try clear hb); (try clear hb2); (try clear hk); (try clear hi)))
        go_ret
        exact ⟨er, bo⟩
       ·exact absurd (show (l0.length : Int) ≥ 0 by omega) c41

end Go.Proofs.Ytigmekgknhoidaa.P

