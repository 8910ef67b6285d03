/- The law SegFinds: printed functions, their contracts, the plain laws and the row, part 1. -/
import Derived.Test.YtmabdfdmccbfnaaKSegFinds0
-- written by a program of the proving session, out of the translation; Lean checks it
namespace Go.Proofs.Ytmabdfdmccbfnaa.P
open Go.RowKit Go.Proofs.Ytmabdfdmccbfnaa.Sq Go.Proofs.YtmabdfdmccbfnaaW.PrintWords Go.Proofs.YtmabdfdmccbfnaaW.PrintLast Go.Proofs.YtmabdfdmccbfnaaW.PrintMore
attribute [local go_sem] max2_int min2_int max_two min_two max_three min_three max_four min_four   -- for this text's walks alone
set_option linter.unusedVariables false
set_option linter.unusedSimpArgs false

/-! ### seg_Check: function 46 -/
mutual
def seg_Check.j0 : Nat → Bool → Int → List (S25) → Option (Int)
 | 0, _, _, _ => none
 | k + 1, x12, x364000, x364001 => if x12 = true then (some 1) else (seg_Check.l0 k x364001 (x364001.length : Int) 0 x364000 x364001)
def seg_Check.l0 : Nat → List (S25) → Int → Int → Int → List (S25) → Option (Int)
 | 0, _, _, _, _, _ => none
 | k + 1, x14, x15, x16, x364000, x364001 => if x16 < x15 then (if 0 ≤ x16 then (if x16 < (x14.length : Int) then (if x16 ≤ (x364001.length : Int) then ((seg_behind.f k x364000 (x364001.take (x16 : Int).toNat) ((rd_T25 x14 x16).f0) ((rd_T25 x14 x16).f1) ((rd_T25 x14 x16).f2) ((rd_T25 x14 x16).f3) ((rd_T25 x14 x16).f4) ((rd_T25 x14 x16).f5)).bind fun t370 => (if t370 = true then (seg_Check.l0 k x14 x15 (wrap64 (x16 + 1)) x364000 x364001) else (some 1))) else (none)) else (none)) else (none)) else (some 0)
end
def seg_Check.f (k : Nat) (a0_0 : Int) (l0_1 : List (S25)) : Option (Int) := if a0_0 < 0 then (seg_Check.j0 k true a0_0 l0_1) else (seg_Check.j0 k (decide (a0_0 > 1099511627776)) a0_0 l0_1)
theorem seg_Check.mono_l : ∀ k, (∀ y0 y1 y2, LeO (seg_Check.j0 k y0 y1 y2) (seg_Check.j0 (k + 1) y0 y1 y2)) ∧ (∀ y0 y1 y2 y3 y4, LeO (seg_Check.l0 k y0 y1 y2 y3 y4) (seg_Check.l0 (k + 1) y0 y1 y2 y3 y4))
 | 0 => ⟨fun _ _ _ r h => by simp [seg_Check.j0] at h, fun _ _ _ _ _ r h => by simp [seg_Check.l0] at h⟩
 | k + 1 => by
  obtain ⟨ih0, ih1⟩ := seg_Check.mono_l k
  refine ⟨?_, ?_⟩
  ·intro y0 y1 y2
   unfold seg_Check.j0
   repeat' first
   | (with_reducible exact ih0 _ _ _)
   | (with_reducible exact ih1 _ _ _ _ _)
   | (with_reducible exact seg_behind.mono _ _ _ _ _ _ _ _ _)
   | (with_reducible exact LeO.refl _)
   | (with_reducible exact LeO.none _)
   | (with_reducible refine LeO.ite ?_ ?_)
   | (with_reducible refine LeO.bind ?_ (fun _ => ?_))
   | exact ih0 _ _ _
   | exact ih1 _ _ _ _ _
   | exact seg_behind.mono _ _ _ _ _ _ _ _ _
   | exact LeO.none _
   | refine LeO.ite ?_ ?_
   | refine LeO.bind ?_ (fun _ => ?_)
  ·intro y0 y1 y2 y3 y4
   unfold seg_Check.l0
   repeat' first
   | (with_reducible exact ih0 _ _ _)
   | (with_reducible exact ih1 _ _ _ _ _)
   | (with_reducible exact seg_behind.mono _ _ _ _ _ _ _ _ _)
   | (with_reducible exact LeO.refl _)
   | (with_reducible exact LeO.none _)
   | (with_reducible refine LeO.ite ?_ ?_)
   | (with_reducible refine LeO.bind ?_ (fun _ => ?_))
   | exact ih0 _ _ _
   | exact ih1 _ _ _ _ _
   | exact seg_behind.mono _ _ _ _ _ _ _ _ _
   | exact LeO.none _
   | refine LeO.ite ?_ ?_
   | refine LeO.bind ?_ (fun _ => ?_)
theorem seg_Check.mono : ∀ a0 a1 k, LeO (seg_Check.f k a0 a1) (seg_Check.f (k + 1) a0 a1) := by
 intro a0 a1 k
 obtain ⟨ih0, ih1⟩ := seg_Check.mono_l k
 unfold seg_Check.f
 repeat' first
  | (with_reducible exact ih0 _ _ _)
  | (with_reducible exact ih1 _ _ _ _ _)
  | (with_reducible exact seg_behind.mono _ _ _ _ _ _ _ _ _)
  | (with_reducible exact LeO.refl _)
  | (with_reducible exact LeO.none _)
  | (with_reducible refine LeO.ite ?_ ?_)
  | (with_reducible refine LeO.bind ?_ (fun _ => ?_))
  | exact ih0 _ _ _
  | exact ih1 _ _ _ _ _
  | exact seg_behind.mono _ _ _ _ _ _ _ _ _
  | exact LeO.none _
  | refine LeO.ite ?_ ?_
  | refine LeO.bind ?_ (fun _ => ?_)
def seg_Check.T6 : Bool × List (List Nat × List Nat) := (true, [([], []), ([0], [0]), ([], []), ([2], [2]), ([], []), ([3, 4], [3, 4]), ([], []), ([1, 5, 6], [1, 5, 6]), ([7], [7])])
def seg_Check.B6 : List Nat := [0, 1, 0, 4, 0, 28, 0, 127, 255]
theorem seg_Check.tab6 : rtab .any (opsOf Try.f46 6) = seg_Check.T6 := by kernel_rfl
theorem seg_Check.bits6 : waitsOk seg_Check.T6.2 seg_Check.B6 = true := by kernel_rfl
set_option maxHeartbeats 8000000 in
set_option maxRecDepth 100000 in
theorem seg_Check.calls (k : Nat) (a0_0 : Int) (A0_1 : Option Addr) (c0_1 : Nat) (l0_1 : List (S25)) (r : Int) (w : World) (hr0_1 : Kd.C k25 w A0_1 l0_1.length l0_1) (hc0_1 : l0_1.length ≤ c0_1) (h : seg_Check.f k a0_0 l0_1 = some r) :
 Calls Try.prog 46 #[.agg #[.int .i64 a0_0, .slice A0_1 l0_1.length c0_1]] w fun e w' => e = .returned (.int .i64 r) ∧ Below w.heap.size w w' := by
 have hu53 := Try.underlying53
 have hu25 := Try.underlying25
 have HR0_1 := Aside0.mk hr0_1
 have HC0_1 := Aside0.mk hc0_1
 clear hr0_1 hc0_1
 have HB := Aside0.mk (Below.refl w.heap.size w)
 have H : (if a0_0 < 0 then (seg_Check.j0 k true a0_0 l0_1) else (seg_Check.j0 k (decide (a0_0 > 1099511627776)) a0_0 l0_1)) = some r := h
 clear h
 have HC2 := Aside0.mk H
 clear H
 go_enter Try.func46, Try.ntmps46
 go_upto_region 1 with (first | ((with_reducible refine gate_dst (N := 1) rfl ?_); refine box_event ?hg (N := 1) ?hd (cs := #[.int .i64 a0_0, .slice A0_1 l0_1.length c0_1]) (t := 53) ?hr ?_; (case hd => rfl); (case hg => rfl); (case hr => first | (go_simp; done) | (go_simp; rfl)); intro gb363 hg w3 hbox hb; have BK363 := Aside0.mk (hbox); have GW363 := Aside0.mk ((by rw [hg]; exact (below_size bo) : w.heap.size ≤ gb363)); have GE363 := Aside0.mk ((by rw [hg]; exact (below_size bo) : w.heap.size ≤ gb363)); replace HB := Aside0.mk (below_step bo hb); clear hb hbox hg))
 (try simp only [Act.put, List.setIfInBounds_toArray, List.set_cons_zero, List.set_cons_succ])
 go_cut [12] (fun v12 wc => ∃ (kq : Nat) (x12_1 : Bool), v12 = .bool x12_1 ∧ Aside0 (seg_Check.j0 kq x12_1 a0_0 l0_1 = some r) ∧ Aside0 (kq ≤ k) ∧ Aside0 (wc.heap[gb363]? = some (.cells #[.int .i64 a0_0, (.slice A0_1 l0_1.length c0_1)] 53 (0, 0))) ∧ Aside0 (Below w.heap.size w wc))
 case first =>
  have H := HC2.out
  clear HC2
  by_cases c4 : a0_0 < 0
  ·rw [if_pos c4] at H
   have c4b0 : decide (a0_0 < 0) = true := decide_eq_true c4
   clear c4
   (first | rw [c4b0] | (simp only [i64_w, i32_w]; rw [c4b0]) | skip)
   have H' := Aside0.mk H
   clear H
   have hcz5_0 : w3.cell? ⟨gb363, 0, none⟩ = some (.int .i64 a0_0) := (blk_cell BK363.out 0).trans rfl
   have hcz5_1 : w3.cell? ⟨gb363, 1, none⟩ = some (.slice A0_1 l0_1.length c0_1) := (blk_cell BK363.out 1).trans rfl
   have hfz5_0 := blk_frozen BK363.out 0
   have hfz5_1 := blk_frozen BK363.out 1
   go_wp2
   go_meet
   case rel => exact ⟨_, (true), ap, H', ⟨by first | omega | exact Nat.le_refl _⟩, ⟨by (with_reducible repeat (first | refine blk_drewN ?_ _ | refine blk_drew ?_ | refine blk_alloc ?_ _)); exact BK363.out⟩, ⟨bo⟩⟩
  ·rw [if_neg c4] at H
   have c4b0 : decide (a0_0 < 0) = false := decide_eq_false c4
   clear c4
   (first | rw [c4b0] | (simp only [i64_w, i32_w]; rw [c4b0]) | skip)
   have H' := Aside0.mk H
   clear H
   have hcz6_0 : w3.cell? ⟨gb363, 0, none⟩ = some (.int .i64 a0_0) := (blk_cell BK363.out 0).trans rfl
   have hcz6_1 : w3.cell? ⟨gb363, 1, none⟩ = some (.slice A0_1 l0_1.length c0_1) := (blk_cell BK363.out 1).trans rfl
   have hfz6_0 := blk_frozen BK363.out 0
   have hfz6_1 := blk_frozen BK363.out 1
   go_wp2
   go_meet
   case rel => exact ⟨_, (decide (a0_0 > 1099511627776)), ap, H', ⟨by first | omega | exact Nat.le_refl _⟩, ⟨by (with_reducible repeat (first | refine blk_drewN ?_ _ | refine blk_drew ?_ | refine blk_alloc ?_ _)); exact BK363.out⟩, ⟨bo⟩⟩
 case rest =>
  clear HC2
  try clear p2
  try clear c4
  try clear c4b0
  try clear hcz5_0
  try clear hcz5_1
  try clear hcz6_0
  try clear hcz6_1
  try clear hfz5_0
  try clear hfz5_1
  try clear hfz6_0
  try clear hfz6_1
  obtain ⟨kq, x12_1, rfl, HA, HJ1, BK363, HB⟩ := hcut
  cases kq with
  | zero => exact absurd HA.out (by simp [seg_Check.j0])
  | succ kj1 =>
   have H := HA.out
   clear HA
   simp only [seg_Check.j0] at H
   by_cases c7 : x12_1 = true
   ·subst c7
    have H1 : (some 1) = some r := by rw [if_pos rfl] at H; exact H
    clear H
    have H := H1
    clear H1
    obtain rfl := Option.some.inj H
    go_wp2
    go_ret
    exact ⟨er, bo⟩
   ·replace c7 := Bool.eq_false_iff.mpr c7
    subst c7
    have H1 : (seg_Check.l0 kj1 l0_1 (l0_1.length : Int) 0 a0_0 l0_1) = some r := by rw [if_neg (show ¬ (false = true) by decide)] at H; exact H
    clear H
    have H := H1
    clear H1
    have H' := Aside0.mk H
    clear H
    have hcz8_0 : wc.cell? ⟨gb363, 0, none⟩ = some (.int .i64 a0_0) := (blk_cell BK363.out 0).trans rfl
    have hcz8_1 : wc.cell? ⟨gb363, 1, none⟩ = some (.slice A0_1 l0_1.length c0_1) := (blk_cell BK363.out 1).trans rfl
    have hfz8_0 := blk_frozen BK363.out 0
    have hfz8_1 := blk_frozen BK363.out 1
    go_wp2
    go_loopg [16] kj1 (fun kq v16 w' => ∃ (x16_2 : Int), v16 = .int .i64 x16_2 ∧ Aside0 (seg_Check.l0 kq l0_1 (l0_1.length : Int) x16_2 a0_0 l0_1 = some r) ∧ Aside0 (kq ≤ kj1) ∧ Aside0 (w'.heap[gb363]? = some (.cells #[.int .i64 a0_0, (.slice A0_1 l0_1.length c0_1)] 53 (0, 0))) ∧ Aside0 (Below w.heap.size w w'))
    case atStart => exact ⟨(0), ap, H', ⟨Nat.le_refl _⟩, ⟨by (with_reducible repeat (first | refine blk_drewN ?_ _ | refine blk_drew ?_ | refine blk_alloc ?_ _)); exact BK363.out⟩, ⟨bo⟩⟩
    case round =>
     clear H'
     try clear p2
     try clear c4
     try clear c4b0
     try clear c7
     try clear hcz5_0
     try clear hcz5_1
     try clear hcz6_0
     try clear hcz6_1
     try clear hcz8_0
     try clear hcz8_1
     try clear hfz5_0
     try clear hfz5_1
     try clear hfz6_0
     try clear hfz6_1
     try clear hfz8_0
     try clear hfz8_1
     try clear p2
     obtain ⟨x16_2, rfl, HA, HK2, BK363, HB⟩ := hrel
     cases gk with
     | zero => exact absurd HA.out (by simp [seg_Check.l0])
     | succ k2 =>
      have H := HA.out
      clear HA
      simp only [seg_Check.l0] at H
      by_cases c9 : x16_2 < (l0_1.length : Int)
      ·rw [if_pos c9] at H
       have c9b0 : decide (x16_2 < (l0_1.length : Int)) = true := decide_eq_true c9
       clear c9
       by_cases c10 : 0 ≤ x16_2
       ·rw [if_pos c10] at H
        have c10b0 : decide (0 ≤ x16_2) = true := decide_eq_true c10
        clear c10
        by_cases c11 : x16_2 < (l0_1.length : Int)
        ·rw [if_pos c11] at H
         have c11b0 : decide (x16_2 < (l0_1.length : Int)) = true := decide_eq_true c11
         clear c11
         have c12b0 := eq_true (od : 0 ≤ x16_2)
         by_cases c13 : x16_2 ≤ (l0_1.length : Int)
         ·rw [if_pos c13] at H
          have c13b0 := eq_true c13
          have c13b1 : decide (x16_2 ≤ (l0_1.length : Int)) = true := decide_eq_true c13
          clear c13
          obtain ⟨y366, hy366⟩ : ∃ y_ : List (S25), y_ = (l0_1.take (x16_2 : Int).toNat) := ⟨_, rfl⟩
          replace H : ((seg_behind.f k2 a0_0 y366 ((rd_T25 l0_1 x16_2).f0) ((rd_T25 l0_1 x16_2).f1) ((rd_T25 l0_1 x16_2).f2) ((rd_T25 l0_1 x16_2).f3) ((rd_T25 l0_1 x16_2).f4) ((rd_T25 l0_1 x16_2).f5)).bind fun t370 => (if t370 = true then (seg_Check.l0 k2 l0_1 (l0_1.length : Int) (wrap64 (x16_2 + 1)) a0_0 l0_1) else (some 1))) = some r := by first | (rw [hy366]; with_reducible exact H) | (have H2_ := (Option.bind_some _ _).symm.trans H; rw [hy366]; with_reducible exact H2_) | (have H2_ := (Option.bind_some _ _).symm.trans H; with_reducible exact H2_) | with_reducible exact H | (rw [hy366]; exact H) | exact H
          have Ny366 := Aside0.mk hy366
          clear hy366
          replace H := Option.bind_eq_some_iff.mp H
          obtain ⟨t370, A140, H⟩ := H
          replace H : (if t370 = true then (seg_Check.l0 k2 l0_1 (l0_1.length : Int) (wrap64 (x16_2 + 1)) a0_0 l0_1) else (some 1)) = some r := H
          have A14 := Aside0.mk A140
          clear A140
          by_cases c15 : t370 = true
          ·subst c15
           have H1 : (seg_Check.l0 k2 l0_1 (l0_1.length : Int) (wrap64 (x16_2 + 1)) a0_0 l0_1) = some r := by rw [if_pos rfl] at H; exact H
           clear H
           have H := H1
           clear H1
           have H' := Aside0.mk H
           clear H
           have p364 : 0 ≤ (x16_2 : Int) := od
           have q364 : x16_2 < (l0_1.length : Int) := od
           obtain ⟨ad364, e364, hx364_0, hx364_1, hx364_2, hx364_3, hx364_4, hx364_5⟩ := at_T25 HR0_1.out x16_2 p364 q364
           cases e364
           replace hx364_0 := cx HB.out hx364_0
           replace hx364_1 := cx HB.out hx364_1
           replace hx364_2 := cx HB.out hx364_2
           replace hx364_3 := cx HB.out hx364_3
           replace hx364_4 := cx HB.out hx364_4
           replace hx364_5 := cx HB.out hx364_5
           replace p364 := eq_true p364
           replace q364 := eq_true q364
           try go_wp2_with (first | ((with_reducible refine gate_dst (N := 4) rfl ?_); refine box_event ?hg (N := 4) ?hd (cs := #[.int .i64 0, .int .i64 0, .string (⟨#[]⟩ : ByteArray), .string (⟨#[]⟩ : ByteArray), .int .i64 0, .bool false]) (t := 25) ?hr ?_; (case hd => rfl); (case hg => rfl); (case hr => first | (go_simp; done) | (go_simp; rfl)); intro gb365 hg w16 hbox hb; have BK365 := Aside0.mk (hbox); have GW365 := Aside0.mk ((by rw [hg]; exact (below_size bo) : w.heap.size ≤ gb365)); have GE365 := Aside0.mk ((by rw [hg]; exact (below_size bo) : w.heap.size ≤ gb365)); replace HB := Aside0.mk (below_step bo hb); have NB363_365 := Aside0.mk ((by rw [hg]; exact Nat.ne_of_lt (blk_lt (g := gb363) (o := .cells #[.int .i64 a0_0, .slice (some ad364) l0_1.length c0_1] 53 (0, 0)) (bk BK363.out)) : gb363 ≠ gb365)); have NB365_363 := Aside0.mk ((by rw [hg]; exact Nat.ne_of_gt (blk_lt (g := gb363) (o := .cells #[.int .i64 a0_0, .slice (some ad364) l0_1.length c0_1] 53 (0, 0)) (bk BK363.out)) : gb365 ≠ gb363)); replace BK363 := Aside0.mk (blk_below (g := gb363) (o := .cells #[.int .i64 a0_0, .slice (some ad364) l0_1.length c0_1] 53 (0, 0)) (bk BK363.out) hb); clear hb hbox hg; have hnb17 := NB365_363.out; have hnc17 := NB363_365.out; obtain ⟨hcz18_0, hcz18_1, hcz18_2, hcz18_3, hcz18_4, hcz18_5⟩ := cl6 BK365.out; obtain ⟨hfz18_0, hfz18_1, hfz18_2, hfz18_3, hfz18_4, hfz18_5⟩ := fz6 BK365.out))
           (try (rw [drewN_self w16]; generalize hq_ : World.drewN w16 _ = w16; have n0_ := Aside0.mk (blk_at hq_ BK363.out); have n1_ := Aside0.mk (blk_at hq_ BK365.out); have n2_ := Aside0.mk (below_at hq_ HB.out); clear hq_ BK363 BK365 HB; have BK363 := n0_; have BK365 := n1_; have HB := n2_; clear n0_ n1_ n2_))
           have n0_ : Aside0 (((((((w16.setCell ⟨gb365, 0, none⟩ (.int .i64 ((rd_T25 l0_1 x16_2).f0))).setCell ⟨gb365, 1, none⟩ (.int .i64 ((rd_T25 l0_1 x16_2).f1))).setCell ⟨gb365, 2, none⟩ (.string ((rd_T25 l0_1 x16_2).f2))).setCell ⟨gb365, 3, none⟩ (.string ((rd_T25 l0_1 x16_2).f3))).setCell ⟨gb365, 4, none⟩ (.int .i64 ((rd_T25 l0_1 x16_2).f4))).setCell ⟨gb365, 5, none⟩ (.bool ((rd_T25 l0_1 x16_2).f5))).heap[gb363]? = some (.cells #[.int .i64 a0_0, .slice (some ad364) l0_1.length c0_1] 53 (0, 0))) := ⟨by (with_reducible repeat (first | refine blk_drewN ?_ _ | refine blk_drew ?_ | refine blk_alloc ?_ _)); refine blk_far ?_ NB363_365.out _; (with_reducible repeat (first | refine blk_drewN ?_ _ | refine blk_drew ?_ | refine blk_alloc ?_ _)); refine blk_far ?_ NB363_365.out _; (with_reducible repeat (first | refine blk_drewN ?_ _ | refine blk_drew ?_ | refine blk_alloc ?_ _)); refine blk_far ?_ NB363_365.out _; (with_reducible repeat (first | refine blk_drewN ?_ _ | refine blk_drew ?_ | refine blk_alloc ?_ _)); refine blk_far ?_ NB363_365.out _; (with_reducible repeat (first | refine blk_drewN ?_ _ | refine blk_drew ?_ | refine blk_alloc ?_ _)); refine blk_far ?_ NB363_365.out _; (with_reducible repeat (first | refine blk_drewN ?_ _ | refine blk_drew ?_ | refine blk_alloc ?_ _)); refine blk_far ?_ NB363_365.out _; (with_reducible repeat (first | refine blk_drewN ?_ _ | refine blk_drew ?_ | refine blk_alloc ?_ _)); exact BK363.out⟩
           have n1_ : Aside0 (((((((w16.setCell ⟨gb365, 0, none⟩ (.int .i64 ((rd_T25 l0_1 x16_2).f0))).setCell ⟨gb365, 1, none⟩ (.int .i64 ((rd_T25 l0_1 x16_2).f1))).setCell ⟨gb365, 2, none⟩ (.string ((rd_T25 l0_1 x16_2).f2))).setCell ⟨gb365, 3, none⟩ (.string ((rd_T25 l0_1 x16_2).f3))).setCell ⟨gb365, 4, none⟩ (.int .i64 ((rd_T25 l0_1 x16_2).f4))).setCell ⟨gb365, 5, none⟩ (.bool ((rd_T25 l0_1 x16_2).f5))).heap[gb365]? = some (.cells #[.int .i64 ((rd_T25 l0_1 x16_2).f0), .int .i64 ((rd_T25 l0_1 x16_2).f1), .string ((rd_T25 l0_1 x16_2).f2), .string ((rd_T25 l0_1 x16_2).f3), .int .i64 ((rd_T25 l0_1 x16_2).f4), .bool ((rd_T25 l0_1 x16_2).f5)] 25 (0, 0))) := ⟨by (with_reducible repeat (first | refine blk_drewN ?_ _ | refine blk_drew ?_ | refine blk_alloc ?_ _)); refine blk_put (cs := #[.int .i64 ((rd_T25 l0_1 x16_2).f0), .int .i64 ((rd_T25 l0_1 x16_2).f1), .string ((rd_T25 l0_1 x16_2).f2), .string ((rd_T25 l0_1 x16_2).f3), .int .i64 ((rd_T25 l0_1 x16_2).f4), .bool false]) ?_ 5 _ rfl; (with_reducible repeat (first | refine blk_drewN ?_ _ | refine blk_drew ?_ | refine blk_alloc ?_ _)); refine blk_put (cs := #[.int .i64 ((rd_T25 l0_1 x16_2).f0), .int .i64 ((rd_T25 l0_1 x16_2).f1), .string ((rd_T25 l0_1 x16_2).f2), .string ((rd_T25 l0_1 x16_2).f3), .int .i64 0, .bool false]) ?_ 4 _ rfl; (with_reducible repeat (first | refine blk_drewN ?_ _ | refine blk_drew ?_ | refine blk_alloc ?_ _)); refine blk_put (cs := #[.int .i64 ((rd_T25 l0_1 x16_2).f0), .int .i64 ((rd_T25 l0_1 x16_2).f1), .string ((rd_T25 l0_1 x16_2).f2), .string (⟨#[]⟩ : ByteArray), .int .i64 0, .bool false]) ?_ 3 _ rfl; (with_reducible repeat (first | refine blk_drewN ?_ _ | refine blk_drew ?_ | refine blk_alloc ?_ _)); refine blk_put (cs := #[.int .i64 ((rd_T25 l0_1 x16_2).f0), .int .i64 ((rd_T25 l0_1 x16_2).f1), .string (⟨#[]⟩ : ByteArray), .string (⟨#[]⟩ : ByteArray), .int .i64 0, .bool false]) ?_ 2 _ rfl; (with_reducible repeat (first | refine blk_drewN ?_ _ | refine blk_drew ?_ | refine blk_alloc ?_ _)); refine blk_put (cs := #[.int .i64 ((rd_T25 l0_1 x16_2).f0), .int .i64 0, .string (⟨#[]⟩ : ByteArray), .string (⟨#[]⟩ : ByteArray), .int .i64 0, .bool false]) ?_ 1 _ rfl; (with_reducible repeat (first | refine blk_drewN ?_ _ | refine blk_drew ?_ | refine blk_alloc ?_ _)); refine blk_put (cs := #[.int .i64 0, .int .i64 0, .string (⟨#[]⟩ : ByteArray), .string (⟨#[]⟩ : ByteArray), .int .i64 0, .bool false]) ?_ 0 _ rfl; (with_reducible repeat (first | refine blk_drewN ?_ _ | refine blk_drew ?_ | refine blk_alloc ?_ _)); exact BK365.out⟩
           have n2_ : Aside0 (Below w.heap.size w ((((((w16.setCell ⟨gb365, 0, none⟩ (.int .i64 ((rd_T25 l0_1 x16_2).f0))).setCell ⟨gb365, 1, none⟩ (.int .i64 ((rd_T25 l0_1 x16_2).f1))).setCell ⟨gb365, 2, none⟩ (.string ((rd_T25 l0_1 x16_2).f2))).setCell ⟨gb365, 3, none⟩ (.string ((rd_T25 l0_1 x16_2).f3))).setCell ⟨gb365, 4, none⟩ (.int .i64 ((rd_T25 l0_1 x16_2).f4))).setCell ⟨gb365, 5, none⟩ (.bool ((rd_T25 l0_1 x16_2).f5)))) := ⟨bo⟩
           (try clear BK363)
           (try clear BK365)
           (try clear HB)
           generalize ((((((w16.setCell ⟨gb365, 0, none⟩ (.int .i64 ((rd_T25 l0_1 x16_2).f0))).setCell ⟨gb365, 1, none⟩ (.int .i64 ((rd_T25 l0_1 x16_2).f1))).setCell ⟨gb365, 2, none⟩ (.string ((rd_T25 l0_1 x16_2).f2))).setCell ⟨gb365, 3, none⟩ (.string ((rd_T25 l0_1 x16_2).f3))).setCell ⟨gb365, 4, none⟩ (.int .i64 ((rd_T25 l0_1 x16_2).f4))).setCell ⟨gb365, 5, none⟩ (.bool ((rd_T25 l0_1 x16_2).f5))) = w19 at n0_ n1_ n2_ ⊢
           have BK363 := n0_
           have BK365 := n1_
           have HB := n2_
           clear n0_ n1_ n2_
           replace BK363 := Aside0.mk (blk_drew BK363.out)
           replace BK365 := Aside0.mk (blk_drew BK365.out)
           replace HB := Aside0.mk (below_drew1 HB.out)
           have q21 : (x16_2 : Int) ≤ ((l0_1.length : Int) : Int) := od
           obtain ⟨i021, hi021, _, hsz21, _⟩ := info_parts info25
           have hroom21 : l0_1.length ≤ c0_1 := HC0_1.out
           have hC21 : Kd.C k25 _ (some ad364) l0_1.length l0_1 := HR0_1.out
           have hcut21 := cut_to (P := Try.prog) 36 25 .i64 Try.underlying36 hi021 (some ad364) l0_1.length c0_1 x16_2 (od) q21 hroom21
           have hr21 := Kd.C_take (m := (x16_2 : Int).toNat) hC21 (by omega)
           have hy21 : y366.length = (x16_2 : Int).toNat := (by rw [Ny366.out, List.length_take]; omega)
           rw [← Ny366.out] at hr21
           rw [← hy21] at hcut21
           have HR369 := Aside0.mk hr21
           have HC369 := Aside0.mk (show y366.length ≤ c0_1 from by omega)
           clear hr21 hC21 hroom21 hi021 hsz21
           have KY21 := Aside0.mk hy21
           clear hy21
           replace q21 := eq_true q21
           refine start_ (n := 9) (S := fun w' => w'.cell? ⟨gb363, 0, none⟩ = some (.int .i64 a0_0) ∧ w'.cell? ⟨gb363, 1, none⟩ = some (.slice (some ad364) l0_1.length c0_1) ∧ w'.cell? ⟨gb365, 0, none⟩ = some (.int .i64 ((rd_T25 l0_1 x16_2).f0)) ∧ w'.cell? ⟨gb365, 1, none⟩ = some (.int .i64 ((rd_T25 l0_1 x16_2).f1)) ∧ w'.cell? ⟨gb365, 2, none⟩ = some (.string ((rd_T25 l0_1 x16_2).f2)) ∧ w'.cell? ⟨gb365, 3, none⟩ = some (.string ((rd_T25 l0_1 x16_2).f3)) ∧ w'.cell? ⟨gb365, 4, none⟩ = some (.int .i64 ((rd_T25 l0_1 x16_2).f4)) ∧ w'.cell? ⟨gb365, 5, none⟩ = some (.bool ((rd_T25 l0_1 x16_2).f5))) (ds := []) #[O,O,O,O,O,O,O,O,O] (by kernel_rfl) rfl rfl ⟨(blk_cell BK363.out 0).trans rfl, (blk_cell BK363.out 1).trans rfl, (blk_cell BK365.out 0).trans rfl, (blk_cell BK365.out 1).trans rfl, (blk_cell BK365.out 2).trans rfl, (blk_cell BK365.out 3).trans rfl, (blk_cell BK365.out 4).trans rfl, (blk_cell BK365.out 5).trans rfl⟩ (fun hHeld => ?_); refine with_tabW seg_Check.tab6 seg_Check.bits6 (fun HT_ HW_ => ?_)
           generalize w19.drew = w20 at BK363 BK365 HB HR369 hHeld ⊢
           refine pz (i := 0) (N := some 21) #[I,O,O,O,O,O,O,O,O] ?_
           refine pz (i := 2) (N := some 23) #[I,O,I,O,O,O,O,O,O] ?_
           refine pz (i := 4) (N := some 25) #[I,O,I,O,I,O,O,O,O] ?_
           refine tz (i := 1) (N := some 22) #[I,I,I,O,I,O,O,O,O] ?_
           refine tz (i := 3) (N := some 24) #[I,I,I,I,I,O,O,O,O] ?_
           refine pz (i := 5) (N := some 26) #[I,I,I,I,I,I,O,O,O] ?_
           refine tz (i := 6) (N := some 27) #[I,I,I,I,I,I,I,O,O] ?_
           refine one_ (i := 7) (N := some 28) #[I,I,I,I,I,I,I,I,O] rfl rfl (one_of HT_.out (by kernel_rfl)) (by decide) (fun K hK => ?_)
           refine goes_ Try.func75 (by kernel_rfl) rfl #[.int .i64 a0_0, .slice (some ad364) y366.length c0_1, .agg #[.int .i64 ((rd_T25 l0_1 x16_2).f0), .int .i64 ((rd_T25 l0_1 x16_2).f1), .string ((rd_T25 l0_1 x16_2).f2), .string ((rd_T25 l0_1 x16_2).f3), .int .i64 ((rd_T25 l0_1 x16_2).f4), .bool ((rd_T25 l0_1 x16_2).f5)]] (by rfl) rfl rfl aa ?_
           with_reducible refine (seg_behind.calls k2 a0_0 _ _ y366 ((rd_T25 l0_1 x16_2).f0) ((rd_T25 l0_1 x16_2).f1) ((rd_T25 l0_1 x16_2).f2) ((rd_T25 l0_1 x16_2).f3) ((rd_T25 l0_1 x16_2).f4) ((rd_T25 l0_1 x16_2).f5) true _ ?side1 ?side2 A14.out).mono ?_
           (case side1 => repeat (first | exact (Kd.C_below HR369.out HB.out) | (with_reducible refine Kd.C_alloc ?_ _) | (with_reducible refine Kd.C_drewN ?_ _) | (with_reducible refine Kd.C_drew ?_)))
           (case side2 => exact HC369.out)
           rintro e w22 ⟨rfl, hb⟩
           refine ⟨_, rfl, ?_⟩
           replace BK363 := Aside0.mk (blk_below (g := gb363) (o := .cells #[.int .i64 a0_0, .slice (some ad364) l0_1.length c0_1] 53 (0, 0)) (bk BK363.out) hb)
           replace BK365 := Aside0.mk (blk_below (g := gb365) (o := .cells #[.int .i64 ((rd_T25 l0_1 x16_2).f0), .int .i64 ((rd_T25 l0_1 x16_2).f1), .string ((rd_T25 l0_1 x16_2).f2), .string ((rd_T25 l0_1 x16_2).f3), .int .i64 ((rd_T25 l0_1 x16_2).f4), .bool ((rd_T25 l0_1 x16_2).f5)] 25 (0, 0)) (bk BK365.out) hb)
           replace HB := Aside0.mk (below_step bo hb)
           (try clear hb)
           (try clear hb2)
           (try clear hk)
           (try clear hi)
           refine hK.out _ _ ⟨(blk_cell BK363.out 0).trans rfl, (blk_cell BK363.out 1).trans rfl, (blk_cell BK365.out 0).trans rfl, (blk_cell BK365.out 1).trans rfl, (blk_cell BK365.out 2).trans rfl, (blk_cell BK365.out 3).trans rfl, (blk_cell BK365.out 4).trans rfl, (blk_cell BK365.out 5).trans rfl⟩ (fun hHeld => ?_)
           clear hK K
           refine norm_ (a' := ?_) ?_ ?_
           rotate_left
           ·show Act.put _ (some 28) _ = _
            simp only [Act.put, List.setIfInBounds_toArray, List.set_cons_zero, List.set_cons_succ, i64_w, i32_w]
            rfl
           refine pz (i := 8) (N := some 29) #[I,I,I,I,I,I,I,I,I] ?_
           refine done_ (done_of HT_.out (by kernel_rfl)) ?_
           try go_wp2
           go_roundg k2
           case measure => have := HJ1.out; have := HK2.out; omega
           case rel => exact ⟨(wrap64 (x16_2 + 1)), ap, H', ⟨by have := HJ1.out; have := HK2.out; omega⟩, ⟨by (with_reducible repeat (first | refine blk_drewN ?_ _ | refine blk_drew ?_ | refine blk_alloc ?_ _)); exact BK363.out⟩, ⟨bo⟩⟩
          ·replace c15 := Bool.eq_false_iff.mpr c15
           subst c15
           have H1 : (some 1) = some r := by rw [if_neg (show ¬ (false = true) by decide)] at H; exact H
           clear H
           have H := H1
           clear H1
           obtain rfl := Option.some.inj H
           have p364 : 0 ≤ (x16_2 : Int) := od
           have q364 : x16_2 < (l0_1.length : Int) := od
           obtain ⟨ad364, e364, hx364_0, hx364_1, hx364_2, hx364_3, hx364_4, hx364_5⟩ := at_T25 HR0_1.out x16_2 p364 q364
           cases e364
           replace hx364_0 := cx HB.out hx364_0
           replace hx364_1 := cx HB.out hx364_1
           replace hx364_2 := cx HB.out hx364_2
           replace hx364_3 := cx HB.out hx364_3
           replace hx364_4 := cx HB.out hx364_4
           replace hx364_5 := cx HB.out hx364_5
           replace p364 := eq_true p364
           replace q364 := eq_true q364
           try go_wp2_with (first | ((with_reducible refine gate_dst (N := 4) rfl ?_); refine box_event ?hg (N := 4) ?hd (cs := #[.int .i64 0, .int .i64 0, .string (⟨#[]⟩ : ByteArray), .string (⟨#[]⟩ : ByteArray), .int .i64 0, .bool false]) (t := 25) ?hr ?_; (case hd => rfl); (case hg => rfl); (case hr => first | (go_simp; done) | (go_simp; rfl)); intro gb365 hg w23 hbox hb; have BK365 := Aside0.mk (hbox); have GW365 := Aside0.mk ((by rw [hg]; exact (below_size bo) : w.heap.size ≤ gb365)); have GE365 := Aside0.mk ((by rw [hg]; exact (below_size bo) : w.heap.size ≤ gb365)); replace HB := Aside0.mk (below_step bo hb); have NB363_365 := Aside0.mk ((by rw [hg]; exact Nat.ne_of_lt (blk_lt (g := gb363) (o := .cells #[.int .i64 a0_0, .slice (some ad364) l0_1.length c0_1] 53 (0, 0)) (bk BK363.out)) : gb363 ≠ gb365)); have NB365_363 := Aside0.mk ((by rw [hg]; exact Nat.ne_of_gt (blk_lt (g := gb363) (o := .cells #[.int .i64 a0_0, .slice (some ad364) l0_1.length c0_1] 53 (0, 0)) (bk BK363.out)) : gb365 ≠ gb363)); replace BK363 := Aside0.mk (blk_below (g := gb363) (o := .cells #[.int .i64 a0_0, .slice (some ad364) l0_1.length c0_1] 53 (0, 0)) (bk BK363.out) hb); clear hb hbox hg; have hnb24 := NB365_363.out; have hnc24 := NB363_365.out; obtain ⟨hcz25_0, hcz25_1, hcz25_2, hcz25_3, hcz25_4, hcz25_5⟩ := cl6 BK365.out; obtain ⟨hfz25_0, hfz25_1, hfz25_2, hfz25_3, hfz25_4, hfz25_5⟩ := fz6 BK365.out))
           (try (rw [drewN_self w23]; generalize hq_ : World.drewN w23 _ = w23; have n0_ := Aside0.mk (blk_at hq_ BK363.out); have n1_ := Aside0.mk (blk_at hq_ BK365.out); have n2_ := Aside0.mk (below_at hq_ HB.out); clear hq_ BK363 BK365 HB; have BK363 := n0_; have BK365 := n1_; have HB := n2_; clear n0_ n1_ n2_))
           have n0_ : Aside0 (((((((w23.setCell ⟨gb365, 0, none⟩ (.int .i64 ((rd_T25 l0_1 x16_2).f0))).setCell ⟨gb365, 1, none⟩ (.int .i64 ((rd_T25 l0_1 x16_2).f1))).setCell ⟨gb365, 2, none⟩ (.string ((rd_T25 l0_1 x16_2).f2))).setCell ⟨gb365, 3, none⟩ (.string ((rd_T25 l0_1 x16_2).f3))).setCell ⟨gb365, 4, none⟩ (.int .i64 ((rd_T25 l0_1 x16_2).f4))).setCell ⟨gb365, 5, none⟩ (.bool ((rd_T25 l0_1 x16_2).f5))).heap[gb363]? = some (.cells #[.int .i64 a0_0, .slice (some ad364) l0_1.length c0_1] 53 (0, 0))) := ⟨by (with_reducible repeat (first | refine blk_drewN ?_ _ | refine blk_drew ?_ | refine blk_alloc ?_ _)); refine blk_far ?_ NB363_365.out _; (with_reducible repeat (first | refine blk_drewN ?_ _ | refine blk_drew ?_ | refine blk_alloc ?_ _)); refine blk_far ?_ NB363_365.out _; (with_reducible repeat (first | refine blk_drewN ?_ _ | refine blk_drew ?_ | refine blk_alloc ?_ _)); refine blk_far ?_ NB363_365.out _; (with_reducible repeat (first | refine blk_drewN ?_ _ | refine blk_drew ?_ | refine blk_alloc ?_ _)); refine blk_far ?_ NB363_365.out _; (with_reducible repeat (first | refine blk_drewN ?_ _ | refine blk_drew ?_ | refine blk_alloc ?_ _)); refine blk_far ?_ NB363_365.out _; (with_reducible repeat (first | refine blk_drewN ?_ _ | refine blk_drew ?_ | refine blk_alloc ?_ _)); refine blk_far ?_ NB363_365.out _; (with_reducible repeat (first | refine blk_drewN ?_ _ | refine blk_drew ?_ | refine blk_alloc ?_ _)); exact BK363.out⟩
           have n1_ : Aside0 (((((((w23.setCell ⟨gb365, 0, none⟩ (.int .i64 ((rd_T25 l0_1 x16_2).f0))).setCell ⟨gb365, 1, none⟩ (.int .i64 ((rd_T25 l0_1 x16_2).f1))).setCell ⟨gb365, 2, none⟩ (.string ((rd_T25 l0_1 x16_2).f2))).setCell ⟨gb365, 3, none⟩ (.string ((rd_T25 l0_1 x16_2).f3))).setCell ⟨gb365, 4, none⟩ (.int .i64 ((rd_T25 l0_1 x16_2).f4))).setCell ⟨gb365, 5, none⟩ (.bool ((rd_T25 l0_1 x16_2).f5))).heap[gb365]? = some (.cells #[.int .i64 ((rd_T25 l0_1 x16_2).f0), .int .i64 ((rd_T25 l0_1 x16_2).f1), .string ((rd_T25 l0_1 x16_2).f2), .string ((rd_T25 l0_1 x16_2).f3), .int .i64 ((rd_T25 l0_1 x16_2).f4), .bool ((rd_T25 l0_1 x16_2).f5)] 25 (0, 0))) := ⟨by (with_reducible repeat (first | refine blk_drewN ?_ _ | refine blk_drew ?_ | refine blk_alloc ?_ _)); refine blk_put (cs := #[.int .i64 ((rd_T25 l0_1 x16_2).f0), .int .i64 ((rd_T25 l0_1 x16_2).f1), .string ((rd_T25 l0_1 x16_2).f2), .string ((rd_T25 l0_1 x16_2).f3), .int .i64 ((rd_T25 l0_1 x16_2).f4), .bool false]) ?_ 5 _ rfl; (with_reducible repeat (first | refine blk_drewN ?_ _ | refine blk_drew ?_ | refine blk_alloc ?_ _)); refine blk_put (cs := #[.int .i64 ((rd_T25 l0_1 x16_2).f0), .int .i64 ((rd_T25 l0_1 x16_2).f1), .string ((rd_T25 l0_1 x16_2).f2), .string ((rd_T25 l0_1 x16_2).f3), .int .i64 0, .bool false]) ?_ 4 _ rfl; (with_reducible repeat (first | refine blk_drewN ?_ _ | refine blk_drew ?_ | refine blk_alloc ?_ _)); refine blk_put (cs := #[.int .i64 ((rd_T25 l0_1 x16_2).f0), .int .i64 ((rd_T25 l0_1 x16_2).f1), .string ((rd_T25 l0_1 x16_2).f2), .string (⟨#[]⟩ : ByteArray), .int .i64 0, .bool false]) ?_ 3 _ rfl; (with_reducible repeat (first | refine blk_drewN ?_ _ | refine blk_drew ?_ | refine blk_alloc ?_ _)); refine blk_put (cs := #[.int .i64 ((rd_T25 l0_1 x16_2).f0), .int .i64 ((rd_T25 l0_1 x16_2).f1), .string (⟨#[]⟩ : ByteArray), .string (⟨#[]⟩ : ByteArray), .int .i64 0, .bool false]) ?_ 2 _ rfl; (with_reducible repeat (first | refine blk_drewN ?_ _ | refine blk_drew ?_ | refine blk_alloc ?_ _)); refine blk_put (cs := #[.int .i64 ((rd_T25 l0_1 x16_2).f0), .int .i64 0, .string (⟨#[]⟩ : ByteArray), .string (⟨#[]⟩ : ByteArray), .int .i64 0, .bool false]) ?_ 1 _ rfl; (with_reducible repeat (first | refine blk_drewN ?_ _ | refine blk_drew ?_ | refine blk_alloc ?_ _)); refine blk_put (cs := #[.int .i64 0, .int .i64 0, .string (⟨#[]⟩ : ByteArray), .string (⟨#[]⟩ : ByteArray), .int .i64 0, .bool false]) ?_ 0 _ rfl; (with_reducible repeat (first | refine blk_drewN ?_ _ | refine blk_drew ?_ | refine blk_alloc ?_ _)); exact BK365.out⟩
           have n2_ : Aside0 (Below w.heap.size w ((((((w23.setCell ⟨gb365, 0, none⟩ (.int .i64 ((rd_T25 l0_1 x16_2).f0))).setCell ⟨gb365, 1, none⟩ (.int .i64 ((rd_T25 l0_1 x16_2).f1))).setCell ⟨gb365, 2, none⟩ (.string ((rd_T25 l0_1 x16_2).f2))).setCell ⟨gb365, 3, none⟩ (.string ((rd_T25 l0_1 x16_2).f3))).setCell ⟨gb365, 4, none⟩ (.int .i64 ((rd_T25 l0_1 x16_2).f4))).setCell ⟨gb365, 5, none⟩ (.bool ((rd_T25 l0_1 x16_2).f5)))) := ⟨bo⟩
           (try clear BK363)
           (try clear BK365)
           (try clear HB)
           generalize ((((((w23.setCell ⟨gb365, 0, none⟩ (.int .i64 ((rd_T25 l0_1 x16_2).f0))).setCell ⟨gb365, 1, none⟩ (.int .i64 ((rd_T25 l0_1 x16_2).f1))).setCell ⟨gb365, 2, none⟩ (.string ((rd_T25 l0_1 x16_2).f2))).setCell ⟨gb365, 3, none⟩ (.string ((rd_T25 l0_1 x16_2).f3))).setCell ⟨gb365, 4, none⟩ (.int .i64 ((rd_T25 l0_1 x16_2).f4))).setCell ⟨gb365, 5, none⟩ (.bool ((rd_T25 l0_1 x16_2).f5))) = w26 at n0_ n1_ n2_ ⊢
           have BK363 := n0_
           have BK365 := n1_
           have HB := n2_
           clear n0_ n1_ n2_
           replace BK363 := Aside0.mk (blk_drew BK363.out)
           replace BK365 := Aside0.mk (blk_drew BK365.out)
           replace HB := Aside0.mk (below_drew1 HB.out)
           have q28 : (x16_2 : Int) ≤ ((l0_1.length : Int) : Int) := od
           obtain ⟨i028, hi028, _, hsz28, _⟩ := info_parts info25
           have hroom28 : l0_1.length ≤ c0_1 := HC0_1.out
           have hC28 : Kd.C k25 _ (some ad364) l0_1.length l0_1 := HR0_1.out
           have hcut28 := cut_to (P := Try.prog) 36 25 .i64 Try.underlying36 hi028 (some ad364) l0_1.length c0_1 x16_2 (od) q28 hroom28
           have hr28 := Kd.C_take (m := (x16_2 : Int).toNat) hC28 (by omega)
           have hy28 : y366.length = (x16_2 : Int).toNat := (by rw [Ny366.out, List.length_take]; omega)
           rw [← Ny366.out] at hr28
           rw [← hy28] at hcut28
           have HR369 := Aside0.mk hr28
           have HC369 := Aside0.mk (show y366.length ≤ c0_1 from by omega)
           clear hr28 hC28 hroom28 hi028 hsz28
           have KY28 := Aside0.mk hy28
           clear hy28
           replace q28 := eq_true q28
           refine start_ (n := 9) (S := fun w' => w'.cell? ⟨gb363, 0, none⟩ = some (.int .i64 a0_0) ∧ w'.cell? ⟨gb363, 1, none⟩ = some (.slice (some ad364) l0_1.length c0_1) ∧ w'.cell? ⟨gb365, 0, none⟩ = some (.int .i64 ((rd_T25 l0_1 x16_2).f0)) ∧ w'.cell? ⟨gb365, 1, none⟩ = some (.int .i64 ((rd_T25 l0_1 x16_2).f1)) ∧ w'.cell? ⟨gb365, 2, none⟩ = some (.string ((rd_T25 l0_1 x16_2).f2)) ∧ w'.cell? ⟨gb365, 3, none⟩ = some (.string ((rd_T25 l0_1 x16_2).f3)) ∧ w'.cell? ⟨gb365, 4, none⟩ = some (.int .i64 ((rd_T25 l0_1 x16_2).f4)) ∧ w'.cell? ⟨gb365, 5, none⟩ = some (.bool ((rd_T25 l0_1 x16_2).f5))) (ds := []) #[O,O,O,O,O,O,O,O,O] (by kernel_rfl) rfl rfl ⟨(blk_cell BK363.out 0).trans rfl, (blk_cell BK363.out 1).trans rfl, (blk_cell BK365.out 0).trans rfl, (blk_cell BK365.out 1).trans rfl, (blk_cell BK365.out 2).trans rfl, (blk_cell BK365.out 3).trans rfl, (blk_cell BK365.out 4).trans rfl, (blk_cell BK365.out 5).trans rfl⟩ (fun hHeld => ?_); refine with_tabW seg_Check.tab6 seg_Check.bits6 (fun HT_ HW_ => ?_)
           generalize w26.drew = w27 at BK363 BK365 HB HR369 hHeld ⊢
           refine pz (i := 0) (N := some 21) #[I,O,O,O,O,O,O,O,O] ?_
           refine pz (i := 2) (N := some 23) #[I,O,I,O,O,O,O,O,O] ?_
           refine pz (i := 4) (N := some 25) #[I,O,I,O,I,O,O,O,O] ?_
           refine tz (i := 1) (N := some 22) #[I,I,I,O,I,O,O,O,O] ?_
           refine tz (i := 3) (N := some 24) #[I,I,I,I,I,O,O,O,O] ?_
           refine pz (i := 5) (N := some 26) #[I,I,I,I,I,I,O,O,O] ?_
           refine tz (i := 6) (N := some 27) #[I,I,I,I,I,I,I,O,O] ?_
           refine one_ (i := 7) (N := some 28) #[I,I,I,I,I,I,I,I,O] rfl rfl (one_of HT_.out (by kernel_rfl)) (by decide) (fun K hK => ?_)
           refine goes_ Try.func75 (by kernel_rfl) rfl #[.int .i64 a0_0, .slice (some ad364) y366.length c0_1, .agg #[.int .i64 ((rd_T25 l0_1 x16_2).f0), .int .i64 ((rd_T25 l0_1 x16_2).f1), .string ((rd_T25 l0_1 x16_2).f2), .string ((rd_T25 l0_1 x16_2).f3), .int .i64 ((rd_T25 l0_1 x16_2).f4), .bool ((rd_T25 l0_1 x16_2).f5)]] (by rfl) rfl rfl aa ?_
           with_reducible refine (seg_behind.calls k2 a0_0 _ _ y366 ((rd_T25 l0_1 x16_2).f0) ((rd_T25 l0_1 x16_2).f1) ((rd_T25 l0_1 x16_2).f2) ((rd_T25 l0_1 x16_2).f3) ((rd_T25 l0_1 x16_2).f4) ((rd_T25 l0_1 x16_2).f5) false _ ?side1 ?side2 A14.out).mono ?_
           (case side1 => repeat (first | exact (Kd.C_below HR369.out HB.out) | (with_reducible refine Kd.C_alloc ?_ _) | (with_reducible refine Kd.C_drewN ?_ _) | (with_reducible refine Kd.C_drew ?_)))
           (case side2 => exact HC369.out)
           rintro e w29 ⟨rfl, hb⟩
           refine ⟨_, rfl, ?_⟩
           replace BK363 := Aside0.mk (blk_below (g := gb363) (o := .cells #[.int .i64 a0_0, .slice (some ad364) l0_1.length c0_1] 53 (0, 0)) (bk BK363.out) hb)
           replace BK365 := Aside0.mk (blk_below (g := gb365) (o := .cells #[.int .i64 ((rd_T25 l0_1 x16_2).f0), .int .i64 ((rd_T25 l0_1 x16_2).f1), .string ((rd_T25 l0_1 x16_2).f2), .string ((rd_T25 l0_1 x16_2).f3), .int .i64 ((rd_T25 l0_1 x16_2).f4), .bool ((rd_T25 l0_1 x16_2).f5)] 25 (0, 0)) (bk BK365.out) hb)
           replace HB := Aside0.mk (below_step bo hb)
           (try clear hb)
           (try clear hb2)
           (try clear hk)
           (try clear hi)
           refine hK.out _ _ ⟨(blk_cell BK363.out 0).trans rfl, (blk_cell BK363.out 1).trans rfl, (blk_cell BK365.out 0).trans rfl, (blk_cell BK365.out 1).trans rfl, (blk_cell BK365.out 2).trans rfl, (blk_cell BK365.out 3).trans rfl, (blk_cell BK365.out 4).trans rfl, (blk_cell BK365.out 5).trans rfl⟩ (fun hHeld => ?_)
           clear hK K
           refine norm_ (a' := ?_) ?_ ?_
           rotate_left
           ·show Act.put _ (some 28) _ = _
            simp only [Act.put, List.setIfInBounds_toArray, List.set_cons_zero, List.set_cons_succ, i64_w, i32_w]
            rfl
           refine pz (i := 8) (N := some 29) #[I,I,I,I,I,I,I,I,I] ?_
           refine done_ (done_of HT_.out (by kernel_rfl)) ?_
           try go_wp2
           go_ret
           exact ⟨er, bo⟩
         ·rw [if_neg c13] at H
          exact absurd H (by simp)
        ·rw [if_neg c11] at H
         exact absurd H (by simp)
       ·rw [if_neg c10] at H
        exact absurd H (by simp)
      ·rw [if_neg c9] at H
       have c9b0 : decide (x16_2 < (l0_1.length : Int)) = false := decide_eq_false c9
       clear c9
       obtain rfl := Option.some.inj H
       go_wp2
       go_ret
       exact ⟨er, bo⟩

end Go.Proofs.Ytmabdfdmccbfnaa.P

-- written by a program of the proving session, out of the translation; Lean checks it
namespace Go.Proofs.Ytmabdfdmccbfnaa.P
open Go.RowKit Go.Proofs.Ytmabdfdmccbfnaa.Sq Go.Proofs.YtmabdfdmccbfnaaW.PrintWords Go.Proofs.YtmabdfdmccbfnaaW.PrintLast Go.Proofs.YtmabdfdmccbfnaaW.PrintMore
attribute [local go_sem] max2_int min2_int max_two min_two max_three min_three max_four min_four   -- for this text's walks alone
set_option linter.unusedVariables false
set_option linter.unusedSimpArgs false

/-! ### seg_Find: function 32 -/
/-- The first record of which the closure holds. -/
def seg_Find.ix (q : Int) : List S25 → Nat → Int
 | [], _ => -1
 | x :: l, i => if x.f0 ≥ q then (i : Int) else seg_Find.ix q l (i + 1)
def seg_Find.f (k : Nat) (a0_0 : Int) (l0_1 : List (S25)) (a1 : Int) : Option (Int × Int × ByteArray × ByteArray × Int × Bool × Int) :=
 (seg_Check.f k a0_0 l0_1).bind fun t => (if t = 0 then (if seg_Find.ix a1 l0_1 0 < 0 then (some (0, 0, (⟨#[]⟩ : ByteArray), (⟨#[]⟩ : ByteArray), 0, false, 3)) else (some ((rd_T25 l0_1 (seg_Find.ix a1 l0_1 0)).f0, (rd_T25 l0_1 (seg_Find.ix a1 l0_1 0)).f1, (rd_T25 l0_1 (seg_Find.ix a1 l0_1 0)).f2, (rd_T25 l0_1 (seg_Find.ix a1 l0_1 0)).f3, (rd_T25 l0_1 (seg_Find.ix a1 l0_1 0)).f4, (rd_T25 l0_1 (seg_Find.ix a1 l0_1 0)).f5, 0))) else (some (0, 0, (⟨#[]⟩ : ByteArray), (⟨#[]⟩ : ByteArray), 0, false, t)))
theorem seg_Find.mono : ∀ a0 a1 a2 k, LeO (seg_Find.f k a0 a1 a2) (seg_Find.f (k + 1) a0 a1 a2) := by
 intro a0 a1 a2 k
 unfold seg_Find.f
 exact LeO.bind (seg_Check.mono _ _ _) (fun _ => LeO.refl _)
theorem seg_Find.ix_step (q : Int) (l : List S25) (i : Nat) (h : i < l.length) : seg_Find.ix q (l.drop i) i = if (rd_T25 l i).f0 ≥ q then (i : Int) else seg_Find.ix q (l.drop (i + 1)) (i + 1) := by
 have e : rd_T25 l i = l[i] := by unfold rd_T25; simp [List.getD_eq_getElem?_getD, List.getElem?_eq_getElem h]
 rw [List.drop_eq_getElem_cons h, seg_Find.ix, e]
theorem seg_Find.ix_in (q : Int) : ∀ (l : List S25) (i : Nat), seg_Find.ix q l i = -1 ∨ ((i : Int) ≤ seg_Find.ix q l i ∧ seg_Find.ix q l i < i + l.length)
 | [], i => .inl rfl
 | x :: l, i => by
  unfold seg_Find.ix
  split
  ·right; simp; omega
  ·rcases seg_Find.ix_in q l (i + 1) with h | h
   ·exact .inl h
   ·right; simp; omega
theorem seg_Find.below_cells {W w1 : World} (hb : Below W.heap.size W w1) : (∀ b o, b < W.heap.size → w1.cell? ⟨b, o, none⟩ = W.cell? ⟨b, o, none⟩) ∧ (∀ b o, b < W.heap.size → w1.frozen? ⟨b, o, none⟩ = W.frozen? ⟨b, o, none⟩) :=
 ⟨fun b o h => hb.cell (p := ⟨b, o, none⟩) h, fun b o h => hb.frozen (p := ⟨b, o, none⟩) h⟩
set_option maxHeartbeats 1000000 in
set_option maxRecDepth 100000 in
theorem seg_Find.cl (g : Nat) (q : Int) (x : S25) (W : World) (hg : g < W.heap.size) (hc : W.cell? ⟨g, 0, none⟩ = some (.int .i64 q)) (b : Bool) (hb : decide (x.f0 ≥ q) = b) :
 Calls Try.prog 73 #[.agg #[.int .i64 x.f0, .int .i64 x.f1, .string x.f2, .string x.f3, .int .i64 x.f4, .bool x.f5], .pointer (some ⟨g, 0, none⟩)] W fun e w' => e = .returned (.bool b) ∧ Below W.heap.size W w' := by
 have hu25 := Try.underlying25
 subst hb
 go_enter Try.func73, Try.ntmps73
 go_wp2
 go_ret
 exact ⟨by first | rfl | simp, by first | exact (Below.refl _ _).alloc (Nat.le_refl _) _ | skip⟩
set_option maxHeartbeats 4000000 in
set_option maxRecDepth 100000 in
theorem seg_Find.ixcalls (A0 : Option Addr) (c0 : Nat) (l0 : List S25) (q : Int) (g : Nat) (w : World) (hr0 : Kd.C k25 w A0 l0.length l0) (hc0 : l0.length ≤ c0) (hg : g < w.heap.size) (hc : w.cell? ⟨g, 0, none⟩ = some (.int .i64 q)) :
 Calls Try.prog 84 #[.slice A0 l0.length c0, .func (.func 73) #[] #[.pointer (some ⟨g, 0, none⟩)]] w fun e w' => e = .returned (.int .i64 (seg_Find.ix q l0 0)) ∧ Below w.heap.size w w' := by
 have hm := hr0.2.1
 have HR0 := Aside0.mk hr0
 have HC0 := Aside0.mk hc0
 have HG := Aside0.mk hg
 have HCl := Aside0.mk hc
 have HB := Aside0.mk (Below.refl w.heap.size w)
 clear hr0 hc0 hg hc
 go_enter Try.func84, Try.ntmps84
 go_wp2
 go_loopw [8] (fun v8 w' => ∃ i : Nat, i ≤ l0.length ∧ v8 = .int .i64 i ∧ Aside0 (seg_Find.ix q (l0.drop i) i = seg_Find.ix q l0 0) ∧ Aside0 (Below w.heap.size w w')) (fun v8 _ => l0.length - (intOf v8).toNat)
 case atStart => exact ⟨0, Nat.zero_le _, rfl, ⟨by simp⟩, HB⟩
 case round =>
  clear HB
  obtain ⟨i, hi, rfl, HX, HB⟩ := hrel
  by_cases hlt : i < l0.length
  ·have hs := seg_Find.ix_step q l0 i hlt
   have HS := Aside0.mk hs
   clear hs
   obtain ⟨ad, ead, hx0, hx1, hx2, hx3, hx4, hx5⟩ := at_T25 HR0.out (i : Int) (by omega) (by omega)
   cases ead
   simp only [Int.toNat_natCast] at hx0 hx1 hx2 hx3 hx4 hx5
   replace hx0 := cx HB.out hx0
   replace hx1 := cx HB.out hx1
   replace hx2 := cx HB.out hx2
   replace hx3 := cx HB.out hx3
   replace hx4 := cx HB.out hx4
   replace hx5 := cx HB.out hx5
   by_cases ht : (rd_T25 l0 (i : Int)).f0 ≥ q
   ·have hd : decide ((rd_T25 l0 (i : Int)).f0 ≥ q) = true := decide_eq_true ht
    have HD := Aside0.mk hd
    clear hd
    go_wp2_with (first | (go_at_call 73; (with_reducible refine (seg_Find.cl g q (rd_T25 l0 (i : Int)) _ (Nat.lt_of_lt_of_le HG.out HB.out.size) ((HB.out.cell (p := ⟨g, 0, none⟩) HG.out).trans HCl.out) true HD.out).mono ?_); rintro e w31 ⟨rfl, hb⟩; replace HB := Aside0.mk (below_step HB.out hb); clear hb))
    go_ret
    refine ⟨?_, HB.out⟩
    have e1 := HX.out
    rw [HS.out, if_pos ht] at e1
    rw [← e1]; rfl
   ·have hd : decide ((rd_T25 l0 (i : Int)).f0 ≥ q) = false := decide_eq_false ht
    have HD := Aside0.mk hd
    clear hd
    go_wp2_with (first | (go_at_call 73; (with_reducible refine (seg_Find.cl g q (rd_T25 l0 (i : Int)) _ (Nat.lt_of_lt_of_le HG.out HB.out.size) ((HB.out.cell (p := ⟨g, 0, none⟩) HG.out).trans HCl.out) false HD.out).mono ?_); rintro e w31 ⟨rfl, hb⟩; replace HB := Aside0.mk (below_step HB.out hb); clear hb))
    go_roundw
    case rel => exact ⟨i + 1, by omega, by go_num, ⟨by have e1 := HX.out; rw [HS.out, if_neg (by omega)] at e1; exact e1⟩, HB⟩
    case measure => simp [intOf]; omega
  ·have hi2 : i = l0.length := by omega
   have e1 := HX.out
   rw [List.drop_eq_nil_of_le (by omega)] at e1
   have E1 := Aside0.mk e1
   clear e1
   subst hi2
   go_wp2
   go_ret
   exact ⟨by rw [← E1.out]; rfl, HB.out⟩
set_option maxHeartbeats 4000000 in
set_option maxRecDepth 100000 in
theorem seg_Find.fst (k : Nat) (a0_0 : Int) (A0_1 : Option Addr) (c0_1 : Nat) (l0_1 : List S25) (q : Int) (g : Nat) (r1 : Int) (r2 : Int) (r3 : ByteArray) (r4 : ByteArray) (r5 : Int) (r6 : Bool) (r7 : Int) (w : World) (hr0_1 : Kd.C k25 w A0_1 l0_1.length l0_1) (hc0_1 : l0_1.length ≤ c0_1) (hg : g < w.heap.size) (hc : w.cell? ⟨g, 0, none⟩ = some (.int .i64 q))
 (h : seg_Find.f k a0_0 l0_1 q = some (r1, r2, r3, r4, r5, r6, r7)) :
 Calls Try.prog 72 #[.agg #[.int .i64 a0_0, .slice A0_1 l0_1.length c0_1], .func (.func 73) #[] #[.pointer (some ⟨g, 0, none⟩)]] w fun e w' => e = .returned (.tuple #[.agg #[.int .i64 r1, .int .i64 r2, .string r3, .string r4, .int .i64 r5, .bool r6], .int .i64 r7]) ∧ Below w.heap.size w w' := by
 have hu53 := Try.underlying53
 have hu25 := Try.underlying25
 unfold seg_Find.f at h
 obtain ⟨t, ht, h⟩ := Option.bind_eq_some_iff.1 h
 have HT := Aside0.mk ht
 have HR0 := Aside0.mk hr0_1
 have HC0 := Aside0.mk hc0_1
 have HG := Aside0.mk hg
 have HCl := Aside0.mk hc
 have HB := Aside0.mk (Below.refl w.heap.size w)
 clear hr0_1 hc0_1 hg hc ht
 by_cases h0 : t = 0
 ·subst h0
  rw [if_pos rfl] at h
  have hin := seg_Find.ix_in q l0_1 0
  by_cases hx : seg_Find.ix q l0_1 0 < 0
  ·rw [if_pos hx] at h
   simp only [Option.some.injEq, Prod.mk.injEq] at h
   obtain ⟨rfl, rfl, rfl, rfl, rfl, rfl, rfl⟩ := h
   have b0 : decide (seg_Find.ix q l0_1 0 < 0) = true := decide_eq_true hx
   clear hin hx
   go_enter Try.func72, Try.ntmps72
   go_wp2_with (first | (go_at_call 46; (with_reducible refine (seg_Check.calls k a0_0 _ _ l0_1 _ _ (Kd.C_alloc (Kd.C_alloc HR0.out _) _) HC0.out HT.out).mono ?_); rintro e w2 ⟨rfl, hb⟩; obtain ⟨hc2, hf2⟩ := seg_Find.below_cells hb; have hz2 : w.heap.size + 1 < w2.heap.size := (by have := hb.size; simp at this; omega); replace HB := Aside0.mk (below_step ((((Below.refl w.heap.size w).alloc (Nat.le_refl _) _).alloc (by simp) _)) hb); have HX := Aside0.mk hb; have hz2b : w.heap.size < w2.heap.size := (by omega); clear hb) | (go_at_call 84; (with_reducible refine (seg_Find.ixcalls _ _ l0_1 q g _ (Kd.C_below HR0.out HB.out) HC0.out (Nat.lt_of_lt_of_le HG.out HB.out.size) ((HB.out.cell (p := ⟨g, 0, none⟩) HG.out).trans HCl.out)).mono ?_); rintro e w3 ⟨rfl, hb⟩; obtain ⟨hc3, hf3⟩ := seg_Find.below_cells hb; have hz3 : w.heap.size + 1 < w3.heap.size := (Nat.lt_of_lt_of_le hz2 hb.size); replace HB := Aside0.mk (below_step HB.out hb); clear hb; skip))
   refine bodyPost_ret (v := .tuple #[.agg #[.int .i64 0, .int .i64 0, .string ⟨#[]⟩, .string ⟨#[]⟩, .int .i64 0, .bool false], .int .i64 3]) (by simp [results, Try.results72, go_sem, hc2, hz2, hc3, hz3]) rfl ⟨rfl, ?_⟩
   (repeat (refine Below.setCell ?_ (by first | omega | (simp; done) | (simp; omega)) _)); exact HB.out
  ·rw [if_neg hx] at h
   simp only [Option.some.injEq, Prod.mk.injEq] at h
   obtain ⟨rfl, rfl, rfl, rfl, rfl, rfl, rfl⟩ := h
   have b0 : decide (seg_Find.ix q l0_1 0 < 0) = false := decide_eq_false hx
   obtain ⟨i, hi⟩ : ∃ i : Nat, seg_Find.ix q l0_1 0 = (i : Int) := ⟨(seg_Find.ix q l0_1 0).toNat, by omega⟩
   have hil : i < l0_1.length := by omega
   simp only [hi] at b0 ⊢
   have HI := Aside0.mk hi
   obtain ⟨ad, ead, hx0, hx1, hx2, hx3, hx4, hx5⟩ := at_T25 HR0.out (i : Int) (by omega) (by omega)
   cases ead
   simp only [Int.toNat_natCast] at hx0 hx1 hx2 hx3 hx4 hx5
   have H0 := Aside0.mk hx0
   have H1 := Aside0.mk hx1
   have H2 := Aside0.mk hx2
   have H3 := Aside0.mk hx3
   have H4 := Aside0.mk hx4
   have H5 := Aside0.mk hx5
   clear hin hx hi hx0 hx1 hx2 hx3 hx4 hx5
   go_enter Try.func72, Try.ntmps72
   go_wp2_with (first | (go_at_call 46; (with_reducible refine (seg_Check.calls k a0_0 _ _ l0_1 _ _ (Kd.C_alloc (Kd.C_alloc HR0.out _) _) HC0.out HT.out).mono ?_); rintro e w2 ⟨rfl, hb⟩; obtain ⟨hc2, hf2⟩ := seg_Find.below_cells hb; have hz2 : w.heap.size + 1 < w2.heap.size := (by have := hb.size; simp at this; omega); replace HB := Aside0.mk (below_step ((((Below.refl w.heap.size w).alloc (Nat.le_refl _) _).alloc (by simp) _)) hb); have HX := Aside0.mk hb; have hz2b : w.heap.size < w2.heap.size := (by omega); clear hb) | (go_at_call 84; (with_reducible refine (seg_Find.ixcalls _ _ l0_1 q g _ (Kd.C_below HR0.out HB.out) HC0.out (Nat.lt_of_lt_of_le HG.out HB.out.size) ((HB.out.cell (p := ⟨g, 0, none⟩) HG.out).trans HCl.out)).mono ?_); rintro e w3 ⟨rfl, hb⟩; obtain ⟨hc3, hf3⟩ := seg_Find.below_cells hb; have hz3 : w.heap.size + 1 < w3.heap.size := (Nat.lt_of_lt_of_le hz2 hb.size); replace HB := Aside0.mk (below_step HB.out hb); clear hb; rw [HI.out]; have hy0 := cx HB.out H0.out; have hy1 := cx HB.out H1.out; have hy2 := cx HB.out H2.out; have hy3 := cx HB.out H3.out; have hy4 := cx HB.out H4.out; have hy5 := cx HB.out H5.out))
   refine bodyPost_ret (v := .tuple #[.agg #[.int .i64 (rd_T25 l0_1 (i : Int)).f0, .int .i64 (rd_T25 l0_1 (i : Int)).f1, .string (rd_T25 l0_1 (i : Int)).f2, .string (rd_T25 l0_1 (i : Int)).f3, .int .i64 (rd_T25 l0_1 (i : Int)).f4, .bool (rd_T25 l0_1 (i : Int)).f5], .int .i64 0]) (by simp [results, Try.results72, go_sem, hc2, hz2, hc3, hz3]) rfl ⟨rfl, ?_⟩
   (repeat (refine Below.setCell ?_ (by first | omega | (simp; done) | (simp; omega)) _)); exact HB.out
 ·rw [if_neg h0] at h
  simp only [Option.some.injEq, Prod.mk.injEq] at h
  obtain ⟨rfl, rfl, rfl, rfl, rfl, rfl, rfl⟩ := h
  have b0 : (t == 0) = false := beq_eq_false_iff_ne.mpr h0
  have b1 : (t != 0) = true := bne_iff_ne.mpr h0
  go_enter Try.func72, Try.ntmps72
  go_wp2_with (first | (go_at_call 46; (with_reducible refine (seg_Check.calls k a0_0 _ _ l0_1 _ _ (Kd.C_alloc (Kd.C_alloc HR0.out _) _) HC0.out HT.out).mono ?_); rintro e w2 ⟨rfl, hb⟩; obtain ⟨hc2, hf2⟩ := seg_Find.below_cells hb; have hz2 : w.heap.size + 1 < w2.heap.size := (by have := hb.size; simp at this; omega); replace HB := Aside0.mk (below_step ((((Below.refl w.heap.size w).alloc (Nat.le_refl _) _).alloc (by simp) _)) hb); have HX := Aside0.mk hb; have hz2b : w.heap.size < w2.heap.size := (by omega); clear hb))
  refine bodyPost_ret (v := .tuple #[.agg #[.int .i64 0, .int .i64 0, .string ⟨#[]⟩, .string ⟨#[]⟩, .int .i64 0, .bool false], .int .i64 t]) (by simp [results, Try.results72, go_sem, hc2, hz2]) rfl ⟨rfl, ?_⟩
  (repeat (refine Below.setCell ?_ (by first | omega | (simp; done) | (simp; omega)) _)); exact HB.out
set_option maxHeartbeats 4000000 in
set_option maxRecDepth 100000 in
theorem seg_Find.calls (k : Nat) (a0_0 : Int) (A0_1 : Option Addr) (c0_1 : Nat) (l0_1 : List S25) (a1 : Int) (r1 : Int) (r2 : Int) (r3 : ByteArray) (r4 : ByteArray) (r5 : Int) (r6 : Bool) (r7 : Int) (w : World) (hr0_1 : Kd.C k25 w A0_1 l0_1.length l0_1) (hc0_1 : l0_1.length ≤ c0_1)
 (h : seg_Find.f k a0_0 l0_1 a1 = some (r1, r2, r3, r4, r5, r6, r7)) :
 Calls Try.prog 32 #[.agg #[.int .i64 a0_0, .slice A0_1 l0_1.length c0_1], .int .i64 a1] w fun e w' => e = .returned (.tuple #[.agg #[.int .i64 r1, .int .i64 r2, .string r3, .string r4, .int .i64 r5, .bool r6], .int .i64 r7]) ∧ Below w.heap.size w w' := by
 have hu53 := Try.underlying53
 have hu25 := Try.underlying25
 have HT := Aside0.mk h
 have HR0 := Aside0.mk hr0_1
 have HC0 := Aside0.mk hc0_1
 have HB := Aside0.mk (Below.refl w.heap.size w)
 clear hr0_1 hc0_1 h
 go_enter Try.func32, Try.ntmps32
 go_wp2_with (first | (go_at_call 72; (with_reducible refine (seg_Find.fst k a0_0 _ _ l0_1 a1 _ r1 r2 r3 r4 r5 r6 r7 _ (Kd.C_alloc (Kd.C_alloc (Kd.C_alloc HR0.out _) _) _) HC0.out ?hg ?hc HT.out).mono ?_); (case hg => simp); (case hc => go_simp); rintro e w2 ⟨rfl, hb⟩; obtain ⟨hc2, hf2⟩ := seg_Find.below_cells hb; have hz2 : w.heap.size + 2 < w2.heap.size := (by have := hb.size; simp at this; omega); replace HB := Aside0.mk (below_step (((((Below.refl w.heap.size w).alloc (Nat.le_refl _) _).alloc (by simp) _).alloc (by simp; omega) _)) hb); clear hb))
 refine bodyPost_ret (v := .tuple #[.agg #[.int .i64 r1, .int .i64 r2, .string r3, .string r4, .int .i64 r5, .bool r6], .int .i64 r7]) (by simp [results, Try.results32, go_sem, hc2, hz2]) rfl ⟨rfl, ?_⟩
 (repeat (refine Below.setCell ?_ (by first | omega | (simp; done) | (simp; omega)) _)); exact HB.out

end Go.Proofs.Ytmabdfdmccbfnaa.P

-- written by a program of the proving session, out of the translation; Lean checks it
namespace Go.Proofs.Ytmabdfdmccbfnaa.P
open Go.RowKit Go.Proofs.Ytmabdfdmccbfnaa.Sq Go.Proofs.YtmabdfdmccbfnaaW.PrintWords Go.Proofs.YtmabdfdmccbfnaaW.PrintLast Go.Proofs.YtmabdfdmccbfnaaW.PrintMore
attribute [local go_sem] max2_int min2_int max_two min_two max_three min_three max_four min_four   -- for this text's walks alone
set_option linter.unusedVariables false
set_option linter.unusedSimpArgs false

/-! ### seg_Since: function 33 -/
/-- The first record of which the closure holds. -/
def seg_Since.ix (q : Int) : List S25 → Nat → Int
 | [], _ => -1
 | x :: l, i => if x.f1 ≥ q then (i : Int) else seg_Since.ix q l (i + 1)
def seg_Since.f (k : Nat) (a0_0 : Int) (l0_1 : List (S25)) (a1 : Int) : Option (Int × Int × ByteArray × ByteArray × Int × Bool × Int) :=
 (seg_Check.f k a0_0 l0_1).bind fun t => (if t = 0 then (if seg_Since.ix a1 l0_1 0 < 0 then (some (0, 0, (⟨#[]⟩ : ByteArray), (⟨#[]⟩ : ByteArray), 0, false, 3)) else (some ((rd_T25 l0_1 (seg_Since.ix a1 l0_1 0)).f0, (rd_T25 l0_1 (seg_Since.ix a1 l0_1 0)).f1, (rd_T25 l0_1 (seg_Since.ix a1 l0_1 0)).f2, (rd_T25 l0_1 (seg_Since.ix a1 l0_1 0)).f3, (rd_T25 l0_1 (seg_Since.ix a1 l0_1 0)).f4, (rd_T25 l0_1 (seg_Since.ix a1 l0_1 0)).f5, 0))) else (some (0, 0, (⟨#[]⟩ : ByteArray), (⟨#[]⟩ : ByteArray), 0, false, t)))
theorem seg_Since.mono : ∀ a0 a1 a2 k, LeO (seg_Since.f k a0 a1 a2) (seg_Since.f (k + 1) a0 a1 a2) := by
 intro a0 a1 a2 k
 unfold seg_Since.f
 exact LeO.bind (seg_Check.mono _ _ _) (fun _ => LeO.refl _)
theorem seg_Since.ix_step (q : Int) (l : List S25) (i : Nat) (h : i < l.length) : seg_Since.ix q (l.drop i) i = if (rd_T25 l i).f1 ≥ q then (i : Int) else seg_Since.ix q (l.drop (i + 1)) (i + 1) := by
 have e : rd_T25 l i = l[i] := by unfold rd_T25; simp [List.getD_eq_getElem?_getD, List.getElem?_eq_getElem h]
 rw [List.drop_eq_getElem_cons h, seg_Since.ix, e]
theorem seg_Since.ix_in (q : Int) : ∀ (l : List S25) (i : Nat), seg_Since.ix q l i = -1 ∨ ((i : Int) ≤ seg_Since.ix q l i ∧ seg_Since.ix q l i < i + l.length)
 | [], i => .inl rfl
 | x :: l, i => by
  unfold seg_Since.ix
  split
  ·right; simp; omega
  ·rcases seg_Since.ix_in q l (i + 1) with h | h
   ·exact .inl h
   ·right; simp; omega
theorem seg_Since.below_cells {W w1 : World} (hb : Below W.heap.size W w1) : (∀ b o, b < W.heap.size → w1.cell? ⟨b, o, none⟩ = W.cell? ⟨b, o, none⟩) ∧ (∀ b o, b < W.heap.size → w1.frozen? ⟨b, o, none⟩ = W.frozen? ⟨b, o, none⟩) :=
 ⟨fun b o h => hb.cell (p := ⟨b, o, none⟩) h, fun b o h => hb.frozen (p := ⟨b, o, none⟩) h⟩
set_option maxHeartbeats 1000000 in
set_option maxRecDepth 100000 in
theorem seg_Since.cl (g : Nat) (q : Int) (x : S25) (W : World) (hg : g < W.heap.size) (hc : W.cell? ⟨g, 0, none⟩ = some (.int .i64 q)) (b : Bool) (hb : decide (x.f1 ≥ q) = b) :
 Calls Try.prog 74 #[.agg #[.int .i64 x.f0, .int .i64 x.f1, .string x.f2, .string x.f3, .int .i64 x.f4, .bool x.f5], .pointer (some ⟨g, 0, none⟩)] W fun e w' => e = .returned (.bool b) ∧ Below W.heap.size W w' := by
 have hu25 := Try.underlying25
 subst hb
 go_enter Try.func74, Try.ntmps74
 go_wp2
 go_ret
 exact ⟨by first | rfl | simp, by first | exact (Below.refl _ _).alloc (Nat.le_refl _) _ | skip⟩
set_option maxHeartbeats 4000000 in
set_option maxRecDepth 100000 in
theorem seg_Since.ixcalls (A0 : Option Addr) (c0 : Nat) (l0 : List S25) (q : Int) (g : Nat) (w : World) (hr0 : Kd.C k25 w A0 l0.length l0) (hc0 : l0.length ≤ c0) (hg : g < w.heap.size) (hc : w.cell? ⟨g, 0, none⟩ = some (.int .i64 q)) :
 Calls Try.prog 84 #[.slice A0 l0.length c0, .func (.func 74) #[] #[.pointer (some ⟨g, 0, none⟩)]] w fun e w' => e = .returned (.int .i64 (seg_Since.ix q l0 0)) ∧ Below w.heap.size w w' := by
 have hm := hr0.2.1
 have HR0 := Aside0.mk hr0
 have HC0 := Aside0.mk hc0
 have HG := Aside0.mk hg
 have HCl := Aside0.mk hc
 have HB := Aside0.mk (Below.refl w.heap.size w)
 clear hr0 hc0 hg hc
 go_enter Try.func84, Try.ntmps84
 go_wp2
 go_loopw [8] (fun v8 w' => ∃ i : Nat, i ≤ l0.length ∧ v8 = .int .i64 i ∧ Aside0 (seg_Since.ix q (l0.drop i) i = seg_Since.ix q l0 0) ∧ Aside0 (Below w.heap.size w w')) (fun v8 _ => l0.length - (intOf v8).toNat)
 case atStart => exact ⟨0, Nat.zero_le _, rfl, ⟨by simp⟩, HB⟩
 case round =>
  clear HB
  obtain ⟨i, hi, rfl, HX, HB⟩ := hrel
  by_cases hlt : i < l0.length
  ·have hs := seg_Since.ix_step q l0 i hlt
   have HS := Aside0.mk hs
   clear hs
   obtain ⟨ad, ead, hx0, hx1, hx2, hx3, hx4, hx5⟩ := at_T25 HR0.out (i : Int) (by omega) (by omega)
   cases ead
   simp only [Int.toNat_natCast] at hx0 hx1 hx2 hx3 hx4 hx5
   replace hx0 := cx HB.out hx0
   replace hx1 := cx HB.out hx1
   replace hx2 := cx HB.out hx2
   replace hx3 := cx HB.out hx3
   replace hx4 := cx HB.out hx4
   replace hx5 := cx HB.out hx5
   by_cases ht : (rd_T25 l0 (i : Int)).f1 ≥ q
   ·have hd : decide ((rd_T25 l0 (i : Int)).f1 ≥ q) = true := decide_eq_true ht
    have HD := Aside0.mk hd
    clear hd
    go_wp2_with (first | (go_at_call 74; (with_reducible refine (seg_Since.cl g q (rd_T25 l0 (i : Int)) _ (Nat.lt_of_lt_of_le HG.out HB.out.size) ((HB.out.cell (p := ⟨g, 0, none⟩) HG.out).trans HCl.out) true HD.out).mono ?_); rintro e w31 ⟨rfl, hb⟩; replace HB := Aside0.mk (below_step HB.out hb); clear hb))
    go_ret
    refine ⟨?_, HB.out⟩
    have e1 := HX.out
    rw [HS.out, if_pos ht] at e1
    rw [← e1]; rfl
   ·have hd : decide ((rd_T25 l0 (i : Int)).f1 ≥ q) = false := decide_eq_false ht
    have HD := Aside0.mk hd
    clear hd
    go_wp2_with (first | (go_at_call 74; (with_reducible refine (seg_Since.cl g q (rd_T25 l0 (i : Int)) _ (Nat.lt_of_lt_of_le HG.out HB.out.size) ((HB.out.cell (p := ⟨g, 0, none⟩) HG.out).trans HCl.out) false HD.out).mono ?_); rintro e w31 ⟨rfl, hb⟩; replace HB := Aside0.mk (below_step HB.out hb); clear hb))
    go_roundw
    case rel => exact ⟨i + 1, by omega, by go_num, ⟨by have e1 := HX.out; rw [HS.out, if_neg (by omega)] at e1; exact e1⟩, HB⟩
    case measure => simp [intOf]; omega
  ·have hi2 : i = l0.length := by omega
   have e1 := HX.out
   rw [List.drop_eq_nil_of_le (by omega)] at e1
   have E1 := Aside0.mk e1
   clear e1
   subst hi2
   go_wp2
   go_ret
   exact ⟨by rw [← E1.out]; rfl, HB.out⟩
set_option maxHeartbeats 4000000 in
set_option maxRecDepth 100000 in
theorem seg_Since.fst (k : Nat) (a0_0 : Int) (A0_1 : Option Addr) (c0_1 : Nat) (l0_1 : List S25) (q : Int) (g : Nat) (r1 : Int) (r2 : Int) (r3 : ByteArray) (r4 : ByteArray) (r5 : Int) (r6 : Bool) (r7 : Int) (w : World) (hr0_1 : Kd.C k25 w A0_1 l0_1.length l0_1) (hc0_1 : l0_1.length ≤ c0_1) (hg : g < w.heap.size) (hc : w.cell? ⟨g, 0, none⟩ = some (.int .i64 q))
 (h : seg_Since.f k a0_0 l0_1 q = some (r1, r2, r3, r4, r5, r6, r7)) :
 Calls Try.prog 72 #[.agg #[.int .i64 a0_0, .slice A0_1 l0_1.length c0_1], .func (.func 74) #[] #[.pointer (some ⟨g, 0, none⟩)]] w fun e w' => e = .returned (.tuple #[.agg #[.int .i64 r1, .int .i64 r2, .string r3, .string r4, .int .i64 r5, .bool r6], .int .i64 r7]) ∧ Below w.heap.size w w' := by
 have hu53 := Try.underlying53
 have hu25 := Try.underlying25
 unfold seg_Since.f at h
 obtain ⟨t, ht, h⟩ := Option.bind_eq_some_iff.1 h
 have HT := Aside0.mk ht
 have HR0 := Aside0.mk hr0_1
 have HC0 := Aside0.mk hc0_1
 have HG := Aside0.mk hg
 have HCl := Aside0.mk hc
 have HB := Aside0.mk (Below.refl w.heap.size w)
 clear hr0_1 hc0_1 hg hc ht
 by_cases h0 : t = 0
 ·subst h0
  rw [if_pos rfl] at h
  have hin := seg_Since.ix_in q l0_1 0
  by_cases hx : seg_Since.ix q l0_1 0 < 0
  ·rw [if_pos hx] at h
   simp only [Option.some.injEq, Prod.mk.injEq] at h
   obtain ⟨rfl, rfl, rfl, rfl, rfl, rfl, rfl⟩ := h
   have b0 : decide (seg_Since.ix q l0_1 0 < 0) = true := decide_eq_true hx
   clear hin hx
   go_enter Try.func72, Try.ntmps72
   go_wp2_with (first | (go_at_call 46; (with_reducible refine (seg_Check.calls k a0_0 _ _ l0_1 _ _ (Kd.C_alloc (Kd.C_alloc HR0.out _) _) HC0.out HT.out).mono ?_); rintro e w2 ⟨rfl, hb⟩; obtain ⟨hc2, hf2⟩ := seg_Since.below_cells hb; have hz2 : w.heap.size + 1 < w2.heap.size := (by have := hb.size; simp at this; omega); replace HB := Aside0.mk (below_step ((((Below.refl w.heap.size w).alloc (Nat.le_refl _) _).alloc (by simp) _)) hb); have HX := Aside0.mk hb; have hz2b : w.heap.size < w2.heap.size := (by omega); clear hb) | (go_at_call 84; (with_reducible refine (seg_Since.ixcalls _ _ l0_1 q g _ (Kd.C_below HR0.out HB.out) HC0.out (Nat.lt_of_lt_of_le HG.out HB.out.size) ((HB.out.cell (p := ⟨g, 0, none⟩) HG.out).trans HCl.out)).mono ?_); rintro e w3 ⟨rfl, hb⟩; obtain ⟨hc3, hf3⟩ := seg_Since.below_cells hb; have hz3 : w.heap.size + 1 < w3.heap.size := (Nat.lt_of_lt_of_le hz2 hb.size); replace HB := Aside0.mk (below_step HB.out hb); clear hb; skip))
   refine bodyPost_ret (v := .tuple #[.agg #[.int .i64 0, .int .i64 0, .string ⟨#[]⟩, .string ⟨#[]⟩, .int .i64 0, .bool false], .int .i64 3]) (by simp [results, Try.results72, go_sem, hc2, hz2, hc3, hz3]) rfl ⟨rfl, ?_⟩
   (repeat (refine Below.setCell ?_ (by first | omega | (simp; done) | (simp; omega)) _)); exact HB.out
  ·rw [if_neg hx] at h
   simp only [Option.some.injEq, Prod.mk.injEq] at h
   obtain ⟨rfl, rfl, rfl, rfl, rfl, rfl, rfl⟩ := h
   have b0 : decide (seg_Since.ix q l0_1 0 < 0) = false := decide_eq_false hx
   obtain ⟨i, hi⟩ : ∃ i : Nat, seg_Since.ix q l0_1 0 = (i : Int) := ⟨(seg_Since.ix q l0_1 0).toNat, by omega⟩
   have hil : i < l0_1.length := by omega
   simp only [hi] at b0 ⊢
   have HI := Aside0.mk hi
   obtain ⟨ad, ead, hx0, hx1, hx2, hx3, hx4, hx5⟩ := at_T25 HR0.out (i : Int) (by omega) (by omega)
   cases ead
   simp only [Int.toNat_natCast] at hx0 hx1 hx2 hx3 hx4 hx5
   have H0 := Aside0.mk hx0
   have H1 := Aside0.mk hx1
   have H2 := Aside0.mk hx2
   have H3 := Aside0.mk hx3
   have H4 := Aside0.mk hx4
   have H5 := Aside0.mk hx5
   clear hin hx hi hx0 hx1 hx2 hx3 hx4 hx5
   go_enter Try.func72, Try.ntmps72
   go_wp2_with (first | (go_at_call 46; (with_reducible refine (seg_Check.calls k a0_0 _ _ l0_1 _ _ (Kd.C_alloc (Kd.C_alloc HR0.out _) _) HC0.out HT.out).mono ?_); rintro e w2 ⟨rfl, hb⟩; obtain ⟨hc2, hf2⟩ := seg_Since.below_cells hb; have hz2 : w.heap.size + 1 < w2.heap.size := (by have := hb.size; simp at this; omega); replace HB := Aside0.mk (below_step ((((Below.refl w.heap.size w).alloc (Nat.le_refl _) _).alloc (by simp) _)) hb); have HX := Aside0.mk hb; have hz2b : w.heap.size < w2.heap.size := (by omega); clear hb) | (go_at_call 84; (with_reducible refine (seg_Since.ixcalls _ _ l0_1 q g _ (Kd.C_below HR0.out HB.out) HC0.out (Nat.lt_of_lt_of_le HG.out HB.out.size) ((HB.out.cell (p := ⟨g, 0, none⟩) HG.out).trans HCl.out)).mono ?_); rintro e w3 ⟨rfl, hb⟩; obtain ⟨hc3, hf3⟩ := seg_Since.below_cells hb; have hz3 : w.heap.size + 1 < w3.heap.size := (Nat.lt_of_lt_of_le hz2 hb.size); replace HB := Aside0.mk (below_step HB.out hb); clear hb; rw [HI.out]; have hy0 := cx HB.out H0.out; have hy1 := cx HB.out H1.out; have hy2 := cx HB.out H2.out; have hy3 := cx HB.out H3.out; have hy4 := cx HB.out H4.out; have hy5 := cx HB.out H5.out))
   refine bodyPost_ret (v := .tuple #[.agg #[.int .i64 (rd_T25 l0_1 (i : Int)).f0, .int .i64 (rd_T25 l0_1 (i : Int)).f1, .string (rd_T25 l0_1 (i : Int)).f2, .string (rd_T25 l0_1 (i : Int)).f3, .int .i64 (rd_T25 l0_1 (i : Int)).f4, .bool (rd_T25 l0_1 (i : Int)).f5], .int .i64 0]) (by simp [results, Try.results72, go_sem, hc2, hz2, hc3, hz3]) rfl ⟨rfl, ?_⟩
   (repeat (refine Below.setCell ?_ (by first | omega | (simp; done) | (simp; omega)) _)); exact HB.out
 ·rw [if_neg h0] at h
  simp only [Option.some.injEq, Prod.mk.injEq] at h
  obtain ⟨rfl, rfl, rfl, rfl, rfl, rfl, rfl⟩ := h
  have b0 : (t == 0) = false := beq_eq_false_iff_ne.mpr h0
  have b1 : (t != 0) = true := bne_iff_ne.mpr h0
  go_enter Try.func72, Try.ntmps72
  go_wp2_with (first | (go_at_call 46; (with_reducible refine (seg_Check.calls k a0_0 _ _ l0_1 _ _ (Kd.C_alloc (Kd.C_alloc HR0.out _) _) HC0.out HT.out).mono ?_); rintro e w2 ⟨rfl, hb⟩; obtain ⟨hc2, hf2⟩ := seg_Since.below_cells hb; have hz2 : w.heap.size + 1 < w2.heap.size := (by have := hb.size; simp at this; omega); replace HB := Aside0.mk (below_step ((((Below.refl w.heap.size w).alloc (Nat.le_refl _) _).alloc (by simp) _)) hb); have HX := Aside0.mk hb; have hz2b : w.heap.size < w2.heap.size := (by omega); clear hb))
  refine bodyPost_ret (v := .tuple #[.agg #[.int .i64 0, .int .i64 0, .string ⟨#[]⟩, .string ⟨#[]⟩, .int .i64 0, .bool false], .int .i64 t]) (by simp [results, Try.results72, go_sem, hc2, hz2]) rfl ⟨rfl, ?_⟩
  (repeat (refine Below.setCell ?_ (by first | omega | (simp; done) | (simp; omega)) _)); exact HB.out
set_option maxHeartbeats 4000000 in
set_option maxRecDepth 100000 in
theorem seg_Since.calls (k : Nat) (a0_0 : Int) (A0_1 : Option Addr) (c0_1 : Nat) (l0_1 : List S25) (a1 : Int) (r1 : Int) (r2 : Int) (r3 : ByteArray) (r4 : ByteArray) (r5 : Int) (r6 : Bool) (r7 : Int) (w : World) (hr0_1 : Kd.C k25 w A0_1 l0_1.length l0_1) (hc0_1 : l0_1.length ≤ c0_1)
 (h : seg_Since.f k a0_0 l0_1 a1 = some (r1, r2, r3, r4, r5, r6, r7)) :
 Calls Try.prog 33 #[.agg #[.int .i64 a0_0, .slice A0_1 l0_1.length c0_1], .int .i64 a1] w fun e w' => e = .returned (.tuple #[.agg #[.int .i64 r1, .int .i64 r2, .string r3, .string r4, .int .i64 r5, .bool r6], .int .i64 r7]) ∧ Below w.heap.size w w' := by
 have hu53 := Try.underlying53
 have hu25 := Try.underlying25
 have HT := Aside0.mk h
 have HR0 := Aside0.mk hr0_1
 have HC0 := Aside0.mk hc0_1
 have HB := Aside0.mk (Below.refl w.heap.size w)
 clear hr0_1 hc0_1 h
 go_enter Try.func33, Try.ntmps33
 go_wp2_with (first | (go_at_call 72; (with_reducible refine (seg_Since.fst k a0_0 _ _ l0_1 a1 _ r1 r2 r3 r4 r5 r6 r7 _ (Kd.C_alloc (Kd.C_alloc (Kd.C_alloc HR0.out _) _) _) HC0.out ?hg ?hc HT.out).mono ?_); (case hg => simp); (case hc => go_simp); rintro e w2 ⟨rfl, hb⟩; obtain ⟨hc2, hf2⟩ := seg_Since.below_cells hb; have hz2 : w.heap.size + 2 < w2.heap.size := (by have := hb.size; simp at this; omega); replace HB := Aside0.mk (below_step (((((Below.refl w.heap.size w).alloc (Nat.le_refl _) _).alloc (by simp) _).alloc (by simp; omega) _)) hb); clear hb))
 refine bodyPost_ret (v := .tuple #[.agg #[.int .i64 r1, .int .i64 r2, .string r3, .string r4, .int .i64 r5, .bool r6], .int .i64 r7]) (by simp [results, Try.results33, go_sem, hc2, hz2]) rfl ⟨rfl, ?_⟩
 (repeat (refine Below.setCell ?_ (by first | omega | (simp; done) | (simp; omega)) _)); exact HB.out

end Go.Proofs.Ytmabdfdmccbfnaa.P

-- written by a program of the proving session, out of the translation; Lean checks it
namespace Go.Proofs.Ytmabdfdmccbfnaa.P
open Go.RowKit Go.Proofs.Ytmabdfdmccbfnaa.Sq Go.Proofs.YtmabdfdmccbfnaaW.PrintWords Go.Proofs.YtmabdfdmccbfnaaW.PrintLast Go.Proofs.YtmabdfdmccbfnaaW.PrintMore
attribute [local go_sem] max2_int min2_int max_two min_two max_three min_three max_four min_four   -- for this text's walks alone
set_option linter.unusedVariables false
set_option linter.unusedSimpArgs false

/-! ### fairwayref10_Find: function 34 -/
def fairwayref10_Find.l0 : Nat → List (S25) → Int → Int → Option (Int)
 | 0, _, _, _ => none
 | k + 1, x0, x1, x5 => if x5 < (x0.length : Int) then (if 0 ≤ x5 then (if ((rd_T25 x0 x5).f0) ≥ x1 then (some x5) else (fairwayref10_Find.l0 k x0 x1 (wrap64 (x5 + 1)))) else (none)) else (some (-1))
def fairwayref10_Find.f (k : Nat) (l0 : List (S25)) (a1 : Int) : Option (Int) := fairwayref10_Find.l0 k l0 a1 0
theorem fairwayref10_Find.mono_l : ∀ k, (∀ y0 y1 y2, LeO (fairwayref10_Find.l0 k y0 y1 y2) (fairwayref10_Find.l0 (k + 1) y0 y1 y2))
 | 0 => fun _ _ _ r h => by simp [fairwayref10_Find.l0] at h
 | k + 1 => by
  have ih0 := fairwayref10_Find.mono_l k
  ·intro y0 y1 y2
   unfold fairwayref10_Find.l0
   repeat' first
   | (with_reducible exact ih0 _ _ _)
   | (with_reducible exact LeO.refl _)
   | (with_reducible exact LeO.none _)
   | (with_reducible refine LeO.ite ?_ ?_)
   | (with_reducible refine LeO.bind ?_ (fun _ => ?_))
   | exact ih0 _ _ _
   | exact LeO.none _
   | refine LeO.ite ?_ ?_
   | refine LeO.bind ?_ (fun _ => ?_)
theorem fairwayref10_Find.mono : ∀ a0 a1 k, LeO (fairwayref10_Find.f k a0 a1) (fairwayref10_Find.f (k + 1) a0 a1) := by
 intro a0 a1 k
 have ih0 := fairwayref10_Find.mono_l k
 unfold fairwayref10_Find.f
 repeat' first
  | (with_reducible exact ih0 _ _ _)
  | (with_reducible exact LeO.refl _)
  | (with_reducible exact LeO.none _)
  | (with_reducible refine LeO.ite ?_ ?_)
  | (with_reducible refine LeO.bind ?_ (fun _ => ?_))
  | exact ih0 _ _ _
  | exact LeO.none _
  | refine LeO.ite ?_ ?_
  | refine LeO.bind ?_ (fun _ => ?_)
set_option maxHeartbeats 8000000 in
set_option maxRecDepth 100000 in
theorem fairwayref10_Find.calls (k : Nat) (A0 : Option Addr) (c0 : Nat) (l0 : List (S25)) (a1 : Int) (r : Int) (w : World) (hr0 : Kd.C k25 w A0 l0.length l0) (hc0 : l0.length ≤ c0) (h : fairwayref10_Find.f k l0 a1 = some r) :
 Calls Try.prog 34 #[.slice A0 l0.length c0, .int .i64 a1] w fun e w' => e = .returned (.int .i64 r) ∧ Drawn0 w w' := by
 have HR0 := Aside0.mk hr0
 have HC0 := Aside0.mk hc0
 clear hr0 hc0
 have H : (fairwayref10_Find.l0 k l0 a1 0) = some r := h
 clear h
 have H' := Aside0.mk H
 clear H
 go_enter Try.func34, Try.ntmps34
 go_wp2
 go_loopg [5] k (fun kq v5 w' => ∃ (x5_1 : Int), v5 = .int .i64 x5_1 ∧ Aside0 (fairwayref10_Find.l0 kq l0 a1 x5_1 = some r) ∧ Aside0 (kq ≤ k) ∧ Drawn0 w w')
 case atStart => exact ⟨(0), ap, H', ⟨Nat.le_refl _⟩, dr⟩
 case round =>
  clear H'
  try clear p2
  obtain ⟨x5_1, rfl, HA, HK1, ⟨m1, rfl⟩⟩ := hrel
  cases gk with
  | zero => exact absurd HA.out (by simp [fairwayref10_Find.l0])
  | succ k1 =>
   have H := HA.out
   clear HA
   simp only [fairwayref10_Find.l0] at H
   by_cases c3 : x5_1 < (l0.length : Int)
   ·rw [if_pos c3] at H
    have c3b0 : decide (x5_1 < (l0.length : Int)) = true := decide_eq_true c3
    clear c3
    by_cases c4 : 0 ≤ x5_1
    ·rw [if_pos c4] at H
     have c4b0 : decide (0 ≤ x5_1) = true := decide_eq_true c4
     clear c4
     by_cases c5 : ((rd_T25 l0 x5_1).f0) ≥ a1
     ·rw [if_pos c5] at H
      have c5b0 : decide (a1 ≤ ((rd_T25 l0 x5_1).f0)) = true := decide_eq_true c5
      clear c5
      obtain rfl := Option.some.inj H
      have p371 : 0 ≤ (x5_1 : Int) := od
      have q371 : x5_1 < (l0.length : Int) := od
      obtain ⟨ad371, e371, hx371_0, hx371_1, hx371_2, hx371_3, hx371_4, hx371_5⟩ := at_T25 HR0.out x5_1 p371 q371
      cases e371
      replace p371 := eq_true p371
      replace q371 := eq_true q371
      go_wp2
      go_ret
      exact ⟨ap, dr⟩
     ·rw [if_neg c5] at H
      have c5b0 : decide (a1 ≤ ((rd_T25 l0 x5_1).f0)) = false := decide_eq_false c5
      clear c5
      have H' := Aside0.mk H
      clear H
      have p371 : 0 ≤ (x5_1 : Int) := od
      have q371 : x5_1 < (l0.length : Int) := od
      obtain ⟨ad371, e371, hx371_0, hx371_1, hx371_2, hx371_3, hx371_4, hx371_5⟩ := at_T25 HR0.out x5_1 p371 q371
      cases e371
      replace p371 := eq_true p371
      replace q371 := eq_true q371
      go_wp2
      go_roundg k1
      case measure => have := HK1.out; omega
      case rel => exact ⟨(wrap64 (x5_1 + 1)), ap, H', ⟨by have := HK1.out; omega⟩, dr⟩
    ·rw [if_neg c4] at H
     exact absurd H (by simp)
   ·rw [if_neg c3] at H
    have c3b0 : decide (x5_1 < (l0.length : Int)) = false := decide_eq_false c3
    clear c3
    obtain rfl := Option.some.inj H
    go_wp2
    go_ret
    exact ⟨ap, dr⟩

end Go.Proofs.Ytmabdfdmccbfnaa.P

-- written by a program of the proving session, out of the translation; Lean checks it
namespace Go.Proofs.Ytmabdfdmccbfnaa.P
open Go.RowKit Go.Proofs.Ytmabdfdmccbfnaa.Sq Go.Proofs.YtmabdfdmccbfnaaW.PrintWords Go.Proofs.YtmabdfdmccbfnaaW.PrintLast Go.Proofs.YtmabdfdmccbfnaaW.PrintMore
attribute [local go_sem] max2_int min2_int max_two min_two max_three min_three max_four min_four   -- for this text's walks alone
set_option linter.unusedVariables false
set_option linter.unusedSimpArgs false

/-! ### fairwayref10_Since: function 35 -/
def fairwayref10_Since.l0 : Nat → List (S25) → Int → Int → Option (Int)
 | 0, _, _, _ => none
 | k + 1, x0, x1, x5 => if x5 < (x0.length : Int) then (if 0 ≤ x5 then (if ((rd_T25 x0 x5).f1) ≥ x1 then (some x5) else (fairwayref10_Since.l0 k x0 x1 (wrap64 (x5 + 1)))) else (none)) else (some (-1))
def fairwayref10_Since.f (k : Nat) (l0 : List (S25)) (a1 : Int) : Option (Int) := fairwayref10_Since.l0 k l0 a1 0
theorem fairwayref10_Since.mono_l : ∀ k, (∀ y0 y1 y2, LeO (fairwayref10_Since.l0 k y0 y1 y2) (fairwayref10_Since.l0 (k + 1) y0 y1 y2))
 | 0 => fun _ _ _ r h => by simp [fairwayref10_Since.l0] at h
 | k + 1 => by
  have ih0 := fairwayref10_Since.mono_l k
  ·intro y0 y1 y2
   unfold fairwayref10_Since.l0
   repeat' first
   | (with_reducible exact ih0 _ _ _)
   | (with_reducible exact LeO.refl _)
   | (with_reducible exact LeO.none _)
   | (with_reducible refine LeO.ite ?_ ?_)
   | (with_reducible refine LeO.bind ?_ (fun _ => ?_))
   | exact ih0 _ _ _
   | exact LeO.none _
   | refine LeO.ite ?_ ?_
   | refine LeO.bind ?_ (fun _ => ?_)
theorem fairwayref10_Since.mono : ∀ a0 a1 k, LeO (fairwayref10_Since.f k a0 a1) (fairwayref10_Since.f (k + 1) a0 a1) := by
 intro a0 a1 k
 have ih0 := fairwayref10_Since.mono_l k
 unfold fairwayref10_Since.f
 repeat' first
  | (with_reducible exact ih0 _ _ _)
  | (with_reducible exact LeO.refl _)
  | (with_reducible exact LeO.none _)
  | (with_reducible refine LeO.ite ?_ ?_)
  | (with_reducible refine LeO.bind ?_ (fun _ => ?_))
  | exact ih0 _ _ _
  | exact LeO.none _
  | refine LeO.ite ?_ ?_
  | refine LeO.bind ?_ (fun _ => ?_)
set_option maxHeartbeats 8000000 in
set_option maxRecDepth 100000 in
theorem fairwayref10_Since.calls (k : Nat) (A0 : Option Addr) (c0 : Nat) (l0 : List (S25)) (a1 : Int) (r : Int) (w : World) (hr0 : Kd.C k25 w A0 l0.length l0) (hc0 : l0.length ≤ c0) (h : fairwayref10_Since.f k l0 a1 = some r) :
 Calls Try.prog 35 #[.slice A0 l0.length c0, .int .i64 a1] w fun e w' => e = .returned (.int .i64 r) ∧ Drawn0 w w' := by
 have HR0 := Aside0.mk hr0
 have HC0 := Aside0.mk hc0
 clear hr0 hc0
 have H : (fairwayref10_Since.l0 k l0 a1 0) = some r := h
 clear h
 have H' := Aside0.mk H
 clear H
 go_enter Try.func35, Try.ntmps35
 go_wp2
 go_loopg [5] k (fun kq v5 w' => ∃ (x5_1 : Int), v5 = .int .i64 x5_1 ∧ Aside0 (fairwayref10_Since.l0 kq l0 a1 x5_1 = some r) ∧ Aside0 (kq ≤ k) ∧ Drawn0 w w')
 case atStart => exact ⟨(0), ap, H', ⟨Nat.le_refl _⟩, dr⟩
 case round =>
  clear H'
  try clear p2
  obtain ⟨x5_1, rfl, HA, HK1, ⟨m1, rfl⟩⟩ := hrel
  cases gk with
  | zero => exact absurd HA.out (by simp [fairwayref10_Since.l0])
  | succ k1 =>
   have H := HA.out
   clear HA
   simp only [fairwayref10_Since.l0] at H
   by_cases c3 : x5_1 < (l0.length : Int)
   ·rw [if_pos c3] at H
    have c3b0 : decide (x5_1 < (l0.length : Int)) = true := decide_eq_true c3
    clear c3
    by_cases c4 : 0 ≤ x5_1
    ·rw [if_pos c4] at H
     have c4b0 : decide (0 ≤ x5_1) = true := decide_eq_true c4
     clear c4
     by_cases c5 : ((rd_T25 l0 x5_1).f1) ≥ a1
     ·rw [if_pos c5] at H
      have c5b0 : decide (a1 ≤ ((rd_T25 l0 x5_1).f1)) = true := decide_eq_true c5
      clear c5
      obtain rfl := Option.some.inj H
      have p372 : 0 ≤ (x5_1 : Int) := od
      have q372 : x5_1 < (l0.length : Int) := od
      obtain ⟨ad372, e372, hx372_0, hx372_1, hx372_2, hx372_3, hx372_4, hx372_5⟩ := at_T25 HR0.out x5_1 p372 q372
      cases e372
      replace p372 := eq_true p372
      replace q372 := eq_true q372
      go_wp2
      go_ret
      exact ⟨ap, dr⟩
     ·rw [if_neg c5] at H
      have c5b0 : decide (a1 ≤ ((rd_T25 l0 x5_1).f1)) = false := decide_eq_false c5
      clear c5
      have H' := Aside0.mk H
      clear H
      have p372 : 0 ≤ (x5_1 : Int) := od
      have q372 : x5_1 < (l0.length : Int) := od
      obtain ⟨ad372, e372, hx372_0, hx372_1, hx372_2, hx372_3, hx372_4, hx372_5⟩ := at_T25 HR0.out x5_1 p372 q372
      cases e372
      replace p372 := eq_true p372
      replace q372 := eq_true q372
      go_wp2
      go_roundg k1
      case measure => have := HK1.out; omega
      case rel => exact ⟨(wrap64 (x5_1 + 1)), ap, H', ⟨by have := HK1.out; omega⟩, dr⟩
    ·rw [if_neg c4] at H
     exact absurd H (by simp)
   ·rw [if_neg c3] at H
    have c3b0 : decide (x5_1 < (l0.length : Int)) = false := decide_eq_false c3
    clear c3
    obtain rfl := Option.some.inj H
    go_wp2
    go_ret
    exact ⟨ap, dr⟩

end Go.Proofs.Ytmabdfdmccbfnaa.P

-- written by a program of the proving session, out of the translation; Lean checks it
namespace Go.Proofs.Ytmabdfdmccbfnaa.P
open Go.RowKit Go.Proofs.Ytmabdfdmccbfnaa.Sq Go.Proofs.YtmabdfdmccbfnaaW.PrintWords Go.Proofs.YtmabdfdmccbfnaaW.PrintLast Go.Proofs.YtmabdfdmccbfnaaW.PrintMore
attribute [local go_sem] max2_int min2_int max_two min_two max_three min_three max_four min_four   -- for this text's walks alone
set_option linter.unusedVariables false
set_option linter.unusedSimpArgs false

/-! ### fairwaylaw11_num: function 36 -/
def fairwaylaw11_num.f (a0 : Int) : Option (Int) := some a0
set_option maxHeartbeats 8000000 in
set_option maxRecDepth 100000 in
theorem fairwaylaw11_num.calls (a0 : Int) (r : Int) (w : World) (h : fairwaylaw11_num.f a0 = some r) :
 Calls Try.prog 36 #[.int .i64 a0] w fun e w' => e = .returned (.int .i64 r) ∧ Drawn0 w w' := by
 have H : (some a0) = some r := h
 clear h
 obtain rfl := Option.some.inj H
 go_enter Try.func36, Try.ntmps36
 go_wp2
 go_ret
 exact ⟨ap, dr⟩

end Go.Proofs.Ytmabdfdmccbfnaa.P

-- written by a program of the proving session, out of the translation; Lean checks it
namespace Go.Proofs.Ytmabdfdmccbfnaa.P
open Go.RowKit Go.Proofs.Ytmabdfdmccbfnaa.Sq Go.Proofs.YtmabdfdmccbfnaaW.PrintWords Go.Proofs.YtmabdfdmccbfnaaW.PrintLast Go.Proofs.YtmabdfdmccbfnaaW.PrintMore
attribute [local go_sem] max2_int min2_int max_two min_two max_three min_three max_four min_four   -- for this text's walks alone
set_option linter.unusedVariables false
set_option linter.unusedSimpArgs false

/-! ### fairwaylaw10_R: function 67 -/
def fairwaylaw10_R.f (a0 : Int) (a1 : Int) (a2 : ByteArray) (a3 : ByteArray) : Option (Int × Int × ByteArray × ByteArray × Int × Bool) := some (a0, a1, a2, a3, 1, false)
set_option maxHeartbeats 8000000 in
set_option maxRecDepth 100000 in
theorem fairwaylaw10_R.calls (a0 : Int) (a1 : Int) (a2 : ByteArray) (a3 : ByteArray) (r1 : Int) (r2 : Int) (r3 : ByteArray) (r4 : ByteArray) (r5 : Int) (r6 : Bool) (w : World) (h : fairwaylaw10_R.f a0 a1 a2 a3 = some (r1, r2, r3, r4, r5, r6)) :
 Calls Try.prog 67 #[.int .i64 a0, .int .i64 a1, .string a2, .string a3] w fun e w' => e = .returned (.agg #[.int .i64 r1, .int .i64 r2, .string r3, .string r4, .int .i64 r5, .bool r6]) ∧ Below w.heap.size w w' := by
 have hu25 := Try.underlying25
 have HB := Aside0.mk (Below.refl w.heap.size w)
 have H : (some (a0, a1, a2, a3, 1, false)) = some (r1, r2, r3, r4, r5, r6) := h
 clear h
 simp only [Option.some.injEq, Prod.mk.injEq] at H
 obtain ⟨rfl, rfl, rfl, rfl, rfl, rfl⟩ := H
 go_enter Try.func67, Try.ntmps67
 go_wp2_with (first | ((with_reducible refine gate_dst (N := 8) rfl ?_); refine box_event ?hg (N := 8) ?hd (cs := #[.int .i64 0, .int .i64 0, .string (⟨#[]⟩ : ByteArray), .string (⟨#[]⟩ : ByteArray), .int .i64 0, .bool false]) (t := 25) ?hr ?_; (case hd => rfl); (case hg => rfl); (case hr => first | (go_simp; done) | (go_simp; rfl)); intro gb161 hg w5 hbox hb; have BK161 := Aside0.mk (hbox); have GW161 := Aside0.mk ((by rw [hg]; exact (below_size bo) : w.heap.size ≤ gb161)); have GE161 := Aside0.mk ((by rw [hg]; exact (below_size bo) : w.heap.size ≤ gb161)); replace HB := Aside0.mk (below_step bo hb); clear hb hbox hg; obtain ⟨hcz6_0, hcz6_1, hcz6_2, hcz6_3, hcz6_4, hcz6_5⟩ := cl6 BK161.out; obtain ⟨hfz6_0, hfz6_1, hfz6_2, hfz6_3, hfz6_4, hfz6_5⟩ := fz6 BK161.out))
 refine bodyPost_ret (results_cell_row rfl _ _ gb161 25 #[.int .i64 a0, .int .i64 a1, .string a2, .string a3, .int .i64 1, .bool false] (0, 0) _ rfl (by (with_reducible repeat (first | refine blk_drewN ?_ _ | refine blk_drew ?_ | refine blk_alloc ?_ _)); refine blk_put (cs := #[.int .i64 a0, .int .i64 a1, .string a2, .string a3, .int .i64 1, .bool false]) ?_ 5 _ rfl; (with_reducible repeat (first | refine blk_drewN ?_ _ | refine blk_drew ?_ | refine blk_alloc ?_ _)); refine blk_put (cs := #[.int .i64 a0, .int .i64 a1, .string a2, .string a3, .int .i64 0, .bool false]) ?_ 4 _ rfl; (with_reducible repeat (first | refine blk_drewN ?_ _ | refine blk_drew ?_ | refine blk_alloc ?_ _)); refine blk_put (cs := #[.int .i64 a0, .int .i64 a1, .string a2, .string (⟨#[]⟩ : ByteArray), .int .i64 0, .bool false]) ?_ 3 _ rfl; (with_reducible repeat (first | refine blk_drewN ?_ _ | refine blk_drew ?_ | refine blk_alloc ?_ _)); refine blk_put (cs := #[.int .i64 a0, .int .i64 a1, .string (⟨#[]⟩ : ByteArray), .string (⟨#[]⟩ : ByteArray), .int .i64 0, .bool false]) ?_ 2 _ rfl; (with_reducible repeat (first | refine blk_drewN ?_ _ | refine blk_drew ?_ | refine blk_alloc ?_ _)); refine blk_put (cs := #[.int .i64 a0, .int .i64 0, .string (⟨#[]⟩ : ByteArray), .string (⟨#[]⟩ : ByteArray), .int .i64 0, .bool false]) ?_ 1 _ rfl; (with_reducible repeat (first | refine blk_drewN ?_ _ | refine blk_drew ?_ | refine blk_alloc ?_ _)); refine blk_put (cs := #[.int .i64 0, .int .i64 0, .string (⟨#[]⟩ : ByteArray), .string (⟨#[]⟩ : ByteArray), .int .i64 0, .bool false]) ?_ 0 _ rfl; (with_reducible repeat (first | refine blk_drewN ?_ _ | refine blk_drew ?_ | refine blk_alloc ?_ _)); exact BK161.out) Try.underlying25 rfl (by kernel_rfl)) rfl ?_
 exact ⟨er, bo⟩

end Go.Proofs.Ytmabdfdmccbfnaa.P

-- written by a program of the proving session, out of the translation; Lean checks it
namespace Go.Proofs.Ytmabdfdmccbfnaa.P
open Go.RowKit Go.Proofs.Ytmabdfdmccbfnaa.Sq Go.Proofs.YtmabdfdmccbfnaaW.PrintWords Go.Proofs.YtmabdfdmccbfnaaW.PrintLast Go.Proofs.YtmabdfdmccbfnaaW.PrintMore
attribute [local go_sem] max2_int min2_int max_two min_two max_three min_three max_four min_four   -- for this text's walks alone
set_option linter.unusedVariables false
set_option linter.unusedSimpArgs false

/-! ### api_Rec_79: function 79 -/
/-- slices.Clone at records: the same in new memory. -/
def api_Rec_79.f (l0 : List (S25)) : Option (List (S25)) := if l0.length < 2199023255552 then some l0 else none
theorem info_api_Rec_79 : (Try.prog.info? 25).map (fun i => (i.zero, i.size, i.bytes)) = some (some (.agg #[(.int .i64 0), (.int .i64 0), (.string ⟨#[]⟩), (.string ⟨#[]⟩), (.int .i64 0), (.bool false)]), 6, 64) := by kernel_rfl
set_option maxHeartbeats 1000000 in
set_option maxRecDepth 100000 in
theorem api_Rec_79.calls (A0 : Option Addr) (c0 : Nat) (l0 : List (S25)) (r : List (S25)) (w : World) (hr0 : Kd.C k25 w A0 l0.length l0) (hc0 : l0.length ≤ c0) (h : api_Rec_79.f l0 = some r) :
 Calls Try.prog 79 #[.slice A0 l0.length c0] w fun e w' => ∃ v0_ : Value, e = .returned (v0_) ∧ Kd.R k25 25 w' w.heap.size (fun _ => True) v0_ r ∧ Below w.heap.size w w' := by
 unfold api_Rec_79.f at h
 by_cases hl : l0.length < 2199023255552
 ·rw [if_pos hl] at h
  obtain rfl := Option.some.inj h
  have HL := Aside0.mk hl
  clear hl h
  have hq := fun (W : World) => Lib.run_eql_slice_nil (P := Try.prog) W 36 25 A0 l0.length c0 0 0 Try.underlying36
  cases A0 with
  | none =>
   have h0 : l0 = [] := by
    rcases l0 with _ | ⟨x, l⟩
    ·rfl
    ·obtain ⟨ad, e, _⟩ := hr0.2.2 (by simp)
     cases e
   subst h0
   clear hr0 hc0
   simp only [List.length_nil] at hq ⊢
   go_enter Try.func79, Try.ntmps79
   go_wp2
   go_ret
   exact ⟨_, rfl, Kd.R_nil _ _ _ _ _, Below.refl _ _⟩
  | some a =>
   have HR := Aside0.mk hr0
   have HC := Aside0.mk hc0
   have HB := Aside0.mk (Below.refl w.heap.size w)
   clear hr0 hc0
   go_enter Try.func79, Try.ntmps79
   have HO : Aside0 (Kd.R k25 25 (w.alloc (.cells #[] 25)) w.heap.size (fun _ => True) (.slice (some ⟨w.heap.size, 0, none⟩) 0 0) ([] : List S25)) := by
    refine ⟨fun k hk => trivial, [], ?_, Reps.none _ _⟩
    have h2 := World.ownsRow_lit (base := w.heap.size) (e := 25) (size := k25.sz) w #[] 0 (Nat.le_refl _) (by simp [maxLen]) rfl
    simpa using h2
   go_wp2_with (first | ((with_reducible refine gate_builtin (b := .append) (xs := #[.tmp 5, .tmp 6]) rfl ?_); at_builtin; refine Kd.R_append_rows k25 (w0 := w) w.heap.size rfl (.tmp 5) (.tmp 6) 36 25 (.agg #[(.int .i64 0), (.int .i64 0), (.string ⟨#[]⟩), (.string ⟨#[]⟩), (.int .i64 0), (.bool false)]) 64 rfl Try.underlying36 info_api_Rec_79 rfl (by decide) (by omega) (.slice (some ⟨w.heap.size, 0, none⟩) 0 0) [] l0 _ _ _ (fun _ => True) (fun _ => False) rfl rfl ?aO ?aR (fun _ _ h => h) (fun _ h => h.elim) ?aF ?aB ?aS ?aL ?_; (case aR => exact (Kd.C_alloc HR.out _)); (case aB => exact bo); (case aF => exact (fun _ _ => trivial)); (case aO => exact HO.out); (case aS => exact (below_size bo)); (case aL => have := HL.out; simp; omega); intro v174 w5 ho hb hg hat; have n0_ := Aside0.mk (hb); have n1_ := Aside0.mk (ho); clear HB; clear HO; have HB := n0_; have HO175 := n1_; clear n0_ n1_; clear ho hb hg hat))
   go_ret
   exact ⟨_, rfl, by (with_reducible repeat (first | apply Kd.R_alloc | apply Kd.R_drewN | apply Kd.R_drew)); simpa using HO175.out, bo⟩
 ·rw [if_neg hl] at h
  cases h

end Go.Proofs.Ytmabdfdmccbfnaa.P

-- written by a program of the proving session, out of the translation; Lean checks it
namespace Go.Proofs.Ytmabdfdmccbfnaa.P
open Go.RowKit Go.Proofs.Ytmabdfdmccbfnaa.Sq Go.Proofs.YtmabdfdmccbfnaaW.PrintWords Go.Proofs.YtmabdfdmccbfnaaW.PrintLast Go.Proofs.YtmabdfdmccbfnaaW.PrintMore
attribute [local go_sem] max2_int min2_int max_two min_two max_three min_three max_four min_four   -- for this text's walks alone
set_option linter.unusedVariables false
set_option linter.unusedSimpArgs false

/-! ### seg_Add: function 47 -/
def seg_Add.f (k : Nat) (a0_0 : Int) (l0_1 : List (S25)) (a1_0 : Int) (a1_1 : Int) (a1_2 : ByteArray) (a1_3 : ByteArray) (a1_4 : Int) (a1_5 : Bool) : Option (Int × (List (S25)) × Int) := (seg_Check.f k a0_0 l0_1).bind fun t376 => (if t376 = 0 then ((seg_behind.f k a0_0 l0_1 a1_0 a1_1 a1_2 a1_3 a1_4 a1_5).bind fun t377 => (if t377 = true then ((api_Rec_79.f l0_1).bind fun t378 => ((some (([(⟨a1_0, a1_1, a1_2, a1_3, a1_4, a1_5⟩ : S25)] : List (S25)) : List (S25))).bind fun y381 => (if t378.length + y381.length < 2199023255552 then (some (a0_0, (t378 ++ y381), 0)) else (none)))) else (some (0, ([] : List (S25)), 1)))) else (some (0, ([] : List (S25)), 1)))
theorem seg_Add.mono : ∀ a0 a1 a2 a3 a4 a5 a6 a7 k, LeO (seg_Add.f k a0 a1 a2 a3 a4 a5 a6 a7) (seg_Add.f (k + 1) a0 a1 a2 a3 a4 a5 a6 a7) := by
 intro a0 a1 a2 a3 a4 a5 a6 a7 k
 unfold seg_Add.f
 repeat' first
  | (with_reducible exact seg_Check.mono _ _ _)
  | (with_reducible exact seg_behind.mono _ _ _ _ _ _ _ _ _)
  | (with_reducible exact LeO.refl _)
  | (with_reducible exact LeO.none _)
  | (with_reducible refine LeO.ite ?_ ?_)
  | (with_reducible refine LeO.bind ?_ (fun _ => ?_))
  | exact seg_Check.mono _ _ _
  | exact seg_behind.mono _ _ _ _ _ _ _ _ _
  | exact LeO.none _
  | refine LeO.ite ?_ ?_
  | refine LeO.bind ?_ (fun _ => ?_)
def seg_Add.T3 : Bool × List (List Nat × List Nat) := (true, [([], []), ([0], [0]), ([], []), ([2], [2]), ([3], [3]), ([], []), ([5], [5]), ([4, 6, 4], [4, 6]), ([1, 7], [1, 7]), ([8, 7, 0, 1, 2, 3, 4, 5, 6, 7, 8], [8]), ([9, 0, 1, 2, 3, 4, 5, 6, 7, 8, 9], [])])
def seg_Add.B3 : List Nat := [0, 1, 0, 4, 12, 0, 32, 124, 255, 511, 1023]
theorem seg_Add.tab3 : rtab .any (opsOf Try.f47 3) = seg_Add.T3 := by kernel_rfl
theorem seg_Add.bits3 : waitsOk seg_Add.T3.2 seg_Add.B3 = true := by kernel_rfl
set_option maxHeartbeats 8000000 in
set_option maxRecDepth 100000 in
theorem seg_Add.calls (k : Nat) (a0_0 : Int) (A0_1 : Option Addr) (c0_1 : Nat) (l0_1 : List (S25)) (a1_0 : Int) (a1_1 : Int) (a1_2 : ByteArray) (a1_3 : ByteArray) (a1_4 : Int) (a1_5 : Bool) (r1 : Int) (r2 : List (S25)) (r3 : Int) (w : World) (hr0_1 : Kd.C k25 w A0_1 l0_1.length l0_1) (hc0_1 : l0_1.length ≤ c0_1) (h : seg_Add.f k a0_0 l0_1 a1_0 a1_1 a1_2 a1_3 a1_4 a1_5 = some (r1, r2, r3)) :
 Calls Try.prog 47 #[.agg #[.int .i64 a0_0, .slice A0_1 l0_1.length c0_1], .agg #[.int .i64 a1_0, .int .i64 a1_1, .string a1_2, .string a1_3, .int .i64 a1_4, .bool a1_5]] w fun e w' => ∃ v1_ : Value, e = .returned (.tuple #[.agg #[.int .i64 r1, v1_], .int .i64 r3]) ∧ Kd.R k25 25 w' w.heap.size (fun _ => True) v1_ r2 ∧ Below w.heap.size w w' := by
 have hu53 := Try.underlying53
 have hu25 := Try.underlying25
 have HR0_1 := Aside0.mk hr0_1
 have HC0_1 := Aside0.mk hc0_1
 clear hr0_1 hc0_1
 have HB := Aside0.mk (Below.refl w.heap.size w)
 have H : ((seg_Check.f k a0_0 l0_1).bind fun t376 => (if t376 = 0 then ((seg_behind.f k a0_0 l0_1 a1_0 a1_1 a1_2 a1_3 a1_4 a1_5).bind fun t377 => (if t377 = true then ((api_Rec_79.f l0_1).bind fun t378 => ((some (([(⟨a1_0, a1_1, a1_2, a1_3, a1_4, a1_5⟩ : S25)] : List (S25)) : List (S25))).bind fun y381 => (if t378.length + y381.length < 2199023255552 then (some (a0_0, (t378 ++ y381), 0)) else (none)))) else (some (0, ([] : List (S25)), 1)))) else (some (0, ([] : List (S25)), 1)))) = some (r1, r2, r3) := h
 clear h
 replace H := Option.bind_eq_some_iff.mp H
 obtain ⟨t376, A30, H⟩ := H
 replace H : (if t376 = 0 then ((seg_behind.f k a0_0 l0_1 a1_0 a1_1 a1_2 a1_3 a1_4 a1_5).bind fun t377 => (if t377 = true then ((api_Rec_79.f l0_1).bind fun t378 => ((some (([(⟨a1_0, a1_1, a1_2, a1_3, a1_4, a1_5⟩ : S25)] : List (S25)) : List (S25))).bind fun y381 => (if t378.length + y381.length < 2199023255552 then (some (a0_0, (t378 ++ y381), 0)) else (none)))) else (some (0, ([] : List (S25)), 1)))) else (some (0, ([] : List (S25)), 1))) = some (r1, r2, r3) := H
 have A3 := Aside0.mk A30
 clear A30
 by_cases c4 : t376 = 0
 ·rw [if_pos c4] at H
  have c4b0 : (t376 == 0) = true := beq_iff_eq.mpr c4
  have c4b1 : (t376 != 0) = false := bne_eq_false_iff_eq.mpr c4
  clear c4
  replace H := Option.bind_eq_some_iff.mp H
  obtain ⟨t377, A50, H⟩ := H
  replace H : (if t377 = true then ((api_Rec_79.f l0_1).bind fun t378 => ((some (([(⟨a1_0, a1_1, a1_2, a1_3, a1_4, a1_5⟩ : S25)] : List (S25)) : List (S25))).bind fun y381 => (if t378.length + y381.length < 2199023255552 then (some (a0_0, (t378 ++ y381), 0)) else (none)))) else (some (0, ([] : List (S25)), 1))) = some (r1, r2, r3) := H
  have A5 := Aside0.mk A50
  clear A50
  by_cases c6 : t377 = true
  ·subst c6
   have H1 : ((api_Rec_79.f l0_1).bind fun t378 => ((some (([(⟨a1_0, a1_1, a1_2, a1_3, a1_4, a1_5⟩ : S25)] : List (S25)) : List (S25))).bind fun y381 => (if t378.length + y381.length < 2199023255552 then (some (a0_0, (t378 ++ y381), 0)) else (none)))) = some (r1, r2, r3) := by rw [if_pos rfl] at H; exact H
   clear H
   have H := H1
   clear H1
   replace H := Option.bind_eq_some_iff.mp H
   obtain ⟨t378, A70, H⟩ := H
   replace H : ((some (([(⟨a1_0, a1_1, a1_2, a1_3, a1_4, a1_5⟩ : S25)] : List (S25)) : List (S25))).bind fun y381 => (if t378.length + y381.length < 2199023255552 then (some (a0_0, (t378 ++ y381), 0)) else (none))) = some (r1, r2, r3) := H
   have A7 := Aside0.mk A70
   clear A70
   obtain ⟨y381, hy381⟩ : ∃ y_ : List (S25), y_ = (([(⟨a1_0, a1_1, a1_2, a1_3, a1_4, a1_5⟩ : S25)] : List (S25))) := ⟨_, rfl⟩
   replace H : (if t378.length + y381.length < 2199023255552 then (some (a0_0, (t378 ++ y381), 0)) else (none)) = some (r1, r2, r3) := by first | (rw [hy381]; with_reducible exact H) | (have H2_ := (Option.bind_some _ _).symm.trans H; rw [hy381]; with_reducible exact H2_) | (have H2_ := (Option.bind_some _ _).symm.trans H; with_reducible exact H2_) | with_reducible exact H | (rw [hy381]; exact H) | exact H
   have Ny381 := Aside0.mk hy381
   clear hy381
   by_cases c8 : t378.length + y381.length < 2199023255552
   ·rw [if_pos c8] at H
    have LMc8 := Aside0.mk c8
    clear c8
    obtain ⟨y384, hy384⟩ : ∃ y_ : List (S25), y_ = (t378 ++ y381) := ⟨_, rfl⟩
    replace H : (some (a0_0, y384, 0)) = some (r1, r2, r3) := by first | (rw [hy384]; with_reducible exact H) | (have H2_ := (Option.bind_some _ _).symm.trans H; rw [hy384]; with_reducible exact H2_) | (have H2_ := (Option.bind_some _ _).symm.trans H; with_reducible exact H2_) | with_reducible exact H | (rw [hy384]; exact H) | exact H
    have Ny384 := Aside0.mk hy384
    clear hy384
    simp only [Option.some.injEq, Prod.mk.injEq] at H
    obtain ⟨rfl, rfl, rfl⟩ := H
    go_enter Try.func47, Try.ntmps47
    try go_wp2_with (first | ((with_reducible refine gate_dst (N := 2) rfl ?_); refine box_event ?hg (N := 2) ?hd (cs := #[.int .i64 a0_0, .slice A0_1 l0_1.length c0_1]) (t := 53) ?hr ?_; (case hd => rfl); (case hg => rfl); (case hr => first | (go_simp; done) | (go_simp; rfl)); intro gb373 hg w9 hbox hb; have BK373 := Aside0.mk (hbox); have GW373 := Aside0.mk ((by rw [hg]; exact (below_size bo) : w.heap.size ≤ gb373)); have GE373 := Aside0.mk ((by rw [hg]; exact (below_size bo) : w.heap.size ≤ gb373)); replace HB := Aside0.mk (below_step bo hb); clear hb hbox hg) | ((with_reducible refine gate_dst (N := 3) rfl ?_); refine box_event ?hg (N := 3) ?hd (cs := #[.int .i64 a1_0, .int .i64 a1_1, .string a1_2, .string a1_3, .int .i64 a1_4, .bool a1_5]) (t := 25) ?hr ?_; (case hd => rfl); (case hg => rfl); (case hr => first | (go_simp; done) | (go_simp; rfl)); intro gb374 hg w10 hbox hb; have BK374 := Aside0.mk (hbox); have GW374 := Aside0.mk ((by rw [hg]; exact (below_size bo) : w.heap.size ≤ gb374)); have GE374 := Aside0.mk ((by rw [hg]; exact (below_size bo) : w.heap.size ≤ gb374)); replace HB := Aside0.mk (below_step bo hb); have NB373_374 := Aside0.mk ((by rw [hg]; exact Nat.ne_of_lt (blk_lt (g := gb373) (o := .cells #[.int .i64 a0_0, .slice A0_1 l0_1.length c0_1] 53 (0, 0)) (bk BK373.out)) : gb373 ≠ gb374)); have NB374_373 := Aside0.mk ((by rw [hg]; exact Nat.ne_of_gt (blk_lt (g := gb373) (o := .cells #[.int .i64 a0_0, .slice A0_1 l0_1.length c0_1] 53 (0, 0)) (bk BK373.out)) : gb374 ≠ gb373)); replace BK373 := Aside0.mk (blk_below (g := gb373) (o := .cells #[.int .i64 a0_0, .slice A0_1 l0_1.length c0_1] 53 (0, 0)) (bk BK373.out) hb); clear hb hbox hg) | ((with_reducible refine gate_dst (N := 4) rfl ?_); refine box_event ?hg (N := 4) ?hd (cs := #[.int .i64 0, .slice none 0 0]) (t := 53) ?hr ?_; (case hd => rfl); (case hg => rfl); (case hr => first | (go_simp; done) | (go_simp; rfl)); intro gb375 hg w11 hbox hb; have BK375 := Aside0.mk (hbox); have GW375 := Aside0.mk ((by rw [hg]; exact (below_size bo) : w.heap.size ≤ gb375)); have GE375 := Aside0.mk ((by rw [hg]; exact (below_size bo) : w.heap.size ≤ gb375)); replace HB := Aside0.mk (below_step bo hb); have NB373_375 := Aside0.mk ((by rw [hg]; exact Nat.ne_of_lt (blk_lt (g := gb373) (o := .cells #[.int .i64 a0_0, .slice A0_1 l0_1.length c0_1] 53 (0, 0)) (bk BK373.out)) : gb373 ≠ gb375)); have NB375_373 := Aside0.mk ((by rw [hg]; exact Nat.ne_of_gt (blk_lt (g := gb373) (o := .cells #[.int .i64 a0_0, .slice A0_1 l0_1.length c0_1] 53 (0, 0)) (bk BK373.out)) : gb375 ≠ gb373)); replace BK373 := Aside0.mk (blk_below (g := gb373) (o := .cells #[.int .i64 a0_0, .slice A0_1 l0_1.length c0_1] 53 (0, 0)) (bk BK373.out) hb); have NB374_375 := Aside0.mk ((by rw [hg]; exact Nat.ne_of_lt (blk_lt (g := gb374) (o := .cells #[.int .i64 a1_0, .int .i64 a1_1, .string a1_2, .string a1_3, .int .i64 a1_4, .bool a1_5] 25 (0, 0)) (bk BK374.out)) : gb374 ≠ gb375)); have NB375_374 := Aside0.mk ((by rw [hg]; exact Nat.ne_of_gt (blk_lt (g := gb374) (o := .cells #[.int .i64 a1_0, .int .i64 a1_1, .string a1_2, .string a1_3, .int .i64 a1_4, .bool a1_5] 25 (0, 0)) (bk BK374.out)) : gb375 ≠ gb374)); replace BK374 := Aside0.mk (blk_below (g := gb374) (o := .cells #[.int .i64 a1_0, .int .i64 a1_1, .string a1_2, .string a1_3, .int .i64 a1_4, .bool a1_5] 25 (0, 0)) (bk BK374.out) hb); clear hb hbox hg; have hnb12 := NB373_374.out; have hnc12 := NB374_373.out; have hnb13 := NB373_375.out; have hnc13 := NB375_373.out; obtain ⟨hcz14_0, hcz14_1⟩ := cl2 BK373.out; obtain ⟨hfz14_0, hfz14_1⟩ := fz2 BK373.out) | ((with_reducible refine gate_callee (f := 46) rfl ?_); refine goesL_ (some 7) rfl rfl Try.func46 (by kernel_rfl) rfl #[.agg #[.int .i64 a0_0, .slice A0_1 l0_1.length c0_1]] rfl aa ?_; (with_reducible refine (seg_Check.calls k a0_0 _ _ l0_1 t376 _ ?side1 ?side2 A3.out).mono ?_); (case side1 => repeat (first | exact (Kd.C_below HR0_1.out HB.out) | (with_reducible refine Kd.C_alloc ?_ _) | (with_reducible refine Kd.C_drewN ?_ _) | (with_reducible refine Kd.C_drew ?_))); (case side2 => exact HC0_1.out); rintro e w15 ⟨rfl, hb⟩; refine ⟨_, rfl, ?_⟩; replace BK373 := Aside0.mk (blk_below (g := gb373) (o := .cells #[.int .i64 a0_0, .slice A0_1 l0_1.length c0_1] 53 (0, 0)) (bk BK373.out) hb); replace BK374 := Aside0.mk (blk_below (g := gb374) (o := .cells #[.int .i64 a1_0, .int .i64 a1_1, .string a1_2, .string a1_3, .int .i64 a1_4, .bool a1_5] 25 (0, 0)) (bk BK374.out) hb); replace BK375 := Aside0.mk (blk_below (g := gb375) (o := .cells #[.int .i64 0, .slice none 0 0] 53 (0, 0)) (bk BK375.out) hb); replace HB := Aside0.mk (below_step bo hb); (try clear hb); (try clear hb2); (try clear hk); (try clear hi); obtain ⟨hcz16_0, hcz16_1⟩ := cl2 BK373.out; obtain ⟨hfz16_0, hfz16_1⟩ := fz2 BK373.out; have hnb17 := NB374_375.out; have hnc17 := NB375_374.out; obtain ⟨hcz18_0, hcz18_1, hcz18_2, hcz18_3, hcz18_4, hcz18_5⟩ := cl6 BK374.out; obtain ⟨hfz18_0, hfz18_1, hfz18_2, hfz18_3, hfz18_4, hfz18_5⟩ := fz6 BK374.out) | (go_at_call 75; (with_reducible refine (seg_behind.calls k a0_0 _ _ l0_1 a1_0 a1_1 a1_2 a1_3 a1_4 a1_5 true _ ?side1 ?side2 A5.out).mono ?_); (case side1 => repeat (first | exact (Kd.C_below HR0_1.out HB.out) | (with_reducible refine Kd.C_alloc ?_ _) | (with_reducible refine Kd.C_drewN ?_ _) | (with_reducible refine Kd.C_drew ?_))); (case side2 => exact HC0_1.out); rintro e w19 ⟨rfl, hb⟩; replace BK373 := Aside0.mk (blk_below (g := gb373) (o := .cells #[.int .i64 a0_0, .slice A0_1 l0_1.length c0_1] 53 (0, 0)) (bk BK373.out) hb); replace BK374 := Aside0.mk (blk_below (g := gb374) (o := .cells #[.int .i64 a1_0, .int .i64 a1_1, .string a1_2, .string a1_3, .int .i64 a1_4, .bool a1_5] 25 (0, 0)) (bk BK374.out) hb); replace BK375 := Aside0.mk (blk_below (g := gb375) (o := .cells #[.int .i64 0, .slice none 0 0] 53 (0, 0)) (bk BK375.out) hb); replace HB := Aside0.mk (below_step bo hb); (try clear hb); (try clear hb2); (try clear hk); (try clear hi)))
    replace BK373 := Aside0.mk (blk_drew BK373.out)
    replace BK374 := Aside0.mk (blk_drew BK374.out)
    replace BK375 := Aside0.mk (blk_drew BK375.out)
    replace HB := Aside0.mk (below_drew1 HB.out)
    refine start_ (n := 11) (S := fun w' => w'.cell? ⟨gb373, 0, none⟩ = some (.int .i64 a0_0) ∧ w'.cell? ⟨gb373, 1, none⟩ = some (.slice A0_1 l0_1.length c0_1) ∧ w'.cell? ⟨gb374, 0, none⟩ = some (.int .i64 a1_0) ∧ w'.cell? ⟨gb374, 1, none⟩ = some (.int .i64 a1_1) ∧ w'.cell? ⟨gb374, 2, none⟩ = some (.string a1_2) ∧ w'.cell? ⟨gb374, 3, none⟩ = some (.string a1_3) ∧ w'.cell? ⟨gb374, 4, none⟩ = some (.int .i64 a1_4) ∧ w'.cell? ⟨gb374, 5, none⟩ = some (.bool a1_5)) (ds := []) #[O,O,O,O,O,O,O,O,O,O,O] (by kernel_rfl) rfl rfl ⟨(blk_cell BK373.out 0).trans rfl, (blk_cell BK373.out 1).trans rfl, (blk_cell BK374.out 0).trans rfl, (blk_cell BK374.out 1).trans rfl, (blk_cell BK374.out 2).trans rfl, (blk_cell BK374.out 3).trans rfl, (blk_cell BK374.out 4).trans rfl, (blk_cell BK374.out 5).trans rfl⟩ (fun hHeld => ?_); refine with_tabW seg_Add.tab3 seg_Add.bits3 (fun HT_ HW_ => ?_)
    generalize w19.drew = w20 at BK373 BK374 BK375 HB hHeld ⊢
    refine pz (i := 0) (N := some 19) #[I,O,O,O,O,O,O,O,O,O,O] ?_
    refine pz (i := 2) (N := some 21) #[I,O,I,O,O,O,O,O,O,O,O] ?_
    refine tz (i := 1) (N := some 20) #[I,I,I,O,O,O,O,O,O,O,O] ?_
    refine tz (i := 3) (N := some 22) #[I,I,I,I,O,O,O,O,O,O,O] ?_
    refine tz (i := 5) (N := some 24) #[I,I,I,I,O,I,O,O,O,O,O] ?_
    refine join_ (σ := Value × Value) 4 #[I,I,I,I,I,I,I,O,O,O,O] (fun s_ => [(23, s_.1), (25, s_.2)]) (fun s_ w' => (w'.cell? ⟨gb373, 0, none⟩ = some (.int .i64 a0_0) ∧ w'.cell? ⟨gb373, 1, none⟩ = some (.slice A0_1 l0_1.length c0_1) ∧ w'.cell? ⟨gb374, 0, none⟩ = some (.int .i64 a1_0) ∧ w'.cell? ⟨gb374, 1, none⟩ = some (.int .i64 a1_1) ∧ w'.cell? ⟨gb374, 2, none⟩ = some (.string a1_2) ∧ w'.cell? ⟨gb374, 3, none⟩ = some (.string a1_3) ∧ w'.cell? ⟨gb374, 4, none⟩ = some (.int .i64 a1_4) ∧ w'.cell? ⟨gb374, 5, none⟩ = some (.bool a1_5)) ∧ (Kd.R k25 25 w' w.heap.size (fun k_ => some k_ ≠ (s_.2 : Value).ownBlock ∧ k_ ≠ gb374) s_.1 t378) ∧ (Kd.R k25 25 w' w.heap.size (fun k_ => some k_ ≠ (s_.1 : Value).ownBlock ∧ k_ ≠ gb374) s_.2 y381) ∧ (w'.heap[gb373]? = some (.cells #[.int .i64 a0_0, .slice A0_1 l0_1.length c0_1] 53 (0, 0))) ∧ (w'.heap[gb374]? = some (.cells #[.int .i64 a1_0, .int .i64 a1_1, .string a1_2, .string a1_3, .int .i64 a1_4, .bool a1_5] 25 (0, 0))) ∧ (w'.heap[gb375]? = some (.cells #[.int .i64 0, .slice none 0 0] 53 (0, 0))) ∧ (Below w.heap.size w w')) ?_ ?_
    rotate_left
    ·intro hCont
     refine two_ (i := 4) (j := 6) (Ni := some 23) (Nj := some 25) #[I,I,I,I,I,I,O,O,O,O,O] #[I,I,I,I,O,I,I,O,O,O,O] rfl rfl rfl rfl (two_of HT_.out (by kernel_rfl)) (by decide) (by decide) (fun K hK => ?_) (fun K hK => ?_)
     ·skip
      refine goes_ Try.func79 (by kernel_rfl) rfl #[.slice A0_1 l0_1.length c0_1] (by rfl) rfl rfl aa ?_
      with_reducible refine (api_Rec_79.calls _ _ l0_1 t378 _ ?side1 ?side2 A7.out).mono ?_
      (case side1 => repeat (first | exact (Kd.C_below HR0_1.out HB.out) | (with_reducible refine Kd.C_alloc ?_ _) | (with_reducible refine Kd.C_drewN ?_ _) | (with_reducible refine Kd.C_drew ?_)))
      (case side2 => exact HC0_1.out)
      rintro e w21 ⟨v379, rfl, ho0, hb⟩
      refine ⟨_, rfl, ?_⟩
      have HO380 := Aside0.mk (Kd.R_lower (Kd.R_newB ho0 (g := gb374) (o := .cells #[.int .i64 a1_0, .int .i64 a1_1, .string a1_2, .string a1_3, .int .i64 a1_4, .bool a1_5] 25 (0, 0)) (bk BK374.out)) (below_size bo))
      replace BK373 := Aside0.mk (blk_below (g := gb373) (o := .cells #[.int .i64 a0_0, .slice A0_1 l0_1.length c0_1] 53 (0, 0)) (bk BK373.out) hb)
      replace BK374 := Aside0.mk (blk_below (g := gb374) (o := .cells #[.int .i64 a1_0, .int .i64 a1_1, .string a1_2, .string a1_3, .int .i64 a1_4, .bool a1_5] 25 (0, 0)) (bk BK374.out) hb)
      replace BK375 := Aside0.mk (blk_below (g := gb375) (o := .cells #[.int .i64 0, .slice none 0 0] 53 (0, 0)) (bk BK375.out) hb)
      replace HB := Aside0.mk (below_step bo hb)
      (try clear hb)
      (try clear hb2)
      (try clear hk)
      (try clear hi)
      (try clear ho0)
      refine hK.out _ _ ⟨(blk_cell BK373.out 0).trans rfl, (blk_cell BK373.out 1).trans rfl, (blk_cell BK374.out 0).trans rfl, (blk_cell BK374.out 1).trans rfl, (blk_cell BK374.out 2).trans rfl, (blk_cell BK374.out 3).trans rfl, (blk_cell BK374.out 4).trans rfl, (blk_cell BK374.out 5).trans rfl⟩ (fun hHeld => ?_)
      clear hK K
      refine norm_ (a' := ?_) ?_ ?_
      rotate_left
      ·show Act.put _ (some 23) _ = _
       simp only [Act.put, List.setIfInBounds_toArray, List.set_cons_zero, List.set_cons_succ, i64_w, i32_w]
       rfl
      refine one_ (i := 6) (N := some 25) #[I,I,I,I,I,I,I,O,O,O,O] rfl rfl (one_of HT_.out (by kernel_rfl)) (by decide) (fun K hK => ?_)
      refine Kd.R_lit_step k25 _ 25 ?hg (N := 25) ?hd (xs := ([(⟨a1_0, a1_1, a1_2, a1_3, a1_4, a1_5⟩ : S25)] : List (S25))) (inner := [.int .i64 a1_0, .int .i64 a1_1, .string a1_2, .string a1_3, .int .i64 a1_4, .bool a1_5]) (ok := fun _ => True) (okp := fun _ => True) ?hr ?hp (fun _ hk => hk) trivial (Below.refl _ _) (Nat.le_refl _) (by simp) ?_; (case hd => rfl); (case hg => rfl); (case hr => first | (go_simp; done) | (go_simp; rfl)); (case hp => exact (Reps.c6 (show Kd.M k25 _ _ _ (⟨a1_0, a1_1, a1_2, a1_3, a1_4, a1_5⟩ : S25) [.int .i64 a1_0, .int .i64 a1_1, .string a1_2, .string a1_3, .int .i64 a1_4, .bool a1_5] from (k25_mkM _ _ _ (⟨a1_0, a1_1, a1_2, a1_3, a1_4, a1_5⟩ : S25) )) (Reps.none _ _)))
      intro v382 w22 ho23 hb hg_ hnew_
      clear hg_ hnew_
      (first | rw [← Ny381.out] at ho23 | (simp only [Int.reduceToNat] at ho23; rw [← Ny381.out] at ho23))
      have HO383 := Aside0.mk (Kd.R_lower (Kd.R_newB (Kd.R_new' ho23 (Kd.R_lt (rk HO380.out))) (g := gb374) (o := .cells #[.int .i64 a1_0, .int .i64 a1_1, .string a1_2, .string a1_3, .int .i64 a1_4, .bool a1_5] 25 (0, 0)) (bk BK374.out)) (below_size bo))
      replace HO380 := Aside0.mk (Kd.R_elder' (rk HO380.out) (Kd.R_base ho23) hb)
      replace BK373 := Aside0.mk (blk_below (g := gb373) (o := .cells #[.int .i64 a0_0, .slice A0_1 l0_1.length c0_1] 53 (0, 0)) (bk BK373.out) hb)
      replace BK374 := Aside0.mk (blk_below (g := gb374) (o := .cells #[.int .i64 a1_0, .int .i64 a1_1, .string a1_2, .string a1_3, .int .i64 a1_4, .bool a1_5] 25 (0, 0)) (bk BK374.out) hb)
      replace BK375 := Aside0.mk (blk_below (g := gb375) (o := .cells #[.int .i64 0, .slice none 0 0] 53 (0, 0)) (bk BK375.out) hb)
      replace HB := Aside0.mk (below_step bo hb)
      clear hb ho23
      refine hK.out _ _ ⟨(blk_cell BK373.out 0).trans rfl, (blk_cell BK373.out 1).trans rfl, (blk_cell BK374.out 0).trans rfl, (blk_cell BK374.out 1).trans rfl, (blk_cell BK374.out 2).trans rfl, (blk_cell BK374.out 3).trans rfl, (blk_cell BK374.out 4).trans rfl, (blk_cell BK374.out 5).trans rfl⟩ (fun hHeld => ?_)
      clear hK K
      refine norm_ (a' := ?_) ?_ ?_
      rotate_left
      ·show Act.put _ (some 25) _ = _
       simp only [Act.put, List.setIfInBounds_toArray, List.set_cons_zero, List.set_cons_succ, i64_w, i32_w]
       rfl
      exact norm_ (by simp only [putAll, Act.put, List.setIfInBounds_toArray, List.set_cons_zero, List.set_cons_succ]) (hCont (v379, v382) _ ⟨hHeld, (by (with_reducible repeat (first | apply Kd.R_alloc | apply Kd.R_drewN | apply Kd.R_drew)); exact Kd.R_mono HO380.out (fun _ hk => ⟨hk.2, hk.1.2⟩)), (by (with_reducible repeat (first | apply Kd.R_alloc | apply Kd.R_drewN | apply Kd.R_drew)); exact Kd.R_mono HO383.out (fun _ hk => ⟨hk.1.2, hk.2⟩)), (bk BK373.out), (bk BK374.out), (bk BK375.out), bo⟩)
     ·skip
      refine Kd.R_lit_step k25 _ 25 ?hg (N := 25) ?hd (xs := ([(⟨a1_0, a1_1, a1_2, a1_3, a1_4, a1_5⟩ : S25)] : List (S25))) (inner := [.int .i64 a1_0, .int .i64 a1_1, .string a1_2, .string a1_3, .int .i64 a1_4, .bool a1_5]) (ok := fun _ => True) (okp := fun _ => True) ?hr ?hp (fun _ hk => hk) trivial (Below.refl _ _) (Nat.le_refl _) (by simp) ?_; (case hd => rfl); (case hg => rfl); (case hr => first | (go_simp; done) | (go_simp; rfl)); (case hp => exact (Reps.c6 (show Kd.M k25 _ _ _ (⟨a1_0, a1_1, a1_2, a1_3, a1_4, a1_5⟩ : S25) [.int .i64 a1_0, .int .i64 a1_1, .string a1_2, .string a1_3, .int .i64 a1_4, .bool a1_5] from (k25_mkM _ _ _ (⟨a1_0, a1_1, a1_2, a1_3, a1_4, a1_5⟩ : S25) )) (Reps.none _ _)))
      intro v382 w21 ho22 hb hg_ hnew_
      clear hg_ hnew_
      (first | rw [← Ny381.out] at ho22 | (simp only [Int.reduceToNat] at ho22; rw [← Ny381.out] at ho22))
      have HO383 := Aside0.mk (Kd.R_lower (Kd.R_newB ho22 (g := gb374) (o := .cells #[.int .i64 a1_0, .int .i64 a1_1, .string a1_2, .string a1_3, .int .i64 a1_4, .bool a1_5] 25 (0, 0)) (bk BK374.out)) (below_size bo))
      replace BK373 := Aside0.mk (blk_below (g := gb373) (o := .cells #[.int .i64 a0_0, .slice A0_1 l0_1.length c0_1] 53 (0, 0)) (bk BK373.out) hb)
      replace BK374 := Aside0.mk (blk_below (g := gb374) (o := .cells #[.int .i64 a1_0, .int .i64 a1_1, .string a1_2, .string a1_3, .int .i64 a1_4, .bool a1_5] 25 (0, 0)) (bk BK374.out) hb)
      replace BK375 := Aside0.mk (blk_below (g := gb375) (o := .cells #[.int .i64 0, .slice none 0 0] 53 (0, 0)) (bk BK375.out) hb)
      replace HB := Aside0.mk (below_step bo hb)
      clear hb ho22
      refine hK.out _ _ ⟨(blk_cell BK373.out 0).trans rfl, (blk_cell BK373.out 1).trans rfl, (blk_cell BK374.out 0).trans rfl, (blk_cell BK374.out 1).trans rfl, (blk_cell BK374.out 2).trans rfl, (blk_cell BK374.out 3).trans rfl, (blk_cell BK374.out 4).trans rfl, (blk_cell BK374.out 5).trans rfl⟩ (fun hHeld => ?_)
      clear hK K
      refine norm_ (a' := ?_) ?_ ?_
      rotate_left
      ·show Act.put _ (some 25) _ = _
       simp only [Act.put, List.setIfInBounds_toArray, List.set_cons_zero, List.set_cons_succ, i64_w, i32_w]
       rfl
      refine one_ (i := 4) (N := some 23) #[I,I,I,I,I,I,I,O,O,O,O] rfl rfl (one_of HT_.out (by kernel_rfl)) (by decide) (fun K hK => ?_)
      refine goes_ Try.func79 (by kernel_rfl) rfl #[.slice A0_1 l0_1.length c0_1] (by rfl) rfl rfl aa ?_
      with_reducible refine (api_Rec_79.calls _ _ l0_1 t378 _ ?side1 ?side2 A7.out).mono ?_
      (case side1 => repeat (first | exact (Kd.C_below HR0_1.out HB.out) | (with_reducible refine Kd.C_alloc ?_ _) | (with_reducible refine Kd.C_drewN ?_ _) | (with_reducible refine Kd.C_drew ?_)))
      (case side2 => exact HC0_1.out)
      rintro e w23 ⟨v379, rfl, ho0, hb⟩
      refine ⟨_, rfl, ?_⟩
      have HO380 := Aside0.mk (Kd.R_lower (Kd.R_newB (Kd.R_new' ho0 (Kd.R_lt (rk HO383.out))) (g := gb374) (o := .cells #[.int .i64 a1_0, .int .i64 a1_1, .string a1_2, .string a1_3, .int .i64 a1_4, .bool a1_5] 25 (0, 0)) (bk BK374.out)) (below_size bo))
      replace HO383 := Aside0.mk (Kd.R_elder' (rk HO383.out) (Kd.R_base ho0) hb)
      replace BK373 := Aside0.mk (blk_below (g := gb373) (o := .cells #[.int .i64 a0_0, .slice A0_1 l0_1.length c0_1] 53 (0, 0)) (bk BK373.out) hb)
      replace BK374 := Aside0.mk (blk_below (g := gb374) (o := .cells #[.int .i64 a1_0, .int .i64 a1_1, .string a1_2, .string a1_3, .int .i64 a1_4, .bool a1_5] 25 (0, 0)) (bk BK374.out) hb)
      replace BK375 := Aside0.mk (blk_below (g := gb375) (o := .cells #[.int .i64 0, .slice none 0 0] 53 (0, 0)) (bk BK375.out) hb)
      replace HB := Aside0.mk (below_step bo hb)
      (try clear hb)
      (try clear hb2)
      (try clear hk)
      (try clear hi)
      (try clear ho0)
      refine hK.out _ _ ⟨(blk_cell BK373.out 0).trans rfl, (blk_cell BK373.out 1).trans rfl, (blk_cell BK374.out 0).trans rfl, (blk_cell BK374.out 1).trans rfl, (blk_cell BK374.out 2).trans rfl, (blk_cell BK374.out 3).trans rfl, (blk_cell BK374.out 4).trans rfl, (blk_cell BK374.out 5).trans rfl⟩ (fun hHeld => ?_)
      clear hK K
      refine norm_ (a' := ?_) ?_ ?_
      rotate_left
      ·show Act.put _ (some 23) _ = _
       simp only [Act.put, List.setIfInBounds_toArray, List.set_cons_zero, List.set_cons_succ, i64_w, i32_w]
       rfl
      exact norm_ (by simp only [putAll, Act.put, List.setIfInBounds_toArray, List.set_cons_zero, List.set_cons_succ]) (hCont (v379, v382) _ ⟨hHeld, (by (with_reducible repeat (first | apply Kd.R_alloc | apply Kd.R_drewN | apply Kd.R_drew)); exact Kd.R_mono HO380.out (fun _ hk => ⟨hk.1.2, hk.2⟩)), (by (with_reducible repeat (first | apply Kd.R_alloc | apply Kd.R_drewN | apply Kd.R_drew)); exact Kd.R_mono HO383.out (fun _ hk => ⟨hk.2, hk.1.2⟩)), (bk BK373.out), (bk BK374.out), (bk BK375.out), bo⟩)
    rintro ⟨v379, v382⟩ w24 ⟨hS_, h0_, h1_, h2_, h3_, h4_, h5_⟩
    have n0_ : Aside0 (Kd.R k25 25 w24 w.heap.size (fun k_ => some k_ ≠ (v382 : Value).ownBlock ∧ k_ ≠ gb374) v379 t378) := ⟨h0_⟩
    have n1_ : Aside0 (Kd.R k25 25 w24 w.heap.size (fun k_ => some k_ ≠ (v379 : Value).ownBlock ∧ k_ ≠ gb374) v382 y381) := ⟨h1_⟩
    have n2_ : Aside0 (w24.heap[gb373]? = some (.cells #[.int .i64 a0_0, .slice A0_1 l0_1.length c0_1] 53 (0, 0))) := ⟨h2_⟩
    have n3_ : Aside0 (w24.heap[gb374]? = some (.cells #[.int .i64 a1_0, .int .i64 a1_1, .string a1_2, .string a1_3, .int .i64 a1_4, .bool a1_5] 25 (0, 0))) := ⟨h3_⟩
    have n4_ : Aside0 (w24.heap[gb375]? = some (.cells #[.int .i64 0, .slice none 0 0] 53 (0, 0))) := ⟨h4_⟩
    have n5_ : Aside0 (Below w.heap.size w w24) := ⟨h5_⟩
    clear BK373
    clear BK374
    clear BK375
    clear HB
    clear h0_ h1_ h2_ h3_ h4_ h5_
    have HO380 := n0_
    have HO383 := n1_
    have BK373 := n2_
    have BK374 := n3_
    have BK375 := n4_
    have HB := n5_
    clear n0_ n1_ n2_ n3_ n4_ n5_
    have hHeld : w24.cell? ⟨gb373, 0, none⟩ = some (.int .i64 a0_0) ∧ w24.cell? ⟨gb373, 1, none⟩ = some (.slice A0_1 l0_1.length c0_1) ∧ w24.cell? ⟨gb374, 0, none⟩ = some (.int .i64 a1_0) ∧ w24.cell? ⟨gb374, 1, none⟩ = some (.int .i64 a1_1) ∧ w24.cell? ⟨gb374, 2, none⟩ = some (.string a1_2) ∧ w24.cell? ⟨gb374, 3, none⟩ = some (.string a1_3) ∧ w24.cell? ⟨gb374, 4, none⟩ = some (.int .i64 a1_4) ∧ w24.cell? ⟨gb374, 5, none⟩ = some (.bool a1_5) := hS_
    obtain ⟨Ao26, co26, eo26⟩ := Kd.R_slice HO383.out
    (first | subst eo26 | (injection eo26 with f1_ f2_ f3_; have f4_ := f1_.symm; have f5_ := f3_.symm; clear f1_ f2_ f3_; subst f4_; subst f5_))
    refine norm_ (a' := ?_) ?_ ?_
    rotate_left
    ·simp only [putAll, Act.put, List.setIfInBounds_toArray, List.set_cons_zero, List.set_cons_succ]
     rfl
    refine one_ (i := 7) (N := some 26) #[I,I,I,I,I,I,I,I,O,O,O] rfl rfl (one_of HT_.out (by kernel_rfl)) (by decide) (fun K hK => ?_)
    refine Kd.R_append_rows_step k25 (w0 := w) w.heap.size (by rfl) (.tmp 23) (.tmp 25) 36 25 (.agg #[(.int .i64 0), (.int .i64 0), (.string ⟨#[]⟩), (.string ⟨#[]⟩), (.int .i64 0), (.bool false)]) 64 rfl Try.underlying36 info25 rfl (by decide) (by omega) v379 t378 y381 _ _ _ (fun k_ => some k_ ≠ (.slice Ao26 y381.length co26 : Value).ownBlock ∧ k_ ≠ gb374) (fun _ => False) rfl rfl ?aO ?aR (fun _ _ h => h) (fun _ h => h.elim) ?aF ?aB ?aS ?aL ?_
    (case aR => repeat (first | exact (Kd.R_reads' HO383.out).2.2 | (with_reducible refine Kd.C_alloc ?_ _) | (with_reducible refine Kd.C_drewN ?_ _) | (with_reducible refine Kd.C_drew ?_)))
    (case aB => exact bo)
    (case aF => exact (fun k_ hk => ⟨Kd.fresh' (Kd.R_lt (rk HO383.out)) k_ hk, Kd.freshB (g := gb374) (o := .cells #[.int .i64 a1_0, .int .i64 a1_1, .string a1_2, .string a1_3, .int .i64 a1_4, .bool a1_5] 25 (0, 0)) (bk BK374.out) k_ hk⟩))
    (case aO => exact (rk HO380.out))
    (case aS => exact (below_size bo))
    (case aL => have := LMc8.out; omega)
    intro v385 w25 ho hb hg hat
    rw [← Ny384.out] at ho
    have n0_ := Aside0.mk (blk_grown (g := gb373) (o := .cells #[.int .i64 a0_0, .slice A0_1 l0_1.length c0_1] 53 (0, 0)) (bk BK373.out) hg (Kd.R_ne HO380.out BK373.out (by decide)))
    have n1_ := Aside0.mk (blk_grown (g := gb374) (o := .cells #[.int .i64 a1_0, .int .i64 a1_1, .string a1_2, .string a1_3, .int .i64 a1_4, .bool a1_5] 25 (0, 0)) (bk BK374.out) hg (Kd.R_away HO380.out (fun _ hk => hk.2)))
    have n2_ := Aside0.mk (blk_grown (g := gb375) (o := .cells #[.int .i64 0, .slice none 0 0] 53 (0, 0)) (bk BK375.out) hg (Kd.R_ne HO380.out BK375.out (by decide)))
    have n3_ := Aside0.mk (Kd.R_after (ok := (fun k_ => k_ ≠ gb374)) (by (with_reducible repeat (first | apply Kd.R_alloc | apply Kd.R_drewN | apply Kd.R_drew)); exact Kd.R_mono HO383.out (fun _ hk => ⟨hk.2, hk.1⟩)) hg hat)
    have n4_ := Aside0.mk (hb)
    have n5_ := Aside0.mk (ho)
    clear BK373
    clear BK374
    clear BK375
    clear HO383
    clear HB
    clear HO380
    have BK373 := n0_
    have BK374 := n1_
    have BK375 := n2_
    have HO383 := n3_
    have HB := n4_
    have HO386 := n5_
    clear n0_ n1_ n2_ n3_ n4_ n5_
    clear ho hb hg hat
    obtain ⟨Ao27, co27, eo27⟩ := Kd.R_slice HO386.out
    (first | subst eo27 | (injection eo27 with f1_ f2_ f3_; have f4_ := f1_.symm; have f5_ := f3_.symm; clear f1_ f2_ f3_; subst f4_; subst f5_))
    refine hK.out _ _ ⟨(blk_cell BK373.out 0).trans rfl, (blk_cell BK373.out 1).trans rfl, (blk_cell BK374.out 0).trans rfl, (blk_cell BK374.out 1).trans rfl, (blk_cell BK374.out 2).trans rfl, (blk_cell BK374.out 3).trans rfl, (blk_cell BK374.out 4).trans rfl, (blk_cell BK374.out 5).trans rfl⟩ (fun hHeld => ?_)
    clear hK K
    refine norm_ (a' := ?_) ?_ ?_
    rotate_left
    ·show Act.put _ (some 26) _ = _
     simp only [Act.put, List.setIfInBounds_toArray, List.set_cons_zero, List.set_cons_succ, i64_w, i32_w]
     rfl
    refine pz (i := 8) (N := some 27) #[I,I,I,I,I,I,I,I,I,O,O] ?_
    refine one_ (i := 9) (N := none) #[I,I,I,I,I,I,I,I,I,I,O] rfl rfl (one_of HT_.out (by kernel_rfl)) (by decide) (fun K hK => ?_)
    have hs28 : w25.cell? ⟨gb375, 0, none⟩ = some (.int .i64 0) := (blk_cell BK375.out 0).trans rfl
    have hfs28 := blk_frozen BK375.out 0
    have hns28_0 := NB373_375.out
    have hns28_1 := NB374_375.out
    have hms28_0 := NB375_373.out
    have hms28_1 := NB375_374.out
    have hs29 : w25.cell? ⟨gb375, 1, none⟩ = some (.slice none 0 0) := (blk_cell BK375.out 1).trans rfl
    have hfs29 := blk_frozen BK375.out 1
    have hns29_0 := NB373_375.out
    have hns29_1 := NB374_375.out
    have hms29_0 := NB375_373.out
    have hms29_1 := NB375_374.out
    refine skip_ (w1 := ?_) (by rfl) rfl ?_ ?_
    rotate_left
    ·go_simp
     rfl
    refine hK.out _ _ ⟨((cell_far (p := ⟨gb375, _, none⟩) NB373_375.out _).trans (((cell_far (p := ⟨gb375, _, none⟩) NB373_375.out _).trans (hHeld.1)))), ((cell_far (p := ⟨gb375, _, none⟩) NB373_375.out _).trans (((cell_far (p := ⟨gb375, _, none⟩) NB373_375.out _).trans (hHeld.2.1)))), ((cell_far (p := ⟨gb375, _, none⟩) NB374_375.out _).trans (((cell_far (p := ⟨gb375, _, none⟩) NB374_375.out _).trans (hHeld.2.2.1)))), ((cell_far (p := ⟨gb375, _, none⟩) NB374_375.out _).trans (((cell_far (p := ⟨gb375, _, none⟩) NB374_375.out _).trans (hHeld.2.2.2.1)))), ((cell_far (p := ⟨gb375, _, none⟩) NB374_375.out _).trans (((cell_far (p := ⟨gb375, _, none⟩) NB374_375.out _).trans (hHeld.2.2.2.2.1)))), ((cell_far (p := ⟨gb375, _, none⟩) NB374_375.out _).trans (((cell_far (p := ⟨gb375, _, none⟩) NB374_375.out _).trans (hHeld.2.2.2.2.2.1)))), ((cell_far (p := ⟨gb375, _, none⟩) NB374_375.out _).trans (((cell_far (p := ⟨gb375, _, none⟩) NB374_375.out _).trans (hHeld.2.2.2.2.2.2.1)))), ((cell_far (p := ⟨gb375, _, none⟩) NB374_375.out _).trans (((cell_far (p := ⟨gb375, _, none⟩) NB374_375.out _).trans (hHeld.2.2.2.2.2.2.2))))⟩ (fun hHeld => ?_)
    clear hK K
    refine pz (i := 10) (N := some 5) #[I,I,I,I,I,I,I,I,I,I,I] ?_
    refine done_ (done_of HT_.out (by kernel_rfl)) ?_
    try go_wp2
    refine bodyPost_ret (results_ct rfl _ _ gb375 53 #[.int .i64 a0_0, .slice Ao27 y384.length co27] (0, 0) _ rfl (by (with_reducible repeat (first | refine blk_drewN ?_ _ | refine blk_drew ?_ | refine blk_alloc ?_ _)); refine blk_put (cs := #[.int .i64 a0_0, .slice none 0 0]) ?_ 1 _ rfl; (with_reducible repeat (first | refine blk_drewN ?_ _ | refine blk_drew ?_ | refine blk_alloc ?_ _)); refine blk_put (cs := #[.int .i64 0, .slice none 0 0]) ?_ 0 _ rfl; (with_reducible repeat (first | refine blk_drewN ?_ _ | refine blk_drew ?_ | refine blk_alloc ?_ _)); exact BK375.out) Try.underlying53 rfl (by kernel_rfl)) rfl ?_
    exact ⟨_, er, by (with_reducible repeat (first | apply Kd.R_alloc | apply Kd.R_drewN | apply Kd.R_drew)); exact Kd.R_mono (Kd.R_far (p := ⟨gb375, 1, none⟩) (Kd.R_far (p := ⟨gb375, 0, none⟩) (Kd.R_types HO386.out BK375.out (by decide)) (fun _ hk => hk.2) (.int .i64 a0_0)) (fun _ hk => hk.2) (.slice Ao27 y384.length co27)) (fun _ hk => trivial), bo⟩
   ·rw [if_neg c8] at H
    exact absurd H (by simp)
  ·replace c6 := Bool.eq_false_iff.mpr c6
   subst c6
   have H1 : (some (0, ([] : List (S25)), 1)) = some (r1, r2, r3) := by rw [if_neg (show ¬ (false = true) by decide)] at H; exact H
   clear H
   have H := H1
   clear H1
   simp only [Option.some.injEq, Prod.mk.injEq] at H
   obtain ⟨rfl, rfl, rfl⟩ := H
   go_enter Try.func47, Try.ntmps47
   go_wp2_with (first | ((with_reducible refine gate_dst (N := 2) rfl ?_); refine box_event ?hg (N := 2) ?hd (cs := #[.int .i64 a0_0, .slice A0_1 l0_1.length c0_1]) (t := 53) ?hr ?_; (case hd => rfl); (case hg => rfl); (case hr => first | (go_simp; done) | (go_simp; rfl)); intro gb373 hg w30 hbox hb; have BK373 := Aside0.mk (hbox); have GW373 := Aside0.mk ((by rw [hg]; exact (below_size bo) : w.heap.size ≤ gb373)); have GE373 := Aside0.mk ((by rw [hg]; exact (below_size bo) : w.heap.size ≤ gb373)); replace HB := Aside0.mk (below_step bo hb); clear hb hbox hg) | ((with_reducible refine gate_dst (N := 3) rfl ?_); refine box_event ?hg (N := 3) ?hd (cs := #[.int .i64 a1_0, .int .i64 a1_1, .string a1_2, .string a1_3, .int .i64 a1_4, .bool a1_5]) (t := 25) ?hr ?_; (case hd => rfl); (case hg => rfl); (case hr => first | (go_simp; done) | (go_simp; rfl)); intro gb374 hg w31 hbox hb; have BK374 := Aside0.mk (hbox); have GW374 := Aside0.mk ((by rw [hg]; exact (below_size bo) : w.heap.size ≤ gb374)); have GE374 := Aside0.mk ((by rw [hg]; exact (below_size bo) : w.heap.size ≤ gb374)); replace HB := Aside0.mk (below_step bo hb); have NB373_374 := Aside0.mk ((by rw [hg]; exact Nat.ne_of_lt (blk_lt (g := gb373) (o := .cells #[.int .i64 a0_0, .slice A0_1 l0_1.length c0_1] 53 (0, 0)) (bk BK373.out)) : gb373 ≠ gb374)); have NB374_373 := Aside0.mk ((by rw [hg]; exact Nat.ne_of_gt (blk_lt (g := gb373) (o := .cells #[.int .i64 a0_0, .slice A0_1 l0_1.length c0_1] 53 (0, 0)) (bk BK373.out)) : gb374 ≠ gb373)); replace BK373 := Aside0.mk (blk_below (g := gb373) (o := .cells #[.int .i64 a0_0, .slice A0_1 l0_1.length c0_1] 53 (0, 0)) (bk BK373.out) hb); clear hb hbox hg) | ((with_reducible refine gate_dst (N := 4) rfl ?_); refine box_event ?hg (N := 4) ?hd (cs := #[.int .i64 0, .slice none 0 0]) (t := 53) ?hr ?_; (case hd => rfl); (case hg => rfl); (case hr => first | (go_simp; done) | (go_simp; rfl)); intro gb375 hg w32 hbox hb; have BK375 := Aside0.mk (hbox); have GW375 := Aside0.mk ((by rw [hg]; exact (below_size bo) : w.heap.size ≤ gb375)); have GE375 := Aside0.mk ((by rw [hg]; exact (below_size bo) : w.heap.size ≤ gb375)); replace HB := Aside0.mk (below_step bo hb); have NB373_375 := Aside0.mk ((by rw [hg]; exact Nat.ne_of_lt (blk_lt (g := gb373) (o := .cells #[.int .i64 a0_0, .slice A0_1 l0_1.length c0_1] 53 (0, 0)) (bk BK373.out)) : gb373 ≠ gb375)); have NB375_373 := Aside0.mk ((by rw [hg]; exact Nat.ne_of_gt (blk_lt (g := gb373) (o := .cells #[.int .i64 a0_0, .slice A0_1 l0_1.length c0_1] 53 (0, 0)) (bk BK373.out)) : gb375 ≠ gb373)); replace BK373 := Aside0.mk (blk_below (g := gb373) (o := .cells #[.int .i64 a0_0, .slice A0_1 l0_1.length c0_1] 53 (0, 0)) (bk BK373.out) hb); have NB374_375 := Aside0.mk ((by rw [hg]; exact Nat.ne_of_lt (blk_lt (g := gb374) (o := .cells #[.int .i64 a1_0, .int .i64 a1_1, .string a1_2, .string a1_3, .int .i64 a1_4, .bool a1_5] 25 (0, 0)) (bk BK374.out)) : gb374 ≠ gb375)); have NB375_374 := Aside0.mk ((by rw [hg]; exact Nat.ne_of_gt (blk_lt (g := gb374) (o := .cells #[.int .i64 a1_0, .int .i64 a1_1, .string a1_2, .string a1_3, .int .i64 a1_4, .bool a1_5] 25 (0, 0)) (bk BK374.out)) : gb375 ≠ gb374)); replace BK374 := Aside0.mk (blk_below (g := gb374) (o := .cells #[.int .i64 a1_0, .int .i64 a1_1, .string a1_2, .string a1_3, .int .i64 a1_4, .bool a1_5] 25 (0, 0)) (bk BK374.out) hb); clear hb hbox hg; have hnb33 := NB373_374.out; have hnc33 := NB374_373.out; have hnb34 := NB373_375.out; have hnc34 := NB375_373.out; obtain ⟨hcz35_0, hcz35_1⟩ := cl2 BK373.out; obtain ⟨hfz35_0, hfz35_1⟩ := fz2 BK373.out) | ((with_reducible refine gate_callee (f := 46) rfl ?_); refine goesL_ (some 7) rfl rfl Try.func46 (by kernel_rfl) rfl #[.agg #[.int .i64 a0_0, .slice A0_1 l0_1.length c0_1]] rfl aa ?_; (with_reducible refine (seg_Check.calls k a0_0 _ _ l0_1 t376 _ ?side1 ?side2 A3.out).mono ?_); (case side1 => repeat (first | exact (Kd.C_below HR0_1.out HB.out) | (with_reducible refine Kd.C_alloc ?_ _) | (with_reducible refine Kd.C_drewN ?_ _) | (with_reducible refine Kd.C_drew ?_))); (case side2 => exact HC0_1.out); rintro e w36 ⟨rfl, hb⟩; refine ⟨_, rfl, ?_⟩; replace BK373 := Aside0.mk (blk_below (g := gb373) (o := .cells #[.int .i64 a0_0, .slice A0_1 l0_1.length c0_1] 53 (0, 0)) (bk BK373.out) hb); replace BK374 := Aside0.mk (blk_below (g := gb374) (o := .cells #[.int .i64 a1_0, .int .i64 a1_1, .string a1_2, .string a1_3, .int .i64 a1_4, .bool a1_5] 25 (0, 0)) (bk BK374.out) hb); replace BK375 := Aside0.mk (blk_below (g := gb375) (o := .cells #[.int .i64 0, .slice none 0 0] 53 (0, 0)) (bk BK375.out) hb); replace HB := Aside0.mk (below_step bo hb); (try clear hb); (try clear hb2); (try clear hk); (try clear hi); obtain ⟨hcz37_0, hcz37_1⟩ := cl2 BK373.out; obtain ⟨hfz37_0, hfz37_1⟩ := fz2 BK373.out; have hnb38 := NB374_375.out; have hnc38 := NB375_374.out; obtain ⟨hcz39_0, hcz39_1, hcz39_2, hcz39_3, hcz39_4, hcz39_5⟩ := cl6 BK374.out; obtain ⟨hfz39_0, hfz39_1, hfz39_2, hfz39_3, hfz39_4, hfz39_5⟩ := fz6 BK374.out) | (go_at_call 75; (with_reducible refine (seg_behind.calls k a0_0 _ _ l0_1 a1_0 a1_1 a1_2 a1_3 a1_4 a1_5 false _ ?side1 ?side2 A5.out).mono ?_); (case side1 => repeat (first | exact (Kd.C_below HR0_1.out HB.out) | (with_reducible refine Kd.C_alloc ?_ _) | (with_reducible refine Kd.C_drewN ?_ _) | (with_reducible refine Kd.C_drew ?_))); (case side2 => exact HC0_1.out); rintro e w40 ⟨rfl, hb⟩; replace BK373 := Aside0.mk (blk_below (g := gb373) (o := .cells #[.int .i64 a0_0, .slice A0_1 l0_1.length c0_1] 53 (0, 0)) (bk BK373.out) hb); replace BK374 := Aside0.mk (blk_below (g := gb374) (o := .cells #[.int .i64 a1_0, .int .i64 a1_1, .string a1_2, .string a1_3, .int .i64 a1_4, .bool a1_5] 25 (0, 0)) (bk BK374.out) hb); replace BK375 := Aside0.mk (blk_below (g := gb375) (o := .cells #[.int .i64 0, .slice none 0 0] 53 (0, 0)) (bk BK375.out) hb); replace HB := Aside0.mk (below_step bo hb); (try clear hb); (try clear hb2); (try clear hk); (try clear hi); obtain ⟨hcz41_0, hcz41_1⟩ := cl2 BK375.out; obtain ⟨hfz41_0, hfz41_1⟩ := fz2 BK375.out))
   refine bodyPost_ret (results_ct rfl _ _ gb375 53 #[.int .i64 0, .slice none 0 0] (0, 0) _ rfl (by (with_reducible repeat (first | refine blk_drewN ?_ _ | refine blk_drew ?_ | refine blk_alloc ?_ _)); refine blk_put (cs := #[.int .i64 0, .slice none 0 0]) ?_ 1 _ rfl; (with_reducible repeat (first | refine blk_drewN ?_ _ | refine blk_drew ?_ | refine blk_alloc ?_ _)); refine blk_put (cs := #[.int .i64 0, .slice none 0 0]) ?_ 0 _ rfl; (with_reducible repeat (first | refine blk_drewN ?_ _ | refine blk_drew ?_ | refine blk_alloc ?_ _)); exact BK375.out) Try.underlying53 rfl (by kernel_rfl)) rfl ?_
   exact ⟨_, er, by first | exact Kd.R_nil _ _ _ _ _ | exact Kd.N_nil _ _ _ _ _ | exact Kd.V_nil _ _ _ _ _ | exact Kd.Q_nil _ _ _ _ _ | exact Kd.S_nil _ _ _ _ _, bo⟩
 ·rw [if_neg c4] at H
  have c4b0 : (t376 == 0) = false := beq_eq_false_iff_ne.mpr c4
  have c4b1 : (t376 != 0) = true := bne_iff_ne.mpr c4
  simp only [Option.some.injEq, Prod.mk.injEq] at H
  obtain ⟨rfl, rfl, rfl⟩ := H
  go_enter Try.func47, Try.ntmps47
  go_wp2_with (first | ((with_reducible refine gate_dst (N := 2) rfl ?_); refine box_event ?hg (N := 2) ?hd (cs := #[.int .i64 a0_0, .slice A0_1 l0_1.length c0_1]) (t := 53) ?hr ?_; (case hd => rfl); (case hg => rfl); (case hr => first | (go_simp; done) | (go_simp; rfl)); intro gb373 hg w42 hbox hb; have BK373 := Aside0.mk (hbox); have GW373 := Aside0.mk ((by rw [hg]; exact (below_size bo) : w.heap.size ≤ gb373)); have GE373 := Aside0.mk ((by rw [hg]; exact (below_size bo) : w.heap.size ≤ gb373)); replace HB := Aside0.mk (below_step bo hb); clear hb hbox hg) | ((with_reducible refine gate_dst (N := 3) rfl ?_); refine box_event ?hg (N := 3) ?hd (cs := #[.int .i64 a1_0, .int .i64 a1_1, .string a1_2, .string a1_3, .int .i64 a1_4, .bool a1_5]) (t := 25) ?hr ?_; (case hd => rfl); (case hg => rfl); (case hr => first | (go_simp; done) | (go_simp; rfl)); intro gb374 hg w43 hbox hb; have BK374 := Aside0.mk (hbox); have GW374 := Aside0.mk ((by rw [hg]; exact (below_size bo) : w.heap.size ≤ gb374)); have GE374 := Aside0.mk ((by rw [hg]; exact (below_size bo) : w.heap.size ≤ gb374)); replace HB := Aside0.mk (below_step bo hb); have NB373_374 := Aside0.mk ((by rw [hg]; exact Nat.ne_of_lt (blk_lt (g := gb373) (o := .cells #[.int .i64 a0_0, .slice A0_1 l0_1.length c0_1] 53 (0, 0)) (bk BK373.out)) : gb373 ≠ gb374)); have NB374_373 := Aside0.mk ((by rw [hg]; exact Nat.ne_of_gt (blk_lt (g := gb373) (o := .cells #[.int .i64 a0_0, .slice A0_1 l0_1.length c0_1] 53 (0, 0)) (bk BK373.out)) : gb374 ≠ gb373)); replace BK373 := Aside0.mk (blk_below (g := gb373) (o := .cells #[.int .i64 a0_0, .slice A0_1 l0_1.length c0_1] 53 (0, 0)) (bk BK373.out) hb); clear hb hbox hg) | ((with_reducible refine gate_dst (N := 4) rfl ?_); refine box_event ?hg (N := 4) ?hd (cs := #[.int .i64 0, .slice none 0 0]) (t := 53) ?hr ?_; (case hd => rfl); (case hg => rfl); (case hr => first | (go_simp; done) | (go_simp; rfl)); intro gb375 hg w44 hbox hb; have BK375 := Aside0.mk (hbox); have GW375 := Aside0.mk ((by rw [hg]; exact (below_size bo) : w.heap.size ≤ gb375)); have GE375 := Aside0.mk ((by rw [hg]; exact (below_size bo) : w.heap.size ≤ gb375)); replace HB := Aside0.mk (below_step bo hb); have NB373_375 := Aside0.mk ((by rw [hg]; exact Nat.ne_of_lt (blk_lt (g := gb373) (o := .cells #[.int .i64 a0_0, .slice A0_1 l0_1.length c0_1] 53 (0, 0)) (bk BK373.out)) : gb373 ≠ gb375)); have NB375_373 := Aside0.mk ((by rw [hg]; exact Nat.ne_of_gt (blk_lt (g := gb373) (o := .cells #[.int .i64 a0_0, .slice A0_1 l0_1.length c0_1] 53 (0, 0)) (bk BK373.out)) : gb375 ≠ gb373)); replace BK373 := Aside0.mk (blk_below (g := gb373) (o := .cells #[.int .i64 a0_0, .slice A0_1 l0_1.length c0_1] 53 (0, 0)) (bk BK373.out) hb); have NB374_375 := Aside0.mk ((by rw [hg]; exact Nat.ne_of_lt (blk_lt (g := gb374) (o := .cells #[.int .i64 a1_0, .int .i64 a1_1, .string a1_2, .string a1_3, .int .i64 a1_4, .bool a1_5] 25 (0, 0)) (bk BK374.out)) : gb374 ≠ gb375)); have NB375_374 := Aside0.mk ((by rw [hg]; exact Nat.ne_of_gt (blk_lt (g := gb374) (o := .cells #[.int .i64 a1_0, .int .i64 a1_1, .string a1_2, .string a1_3, .int .i64 a1_4, .bool a1_5] 25 (0, 0)) (bk BK374.out)) : gb375 ≠ gb374)); replace BK374 := Aside0.mk (blk_below (g := gb374) (o := .cells #[.int .i64 a1_0, .int .i64 a1_1, .string a1_2, .string a1_3, .int .i64 a1_4, .bool a1_5] 25 (0, 0)) (bk BK374.out) hb); clear hb hbox hg; have hnb45 := NB373_374.out; have hnc45 := NB374_373.out; have hnb46 := NB373_375.out; have hnc46 := NB375_373.out; obtain ⟨hcz47_0, hcz47_1⟩ := cl2 BK373.out; obtain ⟨hfz47_0, hfz47_1⟩ := fz2 BK373.out) | ((with_reducible refine gate_callee (f := 46) rfl ?_); refine goesL_ (some 7) rfl rfl Try.func46 (by kernel_rfl) rfl #[.agg #[.int .i64 a0_0, .slice A0_1 l0_1.length c0_1]] rfl aa ?_; (with_reducible refine (seg_Check.calls k a0_0 _ _ l0_1 t376 _ ?side1 ?side2 A3.out).mono ?_); (case side1 => repeat (first | exact (Kd.C_below HR0_1.out HB.out) | (with_reducible refine Kd.C_alloc ?_ _) | (with_reducible refine Kd.C_drewN ?_ _) | (with_reducible refine Kd.C_drew ?_))); (case side2 => exact HC0_1.out); rintro e w48 ⟨rfl, hb⟩; refine ⟨_, rfl, ?_⟩; replace BK373 := Aside0.mk (blk_below (g := gb373) (o := .cells #[.int .i64 a0_0, .slice A0_1 l0_1.length c0_1] 53 (0, 0)) (bk BK373.out) hb); replace BK374 := Aside0.mk (blk_below (g := gb374) (o := .cells #[.int .i64 a1_0, .int .i64 a1_1, .string a1_2, .string a1_3, .int .i64 a1_4, .bool a1_5] 25 (0, 0)) (bk BK374.out) hb); replace BK375 := Aside0.mk (blk_below (g := gb375) (o := .cells #[.int .i64 0, .slice none 0 0] 53 (0, 0)) (bk BK375.out) hb); replace HB := Aside0.mk (below_step bo hb); (try clear hb); (try clear hb2); (try clear hk); (try clear hi); have hnb49 := NB375_374.out; have hnc49 := NB374_375.out; obtain ⟨hcz50_0, hcz50_1⟩ := cl2 BK375.out; obtain ⟨hfz50_0, hfz50_1⟩ := fz2 BK375.out))
  refine bodyPost_ret (results_ct rfl _ _ gb375 53 #[.int .i64 0, .slice none 0 0] (0, 0) _ rfl (by (with_reducible repeat (first | refine blk_drewN ?_ _ | refine blk_drew ?_ | refine blk_alloc ?_ _)); refine blk_put (cs := #[.int .i64 0, .slice none 0 0]) ?_ 1 _ rfl; (with_reducible repeat (first | refine blk_drewN ?_ _ | refine blk_drew ?_ | refine blk_alloc ?_ _)); refine blk_put (cs := #[.int .i64 0, .slice none 0 0]) ?_ 0 _ rfl; (with_reducible repeat (first | refine blk_drewN ?_ _ | refine blk_drew ?_ | refine blk_alloc ?_ _)); exact BK375.out) Try.underlying53 rfl (by kernel_rfl)) rfl ?_
  exact ⟨_, er, by first | exact Kd.R_nil _ _ _ _ _ | exact Kd.N_nil _ _ _ _ _ | exact Kd.V_nil _ _ _ _ _ | exact Kd.Q_nil _ _ _ _ _ | exact Kd.S_nil _ _ _ _ _, bo⟩

end Go.Proofs.Ytmabdfdmccbfnaa.P

-- written by a program of the proving session, out of the translation; Lean checks it
namespace Go.Proofs.Ytmabdfdmccbfnaa.P
open Go.RowKit Go.Proofs.Ytmabdfdmccbfnaa.Sq Go.Proofs.YtmabdfdmccbfnaaW.PrintWords Go.Proofs.YtmabdfdmccbfnaaW.PrintLast Go.Proofs.YtmabdfdmccbfnaaW.PrintMore
attribute [local go_sem] max2_int min2_int max_two min_two max_three min_three max_four min_four   -- for this text's walks alone
set_option linter.unusedVariables false
set_option linter.unusedSimpArgs false

/-! ### fairwaylaw11_wakes: function 37 -/
def fairwaylaw11_wakes.f (k : Nat)  : Option (Bool) := (fairwaylaw10_R.f 3 0 (⟨#[]⟩ : ByteArray) (⟨#[120]⟩ : ByteArray)).bind fun bt387 => ((seg_Add.f k 0 ([] : List (S25)) bt387.1 bt387.2.1 bt387.2.2.1 bt387.2.2.2.1 bt387.2.2.2.2.1 bt387.2.2.2.2.2).bind fun bt393 => ((seg_Find.f k bt393.1 bt393.2.1 2).bind fun bt399 => ((fairwaylaw11_num.f bt393.2.2).bind fun t407 => (if t407 = 0 then ((fairwaylaw11_num.f bt399.2.2.2.2.2.2).bind fun t408 => (if t408 = 0 then (some (bt399.1 == 3)) else (some false))) else (some false)))))
theorem fairwaylaw11_wakes.mono : ∀ k, LeO (fairwaylaw11_wakes.f k ) (fairwaylaw11_wakes.f (k + 1) ) := by
 intro  k
 unfold fairwaylaw11_wakes.f
 repeat' first
  | (with_reducible exact seg_Add.mono _ _ _ _ _ _ _ _ _)
  | (with_reducible exact seg_Find.mono _ _ _ _)
  | (with_reducible exact LeO.refl _)
  | (with_reducible exact LeO.none _)
  | (with_reducible refine LeO.ite ?_ ?_)
  | (with_reducible refine LeO.bind ?_ (fun _ => ?_))
  | exact seg_Add.mono _ _ _ _ _ _ _ _ _
  | exact seg_Find.mono _ _ _ _
  | exact LeO.none _
  | refine LeO.ite ?_ ?_
  | refine LeO.bind ?_ (fun _ => ?_)
set_option maxHeartbeats 8000000 in
set_option maxRecDepth 100000 in
theorem fairwaylaw11_wakes.calls (k : Nat)  (r : Bool) (w : World) (h : fairwaylaw11_wakes.f k  = some r) :
 Calls Try.prog 37 #[] w fun e w' => e = .returned (.bool r) ∧ Below w.heap.size w w' := by
 have hu53 := Try.underlying53
 have hu25 := Try.underlying25
 have HB := Aside0.mk (Below.refl w.heap.size w)
 have H : ((fairwaylaw10_R.f 3 0 (⟨#[]⟩ : ByteArray) (⟨#[120]⟩ : ByteArray)).bind fun bt387 => ((seg_Add.f k 0 ([] : List (S25)) bt387.1 bt387.2.1 bt387.2.2.1 bt387.2.2.2.1 bt387.2.2.2.2.1 bt387.2.2.2.2.2).bind fun bt393 => ((seg_Find.f k bt393.1 bt393.2.1 2).bind fun bt399 => ((fairwaylaw11_num.f bt393.2.2).bind fun t407 => (if t407 = 0 then ((fairwaylaw11_num.f bt399.2.2.2.2.2.2).bind fun t408 => (if t408 = 0 then (some (bt399.1 == 3)) else (some false))) else (some false)))))) = some r := h
 clear h
 replace H := Option.bind_eq_some_iff.mp H
 obtain ⟨⟨t387, t388, t389, t390, t391, t392⟩, A10, H⟩ := H
 replace H : ((seg_Add.f k 0 ([] : List (S25)) t387 t388 t389 t390 t391 t392).bind fun bt393 => ((seg_Find.f k bt393.1 bt393.2.1 2).bind fun bt399 => ((fairwaylaw11_num.f bt393.2.2).bind fun t407 => (if t407 = 0 then ((fairwaylaw11_num.f bt399.2.2.2.2.2.2).bind fun t408 => (if t408 = 0 then (some (bt399.1 == 3)) else (some false))) else (some false))))) = some r := H
 have A1 := Aside0.mk A10
 clear A10
 replace H := Option.bind_eq_some_iff.mp H
 obtain ⟨⟨t393, t394, t397⟩, A20, H⟩ := H
 replace H : ((seg_Find.f k t393 t394 2).bind fun bt399 => ((fairwaylaw11_num.f t397).bind fun t407 => (if t407 = 0 then ((fairwaylaw11_num.f bt399.2.2.2.2.2.2).bind fun t408 => (if t408 = 0 then (some (bt399.1 == 3)) else (some false))) else (some false)))) = some r := H
 have A2 := Aside0.mk A20
 clear A20
 replace H := Option.bind_eq_some_iff.mp H
 obtain ⟨⟨t399, t400, t401, t402, t403, t404, t405⟩, A30, H⟩ := H
 replace H : ((fairwaylaw11_num.f t397).bind fun t407 => (if t407 = 0 then ((fairwaylaw11_num.f t405).bind fun t408 => (if t408 = 0 then (some (t399 == 3)) else (some false))) else (some false))) = some r := H
 have A3 := Aside0.mk A30
 clear A30
 replace H := Option.bind_eq_some_iff.mp H
 obtain ⟨t407, A40, H⟩ := H
 replace H : (if t407 = 0 then ((fairwaylaw11_num.f t405).bind fun t408 => (if t408 = 0 then (some (t399 == 3)) else (some false))) else (some false)) = some r := H
 have A4 := Aside0.mk A40
 clear A40
 by_cases c5 : t407 = 0
 ·rw [if_pos c5] at H
  have c5b0 : (t407 == 0) = true := beq_iff_eq.mpr c5
  have c5b1 : (t407 != 0) = false := bne_eq_false_iff_eq.mpr c5
  clear c5
  replace H := Option.bind_eq_some_iff.mp H
  obtain ⟨t408, A60, H⟩ := H
  replace H : (if t408 = 0 then (some (t399 == 3)) else (some false)) = some r := H
  have A6 := Aside0.mk A60
  clear A60
  by_cases c7 : t408 = 0
  ·rw [if_pos c7] at H
   have c7b0 : (t408 == 0) = true := beq_iff_eq.mpr c7
   have c7b1 : (t408 != 0) = false := bne_eq_false_iff_eq.mpr c7
   clear c7
   obtain rfl := Option.some.inj H
   go_enter Try.func37, Try.ntmps37
   go_wp2_with (first | ((with_reducible refine gate_callee (f := 67) rfl ?_); refine goesL_ (some 7) rfl rfl Try.func67 (by kernel_rfl) rfl #[.int .i64 3, .int .i64 0, .string (⟨#[]⟩ : ByteArray), .string (⟨#[120]⟩ : ByteArray)] rfl aa ?_; (with_reducible refine (fairwaylaw10_R.calls 3 0 (⟨#[]⟩ : ByteArray) (⟨#[120]⟩ : ByteArray) t387 t388 t389 t390 t391 t392 _ A1.out).mono ?_); rintro e w8 ⟨rfl, hb⟩; refine ⟨_, rfl, ?_⟩; replace HB := Aside0.mk (below_step bo hb); (try clear hb); (try clear hb2); (try clear hk); (try clear hi)) | ((with_reducible refine gate_callee (f := 47) rfl ?_); refine goesL_ (some 8) rfl rfl Try.func47 (by kernel_rfl) rfl #[.agg #[.int .i64 0, .slice none 0 0], .agg #[.int .i64 t387, .int .i64 t388, .string t389, .string t390, .int .i64 t391, .bool t392]] rfl aa ?_; (refine (seg_Add.calls k 0 _ _ ([] : List (S25)) t387 t388 t389 t390 t391 t392 t393 t394 t397 _ ?side1 ?side2 A2.out).mono ?_); (case side1 => exact Kd.C_nil _ _); (case side2 => exact Nat.le_refl _); rintro e w9 ⟨v395, rfl, ho0, hb⟩; refine ⟨_, rfl, ?_⟩; have HO396 := Aside0.mk (Kd.R_lower ho0 (below_size bo)); replace HB := Aside0.mk (below_step bo hb); (try clear hb); (try clear hb2); (try clear hk); (try clear hi); (try clear ho0)) | ((with_reducible refine gate_dst (N := 1) rfl ?_); refine box_event ?hg (N := 1) ?hd (cs := #[.int .i64 0, .slice none 0 0]) (t := 53) ?hr ?_; (case hd => rfl); (case hg => rfl); (case hr => first | (go_simp; done) | (go_simp; rfl)); intro gb398 hg w10 hbox hb; replace HO396 := Aside0.mk (Kd.R_below (rk HO396.out) hb); have BK398 := Aside0.mk (hbox); have GW398 := Aside0.mk ((by rw [hg]; exact (below_size bo) : w.heap.size ≤ gb398)); have GE398 := Aside0.mk ((by rw [hg]; exact (below_size bo) : w.heap.size ≤ gb398)); replace HB := Aside0.mk (below_step bo hb); clear hb hbox hg; obtain ⟨hcz11_0, hcz11_1⟩ := cl2 BK398.out; obtain ⟨hfz11_0, hfz11_1⟩ := fz2 BK398.out; obtain ⟨Ao12, co12, eo12⟩ := Kd.R_slice HO396.out; subst eo12) | ((with_reducible refine gate_callee (f := 32) rfl ?_); refine goesL_ (some 13) rfl rfl Try.func32 (by kernel_rfl) rfl #[.agg #[.int .i64 t393, .slice Ao12 t394.length co12], .int .i64 2] rfl aa ?_; (with_reducible refine (seg_Find.calls k t393 _ _ t394 2 t399 t400 t401 t402 t403 t404 t405 _ ?side1 ?side2 A3.out).mono ?_); (case side1 => refine (Kd.R_reads' (e := 25) (base := w.heap.size) (ok := fun k_ => True) (n := t394.length) (c := co12) ?_).2.2; exact (by (with_reducible repeat (first | apply Kd.R_alloc | apply Kd.R_drewN | apply Kd.R_drew)); exact (Kd.R_mono (Kd.R_far (p := ⟨gb398, 1, none⟩) (Kd.R_far (p := ⟨gb398, 0, none⟩) (Kd.R_types HO396.out BK398.out (by decide)) (fun _ hk => hk.2) (.int .i64 t393)) (fun _ hk => hk.2) (.slice Ao12 t394.length co12)) (fun _ h_ => h_.1)))); (case side2 => exact (Kd.R_reads' HO396.out).2.1); rintro e w13 ⟨rfl, hb⟩; refine ⟨_, rfl, ?_⟩; replace HO396 := Aside0.mk (Kd.R_below (by (with_reducible repeat (first | apply Kd.R_alloc | apply Kd.R_drewN | apply Kd.R_drew)); exact (Kd.R_mono (Kd.R_far (p := ⟨gb398, 1, none⟩) (Kd.R_far (p := ⟨gb398, 0, none⟩) (Kd.R_types HO396.out BK398.out (by decide)) (fun _ hk => hk.2) (.int .i64 t393)) (fun _ hk => hk.2) (.slice Ao12 t394.length co12)) (fun _ h_ => h_.1))) hb); replace BK398 := Aside0.mk (blk_below (g := gb398) (o := .cells #[.int .i64 t393, .slice Ao12 t394.length co12] 53 (0, 0)) (by (with_reducible repeat (first | refine blk_drewN ?_ _ | refine blk_drew ?_ | refine blk_alloc ?_ _)); refine blk_put (cs := #[.int .i64 t393, .slice none 0 0]) ?_ 1 _ rfl; (with_reducible repeat (first | refine blk_drewN ?_ _ | refine blk_drew ?_ | refine blk_alloc ?_ _)); refine blk_put (cs := #[.int .i64 0, .slice none 0 0]) ?_ 0 _ rfl; (with_reducible repeat (first | refine blk_drewN ?_ _ | refine blk_drew ?_ | refine blk_alloc ?_ _)); exact BK398.out) hb); replace HB := Aside0.mk (below_step bo hb); (try clear hb); (try clear hb2); (try clear hk); (try clear hi)) | ((with_reducible refine gate_dst (N := 3) rfl ?_); refine box_event ?hg (N := 3) ?hd (cs := #[.int .i64 0, .int .i64 0, .string (⟨#[]⟩ : ByteArray), .string (⟨#[]⟩ : ByteArray), .int .i64 0, .bool false]) (t := 25) ?hr ?_; (case hd => rfl); (case hg => rfl); (case hr => first | (go_simp; done) | (go_simp; rfl)); intro gb406 hg w14 hbox hb; replace HO396 := Aside0.mk (Kd.R_below (Kd.R_elderB (rk HO396.out) gb406 (Nat.le_of_eq hg.symm)) hb); have BK406 := Aside0.mk (hbox); have GW406 := Aside0.mk ((by rw [hg]; exact (below_size bo) : w.heap.size ≤ gb406)); have GE406 := Aside0.mk ((by rw [hg]; exact (below_size bo) : w.heap.size ≤ gb406)); replace HB := Aside0.mk (below_step bo hb); have NB398_406 := Aside0.mk ((by rw [hg]; exact Nat.ne_of_lt (blk_lt (g := gb398) (o := .cells #[.int .i64 t393, .slice Ao12 t394.length co12] 53 (0, 0)) (bk BK398.out)) : gb398 ≠ gb406)); have NB406_398 := Aside0.mk ((by rw [hg]; exact Nat.ne_of_gt (blk_lt (g := gb398) (o := .cells #[.int .i64 t393, .slice Ao12 t394.length co12] 53 (0, 0)) (bk BK398.out)) : gb406 ≠ gb398)); replace BK398 := Aside0.mk (blk_below (g := gb398) (o := .cells #[.int .i64 t393, .slice Ao12 t394.length co12] 53 (0, 0)) (bk BK398.out) hb); clear hb hbox hg; have hnb15 := NB406_398.out; have hnc15 := NB398_406.out; obtain ⟨hcz16_0, hcz16_1, hcz16_2, hcz16_3, hcz16_4, hcz16_5⟩ := cl6 BK406.out; obtain ⟨hfz16_0, hfz16_1, hfz16_2, hfz16_3, hfz16_4, hfz16_5⟩ := fz6 BK406.out) | ((with_reducible refine gate_callee (f := 36) rfl ?_); refine goesL_ (some 17) rfl rfl Try.func36 (by kernel_rfl) rfl #[.int .i64 t397] rfl aa ?_; (with_reducible refine (fairwaylaw11_num.calls t397 t407 _ A4.out).mono ?_); rintro e w' ⟨rfl, ⟨nd, rfl⟩⟩; refine ⟨_, rfl, ?_⟩) | (go_at_call 36; (with_reducible refine (fairwaylaw11_num.calls t405 t408 _ A6.out).mono ?_); rintro e w' ⟨rfl, ⟨nd, rfl⟩⟩))
   go_ret
   exact ⟨er, bo⟩
  ·rw [if_neg c7] at H
   have c7b0 : (t408 == 0) = false := beq_eq_false_iff_ne.mpr c7
   have c7b1 : (t408 != 0) = true := bne_iff_ne.mpr c7
   obtain rfl := Option.some.inj H
   go_enter Try.func37, Try.ntmps37
   go_wp2_with (first | ((with_reducible refine gate_callee (f := 67) rfl ?_); refine goesL_ (some 7) rfl rfl Try.func67 (by kernel_rfl) rfl #[.int .i64 3, .int .i64 0, .string (⟨#[]⟩ : ByteArray), .string (⟨#[120]⟩ : ByteArray)] rfl aa ?_; (with_reducible refine (fairwaylaw10_R.calls 3 0 (⟨#[]⟩ : ByteArray) (⟨#[120]⟩ : ByteArray) t387 t388 t389 t390 t391 t392 _ A1.out).mono ?_); rintro e w17 ⟨rfl, hb⟩; refine ⟨_, rfl, ?_⟩; replace HB := Aside0.mk (below_step bo hb); (try clear hb); (try clear hb2); (try clear hk); (try clear hi)) | ((with_reducible refine gate_callee (f := 47) rfl ?_); refine goesL_ (some 8) rfl rfl Try.func47 (by kernel_rfl) rfl #[.agg #[.int .i64 0, .slice none 0 0], .agg #[.int .i64 t387, .int .i64 t388, .string t389, .string t390, .int .i64 t391, .bool t392]] rfl aa ?_; (refine (seg_Add.calls k 0 _ _ ([] : List (S25)) t387 t388 t389 t390 t391 t392 t393 t394 t397 _ ?side1 ?side2 A2.out).mono ?_); (case side1 => exact Kd.C_nil _ _); (case side2 => exact Nat.le_refl _); rintro e w18 ⟨v395, rfl, ho0, hb⟩; refine ⟨_, rfl, ?_⟩; have HO396 := Aside0.mk (Kd.R_lower ho0 (below_size bo)); replace HB := Aside0.mk (below_step bo hb); (try clear hb); (try clear hb2); (try clear hk); (try clear hi); (try clear ho0)) | ((with_reducible refine gate_dst (N := 1) rfl ?_); refine box_event ?hg (N := 1) ?hd (cs := #[.int .i64 0, .slice none 0 0]) (t := 53) ?hr ?_; (case hd => rfl); (case hg => rfl); (case hr => first | (go_simp; done) | (go_simp; rfl)); intro gb398 hg w19 hbox hb; replace HO396 := Aside0.mk (Kd.R_below (rk HO396.out) hb); have BK398 := Aside0.mk (hbox); have GW398 := Aside0.mk ((by rw [hg]; exact (below_size bo) : w.heap.size ≤ gb398)); have GE398 := Aside0.mk ((by rw [hg]; exact (below_size bo) : w.heap.size ≤ gb398)); replace HB := Aside0.mk (below_step bo hb); clear hb hbox hg; obtain ⟨hcz20_0, hcz20_1⟩ := cl2 BK398.out; obtain ⟨hfz20_0, hfz20_1⟩ := fz2 BK398.out; obtain ⟨Ao21, co21, eo21⟩ := Kd.R_slice HO396.out; subst eo21) | ((with_reducible refine gate_callee (f := 32) rfl ?_); refine goesL_ (some 13) rfl rfl Try.func32 (by kernel_rfl) rfl #[.agg #[.int .i64 t393, .slice Ao21 t394.length co21], .int .i64 2] rfl aa ?_; (with_reducible refine (seg_Find.calls k t393 _ _ t394 2 t399 t400 t401 t402 t403 t404 t405 _ ?side1 ?side2 A3.out).mono ?_); (case side1 => refine (Kd.R_reads' (e := 25) (base := w.heap.size) (ok := fun k_ => True) (n := t394.length) (c := co21) ?_).2.2; exact (by (with_reducible repeat (first | apply Kd.R_alloc | apply Kd.R_drewN | apply Kd.R_drew)); exact (Kd.R_mono (Kd.R_far (p := ⟨gb398, 1, none⟩) (Kd.R_far (p := ⟨gb398, 0, none⟩) (Kd.R_types HO396.out BK398.out (by decide)) (fun _ hk => hk.2) (.int .i64 t393)) (fun _ hk => hk.2) (.slice Ao21 t394.length co21)) (fun _ h_ => h_.1)))); (case side2 => exact (Kd.R_reads' HO396.out).2.1); rintro e w22 ⟨rfl, hb⟩; refine ⟨_, rfl, ?_⟩; replace HO396 := Aside0.mk (Kd.R_below (by (with_reducible repeat (first | apply Kd.R_alloc | apply Kd.R_drewN | apply Kd.R_drew)); exact (Kd.R_mono (Kd.R_far (p := ⟨gb398, 1, none⟩) (Kd.R_far (p := ⟨gb398, 0, none⟩) (Kd.R_types HO396.out BK398.out (by decide)) (fun _ hk => hk.2) (.int .i64 t393)) (fun _ hk => hk.2) (.slice Ao21 t394.length co21)) (fun _ h_ => h_.1))) hb); replace BK398 := Aside0.mk (blk_below (g := gb398) (o := .cells #[.int .i64 t393, .slice Ao21 t394.length co21] 53 (0, 0)) (by (with_reducible repeat (first | refine blk_drewN ?_ _ | refine blk_drew ?_ | refine blk_alloc ?_ _)); refine blk_put (cs := #[.int .i64 t393, .slice none 0 0]) ?_ 1 _ rfl; (with_reducible repeat (first | refine blk_drewN ?_ _ | refine blk_drew ?_ | refine blk_alloc ?_ _)); refine blk_put (cs := #[.int .i64 0, .slice none 0 0]) ?_ 0 _ rfl; (with_reducible repeat (first | refine blk_drewN ?_ _ | refine blk_drew ?_ | refine blk_alloc ?_ _)); exact BK398.out) hb); replace HB := Aside0.mk (below_step bo hb); (try clear hb); (try clear hb2); (try clear hk); (try clear hi)) | ((with_reducible refine gate_dst (N := 3) rfl ?_); refine box_event ?hg (N := 3) ?hd (cs := #[.int .i64 0, .int .i64 0, .string (⟨#[]⟩ : ByteArray), .string (⟨#[]⟩ : ByteArray), .int .i64 0, .bool false]) (t := 25) ?hr ?_; (case hd => rfl); (case hg => rfl); (case hr => first | (go_simp; done) | (go_simp; rfl)); intro gb406 hg w23 hbox hb; replace HO396 := Aside0.mk (Kd.R_below (Kd.R_elderB (rk HO396.out) gb406 (Nat.le_of_eq hg.symm)) hb); have BK406 := Aside0.mk (hbox); have GW406 := Aside0.mk ((by rw [hg]; exact (below_size bo) : w.heap.size ≤ gb406)); have GE406 := Aside0.mk ((by rw [hg]; exact (below_size bo) : w.heap.size ≤ gb406)); replace HB := Aside0.mk (below_step bo hb); have NB398_406 := Aside0.mk ((by rw [hg]; exact Nat.ne_of_lt (blk_lt (g := gb398) (o := .cells #[.int .i64 t393, .slice Ao21 t394.length co21] 53 (0, 0)) (bk BK398.out)) : gb398 ≠ gb406)); have NB406_398 := Aside0.mk ((by rw [hg]; exact Nat.ne_of_gt (blk_lt (g := gb398) (o := .cells #[.int .i64 t393, .slice Ao21 t394.length co21] 53 (0, 0)) (bk BK398.out)) : gb406 ≠ gb398)); replace BK398 := Aside0.mk (blk_below (g := gb398) (o := .cells #[.int .i64 t393, .slice Ao21 t394.length co21] 53 (0, 0)) (bk BK398.out) hb); clear hb hbox hg; have hnb24 := NB406_398.out; have hnc24 := NB398_406.out; obtain ⟨hcz25_0, hcz25_1, hcz25_2, hcz25_3, hcz25_4, hcz25_5⟩ := cl6 BK406.out; obtain ⟨hfz25_0, hfz25_1, hfz25_2, hfz25_3, hfz25_4, hfz25_5⟩ := fz6 BK406.out) | ((with_reducible refine gate_callee (f := 36) rfl ?_); refine goesL_ (some 17) rfl rfl Try.func36 (by kernel_rfl) rfl #[.int .i64 t397] rfl aa ?_; (with_reducible refine (fairwaylaw11_num.calls t397 t407 _ A4.out).mono ?_); rintro e w' ⟨rfl, ⟨nd, rfl⟩⟩; refine ⟨_, rfl, ?_⟩) | (go_at_call 36; (with_reducible refine (fairwaylaw11_num.calls t405 t408 _ A6.out).mono ?_); rintro e w' ⟨rfl, ⟨nd, rfl⟩⟩))
   go_ret
   exact ⟨er, bo⟩
 ·rw [if_neg c5] at H
  have c5b0 : (t407 == 0) = false := beq_eq_false_iff_ne.mpr c5
  have c5b1 : (t407 != 0) = true := bne_iff_ne.mpr c5
  obtain rfl := Option.some.inj H
  go_enter Try.func37, Try.ntmps37
  go_wp2_with (first | ((with_reducible refine gate_callee (f := 67) rfl ?_); refine goesL_ (some 7) rfl rfl Try.func67 (by kernel_rfl) rfl #[.int .i64 3, .int .i64 0, .string (⟨#[]⟩ : ByteArray), .string (⟨#[120]⟩ : ByteArray)] rfl aa ?_; (with_reducible refine (fairwaylaw10_R.calls 3 0 (⟨#[]⟩ : ByteArray) (⟨#[120]⟩ : ByteArray) t387 t388 t389 t390 t391 t392 _ A1.out).mono ?_); rintro e w26 ⟨rfl, hb⟩; refine ⟨_, rfl, ?_⟩; replace HB := Aside0.mk (below_step bo hb); (try clear hb); (try clear hb2); (try clear hk); (try clear hi)) | ((with_reducible refine gate_callee (f := 47) rfl ?_); refine goesL_ (some 8) rfl rfl Try.func47 (by kernel_rfl) rfl #[.agg #[.int .i64 0, .slice none 0 0], .agg #[.int .i64 t387, .int .i64 t388, .string t389, .string t390, .int .i64 t391, .bool t392]] rfl aa ?_; (refine (seg_Add.calls k 0 _ _ ([] : List (S25)) t387 t388 t389 t390 t391 t392 t393 t394 t397 _ ?side1 ?side2 A2.out).mono ?_); (case side1 => exact Kd.C_nil _ _); (case side2 => exact Nat.le_refl _); rintro e w27 ⟨v395, rfl, ho0, hb⟩; refine ⟨_, rfl, ?_⟩; have HO396 := Aside0.mk (Kd.R_lower ho0 (below_size bo)); replace HB := Aside0.mk (below_step bo hb); (try clear hb); (try clear hb2); (try clear hk); (try clear hi); (try clear ho0)) | ((with_reducible refine gate_dst (N := 1) rfl ?_); refine box_event ?hg (N := 1) ?hd (cs := #[.int .i64 0, .slice none 0 0]) (t := 53) ?hr ?_; (case hd => rfl); (case hg => rfl); (case hr => first | (go_simp; done) | (go_simp; rfl)); intro gb398 hg w28 hbox hb; replace HO396 := Aside0.mk (Kd.R_below (rk HO396.out) hb); have BK398 := Aside0.mk (hbox); have GW398 := Aside0.mk ((by rw [hg]; exact (below_size bo) : w.heap.size ≤ gb398)); have GE398 := Aside0.mk ((by rw [hg]; exact (below_size bo) : w.heap.size ≤ gb398)); replace HB := Aside0.mk (below_step bo hb); clear hb hbox hg; obtain ⟨hcz29_0, hcz29_1⟩ := cl2 BK398.out; obtain ⟨hfz29_0, hfz29_1⟩ := fz2 BK398.out; obtain ⟨Ao30, co30, eo30⟩ := Kd.R_slice HO396.out; subst eo30) | ((with_reducible refine gate_callee (f := 32) rfl ?_); refine goesL_ (some 13) rfl rfl Try.func32 (by kernel_rfl) rfl #[.agg #[.int .i64 t393, .slice Ao30 t394.length co30], .int .i64 2] rfl aa ?_; (with_reducible refine (seg_Find.calls k t393 _ _ t394 2 t399 t400 t401 t402 t403 t404 t405 _ ?side1 ?side2 A3.out).mono ?_); (case side1 => refine (Kd.R_reads' (e := 25) (base := w.heap.size) (ok := fun k_ => True) (n := t394.length) (c := co30) ?_).2.2; exact (by (with_reducible repeat (first | apply Kd.R_alloc | apply Kd.R_drewN | apply Kd.R_drew)); exact (Kd.R_mono (Kd.R_far (p := ⟨gb398, 1, none⟩) (Kd.R_far (p := ⟨gb398, 0, none⟩) (Kd.R_types HO396.out BK398.out (by decide)) (fun _ hk => hk.2) (.int .i64 t393)) (fun _ hk => hk.2) (.slice Ao30 t394.length co30)) (fun _ h_ => h_.1)))); (case side2 => exact (Kd.R_reads' HO396.out).2.1); rintro e w31 ⟨rfl, hb⟩; refine ⟨_, rfl, ?_⟩; replace HO396 := Aside0.mk (Kd.R_below (by (with_reducible repeat (first | apply Kd.R_alloc | apply Kd.R_drewN | apply Kd.R_drew)); exact (Kd.R_mono (Kd.R_far (p := ⟨gb398, 1, none⟩) (Kd.R_far (p := ⟨gb398, 0, none⟩) (Kd.R_types HO396.out BK398.out (by decide)) (fun _ hk => hk.2) (.int .i64 t393)) (fun _ hk => hk.2) (.slice Ao30 t394.length co30)) (fun _ h_ => h_.1))) hb); replace BK398 := Aside0.mk (blk_below (g := gb398) (o := .cells #[.int .i64 t393, .slice Ao30 t394.length co30] 53 (0, 0)) (by (with_reducible repeat (first | refine blk_drewN ?_ _ | refine blk_drew ?_ | refine blk_alloc ?_ _)); refine blk_put (cs := #[.int .i64 t393, .slice none 0 0]) ?_ 1 _ rfl; (with_reducible repeat (first | refine blk_drewN ?_ _ | refine blk_drew ?_ | refine blk_alloc ?_ _)); refine blk_put (cs := #[.int .i64 0, .slice none 0 0]) ?_ 0 _ rfl; (with_reducible repeat (first | refine blk_drewN ?_ _ | refine blk_drew ?_ | refine blk_alloc ?_ _)); exact BK398.out) hb); replace HB := Aside0.mk (below_step bo hb); (try clear hb); (try clear hb2); (try clear hk); (try clear hi)) | ((with_reducible refine gate_dst (N := 3) rfl ?_); refine box_event ?hg (N := 3) ?hd (cs := #[.int .i64 0, .int .i64 0, .string (⟨#[]⟩ : ByteArray), .string (⟨#[]⟩ : ByteArray), .int .i64 0, .bool false]) (t := 25) ?hr ?_; (case hd => rfl); (case hg => rfl); (case hr => first | (go_simp; done) | (go_simp; rfl)); intro gb406 hg w32 hbox hb; replace HO396 := Aside0.mk (Kd.R_below (Kd.R_elderB (rk HO396.out) gb406 (Nat.le_of_eq hg.symm)) hb); have BK406 := Aside0.mk (hbox); have GW406 := Aside0.mk ((by rw [hg]; exact (below_size bo) : w.heap.size ≤ gb406)); have GE406 := Aside0.mk ((by rw [hg]; exact (below_size bo) : w.heap.size ≤ gb406)); replace HB := Aside0.mk (below_step bo hb); have NB398_406 := Aside0.mk ((by rw [hg]; exact Nat.ne_of_lt (blk_lt (g := gb398) (o := .cells #[.int .i64 t393, .slice Ao30 t394.length co30] 53 (0, 0)) (bk BK398.out)) : gb398 ≠ gb406)); have NB406_398 := Aside0.mk ((by rw [hg]; exact Nat.ne_of_gt (blk_lt (g := gb398) (o := .cells #[.int .i64 t393, .slice Ao30 t394.length co30] 53 (0, 0)) (bk BK398.out)) : gb406 ≠ gb398)); replace BK398 := Aside0.mk (blk_below (g := gb398) (o := .cells #[.int .i64 t393, .slice Ao30 t394.length co30] 53 (0, 0)) (bk BK398.out) hb); clear hb hbox hg; have hnb33 := NB406_398.out; have hnc33 := NB398_406.out; obtain ⟨hcz34_0, hcz34_1, hcz34_2, hcz34_3, hcz34_4, hcz34_5⟩ := cl6 BK406.out; obtain ⟨hfz34_0, hfz34_1, hfz34_2, hfz34_3, hfz34_4, hfz34_5⟩ := fz6 BK406.out) | ((with_reducible refine gate_callee (f := 36) rfl ?_); refine goesL_ (some 17) rfl rfl Try.func36 (by kernel_rfl) rfl #[.int .i64 t397] rfl aa ?_; (with_reducible refine (fairwaylaw11_num.calls t397 t407 _ A4.out).mono ?_); rintro e w' ⟨rfl, ⟨nd, rfl⟩⟩; refine ⟨_, rfl, ?_⟩))
  go_ret
  exact ⟨er, bo⟩

end Go.Proofs.Ytmabdfdmccbfnaa.P

