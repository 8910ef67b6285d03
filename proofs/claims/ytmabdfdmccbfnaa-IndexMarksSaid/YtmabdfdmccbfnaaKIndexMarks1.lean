/- The law IndexMarks: printed functions, their contracts, the plain laws and the row, part 1. -/
import Derived.Test.YtmabdfdmccbfnaaKIndexMarks0
-- written by a program of the proving session, out of the translation; Lean checks it
namespace Go.Proofs.Ytmabdfdmccbfnaa.P
open Go.RowKit Go.Proofs.Ytmabdfdmccbfnaa.Sq Go.Proofs.YtmabdfdmccbfnaaW.PrintWords Go.Proofs.YtmabdfdmccbfnaaW.PrintLast Go.Proofs.YtmabdfdmccbfnaaW.PrintMore
attribute [local go_sem] max2_int min2_int max_two min_two max_three min_three max_four min_four   -- for this text's walks alone
set_option linter.unusedVariables false
set_option linter.unusedSimpArgs false

/-! ### seg_Check: function 46 -/
mutual
def seg_Check.j0 : Nat → Bool → Int → List (S25) → Option (Int)
 | 0, _, _, _ => none
 | k + 1, x12, x364000, x364001 => if x12 = true then (some 1) else (seg_Check.l0 k x364001 (x364001.length : Int) 0 x364000 x364001)
def seg_Check.l0 : Nat → List (S25) → Int → Int → Int → List (S25) → Option (Int)
 | 0, _, _, _, _, _ => none
 | k + 1, x14, x15, x16, x364000, x364001 => if x16 < x15 then (if 0 ≤ x16 then (if x16 < (x14.length : Int) then (if x16 ≤ (x364001.length : Int) then ((seg_behind.f k x364000 (x364001.take (x16 : Int).toNat) ((rd_T25 x14 x16).f0) ((rd_T25 x14 x16).f1) ((rd_T25 x14 x16).f2) ((rd_T25 x14 x16).f3) ((rd_T25 x14 x16).f4) ((rd_T25 x14 x16).f5)).bind fun t370 => (if t370 = true then (seg_Check.l0 k x14 x15 (wrap64 (x16 + 1)) x364000 x364001) else (some 1))) else (none)) else (none)) else (none)) else (some 0)
end
def seg_Check.f (k : Nat) (a0_0 : Int) (l0_1 : List (S25)) : Option (Int) := if a0_0 < 0 then (seg_Check.j0 k true a0_0 l0_1) else (seg_Check.j0 k (decide (a0_0 > 1099511627776)) a0_0 l0_1)
theorem seg_Check.mono_l : ∀ k, (∀ y0 y1 y2, LeO (seg_Check.j0 k y0 y1 y2) (seg_Check.j0 (k + 1) y0 y1 y2)) ∧ (∀ y0 y1 y2 y3 y4, LeO (seg_Check.l0 k y0 y1 y2 y3 y4) (seg_Check.l0 (k + 1) y0 y1 y2 y3 y4))
 | 0 => ⟨fun _ _ _ r h => by simp [seg_Check.j0] at h, fun _ _ _ _ _ r h => by simp [seg_Check.l0] at h⟩
 | k + 1 => by
  obtain ⟨ih0, ih1⟩ := seg_Check.mono_l k
  refine ⟨?_, ?_⟩
  ·intro y0 y1 y2
   unfold seg_Check.j0
   repeat' first
   | (with_reducible exact ih0 _ _ _)
   | (with_reducible exact ih1 _ _ _ _ _)
   | (with_reducible exact seg_behind.mono _ _ _ _ _ _ _ _ _)
   | (with_reducible exact LeO.refl _)
   | (with_reducible exact LeO.none _)
   | (with_reducible refine LeO.ite ?_ ?_)
   | (with_reducible refine LeO.bind ?_ (fun _ => ?_))
   | exact ih0 _ _ _
   | exact ih1 _ _ _ _ _
   | exact seg_behind.mono _ _ _ _ _ _ _ _ _
   | exact LeO.none _
   | refine LeO.ite ?_ ?_
   | refine LeO.bind ?_ (fun _ => ?_)
  ·intro y0 y1 y2 y3 y4
   unfold seg_Check.l0
   repeat' first
   | (with_reducible exact ih0 _ _ _)
   | (with_reducible exact ih1 _ _ _ _ _)
   | (with_reducible exact seg_behind.mono _ _ _ _ _ _ _ _ _)
   | (with_reducible exact LeO.refl _)
   | (with_reducible exact LeO.none _)
   | (with_reducible refine LeO.ite ?_ ?_)
   | (with_reducible refine LeO.bind ?_ (fun _ => ?_))
   | exact ih0 _ _ _
   | exact ih1 _ _ _ _ _
   | exact seg_behind.mono _ _ _ _ _ _ _ _ _
   | exact LeO.none _
   | refine LeO.ite ?_ ?_
   | refine LeO.bind ?_ (fun _ => ?_)
theorem seg_Check.mono : ∀ a0 a1 k, LeO (seg_Check.f k a0 a1) (seg_Check.f (k + 1) a0 a1) := by
 intro a0 a1 k
 obtain ⟨ih0, ih1⟩ := seg_Check.mono_l k
 unfold seg_Check.f
 repeat' first
  | (with_reducible exact ih0 _ _ _)
  | (with_reducible exact ih1 _ _ _ _ _)
  | (with_reducible exact seg_behind.mono _ _ _ _ _ _ _ _ _)
  | (with_reducible exact LeO.refl _)
  | (with_reducible exact LeO.none _)
  | (with_reducible refine LeO.ite ?_ ?_)
  | (with_reducible refine LeO.bind ?_ (fun _ => ?_))
  | exact ih0 _ _ _
  | exact ih1 _ _ _ _ _
  | exact seg_behind.mono _ _ _ _ _ _ _ _ _
  | exact LeO.none _
  | refine LeO.ite ?_ ?_
  | refine LeO.bind ?_ (fun _ => ?_)
def seg_Check.T6 : Bool × List (List Nat × List Nat) := (true, [([], []), ([0], [0]), ([], []), ([2], [2]), ([], []), ([3, 4], [3, 4]), ([], []), ([1, 5, 6], [1, 5, 6]), ([7], [7])])
def seg_Check.B6 : List Nat := [0, 1, 0, 4, 0, 28, 0, 127, 255]
theorem seg_Check.tab6 : rtab .any (opsOf Try.f46 6) = seg_Check.T6 := by kernel_rfl
theorem seg_Check.bits6 : waitsOk seg_Check.T6.2 seg_Check.B6 = true := by kernel_rfl
set_option maxHeartbeats 8000000 in
set_option maxRecDepth 100000 in
theorem seg_Check.calls (k : Nat) (a0_0 : Int) (A0_1 : Option Addr) (c0_1 : Nat) (l0_1 : List (S25)) (r : Int) (w : World) (hr0_1 : Kd.C k25 w A0_1 l0_1.length l0_1) (hc0_1 : l0_1.length ≤ c0_1) (h : seg_Check.f k a0_0 l0_1 = some r) :
 Calls Try.prog 46 #[.agg #[.int .i64 a0_0, .slice A0_1 l0_1.length c0_1]] w fun e w' => e = .returned (.int .i64 r) ∧ Below w.heap.size w w' := by
 have hu53 := Try.underlying53
 have hu25 := Try.underlying25
 have HR0_1 := Aside0.mk hr0_1
 have HC0_1 := Aside0.mk hc0_1
 clear hr0_1 hc0_1
 have HB := Aside0.mk (Below.refl w.heap.size w)
 have H : (if a0_0 < 0 then (seg_Check.j0 k true a0_0 l0_1) else (seg_Check.j0 k (decide (a0_0 > 1099511627776)) a0_0 l0_1)) = some r := h
 clear h
 have HC2 := Aside0.mk H
 clear H
 go_enter Try.func46, Try.ntmps46
 go_upto_region 1 with (first | ((with_reducible refine gate_dst (N := 1) rfl ?_); refine box_event ?hg (N := 1) ?hd (cs := #[.int .i64 a0_0, .slice A0_1 l0_1.length c0_1]) (t := 53) ?hr ?_; (case hd => rfl); (case hg => rfl); (case hr => first | (go_simp; done) | (go_simp; rfl)); intro gb363 hg w3 hbox hb; have n0_ := Aside0.mk (below_step bo hb); have n1_ := Aside0.mk (hbox); have n2_ := Aside0.mk ((by rw [hg]; exact (below_size bo) : w.heap.size ≤ gb363)); have n3_ := Aside0.mk ((by rw [hg]; exact (below_size bo) : w.heap.size ≤ gb363)); clear HB; have HB := n0_; have BK363 := n1_; have GW363 := n2_; have GE363 := n3_; clear n0_ n1_ n2_ n3_; clear hb hbox hg))
 (try simp only [Act.put, List.setIfInBounds_toArray, List.set_cons_zero, List.set_cons_succ])
 go_cut [12] (fun v12 wc => ∃ (kq : Nat) (x12_1 : Bool), v12 = .bool x12_1 ∧ Aside0 (seg_Check.j0 kq x12_1 a0_0 l0_1 = some r) ∧ Aside0 (kq ≤ k) ∧ Aside0 (wc.heap[gb363]? = some (.cells #[.int .i64 a0_0, (.slice A0_1 l0_1.length c0_1)] 53 (0, 0))) ∧ Aside0 (Below w.heap.size w wc))
 case first =>
  have H := HC2.out
  clear HC2
  by_cases c4 : a0_0 < 0
  ·rw [if_pos c4] at H
   have c4b0 : decide (a0_0 < 0) = true := decide_eq_true c4
   clear c4
   (first | rw [c4b0] | (simp only [i64_w, i32_w]; rw [c4b0]) | skip)
   have H' := Aside0.mk H
   clear H
   have hcz5_0 : w3.cell? ⟨gb363, 0, none⟩ = some (.int .i64 a0_0) := (blk_cell BK363.out 0).trans rfl
   have hcz5_1 : w3.cell? ⟨gb363, 1, none⟩ = some (.slice A0_1 l0_1.length c0_1) := (blk_cell BK363.out 1).trans rfl
   have hfz5_0 := blk_frozen BK363.out 0
   have hfz5_1 := blk_frozen BK363.out 1
   go_wp2
   go_meet
   case rel => exact ⟨_, (true), ap, H', ⟨by first | omega | exact Nat.le_refl _⟩, ⟨by (with_reducible repeat (first | refine blk_drewN ?_ _ | refine blk_drew ?_ | refine blk_alloc ?_ _)); exact BK363.out⟩, ⟨bo⟩⟩
  ·rw [if_neg c4] at H
   have c4b0 : decide (a0_0 < 0) = false := decide_eq_false c4
   clear c4
   (first | rw [c4b0] | (simp only [i64_w, i32_w]; rw [c4b0]) | skip)
   have H' := Aside0.mk H
   clear H
   have hcz6_0 : w3.cell? ⟨gb363, 0, none⟩ = some (.int .i64 a0_0) := (blk_cell BK363.out 0).trans rfl
   have hcz6_1 : w3.cell? ⟨gb363, 1, none⟩ = some (.slice A0_1 l0_1.length c0_1) := (blk_cell BK363.out 1).trans rfl
   have hfz6_0 := blk_frozen BK363.out 0
   have hfz6_1 := blk_frozen BK363.out 1
   go_wp2
   go_meet
   case rel => exact ⟨_, (decide (a0_0 > 1099511627776)), ap, H', ⟨by first | omega | exact Nat.le_refl _⟩, ⟨by (with_reducible repeat (first | refine blk_drewN ?_ _ | refine blk_drew ?_ | refine blk_alloc ?_ _)); exact BK363.out⟩, ⟨bo⟩⟩
 case rest =>
  clear HC2
  try clear p2
  try clear c4
  try clear c4b0
  try clear hcz5_0
  try clear hcz5_1
  try clear hcz6_0
  try clear hcz6_1
  try clear hfz5_0
  try clear hfz5_1
  try clear hfz6_0
  try clear hfz6_1
  obtain ⟨kq, x12_1, rfl, HA, HJ1, BK363, HB⟩ := hcut
  cases kq with
  | zero => exact absurd HA.out (by simp [seg_Check.j0])
  | succ kj1 =>
   have H := HA.out
   clear HA
   simp only [seg_Check.j0] at H
   by_cases c7 : x12_1 = true
   ·subst c7
    have H1 : (some 1) = some r := by rw [if_pos rfl] at H; exact H
    clear H
    have H := H1
    clear H1
    obtain rfl := Option.some.inj H
    go_wp2
    go_ret
    exact ⟨er, bo⟩
   ·replace c7 := Bool.eq_false_iff.mpr c7
    subst c7
    have H1 : (seg_Check.l0 kj1 l0_1 (l0_1.length : Int) 0 a0_0 l0_1) = some r := by rw [if_neg (show ¬ (false = true) by decide)] at H; exact H
    clear H
    have H := H1
    clear H1
    have H' := Aside0.mk H
    clear H
    have hcz8_0 : wc.cell? ⟨gb363, 0, none⟩ = some (.int .i64 a0_0) := (blk_cell BK363.out 0).trans rfl
    have hcz8_1 : wc.cell? ⟨gb363, 1, none⟩ = some (.slice A0_1 l0_1.length c0_1) := (blk_cell BK363.out 1).trans rfl
    have hfz8_0 := blk_frozen BK363.out 0
    have hfz8_1 := blk_frozen BK363.out 1
    go_wp2
    go_loopg [16] kj1 (fun kq v16 w' => ∃ (x16_2 : Int), v16 = .int .i64 x16_2 ∧ Aside0 (seg_Check.l0 kq l0_1 (l0_1.length : Int) x16_2 a0_0 l0_1 = some r) ∧ Aside0 (kq ≤ kj1) ∧ Aside0 (w'.heap[gb363]? = some (.cells #[.int .i64 a0_0, (.slice A0_1 l0_1.length c0_1)] 53 (0, 0))) ∧ Aside0 (Below w.heap.size w w'))
    case atStart => exact ⟨(0), ap, H', ⟨Nat.le_refl _⟩, ⟨by (with_reducible repeat (first | refine blk_drewN ?_ _ | refine blk_drew ?_ | refine blk_alloc ?_ _)); exact BK363.out⟩, ⟨bo⟩⟩
    case round =>
     clear H'
     try clear p2
     try clear c4
     try clear c4b0
     try clear c7
     try clear hcz5_0
     try clear hcz5_1
     try clear hcz6_0
     try clear hcz6_1
     try clear hcz8_0
     try clear hcz8_1
     try clear hfz5_0
     try clear hfz5_1
     try clear hfz6_0
     try clear hfz6_1
     try clear hfz8_0
     try clear hfz8_1
     try clear p2
     obtain ⟨x16_2, rfl, HA, HK2, BK363, HB⟩ := hrel
     cases gk with
     | zero => exact absurd HA.out (by simp [seg_Check.l0])
     | succ k2 =>
      have H := HA.out
      clear HA
      simp only [seg_Check.l0] at H
      by_cases c9 : x16_2 < (l0_1.length : Int)
      ·rw [if_pos c9] at H
       have c9b0 : decide (x16_2 < (l0_1.length : Int)) = true := decide_eq_true c9
       clear c9
       by_cases c10 : 0 ≤ x16_2
       ·rw [if_pos c10] at H
        have c10b0 : decide (0 ≤ x16_2) = true := decide_eq_true c10
        clear c10
        by_cases c11 : x16_2 < (l0_1.length : Int)
        ·rw [if_pos c11] at H
         have c11b0 : decide (x16_2 < (l0_1.length : Int)) = true := decide_eq_true c11
         clear c11
         have c12b0 := eq_true (od : 0 ≤ x16_2)
         by_cases c13 : x16_2 ≤ (l0_1.length : Int)
         ·rw [if_pos c13] at H
          have c13b0 := eq_true c13
          have c13b1 : decide (x16_2 ≤ (l0_1.length : Int)) = true := decide_eq_true c13
          clear c13
          obtain ⟨y366, hy366⟩ : ∃ y_ : List (S25), y_ = (l0_1.take (x16_2 : Int).toNat) := ⟨_, rfl⟩
          replace H : ((seg_behind.f k2 a0_0 y366 ((rd_T25 l0_1 x16_2).f0) ((rd_T25 l0_1 x16_2).f1) ((rd_T25 l0_1 x16_2).f2) ((rd_T25 l0_1 x16_2).f3) ((rd_T25 l0_1 x16_2).f4) ((rd_T25 l0_1 x16_2).f5)).bind fun t370 => (if t370 = true then (seg_Check.l0 k2 l0_1 (l0_1.length : Int) (wrap64 (x16_2 + 1)) a0_0 l0_1) else (some 1))) = some r := by first | (rw [hy366]; with_reducible exact H) | (have H2_ := (Option.bind_some _ _).symm.trans H; rw [hy366]; with_reducible exact H2_) | (have H2_ := (Option.bind_some _ _).symm.trans H; with_reducible exact H2_) | with_reducible exact H | (rw [hy366]; exact H) | exact H
          have Ny366 := Aside0.mk hy366
          clear hy366
          replace H := Option.bind_eq_some_iff.mp H
          obtain ⟨t370, A140, H⟩ := H
          replace H : (if t370 = true then (seg_Check.l0 k2 l0_1 (l0_1.length : Int) (wrap64 (x16_2 + 1)) a0_0 l0_1) else (some 1)) = some r := H
          have A14 := Aside0.mk A140
          clear A140
          by_cases c15 : t370 = true
          ·subst c15
           have H1 : (seg_Check.l0 k2 l0_1 (l0_1.length : Int) (wrap64 (x16_2 + 1)) a0_0 l0_1) = some r := by rw [if_pos rfl] at H; exact H
           clear H
           have H := H1
           clear H1
           have H' := Aside0.mk H
           clear H
           have p364 : 0 ≤ (x16_2 : Int) := od
           have q364 : x16_2 < (l0_1.length : Int) := od
           obtain ⟨ad364, e364, hx364_0, hx364_1, hx364_2, hx364_3, hx364_4, hx364_5⟩ := at_T25 HR0_1.out x16_2 p364 q364
           cases e364
           replace hx364_0 := cx HB.out hx364_0
           replace hx364_1 := cx HB.out hx364_1
           replace hx364_2 := cx HB.out hx364_2
           replace hx364_3 := cx HB.out hx364_3
           replace hx364_4 := cx HB.out hx364_4
           replace hx364_5 := cx HB.out hx364_5
           replace p364 := eq_true p364
           replace q364 := eq_true q364
           try go_wp2_with (first | ((with_reducible refine gate_dst (N := 4) rfl ?_); refine box_event ?hg (N := 4) ?hd (cs := #[.int .i64 0, .int .i64 0, .string (⟨#[]⟩ : ByteArray), .string (⟨#[]⟩ : ByteArray), .int .i64 0, .bool false]) (t := 25) ?hr ?_; (case hd => rfl); (case hg => rfl); (case hr => first | (go_simp; done) | (go_simp; rfl)); intro gb365 hg w16 hbox hb; have n0_ := Aside0.mk (blk_below (g := gb363) (o := .cells #[.int .i64 a0_0, .slice (some ad364) l0_1.length c0_1] 53 (0, 0)) (bk BK363.out) hb); have n1_ := Aside0.mk (below_step bo hb); have n2_ := Aside0.mk (hbox); have n3_ := Aside0.mk ((by rw [hg]; exact (below_size bo) : w.heap.size ≤ gb365)); have n4_ := Aside0.mk ((by rw [hg]; exact (below_size bo) : w.heap.size ≤ gb365)); have n5_ := Aside0.mk ((by rw [hg]; exact Nat.ne_of_lt (blk_lt (g := gb363) (o := .cells #[.int .i64 a0_0, .slice (some ad364) l0_1.length c0_1] 53 (0, 0)) (bk BK363.out)) : gb363 ≠ gb365)); have n6_ := Aside0.mk ((by rw [hg]; exact Nat.ne_of_gt (blk_lt (g := gb363) (o := .cells #[.int .i64 a0_0, .slice (some ad364) l0_1.length c0_1] 53 (0, 0)) (bk BK363.out)) : gb365 ≠ gb363)); clear BK363; clear HB; have BK363 := n0_; have HB := n1_; have BK365 := n2_; have GW365 := n3_; have GE365 := n4_; have NB363_365 := n5_; have NB365_363 := n6_; clear n0_ n1_ n2_ n3_ n4_ n5_ n6_; clear hb hbox hg; have hnb17 := NB365_363.out; have hnc17 := NB363_365.out; obtain ⟨hcz18_0, hcz18_1, hcz18_2, hcz18_3, hcz18_4, hcz18_5⟩ := cl6 BK365.out; obtain ⟨hfz18_0, hfz18_1, hfz18_2, hfz18_3, hfz18_4, hfz18_5⟩ := fz6 BK365.out))
           (try (rw [drewN_self w16]; generalize hq_ : World.drewN w16 _ = w16; have n0_ := Aside0.mk (blk_at hq_ BK363.out); have n1_ := Aside0.mk (blk_at hq_ BK365.out); have n2_ := Aside0.mk (below_at hq_ HB.out); clear hq_ BK363 BK365 HB; have BK363 := n0_; have BK365 := n1_; have HB := n2_; clear n0_ n1_ n2_))
           have n0_ : Aside0 (((((((w16.setCell ⟨gb365, 0, none⟩ (.int .i64 ((rd_T25 l0_1 x16_2).f0))).setCell ⟨gb365, 1, none⟩ (.int .i64 ((rd_T25 l0_1 x16_2).f1))).setCell ⟨gb365, 2, none⟩ (.string ((rd_T25 l0_1 x16_2).f2))).setCell ⟨gb365, 3, none⟩ (.string ((rd_T25 l0_1 x16_2).f3))).setCell ⟨gb365, 4, none⟩ (.int .i64 ((rd_T25 l0_1 x16_2).f4))).setCell ⟨gb365, 5, none⟩ (.bool ((rd_T25 l0_1 x16_2).f5))).heap[gb363]? = some (.cells #[.int .i64 a0_0, .slice (some ad364) l0_1.length c0_1] 53 (0, 0))) := ⟨by (with_reducible repeat (first | refine blk_drewN ?_ _ | refine blk_drew ?_ | refine blk_alloc ?_ _)); refine blk_far ?_ NB363_365.out _; (with_reducible repeat (first | refine blk_drewN ?_ _ | refine blk_drew ?_ | refine blk_alloc ?_ _)); refine blk_far ?_ NB363_365.out _; (with_reducible repeat (first | refine blk_drewN ?_ _ | refine blk_drew ?_ | refine blk_alloc ?_ _)); refine blk_far ?_ NB363_365.out _; (with_reducible repeat (first | refine blk_drewN ?_ _ | refine blk_drew ?_ | refine blk_alloc ?_ _)); refine blk_far ?_ NB363_365.out _; (with_reducible repeat (first | refine blk_drewN ?_ _ | refine blk_drew ?_ | refine blk_alloc ?_ _)); refine blk_far ?_ NB363_365.out _; (with_reducible repeat (first | refine blk_drewN ?_ _ | refine blk_drew ?_ | refine blk_alloc ?_ _)); refine blk_far ?_ NB363_365.out _; (with_reducible repeat (first | refine blk_drewN ?_ _ | refine blk_drew ?_ | refine blk_alloc ?_ _)); exact BK363.out⟩
           have n1_ : Aside0 (((((((w16.setCell ⟨gb365, 0, none⟩ (.int .i64 ((rd_T25 l0_1 x16_2).f0))).setCell ⟨gb365, 1, none⟩ (.int .i64 ((rd_T25 l0_1 x16_2).f1))).setCell ⟨gb365, 2, none⟩ (.string ((rd_T25 l0_1 x16_2).f2))).setCell ⟨gb365, 3, none⟩ (.string ((rd_T25 l0_1 x16_2).f3))).setCell ⟨gb365, 4, none⟩ (.int .i64 ((rd_T25 l0_1 x16_2).f4))).setCell ⟨gb365, 5, none⟩ (.bool ((rd_T25 l0_1 x16_2).f5))).heap[gb365]? = some (.cells #[.int .i64 ((rd_T25 l0_1 x16_2).f0), .int .i64 ((rd_T25 l0_1 x16_2).f1), .string ((rd_T25 l0_1 x16_2).f2), .string ((rd_T25 l0_1 x16_2).f3), .int .i64 ((rd_T25 l0_1 x16_2).f4), .bool ((rd_T25 l0_1 x16_2).f5)] 25 (0, 0))) := ⟨by (with_reducible repeat (first | refine blk_drewN ?_ _ | refine blk_drew ?_ | refine blk_alloc ?_ _)); refine blk_put (cs := #[.int .i64 ((rd_T25 l0_1 x16_2).f0), .int .i64 ((rd_T25 l0_1 x16_2).f1), .string ((rd_T25 l0_1 x16_2).f2), .string ((rd_T25 l0_1 x16_2).f3), .int .i64 ((rd_T25 l0_1 x16_2).f4), .bool false]) ?_ 5 _ rfl; (with_reducible repeat (first | refine blk_drewN ?_ _ | refine blk_drew ?_ | refine blk_alloc ?_ _)); refine blk_put (cs := #[.int .i64 ((rd_T25 l0_1 x16_2).f0), .int .i64 ((rd_T25 l0_1 x16_2).f1), .string ((rd_T25 l0_1 x16_2).f2), .string ((rd_T25 l0_1 x16_2).f3), .int .i64 0, .bool false]) ?_ 4 _ rfl; (with_reducible repeat (first | refine blk_drewN ?_ _ | refine blk_drew ?_ | refine blk_alloc ?_ _)); refine blk_put (cs := #[.int .i64 ((rd_T25 l0_1 x16_2).f0), .int .i64 ((rd_T25 l0_1 x16_2).f1), .string ((rd_T25 l0_1 x16_2).f2), .string (⟨#[]⟩ : ByteArray), .int .i64 0, .bool false]) ?_ 3 _ rfl; (with_reducible repeat (first | refine blk_drewN ?_ _ | refine blk_drew ?_ | refine blk_alloc ?_ _)); refine blk_put (cs := #[.int .i64 ((rd_T25 l0_1 x16_2).f0), .int .i64 ((rd_T25 l0_1 x16_2).f1), .string (⟨#[]⟩ : ByteArray), .string (⟨#[]⟩ : ByteArray), .int .i64 0, .bool false]) ?_ 2 _ rfl; (with_reducible repeat (first | refine blk_drewN ?_ _ | refine blk_drew ?_ | refine blk_alloc ?_ _)); refine blk_put (cs := #[.int .i64 ((rd_T25 l0_1 x16_2).f0), .int .i64 0, .string (⟨#[]⟩ : ByteArray), .string (⟨#[]⟩ : ByteArray), .int .i64 0, .bool false]) ?_ 1 _ rfl; (with_reducible repeat (first | refine blk_drewN ?_ _ | refine blk_drew ?_ | refine blk_alloc ?_ _)); refine blk_put (cs := #[.int .i64 0, .int .i64 0, .string (⟨#[]⟩ : ByteArray), .string (⟨#[]⟩ : ByteArray), .int .i64 0, .bool false]) ?_ 0 _ rfl; (with_reducible repeat (first | refine blk_drewN ?_ _ | refine blk_drew ?_ | refine blk_alloc ?_ _)); exact BK365.out⟩
           have n2_ : Aside0 (Below w.heap.size w ((((((w16.setCell ⟨gb365, 0, none⟩ (.int .i64 ((rd_T25 l0_1 x16_2).f0))).setCell ⟨gb365, 1, none⟩ (.int .i64 ((rd_T25 l0_1 x16_2).f1))).setCell ⟨gb365, 2, none⟩ (.string ((rd_T25 l0_1 x16_2).f2))).setCell ⟨gb365, 3, none⟩ (.string ((rd_T25 l0_1 x16_2).f3))).setCell ⟨gb365, 4, none⟩ (.int .i64 ((rd_T25 l0_1 x16_2).f4))).setCell ⟨gb365, 5, none⟩ (.bool ((rd_T25 l0_1 x16_2).f5)))) := ⟨bo⟩
           (try clear BK363)
           (try clear BK365)
           (try clear HB)
           generalize ((((((w16.setCell ⟨gb365, 0, none⟩ (.int .i64 ((rd_T25 l0_1 x16_2).f0))).setCell ⟨gb365, 1, none⟩ (.int .i64 ((rd_T25 l0_1 x16_2).f1))).setCell ⟨gb365, 2, none⟩ (.string ((rd_T25 l0_1 x16_2).f2))).setCell ⟨gb365, 3, none⟩ (.string ((rd_T25 l0_1 x16_2).f3))).setCell ⟨gb365, 4, none⟩ (.int .i64 ((rd_T25 l0_1 x16_2).f4))).setCell ⟨gb365, 5, none⟩ (.bool ((rd_T25 l0_1 x16_2).f5))) = w19 at n0_ n1_ n2_ ⊢
           have BK363 := n0_
           have BK365 := n1_
           have HB := n2_
           clear n0_ n1_ n2_
           have n0_ := Aside0.mk (blk_drew BK363.out)
           have n1_ := Aside0.mk (blk_drew BK365.out)
           have n2_ := Aside0.mk (below_drew1 HB.out)
           clear BK363
           clear BK365
           clear HB
           have BK363 := n0_
           have BK365 := n1_
           have HB := n2_
           clear n0_ n1_ n2_
           have q21 : (x16_2 : Int) ≤ ((l0_1.length : Int) : Int) := od
           obtain ⟨i021, hi021, _, hsz21, _⟩ := info_parts info25
           have hroom21 : l0_1.length ≤ c0_1 := HC0_1.out
           have hC21 : Kd.C k25 _ (some ad364) l0_1.length l0_1 := HR0_1.out
           have hcut21 := cut_to (P := Try.prog) 36 25 .i64 Try.underlying36 hi021 (some ad364) l0_1.length c0_1 x16_2 (od) q21 hroom21
           have hr21 := Kd.C_take (m := (x16_2 : Int).toNat) hC21 (by omega)
           have hy21 : y366.length = (x16_2 : Int).toNat := (by rw [Ny366.out, List.length_take]; omega)
           rw [← Ny366.out] at hr21
           rw [← hy21] at hcut21
           have HR369 := Aside0.mk hr21
           have HC369 := Aside0.mk (show y366.length ≤ c0_1 from by omega)
           clear hr21 hC21 hroom21 hi021 hsz21
           have KY21 := Aside0.mk hy21
           clear hy21
           replace q21 := eq_true q21
           refine start_ (n := 9) (S := fun w' => w'.cell? ⟨gb363, 0, none⟩ = some (.int .i64 a0_0) ∧ w'.cell? ⟨gb363, 1, none⟩ = some (.slice (some ad364) l0_1.length c0_1) ∧ w'.cell? ⟨gb365, 0, none⟩ = some (.int .i64 ((rd_T25 l0_1 x16_2).f0)) ∧ w'.cell? ⟨gb365, 1, none⟩ = some (.int .i64 ((rd_T25 l0_1 x16_2).f1)) ∧ w'.cell? ⟨gb365, 2, none⟩ = some (.string ((rd_T25 l0_1 x16_2).f2)) ∧ w'.cell? ⟨gb365, 3, none⟩ = some (.string ((rd_T25 l0_1 x16_2).f3)) ∧ w'.cell? ⟨gb365, 4, none⟩ = some (.int .i64 ((rd_T25 l0_1 x16_2).f4)) ∧ w'.cell? ⟨gb365, 5, none⟩ = some (.bool ((rd_T25 l0_1 x16_2).f5))) (ds := []) #[O,O,O,O,O,O,O,O,O] (by kernel_rfl) rfl rfl ⟨(blk_cell BK363.out 0).trans rfl, (blk_cell BK363.out 1).trans rfl, (blk_cell BK365.out 0).trans rfl, (blk_cell BK365.out 1).trans rfl, (blk_cell BK365.out 2).trans rfl, (blk_cell BK365.out 3).trans rfl, (blk_cell BK365.out 4).trans rfl, (blk_cell BK365.out 5).trans rfl⟩ (fun hHeld => ?_); refine with_tabW seg_Check.tab6 seg_Check.bits6 (fun HT_ HW_ => ?_)
           generalize w19.drew = w20 at BK363 BK365 HB HR369 hHeld ⊢
           refine pz (i := 0) (N := some 21) #[I,O,O,O,O,O,O,O,O] ?_
           refine pz (i := 2) (N := some 23) #[I,O,I,O,O,O,O,O,O] ?_
           refine pz (i := 4) (N := some 25) #[I,O,I,O,I,O,O,O,O] ?_
           refine tz (i := 1) (N := some 22) #[I,I,I,O,I,O,O,O,O] ?_
           refine tz (i := 3) (N := some 24) #[I,I,I,I,I,O,O,O,O] ?_
           refine pz (i := 5) (N := some 26) #[I,I,I,I,I,I,O,O,O] ?_
           refine tz (i := 6) (N := some 27) #[I,I,I,I,I,I,I,O,O] ?_
           refine one_ (i := 7) (N := some 28) #[I,I,I,I,I,I,I,I,O] rfl rfl (one_of HT_.out (by kernel_rfl)) (by decide) (fun K hK => ?_)
           refine goes_ Try.func75 (by kernel_rfl) rfl #[.int .i64 a0_0, .slice (some ad364) y366.length c0_1, .agg #[.int .i64 ((rd_T25 l0_1 x16_2).f0), .int .i64 ((rd_T25 l0_1 x16_2).f1), .string ((rd_T25 l0_1 x16_2).f2), .string ((rd_T25 l0_1 x16_2).f3), .int .i64 ((rd_T25 l0_1 x16_2).f4), .bool ((rd_T25 l0_1 x16_2).f5)]] (by rfl) rfl rfl aa ?_
           with_reducible refine (seg_behind.calls k2 a0_0 _ _ y366 ((rd_T25 l0_1 x16_2).f0) ((rd_T25 l0_1 x16_2).f1) ((rd_T25 l0_1 x16_2).f2) ((rd_T25 l0_1 x16_2).f3) ((rd_T25 l0_1 x16_2).f4) ((rd_T25 l0_1 x16_2).f5) true _ ?side1 ?side2 A14.out).mono ?_
           (case side1 => repeat (first | exact (Kd.C_below HR369.out HB.out) | (with_reducible refine Kd.C_alloc ?_ _) | (with_reducible refine Kd.C_drewN ?_ _) | (with_reducible refine Kd.C_drew ?_)))
           (case side2 => exact HC369.out)
           rintro e w22 ⟨rfl, hb⟩
           refine ⟨_, rfl, ?_⟩
           have n0_ := Aside0.mk (blk_below (g := gb363) (o := .cells #[.int .i64 a0_0, .slice (some ad364) l0_1.length c0_1] 53 (0, 0)) (bk BK363.out) hb)
           have n1_ := Aside0.mk (blk_below (g := gb365) (o := .cells #[.int .i64 ((rd_T25 l0_1 x16_2).f0), .int .i64 ((rd_T25 l0_1 x16_2).f1), .string ((rd_T25 l0_1 x16_2).f2), .string ((rd_T25 l0_1 x16_2).f3), .int .i64 ((rd_T25 l0_1 x16_2).f4), .bool ((rd_T25 l0_1 x16_2).f5)] 25 (0, 0)) (bk BK365.out) hb)
           have n2_ := Aside0.mk (below_step bo hb)
           clear BK363
           clear BK365
           clear HB
           have BK363 := n0_
           have BK365 := n1_
           have HB := n2_
           clear n0_ n1_ n2_
           (try clear hb)
           (try clear hb2)
           (try clear hk)
           (try clear hi)
           refine hK.out _ _ ⟨(blk_cell BK363.out 0).trans rfl, (blk_cell BK363.out 1).trans rfl, (blk_cell BK365.out 0).trans rfl, (blk_cell BK365.out 1).trans rfl, (blk_cell BK365.out 2).trans rfl, (blk_cell BK365.out 3).trans rfl, (blk_cell BK365.out 4).trans rfl, (blk_cell BK365.out 5).trans rfl⟩ (fun hHeld => ?_)
           clear hK K
           refine norm_ (a' := ?_) ?_ ?_
           rotate_left
           ·show Act.put _ (some 28) _ = _
            simp only [Act.put, List.setIfInBounds_toArray, List.set_cons_zero, List.set_cons_succ, i64_w, i32_w]
            rfl
           refine pz (i := 8) (N := some 29) #[I,I,I,I,I,I,I,I,I] ?_
           refine done_ (done_of HT_.out (by kernel_rfl)) ?_
           try go_wp2
           go_roundg k2
           case measure => have := HJ1.out; have := HK2.out; omega
           case rel => exact ⟨(wrap64 (x16_2 + 1)), ap, H', ⟨by have := HJ1.out; have := HK2.out; omega⟩, ⟨by (with_reducible repeat (first | refine blk_drewN ?_ _ | refine blk_drew ?_ | refine blk_alloc ?_ _)); exact BK363.out⟩, ⟨bo⟩⟩
          ·replace c15 := Bool.eq_false_iff.mpr c15
           subst c15
           have H1 : (some 1) = some r := by rw [if_neg (show ¬ (false = true) by decide)] at H; exact H
           clear H
           have H := H1
           clear H1
           obtain rfl := Option.some.inj H
           have p364 : 0 ≤ (x16_2 : Int) := od
           have q364 : x16_2 < (l0_1.length : Int) := od
           obtain ⟨ad364, e364, hx364_0, hx364_1, hx364_2, hx364_3, hx364_4, hx364_5⟩ := at_T25 HR0_1.out x16_2 p364 q364
           cases e364
           replace hx364_0 := cx HB.out hx364_0
           replace hx364_1 := cx HB.out hx364_1
           replace hx364_2 := cx HB.out hx364_2
           replace hx364_3 := cx HB.out hx364_3
           replace hx364_4 := cx HB.out hx364_4
           replace hx364_5 := cx HB.out hx364_5
           replace p364 := eq_true p364
           replace q364 := eq_true q364
           try go_wp2_with (first | ((with_reducible refine gate_dst (N := 4) rfl ?_); refine box_event ?hg (N := 4) ?hd (cs := #[.int .i64 0, .int .i64 0, .string (⟨#[]⟩ : ByteArray), .string (⟨#[]⟩ : ByteArray), .int .i64 0, .bool false]) (t := 25) ?hr ?_; (case hd => rfl); (case hg => rfl); (case hr => first | (go_simp; done) | (go_simp; rfl)); intro gb365 hg w23 hbox hb; have n0_ := Aside0.mk (blk_below (g := gb363) (o := .cells #[.int .i64 a0_0, .slice (some ad364) l0_1.length c0_1] 53 (0, 0)) (bk BK363.out) hb); have n1_ := Aside0.mk (below_step bo hb); have n2_ := Aside0.mk (hbox); have n3_ := Aside0.mk ((by rw [hg]; exact (below_size bo) : w.heap.size ≤ gb365)); have n4_ := Aside0.mk ((by rw [hg]; exact (below_size bo) : w.heap.size ≤ gb365)); have n5_ := Aside0.mk ((by rw [hg]; exact Nat.ne_of_lt (blk_lt (g := gb363) (o := .cells #[.int .i64 a0_0, .slice (some ad364) l0_1.length c0_1] 53 (0, 0)) (bk BK363.out)) : gb363 ≠ gb365)); have n6_ := Aside0.mk ((by rw [hg]; exact Nat.ne_of_gt (blk_lt (g := gb363) (o := .cells #[.int .i64 a0_0, .slice (some ad364) l0_1.length c0_1] 53 (0, 0)) (bk BK363.out)) : gb365 ≠ gb363)); clear BK363; clear HB; have BK363 := n0_; have HB := n1_; have BK365 := n2_; have GW365 := n3_; have GE365 := n4_; have NB363_365 := n5_; have NB365_363 := n6_; clear n0_ n1_ n2_ n3_ n4_ n5_ n6_; clear hb hbox hg; have hnb24 := NB365_363.out; have hnc24 := NB363_365.out; obtain ⟨hcz25_0, hcz25_1, hcz25_2, hcz25_3, hcz25_4, hcz25_5⟩ := cl6 BK365.out; obtain ⟨hfz25_0, hfz25_1, hfz25_2, hfz25_3, hfz25_4, hfz25_5⟩ := fz6 BK365.out))
           (try (rw [drewN_self w23]; generalize hq_ : World.drewN w23 _ = w23; have n0_ := Aside0.mk (blk_at hq_ BK363.out); have n1_ := Aside0.mk (blk_at hq_ BK365.out); have n2_ := Aside0.mk (below_at hq_ HB.out); clear hq_ BK363 BK365 HB; have BK363 := n0_; have BK365 := n1_; have HB := n2_; clear n0_ n1_ n2_))
           have n0_ : Aside0 (((((((w23.setCell ⟨gb365, 0, none⟩ (.int .i64 ((rd_T25 l0_1 x16_2).f0))).setCell ⟨gb365, 1, none⟩ (.int .i64 ((rd_T25 l0_1 x16_2).f1))).setCell ⟨gb365, 2, none⟩ (.string ((rd_T25 l0_1 x16_2).f2))).setCell ⟨gb365, 3, none⟩ (.string ((rd_T25 l0_1 x16_2).f3))).setCell ⟨gb365, 4, none⟩ (.int .i64 ((rd_T25 l0_1 x16_2).f4))).setCell ⟨gb365, 5, none⟩ (.bool ((rd_T25 l0_1 x16_2).f5))).heap[gb363]? = some (.cells #[.int .i64 a0_0, .slice (some ad364) l0_1.length c0_1] 53 (0, 0))) := ⟨by (with_reducible repeat (first | refine blk_drewN ?_ _ | refine blk_drew ?_ | refine blk_alloc ?_ _)); refine blk_far ?_ NB363_365.out _; (with_reducible repeat (first | refine blk_drewN ?_ _ | refine blk_drew ?_ | refine blk_alloc ?_ _)); refine blk_far ?_ NB363_365.out _; (with_reducible repeat (first | refine blk_drewN ?_ _ | refine blk_drew ?_ | refine blk_alloc ?_ _)); refine blk_far ?_ NB363_365.out _; (with_reducible repeat (first | refine blk_drewN ?_ _ | refine blk_drew ?_ | refine blk_alloc ?_ _)); refine blk_far ?_ NB363_365.out _; (with_reducible repeat (first | refine blk_drewN ?_ _ | refine blk_drew ?_ | refine blk_alloc ?_ _)); refine blk_far ?_ NB363_365.out _; (with_reducible repeat (first | refine blk_drewN ?_ _ | refine blk_drew ?_ | refine blk_alloc ?_ _)); refine blk_far ?_ NB363_365.out _; (with_reducible repeat (first | refine blk_drewN ?_ _ | refine blk_drew ?_ | refine blk_alloc ?_ _)); exact BK363.out⟩
           have n1_ : Aside0 (((((((w23.setCell ⟨gb365, 0, none⟩ (.int .i64 ((rd_T25 l0_1 x16_2).f0))).setCell ⟨gb365, 1, none⟩ (.int .i64 ((rd_T25 l0_1 x16_2).f1))).setCell ⟨gb365, 2, none⟩ (.string ((rd_T25 l0_1 x16_2).f2))).setCell ⟨gb365, 3, none⟩ (.string ((rd_T25 l0_1 x16_2).f3))).setCell ⟨gb365, 4, none⟩ (.int .i64 ((rd_T25 l0_1 x16_2).f4))).setCell ⟨gb365, 5, none⟩ (.bool ((rd_T25 l0_1 x16_2).f5))).heap[gb365]? = some (.cells #[.int .i64 ((rd_T25 l0_1 x16_2).f0), .int .i64 ((rd_T25 l0_1 x16_2).f1), .string ((rd_T25 l0_1 x16_2).f2), .string ((rd_T25 l0_1 x16_2).f3), .int .i64 ((rd_T25 l0_1 x16_2).f4), .bool ((rd_T25 l0_1 x16_2).f5)] 25 (0, 0))) := ⟨by (with_reducible repeat (first | refine blk_drewN ?_ _ | refine blk_drew ?_ | refine blk_alloc ?_ _)); refine blk_put (cs := #[.int .i64 ((rd_T25 l0_1 x16_2).f0), .int .i64 ((rd_T25 l0_1 x16_2).f1), .string ((rd_T25 l0_1 x16_2).f2), .string ((rd_T25 l0_1 x16_2).f3), .int .i64 ((rd_T25 l0_1 x16_2).f4), .bool false]) ?_ 5 _ rfl; (with_reducible repeat (first | refine blk_drewN ?_ _ | refine blk_drew ?_ | refine blk_alloc ?_ _)); refine blk_put (cs := #[.int .i64 ((rd_T25 l0_1 x16_2).f0), .int .i64 ((rd_T25 l0_1 x16_2).f1), .string ((rd_T25 l0_1 x16_2).f2), .string ((rd_T25 l0_1 x16_2).f3), .int .i64 0, .bool false]) ?_ 4 _ rfl; (with_reducible repeat (first | refine blk_drewN ?_ _ | refine blk_drew ?_ | refine blk_alloc ?_ _)); refine blk_put (cs := #[.int .i64 ((rd_T25 l0_1 x16_2).f0), .int .i64 ((rd_T25 l0_1 x16_2).f1), .string ((rd_T25 l0_1 x16_2).f2), .string (⟨#[]⟩ : ByteArray), .int .i64 0, .bool false]) ?_ 3 _ rfl; (with_reducible repeat (first | refine blk_drewN ?_ _ | refine blk_drew ?_ | refine blk_alloc ?_ _)); refine blk_put (cs := #[.int .i64 ((rd_T25 l0_1 x16_2).f0), .int .i64 ((rd_T25 l0_1 x16_2).f1), .string (⟨#[]⟩ : ByteArray), .string (⟨#[]⟩ : ByteArray), .int .i64 0, .bool false]) ?_ 2 _ rfl; (with_reducible repeat (first | refine blk_drewN ?_ _ | refine blk_drew ?_ | refine blk_alloc ?_ _)); refine blk_put (cs := #[.int .i64 ((rd_T25 l0_1 x16_2).f0), .int .i64 0, .string (⟨#[]⟩ : ByteArray), .string (⟨#[]⟩ : ByteArray), .int .i64 0, .bool false]) ?_ 1 _ rfl; (with_reducible repeat (first | refine blk_drewN ?_ _ | refine blk_drew ?_ | refine blk_alloc ?_ _)); refine blk_put (cs := #[.int .i64 0, .int .i64 0, .string (⟨#[]⟩ : ByteArray), .string (⟨#[]⟩ : ByteArray), .int .i64 0, .bool false]) ?_ 0 _ rfl; (with_reducible repeat (first | refine blk_drewN ?_ _ | refine blk_drew ?_ | refine blk_alloc ?_ _)); exact BK365.out⟩
           have n2_ : Aside0 (Below w.heap.size w ((((((w23.setCell ⟨gb365, 0, none⟩ (.int .i64 ((rd_T25 l0_1 x16_2).f0))).setCell ⟨gb365, 1, none⟩ (.int .i64 ((rd_T25 l0_1 x16_2).f1))).setCell ⟨gb365, 2, none⟩ (.string ((rd_T25 l0_1 x16_2).f2))).setCell ⟨gb365, 3, none⟩ (.string ((rd_T25 l0_1 x16_2).f3))).setCell ⟨gb365, 4, none⟩ (.int .i64 ((rd_T25 l0_1 x16_2).f4))).setCell ⟨gb365, 5, none⟩ (.bool ((rd_T25 l0_1 x16_2).f5)))) := ⟨bo⟩
           (try clear BK363)
           (try clear BK365)
           (try clear HB)
           generalize ((((((w23.setCell ⟨gb365, 0, none⟩ (.int .i64 ((rd_T25 l0_1 x16_2).f0))).setCell ⟨gb365, 1, none⟩ (.int .i64 ((rd_T25 l0_1 x16_2).f1))).setCell ⟨gb365, 2, none⟩ (.string ((rd_T25 l0_1 x16_2).f2))).setCell ⟨gb365, 3, none⟩ (.string ((rd_T25 l0_1 x16_2).f3))).setCell ⟨gb365, 4, none⟩ (.int .i64 ((rd_T25 l0_1 x16_2).f4))).setCell ⟨gb365, 5, none⟩ (.bool ((rd_T25 l0_1 x16_2).f5))) = w26 at n0_ n1_ n2_ ⊢
           have BK363 := n0_
           have BK365 := n1_
           have HB := n2_
           clear n0_ n1_ n2_
           have n0_ := Aside0.mk (blk_drew BK363.out)
           have n1_ := Aside0.mk (blk_drew BK365.out)
           have n2_ := Aside0.mk (below_drew1 HB.out)
           clear BK363
           clear BK365
           clear HB
           have BK363 := n0_
           have BK365 := n1_
           have HB := n2_
           clear n0_ n1_ n2_
           have q28 : (x16_2 : Int) ≤ ((l0_1.length : Int) : Int) := od
           obtain ⟨i028, hi028, _, hsz28, _⟩ := info_parts info25
           have hroom28 : l0_1.length ≤ c0_1 := HC0_1.out
           have hC28 : Kd.C k25 _ (some ad364) l0_1.length l0_1 := HR0_1.out
           have hcut28 := cut_to (P := Try.prog) 36 25 .i64 Try.underlying36 hi028 (some ad364) l0_1.length c0_1 x16_2 (od) q28 hroom28
           have hr28 := Kd.C_take (m := (x16_2 : Int).toNat) hC28 (by omega)
           have hy28 : y366.length = (x16_2 : Int).toNat := (by rw [Ny366.out, List.length_take]; omega)
           rw [← Ny366.out] at hr28
           rw [← hy28] at hcut28
           have HR369 := Aside0.mk hr28
           have HC369 := Aside0.mk (show y366.length ≤ c0_1 from by omega)
           clear hr28 hC28 hroom28 hi028 hsz28
           have KY28 := Aside0.mk hy28
           clear hy28
           replace q28 := eq_true q28
           refine start_ (n := 9) (S := fun w' => w'.cell? ⟨gb363, 0, none⟩ = some (.int .i64 a0_0) ∧ w'.cell? ⟨gb363, 1, none⟩ = some (.slice (some ad364) l0_1.length c0_1) ∧ w'.cell? ⟨gb365, 0, none⟩ = some (.int .i64 ((rd_T25 l0_1 x16_2).f0)) ∧ w'.cell? ⟨gb365, 1, none⟩ = some (.int .i64 ((rd_T25 l0_1 x16_2).f1)) ∧ w'.cell? ⟨gb365, 2, none⟩ = some (.string ((rd_T25 l0_1 x16_2).f2)) ∧ w'.cell? ⟨gb365, 3, none⟩ = some (.string ((rd_T25 l0_1 x16_2).f3)) ∧ w'.cell? ⟨gb365, 4, none⟩ = some (.int .i64 ((rd_T25 l0_1 x16_2).f4)) ∧ w'.cell? ⟨gb365, 5, none⟩ = some (.bool ((rd_T25 l0_1 x16_2).f5))) (ds := []) #[O,O,O,O,O,O,O,O,O] (by kernel_rfl) rfl rfl ⟨(blk_cell BK363.out 0).trans rfl, (blk_cell BK363.out 1).trans rfl, (blk_cell BK365.out 0).trans rfl, (blk_cell BK365.out 1).trans rfl, (blk_cell BK365.out 2).trans rfl, (blk_cell BK365.out 3).trans rfl, (blk_cell BK365.out 4).trans rfl, (blk_cell BK365.out 5).trans rfl⟩ (fun hHeld => ?_); refine with_tabW seg_Check.tab6 seg_Check.bits6 (fun HT_ HW_ => ?_)
           generalize w26.drew = w27 at BK363 BK365 HB HR369 hHeld ⊢
           refine pz (i := 0) (N := some 21) #[I,O,O,O,O,O,O,O,O] ?_
           refine pz (i := 2) (N := some 23) #[I,O,I,O,O,O,O,O,O] ?_
           refine pz (i := 4) (N := some 25) #[I,O,I,O,I,O,O,O,O] ?_
           refine tz (i := 1) (N := some 22) #[I,I,I,O,I,O,O,O,O] ?_
           refine tz (i := 3) (N := some 24) #[I,I,I,I,I,O,O,O,O] ?_
           refine pz (i := 5) (N := some 26) #[I,I,I,I,I,I,O,O,O] ?_
           refine tz (i := 6) (N := some 27) #[I,I,I,I,I,I,I,O,O] ?_
           refine one_ (i := 7) (N := some 28) #[I,I,I,I,I,I,I,I,O] rfl rfl (one_of HT_.out (by kernel_rfl)) (by decide) (fun K hK => ?_)
           refine goes_ Try.func75 (by kernel_rfl) rfl #[.int .i64 a0_0, .slice (some ad364) y366.length c0_1, .agg #[.int .i64 ((rd_T25 l0_1 x16_2).f0), .int .i64 ((rd_T25 l0_1 x16_2).f1), .string ((rd_T25 l0_1 x16_2).f2), .string ((rd_T25 l0_1 x16_2).f3), .int .i64 ((rd_T25 l0_1 x16_2).f4), .bool ((rd_T25 l0_1 x16_2).f5)]] (by rfl) rfl rfl aa ?_
           with_reducible refine (seg_behind.calls k2 a0_0 _ _ y366 ((rd_T25 l0_1 x16_2).f0) ((rd_T25 l0_1 x16_2).f1) ((rd_T25 l0_1 x16_2).f2) ((rd_T25 l0_1 x16_2).f3) ((rd_T25 l0_1 x16_2).f4) ((rd_T25 l0_1 x16_2).f5) false _ ?side1 ?side2 A14.out).mono ?_
           (case side1 => repeat (first | exact (Kd.C_below HR369.out HB.out) | (with_reducible refine Kd.C_alloc ?_ _) | (with_reducible refine Kd.C_drewN ?_ _) | (with_reducible refine Kd.C_drew ?_)))
           (case side2 => exact HC369.out)
           rintro e w29 ⟨rfl, hb⟩
           refine ⟨_, rfl, ?_⟩
           have n0_ := Aside0.mk (blk_below (g := gb363) (o := .cells #[.int .i64 a0_0, .slice (some ad364) l0_1.length c0_1] 53 (0, 0)) (bk BK363.out) hb)
           have n1_ := Aside0.mk (blk_below (g := gb365) (o := .cells #[.int .i64 ((rd_T25 l0_1 x16_2).f0), .int .i64 ((rd_T25 l0_1 x16_2).f1), .string ((rd_T25 l0_1 x16_2).f2), .string ((rd_T25 l0_1 x16_2).f3), .int .i64 ((rd_T25 l0_1 x16_2).f4), .bool ((rd_T25 l0_1 x16_2).f5)] 25 (0, 0)) (bk BK365.out) hb)
           have n2_ := Aside0.mk (below_step bo hb)
           clear BK363
           clear BK365
           clear HB
           have BK363 := n0_
           have BK365 := n1_
           have HB := n2_
           clear n0_ n1_ n2_
           (try clear hb)
           (try clear hb2)
           (try clear hk)
           (try clear hi)
           refine hK.out _ _ ⟨(blk_cell BK363.out 0).trans rfl, (blk_cell BK363.out 1).trans rfl, (blk_cell BK365.out 0).trans rfl, (blk_cell BK365.out 1).trans rfl, (blk_cell BK365.out 2).trans rfl, (blk_cell BK365.out 3).trans rfl, (blk_cell BK365.out 4).trans rfl, (blk_cell BK365.out 5).trans rfl⟩ (fun hHeld => ?_)
           clear hK K
           refine norm_ (a' := ?_) ?_ ?_
           rotate_left
           ·show Act.put _ (some 28) _ = _
            simp only [Act.put, List.setIfInBounds_toArray, List.set_cons_zero, List.set_cons_succ, i64_w, i32_w]
            rfl
           refine pz (i := 8) (N := some 29) #[I,I,I,I,I,I,I,I,I] ?_
           refine done_ (done_of HT_.out (by kernel_rfl)) ?_
           try go_wp2
           go_ret
           exact ⟨er, bo⟩
         ·rw [if_neg c13] at H
          exact absurd H (by simp)
        ·rw [if_neg c11] at H
         exact absurd H (by simp)
       ·rw [if_neg c10] at H
        exact absurd H (by simp)
      ·rw [if_neg c9] at H
       have c9b0 : decide (x16_2 < (l0_1.length : Int)) = false := decide_eq_false c9
       clear c9
       obtain rfl := Option.some.inj H
       go_wp2
       go_ret
       exact ⟨er, bo⟩

end Go.Proofs.Ytmabdfdmccbfnaa.P

-- written by a program of the proving session, out of the translation; Lean checks it
namespace Go.Proofs.Ytmabdfdmccbfnaa.P
open Go.RowKit Go.Proofs.Ytmabdfdmccbfnaa.Sq Go.Proofs.YtmabdfdmccbfnaaW.PrintWords Go.Proofs.YtmabdfdmccbfnaaW.PrintLast Go.Proofs.YtmabdfdmccbfnaaW.PrintMore
attribute [local go_sem] max2_int min2_int max_two min_two max_three min_three max_four min_four   -- for this text's walks alone
set_option linter.unusedVariables false
set_option linter.unusedSimpArgs false

/-! ### index_Marks: function 54 -/
def index_Marks.l0 : Nat → List (S77) → Int → List (S25) → Int → Int → Option ((List (S77)) × Int)
 | 0, _, _, _, _, _ => none
 | k + 1, x5, x6, x17, x18, x19 => if x19 < x18 then (if 0 ≤ x19 then (if x19 < (x17.length : Int) then (if (Int.tmod x19 4) = 0 then (if x5.length < 8796093022208 then ((rec_Size.f k ((rd_T25 x17 x19).f0) ((rd_T25 x17 x19).f1) ((rd_T25 x17 x19).f2) ((rd_T25 x17 x19).f3) ((rd_T25 x17 x19).f4) ((rd_T25 x17 x19).f5)).bind fun bt494 => (index_Marks.l0 k (x5 ++ [(⟨(rd_T25 x17 x19).f0, x6⟩ : S77)]) (wrap64 (x6 + bt494.1)) x17 x18 (wrap64 (x19 + 1)))) else (none)) else ((rec_Size.f k ((rd_T25 x17 x19).f0) ((rd_T25 x17 x19).f1) ((rd_T25 x17 x19).f2) ((rd_T25 x17 x19).f3) ((rd_T25 x17 x19).f4) ((rd_T25 x17 x19).f5)).bind fun bt496 => (index_Marks.l0 k x5 (wrap64 (x6 + bt496.1)) x17 x18 (wrap64 (x19 + 1))))) else (none)) else (none)) else (some (x5, 0))
def index_Marks.f (k : Nat) (a0_0 : Int) (l0_1 : List (S25)) : Option ((List (S77)) × Int) := (seg_Check.f k a0_0 l0_1).bind fun t488 => (if t488 = 0 then (index_Marks.l0 k ([] : List (S77)) 0 l0_1 (l0_1.length : Int) 0) else (some (([] : List (S77)), t488)))
theorem index_Marks.mono_l : ∀ k, (∀ y0 y1 y2 y3 y4, LeO (index_Marks.l0 k y0 y1 y2 y3 y4) (index_Marks.l0 (k + 1) y0 y1 y2 y3 y4))
 | 0 => fun _ _ _ _ _ r h => by simp [index_Marks.l0] at h
 | k + 1 => by
  have ih0 := index_Marks.mono_l k
  ·intro y0 y1 y2 y3 y4
   unfold index_Marks.l0
   repeat' first
   | (with_reducible exact ih0 _ _ _ _ _)
   | (with_reducible exact rec_Size.mono _ _ _ _ _ _ _)
   | (with_reducible exact seg_Check.mono _ _ _)
   | (with_reducible exact LeO.refl _)
   | (with_reducible exact LeO.none _)
   | (with_reducible refine LeO.ite ?_ ?_)
   | (with_reducible refine LeO.bind ?_ (fun _ => ?_))
   | exact ih0 _ _ _ _ _
   | exact rec_Size.mono _ _ _ _ _ _ _
   | exact seg_Check.mono _ _ _
   | exact LeO.none _
   | refine LeO.ite ?_ ?_
   | refine LeO.bind ?_ (fun _ => ?_)
theorem index_Marks.mono : ∀ a0 a1 k, LeO (index_Marks.f k a0 a1) (index_Marks.f (k + 1) a0 a1) := by
 intro a0 a1 k
 have ih0 := index_Marks.mono_l k
 unfold index_Marks.f
 repeat' first
  | (with_reducible exact ih0 _ _ _ _ _)
  | (with_reducible exact rec_Size.mono _ _ _ _ _ _ _)
  | (with_reducible exact seg_Check.mono _ _ _)
  | (with_reducible exact LeO.refl _)
  | (with_reducible exact LeO.none _)
  | (with_reducible refine LeO.ite ?_ ?_)
  | (with_reducible refine LeO.bind ?_ (fun _ => ?_))
  | exact ih0 _ _ _ _ _
  | exact rec_Size.mono _ _ _ _ _ _ _
  | exact seg_Check.mono _ _ _
  | exact LeO.none _
  | refine LeO.ite ?_ ?_
  | refine LeO.bind ?_ (fun _ => ?_)
set_option maxHeartbeats 8000000 in
set_option maxRecDepth 100000 in
theorem index_Marks.calls (k : Nat) (a0_0 : Int) (A0_1 : Option Addr) (c0_1 : Nat) (l0_1 : List (S25)) (r1 : List (S77)) (r2 : Int) (w : World) (hr0_1 : Kd.C k25 w A0_1 l0_1.length l0_1) (hc0_1 : l0_1.length ≤ c0_1) (h : index_Marks.f k a0_0 l0_1 = some (r1, r2)) :
 Calls Try.prog 54 #[.agg #[.int .i64 a0_0, .slice A0_1 l0_1.length c0_1]] w fun e w' => ∃ v0_ : Value, e = .returned (.tuple #[v0_, .int .i64 r2]) ∧ Kd.R k77 77 w' w.heap.size (fun _ => True) v0_ r1 ∧ Below w.heap.size w w' := by
 have hu53 := Try.underlying53
 have hu25 := Try.underlying25
 have hu77 := Try.underlying77
 have HR0_1 := Aside0.mk hr0_1
 have HC0_1 := Aside0.mk hc0_1
 clear hr0_1 hc0_1
 have HB := Aside0.mk (Below.refl w.heap.size w)
 have H : ((seg_Check.f k a0_0 l0_1).bind fun t488 => (if t488 = 0 then (index_Marks.l0 k ([] : List (S77)) 0 l0_1 (l0_1.length : Int) 0) else (some (([] : List (S77)), t488)))) = some (r1, r2) := h
 clear h
 replace H := Option.bind_eq_some_iff.mp H
 obtain ⟨t488, A20, H⟩ := H
 replace H : (if t488 = 0 then (index_Marks.l0 k ([] : List (S77)) 0 l0_1 (l0_1.length : Int) 0) else (some (([] : List (S77)), t488))) = some (r1, r2) := H
 have A2 := Aside0.mk A20
 clear A20
 by_cases c3 : t488 = 0
 ·rw [if_pos c3] at H
  have c3b0 : (t488 == 0) = true := beq_iff_eq.mpr c3
  have c3b1 : (t488 != 0) = false := bne_eq_false_iff_eq.mpr c3
  clear c3
  have H' := Aside0.mk H
  clear H
  go_enter Try.func54, Try.ntmps54
  go_wp2_with (first | ((with_reducible refine gate_dst (N := 1) rfl ?_); refine box_event ?hg (N := 1) ?hd (cs := #[.int .i64 a0_0, .slice A0_1 l0_1.length c0_1]) (t := 53) ?hr ?_; (case hd => rfl); (case hg => rfl); (case hr => first | (go_simp; done) | (go_simp; rfl)); intro gb487 hg w4 hbox hb; have n0_ := Aside0.mk (below_step bo hb); have n1_ := Aside0.mk (hbox); have n2_ := Aside0.mk ((by rw [hg]; exact (below_size bo) : w.heap.size ≤ gb487)); have n3_ := Aside0.mk ((by rw [hg]; exact (below_size bo) : w.heap.size ≤ gb487)); clear HB; have HB := n0_; have BK487 := n1_; have GW487 := n2_; have GE487 := n3_; clear n0_ n1_ n2_ n3_; clear hb hbox hg; obtain ⟨hcz5_0, hcz5_1⟩ := cl2 BK487.out; obtain ⟨hfz5_0, hfz5_1⟩ := fz2 BK487.out) | ((with_reducible refine gate_callee (f := 46) rfl ?_); refine goesL_ (some 12) rfl rfl Try.func46 (by kernel_rfl) rfl #[.agg #[.int .i64 a0_0, .slice A0_1 l0_1.length c0_1]] rfl aa ?_; (with_reducible refine (seg_Check.calls k a0_0 _ _ l0_1 t488 _ ?side1 ?side2 A2.out).mono ?_); (case side1 => repeat (first | exact (Kd.C_below HR0_1.out HB.out) | (with_reducible refine Kd.C_alloc ?_ _) | (with_reducible refine Kd.C_drewN ?_ _) | (with_reducible refine Kd.C_drew ?_))); (case side2 => exact HC0_1.out); rintro e w6 ⟨rfl, hb⟩; refine ⟨_, rfl, ?_⟩; replace BK487 := Aside0.mk (blk_below (g := gb487) (o := .cells #[.int .i64 a0_0, .slice A0_1 l0_1.length c0_1] 53 (0, 0)) (bk BK487.out) hb); replace HB := Aside0.mk (below_step bo hb); (try clear hb); (try clear hb2); (try clear hk); (try clear hi); obtain ⟨hcz7_0, hcz7_1⟩ := cl2 BK487.out; obtain ⟨hfz7_0, hfz7_1⟩ := fz2 BK487.out))
  go_loopg [5, 6, 19] k (fun kq v5 v6 v19 w' => ∃ (x5_1 : List (S77)) (x6_1 : Int) (x19_1 : Int), v6 = .int .i64 x6_1 ∧ v19 = .int .i64 x19_1 ∧ Aside0 (index_Marks.l0 kq x5_1 x6_1 l0_1 (l0_1.length : Int) x19_1 = some (r1, r2)) ∧ Aside0 (kq ≤ k) ∧ Aside0 (Kd.R k77 77 w' w.heap.size (fun _ => True) v5 x5_1) ∧ Aside0 (w'.heap[gb487]? = some (.cells #[.int .i64 a0_0, (.slice A0_1 l0_1.length c0_1)] 53 (0, 0))) ∧ Aside0 (Below w.heap.size w w'))
  case atStart => exact ⟨(([] : List (S77))), (0), (0), ap, ap, H', ⟨Nat.le_refl _⟩, ⟨by first | exact Kd.R_nil _ _ _ _ _ | exact Kd.N_nil _ _ _ _ _ | exact Kd.V_nil _ _ _ _ _ | exact Kd.Q_nil _ _ _ _ _ | exact Kd.S_nil _ _ _ _ _⟩, ⟨by (with_reducible repeat (first | refine blk_drewN ?_ _ | refine blk_drew ?_ | refine blk_alloc ?_ _)); exact BK487.out⟩, ⟨bo⟩⟩
  case round =>
   clear H'
   try clear p2
   try clear c3
   try clear c3b0
   try clear c3b1
   try clear c4
   try clear c5
   try clear hcz5_0
   try clear hcz5_1
   try clear hcz7_0
   try clear hcz7_1
   try clear hfz5_0
   try clear hfz5_1
   try clear hfz7_0
   try clear hfz7_1
   obtain ⟨x5_1, x6_1, x19_1, rfl, rfl, HA, HK1, HO_5, BK487, HB⟩ := hrel
   cases gk with
   | zero => exact absurd HA.out (by simp [index_Marks.l0])
   | succ k1 =>
    have H := HA.out
    clear HA
    simp only [index_Marks.l0] at H
    by_cases c8 : x19_1 < (l0_1.length : Int)
    ·rw [if_pos c8] at H
     have c8b0 : decide (x19_1 < (l0_1.length : Int)) = true := decide_eq_true c8
     clear c8
     by_cases c9 : 0 ≤ x19_1
     ·rw [if_pos c9] at H
      have c9b0 : decide (0 ≤ x19_1) = true := decide_eq_true c9
      clear c9
      by_cases c10 : x19_1 < (l0_1.length : Int)
      ·rw [if_pos c10] at H
       have c10b0 : decide (x19_1 < (l0_1.length : Int)) = true := decide_eq_true c10
       clear c10
       by_cases c11 : (Int.tmod x19_1 4) = 0
       ·rw [if_pos c11] at H
        have c11b0 : ((Int.tmod x19_1 4) == 0) = true := beq_iff_eq.mpr c11
        have c11b1 : ((Int.tmod x19_1 4) != 0) = false := bne_eq_false_iff_eq.mpr c11
        clear c11
        by_cases c12 : x5_1.length < 8796093022208
        ·rw [if_pos c12] at H
         have LMc12 := Aside0.mk c12
         clear c12
         obtain ⟨y491, hy491⟩ : ∃ y_ : List (S77), y_ = (x5_1 ++ [(⟨(rd_T25 l0_1 x19_1).f0, x6_1⟩ : S77)]) := ⟨_, rfl⟩
         replace H : ((rec_Size.f k1 ((rd_T25 l0_1 x19_1).f0) ((rd_T25 l0_1 x19_1).f1) ((rd_T25 l0_1 x19_1).f2) ((rd_T25 l0_1 x19_1).f3) ((rd_T25 l0_1 x19_1).f4) ((rd_T25 l0_1 x19_1).f5)).bind fun bt494 => (index_Marks.l0 k1 y491 (wrap64 (x6_1 + bt494.1)) l0_1 (l0_1.length : Int) (wrap64 (x19_1 + 1)))) = some (r1, r2) := by first | (rw [hy491]; with_reducible exact H) | (have H2_ := (Option.bind_some _ _).symm.trans H; rw [hy491]; with_reducible exact H2_) | (have H2_ := (Option.bind_some _ _).symm.trans H; with_reducible exact H2_) | with_reducible exact H | (rw [hy491]; exact H) | exact H
         have Ny491 := Aside0.mk hy491
         clear hy491
         replace H := Option.bind_eq_some_iff.mp H
         obtain ⟨⟨t494, t495⟩, A130, H⟩ := H
         replace H : (index_Marks.l0 k1 y491 (wrap64 (x6_1 + t494)) l0_1 (l0_1.length : Int) (wrap64 (x19_1 + 1))) = some (r1, r2) := H
         have A13 := Aside0.mk A130
         clear A130
         have H' := Aside0.mk H
         clear H
         have p489 : 0 ≤ (x19_1 : Int) := od
         have q489 : x19_1 < (l0_1.length : Int) := od
         obtain ⟨ad489, e489, hx489_0, hx489_1, hx489_2, hx489_3, hx489_4, hx489_5⟩ := at_T25 HR0_1.out x19_1 p489 q489
         cases e489
         replace hx489_0 := cx HB.out hx489_0
         replace hx489_1 := cx HB.out hx489_1
         replace hx489_2 := cx HB.out hx489_2
         replace hx489_3 := cx HB.out hx489_3
         replace hx489_4 := cx HB.out hx489_4
         replace hx489_5 := cx HB.out hx489_5
         replace p489 := eq_true p489
         replace q489 := eq_true q489
         go_wp2_with (first | ((with_reducible refine gate_dst (N := 8) rfl ?_); refine box_event ?hg (N := 8) ?hd (cs := #[.int .i64 0, .int .i64 0, .string (⟨#[]⟩ : ByteArray), .string (⟨#[]⟩ : ByteArray), .int .i64 0, .bool false]) (t := 25) ?hr ?_; (case hd => rfl); (case hg => rfl); (case hr => first | (go_simp; done) | (go_simp; rfl)); intro gb490 hg w14 hbox hb; have n0_ := Aside0.mk (Kd.R_below (rk HO_5.out) hb); have n1_ := Aside0.mk (blk_below (g := gb487) (o := .cells #[.int .i64 a0_0, .slice (some ad489) l0_1.length c0_1] 53 (0, 0)) (bk BK487.out) hb); have n2_ := Aside0.mk (below_step bo hb); have n3_ := Aside0.mk (hbox); have n4_ := Aside0.mk ((by rw [hg]; exact (below_size bo) : w.heap.size ≤ gb490)); have n5_ := Aside0.mk ((by rw [hg]; exact (below_size bo) : w.heap.size ≤ gb490)); have n6_ := Aside0.mk ((by rw [hg]; exact Nat.ne_of_lt (blk_lt (g := gb487) (o := .cells #[.int .i64 a0_0, .slice (some ad489) l0_1.length c0_1] 53 (0, 0)) (bk BK487.out)) : gb487 ≠ gb490)); have n7_ := Aside0.mk ((by rw [hg]; exact Nat.ne_of_gt (blk_lt (g := gb487) (o := .cells #[.int .i64 a0_0, .slice (some ad489) l0_1.length c0_1] 53 (0, 0)) (bk BK487.out)) : gb490 ≠ gb487)); clear HO_5; clear BK487; clear HB; have HO_5 := n0_; have BK487 := n1_; have HB := n2_; have BK490 := n3_; have GW490 := n4_; have GE490 := n5_; have NB487_490 := n6_; have NB490_487 := n7_; clear n0_ n1_ n2_ n3_ n4_ n5_ n6_ n7_; clear hb hbox hg; have hnb15 := NB490_487.out; have hnc15 := NB487_490.out; obtain ⟨hcz16_0, hcz16_1, hcz16_2, hcz16_3, hcz16_4, hcz16_5⟩ := cl6 BK490.out; obtain ⟨hfz16_0, hfz16_1, hfz16_2, hfz16_3, hfz16_4, hfz16_5⟩ := fz6 BK490.out) | ((with_reducible refine gate_builtin (b := .append) (xs := #[.tmp 27, .tmp 32]) rfl ?_); at_builtin; refine Kd.R_append k77 (w0 := w) w.heap.size rfl (.tmp 27) (.tmp 32) 75 77 (.agg #[(.int .i64 0), (.int .i64 0)]) 16 rfl Try.underlying75 info77 rfl (by decide) (by omega) u5 x5_1 (⟨(rd_T25 l0_1 x19_1).f0, x6_1⟩ : S77) [.int .i64 ((rd_T25 l0_1 x19_1).f0), .int .i64 x6_1] (fun _ => True) (fun _ => False) rfl (by first | (go_simp; done) | (go_simp; rfl)) ?aP (fun _ hk => hk.elim) ?aF ?aO ?aB ?aS ?aL ?_; (case aP => exact k77_mkM _ _ _ (⟨(rd_T25 l0_1 x19_1).f0, x6_1⟩ : S77)); (case aB => exact bo); (case aF => exact (fun _ _ => trivial)); (case aO => exact (by (with_reducible repeat (first | apply Kd.R_alloc | apply Kd.R_drewN | apply Kd.R_drew)); exact Kd.R_mono (Kd.R_far (p := ⟨gb490, 5, none⟩) (Kd.R_far (p := ⟨gb490, 4, none⟩) (Kd.R_far (p := ⟨gb490, 3, none⟩) (Kd.R_far (p := ⟨gb490, 2, none⟩) (Kd.R_far (p := ⟨gb490, 1, none⟩) (Kd.R_far (p := ⟨gb490, 0, none⟩) (Kd.R_types HO_5.out BK490.out (by decide)) (fun _ hk => hk.2) (.int .i64 ((rd_T25 l0_1 x19_1).f0))) (fun _ hk => hk.2) (.int .i64 ((rd_T25 l0_1 x19_1).f1))) (fun _ hk => hk.2) (.string ((rd_T25 l0_1 x19_1).f2))) (fun _ hk => hk.2) (.string ((rd_T25 l0_1 x19_1).f3))) (fun _ hk => hk.2) (.int .i64 ((rd_T25 l0_1 x19_1).f4))) (fun _ hk => hk.2) (.bool ((rd_T25 l0_1 x19_1).f5))) (fun _ hk => trivial))); (case aS => exact (below_size bo)); (case aL => have := LMc12.out; omega); intro v492 w17 ho hb hg hat; rw [← Ny491.out] at ho; have n0_ := Aside0.mk (blk_grown (g := gb487) (o := .cells #[.int .i64 a0_0, .slice (some ad489) l0_1.length c0_1] 53 (0, 0)) (by (with_reducible repeat (first | refine blk_drewN ?_ _ | refine blk_drew ?_ | refine blk_alloc ?_ _)); refine blk_far ?_ NB487_490.out _; (with_reducible repeat (first | refine blk_drewN ?_ _ | refine blk_drew ?_ | refine blk_alloc ?_ _)); refine blk_far ?_ NB487_490.out _; (with_reducible repeat (first | refine blk_drewN ?_ _ | refine blk_drew ?_ | refine blk_alloc ?_ _)); refine blk_far ?_ NB487_490.out _; (with_reducible repeat (first | refine blk_drewN ?_ _ | refine blk_drew ?_ | refine blk_alloc ?_ _)); refine blk_far ?_ NB487_490.out _; (with_reducible repeat (first | refine blk_drewN ?_ _ | refine blk_drew ?_ | refine blk_alloc ?_ _)); refine blk_far ?_ NB487_490.out _; (with_reducible repeat (first | refine blk_drewN ?_ _ | refine blk_drew ?_ | refine blk_alloc ?_ _)); refine blk_far ?_ NB487_490.out _; (with_reducible repeat (first | refine blk_drewN ?_ _ | refine blk_drew ?_ | refine blk_alloc ?_ _)); exact BK487.out) hg (Kd.R_ne HO_5.out BK487.out (by decide))); have n1_ := Aside0.mk (blk_grown (g := gb490) (o := .cells #[.int .i64 ((rd_T25 l0_1 x19_1).f0), .int .i64 ((rd_T25 l0_1 x19_1).f1), .string ((rd_T25 l0_1 x19_1).f2), .string ((rd_T25 l0_1 x19_1).f3), .int .i64 ((rd_T25 l0_1 x19_1).f4), .bool ((rd_T25 l0_1 x19_1).f5)] 25 (0, 0)) (by (with_reducible repeat (first | refine blk_drewN ?_ _ | refine blk_drew ?_ | refine blk_alloc ?_ _)); refine blk_put (cs := #[.int .i64 ((rd_T25 l0_1 x19_1).f0), .int .i64 ((rd_T25 l0_1 x19_1).f1), .string ((rd_T25 l0_1 x19_1).f2), .string ((rd_T25 l0_1 x19_1).f3), .int .i64 ((rd_T25 l0_1 x19_1).f4), .bool false]) ?_ 5 _ rfl; (with_reducible repeat (first | refine blk_drewN ?_ _ | refine blk_drew ?_ | refine blk_alloc ?_ _)); refine blk_put (cs := #[.int .i64 ((rd_T25 l0_1 x19_1).f0), .int .i64 ((rd_T25 l0_1 x19_1).f1), .string ((rd_T25 l0_1 x19_1).f2), .string ((rd_T25 l0_1 x19_1).f3), .int .i64 0, .bool false]) ?_ 4 _ rfl; (with_reducible repeat (first | refine blk_drewN ?_ _ | refine blk_drew ?_ | refine blk_alloc ?_ _)); refine blk_put (cs := #[.int .i64 ((rd_T25 l0_1 x19_1).f0), .int .i64 ((rd_T25 l0_1 x19_1).f1), .string ((rd_T25 l0_1 x19_1).f2), .string (⟨#[]⟩ : ByteArray), .int .i64 0, .bool false]) ?_ 3 _ rfl; (with_reducible repeat (first | refine blk_drewN ?_ _ | refine blk_drew ?_ | refine blk_alloc ?_ _)); refine blk_put (cs := #[.int .i64 ((rd_T25 l0_1 x19_1).f0), .int .i64 ((rd_T25 l0_1 x19_1).f1), .string (⟨#[]⟩ : ByteArray), .string (⟨#[]⟩ : ByteArray), .int .i64 0, .bool false]) ?_ 2 _ rfl; (with_reducible repeat (first | refine blk_drewN ?_ _ | refine blk_drew ?_ | refine blk_alloc ?_ _)); refine blk_put (cs := #[.int .i64 ((rd_T25 l0_1 x19_1).f0), .int .i64 0, .string (⟨#[]⟩ : ByteArray), .string (⟨#[]⟩ : ByteArray), .int .i64 0, .bool false]) ?_ 1 _ rfl; (with_reducible repeat (first | refine blk_drewN ?_ _ | refine blk_drew ?_ | refine blk_alloc ?_ _)); refine blk_put (cs := #[.int .i64 0, .int .i64 0, .string (⟨#[]⟩ : ByteArray), .string (⟨#[]⟩ : ByteArray), .int .i64 0, .bool false]) ?_ 0 _ rfl; (with_reducible repeat (first | refine blk_drewN ?_ _ | refine blk_drew ?_ | refine blk_alloc ?_ _)); exact BK490.out) hg (Kd.R_ne HO_5.out BK490.out (by decide))); have n2_ := Aside0.mk (hb); have n3_ := Aside0.mk (ho); clear BK487; clear BK490; clear HB; clear HO_5; have BK487 := n0_; have BK490 := n1_; have HB := n2_; have HO493 := n3_; clear n0_ n1_ n2_ n3_; clear ho hb hg hat; obtain ⟨hcz18_0, hcz18_1, hcz18_2, hcz18_3, hcz18_4, hcz18_5⟩ := cl6 BK490.out; obtain ⟨hfz18_0, hfz18_1, hfz18_2, hfz18_3, hfz18_4, hfz18_5⟩ := fz6 BK490.out) | ((with_reducible refine gate_callee (f := 21) rfl ?_); refine goesL_ (some 36) rfl rfl Try.func21 (by kernel_rfl) rfl #[.agg #[.int .i64 ((rd_T25 l0_1 x19_1).f0), .int .i64 ((rd_T25 l0_1 x19_1).f1), .string ((rd_T25 l0_1 x19_1).f2), .string ((rd_T25 l0_1 x19_1).f3), .int .i64 ((rd_T25 l0_1 x19_1).f4), .bool ((rd_T25 l0_1 x19_1).f5)]] rfl aa ?_; (with_reducible refine (rec_Size.calls k1 ((rd_T25 l0_1 x19_1).f0) ((rd_T25 l0_1 x19_1).f1) ((rd_T25 l0_1 x19_1).f2) ((rd_T25 l0_1 x19_1).f3) ((rd_T25 l0_1 x19_1).f4) ((rd_T25 l0_1 x19_1).f5) t494 t495 _ A13.out).mono ?_); rintro e w19 ⟨rfl, hb⟩; refine ⟨_, rfl, ?_⟩; replace HO493 := Aside0.mk (Kd.R_below (rk HO493.out) hb); replace BK487 := Aside0.mk (blk_below (g := gb487) (o := .cells #[.int .i64 a0_0, .slice (some ad489) l0_1.length c0_1] 53 (0, 0)) (bk BK487.out) hb); replace BK490 := Aside0.mk (blk_below (g := gb490) (o := .cells #[.int .i64 ((rd_T25 l0_1 x19_1).f0), .int .i64 ((rd_T25 l0_1 x19_1).f1), .string ((rd_T25 l0_1 x19_1).f2), .string ((rd_T25 l0_1 x19_1).f3), .int .i64 ((rd_T25 l0_1 x19_1).f4), .bool ((rd_T25 l0_1 x19_1).f5)] 25 (0, 0)) (bk BK490.out) hb); replace HB := Aside0.mk (below_step bo hb); (try clear hb); (try clear hb2); (try clear hk); (try clear hi)))
         go_roundg k1
         case measure => have := HK1.out; omega
         case rel => exact ⟨(y491), (wrap64 (x6_1 + t494)), (wrap64 (x19_1 + 1)), ap, ap, H', ⟨by have := HK1.out; omega⟩, ⟨by (with_reducible repeat (first | apply Kd.R_alloc | apply Kd.R_drewN | apply Kd.R_drew)); exact HO493.out⟩, ⟨by (with_reducible repeat (first | refine blk_drewN ?_ _ | refine blk_drew ?_ | refine blk_alloc ?_ _)); exact BK487.out⟩, ⟨bo⟩⟩
        ·rw [if_neg c12] at H
         exact absurd H (by simp)
       ·rw [if_neg c11] at H
        have c11b0 : ((Int.tmod x19_1 4) == 0) = false := beq_eq_false_iff_ne.mpr c11
        have c11b1 : ((Int.tmod x19_1 4) != 0) = true := bne_iff_ne.mpr c11
        replace H := Option.bind_eq_some_iff.mp H
        obtain ⟨⟨t496, t497⟩, A200, H⟩ := H
        replace H : (index_Marks.l0 k1 x5_1 (wrap64 (x6_1 + t496)) l0_1 (l0_1.length : Int) (wrap64 (x19_1 + 1))) = some (r1, r2) := H
        have A20 := Aside0.mk A200
        clear A200
        have H' := Aside0.mk H
        clear H
        have p489 : 0 ≤ (x19_1 : Int) := od
        have q489 : x19_1 < (l0_1.length : Int) := od
        obtain ⟨ad489, e489, hx489_0, hx489_1, hx489_2, hx489_3, hx489_4, hx489_5⟩ := at_T25 HR0_1.out x19_1 p489 q489
        cases e489
        replace hx489_0 := cx HB.out hx489_0
        replace hx489_1 := cx HB.out hx489_1
        replace hx489_2 := cx HB.out hx489_2
        replace hx489_3 := cx HB.out hx489_3
        replace hx489_4 := cx HB.out hx489_4
        replace hx489_5 := cx HB.out hx489_5
        replace p489 := eq_true p489
        replace q489 := eq_true q489
        go_wp2_with (first | ((with_reducible refine gate_dst (N := 8) rfl ?_); refine box_event ?hg (N := 8) ?hd (cs := #[.int .i64 0, .int .i64 0, .string (⟨#[]⟩ : ByteArray), .string (⟨#[]⟩ : ByteArray), .int .i64 0, .bool false]) (t := 25) ?hr ?_; (case hd => rfl); (case hg => rfl); (case hr => first | (go_simp; done) | (go_simp; rfl)); intro gb490 hg w21 hbox hb; have n0_ := Aside0.mk (Kd.R_below (rk HO_5.out) hb); have n1_ := Aside0.mk (blk_below (g := gb487) (o := .cells #[.int .i64 a0_0, .slice (some ad489) l0_1.length c0_1] 53 (0, 0)) (bk BK487.out) hb); have n2_ := Aside0.mk (below_step bo hb); have n3_ := Aside0.mk (hbox); have n4_ := Aside0.mk ((by rw [hg]; exact (below_size bo) : w.heap.size ≤ gb490)); have n5_ := Aside0.mk ((by rw [hg]; exact (below_size bo) : w.heap.size ≤ gb490)); have n6_ := Aside0.mk ((by rw [hg]; exact Nat.ne_of_lt (blk_lt (g := gb487) (o := .cells #[.int .i64 a0_0, .slice (some ad489) l0_1.length c0_1] 53 (0, 0)) (bk BK487.out)) : gb487 ≠ gb490)); have n7_ := Aside0.mk ((by rw [hg]; exact Nat.ne_of_gt (blk_lt (g := gb487) (o := .cells #[.int .i64 a0_0, .slice (some ad489) l0_1.length c0_1] 53 (0, 0)) (bk BK487.out)) : gb490 ≠ gb487)); clear HO_5; clear BK487; clear HB; have HO_5 := n0_; have BK487 := n1_; have HB := n2_; have BK490 := n3_; have GW490 := n4_; have GE490 := n5_; have NB487_490 := n6_; have NB490_487 := n7_; clear n0_ n1_ n2_ n3_ n4_ n5_ n6_ n7_; clear hb hbox hg; have hnb22 := NB490_487.out; have hnc22 := NB487_490.out; obtain ⟨hcz23_0, hcz23_1, hcz23_2, hcz23_3, hcz23_4, hcz23_5⟩ := cl6 BK490.out; obtain ⟨hfz23_0, hfz23_1, hfz23_2, hfz23_3, hfz23_4, hfz23_5⟩ := fz6 BK490.out) | ((with_reducible refine gate_callee (f := 21) rfl ?_); refine goesL_ (some 36) rfl rfl Try.func21 (by kernel_rfl) rfl #[.agg #[.int .i64 ((rd_T25 l0_1 x19_1).f0), .int .i64 ((rd_T25 l0_1 x19_1).f1), .string ((rd_T25 l0_1 x19_1).f2), .string ((rd_T25 l0_1 x19_1).f3), .int .i64 ((rd_T25 l0_1 x19_1).f4), .bool ((rd_T25 l0_1 x19_1).f5)]] rfl aa ?_; (with_reducible refine (rec_Size.calls k1 ((rd_T25 l0_1 x19_1).f0) ((rd_T25 l0_1 x19_1).f1) ((rd_T25 l0_1 x19_1).f2) ((rd_T25 l0_1 x19_1).f3) ((rd_T25 l0_1 x19_1).f4) ((rd_T25 l0_1 x19_1).f5) t496 t497 _ A20.out).mono ?_); rintro e w24 ⟨rfl, hb⟩; refine ⟨_, rfl, ?_⟩; replace HO_5 := Aside0.mk (Kd.R_below (by (with_reducible repeat (first | apply Kd.R_alloc | apply Kd.R_drewN | apply Kd.R_drew)); exact (Kd.R_mono (Kd.R_far (p := ⟨gb490, 5, none⟩) (Kd.R_far (p := ⟨gb490, 4, none⟩) (Kd.R_far (p := ⟨gb490, 3, none⟩) (Kd.R_far (p := ⟨gb490, 2, none⟩) (Kd.R_far (p := ⟨gb490, 1, none⟩) (Kd.R_far (p := ⟨gb490, 0, none⟩) (Kd.R_types HO_5.out BK490.out (by decide)) (fun _ hk => hk.2) (.int .i64 ((rd_T25 l0_1 x19_1).f0))) (fun _ hk => hk.2) (.int .i64 ((rd_T25 l0_1 x19_1).f1))) (fun _ hk => hk.2) (.string ((rd_T25 l0_1 x19_1).f2))) (fun _ hk => hk.2) (.string ((rd_T25 l0_1 x19_1).f3))) (fun _ hk => hk.2) (.int .i64 ((rd_T25 l0_1 x19_1).f4))) (fun _ hk => hk.2) (.bool ((rd_T25 l0_1 x19_1).f5))) (fun _ h_ => h_.1))) hb); replace BK487 := Aside0.mk (blk_below (g := gb487) (o := .cells #[.int .i64 a0_0, .slice (some ad489) l0_1.length c0_1] 53 (0, 0)) (by (with_reducible repeat (first | refine blk_drewN ?_ _ | refine blk_drew ?_ | refine blk_alloc ?_ _)); refine blk_far ?_ NB487_490.out _; (with_reducible repeat (first | refine blk_drewN ?_ _ | refine blk_drew ?_ | refine blk_alloc ?_ _)); refine blk_far ?_ NB487_490.out _; (with_reducible repeat (first | refine blk_drewN ?_ _ | refine blk_drew ?_ | refine blk_alloc ?_ _)); refine blk_far ?_ NB487_490.out _; (with_reducible repeat (first | refine blk_drewN ?_ _ | refine blk_drew ?_ | refine blk_alloc ?_ _)); refine blk_far ?_ NB487_490.out _; (with_reducible repeat (first | refine blk_drewN ?_ _ | refine blk_drew ?_ | refine blk_alloc ?_ _)); refine blk_far ?_ NB487_490.out _; (with_reducible repeat (first | refine blk_drewN ?_ _ | refine blk_drew ?_ | refine blk_alloc ?_ _)); refine blk_far ?_ NB487_490.out _; (with_reducible repeat (first | refine blk_drewN ?_ _ | refine blk_drew ?_ | refine blk_alloc ?_ _)); exact BK487.out) hb); replace BK490 := Aside0.mk (blk_below (g := gb490) (o := .cells #[.int .i64 ((rd_T25 l0_1 x19_1).f0), .int .i64 ((rd_T25 l0_1 x19_1).f1), .string ((rd_T25 l0_1 x19_1).f2), .string ((rd_T25 l0_1 x19_1).f3), .int .i64 ((rd_T25 l0_1 x19_1).f4), .bool ((rd_T25 l0_1 x19_1).f5)] 25 (0, 0)) (by (with_reducible repeat (first | refine blk_drewN ?_ _ | refine blk_drew ?_ | refine blk_alloc ?_ _)); refine blk_put (cs := #[.int .i64 ((rd_T25 l0_1 x19_1).f0), .int .i64 ((rd_T25 l0_1 x19_1).f1), .string ((rd_T25 l0_1 x19_1).f2), .string ((rd_T25 l0_1 x19_1).f3), .int .i64 ((rd_T25 l0_1 x19_1).f4), .bool false]) ?_ 5 _ rfl; (with_reducible repeat (first | refine blk_drewN ?_ _ | refine blk_drew ?_ | refine blk_alloc ?_ _)); refine blk_put (cs := #[.int .i64 ((rd_T25 l0_1 x19_1).f0), .int .i64 ((rd_T25 l0_1 x19_1).f1), .string ((rd_T25 l0_1 x19_1).f2), .string ((rd_T25 l0_1 x19_1).f3), .int .i64 0, .bool false]) ?_ 4 _ rfl; (with_reducible repeat (first | refine blk_drewN ?_ _ | refine blk_drew ?_ | refine blk_alloc ?_ _)); refine blk_put (cs := #[.int .i64 ((rd_T25 l0_1 x19_1).f0), .int .i64 ((rd_T25 l0_1 x19_1).f1), .string ((rd_T25 l0_1 x19_1).f2), .string (⟨#[]⟩ : ByteArray), .int .i64 0, .bool false]) ?_ 3 _ rfl; (with_reducible repeat (first | refine blk_drewN ?_ _ | refine blk_drew ?_ | refine blk_alloc ?_ _)); refine blk_put (cs := #[.int .i64 ((rd_T25 l0_1 x19_1).f0), .int .i64 ((rd_T25 l0_1 x19_1).f1), .string (⟨#[]⟩ : ByteArray), .string (⟨#[]⟩ : ByteArray), .int .i64 0, .bool false]) ?_ 2 _ rfl; (with_reducible repeat (first | refine blk_drewN ?_ _ | refine blk_drew ?_ | refine blk_alloc ?_ _)); refine blk_put (cs := #[.int .i64 ((rd_T25 l0_1 x19_1).f0), .int .i64 0, .string (⟨#[]⟩ : ByteArray), .string (⟨#[]⟩ : ByteArray), .int .i64 0, .bool false]) ?_ 1 _ rfl; (with_reducible repeat (first | refine blk_drewN ?_ _ | refine blk_drew ?_ | refine blk_alloc ?_ _)); refine blk_put (cs := #[.int .i64 0, .int .i64 0, .string (⟨#[]⟩ : ByteArray), .string (⟨#[]⟩ : ByteArray), .int .i64 0, .bool false]) ?_ 0 _ rfl; (with_reducible repeat (first | refine blk_drewN ?_ _ | refine blk_drew ?_ | refine blk_alloc ?_ _)); exact BK490.out) hb); replace HB := Aside0.mk (below_step bo hb); (try clear hb); (try clear hb2); (try clear hk); (try clear hi)))
        go_roundg k1
        case measure => have := HK1.out; omega
        case rel => exact ⟨(x5_1), (wrap64 (x6_1 + t496)), (wrap64 (x19_1 + 1)), ap, ap, H', ⟨by have := HK1.out; omega⟩, ⟨by (with_reducible repeat (first | apply Kd.R_alloc | apply Kd.R_drewN | apply Kd.R_drew)); exact HO_5.out⟩, ⟨by (with_reducible repeat (first | refine blk_drewN ?_ _ | refine blk_drew ?_ | refine blk_alloc ?_ _)); exact BK487.out⟩, ⟨bo⟩⟩
      ·rw [if_neg c10] at H
       exact absurd H (by simp)
     ·rw [if_neg c9] at H
      exact absurd H (by simp)
    ·rw [if_neg c8] at H
     have c8b0 : decide (x19_1 < (l0_1.length : Int)) = false := decide_eq_false c8
     clear c8
     simp only [Option.some.injEq, Prod.mk.injEq] at H
     obtain ⟨rfl, rfl⟩ := H
     go_wp2
     go_ret2
     exact ⟨_, er, by (with_reducible repeat (first | apply Kd.R_alloc | apply Kd.R_drewN | apply Kd.R_drew)); exact HO_5.out, bo⟩
 ·rw [if_neg c3] at H
  have c3b0 : (t488 == 0) = false := beq_eq_false_iff_ne.mpr c3
  have c3b1 : (t488 != 0) = true := bne_iff_ne.mpr c3
  simp only [Option.some.injEq, Prod.mk.injEq] at H
  obtain ⟨rfl, rfl⟩ := H
  go_enter Try.func54, Try.ntmps54
  go_wp2_with (first | ((with_reducible refine gate_dst (N := 1) rfl ?_); refine box_event ?hg (N := 1) ?hd (cs := #[.int .i64 a0_0, .slice A0_1 l0_1.length c0_1]) (t := 53) ?hr ?_; (case hd => rfl); (case hg => rfl); (case hr => first | (go_simp; done) | (go_simp; rfl)); intro gb487 hg w25 hbox hb; have n0_ := Aside0.mk (below_step bo hb); have n1_ := Aside0.mk (hbox); have n2_ := Aside0.mk ((by rw [hg]; exact (below_size bo) : w.heap.size ≤ gb487)); have n3_ := Aside0.mk ((by rw [hg]; exact (below_size bo) : w.heap.size ≤ gb487)); clear HB; have HB := n0_; have BK487 := n1_; have GW487 := n2_; have GE487 := n3_; clear n0_ n1_ n2_ n3_; clear hb hbox hg; obtain ⟨hcz26_0, hcz26_1⟩ := cl2 BK487.out; obtain ⟨hfz26_0, hfz26_1⟩ := fz2 BK487.out) | ((with_reducible refine gate_callee (f := 46) rfl ?_); refine goesL_ (some 12) rfl rfl Try.func46 (by kernel_rfl) rfl #[.agg #[.int .i64 a0_0, .slice A0_1 l0_1.length c0_1]] rfl aa ?_; (with_reducible refine (seg_Check.calls k a0_0 _ _ l0_1 t488 _ ?side1 ?side2 A2.out).mono ?_); (case side1 => repeat (first | exact (Kd.C_below HR0_1.out HB.out) | (with_reducible refine Kd.C_alloc ?_ _) | (with_reducible refine Kd.C_drewN ?_ _) | (with_reducible refine Kd.C_drew ?_))); (case side2 => exact HC0_1.out); rintro e w27 ⟨rfl, hb⟩; refine ⟨_, rfl, ?_⟩; replace BK487 := Aside0.mk (blk_below (g := gb487) (o := .cells #[.int .i64 a0_0, .slice A0_1 l0_1.length c0_1] 53 (0, 0)) (bk BK487.out) hb); replace HB := Aside0.mk (below_step bo hb); (try clear hb); (try clear hb2); (try clear hk); (try clear hi)))
  go_ret2
  exact ⟨_, er, by first | exact Kd.R_nil _ _ _ _ _ | exact Kd.N_nil _ _ _ _ _ | exact Kd.V_nil _ _ _ _ _ | exact Kd.Q_nil _ _ _ _ _ | exact Kd.S_nil _ _ _ _ _, bo⟩

end Go.Proofs.Ytmabdfdmccbfnaa.P

-- written by a program of the proving session, out of the translation; Lean checks it
namespace Go.Proofs.Ytmabdfdmccbfnaa.P
open Go.RowKit Go.Proofs.Ytmabdfdmccbfnaa.Sq Go.Proofs.YtmabdfdmccbfnaaW.PrintWords Go.Proofs.YtmabdfdmccbfnaaW.PrintLast Go.Proofs.YtmabdfdmccbfnaaW.PrintMore
attribute [local go_sem] max2_int min2_int max_two min_two max_three min_three max_four min_four   -- for this text's walks alone
set_option linter.unusedVariables false
set_option linter.unusedSimpArgs false

/-! ### fairwaylaw10_R: function 67 -/
def fairwaylaw10_R.f (a0 : Int) (a1 : Int) (a2 : ByteArray) (a3 : ByteArray) : Option (Int × Int × ByteArray × ByteArray × Int × Bool) := some (a0, a1, a2, a3, 1, false)
set_option maxHeartbeats 8000000 in
set_option maxRecDepth 100000 in
theorem fairwaylaw10_R.calls (a0 : Int) (a1 : Int) (a2 : ByteArray) (a3 : ByteArray) (r1 : Int) (r2 : Int) (r3 : ByteArray) (r4 : ByteArray) (r5 : Int) (r6 : Bool) (w : World) (h : fairwaylaw10_R.f a0 a1 a2 a3 = some (r1, r2, r3, r4, r5, r6)) :
 Calls Try.prog 67 #[.int .i64 a0, .int .i64 a1, .string a2, .string a3] w fun e w' => e = .returned (.agg #[.int .i64 r1, .int .i64 r2, .string r3, .string r4, .int .i64 r5, .bool r6]) ∧ Below w.heap.size w w' := by
 have hu25 := Try.underlying25
 have HB := Aside0.mk (Below.refl w.heap.size w)
 have H : (some (a0, a1, a2, a3, 1, false)) = some (r1, r2, r3, r4, r5, r6) := h
 clear h
 simp only [Option.some.injEq, Prod.mk.injEq] at H
 obtain ⟨rfl, rfl, rfl, rfl, rfl, rfl⟩ := H
 go_enter Try.func67, Try.ntmps67
 go_wp2_with (first | ((with_reducible refine gate_dst (N := 8) rfl ?_); refine box_event ?hg (N := 8) ?hd (cs := #[.int .i64 0, .int .i64 0, .string (⟨#[]⟩ : ByteArray), .string (⟨#[]⟩ : ByteArray), .int .i64 0, .bool false]) (t := 25) ?hr ?_; (case hd => rfl); (case hg => rfl); (case hr => first | (go_simp; done) | (go_simp; rfl)); intro gb161 hg w5 hbox hb; have n0_ := Aside0.mk (below_step bo hb); have n1_ := Aside0.mk (hbox); have n2_ := Aside0.mk ((by rw [hg]; exact (below_size bo) : w.heap.size ≤ gb161)); have n3_ := Aside0.mk ((by rw [hg]; exact (below_size bo) : w.heap.size ≤ gb161)); clear HB; have HB := n0_; have BK161 := n1_; have GW161 := n2_; have GE161 := n3_; clear n0_ n1_ n2_ n3_; clear hb hbox hg; obtain ⟨hcz6_0, hcz6_1, hcz6_2, hcz6_3, hcz6_4, hcz6_5⟩ := cl6 BK161.out; obtain ⟨hfz6_0, hfz6_1, hfz6_2, hfz6_3, hfz6_4, hfz6_5⟩ := fz6 BK161.out))
 refine bodyPost_ret (results_cell_row rfl _ _ gb161 25 #[.int .i64 a0, .int .i64 a1, .string a2, .string a3, .int .i64 1, .bool false] (0, 0) _ rfl (by (with_reducible repeat (first | refine blk_drewN ?_ _ | refine blk_drew ?_ | refine blk_alloc ?_ _)); refine blk_put (cs := #[.int .i64 a0, .int .i64 a1, .string a2, .string a3, .int .i64 1, .bool false]) ?_ 5 _ rfl; (with_reducible repeat (first | refine blk_drewN ?_ _ | refine blk_drew ?_ | refine blk_alloc ?_ _)); refine blk_put (cs := #[.int .i64 a0, .int .i64 a1, .string a2, .string a3, .int .i64 0, .bool false]) ?_ 4 _ rfl; (with_reducible repeat (first | refine blk_drewN ?_ _ | refine blk_drew ?_ | refine blk_alloc ?_ _)); refine blk_put (cs := #[.int .i64 a0, .int .i64 a1, .string a2, .string (⟨#[]⟩ : ByteArray), .int .i64 0, .bool false]) ?_ 3 _ rfl; (with_reducible repeat (first | refine blk_drewN ?_ _ | refine blk_drew ?_ | refine blk_alloc ?_ _)); refine blk_put (cs := #[.int .i64 a0, .int .i64 a1, .string (⟨#[]⟩ : ByteArray), .string (⟨#[]⟩ : ByteArray), .int .i64 0, .bool false]) ?_ 2 _ rfl; (with_reducible repeat (first | refine blk_drewN ?_ _ | refine blk_drew ?_ | refine blk_alloc ?_ _)); refine blk_put (cs := #[.int .i64 a0, .int .i64 0, .string (⟨#[]⟩ : ByteArray), .string (⟨#[]⟩ : ByteArray), .int .i64 0, .bool false]) ?_ 1 _ rfl; (with_reducible repeat (first | refine blk_drewN ?_ _ | refine blk_drew ?_ | refine blk_alloc ?_ _)); refine blk_put (cs := #[.int .i64 0, .int .i64 0, .string (⟨#[]⟩ : ByteArray), .string (⟨#[]⟩ : ByteArray), .int .i64 0, .bool false]) ?_ 0 _ rfl; (with_reducible repeat (first | refine blk_drewN ?_ _ | refine blk_drew ?_ | refine blk_alloc ?_ _)); exact BK161.out) Try.underlying25 rfl (by kernel_rfl)) rfl ?_
 exact ⟨er, bo⟩

end Go.Proofs.Ytmabdfdmccbfnaa.P

-- written by a program of the proving session, out of the translation; Lean checks it
namespace Go.Proofs.Ytmabdfdmccbfnaa.P
open Go.RowKit Go.Proofs.Ytmabdfdmccbfnaa.Sq Go.Proofs.YtmabdfdmccbfnaaW.PrintWords Go.Proofs.YtmabdfdmccbfnaaW.PrintLast Go.Proofs.YtmabdfdmccbfnaaW.PrintMore
attribute [local go_sem] max2_int min2_int max_two min_two max_three min_three max_four min_four   -- for this text's walks alone
set_option linter.unusedVariables false
set_option linter.unusedSimpArgs false

/-! ### fairwaylaw12_wakes: function 53 -/
def fairwaylaw12_wakes.l0 : Nat → Int → Int → List (S25) → Option (Bool)
 | 0, _, _, _ => none
 | k + 1, x2, x499000, x499001 => if x2 < 9 then ((fairwaylaw10_R.f x2 0 (⟨#[]⟩ : ByteArray) (⟨#[120]⟩ : ByteArray)).bind fun bt499 => (if x499001.length < 2199023255552 then (fairwaylaw12_wakes.l0 k (wrap64 (x2 + 1)) x499000 (x499001 ++ [(⟨bt499.1, bt499.2.1, bt499.2.2.1, bt499.2.2.2.1, bt499.2.2.2.2.1, bt499.2.2.2.2.2⟩ : S25)])) else (none))) else ((index_Marks.f k x499000 x499001).bind fun bt508 => ((fairwaylaw12_num.f bt508.2).bind fun t512 => (if t512 = 0 then (if (bt508.1.length : Int) = 3 then (if 2 < (bt508.1.length : Int) then (some (((rd_T77 bt508.1 2).f0) == 8)) else (none)) else (some false)) else (some false))))
def fairwaylaw12_wakes.f (k : Nat)  : Option (Bool) := fairwaylaw12_wakes.l0 k 0 0 ([] : List (S25))
theorem fairwaylaw12_wakes.mono_l : ∀ k, (∀ y0 y1 y2, LeO (fairwaylaw12_wakes.l0 k y0 y1 y2) (fairwaylaw12_wakes.l0 (k + 1) y0 y1 y2))
 | 0 => fun _ _ _ r h => by simp [fairwaylaw12_wakes.l0] at h
 | k + 1 => by
  have ih0 := fairwaylaw12_wakes.mono_l k
  ·intro y0 y1 y2
   unfold fairwaylaw12_wakes.l0
   repeat' first
   | (with_reducible exact ih0 _ _ _)
   | (with_reducible exact index_Marks.mono _ _ _)
   | (with_reducible exact LeO.refl _)
   | (with_reducible exact LeO.none _)
   | (with_reducible refine LeO.ite ?_ ?_)
   | (with_reducible refine LeO.bind ?_ (fun _ => ?_))
   | exact ih0 _ _ _
   | exact index_Marks.mono _ _ _
   | exact LeO.none _
   | refine LeO.ite ?_ ?_
   | refine LeO.bind ?_ (fun _ => ?_)
theorem fairwaylaw12_wakes.mono : ∀ k, LeO (fairwaylaw12_wakes.f k ) (fairwaylaw12_wakes.f (k + 1) ) := by
 intro  k
 have ih0 := fairwaylaw12_wakes.mono_l k
 unfold fairwaylaw12_wakes.f
 repeat' first
  | (with_reducible exact ih0 _ _ _)
  | (with_reducible exact index_Marks.mono _ _ _)
  | (with_reducible exact LeO.refl _)
  | (with_reducible exact LeO.none _)
  | (with_reducible refine LeO.ite ?_ ?_)
  | (with_reducible refine LeO.bind ?_ (fun _ => ?_))
  | exact ih0 _ _ _
  | exact index_Marks.mono _ _ _
  | exact LeO.none _
  | refine LeO.ite ?_ ?_
  | refine LeO.bind ?_ (fun _ => ?_)
def fairwaylaw12_wakes.T5 : Bool × List (List Nat × List Nat) := (true, [([], []), ([0], [0]), ([], []), ([2], [2]), ([3], [3]), ([1, 4, 3], [1, 4]), ([0, 1, 2, 3, 4, 5], []), ([6, 5, 5, 0, 1, 2, 3, 4, 5], [5, 6])])
def fairwaylaw12_wakes.B5 : List Nat := [0, 1, 0, 4, 12, 31, 63, 127]
theorem fairwaylaw12_wakes.tab5 : rtab .any (opsOf Try.f53 5) = fairwaylaw12_wakes.T5 := by kernel_rfl
theorem fairwaylaw12_wakes.bits5 : waitsOk fairwaylaw12_wakes.T5.2 fairwaylaw12_wakes.B5 = true := by kernel_rfl
set_option maxHeartbeats 8000000 in
set_option maxRecDepth 100000 in
theorem fairwaylaw12_wakes.calls (k : Nat)  (r : Bool) (w : World) (h : fairwaylaw12_wakes.f k  = some r) :
 Calls Try.prog 53 #[] w fun e w' => e = .returned (.bool r) ∧ Below w.heap.size w w' := by
 have hu53 := Try.underlying53
 have HB := Aside0.mk (Below.refl w.heap.size w)
 have H : (fairwaylaw12_wakes.l0 k 0 0 ([] : List (S25))) = some r := h
 clear h
 have H' := Aside0.mk H
 clear H
 go_enter Try.func53, Try.ntmps53
 go_wp2_with (first | ((with_reducible refine gate_dst (N := 1) rfl ?_); (try (refine gate_guard (by rfl) ?_; dsimp only)); refine box_event ?hg (N := 1) ?hd (cs := #[.int .i64 0, .slice none 0 0]) (t := 53) ?hr ?_; (case hd => rfl); (case hg => rfl); (case hr => first | (go_simp; done) | (go_simp; rfl)); intro gb498 hg w1 hbox hb; have n0_ := Aside0.mk (below_step bo hb); have n1_ := Aside0.mk (hbox); have n2_ := Aside0.mk ((by rw [hg]; exact (below_size bo) : w.heap.size ≤ gb498)); have n3_ := Aside0.mk ((by rw [hg]; exact (below_size bo) : w.heap.size ≤ gb498)); clear HB; have HB := n0_; have BK498 := n1_; have GW498 := n2_; have GE498 := n3_; clear n0_ n1_ n2_ n3_; clear hb hbox hg))
 go_loopg [2] k (fun kq v2 w' => ∃ (x2_1 : Int) (x499001_1 : List (S25)) (u499001 : Value), v2 = .int .i64 x2_1 ∧ Aside0 (fairwaylaw12_wakes.l0 kq x2_1 0 x499001_1 = some r) ∧ Aside0 (kq ≤ k) ∧ Aside0 (Kd.R k25 25 w' w.heap.size (fun _ => True) u499001 x499001_1) ∧ Aside0 (w'.heap[gb498]? = some (.cells #[.int .i64 0, u499001] 53 (0, 0))) ∧ Aside0 (Below w.heap.size w w'))
 case atStart => exact ⟨(0), (([] : List (S25))), (.slice none 0 0), ap, H', ⟨Nat.le_refl _⟩, ⟨by first | exact Kd.R_nil _ _ _ _ _ | exact Kd.N_nil _ _ _ _ _ | exact Kd.V_nil _ _ _ _ _ | exact Kd.Q_nil _ _ _ _ _ | exact Kd.S_nil _ _ _ _ _⟩, ⟨by (with_reducible repeat (first | refine blk_drewN ?_ _ | refine blk_drew ?_ | refine blk_alloc ?_ _)); exact BK498.out⟩, ⟨bo⟩⟩
 case round =>
  clear H'
  obtain ⟨x2_1, x499001_1, u499001, rfl, HA, HK1, HO_499001, BK498, HB⟩ := hrel
  cases gk with
  | zero => exact absurd HA.out (by simp [fairwaylaw12_wakes.l0])
  | succ k1 =>
   have H := HA.out
   clear HA
   simp only [fairwaylaw12_wakes.l0] at H
   by_cases c2 : x2_1 < 9
   ·rw [if_pos c2] at H
    have c2b0 : decide (x2_1 < 9) = true := decide_eq_true c2
    clear c2
    replace H := Option.bind_eq_some_iff.mp H
    obtain ⟨⟨t499, t500, t501, t502, t503, t504⟩, A30, H⟩ := H
    replace H : (if x499001_1.length < 2199023255552 then (fairwaylaw12_wakes.l0 k1 (wrap64 (x2_1 + 1)) 0 (x499001_1 ++ [(⟨t499, t500, t501, t502, t503, t504⟩ : S25)])) else (none)) = some r := H
    have A3 := Aside0.mk A30
    clear A30
    by_cases c4 : x499001_1.length < 2199023255552
    ·rw [if_pos c4] at H
     have LMc4 := Aside0.mk c4
     clear c4
     obtain ⟨y505, hy505⟩ : ∃ y_ : List (S25), y_ = (x499001_1 ++ [(⟨t499, t500, t501, t502, t503, t504⟩ : S25)]) := ⟨_, rfl⟩
     replace H : (fairwaylaw12_wakes.l0 k1 (wrap64 (x2_1 + 1)) 0 y505) = some r := by first | (rw [hy505]; with_reducible exact H) | (have H2_ := (Option.bind_some _ _).symm.trans H; rw [hy505]; with_reducible exact H2_) | (have H2_ := (Option.bind_some _ _).symm.trans H; with_reducible exact H2_) | with_reducible exact H | (rw [hy505]; exact H) | exact H
     have Ny505 := Aside0.mk hy505
     clear hy505
     have H' := Aside0.mk H
     clear H
     try go_wp2
     have n0_ := Aside0.mk (Kd.R_drew HO_499001.out)
     have n1_ := Aside0.mk (blk_drew BK498.out)
     have n2_ := Aside0.mk (below_drew1 HB.out)
     clear HO_499001
     clear BK498
     clear HB
     have HO_499001 := n0_
     have BK498 := n1_
     have HB := n2_
     clear n0_ n1_ n2_
     refine start_ (n := 8) (S := fun w' => w'.cell? ⟨gb498, 0, none⟩ = some (.int .i64 0) ∧ w'.cell? ⟨gb498, 1, none⟩ = some (u499001)) (ds := [7]) #[O,O,O,O,O,O,O,O] (by kernel_rfl) rfl rfl ⟨(blk_cell BK498.out 0).trans rfl, (blk_cell BK498.out 1).trans rfl⟩ (fun hHeld => ?_); refine with_tabW fairwaylaw12_wakes.tab5 fairwaylaw12_wakes.bits5 (fun HT_ HW_ => ?_)
     generalize wr.drew = w5 at HO_499001 BK498 HB hHeld ⊢
     refine pz (i := 0) (N := some 9) #[I,O,O,O,O,O,O,O] ?_
     refine pz (i := 2) (N := some 11) #[I,O,I,O,O,O,O,O] ?_
     refine tz (i := 1) (N := some 10) #[I,I,I,O,O,O,O,O] ?_
     refine one_ (i := 3) (N := some 12) #[I,I,I,I,O,O,O,O] rfl rfl (one_of HT_.out (by kernel_rfl)) (by decide) (fun K hK => ?_)
     refine goes_ Try.func67 (by kernel_rfl) rfl #[.int .i64 x2_1, .int .i64 0, .string (⟨#[]⟩ : ByteArray), .string (⟨#[120]⟩ : ByteArray)] (by rfl) rfl rfl aa ?_
     with_reducible refine (fairwaylaw10_R.calls x2_1 0 (⟨#[]⟩ : ByteArray) (⟨#[120]⟩ : ByteArray) t499 t500 t501 t502 t503 t504 _ A3.out).mono ?_
     rintro e w6 ⟨rfl, hb⟩
     refine ⟨_, rfl, ?_⟩
     have n0_ := Aside0.mk (Kd.R_below (rk HO_499001.out) hb)
     have n1_ := Aside0.mk (blk_below (g := gb498) (o := .cells #[.int .i64 0, u499001] 53 (0, 0)) (bk BK498.out) hb)
     have n2_ := Aside0.mk (below_step bo hb)
     clear HO_499001
     clear BK498
     clear HB
     have HO_499001 := n0_
     have BK498 := n1_
     have HB := n2_
     clear n0_ n1_ n2_
     (try clear hb)
     (try clear hb2)
     (try clear hk)
     (try clear hi)
     refine hK.out _ _ ⟨(blk_cell BK498.out 0).trans rfl, (blk_cell BK498.out 1).trans rfl⟩ (fun hHeld => ?_)
     clear hK K
     refine norm_ (a' := ?_) ?_ ?_
     rotate_left
     ·show Act.put _ (some 12) _ = _
      simp only [Act.put, List.setIfInBounds_toArray, List.set_cons_zero, List.set_cons_succ, i64_w, i32_w]
      rfl
     refine one_ (i := 4) (N := some 13) #[I,I,I,I,I,O,O,O] rfl rfl (one_of HT_.out (by kernel_rfl)) (by decide) (fun K hK => ?_)
     refine value_ (w1 := ?_) (v := ?_) (by rfl) rfl ?_ ?_
     rotate_left 2
     ·go_simp
      constructor
      ·rfl
      ·rfl
     refine hK.out _ _ ⟨(blk_cell (blk_alloc BK498.out _) 0).trans rfl, (blk_cell (blk_alloc BK498.out _) 1).trans rfl⟩ (fun hHeld => ?_)
     clear hK K
     refine norm_ (a' := ?_) ?_ ?_
     rotate_left
     ·show Act.put _ (some 13) _ = _
      simp only [Act.put, List.setIfInBounds_toArray, List.set_cons_zero, List.set_cons_succ, i64_w, i32_w]
      rfl
     refine one_ (i := 5) (N := some 14) #[I,I,I,I,I,I,O,O] rfl rfl (one_of HT_.out (by kernel_rfl)) (by decide) (fun K hK => ?_)
     refine Kd.R_append_step k25 (w0 := w) w.heap.size (by rfl) (.tmp 10) (.tmp 13) 36 25 (.agg #[(.int .i64 0), (.int .i64 0), (.string ⟨#[]⟩), (.string ⟨#[]⟩), (.int .i64 0), (.bool false)]) 64 rfl Try.underlying36 info25 rfl (by decide) (by omega) u499001 x499001_1 (⟨t499, t500, t501, t502, t503, t504⟩ : S25) [.int .i64 t499, .int .i64 t500, .string t501, .string t502, .int .i64 t503, .bool t504] (fun _ => True) (fun _ => False) rfl rfl ?aP (fun _ hk => hk.elim) ?aF ?aO ?aB ?aS ?aL ?_
     (case aP => exact k25_mkM _ _ _ (⟨t499, t500, t501, t502, t503, t504⟩ : S25))
     (case aB => exact bo)
     (case aF => exact (fun _ _ => trivial))
     (case aO => exact (rk HO_499001.out))
     (case aS => exact (below_size bo))
     (case aL => have := LMc4.out; omega)
     intro v506 w7 ho hb hg hat
     rw [← Ny505.out] at ho
     have n0_ := Aside0.mk (blk_grown (g := gb498) (o := .cells #[.int .i64 0, u499001] 53 (0, 0)) (bk BK498.out) hg (Kd.R_ne HO_499001.out BK498.out (by decide)))
     have n1_ := Aside0.mk (hb)
     have n2_ := Aside0.mk (ho)
     clear BK498
     clear HB
     clear HO_499001
     have BK498 := n0_
     have HB := n1_
     have HO507 := n2_
     clear n0_ n1_ n2_
     clear ho hb hg hat
     obtain ⟨Ao8, co8, eo8⟩ := Kd.R_slice HO507.out
     (first | subst eo8 | (injection eo8 with f1_ f2_ f3_; have f4_ := f1_.symm; have f5_ := f3_.symm; clear f1_ f2_ f3_; subst f4_; subst f5_))
     refine hK.out _ _ ⟨(blk_cell BK498.out 0).trans rfl, (blk_cell BK498.out 1).trans rfl⟩ (fun hHeld => ?_)
     clear hK K
     refine norm_ (a' := ?_) ?_ ?_
     rotate_left
     ·show Act.put _ (some 14) _ = _
      simp only [Act.put, List.setIfInBounds_toArray, List.set_cons_zero, List.set_cons_succ, i64_w, i32_w]
      rfl
     refine pz (i := 6) (N := some 15) #[I,I,I,I,I,I,I,O] ?_
     refine last_ (i := 7) (N := none) #[I,I,I,I,I,I,I,I] rfl rfl (one_of HT_.out (by kernel_rfl)) (by decide) (fun K hK => ?_)
     have hs9 : w7.cell? ⟨gb498, 1, none⟩ = some (u499001) := (blk_cell BK498.out 1).trans rfl
     have hfs9 := blk_frozen BK498.out 1
     refine skip_ (w1 := ?_) (by rfl) rfl ?_ ?_
     rotate_left
     ·go_simp
      rfl
     refine hK.out _ _ ?_
     clear hK K
     refine done_ (done_of HT_.out (by kernel_rfl)) ?_
     try go_wp2
     go_roundg k1
     case measure => have := HK1.out; omega
     case rel => exact ⟨(wrap64 (x2_1 + 1)), (y505), (.slice Ao8 y505.length co8), ap, H', ⟨by have := HK1.out; omega⟩, ⟨by (with_reducible repeat (first | apply Kd.R_alloc | apply Kd.R_drewN | apply Kd.R_drew)); exact Kd.R_mono (Kd.R_far (p := ⟨gb498, 1, none⟩) (Kd.R_types HO507.out BK498.out (by decide)) (fun _ hk => hk.2) (.slice Ao8 y505.length co8)) (fun _ hk => trivial)⟩, ⟨by (with_reducible repeat (first | refine blk_drewN ?_ _ | refine blk_drew ?_ | refine blk_alloc ?_ _)); refine blk_put (cs := #[.int .i64 0, u499001]) ?_ 1 _ rfl; (with_reducible repeat (first | refine blk_drewN ?_ _ | refine blk_drew ?_ | refine blk_alloc ?_ _)); exact BK498.out⟩, ⟨bo⟩⟩
    ·rw [if_neg c4] at H
     exact absurd H (by simp)
   ·rw [if_neg c2] at H
    have c2b0 : decide (x2_1 < 9) = false := decide_eq_false c2
    clear c2
    replace H := Option.bind_eq_some_iff.mp H
    obtain ⟨⟨t508, t511⟩, A100, H⟩ := H
    replace H : ((fairwaylaw12_num.f t511).bind fun t512 => (if t512 = 0 then (if (t508.length : Int) = 3 then (if 2 < (t508.length : Int) then (some (((rd_T77 t508 2).f0) == 8)) else (none)) else (some false)) else (some false))) = some r := H
    have A10 := Aside0.mk A100
    clear A100
    replace H := Option.bind_eq_some_iff.mp H
    obtain ⟨t512, A110, H⟩ := H
    replace H : (if t512 = 0 then (if (t508.length : Int) = 3 then (if 2 < (t508.length : Int) then (some (((rd_T77 t508 2).f0) == 8)) else (none)) else (some false)) else (some false)) = some r := H
    have A11 := Aside0.mk A110
    clear A110
    by_cases c12 : t512 = 0
    ·rw [if_pos c12] at H
     have c12b0 : (t512 == 0) = true := beq_iff_eq.mpr c12
     have c12b1 : (t512 != 0) = false := bne_eq_false_iff_eq.mpr c12
     clear c12
     by_cases c13 : (t508.length : Int) = 3
     ·rw [if_pos c13] at H
      have c13b0 : ((t508.length : Int) == 3) = true := beq_iff_eq.mpr c13
      have c13b1 : ((t508.length : Int) != 3) = false := bne_eq_false_iff_eq.mpr c13
      clear c13
      by_cases c14 : 2 < (t508.length : Int)
      ·rw [if_pos c14] at H
       have c14b0 : decide (2 < (t508.length : Int)) = true := decide_eq_true c14
       have c14b1 : decide (2 < t508.length) = true := decide_eq_true (by omega)
       clear c14
       obtain rfl := Option.some.inj H
       have hcz15_0 : wr.cell? ⟨gb498, 0, none⟩ = some (.int .i64 0) := (blk_cell BK498.out 0).trans rfl
       have hcz15_1 : wr.cell? ⟨gb498, 1, none⟩ = some (u499001) := (blk_cell BK498.out 1).trans rfl
       have hfz15_0 := blk_frozen BK498.out 0
       have hfz15_1 := blk_frozen BK498.out 1
       obtain ⟨Ao16, co16, eo16⟩ := Kd.R_slice HO_499001.out
       subst eo16
       go_wp2_with (first | ((with_reducible refine gate_callee (f := 54) rfl ?_); refine goesL_ (some 18) rfl rfl Try.func54 (by kernel_rfl) rfl #[.agg #[.int .i64 0, .slice Ao16 x499001_1.length co16]] rfl aa ?_; (with_reducible refine (index_Marks.calls k1 0 _ _ x499001_1 t508 t511 _ ?side1 ?side2 A10.out).mono ?_); (case side1 => repeat (first | exact (Kd.R_reads' HO_499001.out).2.2 | (with_reducible refine Kd.C_alloc ?_ _) | (with_reducible refine Kd.C_drewN ?_ _) | (with_reducible refine Kd.C_drew ?_))); (case side2 => exact (Kd.R_reads' HO_499001.out).2.1); rintro e w17 ⟨v509, rfl, ho0, hb⟩; refine ⟨_, rfl, ?_⟩; replace HO_499001 := Aside0.mk (Kd.R_below (rk HO_499001.out) hb); have HO510 := Aside0.mk (Kd.R_lower ho0 (below_size bo)); replace BK498 := Aside0.mk (blk_below (g := gb498) (o := .cells #[.int .i64 0, .slice Ao16 x499001_1.length co16] 53 (0, 0)) (bk BK498.out) hb); replace HB := Aside0.mk (below_step bo hb); (try clear hb); (try clear hb2); (try clear hk); (try clear hi); (try clear ho0)) | ((with_reducible refine gate_callee (f := 52) rfl ?_); refine goesL_ (some 22) rfl rfl Try.func52 (by kernel_rfl) rfl #[.int .i64 t511] rfl aa ?_; (with_reducible refine (fairwaylaw12_num.calls t511 t512 _ A11.out).mono ?_); rintro e w' ⟨rfl, ⟨nd, rfl⟩⟩; refine ⟨_, rfl, ?_⟩; obtain ⟨Ao18, co18, eo18⟩ := Kd.R_slice HO510.out; subst eo18; have p513 : 0 ≤ (2 : Int) := (by omega); have q513 : 2 < (t508.length : Int) := od; obtain ⟨ad513, e513, hx513_0, hx513_1⟩ := at_T77 (Kd.R_reads' HO510.out).2.2 2 p513 q513; cases e513; (try simp only [show (2 : Int).toNat = 2 from rfl, Nat.reduceMul, Nat.reduceEqDiff, Go.Addr.add, ↓reduceIte] at hx513_0); (try simp only [show (2 : Int).toNat = 2 from rfl, Nat.reduceMul, Nat.reduceEqDiff, Go.Addr.add, ↓reduceIte] at hx513_1); have qi513 : (2 < t508.length) = True := eq_true (by omega); (try rw [show ((2 : Int)).toNat = 2 from rfl] at hx513_0); (try rw [show 2 * 2 = 4 from rfl] at hx513_0); (try rw [show ((2 : Int)).toNat = 2 from rfl] at hx513_1); (try rw [show 2 * 2 = 4 from rfl] at hx513_1); replace p513 := eq_true p513; replace q513 := eq_true q513))
       go_ret
       exact ⟨er, bo⟩
      ·rw [if_neg c14] at H
       exact absurd H (by simp)
     ·rw [if_neg c13] at H
      have c13b0 : ((t508.length : Int) == 3) = false := beq_eq_false_iff_ne.mpr c13
      have c13b1 : ((t508.length : Int) != 3) = true := bne_iff_ne.mpr c13
      obtain rfl := Option.some.inj H
      have hcz19_0 : wr.cell? ⟨gb498, 0, none⟩ = some (.int .i64 0) := (blk_cell BK498.out 0).trans rfl
      have hcz19_1 : wr.cell? ⟨gb498, 1, none⟩ = some (u499001) := (blk_cell BK498.out 1).trans rfl
      have hfz19_0 := blk_frozen BK498.out 0
      have hfz19_1 := blk_frozen BK498.out 1
      obtain ⟨Ao20, co20, eo20⟩ := Kd.R_slice HO_499001.out
      subst eo20
      go_wp2_with (first | ((with_reducible refine gate_callee (f := 54) rfl ?_); refine goesL_ (some 18) rfl rfl Try.func54 (by kernel_rfl) rfl #[.agg #[.int .i64 0, .slice Ao20 x499001_1.length co20]] rfl aa ?_; (with_reducible refine (index_Marks.calls k1 0 _ _ x499001_1 t508 t511 _ ?side1 ?side2 A10.out).mono ?_); (case side1 => repeat (first | exact (Kd.R_reads' HO_499001.out).2.2 | (with_reducible refine Kd.C_alloc ?_ _) | (with_reducible refine Kd.C_drewN ?_ _) | (with_reducible refine Kd.C_drew ?_))); (case side2 => exact (Kd.R_reads' HO_499001.out).2.1); rintro e w21 ⟨v509, rfl, ho0, hb⟩; refine ⟨_, rfl, ?_⟩; replace HO_499001 := Aside0.mk (Kd.R_below (rk HO_499001.out) hb); have HO510 := Aside0.mk (Kd.R_lower ho0 (below_size bo)); replace BK498 := Aside0.mk (blk_below (g := gb498) (o := .cells #[.int .i64 0, .slice Ao20 x499001_1.length co20] 53 (0, 0)) (bk BK498.out) hb); replace HB := Aside0.mk (below_step bo hb); (try clear hb); (try clear hb2); (try clear hk); (try clear hi); (try clear ho0)) | ((with_reducible refine gate_callee (f := 52) rfl ?_); refine goesL_ (some 22) rfl rfl Try.func52 (by kernel_rfl) rfl #[.int .i64 t511] rfl aa ?_; (with_reducible refine (fairwaylaw12_num.calls t511 t512 _ A11.out).mono ?_); rintro e w' ⟨rfl, ⟨nd, rfl⟩⟩; refine ⟨_, rfl, ?_⟩; obtain ⟨Ao22, co22, eo22⟩ := Kd.R_slice HO510.out; subst eo22))
      go_ret
      exact ⟨er, bo⟩
    ·rw [if_neg c12] at H
     have c12b0 : (t512 == 0) = false := beq_eq_false_iff_ne.mpr c12
     have c12b1 : (t512 != 0) = true := bne_iff_ne.mpr c12
     obtain rfl := Option.some.inj H
     have hcz23_0 : wr.cell? ⟨gb498, 0, none⟩ = some (.int .i64 0) := (blk_cell BK498.out 0).trans rfl
     have hcz23_1 : wr.cell? ⟨gb498, 1, none⟩ = some (u499001) := (blk_cell BK498.out 1).trans rfl
     have hfz23_0 := blk_frozen BK498.out 0
     have hfz23_1 := blk_frozen BK498.out 1
     obtain ⟨Ao24, co24, eo24⟩ := Kd.R_slice HO_499001.out
     subst eo24
     go_wp2_with (first | ((with_reducible refine gate_callee (f := 54) rfl ?_); refine goesL_ (some 18) rfl rfl Try.func54 (by kernel_rfl) rfl #[.agg #[.int .i64 0, .slice Ao24 x499001_1.length co24]] rfl aa ?_; (with_reducible refine (index_Marks.calls k1 0 _ _ x499001_1 t508 t511 _ ?side1 ?side2 A10.out).mono ?_); (case side1 => repeat (first | exact (Kd.R_reads' HO_499001.out).2.2 | (with_reducible refine Kd.C_alloc ?_ _) | (with_reducible refine Kd.C_drewN ?_ _) | (with_reducible refine Kd.C_drew ?_))); (case side2 => exact (Kd.R_reads' HO_499001.out).2.1); rintro e w25 ⟨v509, rfl, ho0, hb⟩; refine ⟨_, rfl, ?_⟩; replace HO_499001 := Aside0.mk (Kd.R_below (rk HO_499001.out) hb); have HO510 := Aside0.mk (Kd.R_lower ho0 (below_size bo)); replace BK498 := Aside0.mk (blk_below (g := gb498) (o := .cells #[.int .i64 0, .slice Ao24 x499001_1.length co24] 53 (0, 0)) (bk BK498.out) hb); replace HB := Aside0.mk (below_step bo hb); (try clear hb); (try clear hb2); (try clear hk); (try clear hi); (try clear ho0)) | ((with_reducible refine gate_callee (f := 52) rfl ?_); refine goesL_ (some 22) rfl rfl Try.func52 (by kernel_rfl) rfl #[.int .i64 t511] rfl aa ?_; (with_reducible refine (fairwaylaw12_num.calls t511 t512 _ A11.out).mono ?_); rintro e w' ⟨rfl, ⟨nd, rfl⟩⟩; refine ⟨_, rfl, ?_⟩))
     go_ret
     exact ⟨er, bo⟩

end Go.Proofs.Ytmabdfdmccbfnaa.P

-- written by a program of the proving session, out of the translation; Lean checks it
namespace Go.Proofs.Ytmabdfdmccbfnaa.P
open Go.RowKit Go.Proofs.Ytmabdfdmccbfnaa.Sq Go.Proofs.YtmabdfdmccbfnaaW.PrintWords Go.Proofs.YtmabdfdmccbfnaaW.PrintLast Go.Proofs.YtmabdfdmccbfnaaW.PrintMore
attribute [local go_sem] max2_int min2_int max_two min_two max_three min_three max_four min_four   -- for this text's walks alone
set_option linter.unusedVariables false
set_option linter.unusedSimpArgs false

theorem eqA77 (d : Nat) (w : World) (x0 y0 : Int) (x1 y1 : Int) :
 (Op.equalIn (d + 2) 77 (.agg #[.int .i64 x0, .int .i64 x1]) (.agg #[.int .i64 y0, .int .i64 y1])).run Try.prog w = .ok (x0 == y0 && (x1 == y1)) w := by
 refine eqA_of Try.underlying77 (by kernel_rfl) ?_
 refine eqf_cons (by rfl) (by go_simp; rfl) (by go_simp; rfl) (by go_simp) ?_
 exact eqf_last (by rfl) (by go_simp; rfl) (by go_simp; rfl) (by go_simp)
end Go.Proofs.Ytmabdfdmccbfnaa.P

-- written by a program of the proving session, out of the translation; Lean checks it
namespace Go.Proofs.Ytmabdfdmccbfnaa.P
open Go.RowKit Go.Proofs.Ytmabdfdmccbfnaa.Sq Go.Proofs.YtmabdfdmccbfnaaW.PrintWords Go.Proofs.YtmabdfdmccbfnaaW.PrintLast Go.Proofs.YtmabdfdmccbfnaaW.PrintMore
attribute [local go_sem] max2_int min2_int max_two min_two max_three min_three max_four min_four   -- for this text's walks alone
set_option linter.unusedVariables false
set_option linter.unusedSimpArgs false

attribute [local go_sem high] eqA77
/-! ### api_Mark: function 80 -/
def api_Mark.l0 : Nat → List (S77) → List (S77) → Int → Int → Option (Bool)
 | 0, _, _, _, _ => none
 | k + 1, x0, x1, x12, x13 => if x13 < x12 then (if 0 ≤ x13 then (if x13 < (x0.length : Int) then (if x13 < (x1.length : Int) then (if (!(((rd_T77 x0 x13).f0) == ((rd_T77 x1 x13).f0)) || (!(((rd_T77 x0 x13).f1) == ((rd_T77 x1 x13).f1)))) = true then (some false) else (api_Mark.l0 k x0 x1 x12 (wrap64 (x13 + 1)))) else (none)) else (none)) else (none)) else (some true)
def api_Mark.f (k : Nat) (l0 : List (S77)) (l1 : List (S77)) : Option (Bool) := if (l0.length : Int) = (l1.length : Int) then (api_Mark.l0 k l0 l1 (l0.length : Int) 0) else (some false)
theorem api_Mark.mono_l : ∀ k, (∀ y0 y1 y2 y3, LeO (api_Mark.l0 k y0 y1 y2 y3) (api_Mark.l0 (k + 1) y0 y1 y2 y3))
 | 0 => fun _ _ _ _ r h => by simp [api_Mark.l0] at h
 | k + 1 => by
  have ih0 := api_Mark.mono_l k
  ·intro y0 y1 y2 y3
   unfold api_Mark.l0
   repeat' first
   | (with_reducible exact ih0 _ _ _ _)
   | (with_reducible exact LeO.refl _)
   | (with_reducible exact LeO.none _)
   | (with_reducible refine LeO.ite ?_ ?_)
   | (with_reducible refine LeO.bind ?_ (fun _ => ?_))
   | exact ih0 _ _ _ _
   | exact LeO.none _
   | refine LeO.ite ?_ ?_
   | refine LeO.bind ?_ (fun _ => ?_)
theorem api_Mark.mono : ∀ a0 a1 k, LeO (api_Mark.f k a0 a1) (api_Mark.f (k + 1) a0 a1) := by
 intro a0 a1 k
 have ih0 := api_Mark.mono_l k
 unfold api_Mark.f
 repeat' first
  | (with_reducible exact ih0 _ _ _ _)
  | (with_reducible exact LeO.refl _)
  | (with_reducible exact LeO.none _)
  | (with_reducible refine LeO.ite ?_ ?_)
  | (with_reducible refine LeO.bind ?_ (fun _ => ?_))
  | exact ih0 _ _ _ _
  | exact LeO.none _
  | refine LeO.ite ?_ ?_
  | refine LeO.bind ?_ (fun _ => ?_)
set_option maxHeartbeats 8000000 in
set_option maxRecDepth 100000 in
theorem api_Mark.calls (k : Nat) (A0 : Option Addr) (c0 : Nat) (l0 : List (S77)) (A1 : Option Addr) (c1 : Nat) (l1 : List (S77)) (r : Bool) (w : World) (hr0 : Kd.C k77 w A0 l0.length l0) (hc0 : l0.length ≤ c0) (hr1 : Kd.C k77 w A1 l1.length l1) (hc1 : l1.length ≤ c1) (h : api_Mark.f k l0 l1 = some r) :
 Calls Try.prog 80 #[.slice A0 l0.length c0, .slice A1 l1.length c1] w fun e w' => e = .returned (.bool r) ∧ Drawn0 w w' := by
 have hu77 := Try.underlying77
 have HR0 := Aside0.mk hr0
 have HC0 := Aside0.mk hc0
 clear hr0 hc0
 have HR1 := Aside0.mk hr1
 have HC1 := Aside0.mk hc1
 clear hr1 hc1
 have H : (if (l0.length : Int) = (l1.length : Int) then (api_Mark.l0 k l0 l1 (l0.length : Int) 0) else (some false)) = some r := h
 clear h
 by_cases c3 : (l0.length : Int) = (l1.length : Int)
 ·rw [if_pos c3] at H
  have c3b0 : ((l0.length : Int) == (l1.length : Int)) = true := beq_iff_eq.mpr c3
  have c3b1 : ((l0.length : Int) != (l1.length : Int)) = false := bne_eq_false_iff_eq.mpr c3
  have c3b2 : (l0.length == l1.length) = true := by first | simpa using c3 | (simp at c3 ⊢; omega)
  clear c3
  have H' := Aside0.mk H
  clear H
  go_enter Try.func80, Try.ntmps80
  go_wp2
  repeat (go_quiet (fail); try go_wp2)
  go_loopg [13] k (fun kq v13 w' => ∃ (x13_1 : Int), v13 = .int .i64 x13_1 ∧ Aside0 (api_Mark.l0 kq l0 l1 (l0.length : Int) x13_1 = some r) ∧ Aside0 (kq ≤ k) ∧ Drawn0 w w')
  case atStart => exact ⟨(0), ap, H', ⟨Nat.le_refl _⟩, dr⟩
  case round =>
   clear H'
   try clear c1
   try clear p2
   try clear c3
   try clear c3b0
   try clear c3b1
   try clear c3b2
   obtain ⟨x13_1, rfl, HA, HK1, ⟨m1, rfl⟩⟩ := hrel
   cases gk with
   | zero => exact absurd HA.out (by simp [api_Mark.l0])
   | succ k1 =>
    have H := HA.out
    clear HA
    simp only [api_Mark.l0] at H
    by_cases c4 : x13_1 < (l0.length : Int)
    ·rw [if_pos c4] at H
     have c4b0 : decide (x13_1 < (l0.length : Int)) = true := decide_eq_true c4
     clear c4
     by_cases c5 : 0 ≤ x13_1
     ·rw [if_pos c5] at H
      have c5b0 : decide (0 ≤ x13_1) = true := decide_eq_true c5
      clear c5
      by_cases c6 : x13_1 < (l0.length : Int)
      ·rw [if_pos c6] at H
       have c6b0 : decide (x13_1 < (l0.length : Int)) = true := decide_eq_true c6
       clear c6
       by_cases c7 : x13_1 < (l1.length : Int)
       ·rw [if_pos c7] at H
        have c7b0 : decide (x13_1 < (l1.length : Int)) = true := decide_eq_true c7
        clear c7
        by_cases c8 : (!(((rd_T77 l0 x13_1).f0) == ((rd_T77 l1 x13_1).f0)) || (!(((rd_T77 l0 x13_1).f1) == ((rd_T77 l1 x13_1).f1)))) = true
        ·rw [if_pos c8] at H
         have c8b0 : (!(((rd_T77 l0 x13_1).f0) == ((rd_T77 l1 x13_1).f0)) || (!(((rd_T77 l0 x13_1).f1) == ((rd_T77 l1 x13_1).f1)))) = true := c8
         clear c8
         obtain rfl := Option.some.inj H
         have p547 : 0 ≤ (x13_1 : Int) := od
         have q547 : x13_1 < (l0.length : Int) := od
         obtain ⟨ad547, e547, hx547_0, hx547_1⟩ := at_T77 HR0.out x13_1 p547 q547
         cases e547
         replace p547 := eq_true p547
         replace q547 := eq_true q547
         have p548 : 0 ≤ (x13_1 : Int) := od
         have q548 : x13_1 < (l1.length : Int) := od
         obtain ⟨ad548, e548, hx548_0, hx548_1⟩ := at_T77 HR1.out x13_1 p548 q548
         cases e548
         replace p548 := eq_true p548
         replace q548 := eq_true q548
         go_wp2
         repeat (go_quiet (fail); try go_wp2)
         go_ret
         exact ⟨ap, dr⟩
        ·rw [if_neg c8] at H
         have c8b0 : (!(((rd_T77 l0 x13_1).f0) == ((rd_T77 l1 x13_1).f0)) || (!(((rd_T77 l0 x13_1).f1) == ((rd_T77 l1 x13_1).f1)))) = false := by simpa using c8
         clear c8
         have H' := Aside0.mk H
         clear H
         have p547 : 0 ≤ (x13_1 : Int) := od
         have q547 : x13_1 < (l0.length : Int) := od
         obtain ⟨ad547, e547, hx547_0, hx547_1⟩ := at_T77 HR0.out x13_1 p547 q547
         cases e547
         replace p547 := eq_true p547
         replace q547 := eq_true q547
         have p548 : 0 ≤ (x13_1 : Int) := od
         have q548 : x13_1 < (l1.length : Int) := od
         obtain ⟨ad548, e548, hx548_0, hx548_1⟩ := at_T77 HR1.out x13_1 p548 q548
         cases e548
         replace p548 := eq_true p548
         replace q548 := eq_true q548
         go_wp2
         repeat (go_quiet (fail); try go_wp2)
         go_roundg k1
         case measure => have := HK1.out; omega
         case rel => exact ⟨(wrap64 (x13_1 + 1)), ap, H', ⟨by have := HK1.out; omega⟩, dr⟩
       ·rw [if_neg c7] at H
        exact absurd H (by simp)
      ·rw [if_neg c6] at H
       exact absurd H (by simp)
     ·rw [if_neg c5] at H
      exact absurd H (by simp)
    ·rw [if_neg c4] at H
     have c4b0 : decide (x13_1 < (l0.length : Int)) = false := decide_eq_false c4
     clear c4
     obtain rfl := Option.some.inj H
     go_wp2
     repeat (go_quiet (fail); try go_wp2)
     go_ret
     exact ⟨ap, dr⟩
 ·rw [if_neg c3] at H
  have c3b0 : ((l0.length : Int) == (l1.length : Int)) = false := beq_eq_false_iff_ne.mpr c3
  have c3b1 : ((l0.length : Int) != (l1.length : Int)) = true := bne_iff_ne.mpr c3
  have c3b2 : (l0.length == l1.length) = false := by first | simpa using c3 | (simp at c3 ⊢; omega)
  obtain rfl := Option.some.inj H
  go_enter Try.func80, Try.ntmps80
  go_wp2
  repeat (go_quiet (fail); try go_wp2)
  go_ret
  exact ⟨ap, dr⟩

end Go.Proofs.Ytmabdfdmccbfnaa.P

-- written by a program of the proving session, out of the translation; Lean checks it
namespace Go.Proofs.Ytmabdfdmccbfnaa.P
open Go.RowKit Go.Proofs.Ytmabdfdmccbfnaa.Sq Go.Proofs.YtmabdfdmccbfnaaW.PrintWords Go.Proofs.YtmabdfdmccbfnaaW.PrintLast Go.Proofs.YtmabdfdmccbfnaaW.PrintMore
attribute [local go_sem] max2_int min2_int max_two min_two max_three min_three max_four min_four   -- for this text's walks alone
set_option linter.unusedVariables false
set_option linter.unusedSimpArgs false

/-! ### index_Check: function 55 -/
def index_Check.f (k : Nat) (a0_0 : Int) (l0_1 : List (S25)) (l1 : List (S77)) : Option (Bool × Int) := (index_Marks.f k a0_0 l0_1).bind fun bt550 => (if bt550.2 = 0 then ((api_Mark.f k l1 bt550.1).bind fun t554 => (some (t554, 0))) else (some (false, bt550.2)))
theorem index_Check.mono : ∀ a0 a1 a2 k, LeO (index_Check.f k a0 a1 a2) (index_Check.f (k + 1) a0 a1 a2) := by
 intro a0 a1 a2 k
 unfold index_Check.f
 repeat' first
  | (with_reducible exact api_Mark.mono _ _ _)
  | (with_reducible exact index_Marks.mono _ _ _)
  | (with_reducible exact LeO.refl _)
  | (with_reducible exact LeO.none _)
  | (with_reducible refine LeO.ite ?_ ?_)
  | (with_reducible refine LeO.bind ?_ (fun _ => ?_))
  | exact api_Mark.mono _ _ _
  | exact index_Marks.mono _ _ _
  | exact LeO.none _
  | refine LeO.ite ?_ ?_
  | refine LeO.bind ?_ (fun _ => ?_)
set_option maxHeartbeats 8000000 in
set_option maxRecDepth 100000 in
theorem index_Check.calls (k : Nat) (a0_0 : Int) (A0_1 : Option Addr) (c0_1 : Nat) (l0_1 : List (S25)) (A1 : Option Addr) (c1 : Nat) (l1 : List (S77)) (r1 : Bool) (r2 : Int) (w : World) (hr0_1 : Kd.C k25 w A0_1 l0_1.length l0_1) (hc0_1 : l0_1.length ≤ c0_1) (hr1 : Kd.C k77 w A1 l1.length l1) (hc1 : l1.length ≤ c1) (h : index_Check.f k a0_0 l0_1 l1 = some (r1, r2)) :
 Calls Try.prog 55 #[.agg #[.int .i64 a0_0, .slice A0_1 l0_1.length c0_1], .slice A1 l1.length c1] w fun e w' => e = .returned (.tuple #[.bool r1, .int .i64 r2]) ∧ Below w.heap.size w w' := by
 have hu53 := Try.underlying53
 have HR0_1 := Aside0.mk hr0_1
 have HC0_1 := Aside0.mk hc0_1
 clear hr0_1 hc0_1
 have HR1 := Aside0.mk hr1
 have HC1 := Aside0.mk hc1
 clear hr1 hc1
 have HB := Aside0.mk (Below.refl w.heap.size w)
 have H : ((index_Marks.f k a0_0 l0_1).bind fun bt550 => (if bt550.2 = 0 then ((api_Mark.f k l1 bt550.1).bind fun t554 => (some (t554, 0))) else (some (false, bt550.2)))) = some (r1, r2) := h
 clear h
 replace H := Option.bind_eq_some_iff.mp H
 obtain ⟨⟨t550, t553⟩, A30, H⟩ := H
 replace H : (if t553 = 0 then ((api_Mark.f k l1 t550).bind fun t554 => (some (t554, 0))) else (some (false, t553))) = some (r1, r2) := H
 have A3 := Aside0.mk A30
 clear A30
 by_cases c4 : t553 = 0
 ·rw [if_pos c4] at H
  have c4b0 : (t553 == 0) = true := beq_iff_eq.mpr c4
  have c4b1 : (t553 != 0) = false := bne_eq_false_iff_eq.mpr c4
  clear c4
  replace H := Option.bind_eq_some_iff.mp H
  obtain ⟨t554, A50, H⟩ := H
  replace H : (some (t554, 0)) = some (r1, r2) := H
  have A5 := Aside0.mk A50
  clear A50
  simp only [Option.some.injEq, Prod.mk.injEq] at H
  obtain ⟨rfl, rfl⟩ := H
  go_enter Try.func55, Try.ntmps55
  go_wp2_with (first | ((with_reducible refine gate_dst (N := 2) rfl ?_); refine box_event ?hg (N := 2) ?hd (cs := #[.int .i64 a0_0, .slice A0_1 l0_1.length c0_1]) (t := 53) ?hr ?_; (case hd => rfl); (case hg => rfl); (case hr => first | (go_simp; done) | (go_simp; rfl)); intro gb549 hg w6 hbox hb; have n0_ := Aside0.mk (below_step bo hb); have n1_ := Aside0.mk (hbox); have n2_ := Aside0.mk ((by rw [hg]; exact (below_size bo) : w.heap.size ≤ gb549)); have n3_ := Aside0.mk ((by rw [hg]; exact (below_size bo) : w.heap.size ≤ gb549)); clear HB; have HB := n0_; have BK549 := n1_; have GW549 := n2_; have GE549 := n3_; clear n0_ n1_ n2_ n3_; clear hb hbox hg; obtain ⟨hcz7_0, hcz7_1⟩ := cl2 BK549.out; obtain ⟨hfz7_0, hfz7_1⟩ := fz2 BK549.out) | ((with_reducible refine gate_callee (f := 54) rfl ?_); refine goesL_ (some 10) rfl rfl Try.func54 (by kernel_rfl) rfl #[.agg #[.int .i64 a0_0, .slice A0_1 l0_1.length c0_1]] rfl aa ?_; (with_reducible refine (index_Marks.calls k a0_0 _ _ l0_1 t550 t553 _ ?side1 ?side2 A3.out).mono ?_); (case side1 => repeat (first | exact (Kd.C_below HR0_1.out HB.out) | (with_reducible refine Kd.C_alloc ?_ _) | (with_reducible refine Kd.C_drewN ?_ _) | (with_reducible refine Kd.C_drew ?_))); (case side2 => exact HC0_1.out); rintro e w8 ⟨v551, rfl, ho0, hb⟩; refine ⟨_, rfl, ?_⟩; have HO552 := Aside0.mk (Kd.R_lower ho0 (below_size bo)); replace BK549 := Aside0.mk (blk_below (g := gb549) (o := .cells #[.int .i64 a0_0, .slice A0_1 l0_1.length c0_1] 53 (0, 0)) (bk BK549.out) hb); replace HB := Aside0.mk (below_step bo hb); (try clear hb); (try clear hb2); (try clear hk); (try clear hi); (try clear ho0); obtain ⟨Ao9, co9, eo9⟩ := Kd.R_slice HO552.out; subst eo9) | ((with_reducible refine gate_callee (f := 80) rfl ?_); refine goesL_ (some 18) rfl rfl Try.func80 (by kernel_rfl) rfl #[.slice A1 l1.length c1, .slice Ao9 t550.length co9] rfl aa ?_; (with_reducible refine (api_Mark.calls k _ _ l1 _ _ t550 t554 _ ?side1 ?side2 ?side3 ?side4 A5.out).mono ?_); (case side1 => repeat (first | exact (Kd.C_below HR1.out HB.out) | (with_reducible refine Kd.C_alloc ?_ _) | (with_reducible refine Kd.C_drewN ?_ _) | (with_reducible refine Kd.C_drew ?_))); (case side2 => exact HC1.out); (case side3 => repeat (first | exact (Kd.R_reads' HO552.out).2.2 | (with_reducible refine Kd.C_alloc ?_ _) | (with_reducible refine Kd.C_drewN ?_ _) | (with_reducible refine Kd.C_drew ?_))); (case side4 => exact (Kd.R_reads' HO552.out).2.1); rintro e w' ⟨rfl, ⟨nd, rfl⟩⟩; refine ⟨_, rfl, ?_⟩))
  go_ret2
  exact ⟨er, bo⟩
 ·rw [if_neg c4] at H
  have c4b0 : (t553 == 0) = false := beq_eq_false_iff_ne.mpr c4
  have c4b1 : (t553 != 0) = true := bne_iff_ne.mpr c4
  simp only [Option.some.injEq, Prod.mk.injEq] at H
  obtain ⟨rfl, rfl⟩ := H
  go_enter Try.func55, Try.ntmps55
  go_wp2_with (first | ((with_reducible refine gate_dst (N := 2) rfl ?_); refine box_event ?hg (N := 2) ?hd (cs := #[.int .i64 a0_0, .slice A0_1 l0_1.length c0_1]) (t := 53) ?hr ?_; (case hd => rfl); (case hg => rfl); (case hr => first | (go_simp; done) | (go_simp; rfl)); intro gb549 hg w10 hbox hb; have n0_ := Aside0.mk (below_step bo hb); have n1_ := Aside0.mk (hbox); have n2_ := Aside0.mk ((by rw [hg]; exact (below_size bo) : w.heap.size ≤ gb549)); have n3_ := Aside0.mk ((by rw [hg]; exact (below_size bo) : w.heap.size ≤ gb549)); clear HB; have HB := n0_; have BK549 := n1_; have GW549 := n2_; have GE549 := n3_; clear n0_ n1_ n2_ n3_; clear hb hbox hg; obtain ⟨hcz11_0, hcz11_1⟩ := cl2 BK549.out; obtain ⟨hfz11_0, hfz11_1⟩ := fz2 BK549.out) | ((with_reducible refine gate_callee (f := 54) rfl ?_); refine goesL_ (some 10) rfl rfl Try.func54 (by kernel_rfl) rfl #[.agg #[.int .i64 a0_0, .slice A0_1 l0_1.length c0_1]] rfl aa ?_; (with_reducible refine (index_Marks.calls k a0_0 _ _ l0_1 t550 t553 _ ?side1 ?side2 A3.out).mono ?_); (case side1 => repeat (first | exact (Kd.C_below HR0_1.out HB.out) | (with_reducible refine Kd.C_alloc ?_ _) | (with_reducible refine Kd.C_drewN ?_ _) | (with_reducible refine Kd.C_drew ?_))); (case side2 => exact HC0_1.out); rintro e w12 ⟨v551, rfl, ho0, hb⟩; refine ⟨_, rfl, ?_⟩; have HO552 := Aside0.mk (Kd.R_lower ho0 (below_size bo)); replace BK549 := Aside0.mk (blk_below (g := gb549) (o := .cells #[.int .i64 a0_0, .slice A0_1 l0_1.length c0_1] 53 (0, 0)) (bk BK549.out) hb); replace HB := Aside0.mk (below_step bo hb); (try clear hb); (try clear hb2); (try clear hk); (try clear hi); (try clear ho0)))
  go_ret2
  exact ⟨er, bo⟩

end Go.Proofs.Ytmabdfdmccbfnaa.P

-- written by a program of the proving session, out of the translation; Lean checks it
namespace Go.Proofs.Ytmabdfdmccbfnaa.P
open Go.RowKit Go.Proofs.Ytmabdfdmccbfnaa.Sq Go.Proofs.YtmabdfdmccbfnaaW.PrintWords Go.Proofs.YtmabdfdmccbfnaaW.PrintLast Go.Proofs.YtmabdfdmccbfnaaW.PrintMore
attribute [local go_sem] max2_int min2_int max_two min_two max_three min_three max_four min_four   -- for this text's walks alone
set_option linter.unusedVariables false
set_option linter.unusedSimpArgs false

/-! ### fairwayref1_Fixed: function 69 -/
def fairwayref1_Fixed.l0 : Nat → Int → List Int → Int → Option (ByteArray)
 | 0, _, _, _ => none
 | k + 1, x0, x5, x6 => if x6 ≥ 0 then (if 0 ≤ (wrap64 (8 * x6)) then (if x5.length < 140737488355328 then (fairwayref1_Fixed.l0 k x0 (x5 ++ [(shr .i64 x0 (wrap64 (8 * x6))) % 256]) (wrap64 (x6 - 1))) else (none)) else (none)) else (some (strOfNums x5))
def fairwayref1_Fixed.f (k : Nat) (a0 : Int) (a1 : Int) : Option (ByteArray) := fairwayref1_Fixed.l0 k a0 ([] : List Int) (wrap64 (a1 - 1))
theorem fairwayref1_Fixed.mono_l : ∀ k, (∀ y0 y1 y2, LeO (fairwayref1_Fixed.l0 k y0 y1 y2) (fairwayref1_Fixed.l0 (k + 1) y0 y1 y2))
 | 0 => fun _ _ _ r h => by simp [fairwayref1_Fixed.l0] at h
 | k + 1 => by
  have ih0 := fairwayref1_Fixed.mono_l k
  ·intro y0 y1 y2
   unfold fairwayref1_Fixed.l0
   repeat' first
   | (with_reducible exact ih0 _ _ _)
   | (with_reducible exact LeO.refl _)
   | (with_reducible exact LeO.none _)
   | (with_reducible refine LeO.ite ?_ ?_)
   | (with_reducible refine LeO.bind ?_ (fun _ => ?_))
   | exact ih0 _ _ _
   | exact LeO.none _
   | refine LeO.ite ?_ ?_
   | refine LeO.bind ?_ (fun _ => ?_)
theorem fairwayref1_Fixed.mono : ∀ a0 a1 k, LeO (fairwayref1_Fixed.f k a0 a1) (fairwayref1_Fixed.f (k + 1) a0 a1) := by
 intro a0 a1 k
 have ih0 := fairwayref1_Fixed.mono_l k
 unfold fairwayref1_Fixed.f
 repeat' first
  | (with_reducible exact ih0 _ _ _)
  | (with_reducible exact LeO.refl _)
  | (with_reducible exact LeO.none _)
  | (with_reducible refine LeO.ite ?_ ?_)
  | (with_reducible refine LeO.bind ?_ (fun _ => ?_))
  | exact ih0 _ _ _
  | exact LeO.none _
  | refine LeO.ite ?_ ?_
  | refine LeO.bind ?_ (fun _ => ?_)
set_option maxHeartbeats 8000000 in
set_option maxRecDepth 100000 in
theorem fairwayref1_Fixed.calls (k : Nat) (a0 : Int) (a1 : Int) (r : ByteArray) (w : World) (h : fairwayref1_Fixed.f k a0 a1 = some r) :
 Calls Try.prog 69 #[.int .i64 a0, .int .i64 a1] w fun e w' => e = .returned (.string r) ∧ Below w.heap.size w w' := by
 have HB := Aside0.mk (Below.refl w.heap.size w)
 have H : (fairwayref1_Fixed.l0 k a0 ([] : List Int) (wrap64 (a1 - 1))) = some r := h
 clear h
 have H' := Aside0.mk H
 clear H
 go_enter Try.func69, Try.ntmps69
 go_wp2
 go_loopg [5, 6] k (fun kq v5 v6 w' => ∃ (x5_1 : List Int) (x6_1 : Int), v6 = .int .i64 x6_1 ∧ Aside0 (fairwayref1_Fixed.l0 kq a0 x5_1 x6_1 = some r) ∧ Aside0 (kq ≤ k) ∧ Aside0 (Kd.R (Kd.int .u8) 5 w' w.heap.size (fun _ => True) v5 x5_1) ∧ Aside0 (Below w.heap.size w w'))
 case atStart => exact ⟨(([] : List Int)), (wrap64 (a1 - 1)), ap, H', ⟨Nat.le_refl _⟩, ⟨by first | exact Kd.R_nil _ _ _ _ _ | exact Kd.N_nil _ _ _ _ _ | exact Kd.V_nil _ _ _ _ _ | exact Kd.Q_nil _ _ _ _ _ | exact Kd.S_nil _ _ _ _ _⟩, ⟨bo⟩⟩
 case round =>
  clear H'
  try clear p2
  obtain ⟨x5_1, x6_1, rfl, HA, HK1, HO_5, HB⟩ := hrel
  cases gk with
  | zero => exact absurd HA.out (by simp [fairwayref1_Fixed.l0])
  | succ k1 =>
   have H := HA.out
   clear HA
   simp only [fairwayref1_Fixed.l0] at H
   by_cases c3 : x6_1 ≥ 0
   ·rw [if_pos c3] at H
    have c3b0 : decide (0 ≤ x6_1) = true := decide_eq_true c3
    clear c3
    obtain ⟨ji4, hji4⟩ : ∃ j_ : Int, (wrap64 (8 * x6_1)) = j_ := ⟨_, rfl⟩
    replace H : (if 0 ≤ (ji4) then (if x5_1.length < 140737488355328 then (fairwayref1_Fixed.l0 k1 a0 (x5_1 ++ [(shr .i64 a0 (ji4)) % 256]) (wrap64 (x6_1 - 1))) else (none)) else (none)) = some r := by first | (rw [hji4] at H; exact H) | (simp only [hji4] at H ⊢; exact H)
    have hji4w : (IntKind.i64.wrap (8 * x6_1)) = ji4 := (i64_w _).trans hji4
    by_cases c5 : 0 ≤ (ji4)
    ·rw [if_pos c5] at H
     have c5b0 := eq_true c5
     have c5b1 : decide (0 ≤ (ji4)) = true := decide_eq_true c5
     clear c5
     obtain ⟨ji6, hji6⟩ : ∃ j_ : Int, (shr .i64 a0 (ji4)) = j_ := ⟨_, rfl⟩
     replace H : (if x5_1.length < 140737488355328 then (fairwayref1_Fixed.l0 k1 a0 (x5_1 ++ [(ji6) % 256]) (wrap64 (x6_1 - 1))) else (none)) = some r := by first | (rw [hji6] at H; exact H) | (simp only [hji6] at H ⊢; exact H)
     have hji6_ : (a0 / 2 ^ min (ji4).toNat 64) = ji6 := hji6
     have hji6z : (ji4) ≤ 64 → (a0 / 2 ^ (ji4).toNat) = ji6 := shr_small hji6
     by_cases c7 : x5_1.length < 140737488355328
     ·rw [if_pos c7] at H
      have LMc7 := Aside0.mk c7
      clear c7
      obtain ⟨y214, hy214⟩ : ∃ y_ : List Int, y_ = (x5_1 ++ [(ji6) % 256]) := ⟨_, rfl⟩
      replace H : (fairwayref1_Fixed.l0 k1 a0 y214 (wrap64 (x6_1 - 1))) = some r := by first | (rw [hy214]; with_reducible exact H) | (have H2_ := (Option.bind_some _ _).symm.trans H; rw [hy214]; with_reducible exact H2_) | (have H2_ := (Option.bind_some _ _).symm.trans H; with_reducible exact H2_) | with_reducible exact H | (rw [hy214]; exact H) | exact H
      have Ny214 := Aside0.mk hy214
      clear hy214
      have H' := Aside0.mk H
      clear H
      go_wp2_with (first | ((with_reducible refine gate_builtin (b := .append) (xs := #[.tmp 13, .tmp 19]) rfl ?_); at_builtin; refine Kd.R_append (Kd.int .u8) (w0 := w) w.heap.size rfl (.tmp 13) (.tmp 19) 23 5 (.int .u8 0) 1 rfl Try.underlying23 info5 rfl (by decide) (by omega) u5 x5_1 ((ji6) % 256) [.int .u8 ((ji6) % 256)] (fun _ => True) (fun _ => False) rfl rfl ?aP (fun _ hk => hk.elim) ?aF ?aO ?aB ?aS ?aL ?_; (case aP => exact rfl); (case aB => exact bo); (case aF => exact (fun _ _ => trivial)); (case aO => exact (rk HO_5.out)); (case aS => exact (below_size bo)); (case aL => have := LMc7.out; omega); intro v215 w8 ho hb hg hat; rw [← Ny214.out] at ho; have n0_ := Aside0.mk (hb); have n1_ := Aside0.mk (ho); clear HB; clear HO_5; have HB := n0_; have HO216 := n1_; clear n0_ n1_; clear ho hb hg hat))
      go_roundg k1
      case measure => have := HK1.out; omega
      case rel => exact ⟨(y214), (wrap64 (x6_1 - 1)), ap, H', ⟨by have := HK1.out; omega⟩, ⟨by (with_reducible repeat (first | apply Kd.R_alloc | apply Kd.R_drewN | apply Kd.R_drew)); exact HO216.out⟩, ⟨bo⟩⟩
     ·rw [if_neg c7] at H
      exact absurd H (by simp)
    ·rw [if_neg c5] at H
     exact absurd H (by simp)
   ·rw [if_neg c3] at H
    have c3b0 : decide (0 ≤ x6_1) = false := decide_eq_false c3
    clear c3
    obtain rfl := Option.some.inj H
    have hcv9 := own_string (P := Try.prog) Try.underlying23 Try.underlying5 Try.underlying9 (Kd.own_of_R HO_5.out)
    go_wp2
    go_ret
    exact ⟨er, bo⟩

end Go.Proofs.Ytmabdfdmccbfnaa.P

-- written by a program of the proving session, out of the translation; Lean checks it
namespace Go.Proofs.Ytmabdfdmccbfnaa.P
open Go.RowKit Go.Proofs.Ytmabdfdmccbfnaa.Sq Go.Proofs.YtmabdfdmccbfnaaW.PrintWords Go.Proofs.YtmabdfdmccbfnaaW.PrintLast Go.Proofs.YtmabdfdmccbfnaaW.PrintMore
attribute [local go_sem] max2_int min2_int max_two min_two max_three min_three max_four min_four   -- for this text's walks alone
set_option linter.unusedVariables false
set_option linter.unusedSimpArgs false

/-! ### fairwayref1_Sum: function 70 -/
mutual
def fairwayref1_Sum.l0 : Nat → Int → ByteArray → Int → Option (Int)
 | 0, _, _, _ => none
 | k + 1, x0, x1, x5 => if x5 < (x1.size : Int) then (if 0 ≤ x5 then (fairwayref1_Sum.l1 k (Go.bits .xor .u32 x0 ((bt x1 x5) % 4294967296)) x1 x5 0) else (none)) else (some (Go.bits .xor .u32 4294967295 x0))
def fairwayref1_Sum.l1 : Nat → Int → ByteArray → Int → Int → Option (Int)
 | 0, _, _, _, _ => none
 | k + 1, x0, x1, x5, x6 => if x6 < 8 then (if (Go.bits .and .u32 x0 1) = 1 then (fairwayref1_Sum.l1 k (Go.bits .xor .u32 (x0 / 2) 2197175160) x1 x5 (wrap64 (x6 + 1))) else (fairwayref1_Sum.l1 k (x0 / 2) x1 x5 (wrap64 (x6 + 1)))) else (fairwayref1_Sum.l0 k x0 x1 (wrap64 (x5 + 1)))
end
def fairwayref1_Sum.f (k : Nat) (a0 : Int) (a1 : ByteArray) : Option (Int) := fairwayref1_Sum.l0 k (Go.bits .xor .u32 4294967295 a0) a1 0
theorem fairwayref1_Sum.mono_l : ∀ k, (∀ y0 y1 y2, LeO (fairwayref1_Sum.l0 k y0 y1 y2) (fairwayref1_Sum.l0 (k + 1) y0 y1 y2)) ∧ (∀ y0 y1 y2 y3, LeO (fairwayref1_Sum.l1 k y0 y1 y2 y3) (fairwayref1_Sum.l1 (k + 1) y0 y1 y2 y3))
 | 0 => ⟨fun _ _ _ r h => by simp [fairwayref1_Sum.l0] at h, fun _ _ _ _ r h => by simp [fairwayref1_Sum.l1] at h⟩
 | k + 1 => by
  obtain ⟨ih0, ih1⟩ := fairwayref1_Sum.mono_l k
  refine ⟨?_, ?_⟩
  ·intro y0 y1 y2
   unfold fairwayref1_Sum.l0
   repeat' first
   | (with_reducible exact ih0 _ _ _)
   | (with_reducible exact ih1 _ _ _ _)
   | (with_reducible exact LeO.refl _)
   | (with_reducible exact LeO.none _)
   | (with_reducible refine LeO.ite ?_ ?_)
   | (with_reducible refine LeO.bind ?_ (fun _ => ?_))
   | exact ih0 _ _ _
   | exact ih1 _ _ _ _
   | exact LeO.none _
   | refine LeO.ite ?_ ?_
   | refine LeO.bind ?_ (fun _ => ?_)
  ·intro y0 y1 y2 y3
   unfold fairwayref1_Sum.l1
   repeat' first
   | (with_reducible exact ih0 _ _ _)
   | (with_reducible exact ih1 _ _ _ _)
   | (with_reducible exact LeO.refl _)
   | (with_reducible exact LeO.none _)
   | (with_reducible refine LeO.ite ?_ ?_)
   | (with_reducible refine LeO.bind ?_ (fun _ => ?_))
   | exact ih0 _ _ _
   | exact ih1 _ _ _ _
   | exact LeO.none _
   | refine LeO.ite ?_ ?_
   | refine LeO.bind ?_ (fun _ => ?_)
theorem fairwayref1_Sum.mono : ∀ a0 a1 k, LeO (fairwayref1_Sum.f k a0 a1) (fairwayref1_Sum.f (k + 1) a0 a1) := by
 intro a0 a1 k
 obtain ⟨ih0, ih1⟩ := fairwayref1_Sum.mono_l k
 unfold fairwayref1_Sum.f
 repeat' first
  | (with_reducible exact ih0 _ _ _)
  | (with_reducible exact ih1 _ _ _ _)
  | (with_reducible exact LeO.refl _)
  | (with_reducible exact LeO.none _)
  | (with_reducible refine LeO.ite ?_ ?_)
  | (with_reducible refine LeO.bind ?_ (fun _ => ?_))
  | exact ih0 _ _ _
  | exact ih1 _ _ _ _
  | exact LeO.none _
  | refine LeO.ite ?_ ?_
  | refine LeO.bind ?_ (fun _ => ?_)
set_option maxHeartbeats 8000000 in
set_option maxRecDepth 100000 in
theorem fairwayref1_Sum.calls (k : Nat) (a0 : Int) (a1 : ByteArray) (r : Int) (w : World) (h : fairwayref1_Sum.f k a0 a1 = some r) :
 Calls Try.prog 70 #[.int .u32 a0, .string a1] w fun e w' => e = .returned (.int .u32 r) ∧ Drawn0 w w' := by
 have H : (fairwayref1_Sum.l0 k (Go.bits .xor .u32 4294967295 a0) a1 0) = some r := h
 clear h
 have H' := Aside0.mk H
 clear H
 go_enter Try.func70, Try.ntmps70
 go_wp2
 go_loopg [0, 5] k (fun kq v0 v5 w' => ∃ (x0_1 : Int) (x5_1 : Int), v0 = .int .u32 x0_1 ∧ v5 = .int .i64 x5_1 ∧ Aside0 (fairwayref1_Sum.l0 kq x0_1 a1 x5_1 = some r) ∧ Aside0 (kq ≤ k) ∧ Drawn0 w w')
 case atStart => exact ⟨(Go.bits .xor .u32 4294967295 a0), (0), ap, ap, H', ⟨Nat.le_refl _⟩, dr⟩
 case round =>
  clear H'
  try clear p2
  obtain ⟨x0_1, x5_1, rfl, rfl, HA, HK1, ⟨m1, rfl⟩⟩ := hrel
  cases gk with
  | zero => exact absurd HA.out (by simp [fairwayref1_Sum.l0])
  | succ k1 =>
   have H := HA.out
   clear HA
   simp only [fairwayref1_Sum.l0] at H
   by_cases c3 : x5_1 < (a1.size : Int)
   ·rw [if_pos c3] at H
    have c3b0 : decide (x5_1 < (a1.size : Int)) = true := decide_eq_true c3
    clear c3
    by_cases c4 : 0 ≤ x5_1
    ·rw [if_pos c4] at H
     have c4b0 : decide (0 ≤ x5_1) = true := decide_eq_true c4
     clear c4
     have H' := Aside0.mk H
     clear H
     have p5 : 0 ≤ (x5_1 : Int) := od
     have q5 : x5_1 < (a1.size : Int) := od
     have hx5 := bt_at a1 x5_1
     replace p5 := eq_true p5
     replace q5 := eq_true q5
     go_wp2
     go_loopg [0, 6] k1 (fun kq v0 v6 w' => ∃ (x0_2 : Int) (x6_2 : Int), v0 = .int .u32 x0_2 ∧ v6 = .int .i64 x6_2 ∧ Aside0 (fairwayref1_Sum.l1 kq x0_2 a1 x5_1 x6_2 = some r) ∧ Aside0 (kq ≤ k1) ∧ Drawn0 w w')
     case atStart => exact ⟨(Go.bits .xor .u32 x0_1 ((bt a1 x5_1) % 4294967296)), (0), ap, ap, H', ⟨Nat.le_refl _⟩, dr⟩
     case round =>
      clear H'
      try clear p2
      try clear c3
      try clear c3b0
      try clear c4
      try clear c4b0
      try clear p5
      try clear q5
      try clear hx5
      try clear p2
      try clear p5
      try clear q5
      obtain ⟨x0_2, x6_2, rfl, rfl, HA, HK2, ⟨m2, rfl⟩⟩ := hrel
      cases gk with
      | zero => exact absurd HA.out (by simp [fairwayref1_Sum.l1])
      | succ k2 =>
       have H := HA.out
       clear HA
       simp only [fairwayref1_Sum.l1] at H
       by_cases c6 : x6_2 < 8
       ·rw [if_pos c6] at H
        have c6b0 : decide (x6_2 < 8) = true := decide_eq_true c6
        clear c6
        by_cases c7 : (Go.bits .and .u32 x0_2 1) = 1
        ·rw [if_pos c7] at H
         have c7b0 : ((Go.bits .and .u32 x0_2 1) == 1) = true := beq_iff_eq.mpr c7
         have c7b1 : ((Go.bits .and .u32 x0_2 1) != 1) = false := bne_eq_false_iff_eq.mpr c7
         clear c7
         have H' := Aside0.mk H
         clear H
         go_wp2
         go_roundg k2
         case measure => have := HK1.out; have := HK2.out; omega
         case rel => exact ⟨(Go.bits .xor .u32 (x0_2 / 2) 2197175160), (wrap64 (x6_2 + 1)), ap, ap, H', ⟨by have := HK1.out; have := HK2.out; omega⟩, dr⟩
        ·rw [if_neg c7] at H
         have c7b0 : ((Go.bits .and .u32 x0_2 1) == 1) = false := beq_eq_false_iff_ne.mpr c7
         have c7b1 : ((Go.bits .and .u32 x0_2 1) != 1) = true := bne_iff_ne.mpr c7
         have H' := Aside0.mk H
         clear H
         go_wp2
         go_roundg k2
         case measure => have := HK1.out; have := HK2.out; omega
         case rel => exact ⟨(x0_2 / 2), (wrap64 (x6_2 + 1)), ap, ap, H', ⟨by have := HK1.out; have := HK2.out; omega⟩, dr⟩
       ·rw [if_neg c6] at H
        have c6b0 : decide (x6_2 < 8) = false := decide_eq_false c6
        clear c6
        have H' := Aside0.mk H
        clear H
        go_wp2
        go_roundg k2
        case measure => have := HK1.out; have := HK2.out; omega
        case rel => exact ⟨(x0_2), (wrap64 (x5_1 + 1)), ap, ap, H', ⟨by have := HK1.out; have := HK2.out; omega⟩, dr⟩
    ·rw [if_neg c4] at H
     exact absurd H (by simp)
   ·rw [if_neg c3] at H
    have c3b0 : decide (x5_1 < (a1.size : Int)) = false := decide_eq_false c3
    clear c3
    obtain rfl := Option.some.inj H
    go_wp2
    go_ret
    exact ⟨ap, dr⟩

end Go.Proofs.Ytmabdfdmccbfnaa.P

-- written by a program of the proving session, out of the translation; Lean checks it
namespace Go.Proofs.Ytmabdfdmccbfnaa.P
open Go.RowKit Go.Proofs.Ytmabdfdmccbfnaa.Sq Go.Proofs.YtmabdfdmccbfnaaW.PrintWords Go.Proofs.YtmabdfdmccbfnaaW.PrintLast Go.Proofs.YtmabdfdmccbfnaaW.PrintMore
attribute [local go_sem] max2_int min2_int max_two min_two max_three min_three max_four min_four   -- for this text's walks alone
set_option linter.unusedVariables false
set_option linter.unusedSimpArgs false

/-! ### fairwayref10_Bytes: function 20 -/
def fairwayref10_Bytes.j0 : Nat → Int → Int → Int → ByteArray → ByteArray → Int → Bool → Option (ByteArray)
 | 0, _, _, _, _, _, _, _ => none
 | k + 1, x3, x218000, x218001, x218002, x218003, x218004, x218005 => (fairwayref1_Fixed.f k x218000 8).bind fun t218 => ((fairwayref1_Fixed.f k x218001 8).bind fun t219 => (if t218.size + t219.size ≤ 9223372036854775807 then ((some (([(x3) % 256] : List Int) : List Int)).bind fun y220 => (if (t218 ++ t219).size + (strOfNums y220).size ≤ 9223372036854775807 then ((fairwayref1_Fixed.f k (x218002.size : Int) 2).bind fun t223 => (if ((t218 ++ t219) ++ (strOfNums y220)).size + t223.size ≤ 9223372036854775807 then (if (((t218 ++ t219) ++ (strOfNums y220)) ++ t223).size + x218002.size ≤ 9223372036854775807 then (if ((((t218 ++ t219) ++ (strOfNums y220)) ++ t223) ++ x218002).size + x218003.size ≤ 9223372036854775807 then ((fairwayref1_Fixed.f k ((((((t218 ++ t219) ++ (strOfNums y220)) ++ t223) ++ x218002) ++ x218003).size : Int) 2).bind fun t224 => (if t224.size + (((((t218 ++ t219) ++ (strOfNums y220)) ++ t223) ++ x218002) ++ x218003).size ≤ 9223372036854775807 then ((fairwayref1_Sum.f k 0 (t224 ++ (((((t218 ++ t219) ++ (strOfNums y220)) ++ t223) ++ x218002) ++ x218003))).bind fun t225 => ((fairwayref1_Fixed.f k (wrap64 (t225)) 4).bind fun t226 => (if t224.size + t226.size ≤ 9223372036854775807 then (if (t224 ++ t226).size + (((((t218 ++ t219) ++ (strOfNums y220)) ++ t223) ++ x218002) ++ x218003).size ≤ 9223372036854775807 then (some ((t224 ++ t226) ++ (((((t218 ++ t219) ++ (strOfNums y220)) ++ t223) ++ x218002) ++ x218003))) else (none)) else (none)))) else (none))) else (none)) else (none)) else (none))) else (none))) else (none)))
def fairwayref10_Bytes.f (k : Nat) (a0_0 : Int) (a0_1 : Int) (a0_2 : ByteArray) (a0_3 : ByteArray) (a0_4 : Int) (a0_5 : Bool) : Option (ByteArray) := if a0_5 = true then (fairwayref10_Bytes.j0 k (wrap64 (a0_4 + 4)) a0_0 a0_1 a0_2 a0_3 a0_4 a0_5) else (fairwayref10_Bytes.j0 k a0_4 a0_0 a0_1 a0_2 a0_3 a0_4 a0_5)
theorem fairwayref10_Bytes.mono_l : ∀ k, (∀ y0 y1 y2 y3 y4 y5 y6, LeO (fairwayref10_Bytes.j0 k y0 y1 y2 y3 y4 y5 y6) (fairwayref10_Bytes.j0 (k + 1) y0 y1 y2 y3 y4 y5 y6))
 | 0 => fun _ _ _ _ _ _ _ r h => by simp [fairwayref10_Bytes.j0] at h
 | k + 1 => by
  have ih0 := fairwayref10_Bytes.mono_l k
  ·intro y0 y1 y2 y3 y4 y5 y6
   unfold fairwayref10_Bytes.j0
   repeat' first
   | (with_reducible exact ih0 _ _ _ _ _ _ _)
   | (with_reducible exact fairwayref1_Fixed.mono _ _ _)
   | (with_reducible exact fairwayref1_Sum.mono _ _ _)
   | (with_reducible exact LeO.refl _)
   | (with_reducible exact LeO.none _)
   | (with_reducible refine LeO.ite ?_ ?_)
   | (with_reducible refine LeO.bind ?_ (fun _ => ?_))
   | exact ih0 _ _ _ _ _ _ _
   | exact fairwayref1_Fixed.mono _ _ _
   | exact fairwayref1_Sum.mono _ _ _
   | exact LeO.none _
   | refine LeO.ite ?_ ?_
   | refine LeO.bind ?_ (fun _ => ?_)
theorem fairwayref10_Bytes.mono : ∀ a0 a1 a2 a3 a4 a5 k, LeO (fairwayref10_Bytes.f k a0 a1 a2 a3 a4 a5) (fairwayref10_Bytes.f (k + 1) a0 a1 a2 a3 a4 a5) := by
 intro a0 a1 a2 a3 a4 a5 k
 have ih0 := fairwayref10_Bytes.mono_l k
 unfold fairwayref10_Bytes.f
 repeat' first
  | (with_reducible exact ih0 _ _ _ _ _ _ _)
  | (with_reducible exact fairwayref1_Fixed.mono _ _ _)
  | (with_reducible exact fairwayref1_Sum.mono _ _ _)
  | (with_reducible exact LeO.refl _)
  | (with_reducible exact LeO.none _)
  | (with_reducible refine LeO.ite ?_ ?_)
  | (with_reducible refine LeO.bind ?_ (fun _ => ?_))
  | exact ih0 _ _ _ _ _ _ _
  | exact fairwayref1_Fixed.mono _ _ _
  | exact fairwayref1_Sum.mono _ _ _
  | exact LeO.none _
  | refine LeO.ite ?_ ?_
  | refine LeO.bind ?_ (fun _ => ?_)
def fairwayref10_Bytes.T4 : Bool × List (List Nat × List Nat) := (true, [([], []), ([0], [0]), ([1], [1]), ([], []), ([3], [3]), ([4, 2], [4]), ([2, 5], [2, 5]), ([], []), ([7], [7]), ([8], [8]), ([9], [9]), ([6, 10], [6, 10]), ([], []), ([12], [12]), ([13], [13]), ([14, 5], [14]), ([11, 15], [11, 15]), ([], []), ([17], [17]), ([16, 18], [16, 18]), ([], []), ([20], [20]), ([19, 21], [19, 21]), ([22, 15, 0, 1, 2, 3, 4, 5, 6, 7, 8, 9, 10, 11, 12, 13, 14, 15, 16, 17, 18, 19, 20, 21, 22], [22])])
def fairwayref10_Bytes.B4 : List Nat := [0, 1, 3, 0, 8, 31, 63, 0, 128, 384, 896, 2047, 0, 4096, 12288, 28735, 65535, 0, 131072, 524287, 0, 1048576, 4194303, 8388607]
theorem fairwayref10_Bytes.tab4 : rtab .any (opsOf Try.f20 4) = fairwayref10_Bytes.T4 := by kernel_rfl
theorem fairwayref10_Bytes.bits4 : waitsOk fairwayref10_Bytes.T4.2 fairwayref10_Bytes.B4 = true := by kernel_rfl
set_option maxHeartbeats 8000000 in
set_option maxRecDepth 100000 in
theorem fairwayref10_Bytes.calls (k : Nat) (a0_0 : Int) (a0_1 : Int) (a0_2 : ByteArray) (a0_3 : ByteArray) (a0_4 : Int) (a0_5 : Bool) (r : ByteArray) (w : World) (h : fairwayref10_Bytes.f k a0_0 a0_1 a0_2 a0_3 a0_4 a0_5 = some r) :
 Calls Try.prog 20 #[.agg #[.int .i64 a0_0, .int .i64 a0_1, .string a0_2, .string a0_3, .int .i64 a0_4, .bool a0_5]] w fun e w' => e = .returned (.string r) ∧ Below w.heap.size w w' := by
 have hu25 := Try.underlying25
 have HB := Aside0.mk (Below.refl w.heap.size w)
 have H : (if a0_5 = true then (fairwayref10_Bytes.j0 k (wrap64 (a0_4 + 4)) a0_0 a0_1 a0_2 a0_3 a0_4 a0_5) else (fairwayref10_Bytes.j0 k a0_4 a0_0 a0_1 a0_2 a0_3 a0_4 a0_5)) = some r := h
 clear h
 have HC2 := Aside0.mk H
 clear H
 go_enter Try.func20, Try.ntmps20
 go_upto_if 9 with (first | ((with_reducible refine gate_dst (N := 1) rfl ?_); refine box_event ?hg (N := 1) ?hd (cs := #[.int .i64 a0_0, .int .i64 a0_1, .string a0_2, .string a0_3, .int .i64 a0_4, .bool a0_5]) (t := 25) ?hr ?_; (case hd => rfl); (case hg => rfl); (case hr => first | (go_simp; done) | (go_simp; rfl)); intro gb217 hg w3 hbox hb; have n0_ := Aside0.mk (below_step bo hb); have n1_ := Aside0.mk (hbox); have n2_ := Aside0.mk ((by rw [hg]; exact (below_size bo) : w.heap.size ≤ gb217)); have n3_ := Aside0.mk ((by rw [hg]; exact (below_size bo) : w.heap.size ≤ gb217)); clear HB; have HB := n0_; have BK217 := n1_; have GW217 := n2_; have GE217 := n3_; clear n0_ n1_ n2_ n3_; clear hb hbox hg; obtain ⟨hcz4_0, hcz4_1, hcz4_2, hcz4_3, hcz4_4, hcz4_5⟩ := cl6 BK217.out; obtain ⟨hfz4_0, hfz4_1, hfz4_2, hfz4_3, hfz4_4, hfz4_5⟩ := fz6 BK217.out))
 (try simp only [Act.put, List.setIfInBounds_toArray, List.set_cons_zero, List.set_cons_succ])
 go_cut [3] (fun v3 wc => ∃ (kq : Nat) (x3_1 : Int), v3 = .int .i64 x3_1 ∧ Aside0 (fairwayref10_Bytes.j0 kq x3_1 a0_0 a0_1 a0_2 a0_3 a0_4 a0_5 = some r) ∧ Aside0 (kq ≤ k) ∧ Aside0 (wc.heap[gb217]? = some (.cells #[.int .i64 a0_0, .int .i64 a0_1, .string a0_2, .string a0_3, .int .i64 a0_4, .bool a0_5] 25 (0, 0))) ∧ Aside0 (Below w.heap.size w wc))
 case first =>
  have H := HC2.out
  clear HC2
  by_cases c5 : a0_5 = true
  ·subst c5
   have H1 : (fairwayref10_Bytes.j0 k (wrap64 (a0_4 + 4)) a0_0 a0_1 a0_2 a0_3 a0_4 true) = some r := by rw [if_pos rfl] at H; exact H
   clear H
   have H := H1
   clear H1
   have H' := Aside0.mk H
   clear H
   go_wp2
   go_meet
   case rel => exact ⟨_, (wrap64 (a0_4 + 4)), ap, H', ⟨by first | omega | exact Nat.le_refl _⟩, ⟨by (with_reducible repeat (first | refine blk_drewN ?_ _ | refine blk_drew ?_ | refine blk_alloc ?_ _)); exact BK217.out⟩, ⟨bo⟩⟩
  ·replace c5 := Bool.eq_false_iff.mpr c5
   subst c5
   have H1 : (fairwayref10_Bytes.j0 k a0_4 a0_0 a0_1 a0_2 a0_3 a0_4 false) = some r := by rw [if_neg (show ¬ (false = true) by decide)] at H; exact H
   clear H
   have H := H1
   clear H1
   have H' := Aside0.mk H
   clear H
   go_wp2
   go_meet
   case rel => exact ⟨_, (a0_4), ap, H', ⟨by first | omega | exact Nat.le_refl _⟩, ⟨by (with_reducible repeat (first | refine blk_drewN ?_ _ | refine blk_drew ?_ | refine blk_alloc ?_ _)); exact BK217.out⟩, ⟨bo⟩⟩
 case rest =>
  clear HC2
  try clear c2
  try clear p2
  try clear c5
  try clear hcz4_0
  try clear hcz4_1
  try clear hcz4_2
  try clear hcz4_3
  try clear hcz4_4
  try clear hcz4_5
  try clear hfz4_0
  try clear hfz4_1
  try clear hfz4_2
  try clear hfz4_3
  try clear hfz4_4
  try clear hfz4_5
  obtain ⟨kq, x3_1, rfl, HA, HJ1, BK217, HB⟩ := hcut
  cases kq with
  | zero => exact absurd HA.out (by simp [fairwayref10_Bytes.j0])
  | succ kj1 =>
   have H := HA.out
   clear HA
   simp only [fairwayref10_Bytes.j0] at H
   replace H := Option.bind_eq_some_iff.mp H
   obtain ⟨t218, A60, H⟩ := H
   replace H : ((fairwayref1_Fixed.f kj1 a0_1 8).bind fun t219 => (if t218.size + t219.size ≤ 9223372036854775807 then ((some (([(x3_1) % 256] : List Int) : List Int)).bind fun y220 => (if (t218 ++ t219).size + (strOfNums y220).size ≤ 9223372036854775807 then ((fairwayref1_Fixed.f kj1 (a0_2.size : Int) 2).bind fun t223 => (if ((t218 ++ t219) ++ (strOfNums y220)).size + t223.size ≤ 9223372036854775807 then (if (((t218 ++ t219) ++ (strOfNums y220)) ++ t223).size + a0_2.size ≤ 9223372036854775807 then (if ((((t218 ++ t219) ++ (strOfNums y220)) ++ t223) ++ a0_2).size + a0_3.size ≤ 9223372036854775807 then ((fairwayref1_Fixed.f kj1 ((((((t218 ++ t219) ++ (strOfNums y220)) ++ t223) ++ a0_2) ++ a0_3).size : Int) 2).bind fun t224 => (if t224.size + (((((t218 ++ t219) ++ (strOfNums y220)) ++ t223) ++ a0_2) ++ a0_3).size ≤ 9223372036854775807 then ((fairwayref1_Sum.f kj1 0 (t224 ++ (((((t218 ++ t219) ++ (strOfNums y220)) ++ t223) ++ a0_2) ++ a0_3))).bind fun t225 => ((fairwayref1_Fixed.f kj1 (wrap64 (t225)) 4).bind fun t226 => (if t224.size + t226.size ≤ 9223372036854775807 then (if (t224 ++ t226).size + (((((t218 ++ t219) ++ (strOfNums y220)) ++ t223) ++ a0_2) ++ a0_3).size ≤ 9223372036854775807 then (some ((t224 ++ t226) ++ (((((t218 ++ t219) ++ (strOfNums y220)) ++ t223) ++ a0_2) ++ a0_3))) else (none)) else (none)))) else (none))) else (none)) else (none)) else (none))) else (none))) else (none))) = some r := H
   have A6 := Aside0.mk A60
   clear A60
   replace H := Option.bind_eq_some_iff.mp H
   obtain ⟨t219, A70, H⟩ := H
   replace H : (if t218.size + t219.size ≤ 9223372036854775807 then ((some (([(x3_1) % 256] : List Int) : List Int)).bind fun y220 => (if (t218 ++ t219).size + (strOfNums y220).size ≤ 9223372036854775807 then ((fairwayref1_Fixed.f kj1 (a0_2.size : Int) 2).bind fun t223 => (if ((t218 ++ t219) ++ (strOfNums y220)).size + t223.size ≤ 9223372036854775807 then (if (((t218 ++ t219) ++ (strOfNums y220)) ++ t223).size + a0_2.size ≤ 9223372036854775807 then (if ((((t218 ++ t219) ++ (strOfNums y220)) ++ t223) ++ a0_2).size + a0_3.size ≤ 9223372036854775807 then ((fairwayref1_Fixed.f kj1 ((((((t218 ++ t219) ++ (strOfNums y220)) ++ t223) ++ a0_2) ++ a0_3).size : Int) 2).bind fun t224 => (if t224.size + (((((t218 ++ t219) ++ (strOfNums y220)) ++ t223) ++ a0_2) ++ a0_3).size ≤ 9223372036854775807 then ((fairwayref1_Sum.f kj1 0 (t224 ++ (((((t218 ++ t219) ++ (strOfNums y220)) ++ t223) ++ a0_2) ++ a0_3))).bind fun t225 => ((fairwayref1_Fixed.f kj1 (wrap64 (t225)) 4).bind fun t226 => (if t224.size + t226.size ≤ 9223372036854775807 then (if (t224 ++ t226).size + (((((t218 ++ t219) ++ (strOfNums y220)) ++ t223) ++ a0_2) ++ a0_3).size ≤ 9223372036854775807 then (some ((t224 ++ t226) ++ (((((t218 ++ t219) ++ (strOfNums y220)) ++ t223) ++ a0_2) ++ a0_3))) else (none)) else (none)))) else (none))) else (none)) else (none)) else (none))) else (none))) else (none)) = some r := H
   have A7 := Aside0.mk A70
   clear A70
   by_cases c8 : t218.size + t219.size ≤ 9223372036854775807
   ·rw [if_pos c8] at H
    have c8b0 := eq_true c8
    have c8b1 : decide (t218.size + t219.size ≤ 9223372036854775807) = true := decide_eq_true c8
    try have c8b2 : (9223372036854775807 < t218.size + t219.size) = False := eq_false (Nat.not_lt.2 c8)
    obtain ⟨y220, hy220⟩ : ∃ y_ : List Int, y_ = (([(x3_1) % 256] : List Int)) := ⟨_, rfl⟩
    replace H : (if (t218 ++ t219).size + (strOfNums y220).size ≤ 9223372036854775807 then ((fairwayref1_Fixed.f kj1 (a0_2.size : Int) 2).bind fun t223 => (if ((t218 ++ t219) ++ (strOfNums y220)).size + t223.size ≤ 9223372036854775807 then (if (((t218 ++ t219) ++ (strOfNums y220)) ++ t223).size + a0_2.size ≤ 9223372036854775807 then (if ((((t218 ++ t219) ++ (strOfNums y220)) ++ t223) ++ a0_2).size + a0_3.size ≤ 9223372036854775807 then ((fairwayref1_Fixed.f kj1 ((((((t218 ++ t219) ++ (strOfNums y220)) ++ t223) ++ a0_2) ++ a0_3).size : Int) 2).bind fun t224 => (if t224.size + (((((t218 ++ t219) ++ (strOfNums y220)) ++ t223) ++ a0_2) ++ a0_3).size ≤ 9223372036854775807 then ((fairwayref1_Sum.f kj1 0 (t224 ++ (((((t218 ++ t219) ++ (strOfNums y220)) ++ t223) ++ a0_2) ++ a0_3))).bind fun t225 => ((fairwayref1_Fixed.f kj1 (wrap64 (t225)) 4).bind fun t226 => (if t224.size + t226.size ≤ 9223372036854775807 then (if (t224 ++ t226).size + (((((t218 ++ t219) ++ (strOfNums y220)) ++ t223) ++ a0_2) ++ a0_3).size ≤ 9223372036854775807 then (some ((t224 ++ t226) ++ (((((t218 ++ t219) ++ (strOfNums y220)) ++ t223) ++ a0_2) ++ a0_3))) else (none)) else (none)))) else (none))) else (none)) else (none)) else (none))) else (none)) = some r := by first | (rw [hy220]; with_reducible exact H) | (have H2_ := (Option.bind_some _ _).symm.trans H; rw [hy220]; with_reducible exact H2_) | (have H2_ := (Option.bind_some _ _).symm.trans H; with_reducible exact H2_) | with_reducible exact H | (rw [hy220]; exact H) | exact H
    have Ny220 := Aside0.mk hy220
    clear hy220
    by_cases c9 : (t218 ++ t219).size + (strOfNums y220).size ≤ 9223372036854775807
    ·rw [if_pos c9] at H
     have c9b0 := eq_true c9
     have c9b1 : decide ((t218 ++ t219).size + (strOfNums y220).size ≤ 9223372036854775807) = true := decide_eq_true c9
     try have c9b2 : (9223372036854775807 < (t218 ++ t219).size + (strOfNums y220).size) = False := eq_false (Nat.not_lt.2 c9)
     (try (have c9n2 := c9b2; simp only [ByteArray.size_append] at c9n2))
     (try (have c9n1 := c9b1; simp only [ByteArray.size_append] at c9n1))
     replace H := Option.bind_eq_some_iff.mp H
     obtain ⟨t223, A100, H⟩ := H
     replace H : (if ((t218 ++ t219) ++ (strOfNums y220)).size + t223.size ≤ 9223372036854775807 then (if (((t218 ++ t219) ++ (strOfNums y220)) ++ t223).size + a0_2.size ≤ 9223372036854775807 then (if ((((t218 ++ t219) ++ (strOfNums y220)) ++ t223) ++ a0_2).size + a0_3.size ≤ 9223372036854775807 then ((fairwayref1_Fixed.f kj1 ((((((t218 ++ t219) ++ (strOfNums y220)) ++ t223) ++ a0_2) ++ a0_3).size : Int) 2).bind fun t224 => (if t224.size + (((((t218 ++ t219) ++ (strOfNums y220)) ++ t223) ++ a0_2) ++ a0_3).size ≤ 9223372036854775807 then ((fairwayref1_Sum.f kj1 0 (t224 ++ (((((t218 ++ t219) ++ (strOfNums y220)) ++ t223) ++ a0_2) ++ a0_3))).bind fun t225 => ((fairwayref1_Fixed.f kj1 (wrap64 (t225)) 4).bind fun t226 => (if t224.size + t226.size ≤ 9223372036854775807 then (if (t224 ++ t226).size + (((((t218 ++ t219) ++ (strOfNums y220)) ++ t223) ++ a0_2) ++ a0_3).size ≤ 9223372036854775807 then (some ((t224 ++ t226) ++ (((((t218 ++ t219) ++ (strOfNums y220)) ++ t223) ++ a0_2) ++ a0_3))) else (none)) else (none)))) else (none))) else (none)) else (none)) else (none)) = some r := H
     have A10 := Aside0.mk A100
     clear A100
     by_cases c11 : ((t218 ++ t219) ++ (strOfNums y220)).size + t223.size ≤ 9223372036854775807
     ·rw [if_pos c11] at H
      have c11b0 := eq_true c11
      have c11b1 : decide (((t218 ++ t219) ++ (strOfNums y220)).size + t223.size ≤ 9223372036854775807) = true := decide_eq_true c11
      try have c11b2 : (9223372036854775807 < ((t218 ++ t219) ++ (strOfNums y220)).size + t223.size) = False := eq_false (Nat.not_lt.2 c11)
      (try (have c11n2 := c11b2; simp only [ByteArray.size_append] at c11n2))
      (try (have c11n1 := c11b1; simp only [ByteArray.size_append] at c11n1))
      by_cases c12 : (((t218 ++ t219) ++ (strOfNums y220)) ++ t223).size + a0_2.size ≤ 9223372036854775807
      ·rw [if_pos c12] at H
       have c12b0 := eq_true c12
       have c12b1 : decide ((((t218 ++ t219) ++ (strOfNums y220)) ++ t223).size + a0_2.size ≤ 9223372036854775807) = true := decide_eq_true c12
       try have c12b2 : (9223372036854775807 < (((t218 ++ t219) ++ (strOfNums y220)) ++ t223).size + a0_2.size) = False := eq_false (Nat.not_lt.2 c12)
       (try (have c12n2 := c12b2; simp only [ByteArray.size_append] at c12n2))
       (try (have c12n1 := c12b1; simp only [ByteArray.size_append] at c12n1))
       by_cases c13 : ((((t218 ++ t219) ++ (strOfNums y220)) ++ t223) ++ a0_2).size + a0_3.size ≤ 9223372036854775807
       ·rw [if_pos c13] at H
        have c13b0 := eq_true c13
        have c13b1 : decide (((((t218 ++ t219) ++ (strOfNums y220)) ++ t223) ++ a0_2).size + a0_3.size ≤ 9223372036854775807) = true := decide_eq_true c13
        try have c13b2 : (9223372036854775807 < ((((t218 ++ t219) ++ (strOfNums y220)) ++ t223) ++ a0_2).size + a0_3.size) = False := eq_false (Nat.not_lt.2 c13)
        (try (have c13n2 := c13b2; simp only [ByteArray.size_append] at c13n2))
        (try (have c13n1 := c13b1; simp only [ByteArray.size_append] at c13n1))
        replace H := Option.bind_eq_some_iff.mp H
        obtain ⟨t224, A140, H⟩ := H
        replace H : (if t224.size + (((((t218 ++ t219) ++ (strOfNums y220)) ++ t223) ++ a0_2) ++ a0_3).size ≤ 9223372036854775807 then ((fairwayref1_Sum.f kj1 0 (t224 ++ (((((t218 ++ t219) ++ (strOfNums y220)) ++ t223) ++ a0_2) ++ a0_3))).bind fun t225 => ((fairwayref1_Fixed.f kj1 (wrap64 (t225)) 4).bind fun t226 => (if t224.size + t226.size ≤ 9223372036854775807 then (if (t224 ++ t226).size + (((((t218 ++ t219) ++ (strOfNums y220)) ++ t223) ++ a0_2) ++ a0_3).size ≤ 9223372036854775807 then (some ((t224 ++ t226) ++ (((((t218 ++ t219) ++ (strOfNums y220)) ++ t223) ++ a0_2) ++ a0_3))) else (none)) else (none)))) else (none)) = some r := H
        have A14 := Aside0.mk A140
        clear A140
        by_cases c15 : t224.size + (((((t218 ++ t219) ++ (strOfNums y220)) ++ t223) ++ a0_2) ++ a0_3).size ≤ 9223372036854775807
        ·rw [if_pos c15] at H
         have c15b0 := eq_true c15
         have c15b1 : decide (t224.size + (((((t218 ++ t219) ++ (strOfNums y220)) ++ t223) ++ a0_2) ++ a0_3).size ≤ 9223372036854775807) = true := decide_eq_true c15
         try have c15b2 : (9223372036854775807 < t224.size + (((((t218 ++ t219) ++ (strOfNums y220)) ++ t223) ++ a0_2) ++ a0_3).size) = False := eq_false (Nat.not_lt.2 c15)
         (try (have c15n2 := c15b2; simp only [ByteArray.size_append] at c15n2))
         (try (have c15n1 := c15b1; simp only [ByteArray.size_append] at c15n1))
         replace H := Option.bind_eq_some_iff.mp H
         obtain ⟨t225, A160, H⟩ := H
         replace H : ((fairwayref1_Fixed.f kj1 (wrap64 (t225)) 4).bind fun t226 => (if t224.size + t226.size ≤ 9223372036854775807 then (if (t224 ++ t226).size + (((((t218 ++ t219) ++ (strOfNums y220)) ++ t223) ++ a0_2) ++ a0_3).size ≤ 9223372036854775807 then (some ((t224 ++ t226) ++ (((((t218 ++ t219) ++ (strOfNums y220)) ++ t223) ++ a0_2) ++ a0_3))) else (none)) else (none))) = some r := H
         have A16 := Aside0.mk A160
         clear A160
         replace H := Option.bind_eq_some_iff.mp H
         obtain ⟨t226, A170, H⟩ := H
         replace H : (if t224.size + t226.size ≤ 9223372036854775807 then (if (t224 ++ t226).size + (((((t218 ++ t219) ++ (strOfNums y220)) ++ t223) ++ a0_2) ++ a0_3).size ≤ 9223372036854775807 then (some ((t224 ++ t226) ++ (((((t218 ++ t219) ++ (strOfNums y220)) ++ t223) ++ a0_2) ++ a0_3))) else (none)) else (none)) = some r := H
         have A17 := Aside0.mk A170
         clear A170
         by_cases c18 : t224.size + t226.size ≤ 9223372036854775807
         ·rw [if_pos c18] at H
          have c18b0 := eq_true c18
          have c18b1 : decide (t224.size + t226.size ≤ 9223372036854775807) = true := decide_eq_true c18
          try have c18b2 : (9223372036854775807 < t224.size + t226.size) = False := eq_false (Nat.not_lt.2 c18)
          by_cases c19 : (t224 ++ t226).size + (((((t218 ++ t219) ++ (strOfNums y220)) ++ t223) ++ a0_2) ++ a0_3).size ≤ 9223372036854775807
          ·rw [if_pos c19] at H
           have c19b0 := eq_true c19
           have c19b1 : decide ((t224 ++ t226).size + (((((t218 ++ t219) ++ (strOfNums y220)) ++ t223) ++ a0_2) ++ a0_3).size ≤ 9223372036854775807) = true := decide_eq_true c19
           try have c19b2 : (9223372036854775807 < (t224 ++ t226).size + (((((t218 ++ t219) ++ (strOfNums y220)) ++ t223) ++ a0_2) ++ a0_3).size) = False := eq_false (Nat.not_lt.2 c19)
           (try (have c19n2 := c19b2; simp only [ByteArray.size_append] at c19n2))
           (try (have c19n1 := c19b1; simp only [ByteArray.size_append] at c19n1))
           obtain rfl := Option.some.inj H
           try go_wp2
           have n0_ := Aside0.mk (blk_drew BK217.out)
           have n1_ := Aside0.mk (below_drew1 HB.out)
           clear BK217
           clear HB
           have BK217 := n0_
           have HB := n1_
           clear n0_ n1_
           refine start_ (n := 24) (S := fun w' => w'.cell? ⟨gb217, 0, none⟩ = some (.int .i64 a0_0) ∧ w'.cell? ⟨gb217, 1, none⟩ = some (.int .i64 a0_1) ∧ w'.cell? ⟨gb217, 2, none⟩ = some (.string a0_2) ∧ w'.cell? ⟨gb217, 3, none⟩ = some (.string a0_3) ∧ w'.cell? ⟨gb217, 4, none⟩ = some (.int .i64 a0_4) ∧ w'.cell? ⟨gb217, 5, none⟩ = some (.bool a0_5)) (ds := []) #[O,O,O,O,O,O,O,O,O,O,O,O,O,O,O,O,O,O,O,O,O,O,O,O] (by kernel_rfl) rfl rfl ⟨(blk_cell BK217.out 0).trans rfl, (blk_cell BK217.out 1).trans rfl, (blk_cell BK217.out 2).trans rfl, (blk_cell BK217.out 3).trans rfl, (blk_cell BK217.out 4).trans rfl, (blk_cell BK217.out 5).trans rfl⟩ (fun hHeld => ?_); refine with_tabW fairwayref10_Bytes.tab4 fairwayref10_Bytes.bits4 (fun HT_ HW_ => ?_)
           generalize wc.drew = w20 at BK217 HB hHeld ⊢
           refine pz (i := 0) (N := some 12) #[I,O,O,O,O,O,O,O,O,O,O,O,O,O,O,O,O,O,O,O,O,O,O,O] ?_
           refine pz (i := 3) (N := some 15) #[I,O,O,I,O,O,O,O,O,O,O,O,O,O,O,O,O,O,O,O,O,O,O,O] ?_
           refine pz (i := 7) (N := some 19) #[I,O,O,I,O,O,O,I,O,O,O,O,O,O,O,O,O,O,O,O,O,O,O,O] ?_
           refine pz (i := 8) (N := some 20) #[I,O,O,I,O,O,O,I,I,O,O,O,O,O,O,O,O,O,O,O,O,O,O,O] ?_
           refine pz (i := 12) (N := some 24) #[I,O,O,I,O,O,O,I,I,O,O,O,I,O,O,O,O,O,O,O,O,O,O,O] ?_
           refine pz (i := 17) (N := some 29) #[I,O,O,I,O,O,O,I,I,O,O,O,I,O,O,O,O,I,O,O,O,O,O,O] ?_
           refine pz (i := 20) (N := some 32) #[I,O,O,I,O,O,O,I,I,O,O,O,I,O,O,O,O,I,O,O,I,O,O,O] ?_
           refine tz (i := 1) (N := some 13) #[I,I,O,I,O,O,O,I,I,O,O,O,I,O,O,O,O,I,O,O,I,O,O,O] ?_
           refine tz (i := 4) (N := some 16) #[I,I,O,I,I,O,O,I,I,O,O,O,I,O,O,O,O,I,O,O,I,O,O,O] ?_
           refine tz (i := 13) (N := some 25) #[I,I,O,I,I,O,O,I,I,O,O,O,I,I,O,O,O,I,O,O,I,O,O,O] ?_
           refine pz (i := 14) (N := some 26) #[I,I,O,I,I,O,O,I,I,O,O,O,I,I,I,O,O,I,O,O,I,O,O,O] ?_
           refine tz (i := 18) (N := some 30) #[I,I,O,I,I,O,O,I,I,O,O,O,I,I,I,O,O,I,I,O,I,O,O,O] ?_
           refine tz (i := 21) (N := some 33) #[I,I,O,I,I,O,O,I,I,O,O,O,I,I,I,O,O,I,I,O,I,I,O,O] ?_
           refine join_ (σ := Value) 4 #[I,I,I,I,I,I,I,I,I,I,I,I,I,I,I,I,O,I,I,O,I,I,O,O] (fun s_ => [(14, .string t218), (17, .string t219), (21, s_), (22, .string (strOfNums y220)), (27, .string t223), (18, .string (t218 ++ t219)), (23, .string ((t218 ++ t219) ++ (strOfNums y220)))]) (fun s_ w' => (w'.cell? ⟨gb217, 0, none⟩ = some (.int .i64 a0_0) ∧ w'.cell? ⟨gb217, 1, none⟩ = some (.int .i64 a0_1) ∧ w'.cell? ⟨gb217, 2, none⟩ = some (.string a0_2) ∧ w'.cell? ⟨gb217, 3, none⟩ = some (.string a0_3) ∧ w'.cell? ⟨gb217, 4, none⟩ = some (.int .i64 a0_4) ∧ w'.cell? ⟨gb217, 5, none⟩ = some (.bool a0_5)) ∧ (Kd.R (Kd.int .u8) 5 w' w.heap.size (fun _ => True) s_ y220) ∧ (w'.heap[gb217]? = some (.cells #[.int .i64 a0_0, .int .i64 a0_1, .string a0_2, .string a0_3, .int .i64 a0_4, .bool a0_5] 25 (0, 0))) ∧ (Below w.heap.size w w')) ?_ ?_
           rotate_left
           ·intro hJ2_5_9_10_15
            refine join_ (σ := Value) 5 #[I,I,I,I,I,I,I,I,I,I,I,I,I,I,I,O,O,I,I,O,I,I,O,O] (fun s_ => [(14, .string t218), (17, .string t219), (21, s_), (22, .string (strOfNums y220)), (18, .string (t218 ++ t219)), (23, .string ((t218 ++ t219) ++ (strOfNums y220)))]) (fun s_ w' => (w'.cell? ⟨gb217, 0, none⟩ = some (.int .i64 a0_0) ∧ w'.cell? ⟨gb217, 1, none⟩ = some (.int .i64 a0_1) ∧ w'.cell? ⟨gb217, 2, none⟩ = some (.string a0_2) ∧ w'.cell? ⟨gb217, 3, none⟩ = some (.string a0_3) ∧ w'.cell? ⟨gb217, 4, none⟩ = some (.int .i64 a0_4) ∧ w'.cell? ⟨gb217, 5, none⟩ = some (.bool a0_5)) ∧ (Kd.R (Kd.int .u8) 5 w' w.heap.size (fun _ => True) s_ y220) ∧ (w'.heap[gb217]? = some (.cells #[.int .i64 a0_0, .int .i64 a0_1, .string a0_2, .string a0_3, .int .i64 a0_4, .bool a0_5] 25 (0, 0))) ∧ (Below w.heap.size w w')) ?_ ?_
            rotate_left
            ·intro hJ2_5_9_10
             refine join_ (σ := Value) 6 #[I,I,I,I,I,I,I,I,I,I,O,O,I,I,I,I,O,I,I,O,I,I,O,O] (fun s_ => [(14, .string t218), (17, .string t219), (21, s_), (27, .string t223), (18, .string (t218 ++ t219))]) (fun s_ w' => (w'.cell? ⟨gb217, 0, none⟩ = some (.int .i64 a0_0) ∧ w'.cell? ⟨gb217, 1, none⟩ = some (.int .i64 a0_1) ∧ w'.cell? ⟨gb217, 2, none⟩ = some (.string a0_2) ∧ w'.cell? ⟨gb217, 3, none⟩ = some (.string a0_3) ∧ w'.cell? ⟨gb217, 4, none⟩ = some (.int .i64 a0_4) ∧ w'.cell? ⟨gb217, 5, none⟩ = some (.bool a0_5)) ∧ (Kd.R (Kd.int .u8) 5 w' w.heap.size (fun _ => True) s_ y220) ∧ (w'.heap[gb217]? = some (.cells #[.int .i64 a0_0, .int .i64 a0_1, .string a0_2, .string a0_3, .int .i64 a0_4, .bool a0_5] 25 (0, 0))) ∧ (Below w.heap.size w w')) ?_ ?_
             rotate_left
             ·intro hJ2_5_9_15
              refine join_ (σ := Value) 7 #[I,I,I,I,I,I,I,I,I,I,O,O,I,I,I,O,O,I,I,O,I,I,O,O] (fun s_ => [(14, .string t218), (17, .string t219), (21, s_), (18, .string (t218 ++ t219))]) (fun s_ w' => (w'.cell? ⟨gb217, 0, none⟩ = some (.int .i64 a0_0) ∧ w'.cell? ⟨gb217, 1, none⟩ = some (.int .i64 a0_1) ∧ w'.cell? ⟨gb217, 2, none⟩ = some (.string a0_2) ∧ w'.cell? ⟨gb217, 3, none⟩ = some (.string a0_3) ∧ w'.cell? ⟨gb217, 4, none⟩ = some (.int .i64 a0_4) ∧ w'.cell? ⟨gb217, 5, none⟩ = some (.bool a0_5)) ∧ (Kd.R (Kd.int .u8) 5 w' w.heap.size (fun _ => True) s_ y220) ∧ (w'.heap[gb217]? = some (.cells #[.int .i64 a0_0, .int .i64 a0_1, .string a0_2, .string a0_3, .int .i64 a0_4, .bool a0_5] 25 (0, 0))) ∧ (Below w.heap.size w w')) ?_ ?_
              rotate_left
              ·intro hJ2_5_9
               refine join_ (σ := Unit) 7 #[I,I,I,I,I,I,I,I,I,O,O,O,I,I,I,I,O,I,I,O,I,I,O,O] (fun s_ => [(14, .string t218), (17, .string t219), (27, .string t223), (18, .string (t218 ++ t219))]) (fun s_ w' => (w'.cell? ⟨gb217, 0, none⟩ = some (.int .i64 a0_0) ∧ w'.cell? ⟨gb217, 1, none⟩ = some (.int .i64 a0_1) ∧ w'.cell? ⟨gb217, 2, none⟩ = some (.string a0_2) ∧ w'.cell? ⟨gb217, 3, none⟩ = some (.string a0_3) ∧ w'.cell? ⟨gb217, 4, none⟩ = some (.int .i64 a0_4) ∧ w'.cell? ⟨gb217, 5, none⟩ = some (.bool a0_5)) ∧ (w'.heap[gb217]? = some (.cells #[.int .i64 a0_0, .int .i64 a0_1, .string a0_2, .string a0_3, .int .i64 a0_4, .bool a0_5] 25 (0, 0))) ∧ (Below w.heap.size w w')) ?_ ?_
               rotate_left
               ·intro hJ2_5_15
                refine join_ (σ := Value) 8 #[I,I,I,I,I,O,O,I,I,I,I,O,I,I,I,O,O,I,I,O,I,I,O,O] (fun s_ => [(14, .string t218), (21, s_), (22, .string (strOfNums y220))]) (fun s_ w' => (w'.cell? ⟨gb217, 0, none⟩ = some (.int .i64 a0_0) ∧ w'.cell? ⟨gb217, 1, none⟩ = some (.int .i64 a0_1) ∧ w'.cell? ⟨gb217, 2, none⟩ = some (.string a0_2) ∧ w'.cell? ⟨gb217, 3, none⟩ = some (.string a0_3) ∧ w'.cell? ⟨gb217, 4, none⟩ = some (.int .i64 a0_4) ∧ w'.cell? ⟨gb217, 5, none⟩ = some (.bool a0_5)) ∧ (Kd.R (Kd.int .u8) 5 w' w.heap.size (fun _ => True) s_ y220) ∧ (w'.heap[gb217]? = some (.cells #[.int .i64 a0_0, .int .i64 a0_1, .string a0_2, .string a0_3, .int .i64 a0_4, .bool a0_5] 25 (0, 0))) ∧ (Below w.heap.size w w')) ?_ ?_
                rotate_left
                ·intro hJ2_9_10
                 refine join_ (σ := Unit) 8 #[I,I,I,I,I,I,I,I,I,O,O,O,I,I,I,O,O,I,I,O,I,I,O,O] (fun s_ => [(14, .string t218), (17, .string t219), (18, .string (t218 ++ t219))]) (fun s_ w' => (w'.cell? ⟨gb217, 0, none⟩ = some (.int .i64 a0_0) ∧ w'.cell? ⟨gb217, 1, none⟩ = some (.int .i64 a0_1) ∧ w'.cell? ⟨gb217, 2, none⟩ = some (.string a0_2) ∧ w'.cell? ⟨gb217, 3, none⟩ = some (.string a0_3) ∧ w'.cell? ⟨gb217, 4, none⟩ = some (.int .i64 a0_4) ∧ w'.cell? ⟨gb217, 5, none⟩ = some (.bool a0_5)) ∧ (w'.heap[gb217]? = some (.cells #[.int .i64 a0_0, .int .i64 a0_1, .string a0_2, .string a0_3, .int .i64 a0_4, .bool a0_5] 25 (0, 0))) ∧ (Below w.heap.size w w')) ?_ ?_
                 rotate_left
                 ·intro hJ2_5
                  refine join_ (σ := Value) 9 #[I,I,I,I,I,O,O,I,I,I,O,O,I,I,I,O,O,I,I,O,I,I,O,O] (fun s_ => [(14, .string t218), (21, s_)]) (fun s_ w' => (w'.cell? ⟨gb217, 0, none⟩ = some (.int .i64 a0_0) ∧ w'.cell? ⟨gb217, 1, none⟩ = some (.int .i64 a0_1) ∧ w'.cell? ⟨gb217, 2, none⟩ = some (.string a0_2) ∧ w'.cell? ⟨gb217, 3, none⟩ = some (.string a0_3) ∧ w'.cell? ⟨gb217, 4, none⟩ = some (.int .i64 a0_4) ∧ w'.cell? ⟨gb217, 5, none⟩ = some (.bool a0_5)) ∧ (Kd.R (Kd.int .u8) 5 w' w.heap.size (fun _ => True) s_ y220) ∧ (w'.heap[gb217]? = some (.cells #[.int .i64 a0_0, .int .i64 a0_1, .string a0_2, .string a0_3, .int .i64 a0_4, .bool a0_5] 25 (0, 0))) ∧ (Below w.heap.size w w')) ?_ ?_
                  rotate_left
                  ·intro hJ2_9
                   refine join_ (σ := Value) 9 #[I,I,O,I,I,O,O,I,I,I,I,O,I,I,I,O,O,I,I,O,I,I,O,O] (fun s_ => [(21, s_), (22, .string (strOfNums y220))]) (fun s_ w' => (w'.cell? ⟨gb217, 0, none⟩ = some (.int .i64 a0_0) ∧ w'.cell? ⟨gb217, 1, none⟩ = some (.int .i64 a0_1) ∧ w'.cell? ⟨gb217, 2, none⟩ = some (.string a0_2) ∧ w'.cell? ⟨gb217, 3, none⟩ = some (.string a0_3) ∧ w'.cell? ⟨gb217, 4, none⟩ = some (.int .i64 a0_4) ∧ w'.cell? ⟨gb217, 5, none⟩ = some (.bool a0_5)) ∧ (Kd.R (Kd.int .u8) 5 w' w.heap.size (fun _ => True) s_ y220) ∧ (w'.heap[gb217]? = some (.cells #[.int .i64 a0_0, .int .i64 a0_1, .string a0_2, .string a0_3, .int .i64 a0_4, .bool a0_5] 25 (0, 0))) ∧ (Below w.heap.size w w')) ?_ ?_
                   rotate_left
                   ·intro hJ9_10
                    refine join_ (σ := Unit) 10 #[I,I,I,I,I,O,O,I,I,O,O,O,I,I,I,O,O,I,I,O,I,I,O,O] (fun s_ => [(14, .string t218)]) (fun s_ w' => (w'.cell? ⟨gb217, 0, none⟩ = some (.int .i64 a0_0) ∧ w'.cell? ⟨gb217, 1, none⟩ = some (.int .i64 a0_1) ∧ w'.cell? ⟨gb217, 2, none⟩ = some (.string a0_2) ∧ w'.cell? ⟨gb217, 3, none⟩ = some (.string a0_3) ∧ w'.cell? ⟨gb217, 4, none⟩ = some (.int .i64 a0_4) ∧ w'.cell? ⟨gb217, 5, none⟩ = some (.bool a0_5)) ∧ (w'.heap[gb217]? = some (.cells #[.int .i64 a0_0, .int .i64 a0_1, .string a0_2, .string a0_3, .int .i64 a0_4, .bool a0_5] 25 (0, 0))) ∧ (Below w.heap.size w w')) ?_ ?_
                    rotate_left
                    ·intro hJ2
                     refine join_ (σ := Value) 10 #[I,I,O,I,I,O,O,I,I,I,O,O,I,I,I,O,O,I,I,O,I,I,O,O] (fun s_ => [(21, s_)]) (fun s_ w' => (w'.cell? ⟨gb217, 0, none⟩ = some (.int .i64 a0_0) ∧ w'.cell? ⟨gb217, 1, none⟩ = some (.int .i64 a0_1) ∧ w'.cell? ⟨gb217, 2, none⟩ = some (.string a0_2) ∧ w'.cell? ⟨gb217, 3, none⟩ = some (.string a0_3) ∧ w'.cell? ⟨gb217, 4, none⟩ = some (.int .i64 a0_4) ∧ w'.cell? ⟨gb217, 5, none⟩ = some (.bool a0_5)) ∧ (Kd.R (Kd.int .u8) 5 w' w.heap.size (fun _ => True) s_ y220) ∧ (w'.heap[gb217]? = some (.cells #[.int .i64 a0_0, .int .i64 a0_1, .string a0_2, .string a0_3, .int .i64 a0_4, .bool a0_5] 25 (0, 0))) ∧ (Below w.heap.size w w')) ?_ ?_
                     rotate_left
                     ·intro hJ9
                      refine two_ (i := 2) (j := 9) (Ni := some 14) (Nj := some 21) #[I,I,I,I,I,O,O,I,I,O,O,O,I,I,I,O,O,I,I,O,I,I,O,O] #[I,I,O,I,I,O,O,I,I,I,O,O,I,I,I,O,O,I,I,O,I,I,O,O] rfl rfl rfl rfl (two_of HT_.out (by kernel_rfl)) (by decide) (by decide) (fun K hK => ?_) (fun K hK => ?_)
                      ·skip
                       refine goes_ Try.func69 (by kernel_rfl) rfl #[.int .i64 a0_0, .int .i64 8] (by rfl) rfl rfl aa ?_
                       with_reducible refine (fairwayref1_Fixed.calls kj1 a0_0 8 t218 _ A6.out).mono ?_
                       rintro e w21 ⟨rfl, hb⟩
                       refine ⟨_, rfl, ?_⟩
                       have n0_ := Aside0.mk (blk_below (g := gb217) (o := .cells #[.int .i64 a0_0, .int .i64 a0_1, .string a0_2, .string a0_3, .int .i64 a0_4, .bool a0_5] 25 (0, 0)) (bk BK217.out) hb)
                       have n1_ := Aside0.mk (below_step bo hb)
                       clear BK217
                       clear HB
                       have BK217 := n0_
                       have HB := n1_
                       clear n0_ n1_
                       (try clear hb)
                       (try clear hb2)
                       (try clear hk)
                       (try clear hi)
                       refine hK.out _ _ ⟨(blk_cell BK217.out 0).trans rfl, (blk_cell BK217.out 1).trans rfl, (blk_cell BK217.out 2).trans rfl, (blk_cell BK217.out 3).trans rfl, (blk_cell BK217.out 4).trans rfl, (blk_cell BK217.out 5).trans rfl⟩ (fun hHeld => ?_)
                       clear hK K
                       refine norm_ (a' := ?_) ?_ ?_
                       rotate_left
                       ·show Act.put _ (some 14) _ = _
                        simp only [Act.put, List.setIfInBounds_toArray, List.set_cons_zero, List.set_cons_succ, i64_w, i32_w]
                        rfl
                       exact norm_ (by first | (simp only [putAll, Act.put, List.setIfInBounds_toArray, List.set_cons_zero, List.set_cons_succ]; done) | (simp only [putAll, Act.put, List.setIfInBounds_toArray, List.set_cons_zero, List.set_cons_succ]; rfl)) (hJ2 () _ ⟨hHeld, (bk BK217.out), bo⟩)
                      ·skip
                       refine Kd.R_lit_step (Kd.int .u8) _ 5 ?hg (N := 21) ?hd (xs := ([(x3_1) % 256] : List Int)) (inner := [.int .u8 ((x3_1) % 256)]) (ok := fun _ => True) (okp := fun _ => True) ?hr ?hp (fun _ hk => hk) trivial (Below.refl _ _) (Nat.le_refl _) (by simp) ?_; (case hd => rfl); (case hg => rfl); (case hr => first | (go_simp; done) | (go_simp; rfl)); (case hp => exact (Reps.one (show Kd.M (Kd.int .u8) _ _ _ ((x3_1) % 256) [.int .u8 ((x3_1) % 256)] from rfl) (Reps.none _ _)))
                       intro v221 w21 ho22 hb hg_ hnew_
                       clear hg_ hnew_
                       (first | rw [← Ny220.out] at ho22 | (simp only [Int.reduceToNat] at ho22; rw [← Ny220.out] at ho22))
                       have n0_ := Aside0.mk (Kd.R_lower ho22 (below_size bo))
                       have n1_ := Aside0.mk (blk_below (g := gb217) (o := .cells #[.int .i64 a0_0, .int .i64 a0_1, .string a0_2, .string a0_3, .int .i64 a0_4, .bool a0_5] 25 (0, 0)) (bk BK217.out) hb)
                       have n2_ := Aside0.mk (below_step bo hb)
                       clear BK217
                       clear HB
                       have HO222 := n0_
                       have BK217 := n1_
                       have HB := n2_
                       clear n0_ n1_ n2_
                       clear hb ho22
                       refine hK.out _ _ ⟨(blk_cell BK217.out 0).trans rfl, (blk_cell BK217.out 1).trans rfl, (blk_cell BK217.out 2).trans rfl, (blk_cell BK217.out 3).trans rfl, (blk_cell BK217.out 4).trans rfl, (blk_cell BK217.out 5).trans rfl⟩ (fun hHeld => ?_)
                       clear hK K
                       refine norm_ (a' := ?_) ?_ ?_
                       rotate_left
                       ·show Act.put _ (some 21) _ = _
                        simp only [Act.put, List.setIfInBounds_toArray, List.set_cons_zero, List.set_cons_succ, i64_w, i32_w]
                        rfl
                       exact norm_ (by first | (simp only [putAll, Act.put, List.setIfInBounds_toArray, List.set_cons_zero, List.set_cons_succ]; done) | (simp only [putAll, Act.put, List.setIfInBounds_toArray, List.set_cons_zero, List.set_cons_succ]; rfl)) (hJ9 (v221) _ ⟨hHeld, (rk HO222.out), (bk BK217.out), bo⟩)
                     ·skip
                      rintro v221 w23 ⟨hS_, h0_, h1_, h2_⟩
                      have n0_ : Aside0 (Kd.R (Kd.int .u8) 5 w23 w.heap.size (fun _ => True) v221 y220) := ⟨h0_⟩
                      have n1_ : Aside0 (w23.heap[gb217]? = some (.cells #[.int .i64 a0_0, .int .i64 a0_1, .string a0_2, .string a0_3, .int .i64 a0_4, .bool a0_5] 25 (0, 0))) := ⟨h1_⟩
                      have n2_ : Aside0 (Below w.heap.size w w23) := ⟨h2_⟩
                      clear BK217
                      clear HB
                      clear h0_ h1_ h2_
                      have HO222 := n0_
                      have BK217 := n1_
                      have HB := n2_
                      clear n0_ n1_ n2_
                      have hHeld : w23.cell? ⟨gb217, 0, none⟩ = some (.int .i64 a0_0) ∧ w23.cell? ⟨gb217, 1, none⟩ = some (.int .i64 a0_1) ∧ w23.cell? ⟨gb217, 2, none⟩ = some (.string a0_2) ∧ w23.cell? ⟨gb217, 3, none⟩ = some (.string a0_3) ∧ w23.cell? ⟨gb217, 4, none⟩ = some (.int .i64 a0_4) ∧ w23.cell? ⟨gb217, 5, none⟩ = some (.bool a0_5) := hS_
                      refine norm_ (a' := ?_) ?_ ?_
                      rotate_left
                      ·simp only [putAll, Act.put, List.setIfInBounds_toArray, List.set_cons_zero, List.set_cons_succ]
                       rfl
                      refine two_ (i := 2) (j := 10) (Ni := some 14) (Nj := some 22) #[I,I,I,I,I,O,O,I,I,I,O,O,I,I,I,O,O,I,I,O,I,I,O,O] #[I,I,O,I,I,O,O,I,I,I,I,O,I,I,I,O,O,I,I,O,I,I,O,O] rfl rfl rfl rfl (two_of HT_.out (by kernel_rfl)) (by decide) (by decide) (fun K hK => ?_) (fun K hK => ?_)
                      ·skip
                       refine goes_ Try.func69 (by kernel_rfl) rfl #[.int .i64 a0_0, .int .i64 8] (by rfl) rfl rfl aa ?_
                       with_reducible refine (fairwayref1_Fixed.calls kj1 a0_0 8 t218 _ A6.out).mono ?_
                       rintro e w24 ⟨rfl, hb⟩
                       refine ⟨_, rfl, ?_⟩
                       have n0_ := Aside0.mk (Kd.R_below (rk HO222.out) hb)
                       have n1_ := Aside0.mk (blk_below (g := gb217) (o := .cells #[.int .i64 a0_0, .int .i64 a0_1, .string a0_2, .string a0_3, .int .i64 a0_4, .bool a0_5] 25 (0, 0)) (bk BK217.out) hb)
                       have n2_ := Aside0.mk (below_step bo hb)
                       clear HO222
                       clear BK217
                       clear HB
                       have HO222 := n0_
                       have BK217 := n1_
                       have HB := n2_
                       clear n0_ n1_ n2_
                       (try clear hb)
                       (try clear hb2)
                       (try clear hk)
                       (try clear hi)
                       refine hK.out _ _ ⟨(blk_cell BK217.out 0).trans rfl, (blk_cell BK217.out 1).trans rfl, (blk_cell BK217.out 2).trans rfl, (blk_cell BK217.out 3).trans rfl, (blk_cell BK217.out 4).trans rfl, (blk_cell BK217.out 5).trans rfl⟩ (fun hHeld => ?_)
                       clear hK K
                       refine norm_ (a' := ?_) ?_ ?_
                       rotate_left
                       ·show Act.put _ (some 14) _ = _
                        simp only [Act.put, List.setIfInBounds_toArray, List.set_cons_zero, List.set_cons_succ, i64_w, i32_w]
                        rfl
                       exact norm_ (by first | (simp only [putAll, Act.put, List.setIfInBounds_toArray, List.set_cons_zero, List.set_cons_succ]; done) | (simp only [putAll, Act.put, List.setIfInBounds_toArray, List.set_cons_zero, List.set_cons_succ]; rfl)) (hJ2_9 (v221) _ ⟨hHeld, (rk HO222.out), (bk BK217.out), bo⟩)
                      ·skip
                       have hcv24 := own_string (P := Try.prog) Try.underlying23 Try.underlying5 Try.underlying9 (Kd.own_of_R HO222.out)
                       refine value_ (w1 := ?_) (v := ?_) (by rfl) rfl ?_ ?_
                       rotate_left 2
                       ·go_simp
                        constructor
                        ·rfl
                        ·rfl
                       clear hcv24
                       refine hK.out _ _ ⟨(blk_cell BK217.out 0).trans rfl, (blk_cell BK217.out 1).trans rfl, (blk_cell BK217.out 2).trans rfl, (blk_cell BK217.out 3).trans rfl, (blk_cell BK217.out 4).trans rfl, (blk_cell BK217.out 5).trans rfl⟩ (fun hHeld => ?_)
                       clear hK K
                       refine norm_ (a' := ?_) ?_ ?_
                       rotate_left
                       ·show Act.put _ (some 22) _ = _
                        simp only [Act.put, List.setIfInBounds_toArray, List.set_cons_zero, List.set_cons_succ, i64_w, i32_w]
                        rfl
                       exact norm_ (by first | (simp only [putAll, Act.put, List.setIfInBounds_toArray, List.set_cons_zero, List.set_cons_succ]; done) | (simp only [putAll, Act.put, List.setIfInBounds_toArray, List.set_cons_zero, List.set_cons_succ]; rfl)) (hJ9_10 (v221) _ ⟨hHeld, (rk HO222.out), (bk BK217.out), bo⟩)
                    ·skip
                     rintro _ w22 ⟨hS_, h0_, h1_⟩
                     have n0_ : Aside0 (w22.heap[gb217]? = some (.cells #[.int .i64 a0_0, .int .i64 a0_1, .string a0_2, .string a0_3, .int .i64 a0_4, .bool a0_5] 25 (0, 0))) := ⟨h0_⟩
                     have n1_ : Aside0 (Below w.heap.size w w22) := ⟨h1_⟩
                     clear BK217
                     clear HB
                     clear h0_ h1_
                     have BK217 := n0_
                     have HB := n1_
                     clear n0_ n1_
                     have hHeld : w22.cell? ⟨gb217, 0, none⟩ = some (.int .i64 a0_0) ∧ w22.cell? ⟨gb217, 1, none⟩ = some (.int .i64 a0_1) ∧ w22.cell? ⟨gb217, 2, none⟩ = some (.string a0_2) ∧ w22.cell? ⟨gb217, 3, none⟩ = some (.string a0_3) ∧ w22.cell? ⟨gb217, 4, none⟩ = some (.int .i64 a0_4) ∧ w22.cell? ⟨gb217, 5, none⟩ = some (.bool a0_5) := hS_
                     refine norm_ (a' := ?_) ?_ ?_
                     rotate_left
                     ·simp only [putAll, Act.put, List.setIfInBounds_toArray, List.set_cons_zero, List.set_cons_succ]
                      rfl
                     refine two_ (i := 5) (j := 9) (Ni := some 17) (Nj := some 21) #[I,I,I,I,I,I,O,I,I,O,O,O,I,I,I,O,O,I,I,O,I,I,O,O] #[I,I,I,I,I,O,O,I,I,I,O,O,I,I,I,O,O,I,I,O,I,I,O,O] rfl rfl rfl rfl (two_of HT_.out (by kernel_rfl)) (by decide) (by decide) (fun K hK => ?_) (fun K hK => ?_)
                     ·skip
                      refine goes_ Try.func69 (by kernel_rfl) rfl #[.int .i64 a0_1, .int .i64 8] (by rfl) rfl rfl aa ?_
                      with_reducible refine (fairwayref1_Fixed.calls kj1 a0_1 8 t219 _ A7.out).mono ?_
                      rintro e w23 ⟨rfl, hb⟩
                      refine ⟨_, rfl, ?_⟩
                      have n0_ := Aside0.mk (blk_below (g := gb217) (o := .cells #[.int .i64 a0_0, .int .i64 a0_1, .string a0_2, .string a0_3, .int .i64 a0_4, .bool a0_5] 25 (0, 0)) (bk BK217.out) hb)
                      have n1_ := Aside0.mk (below_step bo hb)
                      clear BK217
                      clear HB
                      have BK217 := n0_
                      have HB := n1_
                      clear n0_ n1_
                      (try clear hb)
                      (try clear hb2)
                      (try clear hk)
                      (try clear hi)
                      refine hK.out _ _ ⟨(blk_cell BK217.out 0).trans rfl, (blk_cell BK217.out 1).trans rfl, (blk_cell BK217.out 2).trans rfl, (blk_cell BK217.out 3).trans rfl, (blk_cell BK217.out 4).trans rfl, (blk_cell BK217.out 5).trans rfl⟩ (fun hHeld => ?_)
                      clear hK K
                      refine norm_ (a' := ?_) ?_ ?_
                      rotate_left
                      ·show Act.put _ (some 17) _ = _
                       simp only [Act.put, List.setIfInBounds_toArray, List.set_cons_zero, List.set_cons_succ, i64_w, i32_w]
                       rfl
                      refine pz (i := 6) (N := some 18) #[I,I,I,I,I,I,I,I,I,O,O,O,I,I,I,O,O,I,I,O,I,I,O,O] ?_
                      exact norm_ (by first | (simp only [putAll, Act.put, List.setIfInBounds_toArray, List.set_cons_zero, List.set_cons_succ]; done) | (simp only [putAll, Act.put, List.setIfInBounds_toArray, List.set_cons_zero, List.set_cons_succ]; rfl)) (hJ2_5 () _ ⟨hHeld, (bk BK217.out), bo⟩)
                     ·skip
                      refine Kd.R_lit_step (Kd.int .u8) _ 5 ?hg (N := 21) ?hd (xs := ([(x3_1) % 256] : List Int)) (inner := [.int .u8 ((x3_1) % 256)]) (ok := fun _ => True) (okp := fun _ => True) ?hr ?hp (fun _ hk => hk) trivial (Below.refl _ _) (Nat.le_refl _) (by simp) ?_; (case hd => rfl); (case hg => rfl); (case hr => first | (go_simp; done) | (go_simp; rfl)); (case hp => exact (Reps.one (show Kd.M (Kd.int .u8) _ _ _ ((x3_1) % 256) [.int .u8 ((x3_1) % 256)] from rfl) (Reps.none _ _)))
                      intro v221 w23 ho24 hb hg_ hnew_
                      clear hg_ hnew_
                      (first | rw [← Ny220.out] at ho24 | (simp only [Int.reduceToNat] at ho24; rw [← Ny220.out] at ho24))
                      have n0_ := Aside0.mk (Kd.R_lower ho24 (below_size bo))
                      have n1_ := Aside0.mk (blk_below (g := gb217) (o := .cells #[.int .i64 a0_0, .int .i64 a0_1, .string a0_2, .string a0_3, .int .i64 a0_4, .bool a0_5] 25 (0, 0)) (bk BK217.out) hb)
                      have n2_ := Aside0.mk (below_step bo hb)
                      clear BK217
                      clear HB
                      have HO222 := n0_
                      have BK217 := n1_
                      have HB := n2_
                      clear n0_ n1_ n2_
                      clear hb ho24
                      refine hK.out _ _ ⟨(blk_cell BK217.out 0).trans rfl, (blk_cell BK217.out 1).trans rfl, (blk_cell BK217.out 2).trans rfl, (blk_cell BK217.out 3).trans rfl, (blk_cell BK217.out 4).trans rfl, (blk_cell BK217.out 5).trans rfl⟩ (fun hHeld => ?_)
                      clear hK K
                      refine norm_ (a' := ?_) ?_ ?_
                      rotate_left
                      ·show Act.put _ (some 21) _ = _
                       simp only [Act.put, List.setIfInBounds_toArray, List.set_cons_zero, List.set_cons_succ, i64_w, i32_w]
                       rfl
                      exact norm_ (by first | (simp only [putAll, Act.put, List.setIfInBounds_toArray, List.set_cons_zero, List.set_cons_succ]; done) | (simp only [putAll, Act.put, List.setIfInBounds_toArray, List.set_cons_zero, List.set_cons_succ]; rfl)) (hJ2_9 (v221) _ ⟨hHeld, (rk HO222.out), (bk BK217.out), bo⟩)
                   ·skip
                    rintro v221 w24 ⟨hS_, h0_, h1_, h2_⟩
                    have n0_ : Aside0 (Kd.R (Kd.int .u8) 5 w24 w.heap.size (fun _ => True) v221 y220) := ⟨h0_⟩
                    have n1_ : Aside0 (w24.heap[gb217]? = some (.cells #[.int .i64 a0_0, .int .i64 a0_1, .string a0_2, .string a0_3, .int .i64 a0_4, .bool a0_5] 25 (0, 0))) := ⟨h1_⟩
                    have n2_ : Aside0 (Below w.heap.size w w24) := ⟨h2_⟩
                    clear BK217
                    clear HB
                    clear h0_ h1_ h2_
                    have HO222 := n0_
                    have BK217 := n1_
                    have HB := n2_
                    clear n0_ n1_ n2_
                    have hHeld : w24.cell? ⟨gb217, 0, none⟩ = some (.int .i64 a0_0) ∧ w24.cell? ⟨gb217, 1, none⟩ = some (.int .i64 a0_1) ∧ w24.cell? ⟨gb217, 2, none⟩ = some (.string a0_2) ∧ w24.cell? ⟨gb217, 3, none⟩ = some (.string a0_3) ∧ w24.cell? ⟨gb217, 4, none⟩ = some (.int .i64 a0_4) ∧ w24.cell? ⟨gb217, 5, none⟩ = some (.bool a0_5) := hS_
                    refine norm_ (a' := ?_) ?_ ?_
                    rotate_left
                    ·simp only [putAll, Act.put, List.setIfInBounds_toArray, List.set_cons_zero, List.set_cons_succ]
                     rfl
                    refine one_ (i := 2) (N := some 14) #[I,I,I,I,I,O,O,I,I,I,I,O,I,I,I,O,O,I,I,O,I,I,O,O] rfl rfl (one_of HT_.out (by kernel_rfl)) (by decide) (fun K hK => ?_)
                    refine goes_ Try.func69 (by kernel_rfl) rfl #[.int .i64 a0_0, .int .i64 8] (by rfl) rfl rfl aa ?_
                    with_reducible refine (fairwayref1_Fixed.calls kj1 a0_0 8 t218 _ A6.out).mono ?_
                    rintro e w25 ⟨rfl, hb⟩
                    refine ⟨_, rfl, ?_⟩
                    have n0_ := Aside0.mk (Kd.R_below (rk HO222.out) hb)
                    have n1_ := Aside0.mk (blk_below (g := gb217) (o := .cells #[.int .i64 a0_0, .int .i64 a0_1, .string a0_2, .string a0_3, .int .i64 a0_4, .bool a0_5] 25 (0, 0)) (bk BK217.out) hb)
                    have n2_ := Aside0.mk (below_step bo hb)
                    clear HO222
                    clear BK217
                    clear HB
                    have HO222 := n0_
                    have BK217 := n1_
                    have HB := n2_
                    clear n0_ n1_ n2_
                    (try clear hb)
                    (try clear hb2)
                    (try clear hk)
                    (try clear hi)
                    refine hK.out _ _ ⟨(blk_cell BK217.out 0).trans rfl, (blk_cell BK217.out 1).trans rfl, (blk_cell BK217.out 2).trans rfl, (blk_cell BK217.out 3).trans rfl, (blk_cell BK217.out 4).trans rfl, (blk_cell BK217.out 5).trans rfl⟩ (fun hHeld => ?_)
                    clear hK K
                    refine norm_ (a' := ?_) ?_ ?_
                    rotate_left
                    ·show Act.put _ (some 14) _ = _
                     simp only [Act.put, List.setIfInBounds_toArray, List.set_cons_zero, List.set_cons_succ, i64_w, i32_w]
                     rfl
                    exact norm_ (by first | (simp only [putAll, Act.put, List.setIfInBounds_toArray, List.set_cons_zero, List.set_cons_succ]; done) | (simp only [putAll, Act.put, List.setIfInBounds_toArray, List.set_cons_zero, List.set_cons_succ]; rfl)) (hJ2_9_10 (v221) _ ⟨hHeld, (rk HO222.out), (bk BK217.out), bo⟩)
                  ·skip
                   rintro v221 w24 ⟨hS_, h0_, h1_, h2_⟩
                   have n0_ : Aside0 (Kd.R (Kd.int .u8) 5 w24 w.heap.size (fun _ => True) v221 y220) := ⟨h0_⟩
                   have n1_ : Aside0 (w24.heap[gb217]? = some (.cells #[.int .i64 a0_0, .int .i64 a0_1, .string a0_2, .string a0_3, .int .i64 a0_4, .bool a0_5] 25 (0, 0))) := ⟨h1_⟩
                   have n2_ : Aside0 (Below w.heap.size w w24) := ⟨h2_⟩
                   clear BK217
                   clear HB
                   clear h0_ h1_ h2_
                   have HO222 := n0_
                   have BK217 := n1_
                   have HB := n2_
                   clear n0_ n1_ n2_
                   have hHeld : w24.cell? ⟨gb217, 0, none⟩ = some (.int .i64 a0_0) ∧ w24.cell? ⟨gb217, 1, none⟩ = some (.int .i64 a0_1) ∧ w24.cell? ⟨gb217, 2, none⟩ = some (.string a0_2) ∧ w24.cell? ⟨gb217, 3, none⟩ = some (.string a0_3) ∧ w24.cell? ⟨gb217, 4, none⟩ = some (.int .i64 a0_4) ∧ w24.cell? ⟨gb217, 5, none⟩ = some (.bool a0_5) := hS_
                   refine norm_ (a' := ?_) ?_ ?_
                   rotate_left
                   ·simp only [putAll, Act.put, List.setIfInBounds_toArray, List.set_cons_zero, List.set_cons_succ]
                    rfl
                   refine two_ (i := 5) (j := 10) (Ni := some 17) (Nj := some 22) #[I,I,I,I,I,I,O,I,I,I,O,O,I,I,I,O,O,I,I,O,I,I,O,O] #[I,I,I,I,I,O,O,I,I,I,I,O,I,I,I,O,O,I,I,O,I,I,O,O] rfl rfl rfl rfl (two_of HT_.out (by kernel_rfl)) (by decide) (by decide) (fun K hK => ?_) (fun K hK => ?_)
                   ·skip
                    refine goes_ Try.func69 (by kernel_rfl) rfl #[.int .i64 a0_1, .int .i64 8] (by rfl) rfl rfl aa ?_
                    with_reducible refine (fairwayref1_Fixed.calls kj1 a0_1 8 t219 _ A7.out).mono ?_
                    rintro e w25 ⟨rfl, hb⟩
                    refine ⟨_, rfl, ?_⟩
                    have n0_ := Aside0.mk (Kd.R_below (rk HO222.out) hb)
                    have n1_ := Aside0.mk (blk_below (g := gb217) (o := .cells #[.int .i64 a0_0, .int .i64 a0_1, .string a0_2, .string a0_3, .int .i64 a0_4, .bool a0_5] 25 (0, 0)) (bk BK217.out) hb)
                    have n2_ := Aside0.mk (below_step bo hb)
                    clear HO222
                    clear BK217
                    clear HB
                    have HO222 := n0_
                    have BK217 := n1_
                    have HB := n2_
                    clear n0_ n1_ n2_
                    (try clear hb)
                    (try clear hb2)
                    (try clear hk)
                    (try clear hi)
                    refine hK.out _ _ ⟨(blk_cell BK217.out 0).trans rfl, (blk_cell BK217.out 1).trans rfl, (blk_cell BK217.out 2).trans rfl, (blk_cell BK217.out 3).trans rfl, (blk_cell BK217.out 4).trans rfl, (blk_cell BK217.out 5).trans rfl⟩ (fun hHeld => ?_)
                    clear hK K
                    refine norm_ (a' := ?_) ?_ ?_
                    rotate_left
                    ·show Act.put _ (some 17) _ = _
                     simp only [Act.put, List.setIfInBounds_toArray, List.set_cons_zero, List.set_cons_succ, i64_w, i32_w]
                     rfl
                    refine pz (i := 6) (N := some 18) #[I,I,I,I,I,I,I,I,I,I,O,O,I,I,I,O,O,I,I,O,I,I,O,O] ?_
                    exact norm_ (by first | (simp only [putAll, Act.put, List.setIfInBounds_toArray, List.set_cons_zero, List.set_cons_succ]; done) | (simp only [putAll, Act.put, List.setIfInBounds_toArray, List.set_cons_zero, List.set_cons_succ]; rfl)) (hJ2_5_9 (v221) _ ⟨hHeld, (rk HO222.out), (bk BK217.out), bo⟩)
                   ·skip
                    have hcv25 := own_string (P := Try.prog) Try.underlying23 Try.underlying5 Try.underlying9 (Kd.own_of_R HO222.out)
                    refine value_ (w1 := ?_) (v := ?_) (by rfl) rfl ?_ ?_
                    rotate_left 2
                    ·go_simp
                     constructor
                     ·rfl
                     ·rfl
                    clear hcv25
                    refine hK.out _ _ ⟨(blk_cell BK217.out 0).trans rfl, (blk_cell BK217.out 1).trans rfl, (blk_cell BK217.out 2).trans rfl, (blk_cell BK217.out 3).trans rfl, (blk_cell BK217.out 4).trans rfl, (blk_cell BK217.out 5).trans rfl⟩ (fun hHeld => ?_)
                    clear hK K
                    refine norm_ (a' := ?_) ?_ ?_
                    rotate_left
                    ·show Act.put _ (some 22) _ = _
                     simp only [Act.put, List.setIfInBounds_toArray, List.set_cons_zero, List.set_cons_succ, i64_w, i32_w]
                     rfl
                    exact norm_ (by first | (simp only [putAll, Act.put, List.setIfInBounds_toArray, List.set_cons_zero, List.set_cons_succ]; done) | (simp only [putAll, Act.put, List.setIfInBounds_toArray, List.set_cons_zero, List.set_cons_succ]; rfl)) (hJ2_9_10 (v221) _ ⟨hHeld, (rk HO222.out), (bk BK217.out), bo⟩)
                 ·skip
                  rintro _ w23 ⟨hS_, h0_, h1_⟩
                  have n0_ : Aside0 (w23.heap[gb217]? = some (.cells #[.int .i64 a0_0, .int .i64 a0_1, .string a0_2, .string a0_3, .int .i64 a0_4, .bool a0_5] 25 (0, 0))) := ⟨h0_⟩
                  have n1_ : Aside0 (Below w.heap.size w w23) := ⟨h1_⟩
                  clear BK217
                  clear HB
                  clear h0_ h1_
                  have BK217 := n0_
                  have HB := n1_
                  clear n0_ n1_
                  have hHeld : w23.cell? ⟨gb217, 0, none⟩ = some (.int .i64 a0_0) ∧ w23.cell? ⟨gb217, 1, none⟩ = some (.int .i64 a0_1) ∧ w23.cell? ⟨gb217, 2, none⟩ = some (.string a0_2) ∧ w23.cell? ⟨gb217, 3, none⟩ = some (.string a0_3) ∧ w23.cell? ⟨gb217, 4, none⟩ = some (.int .i64 a0_4) ∧ w23.cell? ⟨gb217, 5, none⟩ = some (.bool a0_5) := hS_
                  refine norm_ (a' := ?_) ?_ ?_
                  rotate_left
                  ·simp only [putAll, Act.put, List.setIfInBounds_toArray, List.set_cons_zero, List.set_cons_succ]
                   rfl
                  refine two_ (i := 9) (j := 15) (Ni := some 21) (Nj := some 27) #[I,I,I,I,I,I,I,I,I,I,O,O,I,I,I,O,O,I,I,O,I,I,O,O] #[I,I,I,I,I,I,I,I,I,O,O,O,I,I,I,I,O,I,I,O,I,I,O,O] rfl rfl rfl rfl (two_of HT_.out (by kernel_rfl)) (by decide) (by decide) (fun K hK => ?_) (fun K hK => ?_)
                  ·skip
                   refine Kd.R_lit_step (Kd.int .u8) _ 5 ?hg (N := 21) ?hd (xs := ([(x3_1) % 256] : List Int)) (inner := [.int .u8 ((x3_1) % 256)]) (ok := fun _ => True) (okp := fun _ => True) ?hr ?hp (fun _ hk => hk) trivial (Below.refl _ _) (Nat.le_refl _) (by simp) ?_; (case hd => rfl); (case hg => rfl); (case hr => first | (go_simp; done) | (go_simp; rfl)); (case hp => exact (Reps.one (show Kd.M (Kd.int .u8) _ _ _ ((x3_1) % 256) [.int .u8 ((x3_1) % 256)] from rfl) (Reps.none _ _)))
                   intro v221 w24 ho25 hb hg_ hnew_
                   clear hg_ hnew_
                   (first | rw [← Ny220.out] at ho25 | (simp only [Int.reduceToNat] at ho25; rw [← Ny220.out] at ho25))
                   have n0_ := Aside0.mk (Kd.R_lower ho25 (below_size bo))
                   have n1_ := Aside0.mk (blk_below (g := gb217) (o := .cells #[.int .i64 a0_0, .int .i64 a0_1, .string a0_2, .string a0_3, .int .i64 a0_4, .bool a0_5] 25 (0, 0)) (bk BK217.out) hb)
                   have n2_ := Aside0.mk (below_step bo hb)
                   clear BK217
                   clear HB
                   have HO222 := n0_
                   have BK217 := n1_
                   have HB := n2_
                   clear n0_ n1_ n2_
                   clear hb ho25
                   refine hK.out _ _ ⟨(blk_cell BK217.out 0).trans rfl, (blk_cell BK217.out 1).trans rfl, (blk_cell BK217.out 2).trans rfl, (blk_cell BK217.out 3).trans rfl, (blk_cell BK217.out 4).trans rfl, (blk_cell BK217.out 5).trans rfl⟩ (fun hHeld => ?_)
                   clear hK K
                   refine norm_ (a' := ?_) ?_ ?_
                   rotate_left
                   ·show Act.put _ (some 21) _ = _
                    simp only [Act.put, List.setIfInBounds_toArray, List.set_cons_zero, List.set_cons_succ, i64_w, i32_w]
                    rfl
                   exact norm_ (by first | (simp only [putAll, Act.put, List.setIfInBounds_toArray, List.set_cons_zero, List.set_cons_succ]; done) | (simp only [putAll, Act.put, List.setIfInBounds_toArray, List.set_cons_zero, List.set_cons_succ]; rfl)) (hJ2_5_9 (v221) _ ⟨hHeld, (rk HO222.out), (bk BK217.out), bo⟩)
                  ·skip
                   refine goes_ Try.func69 (by kernel_rfl) rfl #[.int .i64 (a0_2.size : Int), .int .i64 2] (by rfl) rfl rfl aa ?_
                   with_reducible refine (fairwayref1_Fixed.calls kj1 (a0_2.size : Int) 2 t223 _ A10.out).mono ?_
                   rintro e w24 ⟨rfl, hb⟩
                   refine ⟨_, rfl, ?_⟩
                   have n0_ := Aside0.mk (blk_below (g := gb217) (o := .cells #[.int .i64 a0_0, .int .i64 a0_1, .string a0_2, .string a0_3, .int .i64 a0_4, .bool a0_5] 25 (0, 0)) (bk BK217.out) hb)
                   have n1_ := Aside0.mk (below_step bo hb)
                   clear BK217
                   clear HB
                   have BK217 := n0_
                   have HB := n1_
                   clear n0_ n1_
                   (try clear hb)
                   (try clear hb2)
                   (try clear hk)
                   (try clear hi)
                   refine hK.out _ _ ⟨(blk_cell BK217.out 0).trans rfl, (blk_cell BK217.out 1).trans rfl, (blk_cell BK217.out 2).trans rfl, (blk_cell BK217.out 3).trans rfl, (blk_cell BK217.out 4).trans rfl, (blk_cell BK217.out 5).trans rfl⟩ (fun hHeld => ?_)
                   clear hK K
                   refine norm_ (a' := ?_) ?_ ?_
                   rotate_left
                   ·show Act.put _ (some 27) _ = _
                    simp only [Act.put, List.setIfInBounds_toArray, List.set_cons_zero, List.set_cons_succ, i64_w, i32_w]
                    rfl
                   exact norm_ (by first | (simp only [putAll, Act.put, List.setIfInBounds_toArray, List.set_cons_zero, List.set_cons_succ]; done) | (simp only [putAll, Act.put, List.setIfInBounds_toArray, List.set_cons_zero, List.set_cons_succ]; rfl)) (hJ2_5_15 () _ ⟨hHeld, (bk BK217.out), bo⟩)
                ·skip
                 rintro v221 w25 ⟨hS_, h0_, h1_, h2_⟩
                 have n0_ : Aside0 (Kd.R (Kd.int .u8) 5 w25 w.heap.size (fun _ => True) v221 y220) := ⟨h0_⟩
                 have n1_ : Aside0 (w25.heap[gb217]? = some (.cells #[.int .i64 a0_0, .int .i64 a0_1, .string a0_2, .string a0_3, .int .i64 a0_4, .bool a0_5] 25 (0, 0))) := ⟨h1_⟩
                 have n2_ : Aside0 (Below w.heap.size w w25) := ⟨h2_⟩
                 clear BK217
                 clear HB
                 clear h0_ h1_ h2_
                 have HO222 := n0_
                 have BK217 := n1_
                 have HB := n2_
                 clear n0_ n1_ n2_
                 have hHeld : w25.cell? ⟨gb217, 0, none⟩ = some (.int .i64 a0_0) ∧ w25.cell? ⟨gb217, 1, none⟩ = some (.int .i64 a0_1) ∧ w25.cell? ⟨gb217, 2, none⟩ = some (.string a0_2) ∧ w25.cell? ⟨gb217, 3, none⟩ = some (.string a0_3) ∧ w25.cell? ⟨gb217, 4, none⟩ = some (.int .i64 a0_4) ∧ w25.cell? ⟨gb217, 5, none⟩ = some (.bool a0_5) := hS_
                 refine norm_ (a' := ?_) ?_ ?_
                 rotate_left
                 ·simp only [putAll, Act.put, List.setIfInBounds_toArray, List.set_cons_zero, List.set_cons_succ]
                  rfl
                 refine one_ (i := 5) (N := some 17) #[I,I,I,I,I,I,O,I,I,I,I,O,I,I,I,O,O,I,I,O,I,I,O,O] rfl rfl (one_of HT_.out (by kernel_rfl)) (by decide) (fun K hK => ?_)
                 refine goes_ Try.func69 (by kernel_rfl) rfl #[.int .i64 a0_1, .int .i64 8] (by rfl) rfl rfl aa ?_
                 with_reducible refine (fairwayref1_Fixed.calls kj1 a0_1 8 t219 _ A7.out).mono ?_
                 rintro e w26 ⟨rfl, hb⟩
                 refine ⟨_, rfl, ?_⟩
                 have n0_ := Aside0.mk (Kd.R_below (rk HO222.out) hb)
                 have n1_ := Aside0.mk (blk_below (g := gb217) (o := .cells #[.int .i64 a0_0, .int .i64 a0_1, .string a0_2, .string a0_3, .int .i64 a0_4, .bool a0_5] 25 (0, 0)) (bk BK217.out) hb)
                 have n2_ := Aside0.mk (below_step bo hb)
                 clear HO222
                 clear BK217
                 clear HB
                 have HO222 := n0_
                 have BK217 := n1_
                 have HB := n2_
                 clear n0_ n1_ n2_
                 (try clear hb)
                 (try clear hb2)
                 (try clear hk)
                 (try clear hi)
                 refine hK.out _ _ ⟨(blk_cell BK217.out 0).trans rfl, (blk_cell BK217.out 1).trans rfl, (blk_cell BK217.out 2).trans rfl, (blk_cell BK217.out 3).trans rfl, (blk_cell BK217.out 4).trans rfl, (blk_cell BK217.out 5).trans rfl⟩ (fun hHeld => ?_)
                 clear hK K
                 refine norm_ (a' := ?_) ?_ ?_
                 rotate_left
                 ·show Act.put _ (some 17) _ = _
                  simp only [Act.put, List.setIfInBounds_toArray, List.set_cons_zero, List.set_cons_succ, i64_w, i32_w]
                  rfl
                 refine pz (i := 6) (N := some 18) #[I,I,I,I,I,I,I,I,I,I,I,O,I,I,I,O,O,I,I,O,I,I,O,O] ?_
                 refine pz (i := 11) (N := some 23) #[I,I,I,I,I,I,I,I,I,I,I,I,I,I,I,O,O,I,I,O,I,I,O,O] ?_
                 exact norm_ (by first | (simp only [putAll, Act.put, List.setIfInBounds_toArray, List.set_cons_zero, List.set_cons_succ]; done) | (simp only [putAll, Act.put, List.setIfInBounds_toArray, List.set_cons_zero, List.set_cons_succ]; rfl)) (hJ2_5_9_10 (v221) _ ⟨hHeld, (rk HO222.out), (bk BK217.out), bo⟩)
               ·skip
                rintro _ w24 ⟨hS_, h0_, h1_⟩
                have n0_ : Aside0 (w24.heap[gb217]? = some (.cells #[.int .i64 a0_0, .int .i64 a0_1, .string a0_2, .string a0_3, .int .i64 a0_4, .bool a0_5] 25 (0, 0))) := ⟨h0_⟩
                have n1_ : Aside0 (Below w.heap.size w w24) := ⟨h1_⟩
                clear BK217
                clear HB
                clear h0_ h1_
                have BK217 := n0_
                have HB := n1_
                clear n0_ n1_
                have hHeld : w24.cell? ⟨gb217, 0, none⟩ = some (.int .i64 a0_0) ∧ w24.cell? ⟨gb217, 1, none⟩ = some (.int .i64 a0_1) ∧ w24.cell? ⟨gb217, 2, none⟩ = some (.string a0_2) ∧ w24.cell? ⟨gb217, 3, none⟩ = some (.string a0_3) ∧ w24.cell? ⟨gb217, 4, none⟩ = some (.int .i64 a0_4) ∧ w24.cell? ⟨gb217, 5, none⟩ = some (.bool a0_5) := hS_
                refine norm_ (a' := ?_) ?_ ?_
                rotate_left
                ·simp only [putAll, Act.put, List.setIfInBounds_toArray, List.set_cons_zero, List.set_cons_succ]
                 rfl
                refine one_ (i := 9) (N := some 21) #[I,I,I,I,I,I,I,I,I,I,O,O,I,I,I,I,O,I,I,O,I,I,O,O] rfl rfl (one_of HT_.out (by kernel_rfl)) (by decide) (fun K hK => ?_)
                refine Kd.R_lit_step (Kd.int .u8) _ 5 ?hg (N := 21) ?hd (xs := ([(x3_1) % 256] : List Int)) (inner := [.int .u8 ((x3_1) % 256)]) (ok := fun _ => True) (okp := fun _ => True) ?hr ?hp (fun _ hk => hk) trivial (Below.refl _ _) (Nat.le_refl _) (by simp) ?_; (case hd => rfl); (case hg => rfl); (case hr => first | (go_simp; done) | (go_simp; rfl)); (case hp => exact (Reps.one (show Kd.M (Kd.int .u8) _ _ _ ((x3_1) % 256) [.int .u8 ((x3_1) % 256)] from rfl) (Reps.none _ _)))
                intro v221 w25 ho26 hb hg_ hnew_
                clear hg_ hnew_
                (first | rw [← Ny220.out] at ho26 | (simp only [Int.reduceToNat] at ho26; rw [← Ny220.out] at ho26))
                have n0_ := Aside0.mk (Kd.R_lower ho26 (below_size bo))
                have n1_ := Aside0.mk (blk_below (g := gb217) (o := .cells #[.int .i64 a0_0, .int .i64 a0_1, .string a0_2, .string a0_3, .int .i64 a0_4, .bool a0_5] 25 (0, 0)) (bk BK217.out) hb)
                have n2_ := Aside0.mk (below_step bo hb)
                clear BK217
                clear HB
                have HO222 := n0_
                have BK217 := n1_
                have HB := n2_
                clear n0_ n1_ n2_
                clear hb ho26
                refine hK.out _ _ ⟨(blk_cell BK217.out 0).trans rfl, (blk_cell BK217.out 1).trans rfl, (blk_cell BK217.out 2).trans rfl, (blk_cell BK217.out 3).trans rfl, (blk_cell BK217.out 4).trans rfl, (blk_cell BK217.out 5).trans rfl⟩ (fun hHeld => ?_)
                clear hK K
                refine norm_ (a' := ?_) ?_ ?_
                rotate_left
                ·show Act.put _ (some 21) _ = _
                 simp only [Act.put, List.setIfInBounds_toArray, List.set_cons_zero, List.set_cons_succ, i64_w, i32_w]
                 rfl
                exact norm_ (by first | (simp only [putAll, Act.put, List.setIfInBounds_toArray, List.set_cons_zero, List.set_cons_succ]; done) | (simp only [putAll, Act.put, List.setIfInBounds_toArray, List.set_cons_zero, List.set_cons_succ]; rfl)) (hJ2_5_9_15 (v221) _ ⟨hHeld, (rk HO222.out), (bk BK217.out), bo⟩)
              ·skip
               rintro v221 w25 ⟨hS_, h0_, h1_, h2_⟩
               have n0_ : Aside0 (Kd.R (Kd.int .u8) 5 w25 w.heap.size (fun _ => True) v221 y220) := ⟨h0_⟩
               have n1_ : Aside0 (w25.heap[gb217]? = some (.cells #[.int .i64 a0_0, .int .i64 a0_1, .string a0_2, .string a0_3, .int .i64 a0_4, .bool a0_5] 25 (0, 0))) := ⟨h1_⟩
               have n2_ : Aside0 (Below w.heap.size w w25) := ⟨h2_⟩
               clear BK217
               clear HB
               clear h0_ h1_ h2_
               have HO222 := n0_
               have BK217 := n1_
               have HB := n2_
               clear n0_ n1_ n2_
               have hHeld : w25.cell? ⟨gb217, 0, none⟩ = some (.int .i64 a0_0) ∧ w25.cell? ⟨gb217, 1, none⟩ = some (.int .i64 a0_1) ∧ w25.cell? ⟨gb217, 2, none⟩ = some (.string a0_2) ∧ w25.cell? ⟨gb217, 3, none⟩ = some (.string a0_3) ∧ w25.cell? ⟨gb217, 4, none⟩ = some (.int .i64 a0_4) ∧ w25.cell? ⟨gb217, 5, none⟩ = some (.bool a0_5) := hS_
               refine norm_ (a' := ?_) ?_ ?_
               rotate_left
               ·simp only [putAll, Act.put, List.setIfInBounds_toArray, List.set_cons_zero, List.set_cons_succ]
                rfl
               refine two_ (i := 10) (j := 15) (Ni := some 22) (Nj := some 27) #[I,I,I,I,I,I,I,I,I,I,I,O,I,I,I,O,O,I,I,O,I,I,O,O] #[I,I,I,I,I,I,I,I,I,I,O,O,I,I,I,I,O,I,I,O,I,I,O,O] rfl rfl rfl rfl (two_of HT_.out (by kernel_rfl)) (by decide) (by decide) (fun K hK => ?_) (fun K hK => ?_)
               ·skip
                have hcv26 := own_string (P := Try.prog) Try.underlying23 Try.underlying5 Try.underlying9 (Kd.own_of_R HO222.out)
                refine value_ (w1 := ?_) (v := ?_) (by rfl) rfl ?_ ?_
                rotate_left 2
                ·go_simp
                 constructor
                 ·rfl
                 ·rfl
                clear hcv26
                refine hK.out _ _ ⟨(blk_cell BK217.out 0).trans rfl, (blk_cell BK217.out 1).trans rfl, (blk_cell BK217.out 2).trans rfl, (blk_cell BK217.out 3).trans rfl, (blk_cell BK217.out 4).trans rfl, (blk_cell BK217.out 5).trans rfl⟩ (fun hHeld => ?_)
                clear hK K
                refine norm_ (a' := ?_) ?_ ?_
                rotate_left
                ·show Act.put _ (some 22) _ = _
                 simp only [Act.put, List.setIfInBounds_toArray, List.set_cons_zero, List.set_cons_succ, i64_w, i32_w]
                 rfl
                refine pz (i := 11) (N := some 23) #[I,I,I,I,I,I,I,I,I,I,I,I,I,I,I,O,O,I,I,O,I,I,O,O] ?_
                exact norm_ (by first | (simp only [putAll, Act.put, List.setIfInBounds_toArray, List.set_cons_zero, List.set_cons_succ]; done) | (simp only [putAll, Act.put, List.setIfInBounds_toArray, List.set_cons_zero, List.set_cons_succ]; rfl)) (hJ2_5_9_10 (v221) _ ⟨hHeld, (rk HO222.out), (bk BK217.out), bo⟩)
               ·skip
                refine goes_ Try.func69 (by kernel_rfl) rfl #[.int .i64 (a0_2.size : Int), .int .i64 2] (by rfl) rfl rfl aa ?_
                with_reducible refine (fairwayref1_Fixed.calls kj1 (a0_2.size : Int) 2 t223 _ A10.out).mono ?_
                rintro e w26 ⟨rfl, hb⟩
                refine ⟨_, rfl, ?_⟩
                have n0_ := Aside0.mk (Kd.R_below (rk HO222.out) hb)
                have n1_ := Aside0.mk (blk_below (g := gb217) (o := .cells #[.int .i64 a0_0, .int .i64 a0_1, .string a0_2, .string a0_3, .int .i64 a0_4, .bool a0_5] 25 (0, 0)) (bk BK217.out) hb)
                have n2_ := Aside0.mk (below_step bo hb)
                clear HO222
                clear BK217
                clear HB
                have HO222 := n0_
                have BK217 := n1_
                have HB := n2_
                clear n0_ n1_ n2_
                (try clear hb)
                (try clear hb2)
                (try clear hk)
                (try clear hi)
                refine hK.out _ _ ⟨(blk_cell BK217.out 0).trans rfl, (blk_cell BK217.out 1).trans rfl, (blk_cell BK217.out 2).trans rfl, (blk_cell BK217.out 3).trans rfl, (blk_cell BK217.out 4).trans rfl, (blk_cell BK217.out 5).trans rfl⟩ (fun hHeld => ?_)
                clear hK K
                refine norm_ (a' := ?_) ?_ ?_
                rotate_left
                ·show Act.put _ (some 27) _ = _
                 simp only [Act.put, List.setIfInBounds_toArray, List.set_cons_zero, List.set_cons_succ, i64_w, i32_w]
                 rfl
                exact norm_ (by first | (simp only [putAll, Act.put, List.setIfInBounds_toArray, List.set_cons_zero, List.set_cons_succ]; done) | (simp only [putAll, Act.put, List.setIfInBounds_toArray, List.set_cons_zero, List.set_cons_succ]; rfl)) (hJ2_5_9_15 (v221) _ ⟨hHeld, (rk HO222.out), (bk BK217.out), bo⟩)
             ·skip
              rintro v221 w26 ⟨hS_, h0_, h1_, h2_⟩
              have n0_ : Aside0 (Kd.R (Kd.int .u8) 5 w26 w.heap.size (fun _ => True) v221 y220) := ⟨h0_⟩
              have n1_ : Aside0 (w26.heap[gb217]? = some (.cells #[.int .i64 a0_0, .int .i64 a0_1, .string a0_2, .string a0_3, .int .i64 a0_4, .bool a0_5] 25 (0, 0))) := ⟨h1_⟩
              have n2_ : Aside0 (Below w.heap.size w w26) := ⟨h2_⟩
              clear BK217
              clear HB
              clear h0_ h1_ h2_
              have HO222 := n0_
              have BK217 := n1_
              have HB := n2_
              clear n0_ n1_ n2_
              have hHeld : w26.cell? ⟨gb217, 0, none⟩ = some (.int .i64 a0_0) ∧ w26.cell? ⟨gb217, 1, none⟩ = some (.int .i64 a0_1) ∧ w26.cell? ⟨gb217, 2, none⟩ = some (.string a0_2) ∧ w26.cell? ⟨gb217, 3, none⟩ = some (.string a0_3) ∧ w26.cell? ⟨gb217, 4, none⟩ = some (.int .i64 a0_4) ∧ w26.cell? ⟨gb217, 5, none⟩ = some (.bool a0_5) := hS_
              refine norm_ (a' := ?_) ?_ ?_
              rotate_left
              ·simp only [putAll, Act.put, List.setIfInBounds_toArray, List.set_cons_zero, List.set_cons_succ]
               rfl
              refine one_ (i := 10) (N := some 22) #[I,I,I,I,I,I,I,I,I,I,I,O,I,I,I,I,O,I,I,O,I,I,O,O] rfl rfl (one_of HT_.out (by kernel_rfl)) (by decide) (fun K hK => ?_)
              have hcv27 := own_string (P := Try.prog) Try.underlying23 Try.underlying5 Try.underlying9 (Kd.own_of_R HO222.out)
              refine value_ (w1 := ?_) (v := ?_) (by rfl) rfl ?_ ?_
              rotate_left 2
              ·go_simp
               constructor
               ·rfl
               ·rfl
              clear hcv27
              refine hK.out _ _ ⟨(blk_cell BK217.out 0).trans rfl, (blk_cell BK217.out 1).trans rfl, (blk_cell BK217.out 2).trans rfl, (blk_cell BK217.out 3).trans rfl, (blk_cell BK217.out 4).trans rfl, (blk_cell BK217.out 5).trans rfl⟩ (fun hHeld => ?_)
              clear hK K
              refine norm_ (a' := ?_) ?_ ?_
              rotate_left
              ·show Act.put _ (some 22) _ = _
               simp only [Act.put, List.setIfInBounds_toArray, List.set_cons_zero, List.set_cons_succ, i64_w, i32_w]
               rfl
              refine pz (i := 11) (N := some 23) #[I,I,I,I,I,I,I,I,I,I,I,I,I,I,I,I,O,I,I,O,I,I,O,O] ?_
              exact norm_ (by first | (simp only [putAll, Act.put, List.setIfInBounds_toArray, List.set_cons_zero, List.set_cons_succ]; done) | (simp only [putAll, Act.put, List.setIfInBounds_toArray, List.set_cons_zero, List.set_cons_succ]; rfl)) (hJ2_5_9_10_15 (v221) _ ⟨hHeld, (rk HO222.out), (bk BK217.out), bo⟩)
            ·skip
             rintro v221 w26 ⟨hS_, h0_, h1_, h2_⟩
             have n0_ : Aside0 (Kd.R (Kd.int .u8) 5 w26 w.heap.size (fun _ => True) v221 y220) := ⟨h0_⟩
             have n1_ : Aside0 (w26.heap[gb217]? = some (.cells #[.int .i64 a0_0, .int .i64 a0_1, .string a0_2, .string a0_3, .int .i64 a0_4, .bool a0_5] 25 (0, 0))) := ⟨h1_⟩
             have n2_ : Aside0 (Below w.heap.size w w26) := ⟨h2_⟩
             clear BK217
             clear HB
             clear h0_ h1_ h2_
             have HO222 := n0_
             have BK217 := n1_
             have HB := n2_
             clear n0_ n1_ n2_
             have hHeld : w26.cell? ⟨gb217, 0, none⟩ = some (.int .i64 a0_0) ∧ w26.cell? ⟨gb217, 1, none⟩ = some (.int .i64 a0_1) ∧ w26.cell? ⟨gb217, 2, none⟩ = some (.string a0_2) ∧ w26.cell? ⟨gb217, 3, none⟩ = some (.string a0_3) ∧ w26.cell? ⟨gb217, 4, none⟩ = some (.int .i64 a0_4) ∧ w26.cell? ⟨gb217, 5, none⟩ = some (.bool a0_5) := hS_
             refine norm_ (a' := ?_) ?_ ?_
             rotate_left
             ·simp only [putAll, Act.put, List.setIfInBounds_toArray, List.set_cons_zero, List.set_cons_succ]
              rfl
             refine one_ (i := 15) (N := some 27) #[I,I,I,I,I,I,I,I,I,I,I,I,I,I,I,I,O,I,I,O,I,I,O,O] rfl rfl (one_of HT_.out (by kernel_rfl)) (by decide) (fun K hK => ?_)
             refine goes_ Try.func69 (by kernel_rfl) rfl #[.int .i64 (a0_2.size : Int), .int .i64 2] (by rfl) rfl rfl aa ?_
             with_reducible refine (fairwayref1_Fixed.calls kj1 (a0_2.size : Int) 2 t223 _ A10.out).mono ?_
             rintro e w27 ⟨rfl, hb⟩
             refine ⟨_, rfl, ?_⟩
             have n0_ := Aside0.mk (Kd.R_below (rk HO222.out) hb)
             have n1_ := Aside0.mk (blk_below (g := gb217) (o := .cells #[.int .i64 a0_0, .int .i64 a0_1, .string a0_2, .string a0_3, .int .i64 a0_4, .bool a0_5] 25 (0, 0)) (bk BK217.out) hb)
             have n2_ := Aside0.mk (below_step bo hb)
             clear HO222
             clear BK217
             clear HB
             have HO222 := n0_
             have BK217 := n1_
             have HB := n2_
             clear n0_ n1_ n2_
             (try clear hb)
             (try clear hb2)
             (try clear hk)
             (try clear hi)
             refine hK.out _ _ ⟨(blk_cell BK217.out 0).trans rfl, (blk_cell BK217.out 1).trans rfl, (blk_cell BK217.out 2).trans rfl, (blk_cell BK217.out 3).trans rfl, (blk_cell BK217.out 4).trans rfl, (blk_cell BK217.out 5).trans rfl⟩ (fun hHeld => ?_)
             clear hK K
             refine norm_ (a' := ?_) ?_ ?_
             rotate_left
             ·show Act.put _ (some 27) _ = _
              simp only [Act.put, List.setIfInBounds_toArray, List.set_cons_zero, List.set_cons_succ, i64_w, i32_w]
              rfl
             exact norm_ (by first | (simp only [putAll, Act.put, List.setIfInBounds_toArray, List.set_cons_zero, List.set_cons_succ]; done) | (simp only [putAll, Act.put, List.setIfInBounds_toArray, List.set_cons_zero, List.set_cons_succ]; rfl)) (hJ2_5_9_10_15 (v221) _ ⟨hHeld, (rk HO222.out), (bk BK217.out), bo⟩)
           rintro v221 w27 ⟨hS_, h0_, h1_, h2_⟩
           have n0_ : Aside0 (Kd.R (Kd.int .u8) 5 w27 w.heap.size (fun _ => True) v221 y220) := ⟨h0_⟩
           have n1_ : Aside0 (w27.heap[gb217]? = some (.cells #[.int .i64 a0_0, .int .i64 a0_1, .string a0_2, .string a0_3, .int .i64 a0_4, .bool a0_5] 25 (0, 0))) := ⟨h1_⟩
           have n2_ : Aside0 (Below w.heap.size w w27) := ⟨h2_⟩
           clear BK217
           clear HB
           clear h0_ h1_ h2_
           have HO222 := n0_
           have BK217 := n1_
           have HB := n2_
           clear n0_ n1_ n2_
           have hHeld : w27.cell? ⟨gb217, 0, none⟩ = some (.int .i64 a0_0) ∧ w27.cell? ⟨gb217, 1, none⟩ = some (.int .i64 a0_1) ∧ w27.cell? ⟨gb217, 2, none⟩ = some (.string a0_2) ∧ w27.cell? ⟨gb217, 3, none⟩ = some (.string a0_3) ∧ w27.cell? ⟨gb217, 4, none⟩ = some (.int .i64 a0_4) ∧ w27.cell? ⟨gb217, 5, none⟩ = some (.bool a0_5) := hS_
           refine norm_ (a' := ?_) ?_ ?_
           rotate_left
           ·simp only [putAll, Act.put, List.setIfInBounds_toArray, List.set_cons_zero, List.set_cons_succ]
            rfl
           refine pz (i := 16) (N := some 28) #[I,I,I,I,I,I,I,I,I,I,I,I,I,I,I,I,I,I,I,O,I,I,O,O] ?_
           refine pz (i := 19) (N := some 31) #[I,I,I,I,I,I,I,I,I,I,I,I,I,I,I,I,I,I,I,I,I,I,O,O] ?_
           refine pz (i := 22) (N := some 34) #[I,I,I,I,I,I,I,I,I,I,I,I,I,I,I,I,I,I,I,I,I,I,I,O] ?_
           refine pz (i := 23) (N := some 4) #[I,I,I,I,I,I,I,I,I,I,I,I,I,I,I,I,I,I,I,I,I,I,I,I] ?_
           refine done_ (done_of HT_.out (by kernel_rfl)) ?_
           try go_wp2_with (first | ((with_reducible refine gate_callee (f := 69) rfl ?_); refine goesL_ (some 37) rfl rfl Try.func69 (by kernel_rfl) rfl #[.int .i64 ((((((t218 ++ t219) ++ (strOfNums y220)) ++ t223) ++ a0_2) ++ a0_3).size : Int), .int .i64 2] rfl aa ?_; (with_reducible refine (fairwayref1_Fixed.calls kj1 ((((((t218 ++ t219) ++ (strOfNums y220)) ++ t223) ++ a0_2) ++ a0_3).size : Int) 2 t224 _ A14.out).mono ?_); rintro e w28 ⟨rfl, hb⟩; refine ⟨_, rfl, ?_⟩; replace HO222 := Aside0.mk (Kd.R_below (rk HO222.out) hb); replace BK217 := Aside0.mk (blk_below (g := gb217) (o := .cells #[.int .i64 a0_0, .int .i64 a0_1, .string a0_2, .string a0_3, .int .i64 a0_4, .bool a0_5] 25 (0, 0)) (bk BK217.out) hb); replace HB := Aside0.mk (below_step bo hb); (try clear hb); (try clear hb2); (try clear hk); (try clear hi)) | ((with_reducible refine gate_callee (f := 70) rfl ?_); refine goesL_ (some 42) rfl rfl Try.func70 (by kernel_rfl) rfl #[.int .u32 0, .string (t224 ++ (((((t218 ++ t219) ++ (strOfNums y220)) ++ t223) ++ a0_2) ++ a0_3))] rfl aa ?_; (with_reducible refine (fairwayref1_Sum.calls kj1 0 (t224 ++ (((((t218 ++ t219) ++ (strOfNums y220)) ++ t223) ++ a0_2) ++ a0_3)) t225 _ A16.out).mono ?_); rintro e w' ⟨rfl, ⟨nd, rfl⟩⟩; refine ⟨_, rfl, ?_⟩) | ((with_reducible refine gate_callee (f := 69) rfl ?_); refine goesL_ (some 44) rfl rfl Try.func69 (by kernel_rfl) rfl #[.int .i64 (wrap64 (t225)), .int .i64 4] rfl aa ?_; (with_reducible refine (fairwayref1_Fixed.calls kj1 (wrap64 (t225)) 4 t226 _ A17.out).mono ?_); rintro e w29 ⟨rfl, hb⟩; refine ⟨_, rfl, ?_⟩; replace HO222 := Aside0.mk (Kd.R_below (rk HO222.out) hb); replace BK217 := Aside0.mk (blk_below (g := gb217) (o := .cells #[.int .i64 a0_0, .int .i64 a0_1, .string a0_2, .string a0_3, .int .i64 a0_4, .bool a0_5] 25 (0, 0)) (bk BK217.out) hb); replace HB := Aside0.mk (below_step bo hb); (try clear hb); (try clear hb2); (try clear hk); (try clear hi)))
           go_ret
           exact ⟨er, bo⟩
          ·rw [if_neg c19] at H
           exact absurd H (by simp)
         ·rw [if_neg c18] at H
          exact absurd H (by simp)
        ·rw [if_neg c15] at H
         exact absurd H (by simp)
       ·rw [if_neg c13] at H
        exact absurd H (by simp)
      ·rw [if_neg c12] at H
       exact absurd H (by simp)
     ·rw [if_neg c11] at H
      exact absurd H (by simp)
    ·rw [if_neg c9] at H
     exact absurd H (by simp)
   ·rw [if_neg c8] at H
    exact absurd H (by simp)

end Go.Proofs.Ytmabdfdmccbfnaa.P

-- written by a program of the proving session, out of the translation; Lean checks it
namespace Go.Proofs.Ytmabdfdmccbfnaa.P
open Go.RowKit Go.Proofs.Ytmabdfdmccbfnaa.Sq Go.Proofs.YtmabdfdmccbfnaaW.PrintWords Go.Proofs.YtmabdfdmccbfnaaW.PrintLast Go.Proofs.YtmabdfdmccbfnaaW.PrintMore
attribute [local go_sem] max2_int min2_int max_two min_two max_three min_three max_four min_four   -- for this text's walks alone
set_option linter.unusedVariables false
set_option linter.unusedSimpArgs false

/-! ### fairwayref10_Marks: function 56 -/
def fairwayref10_Marks.l0 : Nat → List (S77) → Int → Int → Int → List (S25) → Option ((List (S77)))
 | 0, _, _, _, _, _ => none
 | k + 1, x3, x4, x5, x556000, x556001 => if x5 < (x556001.length : Int) then (if (Int.tmod x5 4) = 0 then (if 0 ≤ x5 then (if x3.length < 8796093022208 then ((fairwayref10_Bytes.f k ((rd_T25 x556001 x5).f0) ((rd_T25 x556001 x5).f1) ((rd_T25 x556001 x5).f2) ((rd_T25 x556001 x5).f3) ((rd_T25 x556001 x5).f4) ((rd_T25 x556001 x5).f5)).bind fun t561 => (fairwayref10_Marks.l0 k (x3 ++ [(⟨(rd_T25 x556001 x5).f0, x4⟩ : S77)]) (wrap64 (x4 + (t561.size : Int))) (wrap64 (x5 + 1)) x556000 x556001)) else (none)) else (none)) else (if 0 ≤ x5 then ((fairwayref10_Bytes.f k ((rd_T25 x556001 x5).f0) ((rd_T25 x556001 x5).f1) ((rd_T25 x556001 x5).f2) ((rd_T25 x556001 x5).f3) ((rd_T25 x556001 x5).f4) ((rd_T25 x556001 x5).f5)).bind fun t563 => (fairwayref10_Marks.l0 k x3 (wrap64 (x4 + (t563.size : Int))) (wrap64 (x5 + 1)) x556000 x556001)) else (none))) else (some x3)
def fairwayref10_Marks.f (k : Nat) (a0_0 : Int) (l0_1 : List (S25)) : Option ((List (S77))) := fairwayref10_Marks.l0 k ([] : List (S77)) 0 0 a0_0 l0_1
theorem fairwayref10_Marks.mono_l : ∀ k, (∀ y0 y1 y2 y3 y4, LeO (fairwayref10_Marks.l0 k y0 y1 y2 y3 y4) (fairwayref10_Marks.l0 (k + 1) y0 y1 y2 y3 y4))
 | 0 => fun _ _ _ _ _ r h => by simp [fairwayref10_Marks.l0] at h
 | k + 1 => by
  have ih0 := fairwayref10_Marks.mono_l k
  ·intro y0 y1 y2 y3 y4
   unfold fairwayref10_Marks.l0
   repeat' first
   | (with_reducible exact ih0 _ _ _ _ _)
   | (with_reducible exact fairwayref10_Bytes.mono _ _ _ _ _ _ _)
   | (with_reducible exact LeO.refl _)
   | (with_reducible exact LeO.none _)
   | (with_reducible refine LeO.ite ?_ ?_)
   | (with_reducible refine LeO.bind ?_ (fun _ => ?_))
   | exact ih0 _ _ _ _ _
   | exact fairwayref10_Bytes.mono _ _ _ _ _ _ _
   | exact LeO.none _
   | refine LeO.ite ?_ ?_
   | refine LeO.bind ?_ (fun _ => ?_)
theorem fairwayref10_Marks.mono : ∀ a0 a1 k, LeO (fairwayref10_Marks.f k a0 a1) (fairwayref10_Marks.f (k + 1) a0 a1) := by
 intro a0 a1 k
 have ih0 := fairwayref10_Marks.mono_l k
 unfold fairwayref10_Marks.f
 repeat' first
  | (with_reducible exact ih0 _ _ _ _ _)
  | (with_reducible exact fairwayref10_Bytes.mono _ _ _ _ _ _ _)
  | (with_reducible exact LeO.refl _)
  | (with_reducible exact LeO.none _)
  | (with_reducible refine LeO.ite ?_ ?_)
  | (with_reducible refine LeO.bind ?_ (fun _ => ?_))
  | exact ih0 _ _ _ _ _
  | exact fairwayref10_Bytes.mono _ _ _ _ _ _ _
  | exact LeO.none _
  | refine LeO.ite ?_ ?_
  | refine LeO.bind ?_ (fun _ => ?_)
set_option maxHeartbeats 8000000 in
set_option maxRecDepth 100000 in
theorem fairwayref10_Marks.calls (k : Nat) (a0_0 : Int) (A0_1 : Option Addr) (c0_1 : Nat) (l0_1 : List (S25)) (r : List (S77)) (w : World) (hr0_1 : Kd.C k25 w A0_1 l0_1.length l0_1) (hc0_1 : l0_1.length ≤ c0_1) (h : fairwayref10_Marks.f k a0_0 l0_1 = some r) :
 Calls Try.prog 56 #[.agg #[.int .i64 a0_0, .slice A0_1 l0_1.length c0_1]] w fun e w' => ∃ v0_ : Value, e = .returned (v0_) ∧ Kd.R k77 77 w' w.heap.size (fun _ => True) v0_ r ∧ Below w.heap.size w w' := by
 have hu53 := Try.underlying53
 have hu77 := Try.underlying77
 have hu25 := Try.underlying25
 have HR0_1 := Aside0.mk hr0_1
 have HC0_1 := Aside0.mk hc0_1
 clear hr0_1 hc0_1
 have HB := Aside0.mk (Below.refl w.heap.size w)
 have H : (fairwayref10_Marks.l0 k ([] : List (S77)) 0 0 a0_0 l0_1) = some r := h
 clear h
 have H' := Aside0.mk H
 clear H
 go_enter Try.func56, Try.ntmps56
 go_wp2_with (first | ((with_reducible refine gate_dst (N := 1) rfl ?_); refine box_event ?hg (N := 1) ?hd (cs := #[.int .i64 a0_0, .slice A0_1 l0_1.length c0_1]) (t := 53) ?hr ?_; (case hd => rfl); (case hg => rfl); (case hr => first | (go_simp; done) | (go_simp; rfl)); intro gb555 hg w2 hbox hb; have n0_ := Aside0.mk (below_step bo hb); have n1_ := Aside0.mk (hbox); have n2_ := Aside0.mk ((by rw [hg]; exact (below_size bo) : w.heap.size ≤ gb555)); have n3_ := Aside0.mk ((by rw [hg]; exact (below_size bo) : w.heap.size ≤ gb555)); clear HB; have HB := n0_; have BK555 := n1_; have GW555 := n2_; have GE555 := n3_; clear n0_ n1_ n2_ n3_; clear hb hbox hg))
 go_loopg [3, 4, 5] k (fun kq v3 v4 v5 w' => ∃ (x3_1 : List (S77)) (x4_1 : Int) (x5_1 : Int), v4 = .int .i64 x4_1 ∧ v5 = .int .i64 x5_1 ∧ Aside0 (fairwayref10_Marks.l0 kq x3_1 x4_1 x5_1 a0_0 l0_1 = some r) ∧ Aside0 (kq ≤ k) ∧ Aside0 (Kd.R k77 77 w' w.heap.size (fun _ => True) v3 x3_1) ∧ Aside0 (w'.heap[gb555]? = some (.cells #[.int .i64 a0_0, (.slice A0_1 l0_1.length c0_1)] 53 (0, 0))) ∧ Aside0 (Below w.heap.size w w'))
 case atStart => exact ⟨(([] : List (S77))), (0), (0), ap, ap, H', ⟨Nat.le_refl _⟩, ⟨by first | exact Kd.R_nil _ _ _ _ _ | exact Kd.N_nil _ _ _ _ _ | exact Kd.V_nil _ _ _ _ _ | exact Kd.Q_nil _ _ _ _ _ | exact Kd.S_nil _ _ _ _ _⟩, ⟨by (with_reducible repeat (first | refine blk_drewN ?_ _ | refine blk_drew ?_ | refine blk_alloc ?_ _)); exact BK555.out⟩, ⟨bo⟩⟩
 case round =>
  clear H'
  try clear p2
  obtain ⟨x3_1, x4_1, x5_1, rfl, rfl, HA, HK1, HO_3, BK555, HB⟩ := hrel
  cases gk with
  | zero => exact absurd HA.out (by simp [fairwayref10_Marks.l0])
  | succ k1 =>
   have H := HA.out
   clear HA
   simp only [fairwayref10_Marks.l0] at H
   by_cases c3 : x5_1 < (l0_1.length : Int)
   ·rw [if_pos c3] at H
    have c3b0 : decide (x5_1 < (l0_1.length : Int)) = true := decide_eq_true c3
    clear c3
    by_cases c4 : (Int.tmod x5_1 4) = 0
    ·rw [if_pos c4] at H
     have c4b0 : ((Int.tmod x5_1 4) == 0) = true := beq_iff_eq.mpr c4
     have c4b1 : ((Int.tmod x5_1 4) != 0) = false := bne_eq_false_iff_eq.mpr c4
     clear c4
     by_cases c5 : 0 ≤ x5_1
     ·rw [if_pos c5] at H
      have c5b0 : decide (0 ≤ x5_1) = true := decide_eq_true c5
      clear c5
      by_cases c6 : x3_1.length < 8796093022208
      ·rw [if_pos c6] at H
       have LMc6 := Aside0.mk c6
       clear c6
       obtain ⟨y557, hy557⟩ : ∃ y_ : List (S77), y_ = (x3_1 ++ [(⟨(rd_T25 l0_1 x5_1).f0, x4_1⟩ : S77)]) := ⟨_, rfl⟩
       replace H : ((fairwayref10_Bytes.f k1 ((rd_T25 l0_1 x5_1).f0) ((rd_T25 l0_1 x5_1).f1) ((rd_T25 l0_1 x5_1).f2) ((rd_T25 l0_1 x5_1).f3) ((rd_T25 l0_1 x5_1).f4) ((rd_T25 l0_1 x5_1).f5)).bind fun t561 => (fairwayref10_Marks.l0 k1 y557 (wrap64 (x4_1 + (t561.size : Int))) (wrap64 (x5_1 + 1)) a0_0 l0_1)) = some r := by first | (rw [hy557]; with_reducible exact H) | (have H2_ := (Option.bind_some _ _).symm.trans H; rw [hy557]; with_reducible exact H2_) | (have H2_ := (Option.bind_some _ _).symm.trans H; with_reducible exact H2_) | with_reducible exact H | (rw [hy557]; exact H) | exact H
       have Ny557 := Aside0.mk hy557
       clear hy557
       replace H := Option.bind_eq_some_iff.mp H
       obtain ⟨t561, A70, H⟩ := H
       replace H : (fairwayref10_Marks.l0 k1 y557 (wrap64 (x4_1 + (t561.size : Int))) (wrap64 (x5_1 + 1)) a0_0 l0_1) = some r := H
       have A7 := Aside0.mk A70
       clear A70
       have H' := Aside0.mk H
       clear H
       have hcz8_0 : wr.cell? ⟨gb555, 0, none⟩ = some (.int .i64 a0_0) := (blk_cell BK555.out 0).trans rfl
       have hcz8_1 : wr.cell? ⟨gb555, 1, none⟩ = some (.slice A0_1 l0_1.length c0_1) := (blk_cell BK555.out 1).trans rfl
       have hfz8_0 := blk_frozen BK555.out 0
       have hfz8_1 := blk_frozen BK555.out 1
       have p556 : 0 ≤ (x5_1 : Int) := od
       have q556 : x5_1 < (l0_1.length : Int) := od
       obtain ⟨ad556, e556, hx556_0, hx556_1, hx556_2, hx556_3, hx556_4, hx556_5⟩ := at_T25 HR0_1.out x5_1 p556 q556
       cases e556
       replace hx556_0 := cx HB.out hx556_0
       replace hx556_1 := cx HB.out hx556_1
       replace hx556_2 := cx HB.out hx556_2
       replace hx556_3 := cx HB.out hx556_3
       replace hx556_4 := cx HB.out hx556_4
       replace hx556_5 := cx HB.out hx556_5
       replace p556 := eq_true p556
       replace q556 := eq_true q556
       go_wp2_with (first | ((with_reducible refine gate_builtin (b := .append) (xs := #[.tmp 16, .tmp 25]) rfl ?_); at_builtin; refine Kd.R_append k77 (w0 := w) w.heap.size rfl (.tmp 16) (.tmp 25) 75 77 (.agg #[(.int .i64 0), (.int .i64 0)]) 16 rfl Try.underlying75 info77 rfl (by decide) (by omega) u3 x3_1 (⟨(rd_T25 l0_1 x5_1).f0, x4_1⟩ : S77) [.int .i64 ((rd_T25 l0_1 x5_1).f0), .int .i64 x4_1] (fun _ => True) (fun _ => False) rfl rfl ?aP (fun _ hk => hk.elim) ?aF ?aO ?aB ?aS ?aL ?_; (case aP => exact k77_mkM _ _ _ (⟨(rd_T25 l0_1 x5_1).f0, x4_1⟩ : S77)); (case aB => exact bo); (case aF => exact (fun _ _ => trivial)); (case aO => exact (rk HO_3.out)); (case aS => exact (below_size bo)); (case aL => have := LMc6.out; omega); intro v558 w9 ho hb hg hat; rw [← Ny557.out] at ho; have n0_ := Aside0.mk (blk_grown (g := gb555) (o := .cells #[.int .i64 a0_0, .slice (some ad556) l0_1.length c0_1] 53 (0, 0)) (bk BK555.out) hg (Kd.R_ne HO_3.out BK555.out (by decide))); have n1_ := Aside0.mk (hb); have n2_ := Aside0.mk (ho); clear BK555; clear HB; clear HO_3; have BK555 := n0_; have HB := n1_; have HO559 := n2_; clear n0_ n1_ n2_; clear ho hb hg hat; obtain ⟨hcz10_0, hcz10_1⟩ := cl2 BK555.out; obtain ⟨hfz10_0, hfz10_1⟩ := fz2 BK555.out; have p560 : 0 ≤ (x5_1 : Int) := od; have q560 : x5_1 < (l0_1.length : Int) := od; obtain ⟨ad560, e560, hx560_0, hx560_1, hx560_2, hx560_3, hx560_4, hx560_5⟩ := at_T25 HR0_1.out x5_1 p560 q560; obtain rfl : ad556 = ad560 := (by injection e560); replace hx560_0 := cx HB.out hx560_0; replace hx560_1 := cx HB.out hx560_1; replace hx560_2 := cx HB.out hx560_2; replace hx560_3 := cx HB.out hx560_3; replace hx560_4 := cx HB.out hx560_4; replace hx560_5 := cx HB.out hx560_5; replace p560 := eq_true p560; replace q560 := eq_true q560) | ((with_reducible refine gate_callee (f := 20) rfl ?_); refine goesL_ (some 33) rfl rfl Try.func20 (by kernel_rfl) rfl #[.agg #[.int .i64 ((rd_T25 l0_1 x5_1).f0), .int .i64 ((rd_T25 l0_1 x5_1).f1), .string ((rd_T25 l0_1 x5_1).f2), .string ((rd_T25 l0_1 x5_1).f3), .int .i64 ((rd_T25 l0_1 x5_1).f4), .bool ((rd_T25 l0_1 x5_1).f5)]] rfl aa ?_; (with_reducible refine (fairwayref10_Bytes.calls k1 ((rd_T25 l0_1 x5_1).f0) ((rd_T25 l0_1 x5_1).f1) ((rd_T25 l0_1 x5_1).f2) ((rd_T25 l0_1 x5_1).f3) ((rd_T25 l0_1 x5_1).f4) ((rd_T25 l0_1 x5_1).f5) t561 _ A7.out).mono ?_); rintro e w11 ⟨rfl, hb⟩; refine ⟨_, rfl, ?_⟩; replace HO559 := Aside0.mk (Kd.R_below (rk HO559.out) hb); replace BK555 := Aside0.mk (blk_below (g := gb555) (o := .cells #[.int .i64 a0_0, .slice (some ad556) l0_1.length c0_1] 53 (0, 0)) (bk BK555.out) hb); replace HB := Aside0.mk (below_step bo hb); (try clear hb); (try clear hb2); (try clear hk); (try clear hi)))
       go_roundg k1
       case measure => have := HK1.out; omega
       case rel => exact ⟨(y557), (wrap64 (x4_1 + (t561.size : Int))), (wrap64 (x5_1 + 1)), ap, ap, H', ⟨by have := HK1.out; omega⟩, ⟨by (with_reducible repeat (first | apply Kd.R_alloc | apply Kd.R_drewN | apply Kd.R_drew)); exact HO559.out⟩, ⟨by (with_reducible repeat (first | refine blk_drewN ?_ _ | refine blk_drew ?_ | refine blk_alloc ?_ _)); exact BK555.out⟩, ⟨bo⟩⟩
      ·rw [if_neg c6] at H
       exact absurd H (by simp)
     ·rw [if_neg c5] at H
      exact absurd H (by simp)
    ·rw [if_neg c4] at H
     have c4b0 : ((Int.tmod x5_1 4) == 0) = false := beq_eq_false_iff_ne.mpr c4
     have c4b1 : ((Int.tmod x5_1 4) != 0) = true := bne_iff_ne.mpr c4
     by_cases c12 : 0 ≤ x5_1
     ·rw [if_pos c12] at H
      have c12b0 : decide (0 ≤ x5_1) = true := decide_eq_true c12
      clear c12
      replace H := Option.bind_eq_some_iff.mp H
      obtain ⟨t563, A130, H⟩ := H
      replace H : (fairwayref10_Marks.l0 k1 x3_1 (wrap64 (x4_1 + (t563.size : Int))) (wrap64 (x5_1 + 1)) a0_0 l0_1) = some r := H
      have A13 := Aside0.mk A130
      clear A130
      have H' := Aside0.mk H
      clear H
      have hcz14_0 : wr.cell? ⟨gb555, 0, none⟩ = some (.int .i64 a0_0) := (blk_cell BK555.out 0).trans rfl
      have hcz14_1 : wr.cell? ⟨gb555, 1, none⟩ = some (.slice A0_1 l0_1.length c0_1) := (blk_cell BK555.out 1).trans rfl
      have hfz14_0 := blk_frozen BK555.out 0
      have hfz14_1 := blk_frozen BK555.out 1
      have p562 : 0 ≤ (x5_1 : Int) := od
      have q562 : x5_1 < (l0_1.length : Int) := od
      obtain ⟨ad562, e562, hx562_0, hx562_1, hx562_2, hx562_3, hx562_4, hx562_5⟩ := at_T25 HR0_1.out x5_1 p562 q562
      cases e562
      replace hx562_0 := cx HB.out hx562_0
      replace hx562_1 := cx HB.out hx562_1
      replace hx562_2 := cx HB.out hx562_2
      replace hx562_3 := cx HB.out hx562_3
      replace hx562_4 := cx HB.out hx562_4
      replace hx562_5 := cx HB.out hx562_5
      replace p562 := eq_true p562
      replace q562 := eq_true q562
      go_wp2_with (first | ((with_reducible refine gate_callee (f := 20) rfl ?_); refine goesL_ (some 33) rfl rfl Try.func20 (by kernel_rfl) rfl #[.agg #[.int .i64 ((rd_T25 l0_1 x5_1).f0), .int .i64 ((rd_T25 l0_1 x5_1).f1), .string ((rd_T25 l0_1 x5_1).f2), .string ((rd_T25 l0_1 x5_1).f3), .int .i64 ((rd_T25 l0_1 x5_1).f4), .bool ((rd_T25 l0_1 x5_1).f5)]] rfl aa ?_; (with_reducible refine (fairwayref10_Bytes.calls k1 ((rd_T25 l0_1 x5_1).f0) ((rd_T25 l0_1 x5_1).f1) ((rd_T25 l0_1 x5_1).f2) ((rd_T25 l0_1 x5_1).f3) ((rd_T25 l0_1 x5_1).f4) ((rd_T25 l0_1 x5_1).f5) t563 _ A13.out).mono ?_); rintro e w15 ⟨rfl, hb⟩; refine ⟨_, rfl, ?_⟩; replace HO_3 := Aside0.mk (Kd.R_below (rk HO_3.out) hb); replace BK555 := Aside0.mk (blk_below (g := gb555) (o := .cells #[.int .i64 a0_0, .slice (some ad562) l0_1.length c0_1] 53 (0, 0)) (bk BK555.out) hb); replace HB := Aside0.mk (below_step bo hb); (try clear hb); (try clear hb2); (try clear hk); (try clear hi)))
      go_roundg k1
      case measure => have := HK1.out; omega
      case rel => exact ⟨(x3_1), (wrap64 (x4_1 + (t563.size : Int))), (wrap64 (x5_1 + 1)), ap, ap, H', ⟨by have := HK1.out; omega⟩, ⟨by (with_reducible repeat (first | apply Kd.R_alloc | apply Kd.R_drewN | apply Kd.R_drew)); exact HO_3.out⟩, ⟨by (with_reducible repeat (first | refine blk_drewN ?_ _ | refine blk_drew ?_ | refine blk_alloc ?_ _)); exact BK555.out⟩, ⟨bo⟩⟩
     ·rw [if_neg c12] at H
      exact absurd H (by simp)
   ·rw [if_neg c3] at H
    have c3b0 : decide (x5_1 < (l0_1.length : Int)) = false := decide_eq_false c3
    clear c3
    obtain rfl := Option.some.inj H
    have hcz16_0 : wr.cell? ⟨gb555, 0, none⟩ = some (.int .i64 a0_0) := (blk_cell BK555.out 0).trans rfl
    have hcz16_1 : wr.cell? ⟨gb555, 1, none⟩ = some (.slice A0_1 l0_1.length c0_1) := (blk_cell BK555.out 1).trans rfl
    have hfz16_0 := blk_frozen BK555.out 0
    have hfz16_1 := blk_frozen BK555.out 1
    go_wp2
    go_ret
    exact ⟨_, er, by (with_reducible repeat (first | apply Kd.R_alloc | apply Kd.R_drewN | apply Kd.R_drew)); exact HO_3.out, bo⟩

end Go.Proofs.Ytmabdfdmccbfnaa.P

-- written by a program of the proving session, out of the translation; Lean checks it
namespace Go.Proofs.Ytmabdfdmccbfnaa.P
open Go.RowKit Go.Proofs.Ytmabdfdmccbfnaa.Sq Go.Proofs.YtmabdfdmccbfnaaW.PrintWords Go.Proofs.YtmabdfdmccbfnaaW.PrintLast Go.Proofs.YtmabdfdmccbfnaaW.PrintMore
attribute [local go_sem] max2_int min2_int max_two min_two max_three min_three max_four min_four   -- for this text's walks alone
set_option linter.unusedVariables false
set_option linter.unusedSimpArgs false

attribute [local go_sem high] eqA77
/-! ### fairwayref0_EqMarks: function 57 -/
def fairwayref0_EqMarks.l0 : Nat → List (S77) → List (S77) → Int → Option (Bool)
 | 0, _, _, _ => none
 | k + 1, x0, x1, x5 => if x5 < (x0.length : Int) then (if 0 ≤ x5 then (if x5 < (x1.length : Int) then (if (!(((rd_T77 x0 x5).f0) == ((rd_T77 x1 x5).f0)) || (!(((rd_T77 x0 x5).f1) == ((rd_T77 x1 x5).f1)))) = true then (some false) else (fairwayref0_EqMarks.l0 k x0 x1 (wrap64 (x5 + 1)))) else (none)) else (none)) else (some true)
def fairwayref0_EqMarks.f (k : Nat) (l0 : List (S77)) (l1 : List (S77)) : Option (Bool) := if (l0.length : Int) = (l1.length : Int) then (fairwayref0_EqMarks.l0 k l0 l1 0) else (some false)
theorem fairwayref0_EqMarks.mono_l : ∀ k, (∀ y0 y1 y2, LeO (fairwayref0_EqMarks.l0 k y0 y1 y2) (fairwayref0_EqMarks.l0 (k + 1) y0 y1 y2))
 | 0 => fun _ _ _ r h => by simp [fairwayref0_EqMarks.l0] at h
 | k + 1 => by
  have ih0 := fairwayref0_EqMarks.mono_l k
  ·intro y0 y1 y2
   unfold fairwayref0_EqMarks.l0
   repeat' first
   | (with_reducible exact ih0 _ _ _)
   | (with_reducible exact LeO.refl _)
   | (with_reducible exact LeO.none _)
   | (with_reducible refine LeO.ite ?_ ?_)
   | (with_reducible refine LeO.bind ?_ (fun _ => ?_))
   | exact ih0 _ _ _
   | exact LeO.none _
   | refine LeO.ite ?_ ?_
   | refine LeO.bind ?_ (fun _ => ?_)
theorem fairwayref0_EqMarks.mono : ∀ a0 a1 k, LeO (fairwayref0_EqMarks.f k a0 a1) (fairwayref0_EqMarks.f (k + 1) a0 a1) := by
 intro a0 a1 k
 have ih0 := fairwayref0_EqMarks.mono_l k
 unfold fairwayref0_EqMarks.f
 repeat' first
  | (with_reducible exact ih0 _ _ _)
  | (with_reducible exact LeO.refl _)
  | (with_reducible exact LeO.none _)
  | (with_reducible refine LeO.ite ?_ ?_)
  | (with_reducible refine LeO.bind ?_ (fun _ => ?_))
  | exact ih0 _ _ _
  | exact LeO.none _
  | refine LeO.ite ?_ ?_
  | refine LeO.bind ?_ (fun _ => ?_)
set_option maxHeartbeats 8000000 in
set_option maxRecDepth 100000 in
theorem fairwayref0_EqMarks.calls (k : Nat) (A0 : Option Addr) (c0 : Nat) (l0 : List (S77)) (A1 : Option Addr) (c1 : Nat) (l1 : List (S77)) (r : Bool) (w : World) (hr0 : Kd.C k77 w A0 l0.length l0) (hc0 : l0.length ≤ c0) (hr1 : Kd.C k77 w A1 l1.length l1) (hc1 : l1.length ≤ c1) (h : fairwayref0_EqMarks.f k l0 l1 = some r) :
 Calls Try.prog 57 #[.slice A0 l0.length c0, .slice A1 l1.length c1] w fun e w' => e = .returned (.bool r) ∧ Drawn0 w w' := by
 have hu77 := Try.underlying77
 have HR0 := Aside0.mk hr0
 have HC0 := Aside0.mk hc0
 clear hr0 hc0
 have HR1 := Aside0.mk hr1
 have HC1 := Aside0.mk hc1
 clear hr1 hc1
 have H : (if (l0.length : Int) = (l1.length : Int) then (fairwayref0_EqMarks.l0 k l0 l1 0) else (some false)) = some r := h
 clear h
 by_cases c3 : (l0.length : Int) = (l1.length : Int)
 ·rw [if_pos c3] at H
  have c3b0 : ((l0.length : Int) == (l1.length : Int)) = true := beq_iff_eq.mpr c3
  have c3b1 : ((l0.length : Int) != (l1.length : Int)) = false := bne_eq_false_iff_eq.mpr c3
  have c3b2 : (l0.length == l1.length) = true := by first | simpa using c3 | (simp at c3 ⊢; omega)
  clear c3
  have H' := Aside0.mk H
  clear H
  go_enter Try.func57, Try.ntmps57
  go_wp2
  repeat (go_quiet (fail); try go_wp2)
  go_loopg [5] k (fun kq v5 w' => ∃ (x5_1 : Int), v5 = .int .i64 x5_1 ∧ Aside0 (fairwayref0_EqMarks.l0 kq l0 l1 x5_1 = some r) ∧ Aside0 (kq ≤ k) ∧ Drawn0 w w')
  case atStart => exact ⟨(0), ap, H', ⟨Nat.le_refl _⟩, dr⟩
  case round =>
   clear H'
   try clear c1
   try clear p2
   try clear c3
   try clear c3b0
   try clear c3b1
   try clear c3b2
   obtain ⟨x5_1, rfl, HA, HK1, ⟨m1, rfl⟩⟩ := hrel
   cases gk with
   | zero => exact absurd HA.out (by simp [fairwayref0_EqMarks.l0])
   | succ k1 =>
    have H := HA.out
    clear HA
    simp only [fairwayref0_EqMarks.l0] at H
    by_cases c4 : x5_1 < (l0.length : Int)
    ·rw [if_pos c4] at H
     have c4b0 : decide (x5_1 < (l0.length : Int)) = true := decide_eq_true c4
     clear c4
     by_cases c5 : 0 ≤ x5_1
     ·rw [if_pos c5] at H
      have c5b0 : decide (0 ≤ x5_1) = true := decide_eq_true c5
      clear c5
      by_cases c6 : x5_1 < (l1.length : Int)
      ·rw [if_pos c6] at H
       have c6b0 : decide (x5_1 < (l1.length : Int)) = true := decide_eq_true c6
       clear c6
       by_cases c7 : (!(((rd_T77 l0 x5_1).f0) == ((rd_T77 l1 x5_1).f0)) || (!(((rd_T77 l0 x5_1).f1) == ((rd_T77 l1 x5_1).f1)))) = true
       ·rw [if_pos c7] at H
        have c7b0 : (!(((rd_T77 l0 x5_1).f0) == ((rd_T77 l1 x5_1).f0)) || (!(((rd_T77 l0 x5_1).f1) == ((rd_T77 l1 x5_1).f1)))) = true := c7
        clear c7
        obtain rfl := Option.some.inj H
        have p564 : 0 ≤ (x5_1 : Int) := od
        have q564 : x5_1 < (l0.length : Int) := od
        obtain ⟨ad564, e564, hx564_0, hx564_1⟩ := at_T77 HR0.out x5_1 p564 q564
        cases e564
        replace p564 := eq_true p564
        replace q564 := eq_true q564
        have p565 : 0 ≤ (x5_1 : Int) := od
        have q565 : x5_1 < (l1.length : Int) := od
        obtain ⟨ad565, e565, hx565_0, hx565_1⟩ := at_T77 HR1.out x5_1 p565 q565
        cases e565
        replace p565 := eq_true p565
        replace q565 := eq_true q565
        go_wp2
        repeat (go_quiet (fail); try go_wp2)
        go_ret
        exact ⟨ap, dr⟩
       ·rw [if_neg c7] at H
        have c7b0 : (!(((rd_T77 l0 x5_1).f0) == ((rd_T77 l1 x5_1).f0)) || (!(((rd_T77 l0 x5_1).f1) == ((rd_T77 l1 x5_1).f1)))) = false := by simpa using c7
        clear c7
        have H' := Aside0.mk H
        clear H
        have p564 : 0 ≤ (x5_1 : Int) := od
        have q564 : x5_1 < (l0.length : Int) := od
        obtain ⟨ad564, e564, hx564_0, hx564_1⟩ := at_T77 HR0.out x5_1 p564 q564
        cases e564
        replace p564 := eq_true p564
        replace q564 := eq_true q564
        have p565 : 0 ≤ (x5_1 : Int) := od
        have q565 : x5_1 < (l1.length : Int) := od
        obtain ⟨ad565, e565, hx565_0, hx565_1⟩ := at_T77 HR1.out x5_1 p565 q565
        cases e565
        replace p565 := eq_true p565
        replace q565 := eq_true q565
        go_wp2
        repeat (go_quiet (fail); try go_wp2)
        go_roundg k1
        case measure => have := HK1.out; omega
        case rel => exact ⟨(wrap64 (x5_1 + 1)), ap, H', ⟨by have := HK1.out; omega⟩, dr⟩
      ·rw [if_neg c6] at H
       exact absurd H (by simp)
     ·rw [if_neg c5] at H
      exact absurd H (by simp)
    ·rw [if_neg c4] at H
     have c4b0 : decide (x5_1 < (l0.length : Int)) = false := decide_eq_false c4
     clear c4
     obtain rfl := Option.some.inj H
     go_wp2
     repeat (go_quiet (fail); try go_wp2)
     go_ret
     exact ⟨ap, dr⟩
 ·rw [if_neg c3] at H
  have c3b0 : ((l0.length : Int) == (l1.length : Int)) = false := beq_eq_false_iff_ne.mpr c3
  have c3b1 : ((l0.length : Int) != (l1.length : Int)) = true := bne_iff_ne.mpr c3
  have c3b2 : (l0.length == l1.length) = false := by first | simpa using c3 | (simp at c3 ⊢; omega)
  obtain rfl := Option.some.inj H
  go_enter Try.func57, Try.ntmps57
  go_wp2
  repeat (go_quiet (fail); try go_wp2)
  go_ret
  exact ⟨ap, dr⟩

end Go.Proofs.Ytmabdfdmccbfnaa.P

-- written by a program of the proving session, out of the translation; Lean checks it
namespace Go.Proofs.Ytmabdfdmccbfnaa.P
open Go.RowKit Go.Proofs.Ytmabdfdmccbfnaa.Sq Go.Proofs.YtmabdfdmccbfnaaW.PrintWords Go.Proofs.YtmabdfdmccbfnaaW.PrintLast Go.Proofs.YtmabdfdmccbfnaaW.PrintMore
attribute [local go_sem] max2_int min2_int max_two min_two max_three min_three max_four min_four   -- for this text's walks alone
set_option linter.unusedVariables false
set_option linter.unusedSimpArgs false

/-! ### fairwayref0_CopyMarks: function 58 -/
def fairwayref0_CopyMarks.l0 : Nat → List (S77) → List (S77) → Int → Option ((List (S77)))
 | 0, _, _, _ => none
 | k + 1, x0, x3, x4 => if x4 < (x0.length : Int) then (if 0 ≤ x4 then (if x3.length < 8796093022208 then (fairwayref0_CopyMarks.l0 k x0 (x3 ++ [(⟨(rd_T77 x0 x4).f0, (rd_T77 x0 x4).f1⟩ : S77)]) (wrap64 (x4 + 1))) else (none)) else (none)) else (some x3)
def fairwayref0_CopyMarks.f (k : Nat) (l0 : List (S77)) : Option ((List (S77))) := fairwayref0_CopyMarks.l0 k l0 ([] : List (S77)) 0
theorem fairwayref0_CopyMarks.mono_l : ∀ k, (∀ y0 y1 y2, LeO (fairwayref0_CopyMarks.l0 k y0 y1 y2) (fairwayref0_CopyMarks.l0 (k + 1) y0 y1 y2))
 | 0 => fun _ _ _ r h => by simp [fairwayref0_CopyMarks.l0] at h
 | k + 1 => by
  have ih0 := fairwayref0_CopyMarks.mono_l k
  ·intro y0 y1 y2
   unfold fairwayref0_CopyMarks.l0
   repeat' first
   | (with_reducible exact ih0 _ _ _)
   | (with_reducible exact LeO.refl _)
   | (with_reducible exact LeO.none _)
   | (with_reducible refine LeO.ite ?_ ?_)
   | (with_reducible refine LeO.bind ?_ (fun _ => ?_))
   | exact ih0 _ _ _
   | exact LeO.none _
   | refine LeO.ite ?_ ?_
   | refine LeO.bind ?_ (fun _ => ?_)
theorem fairwayref0_CopyMarks.mono : ∀ a0 k, LeO (fairwayref0_CopyMarks.f k a0) (fairwayref0_CopyMarks.f (k + 1) a0) := by
 intro a0 k
 have ih0 := fairwayref0_CopyMarks.mono_l k
 unfold fairwayref0_CopyMarks.f
 repeat' first
  | (with_reducible exact ih0 _ _ _)
  | (with_reducible exact LeO.refl _)
  | (with_reducible exact LeO.none _)
  | (with_reducible refine LeO.ite ?_ ?_)
  | (with_reducible refine LeO.bind ?_ (fun _ => ?_))
  | exact ih0 _ _ _
  | exact LeO.none _
  | refine LeO.ite ?_ ?_
  | refine LeO.bind ?_ (fun _ => ?_)
set_option maxHeartbeats 8000000 in
set_option maxRecDepth 100000 in
theorem fairwayref0_CopyMarks.calls (k : Nat) (A0 : Option Addr) (c0 : Nat) (l0 : List (S77)) (r : List (S77)) (w : World) (hr0 : Kd.C k77 w A0 l0.length l0) (hc0 : l0.length ≤ c0) (h : fairwayref0_CopyMarks.f k l0 = some r) :
 Calls Try.prog 58 #[.slice A0 l0.length c0] w fun e w' => ∃ v0_ : Value, e = .returned (v0_) ∧ Kd.R k77 77 w' w.heap.size (fun _ => True) v0_ r ∧ Below w.heap.size w w' := by
 have hu77 := Try.underlying77
 have HR0 := Aside0.mk hr0
 have HC0 := Aside0.mk hc0
 clear hr0 hc0
 have HB := Aside0.mk (Below.refl w.heap.size w)
 have H : (fairwayref0_CopyMarks.l0 k l0 ([] : List (S77)) 0) = some r := h
 clear h
 have H' := Aside0.mk H
 clear H
 go_enter Try.func58, Try.ntmps58
 go_wp2
 go_loopg [3, 4] k (fun kq v3 v4 w' => ∃ (x3_1 : List (S77)) (x4_1 : Int), v4 = .int .i64 x4_1 ∧ Aside0 (fairwayref0_CopyMarks.l0 kq l0 x3_1 x4_1 = some r) ∧ Aside0 (kq ≤ k) ∧ Aside0 (Kd.R k77 77 w' w.heap.size (fun _ => True) v3 x3_1) ∧ Aside0 (Below w.heap.size w w'))
 case atStart => exact ⟨(([] : List (S77))), (0), ap, H', ⟨Nat.le_refl _⟩, ⟨by first | exact Kd.R_nil _ _ _ _ _ | exact Kd.N_nil _ _ _ _ _ | exact Kd.V_nil _ _ _ _ _ | exact Kd.Q_nil _ _ _ _ _ | exact Kd.S_nil _ _ _ _ _⟩, ⟨bo⟩⟩
 case round =>
  clear H'
  obtain ⟨x3_1, x4_1, rfl, HA, HK1, HO_3, HB⟩ := hrel
  cases gk with
  | zero => exact absurd HA.out (by simp [fairwayref0_CopyMarks.l0])
  | succ k1 =>
   have H := HA.out
   clear HA
   simp only [fairwayref0_CopyMarks.l0] at H
   by_cases c2 : x4_1 < (l0.length : Int)
   ·rw [if_pos c2] at H
    have c2b0 : decide (x4_1 < (l0.length : Int)) = true := decide_eq_true c2
    clear c2
    by_cases c3 : 0 ≤ x4_1
    ·rw [if_pos c3] at H
     have c3b0 : decide (0 ≤ x4_1) = true := decide_eq_true c3
     clear c3
     by_cases c4 : x3_1.length < 8796093022208
     ·rw [if_pos c4] at H
      have LMc4 := Aside0.mk c4
      clear c4
      obtain ⟨y567, hy567⟩ : ∃ y_ : List (S77), y_ = (x3_1 ++ [(⟨(rd_T77 l0 x4_1).f0, (rd_T77 l0 x4_1).f1⟩ : S77)]) := ⟨_, rfl⟩
      replace H : (fairwayref0_CopyMarks.l0 k1 l0 y567 (wrap64 (x4_1 + 1))) = some r := by first | (rw [hy567]; with_reducible exact H) | (have H2_ := (Option.bind_some _ _).symm.trans H; rw [hy567]; with_reducible exact H2_) | (have H2_ := (Option.bind_some _ _).symm.trans H; with_reducible exact H2_) | with_reducible exact H | (rw [hy567]; exact H) | exact H
      have Ny567 := Aside0.mk hy567
      clear hy567
      have H' := Aside0.mk H
      clear H
      have p566 : 0 ≤ (x4_1 : Int) := od
      have q566 : x4_1 < (l0.length : Int) := od
      obtain ⟨ad566, e566, hx566_0, hx566_1⟩ := at_T77 HR0.out x4_1 p566 q566
      cases e566
      replace hx566_0 := cx HB.out hx566_0
      replace hx566_1 := cx HB.out hx566_1
      replace p566 := eq_true p566
      replace q566 := eq_true q566
      go_wp2_with (first | ((with_reducible refine gate_builtin (b := .append) (xs := #[.tmp 11, .tmp 16]) rfl ?_); at_builtin; refine Kd.R_append k77 (w0 := w) w.heap.size rfl (.tmp 11) (.tmp 16) 75 77 (.agg #[(.int .i64 0), (.int .i64 0)]) 16 rfl Try.underlying75 info77 rfl (by decide) (by omega) u3 x3_1 (⟨(rd_T77 l0 x4_1).f0, (rd_T77 l0 x4_1).f1⟩ : S77) [.int .i64 ((rd_T77 l0 x4_1).f0), .int .i64 ((rd_T77 l0 x4_1).f1)] (fun _ => True) (fun _ => False) rfl rfl ?aP (fun _ hk => hk.elim) ?aF ?aO ?aB ?aS ?aL ?_; (case aP => exact k77_mkM _ _ _ (⟨(rd_T77 l0 x4_1).f0, (rd_T77 l0 x4_1).f1⟩ : S77)); (case aB => exact bo); (case aF => exact (fun _ _ => trivial)); (case aO => exact (rk HO_3.out)); (case aS => exact (below_size bo)); (case aL => have := LMc4.out; omega); intro v568 w5 ho hb hg hat; rw [← Ny567.out] at ho; have n0_ := Aside0.mk (hb); have n1_ := Aside0.mk (ho); clear HB; clear HO_3; have HB := n0_; have HO569 := n1_; clear n0_ n1_; clear ho hb hg hat))
      go_roundg k1
      case measure => have := HK1.out; omega
      case rel => exact ⟨(y567), (wrap64 (x4_1 + 1)), ap, H', ⟨by have := HK1.out; omega⟩, ⟨by (with_reducible repeat (first | apply Kd.R_alloc | apply Kd.R_drewN | apply Kd.R_drew)); exact HO569.out⟩, ⟨bo⟩⟩
     ·rw [if_neg c4] at H
      exact absurd H (by simp)
    ·rw [if_neg c3] at H
     exact absurd H (by simp)
   ·rw [if_neg c2] at H
    have c2b0 : decide (x4_1 < (l0.length : Int)) = false := decide_eq_false c2
    clear c2
    obtain rfl := Option.some.inj H
    go_wp2
    go_ret
    exact ⟨_, er, by (with_reducible repeat (first | apply Kd.R_alloc | apply Kd.R_drewN | apply Kd.R_drew)); exact HO_3.out, bo⟩

end Go.Proofs.Ytmabdfdmccbfnaa.P

